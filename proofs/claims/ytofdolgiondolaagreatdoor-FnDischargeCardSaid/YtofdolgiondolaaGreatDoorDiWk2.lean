/- Part of the walks and plain laws behind the claim: it proves helpers, under no condition beyond their own. -/
import Derived.Test.YtofdolgiondolaaGreatDoorDiWk1
set_option linter.unusedVariables false
set_option maxRecDepth 100000
namespace Go.Proofs
open Go.Mr Go.Pu Go.PF Go.RowKit

@[reducible] def p_impl_formula_fits (H0 : GH) (w0 : World) (Ha : GH) (L : List MO) (b2 : Nat) (r : (Bool × (Fo × Fo × Fo))) : Ending → World → Prop :=
 fun e w' => ∃ H' : GH, ∃ v2_0r : Value, ∃ v2_1r : Value, ∃ v2_2r : Value, e = .returned (Value.bool r.1) ∧ (St H0 w0 H' w' (.box b2 87 [v2_0r, v2_1r, v2_2r] :: L) ∧ Inc Ha H') ∧ FAt H' v2_0r r.2.1 ∧ FAt H' v2_1r r.2.2.1 ∧ FAt H' v2_2r r.2.2.2
set_option maxHeartbeats 4000000 in
theorem w_impl_formula_fits_B {rec_impl_formula_fits : Fo → Fo → (Fo × Fo × Fo) → Option (Bool × (Fo × Fo × Fo))} (hrec_impl_formula_fits : ∀ {H0 Ha : GH} {w0 wa : World} {L : List MO} {a2 : Fo × Fo × Fo} {b2 : Nat} {v2_0 : Value} {v2_1 : Value} {v2_2 : Value} (S0 : St H0 w0 Ha wa (.box b2 87 [v2_0, v2_1, v2_2] :: L)) (v0 : Value) (a0 : Fo) (p0 : FAt Ha v0 a0) (v1 : Value) (a1 : Fo) (p1 : FAt Ha v1 a1) (p2_0 : FAt Ha v2_0 a2.1) (p2_1 : FAt Ha v2_1 a2.2.1) (p2_2 : FAt Ha v2_2 a2.2.2) {r : (Bool × (Fo × Fo × Fo))} (hp : rec_impl_formula_fits a0 a1 a2 = some r), Calls Tryz.prog 97 #[v0, v1, Value.pointer (some (⟨b2, 0, none⟩ : Addr))] wa (p_impl_formula_fits H0 w0 Ha L b2 r)) {H0 Ha : GH} {w0 wa : World} {L : List MO} {a2 : Fo × Fo × Fo} {b2 : Nat} {v2_0 : Value} {v2_1 : Value} {v2_2 : Value} (S0 : St H0 w0 Ha wa (.box b2 87 [v2_0, v2_1, v2_2] :: L)) (v0 : Value) (a0 : Fo) (p0 : FAt Ha v0 a0) (v1 : Value) (a1 : Fo) (p1 : FAt Ha v1 a1) (p2_0 : FAt Ha v2_0 a2.1) (p2_1 : FAt Ha v2_1 a2.2.1) (p2_2 : FAt Ha v2_2 a2.2.2) {r : (Bool × (Fo × Fo × Fo))} (hp : PF.impl_formula_fits_B rec_impl_formula_fits a0 a1 a2 = some r) :
  Calls Tryz.prog 97 #[v0, v1, Value.pointer (some (⟨b2, 0, none⟩ : Addr))] wa (p_impl_formula_fits H0 w0 Ha L b2 r) := by
 unfold PF.impl_formula_fits_B at hp
 refine calls_go (N := 94) (args := [v0, v1, Value.pointer (some (⟨b2, 0, none⟩ : Addr))]) Tryz.func97 rfl rfl rfl ?_
 refine FW.seq (FW.region ?_)
 refine FL.v (E.assign (v := Value.bool false) rfl) ?_
 refine FL.nil (FW.seq (FW.block (FW.seq (FW.region ?_))))
 refine FL.v (E.move (v := v0) rfl) ?_
 obtain ⟨y21, hy22, hp⟩ := bnd hp
 obtain ⟨q23, v25, v26, rfl, at24, h27, h28⟩ := FAt.open p0 hy22
 refine FL.v (E.nilCheck rfl) ?_
 refine FL.v (E.fieldAddr tf70_0 rfl) ?_
 refine FL.v (E.load rfl (run_load1 Tryz.isAgg5 (at24.now S0.sl) rfl)) ?_
 refine FL.call rfl rfl rfl (E.call Tryz.call67 (A1 rfl)) (w_impl_isLetter S0.sl y21.op) ?_
 rintro e w29 ⟨rfl, r30⟩
 refine ⟨_, rfl, ?_⟩
 have S31 := S0.call r30
 refine FL.v (E.assign (v := Value.bool (PF.impl_isLetter y21.op)) rfl) ?_
 refine FL.nil ?_
 rcases ifB hp with ⟨c32, hp⟩ | ⟨c32, hp⟩
 ·
  refine FW.condT rfl c32 ?_
  refine FW.seq ?_
  refine FW.draw (fun w' => Run w29.heap.size Ha w29 Ha w') (by kernel_rfl) (by kernel_rfl) (run_drew S31.sl) ?_
  refine FD.val rfl rfl rfl (fun w' hw' => (E.move (v := Value.pointer (some (⟨b2, 0, none⟩ : Addr))) rfl)) ?_
  refine FD.val rfl rfl rfl (fun w' hw' => (E.move (v := Value.pointer (some q23)) rfl)) ?_
  refine FD.val rfl rfl rfl (fun w' hw' => (E.nilCheck rfl)) ?_
  refine FD.val rfl rfl rfl (fun w' hw' => (E.fieldAddr tf70_0 rfl)) ?_
  refine FD.val rfl rfl rfl (fun w' hw' => (E.load rfl (run_load1 Tryz.isAgg5 (at24.now (S31.call hw').sl) rfl))) ?_
  refine FD.val rfl rfl rfl (fun w' hw' => (E.subK rfl rfl)) ?_
  refine FD.val rfl rfl rfl (fun w' hw' => (E.nilCheck rfl)) ?_
  obtain ⟨x34, hx35, hp⟩ := bnd hp
  obtain ⟨j36, v37, hj38, l39, hc40, at41⟩ := fo3_ix p2_0 p2_1 p2_2 hx35
  refine FD.val rfl rfl rfl (fun w' hw' => (E.indexArr (j := j36) (k := 1) (off := j36) Tryz.runUnderlying87 Tryz.sizeOf51 rfl (Eq.trans rfl (congrArg (Value.int .u8) hj38)) l39 (Nat.mul_one _))) ?_
  refine FD.val rfl rfl rfl (fun w' hw' => (E.assign (v := Value.pointer (some (Addr.add ⟨b2, 0, none⟩ j36))) rfl)) ?_
  refine FD.nil ?_
  intro w42 r44
  have S43 := S31.call r44
  refine FW.seq (FW.seq (FW.region ?_))
  refine FL.v (E.move (v := Value.pointer (some (Addr.add ⟨b2, 0, none⟩ j36))) rfl) ?_
  refine FL.v (E.nilCheck rfl) ?_
  refine FL.v (E.load rfl (run_load1 Tryz.isAgg51 (S43.box_now (i := 0) rfl) hc40)) ?_
  refine FL.v (E.eqlN Tryz.runUnderlying51 at41.isNil rfl rfl) ?_
  refine FL.nil ?_
  obtain ⟨q57, hq, hp⟩ := bndR hp
  refine FW.joinE (S := (Fo × Fo × Fo)) (X := Empty) (q := q57) (fun s56 f w => ∃ H : GH, ∃ v59 : Value, ∃ v61 : Value, ∃ v63 : Value, St H0 w0 H w (.box b2 87 [v59, v61, v63] :: L) ∧ Inc Ha H ∧ FAt H v59 s56.1 ∧ FAt H v61 s56.2.1 ∧ FAt H v63 s56.2.2 ∧ f 1 = v1 ∧ f 7 = Value.pointer (some (Addr.add ⟨b2, 0, none⟩ j36))) (fun (_ : Empty) _ _ _ => False) ?_ ?_ ?_
  ·
   clear hp; have hp := hq; clear hq
   rcases ifB hp with ⟨c65, hp⟩ | ⟨c65, hp⟩
   ·
    refine FW.condT rfl c65 ?_
    refine FW.region ?_
    refine FL.v (E.move (v := Value.pointer (some (Addr.add ⟨b2, 0, none⟩ j36))) rfl) ?_
    refine FL.v (E.move (v := v1) rfl) ?_
    refine FL.v (E.nilCheck rfl) ?_
    obtain ⟨u69, u70, u71, he72, f73, f74, f75⟩ := fo3_set p2_0 p2_1 p2_2 p1 hj38 l39
    obtain ⟨w66, run67, S68⟩ := S43.store (P := Tryz.prog) (t := 51) (i := 0) (j := j36) (cs' := [u69, u70, u71]) (l' := (.box b2 87 [u69, u70, u71] :: L)) (v := v1) (c := [v1]) rfl Tryz.sizeOf51 (by obtain ⟨_, rfl⟩ := FAt.ptr p1; rfl) rfl (by intro u hu; rw [List.mem_singleton] at hu; subst hu; exact FAt.one p1) (by have := l39; simp; omega) he72 rfl
    refine FL.act rfl rfl (E.store rfl rfl run67) ?_
    refine FL.nil ?_
    obtain rfl := Option.some.inj hp
    exact ⟨rfl, ⟨_, _, _, _, S68, (Inc.rfl _), f73, f74, f75, rfl, rfl⟩⟩
   ·
    refine FW.condF rfl c65 ?_
    refine FW.skip ?_
    obtain rfl := Option.some.inj hp
    exact ⟨rfl, ⟨_, _, _, _, S43, (Inc.rfl _), p2_0, p2_1, p2_2, rfl, rfl⟩⟩
  ·
   rintro s56 rfl f80 w79 ⟨H76, v59, v61, v63, S77, i78, h60, h62, h64, k81, k82⟩
   replace hp := el_go hp
   refine FW.seq ?_
   refine FW.draw (fun w' => Run w79.heap.size H76 w79 H76 w') (by kernel_rfl) (by kernel_rfl) (run_drew S77.sl) ?_
   refine FD.val rfl rfl rfl (fun w' hw' => (E.move k82)) ?_
   refine FD.val rfl rfl rfl (fun w' hw' => (E.nilCheck rfl)) ?_
   obtain ⟨x84, hx85, hp⟩ := bnd hp
   obtain ⟨v86, hc87, at88⟩ := fo3_at h60 h62 h64 hj38 hx85
   refine FD.val rfl rfl rfl (fun w' hw' => (E.load rfl (run_load1 Tryz.isAgg51 ((S77.call hw').box_now (i := 0) rfl) hc87))) ?_
   obtain ⟨y89, hy90, hp⟩ := bnd hp
   obtain ⟨q91, v93, v94, rfl, at92, h95, h96⟩ := FAt.open at88 hy90
   refine FD.val rfl rfl rfl (fun w' hw' => (E.nilCheck rfl)) ?_
   refine FD.val rfl rfl rfl (fun w' hw' => (E.fieldAddr tf70_3 rfl)) ?_
   refine FD.val rfl rfl rfl (fun w' hw' => (E.load rfl (run_load1 Tryz.isAgg9 (at92.now (S77.call hw').sl) rfl))) ?_
   refine FD.val rfl rfl rfl (fun w' hw' => (E.move k81)) ?_
   obtain ⟨y97, hy98, hp⟩ := bnd hp
   obtain ⟨q99, v101, v102, rfl, at100, h103, h104⟩ := FAt.open p1 hy98
   refine FD.val rfl rfl rfl (fun w' hw' => (E.nilCheck rfl)) ?_
   refine FD.val rfl rfl rfl (fun w' hw' => (E.fieldAddr tf70_3 rfl)) ?_
   refine FD.val rfl rfl rfl (fun w' hw' => (E.load rfl (run_load1 Tryz.isAgg9 ((at100.mono i78).now (S77.call hw').sl) rfl))) ?_
   refine FD.val rfl rfl rfl (fun w' hw' => (E.eqlS rfl rfl)) ?_
   refine FD.val rfl rfl rfl (fun w' hw' => (E.assign (v := Value.bool (y89.text.toList == y97.text.toList)) rfl)) ?_
   refine FD.nil ?_
   intro w105 r107
   have S106 := S77.call r107
   refine FW.ret ?_
   obtain rfl := Option.some.inj hp
   exact ⟨.inr rfl, res1 rfl rfl ⟨_, _, _, _, rfl, ⟨S106, i78⟩, h60, h62, h64⟩⟩
  ·
   intro x58; exact x58.elim
 ·
  refine FW.condF rfl c32 ?_
  refine FW.seq ?_
  refine FW.draw (fun w' => Run w29.heap.size Ha w29 Ha w') (by kernel_rfl) (by kernel_rfl) (run_drew S31.sl) ?_
  refine FD.val rfl rfl rfl (fun w' hw' => (E.move (v := Value.pointer (some q23)) rfl)) ?_
  refine FD.val rfl rfl rfl (fun w' hw' => (E.nilCheck rfl)) ?_
  refine FD.val rfl rfl rfl (fun w' hw' => (E.fieldAddr tf70_0 rfl)) ?_
  refine FD.val rfl rfl rfl (fun w' hw' => (E.load rfl (run_load1 Tryz.isAgg5 (at24.now (S31.call hw').sl) rfl))) ?_
  refine FD.val rfl rfl rfl (fun w' hw' => (E.move (v := v1) rfl)) ?_
  obtain ⟨y109, hy110, hp⟩ := bnd hp
  obtain ⟨q111, v113, v114, rfl, at112, h115, h116⟩ := FAt.open p1 hy110
  refine FD.val rfl rfl rfl (fun w' hw' => (E.nilCheck rfl)) ?_
  refine FD.val rfl rfl rfl (fun w' hw' => (E.fieldAddr tf70_0 rfl)) ?_
  refine FD.val rfl rfl rfl (fun w' hw' => (E.load rfl (run_load1 Tryz.isAgg5 (at112.now (S31.call hw').sl) rfl))) ?_
  refine FD.val rfl rfl rfl (fun w' hw' => (E.neq rfl rfl)) ?_
  refine FD.val rfl rfl rfl (fun w' hw' => (E.assign (v := Value.bool (!(y21.op == y109.op))) rfl)) ?_
  refine FD.nil ?_
  intro w117 r119
  have S118 := S31.call r119
  rcases ifB hp with ⟨c120, hp⟩ | ⟨c120, hp⟩
  ·
   refine FW.condT rfl c120 ?_
   refine FW.seq (FW.region ?_)
   refine FL.v (E.assign (v := Value.bool false) rfl) ?_
   refine FL.nil ?_
   refine FW.ret ?_
   obtain rfl := Option.some.inj hp
   exact ⟨.inr rfl, res1 rfl rfl ⟨_, _, _, _, rfl, ⟨S118, (Inc.rfl _)⟩, p2_0, p2_1, p2_2⟩⟩
  ·
   refine FW.condF rfl c120 ?_
   refine FW.seq (FW.region ?_)
   refine FL.v (E.move (v := Value.pointer (some q23)) rfl) ?_
   refine FL.v (E.nilCheck rfl) ?_
   refine FL.v (E.fieldAddr tf70_1 rfl) ?_
   refine FL.v (E.load rfl (run_load1 Tryz.isAgg51 (at24.now S118.sl) rfl)) ?_
   refine FL.v (E.eqlN Tryz.runUnderlying51 h27.isNil rfl rfl) ?_
   refine FL.v (E.assign (v := Value.bool y21.a.isNil) rfl) ?_
   refine FL.nil ?_
   rcases ifB hp with ⟨c121, hp⟩ | ⟨c121, hp⟩
   ·
    refine FW.condT rfl c121 ?_
    refine FW.seq (FW.region ?_)
    refine FL.v (E.assign (v := Value.bool true) rfl) ?_
    refine FL.nil ?_
    refine FW.ret ?_
    obtain rfl := Option.some.inj hp
    exact ⟨.inr rfl, res1 rfl rfl ⟨_, _, _, _, rfl, ⟨S118, (Inc.rfl _)⟩, p2_0, p2_1, p2_2⟩⟩
   ·
    refine FW.condF rfl c121 ?_
    refine FW.seq (FW.region ?_)
    refine FL.v (E.move (v := Value.pointer (some q23)) rfl) ?_
    refine FL.v (E.nilCheck rfl) ?_
    refine FL.v (E.fieldAddr tf70_2 rfl) ?_
    refine FL.v (E.load rfl (run_load1 Tryz.isAgg51 (at24.now S118.sl) rfl)) ?_
    refine FL.v (E.eqlN Tryz.runUnderlying51 h28.isNil rfl rfl) ?_
    refine FL.v (E.assign (v := Value.bool y21.b.isNil) rfl) ?_
    refine FL.nil ?_
    rcases ifB hp with ⟨c122, hp⟩ | ⟨c122, hp⟩
    ·
     refine FW.condT rfl c122 ?_
     refine FW.seq ?_
     obtain ⟨r33, hr45, hp⟩ := bnd hp
     refine FW.drawB (Sl Ha) (fun f w => ∃ H : GH, ∃ v83 : Value, ∃ v126 : Value, ∃ v128 : Value, St H0 w0 H w (.box b2 87 [v83, v126, v128] :: L) ∧ Inc Ha H ∧ FAt H v83 r33.2.1 ∧ FAt H v126 r33.2.2.1 ∧ FAt H v128 r33.2.2.2 ∧ f 6 = Value.bool r33.1) (by kernel_rfl) S118.sl ?_ ?_
     ·
      intro w123 r124
      have S125 := S118.call r124
      refine FB.t (i := 0) (bs 11 1) rfl (SP.nil S125.sl) rfl (fun w' hw' => (E.move (v := Value.pointer (some q23)) rfl)) ?_
      refine FB.t (i := 1) (bs 11 3) rfl (SP.nil S125.sl) rfl (fun w' hw' => (E.nilCheck rfl)) ?_
      refine FB.t (i := 2) (bs 11 7) rfl (SP.nil S125.sl) rfl (fun w' hw' => (E.fieldAddr tf70_1 rfl)) ?_
      refine FB.t (i := 3) (bs 11 15) rfl (SP.nil S125.sl) rfl (fun w' hw' => (E.load rfl (run_load1 Tryz.isAgg51 (at24.now hw') rfl))) ?_
      refine FB.t (i := 4) (bs 11 31) rfl (SP.nil S125.sl) rfl (fun w' hw' => (E.move (v := Value.pointer (some q111)) rfl)) ?_
      refine FB.t (i := 5) (bs 11 63) rfl (SP.nil S125.sl) rfl (fun w' hw' => (E.nilCheck rfl)) ?_
      refine FB.t (i := 6) (bs 11 127) rfl (SP.nil S125.sl) rfl (fun w' hw' => (E.fieldAddr tf70_1 rfl)) ?_
      refine FB.t (i := 7) (bs 11 255) rfl (SP.nil S125.sl) rfl (fun w' hw' => (E.load rfl (run_load1 Tryz.isAgg51 (at112.now hw') rfl))) ?_
      refine FB.t (i := 8) (bs 11 511) rfl (SP.nil S125.sl) rfl (fun w' hw' => (E.move (v := Value.pointer (some (⟨b2, 0, none⟩ : Addr))) rfl)) ?_
      refine FB.all1 (i := 9) (by kernel_rfl) ?_
      ·
       refine FC.call (l' := (bs 11 1023)) rfl (by kernel_rfl) rfl rfl rfl (E.call Tryz.call97 (A3 rfl rfl rfl)) (hrec_impl_formula_fits (L := (L)) S125 v25 y21.a h27 v113 y109.a h115 (a2 := (a2.1, a2.2.1, a2.2.2)) p2_0 p2_1 p2_2 hr45) ?_
       rintro e w47 ⟨H46, v50, v52, v54, rfl, ⟨S48, i49⟩, h51, h53, h55⟩
       refine ⟨_, rfl, ?_⟩
       have S48 : St H0 w0 H46 w47 (.box b2 87 [v50, v52, v54] :: L) := S48
       refine ⟨(SP.nil (Sl.of_inc i49 S48.sl)), ?_⟩
       refine FB.t (i := 10) (bs 11 2047) rfl (SP.nil (Sl.of_inc i49 S48.sl)) rfl (fun w' hw' => (E.assign (v := Value.bool r33.1) rfl)) ?_
       exact FB.done (by kernel_rfl) ⟨_, _, _, _, S48, i49, h51, h53, h55, rfl⟩
     ·
      rintro f134 w133 ⟨H130, v83, v126, v128, S131, i132, h108, h127, h129, k135⟩
      refine FW.ret ?_
      obtain rfl := Option.some.inj hp
      exact ⟨.inr rfl, res1 rfl k135 ⟨_, _, _, _, rfl, ⟨S131, i132⟩, h108, h127, h129⟩⟩
    ·
     refine FW.condF rfl c122 ?_
     refine FW.skip (FW.seq ?_)
     obtain ⟨r139, hr140, hp⟩ := bnd hp
     obtain ⟨t135_21, hqt135_21, hp⟩ := bnd hp
     refine FW.drawB (Sl Ha) (fun f w => ∃ H : GH, ∃ v163 : Value, ∃ v165 : Value, ∃ v167 : Value, St H0 w0 H w (.box b2 87 [v163, v165, v167] :: L) ∧ Inc Ha H ∧ FAt H v163 t135_21.2.1 ∧ FAt H v165 t135_21.2.2.1 ∧ FAt H v167 t135_21.2.2.2 ∧ f 6 = Value.bool t135_21.1) (by kernel_rfl) S118.sl ?_ ?_
     ·
      intro w136 r137
      have S138 := S118.call r137
      refine FB.t (i := 0) (bs 23 1) rfl (SP.nil S138.sl) rfl (fun w' hw' => (E.move (v := Value.pointer (some q23)) rfl)) ?_
      refine FB.t (i := 1) (bs 23 3) rfl (SP.nil S138.sl) rfl (fun w' hw' => (E.nilCheck rfl)) ?_
      refine FB.t (i := 2) (bs 23 7) rfl (SP.nil S138.sl) rfl (fun w' hw' => (E.fieldAddr tf70_1 rfl)) ?_
      refine FB.t (i := 3) (bs 23 15) rfl (SP.nil S138.sl) rfl (fun w' hw' => (E.load rfl (run_load1 Tryz.isAgg51 (at24.now hw') rfl))) ?_
      refine FB.t (i := 4) (bs 23 31) rfl (SP.nil S138.sl) rfl (fun w' hw' => (E.move (v := Value.pointer (some q111)) rfl)) ?_
      refine FB.t (i := 5) (bs 23 63) rfl (SP.nil S138.sl) rfl (fun w' hw' => (E.nilCheck rfl)) ?_
      refine FB.t (i := 6) (bs 23 127) rfl (SP.nil S138.sl) rfl (fun w' hw' => (E.fieldAddr tf70_1 rfl)) ?_
      refine FB.t (i := 7) (bs 23 255) rfl (SP.nil S138.sl) rfl (fun w' hw' => (E.load rfl (run_load1 Tryz.isAgg51 (at112.now hw') rfl))) ?_
      refine FB.t (i := 8) (bs 23 511) rfl (SP.nil S138.sl) rfl (fun w' hw' => (E.move (v := Value.pointer (some (⟨b2, 0, none⟩ : Addr))) rfl)) ?_
      refine FB.all1 (i := 9) (by kernel_rfl) ?_
      ·
       refine FC.call (l' := (bs 23 1023)) rfl (by kernel_rfl) rfl rfl rfl (E.call Tryz.call97 (A3 rfl rfl rfl)) (hrec_impl_formula_fits (L := (L)) S138 v25 y21.a h27 v113 y109.a h115 (a2 := (a2.1, a2.2.1, a2.2.2)) p2_0 p2_1 p2_2 hr140) ?_
       rintro e w142 ⟨H141, v145, v147, v149, rfl, ⟨S143, i144⟩, h146, h148, h150⟩
       refine ⟨_, rfl, ?_⟩
       have S143 : St H0 w0 H141 w142 (.box b2 87 [v145, v147, v149] :: L) := S143
       refine ⟨(SP.nil (Sl.of_inc i144 S143.sl)), ?_⟩
       refine FB.t (i := 10) (bs 23 2047) rfl (SP.nil (Sl.of_inc i144 S143.sl)) rfl (fun w' hw' => (E.move (v := Value.bool r139.1) rfl)) ?_
       rcases ifB hqt135_21 with ⟨hc135_10, hqt135_21⟩ | ⟨hc135_10, hqt135_21⟩
       ·
        obtain ⟨r151, hr152, hqt135_21⟩ := bnd hqt135_21
        refine FB.t (i := 11) (bs 23 4095) rfl (SP.nil (Sl.of_inc i144 S143.sl)) (wF_yes rfl rfl rfl hc135_10) (fun w' hw' => (E.move (v := Value.pointer (some q23)) rfl)) ?_
        refine FB.t (i := 12) (bs 23 8191) rfl (SP.nil (Sl.of_inc i144 S143.sl)) (wF_yes rfl rfl rfl hc135_10) (fun w' hw' => (E.nilCheck rfl)) ?_
        refine FB.t (i := 13) (bs 23 16383) rfl (SP.nil (Sl.of_inc i144 S143.sl)) (wF_yes rfl rfl rfl hc135_10) (fun w' hw' => (E.fieldAddr tf70_2 rfl)) ?_
        refine FB.t (i := 14) (bs 23 32767) rfl (SP.nil (Sl.of_inc i144 S143.sl)) (wF_yes rfl rfl rfl hc135_10) (fun w' hw' => (E.load rfl (run_load1 Tryz.isAgg51 (at24.now hw') rfl))) ?_
        refine FB.t (i := 15) (bs 23 65535) rfl (SP.nil (Sl.of_inc i144 S143.sl)) (wF_yes rfl rfl rfl hc135_10) (fun w' hw' => (E.move (v := Value.pointer (some q111)) rfl)) ?_
        refine FB.t (i := 16) (bs 23 131071) rfl (SP.nil (Sl.of_inc i144 S143.sl)) (wF_yes rfl rfl rfl hc135_10) (fun w' hw' => (E.nilCheck rfl)) ?_
        refine FB.t (i := 17) (bs 23 262143) rfl (SP.nil (Sl.of_inc i144 S143.sl)) (wF_yes rfl rfl rfl hc135_10) (fun w' hw' => (E.fieldAddr tf70_2 rfl)) ?_
        refine FB.t (i := 18) (bs 23 524287) rfl (SP.nil (Sl.of_inc i144 S143.sl)) (wF_yes rfl rfl rfl hc135_10) (fun w' hw' => (E.load rfl (run_load1 Tryz.isAgg51 (at112.now hw') rfl))) ?_
        refine FB.t (i := 19) (bs 23 1048575) rfl (SP.nil (Sl.of_inc i144 S143.sl)) (wF_yes rfl rfl rfl hc135_10) (fun w' hw' => (E.move (v := Value.pointer (some (⟨b2, 0, none⟩ : Addr))) rfl)) ?_
        refine FB.all1 (i := 20) (by kernel_rfl) ?_
        ·
         refine FC.call (l' := (bs 23 2097151)) rfl (by kernel_rfl) (wF_yes rfl rfl rfl hc135_10) rfl rfl (E.call Tryz.call97 (A3 rfl rfl rfl)) (hrec_impl_formula_fits (L := (L)) S143 v26 y21.b (h28.mono i144) v114 y109.b (h116.mono i144) (a2 := (r139.2.1, r139.2.2.1, r139.2.2.2)) h146 h148 h150 hr152) ?_
         rintro e w154 ⟨H153, v157, v159, v161, rfl, ⟨S155, i156⟩, h158, h160, h162⟩
         refine ⟨_, rfl, ?_⟩
         have S155 : St H0 w0 H153 w154 (.box b2 87 [v157, v159, v161] :: L) := S155
         refine ⟨(SP.nil (Sl.of_inc (i144.tr i156) S155.sl)), ?_⟩
         refine FB.t (i := 21) (bs 23 4194303) rfl (SP.nil (Sl.of_inc (i144.tr i156) S155.sl)) rfl (fun w' hw' => (E.asB (E.pickT rfl hc135_10 rfl) (congrArg Prod.fst (Option.some.inj hqt135_21)))) ?_
         refine FB.t (i := 22) (bs 23 8388607) rfl (SP.nil (Sl.of_inc (i144.tr i156) S155.sl)) rfl (fun w' hw' => (E.assign (v := Value.bool t135_21.1) rfl)) ?_
         exact FB.done (by kernel_rfl) ⟨_, _, _, _, S155, (i144.tr i156), (FAt.cast (congrArg (fun z => z.2.1) (Option.some.inj hqt135_21)) h158), (FAt.cast (congrArg (fun z => z.2.2.1) (Option.some.inj hqt135_21)) h160), (FAt.cast (congrArg (fun z => z.2.2.2) (Option.some.inj hqt135_21)) h162), rfl⟩
       ·
        refine FB.skip (i := 11) (l' := (bs 23 4095)) rfl (by kernel_rfl) (by kernel_rfl) (by kernel_rfl) (by kernel_rfl) (by kernel_rfl) (SP.nil (Sl.of_inc i144 S143.sl)) (wF_no rfl rfl rfl hc135_10) rfl rfl ?_
        refine FB.skip (i := 12) (l' := (bs 23 8191)) rfl (by kernel_rfl) (by kernel_rfl) (by kernel_rfl) (by kernel_rfl) (by kernel_rfl) (SP.nil (Sl.of_inc i144 S143.sl)) (wF_no rfl rfl rfl hc135_10) rfl rfl ?_
        refine FB.skip (i := 13) (l' := (bs 23 16383)) rfl (by kernel_rfl) (by kernel_rfl) (by kernel_rfl) (by kernel_rfl) (by kernel_rfl) (SP.nil (Sl.of_inc i144 S143.sl)) (wF_no rfl rfl rfl hc135_10) rfl rfl ?_
        refine FB.skip (i := 14) (l' := (bs 23 32767)) rfl (by kernel_rfl) (by kernel_rfl) (by kernel_rfl) (by kernel_rfl) (by kernel_rfl) (SP.nil (Sl.of_inc i144 S143.sl)) (wF_no rfl rfl rfl hc135_10) rfl rfl ?_
        refine FB.skip (i := 15) (l' := (bs 23 65535)) rfl (by kernel_rfl) (by kernel_rfl) (by kernel_rfl) (by kernel_rfl) (by kernel_rfl) (SP.nil (Sl.of_inc i144 S143.sl)) (wF_no rfl rfl rfl hc135_10) rfl rfl ?_
        refine FB.skip (i := 16) (l' := (bs 23 131071)) rfl (by kernel_rfl) (by kernel_rfl) (by kernel_rfl) (by kernel_rfl) (by kernel_rfl) (SP.nil (Sl.of_inc i144 S143.sl)) (wF_no rfl rfl rfl hc135_10) rfl rfl ?_
        refine FB.skip (i := 17) (l' := (bs 23 262143)) rfl (by kernel_rfl) (by kernel_rfl) (by kernel_rfl) (by kernel_rfl) (by kernel_rfl) (SP.nil (Sl.of_inc i144 S143.sl)) (wF_no rfl rfl rfl hc135_10) rfl rfl ?_
        refine FB.skip (i := 18) (l' := (bs 23 524287)) rfl (by kernel_rfl) (by kernel_rfl) (by kernel_rfl) (by kernel_rfl) (by kernel_rfl) (SP.nil (Sl.of_inc i144 S143.sl)) (wF_no rfl rfl rfl hc135_10) rfl rfl ?_
        refine FB.skip (i := 19) (l' := (bs 23 1048575)) rfl (by kernel_rfl) (by kernel_rfl) (by kernel_rfl) (by kernel_rfl) (by kernel_rfl) (SP.nil (Sl.of_inc i144 S143.sl)) (wF_no rfl rfl rfl hc135_10) rfl rfl ?_
        refine FB.skip (i := 20) (l' := (bs 23 2097151)) rfl (by kernel_rfl) (by kernel_rfl) (by kernel_rfl) (by kernel_rfl) (by kernel_rfl) (SP.nil (Sl.of_inc i144 S143.sl)) (wF_no rfl rfl rfl hc135_10) rfl rfl ?_
        refine FB.t (i := 21) (bs 23 4194303) rfl (SP.nil (Sl.of_inc i144 S143.sl)) rfl (fun w' hw' => (E.asB (E.pickF rfl hc135_10 rfl) (congrArg Prod.fst (Option.some.inj hqt135_21)))) ?_
        refine FB.t (i := 22) (bs 23 8388607) rfl (SP.nil (Sl.of_inc i144 S143.sl)) rfl (fun w' hw' => (E.assign (v := Value.bool t135_21.1) rfl)) ?_
        exact FB.done (by kernel_rfl) ⟨_, _, _, _, S143, i144, (FAt.cast (congrArg (fun z => z.2.1) (Option.some.inj hqt135_21)) h146), (FAt.cast (congrArg (fun z => z.2.2.1) (Option.some.inj hqt135_21)) h148), (FAt.cast (congrArg (fun z => z.2.2.2) (Option.some.inj hqt135_21)) h150), rfl⟩
     ·
      rintro f173 w172 ⟨H169, v163, v165, v167, S170, i171, h164, h166, h168, k174⟩
      refine FW.ret ?_
      obtain rfl := Option.some.inj hp
      exact ⟨.inr rfl, res1 rfl k174 ⟨_, _, _, _, rfl, ⟨S170, i171⟩, h164, h166, h168⟩⟩
theorem w_impl_formula_fits_F (n : Nat) : ∀ {H0 Ha : GH} {w0 wa : World} {L : List MO} {a2 : Fo × Fo × Fo} {b2 : Nat} {v2_0 : Value} {v2_1 : Value} {v2_2 : Value} (S0 : St H0 w0 Ha wa (.box b2 87 [v2_0, v2_1, v2_2] :: L)) (v0 : Value) (a0 : Fo) (p0 : FAt Ha v0 a0) (v1 : Value) (a1 : Fo) (p1 : FAt Ha v1 a1) (p2_0 : FAt Ha v2_0 a2.1) (p2_1 : FAt Ha v2_1 a2.2.1) (p2_2 : FAt Ha v2_2 a2.2.2) {r : (Bool × (Fo × Fo × Fo))} (hp : PF.impl_formula_fits_F n a0 a1 a2 = some r), Calls Tryz.prog 97 #[v0, v1, Value.pointer (some (⟨b2, 0, none⟩ : Addr))] wa (p_impl_formula_fits H0 w0 Ha L b2 r) := by
 induction n with
 | zero => intros; rename_i hp; exact nomatch hp
 | succ n ih => exact w_impl_formula_fits_B (rec_impl_formula_fits := PF.impl_formula_fits_F n) ih
theorem w_impl_formula_fits {H0 Ha : GH} {w0 wa : World} {L : List MO} {a2 : Fo × Fo × Fo} {b2 : Nat} {v2_0 : Value} {v2_1 : Value} {v2_2 : Value} (S0 : St H0 w0 Ha wa (.box b2 87 [v2_0, v2_1, v2_2] :: L)) (v0 : Value) (a0 : Fo) (p0 : FAt Ha v0 a0) (v1 : Value) (a1 : Fo) (p1 : FAt Ha v1 a1) (p2_0 : FAt Ha v2_0 a2.1) (p2_1 : FAt Ha v2_1 a2.2.1) (p2_2 : FAt Ha v2_2 a2.2.2) {r : (Bool × (Fo × Fo × Fo))} (hp : PF.impl_formula_fits a0 a1 a2 = some r) :
  Calls Tryz.prog 97 #[v0, v1, Value.pointer (some (⟨b2, 0, none⟩ : Addr))] wa (p_impl_formula_fits H0 w0 Ha L b2 r) := w_impl_formula_fits_F deep S0 v0 a0 p0 v1 a1 p1 p2_0 p2_1 p2_2 hp

theorem w_impl_isCase {Ha : GH} {wa : World} (hs : Sl Ha wa) (a0 : Int) (v1 : Value) (a1 : Fo) (p1 : FAt Ha v1 a1) (hT : TabS 0 PF.glob0 Ha) {r : Bool} (hp : (PF.impl_isCase a0 a1) = some r) :
  Calls Tryz.prog 86 #[Value.int .i64 a0, v1] wa (Sc Ha wa (Value.bool r)) := by
 unfold PF.impl_isCase at hp
 have S0 := St.init hs
 refine calls_go (N := 20) (args := [Value.int .i64 a0, v1]) Tryz.func86 rfl rfl rfl ?_
 refine FW.seq (FW.region ?_)
 refine FL.v (E.assign (v := Value.bool false) rfl) ?_
 refine FL.nil (FW.seq (FW.region ?_))
 refine FL.v (E.move (v := Value.int .i64 a0) rfl) ?_
 refine FL.v (E.sub rfl rfl) ?_
 obtain ⟨x21, hx22, hp⟩ := bnd hp
 obtain ⟨j23, hj24, l25, at26⟩ := CAt.ixs (xs := PF.glob0) hT hx22
 refine FL.v (E.indexArr (j := j23) (k := 1) (off := j23) Tryz.runUnderlying85 Tryz.sizeOf9 rfl (Eq.trans rfl (congrArg (Value.int .i64) hj24)) l25 (Nat.mul_one _)) ?_
 refine FL.v (E.load rfl (run_load0 Tryz.isAgg9 (at26.now S0.sl) rfl)) ?_
 obtain ⟨r27, hr28, hp⟩ := bnd hp
 refine FL.call rfl rfl rfl (E.call Tryz.call21 (A1 rfl)) (w_impl_parse S0.sl x21 hr28) ?_
 rintro e w30 ⟨H29, v33, rfl, r32, h34⟩
 refine ⟨_, rfl, ?_⟩
 have S31 := S0.call r32
 refine FL.v (E.move (v := Value.tuple #[v33, Value.bool r27.2]) rfl) ?_
 refine FL.v (E.extract (i := 0) rfl rfl) ?_
 refine FL.v (E.extract (i := 1) rfl rfl) ?_
 refine FL.v (E.assign (v := v33) rfl) ?_
 refine FL.v (E.assign (v := Value.bool r27.2) rfl) ?_
 refine FL.nil (FW.seq (FW.region ?_))
 refine FL.v (E.move (v := v33) rfl) ?_
 refine FL.v (E.move (v := v1) rfl) ?_
 refine FL.v (E.build (B0) (run_build _ 87 #[] #[Value.pointer none, Value.pointer none, Value.pointer none] (by rfl))) ?_
 obtain ⟨b35, w36, run37, S38⟩ := S31.box (P := Tryz.prog) 87 [Value.pointer none, Value.pointer none, Value.pointer none] (v := Value.agg #[Value.pointer none, Value.pointer none, Value.pointer none]) rfl (ones_cons rfl (ones_cons rfl (ones_cons rfl ones_nil)))
 refine FL.v (E.box rfl run37) ?_
 obtain ⟨r39, hr40, hp⟩ := bnd hp
 refine FL.call rfl rfl rfl (E.call Tryz.call97 (A3 rfl rfl rfl)) (w_impl_formula_fits (L := []) S38 v33 r27.1 h34 v1 a1 (p1.mono r32.inc) (a2 := (Fo.nil, Fo.nil, Fo.nil)) FAt.nil FAt.nil FAt.nil hr40) ?_
 rintro e w42 ⟨H41, v45, v47, v49, rfl, ⟨S43, i44⟩, h46, h48, h50⟩
 refine ⟨_, rfl, ?_⟩
 have S43 : St Ha wa H41 w42 [.box b35 87 [v45, v47, v49]] := S43
 refine FL.v (E.assign (v := Value.bool r39.1) rfl) ?_
 refine FL.nil ?_
 refine FW.ret ?_
 obtain rfl := Option.some.inj hp
 exact ⟨.inr rfl, res1 rfl rfl ⟨rfl, S43.back⟩⟩

set_option maxHeartbeats 4000000 in
theorem w_impl_fregeCorrect {Ha : GH} {wa : World} (hs : Sl Ha wa) (v0 : Value) (a0 : List ByteArray) (p0 : RSl Ha eS 1 v0 a0) (v1 : Value) (a1 : List FregeStep) (p1 : RSl Ha eFregeStep 4 v1 a1) (a2 : Int) (hT : TabS 0 PF.glob0 Ha) {r : Bool} (hp : (PF.impl_fregeCorrect a0 a1 a2) = some r) :
  Calls Tryz.prog 66 #[v0, v1, Value.int .i64 a2] wa (Sc Ha wa (Value.bool r)) := by
 unfold PF.impl_fregeCorrect at hp
 have S0 := St.init hs
 refine calls_go (N := 120) (args := [v0, v1, Value.int .i64 a2]) Tryz.func66 rfl rfl rfl ?_
 refine FW.seq (FW.region ?_)
 refine FL.v (E.assign (v := Value.bool false) rfl) ?_
 refine FL.nil (FW.seq (FW.region ?_))
 refine FL.v (E.move (v := v1) rfl) ?_
 refine FL.v (E.move (v := Value.int .i64 a2) rfl) ?_
 obtain ⟨x27, hx28, hp⟩ := bnd hp
 obtain ⟨p21, cs22, pt23, l24, at25, rel26⟩ := p1.at hx28
 obtain rfl := eFregeStep_open rel26
 refine FL.v (E.indexAddr te25 rfl rfl pt23) ?_
 refine FL.v (E.load rfl (run_loadA Tryz.isAgg39 Tryz.sizeOf39 (at25.now S0.sl) rfl)) ?_
 obtain ⟨b29, w30, run31, S32⟩ := S0.alloc (P := Tryz.prog) 39 [Value.string ByteArray.empty, Value.int .i64 0, Value.int .i64 0, Value.int .i64 0] Tryz.zeroValue39 rfl (ones_cons rfl (ones_cons rfl (ones_cons rfl (ones_cons rfl ones_nil))))
 refine FL.v (E.alloc run31) ?_
 obtain ⟨w33, run34, S35⟩ := S32.store0 (P := Tryz.prog) (t := 39) (i := 0) (cs' := [Value.string x27.formula, Value.int .i64 x27.rule, Value.int .i64 x27.a, Value.int .i64 x27.b]) (l' := [.box b29 39 [Value.string x27.formula, Value.int .i64 x27.rule, Value.int .i64 x27.a, Value.int .i64 x27.b]]) (v := Value.agg #[Value.string x27.formula, Value.int .i64 x27.rule, Value.int .i64 x27.a, Value.int .i64 x27.b]) (c := [Value.string x27.formula, Value.int .i64 x27.rule, Value.int .i64 x27.a, Value.int .i64 x27.b]) rfl Tryz.sizeOf39 rfl rfl (ones_cons rfl (ones_cons rfl (ones_cons rfl (ones_cons rfl ones_nil)))) (Nat.le_of_ble_eq_true rfl) rfl rfl
 refine FL.act rfl rfl (E.store rfl rfl run34) ?_
 obtain ⟨H36, S37, i38, at39⟩ := S35.sealBox (i := 0) (l' := []) rfl rfl
 refine FL.nil (FW.seq (FW.region ?_))
 refine FL.v (E.fieldAddr tf39_0 rfl) ?_
 refine FL.v (E.load rfl (run_load1 Tryz.isAgg9 (at39.now S37.sl) rfl)) ?_
 obtain ⟨r40, hr41, hp⟩ := bnd hp
 refine FL.call rfl rfl rfl (E.call Tryz.call21 (A1 rfl)) (w_impl_parse S37.sl x27.formula hr41) ?_
 rintro e w43 ⟨H42, v46, rfl, r45, h47⟩
 refine ⟨_, rfl, ?_⟩
 have S44 := S37.call r45
 refine FL.v (E.move (v := Value.tuple #[v46, Value.bool r40.2]) rfl) ?_
 refine FL.v (E.extract (i := 0) rfl rfl) ?_
 refine FL.v (E.extract (i := 1) rfl rfl) ?_
 refine FL.v (E.assign (v := v46) rfl) ?_
 refine FL.v (E.assign (v := Value.bool r40.2) rfl) ?_
 refine FL.nil (FW.seq (FW.block (FW.seq (FW.region ?_))))
 refine FL.v (E.move (v := Value.bool r40.2) rfl) ?_
 refine FL.v (E.not rfl) ?_
 refine FL.v (E.assign (v := Value.bool (!r40.2)) rfl) ?_
 refine FL.nil ?_
 rcases ifB hp with ⟨c48, hp⟩ | ⟨c48, hp⟩
 ·
  refine FW.condT rfl c48 ?_
  refine FW.seq (FW.region ?_)
  refine FL.v (E.assign (v := Value.bool false) rfl) ?_
  refine FL.nil ?_
  refine FW.ret ?_
  obtain rfl := Option.some.inj hp
  exact ⟨.inr rfl, res1 rfl rfl ⟨rfl, S44.back⟩⟩
 ·
  refine FW.condF rfl c48 ?_
  refine FW.seq (FW.region ?_)
  refine FL.v (E.fieldAddr tf39_1 rfl) ?_
  refine FL.v (E.load rfl (run_load1 Tryz.isAgg3 ((at39.mono r45.inc).now S44.sl) rfl)) ?_
  refine FL.call rfl rfl rfl (E.call Tryz.call20 (A3 rfl rfl rfl)) (w_impl_within S44.sl x27.rule 1 10) ?_
  rintro e w49 ⟨rfl, r50⟩
  refine ⟨_, rfl, ?_⟩
  have S51 := S44.call r50
  refine FL.v (E.assign (v := Value.bool (PF.impl_within x27.rule 1 10)) rfl) ?_
  refine FL.nil ?_
  rcases ifB hp with ⟨c52, hp⟩ | ⟨c52, hp⟩
  ·
   refine FW.condT rfl c52 ?_
   refine FW.seq (FW.region ?_)
   refine FL.v (E.fieldAddr tf39_2 rfl) ?_
   refine FL.v (E.load rfl (run_load1 Tryz.isAgg3 ((at39.mono r45.inc).now S51.sl) rfl)) ?_
   refine FL.v (E.eql rfl rfl) ?_
   refine FL.v (E.move (v := Value.bool (x27.a == 0)) rfl) ?_
   refine FL.cut 4 (fun f w => ∃ H : GH, St Ha wa H w [] ∧ Inc H42 H ∧ f 7 = Value.pointer (some ⟨b29, 0, none⟩) ∧ f 8 = v46 ∧ f 35 = Value.bool (bif (x27.a == 0) then (x27.b == 0) else false)) ?_ ?_
   ·
    rcases bcase (x27.a == 0) with c59 | c59
    ·
     refine FL.val (wF_yes rfl rfl rfl c59) rfl rfl (E.fieldAddr tf39_3 rfl) ?_
     refine FL.val (wF_yes rfl rfl rfl c59) rfl rfl (E.load rfl (run_load1 Tryz.isAgg3 ((at39.mono r45.inc).now S51.sl) rfl)) ?_
     refine FL.val (wF_yes rfl rfl rfl c59) rfl rfl (E.eql rfl rfl) ?_
     refine FL.v (E.pickT rfl c59 rfl) ?_
     exact FL.nil ⟨rfl, _, S51, (Inc.rfl _), rfl, rfl, (congrArg Value.bool (bifT c59).symm)⟩
    ·
     refine FL.skip (wF_no rfl rfl rfl c59) rfl ?_
     refine FL.skip (wF_no rfl rfl rfl c59) rfl ?_
     refine FL.skip (wF_no rfl rfl rfl c59) rfl ?_
     refine FL.v (E.pickF rfl c59 rfl) ?_
     exact FL.nil ⟨rfl, _, S51, (Inc.rfl _), rfl, rfl, (congrArg Value.bool (bifF c59).symm)⟩
   rintro f58 w57 ⟨H54, S55, i56, k60, k61, k62⟩
   refine FL.v (E.move k62) ?_
   obtain ⟨t68, hqt68, hp⟩ := bnd hp
   refine FL.cut 5 (fun f w => ∃ H : GH, St Ha wa H w [] ∧ Inc H54 H ∧ f 41 = Value.bool t68) ?_ ?_
   ·
    clear hp; have hp := hqt68; clear hqt68
    rcases ifB hp with ⟨c74, hp⟩ | ⟨c74, hp⟩
    ·
     refine FL.val (wF_yes rfl rfl rfl c74) rfl rfl (E.fieldAddr tf39_1 k60) ?_
     refine FL.val (wF_yes rfl rfl rfl c74) rfl rfl (E.load rfl (run_load1 Tryz.isAgg3 ((at39.mono (r45.inc.tr i56)).now S55.sl) rfl)) ?_
     refine FL.val (wF_yes rfl rfl rfl c74) rfl rfl (E.move k61) ?_
     obtain ⟨r75, hr76, hp⟩ := bnd hp
     refine FL.call (wF_yes rfl rfl rfl c74) rfl rfl (E.call Tryz.call86 (A2 rfl rfl)) (w_impl_isCase S55.sl x27.rule v46 r40.1 (h47.mono i56) (hT.mono ((i38.tr r45.inc).tr i56)) hr76) ?_
     rintro e w77 ⟨rfl, r78⟩
     refine ⟨_, rfl, ?_⟩
     have S79 := S55.call r78
     obtain rfl := Option.some.inj hp
     refine FL.v (E.pickT rfl c74 rfl) ?_
     exact FL.nil ⟨rfl, _, S79, (Inc.rfl _), rfl⟩
    ·
     refine FL.skip (wF_no rfl rfl rfl c74) rfl ?_
     refine FL.skip (wF_no rfl rfl rfl c74) rfl ?_
     refine FL.skip (wF_no rfl rfl rfl c74) rfl ?_
     refine FL.skip (wF_no rfl rfl rfl c74) rfl ?_
     obtain rfl := Option.some.inj hp
     refine FL.v (E.pickF rfl c74 rfl) ?_
     exact FL.nil ⟨rfl, _, S55, (Inc.rfl _), rfl⟩
   rintro f73 w72 ⟨H69, S70, i71, k80⟩
   refine FL.v (E.assign k80) ?_
   refine FL.nil ?_
   refine FW.ret ?_
   obtain rfl := Option.some.inj hp
   exact ⟨.inr rfl, res1 rfl rfl ⟨rfl, S70.back⟩⟩
  ·
   refine FW.condF rfl c52 ?_
   refine FW.seq (FW.region ?_)
   refine FL.v (E.fieldAddr tf39_1 rfl) ?_
   refine FL.v (E.load rfl (run_load1 Tryz.isAgg3 ((at39.mono r45.inc).now S51.sl) rfl)) ?_
   refine FL.v (E.eql rfl rfl) ?_
   refine FL.v (E.assign (v := Value.bool (x27.rule == 0)) rfl) ?_
   refine FL.nil ?_
   rcases ifB hp with ⟨c81, hp⟩ | ⟨c81, hp⟩
   ·
    refine FW.condT rfl c81 ?_
    refine FW.seq ?_
    refine FW.draw (fun w' => Run w49.heap.size H42 w49 H42 w') (by kernel_rfl) (by kernel_rfl) (run_drew S51.sl) ?_
    refine FD.val rfl rfl rfl (fun w' hw' => (E.fieldAddr tf39_2 rfl)) ?_
    refine FD.val rfl rfl rfl (fun w' hw' => (E.load rfl (run_load1 Tryz.isAgg3 ((at39.mono r45.inc).now (S51.call hw').sl) rfl))) ?_
    refine FD.val rfl rfl rfl (fun w' hw' => (E.move (v := v0) rfl)) ?_
    refine FD.val rfl rfl rfl (fun w' hw' => (E.lenP te24 rfl p0)) ?_
    refine FD.val rfl rfl rfl (fun w' hw' => (E.sub rfl rfl)) ?_
    refine FD.call rfl rfl rfl (fun w' hw' => (E.call Tryz.call20 (A3 rfl rfl rfl))) (fun w' hw' => Calls.cls hw' (w_impl_within (S51.call hw').sl x27.a 0 (wr ((len a0) - 1)))) ?_
    refine FD.val rfl rfl rfl (fun w' hw' => (E.move (v := Value.bool (PF.impl_within x27.a 0 (wr ((len a0) - 1)))) rfl)) ?_
    refine FD.cut 4 (fun f => f 0 = v0 ∧ f 7 = Value.pointer (some ⟨b29, 0, none⟩) ∧ f 56 = Value.bool (bif (PF.impl_within x27.a 0 (wr ((len a0) - 1))) then (x27.b == 0) else false)) ?_ ?_
    ·
     rcases bcase (PF.impl_within x27.a 0 (wr ((len a0) - 1))) with c89 | c89
     ·
      refine FD.val (wF_yes rfl rfl rfl c89) rfl rfl (fun w' hw' => (E.fieldAddr tf39_3 rfl)) ?_
      refine FD.val (wF_yes rfl rfl rfl c89) rfl rfl (fun w' hw' => (E.load rfl (run_load1 Tryz.isAgg3 ((at39.mono r45.inc).now (S51.call hw').sl) rfl))) ?_
      refine FD.val (wF_yes rfl rfl rfl c89) rfl rfl (fun w' hw' => (E.eql rfl rfl)) ?_
      refine FD.val rfl rfl rfl (fun w' hw' => (E.pickT rfl c89 rfl)) ?_
      exact FD.nil ⟨rfl, rfl, (congrArg Value.bool (bifT c89).symm)⟩
     ·
      refine FD.skip (wF_no rfl rfl rfl c89) rfl ?_
      refine FD.skip (wF_no rfl rfl rfl c89) rfl ?_
      refine FD.skip (wF_no rfl rfl rfl c89) rfl ?_
      refine FD.val rfl rfl rfl (fun w' hw' => (E.pickF rfl c89 rfl)) ?_
      exact FD.nil ⟨rfl, rfl, (congrArg Value.bool (bifF c89).symm)⟩
    rintro f88 ⟨k90, k91, k92⟩
    refine FD.val rfl rfl rfl (fun w' hw' => (E.move k92)) ?_
    obtain ⟨t101, hqt101, hp⟩ := bnd hp
    refine FD.cut 9 (fun f => f 66 = Value.bool t101) ?_ ?_
    ·
     clear hp; have hp := hqt101; clear hqt101
     rcases ifB hp with ⟨c107, hp⟩ | ⟨c107, hp⟩
     ·
      refine FD.val (wF_yes rfl rfl rfl c107) rfl rfl (fun w' hw' => (E.move k90)) ?_
      refine FD.val (wF_yes rfl rfl rfl c107) rfl rfl (fun w' hw' => (E.fieldAddr tf39_2 k91)) ?_
      refine FD.val (wF_yes rfl rfl rfl c107) rfl rfl (fun w' hw' => (E.load rfl (run_load1 Tryz.isAgg3 ((at39.mono r45.inc).now (S51.call hw').sl) rfl))) ?_
      obtain ⟨x114, hx115, hp⟩ := bnd hp
      obtain ⟨p108, cs109, pt110, l111, at112, rel113⟩ := p0.at hx115
      obtain rfl := eS_open rel113
      refine FD.val (wF_yes rfl rfl rfl c107) rfl rfl (fun w' hw' => (E.indexAddr te24 rfl rfl pt110)) ?_
      refine FD.val (wF_yes rfl rfl rfl c107) rfl rfl (fun w' hw' => (E.load rfl (run_load0 Tryz.isAgg9 ((at112.mono (i38.tr r45.inc)).now (S51.call hw').sl) rfl))) ?_
      refine FD.val (wF_yes rfl rfl rfl c107) rfl rfl (fun w' hw' => (E.fieldAddr tf39_0 k91)) ?_
      refine FD.val (wF_yes rfl rfl rfl c107) rfl rfl (fun w' hw' => (E.load rfl (run_load1 Tryz.isAgg9 ((at39.mono r45.inc).now (S51.call hw').sl) rfl))) ?_
      refine FD.val (wF_yes rfl rfl rfl c107) rfl rfl (fun w' hw' => (E.eqlS rfl rfl)) ?_
      obtain rfl := Option.some.inj hp
      refine FD.val rfl rfl rfl (fun w' hw' => (E.pickT rfl c107 rfl)) ?_
      exact FD.nil rfl
     ·
      refine FD.skip (wF_no rfl rfl rfl c107) rfl ?_
      refine FD.skip (wF_no rfl rfl rfl c107) rfl ?_
      refine FD.skip (wF_no rfl rfl rfl c107) rfl ?_
      refine FD.skip (wF_no rfl rfl rfl c107) rfl ?_
      refine FD.skip (wF_no rfl rfl rfl c107) rfl ?_
      refine FD.skip (wF_no rfl rfl rfl c107) rfl ?_
      refine FD.skip (wF_no rfl rfl rfl c107) rfl ?_
      refine FD.skip (wF_no rfl rfl rfl c107) rfl ?_
      obtain rfl := Option.some.inj hp
      refine FD.val rfl rfl rfl (fun w' hw' => (E.pickF rfl c107 rfl)) ?_
      exact FD.nil rfl
    intro f106 k116
    refine FD.val rfl rfl rfl (fun w' hw' => (E.assign k116)) ?_
    refine FD.nil ?_
    intro w117 r119
    have S118 := S51.call r119
    refine FW.ret ?_
    obtain rfl := Option.some.inj hp
    exact ⟨.inr rfl, res1 rfl rfl ⟨rfl, S118.back⟩⟩
   ·
    refine FW.condF rfl c81 ?_
    refine FW.seq (FW.region ?_)
    refine FL.v (E.fieldAddr tf39_1 rfl) ?_
    refine FL.v (E.load rfl (run_load1 Tryz.isAgg3 ((at39.mono r45.inc).now S51.sl) rfl)) ?_
    refine FL.v (E.neq rfl rfl) ?_
    refine FL.v (E.move (v := Value.bool (!(x27.rule == (-1)))) rfl) ?_
    refine FL.cut 7 (fun f w => ∃ H : GH, St Ha wa H w [] ∧ Inc H42 H ∧ f 1 = v1 ∧ f 2 = Value.int .i64 a2 ∧ f 7 = Value.pointer (some ⟨b29, 0, none⟩) ∧ f 78 = Value.bool (bif (!(x27.rule == (-1))) then true else (!(PF.impl_within x27.a 0 (wr (a2 - 1)))))) ?_ ?_
    ·
     rcases bcase (!(x27.rule == (-1))) with c129 | c129
     ·
      refine FL.skip (wF_no rfl rfl rfl c129) rfl ?_
      refine FL.skip (wF_no rfl rfl rfl c129) rfl ?_
      refine FL.skip (wF_no rfl rfl rfl c129) rfl ?_
      refine FL.skip (wF_no rfl rfl rfl c129) rfl ?_
      refine FL.skip (wF_no rfl rfl rfl c129) rfl ?_
      refine FL.skip (wF_no rfl rfl rfl c129) rfl ?_
      refine FL.v (E.pickT rfl c129 rfl) ?_
      exact FL.nil ⟨rfl, _, S51, (Inc.rfl _), rfl, rfl, rfl, (congrArg Value.bool (bifT c129).symm)⟩
     ·
      refine FL.val (wF_yes rfl rfl rfl c129) rfl rfl (E.fieldAddr tf39_2 rfl) ?_
      refine FL.val (wF_yes rfl rfl rfl c129) rfl rfl (E.load rfl (run_load1 Tryz.isAgg3 ((at39.mono r45.inc).now S51.sl) rfl)) ?_
      refine FL.val (wF_yes rfl rfl rfl c129) rfl rfl (E.move (v := Value.int .i64 a2) rfl) ?_
      refine FL.val (wF_yes rfl rfl rfl c129) rfl rfl (E.sub rfl rfl) ?_
      refine FL.call (wF_yes rfl rfl rfl c129) rfl rfl (E.call Tryz.call20 (A3 rfl rfl rfl)) (w_impl_within S51.sl x27.a 0 (wr (a2 - 1))) ?_
      rintro e w130 ⟨rfl, r131⟩
      refine ⟨_, rfl, ?_⟩
      have S132 := S51.call r131
      refine FL.val (wF_yes rfl rfl rfl c129) rfl rfl (E.not rfl) ?_
      refine FL.v (E.pickF rfl c129 rfl) ?_
      exact FL.nil ⟨rfl, _, S132, (Inc.rfl _), rfl, rfl, rfl, (congrArg Value.bool (bifF c129).symm)⟩
    rintro f128 w127 ⟨H124, S125, i126, k133, k134, k135, k136⟩
    refine FL.v (E.move k136) ?_
    refine FL.cut 7 (fun f w => ∃ H : GH, St Ha wa H w [] ∧ Inc H124 H ∧ f 1 = v1 ∧ f 7 = Value.pointer (some ⟨b29, 0, none⟩) ∧ f 86 = Value.bool (bif (bif (!(x27.rule == (-1))) then true else (!(PF.impl_within x27.a 0 (wr (a2 - 1))))) then true else (!(PF.impl_within x27.b 0 (wr (a2 - 1)))))) ?_ ?_
    ·
     rcases bcase (bif (!(x27.rule == (-1))) then true else (!(PF.impl_within x27.a 0 (wr (a2 - 1))))) with c146 | c146
     ·
      refine FL.skip (wF_no rfl rfl rfl c146) rfl ?_
      refine FL.skip (wF_no rfl rfl rfl c146) rfl ?_
      refine FL.skip (wF_no rfl rfl rfl c146) rfl ?_
      refine FL.skip (wF_no rfl rfl rfl c146) rfl ?_
      refine FL.skip (wF_no rfl rfl rfl c146) rfl ?_
      refine FL.skip (wF_no rfl rfl rfl c146) rfl ?_
      refine FL.v (E.pickT rfl c146 rfl) ?_
      exact FL.nil ⟨rfl, _, S125, (Inc.rfl _), k133, k135, (congrArg Value.bool (bifT c146).symm)⟩
     ·
      refine FL.val (wF_yes rfl rfl rfl c146) rfl rfl (E.fieldAddr tf39_3 k135) ?_
      refine FL.val (wF_yes rfl rfl rfl c146) rfl rfl (E.load rfl (run_load1 Tryz.isAgg3 ((at39.mono (r45.inc.tr i126)).now S125.sl) rfl)) ?_
      refine FL.val (wF_yes rfl rfl rfl c146) rfl rfl (E.move k134) ?_
      refine FL.val (wF_yes rfl rfl rfl c146) rfl rfl (E.sub rfl rfl) ?_
      refine FL.call (wF_yes rfl rfl rfl c146) rfl rfl (E.call Tryz.call20 (A3 rfl rfl rfl)) (w_impl_within S125.sl x27.b 0 (wr (a2 - 1))) ?_
      rintro e w147 ⟨rfl, r148⟩
      refine ⟨_, rfl, ?_⟩
      have S149 := S125.call r148
      refine FL.val (wF_yes rfl rfl rfl c146) rfl rfl (E.not rfl) ?_
      refine FL.v (E.pickF rfl c146 rfl) ?_
      exact FL.nil ⟨rfl, _, S149, (Inc.rfl _), k133, k135, (congrArg Value.bool (bifF c146).symm)⟩
    rintro f145 w144 ⟨H141, S142, i143, k150, k151, k152⟩
    refine FL.v (E.assign k152) ?_
    refine FL.nil ?_
    rcases ifB hp with ⟨c153, hp⟩ | ⟨c153, hp⟩
    ·
     refine FW.condT rfl c153 ?_
     refine FW.seq (FW.region ?_)
     refine FL.v (E.assign (v := Value.bool false) rfl) ?_
     refine FL.nil ?_
     refine FW.ret ?_
     obtain rfl := Option.some.inj hp
     exact ⟨.inr rfl, res1 rfl rfl ⟨rfl, S142.back⟩⟩
    ·
     refine FW.condF rfl c153 ?_
     refine FW.skip (FW.seq (FW.region ?_))
     refine FL.v (E.move k150) ?_
     refine FL.v (E.fieldAddr tf39_2 k151) ?_
     refine FL.v (E.load rfl (run_load1 Tryz.isAgg3 ((at39.mono ((r45.inc.tr i126).tr i143)).now S142.sl) rfl)) ?_
     obtain ⟨x160, hx161, hp⟩ := bnd hp
     obtain ⟨p154, cs155, pt156, l157, at158, rel159⟩ := p1.at hx161
     obtain rfl := eFregeStep_open rel159
     refine FL.v (E.indexAddr te25 rfl rfl pt156) ?_
     refine FL.v (E.fieldAddr tf39_0 rfl) ?_
     refine FL.v (E.load rfl (run_load1 Tryz.isAgg9 ((at158.mono (((i38.tr r45.inc).tr i126).tr i143)).now S142.sl) rfl)) ?_
     refine FL.v (E.assign (v := Value.string x160.formula) rfl) ?_
     refine FL.nil (FW.seq ?_)
     refine FW.draw (fun w' => Run w144.heap.size H141 w144 H141 w') (by kernel_rfl) (by kernel_rfl) (run_drew S142.sl) ?_
     refine FD.val rfl rfl rfl (fun w' hw' => (E.move (v := Value.string x160.formula) rfl)) ?_
     obtain ⟨r163, hr164, hp⟩ := bnd hp
     refine FD.call rfl rfl rfl (fun w' hw' => (E.call Tryz.call65 (A1 rfl))) (fun w' hw' => Calls.cls hw' (w_impl_IsFormula (S142.call hw').sl x160.formula hr164)) ?_
     refine FD.val rfl rfl rfl (fun w' hw' => (E.move (v := Value.bool r163) rfl)) ?_
     obtain ⟨t175, hqt175, hp⟩ := bnd hp
     refine FD.cut 8 (fun f => f 1 = v1 ∧ f 7 = Value.pointer (some ⟨b29, 0, none⟩) ∧ f 10 = Value.string x160.formula ∧ f 103 = Value.bool t175) ?_ ?_
     ·
      clear hp; have hp := hqt175; clear hqt175
      rcases ifB hp with ⟨c181, hp⟩ | ⟨c181, hp⟩
      ·
       refine FD.val (wF_yes rfl rfl rfl c181) rfl rfl (fun w' hw' => (E.move k150)) ?_
       refine FD.val (wF_yes rfl rfl rfl c181) rfl rfl (fun w' hw' => (E.fieldAddr tf39_3 k151)) ?_
       refine FD.val (wF_yes rfl rfl rfl c181) rfl rfl (fun w' hw' => (E.load rfl (run_load1 Tryz.isAgg3 ((at39.mono ((r45.inc.tr i126).tr i143)).now (S142.call hw').sl) rfl))) ?_
       obtain ⟨x188, hx189, hp⟩ := bnd hp
       obtain ⟨p182, cs183, pt184, l185, at186, rel187⟩ := p1.at hx189
       obtain rfl := eFregeStep_open rel187
       refine FD.val (wF_yes rfl rfl rfl c181) rfl rfl (fun w' hw' => (E.indexAddr te25 rfl rfl pt184)) ?_
       refine FD.val (wF_yes rfl rfl rfl c181) rfl rfl (fun w' hw' => (E.fieldAddr tf39_0 rfl)) ?_
       refine FD.val (wF_yes rfl rfl rfl c181) rfl rfl (fun w' hw' => (E.load rfl (run_load1 Tryz.isAgg9 ((at186.mono (((i38.tr r45.inc).tr i126).tr i143)).now (S142.call hw').sl) rfl))) ?_
       obtain ⟨r190, hr191, hp⟩ := bnd hp
       refine FD.call (wF_yes rfl rfl rfl c181) rfl rfl (fun w' hw' => (E.call Tryz.call65 (A1 rfl))) (fun w' hw' => Calls.cls hw' (w_impl_IsFormula (S142.call hw').sl x188.formula hr191)) ?_
       obtain rfl := Option.some.inj hp
       refine FD.val rfl rfl rfl (fun w' hw' => (E.pickT rfl c181 rfl)) ?_
       exact FD.nil ⟨k150, k151, rfl, rfl⟩
      ·
       refine FD.skip (wF_no rfl rfl rfl c181) rfl ?_
       refine FD.skip (wF_no rfl rfl rfl c181) rfl ?_
       refine FD.skip (wF_no rfl rfl rfl c181) rfl ?_
       refine FD.skip (wF_no rfl rfl rfl c181) rfl ?_
       refine FD.skip (wF_no rfl rfl rfl c181) rfl ?_
       refine FD.skip (wF_no rfl rfl rfl c181) rfl ?_
       refine FD.skip (wF_no rfl rfl rfl c181) rfl ?_
       obtain rfl := Option.some.inj hp
       refine FD.val rfl rfl rfl (fun w' hw' => (E.pickF rfl c181 rfl)) ?_
       exact FD.nil ⟨k150, k151, rfl, rfl⟩
     rintro f180 ⟨k192, k193, k194, k195⟩
     refine FD.val rfl rfl rfl (fun w' hw' => (E.move k195)) ?_
     obtain ⟨t212, hqt212, hp⟩ := bnd hp
     refine FD.cut 15 (fun f => f 119 = Value.bool t212) ?_ ?_
     ·
      clear hp; have hp := hqt212; clear hqt212
      rcases ifB hp with ⟨c218, hp⟩ | ⟨c218, hp⟩
      ·
       refine FD.val (wF_yes rfl rfl rfl c218) rfl rfl (fun w' hw' => (E.move k192)) ?_
       refine FD.val (wF_yes rfl rfl rfl c218) rfl rfl (fun w' hw' => (E.fieldAddr tf39_3 k193)) ?_
       refine FD.val (wF_yes rfl rfl rfl c218) rfl rfl (fun w' hw' => (E.load rfl (run_load1 Tryz.isAgg3 ((at39.mono ((r45.inc.tr i126).tr i143)).now (S142.call hw').sl) rfl))) ?_
       obtain ⟨x225, hx226, hp⟩ := bnd hp
       obtain ⟨p219, cs220, pt221, l222, at223, rel224⟩ := p1.at hx226
       obtain rfl := eFregeStep_open rel224
       refine FD.val (wF_yes rfl rfl rfl c218) rfl rfl (fun w' hw' => (E.indexAddr te25 rfl rfl pt221)) ?_
       refine FD.val (wF_yes rfl rfl rfl c218) rfl rfl (fun w' hw' => (E.fieldAddr tf39_0 rfl)) ?_
       refine FD.val (wF_yes rfl rfl rfl c218) rfl rfl (fun w' hw' => (E.load rfl (run_load1 Tryz.isAgg9 ((at223.mono (((i38.tr r45.inc).tr i126).tr i143)).now (S142.call hw').sl) rfl))) ?_
       refine FD.val (wF_yes rfl rfl rfl c218) rfl rfl (fun w' hw' => (E.move k194)) ?_
       obtain ⟨z227, h228, hp⟩ := bnd hp
       refine FD.val (wF_yes rfl rfl rfl c218) rfl rfl (fun w' hw' => (E.addT rfl rfl h228)) ?_
       obtain ⟨z229, h230, hp⟩ := bnd hp
       refine FD.val (wF_yes rfl rfl rfl c218) rfl rfl (fun w' hw' => (E.addT rfl rfl h230)) ?_
       refine FD.val (wF_yes rfl rfl rfl c218) rfl rfl (fun w' hw' => (E.fieldAddr tf39_0 k193)) ?_
       refine FD.val (wF_yes rfl rfl rfl c218) rfl rfl (fun w' hw' => (E.load rfl (run_load1 Tryz.isAgg9 ((at39.mono ((r45.inc.tr i126).tr i143)).now (S142.call hw').sl) rfl))) ?_
       obtain ⟨z231, h232, hp⟩ := bnd hp
       refine FD.val (wF_yes rfl rfl rfl c218) rfl rfl (fun w' hw' => (E.addT rfl rfl h232)) ?_
       obtain ⟨z233, h234, hp⟩ := bnd hp
       refine FD.val (wF_yes rfl rfl rfl c218) rfl rfl (fun w' hw' => (E.addT rfl rfl h234)) ?_
       refine FD.val (wF_yes rfl rfl rfl c218) rfl rfl (fun w' hw' => (E.eqlS rfl rfl)) ?_
       obtain rfl := Option.some.inj hp
       refine FD.val rfl rfl rfl (fun w' hw' => (E.pickT rfl c218 rfl)) ?_
       exact FD.nil rfl
      ·
       refine FD.skip (wF_no rfl rfl rfl c218) rfl ?_
       refine FD.skip (wF_no rfl rfl rfl c218) rfl ?_
       refine FD.skip (wF_no rfl rfl rfl c218) rfl ?_
       refine FD.skip (wF_no rfl rfl rfl c218) rfl ?_
       refine FD.skip (wF_no rfl rfl rfl c218) rfl ?_
       refine FD.skip (wF_no rfl rfl rfl c218) rfl ?_
       refine FD.skip (wF_no rfl rfl rfl c218) rfl ?_
       refine FD.skip (wF_no rfl rfl rfl c218) rfl ?_
       refine FD.skip (wF_no rfl rfl rfl c218) rfl ?_
       refine FD.skip (wF_no rfl rfl rfl c218) rfl ?_
       refine FD.skip (wF_no rfl rfl rfl c218) rfl ?_
       refine FD.skip (wF_no rfl rfl rfl c218) rfl ?_
       refine FD.skip (wF_no rfl rfl rfl c218) rfl ?_
       refine FD.skip (wF_no rfl rfl rfl c218) rfl ?_
       obtain rfl := Option.some.inj hp
       refine FD.val rfl rfl rfl (fun w' hw' => (E.pickF rfl c218 rfl)) ?_
       exact FD.nil rfl
     intro f217 k235
     refine FD.val rfl rfl rfl (fun w' hw' => (E.assign k235)) ?_
     refine FD.nil ?_
     intro w236 r238
     have S237 := S142.call r238
     refine FW.ret ?_
     obtain rfl := Option.some.inj hp
     exact ⟨.inr rfl, res1 rfl rfl ⟨rfl, S237.back⟩⟩

theorem w_impl_firstWrongFrege {Ha : GH} {wa : World} (hs : Sl Ha wa) (v0 : Value) (a0 : List ByteArray) (p0 : RSl Ha eS 1 v0 a0) (v1 : Value) (a1 : List FregeStep) (p1 : RSl Ha eFregeStep 4 v1 a1) (hT : TabS 0 PF.glob0 Ha) {r : Int} (hp : (PF.impl_firstWrongFrege a0 a1) = some r) :
  Calls Tryz.prog 48 #[v0, v1] wa (Sc Ha wa (Value.int .i64 r)) := by
 unfold PF.impl_firstWrongFrege at hp
 have S0 := St.init hs
 refine calls_go (N := 18) (args := [v0, v1]) Tryz.func48 rfl rfl rfl ?_
 refine FW.seq (FW.region ?_)
 refine FL.v (E.assign (v := Value.int .i64 0) rfl) ?_
 refine FL.nil (FW.seq (FW.seq (FW.region ?_)))
 refine FL.v (E.move (v := v1) rfl) ?_
 refine FL.v (E.lenP te25 rfl p1) ?_
 refine FL.v (E.move (v := Value.int .i64 0) rfl) ?_
 refine FL.nil ?_
 obtain ⟨q22, hq, hp⟩ := bndR hp
 refine FW.block ?_
 refine FW.mono (FW.forL (S := Unit) (X := Int) (fun (i22 : Nat) (s22 : Unit) f w => ∃ H : GH, St Ha wa H w [] ∧ Inc Ha H ∧ f 8 = Value.int .i64 ((i22 : Nat) : Int) ∧ f 0 = v0 ∧ f 1 = v1 ∧ f 7 = Value.int .i64 (len a1)) (fun q e f w => match q with | .go s22 => e = Exit.exit 0 ∧ (∃ H : GH, St Ha wa H w [] ∧ Inc Ha H) | .rt x => ((e = Exit.ret) ∧ (fun e f w => (e = Exit.normal ∨ e = Exit.ret) ∧ ∀ a, Fr (δ := []) 18 a f → ∃ v, (results Tryz.f48 a.tmps).run Tryz.prog w = .ok v w ∧ (Sc Ha wa (Value.int .i64 x)) (.returned v) w) e f w)) hq ⟨_, S0, (Inc.rfl _), rfl, rfl, rfl, rfl⟩ ?_ ?_) ?_
 ·
  clear hp hq
  rintro i22 y21 s22 f42 w41 ⟨H38, S39, i40, k43, k44, k45, k46⟩ hx22 o53 hp
  refine FW.seq (FW.region ?_)
  refine FL.v (E.lssT k43 k46 (lss_len hx22)) ?_
  refine FL.nil (FW.seq ?_)
  refine FW.condT rfl rfl ?_
  refine FW.skip (FW.seq (FW.block (FW.seq (FW.region ?_))))
  refine FL.v (E.move k43) ?_
  refine FL.v (E.assign (v := Value.int .i64 ((i22 : Nat) : Int)) rfl) ?_
  refine FL.nil (FW.seq (FW.region ?_))
  refine FL.v (E.move k44) ?_
  refine FL.v (E.move k45) ?_
  refine FL.v (E.move (v := Value.int .i64 ((i22 : Nat) : Int)) rfl) ?_
  obtain ⟨r47, hr48, hp⟩ := bnd hp
  refine FL.call rfl rfl rfl (E.call Tryz.call66 (A3 rfl rfl rfl)) (w_impl_fregeCorrect S39.sl v0 a0 (p0.mono i40) v1 a1 (p1.mono i40) ((i22 : Nat) : Int) (hT.mono i40) hr48) ?_
  rintro e w49 ⟨rfl, r50⟩
  refine ⟨_, rfl, ?_⟩
  have S51 := S39.call r50
  refine FL.v (E.not rfl) ?_
  refine FL.nil ?_
  rcases ifB hp with ⟨c52, hp⟩ | ⟨c52, hp⟩
  ·
   refine FW.condT rfl c52 ?_
   refine FW.seq (FW.region ?_)
   refine FL.v (E.move (v := Value.int .i64 ((i22 : Nat) : Int)) rfl) ?_
   refine FL.v (E.assign (v := Value.int .i64 ((i22 : Nat) : Int)) rfl) ?_
   refine FL.nil ?_
   refine FW.ret ?_
   obtain rfl := Option.some.inj hp
   exact ⟨nofun, rfl, ⟨.inr rfl, res1 rfl rfl ⟨rfl, S51.back⟩⟩⟩
  ·
   refine FW.condF rfl c52 ?_
   refine FW.skip (FW.region ?_)
   refine FL.v (E.add k43 rfl) ?_
   refine FL.v (E.move (v := Value.int .i64 (wr (((i22 : Nat) : Int) + 1))) rfl) ?_
   refine FL.nil ?_
   obtain rfl := Option.some.inj hp
   exact ⟨rfl, ⟨_, S51, i40, (nat_succ rfl (lt_of_get hx22) (p1.mono i40).le), k44, k45, k46⟩⟩
 ·
  clear hp hq
  rintro s22 f63 w62 ⟨H59, S60, i61, k64, k65, k66, k67⟩
  refine FW.seq (FW.region ?_)
  refine FL.v (E.lss k64 k67) ?_
  refine FL.nil (FW.seq ?_)
  refine FW.condF rfl dlt_len ?_
  refine FW.exit ?_
  exact ⟨nofun, rfl, ⟨_, S60, i61⟩⟩
 ·
  clear hq
  intro e f58 w57 hD
  rcases q22 with s22 | x22
  ·
   obtain ⟨rfl, hD⟩ := hD
   obtain ⟨H54, S55, i56⟩ := hD
   replace hp := el_go hp
   refine FW.seq (FW.region ?_)
   refine FL.v (E.assign (v := Value.int .i64 (-1)) rfl) ?_
   refine FL.nil ?_
   refine FW.ret ?_
   obtain rfl := Option.some.inj hp
   exact ⟨.inr rfl, res1 rfl rfl ⟨rfl, S55.back⟩⟩
  ·
   obtain ⟨he, hL⟩ := hD
   replace hp := el_rt hp
   obtain rfl := Option.some.inj hp
   subst he
   exact hL

theorem w_impl_fregeProof {Ha : GH} {wa : World} (hs : Sl Ha wa) (v0 : Value) (a0 : List ByteArray) (p0 : RSl Ha eS 1 v0 a0) (v1 : Value) (a1 : List FregeStep) (p1 : RSl Ha eFregeStep 4 v1 a1) (hT : TabS 0 PF.glob0 Ha) {r : Bool} (hp : (PF.impl_fregeProof a0 a1) = some r) :
  Calls Tryz.prog 19 #[v0, v1] wa (Sc Ha wa (Value.bool r)) := by
 unfold PF.impl_fregeProof at hp
 have S0 := St.init hs
 refine calls_go (N := 19) (args := [v0, v1]) Tryz.func19 rfl rfl rfl ?_
 refine FW.seq (FW.region ?_)
 refine FL.v (E.assign (v := Value.bool false) rfl) ?_
 refine FL.nil (FW.seq (FW.region ?_))
 refine FL.v (E.move (v := v0) rfl) ?_
 refine FL.v (E.move (v := v1) rfl) ?_
 obtain ⟨r21, hr22, hp⟩ := bnd hp
 refine FL.call rfl rfl rfl (E.call Tryz.call47 (A2 rfl rfl)) (w_impl_fregeOk S0.sl v0 a0 p0 v1 a1 p1 hr22) ?_
 rintro e w23 ⟨rfl, r24⟩
 refine ⟨_, rfl, ?_⟩
 have S25 := S0.call r24
 refine FL.v (E.move (v := Value.bool r21) rfl) ?_
 refine FL.cut 4 (fun f w => ∃ H : GH, St Ha wa H w [] ∧ Inc Ha H ∧ f 0 = v0 ∧ f 1 = v1 ∧ f 12 = Value.bool (bif r21 then (decide (0 < (len a1))) else false)) ?_ ?_
 ·
  rcases bcase r21 with c32 | c32
  ·
   refine FL.val (wF_yes rfl rfl rfl c32) rfl rfl (E.move (v := v1) rfl) ?_
   refine FL.val (wF_yes rfl rfl rfl c32) rfl rfl (E.lenP te25 rfl p1) ?_
   refine FL.val (wF_yes rfl rfl rfl c32) rfl rfl (E.gtr rfl rfl) ?_
   refine FL.v (E.pickT rfl c32 rfl) ?_
   exact FL.nil ⟨rfl, _, S25, (Inc.rfl _), rfl, rfl, (congrArg Value.bool (bifT c32).symm)⟩
  ·
   refine FL.skip (wF_no rfl rfl rfl c32) rfl ?_
   refine FL.skip (wF_no rfl rfl rfl c32) rfl ?_
   refine FL.skip (wF_no rfl rfl rfl c32) rfl ?_
   refine FL.v (E.pickF rfl c32 rfl) ?_
   exact FL.nil ⟨rfl, _, S25, (Inc.rfl _), rfl, rfl, (congrArg Value.bool (bifF c32).symm)⟩
 rintro f31 w30 ⟨H27, S28, i29, k33, k34, k35⟩
 refine FL.v (E.move k35) ?_
 obtain ⟨t41, hqt41, hp⟩ := bnd hp
 refine FL.cut 5 (fun f w => ∃ H : GH, St Ha wa H w [] ∧ Inc H27 H ∧ f 18 = Value.bool t41) ?_ ?_
 ·
  clear hp; have hp := hqt41; clear hqt41
  rcases ifB hp with ⟨c47, hp⟩ | ⟨c47, hp⟩
  ·
   refine FL.val (wF_yes rfl rfl rfl c47) rfl rfl (E.move k33) ?_
   refine FL.val (wF_yes rfl rfl rfl c47) rfl rfl (E.move k34) ?_
   obtain ⟨r48, hr49, hp⟩ := bnd hp
   refine FL.call (wF_yes rfl rfl rfl c47) rfl rfl (E.call Tryz.call48 (A2 rfl rfl)) (w_impl_firstWrongFrege S28.sl v0 a0 (p0.mono i29) v1 a1 (p1.mono i29) (hT.mono i29) hr49) ?_
   rintro e w50 ⟨rfl, r51⟩
   refine ⟨_, rfl, ?_⟩
   have S52 := S28.call r51
   refine FL.val (wF_yes rfl rfl rfl c47) rfl rfl (E.lss rfl rfl) ?_
   obtain rfl := Option.some.inj hp
   refine FL.v (E.pickT rfl c47 rfl) ?_
   exact FL.nil ⟨rfl, _, S52, (Inc.rfl _), rfl⟩
  ·
   refine FL.skip (wF_no rfl rfl rfl c47) rfl ?_
   refine FL.skip (wF_no rfl rfl rfl c47) rfl ?_
   refine FL.skip (wF_no rfl rfl rfl c47) rfl ?_
   refine FL.skip (wF_no rfl rfl rfl c47) rfl ?_
   obtain rfl := Option.some.inj hp
   refine FL.v (E.pickF rfl c47 rfl) ?_
   exact FL.nil ⟨rfl, _, S28, (Inc.rfl _), rfl⟩
 rintro f46 w45 ⟨H42, S43, i44, k53⟩
 refine FL.v (E.assign k53) ?_
 refine FL.nil ?_
 refine FW.ret ?_
 obtain rfl := Option.some.inj hp
 exact ⟨.inr rfl, res1 rfl rfl ⟨rfl, S43.back⟩⟩

@[reducible] def p_impl_formula_put (Ha : GH) (wa : World) (r : Fo) : Ending → World → Prop :=
 fun e w' => ∃ H' : GH, ∃ v0 : Value, e = .returned (v0) ∧ Run wa.heap.size Ha wa H' w' ∧ FAt H' v0 r
set_option maxHeartbeats 4000000 in
theorem w_impl_formula_put_B {rec_impl_formula_put : Fo → (Fo × Fo × Fo) → Option Fo} (hrec_impl_formula_put : ∀ {Ha : GH} {wa : World} (hs : Sl Ha wa) (v0 : Value) (a0 : Fo) (p0 : FAt Ha v0 a0) (a1 : Fo × Fo × Fo) (v1_0 : Value) (p1_0 : FAt Ha v1_0 a1.1) (v1_1 : Value) (p1_1 : FAt Ha v1_1 a1.2.1) (v1_2 : Value) (p1_2 : FAt Ha v1_2 a1.2.2) {r : Fo} (hp : rec_impl_formula_put a0 a1 = some r), Calls Tryz.prog 50 #[v0, Value.agg #[v1_0, v1_1, v1_2]] wa (p_impl_formula_put Ha wa r)) {Ha : GH} {wa : World} (hs : Sl Ha wa) (v0 : Value) (a0 : Fo) (p0 : FAt Ha v0 a0) (a1 : Fo × Fo × Fo) (v1_0 : Value) (p1_0 : FAt Ha v1_0 a1.1) (v1_1 : Value) (p1_1 : FAt Ha v1_1 a1.2.1) (v1_2 : Value) (p1_2 : FAt Ha v1_2 a1.2.2) {r : Fo} (hp : PF.impl_formula_put_B rec_impl_formula_put a0 a1 = some r) :
  Calls Tryz.prog 50 #[v0, Value.agg #[v1_0, v1_1, v1_2]] wa (p_impl_formula_put Ha wa r) := by
 unfold PF.impl_formula_put_B at hp
 have S0 := St.init hs
 refine calls_go (N := 55) (args := [v0, Value.agg #[v1_0, v1_1, v1_2]]) Tryz.func50 rfl rfl rfl ?_
 refine FW.seq (FW.region ?_)
 obtain ⟨b21, w22, run23, S24⟩ := S0.box (P := Tryz.prog) 87 [v1_0, v1_1, v1_2] (v := Value.agg #[v1_0, v1_1, v1_2]) rfl (ones_cons p1_0.one (ones_cons p1_1.one (ones_cons p1_2.one ones_nil)))
 refine FL.v (E.box rfl run23) ?_
 obtain ⟨H25, S26, i27, at28⟩ := S24.sealBox (i := 0) (l' := []) rfl rfl
 refine FL.v (E.assign (v := Value.pointer none) rfl) ?_
 refine FL.nil (FW.seq (FW.block (FW.seq (FW.region ?_))))
 refine FL.v (E.move (v := v0) rfl) ?_
 obtain ⟨y29, hy30, hp⟩ := bnd hp
 obtain ⟨q31, v33, v34, rfl, at32, h35, h36⟩ := FAt.open p0 hy30
 refine FL.v (E.nilCheck rfl) ?_
 refine FL.v (E.fieldAddr tf70_0 rfl) ?_
 refine FL.v (E.load rfl (run_load1 Tryz.isAgg5 ((at32.mono i27).now S26.sl) rfl)) ?_
 refine FL.call rfl rfl rfl (E.call Tryz.call67 (A1 rfl)) (w_impl_isLetter S26.sl y29.op) ?_
 rintro e w37 ⟨rfl, r38⟩
 refine ⟨_, rfl, ?_⟩
 have S39 := S26.call r38
 refine FL.v (E.assign (v := Value.bool (PF.impl_isLetter y29.op)) rfl) ?_
 refine FL.nil ?_
 rcases ifB hp with ⟨c40, hp⟩ | ⟨c40, hp⟩
 ·
  refine FW.condT rfl c40 ?_
  refine FW.seq (FW.region ?_)
  refine FL.v (E.move (v := Value.pointer (some q31)) rfl) ?_
  refine FL.v (E.nilCheck rfl) ?_
  refine FL.v (E.fieldAddr tf70_0 rfl) ?_
  refine FL.v (E.load rfl (run_load1 Tryz.isAgg5 ((at32.mono i27).now S39.sl) rfl)) ?_
  refine FL.v (E.subK rfl rfl) ?_
  obtain ⟨x41, hx42, hp⟩ := bnd hp
  obtain ⟨j43, v44, hj45, l46, hc47, at48⟩ := fo3_ix (p1_0.mono i27) (p1_1.mono i27) (p1_2.mono i27) hx42
  refine FL.v (E.indexArr (j := j43) (k := 1) (off := j43) Tryz.runUnderlying87 Tryz.sizeOf51 rfl (Eq.trans rfl (congrArg (Value.int .u8) hj45)) l46 (Nat.mul_one _)) ?_
  refine FL.v (E.load rfl (run_load1 Tryz.isAgg51 (at28.now S39.sl) hc47)) ?_
  refine FL.v (E.assign (v := v44) rfl) ?_
  refine FL.nil ?_
  refine FW.ret ?_
  obtain rfl := Option.some.inj hp
  exact ⟨.inr rfl, res1 rfl rfl ⟨_, _, rfl, S39.run, at48⟩⟩
 ·
  refine FW.condF rfl c40 ?_
  refine FW.seq (FW.region ?_)
  refine FL.v (E.move (v := Value.pointer (some q31)) rfl) ?_
  refine FL.v (E.nilCheck rfl) ?_
  refine FL.v (E.fieldAddr tf70_1 rfl) ?_
  refine FL.v (E.load rfl (run_load1 Tryz.isAgg51 ((at32.mono i27).now S39.sl) rfl)) ?_
  refine FL.v (E.eqlN Tryz.runUnderlying51 (h35.mono i27).isNil rfl rfl) ?_
  refine FL.v (E.assign (v := Value.bool y29.a.isNil) rfl) ?_
  refine FL.nil ?_
  rcases ifB hp with ⟨c49, hp⟩ | ⟨c49, hp⟩
  ·
   refine FW.condT rfl c49 ?_
   refine FW.seq (FW.region ?_)
   refine FL.v (E.move (v := Value.pointer (some q31)) rfl) ?_
   refine FL.v (E.assign (v := Value.pointer (some q31)) rfl) ?_
   refine FL.nil ?_
   refine FW.ret ?_
   obtain rfl := Option.some.inj hp
   exact ⟨.inr rfl, res1 rfl rfl ⟨_, _, rfl, S39.run, (p0.mono i27)⟩⟩
  ·
   refine FW.condF rfl c49 ?_
   refine FW.seq (FW.region ?_)
   refine FL.v (E.move (v := Value.pointer (some q31)) rfl) ?_
   refine FL.v (E.nilCheck rfl) ?_
   refine FL.v (E.fieldAddr tf70_2 rfl) ?_
   refine FL.v (E.load rfl (run_load1 Tryz.isAgg51 ((at32.mono i27).now S39.sl) rfl)) ?_
   refine FL.v (E.eqlN Tryz.runUnderlying51 (h36.mono i27).isNil rfl rfl) ?_
   refine FL.v (E.assign (v := Value.bool y29.b.isNil) rfl) ?_
   refine FL.nil ?_
   rcases ifB hp with ⟨c50, hp⟩ | ⟨c50, hp⟩
   ·
    refine FW.condT rfl c50 ?_
    refine FW.seq ?_
    obtain ⟨r54, hr55, hp⟩ := bnd hp
    obtain ⟨r62, hr63, hp⟩ := bnd hp
    refine FW.drawB (Sl H25) (fun f w => ∃ H : GH, ∃ v71 : Value, St Ha wa H w [] ∧ Inc H25 H ∧ FAt H v71 r62 ∧ f 4 = v71) (by kernel_rfl) S39.sl ?_ ?_
    ·
     intro w51 r52
     have S53 := S39.call r52
     refine FB.t (i := 0) (bs 8 1) rfl (SP.nil S53.sl) rfl (fun w' hw' => (E.move (v := Value.pointer (some q31)) rfl)) ?_
     refine FB.t (i := 1) (bs 8 3) rfl (SP.nil S53.sl) rfl (fun w' hw' => (E.nilCheck rfl)) ?_
     refine FB.t (i := 2) (bs 8 7) rfl (SP.nil S53.sl) rfl (fun w' hw' => (E.fieldAddr tf70_1 rfl)) ?_
     refine FB.t (i := 3) (bs 8 15) rfl (SP.nil S53.sl) rfl (fun w' hw' => (E.load rfl (run_load1 Tryz.isAgg51 ((at32.mono i27).now hw') rfl))) ?_
     refine FB.t (i := 4) (bs 8 31) rfl (SP.nil S53.sl) rfl (fun w' hw' => (E.load rfl (run_loadA Tryz.isAgg87 Tryz.sizeOf87 (at28.now hw') rfl))) ?_
     refine FB.all1 (i := 5) (by kernel_rfl) ?_
     ·
      refine FC.call (l' := (bs 8 63)) rfl (by kernel_rfl) rfl rfl rfl (E.call Tryz.call50 (A2 rfl rfl)) (hrec_impl_formula_put S53.sl v33 y29.a (h35.mono i27) (a1.1, a1.2.1, a1.2.2) v1_0 (p1_0.mono i27) v1_1 (p1_1.mono i27) v1_2 (p1_2.mono i27) hr55) ?_
      rintro e w57 ⟨H56, v60, rfl, r59, h61⟩
      refine ⟨_, rfl, ?_⟩
      have S58 := S53.call r59
      refine ⟨(SP.nil (Sl.of_inc r59.inc S58.sl)), ?_⟩
      refine FB.all1 (i := 6) (by kernel_rfl) ?_
      ·
       refine FC.call (l' := (bs 8 127)) rfl (by kernel_rfl) rfl rfl rfl (E.call Tryz.call69 (A1 rfl)) (w_impl_not S58.sl v60 r54 h61 hr63) ?_
       rintro e w65 ⟨H64, v68, rfl, r67, h69⟩
       refine ⟨_, rfl, ?_⟩
       have S66 := S58.call r67
       refine ⟨(SP.nil (Sl.of_inc (r59.inc.tr r67.inc) S66.sl)), ?_⟩
       refine FB.t (i := 7) (bs 8 255) rfl (SP.nil (Sl.of_inc (r59.inc.tr r67.inc) S66.sl)) rfl (fun w' hw' => (E.assign (v := v68) rfl)) ?_
       exact FB.done (by kernel_rfl) ⟨_, _, S66, (r59.inc.tr r67.inc), h69, rfl⟩
    ·
     rintro f77 w76 ⟨H73, v71, S74, i75, h72, k78⟩
     refine FW.ret ?_
     obtain rfl := Option.some.inj hp
     exact ⟨.inr rfl, res1 rfl k78 ⟨_, _, rfl, S74.run, h72⟩⟩
   ·
    refine FW.condF rfl c50 ?_
    refine FW.skip (FW.seq ?_)
    obtain ⟨r82, hr83, hp⟩ := bnd hp
    obtain ⟨r90, hr91, hp⟩ := bnd hp
    obtain ⟨r98, hr99, hp⟩ := bnd hp
    refine FW.drawB (Sl H25) (fun f w => ∃ H : GH, ∃ v106 : Value, St Ha wa H w [] ∧ Inc H25 H ∧ FAt H v106 r98 ∧ f 4 = v106) (by kernel_rfl) S39.sl ?_ ?_
    ·
     intro w79 r80
     have S81 := S39.call r80
     refine FB.t (i := 0) (bs 18 1) rfl (SP.nil S81.sl) rfl (fun w' hw' => (E.move (v := Value.pointer (some q31)) rfl)) ?_
     refine FB.t (i := 1) (bs 18 3) rfl (SP.nil S81.sl) rfl (fun w' hw' => (E.nilCheck rfl)) ?_
     refine FB.t (i := 2) (bs 18 7) rfl (SP.nil S81.sl) rfl (fun w' hw' => (E.fieldAddr tf70_0 rfl)) ?_
     refine FB.t (i := 3) (bs 18 15) rfl (SP.nil S81.sl) rfl (fun w' hw' => (E.load rfl (run_load1 Tryz.isAgg5 ((at32.mono i27).now hw') rfl))) ?_
     refine FB.t (i := 4) (bs 18 31) rfl (SP.nil S81.sl) rfl (fun w' hw' => (E.move (v := Value.pointer (some q31)) rfl)) ?_
     refine FB.t (i := 5) (bs 18 63) rfl (SP.nil S81.sl) rfl (fun w' hw' => (E.nilCheck rfl)) ?_
     refine FB.t (i := 6) (bs 18 127) rfl (SP.nil S81.sl) rfl (fun w' hw' => (E.fieldAddr tf70_1 rfl)) ?_
     refine FB.t (i := 7) (bs 18 255) rfl (SP.nil S81.sl) rfl (fun w' hw' => (E.load rfl (run_load1 Tryz.isAgg51 ((at32.mono i27).now hw') rfl))) ?_
     refine FB.t (i := 8) (bs 18 511) rfl (SP.nil S81.sl) rfl (fun w' hw' => (E.load rfl (run_loadA Tryz.isAgg87 Tryz.sizeOf87 (at28.now hw') rfl))) ?_
     refine FB.t (i := 10) (bs 18 1535) rfl (SP.nil S81.sl) rfl (fun w' hw' => (E.move (v := Value.pointer (some q31)) rfl)) ?_
     refine FB.t (i := 11) (bs 18 3583) rfl (SP.nil S81.sl) rfl (fun w' hw' => (E.nilCheck rfl)) ?_
     refine FB.t (i := 12) (bs 18 7679) rfl (SP.nil S81.sl) rfl (fun w' hw' => (E.fieldAddr tf70_2 rfl)) ?_
     refine FB.t (i := 13) (bs 18 15871) rfl (SP.nil S81.sl) rfl (fun w' hw' => (E.load rfl (run_load1 Tryz.isAgg51 ((at32.mono i27).now hw') rfl))) ?_
     refine FB.t (i := 14) (bs 18 32255) rfl (SP.nil S81.sl) rfl (fun w' hw' => (E.load rfl (run_loadA Tryz.isAgg87 Tryz.sizeOf87 (at28.now hw') rfl))) ?_
     refine FB.all1 (i := 9) (by kernel_rfl) ?_
     ·
      refine FC.call (l' := (bs 18 32767)) rfl (by kernel_rfl) rfl rfl rfl (E.call Tryz.call50 (A2 rfl rfl)) (hrec_impl_formula_put S81.sl v33 y29.a (h35.mono i27) (a1.1, a1.2.1, a1.2.2) v1_0 (p1_0.mono i27) v1_1 (p1_1.mono i27) v1_2 (p1_2.mono i27) hr83) ?_
      rintro e w85 ⟨H84, v88, rfl, r87, h89⟩
      refine ⟨_, rfl, ?_⟩
      have S86 := S81.call r87
      refine ⟨(SP.nil (Sl.of_inc r87.inc S86.sl)), ?_⟩
      refine FB.all1 (i := 15) (by kernel_rfl) ?_
      ·
       refine FC.call (l' := (bs 18 65535)) rfl (by kernel_rfl) rfl rfl rfl (E.call Tryz.call50 (A2 rfl rfl)) (hrec_impl_formula_put S86.sl v34 y29.b (h36.mono (i27.tr r87.inc)) (a1.1, a1.2.1, a1.2.2) v1_0 (p1_0.mono (i27.tr r87.inc)) v1_1 (p1_1.mono (i27.tr r87.inc)) v1_2 (p1_2.mono (i27.tr r87.inc)) hr91) ?_
       rintro e w93 ⟨H92, v96, rfl, r95, h97⟩
       refine ⟨_, rfl, ?_⟩
       have S94 := S86.call r95
       refine ⟨(SP.nil (Sl.of_inc (r87.inc.tr r95.inc) S94.sl)), ?_⟩
       refine FB.all1 (i := 16) (by kernel_rfl) ?_
       ·
        refine FC.call (l' := (bs 18 131071)) rfl (by kernel_rfl) rfl rfl rfl (E.call Tryz.call26 (A3 rfl rfl rfl)) (w_impl_join S94.sl y29.op v88 r82 (h89.mono r95.inc) v96 r90 h97 hr99) ?_
        rintro e w101 ⟨H100, v104, rfl, r103, h105⟩
        refine ⟨_, rfl, ?_⟩
        have S102 := S94.call r103
        refine ⟨(SP.nil (Sl.of_inc ((r87.inc.tr r95.inc).tr r103.inc) S102.sl)), ?_⟩
        refine FB.t (i := 17) (bs 18 262143) rfl (SP.nil (Sl.of_inc ((r87.inc.tr r95.inc).tr r103.inc) S102.sl)) rfl (fun w' hw' => (E.assign (v := v104) rfl)) ?_
        exact FB.done (by kernel_rfl) ⟨_, _, S102, ((r87.inc.tr r95.inc).tr r103.inc), h105, rfl⟩
    ·
     rintro f112 w111 ⟨H108, v106, S109, i110, h107, k113⟩
     refine FW.ret ?_
     obtain rfl := Option.some.inj hp
     exact ⟨.inr rfl, res1 rfl k113 ⟨_, _, rfl, S109.run, h107⟩⟩
theorem w_impl_formula_put_F (n : Nat) : ∀ {Ha : GH} {wa : World} (hs : Sl Ha wa) (v0 : Value) (a0 : Fo) (p0 : FAt Ha v0 a0) (a1 : Fo × Fo × Fo) (v1_0 : Value) (p1_0 : FAt Ha v1_0 a1.1) (v1_1 : Value) (p1_1 : FAt Ha v1_1 a1.2.1) (v1_2 : Value) (p1_2 : FAt Ha v1_2 a1.2.2) {r : Fo} (hp : PF.impl_formula_put_F n a0 a1 = some r), Calls Tryz.prog 50 #[v0, Value.agg #[v1_0, v1_1, v1_2]] wa (p_impl_formula_put Ha wa r) := by
 induction n with
 | zero => intros; rename_i hp; exact nomatch hp
 | succ n ih => exact w_impl_formula_put_B (rec_impl_formula_put := PF.impl_formula_put_F n) ih
theorem w_impl_formula_put {Ha : GH} {wa : World} (hs : Sl Ha wa) (v0 : Value) (a0 : Fo) (p0 : FAt Ha v0 a0) (a1 : Fo × Fo × Fo) (v1_0 : Value) (p1_0 : FAt Ha v1_0 a1.1) (v1_1 : Value) (p1_1 : FAt Ha v1_1 a1.2.1) (v1_2 : Value) (p1_2 : FAt Ha v1_2 a1.2.2) {r : Fo} (hp : PF.impl_formula_put a0 a1 = some r) :
  Calls Tryz.prog 50 #[v0, Value.agg #[v1_0, v1_1, v1_2]] wa (p_impl_formula_put Ha wa r) := w_impl_formula_put_F deep hs v0 a0 p0 a1 v1_0 p1_0 v1_1 p1_1 v1_2 p1_2 hp

@[reducible] def p_impl_caseOf (Ha : GH) (wa : World) (r : Fo) : Ending → World → Prop :=
 fun e w' => ∃ H' : GH, ∃ v0 : Value, e = .returned (v0) ∧ Run wa.heap.size Ha wa H' w' ∧ FAt H' v0 r
theorem w_impl_caseOf {Ha : GH} {wa : World} (hs : Sl Ha wa) (a0 : Int) (v1 : Value) (a1 : Fo) (p1 : FAt Ha v1 a1) (v2 : Value) (a2 : Fo) (p2 : FAt Ha v2 a2) (v3 : Value) (a3 : Fo) (p3 : FAt Ha v3 a3) (hT : TabS 0 PF.glob0 Ha) {r : Fo} (hp : (PF.impl_caseOf a0 a1 a2 a3) = some r) :
  Calls Tryz.prog 24 #[Value.int .i64 a0, v1, v2, v3] wa (p_impl_caseOf Ha wa r) := by
 unfold PF.impl_caseOf at hp
 have S0 := St.init hs
 refine calls_go (N := 25) (args := [Value.int .i64 a0, v1, v2, v3]) Tryz.func24 rfl rfl rfl ?_
 refine FW.seq (FW.region ?_)
 refine FL.v (E.assign (v := Value.pointer none) rfl) ?_
 refine FL.nil (FW.seq (FW.region ?_))
 refine FL.v (E.move (v := Value.int .i64 a0) rfl) ?_
 refine FL.v (E.sub rfl rfl) ?_
 obtain ⟨x21, hx22, hp⟩ := bnd hp
 obtain ⟨j23, hj24, l25, at26⟩ := CAt.ixs (xs := PF.glob0) hT hx22
 refine FL.v (E.indexArr (j := j23) (k := 1) (off := j23) Tryz.runUnderlying85 Tryz.sizeOf9 rfl (Eq.trans rfl (congrArg (Value.int .i64) hj24)) l25 (Nat.mul_one _)) ?_
 refine FL.v (E.load rfl (run_load0 Tryz.isAgg9 (at26.now S0.sl) rfl)) ?_
 obtain ⟨r27, hr28, hp⟩ := bnd hp
 refine FL.call rfl rfl rfl (E.call Tryz.call21 (A1 rfl)) (w_impl_parse S0.sl x21 hr28) ?_
 rintro e w30 ⟨H29, v33, rfl, r32, h34⟩
 refine ⟨_, rfl, ?_⟩
 have S31 := S0.call r32
 refine FL.v (E.move (v := Value.tuple #[v33, Value.bool r27.2]) rfl) ?_
 refine FL.v (E.extract (i := 0) rfl rfl) ?_
 refine FL.v (E.extract (i := 1) rfl rfl) ?_
 refine FL.v (E.assign (v := v33) rfl) ?_
 refine FL.v (E.assign (v := Value.bool r27.2) rfl) ?_
 refine FL.nil (FW.seq (FW.region ?_))
 refine FL.v (E.move (v := v33) rfl) ?_
 refine FL.v (E.move (v := v1) rfl) ?_
 refine FL.v (E.move (v := v2) rfl) ?_
 refine FL.v (E.move (v := v3) rfl) ?_
 refine FL.v (E.build (B3 rfl rfl rfl) (run_build _ 87 #[(0, v1), (1, v2), (2, v3)] #[v1, v2, v3] (by obtain ⟨_, rfl⟩ := FAt.ptr p1; obtain ⟨_, rfl⟩ := FAt.ptr p2; obtain ⟨_, rfl⟩ := FAt.ptr p3; rfl))) ?_
 obtain ⟨r35, hr36, hp⟩ := bnd hp
 refine FL.call rfl rfl rfl (E.call Tryz.call50 (A2 rfl rfl)) (w_impl_formula_put S31.sl v33 r27.1 h34 (a1, a2, a3) v1 (p1.mono r32.inc) v2 (p2.mono r32.inc) v3 (p3.mono r32.inc) hr36) ?_
 rintro e w38 ⟨H37, v41, rfl, r40, h42⟩
 refine ⟨_, rfl, ?_⟩
 have S39 := S31.call r40
 refine FL.v (E.assign (v := v41) rfl) ?_
 refine FL.nil ?_
 refine FW.ret ?_
 obtain rfl := Option.some.inj hp
 exact ⟨.inr rfl, res1 rfl rfl ⟨_, _, rfl, S39.run, h42⟩⟩

@[reducible] def p_impl_freger_put (H0 : GH) (w0 : World) (Ha : GH) (L : List MO) (b0 : Nat) (r : (Int × freger)) : Ending → World → Prop :=
 fun e w' => ∃ H' : GH, ∃ v0_0r : Value, ∃ n0_0r : Nat, ∃ c0_0r : List Value, e = .returned (Value.int .i64 r.1) ∧ (St H0 w0 H' w' (.box b0 56 [v0_0r, Value.bool r.2.long] :: .row 39 4 v0_0r n0_0r c0_0r :: L) ∧ Inc Ha H') ∧ Els (up w0.heap.size H') eFregeStep 4 c0_0r r.2.steps
set_option maxHeartbeats 4000000 in
theorem w_impl_freger_put {H0 Ha : GH} {w0 wa : World} {L : List MO} {a0 : freger} {b0 : Nat} {v0_0 : Value} {n0_0 : Nat} {k0_0 : List Value} (S0 : St H0 w0 Ha wa (.box b0 56 [v0_0, Value.bool a0.long] :: .row 39 4 v0_0 n0_0 k0_0 :: L)) (p0_0 : Els (up w0.heap.size Ha) eFregeStep 4 k0_0 a0.steps) (v1 : Value) (a1 : Fo) (p1 : FAt Ha v1 a1) (a2 : Int) (a3 : Int) (a4 : Int) {r : (Int × freger)} (hp : (PF.impl_freger_put a0 a1 a2 a3 a4) = some r) :
  Calls Tryz.prog 23 #[Value.pointer (some (⟨b0, 0, none⟩ : Addr)), v1, Value.int .i64 a2, Value.int .i64 a3, Value.int .i64 a4] wa (p_impl_freger_put H0 w0 Ha L b0 r) := by
 unfold PF.impl_freger_put at hp
 refine calls_go (N := 51) (args := [Value.pointer (some (⟨b0, 0, none⟩ : Addr)), v1, Value.int .i64 a2, Value.int .i64 a3, Value.int .i64 a4]) Tryz.func23 rfl rfl rfl ?_
 refine FW.seq (FW.region ?_)
 refine FL.v (E.assign (v := Value.int .i64 0) rfl) ?_
 refine FL.nil (FW.seq (FW.seq (FW.region ?_)))
 refine FL.v (E.move (v := v1) rfl) ?_
 obtain ⟨y21, hy22, hp⟩ := bnd hp
 obtain ⟨q23, v25, v26, rfl, at24, h27, h28⟩ := FAt.open p1 hy22
 refine FL.v (E.nilCheck rfl) ?_
 refine FL.v (E.fieldAddr tf70_3 rfl) ?_
 refine FL.v (E.load rfl (run_load1 Tryz.isAgg9 (at24.now S0.sl) rfl)) ?_
 refine FL.v (E.lenS Tryz.runUnderlying9 rfl) ?_
 refine FL.v (E.gtr rfl rfl) ?_
 refine FL.v (E.move (v := Value.bool (decide (80 < (y21.text.size : Int)))) rfl) ?_
 refine FL.cut 7 (fun f w => ∃ H : GH, St H0 w0 H w (.box b0 56 [v0_0, Value.bool a0.long] :: .row 39 4 v0_0 n0_0 k0_0 :: L) ∧ Inc Ha H ∧ f 0 = Value.pointer (some (⟨b0, 0, none⟩ : Addr)) ∧ f 1 = Value.pointer (some q23) ∧ f 2 = Value.int .i64 a2 ∧ f 3 = Value.int .i64 a3 ∧ f 4 = Value.int .i64 a4 ∧ f 24 = Value.bool (bif (decide (80 < (y21.text.size : Int))) then true else ((len a0.steps) == 80))) ?_ ?_
 ·
  rcases bcase (decide (80 < (y21.text.size : Int))) with c35 | c35
  ·
   refine FL.skip (wF_no rfl rfl rfl c35) rfl ?_
   refine FL.skip (wF_no rfl rfl rfl c35) rfl ?_
   refine FL.skip (wF_no rfl rfl rfl c35) rfl ?_
   refine FL.skip (wF_no rfl rfl rfl c35) rfl ?_
   refine FL.skip (wF_no rfl rfl rfl c35) rfl ?_
   refine FL.skip (wF_no rfl rfl rfl c35) rfl ?_
   refine FL.v (E.pickT rfl c35 rfl) ?_
   exact FL.nil ⟨rfl, _, S0, (Inc.rfl _), rfl, rfl, rfl, rfl, rfl, (congrArg Value.bool (bifT c35).symm)⟩
  ·
   refine FL.val (wF_yes rfl rfl rfl c35) rfl rfl (E.move (v := Value.pointer (some (⟨b0, 0, none⟩ : Addr))) rfl) ?_
   refine FL.val (wF_yes rfl rfl rfl c35) rfl rfl (E.nilCheck rfl) ?_
   refine FL.val (wF_yes rfl rfl rfl c35) rfl rfl (E.fieldAddr tf56_0 rfl) ?_
   refine FL.val (wF_yes rfl rfl rfl c35) rfl rfl (E.load rfl (run_load1 Tryz.isAgg25 (S0.box_now (i := 0) rfl) rfl)) ?_
   refine FL.val (wF_yes rfl rfl rfl c35) rfl rfl (E.lenO te25 rfl S0 (i := 1) rfl p0_0 (by decide)) ?_
   refine FL.val (wF_yes rfl rfl rfl c35) rfl rfl (E.eql rfl rfl) ?_
   refine FL.v (E.pickF rfl c35 rfl) ?_
   exact FL.nil ⟨rfl, _, S0, (Inc.rfl _), rfl, rfl, rfl, rfl, rfl, (congrArg Value.bool (bifF c35).symm)⟩
 rintro f34 w33 ⟨H30, S31, i32, k36, k37, k38, k39, k40, k41⟩
 refine FL.nil ?_
 obtain ⟨q47, hq, hp⟩ := bndR hp
 refine FW.joinE (S := Bool) (X := Empty) (q := q47) (fun s46 f w => ∃ H : GH, St H0 w0 H w (.box b0 56 [v0_0, Value.bool s46] :: .row 39 4 v0_0 n0_0 k0_0 :: L) ∧ Inc H30 H ∧ f 0 = Value.pointer (some (⟨b0, 0, none⟩ : Addr)) ∧ f 1 = Value.pointer (some q23) ∧ f 2 = Value.int .i64 a2 ∧ f 3 = Value.int .i64 a3 ∧ f 4 = Value.int .i64 a4) (fun (_ : Empty) _ _ _ => False) ?_ ?_ ?_
 ·
  clear hp; have hp := hq; clear hq
  rcases ifB hp with ⟨c49, hp⟩ | ⟨c49, hp⟩
  ·
   refine FW.condT k41 c49 ?_
   refine FW.region ?_
   refine FL.v (E.move k36) ?_
   refine FL.v (E.nilCheck rfl) ?_
   refine FL.v (E.fieldAddr tf56_1 rfl) ?_
   obtain ⟨w50, run51, S52⟩ := S31.store (P := Tryz.prog) (t := 4) (i := 0) (j := 1) (cs' := [v0_0, Value.bool true]) (l' := (.box b0 56 [v0_0, Value.bool true] :: .row 39 4 v0_0 n0_0 k0_0 :: L)) (v := Value.bool true) (c := [Value.bool true]) rfl Tryz.sizeOf4 rfl rfl (ones_cons rfl ones_nil) (Nat.le_of_ble_eq_true rfl) rfl rfl
   refine FL.act rfl rfl (E.store rfl rfl run51) ?_
   refine FL.nil ?_
   obtain rfl := Option.some.inj hp
   exact ⟨rfl, ⟨_, S52, (Inc.rfl _), k36, k37, k38, k39, k40⟩⟩
  ·
   refine FW.condF k41 c49 ?_
   refine FW.skip ?_
   obtain rfl := Option.some.inj hp
   exact ⟨rfl, ⟨_, S31, (Inc.rfl _), k36, k37, k38, k39, k40⟩⟩
 ·
  rintro s46 rfl f57 w56 ⟨H53, S54, i55, k58, k59, k60, k61, k62⟩
  replace hp := el_go hp
  refine FW.seq ?_
  obtain ⟨xs66, hz67, hp⟩ := bnd hp
  refine FW.drawB (Sl H53) (fun f w => ∃ H : GH, ∃ v81 : Value, ∃ n82 : Nat, ∃ cs83 : List Value, St H0 w0 H w (.box b0 56 [v81, Value.bool s46] :: .row 39 4 v81 n82 cs83 :: L) ∧ Inc H53 H ∧ Els (up w0.heap.size H) eFregeStep 4 cs83 xs66 ∧ f 0 = Value.pointer (some (⟨b0, 0, none⟩ : Addr))) (by kernel_rfl) S54.sl ?_ ?_
  ·
   intro w63 r64
   have S65 := S54.call r64
   refine FB.phase [17] (fun w => WAt w (Addr.add ⟨b0, 0, none⟩ 0) [v0_0]) ?_
   refine FB.t (i := 0) (bs 18 1) rfl (SP.on ((S65.box_now (i := 0) rfl).sub (j := 0) (n := 1) (c := [v0_0]) rfl) (SP.nil S65.sl)) rfl (fun w' hw' => (E.move k58)) ?_
   refine FB.t (i := 1) (bs 18 3) rfl (SP.on ((S65.box_now (i := 0) rfl).sub (j := 0) (n := 1) (c := [v0_0]) rfl) (SP.nil S65.sl)) rfl (fun w' hw' => (E.move k58)) ?_
   refine FB.t (i := 2) (bs 18 7) rfl (SP.on ((S65.box_now (i := 0) rfl).sub (j := 0) (n := 1) (c := [v0_0]) rfl) (SP.nil S65.sl)) rfl (fun w' hw' => (E.nilCheck rfl)) ?_
   refine FB.t (i := 3) (bs 18 15) rfl (SP.on ((S65.box_now (i := 0) rfl).sub (j := 0) (n := 1) (c := [v0_0]) rfl) (SP.nil S65.sl)) rfl (fun w' hw' => (E.fieldAddr tf56_0 rfl)) ?_
   refine FB.p (i := 4) (bs 18 31) 0 [14, 15, 16, 17] rfl (SP.on ((S65.box_now (i := 0) rfl).sub (j := 0) (n := 1) (c := [v0_0]) rfl) (SP.nil S65.sl)) rfl rfl (fun w' hw' => (E.load rfl (run_load0 Tryz.isAgg25 hw' rfl))) ?_
   refine FB.t (i := 5) (bs 18 63) rfl (SP.on ((S65.box_now (i := 0) rfl).sub (j := 0) (n := 1) (c := [v0_0]) rfl) (SP.nil S65.sl)) rfl (fun w' hw' => (E.move k59)) ?_
   refine FB.t (i := 6) (bs 18 127) rfl (SP.on ((S65.box_now (i := 0) rfl).sub (j := 0) (n := 1) (c := [v0_0]) rfl) (SP.nil S65.sl)) rfl (fun w' hw' => (E.nilCheck rfl)) ?_
   refine FB.t (i := 7) (bs 18 255) rfl (SP.on ((S65.box_now (i := 0) rfl).sub (j := 0) (n := 1) (c := [v0_0]) rfl) (SP.nil S65.sl)) rfl (fun w' hw' => (E.fieldAddr tf70_3 rfl)) ?_
   refine FB.t (i := 8) (bs 18 511) rfl (SP.on ((S65.box_now (i := 0) rfl).sub (j := 0) (n := 1) (c := [v0_0]) rfl) (SP.nil S65.sl)) rfl (fun w' hw' => (E.load rfl (run_load1 Tryz.isAgg9 ((at24.mono (i32.tr i55)).now hw') rfl))) ?_
   refine FB.t (i := 9) (bs 18 1023) rfl (SP.on ((S65.box_now (i := 0) rfl).sub (j := 0) (n := 1) (c := [v0_0]) rfl) (SP.nil S65.sl)) rfl (fun w' hw' => (E.move k60)) ?_
   refine FB.t (i := 10) (bs 18 2047) rfl (SP.on ((S65.box_now (i := 0) rfl).sub (j := 0) (n := 1) (c := [v0_0]) rfl) (SP.nil S65.sl)) rfl (fun w' hw' => (E.move k61)) ?_
   refine FB.t (i := 11) (bs 18 4095) rfl (SP.on ((S65.box_now (i := 0) rfl).sub (j := 0) (n := 1) (c := [v0_0]) rfl) (SP.nil S65.sl)) rfl (fun w' hw' => (E.move k62)) ?_
   refine FB.t (i := 12) (bs 18 8191) rfl (SP.on ((S65.box_now (i := 0) rfl).sub (j := 0) (n := 1) (c := [v0_0]) rfl) (SP.nil S65.sl)) rfl (fun w' hw' => (E.build (B4 rfl rfl rfl rfl) (run_build _ 39 #[(0, Value.string y21.text), (1, Value.int .i64 a2), (2, Value.int .i64 a3), (3, Value.int .i64 a4)] #[Value.string y21.text, Value.int .i64 a2, Value.int .i64 a3, Value.int .i64 a4] (by rfl)))) ?_
   refine FB.all1 (i := 13) (by kernel_rfl) ?_
   ·
    obtain ⟨v29, w42, run43, S44⟩ := S65.buildSlice (P := Tryz.prog) te25 [Value.agg #[Value.string y21.text, Value.int .i64 a2, Value.int .i64 a3, Value.int .i64 a4]] (parts := #[(0, Value.agg #[Value.string y21.text, Value.int .i64 a2, Value.int .i64 a3, Value.int .i64 a4])]) (cells := [Value.string y21.text, Value.int .i64 a2, Value.int .i64 a3, Value.int .i64 a4]) rfl (szs_cons rfl szs_nil) (fc_cons rfl fc_nil) (ones_cons rfl (ones_cons rfl (ones_cons rfl (ones_cons rfl ones_nil)))) (Nat.le_of_ble_eq_true rfl)
    have els45 : Els (up w0.heap.size H53) eFregeStep 4 [Value.string y21.text, Value.int .i64 a2, Value.int .i64 a3, Value.int .i64 a4] [(FregeStep.mk y21.text a2 a3 a4)] := (Els.snoc (H := (up w0.heap.size H53)) (E := eFregeStep) (k := 4) (c := [Value.string y21.text, Value.int .i64 a2, Value.int .i64 a3, Value.int .i64 a4]) (x := (FregeStep.mk y21.text a2 a3 a4)) Els.nil rfl rfl)
    refine FC.val (l' := (bs 18 16383)) rfl (by kernel_rfl) rfl rfl rfl (E.buildSlice (B1 rfl) run43) ?_
    refine ⟨(SP.on ((S44.box_now (i := 1) rfl).sub (j := 0) (n := 1) (c := [v0_0]) rfl) (SP.nil S44.sl)), ?_⟩
    refine FB.all1 (i := 14) (by kernel_rfl) ?_
    ·
     obtain ⟨v68, w72, n69, cs71, run73, S74, els75, ce76⟩ := S44.appendO (P := Tryz.prog) te25 (i := 2) (j := 0) rfl (p0_0.mono (up_mono (i32.tr i55))) rfl els45 hz67
     have S74 : St H0 w0 H53 w72 (.row 39 4 v29 1 [Value.string y21.text, Value.int .i64 a2, Value.int .i64 a3, Value.int .i64 a4] :: .box b0 56 [v0_0, Value.bool s46] :: .row 39 4 v68 n69 cs71 :: L) := S74
     have S77 : St H0 w0 H53 w72 (.box b0 56 [v0_0, Value.bool s46] :: .row 39 4 v68 n69 cs71 :: L) := S74.drop 0
     refine FC.val (l' := (bs 18 32767)) rfl (by kernel_rfl) rfl rfl rfl (E.append rfl rfl run73) ?_
     refine ⟨(SP.on ((S77.box_now (i := 0) rfl).sub (j := 0) (n := 1) (c := [v0_0]) rfl) (SP.nil S77.sl)), ?_⟩
     refine FB.t (i := 15) (bs 18 65535) rfl (SP.on ((S77.box_now (i := 0) rfl).sub (j := 0) (n := 1) (c := [v0_0]) rfl) (SP.nil S77.sl)) rfl (fun w' hw' => (E.nilCheck rfl)) ?_
     refine FB.t (i := 16) (bs 18 131071) rfl (SP.on ((S77.box_now (i := 0) rfl).sub (j := 0) (n := 1) (c := [v0_0]) rfl) (SP.nil S77.sl)) rfl (fun w' hw' => (E.fieldAddr tf56_0 rfl)) ?_
     refine FB.all1 (i := 17) (by kernel_rfl) ?_
     ·
      obtain ⟨w78, run79, S80⟩ := S77.store (P := Tryz.prog) (t := 25) (i := 0) (j := 0) (cs' := [v68, Value.bool s46]) (l' := (.box b0 56 [v68, Value.bool s46] :: .row 39 4 v68 n69 cs71 :: L)) (v := v68) (c := [v68]) rfl Tryz.sizeOf25 (Ln.cells (S77.row_ln (i := 1) rfl)) rfl (ones_cons (Ln.one (S77.row_ln (i := 1) rfl)) ones_nil) (Nat.le_of_ble_eq_true rfl) rfl rfl
      refine FC.act (l' := (bs 18 262143)) rfl (by kernel_rfl) rfl rfl (E.store rfl rfl run79) ?_
      refine ⟨(SP.o (SP.nil S80.sl)), ?_⟩
      exact FB.done (by kernel_rfl) ⟨_, _, _, _, S80, (Inc.rfl _), els75, k58⟩
  ·
   rintro f89 w88 ⟨H85, v81, n82, cs83, S86, i87, els84, k90⟩
   refine FW.seq (FW.region ?_)
   refine FL.v (E.move k90) ?_
   refine FL.v (E.nilCheck rfl) ?_
   refine FL.v (E.fieldAddr tf56_0 rfl) ?_
   refine FL.v (E.load rfl (run_load1 Tryz.isAgg25 (S86.box_now (i := 0) rfl) rfl)) ?_
   refine FL.v (E.lenO te25 rfl S86 (i := 1) rfl els84 (by decide)) ?_
   refine FL.v (E.sub rfl rfl) ?_
   refine FL.v (E.assign (v := Value.int .i64 (wr ((len xs66) - 1))) rfl) ?_
   refine FL.nil ?_
   refine FW.ret ?_
   obtain rfl := Option.some.inj hp
   exact ⟨.inr rfl, res1 rfl rfl ⟨_, _, _, _, rfl, ⟨S86, ((i32.tr i55).tr i87)⟩, els84⟩⟩
 ·
  intro x48; exact x48.elim

@[reducible] def p_impl_freger_identity (H0 : GH) (w0 : World) (Ha : GH) (L : List MO) (b0 : Nat) (r : (Int × freger)) : Ending → World → Prop :=
 fun e w' => ∃ H' : GH, ∃ v0_0r : Value, ∃ n0_0r : Nat, ∃ c0_0r : List Value, e = .returned (Value.int .i64 r.1) ∧ (St H0 w0 H' w' (.box b0 56 [v0_0r, Value.bool r.2.long] :: .row 39 4 v0_0r n0_0r c0_0r :: L) ∧ Inc Ha H') ∧ Els (up w0.heap.size H') eFregeStep 4 c0_0r r.2.steps
set_option maxHeartbeats 4000000 in
theorem w_impl_freger_identity {H0 Ha : GH} {w0 wa : World} {L : List MO} {a0 : freger} {b0 : Nat} {v0_0 : Value} {n0_0 : Nat} {k0_0 : List Value} (S0 : St H0 w0 Ha wa (.box b0 56 [v0_0, Value.bool a0.long] :: .row 39 4 v0_0 n0_0 k0_0 :: L)) (p0_0 : Els (up w0.heap.size Ha) eFregeStep 4 k0_0 a0.steps) (v1 : Value) (a1 : Fo) (p1 : FAt Ha v1 a1) (hT : TabS 0 PF.glob0 Ha) {r : (Int × freger)} (hp : (PF.impl_freger_identity a0 a1) = some r) :
  Calls Tryz.prog 22 #[Value.pointer (some (⟨b0, 0, none⟩ : Addr)), v1] wa (p_impl_freger_identity H0 w0 Ha L b0 r) := by
 unfold PF.impl_freger_identity at hp
 refine calls_go (N := 43) (args := [Value.pointer (some (⟨b0, 0, none⟩ : Addr)), v1]) Tryz.func22 rfl rfl rfl ?_
 refine FW.seq (FW.region ?_)
 refine FL.v (E.assign (v := Value.int .i64 0) rfl) ?_
 refine FL.nil (FW.seq (FW.region ?_))
 refine FL.v (E.move (v := v1) rfl) ?_
 refine FL.v (E.move (v := v1) rfl) ?_
 obtain ⟨r21, hr22, hp⟩ := bnd hp
 refine FL.call rfl rfl rfl (E.call Tryz.call26 (A3 rfl rfl rfl)) (w_impl_join S0.sl 62 v1 a1 p1 v1 a1 p1 hr22) ?_
 rintro e w24 ⟨H23, v27, rfl, r26, h28⟩
 refine ⟨_, rfl, ?_⟩
 have S25 := S0.call r26
 refine FL.v (E.assign (v := v27) rfl) ?_
 refine FL.nil (FW.seq (FW.region ?_))
 refine FL.v (E.move (v := Value.pointer (some (⟨b0, 0, none⟩ : Addr))) rfl) ?_
 refine FL.v (E.move (v := v1) rfl) ?_
 refine FL.v (E.move (v := v27) rfl) ?_
 refine FL.v (E.move (v := v1) rfl) ?_
 obtain ⟨r29, hr30, hp⟩ := bnd hp
 refine FL.call rfl rfl rfl (E.call Tryz.call24 (A4 rfl rfl rfl rfl)) (w_impl_caseOf S25.sl 2 v1 a1 (p1.mono r26.inc) v27 r21 h28 v1 a1 (p1.mono r26.inc) (hT.mono r26.inc) hr30) ?_
 rintro e w32 ⟨H31, v35, rfl, r34, h36⟩
 refine ⟨_, rfl, ?_⟩
 have S33 := S25.call r34
 obtain ⟨r37, hr38, hp⟩ := bnd hp
 have S39 : St H0 w0 H31 w32 (.row 39 4 v0_0 n0_0 k0_0 :: .box b0 56 [v0_0, Value.bool a0.long] :: L) := S33.front 1 rfl rfl
 have S40 : St H0 w0 H31 w32 (.box b0 56 [v0_0, Value.bool a0.long] :: .row 39 4 v0_0 n0_0 k0_0 :: L) := S39.front 1 rfl rfl
 refine FL.call rfl rfl rfl (E.call Tryz.call23 (A5 rfl rfl rfl rfl rfl)) (w_impl_freger_put (L := (L)) S40 (a0 := a0) (p0_0.mono (up_mono (r26.inc.tr r34.inc))) v35 r29 h36 2 0 0 hr38) ?_
 rintro e w42 ⟨H41, v45, n46, cs47, rfl, ⟨S43, i44⟩, els48⟩
 refine ⟨_, rfl, ?_⟩
 have S43 : St H0 w0 H41 w42 (.box b0 56 [v45, Value.bool r37.2.long] :: .row 39 4 v45 n46 cs47 :: L) := S43
 refine FL.v (E.assign (v := Value.int .i64 r37.1) rfl) ?_
 refine FL.nil (FW.seq (FW.region ?_))
 refine FL.v (E.move (v := Value.pointer (some (⟨b0, 0, none⟩ : Addr))) rfl) ?_
 refine FL.v (E.move (v := v1) rfl) ?_
 refine FL.v (E.move (v := v27) rfl) ?_
 obtain ⟨r49, hr50, hp⟩ := bnd hp
 refine FL.call rfl rfl rfl (E.call Tryz.call24 (A4 rfl rfl rfl rfl)) (w_impl_caseOf S43.sl 1 v1 a1 (p1.mono ((r26.inc.tr r34.inc).tr i44)) v27 r21 (h28.mono (r34.inc.tr i44)) (Value.pointer none) Fo.nil FAt.nil (hT.mono ((r26.inc.tr r34.inc).tr i44)) hr50) ?_
 rintro e w52 ⟨H51, v55, rfl, r54, h56⟩
 refine ⟨_, rfl, ?_⟩
 have S53 := S43.call r54
 obtain ⟨r57, hr58, hp⟩ := bnd hp
 have S59 : St H0 w0 H51 w52 (.row 39 4 v45 n46 cs47 :: .box b0 56 [v45, Value.bool r37.2.long] :: L) := S53.front 1 rfl rfl
 have S60 : St H0 w0 H51 w52 (.box b0 56 [v45, Value.bool r37.2.long] :: .row 39 4 v45 n46 cs47 :: L) := S59.front 1 rfl rfl
 refine FL.call rfl rfl rfl (E.call Tryz.call23 (A5 rfl rfl rfl rfl rfl)) (w_impl_freger_put (L := (L)) S60 (a0 := r37.2) (els48.mono (up_mono r54.inc)) v55 r49 h56 1 0 0 hr58) ?_
 rintro e w62 ⟨H61, v65, n66, cs67, rfl, ⟨S63, i64⟩, els68⟩
 refine ⟨_, rfl, ?_⟩
 have S63 : St H0 w0 H61 w62 (.box b0 56 [v65, Value.bool r57.2.long] :: .row 39 4 v65 n66 cs67 :: L) := S63
 refine FL.v (E.assign (v := Value.int .i64 r57.1) rfl) ?_
 refine FL.nil (FW.seq (FW.region ?_))
 refine FL.v (E.move (v := Value.pointer (some (⟨b0, 0, none⟩ : Addr))) rfl) ?_
 refine FL.v (E.move (v := v1) rfl) ?_
 refine FL.v (E.move (v := v27) rfl) ?_
 obtain ⟨r69, hr70, hp⟩ := bnd hp
 refine FL.call rfl rfl rfl (E.call Tryz.call26 (A3 rfl rfl rfl)) (w_impl_join S63.sl 62 v1 a1 (p1.mono ((((r26.inc.tr r34.inc).tr i44).tr r54.inc).tr i64)) v27 r21 (h28.mono (((r34.inc.tr i44).tr r54.inc).tr i64)) hr70) ?_
 rintro e w72 ⟨H71, v75, rfl, r74, h76⟩
 refine ⟨_, rfl, ?_⟩
 have S73 := S63.call r74
 refine FL.v (E.move (v := v27) rfl) ?_
 obtain ⟨r77, hr78, hp⟩ := bnd hp
 refine FL.call rfl rfl rfl (E.call Tryz.call26 (A3 rfl rfl rfl)) (w_impl_join S73.sl 62 v75 r69 h76 v27 r21 (h28.mono ((((r34.inc.tr i44).tr r54.inc).tr i64).tr r74.inc)) hr78) ?_
 rintro e w80 ⟨H79, v83, rfl, r82, h84⟩
 refine ⟨_, rfl, ?_⟩
 have S81 := S73.call r82
 refine FL.v (E.move (v := Value.int .i64 r57.1) rfl) ?_
 refine FL.v (E.move (v := Value.int .i64 r37.1) rfl) ?_
 obtain ⟨s97, hq97, hp⟩ := bnd hp
 obtain ⟨R97, hR97⟩ : ∃ R97 : ((List FregeStep) × Bool × Int) → Ending → World → Prop, R97 = (fun s97 e w => ∃ H : GH, ∃ v98 : Value, ∃ n99 : Nat, ∃ cs100 : List Value, e = Ending.returned (Value.int .i64 s97.2.2) ∧ St H0 w0 H w (.box b0 56 [v98, Value.bool s97.2.1] :: .row 39 4 v98 n99 cs100 :: L) ∧ Inc H79 H ∧ Els (up w0.heap.size H) eFregeStep 4 cs100 s97.1) := ⟨_, rfl⟩
 have hc97 : Calls Tryz.prog 25 #[Value.pointer (some (⟨b0, 0, none⟩ : Addr)), v83, Value.int .i64 r57.1, Value.int .i64 r37.1] w80 (R97 s97) := by
  clear hp; have hp := hq97; clear hq97
  refine calls_go (N := 14) (args := [Value.pointer (some (⟨b0, 0, none⟩ : Addr)), v83, Value.int .i64 r57.1, Value.int .i64 r37.1]) Tryz.func25 rfl rfl rfl ?_
  refine FW.seq (FW.region ?_)
  refine FL.v (E.assign (v := Value.int .i64 0) rfl) ?_
  refine FL.nil (FW.seq (FW.region ?_))
  refine FL.v (E.move (v := Value.pointer (some (⟨b0, 0, none⟩ : Addr))) rfl) ?_
  refine FL.v (E.move (v := v83) rfl) ?_
  refine FL.v (E.move (v := Value.int .i64 r57.1) rfl) ?_
  refine FL.v (E.move (v := Value.int .i64 r37.1) rfl) ?_
  obtain ⟨r102, hr103, hp⟩ := bnd hp
  have S104 : St H0 w0 H79 w80 (.row 39 4 v65 n66 cs67 :: .box b0 56 [v65, Value.bool r57.2.long] :: L) := S81.front 1 rfl rfl
  have S105 : St H0 w0 H79 w80 (.box b0 56 [v65, Value.bool r57.2.long] :: .row 39 4 v65 n66 cs67 :: L) := S104.front 1 rfl rfl
  refine FL.call rfl rfl rfl (E.call Tryz.call23 (A5 rfl rfl rfl rfl rfl)) (w_impl_freger_put (L := (L)) S105 (a0 := r57.2) (els68.mono (up_mono (r74.inc.tr r82.inc))) v83 r77 h84 (-1) r57.1 r37.1 hr103) ?_
  rintro e w107 ⟨H106, v110, n111, cs112, rfl, ⟨S108, i109⟩, els113⟩
  refine ⟨_, rfl, ?_⟩
  have S108 : St H0 w0 H106 w107 (.box b0 56 [v110, Value.bool r102.2.long] :: .row 39 4 v110 n111 cs112 :: L) := S108
  refine FL.v (E.assign (v := Value.int .i64 r102.1) rfl) ?_
  refine FL.nil ?_
  refine FW.ret ?_
  obtain rfl := Option.some.inj hp
  exact ⟨.inr rfl, res1 rfl rfl (by rw [hR97]; exact ⟨_, _, _, _, rfl, S108, i109, els113⟩)⟩
 clear hq97
 refine FL.call rfl rfl rfl (E.call Tryz.call25 (A4 rfl rfl rfl rfl)) hc97 ?_
 intro e w117 hQ97
 rw [hR97] at hQ97
 obtain ⟨H114, v98, n99, cs100, rfl, S115, i116, els101⟩ := hQ97
 refine ⟨_, rfl, ?_⟩
 refine FL.v (E.assign (v := Value.int .i64 s97.2.2) rfl) ?_
 refine FL.nil (FW.seq (FW.region ?_))
 refine FL.v (E.move (v := Value.pointer (some (⟨b0, 0, none⟩ : Addr))) rfl) ?_
 refine FL.v (E.move (v := v1) rfl) ?_
 refine FL.v (E.move (v := v1) rfl) ?_
 obtain ⟨r119, hr120, hp⟩ := bnd hp
 refine FL.call rfl rfl rfl (E.call Tryz.call24 (A4 rfl rfl rfl rfl)) (w_impl_caseOf S115.sl 1 v1 a1 (p1.mono (((((((r26.inc.tr r34.inc).tr i44).tr r54.inc).tr i64).tr r74.inc).tr r82.inc).tr i116)) v1 a1 (p1.mono (((((((r26.inc.tr r34.inc).tr i44).tr r54.inc).tr i64).tr r74.inc).tr r82.inc).tr i116)) (Value.pointer none) Fo.nil FAt.nil (hT.mono (((((((r26.inc.tr r34.inc).tr i44).tr r54.inc).tr i64).tr r74.inc).tr r82.inc).tr i116)) hr120) ?_
 rintro e w122 ⟨H121, v125, rfl, r124, h126⟩
 refine ⟨_, rfl, ?_⟩
 have S123 := S115.call r124
 obtain ⟨r127, hr128, hp⟩ := bnd hp
 have S129 : St H0 w0 H121 w122 (.row 39 4 v98 n99 cs100 :: .box b0 56 [v98, Value.bool s97.2.1] :: L) := S123.front 1 rfl rfl
 have S130 : St H0 w0 H121 w122 (.box b0 56 [v98, Value.bool s97.2.1] :: .row 39 4 v98 n99 cs100 :: L) := S129.front 1 rfl rfl
 refine FL.call rfl rfl rfl (E.call Tryz.call23 (A5 rfl rfl rfl rfl rfl)) (w_impl_freger_put (L := (L)) S130 (a0 := (freger.mk s97.1 s97.2.1)) (els101.mono (up_mono r124.inc)) v125 r119 h126 1 0 0 hr128) ?_
 rintro e w132 ⟨H131, v135, n136, cs137, rfl, ⟨S133, i134⟩, els138⟩
 refine ⟨_, rfl, ?_⟩
 have S133 : St H0 w0 H131 w132 (.box b0 56 [v135, Value.bool r127.2.long] :: .row 39 4 v135 n136 cs137 :: L) := S133
 refine FL.v (E.assign (v := Value.int .i64 r127.1) rfl) ?_
 refine FL.nil (FW.seq (FW.region ?_))
 refine FL.v (E.move (v := Value.pointer (some (⟨b0, 0, none⟩ : Addr))) rfl) ?_
 refine FL.v (E.move (v := v27) rfl) ?_
 refine FL.v (E.move (v := Value.int .i64 r127.1) rfl) ?_
 refine FL.v (E.move (v := Value.int .i64 s97.2.2) rfl) ?_
 obtain ⟨s151, hq151, hp⟩ := bnd hp
 obtain ⟨R151, hR151⟩ : ∃ R151 : ((List FregeStep) × Bool × Int) → Ending → World → Prop, R151 = (fun s151 e w => ∃ H : GH, ∃ v152 : Value, ∃ n153 : Nat, ∃ cs154 : List Value, e = Ending.returned (Value.int .i64 s151.2.2) ∧ St H0 w0 H w (.box b0 56 [v152, Value.bool s151.2.1] :: .row 39 4 v152 n153 cs154 :: L) ∧ Inc H131 H ∧ Els (up w0.heap.size H) eFregeStep 4 cs154 s151.1) := ⟨_, rfl⟩
 have hc151 : Calls Tryz.prog 25 #[Value.pointer (some (⟨b0, 0, none⟩ : Addr)), v27, Value.int .i64 r127.1, Value.int .i64 s97.2.2] w132 (R151 s151) := by
  clear hp; have hp := hq151; clear hq151
  refine calls_go (N := 14) (args := [Value.pointer (some (⟨b0, 0, none⟩ : Addr)), v27, Value.int .i64 r127.1, Value.int .i64 s97.2.2]) Tryz.func25 rfl rfl rfl ?_
  refine FW.seq (FW.region ?_)
  refine FL.v (E.assign (v := Value.int .i64 0) rfl) ?_
  refine FL.nil (FW.seq (FW.region ?_))
  refine FL.v (E.move (v := Value.pointer (some (⟨b0, 0, none⟩ : Addr))) rfl) ?_
  refine FL.v (E.move (v := v27) rfl) ?_
  refine FL.v (E.move (v := Value.int .i64 r127.1) rfl) ?_
  refine FL.v (E.move (v := Value.int .i64 s97.2.2) rfl) ?_
  obtain ⟨r156, hr157, hp⟩ := bnd hp
  have S158 : St H0 w0 H131 w132 (.row 39 4 v135 n136 cs137 :: .box b0 56 [v135, Value.bool r127.2.long] :: L) := S133.front 1 rfl rfl
  have S159 : St H0 w0 H131 w132 (.box b0 56 [v135, Value.bool r127.2.long] :: .row 39 4 v135 n136 cs137 :: L) := S158.front 1 rfl rfl
  refine FL.call rfl rfl rfl (E.call Tryz.call23 (A5 rfl rfl rfl rfl rfl)) (w_impl_freger_put (L := (L)) S159 (a0 := r127.2) els138 v27 r21 (h28.mono ((((((((r34.inc.tr i44).tr r54.inc).tr i64).tr r74.inc).tr r82.inc).tr i116).tr r124.inc).tr i134)) (-1) r127.1 s97.2.2 hr157) ?_
  rintro e w161 ⟨H160, v164, n165, cs166, rfl, ⟨S162, i163⟩, els167⟩
  refine ⟨_, rfl, ?_⟩
  have S162 : St H0 w0 H160 w161 (.box b0 56 [v164, Value.bool r156.2.long] :: .row 39 4 v164 n165 cs166 :: L) := S162
  refine FL.v (E.assign (v := Value.int .i64 r156.1) rfl) ?_
  refine FL.nil ?_
  refine FW.ret ?_
  obtain rfl := Option.some.inj hp
  exact ⟨.inr rfl, res1 rfl rfl (by rw [hR151]; exact ⟨_, _, _, _, rfl, S162, i163, els167⟩)⟩
 clear hq151
 refine FL.call rfl rfl rfl (E.call Tryz.call25 (A4 rfl rfl rfl rfl)) hc151 ?_
 intro e w171 hQ151
 rw [hR151] at hQ151
 obtain ⟨H168, v152, n153, cs154, rfl, S169, i170, els155⟩ := hQ151
 refine ⟨_, rfl, ?_⟩
 refine FL.v (E.assign (v := Value.int .i64 s151.2.2) rfl) ?_
 refine FL.nil ?_
 refine FW.ret ?_
 obtain rfl := Option.some.inj hp
 exact ⟨.inr rfl, res1 rfl rfl ⟨_, _, _, _, rfl, ⟨S169, ((((((((((r26.inc.tr r34.inc).tr i44).tr r54.inc).tr i64).tr r74.inc).tr r82.inc).tr i116).tr r124.inc).tr i134).tr i170)⟩, els155⟩⟩

@[reducible] def p_impl_Discharge (Ha : GH) (wa : World) (r : ((List FregeStep) × Bool)) : Ending → World → Prop :=
 fun e w' => ∃ H' : GH, ∃ v0 : Value, ∃ n0 : Nat, ∃ c0 : List Value, e = .returned (Value.tuple #[v0, Value.bool r.2]) ∧ St Ha wa H' w' [.row 39 4 v0 n0 c0] ∧ Els (up wa.heap.size H') eFregeStep 4 c0 r.1
set_option maxHeartbeats 4000000 in
theorem w_impl_Discharge {Ha : GH} {wa : World} (hs : Sl Ha wa) (v0 : Value) (a0 : List ByteArray) (p0 : RSl Ha eS 1 v0 a0) (v1 : Value) (a1 : List FregeStep) (p1 : RSl Ha eFregeStep 4 v1 a1) (a2 : Int) (hT : TabS 0 PF.glob0 Ha) {r : ((List FregeStep) × Bool)} (hp : (PF.impl_Discharge a0 a1 a2) = some r) :
  Calls Tryz.prog 6 #[v0, v1, Value.int .i64 a2] wa (p_impl_Discharge Ha wa r) := by
 unfold PF.impl_Discharge at hp
 have S0 := St.init hs
 refine calls_go (N := 144) (args := [v0, v1, Value.int .i64 a2]) Tryz.func6 rfl rfl rfl ?_
 refine FW.seq (FW.region ?_)
 refine FL.v (E.assign (v := Value.slice none 0 0) rfl) ?_
 refine FL.v (E.assign (v := Value.bool false) rfl) ?_
 refine FL.nil (FW.seq (FW.seq (FW.region ?_)))
 refine FL.v (E.move (v := v0) rfl) ?_
 refine FL.v (E.move (v := v1) rfl) ?_
 obtain ⟨r21, hr22, hp⟩ := bnd hp
 refine FL.call rfl rfl rfl (E.call Tryz.call19 (A2 rfl rfl)) (w_impl_fregeProof S0.sl v0 a0 p0 v1 a1 p1 hT hr22) ?_
 rintro e w23 ⟨rfl, r24⟩
 refine ⟨_, rfl, ?_⟩
 have S25 := S0.call r24
 refine FL.v (E.not rfl) ?_
 refine FL.v (E.move (v := Value.bool (!r21)) rfl) ?_
 refine FL.cut 7 (fun f w => ∃ H : GH, St Ha wa H w [] ∧ Inc Ha H ∧ f 0 = v0 ∧ f 1 = v1 ∧ f 2 = Value.int .i64 a2 ∧ f 33 = Value.bool (bif (!r21) then true else (!(PF.impl_within a2 0 (wr ((len a0) - 1)))))) ?_ ?_
 ·
  rcases bcase (!r21) with c35 | c35
  ·
   refine FL.skip (wF_no rfl rfl rfl c35) rfl ?_
   refine FL.skip (wF_no rfl rfl rfl c35) rfl ?_
   refine FL.skip (wF_no rfl rfl rfl c35) rfl ?_
   refine FL.skip (wF_no rfl rfl rfl c35) rfl ?_
   refine FL.skip (wF_no rfl rfl rfl c35) rfl ?_
   refine FL.skip (wF_no rfl rfl rfl c35) rfl ?_
   refine FL.v (E.pickT rfl c35 rfl) ?_
   exact FL.nil ⟨rfl, _, S25, (Inc.rfl _), rfl, rfl, rfl, (congrArg Value.bool (bifT c35).symm)⟩
  ·
   refine FL.val (wF_yes rfl rfl rfl c35) rfl rfl (E.move (v := Value.int .i64 a2) rfl) ?_
   refine FL.val (wF_yes rfl rfl rfl c35) rfl rfl (E.move (v := v0) rfl) ?_
   refine FL.val (wF_yes rfl rfl rfl c35) rfl rfl (E.lenP te24 rfl p0) ?_
   refine FL.val (wF_yes rfl rfl rfl c35) rfl rfl (E.sub rfl rfl) ?_
   refine FL.call (wF_yes rfl rfl rfl c35) rfl rfl (E.call Tryz.call20 (A3 rfl rfl rfl)) (w_impl_within S25.sl a2 0 (wr ((len a0) - 1))) ?_
   rintro e w36 ⟨rfl, r37⟩
   refine ⟨_, rfl, ?_⟩
   have S38 := S25.call r37
   refine FL.val (wF_yes rfl rfl rfl c35) rfl rfl (E.not rfl) ?_
   refine FL.v (E.pickF rfl c35 rfl) ?_
   exact FL.nil ⟨rfl, _, S38, (Inc.rfl _), rfl, rfl, rfl, (congrArg Value.bool (bifF c35).symm)⟩
 rintro f34 w33 ⟨H30, S31, i32, k39, k40, k41, k42⟩
 refine FL.nil ?_
 rcases ifB hp with ⟨c43, hp⟩ | ⟨c43, hp⟩
 ·
  refine FW.condT k42 c43 ?_
  refine FW.seq (FW.region ?_)
  refine FL.v (E.assign (v := Value.slice none 0 0) rfl) ?_
  refine FL.v (E.assign (v := Value.bool false) rfl) ?_
  refine FL.nil ?_
  refine FW.ret ?_
  obtain rfl := Option.some.inj hp
  exact ⟨.inr rfl, res2 rfl rfl rfl ⟨_, _, _, _, rfl, (S31.nil 39 4), Els.nil⟩⟩
 ·
  refine FW.condF k42 c43 ?_
  refine FW.skip (FW.seq (FW.region ?_))
  refine FL.v (E.move k39) ?_
  refine FL.v (E.move k41) ?_
  obtain ⟨x50, hx51, hp⟩ := bnd hp
  obtain ⟨p44, cs45, pt46, l47, at48, rel49⟩ := p0.at hx51
  obtain rfl := eS_open rel49
  refine FL.v (E.indexAddr te24 rfl rfl pt46) ?_
  refine FL.v (E.load rfl (run_load0 Tryz.isAgg9 ((at48.mono i32).now S31.sl) rfl)) ?_
  obtain ⟨r52, hr53, hp⟩ := bnd hp
  refine FL.call rfl rfl rfl (E.call Tryz.call21 (A1 rfl)) (w_impl_parse S31.sl x50 hr53) ?_
  rintro e w55 ⟨H54, v58, rfl, r57, h59⟩
  refine ⟨_, rfl, ?_⟩
  have S56 := S31.call r57
  refine FL.v (E.move (v := Value.tuple #[v58, Value.bool r52.2]) rfl) ?_
  refine FL.v (E.extract (i := 0) rfl rfl) ?_
  refine FL.v (E.extract (i := 1) rfl rfl) ?_
  refine FL.v (E.assign (v := v58) rfl) ?_
  refine FL.v (E.assign (v := Value.bool r52.2) rfl) ?_
  refine FL.nil (FW.seq (FW.region ?_))
  refine FL.v (E.build (B0) (run_build _ 56 #[] #[Value.slice none 0 0, Value.bool false] (by rfl))) ?_
  have S64 := S56.nil 39 4
  have els65 : Els (up wa.heap.size H54) eFregeStep 4 [] [] := Els.nil
  obtain ⟨b60, w61, run62, S63⟩ := S64.box (P := Tryz.prog) 56 [(Value.slice none 0 0), Value.bool false] (v := Value.agg #[Value.slice none 0 0, Value.bool false]) rfl (ones_cons (Ln.one (S64.row_ln (i := 0) rfl)) (ones_cons rfl ones_nil))
  refine FL.v (E.box rfl run62) ?_
  refine FL.v (E.assign (v := Value.pointer (some (⟨b60, 0, none⟩ : Addr))) rfl) ?_
  refine FL.nil (FW.seq (FW.region ?_))
  refine FL.v (E.assign (v := Value.slice none 0 0) rfl) ?_
  refine FL.nil (FW.seq (FW.seq (FW.region ?_)))
  refine FL.v (E.move k40) ?_
  refine FL.v (E.lenP te25 rfl p1) ?_
  refine FL.v (E.move (v := Value.int .i64 0) rfl) ?_
  refine FL.nil ?_
  obtain ⟨q67, hq, hp⟩ := bndR hp
  refine FW.block ?_
  refine FW.mono (FW.forL (S := ((List FregeStep) × Bool × (List Int))) (X := Empty) (fun (i67 : Nat) (s67 : ((List FregeStep) × Bool × (List Int))) f w => ∃ H : GH, ∃ v26 : Value, ∃ n27 : Nat, ∃ cs28 : List Value, ∃ v68 : Value, ∃ n69 : Nat, ∃ cs70 : List Value, St Ha wa H w [.box b60 56 [v26, Value.bool s67.2.1], .row 39 4 v26 n27 cs28, .row 3 1 v68 n69 cs70] ∧ Inc H54 H ∧ Els (up wa.heap.size H) eFregeStep 4 cs28 s67.1 ∧ Els (up wa.heap.size H) eI 1 cs70 s67.2.2 ∧ f 46 = Value.int .i64 ((i67 : Nat) : Int) ∧ f 1 = v1 ∧ f 2 = Value.int .i64 a2 ∧ f 8 = v58 ∧ f 10 = Value.pointer (some (⟨b60, 0, none⟩ : Addr)) ∧ f 11 = v68 ∧ f 44 = v1 ∧ f 45 = Value.int .i64 (len a1)) (fun (q : Rs ((List FregeStep) × Bool × (List Int)) Empty) e f w => match q with | .go s67 => e = Exit.exit 0 ∧ (∃ H : GH, ∃ v26 : Value, ∃ n27 : Nat, ∃ cs28 : List Value, ∃ v68 : Value, ∃ n69 : Nat, ∃ cs70 : List Value, St Ha wa H w [.box b60 56 [v26, Value.bool s67.2.1], .row 39 4 v26 n27 cs28, .row 3 1 v68 n69 cs70] ∧ Inc H54 H ∧ Els (up wa.heap.size H) eFregeStep 4 cs28 s67.1 ∧ Els (up wa.heap.size H) eI 1 cs70 s67.2.2 ∧ f 10 = Value.pointer (some (⟨b60, 0, none⟩ : Addr))) | .rt x => x.elim) hq ⟨_, _, _, _, _, _, _, ((S63.nil 3 1).sel [1, 2, 0] (by decide) rfl), (Inc.rfl _), els65, Els.nil, rfl, k40, k41, rfl, rfl, rfl, rfl, rfl⟩ ?_ ?_) ?_
  ·
   clear hp hq
   rintro i67 y66 s67 f76 w75 ⟨H72, v26, n27, cs28, v68, n69, cs70, S73, i74, els29, els71, k77, k78, k79, k80, k81, k82, k83, k84⟩ hx67 o422 hp
   refine FW.seq (FW.region ?_)
   refine FL.v (E.lssT k77 k84 (lss_len hx67)) ?_
   refine FL.nil (FW.seq ?_)
   refine FW.condT rfl rfl ?_
   refine FW.skip (FW.seq (FW.block (FW.seq (FW.region ?_))))
   obtain ⟨p85, cs86, pt87, l88, at89, rel90⟩ := p1.at (ix_nat hx67)
   obtain rfl := eFregeStep_open rel90
   refine FL.v (E.indexAddr te25 k83 k77 pt87) ?_
   refine FL.v (E.load rfl (run_loadA Tryz.isAgg39 Tryz.sizeOf39 ((at89.mono ((i32.tr r57.inc).tr i74)).now S73.sl) rfl)) ?_
   obtain ⟨b91, w92, run93, S94⟩ := S73.alloc (P := Tryz.prog) 39 [Value.string ByteArray.empty, Value.int .i64 0, Value.int .i64 0, Value.int .i64 0] Tryz.zeroValue39 rfl (ones_cons rfl (ones_cons rfl (ones_cons rfl (ones_cons rfl ones_nil))))
   refine FL.v (E.alloc run93) ?_
   obtain ⟨w95, run96, S97⟩ := S94.store0 (P := Tryz.prog) (t := 39) (i := 0) (cs' := [Value.string y66.formula, Value.int .i64 y66.rule, Value.int .i64 y66.a, Value.int .i64 y66.b]) (l' := [.box b91 39 [Value.string y66.formula, Value.int .i64 y66.rule, Value.int .i64 y66.a, Value.int .i64 y66.b], .box b60 56 [v26, Value.bool s67.2.1], .row 39 4 v26 n27 cs28, .row 3 1 v68 n69 cs70]) (v := Value.agg #[Value.string y66.formula, Value.int .i64 y66.rule, Value.int .i64 y66.a, Value.int .i64 y66.b]) (c := [Value.string y66.formula, Value.int .i64 y66.rule, Value.int .i64 y66.a, Value.int .i64 y66.b]) rfl Tryz.sizeOf39 rfl rfl (ones_cons rfl (ones_cons rfl (ones_cons rfl (ones_cons rfl ones_nil)))) (Nat.le_of_ble_eq_true rfl) rfl rfl
   refine FL.act rfl rfl (E.store rfl rfl run96) ?_
   obtain ⟨H98, S99, i100, at101⟩ := S97.sealBox (i := 0) (l' := [.box b60 56 [v26, Value.bool s67.2.1], .row 39 4 v26 n27 cs28, .row 3 1 v68 n69 cs70]) rfl rfl
   refine FL.nil (FW.seq (FW.region ?_))
   refine FL.v (E.fieldAddr tf39_0 rfl) ?_
   refine FL.v (E.load rfl (run_load1 Tryz.isAgg9 (at101.now S99.sl) rfl)) ?_
   obtain ⟨r102, hr103, hp⟩ := bnd hp
   refine FL.call rfl rfl rfl (E.call Tryz.call21 (A1 rfl)) (w_impl_parse S99.sl y66.formula hr103) ?_
   rintro e w105 ⟨H104, v108, rfl, r107, h109⟩
   refine ⟨_, rfl, ?_⟩
   have S106 := S99.call r107
   refine FL.v (E.move (v := Value.tuple #[v108, Value.bool r102.2]) rfl) ?_
   refine FL.v (E.extract (i := 0) rfl rfl) ?_
   refine FL.v (E.extract (i := 1) rfl rfl) ?_
   refine FL.v (E.assign (v := v108) rfl) ?_
   refine FL.v (E.assign (v := Value.bool r102.2) rfl) ?_
   refine FL.nil (FW.seq (FW.region ?_))
   refine FL.v (E.assign (v := Value.int .i64 0) rfl) ?_
   refine FL.nil (FW.seq (FW.block (FW.seq (FW.region ?_))))
   refine FL.v (E.fieldAddr tf39_1 rfl) ?_
   refine FL.v (E.load rfl (run_load1 Tryz.isAgg3 ((at101.mono r107.inc).now S106.sl) rfl)) ?_
   refine FL.v (E.eql rfl rfl) ?_
   refine FL.v (E.move (v := Value.bool (y66.rule == 0)) rfl) ?_
   refine FL.cut 5 (fun f w => ∃ H : GH, St Ha wa H w [.box b60 56 [v26, Value.bool s67.2.1], .row 39 4 v26 n27 cs28, .row 3 1 v68 n69 cs70] ∧ Inc H104 H ∧ f 1 = v1 ∧ f 2 = Value.int .i64 a2 ∧ f 8 = v58 ∧ f 10 = Value.pointer (some (⟨b60, 0, none⟩ : Addr)) ∧ f 11 = v68 ∧ f 13 = Value.pointer (some ⟨b91, 0, none⟩) ∧ f 14 = v108 ∧ f 44 = v1 ∧ f 45 = Value.int .i64 (len a1) ∧ f 46 = Value.int .i64 ((i67 : Nat) : Int) ∧ f 85 = Value.bool (bif (y66.rule == 0) then (y66.a == a2) else false)) ?_ ?_
   ·
    rcases bcase (y66.rule == 0) with c115 | c115
    ·
     refine FL.val (wF_yes rfl rfl rfl c115) rfl rfl (E.fieldAddr tf39_2 rfl) ?_
     refine FL.val (wF_yes rfl rfl rfl c115) rfl rfl (E.load rfl (run_load1 Tryz.isAgg3 ((at101.mono r107.inc).now S106.sl) rfl)) ?_
     refine FL.val (wF_yes rfl rfl rfl c115) rfl rfl (E.move k79) ?_
     refine FL.val (wF_yes rfl rfl rfl c115) rfl rfl (E.eql rfl rfl) ?_
     refine FL.v (E.pickT rfl c115 rfl) ?_
     exact FL.nil ⟨rfl, _, S106, (Inc.rfl _), k78, k79, k80, k81, k82, rfl, rfl, k83, k84, k77, (congrArg Value.bool (bifT c115).symm)⟩
    ·
     refine FL.skip (wF_no rfl rfl rfl c115) rfl ?_
     refine FL.skip (wF_no rfl rfl rfl c115) rfl ?_
     refine FL.skip (wF_no rfl rfl rfl c115) rfl ?_
     refine FL.skip (wF_no rfl rfl rfl c115) rfl ?_
     refine FL.v (E.pickF rfl c115 rfl) ?_
     exact FL.nil ⟨rfl, _, S106, (Inc.rfl _), k78, k79, k80, k81, k82, rfl, rfl, k83, k84, k77, (congrArg Value.bool (bifF c115).symm)⟩
   rintro f114 w113 ⟨H110, S111, i112, k116, k117, k118, k119, k120, k121, k122, k123, k124, k125, k126⟩
   refine FL.v (E.assign k126) ?_
   refine FL.nil ?_
   rcases ifB hp with ⟨c127, hp⟩ | ⟨c127, hp⟩
   ·
    refine FW.condT rfl c127 ?_
    refine FW.region ?_
    refine FL.v (E.move k119) ?_
    refine FL.v (E.move k118) ?_
    obtain ⟨r128, hr129, hp⟩ := bnd hp
    have S130 : St Ha wa H110 w113 [.row 39 4 v26 n27 cs28, .box b60 56 [v26, Value.bool s67.2.1], .row 3 1 v68 n69 cs70] := S111.front 1 rfl rfl
    have S131 : St Ha wa H110 w113 [.box b60 56 [v26, Value.bool s67.2.1], .row 39 4 v26 n27 cs28, .row 3 1 v68 n69 cs70] := S130.front 1 rfl rfl
    refine FL.call rfl rfl rfl (E.call Tryz.call22 (A2 rfl rfl)) (w_impl_freger_identity (L := [.row 3 1 v68 n69 cs70]) S131 (a0 := (freger.mk s67.1 s67.2.1)) (els29.mono (up_mono ((i100.tr r107.inc).tr i112))) v58 r52.1 (h59.mono (((i74.tr i100).tr r107.inc).tr i112)) (hT.mono (((((i32.tr r57.inc).tr i74).tr i100).tr r107.inc).tr i112)) hr129) ?_
    rintro e w133 ⟨H132, v136, n137, cs138, rfl, ⟨S134, i135⟩, els139⟩
    refine ⟨_, rfl, ?_⟩
    have S134 : St Ha wa H132 w133 [.box b60 56 [v136, Value.bool r128.2.long], .row 39 4 v136 n137 cs138, .row 3 1 v68 n69 cs70] := S134
    refine FL.v (E.assign (v := Value.int .i64 r128.1) rfl) ?_
    refine FL.nil (FW.region ?_)
    refine FL.v (E.move k120) ?_
    refine FL.v (E.move (v := Value.int .i64 r128.1) rfl) ?_
    obtain ⟨v140, w141, run142, S143, els144⟩ := S134.ints (P := Tryz.prog) te33 (up wa.heap.size H132) 1 [r128.1]
    refine FL.v (E.buildSlice (B1 rfl) run142) ?_
    obtain ⟨xs145, hz146, hp⟩ := bnd hp
    obtain ⟨v147, w150, n148, cs149, run151, S152, els153, ce154⟩ := S143.appendO (P := Tryz.prog) te33 (i := 3) (j := 0) rfl (els71.mono (up_mono (((i100.tr r107.inc).tr i112).tr i135))) rfl els144 hz146
    have S152 : St Ha wa H132 w150 [.row 3 1 v140 1 (iC [r128.1]), .box b60 56 [v136, Value.bool r128.2.long], .row 39 4 v136 n137 cs138, .row 3 1 v147 n148 cs149] := S152
    have S155 : St Ha wa H132 w150 [.box b60 56 [v136, Value.bool r128.2.long], .row 39 4 v136 n137 cs138, .row 3 1 v147 n148 cs149] := S152.drop 0
    refine FL.v (E.append rfl rfl run151) ?_
    refine FL.v (E.assign (v := v147) rfl) ?_
    refine FL.nil (FW.region ?_)
    refine FL.v (E.add k125 rfl) ?_
    refine FL.v (E.move (v := Value.int .i64 (wr (((i67 : Nat) : Int) + 1))) rfl) ?_
    refine FL.nil ?_
    obtain rfl := Option.some.inj hp
    exact ⟨rfl, ⟨_, _, _, _, _, _, _, S155, ((((i74.tr i100).tr r107.inc).tr i112).tr i135), els139, els153, (nat_succ rfl (lt_of_get hx67) (p1.mono ((((((i32.tr r57.inc).tr i74).tr i100).tr r107.inc).tr i112).tr i135)).le), k116, k117, k118, k119, rfl, k123, k124⟩⟩
   ·
    refine FW.condF rfl c127 ?_
    refine FW.seq (FW.region ?_)
    refine FL.v (E.fieldAddr tf39_1 k121) ?_
    refine FL.v (E.load rfl (run_load1 Tryz.isAgg3 ((at101.mono (r107.inc.tr i112)).now S111.sl) rfl)) ?_
    refine FL.v (E.eql rfl rfl) ?_
    refine FL.v (E.assign (v := Value.bool (y66.rule == (-1))) rfl) ?_
    refine FL.nil ?_
    rcases ifB hp with ⟨c156, hp⟩ | ⟨c156, hp⟩
    ·
     refine FW.condT rfl c156 ?_
     refine FW.seq (FW.region ?_)
     refine FL.v (E.move k116) ?_
     refine FL.v (E.fieldAddr tf39_2 k121) ?_
     refine FL.v (E.load rfl (run_load1 Tryz.isAgg3 ((at101.mono (r107.inc.tr i112)).now S111.sl) rfl)) ?_
     obtain ⟨x163, hx164, hp⟩ := bnd hp
     obtain ⟨p157, cs158, pt159, l160, at161, rel162⟩ := p1.at hx164
     obtain rfl := eFregeStep_open rel162
     refine FL.v (E.indexAddr te25 rfl rfl pt159) ?_
     refine FL.v (E.fieldAddr tf39_0 rfl) ?_
     refine FL.v (E.load rfl (run_load1 Tryz.isAgg9 ((at161.mono (((((i32.tr r57.inc).tr i74).tr i100).tr r107.inc).tr i112)).now S111.sl) rfl)) ?_
     obtain ⟨r165, hr166, hp⟩ := bnd hp
     refine FL.call rfl rfl rfl (E.call Tryz.call21 (A1 rfl)) (w_impl_parse S111.sl x163.formula hr166) ?_
     rintro e w168 ⟨H167, v171, rfl, r170, h172⟩
     refine ⟨_, rfl, ?_⟩
     have S169 := S111.call r170
     refine FL.v (E.move (v := Value.tuple #[v171, Value.bool r165.2]) rfl) ?_
     refine FL.v (E.extract (i := 0) rfl rfl) ?_
     refine FL.v (E.extract (i := 1) rfl rfl) ?_
     refine FL.v (E.assign (v := v171) rfl) ?_
     refine FL.v (E.assign (v := Value.bool r165.2) rfl) ?_
     refine FL.nil (FW.seq (FW.region ?_))
     refine FL.v (E.move k119) ?_
     refine FL.v (E.move k118) ?_
     refine FL.v (E.move (v := v171) rfl) ?_
     refine FL.v (E.move k122) ?_
     obtain ⟨r173, hr174, hp⟩ := bnd hp
     refine FL.call rfl rfl rfl (E.call Tryz.call24 (A4 rfl rfl rfl rfl)) (w_impl_caseOf S169.sl 2 v58 r52.1 (h59.mono ((((i74.tr i100).tr r107.inc).tr i112).tr r170.inc)) v171 r165.1 h172 v108 r102.1 (h109.mono (i112.tr r170.inc)) (hT.mono ((((((i32.tr r57.inc).tr i74).tr i100).tr r107.inc).tr i112).tr r170.inc)) hr174) ?_
     rintro e w176 ⟨H175, v179, rfl, r178, h180⟩
     refine ⟨_, rfl, ?_⟩
     have S177 := S169.call r178
     obtain ⟨r181, hr182, hp⟩ := bnd hp
     have S183 : St Ha wa H175 w176 [.row 39 4 v26 n27 cs28, .box b60 56 [v26, Value.bool s67.2.1], .row 3 1 v68 n69 cs70] := S177.front 1 rfl rfl
     have S184 : St Ha wa H175 w176 [.box b60 56 [v26, Value.bool s67.2.1], .row 39 4 v26 n27 cs28, .row 3 1 v68 n69 cs70] := S183.front 1 rfl rfl
     refine FL.call rfl rfl rfl (E.call Tryz.call23 (A5 rfl rfl rfl rfl rfl)) (w_impl_freger_put (L := [.row 3 1 v68 n69 cs70]) S184 (a0 := (freger.mk s67.1 s67.2.1)) (els29.mono (up_mono ((((i100.tr r107.inc).tr i112).tr r170.inc).tr r178.inc))) v179 r173 h180 2 0 0 hr182) ?_
     rintro e w186 ⟨H185, v189, n190, cs191, rfl, ⟨S187, i188⟩, els192⟩
     refine ⟨_, rfl, ?_⟩
     have S187 : St Ha wa H185 w186 [.box b60 56 [v189, Value.bool r181.2.long], .row 39 4 v189 n190 cs191, .row 3 1 v68 n69 cs70] := S187
     refine FL.v (E.assign (v := Value.int .i64 r181.1) rfl) ?_
     refine FL.nil (FW.seq ?_)
     obtain ⟨r196, hr197, hp⟩ := bnd hp
     obtain ⟨r204, hr205, hp⟩ := bnd hp
     obtain ⟨r212, hr213, hp⟩ := bnd hp
     obtain ⟨x226, hx227, hp⟩ := bnd hp
     obtain ⟨s229, hq229, hp⟩ := bnd hp
     refine FW.drawB (SX Ha wa H185 [.row 3 1 v68 n69 cs70]) (fun f w => ∃ H : GH, ∃ v250 : Value, ∃ n251 : Nat, ∃ cs252 : List Value, St Ha wa H w [.box b60 56 [v250, Value.bool s229.2.1], .row 39 4 v250 n251 cs252, .row 3 1 v68 n69 cs70] ∧ Inc H185 H ∧ Els (up wa.heap.size H) eFregeStep 4 cs252 s229.1 ∧ f 1 = v1 ∧ f 2 = Value.int .i64 a2 ∧ f 8 = v58 ∧ f 10 = Value.pointer (some (⟨b60, 0, none⟩ : Addr)) ∧ f 11 = v68 ∧ f 13 = Value.pointer (some ⟨b91, 0, none⟩) ∧ f 14 = v108 ∧ f 20 = Value.int .i64 s229.2.2 ∧ f 44 = v1 ∧ f 45 = Value.int .i64 (len a1) ∧ f 46 = Value.int .i64 ((i67 : Nat) : Int)) (by kernel_rfl) S187.sl ?_ ?_
     ·
      intro w193 r194
      have S195 := S187.call r194
      refine FB.t (i := 0) (bs 16 1) rfl (SP.nil ⟨_, (S195.sel [2] (by decide) rfl), (Inc.rfl _)⟩) rfl (fun w' hw' => (E.move k119)) ?_
      refine FB.t (i := 1) (bs 16 3) rfl (SP.nil ⟨_, (S195.sel [2] (by decide) rfl), (Inc.rfl _)⟩) rfl (fun w' hw' => (E.move k118)) ?_
      refine FB.t (i := 2) (bs 16 7) rfl (SP.nil ⟨_, (S195.sel [2] (by decide) rfl), (Inc.rfl _)⟩) rfl (fun w' hw' => (E.move (v := v171) rfl)) ?_
      refine FB.t (i := 4) (bs 16 23) rfl (SP.nil ⟨_, (S195.sel [2] (by decide) rfl), (Inc.rfl _)⟩) rfl (fun w' hw' => (E.move k118)) ?_
      refine FB.t (i := 5) (bs 16 55) rfl (SP.nil ⟨_, (S195.sel [2] (by decide) rfl), (Inc.rfl _)⟩) rfl (fun w' hw' => (E.move k122)) ?_
      refine FB.t (i := 8) (bs 16 311) rfl (SP.nil ⟨_, (S195.sel [2] (by decide) rfl), (Inc.rfl _)⟩) rfl (fun w' hw' => (E.move k120)) ?_
      refine FB.t (i := 9) (bs 16 823) rfl (SP.nil ⟨_, (S195.sel [2] (by decide) rfl), (Inc.rfl _)⟩) rfl (fun w' hw' => (E.fieldAddr tf39_3 k121)) ?_
      refine FB.t (i := 10) (bs 16 1847) rfl (SP.nil ⟨_, (S195.sel [2] (by decide) rfl), (Inc.rfl _)⟩) rfl (fun w' hw' => (E.load rfl (run_load1 Tryz.isAgg3 ((at101.mono ((((r107.inc.tr i112).tr r170.inc).tr r178.inc).tr i188)).now hw'.sl) rfl))) ?_
      obtain ⟨p220, cs221, pt222, l223, at224, rel225, hall228⟩ := S195.row_atA (i := 2) rfl els71 (by decide) hx227
      obtain rfl := eI_open rel225
      refine FB.t (i := 11) (bs 16 3895) rfl (SP.nil ⟨_, (S195.sel [2] (by decide) rfl), (Inc.rfl _)⟩) rfl (fun w' hw' => (E.indexAddr te33 rfl rfl pt222)) ?_
      refine FB.t (i := 12) (bs 16 7991) rfl (SP.nil ⟨_, (S195.sel [2] (by decide) rfl), (Inc.rfl _)⟩) rfl (fun w' hw' => (E.load rfl (run_load0 Tryz.isAgg3 (hw'.use fun _ st => hall228 _ _ _ 0 st rfl) rfl))) ?_
      refine FB.t (i := 13) (bs 16 16183) rfl (SP.nil ⟨_, (S195.sel [2] (by decide) rfl), (Inc.rfl _)⟩) rfl (fun w' hw' => (E.move (v := Value.int .i64 r181.1) rfl)) ?_
      refine FB.all1 (i := 3) (by kernel_rfl) ?_
      ·
       refine FC.call (l' := (bs 16 16191)) rfl (by kernel_rfl) rfl rfl rfl (E.call Tryz.call26 (A3 rfl rfl rfl)) (w_impl_join S195.sl 62 v58 r52.1 (h59.mono ((((((i74.tr i100).tr r107.inc).tr i112).tr r170.inc).tr r178.inc).tr i188)) v171 r165.1 (h172.mono (r178.inc.tr i188)) hr197) ?_
       rintro e w199 ⟨H198, v202, rfl, r201, h203⟩
       refine ⟨_, rfl, ?_⟩
       have S200 := S195.call r201
       refine ⟨(SP.nil ⟨_, (S200.sel [2] (by decide) rfl), r201.inc⟩), ?_⟩
       refine FB.all1 (i := 6) (by kernel_rfl) ?_
       ·
        refine FC.call (l' := (bs 16 16255)) rfl (by kernel_rfl) rfl rfl rfl (E.call Tryz.call26 (A3 rfl rfl rfl)) (w_impl_join S200.sl 62 v58 r52.1 (h59.mono (((((((i74.tr i100).tr r107.inc).tr i112).tr r170.inc).tr r178.inc).tr i188).tr r201.inc)) v108 r102.1 (h109.mono ((((i112.tr r170.inc).tr r178.inc).tr i188).tr r201.inc)) hr205) ?_
        rintro e w207 ⟨H206, v210, rfl, r209, h211⟩
        refine ⟨_, rfl, ?_⟩
        have S208 := S200.call r209
        refine ⟨(SP.nil ⟨_, (S208.sel [2] (by decide) rfl), (r201.inc.tr r209.inc)⟩), ?_⟩
        refine FB.all1 (i := 7) (by kernel_rfl) ?_
        ·
         refine FC.call (l' := (bs 16 16383)) rfl (by kernel_rfl) rfl rfl rfl (E.call Tryz.call26 (A3 rfl rfl rfl)) (w_impl_join S208.sl 62 v202 r196 (h203.mono r209.inc) v210 r204 h211 hr213) ?_
         rintro e w215 ⟨H214, v218, rfl, r217, h219⟩
         refine ⟨_, rfl, ?_⟩
         have S216 := S208.call r217
         refine ⟨(SP.nil ⟨_, (S216.sel [2] (by decide) rfl), ((r201.inc.tr r209.inc).tr r217.inc)⟩), ?_⟩
         refine FB.all1 (i := 14) (by kernel_rfl) ?_
         ·
          obtain ⟨R229, hR229⟩ : ∃ R229 : ((List FregeStep) × Bool × Int) → Ending → World → Prop, R229 = (fun s229 e w => ∃ H : GH, ∃ v230 : Value, ∃ n231 : Nat, ∃ cs232 : List Value, e = Ending.returned (Value.int .i64 s229.2.2) ∧ St Ha wa H w [.box b60 56 [v230, Value.bool s229.2.1], .row 39 4 v230 n231 cs232, .row 3 1 v68 n69 cs70] ∧ Inc H214 H ∧ Els (up wa.heap.size H) eFregeStep 4 cs232 s229.1) := ⟨_, rfl⟩
          have hc229 : Calls Tryz.prog 25 #[Value.pointer (some (⟨b60, 0, none⟩ : Addr)), v218, Value.int .i64 x226, Value.int .i64 r181.1] w215 (R229 s229) := by
           clear hp; have hp := hq229; clear hq229
           refine calls_go (N := 14) (args := [Value.pointer (some (⟨b60, 0, none⟩ : Addr)), v218, Value.int .i64 x226, Value.int .i64 r181.1]) Tryz.func25 rfl rfl rfl ?_
           refine FW.seq (FW.region ?_)
           refine FL.v (E.assign (v := Value.int .i64 0) rfl) ?_
           refine FL.nil (FW.seq (FW.region ?_))
           refine FL.v (E.move (v := Value.pointer (some (⟨b60, 0, none⟩ : Addr))) rfl) ?_
           refine FL.v (E.move (v := v218) rfl) ?_
           refine FL.v (E.move (v := Value.int .i64 x226) rfl) ?_
           refine FL.v (E.move (v := Value.int .i64 r181.1) rfl) ?_
           obtain ⟨r234, hr235, hp⟩ := bnd hp
           have S236 : St Ha wa H214 w215 [.row 39 4 v189 n190 cs191, .box b60 56 [v189, Value.bool r181.2.long], .row 3 1 v68 n69 cs70] := S216.front 1 rfl rfl
           have S237 : St Ha wa H214 w215 [.box b60 56 [v189, Value.bool r181.2.long], .row 39 4 v189 n190 cs191, .row 3 1 v68 n69 cs70] := S236.front 1 rfl rfl
           refine FL.call rfl rfl rfl (E.call Tryz.call23 (A5 rfl rfl rfl rfl rfl)) (w_impl_freger_put (L := [.row 3 1 v68 n69 cs70]) S237 (a0 := r181.2) (els192.mono (up_mono ((r201.inc.tr r209.inc).tr r217.inc))) v218 r212 h219 (-1) x226 r181.1 hr235) ?_
           rintro e w239 ⟨H238, v242, n243, cs244, rfl, ⟨S240, i241⟩, els245⟩
           refine ⟨_, rfl, ?_⟩
           have S240 : St Ha wa H238 w239 [.box b60 56 [v242, Value.bool r234.2.long], .row 39 4 v242 n243 cs244, .row 3 1 v68 n69 cs70] := S240
           refine FL.v (E.assign (v := Value.int .i64 r234.1) rfl) ?_
           refine FL.nil ?_
           refine FW.ret ?_
           obtain rfl := Option.some.inj hp
           exact ⟨.inr rfl, res1 rfl rfl (by rw [hR229]; exact ⟨_, _, _, _, rfl, S240, i241, els245⟩)⟩
          clear hq229
          refine FC.call (l' := (bs 16 32767)) rfl (by kernel_rfl) rfl rfl rfl (E.call Tryz.call25 (A4 rfl rfl rfl rfl)) hc229 ?_
          intro e w249 hQ229
          rw [hR229] at hQ229
          obtain ⟨H246, v230, n231, cs232, rfl, S247, i248, els233⟩ := hQ229
          refine ⟨_, rfl, ?_⟩
          refine ⟨(SP.nil ⟨_, (S247.sel [2] (by decide) rfl), (((r201.inc.tr r209.inc).tr r217.inc).tr i248)⟩), ?_⟩
          refine FB.t (i := 15) (bs 16 65535) rfl (SP.nil ⟨_, (S247.sel [2] (by decide) rfl), (((r201.inc.tr r209.inc).tr r217.inc).tr i248)⟩) rfl (fun w' hw' => (E.assign (v := Value.int .i64 s229.2.2) rfl)) ?_
          exact FB.done (by kernel_rfl) ⟨_, _, _, _, S247, (((r201.inc.tr r209.inc).tr r217.inc).tr i248), els233, k116, k117, k118, k119, k120, k121, k122, rfl, k123, k124, k125⟩
     ·
      rintro f258 w257 ⟨H254, v250, n251, cs252, S255, i256, els253, k259, k260, k261, k262, k263, k264, k265, k266, k267, k268, k269⟩
      obtain ⟨r273, hr274, hp⟩ := bnd hp
      obtain ⟨x287, hx288, hp⟩ := bnd hp
      obtain ⟨s290, hq290, hp⟩ := bnd hp
      refine FW.drawB (SX Ha wa H254 [.row 3 1 v68 n69 cs70]) (fun f w => ∃ H : GH, ∃ v311 : Value, ∃ n312 : Nat, ∃ cs313 : List Value, St Ha wa H w [.box b60 56 [v311, Value.bool s290.2.1], .row 39 4 v311 n312 cs313, .row 3 1 v68 n69 cs70] ∧ Inc H254 H ∧ Els (up wa.heap.size H) eFregeStep 4 cs313 s290.1 ∧ f 1 = v1 ∧ f 2 = Value.int .i64 a2 ∧ f 8 = v58 ∧ f 10 = Value.pointer (some (⟨b60, 0, none⟩ : Addr)) ∧ f 11 = v68 ∧ f 16 = Value.int .i64 s290.2.2 ∧ f 44 = v1 ∧ f 45 = Value.int .i64 (len a1) ∧ f 46 = Value.int .i64 ((i67 : Nat) : Int)) (by kernel_rfl) S255.sl ?_ ?_
      ·
       intro w270 r271
       have S272 := S255.call r271
       refine FB.t (i := 0) (bs 12 1) rfl (SP.nil ⟨_, (S272.sel [2] (by decide) rfl), (Inc.rfl _)⟩) rfl (fun w' hw' => (E.move k262)) ?_
       refine FB.t (i := 1) (bs 12 3) rfl (SP.nil ⟨_, (S272.sel [2] (by decide) rfl), (Inc.rfl _)⟩) rfl (fun w' hw' => (E.move k261)) ?_
       refine FB.t (i := 2) (bs 12 7) rfl (SP.nil ⟨_, (S272.sel [2] (by decide) rfl), (Inc.rfl _)⟩) rfl (fun w' hw' => (E.move k265)) ?_
       refine FB.t (i := 4) (bs 12 23) rfl (SP.nil ⟨_, (S272.sel [2] (by decide) rfl), (Inc.rfl _)⟩) rfl (fun w' hw' => (E.move k263)) ?_
       refine FB.t (i := 5) (bs 12 55) rfl (SP.nil ⟨_, (S272.sel [2] (by decide) rfl), (Inc.rfl _)⟩) rfl (fun w' hw' => (E.fieldAddr tf39_2 k264)) ?_
       refine FB.t (i := 6) (bs 12 119) rfl (SP.nil ⟨_, (S272.sel [2] (by decide) rfl), (Inc.rfl _)⟩) rfl (fun w' hw' => (E.load rfl (run_load1 Tryz.isAgg3 ((at101.mono (((((r107.inc.tr i112).tr r170.inc).tr r178.inc).tr i188).tr i256)).now hw'.sl) rfl))) ?_
       obtain ⟨p281, cs282, pt283, l284, at285, rel286, hall289⟩ := S272.row_atA (i := 2) rfl els71 (by decide) hx288
       obtain rfl := eI_open rel286
       refine FB.t (i := 7) (bs 12 247) rfl (SP.nil ⟨_, (S272.sel [2] (by decide) rfl), (Inc.rfl _)⟩) rfl (fun w' hw' => (E.indexAddr te33 rfl rfl pt283)) ?_
       refine FB.t (i := 8) (bs 12 503) rfl (SP.nil ⟨_, (S272.sel [2] (by decide) rfl), (Inc.rfl _)⟩) rfl (fun w' hw' => (E.load rfl (run_load0 Tryz.isAgg3 (hw'.use fun _ st => hall289 _ _ _ 0 st rfl) rfl))) ?_
       refine FB.t (i := 9) (bs 12 1015) rfl (SP.nil ⟨_, (S272.sel [2] (by decide) rfl), (Inc.rfl _)⟩) rfl (fun w' hw' => (E.move k266)) ?_
       refine FB.all1 (i := 3) (by kernel_rfl) ?_
       ·
        refine FC.call (l' := (bs 12 1023)) rfl (by kernel_rfl) rfl rfl rfl (E.call Tryz.call26 (A3 rfl rfl rfl)) (w_impl_join S272.sl 62 v58 r52.1 (h59.mono (((((((i74.tr i100).tr r107.inc).tr i112).tr r170.inc).tr r178.inc).tr i188).tr i256)) v108 r102.1 (h109.mono ((((i112.tr r170.inc).tr r178.inc).tr i188).tr i256)) hr274) ?_
        rintro e w276 ⟨H275, v279, rfl, r278, h280⟩
        refine ⟨_, rfl, ?_⟩
        have S277 := S272.call r278
        refine ⟨(SP.nil ⟨_, (S277.sel [2] (by decide) rfl), r278.inc⟩), ?_⟩
        refine FB.all1 (i := 10) (by kernel_rfl) ?_
        ·
         obtain ⟨R290, hR290⟩ : ∃ R290 : ((List FregeStep) × Bool × Int) → Ending → World → Prop, R290 = (fun s290 e w => ∃ H : GH, ∃ v291 : Value, ∃ n292 : Nat, ∃ cs293 : List Value, e = Ending.returned (Value.int .i64 s290.2.2) ∧ St Ha wa H w [.box b60 56 [v291, Value.bool s290.2.1], .row 39 4 v291 n292 cs293, .row 3 1 v68 n69 cs70] ∧ Inc H275 H ∧ Els (up wa.heap.size H) eFregeStep 4 cs293 s290.1) := ⟨_, rfl⟩
         have hc290 : Calls Tryz.prog 25 #[Value.pointer (some (⟨b60, 0, none⟩ : Addr)), v279, Value.int .i64 x287, Value.int .i64 s229.2.2] w276 (R290 s290) := by
          clear hp; have hp := hq290; clear hq290
          refine calls_go (N := 14) (args := [Value.pointer (some (⟨b60, 0, none⟩ : Addr)), v279, Value.int .i64 x287, Value.int .i64 s229.2.2]) Tryz.func25 rfl rfl rfl ?_
          refine FW.seq (FW.region ?_)
          refine FL.v (E.assign (v := Value.int .i64 0) rfl) ?_
          refine FL.nil (FW.seq (FW.region ?_))
          refine FL.v (E.move (v := Value.pointer (some (⟨b60, 0, none⟩ : Addr))) rfl) ?_
          refine FL.v (E.move (v := v279) rfl) ?_
          refine FL.v (E.move (v := Value.int .i64 x287) rfl) ?_
          refine FL.v (E.move (v := Value.int .i64 s229.2.2) rfl) ?_
          obtain ⟨r295, hr296, hp⟩ := bnd hp
          have S297 : St Ha wa H275 w276 [.row 39 4 v250 n251 cs252, .box b60 56 [v250, Value.bool s229.2.1], .row 3 1 v68 n69 cs70] := S277.front 1 rfl rfl
          have S298 : St Ha wa H275 w276 [.box b60 56 [v250, Value.bool s229.2.1], .row 39 4 v250 n251 cs252, .row 3 1 v68 n69 cs70] := S297.front 1 rfl rfl
          refine FL.call rfl rfl rfl (E.call Tryz.call23 (A5 rfl rfl rfl rfl rfl)) (w_impl_freger_put (L := [.row 3 1 v68 n69 cs70]) S298 (a0 := (freger.mk s229.1 s229.2.1)) (els253.mono (up_mono r278.inc)) v279 r273 h280 (-1) x287 s229.2.2 hr296) ?_
          rintro e w300 ⟨H299, v303, n304, cs305, rfl, ⟨S301, i302⟩, els306⟩
          refine ⟨_, rfl, ?_⟩
          have S301 : St Ha wa H299 w300 [.box b60 56 [v303, Value.bool r295.2.long], .row 39 4 v303 n304 cs305, .row 3 1 v68 n69 cs70] := S301
          refine FL.v (E.assign (v := Value.int .i64 r295.1) rfl) ?_
          refine FL.nil ?_
          refine FW.ret ?_
          obtain rfl := Option.some.inj hp
          exact ⟨.inr rfl, res1 rfl rfl (by rw [hR290]; exact ⟨_, _, _, _, rfl, S301, i302, els306⟩)⟩
         clear hq290
         refine FC.call (l' := (bs 12 2047)) rfl (by kernel_rfl) rfl rfl rfl (E.call Tryz.call25 (A4 rfl rfl rfl rfl)) hc290 ?_
         intro e w310 hQ290
         rw [hR290] at hQ290
         obtain ⟨H307, v291, n292, cs293, rfl, S308, i309, els294⟩ := hQ290
         refine ⟨_, rfl, ?_⟩
         refine ⟨(SP.nil ⟨_, (S308.sel [2] (by decide) rfl), (r278.inc.tr i309)⟩), ?_⟩
         refine FB.t (i := 11) (bs 12 4095) rfl (SP.nil ⟨_, (S308.sel [2] (by decide) rfl), (r278.inc.tr i309)⟩) rfl (fun w' hw' => (E.assign (v := Value.int .i64 s290.2.2) rfl)) ?_
         exact FB.done (by kernel_rfl) ⟨_, _, _, _, S308, (r278.inc.tr i309), els294, k259, k260, k261, k262, k263, rfl, k267, k268, k269⟩
      ·
       rintro f319 w318 ⟨H315, v311, n312, cs313, S316, i317, els314, k320, k321, k322, k323, k324, k325, k326, k327, k328⟩
       refine FW.region ?_
       refine FL.v (E.move k324) ?_
       refine FL.v (E.move k325) ?_
       obtain ⟨v329, w330, run331, S332, els333⟩ := S316.ints (P := Tryz.prog) te33 (up wa.heap.size H315) 1 [s290.2.2]
       refine FL.v (E.buildSlice (B1 rfl) run331) ?_
       obtain ⟨xs334, hz335, hp⟩ := bnd hp
       obtain ⟨v336, w339, n337, cs338, run340, S341, els342, ce343⟩ := S332.appendO (P := Tryz.prog) te33 (i := 3) (j := 0) rfl (els71.mono (up_mono (((((((i100.tr r107.inc).tr i112).tr r170.inc).tr r178.inc).tr i188).tr i256).tr i317))) rfl els333 hz335
       have S341 : St Ha wa H315 w339 [.row 3 1 v329 1 (iC [s290.2.2]), .box b60 56 [v311, Value.bool s290.2.1], .row 39 4 v311 n312 cs313, .row 3 1 v336 n337 cs338] := S341
       have S344 : St Ha wa H315 w339 [.box b60 56 [v311, Value.bool s290.2.1], .row 39 4 v311 n312 cs313, .row 3 1 v336 n337 cs338] := S341.drop 0
       refine FL.v (E.append rfl rfl run340) ?_
       refine FL.v (E.assign (v := v336) rfl) ?_
       refine FL.nil (FW.region ?_)
       refine FL.v (E.add k328 rfl) ?_
       refine FL.v (E.move (v := Value.int .i64 (wr (((i67 : Nat) : Int) + 1))) rfl) ?_
       refine FL.nil ?_
       obtain rfl := Option.some.inj hp
       exact ⟨rfl, ⟨_, _, _, _, _, _, _, S344, ((((((((i74.tr i100).tr r107.inc).tr i112).tr r170.inc).tr r178.inc).tr i188).tr i256).tr i317), els314, els342, (nat_succ rfl (lt_of_get hx67) (p1.mono ((((((((((i32.tr r57.inc).tr i74).tr i100).tr r107.inc).tr i112).tr r170.inc).tr r178.inc).tr i188).tr i256).tr i317)).le), k320, k321, k322, k323, rfl, k326, k327⟩⟩
    ·
     refine FW.condF rfl c156 ?_
     refine FW.seq (FW.region ?_)
     refine FL.v (E.move k119) ?_
     refine FL.v (E.move k122) ?_
     refine FL.v (E.fieldAddr tf39_1 k121) ?_
     refine FL.v (E.load rfl (run_load1 Tryz.isAgg3 ((at101.mono (r107.inc.tr i112)).now S111.sl) rfl)) ?_
     refine FL.v (E.fieldAddr tf39_2 k121) ?_
     refine FL.v (E.load rfl (run_load1 Tryz.isAgg3 ((at101.mono (r107.inc.tr i112)).now S111.sl) rfl)) ?_
     refine FL.v (E.fieldAddr tf39_3 k121) ?_
     refine FL.v (E.load rfl (run_load1 Tryz.isAgg3 ((at101.mono (r107.inc.tr i112)).now S111.sl) rfl)) ?_
     obtain ⟨r345, hr346, hp⟩ := bnd hp
     have S347 : St Ha wa H110 w113 [.row 39 4 v26 n27 cs28, .box b60 56 [v26, Value.bool s67.2.1], .row 3 1 v68 n69 cs70] := S111.front 1 rfl rfl
     have S348 : St Ha wa H110 w113 [.box b60 56 [v26, Value.bool s67.2.1], .row 39 4 v26 n27 cs28, .row 3 1 v68 n69 cs70] := S347.front 1 rfl rfl
     refine FL.call rfl rfl rfl (E.call Tryz.call23 (A5 rfl rfl rfl rfl rfl)) (w_impl_freger_put (L := [.row 3 1 v68 n69 cs70]) S348 (a0 := (freger.mk s67.1 s67.2.1)) (els29.mono (up_mono ((i100.tr r107.inc).tr i112))) v108 r102.1 (h109.mono i112) y66.rule y66.a y66.b hr346) ?_
     rintro e w350 ⟨H349, v353, n354, cs355, rfl, ⟨S351, i352⟩, els356⟩
     refine ⟨_, rfl, ?_⟩
     have S351 : St Ha wa H349 w350 [.box b60 56 [v353, Value.bool r345.2.long], .row 39 4 v353 n354 cs355, .row 3 1 v68 n69 cs70] := S351
     refine FL.v (E.assign (v := Value.int .i64 r345.1) rfl) ?_
     refine FL.nil (FW.region ?_)
     refine FL.v (E.move k119) ?_
     refine FL.v (E.move k118) ?_
     refine FL.v (E.move k122) ?_
     obtain ⟨r357, hr358, hp⟩ := bnd hp
     refine FL.call rfl rfl rfl (E.call Tryz.call26 (A3 rfl rfl rfl)) (w_impl_join S351.sl 62 v58 r52.1 (h59.mono ((((i74.tr i100).tr r107.inc).tr i112).tr i352)) v108 r102.1 (h109.mono (i112.tr i352)) hr358) ?_
     rintro e w360 ⟨H359, v363, rfl, r362, h364⟩
     refine ⟨_, rfl, ?_⟩
     have S361 := S351.call r362
     refine FL.v (E.move (v := Value.int .i64 r345.1) rfl) ?_
     refine FL.v (E.move k119) ?_
     refine FL.v (E.move k122) ?_
     refine FL.v (E.move k118) ?_
     obtain ⟨r365, hr366, hp⟩ := bnd hp
     refine FL.call rfl rfl rfl (E.call Tryz.call24 (A4 rfl rfl rfl rfl)) (w_impl_caseOf S361.sl 1 v108 r102.1 (h109.mono ((i112.tr i352).tr r362.inc)) v58 r52.1 (h59.mono (((((i74.tr i100).tr r107.inc).tr i112).tr i352).tr r362.inc)) (Value.pointer none) Fo.nil FAt.nil (hT.mono (((((((i32.tr r57.inc).tr i74).tr i100).tr r107.inc).tr i112).tr i352).tr r362.inc)) hr366) ?_
     rintro e w368 ⟨H367, v371, rfl, r370, h372⟩
     refine ⟨_, rfl, ?_⟩
     have S369 := S361.call r370
     obtain ⟨r373, hr374, hp⟩ := bnd hp
     have S375 : St Ha wa H367 w368 [.row 39 4 v353 n354 cs355, .box b60 56 [v353, Value.bool r345.2.long], .row 3 1 v68 n69 cs70] := S369.front 1 rfl rfl
     have S376 : St Ha wa H367 w368 [.box b60 56 [v353, Value.bool r345.2.long], .row 39 4 v353 n354 cs355, .row 3 1 v68 n69 cs70] := S375.front 1 rfl rfl
     refine FL.call rfl rfl rfl (E.call Tryz.call23 (A5 rfl rfl rfl rfl rfl)) (w_impl_freger_put (L := [.row 3 1 v68 n69 cs70]) S376 (a0 := r345.2) (els356.mono (up_mono (r362.inc.tr r370.inc))) v371 r365 h372 1 0 0 hr374) ?_
     rintro e w378 ⟨H377, v381, n382, cs383, rfl, ⟨S379, i380⟩, els384⟩
     refine ⟨_, rfl, ?_⟩
     have S379 : St Ha wa H377 w378 [.box b60 56 [v381, Value.bool r373.2.long], .row 39 4 v381 n382 cs383, .row 3 1 v68 n69 cs70] := S379
     obtain ⟨s385, hq385, hp⟩ := bnd hp
     obtain ⟨R385, hR385⟩ : ∃ R385 : ((List FregeStep) × Bool × Int) → Ending → World → Prop, R385 = (fun s385 e w => ∃ H : GH, ∃ v386 : Value, ∃ n387 : Nat, ∃ cs388 : List Value, e = Ending.returned (Value.int .i64 s385.2.2) ∧ St Ha wa H w [.box b60 56 [v386, Value.bool s385.2.1], .row 39 4 v386 n387 cs388, .row 3 1 v68 n69 cs70] ∧ Inc H377 H ∧ Els (up wa.heap.size H) eFregeStep 4 cs388 s385.1) := ⟨_, rfl⟩
     have hc385 : Calls Tryz.prog 25 #[Value.pointer (some (⟨b60, 0, none⟩ : Addr)), v363, Value.int .i64 r345.1, Value.int .i64 r373.1] w378 (R385 s385) := by
      clear hp; have hp := hq385; clear hq385
      refine calls_go (N := 14) (args := [Value.pointer (some (⟨b60, 0, none⟩ : Addr)), v363, Value.int .i64 r345.1, Value.int .i64 r373.1]) Tryz.func25 rfl rfl rfl ?_
      refine FW.seq (FW.region ?_)
      refine FL.v (E.assign (v := Value.int .i64 0) rfl) ?_
      refine FL.nil (FW.seq (FW.region ?_))
      refine FL.v (E.move (v := Value.pointer (some (⟨b60, 0, none⟩ : Addr))) rfl) ?_
      refine FL.v (E.move (v := v363) rfl) ?_
      refine FL.v (E.move (v := Value.int .i64 r345.1) rfl) ?_
      refine FL.v (E.move (v := Value.int .i64 r373.1) rfl) ?_
      obtain ⟨r390, hr391, hp⟩ := bnd hp
      have S392 : St Ha wa H377 w378 [.row 39 4 v381 n382 cs383, .box b60 56 [v381, Value.bool r373.2.long], .row 3 1 v68 n69 cs70] := S379.front 1 rfl rfl
      have S393 : St Ha wa H377 w378 [.box b60 56 [v381, Value.bool r373.2.long], .row 39 4 v381 n382 cs383, .row 3 1 v68 n69 cs70] := S392.front 1 rfl rfl
      refine FL.call rfl rfl rfl (E.call Tryz.call23 (A5 rfl rfl rfl rfl rfl)) (w_impl_freger_put (L := [.row 3 1 v68 n69 cs70]) S393 (a0 := r373.2) els384 v363 r357 (h364.mono (r370.inc.tr i380)) (-1) r345.1 r373.1 hr391) ?_
      rintro e w395 ⟨H394, v398, n399, cs400, rfl, ⟨S396, i397⟩, els401⟩
      refine ⟨_, rfl, ?_⟩
      have S396 : St Ha wa H394 w395 [.box b60 56 [v398, Value.bool r390.2.long], .row 39 4 v398 n399 cs400, .row 3 1 v68 n69 cs70] := S396
      refine FL.v (E.assign (v := Value.int .i64 r390.1) rfl) ?_
      refine FL.nil ?_
      refine FW.ret ?_
      obtain rfl := Option.some.inj hp
      exact ⟨.inr rfl, res1 rfl rfl (by rw [hR385]; exact ⟨_, _, _, _, rfl, S396, i397, els401⟩)⟩
     clear hq385
     refine FL.call rfl rfl rfl (E.call Tryz.call25 (A4 rfl rfl rfl rfl)) hc385 ?_
     intro e w405 hQ385
     rw [hR385] at hQ385
     obtain ⟨H402, v386, n387, cs388, rfl, S403, i404, els389⟩ := hQ385
     refine ⟨_, rfl, ?_⟩
     refine FL.v (E.assign (v := Value.int .i64 s385.2.2) rfl) ?_
     refine FL.nil (FW.region ?_)
     refine FL.v (E.move k120) ?_
     refine FL.v (E.move (v := Value.int .i64 s385.2.2) rfl) ?_
     obtain ⟨v406, w407, run408, S409, els410⟩ := S403.ints (P := Tryz.prog) te33 (up wa.heap.size H402) 1 [s385.2.2]
     refine FL.v (E.buildSlice (B1 rfl) run408) ?_
     obtain ⟨xs411, hz412, hp⟩ := bnd hp
     obtain ⟨v413, w416, n414, cs415, run417, S418, els419, ce420⟩ := S409.appendO (P := Tryz.prog) te33 (i := 3) (j := 0) rfl (els71.mono (up_mono (((((((i100.tr r107.inc).tr i112).tr i352).tr r362.inc).tr r370.inc).tr i380).tr i404))) rfl els410 hz412
     have S418 : St Ha wa H402 w416 [.row 3 1 v406 1 (iC [s385.2.2]), .box b60 56 [v386, Value.bool s385.2.1], .row 39 4 v386 n387 cs388, .row 3 1 v413 n414 cs415] := S418
     have S421 : St Ha wa H402 w416 [.box b60 56 [v386, Value.bool s385.2.1], .row 39 4 v386 n387 cs388, .row 3 1 v413 n414 cs415] := S418.drop 0
     refine FL.v (E.append rfl rfl run417) ?_
     refine FL.v (E.assign (v := v413) rfl) ?_
     refine FL.nil (FW.region ?_)
     refine FL.v (E.add k125 rfl) ?_
     refine FL.v (E.move (v := Value.int .i64 (wr (((i67 : Nat) : Int) + 1))) rfl) ?_
     refine FL.nil ?_
     obtain rfl := Option.some.inj hp
     exact ⟨rfl, ⟨_, _, _, _, _, _, _, S421, ((((((((i74.tr i100).tr r107.inc).tr i112).tr i352).tr r362.inc).tr r370.inc).tr i380).tr i404), els389, els419, (nat_succ rfl (lt_of_get hx67) (p1.mono ((((((((((i32.tr r57.inc).tr i74).tr i100).tr r107.inc).tr i112).tr i352).tr r362.inc).tr r370.inc).tr i380).tr i404)).le), k116, k117, k118, k119, rfl, k123, k124⟩⟩
  ·
   clear hp hq
   rintro s67 f443 w442 ⟨H439, v26, n27, cs28, v68, n69, cs70, S440, i441, els29, els71, k444, k445, k446, k447, k448, k449, k450, k451⟩
   refine FW.seq (FW.region ?_)
   refine FL.v (E.lss k444 k451) ?_
   refine FL.nil (FW.seq ?_)
   refine FW.condF rfl dlt_len ?_
   refine FW.exit ?_
   exact ⟨nofun, rfl, ⟨_, _, _, _, _, _, _, S440, i441, els29, els71, k448⟩⟩
  ·
   clear hq
   intro e f427 w426 hD
   rcases q67 with s67 | x67
   ·
    obtain ⟨rfl, hD⟩ := hD
    obtain ⟨H423, v26, n27, cs28, v68, n69, cs70, S424, i425, els29, els71, k428⟩ := hD
    replace hp := el_go hp
    refine FW.seq (FW.region ?_)
    refine FL.v (E.move k428) ?_
    obtain ⟨s429, hq429, hp⟩ := bnd hp
    obtain ⟨R429, hR429⟩ : ∃ R429 : (Bool × (List FregeStep)) → Ending → World → Prop, R429 = (fun s429 e w => ∃ H : GH, ∃ v430 : Value, ∃ n431 : Nat, ∃ cs432 : List Value, e = Ending.returned (Value.tuple #[v430, Value.bool s429.1]) ∧ St Ha wa H w [.box b60 56 [v26, Value.bool s67.2.1], .row 3 1 v68 n69 cs70, .row 39 4 v430 n431 cs432] ∧ Inc H423 H ∧ Els (up wa.heap.size H) eFregeStep 4 cs432 s429.2) := ⟨_, rfl⟩
    have hc429 : Calls Tryz.prog 27 #[Value.pointer (some (⟨b60, 0, none⟩ : Addr))] w426 (R429 s429) := by
     clear hp; have hp := hq429; clear hq429
     refine calls_go (N := 12) (args := [Value.pointer (some (⟨b60, 0, none⟩ : Addr))]) Tryz.func27 rfl rfl rfl ?_
     refine FW.seq (FW.region ?_)
     refine FL.v (E.assign (v := Value.slice none 0 0) rfl) ?_
     refine FL.v (E.assign (v := Value.bool false) rfl) ?_
     refine FL.nil (FW.seq (FW.seq (FW.region ?_)))
     refine FL.v (E.move (v := Value.pointer (some (⟨b60, 0, none⟩ : Addr))) rfl) ?_
     refine FL.v (E.nilCheck rfl) ?_
     refine FL.v (E.fieldAddr tf56_1 rfl) ?_
     refine FL.v (E.load rfl (run_load1 Tryz.isAgg4 (S424.box_now (i := 0) rfl) rfl)) ?_
     refine FL.nil ?_
     rcases ifB hp with ⟨c434, hp⟩ | ⟨c434, hp⟩
     ·
      refine FW.condT rfl c434 ?_
      refine FW.seq (FW.region ?_)
      refine FL.v (E.assign (v := Value.slice none 0 0) rfl) ?_
      refine FL.v (E.assign (v := Value.bool false) rfl) ?_
      refine FL.nil ?_
      refine FW.ret ?_
      obtain rfl := Option.some.inj hp
      exact ⟨.inr rfl, res2 rfl rfl rfl (by rw [hR429]; exact ⟨_, _, _, _, rfl, ((S424.nil 39 4).sel [1, 3, 0] (by decide) rfl), (Inc.rfl _), Els.nil⟩)⟩
     ·
      refine FW.condF rfl c434 ?_
      refine FW.skip (FW.seq (FW.region ?_))
      refine FL.v (E.move (v := Value.pointer (some (⟨b60, 0, none⟩ : Addr))) rfl) ?_
      refine FL.v (E.nilCheck rfl) ?_
      refine FL.v (E.fieldAddr tf56_0 rfl) ?_
      refine FL.v (E.load rfl (run_load1 Tryz.isAgg25 (S424.box_now (i := 0) rfl) rfl)) ?_
      refine FL.v (E.assign (v := v26) rfl) ?_
      refine FL.v (E.assign (v := Value.bool true) rfl) ?_
      refine FL.nil ?_
      refine FW.ret ?_
      obtain rfl := Option.some.inj hp
      exact ⟨.inr rfl, res2 rfl rfl rfl (by rw [hR429]; exact ⟨_, _, _, _, rfl, (S424.sel [0, 2, 1] (by decide) rfl), (Inc.rfl _), els29⟩)⟩
    clear hq429
    refine FL.call rfl rfl rfl (E.call Tryz.call27 (A1 rfl)) hc429 ?_
    intro e w438 hQ429
    rw [hR429] at hQ429
    obtain ⟨H435, v430, n431, cs432, rfl, S436, i437, els433⟩ := hQ429
    refine ⟨_, rfl, ?_⟩
    refine FL.v (E.extract (i := 0) rfl rfl) ?_
    refine FL.v (E.extract (i := 1) rfl rfl) ?_
    refine FL.v (E.assign (v := v430) rfl) ?_
    refine FL.v (E.assign (v := Value.bool s429.1) rfl) ?_
    refine FL.nil ?_
    refine FW.ret ?_
    obtain rfl := Option.some.inj hp
    exact ⟨.inr rfl, res2 rfl rfl rfl ⟨_, _, _, _, rfl, (S436.sel [2] (by decide) rfl), els433⟩⟩
   ·
    exact x67.elim

set_option maxHeartbeats 4000000 in
theorem w_spec_l24Asked {Ha : GH} {wa : World} (hs : Sl Ha wa) (v0 : Value) (a0 : List ByteArray) (p0 : RSl Ha eS 1 v0 a0) (v1 : Value) (a1 : List FregeStep) (p1 : RSl Ha eFregeStep 4 v1 a1) {r : Bool} (hp : (PF.spec_l24Asked a0 a1) = some r) :
  Calls Tryz.prog 51 #[v0, v1] wa (Sc Ha wa (Value.bool r)) := by
 unfold PF.spec_l24Asked at hp
 have S0 := St.init hs
 refine calls_go (N := 26) (args := [v0, v1]) Tryz.func51 rfl rfl rfl ?_
 refine FW.seq (FW.region ?_)
 refine FL.v (E.assign (v := Value.bool false) rfl) ?_
 refine FL.nil (FW.seq (FW.seq (FW.region ?_)))
 refine FL.v (E.move (v := v0) rfl) ?_
 refine FL.v (E.lenP te24 rfl p0) ?_
 refine FL.v (E.gtr rfl rfl) ?_
 refine FL.v (E.move (v := Value.bool (decide (6 < (len a0)))) rfl) ?_
 refine FL.cut 4 (fun f w => ∃ H : GH, St Ha wa H w [] ∧ Inc Ha H ∧ f 0 = v0 ∧ f 13 = Value.bool (bif (decide (6 < (len a0))) then true else (decide (80 < (len a1))))) ?_ ?_
 ·
  rcases bcase (decide (6 < (len a0))) with c27 | c27
  ·
   refine FL.skip (wF_no rfl rfl rfl c27) rfl ?_
   refine FL.skip (wF_no rfl rfl rfl c27) rfl ?_
   refine FL.skip (wF_no rfl rfl rfl c27) rfl ?_
   refine FL.v (E.pickT rfl c27 rfl) ?_
   exact FL.nil ⟨rfl, _, S0, (Inc.rfl _), rfl, (congrArg Value.bool (bifT c27).symm)⟩
  ·
   refine FL.val (wF_yes rfl rfl rfl c27) rfl rfl (E.move (v := v1) rfl) ?_
   refine FL.val (wF_yes rfl rfl rfl c27) rfl rfl (E.lenP te25 rfl p1) ?_
   refine FL.val (wF_yes rfl rfl rfl c27) rfl rfl (E.gtr rfl rfl) ?_
   refine FL.v (E.pickF rfl c27 rfl) ?_
   exact FL.nil ⟨rfl, _, S0, (Inc.rfl _), rfl, (congrArg Value.bool (bifF c27).symm)⟩
 rintro f26 w25 ⟨H22, S23, i24, k28, k29⟩
 refine FL.nil ?_
 rcases ifB hp with ⟨c30, hp⟩ | ⟨c30, hp⟩
 ·
  refine FW.condT k29 c30 ?_
  refine FW.seq (FW.region ?_)
  refine FL.v (E.assign (v := Value.bool false) rfl) ?_
  refine FL.nil ?_
  refine FW.ret ?_
  obtain rfl := Option.some.inj hp
  exact ⟨.inr rfl, res1 rfl rfl ⟨rfl, S23.back⟩⟩
 ·
  refine FW.condF k29 c30 ?_
  refine FW.skip (FW.seq (FW.seq (FW.region ?_)))
  refine FL.v (E.assign (v := Value.int .i64 0) rfl) ?_
  refine FL.nil ?_
  obtain ⟨q32, hq, hp⟩ := bndR hp
  refine FW.block ?_
  refine FW.mono (FW.forL (S := Unit) (X := Bool) (fun (i32 : Nat) (s32 : Unit) f w => ∃ H : GH, St Ha wa H w [] ∧ Inc H22 H ∧ f 5 = Value.int .i64 ((i32 : Nat) : Int) ∧ f 0 = v0) (fun q e f w => match q with | .go s32 => e = Exit.exit 0 ∧ (∃ H : GH, St Ha wa H w [] ∧ Inc H22 H) | .rt x => ((e = Exit.ret) ∧ (fun e f w => (e = Exit.normal ∨ e = Exit.ret) ∧ ∀ a, Fr (δ := []) 26 a f → ∃ v, (results Tryz.f51 a.tmps).run Tryz.prog w = .ok v w ∧ (Sc Ha wa (Value.bool x)) (.returned v) w) e f w)) hq ⟨_, S23, (Inc.rfl _), rfl, k28⟩ ?_ ?_) ?_
  ·
   clear hp hq
   rintro i32 y31 s32 f56 w55 ⟨H52, S53, i54, k57, k58⟩ hx32 o71 hp
   refine FW.seq (FW.seq (FW.region ?_))
   refine FL.v (E.move k57) ?_
   refine FL.v (E.move k58) ?_
   refine FL.v (E.lenP te24 rfl p0) ?_
   refine FL.v (E.lssT rfl rfl (lss_len hx32)) ?_
   refine FL.nil ?_
   refine FW.condT rfl rfl ?_
   refine FW.skip (FW.seq (FW.block (FW.seq (FW.region ?_))))
   refine FL.v (E.move k58) ?_
   refine FL.v (E.move k57) ?_
   obtain ⟨p59, cs60, pt61, l62, at63, rel64⟩ := p0.at (ix_nat hx32)
   obtain rfl := eS_open rel64
   refine FL.v (E.indexAddr te24 rfl rfl pt61) ?_
   refine FL.v (E.load rfl (run_load0 Tryz.isAgg9 ((at63.mono (i24.tr i54)).now S53.sl) rfl)) ?_
   obtain ⟨r65, hr66, hp⟩ := bnd hp
   refine FL.call rfl rfl rfl (E.call Tryz.call40 (A1 rfl)) (w_spec_l22Good S53.sl y31 hr66) ?_
   rintro e w67 ⟨rfl, r68⟩
   refine ⟨_, rfl, ?_⟩
   have S69 := S53.call r68
   refine FL.v (E.not rfl) ?_
   refine FL.nil ?_
   rcases ifB hp with ⟨c70, hp⟩ | ⟨c70, hp⟩
   ·
    refine FW.condT rfl c70 ?_
    refine FW.seq (FW.region ?_)
    refine FL.v (E.assign (v := Value.bool false) rfl) ?_
    refine FL.nil ?_
    refine FW.ret ?_
    obtain rfl := Option.some.inj hp
    exact ⟨nofun, rfl, ⟨.inr rfl, res1 rfl rfl ⟨rfl, S69.back⟩⟩⟩
   ·
    refine FW.condF rfl c70 ?_
    refine FW.skip (FW.region ?_)
    refine FL.v (E.move k57) ?_
    refine FL.v (E.add rfl rfl) ?_
    refine FL.v (E.assign (v := Value.int .i64 (wr (((i32 : Nat) : Int) + 1))) rfl) ?_
    refine FL.nil ?_
    obtain rfl := Option.some.inj hp
    exact ⟨rfl, ⟨_, S69, i54, (nat_succ rfl (lt_of_get hx32) (p0.mono (i24.tr i54)).le), k58⟩⟩
  ·
   clear hp hq
   rintro s32 f81 w80 ⟨H77, S78, i79, k82, k83⟩
   refine FW.seq (FW.seq (FW.region ?_))
   refine FL.v (E.move k82) ?_
   refine FL.v (E.move k83) ?_
   refine FL.v (E.lenP te24 rfl p0) ?_
   refine FL.v (E.lss rfl rfl) ?_
   refine FL.nil ?_
   refine FW.condF rfl dlt_len ?_
   refine FW.exit ?_
   exact ⟨nofun, rfl, ⟨_, S78, i79⟩⟩
  ·
   clear hq
   intro e f76 w75 hD
   rcases q32 with s32 | x32
   ·
    obtain ⟨rfl, hD⟩ := hD
    obtain ⟨H72, S73, i74⟩ := hD
    replace hp := el_go hp
    refine FW.seq (FW.region ?_)
    refine FL.v (E.assign (v := Value.bool true) rfl) ?_
    refine FL.nil ?_
    refine FW.ret ?_
    obtain rfl := Option.some.inj hp
    exact ⟨.inr rfl, res1 rfl rfl ⟨rfl, S73.back⟩⟩
   ·
    obtain ⟨he, hL⟩ := hD
    replace hp := el_rt hp
    obtain rfl := Option.some.inj hp
    subst he
    exact hL

theorem w_spec_l1In {Ha : GH} {wa : World} (hs : Sl Ha wa) (a0 : Int) (a1 : Int) (a2 : Int) :
  Calls Tryz.prog 29 #[Value.int .i64 a0, Value.int .i64 a1, Value.int .i64 a2] wa (Sc Ha wa (Value.bool (PF.spec_l1In a0 a1 a2))) := by
 obtain ⟨r, hp⟩ : ∃ r, (PF.spec_l1In a0 a1 a2) = r := ⟨_, rfl⟩
 rw [hp]
 unfold PF.spec_l1In at hp
 have S0 := St.init hs
 refine calls_go (N := 15) (args := [Value.int .i64 a0, Value.int .i64 a1, Value.int .i64 a2]) Tryz.func29 rfl rfl rfl ?_
 refine FW.seq (FW.region ?_)
 refine FL.v (E.assign (v := Value.bool false) rfl) ?_
 refine FL.nil (FW.seq (FW.region ?_))
 refine FL.v (E.move (v := Value.int .i64 a0) rfl) ?_
 refine FL.v (E.move (v := Value.int .i64 a1) rfl) ?_
 refine FL.v (E.geq rfl rfl) ?_
 refine FL.v (E.move (v := Value.bool (decide (a1 ≤ a0))) rfl) ?_
 refine FL.cut 4 (fun f w => ∃ H : GH, St Ha wa H w [] ∧ Inc Ha H ∧ f 14 = Value.bool (bif (decide (a1 ≤ a0)) then (decide (a0 ≤ a2)) else false)) ?_ ?_
 ·
  rcases bcase (decide (a1 ≤ a0)) with c27 | c27
  ·
   refine FL.val (wF_yes rfl rfl rfl c27) rfl rfl (E.move (v := Value.int .i64 a0) rfl) ?_
   refine FL.val (wF_yes rfl rfl rfl c27) rfl rfl (E.move (v := Value.int .i64 a2) rfl) ?_
   refine FL.val (wF_yes rfl rfl rfl c27) rfl rfl (E.leq rfl rfl) ?_
   refine FL.v (E.pickT rfl c27 rfl) ?_
   exact FL.nil ⟨rfl, _, S0, (Inc.rfl _), (congrArg Value.bool (bifT c27).symm)⟩
  ·
   refine FL.skip (wF_no rfl rfl rfl c27) rfl ?_
   refine FL.skip (wF_no rfl rfl rfl c27) rfl ?_
   refine FL.skip (wF_no rfl rfl rfl c27) rfl ?_
   refine FL.v (E.pickF rfl c27 rfl) ?_
   exact FL.nil ⟨rfl, _, S0, (Inc.rfl _), (congrArg Value.bool (bifF c27).symm)⟩
 rintro f26 w25 ⟨H22, S23, i24, k28⟩
 refine FL.v (E.assign k28) ?_
 refine FL.nil ?_
 refine FW.ret ?_
 obtain rfl := hp
 exact ⟨.inr rfl, res1 rfl rfl ⟨rfl, S23.back⟩⟩

theorem w_spec_l24Scheme {Ha : GH} {wa : World} (hs : Sl Ha wa) (a0 : Int) :
  Calls Tryz.prog 88 #[Value.int .i64 a0] wa (Sc Ha wa (Value.bool (PF.spec_l24Scheme a0))) := by
 obtain ⟨r, hp⟩ : ∃ r, (PF.spec_l24Scheme a0) = r := ⟨_, rfl⟩
 rw [hp]
 unfold PF.spec_l24Scheme at hp
 have S0 := St.init hs
 refine calls_go (N := 5) (args := [Value.int .i64 a0]) Tryz.func88 rfl rfl rfl ?_
 refine FW.seq (FW.region ?_)
 refine FL.v (E.assign (v := Value.bool false) rfl) ?_
 refine FL.nil (FW.seq (FW.region ?_))
 refine FL.v (E.move (v := Value.int .i64 a0) rfl) ?_
 refine FL.call rfl rfl rfl (E.call Tryz.call29 (A3 rfl rfl rfl)) (w_spec_l1In S0.sl a0 1 10) ?_
 rintro e w21 ⟨rfl, r22⟩
 refine ⟨_, rfl, ?_⟩
 have S23 := S0.call r22
 refine FL.v (E.assign (v := Value.bool (PF.spec_l1In a0 1 10)) rfl) ?_
 refine FL.nil ?_
 refine FW.ret ?_
 obtain rfl := hp
 exact ⟨.inr rfl, res1 rfl rfl ⟨rfl, S23.back⟩⟩

theorem w_spec_l22Letter {Ha : GH} {wa : World} (hs : Sl Ha wa) (a0 : ByteArray) {r : Bool} (hp : (PF.spec_l22Letter a0) = some r) :
  Calls Tryz.prog 105 #[Value.string a0] wa (Sc Ha wa (Value.bool r)) := by
 unfold PF.spec_l22Letter at hp
 have S0 := St.init hs
 refine calls_go (N := 16) (args := [Value.string a0]) Tryz.func105 rfl rfl rfl ?_
 refine FW.seq (FW.region ?_)
 refine FL.v (E.assign (v := Value.bool false) rfl) ?_
 refine FL.nil (FW.seq (FW.region ?_))
 refine FL.v (E.move (v := Value.string a0) rfl) ?_
 refine FL.v (E.lenS Tryz.runUnderlying9 rfl) ?_
 refine FL.v (E.eql rfl rfl) ?_
 refine FL.v (E.move (v := Value.bool ((a0.size : Int) == 1)) rfl) ?_
 obtain ⟨t23, hqt23, hp⟩ := bnd hp
 refine FL.cut 4 (fun f w => ∃ H : GH, St Ha wa H w [] ∧ Inc Ha H ∧ f 0 = Value.string a0 ∧ f 10 = Value.bool t23) ?_ ?_
 ·
  clear hp; have hp := hqt23; clear hqt23
  rcases ifB hp with ⟨c29, hp⟩ | ⟨c29, hp⟩
  ·
   refine FL.val (wF_yes rfl rfl rfl c29) rfl rfl (E.move (v := Value.string a0) rfl) ?_
   obtain ⟨z30, h31, hp⟩ := bnd hp
   refine FL.val (wF_yes rfl rfl rfl c29) rfl rfl (E.ixS Tryz.runUnderlying9 rfl rfl h31) ?_
   refine FL.val (wF_yes rfl rfl rfl c29) rfl rfl (E.geq rfl rfl) ?_
   obtain rfl := Option.some.inj hp
   refine FL.v (E.pickT rfl c29 rfl) ?_
   exact FL.nil ⟨rfl, _, S0, (Inc.rfl _), rfl, rfl⟩
  ·
   refine FL.skip (wF_no rfl rfl rfl c29) rfl ?_
   refine FL.skip (wF_no rfl rfl rfl c29) rfl ?_
   refine FL.skip (wF_no rfl rfl rfl c29) rfl ?_
   obtain rfl := Option.some.inj hp
   refine FL.v (E.pickF rfl c29 rfl) ?_
   exact FL.nil ⟨rfl, _, S0, (Inc.rfl _), rfl, rfl⟩
 rintro f28 w27 ⟨H24, S25, i26, k32, k33⟩
 refine FL.v (E.move k33) ?_
 obtain ⟨t36, hqt36, hp⟩ := bnd hp
 refine FL.cut 4 (fun f w => ∃ H : GH, St Ha wa H w [] ∧ Inc H24 H ∧ f 15 = Value.bool t36) ?_ ?_
 ·
  clear hp; have hp := hqt36; clear hqt36
  rcases ifB hp with ⟨c42, hp⟩ | ⟨c42, hp⟩
  ·
   refine FL.val (wF_yes rfl rfl rfl c42) rfl rfl (E.move k32) ?_
   obtain ⟨z43, h44, hp⟩ := bnd hp
   refine FL.val (wF_yes rfl rfl rfl c42) rfl rfl (E.ixS Tryz.runUnderlying9 rfl rfl h44) ?_
   refine FL.val (wF_yes rfl rfl rfl c42) rfl rfl (E.leq rfl rfl) ?_
   obtain rfl := Option.some.inj hp
   refine FL.v (E.pickT rfl c42 rfl) ?_
   exact FL.nil ⟨rfl, _, S25, (Inc.rfl _), rfl⟩
  ·
   refine FL.skip (wF_no rfl rfl rfl c42) rfl ?_
   refine FL.skip (wF_no rfl rfl rfl c42) rfl ?_
   refine FL.skip (wF_no rfl rfl rfl c42) rfl ?_
   obtain rfl := Option.some.inj hp
   refine FL.v (E.pickF rfl c42 rfl) ?_
   exact FL.nil ⟨rfl, _, S25, (Inc.rfl _), rfl⟩
 rintro f41 w40 ⟨H37, S38, i39, k45⟩
 refine FL.v (E.assign k45) ?_
 refine FL.nil ?_
 refine FW.ret ?_
 obtain rfl := Option.some.inj hp
 exact ⟨.inr rfl, res1 rfl rfl ⟨rfl, S38.back⟩⟩

@[reducible] def p_spec_l24Match (Ha : GH) (wa : World) (r : ((List ByteArray) × Bool)) : Ending → World → Prop :=
 fun e w' => ∃ H' : GH, ∃ v0 : Value, e = .returned (Value.tuple #[v0, Value.bool r.2]) ∧ Run wa.heap.size Ha wa H' w' ∧ RSl H' eS 1 v0 r.1
set_option maxHeartbeats 4000000 in
theorem w_spec_l24Match_B {rec_spec_l24Match : ByteArray → ByteArray → (List ByteArray) → Option ((List ByteArray) × Bool)} (hrec_spec_l24Match : ∀ {Ha : GH} {wa : World} (hs : Sl Ha wa) (a0 : ByteArray) (a1 : ByteArray) (v2 : Value) (a2 : List ByteArray) (p2 : RSl Ha eS 1 v2 a2) {r : ((List ByteArray) × Bool)} (hp : rec_spec_l24Match a0 a1 a2 = some r), Calls Tryz.prog 99 #[Value.string a0, Value.string a1, v2] wa (p_spec_l24Match Ha wa r)) {Ha : GH} {wa : World} (hs : Sl Ha wa) (a0 : ByteArray) (a1 : ByteArray) (v2 : Value) (a2 : List ByteArray) (p2 : RSl Ha eS 1 v2 a2) {r : ((List ByteArray) × Bool)} (hp : PF.spec_l24Match_B rec_spec_l24Match a0 a1 a2 = some r) :
  Calls Tryz.prog 99 #[Value.string a0, Value.string a1, v2] wa (p_spec_l24Match Ha wa r) := by
 unfold PF.spec_l24Match_B at hp
 have S0 := St.init hs
 refine calls_go (N := 84) (args := [Value.string a0, Value.string a1, v2]) Tryz.func99 rfl rfl rfl ?_
 refine FW.seq (FW.region ?_)
 refine FL.v (E.assign (v := Value.slice none 0 0) rfl) ?_
 refine FL.v (E.assign (v := Value.bool false) rfl) ?_
 refine FL.nil (FW.seq (FW.seq (FW.region ?_)))
 refine FL.v (E.move (v := Value.string a0) rfl) ?_
 obtain ⟨r21, hr22, hp⟩ := bnd hp
 refine FL.call rfl rfl rfl (E.call Tryz.call105 (A1 rfl)) (w_spec_l22Letter S0.sl a0 hr22) ?_
 rintro e w23 ⟨rfl, r24⟩
 refine ⟨_, rfl, ?_⟩
 have S25 := S0.call r24
 refine FL.nil ?_
 rcases ifB hp with ⟨c26, hp⟩ | ⟨c26, hp⟩
 ·
  refine FW.condT rfl c26 ?_
  refine FW.seq (FW.region ?_)
  refine FL.v (E.move (v := Value.string a0) rfl) ?_
  obtain ⟨z27, h28, hp⟩ := bnd hp
  refine FL.v (E.ixS Tryz.runUnderlying9 rfl rfl h28) ?_
  refine FL.v (E.subK rfl rfl) ?_
  refine FL.v (E.conv Tryz.runUnderlying5 Tryz.runUnderlying3 rfl) ?_
  refine FL.v (E.assign (v := Value.int .i64 (wrk true 64 (wrk false 8 (z27 - 97)))) rfl) ?_
  refine FL.nil (FW.seq (FW.seq (FW.region ?_)))
  refine FL.v (E.move (v := v2) rfl) ?_
  refine FL.v (E.move (v := Value.int .i64 (wrk true 64 (wrk false 8 (z27 - 97)))) rfl) ?_
  obtain ⟨x35, hx36, hp⟩ := bnd hp
  obtain ⟨p29, cs30, pt31, l32, at33, rel34⟩ := p2.at hx36
  obtain rfl := eS_open rel34
  refine FL.v (E.indexAddr te24 rfl rfl pt31) ?_
  refine FL.v (E.load rfl (run_load0 Tryz.isAgg9 (at33.now S25.sl) rfl)) ?_
  refine FL.v (E.neqS rfl rfl) ?_
  refine FL.nil ?_
  rcases ifB hp with ⟨c37, hp⟩ | ⟨c37, hp⟩
  ·
   refine FW.condT rfl c37 ?_
   refine FW.seq ?_
   refine FW.draw (fun w' => Run w23.heap.size Ha w23 Ha w') (by kernel_rfl) (by kernel_rfl) (run_drew S25.sl) ?_
   refine FD.val rfl rfl rfl (fun w' hw' => (E.move (v := v2) rfl)) ?_
   refine FD.val rfl rfl rfl (fun w' hw' => (E.move (v := v2) rfl)) ?_
   refine FD.val rfl rfl rfl (fun w' hw' => (E.move (v := Value.int .i64 (wrk true 64 (wrk false 8 (z27 - 97)))) rfl)) ?_
   obtain ⟨x45, hx46, hp⟩ := bnd hp
   obtain ⟨p39, cs40, pt41, l42, at43, rel44⟩ := p2.at hx46
   obtain rfl := eS_open rel44
   refine FD.val rfl rfl rfl (fun w' hw' => (E.indexAddr te24 rfl rfl pt41)) ?_
   refine FD.val rfl rfl rfl (fun w' hw' => (E.load rfl (run_load0 Tryz.isAgg9 (at43.now (S25.call hw').sl) rfl))) ?_
   refine FD.val rfl rfl rfl (fun w' hw' => (E.move (v := Value.string a1) rfl)) ?_
   refine FD.val rfl rfl rfl (fun w' hw' => (E.eqlS rfl rfl)) ?_
   refine FD.val rfl rfl rfl (fun w' hw' => (E.assign (v := v2) rfl)) ?_
   refine FD.val rfl rfl rfl (fun w' hw' => (E.assign (v := Value.bool (x45.toList == a1.toList)) rfl)) ?_
   refine FD.nil ?_
   intro w47 r49
   have S48 := S25.call r49
   refine FW.ret ?_
   obtain rfl := Option.some.inj hp
   exact ⟨.inr rfl, res2 rfl rfl rfl ⟨_, _, rfl, S48.run, p2⟩⟩
  ·
   refine FW.condF rfl c37 ?_
   refine FW.skip (FW.seq (FW.region ?_))
   obtain ⟨v50, w51, run52, S53⟩ := S25.buildSlice (P := Tryz.prog) te24 [] (parts := #[]) (cells := []) rfl szs_nil fc_nil ones_nil (Nat.le_of_ble_eq_true rfl)
   have els54 : Els (up wa.heap.size Ha) eS 1 [] [] := Els.nil
   refine FL.v (E.buildSlice (B0) run52) ?_
   refine FL.v (E.move (v := v2) rfl) ?_
   obtain ⟨xs55, hz56, hp⟩ := bnd hp
   obtain ⟨v57, w60, n58, cs59, run61, S62, els63⟩ := S53.appendP (P := Tryz.prog) (Inc.rfl _) te24 (i := 0) rfl (els54.mono upI) p2 hz56
   have S62 : St Ha wa Ha w60 [.row 9 1 v57 n58 cs59] := S62
   have els63 : Els (up wa.heap.size Ha) eS 1 cs59 xs55 := els63.any (fun _ _ _ _ h => h)
   refine FL.v (E.append rfl rfl run61) ?_
   refine FL.v (E.assign (v := v57) rfl) ?_
   refine FL.nil (FW.seq (FW.region ?_))
   refine FL.v (E.move (v := v57) rfl) ?_
   refine FL.v (E.move (v := Value.int .i64 (wrk true 64 (wrk false 8 (z27 - 97)))) rfl) ?_
   refine FL.v (E.move (v := Value.string a1) rfl) ?_
   obtain ⟨x71, hx72, hp⟩ := bnd hp
   obtain ⟨p65, cs66, pt67, l68, at69, rel70⟩ := S62.row_at (i := 0) rfl els63 (by decide) hx72
   obtain rfl := eS_open rel70
   refine FL.v (E.indexAddr te24 rfl rfl pt67) ?_
   obtain ⟨xs76, hput77, hp⟩ := bnd hp
   obtain ⟨w73, cs79, run74, S75, els78, ce80⟩ := S62.putEls (P := Tryz.prog) (t := 9) (i := 0) rfl els63 hput77 pt67 Tryz.sizeOf9 (u := Value.string a1) (c := [Value.string a1]) rfl rfl (ones_cons rfl ones_nil) rfl
   have S75 : St Ha wa Ha w73 [.row 9 1 v57 n58 cs79] := S75
   refine FL.act rfl rfl (E.store rfl rfl run74) ?_
   refine FL.nil (FW.seq (FW.region ?_))
   refine FL.v (E.move (v := v57) rfl) ?_
   refine FL.v (E.assign (v := v57) rfl) ?_
   refine FL.v (E.assign (v := Value.bool true) rfl) ?_
   refine FL.nil ?_
   refine FW.ret ?_
   obtain ⟨H81, S82, i83, h84, nv85⟩ := S75.sealRowU (i := 0) (l' := []) rfl els78 (by decide) rfl
   obtain rfl := Option.some.inj hp
   exact ⟨.inr rfl, res2 rfl rfl rfl ⟨_, _, rfl, S82.run, (h84.mono upI)⟩⟩
 ·
  refine FW.condF rfl c26 ?_
  refine FW.skip (FW.seq (FW.region ?_))
  refine FL.v (E.move (v := Value.string a0) rfl) ?_
  obtain ⟨r86, hr87, hp⟩ := bnd hp
  refine FL.call rfl rfl rfl (E.call Tryz.call44 (A1 rfl)) (w_spec_l22Parts S25.sl a0 hr87) ?_
  rintro e w88 ⟨rfl, r89⟩
  refine ⟨_, rfl, ?_⟩
  have S90 := S25.call r89
  refine FL.v (E.move (v := Value.tuple #[Value.int .u8 r86.1, Value.string r86.2.1, Value.string r86.2.2]) rfl) ?_
  refine FL.v (E.extract (i := 0) rfl rfl) ?_
  refine FL.v (E.extract (i := 1) rfl rfl) ?_
  refine FL.v (E.extract (i := 2) rfl rfl) ?_
  refine FL.v (E.assign (v := Value.int .u8 r86.1) rfl) ?_
  refine FL.v (E.assign (v := Value.string r86.2.1) rfl) ?_
  refine FL.v (E.assign (v := Value.string r86.2.2) rfl) ?_
  refine FL.nil (FW.seq (FW.region ?_))
  refine FL.v (E.move (v := Value.string a1) rfl) ?_
  obtain ⟨r91, hr92, hp⟩ := bnd hp
  refine FL.call rfl rfl rfl (E.call Tryz.call44 (A1 rfl)) (w_spec_l22Parts S90.sl a1 hr92) ?_
  rintro e w93 ⟨rfl, r94⟩
  refine ⟨_, rfl, ?_⟩
  have S95 := S90.call r94
  refine FL.v (E.move (v := Value.tuple #[Value.int .u8 r91.1, Value.string r91.2.1, Value.string r91.2.2]) rfl) ?_
  refine FL.v (E.extract (i := 0) rfl rfl) ?_
  refine FL.v (E.extract (i := 1) rfl rfl) ?_
  refine FL.v (E.extract (i := 2) rfl rfl) ?_
  refine FL.v (E.assign (v := Value.int .u8 r91.1) rfl) ?_
  refine FL.v (E.assign (v := Value.string r91.2.1) rfl) ?_
  refine FL.v (E.assign (v := Value.string r91.2.2) rfl) ?_
  refine FL.nil (FW.seq (FW.seq (FW.region ?_)))
  refine FL.v (E.move (v := Value.int .u8 r86.1) rfl) ?_
  refine FL.v (E.move (v := Value.int .u8 r91.1) rfl) ?_
  refine FL.v (E.neq rfl rfl) ?_
  refine FL.nil ?_
  rcases ifB hp with ⟨c96, hp⟩ | ⟨c96, hp⟩
  ·
   refine FW.condT rfl c96 ?_
   refine FW.seq (FW.region ?_)
   refine FL.v (E.move (v := v2) rfl) ?_
   refine FL.v (E.assign (v := v2) rfl) ?_
   refine FL.v (E.assign (v := Value.bool false) rfl) ?_
   refine FL.nil ?_
   refine FW.ret ?_
   obtain rfl := Option.some.inj hp
   exact ⟨.inr rfl, res2 rfl rfl rfl ⟨_, _, rfl, S95.run, p2⟩⟩
  ·
   refine FW.condF rfl c96 ?_
   refine FW.skip (FW.seq (FW.seq (FW.region ?_)))
   refine FL.v (E.move (v := Value.string r86.2.1) rfl) ?_
   refine FL.v (E.eqlS rfl rfl) ?_
   refine FL.nil ?_
   rcases ifB hp with ⟨c97, hp⟩ | ⟨c97, hp⟩
   ·
    refine FW.condT rfl c97 ?_
    refine FW.seq (FW.region ?_)
    refine FL.v (E.move (v := v2) rfl) ?_
    refine FL.v (E.assign (v := v2) rfl) ?_
    refine FL.v (E.assign (v := Value.bool true) rfl) ?_
    refine FL.nil ?_
    refine FW.ret ?_
    obtain rfl := Option.some.inj hp
    exact ⟨.inr rfl, res2 rfl rfl rfl ⟨_, _, rfl, S95.run, p2⟩⟩
   ·
    refine FW.condF rfl c97 ?_
    refine FW.skip (FW.seq (FW.region ?_))
    refine FL.v (E.move (v := Value.string r86.2.1) rfl) ?_
    refine FL.v (E.move (v := Value.string r91.2.1) rfl) ?_
    refine FL.v (E.move (v := v2) rfl) ?_
    obtain ⟨r98, hr99, hp⟩ := bnd hp
    refine FL.call rfl rfl rfl (E.call Tryz.call99 (A3 rfl rfl rfl)) (hrec_spec_l24Match S95.sl r86.2.1 r91.2.1 v2 a2 p2 hr99) ?_
    rintro e w101 ⟨H100, v104, rfl, r103, h105⟩
    refine ⟨_, rfl, ?_⟩
    have S102 := S95.call r103
    refine FL.v (E.move (v := Value.tuple #[v104, Value.bool r98.2]) rfl) ?_
    refine FL.v (E.extract (i := 0) rfl rfl) ?_
    refine FL.v (E.extract (i := 1) rfl rfl) ?_
    refine FL.v (E.assign (v := v104) rfl) ?_
    refine FL.v (E.assign (v := Value.bool r98.2) rfl) ?_
    refine FL.nil (FW.seq (FW.seq (FW.region ?_)))
    refine FL.v (E.move (v := Value.bool r98.2) rfl) ?_
    refine FL.v (E.not rfl) ?_
    refine FL.v (E.move (v := Value.bool (!r98.2)) rfl) ?_
    refine FL.cut 3 (fun f w => ∃ H : GH, St Ha wa H w [] ∧ Inc H100 H ∧ f 12 = Value.string r86.2.2 ∧ f 15 = Value.string r91.2.2 ∧ f 16 = v104 ∧ f 17 = Value.bool r98.2 ∧ f 75 = Value.bool (bif (!r98.2) then true else (r86.2.2.toList == (ByteArray.mk #[]).toList))) ?_ ?_
    ·
     rcases bcase (!r98.2) with c112 | c112
     ·
      refine FL.skip (wF_no rfl rfl rfl c112) rfl ?_
      refine FL.skip (wF_no rfl rfl rfl c112) rfl ?_
      refine FL.v (E.pickT rfl c112 rfl) ?_
      exact FL.nil ⟨rfl, _, S102, (Inc.rfl _), rfl, rfl, rfl, rfl, (congrArg Value.bool (bifT c112).symm)⟩
     ·
      refine FL.val (wF_yes rfl rfl rfl c112) rfl rfl (E.move (v := Value.string r86.2.2) rfl) ?_
      refine FL.val (wF_yes rfl rfl rfl c112) rfl rfl (E.eqlS rfl rfl) ?_
      refine FL.v (E.pickF rfl c112 rfl) ?_
      exact FL.nil ⟨rfl, _, S102, (Inc.rfl _), rfl, rfl, rfl, rfl, (congrArg Value.bool (bifF c112).symm)⟩
    rintro f111 w110 ⟨H107, S108, i109, k113, k114, k115, k116, k117⟩
    refine FL.nil ?_
    rcases ifB hp with ⟨c118, hp⟩ | ⟨c118, hp⟩
    ·
     refine FW.condT k117 c118 ?_
     refine FW.seq (FW.region ?_)
     refine FL.v (E.move k115) ?_
     refine FL.v (E.move k116) ?_
     refine FL.v (E.assign (v := v104) rfl) ?_
     refine FL.v (E.assign (v := Value.bool r98.2) rfl) ?_
     refine FL.nil ?_
     refine FW.ret ?_
     obtain rfl := Option.some.inj hp
     exact ⟨.inr rfl, res2 rfl rfl rfl ⟨_, _, rfl, S108.run, (h105.mono i109)⟩⟩
    ·
     refine FW.condF k117 c118 ?_
     refine FW.skip (FW.seq (FW.region ?_))
     refine FL.v (E.move k113) ?_
     refine FL.v (E.move k114) ?_
     refine FL.v (E.move k115) ?_
     obtain ⟨r119, hr120, hp⟩ := bnd hp
     refine FL.call rfl rfl rfl (E.call Tryz.call99 (A3 rfl rfl rfl)) (hrec_spec_l24Match S108.sl r86.2.2 r91.2.2 v104 r98.1 (h105.mono i109) hr120) ?_
     rintro e w122 ⟨H121, v125, rfl, r124, h126⟩
     refine ⟨_, rfl, ?_⟩
     have S123 := S108.call r124
     refine FL.v (E.extract (i := 0) rfl rfl) ?_
     refine FL.v (E.extract (i := 1) rfl rfl) ?_
     refine FL.v (E.assign (v := v125) rfl) ?_
     refine FL.v (E.assign (v := Value.bool r119.2) rfl) ?_
     refine FL.nil ?_
     refine FW.ret ?_
     obtain rfl := Option.some.inj hp
     exact ⟨.inr rfl, res2 rfl rfl rfl ⟨_, _, rfl, S123.run, h126⟩⟩
theorem w_spec_l24Match_F (n : Nat) : ∀ {Ha : GH} {wa : World} (hs : Sl Ha wa) (a0 : ByteArray) (a1 : ByteArray) (v2 : Value) (a2 : List ByteArray) (p2 : RSl Ha eS 1 v2 a2) {r : ((List ByteArray) × Bool)} (hp : PF.spec_l24Match_F n a0 a1 a2 = some r), Calls Tryz.prog 99 #[Value.string a0, Value.string a1, v2] wa (p_spec_l24Match Ha wa r) := by
 induction n with
 | zero => intros; rename_i hp; exact nomatch hp
 | succ n ih => exact w_spec_l24Match_B (rec_spec_l24Match := PF.spec_l24Match_F n) ih
theorem w_spec_l24Match {Ha : GH} {wa : World} (hs : Sl Ha wa) (a0 : ByteArray) (a1 : ByteArray) (v2 : Value) (a2 : List ByteArray) (p2 : RSl Ha eS 1 v2 a2) {r : ((List ByteArray) × Bool)} (hp : PF.spec_l24Match a0 a1 a2 = some r) :
  Calls Tryz.prog 99 #[Value.string a0, Value.string a1, v2] wa (p_spec_l24Match Ha wa r) := w_spec_l24Match_F deep hs a0 a1 v2 a2 p2 hp

theorem w_spec_l24Is {Ha : GH} {wa : World} (hs : Sl Ha wa) (a0 : Int) (a1 : ByteArray) {r : Bool} (hp : (PF.spec_l24Is a0 a1) = some r) :
  Calls Tryz.prog 89 #[Value.int .i64 a0, Value.string a1] wa (Sc Ha wa (Value.bool r)) := by
 unfold PF.spec_l24Is at hp
 have S0 := St.init hs
 refine calls_go (N := 19) (args := [Value.int .i64 a0, Value.string a1]) Tryz.func89 rfl rfl rfl ?_
 refine FW.seq (FW.region ?_)
 refine FL.v (E.assign (v := Value.bool false) rfl) ?_
 refine FL.nil (FW.seq (FW.region ?_))
 refine FL.call rfl rfl rfl (E.call Tryz.call62 A0) (w_spec_l24Schemes S0.sl ) ?_
 rintro e w22 ⟨H21, v25, n26, cs27, rfl, r24, els28⟩
 refine ⟨_, rfl, ?_⟩
 have els28 := els28.mono (up_le S0.size)
 have S23 := S0.join (l' := [.row 9 1 v25 n26 cs27]) r24 rfl
 refine FL.v (E.move (v := Value.int .i64 a0) rfl) ?_
 refine FL.v (E.sub rfl rfl) ?_
 obtain ⟨x35, hx36, hp⟩ := bnd hp
 obtain ⟨p29, cs30, pt31, l32, at33, rel34⟩ := S23.row_at (i := 0) rfl els28 (by decide) hx36
 obtain rfl := eS_open rel34
 refine FL.v (E.indexAddr te24 rfl rfl pt31) ?_
 refine FL.v (E.load rfl (run_load0 Tryz.isAgg9 at33 rfl)) ?_
 refine FL.v (E.move (v := Value.string a1) rfl) ?_
 obtain ⟨v37, w38, run39, S40⟩ := S23.buildSlice (P := Tryz.prog) te24 [Value.string (ByteArray.mk #[]), Value.string (ByteArray.mk #[]), Value.string (ByteArray.mk #[])] (parts := #[(0, Value.string (ByteArray.mk #[])), (1, Value.string (ByteArray.mk #[])), (2, Value.string (ByteArray.mk #[]))]) (cells := [Value.string (ByteArray.mk #[]), Value.string (ByteArray.mk #[]), Value.string (ByteArray.mk #[])]) rfl (szs_cons rfl (szs_cons rfl (szs_cons rfl szs_nil))) (fc_cons rfl (fc_cons rfl (fc_cons rfl fc_nil))) (ones_cons rfl (ones_cons rfl (ones_cons rfl ones_nil))) (Nat.le_of_ble_eq_true rfl)
 have els41 : Els (up wa.heap.size H21) eS 1 [Value.string (ByteArray.mk #[]), Value.string (ByteArray.mk #[]), Value.string (ByteArray.mk #[])] [(ByteArray.mk #[]), (ByteArray.mk #[]), (ByteArray.mk #[])] := (Els.snoc (H := (up wa.heap.size H21)) (E := eS) (k := 1) (c := [Value.string (ByteArray.mk #[])]) (x := (ByteArray.mk #[])) (Els.snoc (H := (up wa.heap.size H21)) (E := eS) (k := 1) (c := [Value.string (ByteArray.mk #[])]) (x := (ByteArray.mk #[])) (Els.snoc (H := (up wa.heap.size H21)) (E := eS) (k := 1) (c := [Value.string (ByteArray.mk #[])]) (x := (ByteArray.mk #[])) Els.nil rfl rfl) rfl rfl) rfl rfl)
 refine FL.v (E.buildSlice (B3 rfl rfl rfl) run39) ?_
 obtain ⟨H42, S43, i44, h45, nv46⟩ := S40.sealRowU (i := 0) (l' := [.row 9 1 v25 n26 cs27]) rfl els41 (by decide) rfl
 obtain ⟨r47, hr48, hp⟩ := bnd hp
 refine FL.call rfl rfl rfl (E.call Tryz.call99 (A3 rfl rfl rfl)) (w_spec_l24Match S43.sl x35 a1 v37 [(ByteArray.mk #[]), (ByteArray.mk #[]), (ByteArray.mk #[])] (h45.mono upI) hr48) ?_
 rintro e w50 ⟨H49, v53, rfl, r52, h54⟩
 refine ⟨_, rfl, ?_⟩
 have S51 := S43.call r52
 refine FL.v (E.move (v := Value.tuple #[v53, Value.bool r47.2]) rfl) ?_
 refine FL.v (E.extract (i := 0) rfl rfl) ?_
 refine FL.v (E.extract (i := 1) rfl rfl) ?_
 refine FL.v (E.assign (v := v53) rfl) ?_
 refine FL.v (E.assign (v := Value.bool r47.2) rfl) ?_
 refine FL.nil (FW.seq (FW.region ?_))
 refine FL.v (E.move (v := Value.bool r47.2) rfl) ?_
 refine FL.v (E.assign (v := Value.bool r47.2) rfl) ?_
 refine FL.nil ?_
 refine FW.ret ?_
 obtain rfl := Option.some.inj hp
 exact ⟨.inr rfl, res1 rfl rfl ⟨rfl, S51.back⟩⟩

theorem w_spec_l24Implies {Ha : GH} {wa : World} (hs : Sl Ha wa) (a0 : ByteArray) (a1 : ByteArray) {r : ByteArray} (hp : (PF.spec_l24Implies a0 a1) = some r) :
  Calls Tryz.prog 53 #[Value.string a0, Value.string a1] wa (Sc Ha wa (Value.string r)) := by
 unfold PF.spec_l24Implies at hp
 have S0 := St.init hs
 refine calls_go (N := 11) (args := [Value.string a0, Value.string a1]) Tryz.func53 rfl rfl rfl ?_
 refine FW.seq (FW.region ?_)
 refine FL.v (E.assign (v := Value.string (ByteArray.mk #[])) rfl) ?_
 refine FL.nil (FW.seq (FW.region ?_))
 refine FL.v (E.move (v := Value.string a0) rfl) ?_
 obtain ⟨z21, h22, hp⟩ := bnd hp
 refine FL.v (E.addT rfl rfl h22) ?_
 obtain ⟨z23, h24, hp⟩ := bnd hp
 refine FL.v (E.addT rfl rfl h24) ?_
 refine FL.v (E.move (v := Value.string a1) rfl) ?_
 obtain ⟨z25, h26, hp⟩ := bnd hp
 refine FL.v (E.addT rfl rfl h26) ?_
 obtain ⟨z27, h28, hp⟩ := bnd hp
 refine FL.v (E.addT rfl rfl h28) ?_
 refine FL.v (E.assign (v := Value.string z27) rfl) ?_
 refine FL.nil ?_
 refine FW.ret ?_
 obtain rfl := Option.some.inj hp
 exact ⟨.inr rfl, res1 rfl rfl ⟨rfl, S0.back⟩⟩

set_option maxHeartbeats 4000000 in
theorem w_spec_l24Correct {Ha : GH} {wa : World} (hs : Sl Ha wa) (v0 : Value) (a0 : List ByteArray) (p0 : RSl Ha eS 1 v0 a0) (v1 : Value) (a1 : List FregeStep) (p1 : RSl Ha eFregeStep 4 v1 a1) (a2 : Int) {r : Bool} (hp : (PF.spec_l24Correct a0 a1 a2) = some r) :
  Calls Tryz.prog 71 #[v0, v1, Value.int .i64 a2] wa (Sc Ha wa (Value.bool r)) := by
 unfold PF.spec_l24Correct at hp
 have S0 := St.init hs
 refine calls_go (N := 94) (args := [v0, v1, Value.int .i64 a2]) Tryz.func71 rfl rfl rfl ?_
 refine FW.seq (FW.region ?_)
 refine FL.v (E.assign (v := Value.bool false) rfl) ?_
 refine FL.nil (FW.seq (FW.region ?_))
 refine FL.v (E.move (v := v1) rfl) ?_
 refine FL.v (E.move (v := Value.int .i64 a2) rfl) ?_
 obtain ⟨x27, hx28, hp⟩ := bnd hp
 obtain ⟨p21, cs22, pt23, l24, at25, rel26⟩ := p1.at hx28
 obtain rfl := eFregeStep_open rel26
 refine FL.v (E.indexAddr te25 rfl rfl pt23) ?_
 refine FL.v (E.load rfl (run_loadA Tryz.isAgg39 Tryz.sizeOf39 (at25.now S0.sl) rfl)) ?_
 obtain ⟨b29, w30, run31, S32⟩ := S0.alloc (P := Tryz.prog) 39 [Value.string ByteArray.empty, Value.int .i64 0, Value.int .i64 0, Value.int .i64 0] Tryz.zeroValue39 rfl (ones_cons rfl (ones_cons rfl (ones_cons rfl (ones_cons rfl ones_nil))))
 refine FL.v (E.alloc run31) ?_
 obtain ⟨w33, run34, S35⟩ := S32.store0 (P := Tryz.prog) (t := 39) (i := 0) (cs' := [Value.string x27.formula, Value.int .i64 x27.rule, Value.int .i64 x27.a, Value.int .i64 x27.b]) (l' := [.box b29 39 [Value.string x27.formula, Value.int .i64 x27.rule, Value.int .i64 x27.a, Value.int .i64 x27.b]]) (v := Value.agg #[Value.string x27.formula, Value.int .i64 x27.rule, Value.int .i64 x27.a, Value.int .i64 x27.b]) (c := [Value.string x27.formula, Value.int .i64 x27.rule, Value.int .i64 x27.a, Value.int .i64 x27.b]) rfl Tryz.sizeOf39 rfl rfl (ones_cons rfl (ones_cons rfl (ones_cons rfl (ones_cons rfl ones_nil)))) (Nat.le_of_ble_eq_true rfl) rfl rfl
 refine FL.act rfl rfl (E.store rfl rfl run34) ?_
 obtain ⟨H36, S37, i38, at39⟩ := S35.sealBox (i := 0) (l' := []) rfl rfl
 refine FL.nil (FW.seq (FW.seq (FW.region ?_)))
 refine FL.v (E.fieldAddr tf39_0 rfl) ?_
 refine FL.v (E.load rfl (run_load1 Tryz.isAgg9 (at39.now S37.sl) rfl)) ?_
 obtain ⟨r40, hr41, hp⟩ := bnd hp
 refine FL.call rfl rfl rfl (E.call Tryz.call40 (A1 rfl)) (w_spec_l22Good S37.sl x27.formula hr41) ?_
 rintro e w42 ⟨rfl, r43⟩
 refine ⟨_, rfl, ?_⟩
 have S44 := S37.call r43
 refine FL.v (E.not rfl) ?_
 refine FL.nil ?_
 rcases ifB hp with ⟨c45, hp⟩ | ⟨c45, hp⟩
 ·
  refine FW.condT rfl c45 ?_
  refine FW.seq (FW.region ?_)
  refine FL.v (E.assign (v := Value.bool false) rfl) ?_
  refine FL.nil ?_
  refine FW.ret ?_
  obtain rfl := Option.some.inj hp
  exact ⟨.inr rfl, res1 rfl rfl ⟨rfl, S44.back⟩⟩
 ·
  refine FW.condF rfl c45 ?_
  refine FW.skip (FW.seq (FW.block (FW.seq (FW.region ?_))))
  refine FL.v (E.fieldAddr tf39_1 rfl) ?_
  refine FL.v (E.load rfl (run_load1 Tryz.isAgg3 (at39.now S44.sl) rfl)) ?_
  refine FL.call rfl rfl rfl (E.call Tryz.call88 (A1 rfl)) (w_spec_l24Scheme S44.sl x27.rule) ?_
  rintro e w46 ⟨rfl, r47⟩
  refine ⟨_, rfl, ?_⟩
  have S48 := S44.call r47
  refine FL.v (E.assign (v := Value.bool (PF.spec_l24Scheme x27.rule)) rfl) ?_
  refine FL.nil ?_
  rcases ifB hp with ⟨c49, hp⟩ | ⟨c49, hp⟩
  ·
   refine FW.condT rfl c49 ?_
   refine FW.seq (FW.region ?_)
   refine FL.v (E.fieldAddr tf39_2 rfl) ?_
   refine FL.v (E.load rfl (run_load1 Tryz.isAgg3 (at39.now S48.sl) rfl)) ?_
   refine FL.v (E.eql rfl rfl) ?_
   refine FL.v (E.move (v := Value.bool (x27.a == 0)) rfl) ?_
   refine FL.cut 4 (fun f w => ∃ H : GH, St Ha wa H w [] ∧ Inc H36 H ∧ f 7 = Value.pointer (some ⟨b29, 0, none⟩) ∧ f 27 = Value.bool (bif (x27.a == 0) then (x27.b == 0) else false)) ?_ ?_
   ·
    rcases bcase (x27.a == 0) with c56 | c56
    ·
     refine FL.val (wF_yes rfl rfl rfl c56) rfl rfl (E.fieldAddr tf39_3 rfl) ?_
     refine FL.val (wF_yes rfl rfl rfl c56) rfl rfl (E.load rfl (run_load1 Tryz.isAgg3 (at39.now S48.sl) rfl)) ?_
     refine FL.val (wF_yes rfl rfl rfl c56) rfl rfl (E.eql rfl rfl) ?_
     refine FL.v (E.pickT rfl c56 rfl) ?_
     exact FL.nil ⟨rfl, _, S48, (Inc.rfl _), rfl, (congrArg Value.bool (bifT c56).symm)⟩
    ·
     refine FL.skip (wF_no rfl rfl rfl c56) rfl ?_
     refine FL.skip (wF_no rfl rfl rfl c56) rfl ?_
     refine FL.skip (wF_no rfl rfl rfl c56) rfl ?_
     refine FL.v (E.pickF rfl c56 rfl) ?_
     exact FL.nil ⟨rfl, _, S48, (Inc.rfl _), rfl, (congrArg Value.bool (bifF c56).symm)⟩
   rintro f55 w54 ⟨H51, S52, i53, k57, k58⟩
   refine FL.v (E.move k58) ?_
   obtain ⟨t64, hqt64, hp⟩ := bnd hp
   refine FL.cut 6 (fun f w => ∃ H : GH, St Ha wa H w [] ∧ Inc H51 H ∧ f 34 = Value.bool t64) ?_ ?_
   ·
    clear hp; have hp := hqt64; clear hqt64
    rcases ifB hp with ⟨c70, hp⟩ | ⟨c70, hp⟩
    ·
     refine FL.val (wF_yes rfl rfl rfl c70) rfl rfl (E.fieldAddr tf39_1 k57) ?_
     refine FL.val (wF_yes rfl rfl rfl c70) rfl rfl (E.load rfl (run_load1 Tryz.isAgg3 ((at39.mono i53).now S52.sl) rfl)) ?_
     refine FL.val (wF_yes rfl rfl rfl c70) rfl rfl (E.fieldAddr tf39_0 k57) ?_
     refine FL.val (wF_yes rfl rfl rfl c70) rfl rfl (E.load rfl (run_load1 Tryz.isAgg9 ((at39.mono i53).now S52.sl) rfl)) ?_
     obtain ⟨r71, hr72, hp⟩ := bnd hp
     refine FL.call (wF_yes rfl rfl rfl c70) rfl rfl (E.call Tryz.call89 (A2 rfl rfl)) (w_spec_l24Is S52.sl x27.rule x27.formula hr72) ?_
     rintro e w73 ⟨rfl, r74⟩
     refine ⟨_, rfl, ?_⟩
     have S75 := S52.call r74
     obtain rfl := Option.some.inj hp
     refine FL.v (E.pickT rfl c70 rfl) ?_
     exact FL.nil ⟨rfl, _, S75, (Inc.rfl _), rfl⟩
    ·
     refine FL.skip (wF_no rfl rfl rfl c70) rfl ?_
     refine FL.skip (wF_no rfl rfl rfl c70) rfl ?_
     refine FL.skip (wF_no rfl rfl rfl c70) rfl ?_
     refine FL.skip (wF_no rfl rfl rfl c70) rfl ?_
     refine FL.skip (wF_no rfl rfl rfl c70) rfl ?_
     obtain rfl := Option.some.inj hp
     refine FL.v (E.pickF rfl c70 rfl) ?_
     exact FL.nil ⟨rfl, _, S52, (Inc.rfl _), rfl⟩
   rintro f69 w68 ⟨H65, S66, i67, k76⟩
   refine FL.v (E.assign k76) ?_
   refine FL.nil ?_
   refine FW.ret ?_
   obtain rfl := Option.some.inj hp
   exact ⟨.inr rfl, res1 rfl rfl ⟨rfl, S66.back⟩⟩
  ·
   refine FW.condF rfl c49 ?_
   refine FW.seq (FW.region ?_)
   refine FL.v (E.fieldAddr tf39_1 rfl) ?_
   refine FL.v (E.load rfl (run_load1 Tryz.isAgg3 (at39.now S48.sl) rfl)) ?_
   refine FL.v (E.eql rfl rfl) ?_
   refine FL.v (E.assign (v := Value.bool (x27.rule == 0)) rfl) ?_
   refine FL.nil ?_
   rcases ifB hp with ⟨c77, hp⟩ | ⟨c77, hp⟩
   ·
    refine FW.condT rfl c77 ?_
    refine FW.seq ?_
    refine FW.draw (fun w' => Run w46.heap.size H36 w46 H36 w') (by kernel_rfl) (by kernel_rfl) (run_drew S48.sl) ?_
    refine FD.val rfl rfl rfl (fun w' hw' => (E.fieldAddr tf39_3 rfl)) ?_
    refine FD.val rfl rfl rfl (fun w' hw' => (E.load rfl (run_load1 Tryz.isAgg3 (at39.now (S48.call hw').sl) rfl))) ?_
    refine FD.val rfl rfl rfl (fun w' hw' => (E.eql rfl rfl)) ?_
    refine FD.val rfl rfl rfl (fun w' hw' => (E.move (v := Value.bool (x27.b == 0)) rfl)) ?_
    refine FD.cut 7 (fun f => f 0 = v0 ∧ f 7 = Value.pointer (some ⟨b29, 0, none⟩) ∧ f 49 = Value.bool (bif (x27.b == 0) then (PF.spec_l1In x27.a 0 (wr ((len a0) - 1))) else false)) ?_ ?_
    ·
     rcases bcase (x27.b == 0) with c85 | c85
     ·
      refine FD.val (wF_yes rfl rfl rfl c85) rfl rfl (fun w' hw' => (E.fieldAddr tf39_2 rfl)) ?_
      refine FD.val (wF_yes rfl rfl rfl c85) rfl rfl (fun w' hw' => (E.load rfl (run_load1 Tryz.isAgg3 (at39.now (S48.call hw').sl) rfl))) ?_
      refine FD.val (wF_yes rfl rfl rfl c85) rfl rfl (fun w' hw' => (E.move (v := v0) rfl)) ?_
      refine FD.val (wF_yes rfl rfl rfl c85) rfl rfl (fun w' hw' => (E.lenP te24 rfl p0)) ?_
      refine FD.val (wF_yes rfl rfl rfl c85) rfl rfl (fun w' hw' => (E.sub rfl rfl)) ?_
      refine FD.call (wF_yes rfl rfl rfl c85) rfl rfl (fun w' hw' => (E.call Tryz.call29 (A3 rfl rfl rfl))) (fun w' hw' => Calls.cls hw' (w_spec_l1In (S48.call hw').sl x27.a 0 (wr ((len a0) - 1)))) ?_
      refine FD.val rfl rfl rfl (fun w' hw' => (E.pickT rfl c85 rfl)) ?_
      exact FD.nil ⟨rfl, rfl, (congrArg Value.bool (bifT c85).symm)⟩
     ·
      refine FD.skip (wF_no rfl rfl rfl c85) rfl ?_
      refine FD.skip (wF_no rfl rfl rfl c85) rfl ?_
      refine FD.skip (wF_no rfl rfl rfl c85) rfl ?_
      refine FD.skip (wF_no rfl rfl rfl c85) rfl ?_
      refine FD.skip (wF_no rfl rfl rfl c85) rfl ?_
      refine FD.skip (wF_no rfl rfl rfl c85) rfl ?_
      refine FD.val rfl rfl rfl (fun w' hw' => (E.pickF rfl c85 rfl)) ?_
      exact FD.nil ⟨rfl, rfl, (congrArg Value.bool (bifF c85).symm)⟩
    rintro f84 ⟨k86, k87, k88⟩
    refine FD.val rfl rfl rfl (fun w' hw' => (E.move k88)) ?_
    obtain ⟨t97, hqt97, hp⟩ := bnd hp
    refine FD.cut 9 (fun f => f 59 = Value.bool t97) ?_ ?_
    ·
     clear hp; have hp := hqt97; clear hqt97
     rcases ifB hp with ⟨c103, hp⟩ | ⟨c103, hp⟩
     ·
      refine FD.val (wF_yes rfl rfl rfl c103) rfl rfl (fun w' hw' => (E.move k86)) ?_
      refine FD.val (wF_yes rfl rfl rfl c103) rfl rfl (fun w' hw' => (E.fieldAddr tf39_2 k87)) ?_
      refine FD.val (wF_yes rfl rfl rfl c103) rfl rfl (fun w' hw' => (E.load rfl (run_load1 Tryz.isAgg3 (at39.now (S48.call hw').sl) rfl))) ?_
      obtain ⟨x110, hx111, hp⟩ := bnd hp
      obtain ⟨p104, cs105, pt106, l107, at108, rel109⟩ := p0.at hx111
      obtain rfl := eS_open rel109
      refine FD.val (wF_yes rfl rfl rfl c103) rfl rfl (fun w' hw' => (E.indexAddr te24 rfl rfl pt106)) ?_
      refine FD.val (wF_yes rfl rfl rfl c103) rfl rfl (fun w' hw' => (E.load rfl (run_load0 Tryz.isAgg9 ((at108.mono i38).now (S48.call hw').sl) rfl))) ?_
      refine FD.val (wF_yes rfl rfl rfl c103) rfl rfl (fun w' hw' => (E.fieldAddr tf39_0 k87)) ?_
      refine FD.val (wF_yes rfl rfl rfl c103) rfl rfl (fun w' hw' => (E.load rfl (run_load1 Tryz.isAgg9 (at39.now (S48.call hw').sl) rfl))) ?_
      refine FD.val (wF_yes rfl rfl rfl c103) rfl rfl (fun w' hw' => (E.eqlS rfl rfl)) ?_
      obtain rfl := Option.some.inj hp
      refine FD.val rfl rfl rfl (fun w' hw' => (E.pickT rfl c103 rfl)) ?_
      exact FD.nil rfl
     ·
      refine FD.skip (wF_no rfl rfl rfl c103) rfl ?_
      refine FD.skip (wF_no rfl rfl rfl c103) rfl ?_
      refine FD.skip (wF_no rfl rfl rfl c103) rfl ?_
      refine FD.skip (wF_no rfl rfl rfl c103) rfl ?_
      refine FD.skip (wF_no rfl rfl rfl c103) rfl ?_
      refine FD.skip (wF_no rfl rfl rfl c103) rfl ?_
      refine FD.skip (wF_no rfl rfl rfl c103) rfl ?_
      refine FD.skip (wF_no rfl rfl rfl c103) rfl ?_
      obtain rfl := Option.some.inj hp
      refine FD.val rfl rfl rfl (fun w' hw' => (E.pickF rfl c103 rfl)) ?_
      exact FD.nil rfl
    intro f102 k112
    refine FD.val rfl rfl rfl (fun w' hw' => (E.assign k112)) ?_
    refine FD.nil ?_
    intro w113 r115
    have S114 := S48.call r115
    refine FW.ret ?_
    obtain rfl := Option.some.inj hp
    exact ⟨.inr rfl, res1 rfl rfl ⟨rfl, S114.back⟩⟩
   ·
    refine FW.condF rfl c77 ?_
    refine FW.seq (FW.region ?_)
    refine FL.v (E.fieldAddr tf39_1 rfl) ?_
    refine FL.v (E.load rfl (run_load1 Tryz.isAgg3 (at39.now S48.sl) rfl)) ?_
    refine FL.v (E.eql rfl rfl) ?_
    refine FL.v (E.assign (v := Value.bool (x27.rule == (-1))) rfl) ?_
    refine FL.nil ?_
    rcases ifB hp with ⟨c116, hp⟩ | ⟨c116, hp⟩
    ·
     refine FW.condT rfl c116 ?_
     refine FW.seq ?_
     refine FW.draw (fun w' => Run w46.heap.size H36 w46 H36 w') (by kernel_rfl) (by kernel_rfl) (run_drew S48.sl) ?_
     refine FD.val rfl rfl rfl (fun w' hw' => (E.fieldAddr tf39_2 rfl)) ?_
     refine FD.val rfl rfl rfl (fun w' hw' => (E.load rfl (run_load1 Tryz.isAgg3 (at39.now (S48.call hw').sl) rfl))) ?_
     refine FD.val rfl rfl rfl (fun w' hw' => (E.move (v := Value.int .i64 a2) rfl)) ?_
     refine FD.val rfl rfl rfl (fun w' hw' => (E.sub rfl rfl)) ?_
     refine FD.call rfl rfl rfl (fun w' hw' => (E.call Tryz.call29 (A3 rfl rfl rfl))) (fun w' hw' => Calls.cls hw' (w_spec_l1In (S48.call hw').sl x27.a 0 (wr (a2 - 1)))) ?_
     refine FD.val rfl rfl rfl (fun w' hw' => (E.move (v := Value.bool (PF.spec_l1In x27.a 0 (wr (a2 - 1)))) rfl)) ?_
     refine FD.cut 6 (fun f => f 1 = v1 ∧ f 7 = Value.pointer (some ⟨b29, 0, none⟩) ∧ f 75 = Value.bool (bif (PF.spec_l1In x27.a 0 (wr (a2 - 1))) then (PF.spec_l1In x27.b 0 (wr (a2 - 1))) else false)) ?_ ?_
     ·
      rcases bcase (PF.spec_l1In x27.a 0 (wr (a2 - 1))) with c124 | c124
      ·
       refine FD.val (wF_yes rfl rfl rfl c124) rfl rfl (fun w' hw' => (E.fieldAddr tf39_3 rfl)) ?_
       refine FD.val (wF_yes rfl rfl rfl c124) rfl rfl (fun w' hw' => (E.load rfl (run_load1 Tryz.isAgg3 (at39.now (S48.call hw').sl) rfl))) ?_
       refine FD.val (wF_yes rfl rfl rfl c124) rfl rfl (fun w' hw' => (E.move (v := Value.int .i64 a2) rfl)) ?_
       refine FD.val (wF_yes rfl rfl rfl c124) rfl rfl (fun w' hw' => (E.sub rfl rfl)) ?_
       refine FD.call (wF_yes rfl rfl rfl c124) rfl rfl (fun w' hw' => (E.call Tryz.call29 (A3 rfl rfl rfl))) (fun w' hw' => Calls.cls hw' (w_spec_l1In (S48.call hw').sl x27.b 0 (wr (a2 - 1)))) ?_
       refine FD.val rfl rfl rfl (fun w' hw' => (E.pickT rfl c124 rfl)) ?_
       exact FD.nil ⟨rfl, rfl, (congrArg Value.bool (bifT c124).symm)⟩
      ·
       refine FD.skip (wF_no rfl rfl rfl c124) rfl ?_
       refine FD.skip (wF_no rfl rfl rfl c124) rfl ?_
       refine FD.skip (wF_no rfl rfl rfl c124) rfl ?_
       refine FD.skip (wF_no rfl rfl rfl c124) rfl ?_
       refine FD.skip (wF_no rfl rfl rfl c124) rfl ?_
       refine FD.val rfl rfl rfl (fun w' hw' => (E.pickF rfl c124 rfl)) ?_
       exact FD.nil ⟨rfl, rfl, (congrArg Value.bool (bifF c124).symm)⟩
     rintro f123 ⟨k125, k126, k127⟩
     refine FD.val rfl rfl rfl (fun w' hw' => (E.move k127)) ?_
     obtain ⟨t146, hqt146, hp⟩ := bnd hp
     refine FD.cut 17 (fun f => f 93 = Value.bool t146) ?_ ?_
     ·
      clear hp; have hp := hqt146; clear hqt146
      rcases ifB hp with ⟨c152, hp⟩ | ⟨c152, hp⟩
      ·
       refine FD.val (wF_yes rfl rfl rfl c152) rfl rfl (fun w' hw' => (E.move k125)) ?_
       refine FD.val (wF_yes rfl rfl rfl c152) rfl rfl (fun w' hw' => (E.fieldAddr tf39_3 k126)) ?_
       refine FD.val (wF_yes rfl rfl rfl c152) rfl rfl (fun w' hw' => (E.load rfl (run_load1 Tryz.isAgg3 (at39.now (S48.call hw').sl) rfl))) ?_
       obtain ⟨x159, hx160, hp⟩ := bnd hp
       obtain ⟨p153, cs154, pt155, l156, at157, rel158⟩ := p1.at hx160
       obtain rfl := eFregeStep_open rel158
       refine FD.val (wF_yes rfl rfl rfl c152) rfl rfl (fun w' hw' => (E.indexAddr te25 rfl rfl pt155)) ?_
       refine FD.val (wF_yes rfl rfl rfl c152) rfl rfl (fun w' hw' => (E.fieldAddr tf39_0 rfl)) ?_
       refine FD.val (wF_yes rfl rfl rfl c152) rfl rfl (fun w' hw' => (E.load rfl (run_load1 Tryz.isAgg9 ((at157.mono i38).now (S48.call hw').sl) rfl))) ?_
       refine FD.val (wF_yes rfl rfl rfl c152) rfl rfl (fun w' hw' => (E.move k125)) ?_
       refine FD.val (wF_yes rfl rfl rfl c152) rfl rfl (fun w' hw' => (E.fieldAddr tf39_2 k126)) ?_
       refine FD.val (wF_yes rfl rfl rfl c152) rfl rfl (fun w' hw' => (E.load rfl (run_load1 Tryz.isAgg3 (at39.now (S48.call hw').sl) rfl))) ?_
       obtain ⟨x167, hx168, hp⟩ := bnd hp
       obtain ⟨p161, cs162, pt163, l164, at165, rel166⟩ := p1.at hx168
       obtain rfl := eFregeStep_open rel166
       refine FD.val (wF_yes rfl rfl rfl c152) rfl rfl (fun w' hw' => (E.indexAddr te25 rfl rfl pt163)) ?_
       refine FD.val (wF_yes rfl rfl rfl c152) rfl rfl (fun w' hw' => (E.fieldAddr tf39_0 rfl)) ?_
       refine FD.val (wF_yes rfl rfl rfl c152) rfl rfl (fun w' hw' => (E.load rfl (run_load1 Tryz.isAgg9 ((at165.mono i38).now (S48.call hw').sl) rfl))) ?_
       refine FD.val (wF_yes rfl rfl rfl c152) rfl rfl (fun w' hw' => (E.fieldAddr tf39_0 k126)) ?_
       refine FD.val (wF_yes rfl rfl rfl c152) rfl rfl (fun w' hw' => (E.load rfl (run_load1 Tryz.isAgg9 (at39.now (S48.call hw').sl) rfl))) ?_
       obtain ⟨r169, hr170, hp⟩ := bnd hp
       refine FD.call (wF_yes rfl rfl rfl c152) rfl rfl (fun w' hw' => (E.call Tryz.call53 (A2 rfl rfl))) (fun w' hw' => Calls.cls hw' (w_spec_l24Implies (S48.call hw').sl x167.formula x27.formula hr170)) ?_
       refine FD.val (wF_yes rfl rfl rfl c152) rfl rfl (fun w' hw' => (E.eqlS rfl rfl)) ?_
       obtain rfl := Option.some.inj hp
       refine FD.val rfl rfl rfl (fun w' hw' => (E.pickT rfl c152 rfl)) ?_
       exact FD.nil rfl
      ·
       refine FD.skip (wF_no rfl rfl rfl c152) rfl ?_
       refine FD.skip (wF_no rfl rfl rfl c152) rfl ?_
       refine FD.skip (wF_no rfl rfl rfl c152) rfl ?_
       refine FD.skip (wF_no rfl rfl rfl c152) rfl ?_
       refine FD.skip (wF_no rfl rfl rfl c152) rfl ?_
       refine FD.skip (wF_no rfl rfl rfl c152) rfl ?_
       refine FD.skip (wF_no rfl rfl rfl c152) rfl ?_
       refine FD.skip (wF_no rfl rfl rfl c152) rfl ?_
       refine FD.skip (wF_no rfl rfl rfl c152) rfl ?_
       refine FD.skip (wF_no rfl rfl rfl c152) rfl ?_
       refine FD.skip (wF_no rfl rfl rfl c152) rfl ?_
       refine FD.skip (wF_no rfl rfl rfl c152) rfl ?_
       refine FD.skip (wF_no rfl rfl rfl c152) rfl ?_
       refine FD.skip (wF_no rfl rfl rfl c152) rfl ?_
       refine FD.skip (wF_no rfl rfl rfl c152) rfl ?_
       refine FD.skip (wF_no rfl rfl rfl c152) rfl ?_
       obtain rfl := Option.some.inj hp
       refine FD.val rfl rfl rfl (fun w' hw' => (E.pickF rfl c152 rfl)) ?_
       exact FD.nil rfl
     intro f151 k171
     refine FD.val rfl rfl rfl (fun w' hw' => (E.assign k171)) ?_
     refine FD.nil ?_
     intro w172 r174
     have S173 := S48.call r174
     refine FW.ret ?_
     obtain rfl := Option.some.inj hp
     exact ⟨.inr rfl, res1 rfl rfl ⟨rfl, S173.back⟩⟩
    ·
     refine FW.condF rfl c116 ?_
     refine FW.skip (FW.seq (FW.region ?_))
     refine FL.v (E.assign (v := Value.bool false) rfl) ?_
     refine FL.nil ?_
     refine FW.ret ?_
     obtain rfl := Option.some.inj hp
     exact ⟨.inr rfl, res1 rfl rfl ⟨rfl, S48.back⟩⟩

theorem w_spec_l24Wrong {Ha : GH} {wa : World} (hs : Sl Ha wa) (v0 : Value) (a0 : List ByteArray) (p0 : RSl Ha eS 1 v0 a0) (v1 : Value) (a1 : List FregeStep) (p1 : RSl Ha eFregeStep 4 v1 a1) {r : Int} (hp : (PF.spec_l24Wrong a0 a1) = some r) :
  Calls Tryz.prog 52 #[v0, v1] wa (Sc Ha wa (Value.int .i64 r)) := by
 unfold PF.spec_l24Wrong at hp
 have S0 := St.init hs
 refine calls_go (N := 18) (args := [v0, v1]) Tryz.func52 rfl rfl rfl ?_
 refine FW.seq (FW.region ?_)
 refine FL.v (E.assign (v := Value.int .i64 0) rfl) ?_
 refine FL.nil (FW.seq (FW.seq (FW.region ?_)))
 refine FL.v (E.assign (v := Value.int .i64 0) rfl) ?_
 refine FL.nil ?_
 obtain ⟨q22, hq, hp⟩ := bndR hp
 refine FW.block ?_
 refine FW.mono (FW.forL (S := Unit) (X := Int) (fun (i22 : Nat) (s22 : Unit) f w => ∃ H : GH, St Ha wa H w [] ∧ Inc Ha H ∧ f 5 = Value.int .i64 ((i22 : Nat) : Int) ∧ f 0 = v0 ∧ f 1 = v1) (fun q e f w => match q with | .go s22 => e = Exit.exit 0 ∧ (∃ H : GH, St Ha wa H w [] ∧ Inc Ha H) | .rt x => ((e = Exit.ret) ∧ (fun e f w => (e = Exit.normal ∨ e = Exit.ret) ∧ ∀ a, Fr (δ := []) 18 a f → ∃ v, (results Tryz.f52 a.tmps).run Tryz.prog w = .ok v w ∧ (Sc Ha wa (Value.int .i64 x)) (.returned v) w) e f w)) hq ⟨_, S0, (Inc.rfl _), rfl, rfl, rfl⟩ ?_ ?_) ?_
 ·
  clear hp hq
  rintro i22 y21 s22 f41 w40 ⟨H37, S38, i39, k42, k43, k44⟩ hx22 o51 hp
  refine FW.seq (FW.seq (FW.region ?_))
  refine FL.v (E.move k42) ?_
  refine FL.v (E.move k44) ?_
  refine FL.v (E.lenP te25 rfl p1) ?_
  refine FL.v (E.lssT rfl rfl (lss_len hx22)) ?_
  refine FL.nil ?_
  refine FW.condT rfl rfl ?_
  refine FW.skip (FW.seq (FW.block (FW.seq (FW.region ?_))))
  refine FL.v (E.move k43) ?_
  refine FL.v (E.move k44) ?_
  refine FL.v (E.move k42) ?_
  obtain ⟨r45, hr46, hp⟩ := bnd hp
  refine FL.call rfl rfl rfl (E.call Tryz.call71 (A3 rfl rfl rfl)) (w_spec_l24Correct S38.sl v0 a0 (p0.mono i39) v1 a1 (p1.mono i39) ((i22 : Nat) : Int) hr46) ?_
  rintro e w47 ⟨rfl, r48⟩
  refine ⟨_, rfl, ?_⟩
  have S49 := S38.call r48
  refine FL.v (E.not rfl) ?_
  refine FL.nil ?_
  rcases ifB hp with ⟨c50, hp⟩ | ⟨c50, hp⟩
  ·
   refine FW.condT rfl c50 ?_
   refine FW.seq (FW.region ?_)
   refine FL.v (E.move k42) ?_
   refine FL.v (E.assign (v := Value.int .i64 ((i22 : Nat) : Int)) rfl) ?_
   refine FL.nil ?_
   refine FW.ret ?_
   obtain rfl := Option.some.inj hp
   exact ⟨nofun, rfl, ⟨.inr rfl, res1 rfl rfl ⟨rfl, S49.back⟩⟩⟩
  ·
   refine FW.condF rfl c50 ?_
   refine FW.skip (FW.region ?_)
   refine FL.v (E.move k42) ?_
   refine FL.v (E.add rfl rfl) ?_
   refine FL.v (E.assign (v := Value.int .i64 (wr (((i22 : Nat) : Int) + 1))) rfl) ?_
   refine FL.nil ?_
   obtain rfl := Option.some.inj hp
   exact ⟨rfl, ⟨_, S49, i39, (nat_succ rfl (lt_of_get hx22) (p1.mono i39).le), k43, k44⟩⟩
 ·
  clear hp hq
  rintro s22 f61 w60 ⟨H57, S58, i59, k62, k63, k64⟩
  refine FW.seq (FW.seq (FW.region ?_))
  refine FL.v (E.move k62) ?_
  refine FL.v (E.move k64) ?_
  refine FL.v (E.lenP te25 rfl p1) ?_
  refine FL.v (E.lss rfl rfl) ?_
  refine FL.nil ?_
  refine FW.condF rfl dlt_len ?_
  refine FW.exit ?_
  exact ⟨nofun, rfl, ⟨_, S58, i59⟩⟩
 ·
  clear hq
  intro e f56 w55 hD
  rcases q22 with s22 | x22
  ·
   obtain ⟨rfl, hD⟩ := hD
   obtain ⟨H52, S53, i54⟩ := hD
   replace hp := el_go hp
   refine FW.seq (FW.region ?_)
   refine FL.v (E.assign (v := Value.int .i64 (-1)) rfl) ?_
   refine FL.nil ?_
   refine FW.ret ?_
   obtain rfl := Option.some.inj hp
   exact ⟨.inr rfl, res1 rfl rfl ⟨rfl, S53.back⟩⟩
  ·
   obtain ⟨he, hL⟩ := hD
   replace hp := el_rt hp
   obtain rfl := Option.some.inj hp
   subst he
   exact hL

theorem w_spec_l24Good {Ha : GH} {wa : World} (hs : Sl Ha wa) (v0 : Value) (a0 : List ByteArray) (p0 : RSl Ha eS 1 v0 a0) (v1 : Value) (a1 : List FregeStep) (p1 : RSl Ha eFregeStep 4 v1 a1) {r : Bool} (hp : (PF.spec_l24Good a0 a1) = some r) :
  Calls Tryz.prog 28 #[v0, v1] wa (Sc Ha wa (Value.bool r)) := by
 unfold PF.spec_l24Good at hp
 have S0 := St.init hs
 refine calls_go (N := 19) (args := [v0, v1]) Tryz.func28 rfl rfl rfl ?_
 refine FW.seq (FW.region ?_)
 refine FL.v (E.assign (v := Value.bool false) rfl) ?_
 refine FL.nil (FW.seq (FW.region ?_))
 refine FL.v (E.move (v := v0) rfl) ?_
 refine FL.v (E.move (v := v1) rfl) ?_
 obtain ⟨r21, hr22, hp⟩ := bnd hp
 refine FL.call rfl rfl rfl (E.call Tryz.call51 (A2 rfl rfl)) (w_spec_l24Asked S0.sl v0 a0 p0 v1 a1 p1 hr22) ?_
 rintro e w23 ⟨rfl, r24⟩
 refine ⟨_, rfl, ?_⟩
 have S25 := S0.call r24
 refine FL.v (E.move (v := Value.bool r21) rfl) ?_
 refine FL.cut 4 (fun f w => ∃ H : GH, St Ha wa H w [] ∧ Inc Ha H ∧ f 0 = v0 ∧ f 1 = v1 ∧ f 12 = Value.bool (bif r21 then (decide (0 < (len a1))) else false)) ?_ ?_
 ·
  rcases bcase r21 with c32 | c32
  ·
   refine FL.val (wF_yes rfl rfl rfl c32) rfl rfl (E.move (v := v1) rfl) ?_
   refine FL.val (wF_yes rfl rfl rfl c32) rfl rfl (E.lenP te25 rfl p1) ?_
   refine FL.val (wF_yes rfl rfl rfl c32) rfl rfl (E.gtr rfl rfl) ?_
   refine FL.v (E.pickT rfl c32 rfl) ?_
   exact FL.nil ⟨rfl, _, S25, (Inc.rfl _), rfl, rfl, (congrArg Value.bool (bifT c32).symm)⟩
  ·
   refine FL.skip (wF_no rfl rfl rfl c32) rfl ?_
   refine FL.skip (wF_no rfl rfl rfl c32) rfl ?_
   refine FL.skip (wF_no rfl rfl rfl c32) rfl ?_
   refine FL.v (E.pickF rfl c32 rfl) ?_
   exact FL.nil ⟨rfl, _, S25, (Inc.rfl _), rfl, rfl, (congrArg Value.bool (bifF c32).symm)⟩
 rintro f31 w30 ⟨H27, S28, i29, k33, k34, k35⟩
 refine FL.v (E.move k35) ?_
 obtain ⟨t41, hqt41, hp⟩ := bnd hp
 refine FL.cut 5 (fun f w => ∃ H : GH, St Ha wa H w [] ∧ Inc H27 H ∧ f 18 = Value.bool t41) ?_ ?_
 ·
  clear hp; have hp := hqt41; clear hqt41
  rcases ifB hp with ⟨c47, hp⟩ | ⟨c47, hp⟩
  ·
   refine FL.val (wF_yes rfl rfl rfl c47) rfl rfl (E.move k33) ?_
   refine FL.val (wF_yes rfl rfl rfl c47) rfl rfl (E.move k34) ?_
   obtain ⟨r48, hr49, hp⟩ := bnd hp
   refine FL.call (wF_yes rfl rfl rfl c47) rfl rfl (E.call Tryz.call52 (A2 rfl rfl)) (w_spec_l24Wrong S28.sl v0 a0 (p0.mono i29) v1 a1 (p1.mono i29) hr49) ?_
   rintro e w50 ⟨rfl, r51⟩
   refine ⟨_, rfl, ?_⟩
   have S52 := S28.call r51
   refine FL.val (wF_yes rfl rfl rfl c47) rfl rfl (E.lss rfl rfl) ?_
   obtain rfl := Option.some.inj hp
   refine FL.v (E.pickT rfl c47 rfl) ?_
   exact FL.nil ⟨rfl, _, S52, (Inc.rfl _), rfl⟩
  ·
   refine FL.skip (wF_no rfl rfl rfl c47) rfl ?_
   refine FL.skip (wF_no rfl rfl rfl c47) rfl ?_
   refine FL.skip (wF_no rfl rfl rfl c47) rfl ?_
   refine FL.skip (wF_no rfl rfl rfl c47) rfl ?_
   obtain rfl := Option.some.inj hp
   refine FL.v (E.pickF rfl c47 rfl) ?_
   exact FL.nil ⟨rfl, _, S28, (Inc.rfl _), rfl⟩
 rintro f46 w45 ⟨H42, S43, i44, k53⟩
 refine FL.v (E.assign k53) ?_
 refine FL.nil ?_
 refine FW.ret ?_
 obtain rfl := Option.some.inj hp
 exact ⟨.inr rfl, res1 rfl rfl ⟨rfl, S43.back⟩⟩

@[reducible] def p_spec_l24Identity (H0 : GH) (w0 : World) (Ha : GH) (L : List MO) (r : (List FregeStep)) : Ending → World → Prop :=
 fun e w' => ∃ H' : GH, ∃ v0r : Value, ∃ n0r : Nat, ∃ c0r : List Value, e = .returned (v0r) ∧ (St H0 w0 H' w' (.row 39 4 v0r n0r c0r :: L) ∧ Inc Ha H') ∧ Els (up w0.heap.size H') eFregeStep 4 c0r r
set_option maxHeartbeats 4000000 in
theorem w_spec_l24Identity {H0 Ha : GH} {w0 wa : World} {L : List MO} {v0 : Value} {n0 : Nat} {k0 : List Value} (S0 : St H0 w0 Ha wa (.row 39 4 v0 n0 k0 :: L)) (a0 : List FregeStep) (p0 : Els (up w0.heap.size Ha) eFregeStep 4 k0 a0) (a1 : ByteArray) {r : (List FregeStep)} (hp : (PF.spec_l24Identity a0 a1) = some r) :
  Calls Tryz.prog 41 #[v0, Value.string a1] wa (p_spec_l24Identity H0 w0 Ha L r) := by
 unfold PF.spec_l24Identity at hp
 refine calls_go (N := 57) (args := [v0, Value.string a1]) Tryz.func41 rfl rfl rfl ?_
 refine FW.seq (FW.region ?_)
 refine FL.v (E.assign (v := Value.slice none 0 0) rfl) ?_
 refine FL.nil (FW.seq (FW.region ?_))
 refine FL.v (E.move (v := v0) rfl) ?_
 refine FL.v (E.lenO te25 rfl S0 (i := 0) rfl p0 (by decide)) ?_
 refine FL.v (E.move (v := Value.string a1) rfl) ?_
 refine FL.v (E.move (v := Value.string a1) rfl) ?_
 obtain ⟨r21, hr22, hp⟩ := bnd hp
 refine FL.call rfl rfl rfl (E.call Tryz.call53 (A2 rfl rfl)) (w_spec_l24Implies S0.sl a1 a1 hr22) ?_
 rintro e w23 ⟨rfl, r24⟩
 refine ⟨_, rfl, ?_⟩
 have S25 := S0.call r24
 refine FL.v (E.assign (v := Value.int .i64 (len a0)) rfl) ?_
 refine FL.v (E.assign (v := Value.string r21) rfl) ?_
 refine FL.nil (FW.seq (FW.region ?_))
 refine FL.v (E.move (v := v0) rfl) ?_
 refine FL.v (E.move (v := Value.string a1) rfl) ?_
 refine FL.v (E.move (v := Value.string r21) rfl) ?_
 refine FL.v (E.move (v := Value.string a1) rfl) ?_
 obtain ⟨r26, hr27, hp⟩ := bnd hp
 refine FL.call rfl rfl rfl (E.call Tryz.call45 (A4 rfl rfl rfl rfl)) (w_spec_l24Case S25.sl 2 a1 r21 a1 hr27) ?_
 rintro e w28 ⟨rfl, r29⟩
 refine ⟨_, rfl, ?_⟩
 have S30 := S25.call r29
 refine FL.v (E.build (B2 rfl rfl) (run_build _ 39 #[(0, Value.string r26), (1, Value.int .i64 2)] #[Value.string r26, Value.int .i64 2, Value.int .i64 0, Value.int .i64 0] (by rfl))) ?_
 obtain ⟨v31, w32, run33, S34⟩ := S30.buildSlice (P := Tryz.prog) te25 [Value.agg #[Value.string r26, Value.int .i64 2, Value.int .i64 0, Value.int .i64 0]] (parts := #[(0, Value.agg #[Value.string r26, Value.int .i64 2, Value.int .i64 0, Value.int .i64 0])]) (cells := [Value.string r26, Value.int .i64 2, Value.int .i64 0, Value.int .i64 0]) rfl (szs_cons rfl szs_nil) (fc_cons rfl fc_nil) (ones_cons rfl (ones_cons rfl (ones_cons rfl (ones_cons rfl ones_nil)))) (Nat.le_of_ble_eq_true rfl)
 have els35 : Els (up w0.heap.size Ha) eFregeStep 4 [Value.string r26, Value.int .i64 2, Value.int .i64 0, Value.int .i64 0] [(FregeStep.mk r26 2 0 0)] := (Els.snoc (H := (up w0.heap.size Ha)) (E := eFregeStep) (k := 4) (c := [Value.string r26, Value.int .i64 2, Value.int .i64 0, Value.int .i64 0]) (x := (FregeStep.mk r26 2 0 0)) Els.nil rfl rfl)
 refine FL.v (E.buildSlice (B1 rfl) run33) ?_
 obtain ⟨xs36, hz37, hp⟩ := bnd hp
 obtain ⟨v38, w41, n39, cs40, run42, S43, els44, ce45⟩ := S34.appendO (P := Tryz.prog) te25 (i := 1) (j := 0) rfl p0 rfl els35 hz37
 have S43 : St H0 w0 Ha w41 (.row 39 4 v31 1 [Value.string r26, Value.int .i64 2, Value.int .i64 0, Value.int .i64 0] :: .row 39 4 v38 n39 cs40 :: L) := S43
 have S46 : St H0 w0 Ha w41 (.row 39 4 v38 n39 cs40 :: L) := S43.drop 0
 refine FL.v (E.append rfl rfl run42) ?_
 refine FL.v (E.assign (v := v38) rfl) ?_
 refine FL.nil (FW.seq (FW.region ?_))
 refine FL.v (E.move (v := v38) rfl) ?_
 refine FL.v (E.move (v := Value.string a1) rfl) ?_
 refine FL.v (E.move (v := Value.string r21) rfl) ?_
 refine FL.v (E.move (v := Value.string a1) rfl) ?_
 obtain ⟨r47, hr48, hp⟩ := bnd hp
 refine FL.call rfl rfl rfl (E.call Tryz.call45 (A4 rfl rfl rfl rfl)) (w_spec_l24Case S46.sl 1 a1 r21 a1 hr48) ?_
 rintro e w49 ⟨rfl, r50⟩
 refine ⟨_, rfl, ?_⟩
 have S51 := S46.call r50
 refine FL.v (E.build (B2 rfl rfl) (run_build _ 39 #[(0, Value.string r47), (1, Value.int .i64 1)] #[Value.string r47, Value.int .i64 1, Value.int .i64 0, Value.int .i64 0] (by rfl))) ?_
 obtain ⟨v52, w53, run54, S55⟩ := S51.buildSlice (P := Tryz.prog) te25 [Value.agg #[Value.string r47, Value.int .i64 1, Value.int .i64 0, Value.int .i64 0]] (parts := #[(0, Value.agg #[Value.string r47, Value.int .i64 1, Value.int .i64 0, Value.int .i64 0])]) (cells := [Value.string r47, Value.int .i64 1, Value.int .i64 0, Value.int .i64 0]) rfl (szs_cons rfl szs_nil) (fc_cons rfl fc_nil) (ones_cons rfl (ones_cons rfl (ones_cons rfl (ones_cons rfl ones_nil)))) (Nat.le_of_ble_eq_true rfl)
 have els56 : Els (up w0.heap.size Ha) eFregeStep 4 [Value.string r47, Value.int .i64 1, Value.int .i64 0, Value.int .i64 0] [(FregeStep.mk r47 1 0 0)] := (Els.snoc (H := (up w0.heap.size Ha)) (E := eFregeStep) (k := 4) (c := [Value.string r47, Value.int .i64 1, Value.int .i64 0, Value.int .i64 0]) (x := (FregeStep.mk r47 1 0 0)) Els.nil rfl rfl)
 refine FL.v (E.buildSlice (B1 rfl) run54) ?_
 obtain ⟨xs57, hz58, hp⟩ := bnd hp
 obtain ⟨v59, w62, n60, cs61, run63, S64, els65, ce66⟩ := S55.appendO (P := Tryz.prog) te25 (i := 1) (j := 0) rfl els44 rfl els56 hz58
 have S64 : St H0 w0 Ha w62 (.row 39 4 v52 1 [Value.string r47, Value.int .i64 1, Value.int .i64 0, Value.int .i64 0] :: .row 39 4 v59 n60 cs61 :: L) := S64
 have S67 : St H0 w0 Ha w62 (.row 39 4 v59 n60 cs61 :: L) := S64.drop 0
 refine FL.v (E.append rfl rfl run63) ?_
 refine FL.v (E.assign (v := v59) rfl) ?_
 refine FL.nil (FW.seq (FW.region ?_))
 refine FL.v (E.move (v := v59) rfl) ?_
 refine FL.v (E.move (v := Value.string a1) rfl) ?_
 refine FL.v (E.move (v := Value.string r21) rfl) ?_
 obtain ⟨r68, hr69, hp⟩ := bnd hp
 refine FL.call rfl rfl rfl (E.call Tryz.call53 (A2 rfl rfl)) (w_spec_l24Implies S67.sl a1 r21 hr69) ?_
 rintro e w70 ⟨rfl, r71⟩
 refine ⟨_, rfl, ?_⟩
 have S72 := S67.call r71
 refine FL.v (E.move (v := Value.string r21) rfl) ?_
 obtain ⟨r73, hr74, hp⟩ := bnd hp
 refine FL.call rfl rfl rfl (E.call Tryz.call53 (A2 rfl rfl)) (w_spec_l24Implies S72.sl r68 r21 hr74) ?_
 rintro e w75 ⟨rfl, r76⟩
 refine ⟨_, rfl, ?_⟩
 have S77 := S72.call r76
 refine FL.v (E.move (v := Value.int .i64 (len a0)) rfl) ?_
 refine FL.v (E.add rfl rfl) ?_
 refine FL.v (E.move (v := Value.int .i64 (len a0)) rfl) ?_
 refine FL.v (E.build (B4 rfl rfl rfl rfl) (run_build _ 39 #[(0, Value.string r73), (1, Value.int .i64 (-1)), (2, Value.int .i64 (wr ((len a0) + 1))), (3, Value.int .i64 (len a0))] #[Value.string r73, Value.int .i64 (-1), Value.int .i64 (wr ((len a0) + 1)), Value.int .i64 (len a0)] (by rfl))) ?_
 obtain ⟨v78, w79, run80, S81⟩ := S77.buildSlice (P := Tryz.prog) te25 [Value.agg #[Value.string r73, Value.int .i64 (-1), Value.int .i64 (wr ((len a0) + 1)), Value.int .i64 (len a0)]] (parts := #[(0, Value.agg #[Value.string r73, Value.int .i64 (-1), Value.int .i64 (wr ((len a0) + 1)), Value.int .i64 (len a0)])]) (cells := [Value.string r73, Value.int .i64 (-1), Value.int .i64 (wr ((len a0) + 1)), Value.int .i64 (len a0)]) rfl (szs_cons rfl szs_nil) (fc_cons rfl fc_nil) (ones_cons rfl (ones_cons rfl (ones_cons rfl (ones_cons rfl ones_nil)))) (Nat.le_of_ble_eq_true rfl)
 have els82 : Els (up w0.heap.size Ha) eFregeStep 4 [Value.string r73, Value.int .i64 (-1), Value.int .i64 (wr ((len a0) + 1)), Value.int .i64 (len a0)] [(FregeStep.mk r73 (-1) (wr ((len a0) + 1)) (len a0))] := (Els.snoc (H := (up w0.heap.size Ha)) (E := eFregeStep) (k := 4) (c := [Value.string r73, Value.int .i64 (-1), Value.int .i64 (wr ((len a0) + 1)), Value.int .i64 (len a0)]) (x := (FregeStep.mk r73 (-1) (wr ((len a0) + 1)) (len a0))) Els.nil rfl rfl)
 refine FL.v (E.buildSlice (B1 rfl) run80) ?_
 obtain ⟨xs83, hz84, hp⟩ := bnd hp
 obtain ⟨v85, w88, n86, cs87, run89, S90, els91, ce92⟩ := S81.appendO (P := Tryz.prog) te25 (i := 1) (j := 0) rfl els65 rfl els82 hz84
 have S90 : St H0 w0 Ha w88 (.row 39 4 v78 1 [Value.string r73, Value.int .i64 (-1), Value.int .i64 (wr ((len a0) + 1)), Value.int .i64 (len a0)] :: .row 39 4 v85 n86 cs87 :: L) := S90
 have S93 : St H0 w0 Ha w88 (.row 39 4 v85 n86 cs87 :: L) := S90.drop 0
 refine FL.v (E.append rfl rfl run89) ?_
 refine FL.v (E.assign (v := v85) rfl) ?_
 refine FL.nil (FW.seq (FW.region ?_))
 refine FL.v (E.move (v := v85) rfl) ?_
 refine FL.v (E.move (v := Value.string a1) rfl) ?_
 refine FL.v (E.move (v := Value.string a1) rfl) ?_
 refine FL.v (E.move (v := Value.string a1) rfl) ?_
 obtain ⟨r94, hr95, hp⟩ := bnd hp
 refine FL.call rfl rfl rfl (E.call Tryz.call45 (A4 rfl rfl rfl rfl)) (w_spec_l24Case S93.sl 1 a1 a1 a1 hr95) ?_
 rintro e w96 ⟨rfl, r97⟩
 refine ⟨_, rfl, ?_⟩
 have S98 := S93.call r97
 refine FL.v (E.build (B2 rfl rfl) (run_build _ 39 #[(0, Value.string r94), (1, Value.int .i64 1)] #[Value.string r94, Value.int .i64 1, Value.int .i64 0, Value.int .i64 0] (by rfl))) ?_
 obtain ⟨v99, w100, run101, S102⟩ := S98.buildSlice (P := Tryz.prog) te25 [Value.agg #[Value.string r94, Value.int .i64 1, Value.int .i64 0, Value.int .i64 0]] (parts := #[(0, Value.agg #[Value.string r94, Value.int .i64 1, Value.int .i64 0, Value.int .i64 0])]) (cells := [Value.string r94, Value.int .i64 1, Value.int .i64 0, Value.int .i64 0]) rfl (szs_cons rfl szs_nil) (fc_cons rfl fc_nil) (ones_cons rfl (ones_cons rfl (ones_cons rfl (ones_cons rfl ones_nil)))) (Nat.le_of_ble_eq_true rfl)
 have els103 : Els (up w0.heap.size Ha) eFregeStep 4 [Value.string r94, Value.int .i64 1, Value.int .i64 0, Value.int .i64 0] [(FregeStep.mk r94 1 0 0)] := (Els.snoc (H := (up w0.heap.size Ha)) (E := eFregeStep) (k := 4) (c := [Value.string r94, Value.int .i64 1, Value.int .i64 0, Value.int .i64 0]) (x := (FregeStep.mk r94 1 0 0)) Els.nil rfl rfl)
 refine FL.v (E.buildSlice (B1 rfl) run101) ?_
 obtain ⟨xs104, hz105, hp⟩ := bnd hp
 obtain ⟨v106, w109, n107, cs108, run110, S111, els112, ce113⟩ := S102.appendO (P := Tryz.prog) te25 (i := 1) (j := 0) rfl els91 rfl els103 hz105
 have S111 : St H0 w0 Ha w109 (.row 39 4 v99 1 [Value.string r94, Value.int .i64 1, Value.int .i64 0, Value.int .i64 0] :: .row 39 4 v106 n107 cs108 :: L) := S111
 have S114 : St H0 w0 Ha w109 (.row 39 4 v106 n107 cs108 :: L) := S111.drop 0
 refine FL.v (E.append rfl rfl run110) ?_
 refine FL.v (E.assign (v := v106) rfl) ?_
 refine FL.nil (FW.seq (FW.region ?_))
 refine FL.v (E.move (v := v106) rfl) ?_
 refine FL.v (E.move (v := Value.string r21) rfl) ?_
 refine FL.v (E.move (v := Value.int .i64 (len a0)) rfl) ?_
 refine FL.v (E.add rfl rfl) ?_
 refine FL.v (E.move (v := Value.int .i64 (len a0)) rfl) ?_
 refine FL.v (E.add rfl rfl) ?_
 refine FL.v (E.build (B4 rfl rfl rfl rfl) (run_build _ 39 #[(0, Value.string r21), (1, Value.int .i64 (-1)), (2, Value.int .i64 (wr ((len a0) + 3))), (3, Value.int .i64 (wr ((len a0) + 2)))] #[Value.string r21, Value.int .i64 (-1), Value.int .i64 (wr ((len a0) + 3)), Value.int .i64 (wr ((len a0) + 2))] (by rfl))) ?_
 obtain ⟨v115, w116, run117, S118⟩ := S114.buildSlice (P := Tryz.prog) te25 [Value.agg #[Value.string r21, Value.int .i64 (-1), Value.int .i64 (wr ((len a0) + 3)), Value.int .i64 (wr ((len a0) + 2))]] (parts := #[(0, Value.agg #[Value.string r21, Value.int .i64 (-1), Value.int .i64 (wr ((len a0) + 3)), Value.int .i64 (wr ((len a0) + 2))])]) (cells := [Value.string r21, Value.int .i64 (-1), Value.int .i64 (wr ((len a0) + 3)), Value.int .i64 (wr ((len a0) + 2))]) rfl (szs_cons rfl szs_nil) (fc_cons rfl fc_nil) (ones_cons rfl (ones_cons rfl (ones_cons rfl (ones_cons rfl ones_nil)))) (Nat.le_of_ble_eq_true rfl)
 have els119 : Els (up w0.heap.size Ha) eFregeStep 4 [Value.string r21, Value.int .i64 (-1), Value.int .i64 (wr ((len a0) + 3)), Value.int .i64 (wr ((len a0) + 2))] [(FregeStep.mk r21 (-1) (wr ((len a0) + 3)) (wr ((len a0) + 2)))] := (Els.snoc (H := (up w0.heap.size Ha)) (E := eFregeStep) (k := 4) (c := [Value.string r21, Value.int .i64 (-1), Value.int .i64 (wr ((len a0) + 3)), Value.int .i64 (wr ((len a0) + 2))]) (x := (FregeStep.mk r21 (-1) (wr ((len a0) + 3)) (wr ((len a0) + 2)))) Els.nil rfl rfl)
 refine FL.v (E.buildSlice (B1 rfl) run117) ?_
 obtain ⟨xs120, hz121, hp⟩ := bnd hp
 obtain ⟨v122, w125, n123, cs124, run126, S127, els128, ce129⟩ := S118.appendO (P := Tryz.prog) te25 (i := 1) (j := 0) rfl els112 rfl els119 hz121
 have S127 : St H0 w0 Ha w125 (.row 39 4 v115 1 [Value.string r21, Value.int .i64 (-1), Value.int .i64 (wr ((len a0) + 3)), Value.int .i64 (wr ((len a0) + 2))] :: .row 39 4 v122 n123 cs124 :: L) := S127
 have S130 : St H0 w0 Ha w125 (.row 39 4 v122 n123 cs124 :: L) := S127.drop 0
 refine FL.v (E.append rfl rfl run126) ?_
 refine FL.v (E.assign (v := v122) rfl) ?_
 refine FL.nil ?_
 refine FW.ret ?_
 obtain rfl := Option.some.inj hp
 exact ⟨.inr rfl, res1 rfl rfl ⟨_, _, _, _, rfl, ⟨S130, (Inc.rfl _)⟩, els128⟩⟩

@[reducible] def p_spec_l24Discharge (Ha : GH) (wa : World) (r : (List FregeStep)) : Ending → World → Prop :=
 fun e w' => ∃ H' : GH, ∃ v0 : Value, ∃ n0 : Nat, ∃ c0 : List Value, e = .returned (v0) ∧ St Ha wa H' w' [.row 39 4 v0 n0 c0] ∧ Els (up wa.heap.size H') eFregeStep 4 c0 r
set_option maxHeartbeats 4000000 in
theorem w_spec_l24Discharge {Ha : GH} {wa : World} (hs : Sl Ha wa) (v0 : Value) (a0 : List ByteArray) (p0 : RSl Ha eS 1 v0 a0) (v1 : Value) (a1 : List FregeStep) (p1 : RSl Ha eFregeStep 4 v1 a1) (a2 : Int) {r : (List FregeStep)} (hp : (PF.spec_l24Discharge a0 a1 a2) = some r) :
  Calls Tryz.prog 31 #[v0, v1, Value.int .i64 a2] wa (p_spec_l24Discharge Ha wa r) := by
 unfold PF.spec_l24Discharge at hp
 have S0 := St.init hs
 refine calls_go (N := 131) (args := [v0, v1, Value.int .i64 a2]) Tryz.func31 rfl rfl rfl ?_
 refine FW.seq (FW.region ?_)
 refine FL.v (E.assign (v := Value.slice none 0 0) rfl) ?_
 refine FL.nil (FW.seq ?_)
 obtain ⟨x44, hx45, hp⟩ := bnd hp
 refine FW.drawB (Sl Ha) (fun f w => ∃ H : GH, ∃ v46 : Value, ∃ n47 : Nat, ∃ cs48 : List Value, ∃ v50 : Value, ∃ n51 : Nat, ∃ cs52 : List Value, St Ha wa H w [.row 39 4 v46 n47 cs48, .row 3 1 v50 n51 cs52] ∧ Inc Ha H ∧ Els (up wa.heap.size H) eFregeStep 4 cs48 [] ∧ Els (up wa.heap.size H) eI 1 cs52 [] ∧ f 1 = v1 ∧ f 2 = Value.int .i64 a2 ∧ f 7 = v46 ∧ f 8 = v50 ∧ f 9 = Value.string x44) (by kernel_rfl) S0.sl ?_ ?_
 ·
  intro w21 r22
  have S23 := S0.call r22
  refine FB.t (i := 2) (bs 9 4) rfl (SP.nil S23.sl) rfl (fun w' hw' => (E.move (v := v0) rfl)) ?_
  refine FB.t (i := 3) (bs 9 12) rfl (SP.nil S23.sl) rfl (fun w' hw' => (E.move (v := Value.int .i64 a2) rfl)) ?_
  obtain ⟨p37, cs38, pt40, l41, at42, rel43⟩ := p0.at hx45
  obtain rfl := eS_open rel43
  refine FB.t (i := 4) (bs 9 28) rfl (SP.nil S23.sl) rfl (fun w' hw' => (E.indexAddr te24 rfl rfl pt40)) ?_
  refine FB.t (i := 5) (bs 9 60) rfl (SP.nil S23.sl) rfl (fun w' hw' => (E.load rfl (run_load0 Tryz.isAgg9 (at42.now hw') rfl))) ?_
  refine FB.all2 (i := 0) (j := 1) (by kernel_rfl) ?_ ?_
  ·
   obtain ⟨v26, w27, run28, S29⟩ := S23.buildSlice (P := Tryz.prog) te25 [] (parts := #[]) (cells := []) rfl szs_nil fc_nil ones_nil (Nat.le_of_ble_eq_true rfl)
   have els30 : Els (up wa.heap.size Ha) eFregeStep 4 [] [] := Els.nil
   refine FC.val (l' := (bs 9 61)) rfl (by kernel_rfl) rfl rfl rfl (E.buildSlice (B0) run28) ?_
   refine ⟨(SP.nil S29.sl), ?_⟩
   refine FB.t (i := 6) (bs 9 125) rfl (SP.nil S29.sl) rfl (fun w' hw' => (E.assign (v := v26) rfl)) ?_
   refine FB.all1 (i := 1) (by kernel_rfl) ?_
   ·
    obtain ⟨v31, w32, run34, S35⟩ := S29.buildSlice (P := Tryz.prog) te33 [] (parts := #[]) (cells := []) rfl szs_nil fc_nil ones_nil (Nat.le_of_ble_eq_true rfl)
    have els36 : Els (up wa.heap.size Ha) eI 1 [] [] := Els.nil
    refine FC.val (l' := (bs 9 127)) rfl (by kernel_rfl) rfl rfl rfl (E.buildSlice (B0) run34) ?_
    refine ⟨(SP.nil S35.sl), ?_⟩
    refine FB.t (i := 7) (bs 9 255) rfl (SP.nil S35.sl) rfl (fun w' hw' => (E.assign (v := v31) rfl)) ?_
    refine FB.t (i := 8) (bs 9 511) rfl (SP.nil S35.sl) rfl (fun w' hw' => (E.assign (v := Value.string x44) rfl)) ?_
    exact FB.done (by kernel_rfl) ⟨_, _, _, _, _, _, _, (S35.sel [1, 0] (by decide) rfl), (Inc.rfl _), els30, els36, rfl, rfl, rfl, rfl, rfl⟩
  ·
   obtain ⟨v31, w32, run34, S35⟩ := S23.buildSlice (P := Tryz.prog) te33 [] (parts := #[]) (cells := []) rfl szs_nil fc_nil ones_nil (Nat.le_of_ble_eq_true rfl)
   have els36 : Els (up wa.heap.size Ha) eI 1 [] [] := Els.nil
   refine FC.val (l' := (bs 9 62)) rfl (by kernel_rfl) rfl rfl rfl (E.buildSlice (B0) run34) ?_
   refine ⟨(SP.nil S35.sl), ?_⟩
   refine FB.all1 (i := 0) (by kernel_rfl) ?_
   ·
    obtain ⟨v26, w27, run28, S29⟩ := S35.buildSlice (P := Tryz.prog) te25 [] (parts := #[]) (cells := []) rfl szs_nil fc_nil ones_nil (Nat.le_of_ble_eq_true rfl)
    have els30 : Els (up wa.heap.size Ha) eFregeStep 4 [] [] := Els.nil
    refine FC.val (l' := (bs 9 63)) rfl (by kernel_rfl) rfl rfl rfl (E.buildSlice (B0) run28) ?_
    refine ⟨(SP.nil S29.sl), ?_⟩
    refine FB.t (i := 6) (bs 9 127) rfl (SP.nil S29.sl) rfl (fun w' hw' => (E.assign (v := v26) rfl)) ?_
    refine FB.t (i := 7) (bs 9 255) rfl (SP.nil S29.sl) rfl (fun w' hw' => (E.assign (v := v31) rfl)) ?_
    refine FB.t (i := 8) (bs 9 511) rfl (SP.nil S29.sl) rfl (fun w' hw' => (E.assign (v := Value.string x44) rfl)) ?_
    exact FB.done (by kernel_rfl) ⟨_, _, _, _, _, _, _, S29, (Inc.rfl _), els30, els36, rfl, rfl, rfl, rfl, rfl⟩
 ·
  rintro f58 w57 ⟨H54, v46, n47, cs48, v50, n51, cs52, S55, i56, els49, els53, k59, k60, k61, k62, k63⟩
  refine FW.seq (FW.seq (FW.region ?_))
  refine FL.v (E.assign (v := Value.int .i64 0) rfl) ?_
  refine FL.nil ?_
  obtain ⟨q65, hq, hp⟩ := bndR hp
  refine FW.block ?_
  refine FW.mono (FW.forL (S := ((List FregeStep) × (List Int))) (X := Empty) (fun (i65 : Nat) (s65 : ((List FregeStep) × (List Int))) f w => ∃ H : GH, ∃ v66 : Value, ∃ n67 : Nat, ∃ cs68 : List Value, ∃ v70 : Value, ∃ n71 : Nat, ∃ cs72 : List Value, St Ha wa H w [.row 39 4 v66 n67 cs68, .row 3 1 v70 n71 cs72] ∧ Inc H54 H ∧ Els (up wa.heap.size H) eFregeStep 4 cs68 s65.1 ∧ Els (up wa.heap.size H) eI 1 cs72 s65.2 ∧ f 10 = Value.int .i64 ((i65 : Nat) : Int) ∧ f 1 = v1 ∧ f 2 = Value.int .i64 a2 ∧ f 7 = v66 ∧ f 8 = v70 ∧ f 9 = Value.string x44) (fun (q : Rs ((List FregeStep) × (List Int)) Empty) e f w => match q with | .go s65 => e = Exit.exit 0 ∧ (∃ H : GH, ∃ v66 : Value, ∃ n67 : Nat, ∃ cs68 : List Value, ∃ v70 : Value, ∃ n71 : Nat, ∃ cs72 : List Value, St Ha wa H w [.row 39 4 v66 n67 cs68, .row 3 1 v70 n71 cs72] ∧ Inc H54 H ∧ Els (up wa.heap.size H) eFregeStep 4 cs68 s65.1 ∧ Els (up wa.heap.size H) eI 1 cs72 s65.2 ∧ f 7 = v66) | .rt x => x.elim) hq ⟨_, _, _, _, _, _, _, S55, (Inc.rfl _), els49, els53, rfl, k59, k60, k61, k62, k63⟩ ?_ ?_) ?_
  ·
   clear hp hq
   rintro i65 y64 s65 f78 w77 ⟨H74, v66, n67, cs68, v70, n71, cs72, S75, i76, els69, els73, k79, k80, k81, k82, k83, k84⟩ hx65 o356 hp
   refine FW.seq (FW.seq (FW.region ?_))
   refine FL.v (E.move k79) ?_
   refine FL.v (E.move k80) ?_
   refine FL.v (E.lenP te25 rfl p1) ?_
   refine FL.v (E.lssT rfl rfl (lss_len hx65)) ?_
   refine FL.nil ?_
   refine FW.condT rfl rfl ?_
   refine FW.skip (FW.seq (FW.block (FW.seq (FW.region ?_))))
   refine FL.v (E.move k80) ?_
   refine FL.v (E.move k79) ?_
   obtain ⟨p85, cs86, pt87, l88, at89, rel90⟩ := p1.at (ix_nat hx65)
   obtain rfl := eFregeStep_open rel90
   refine FL.v (E.indexAddr te25 rfl rfl pt87) ?_
   refine FL.v (E.load rfl (run_loadA Tryz.isAgg39 Tryz.sizeOf39 ((at89.mono (i56.tr i76)).now S75.sl) rfl)) ?_
   obtain ⟨b91, w92, run93, S94⟩ := S75.alloc (P := Tryz.prog) 39 [Value.string ByteArray.empty, Value.int .i64 0, Value.int .i64 0, Value.int .i64 0] Tryz.zeroValue39 rfl (ones_cons rfl (ones_cons rfl (ones_cons rfl (ones_cons rfl ones_nil))))
   refine FL.v (E.alloc run93) ?_
   obtain ⟨w95, run96, S97⟩ := S94.store0 (P := Tryz.prog) (t := 39) (i := 0) (cs' := [Value.string y64.formula, Value.int .i64 y64.rule, Value.int .i64 y64.a, Value.int .i64 y64.b]) (l' := [.box b91 39 [Value.string y64.formula, Value.int .i64 y64.rule, Value.int .i64 y64.a, Value.int .i64 y64.b], .row 39 4 v66 n67 cs68, .row 3 1 v70 n71 cs72]) (v := Value.agg #[Value.string y64.formula, Value.int .i64 y64.rule, Value.int .i64 y64.a, Value.int .i64 y64.b]) (c := [Value.string y64.formula, Value.int .i64 y64.rule, Value.int .i64 y64.a, Value.int .i64 y64.b]) rfl Tryz.sizeOf39 rfl rfl (ones_cons rfl (ones_cons rfl (ones_cons rfl (ones_cons rfl ones_nil)))) (Nat.le_of_ble_eq_true rfl) rfl rfl
   refine FL.act rfl rfl (E.store rfl rfl run96) ?_
   obtain ⟨H98, S99, i100, at101⟩ := S97.sealBox (i := 0) (l' := [.row 39 4 v66 n67 cs68, .row 3 1 v70 n71 cs72]) rfl rfl
   refine FL.nil (FW.seq ?_)
   obtain ⟨q103, hq, hp⟩ := bndR hp
   refine FW.joinE (S := (List FregeStep)) (X := Empty) (q := q103) (fun s102 f w => ∃ H : GH, ∃ v105 : Value, ∃ n106 : Nat, ∃ cs107 : List Value, St Ha wa H w [.row 39 4 v105 n106 cs107, .row 3 1 v70 n71 cs72] ∧ Inc H98 H ∧ Els (up wa.heap.size H) eFregeStep 4 cs107 s102 ∧ f 1 = v1 ∧ f 2 = Value.int .i64 a2 ∧ f 7 = v105 ∧ f 8 = v70 ∧ f 9 = Value.string x44 ∧ f 10 = Value.int .i64 ((i65 : Nat) : Int)) (fun (_ : Empty) _ _ _ => False) ?_ ?_ ?_
   ·
    clear hp; have hp := hq; clear hq
    refine FW.block (FW.seq (FW.region ?_))
    refine FL.v (E.fieldAddr tf39_1 rfl) ?_
    refine FL.v (E.load rfl (run_load1 Tryz.isAgg3 (at101.now S99.sl) rfl)) ?_
    refine FL.v (E.eql rfl rfl) ?_
    refine FL.v (E.move (v := Value.bool (y64.rule == 0)) rfl) ?_
    refine FL.cut 5 (fun f w => ∃ H : GH, St Ha wa H w [.row 39 4 v66 n67 cs68, .row 3 1 v70 n71 cs72] ∧ Inc H98 H ∧ f 1 = v1 ∧ f 2 = Value.int .i64 a2 ∧ f 7 = v66 ∧ f 8 = v70 ∧ f 9 = Value.string x44 ∧ f 10 = Value.int .i64 ((i65 : Nat) : Int) ∧ f 11 = Value.pointer (some ⟨b91, 0, none⟩) ∧ f 65 = Value.bool (bif (y64.rule == 0) then (y64.a == a2) else false)) ?_ ?_
    ·
     rcases bcase (y64.rule == 0) with c114 | c114
     ·
      refine FL.val (wF_yes rfl rfl rfl c114) rfl rfl (E.fieldAddr tf39_2 rfl) ?_
      refine FL.val (wF_yes rfl rfl rfl c114) rfl rfl (E.load rfl (run_load1 Tryz.isAgg3 (at101.now S99.sl) rfl)) ?_
      refine FL.val (wF_yes rfl rfl rfl c114) rfl rfl (E.move k81) ?_
      refine FL.val (wF_yes rfl rfl rfl c114) rfl rfl (E.eql rfl rfl) ?_
      refine FL.v (E.pickT rfl c114 rfl) ?_
      exact FL.nil ⟨rfl, _, S99, (Inc.rfl _), k80, k81, k82, k83, k84, k79, rfl, (congrArg Value.bool (bifT c114).symm)⟩
     ·
      refine FL.skip (wF_no rfl rfl rfl c114) rfl ?_
      refine FL.skip (wF_no rfl rfl rfl c114) rfl ?_
      refine FL.skip (wF_no rfl rfl rfl c114) rfl ?_
      refine FL.skip (wF_no rfl rfl rfl c114) rfl ?_
      refine FL.v (E.pickF rfl c114 rfl) ?_
      exact FL.nil ⟨rfl, _, S99, (Inc.rfl _), k80, k81, k82, k83, k84, k79, rfl, (congrArg Value.bool (bifF c114).symm)⟩
    rintro f113 w112 ⟨H109, S110, i111, k115, k116, k117, k118, k119, k120, k121, k122⟩
    refine FL.v (E.assign k122) ?_
    refine FL.nil ?_
    rcases ifB hp with ⟨c123, hp⟩ | ⟨c123, hp⟩
    ·
     refine FW.condT rfl c123 ?_
     refine FW.region ?_
     refine FL.v (E.move k117) ?_
     refine FL.v (E.move k119) ?_
     obtain ⟨r124, hr125, hp⟩ := bnd hp
     refine FL.call rfl rfl rfl (E.call Tryz.call41 (A2 rfl rfl)) (w_spec_l24Identity (L := [.row 3 1 v70 n71 cs72]) S110 s65.1 (els69.mono (up_mono (i100.tr i111))) x44 hr125) ?_
     rintro e w127 ⟨H126, v130, n131, cs132, rfl, ⟨S128, i129⟩, els133⟩
     refine ⟨_, rfl, ?_⟩
     have S128 : St Ha wa H126 w127 [.row 39 4 v130 n131 cs132, .row 3 1 v70 n71 cs72] := S128
     refine FL.v (E.assign (v := v130) rfl) ?_
     refine FL.nil ?_
     obtain rfl := Option.some.inj hp
     exact ⟨rfl, ⟨_, _, _, _, S128, (i111.tr i129), els133, k115, k116, rfl, k118, k119, k120⟩⟩
    ·
     refine FW.condF rfl c123 ?_
     refine FW.seq (FW.region ?_)
     refine FL.v (E.fieldAddr tf39_1 k121) ?_
     refine FL.v (E.load rfl (run_load1 Tryz.isAgg3 ((at101.mono i111).now S110.sl) rfl)) ?_
     refine FL.v (E.eql rfl rfl) ?_
     refine FL.v (E.assign (v := Value.bool (y64.rule == (-1))) rfl) ?_
     refine FL.nil ?_
     rcases ifB hp with ⟨c134, hp⟩ | ⟨c134, hp⟩
     ·
      refine FW.condT rfl c134 ?_
      refine FW.seq (FW.region ?_)
      refine FL.v (E.move k115) ?_
      refine FL.v (E.fieldAddr tf39_2 k121) ?_
      refine FL.v (E.load rfl (run_load1 Tryz.isAgg3 ((at101.mono i111).now S110.sl) rfl)) ?_
      obtain ⟨x141, hx142, hp⟩ := bnd hp
      obtain ⟨p135, cs136, pt137, l138, at139, rel140⟩ := p1.at hx142
      obtain rfl := eFregeStep_open rel140
      refine FL.v (E.indexAddr te25 rfl rfl pt137) ?_
      refine FL.v (E.fieldAddr tf39_0 rfl) ?_
      refine FL.v (E.load rfl (run_load1 Tryz.isAgg9 ((at139.mono (((i56.tr i76).tr i100).tr i111)).now S110.sl) rfl)) ?_
      refine FL.v (E.assign (v := Value.string x141.formula) rfl) ?_
      refine FL.nil (FW.seq (FW.region ?_))
      refine FL.v (E.move k117) ?_
      refine FL.v (E.move k119) ?_
      refine FL.v (E.move (v := Value.string x141.formula) rfl) ?_
      refine FL.v (E.fieldAddr tf39_0 k121) ?_
      refine FL.v (E.load rfl (run_load1 Tryz.isAgg9 ((at101.mono i111).now S110.sl) rfl)) ?_
      obtain ⟨r143, hr144, hp⟩ := bnd hp
      refine FL.call rfl rfl rfl (E.call Tryz.call45 (A4 rfl rfl rfl rfl)) (w_spec_l24Case S110.sl 2 x44 x141.formula y64.formula hr144) ?_
      rintro e w145 ⟨rfl, r146⟩
      refine ⟨_, rfl, ?_⟩
      have S147 := S110.call r146
      refine FL.v (E.build (B2 rfl rfl) (run_build _ 39 #[(0, Value.string r143), (1, Value.int .i64 2)] #[Value.string r143, Value.int .i64 2, Value.int .i64 0, Value.int .i64 0] (by rfl))) ?_
      obtain ⟨v148, w149, run150, S151⟩ := S147.buildSlice (P := Tryz.prog) te25 [Value.agg #[Value.string r143, Value.int .i64 2, Value.int .i64 0, Value.int .i64 0]] (parts := #[(0, Value.agg #[Value.string r143, Value.int .i64 2, Value.int .i64 0, Value.int .i64 0])]) (cells := [Value.string r143, Value.int .i64 2, Value.int .i64 0, Value.int .i64 0]) rfl (szs_cons rfl szs_nil) (fc_cons rfl fc_nil) (ones_cons rfl (ones_cons rfl (ones_cons rfl (ones_cons rfl ones_nil)))) (Nat.le_of_ble_eq_true rfl)
      have els152 : Els (up wa.heap.size H109) eFregeStep 4 [Value.string r143, Value.int .i64 2, Value.int .i64 0, Value.int .i64 0] [(FregeStep.mk r143 2 0 0)] := (Els.snoc (H := (up wa.heap.size H109)) (E := eFregeStep) (k := 4) (c := [Value.string r143, Value.int .i64 2, Value.int .i64 0, Value.int .i64 0]) (x := (FregeStep.mk r143 2 0 0)) Els.nil rfl rfl)
      refine FL.v (E.buildSlice (B1 rfl) run150) ?_
      obtain ⟨xs153, hz154, hp⟩ := bnd hp
      obtain ⟨v155, w158, n156, cs157, run159, S160, els161, ce162⟩ := S151.appendO (P := Tryz.prog) te25 (i := 1) (j := 0) rfl (els69.mono (up_mono (i100.tr i111))) rfl els152 hz154
      have S160 : St Ha wa H109 w158 [.row 39 4 v148 1 [Value.string r143, Value.int .i64 2, Value.int .i64 0, Value.int .i64 0], .row 39 4 v155 n156 cs157, .row 3 1 v70 n71 cs72] := S160
      have S163 : St Ha wa H109 w158 [.row 39 4 v155 n156 cs157, .row 3 1 v70 n71 cs72] := S160.drop 0
      refine FL.v (E.append rfl rfl run159) ?_
      refine FL.v (E.assign (v := v155) rfl) ?_
      refine FL.nil (FW.seq ?_)
      obtain ⟨r167, hr168, hp⟩ := bnd hp
      obtain ⟨r172, hr173, hp⟩ := bnd hp
      obtain ⟨r177, hr178, hp⟩ := bnd hp
      obtain ⟨x188, hx189, hp⟩ := bnd hp
      obtain ⟨xs196, hz197, hp⟩ := bnd hp
      refine FW.drawB (SX Ha wa H109 [.row 3 1 v70 n71 cs72]) (fun f w => ∃ H : GH, ∃ v207 : Value, ∃ n208 : Nat, ∃ cs209 : List Value, St Ha wa H w [.row 39 4 v207 n208 cs209, .row 3 1 v70 n71 cs72] ∧ Inc H109 H ∧ Els (up wa.heap.size H) eFregeStep 4 cs209 xs196 ∧ f 1 = v1 ∧ f 2 = Value.int .i64 a2 ∧ f 7 = v207 ∧ f 8 = v70 ∧ f 9 = Value.string x44 ∧ f 10 = Value.int .i64 ((i65 : Nat) : Int) ∧ f 11 = Value.pointer (some ⟨b91, 0, none⟩)) (by kernel_rfl) S163.sl ?_ ?_
      ·
       intro w164 r165
       have S166 := S163.call r165
       refine FB.t (i := 0) (bs 21 1) rfl (SP.nil ⟨_, (S166.sel [1] (by decide) rfl), (Inc.rfl _)⟩) rfl (fun w' hw' => (E.move (v := v155) rfl)) ?_
       refine FB.t (i := 1) (bs 21 3) rfl (SP.nil ⟨_, (S166.sel [1] (by decide) rfl), (Inc.rfl _)⟩) rfl (fun w' hw' => (E.move k119)) ?_
       refine FB.t (i := 2) (bs 21 7) rfl (SP.nil ⟨_, (S166.sel [1] (by decide) rfl), (Inc.rfl _)⟩) rfl (fun w' hw' => (E.move (v := Value.string x141.formula) rfl)) ?_
       refine FB.t (i := 4) (bs 21 23) rfl (SP.nil ⟨_, (S166.sel [1] (by decide) rfl), (Inc.rfl _)⟩) rfl (fun w' hw' => (E.move k119)) ?_
       refine FB.t (i := 5) (bs 21 55) rfl (SP.nil ⟨_, (S166.sel [1] (by decide) rfl), (Inc.rfl _)⟩) rfl (fun w' hw' => (E.fieldAddr tf39_0 k121)) ?_
       refine FB.t (i := 6) (bs 21 119) rfl (SP.nil ⟨_, (S166.sel [1] (by decide) rfl), (Inc.rfl _)⟩) rfl (fun w' hw' => (E.load rfl (run_load1 Tryz.isAgg9 ((at101.mono i111).now hw'.sl) rfl))) ?_
       refine FB.t (i := 9) (bs 21 631) rfl (SP.nil ⟨_, (S166.sel [1] (by decide) rfl), (Inc.rfl _)⟩) rfl (fun w' hw' => (E.move k118)) ?_
       refine FB.t (i := 10) (bs 21 1655) rfl (SP.nil ⟨_, (S166.sel [1] (by decide) rfl), (Inc.rfl _)⟩) rfl (fun w' hw' => (E.fieldAddr tf39_3 k121)) ?_
       refine FB.t (i := 11) (bs 21 3703) rfl (SP.nil ⟨_, (S166.sel [1] (by decide) rfl), (Inc.rfl _)⟩) rfl (fun w' hw' => (E.load rfl (run_load1 Tryz.isAgg3 ((at101.mono i111).now hw'.sl) rfl))) ?_
       obtain ⟨p182, cs183, pt184, l185, at186, rel187, hall190⟩ := S166.row_atA (i := 1) rfl els73 (by decide) hx189
       obtain rfl := eI_open rel187
       refine FB.t (i := 12) (bs 21 7799) rfl (SP.nil ⟨_, (S166.sel [1] (by decide) rfl), (Inc.rfl _)⟩) rfl (fun w' hw' => (E.indexAddr te33 rfl rfl pt184)) ?_
       refine FB.t (i := 13) (bs 21 15991) rfl (SP.nil ⟨_, (S166.sel [1] (by decide) rfl), (Inc.rfl _)⟩) rfl (fun w' hw' => (E.load rfl (run_load0 Tryz.isAgg3 (hw'.use fun _ st => hall190 _ _ _ 0 st rfl) rfl))) ?_
       refine FB.t (i := 14) (bs 21 32375) rfl (SP.nil ⟨_, (S166.sel [1] (by decide) rfl), (Inc.rfl _)⟩) rfl (fun w' hw' => (E.move (v := v155) rfl)) ?_
       refine FB.t (i := 15) (bs 21 65143) rfl (SP.nil ⟨_, (S166.sel [1] (by decide) rfl), (Inc.rfl _)⟩) rfl (fun w' hw' => (E.lenOW te25 rfl S166 (i := 0) rfl els161 (by decide))) ?_
       refine FB.t (i := 16) (bs 21 130679) rfl (SP.nil ⟨_, (S166.sel [1] (by decide) rfl), (Inc.rfl _)⟩) rfl (fun w' hw' => (E.sub rfl rfl)) ?_
       refine FB.all1 (i := 3) (by kernel_rfl) ?_
       ·
        refine FC.call (l' := (bs 21 130687)) rfl (by kernel_rfl) rfl rfl rfl (E.call Tryz.call53 (A2 rfl rfl)) (w_spec_l24Implies S166.sl x44 x141.formula hr168) ?_
        rintro e w169 ⟨rfl, r170⟩
        refine ⟨_, rfl, ?_⟩
        have S171 := S166.call r170
        refine ⟨(SP.nil ⟨_, (S171.sel [1] (by decide) rfl), (Inc.rfl _)⟩), ?_⟩
        refine FB.all1 (i := 7) (by kernel_rfl) ?_
        ·
         refine FC.call (l' := (bs 21 130815)) rfl (by kernel_rfl) rfl rfl rfl (E.call Tryz.call53 (A2 rfl rfl)) (w_spec_l24Implies S171.sl x44 y64.formula hr173) ?_
         rintro e w174 ⟨rfl, r175⟩
         refine ⟨_, rfl, ?_⟩
         have S176 := S171.call r175
         refine ⟨(SP.nil ⟨_, (S176.sel [1] (by decide) rfl), (Inc.rfl _)⟩), ?_⟩
         refine FB.all1 (i := 8) (by kernel_rfl) ?_
         ·
          refine FC.call (l' := (bs 21 131071)) rfl (by kernel_rfl) rfl rfl rfl (E.call Tryz.call53 (A2 rfl rfl)) (w_spec_l24Implies S176.sl r167 r172 hr178) ?_
          rintro e w179 ⟨rfl, r180⟩
          refine ⟨_, rfl, ?_⟩
          have S181 := S176.call r180
          refine ⟨(SP.nil ⟨_, (S181.sel [1] (by decide) rfl), (Inc.rfl _)⟩), ?_⟩
          refine FB.t (i := 17) (bs 21 262143) rfl (SP.nil ⟨_, (S181.sel [1] (by decide) rfl), (Inc.rfl _)⟩) rfl (fun w' hw' => (E.build (B4 rfl rfl rfl rfl) (run_build _ 39 #[(0, Value.string r177), (1, Value.int .i64 (-1)), (2, Value.int .i64 x188), (3, Value.int .i64 (wr ((len xs153) - 1)))] #[Value.string r177, Value.int .i64 (-1), Value.int .i64 x188, Value.int .i64 (wr ((len xs153) - 1))] (by rfl)))) ?_
          refine FB.all1 (i := 18) (by kernel_rfl) ?_
          ·
           obtain ⟨v191, w192, run193, S194⟩ := S181.buildSlice (P := Tryz.prog) te25 [Value.agg #[Value.string r177, Value.int .i64 (-1), Value.int .i64 x188, Value.int .i64 (wr ((len xs153) - 1))]] (parts := #[(0, Value.agg #[Value.string r177, Value.int .i64 (-1), Value.int .i64 x188, Value.int .i64 (wr ((len xs153) - 1))])]) (cells := [Value.string r177, Value.int .i64 (-1), Value.int .i64 x188, Value.int .i64 (wr ((len xs153) - 1))]) rfl (szs_cons rfl szs_nil) (fc_cons rfl fc_nil) (ones_cons rfl (ones_cons rfl (ones_cons rfl (ones_cons rfl ones_nil)))) (Nat.le_of_ble_eq_true rfl)
           have els195 : Els (up wa.heap.size H109) eFregeStep 4 [Value.string r177, Value.int .i64 (-1), Value.int .i64 x188, Value.int .i64 (wr ((len xs153) - 1))] [(FregeStep.mk r177 (-1) x188 (wr ((len xs153) - 1)))] := (Els.snoc (H := (up wa.heap.size H109)) (E := eFregeStep) (k := 4) (c := [Value.string r177, Value.int .i64 (-1), Value.int .i64 x188, Value.int .i64 (wr ((len xs153) - 1))]) (x := (FregeStep.mk r177 (-1) x188 (wr ((len xs153) - 1)))) Els.nil rfl rfl)
           refine FC.val (l' := (bs 21 524287)) rfl (by kernel_rfl) rfl rfl rfl (E.buildSlice (B1 rfl) run193) ?_
           refine ⟨(SP.nil ⟨_, (S194.sel [2] (by decide) rfl), (Inc.rfl _)⟩), ?_⟩
           refine FB.all1 (i := 19) (by kernel_rfl) ?_
           ·
            obtain ⟨v198, w201, n199, cs200, run202, S203, els204, ce205⟩ := S194.appendO (P := Tryz.prog) te25 (i := 1) (j := 0) rfl els161 rfl els195 hz197
            have S203 : St Ha wa H109 w201 [.row 39 4 v191 1 [Value.string r177, Value.int .i64 (-1), Value.int .i64 x188, Value.int .i64 (wr ((len xs153) - 1))], .row 39 4 v198 n199 cs200, .row 3 1 v70 n71 cs72] := S203
            have S206 : St Ha wa H109 w201 [.row 39 4 v198 n199 cs200, .row 3 1 v70 n71 cs72] := S203.drop 0
            refine FC.val (l' := (bs 21 1048575)) rfl (by kernel_rfl) rfl rfl rfl (E.append rfl rfl run202) ?_
            refine ⟨(SP.nil ⟨_, (S206.sel [1] (by decide) rfl), (Inc.rfl _)⟩), ?_⟩
            refine FB.t (i := 20) (bs 21 2097151) rfl (SP.nil ⟨_, (S206.sel [1] (by decide) rfl), (Inc.rfl _)⟩) rfl (fun w' hw' => (E.assign (v := v198) rfl)) ?_
            exact FB.done (by kernel_rfl) ⟨_, _, _, _, S206, (Inc.rfl _), els204, k115, k116, rfl, k118, k119, k120, k121⟩
      ·
       rintro f215 w214 ⟨H211, v207, n208, cs209, S212, i213, els210, k216, k217, k218, k219, k220, k221, k222⟩
       obtain ⟨r226, hr227, hp⟩ := bnd hp
       obtain ⟨x237, hx238, hp⟩ := bnd hp
       obtain ⟨xs245, hz246, hp⟩ := bnd hp
       refine FW.drawB (SX Ha wa H211 [.row 3 1 v70 n71 cs72]) (fun f w => ∃ H : GH, ∃ v256 : Value, ∃ n257 : Nat, ∃ cs258 : List Value, St Ha wa H w [.row 39 4 v256 n257 cs258, .row 3 1 v70 n71 cs72] ∧ Inc H211 H ∧ Els (up wa.heap.size H) eFregeStep 4 cs258 xs245 ∧ f 1 = v1 ∧ f 2 = Value.int .i64 a2 ∧ f 7 = v256 ∧ f 8 = v70 ∧ f 9 = Value.string x44 ∧ f 10 = Value.int .i64 ((i65 : Nat) : Int)) (by kernel_rfl) S212.sl ?_ ?_
       ·
        intro w223 r224
        have S225 := S212.call r224
        refine FB.t (i := 0) (bs 17 1) rfl (SP.nil ⟨_, (S225.sel [1] (by decide) rfl), (Inc.rfl _)⟩) rfl (fun w' hw' => (E.move k218)) ?_
        refine FB.t (i := 1) (bs 17 3) rfl (SP.nil ⟨_, (S225.sel [1] (by decide) rfl), (Inc.rfl _)⟩) rfl (fun w' hw' => (E.move k220)) ?_
        refine FB.t (i := 2) (bs 17 7) rfl (SP.nil ⟨_, (S225.sel [1] (by decide) rfl), (Inc.rfl _)⟩) rfl (fun w' hw' => (E.fieldAddr tf39_0 k222)) ?_
        refine FB.t (i := 3) (bs 17 15) rfl (SP.nil ⟨_, (S225.sel [1] (by decide) rfl), (Inc.rfl _)⟩) rfl (fun w' hw' => (E.load rfl (run_load1 Tryz.isAgg9 ((at101.mono (i111.tr i213)).now hw'.sl) rfl))) ?_
        refine FB.t (i := 5) (bs 17 47) rfl (SP.nil ⟨_, (S225.sel [1] (by decide) rfl), (Inc.rfl _)⟩) rfl (fun w' hw' => (E.move k219)) ?_
        refine FB.t (i := 6) (bs 17 111) rfl (SP.nil ⟨_, (S225.sel [1] (by decide) rfl), (Inc.rfl _)⟩) rfl (fun w' hw' => (E.fieldAddr tf39_2 k222)) ?_
        refine FB.t (i := 7) (bs 17 239) rfl (SP.nil ⟨_, (S225.sel [1] (by decide) rfl), (Inc.rfl _)⟩) rfl (fun w' hw' => (E.load rfl (run_load1 Tryz.isAgg3 ((at101.mono (i111.tr i213)).now hw'.sl) rfl))) ?_
        obtain ⟨p231, cs232, pt233, l234, at235, rel236, hall239⟩ := S225.row_atA (i := 1) rfl els73 (by decide) hx238
        obtain rfl := eI_open rel236
        refine FB.t (i := 8) (bs 17 495) rfl (SP.nil ⟨_, (S225.sel [1] (by decide) rfl), (Inc.rfl _)⟩) rfl (fun w' hw' => (E.indexAddr te33 rfl rfl pt233)) ?_
        refine FB.t (i := 9) (bs 17 1007) rfl (SP.nil ⟨_, (S225.sel [1] (by decide) rfl), (Inc.rfl _)⟩) rfl (fun w' hw' => (E.load rfl (run_load0 Tryz.isAgg3 (hw'.use fun _ st => hall239 _ _ _ 0 st rfl) rfl))) ?_
        refine FB.t (i := 10) (bs 17 2031) rfl (SP.nil ⟨_, (S225.sel [1] (by decide) rfl), (Inc.rfl _)⟩) rfl (fun w' hw' => (E.move k218)) ?_
        refine FB.t (i := 11) (bs 17 4079) rfl (SP.nil ⟨_, (S225.sel [1] (by decide) rfl), (Inc.rfl _)⟩) rfl (fun w' hw' => (E.lenOW te25 rfl S225 (i := 0) rfl els210 (by decide))) ?_
        refine FB.t (i := 12) (bs 17 8175) rfl (SP.nil ⟨_, (S225.sel [1] (by decide) rfl), (Inc.rfl _)⟩) rfl (fun w' hw' => (E.sub rfl rfl)) ?_
        refine FB.all1 (i := 4) (by kernel_rfl) ?_
        ·
         refine FC.call (l' := (bs 17 8191)) rfl (by kernel_rfl) rfl rfl rfl (E.call Tryz.call53 (A2 rfl rfl)) (w_spec_l24Implies S225.sl x44 y64.formula hr227) ?_
         rintro e w228 ⟨rfl, r229⟩
         refine ⟨_, rfl, ?_⟩
         have S230 := S225.call r229
         refine ⟨(SP.nil ⟨_, (S230.sel [1] (by decide) rfl), (Inc.rfl _)⟩), ?_⟩
         refine FB.t (i := 13) (bs 17 16383) rfl (SP.nil ⟨_, (S230.sel [1] (by decide) rfl), (Inc.rfl _)⟩) rfl (fun w' hw' => (E.build (B4 rfl rfl rfl rfl) (run_build _ 39 #[(0, Value.string r226), (1, Value.int .i64 (-1)), (2, Value.int .i64 x237), (3, Value.int .i64 (wr ((len xs196) - 1)))] #[Value.string r226, Value.int .i64 (-1), Value.int .i64 x237, Value.int .i64 (wr ((len xs196) - 1))] (by rfl)))) ?_
         refine FB.all1 (i := 14) (by kernel_rfl) ?_
         ·
          obtain ⟨v240, w241, run242, S243⟩ := S230.buildSlice (P := Tryz.prog) te25 [Value.agg #[Value.string r226, Value.int .i64 (-1), Value.int .i64 x237, Value.int .i64 (wr ((len xs196) - 1))]] (parts := #[(0, Value.agg #[Value.string r226, Value.int .i64 (-1), Value.int .i64 x237, Value.int .i64 (wr ((len xs196) - 1))])]) (cells := [Value.string r226, Value.int .i64 (-1), Value.int .i64 x237, Value.int .i64 (wr ((len xs196) - 1))]) rfl (szs_cons rfl szs_nil) (fc_cons rfl fc_nil) (ones_cons rfl (ones_cons rfl (ones_cons rfl (ones_cons rfl ones_nil)))) (Nat.le_of_ble_eq_true rfl)
          have els244 : Els (up wa.heap.size H211) eFregeStep 4 [Value.string r226, Value.int .i64 (-1), Value.int .i64 x237, Value.int .i64 (wr ((len xs196) - 1))] [(FregeStep.mk r226 (-1) x237 (wr ((len xs196) - 1)))] := (Els.snoc (H := (up wa.heap.size H211)) (E := eFregeStep) (k := 4) (c := [Value.string r226, Value.int .i64 (-1), Value.int .i64 x237, Value.int .i64 (wr ((len xs196) - 1))]) (x := (FregeStep.mk r226 (-1) x237 (wr ((len xs196) - 1)))) Els.nil rfl rfl)
          refine FC.val (l' := (bs 17 32767)) rfl (by kernel_rfl) rfl rfl rfl (E.buildSlice (B1 rfl) run242) ?_
          refine ⟨(SP.nil ⟨_, (S243.sel [2] (by decide) rfl), (Inc.rfl _)⟩), ?_⟩
          refine FB.all1 (i := 15) (by kernel_rfl) ?_
          ·
           obtain ⟨v247, w250, n248, cs249, run251, S252, els253, ce254⟩ := S243.appendO (P := Tryz.prog) te25 (i := 1) (j := 0) rfl els210 rfl els244 hz246
           have S252 : St Ha wa H211 w250 [.row 39 4 v240 1 [Value.string r226, Value.int .i64 (-1), Value.int .i64 x237, Value.int .i64 (wr ((len xs196) - 1))], .row 39 4 v247 n248 cs249, .row 3 1 v70 n71 cs72] := S252
           have S255 : St Ha wa H211 w250 [.row 39 4 v247 n248 cs249, .row 3 1 v70 n71 cs72] := S252.drop 0
           refine FC.val (l' := (bs 17 65535)) rfl (by kernel_rfl) rfl rfl rfl (E.append rfl rfl run251) ?_
           refine ⟨(SP.nil ⟨_, (S255.sel [1] (by decide) rfl), (Inc.rfl _)⟩), ?_⟩
           refine FB.t (i := 16) (bs 17 131071) rfl (SP.nil ⟨_, (S255.sel [1] (by decide) rfl), (Inc.rfl _)⟩) rfl (fun w' hw' => (E.assign (v := v247) rfl)) ?_
           exact FB.done (by kernel_rfl) ⟨_, _, _, _, S255, (Inc.rfl _), els253, k216, k217, rfl, k219, k220, k221⟩
       ·
        rintro f264 w263 ⟨H260, v256, n257, cs258, S261, i262, els259, k265, k266, k267, k268, k269, k270⟩
        obtain rfl := Option.some.inj hp
        exact ⟨rfl, ⟨_, _, _, _, S261, ((i111.tr i213).tr i262), els259, k265, k266, k267, k268, k269, k270⟩⟩
     ·
      refine FW.condF rfl c134 ?_
      refine FW.seq (FW.region ?_)
      refine FL.v (E.move k117) ?_
      refine FL.v (E.load k121 (run_loadA Tryz.isAgg39 Tryz.sizeOf39 ((at101.mono i111).now S110.sl) rfl)) ?_
      obtain ⟨v271, w272, run273, S274⟩ := S110.buildSlice (P := Tryz.prog) te25 [Value.agg #[Value.string y64.formula, Value.int .i64 y64.rule, Value.int .i64 y64.a, Value.int .i64 y64.b]] (parts := #[(0, Value.agg #[Value.string y64.formula, Value.int .i64 y64.rule, Value.int .i64 y64.a, Value.int .i64 y64.b])]) (cells := [Value.string y64.formula, Value.int .i64 y64.rule, Value.int .i64 y64.a, Value.int .i64 y64.b]) rfl (szs_cons rfl szs_nil) (fc_cons rfl fc_nil) (ones_cons rfl (ones_cons rfl (ones_cons rfl (ones_cons rfl ones_nil)))) (Nat.le_of_ble_eq_true rfl)
      have els275 : Els (up wa.heap.size H109) eFregeStep 4 [Value.string y64.formula, Value.int .i64 y64.rule, Value.int .i64 y64.a, Value.int .i64 y64.b] [y64] := (Els.snoc (H := (up wa.heap.size H109)) (E := eFregeStep) (k := 4) (c := [Value.string y64.formula, Value.int .i64 y64.rule, Value.int .i64 y64.a, Value.int .i64 y64.b]) (x := y64) Els.nil rfl rfl)
      refine FL.v (E.buildSlice (B1 rfl) run273) ?_
      obtain ⟨xs276, hz277, hp⟩ := bnd hp
      obtain ⟨v278, w281, n279, cs280, run282, S283, els284, ce285⟩ := S274.appendO (P := Tryz.prog) te25 (i := 1) (j := 0) rfl (els69.mono (up_mono (i100.tr i111))) rfl els275 hz277
      have S283 : St Ha wa H109 w281 [.row 39 4 v271 1 [Value.string y64.formula, Value.int .i64 y64.rule, Value.int .i64 y64.a, Value.int .i64 y64.b], .row 39 4 v278 n279 cs280, .row 3 1 v70 n71 cs72] := S283
      have S286 : St Ha wa H109 w281 [.row 39 4 v278 n279 cs280, .row 3 1 v70 n71 cs72] := S283.drop 0
      refine FL.v (E.append rfl rfl run282) ?_
      refine FL.v (E.assign (v := v278) rfl) ?_
      refine FL.nil (FW.seq (FW.region ?_))
      refine FL.v (E.move (v := v278) rfl) ?_
      refine FL.v (E.fieldAddr tf39_0 k121) ?_
      refine FL.v (E.load rfl (run_load1 Tryz.isAgg9 ((at101.mono i111).now S286.sl) rfl)) ?_
      refine FL.v (E.move k119) ?_
      refine FL.v (E.move k119) ?_
      obtain ⟨r287, hr288, hp⟩ := bnd hp
      refine FL.call rfl rfl rfl (E.call Tryz.call45 (A4 rfl rfl rfl rfl)) (w_spec_l24Case S286.sl 1 y64.formula x44 x44 hr288) ?_
      rintro e w289 ⟨rfl, r290⟩
      refine ⟨_, rfl, ?_⟩
      have S291 := S286.call r290
      refine FL.v (E.build (B2 rfl rfl) (run_build _ 39 #[(0, Value.string r287), (1, Value.int .i64 1)] #[Value.string r287, Value.int .i64 1, Value.int .i64 0, Value.int .i64 0] (by rfl))) ?_
      obtain ⟨v292, w293, run294, S295⟩ := S291.buildSlice (P := Tryz.prog) te25 [Value.agg #[Value.string r287, Value.int .i64 1, Value.int .i64 0, Value.int .i64 0]] (parts := #[(0, Value.agg #[Value.string r287, Value.int .i64 1, Value.int .i64 0, Value.int .i64 0])]) (cells := [Value.string r287, Value.int .i64 1, Value.int .i64 0, Value.int .i64 0]) rfl (szs_cons rfl szs_nil) (fc_cons rfl fc_nil) (ones_cons rfl (ones_cons rfl (ones_cons rfl (ones_cons rfl ones_nil)))) (Nat.le_of_ble_eq_true rfl)
      have els296 : Els (up wa.heap.size H109) eFregeStep 4 [Value.string r287, Value.int .i64 1, Value.int .i64 0, Value.int .i64 0] [(FregeStep.mk r287 1 0 0)] := (Els.snoc (H := (up wa.heap.size H109)) (E := eFregeStep) (k := 4) (c := [Value.string r287, Value.int .i64 1, Value.int .i64 0, Value.int .i64 0]) (x := (FregeStep.mk r287 1 0 0)) Els.nil rfl rfl)
      refine FL.v (E.buildSlice (B1 rfl) run294) ?_
      obtain ⟨xs297, hz298, hp⟩ := bnd hp
      obtain ⟨v299, w302, n300, cs301, run303, S304, els305, ce306⟩ := S295.appendO (P := Tryz.prog) te25 (i := 1) (j := 0) rfl els284 rfl els296 hz298
      have S304 : St Ha wa H109 w302 [.row 39 4 v292 1 [Value.string r287, Value.int .i64 1, Value.int .i64 0, Value.int .i64 0], .row 39 4 v299 n300 cs301, .row 3 1 v70 n71 cs72] := S304
      have S307 : St Ha wa H109 w302 [.row 39 4 v299 n300 cs301, .row 3 1 v70 n71 cs72] := S304.drop 0
      refine FL.v (E.append rfl rfl run303) ?_
      refine FL.v (E.assign (v := v299) rfl) ?_
      refine FL.nil (FW.region ?_)
      refine FL.v (E.move (v := v299) rfl) ?_
      refine FL.v (E.move k119) ?_
      refine FL.v (E.fieldAddr tf39_0 k121) ?_
      refine FL.v (E.load rfl (run_load1 Tryz.isAgg9 ((at101.mono i111).now S307.sl) rfl)) ?_
      obtain ⟨r308, hr309, hp⟩ := bnd hp
      refine FL.call rfl rfl rfl (E.call Tryz.call53 (A2 rfl rfl)) (w_spec_l24Implies S307.sl x44 y64.formula hr309) ?_
      rintro e w310 ⟨rfl, r311⟩
      refine ⟨_, rfl, ?_⟩
      have S312 := S307.call r311
      refine FL.v (E.move (v := v299) rfl) ?_
      refine FL.v (E.lenO te25 rfl S312 (i := 0) rfl els305 (by decide)) ?_
      refine FL.v (E.sub rfl rfl) ?_
      refine FL.v (E.move (v := v299) rfl) ?_
      refine FL.v (E.lenO te25 rfl S312 (i := 0) rfl els305 (by decide)) ?_
      refine FL.v (E.sub rfl rfl) ?_
      refine FL.v (E.build (B4 rfl rfl rfl rfl) (run_build _ 39 #[(0, Value.string r308), (1, Value.int .i64 (-1)), (2, Value.int .i64 (wr ((len xs297) - 2))), (3, Value.int .i64 (wr ((len xs297) - 1)))] #[Value.string r308, Value.int .i64 (-1), Value.int .i64 (wr ((len xs297) - 2)), Value.int .i64 (wr ((len xs297) - 1))] (by rfl))) ?_
      obtain ⟨v313, w314, run315, S316⟩ := S312.buildSlice (P := Tryz.prog) te25 [Value.agg #[Value.string r308, Value.int .i64 (-1), Value.int .i64 (wr ((len xs297) - 2)), Value.int .i64 (wr ((len xs297) - 1))]] (parts := #[(0, Value.agg #[Value.string r308, Value.int .i64 (-1), Value.int .i64 (wr ((len xs297) - 2)), Value.int .i64 (wr ((len xs297) - 1))])]) (cells := [Value.string r308, Value.int .i64 (-1), Value.int .i64 (wr ((len xs297) - 2)), Value.int .i64 (wr ((len xs297) - 1))]) rfl (szs_cons rfl szs_nil) (fc_cons rfl fc_nil) (ones_cons rfl (ones_cons rfl (ones_cons rfl (ones_cons rfl ones_nil)))) (Nat.le_of_ble_eq_true rfl)
      have els317 : Els (up wa.heap.size H109) eFregeStep 4 [Value.string r308, Value.int .i64 (-1), Value.int .i64 (wr ((len xs297) - 2)), Value.int .i64 (wr ((len xs297) - 1))] [(FregeStep.mk r308 (-1) (wr ((len xs297) - 2)) (wr ((len xs297) - 1)))] := (Els.snoc (H := (up wa.heap.size H109)) (E := eFregeStep) (k := 4) (c := [Value.string r308, Value.int .i64 (-1), Value.int .i64 (wr ((len xs297) - 2)), Value.int .i64 (wr ((len xs297) - 1))]) (x := (FregeStep.mk r308 (-1) (wr ((len xs297) - 2)) (wr ((len xs297) - 1)))) Els.nil rfl rfl)
      refine FL.v (E.buildSlice (B1 rfl) run315) ?_
      obtain ⟨xs318, hz319, hp⟩ := bnd hp
      obtain ⟨v320, w323, n321, cs322, run324, S325, els326, ce327⟩ := S316.appendO (P := Tryz.prog) te25 (i := 1) (j := 0) rfl els305 rfl els317 hz319
      have S325 : St Ha wa H109 w323 [.row 39 4 v313 1 [Value.string r308, Value.int .i64 (-1), Value.int .i64 (wr ((len xs297) - 2)), Value.int .i64 (wr ((len xs297) - 1))], .row 39 4 v320 n321 cs322, .row 3 1 v70 n71 cs72] := S325
      have S328 : St Ha wa H109 w323 [.row 39 4 v320 n321 cs322, .row 3 1 v70 n71 cs72] := S325.drop 0
      refine FL.v (E.append rfl rfl run324) ?_
      refine FL.v (E.assign (v := v320) rfl) ?_
      refine FL.nil ?_
      obtain rfl := Option.some.inj hp
      exact ⟨rfl, ⟨_, _, _, _, S328, i111, els326, k115, k116, rfl, k118, k119, k120⟩⟩
   ·
    rintro s102 rfl f333 w332 ⟨H329, v105, n106, cs107, S330, i331, els108, k334, k335, k336, k337, k338, k339⟩
    replace hp := el_go hp
    refine FW.region ?_
    refine FL.v (E.move k337) ?_
    refine FL.v (E.move k336) ?_
    refine FL.v (E.lenO te25 rfl S330 (i := 0) rfl els108 (by decide)) ?_
    refine FL.v (E.sub rfl rfl) ?_
    obtain ⟨v340, w341, run342, S343, els344⟩ := S330.ints (P := Tryz.prog) te33 (up wa.heap.size H329) 1 [(wr ((len s102) - 1))]
    refine FL.v (E.buildSlice (B1 rfl) run342) ?_
    obtain ⟨xs345, hz346, hp⟩ := bnd hp
    obtain ⟨v347, w350, n348, cs349, run351, S352, els353, ce354⟩ := S343.appendO (P := Tryz.prog) te33 (i := 2) (j := 0) rfl (els73.mono (up_mono (i100.tr i331))) rfl els344 hz346
    have S352 : St Ha wa H329 w350 [.row 3 1 v340 1 (iC [(wr ((len s102) - 1))]), .row 39 4 v105 n106 cs107, .row 3 1 v347 n348 cs349] := S352
    have S355 : St Ha wa H329 w350 [.row 39 4 v105 n106 cs107, .row 3 1 v347 n348 cs349] := S352.drop 0
    refine FL.v (E.append rfl rfl run351) ?_
    refine FL.v (E.assign (v := v347) rfl) ?_
    refine FL.nil (FW.region ?_)
    refine FL.v (E.move k339) ?_
    refine FL.v (E.add rfl rfl) ?_
    refine FL.v (E.assign (v := Value.int .i64 (wr (((i65 : Nat) : Int) + 1))) rfl) ?_
    refine FL.nil ?_
    obtain rfl := Option.some.inj hp
    exact ⟨rfl, ⟨_, _, _, _, _, _, _, S355, ((i76.tr i100).tr i331), els108, els353, (nat_succ rfl (lt_of_get hx65) (p1.mono (((i56.tr i76).tr i100).tr i331)).le), k334, k335, k336, rfl, k338⟩⟩
   ·
    intro x104; exact x104.elim
  ·
   clear hp hq
   rintro s65 f367 w366 ⟨H363, v66, n67, cs68, v70, n71, cs72, S364, i365, els69, els73, k368, k369, k370, k371, k372, k373⟩
   refine FW.seq (FW.seq (FW.region ?_))
   refine FL.v (E.move k368) ?_
   refine FL.v (E.move k369) ?_
   refine FL.v (E.lenP te25 rfl p1) ?_
   refine FL.v (E.lss rfl rfl) ?_
   refine FL.nil ?_
   refine FW.condF rfl dlt_len ?_
   refine FW.exit ?_
   exact ⟨nofun, rfl, ⟨_, _, _, _, _, _, _, S364, i365, els69, els73, k371⟩⟩
  ·
   clear hq
   intro e f361 w360 hD
   rcases q65 with s65 | x65
   ·
    obtain ⟨rfl, hD⟩ := hD
    obtain ⟨H357, v66, n67, cs68, v70, n71, cs72, S358, i359, els69, els73, k362⟩ := hD
    replace hp := el_go hp
    refine FW.seq (FW.region ?_)
    refine FL.v (E.move k362) ?_
    refine FL.v (E.assign (v := v66) rfl) ?_
    refine FL.nil ?_
    refine FW.ret ?_
    obtain rfl := Option.some.inj hp
    exact ⟨.inr rfl, res1 rfl rfl ⟨_, _, _, _, rfl, (S358.sel [0] (by decide) rfl), els69⟩⟩
   ·
    exact x65.elim

@[reducible] def p_spec_l24Give (Ha : GH) (wa : World) (r : ((List FregeStep) × Bool)) : Ending → World → Prop :=
 fun e w' => ∃ H' : GH, ∃ v0 : Value, e = .returned (Value.tuple #[v0, Value.bool r.2]) ∧ Run wa.heap.size Ha wa H' w' ∧ RSl H' eFregeStep 4 v0 r.1
set_option maxHeartbeats 4000000 in
theorem w_spec_l24Give {Ha : GH} {wa : World} (hs : Sl Ha wa) (v0 : Value) (a0 : List FregeStep) (p0 : RSl Ha eFregeStep 4 v0 a0) {r : ((List FregeStep) × Bool)} (hp : (PF.spec_l24Give a0) = some r) :
  Calls Tryz.prog 30 #[v0] wa (p_spec_l24Give Ha wa r) := by
 unfold PF.spec_l24Give at hp
 have S0 := St.init hs
 refine calls_go (N := 24) (args := [v0]) Tryz.func30 rfl rfl rfl ?_
 refine FW.seq (FW.region ?_)
 refine FL.v (E.assign (v := Value.slice none 0 0) rfl) ?_
 refine FL.v (E.assign (v := Value.bool false) rfl) ?_
 refine FL.nil (FW.seq (FW.seq (FW.region ?_)))
 refine FL.v (E.move (v := v0) rfl) ?_
 refine FL.v (E.lenP te25 rfl p0) ?_
 refine FL.v (E.gtr rfl rfl) ?_
 refine FL.nil ?_
 rcases ifB hp with ⟨c21, hp⟩ | ⟨c21, hp⟩
 ·
  refine FW.condT rfl c21 ?_
  refine FW.seq (FW.region ?_)
  obtain ⟨v22, w23, run24, S25⟩ := S0.buildSlice (P := Tryz.prog) te25 [] (parts := #[]) (cells := []) rfl szs_nil fc_nil ones_nil (Nat.le_of_ble_eq_true rfl)
  have els26 : Els (up wa.heap.size Ha) eFregeStep 4 [] [] := Els.nil
  refine FL.v (E.buildSlice (B0) run24) ?_
  refine FL.v (E.assign (v := v22) rfl) ?_
  refine FL.v (E.assign (v := Value.bool false) rfl) ?_
  refine FL.nil ?_
  refine FW.ret ?_
  obtain ⟨H27, S28, i29, h30, nv31⟩ := S25.sealRowU (i := 0) (l' := []) rfl els26 (by decide) rfl
  obtain rfl := Option.some.inj hp
  exact ⟨.inr rfl, res2 rfl rfl rfl ⟨_, _, rfl, S28.run, (h30.mono upI)⟩⟩
 ·
  refine FW.condF rfl c21 ?_
  refine FW.skip (FW.seq (FW.seq (FW.region ?_)))
  refine FL.v (E.assign (v := Value.int .i64 0) rfl) ?_
  refine FL.nil ?_
  obtain ⟨q33, hq, hp⟩ := bndR hp
  refine FW.block ?_
  refine FW.mono (FW.forL (S := Unit) (X := ((List FregeStep) × Bool)) (fun (i33 : Nat) (s33 : Unit) f w => ∃ H : GH, St Ha wa H w [] ∧ Inc Ha H ∧ f 4 = Value.int .i64 ((i33 : Nat) : Int) ∧ f 0 = v0) (fun q e f w => match q with | .go s33 => e = Exit.exit 0 ∧ (∃ H : GH, St Ha wa H w [] ∧ Inc Ha H ∧ f 0 = v0) | .rt x => ((e = Exit.ret) ∧ (fun e f w => (e = Exit.normal ∨ e = Exit.ret) ∧ ∀ a, Fr (δ := []) 24 a f → ∃ v, (results Tryz.f30 a.tmps).run Tryz.prog w = .ok v w ∧ (p_spec_l24Give Ha wa x) (.returned v) w) e f w)) hq ⟨_, S0, (Inc.rfl _), rfl, rfl⟩ ?_ ?_) ?_
  ·
   clear hp hq
   rintro i33 y32 s33 f62 w61 ⟨H58, S59, i60, k63, k64⟩ hx33 o82 hp
   refine FW.seq (FW.seq (FW.region ?_))
   refine FL.v (E.move k63) ?_
   refine FL.v (E.move k64) ?_
   refine FL.v (E.lenP te25 rfl p0) ?_
   refine FL.v (E.lssT rfl rfl (lss_len hx33)) ?_
   refine FL.nil ?_
   refine FW.condT rfl rfl ?_
   refine FW.skip (FW.seq (FW.block (FW.seq (FW.region ?_))))
   refine FL.v (E.move k64) ?_
   refine FL.v (E.move k63) ?_
   obtain ⟨p65, cs66, pt67, l68, at69, rel70⟩ := p0.at (ix_nat hx33)
   obtain rfl := eFregeStep_open rel70
   refine FL.v (E.indexAddr te25 rfl rfl pt67) ?_
   refine FL.v (E.fieldAddr tf39_0 rfl) ?_
   refine FL.v (E.load rfl (run_load1 Tryz.isAgg9 ((at69.mono i60).now S59.sl) rfl)) ?_
   refine FL.v (E.lenS Tryz.runUnderlying9 rfl) ?_
   refine FL.v (E.gtr rfl rfl) ?_
   refine FL.nil ?_
   rcases ifB hp with ⟨c71, hp⟩ | ⟨c71, hp⟩
   ·
    refine FW.condT rfl c71 ?_
    refine FW.seq (FW.region ?_)
    obtain ⟨v72, w73, run74, S75⟩ := S59.buildSlice (P := Tryz.prog) te25 [] (parts := #[]) (cells := []) rfl szs_nil fc_nil ones_nil (Nat.le_of_ble_eq_true rfl)
    have els76 : Els (up wa.heap.size H58) eFregeStep 4 [] [] := Els.nil
    refine FL.v (E.buildSlice (B0) run74) ?_
    refine FL.v (E.assign (v := v72) rfl) ?_
    refine FL.v (E.assign (v := Value.bool false) rfl) ?_
    refine FL.nil ?_
    refine FW.ret ?_
    obtain ⟨H77, S78, i79, h80, nv81⟩ := S75.sealRowU (i := 0) (l' := []) rfl els76 (by decide) rfl
    obtain rfl := Option.some.inj hp
    exact ⟨nofun, rfl, ⟨.inr rfl, res2 rfl rfl rfl ⟨_, _, rfl, S78.run, (h80.mono upI)⟩⟩⟩
   ·
    refine FW.condF rfl c71 ?_
    refine FW.skip (FW.region ?_)
    refine FL.v (E.move k63) ?_
    refine FL.v (E.add rfl rfl) ?_
    refine FL.v (E.assign (v := Value.int .i64 (wr (((i33 : Nat) : Int) + 1))) rfl) ?_
    refine FL.nil ?_
    obtain rfl := Option.some.inj hp
    exact ⟨rfl, ⟨_, S59, i60, (nat_succ rfl (lt_of_get hx33) (p0.mono i60).le), k64⟩⟩
  ·
   clear hp hq
   rintro s33 f93 w92 ⟨H89, S90, i91, k94, k95⟩
   refine FW.seq (FW.seq (FW.region ?_))
   refine FL.v (E.move k94) ?_
   refine FL.v (E.move k95) ?_
   refine FL.v (E.lenP te25 rfl p0) ?_
   refine FL.v (E.lss rfl rfl) ?_
   refine FL.nil ?_
   refine FW.condF rfl dlt_len ?_
   refine FW.exit ?_
   exact ⟨nofun, rfl, ⟨_, S90, i91, k95⟩⟩
  ·
   clear hq
   intro e f87 w86 hD
   rcases q33 with s33 | x33
   ·
    obtain ⟨rfl, hD⟩ := hD
    obtain ⟨H83, S84, i85, k88⟩ := hD
    replace hp := el_go hp
    refine FW.seq (FW.region ?_)
    refine FL.v (E.move k88) ?_
    refine FL.v (E.assign (v := v0) rfl) ?_
    refine FL.v (E.assign (v := Value.bool true) rfl) ?_
    refine FL.nil ?_
    refine FW.ret ?_
    obtain rfl := Option.some.inj hp
    exact ⟨.inr rfl, res2 rfl rfl rfl ⟨_, _, rfl, S84.run, (p0.mono i85)⟩⟩
   ·
    obtain ⟨he, hL⟩ := hD
    replace hp := el_rt hp
    obtain rfl := Option.some.inj hp
    subst he
    exact hL

@[reducible] def p_spec_Discharge (Ha : GH) (wa : World) (r : ((List FregeStep) × Bool)) : Ending → World → Prop :=
 fun e w' => ∃ H' : GH, ∃ v0 : Value, e = .returned (Value.tuple #[v0, Value.bool r.2]) ∧ Run wa.heap.size Ha wa H' w' ∧ RSl H' eFregeStep 4 v0 r.1
theorem w_spec_Discharge {Ha : GH} {wa : World} (hs : Sl Ha wa) (v0 : Value) (a0 : List ByteArray) (p0 : RSl Ha eS 1 v0 a0) (v1 : Value) (a1 : List FregeStep) (p1 : RSl Ha eFregeStep 4 v1 a1) (a2 : Int) {r : ((List FregeStep) × Bool)} (hp : (PF.spec_Discharge a0 a1 a2) = some r) :
  Calls Tryz.prog 7 #[v0, v1, Value.int .i64 a2] wa (p_spec_Discharge Ha wa r) := by
 unfold PF.spec_Discharge at hp
 have S0 := St.init hs
 refine calls_go (N := 28) (args := [v0, v1, Value.int .i64 a2]) Tryz.func7 rfl rfl rfl ?_
 refine FW.seq (FW.region ?_)
 refine FL.v (E.assign (v := Value.slice none 0 0) rfl) ?_
 refine FL.v (E.assign (v := Value.bool false) rfl) ?_
 refine FL.nil (FW.seq (FW.seq (FW.region ?_)))
 refine FL.v (E.move (v := v0) rfl) ?_
 refine FL.v (E.move (v := v1) rfl) ?_
 obtain ⟨r21, hr22, hp⟩ := bnd hp
 refine FL.call rfl rfl rfl (E.call Tryz.call28 (A2 rfl rfl)) (w_spec_l24Good S0.sl v0 a0 p0 v1 a1 p1 hr22) ?_
 rintro e w23 ⟨rfl, r24⟩
 refine ⟨_, rfl, ?_⟩
 have S25 := S0.call r24
 refine FL.v (E.not rfl) ?_
 refine FL.v (E.move (v := Value.bool (!r21)) rfl) ?_
 refine FL.cut 7 (fun f w => ∃ H : GH, St Ha wa H w [] ∧ Inc Ha H ∧ f 0 = v0 ∧ f 1 = v1 ∧ f 2 = Value.int .i64 a2 ∧ f 19 = Value.bool (bif (!r21) then true else (!(PF.spec_l1In a2 0 (wr ((len a0) - 1)))))) ?_ ?_
 ·
  rcases bcase (!r21) with c35 | c35
  ·
   refine FL.skip (wF_no rfl rfl rfl c35) rfl ?_
   refine FL.skip (wF_no rfl rfl rfl c35) rfl ?_
   refine FL.skip (wF_no rfl rfl rfl c35) rfl ?_
   refine FL.skip (wF_no rfl rfl rfl c35) rfl ?_
   refine FL.skip (wF_no rfl rfl rfl c35) rfl ?_
   refine FL.skip (wF_no rfl rfl rfl c35) rfl ?_
   refine FL.v (E.pickT rfl c35 rfl) ?_
   exact FL.nil ⟨rfl, _, S25, (Inc.rfl _), rfl, rfl, rfl, (congrArg Value.bool (bifT c35).symm)⟩
  ·
   refine FL.val (wF_yes rfl rfl rfl c35) rfl rfl (E.move (v := Value.int .i64 a2) rfl) ?_
   refine FL.val (wF_yes rfl rfl rfl c35) rfl rfl (E.move (v := v0) rfl) ?_
   refine FL.val (wF_yes rfl rfl rfl c35) rfl rfl (E.lenP te24 rfl p0) ?_
   refine FL.val (wF_yes rfl rfl rfl c35) rfl rfl (E.sub rfl rfl) ?_
   refine FL.call (wF_yes rfl rfl rfl c35) rfl rfl (E.call Tryz.call29 (A3 rfl rfl rfl)) (w_spec_l1In S25.sl a2 0 (wr ((len a0) - 1))) ?_
   rintro e w36 ⟨rfl, r37⟩
   refine ⟨_, rfl, ?_⟩
   have S38 := S25.call r37
   refine FL.val (wF_yes rfl rfl rfl c35) rfl rfl (E.not rfl) ?_
   refine FL.v (E.pickF rfl c35 rfl) ?_
   exact FL.nil ⟨rfl, _, S38, (Inc.rfl _), rfl, rfl, rfl, (congrArg Value.bool (bifF c35).symm)⟩
 rintro f34 w33 ⟨H30, S31, i32, k39, k40, k41, k42⟩
 refine FL.nil ?_
 rcases ifB hp with ⟨c43, hp⟩ | ⟨c43, hp⟩
 ·
  refine FW.condT k42 c43 ?_
  refine FW.seq (FW.region ?_)
  obtain ⟨v44, w45, run46, S47⟩ := S31.buildSlice (P := Tryz.prog) te25 [] (parts := #[]) (cells := []) rfl szs_nil fc_nil ones_nil (Nat.le_of_ble_eq_true rfl)
  have els48 : Els (up wa.heap.size H30) eFregeStep 4 [] [] := Els.nil
  refine FL.v (E.buildSlice (B0) run46) ?_
  refine FL.v (E.assign (v := v44) rfl) ?_
  refine FL.v (E.assign (v := Value.bool false) rfl) ?_
  refine FL.nil ?_
  refine FW.ret ?_
  obtain ⟨H49, S50, i51, h52, nv53⟩ := S47.sealRowU (i := 0) (l' := []) rfl els48 (by decide) rfl
  obtain rfl := Option.some.inj hp
  exact ⟨.inr rfl, res2 rfl rfl rfl ⟨_, _, rfl, S50.run, (h52.mono upI)⟩⟩
 ·
  refine FW.condF k42 c43 ?_
  refine FW.skip (FW.seq (FW.region ?_))
  refine FL.v (E.move k39) ?_
  refine FL.v (E.move k40) ?_
  refine FL.v (E.move k41) ?_
  obtain ⟨r54, hr55, hp⟩ := bnd hp
  refine FL.call rfl rfl rfl (E.call Tryz.call31 (A3 rfl rfl rfl)) (w_spec_l24Discharge S31.sl v0 a0 (p0.mono i32) v1 a1 (p1.mono i32) a2 hr55) ?_
  rintro e w57 ⟨H56, v60, n61, cs62, rfl, r59, els63⟩
  refine ⟨_, rfl, ?_⟩
  have els63 := els63.mono (up_le S31.size)
  have S58 := S31.join (l' := [.row 39 4 v60 n61 cs62]) r59 rfl
  obtain ⟨H64, S65, i66, h67, nv68⟩ := S58.sealRowU (i := 0) (l' := []) rfl els63 (by decide) rfl
  obtain ⟨r69, hr70, hp⟩ := bnd hp
  refine FL.call rfl rfl rfl (E.call Tryz.call30 (A1 rfl)) (w_spec_l24Give S65.sl v60 r54 (h67.mono upI) hr70) ?_
  rintro e w72 ⟨H71, v75, rfl, r74, h76⟩
  refine ⟨_, rfl, ?_⟩
  have S73 := S65.call r74
  refine FL.v (E.extract (i := 0) rfl rfl) ?_
  refine FL.v (E.extract (i := 1) rfl rfl) ?_
  refine FL.v (E.assign (v := v75) rfl) ?_
  refine FL.v (E.assign (v := Value.bool r69.2) rfl) ?_
  refine FL.nil ?_
  refine FW.ret ?_
  obtain rfl := Option.some.inj hp
  exact ⟨.inr rfl, res2 rfl rfl rfl ⟨_, _, rfl, S73.run, h76⟩⟩

set_option maxHeartbeats 4000000 in
theorem w_laws_vFrege {Ha : GH} {wa : World} (hs : Sl Ha wa) (v0 : Value) (a0 : List FregeStep) (p0 : RSl Ha eFregeStep 4 v0 a0) (v1 : Value) (a1 : List FregeStep) (p1 : RSl Ha eFregeStep 4 v1 a1) {r : Bool} (hp : (PF.laws_vFrege a0 a1) = some r) :
  Calls Tryz.prog 8 #[v0, v1] wa (Sc Ha wa (Value.bool r)) := by
 unfold PF.laws_vFrege at hp
 have S0 := St.init hs
 refine calls_go (N := 26) (args := [v0, v1]) Tryz.func8 rfl rfl rfl ?_
 refine FW.seq (FW.region ?_)
 refine FL.v (E.assign (v := Value.bool false) rfl) ?_
 refine FL.nil (FW.seq (FW.seq (FW.region ?_)))
 refine FL.v (E.move (v := v0) rfl) ?_
 refine FL.v (E.lenP te25 rfl p0) ?_
 refine FL.v (E.move (v := v1) rfl) ?_
 refine FL.v (E.lenP te25 rfl p1) ?_
 refine FL.v (E.neq rfl rfl) ?_
 refine FL.nil ?_
 rcases ifB hp with ⟨c21, hp⟩ | ⟨c21, hp⟩
 ·
  refine FW.condT rfl c21 ?_
  refine FW.seq (FW.region ?_)
  refine FL.v (E.assign (v := Value.bool false) rfl) ?_
  refine FL.nil ?_
  refine FW.ret ?_
  obtain rfl := Option.some.inj hp
  exact ⟨.inr rfl, res1 rfl rfl ⟨rfl, S0.back⟩⟩
 ·
  refine FW.condF rfl c21 ?_
  refine FW.skip (FW.seq (FW.seq (FW.region ?_)))
  refine FL.v (E.assign (v := Value.int .i64 0) rfl) ?_
  refine FL.nil ?_
  obtain ⟨q23, hq, hp⟩ := bndR hp
  refine FW.block ?_
  refine FW.mono (FW.forL (S := Unit) (X := Bool) (fun (i23 : Nat) (s23 : Unit) f w => ∃ H : GH, St Ha wa H w [] ∧ Inc Ha H ∧ f 5 = Value.int .i64 ((i23 : Nat) : Int) ∧ f 0 = v0 ∧ f 1 = v1) (fun q e f w => match q with | .go s23 => e = Exit.exit 0 ∧ (∃ H : GH, St Ha wa H w [] ∧ Inc Ha H) | .rt x => ((e = Exit.ret) ∧ (fun e f w => (e = Exit.normal ∨ e = Exit.ret) ∧ ∀ a, Fr (δ := []) 26 a f → ∃ v, (results Tryz.f8 a.tmps).run Tryz.prog w = .ok v w ∧ (Sc Ha wa (Value.bool x)) (.returned v) w) e f w)) hq ⟨_, S0, (Inc.rfl _), rfl, rfl, rfl⟩ ?_ ?_) ?_
  ·
   clear hp hq
   rintro i23 y22 s23 f55 w54 ⟨H51, S52, i53, k56, k57, k58⟩ hx23 o78 hp
   refine FW.seq (FW.seq (FW.region ?_))
   refine FL.v (E.move k56) ?_
   refine FL.v (E.move k57) ?_
   refine FL.v (E.lenP te25 rfl p0) ?_
   refine FL.v (E.lssT rfl rfl (lss_len hx23)) ?_
   refine FL.nil ?_
   refine FW.condT rfl rfl ?_
   refine FW.skip (FW.seq (FW.block (FW.seq ?_)))
   refine FW.draw (fun w' => Run w54.heap.size H51 w54 H51 w') (by kernel_rfl) (by kernel_rfl) (run_drew S52.sl) ?_
   refine FD.val rfl rfl rfl (fun w' hw' => (E.move k57)) ?_
   refine FD.val rfl rfl rfl (fun w' hw' => (E.move k56)) ?_
   obtain ⟨p60, cs61, pt62, l63, at64, rel65⟩ := p0.at (ix_nat hx23)
   obtain rfl := eFregeStep_open rel65
   refine FD.val rfl rfl rfl (fun w' hw' => (E.indexAddr te25 rfl rfl pt62)) ?_
   refine FD.val rfl rfl rfl (fun w' hw' => (E.load rfl (run_loadA Tryz.isAgg39 Tryz.sizeOf39 ((at64.mono i53).now (S52.call hw').sl) rfl))) ?_
   refine FD.val rfl rfl rfl (fun w' hw' => (E.move k58)) ?_
   refine FD.val rfl rfl rfl (fun w' hw' => (E.move k56)) ?_
   obtain ⟨x72, hx73, hp⟩ := bnd hp
   obtain ⟨p66, cs67, pt68, l69, at70, rel71⟩ := p1.at hx73
   obtain rfl := eFregeStep_open rel71
   refine FD.val rfl rfl rfl (fun w' hw' => (E.indexAddr te25 rfl rfl pt68)) ?_
   refine FD.val rfl rfl rfl (fun w' hw' => (E.load rfl (run_loadA Tryz.isAgg39 Tryz.sizeOf39 ((at70.mono i53).now (S52.call hw').sl) rfl))) ?_
   refine FD.val rfl rfl rfl (fun w' hw' => (E.neqA sg39 (sq39 y22.formula y22.rule y22.a y22.b x72.formula x72.rule x72.a x72.b) rfl rfl)) ?_
   refine FD.nil ?_
   intro w74 r76
   have S75 := S52.call r76
   rcases ifB hp with ⟨c77, hp⟩ | ⟨c77, hp⟩
   ·
    refine FW.condT rfl c77 ?_
    refine FW.seq (FW.region ?_)
    refine FL.v (E.assign (v := Value.bool false) rfl) ?_
    refine FL.nil ?_
    refine FW.ret ?_
    obtain rfl := Option.some.inj hp
    exact ⟨nofun, rfl, ⟨.inr rfl, res1 rfl rfl ⟨rfl, S75.back⟩⟩⟩
   ·
    refine FW.condF rfl c77 ?_
    refine FW.skip (FW.region ?_)
    refine FL.v (E.move k56) ?_
    refine FL.v (E.add rfl rfl) ?_
    refine FL.v (E.assign (v := Value.int .i64 (wr (((i23 : Nat) : Int) + 1))) rfl) ?_
    refine FL.nil ?_
    obtain rfl := Option.some.inj hp
    exact ⟨rfl, ⟨_, S75, i53, (nat_succ rfl (lt_of_get hx23) (p0.mono i53).le), k57, k58⟩⟩
  ·
   clear hp hq
   rintro s23 f88 w87 ⟨H84, S85, i86, k89, k90, k91⟩
   refine FW.seq (FW.seq (FW.region ?_))
   refine FL.v (E.move k89) ?_
   refine FL.v (E.move k90) ?_
   refine FL.v (E.lenP te25 rfl p0) ?_
   refine FL.v (E.lss rfl rfl) ?_
   refine FL.nil ?_
   refine FW.condF rfl dlt_len ?_
   refine FW.exit ?_
   exact ⟨nofun, rfl, ⟨_, S85, i86⟩⟩
  ·
   clear hq
   intro e f83 w82 hD
   rcases q23 with s23 | x23
   ·
    obtain ⟨rfl, hD⟩ := hD
    obtain ⟨H79, S80, i81⟩ := hD
    replace hp := el_go hp
    refine FW.seq (FW.region ?_)
    refine FL.v (E.assign (v := Value.bool true) rfl) ?_
    refine FL.nil ?_
    refine FW.ret ?_
    obtain rfl := Option.some.inj hp
    exact ⟨.inr rfl, res1 rfl rfl ⟨rfl, S80.back⟩⟩
   ·
    obtain ⟨he, hL⟩ := hD
    replace hp := el_rt hp
    obtain rfl := Option.some.inj hp
    subst he
    exact hL

theorem w_impl_last_impl_FregeStep {Ha : GH} {wa : World} (hs : Sl Ha wa) (v0 : Value) (a0 : List FregeStep) (p0 : RSl Ha eFregeStep 4 v0 a0) {r : FregeStep} (hp : (PF.impl_last_impl_FregeStep a0) = some r) :
  Calls Tryz.prog 32 #[v0] wa (Sc Ha wa (Value.agg #[Value.string r.formula, Value.int .i64 r.rule, Value.int .i64 r.a, Value.int .i64 r.b])) := by
 unfold PF.impl_last_impl_FregeStep at hp
 have S0 := St.init hs
 refine calls_go (N := 9) (args := [v0]) Tryz.func32 rfl rfl rfl ?_
 refine FW.seq (FW.region ?_)
 obtain ⟨b21, w22, run23, S24⟩ := S0.alloc (P := Tryz.prog) 39 [Value.string ByteArray.empty, Value.int .i64 0, Value.int .i64 0, Value.int .i64 0] Tryz.zeroValue39 rfl (ones_cons rfl (ones_cons rfl (ones_cons rfl (ones_cons rfl ones_nil))))
 refine FL.v (E.alloc run23) ?_
 refine FL.nil (FW.seq (FW.region ?_))
 refine FL.v (E.move (v := v0) rfl) ?_
 refine FL.v (E.move (v := v0) rfl) ?_
 refine FL.v (E.lenP te25 rfl p0) ?_
 refine FL.v (E.sub rfl rfl) ?_
 obtain ⟨x31, hx32, hp⟩ := bnd hp
 obtain ⟨p25, cs26, pt27, l28, at29, rel30⟩ := p0.at hx32
 obtain rfl := eFregeStep_open rel30
 refine FL.v (E.indexAddr te25 rfl rfl pt27) ?_
 refine FL.v (E.load rfl (run_loadA Tryz.isAgg39 Tryz.sizeOf39 (at29.now S24.sl) rfl)) ?_
 obtain ⟨w33, run34, S35⟩ := S24.store0 (P := Tryz.prog) (t := 39) (i := 0) (cs' := [Value.string x31.formula, Value.int .i64 x31.rule, Value.int .i64 x31.a, Value.int .i64 x31.b]) (l' := [.box b21 39 [Value.string x31.formula, Value.int .i64 x31.rule, Value.int .i64 x31.a, Value.int .i64 x31.b]]) (v := Value.agg #[Value.string x31.formula, Value.int .i64 x31.rule, Value.int .i64 x31.a, Value.int .i64 x31.b]) (c := [Value.string x31.formula, Value.int .i64 x31.rule, Value.int .i64 x31.a, Value.int .i64 x31.b]) rfl Tryz.sizeOf39 rfl rfl (ones_cons rfl (ones_cons rfl (ones_cons rfl (ones_cons rfl ones_nil)))) (Nat.le_of_ble_eq_true rfl) rfl rfl
 refine FL.act rfl rfl (E.store rfl rfl run34) ?_
 obtain ⟨H36, S37, i38, at39⟩ := S35.sealBox (i := 0) (l' := []) rfl rfl
 refine FL.nil ?_
 refine FW.ret ?_
 obtain rfl := Option.some.inj hp
 exact ⟨.inr rfl, resC rfl rfl (loadVar_A Tryz.isAgg39 Tryz.sizeOf39 (at39.now S37.sl) rfl) ⟨rfl, S37.back⟩⟩

theorem w_impl_ProvedFormula {Ha : GH} {wa : World} (hs : Sl Ha wa) (v0 : Value) (a0 : List ByteArray) (p0 : RSl Ha eS 1 v0 a0) (v1 : Value) (a1 : List FregeStep) (p1 : RSl Ha eFregeStep 4 v1 a1) (hT : TabS 0 PF.glob0 Ha) {r : (ByteArray × Bool)} (hp : (PF.impl_ProvedFormula a0 a1) = some r) :
  Calls Tryz.prog 9 #[v0, v1] wa (Sc Ha wa (Value.tuple #[Value.string r.1, Value.bool r.2])) := by
 unfold PF.impl_ProvedFormula at hp
 have S0 := St.init hs
 refine calls_go (N := 13) (args := [v0, v1]) Tryz.func9 rfl rfl rfl ?_
 refine FW.seq (FW.region ?_)
 refine FL.v (E.assign (v := Value.string (ByteArray.mk #[])) rfl) ?_
 refine FL.v (E.assign (v := Value.bool false) rfl) ?_
 refine FL.nil (FW.seq (FW.seq (FW.region ?_)))
 refine FL.v (E.move (v := v0) rfl) ?_
 refine FL.v (E.move (v := v1) rfl) ?_
 obtain ⟨r21, hr22, hp⟩ := bnd hp
 refine FL.call rfl rfl rfl (E.call Tryz.call19 (A2 rfl rfl)) (w_impl_fregeProof S0.sl v0 a0 p0 v1 a1 p1 hT hr22) ?_
 rintro e w23 ⟨rfl, r24⟩
 refine ⟨_, rfl, ?_⟩
 have S25 := S0.call r24
 refine FL.v (E.not rfl) ?_
 refine FL.nil ?_
 rcases ifB hp with ⟨c26, hp⟩ | ⟨c26, hp⟩
 ·
  refine FW.condT rfl c26 ?_
  refine FW.seq (FW.region ?_)
  refine FL.v (E.assign (v := Value.string (ByteArray.mk #[])) rfl) ?_
  refine FL.v (E.assign (v := Value.bool false) rfl) ?_
  refine FL.nil ?_
  refine FW.ret ?_
  obtain rfl := Option.some.inj hp
  exact ⟨.inr rfl, res2 rfl rfl rfl ⟨rfl, S25.back⟩⟩
 ·
  refine FW.condF rfl c26 ?_
  refine FW.skip (FW.seq (FW.region ?_))
  refine FL.v (E.move (v := v1) rfl) ?_
  obtain ⟨r27, hr28, hp⟩ := bnd hp
  refine FL.call rfl rfl rfl (E.call Tryz.call32 (A1 rfl)) (w_impl_last_impl_FregeStep S25.sl v1 a1 p1 hr28) ?_
  rintro e w29 ⟨rfl, r30⟩
  refine ⟨_, rfl, ?_⟩
  have S31 := S25.call r30
  refine FL.v (E.field (fd39_0 rfl) rfl) ?_
  refine FL.v (E.assign (v := Value.string r27.formula) rfl) ?_
  refine FL.v (E.assign (v := Value.bool true) rfl) ?_
  refine FL.nil ?_
  refine FW.ret ?_
  obtain rfl := Option.some.inj hp
  exact ⟨.inr rfl, res2 rfl rfl rfl ⟨rfl, S31.back⟩⟩

@[reducible] def p_impl_FregeStep_uses (Ha : GH) (wa : World) (r : (List Int)) : Ending → World → Prop :=
 fun e w' => ∃ H' : GH, ∃ v0 : Value, ∃ n0 : Nat, ∃ c0 : List Value, e = .returned (v0) ∧ St Ha wa H' w' [.row 3 1 v0 n0 c0] ∧ Els (up wa.heap.size H') eI 1 c0 r
theorem w_impl_FregeStep_uses {Ha : GH} {wa : World} (hs : Sl Ha wa) (a0 : FregeStep) :
  Calls Tryz.prog 56 #[Value.agg #[Value.string a0.formula, Value.int .i64 a0.rule, Value.int .i64 a0.a, Value.int .i64 a0.b]] wa (p_impl_FregeStep_uses Ha wa (PF.impl_FregeStep_uses a0)) := by
 obtain ⟨r, hp⟩ : ∃ r, (PF.impl_FregeStep_uses a0) = r := ⟨_, rfl⟩
 rw [hp]
 unfold PF.impl_FregeStep_uses at hp
 have S0 := St.init hs
 refine calls_go (N := 11) (args := [Value.agg #[Value.string a0.formula, Value.int .i64 a0.rule, Value.int .i64 a0.a, Value.int .i64 a0.b]]) Tryz.func56 rfl rfl rfl ?_
 refine FW.seq (FW.region ?_)
 obtain ⟨b21, w22, run23, S24⟩ := S0.box (P := Tryz.prog) 39 [Value.string a0.formula, Value.int .i64 a0.rule, Value.int .i64 a0.a, Value.int .i64 a0.b] (v := Value.agg #[Value.string a0.formula, Value.int .i64 a0.rule, Value.int .i64 a0.a, Value.int .i64 a0.b]) rfl (ones_cons rfl (ones_cons rfl (ones_cons rfl (ones_cons rfl ones_nil))))
 refine FL.v (E.box rfl run23) ?_
 obtain ⟨H25, S26, i27, at28⟩ := S24.sealBox (i := 0) (l' := []) rfl rfl
 refine FL.v (E.assign (v := Value.slice none 0 0) rfl) ?_
 refine FL.nil (FW.seq (FW.seq (FW.region ?_)))
 refine FL.v (E.fieldAddr tf39_1 rfl) ?_
 refine FL.v (E.load rfl (run_load1 Tryz.isAgg3 (at28.now S26.sl) rfl)) ?_
 refine FL.v (E.eql rfl rfl) ?_
 refine FL.nil ?_
 rcases ifT hp with ⟨c29, hp⟩ | ⟨c29, hp⟩
 ·
  refine FW.condT rfl c29 ?_
  refine FW.seq (FW.region ?_)
  refine FL.v (E.fieldAddr tf39_2 rfl) ?_
  refine FL.v (E.load rfl (run_load1 Tryz.isAgg3 (at28.now S26.sl) rfl)) ?_
  refine FL.v (E.fieldAddr tf39_3 rfl) ?_
  refine FL.v (E.load rfl (run_load1 Tryz.isAgg3 (at28.now S26.sl) rfl)) ?_
  obtain ⟨v30, w31, run32, S33, els34⟩ := S26.ints (P := Tryz.prog) te33 (up wa.heap.size H25) 2 [a0.a, a0.b]
  refine FL.v (E.buildSlice (B2 rfl rfl) run32) ?_
  refine FL.v (E.assign (v := v30) rfl) ?_
  refine FL.nil ?_
  refine FW.ret ?_
  obtain rfl := hp
  exact ⟨.inr rfl, res1 rfl rfl ⟨_, _, _, _, rfl, S33, els34⟩⟩
 ·
  refine FW.condF rfl c29 ?_
  refine FW.skip (FW.seq (FW.region ?_))
  refine FL.v (E.assign (v := Value.slice none 0 0) rfl) ?_
  refine FL.nil ?_
  refine FW.ret ?_
  obtain rfl := hp
  exact ⟨.inr rfl, res1 rfl rfl ⟨_, _, _, _, rfl, (S26.nil 3 1), Els.nil⟩⟩

@[reducible] def p_impl_fregeRests_1 (Ha : GH) (wa : World) (r : (List Int)) : Ending → World → Prop :=
 fun e w' => ∃ H' : GH, ∃ v0 : Value, ∃ n0 : Nat, ∃ c0 : List Value, e = .returned (v0) ∧ St Ha wa H' w' [.row 3 1 v0 n0 c0] ∧ Els (up wa.heap.size H') eI 1 c0 r
theorem w_impl_fregeRests_1 {Ha : GH} {wa : World} (hs : Sl Ha wa) (a0 : Int) (q0 : Addr) (b0 : List FregeStep) (u0_0 : Value) (g0_0 : RSl Ha eFregeStep 4 u0_0 b0) (c0 : CAt Ha q0 [u0_0]) {r : (List Int)} (hp : (PF.impl_fregeRests_1 a0 b0) = some r) :
  Calls Tryz.prog 55 #[Value.int .i64 a0, Value.pointer (some q0)] wa (p_impl_fregeRests_1 Ha wa r) := by
 unfold PF.impl_fregeRests_1 at hp
 have S0 := St.init hs
 refine calls_go (N := 9) (args := [Value.int .i64 a0, Value.pointer (some q0)]) Tryz.func55 rfl rfl rfl ?_
 refine FW.seq (FW.region ?_)
 refine FL.v (E.assign (v := Value.slice none 0 0) rfl) ?_
 refine FL.nil (FW.seq (FW.region ?_))
 refine FL.v (E.load rfl (run_load0 Tryz.isAgg25 (c0.now S0.sl) rfl)) ?_
 refine FL.v (E.move (v := Value.int .i64 a0) rfl) ?_
 obtain ⟨x27, hx28, hp⟩ := bnd hp
 obtain ⟨p21, cs22, pt23, l24, at25, rel26⟩ := g0_0.at hx28
 obtain rfl := eFregeStep_open rel26
 refine FL.v (E.indexAddr te25 rfl rfl pt23) ?_
 refine FL.v (E.load rfl (run_loadA Tryz.isAgg39 Tryz.sizeOf39 (at25.now S0.sl) rfl)) ?_
 refine FL.call rfl rfl rfl (E.call Tryz.call56 (A1 rfl)) (w_impl_FregeStep_uses S0.sl x27) ?_
 rintro e w30 ⟨H29, v33, n34, cs35, rfl, r32, els36⟩
 refine ⟨_, rfl, ?_⟩
 have els36 := els36.mono (up_le S0.size)
 have S31 := S0.join (l' := [.row 3 1 v33 n34 cs35]) r32 rfl
 refine FL.v (E.assign (v := v33) rfl) ?_
 refine FL.nil ?_
 refine FW.ret ?_
 obtain rfl := Option.some.inj hp
 exact ⟨.inr rfl, res1 rfl rfl ⟨_, _, _, _, rfl, S31, els36⟩⟩

end Go.Proofs
