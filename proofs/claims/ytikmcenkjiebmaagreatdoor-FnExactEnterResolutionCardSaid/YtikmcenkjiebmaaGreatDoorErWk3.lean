/- Part of the walks and plain laws behind the claim: it proves helpers, under no condition beyond their own. -/
import Derived.Test.YtikmcenkjiebmaaGreatDoorErWk2
set_option linter.unusedVariables false
set_option maxRecDepth 100000
namespace Go.Proofs
open Go.Mr Go.Pu Go.PF Go.RowKit

theorem w_laws_markResStepS {H0 Ha : GH} {w0 wa : World} {l : List MO} (S0 : St H0 w0 Ha wa l) (hs0 : Sl H0 w0) (v0 : Value) (a0 : List ResStep) (c0 : List Value) (n0 : Nest (up w0.heap.size Ha) eResStep 4 v0 a0 c0) (a1 : Int) :
  Calls Tryz.prog 17 #[v0, Value.int .i64 a1] wa (M2 H0 w0 Ha l eResStep 4 v0 c0 (PF.laws_markResStepS a0 a1)) := by
 have hln := n0.rsl.ln
 have hle := n0.rsl.le
 refine calls_go (N := 41) (args := [v0, Value.int .i64 a1]) Tryz.func17 rfl rfl rfl ?_
 refine FW.seq (FW.region ?_)
 refine FL.v (E.assign (v := Value.int .i64 0) rfl) ?_
 refine FL.nil (FW.seq (FW.seq (FW.region ?_)))
 refine FL.v (E.assign (v := Value.int .i64 0) rfl) ?_
 refine FL.nil (FW.block ?_)
 refine FW.mono (FW.mark (F := fun y m => ((ResStep.mk ((PF.laws_markIntS y.clause m).1) ((PF.laws_markIntS y.clause m).2) (wr ((PF.laws_markIntS y.clause m).2 + 1)) (wr ((wr ((PF.laws_markIntS y.clause m).2 + 1)) + 1))), (wr ((wr ((wr ((PF.laws_markIntS y.clause m).2 + 1)) + 1)) + 1)))) (a0 := a0) (k0 := a1) (fun (i : Nat) (xs : List ResStep) (k : Int) f w => ∃ (H : GH) (c : List Value), St H0 w0 H w l ∧ Nest (up w0.heap.size H) eResStep 4 v0 xs c ∧ bl c = bl c0 ∧ (∀ b, b ∉ bl [v0] → b ∉ bl c0 → H b = Ha b) ∧ f 0 = v0 ∧ f 1 = Value.int .i64 k ∧ f 5 = Value.int .i64 ((i : Nat) : Int)) (fun e f w => e = Exit.exit 0 ∧ ∃ (H : GH) (c : List Value), St H0 w0 H w l ∧ Nest (up w0.heap.size H) eResStep 4 v0 (markFrom (fun y m => ((ResStep.mk ((PF.laws_markIntS y.clause m).1) ((PF.laws_markIntS y.clause m).2) (wr ((PF.laws_markIntS y.clause m).2 + 1)) (wr ((wr ((PF.laws_markIntS y.clause m).2 + 1)) + 1))), (wr ((wr ((wr ((PF.laws_markIntS y.clause m).2 + 1)) + 1)) + 1)))) a0 a1).1 c ∧ bl c = bl c0 ∧ (∀ b, b ∉ bl [v0] → b ∉ bl c0 → H b = Ha b) ∧ f 0 = v0 ∧ f 1 = Value.int .i64 (markFrom (fun y m => ((ResStep.mk ((PF.laws_markIntS y.clause m).1) ((PF.laws_markIntS y.clause m).2) (wr ((PF.laws_markIntS y.clause m).2 + 1)) (wr ((wr ((PF.laws_markIntS y.clause m).2 + 1)) + 1))), (wr ((wr ((wr ((PF.laws_markIntS y.clause m).2 + 1)) + 1)) + 1)))) a0 a1).2) ⟨_, _, S0, n0, rfl, fun _ _ _ => rfl, rfl, rfl, rfl⟩ ?_ ?_) ?_
 ·
  rintro i y xs m f1 w1 ⟨H1, c1, S1, n1, hb, ho, kv, kk, kc⟩ hx hy
  obtain ⟨p, hpt, wr0, hB, hr, nd⟩ := n1.begin hy (by decide)
  obtain ⟨u0, hci, hu0⟩ := eResStep_open hr
  have rd := wr0.opens hci
  refine FW.seq (FW.seq (FW.region ?_))
  refine FL.v (E.move kc) ?_
  refine FL.v (E.move kv) ?_
  refine FL.v (E.len te36 rfl hln) ?_
  refine FL.v (E.lssT rfl rfl (lss_len hx)) ?_
  refine FL.nil ?_
  refine FW.condT rfl rfl ?_
  refine FW.skip (FW.seq (FW.block (FW.seq (FW.region ?_))))
  refine FL.v (E.move kv) ?_
  refine FL.v (E.move kc) ?_
  refine FL.v (E.indexAddr te36 rfl rfl hpt) ?_
  refine FL.v (E.fieldAddr tf60_0 rfl) ?_
  refine FL.v (E.load rfl (run_load1 Tryz.isAgg50 (rd.now S1.sl) rfl)) ?_
  refine FL.v (E.move kk) ?_
  refine FL.call rfl rfl rfl (E.call Tryz.call37 (A2 rfl rfl)) (w_laws_markIntS S1 hs0 u0 y.clause hu0 m) ?_
  rintro e w22 ⟨H21, rfl, S23, h24, o25⟩
  refine ⟨_, rfl, ?_⟩
  have wr26 := rd.inner (j := 0) rfl o25
  refine FL.v (E.assign (v := Value.int .i64 ((PF.laws_markIntS y.clause m).2)) rfl) ?_
  refine FL.nil (FW.seq (FW.region ?_))
  refine FL.v (E.move kv) ?_
  refine FL.v (E.move kc) ?_
  refine FL.v (E.move (v := Value.int .i64 ((PF.laws_markIntS y.clause m).2)) rfl) ?_
  refine FL.v (E.indexAddr te36 rfl rfl hpt) ?_
  refine FL.v (E.fieldAddr tf60_1 rfl) ?_
  obtain ⟨w27, H28, run30, S29, wr31, o32⟩ := wr26.poke (P := Tryz.prog) (t := 3) (u := Value.int .i64 ((PF.laws_markIntS y.clause m).2)) S23 hs0 hB (j := 1) rfl rfl rfl Tryz.sizeOf3 rfl rfl (c2 := [u0, Value.int .i64 ((PF.laws_markIntS y.clause m).2), Value.int .i64 y.right, Value.int .i64 y.pivot]) rfl
  have h33 := wr26.kept (j := 0) rfl h24 eI_flat o32
  refine FL.act rfl rfl (E.store rfl rfl run30) ?_
  refine FL.nil (FW.seq (FW.region ?_))
  refine FL.v (E.move (v := Value.int .i64 ((PF.laws_markIntS y.clause m).2)) rfl) ?_
  refine FL.v (E.add rfl rfl) ?_
  refine FL.v (E.assign (v := Value.int .i64 (wr ((PF.laws_markIntS y.clause m).2 + 1))) rfl) ?_
  refine FL.nil (FW.seq (FW.region ?_))
  refine FL.v (E.move kv) ?_
  refine FL.v (E.move kc) ?_
  refine FL.v (E.move (v := Value.int .i64 (wr ((PF.laws_markIntS y.clause m).2 + 1))) rfl) ?_
  refine FL.v (E.indexAddr te36 rfl rfl hpt) ?_
  refine FL.v (E.fieldAddr tf60_2 rfl) ?_
  obtain ⟨w34, H35, run37, S36, wr38, o39⟩ := wr31.poke (P := Tryz.prog) (t := 3) (u := Value.int .i64 (wr ((PF.laws_markIntS y.clause m).2 + 1))) S29 hs0 hB (j := 2) rfl rfl rfl Tryz.sizeOf3 rfl rfl (c2 := [u0, Value.int .i64 ((PF.laws_markIntS y.clause m).2), Value.int .i64 (wr ((PF.laws_markIntS y.clause m).2 + 1)), Value.int .i64 y.pivot]) rfl
  have h40 := wr31.kept (j := 0) rfl h33 eI_flat o39
  refine FL.act rfl rfl (E.store rfl rfl run37) ?_
  refine FL.nil (FW.seq (FW.region ?_))
  refine FL.v (E.move (v := Value.int .i64 (wr ((PF.laws_markIntS y.clause m).2 + 1))) rfl) ?_
  refine FL.v (E.add rfl rfl) ?_
  refine FL.v (E.assign (v := Value.int .i64 (wr ((wr ((PF.laws_markIntS y.clause m).2 + 1)) + 1))) rfl) ?_
  refine FL.nil (FW.seq (FW.region ?_))
  refine FL.v (E.move kv) ?_
  refine FL.v (E.move kc) ?_
  refine FL.v (E.move (v := Value.int .i64 (wr ((wr ((PF.laws_markIntS y.clause m).2 + 1)) + 1))) rfl) ?_
  refine FL.v (E.indexAddr te36 rfl rfl hpt) ?_
  refine FL.v (E.fieldAddr tf60_3 rfl) ?_
  obtain ⟨w41, H42, run44, S43, wr45, o46⟩ := wr38.poke (P := Tryz.prog) (t := 3) (u := Value.int .i64 (wr ((wr ((PF.laws_markIntS y.clause m).2 + 1)) + 1))) S36 hs0 hB (j := 3) rfl rfl rfl Tryz.sizeOf3 rfl rfl (c2 := [u0, Value.int .i64 ((PF.laws_markIntS y.clause m).2), Value.int .i64 (wr ((PF.laws_markIntS y.clause m).2 + 1)), Value.int .i64 (wr ((wr ((PF.laws_markIntS y.clause m).2 + 1)) + 1))]) rfl
  have h47 := wr38.kept (j := 0) rfl h40 eI_flat o46
  refine FL.act rfl rfl (E.store rfl rfl run44) ?_
  refine FL.nil (FW.region ?_)
  refine FL.v (E.move (v := Value.int .i64 (wr ((wr ((PF.laws_markIntS y.clause m).2 + 1)) + 1))) rfl) ?_
  refine FL.v (E.add rfl rfl) ?_
  refine FL.v (E.assign (v := Value.int .i64 (wr ((wr ((wr ((PF.laws_markIntS y.clause m).2 + 1)) + 1)) + 1))) rfl) ?_
  refine FL.nil (FW.region ?_)
  refine FL.v (E.move kc) ?_
  refine FL.v (E.add rfl rfl) ?_
  refine FL.v (E.assign (v := Value.int .i64 (wr (((i : Nat) : Int) + 1))) rfl) ?_
  refine FL.nil ?_
  obtain ⟨c2, n2, hb2, ho2⟩ := n1.round eResStep_loc hy (by decide) hpt wr45 (y' := (ResStep.mk ((PF.laws_markIntS y.clause m).1) ((PF.laws_markIntS y.clause m).2) (wr ((PF.laws_markIntS y.clause m).2 + 1)) (wr ((wr ((PF.laws_markIntS y.clause m).2 + 1)) + 1)))) ⟨_, rfl, h47⟩
  exact ⟨rfl, _, _, S43, n2, hb2.trans hb, fun b q1 q2 => (ho2 b q1 (by rw [hb]; exact q2)).trans (ho b q1 q2), kv, rfl, nat_succ rfl (lt_of_get hx) hle⟩
 ·
  rintro f1 w1 ⟨H1, c1, S1, n1, hb, ho, kv, kk, kc⟩
  refine FW.seq (FW.seq (FW.region ?_))
  refine FL.v (E.move kc) ?_
  refine FL.v (E.move kv) ?_
  refine FL.v (E.len te36 rfl hln) ?_
  refine FL.v (E.lss rfl rfl) ?_
  refine FL.nil ?_
  refine FW.condF rfl dlt_len ?_
  refine FW.exit ?_
  exact ⟨nofun, rfl, _, _, S1, n1, hb, ho, kv, kk⟩
 ·
  rintro e f2 w2 ⟨rfl, H2, c2, S2, n2, hb, ho, kv, kk⟩
  refine FW.seq (FW.region ?_)
  refine FL.v (E.move kk) ?_
  refine FL.v (E.assign (v := Value.int .i64 ((markFrom (fun y m => ((ResStep.mk ((PF.laws_markIntS y.clause m).1) ((PF.laws_markIntS y.clause m).2) (wr ((PF.laws_markIntS y.clause m).2 + 1)) (wr ((wr ((PF.laws_markIntS y.clause m).2 + 1)) + 1))), (wr ((wr ((wr ((PF.laws_markIntS y.clause m).2 + 1)) + 1)) + 1)))) a0 a1).2)) rfl) ?_
  refine FL.nil ?_
  refine FW.ret ?_
  exact ⟨.inr rfl, res1 rfl rfl ⟨_, _, rfl, S2, n2, hb, fun b q1 q2 => weak (F := fun b => b ∉ bl [v0] ∧ b ∉ bl c0) (fun b q => ho b q.1 q.2) b ⟨q1, q2⟩⟩⟩

set_option maxHeartbeats 4000000 in
theorem w_laws_heldRecordS {Ha : GH} {wa : World} (hs : Sl Ha wa) (v0 : Value) (a0 : List Record) (p0 : RSl Ha eRecord 4 v0 a0) (a1 : Int) {r : Int} (hp : (PF.laws_heldRecordS a0 a1) = some r) :
  Calls Tryz.prog 18 #[v0, Value.int .i64 a1] wa (Sc Ha wa (Value.int .i64 r)) := by
 unfold PF.laws_heldRecordS at hp
 have S0 := St.init hs
 refine calls_go (N := 50) (args := [v0, Value.int .i64 a1]) Tryz.func18 rfl rfl rfl ?_
 refine FW.seq (FW.region ?_)
 refine FL.v (E.assign (v := Value.int .i64 0) rfl) ?_
 refine FL.nil (FW.seq (FW.seq (FW.region ?_)))
 refine FL.v (E.assign (v := Value.int .i64 0) rfl) ?_
 refine FL.nil ?_
 obtain ⟨q22, hq, hp⟩ := bndR hp
 refine FW.block ?_
 refine FW.mono (FW.forL (S := Int) (X := Int) (fun (i22 : Nat) (s22 : Int) f w => ∃ H : GH, St Ha wa H w [] ∧ Inc Ha H ∧ f 5 = Value.int .i64 ((i22 : Nat) : Int) ∧ f 0 = v0 ∧ f 1 = Value.int .i64 s22) (fun q e f w => match q with | .go s22 => e = Exit.exit 0 ∧ (∃ H : GH, St Ha wa H w [] ∧ Inc Ha H ∧ f 1 = Value.int .i64 s22) | .rt x => ((e = Exit.ret) ∧ (fun e f w => (e = Exit.normal ∨ e = Exit.ret) ∧ ∀ a, Fr (δ := []) 50 a f → ∃ v, (results Tryz.f18 a.tmps).run Tryz.prog w = .ok v w ∧ (Sc Ha wa (Value.int .i64 x)) (.returned v) w) e f w)) hq ⟨_, S0, (Inc.rfl _), rfl, rfl, rfl⟩ ?_ ?_) ?_
 ·
  clear hp hq
  rintro i22 y21 s22 f67 w66 ⟨H63, S64, i65, k68, k69, k70⟩ hx22 o103 hp
  refine FW.seq (FW.seq (FW.region ?_))
  refine FL.v (E.move k68) ?_
  refine FL.v (E.move k69) ?_
  refine FL.v (E.lenP te30 rfl p0) ?_
  refine FL.v (E.lssT rfl rfl (lss_len hx22)) ?_
  refine FL.nil ?_
  refine FW.condT rfl rfl ?_
  refine FW.skip (FW.seq (FW.block (FW.seq (FW.seq ?_))))
  refine FW.draw (fun w' => Run w66.heap.size H63 w66 H63 w') (by kernel_rfl) (by kernel_rfl) (run_drew S64.sl) ?_
  refine FD.val rfl rfl rfl (fun w' hw' => (E.move k69)) ?_
  refine FD.val rfl rfl rfl (fun w' hw' => (E.move k68)) ?_
  obtain ⟨p72, cs73, pt74, l75, at76, rel77⟩ := p0.at (ix_nat hx22)
  obtain rfl := eRecord_open rel77
  refine FD.val rfl rfl rfl (fun w' hw' => (E.indexAddr te30 rfl rfl pt74)) ?_
  refine FD.val rfl rfl rfl (fun w' hw' => (E.fieldAddr tf57_0 rfl)) ?_
  refine FD.val rfl rfl rfl (fun w' hw' => (E.load rfl (run_load1 Tryz.isAgg9 ((at76.mono i65).now (S64.call hw').sl) rfl))) ?_
  refine FD.val rfl rfl rfl (fun w' hw' => (E.move k70)) ?_
  refine FD.call rfl rfl rfl (fun w' hw' => (E.call Tryz.call35 (A1 rfl))) (fun w' hw' => Calls.cls hw' (w_laws_markText (S64.call hw').sl s22)) ?_
  refine FD.val rfl rfl rfl (fun w' hw' => (E.neqS rfl rfl)) ?_
  refine FD.nil ?_
  intro w78 r80
  have S79 := S64.call r80
  rcases ifB hp with ⟨c81, hp⟩ | ⟨c81, hp⟩
  ·
   refine FW.condT rfl c81 ?_
   refine FW.seq (FW.region ?_)
   refine FL.v (E.assign (v := Value.int .i64 (-1)) rfl) ?_
   refine FL.nil ?_
   refine FW.ret ?_
   obtain rfl := Option.some.inj hp
   exact ⟨nofun, rfl, ⟨.inr rfl, res1 rfl rfl ⟨rfl, S79.back⟩⟩⟩
  ·
   refine FW.condF rfl c81 ?_
   refine FW.skip (FW.seq (FW.region ?_))
   refine FL.v (E.move k70) ?_
   refine FL.v (E.add rfl rfl) ?_
   refine FL.v (E.assign (v := Value.int .i64 (wr (s22 + 1))) rfl) ?_
   refine FL.nil (FW.seq (FW.seq (FW.region ?_)))
   refine FL.v (E.move k69) ?_
   refine FL.v (E.move k68) ?_
   obtain ⟨p82, cs83, pt84, l85, at86, rel87⟩ := p0.at (ix_nat hx22)
   obtain rfl := eRecord_open rel87
   refine FL.v (E.indexAddr te30 rfl rfl pt84) ?_
   refine FL.v (E.fieldAddr tf57_1 rfl) ?_
   refine FL.v (E.load rfl (run_load1 Tryz.isAgg3 ((at86.mono i65).now S79.sl) rfl)) ?_
   refine FL.v (E.move (v := Value.int .i64 (wr (s22 + 1))) rfl) ?_
   refine FL.v (E.neq rfl rfl) ?_
   refine FL.nil ?_
   rcases ifB hp with ⟨c88, hp⟩ | ⟨c88, hp⟩
   ·
    refine FW.condT rfl c88 ?_
    refine FW.seq (FW.region ?_)
    refine FL.v (E.assign (v := Value.int .i64 (-1)) rfl) ?_
    refine FL.nil ?_
    refine FW.ret ?_
    obtain rfl := Option.some.inj hp
    exact ⟨nofun, rfl, ⟨.inr rfl, res1 rfl rfl ⟨rfl, S79.back⟩⟩⟩
   ·
    refine FW.condF rfl c88 ?_
    refine FW.skip (FW.seq (FW.region ?_))
    refine FL.v (E.move (v := Value.int .i64 (wr (s22 + 1))) rfl) ?_
    refine FL.v (E.add rfl rfl) ?_
    refine FL.v (E.assign (v := Value.int .i64 (wr ((wr (s22 + 1)) + 1))) rfl) ?_
    refine FL.nil (FW.seq (FW.seq (FW.region ?_)))
    refine FL.v (E.move k69) ?_
    refine FL.v (E.move k68) ?_
    obtain ⟨p89, cs90, pt91, l92, at93, rel94⟩ := p0.at (ix_nat hx22)
    obtain rfl := eRecord_open rel94
    refine FL.v (E.indexAddr te30 rfl rfl pt91) ?_
    refine FL.v (E.fieldAddr tf57_2 rfl) ?_
    refine FL.v (E.load rfl (run_load1 Tryz.isAgg3 ((at93.mono i65).now S79.sl) rfl)) ?_
    refine FL.v (E.move (v := Value.int .i64 (wr ((wr (s22 + 1)) + 1))) rfl) ?_
    refine FL.v (E.neq rfl rfl) ?_
    refine FL.nil ?_
    rcases ifB hp with ⟨c95, hp⟩ | ⟨c95, hp⟩
    ·
     refine FW.condT rfl c95 ?_
     refine FW.seq (FW.region ?_)
     refine FL.v (E.assign (v := Value.int .i64 (-1)) rfl) ?_
     refine FL.nil ?_
     refine FW.ret ?_
     obtain rfl := Option.some.inj hp
     exact ⟨nofun, rfl, ⟨.inr rfl, res1 rfl rfl ⟨rfl, S79.back⟩⟩⟩
    ·
     refine FW.condF rfl c95 ?_
     refine FW.skip (FW.seq (FW.region ?_))
     refine FL.v (E.move (v := Value.int .i64 (wr ((wr (s22 + 1)) + 1))) rfl) ?_
     refine FL.v (E.add rfl rfl) ?_
     refine FL.v (E.assign (v := Value.int .i64 (wr ((wr ((wr (s22 + 1)) + 1)) + 1))) rfl) ?_
     refine FL.nil (FW.seq (FW.seq (FW.region ?_)))
     refine FL.v (E.move k69) ?_
     refine FL.v (E.move k68) ?_
     obtain ⟨p96, cs97, pt98, l99, at100, rel101⟩ := p0.at (ix_nat hx22)
     obtain rfl := eRecord_open rel101
     refine FL.v (E.indexAddr te30 rfl rfl pt98) ?_
     refine FL.v (E.fieldAddr tf57_3 rfl) ?_
     refine FL.v (E.load rfl (run_load1 Tryz.isAgg3 ((at100.mono i65).now S79.sl) rfl)) ?_
     refine FL.v (E.move (v := Value.int .i64 (wr ((wr ((wr (s22 + 1)) + 1)) + 1))) rfl) ?_
     refine FL.v (E.neq rfl rfl) ?_
     refine FL.nil ?_
     rcases ifB hp with ⟨c102, hp⟩ | ⟨c102, hp⟩
     ·
      refine FW.condT rfl c102 ?_
      refine FW.seq (FW.region ?_)
      refine FL.v (E.assign (v := Value.int .i64 (-1)) rfl) ?_
      refine FL.nil ?_
      refine FW.ret ?_
      obtain rfl := Option.some.inj hp
      exact ⟨nofun, rfl, ⟨.inr rfl, res1 rfl rfl ⟨rfl, S79.back⟩⟩⟩
     ·
      refine FW.condF rfl c102 ?_
      refine FW.skip (FW.region ?_)
      refine FL.v (E.move (v := Value.int .i64 (wr ((wr ((wr (s22 + 1)) + 1)) + 1))) rfl) ?_
      refine FL.v (E.add rfl rfl) ?_
      refine FL.v (E.assign (v := Value.int .i64 (wr ((wr ((wr ((wr (s22 + 1)) + 1)) + 1)) + 1))) rfl) ?_
      refine FL.nil (FW.region ?_)
      refine FL.v (E.move k68) ?_
      refine FL.v (E.add rfl rfl) ?_
      refine FL.v (E.assign (v := Value.int .i64 (wr (((i22 : Nat) : Int) + 1))) rfl) ?_
      refine FL.nil ?_
      obtain rfl := Option.some.inj hp
      exact ⟨rfl, ⟨_, S79, i65, (nat_succ rfl (lt_of_get hx22) (p0.mono i65).le), k69, rfl⟩⟩
 ·
  clear hp hq
  rintro s22 f114 w113 ⟨H110, S111, i112, k115, k116, k117⟩
  refine FW.seq (FW.seq (FW.region ?_))
  refine FL.v (E.move k115) ?_
  refine FL.v (E.move k116) ?_
  refine FL.v (E.lenP te30 rfl p0) ?_
  refine FL.v (E.lss rfl rfl) ?_
  refine FL.nil ?_
  refine FW.condF rfl dlt_len ?_
  refine FW.exit ?_
  exact ⟨nofun, rfl, ⟨_, S111, i112, k117⟩⟩
 ·
  clear hq
  intro e f108 w107 hD
  rcases q22 with s22 | x22
  ·
   obtain ⟨rfl, hD⟩ := hD
   obtain ⟨H104, S105, i106, k109⟩ := hD
   replace hp := el_go hp
   refine FW.seq (FW.region ?_)
   refine FL.v (E.move k109) ?_
   refine FL.v (E.assign (v := Value.int .i64 s22) rfl) ?_
   refine FL.nil ?_
   refine FW.ret ?_
   obtain rfl := Option.some.inj hp
   exact ⟨.inr rfl, res1 rfl rfl ⟨rfl, S105.back⟩⟩
  ·
   obtain ⟨he, hL⟩ := hD
   replace hp := el_rt hp
   obtain rfl := Option.some.inj hp
   subst he
   exact hL

set_option maxHeartbeats 4000000 in
theorem w_laws_FnExactEnterResolution {Ha : GH} {wa : World} (hs : Sl Ha wa) (v0 : Value) (a0 : List Record) (p0 : RSl Ha eRecord 4 v0 a0) (a1 : ByteArray) (a2 : Cnf) (v2_1 : Value) (p2_1 : RSl Ha (eL eI 1) 1 v2_1 a2.clauses) (v3 : Value) (a3 : List ResStep) (p3 : RSl Ha eResStep 4 v3 a3) {ea : Addr} (hT : TabE 0 152 ea Ha) {r : Bool} (hp : (PF.laws_FnExactEnterResolution a0 a1 a2 a3) = some r) :
  Calls Tryz.prog 3 #[v0, Value.string a1, Value.agg #[Value.int .i64 a2.vars, v2_1], v3] wa (Sc Ha wa (Value.bool r)) := by
 unfold PF.laws_FnExactEnterResolution at hp
 have S0 := St.init hs
 refine calls_go (N := 150) (args := [v0, Value.string a1, Value.agg #[Value.int .i64 a2.vars, v2_1], v3]) Tryz.func3 rfl rfl rfl ?_
 refine FW.seq (FW.region ?_)
 obtain ⟨w21, run22, S23, z24⟩ := S0.boxB (P := Tryz.prog) 25 [Value.int .i64 a2.vars, v2_1] (v := Value.agg #[Value.int .i64 a2.vars, v2_1]) rfl (ones_cons rfl (ones_cons p2_1.one ones_nil))
 refine FL.v (E.box rfl run22) ?_
 obtain ⟨H25, S26, i27, at28⟩ := S23.sealBoxB (i := 0) (l' := []) rfl rfl
 refine FL.v (E.assign (v := Value.bool false) rfl) ?_
 refine FL.nil (FW.seq (FW.seq (FW.region ?_)))
 refine FL.v (E.move (v := Value.string a1) rfl) ?_
 refine FL.v (E.lenS Tryz.runUnderlying9 rfl) ?_
 refine FL.v (E.gtr rfl rfl) ?_
 refine FL.nil ?_
 rcases ifB hp with ⟨c29, hp⟩ | ⟨c29, hp⟩
 ·
  refine FW.condT rfl c29 ?_
  refine FW.seq (FW.region ?_)
  refine FL.v (E.assign (v := Value.bool true) rfl) ?_
  refine FL.nil ?_
  refine FW.ret ?_
  obtain rfl := Option.some.inj hp
  exact ⟨.inr rfl, res1 rfl rfl ⟨rfl, S26.back⟩⟩
 ·
  refine FW.condF rfl c29 ?_
  refine FW.skip (FW.seq (FW.region ?_))
  refine FL.v (E.assign (v := Value.int .i64 1048576) rfl) ?_
  refine FL.nil (FW.seq (FW.region ?_))
  refine FL.v (E.move (v := v0) rfl) ?_
  refine FL.v (E.move (v := Value.int .i64 1048576) rfl) ?_
  obtain ⟨r30, hr31, hp⟩ := bnd hp
  refine FL.call rfl rfl rfl (E.call Tryz.call4 (A2 rfl rfl)) (w_laws_szRecordS S26.sl v0 a0 (p0.mono i27) 1048576 hr31) ?_
  rintro e w32 ⟨rfl, r33⟩
  refine ⟨_, rfl, ?_⟩
  have S34 := S26.call r33
  have z35 := r33.bel.size
  refine FL.v (E.assign (v := Value.int .i64 r30) rfl) ?_
  refine FL.nil (FW.seq (FW.seq (FW.region ?_)))
  refine FL.v (E.move (v := Value.int .i64 r30) rfl) ?_
  refine FL.v (E.lss rfl rfl) ?_
  refine FL.nil ?_
  rcases ifB hp with ⟨c36, hp⟩ | ⟨c36, hp⟩
  ·
   refine FW.condT rfl c36 ?_
   refine FW.seq (FW.region ?_)
   refine FL.v (E.assign (v := Value.bool true) rfl) ?_
   refine FL.nil ?_
   refine FW.ret ?_
   obtain rfl := Option.some.inj hp
   exact ⟨.inr rfl, res1 rfl rfl ⟨rfl, S34.back⟩⟩
  ·
   refine FW.condF rfl c36 ?_
   refine FW.skip (FW.seq (FW.region ?_))
   refine FL.v (E.load rfl (run_loadA Tryz.isAgg25 Tryz.sizeOf25 ((at28.mono sgI).now S34.sl) rfl)) ?_
   refine FL.v (E.move (v := Value.int .i64 r30) rfl) ?_
   obtain ⟨r37, hr38, hp⟩ := bnd hp
   refine FL.call rfl rfl rfl (E.call Tryz.call5 (A2 rfl rfl)) (w_laws_szCnf S34.sl a2 v2_1 (p2_1.mono i27) r30 hr38) ?_
   rintro e w39 ⟨rfl, r40⟩
   refine ⟨_, rfl, ?_⟩
   have S41 := S34.call r40
   have z42 := r40.bel.size
   refine FL.v (E.assign (v := Value.int .i64 r37) rfl) ?_
   refine FL.nil (FW.seq (FW.seq (FW.region ?_)))
   refine FL.v (E.move (v := Value.int .i64 r37) rfl) ?_
   refine FL.v (E.lss rfl rfl) ?_
   refine FL.nil ?_
   rcases ifB hp with ⟨c43, hp⟩ | ⟨c43, hp⟩
   ·
    refine FW.condT rfl c43 ?_
    refine FW.seq (FW.region ?_)
    refine FL.v (E.assign (v := Value.bool true) rfl) ?_
    refine FL.nil ?_
    refine FW.ret ?_
    obtain rfl := Option.some.inj hp
    exact ⟨.inr rfl, res1 rfl rfl ⟨rfl, S41.back⟩⟩
   ·
    refine FW.condF rfl c43 ?_
    refine FW.skip (FW.seq (FW.region ?_))
    refine FL.v (E.move (v := v3) rfl) ?_
    refine FL.v (E.move (v := Value.int .i64 r37) rfl) ?_
    obtain ⟨r44, hr45, hp⟩ := bnd hp
    refine FL.call rfl rfl rfl (E.call Tryz.call6 (A2 rfl rfl)) (w_laws_szResStepS S41.sl v3 a3 (p3.mono i27) r37 hr45) ?_
    rintro e w46 ⟨rfl, r47⟩
    refine ⟨_, rfl, ?_⟩
    have S48 := S41.call r47
    have z49 := r47.bel.size
    refine FL.v (E.assign (v := Value.int .i64 r44) rfl) ?_
    refine FL.nil (FW.seq (FW.seq (FW.region ?_)))
    refine FL.v (E.move (v := Value.int .i64 r44) rfl) ?_
    refine FL.v (E.lss rfl rfl) ?_
    refine FL.nil ?_
    rcases ifB hp with ⟨c50, hp⟩ | ⟨c50, hp⟩
    ·
     refine FW.condT rfl c50 ?_
     refine FW.seq (FW.region ?_)
     refine FL.v (E.assign (v := Value.bool true) rfl) ?_
     refine FL.nil ?_
     refine FW.ret ?_
     obtain rfl := Option.some.inj hp
     exact ⟨.inr rfl, res1 rfl rfl ⟨rfl, S48.back⟩⟩
    ·
     refine FW.condF rfl c50 ?_
     refine FW.skip (FW.seq ?_)
     obtain ⟨r54, hr55, hp⟩ := bnd hp
     obtain ⟨r70, hr71, hp⟩ := bnd hp
     obtain ⟨r83, hr84, hp⟩ := bnd hp
     obtain ⟨r102, hr103, hp⟩ := bnd hp
     refine FW.drawB (Sl H25) (fun f w => ∃ H : GH, ∃ v118 : Value, St Ha wa H w [] ∧ Inc H25 H ∧ RSl H eRecord 4 v118 r102.1 ∧ f 0 = v0 ∧ f 1 = Value.string a1 ∧ f 3 = v3 ∧ f 6 = Value.pointer (some ⟨wa.heap.size, 0, none⟩) ∧ f 10 = v118 ∧ f 11 = Value.bool r102.2) (by kernel_rfl) S48.sl ?_ ?_
     ·
      intro w51 r52
      have S53 := S48.call r52
      refine FB.t (i := 0) (bs 13 1) rfl (SP.nil S53.sl) rfl (fun w' hw' => (E.move (v := v0) rfl)) ?_
      refine FB.t (i := 2) (bs 13 5) rfl (SP.nil S53.sl) rfl (fun w' hw' => (E.move (v := Value.string a1) rfl)) ?_
      refine FB.t (i := 3) (bs 13 13) rfl (SP.nil S53.sl) rfl (fun w' hw' => (E.load rfl (run_loadA Tryz.isAgg25 Tryz.sizeOf25 ((at28.mono sgI).now hw') rfl))) ?_
      refine FB.t (i := 5) (bs 13 45) rfl (SP.nil S53.sl) rfl (fun w' hw' => (E.move (v := v3) rfl)) ?_
      refine FB.all1 (i := 1) (by kernel_rfl) ?_
      ·
       refine FC.call (l' := (bs 13 47)) rfl (by kernel_rfl) rfl rfl rfl (E.call Tryz.call8 (A1 rfl)) (w_laws_toRecordS S53.sl v0 a0 (p0.mono i27) hr55) ?_
       rintro e w57 ⟨H56, v60, n61, cs62, rfl, r59, els63⟩
       refine ⟨_, rfl, ?_⟩
       obtain ⟨H64, r65, i66, h67, nv68⟩ := r59.sealRowU (i := 0) (l' := []) rfl els63 (by decide) rfl
       have S58 := S53.call r65.run
       have z69 := r65.run.bel.size
       have h67 := h67.mono (sg_of S58.sl)
       refine ⟨(SP.nil (Sl.of_inc r65.run.inc S58.sl)), ?_⟩
       refine FB.all1 (i := 4) (by kernel_rfl) ?_
       ·
        refine FC.call (l' := (bs 13 63)) rfl (by kernel_rfl) rfl rfl rfl (E.call Tryz.call9 (A1 rfl)) (w_laws_toCnf S58.sl a2 v2_1 (p2_1.mono (i27.tr r65.run.inc)) hr71) ?_
        rintro e w73 ⟨H72, v76, rfl, r75, ⟨c79, ns78⟩⟩
        refine ⟨_, rfl, ?_⟩
        have h77 := ns78.rsl
        have nv80 : New H64 c79 := New.of_up S58.sl (fun b hb => ns78.dom b (.inr hb))
        have nv81 : New H64 [v76] := New.of_up S58.sl h77.dom
        have S74 := S58.call r75
        have z82 := r75.bel.size
        have h77 := h77.mono (sg_of S74.sl)
        have ns78 := ns78.mono (sg_of S74.sl)
        refine ⟨(SP.nil (Sl.of_inc (r65.run.inc.tr r75.inc) S74.sl)), ?_⟩
        refine FB.all1 (i := 6) (by kernel_rfl) ?_
        ·
         refine FC.call (l' := (bs 13 127)) rfl (by kernel_rfl) rfl rfl rfl (E.call Tryz.call10 (A1 rfl)) (w_laws_toResStepS S74.sl v3 a3 (p3.mono ((i27.tr r65.run.inc).tr r75.inc)) hr84) ?_
         rintro e w86 ⟨H85, v89, n90, cs91, rfl, r88, els92, nd93⟩
         refine ⟨_, rfl, ?_⟩
         have nv94 : New H72 cs91 := New.of_up S74.sl els92.dom
         obtain ⟨H95, r96, i97, ns100, nv99⟩ := r88.sealRowN (i := 0) (l' := []) rfl els92 nd93 (by decide) rfl
         have h98 := ns100.rsl
         have S87 := S74.call r96.run
         have z101 := r96.run.bel.size
         have h98 := h98.mono (sg_of S87.sl)
         have ns100 := ns100.mono (sg_of S87.sl)
         refine ⟨(SP.nil (Sl.of_inc ((r65.run.inc.tr r75.inc).tr r96.run.inc) S87.sl)), ?_⟩
         refine FB.all1 (i := 7) (by kernel_rfl) ?_
         ·
          refine FC.call (l' := (bs 13 255)) rfl (by kernel_rfl) rfl rfl rfl (E.call Tryz.call7 (A4 rfl rfl rfl rfl)) (w_spec_EnterResolution S87.sl v60 r54 (h67.mono (sgI.tr (r75.inc.tr r96.run.inc))) a1 r70 v76 (h77.mono (sgI.tr r96.run.inc)) v89 r83 (h98.mono sgI) hr103) ?_
          rintro e w105 ⟨H104, v108, n109, cs110, rfl, r107, els111⟩
          refine ⟨_, rfl, ?_⟩
          obtain ⟨H112, r113, i114, h115, nv116⟩ := r107.sealRowU (i := 0) (l' := []) rfl els111 (by decide) rfl
          have S106 := S87.call r113.run
          have z117 := r113.run.bel.size
          have h115 := h115.mono (sg_of S106.sl)
          refine ⟨(SP.nil (Sl.of_inc (((r65.run.inc.tr r75.inc).tr r96.run.inc).tr r113.run.inc) S106.sl)), ?_⟩
          refine FB.t (i := 8) (bs 13 511) rfl (SP.nil (Sl.of_inc (((r65.run.inc.tr r75.inc).tr r96.run.inc).tr r113.run.inc) S106.sl)) rfl (fun w' hw' => (E.move (v := Value.tuple #[v108, Value.bool r102.2]) rfl)) ?_
          refine FB.t (i := 9) (bs 13 1023) rfl (SP.nil (Sl.of_inc (((r65.run.inc.tr r75.inc).tr r96.run.inc).tr r113.run.inc) S106.sl)) rfl (fun w' hw' => (E.extract (i := 0) rfl rfl)) ?_
          refine FB.t (i := 10) (bs 13 2047) rfl (SP.nil (Sl.of_inc (((r65.run.inc.tr r75.inc).tr r96.run.inc).tr r113.run.inc) S106.sl)) rfl (fun w' hw' => (E.extract (i := 1) rfl rfl)) ?_
          refine FB.t (i := 11) (bs 13 4095) rfl (SP.nil (Sl.of_inc (((r65.run.inc.tr r75.inc).tr r96.run.inc).tr r113.run.inc) S106.sl)) rfl (fun w' hw' => (E.assign (v := v108) rfl)) ?_
          refine FB.t (i := 12) (bs 13 8191) rfl (SP.nil (Sl.of_inc (((r65.run.inc.tr r75.inc).tr r96.run.inc).tr r113.run.inc) S106.sl)) rfl (fun w' hw' => (E.assign (v := Value.bool r102.2) rfl)) ?_
          exact FB.done (by kernel_rfl) ⟨_, _, S106, (((r65.run.inc.tr r75.inc).tr r96.run.inc).tr r113.run.inc), (h115.mono sgI), rfl, rfl, rfl, rfl, rfl, rfl⟩
     ·
      rintro f124 w123 ⟨H120, v118, S121, i122, h119, k125, k126, k127, k128, k129, k130⟩
      have at131 := (at28.mono (sgI.tr i122)).mono (bw_of S121.sl)
      have h119 := h119.mono (bw_of S121.sl)
      have z132 := S121.size
      refine FW.seq (FW.region ?_)
      refine FL.v (E.move k125) ?_
      obtain ⟨r133, hr134, hp⟩ := bnd hp
      refine FL.call rfl rfl rfl (E.call Tryz.call8 (A1 rfl)) (w_laws_toRecordS S121.sl v0 a0 (p0.mono (i27.tr i122)) hr134) ?_
      rintro e w136 ⟨H135, v139, n140, cs141, rfl, r138, els142⟩
      refine ⟨_, rfl, ?_⟩
      obtain ⟨H143, r144, i145, h146, nv147⟩ := r138.sealRowU (i := 0) (l' := []) rfl els142 (by decide) rfl
      have S137 := S121.call r144.run
      have z148 := r144.run.bel.size
      have h146 := h146.mono (sg_of S137.sl)
      refine FL.v (E.assign (v := v139) rfl) ?_
      refine FL.nil (FW.seq (FW.region ?_))
      refine FL.v (E.load k128 (run_loadA Tryz.isAgg25 Tryz.sizeOf25 ((at131.mono (bwI.tr r144.run.inc)).now S137.sl) rfl)) ?_
      obtain ⟨r149, hr150, hp⟩ := bnd hp
      refine FL.call rfl rfl rfl (E.call Tryz.call9 (A1 rfl)) (w_laws_toCnf S137.sl a2 v2_1 (p2_1.mono ((i27.tr i122).tr r144.run.inc)) hr150) ?_
      rintro e w152 ⟨H151, v155, rfl, r154, ⟨c158, ns157⟩⟩
      refine ⟨_, rfl, ?_⟩
      have h156 := ns157.rsl
      have nv159 : New H143 c158 := New.of_up S137.sl (fun b hb => ns157.dom b (.inr hb))
      have nv160 : New H143 [v155] := New.of_up S137.sl h156.dom
      have S153 := S137.call r154
      have z161 := r154.bel.size
      have h156 := h156.mono (sg_of S153.sl)
      have ns157 := ns157.mono (sg_of S153.sl)
      obtain ⟨w162, run163, S164, z165⟩ := S153.allocB (P := Tryz.prog) 34 [Value.int .i64 0, Value.slice none 0 0] Tryz.zeroValue34 rfl (ones_cons rfl (ones_cons rfl ones_nil))
      refine FL.v (E.alloc run163) ?_
      obtain ⟨w166, run167, S168, z169⟩ := S164.store0B (P := Tryz.prog) (t := 34) (i := 0) (cs' := [Value.int .i64 r149.vars, v155]) (l' := [.box w152.heap.size 34 [Value.int .i64 r149.vars, v155]]) (v := Value.agg #[Value.int .i64 r149.vars, v155]) (c := [Value.int .i64 r149.vars, v155]) rfl Tryz.sizeOf34 rfl rfl (ones_cons rfl (ones_cons h156.one ones_nil)) (Nat.le_of_ble_eq_true rfl) rfl rfl
      refine FL.act rfl rfl (E.store rfl rfl run167) ?_
      obtain ⟨H170, S171, i172, at173⟩ := S168.sealBoxB (i := 0) (l' := []) rfl rfl
      refine FL.nil (FW.seq (FW.region ?_))
      refine FL.v (E.move k127) ?_
      obtain ⟨r174, hr175, hp⟩ := bnd hp
      refine FL.call rfl rfl rfl (E.call Tryz.call10 (A1 rfl)) (w_laws_toResStepS S171.sl v3 a3 (p3.mono ((((i27.tr i122).tr r144.run.inc).tr r154.inc).tr i172)) hr175) ?_
      rintro e w177 ⟨H176, v180, n181, cs182, rfl, r179, els183, nd184⟩
      refine ⟨_, rfl, ?_⟩
      have nv185 : New H170 cs182 := New.of_up S171.sl els183.dom
      obtain ⟨H186, r187, i188, ns191, nv190⟩ := r179.sealRowN (i := 0) (l' := []) rfl els183 nd184 (by decide) rfl
      have h189 := ns191.rsl
      have S178 := S171.call r187.run
      have z192 := r187.run.bel.size
      have h189 := h189.mono (sg_of S178.sl)
      have ns191 := ns191.mono (sg_of S178.sl)
      refine FL.v (E.assign (v := v180) rfl) ?_
      refine FL.nil (FW.seq (FW.region ?_))
      refine FL.v (E.move (v := v139) rfl) ?_
      refine FL.v (E.move k126) ?_
      refine FL.v (E.load rfl (run_loadA Tryz.isAgg34 Tryz.sizeOf34 ((at173.mono (sgI.tr r187.run.inc)).now S178.sl) rfl)) ?_
      refine FL.v (E.move (v := v180) rfl) ?_
      obtain ⟨r193, hr194, hp⟩ := bnd hp
      refine FL.call rfl rfl rfl (E.call Tryz.call11 (A4 rfl rfl rfl rfl)) (w_impl_EnterResolution S178.sl v139 r133 (h146.mono (sgI.tr ((r154.inc.tr i172).tr r187.run.inc))) a1 r149 v155 (h156.mono (sgI.tr (i172.tr r187.run.inc))) v180 r174 (h189.mono sgI) (hT.mono (((((i27.tr i122).tr r144.run.inc).tr r154.inc).tr i172).tr r187.run.inc)) hr194) ?_
      rintro e w196 ⟨H195, v199, n200, cs201, rfl, r198, els202⟩
      refine ⟨_, rfl, ?_⟩
      obtain ⟨H203, r204, i205, h206, nv207⟩ := r198.sealRowU (i := 0) (l' := []) rfl els202 (by decide) rfl
      have S197 := S178.call r204.run
      have z208 := r204.run.bel.size
      have h206 := h206.mono (sg_of S197.sl)
      refine FL.v (E.move (v := Value.tuple #[v199, Value.bool r193.2]) rfl) ?_
      refine FL.v (E.extract (i := 0) rfl rfl) ?_
      refine FL.v (E.extract (i := 1) rfl rfl) ?_
      refine FL.v (E.assign (v := v199) rfl) ?_
      refine FL.v (E.assign (v := Value.bool r193.2) rfl) ?_
      refine FL.nil (FW.seq (FW.seq (FW.region ?_)))
      refine FL.v (E.move (v := v199) rfl) ?_
      refine FL.v (E.move k129) ?_
      obtain ⟨r209, hr210, hp⟩ := bnd hp
      refine FL.call rfl rfl rfl (E.call Tryz.call12 (A2 rfl rfl)) (w_laws_eqRecordS S197.sl v199 r193.1 (h206.mono sgI) v118 r102.1 (h119.mono (bwI.tr ((((r144.run.inc.tr r154.inc).tr i172).tr r187.run.inc).tr r204.run.inc))) hr210) ?_
      rintro e w211 ⟨rfl, r212⟩
      refine ⟨_, rfl, ?_⟩
      have S213 := S197.call r212
      have z214 := r212.bel.size
      refine FL.v (E.not rfl) ?_
      refine FL.v (E.move (v := Value.bool (!r209)) rfl) ?_
      refine FL.cut 4 (fun f w => ∃ H : GH, St Ha wa H w [] ∧ Inc H203 H ∧ f 0 = v0 ∧ f 1 = Value.string a1 ∧ f 3 = v3 ∧ f 6 = Value.pointer (some ⟨wa.heap.size, 0, none⟩) ∧ f 10 = v118 ∧ f 11 = Value.bool r102.2 ∧ f 12 = v139 ∧ f 13 = Value.pointer (some ⟨w152.heap.size, 0, none⟩) ∧ f 14 = v180 ∧ f 15 = v199 ∧ f 16 = Value.bool r193.2 ∧ f 73 = Value.bool (bif (!r209) then true else (!(r193.2 == r102.2)))) ?_ ?_
      ·
       rcases bcase (!r209) with c220 | c220
       ·
        refine FL.skip (wF_no rfl rfl rfl c220) rfl ?_
        refine FL.skip (wF_no rfl rfl rfl c220) rfl ?_
        refine FL.skip (wF_no rfl rfl rfl c220) rfl ?_
        refine FL.v (E.pickT rfl c220 rfl) ?_
        exact FL.nil ⟨rfl, _, S213, (Inc.rfl _), k125, k126, k127, k128, k129, k130, rfl, rfl, rfl, rfl, rfl, (congrArg Value.bool (bifT c220).symm)⟩
       ·
        refine FL.val (wF_yes rfl rfl rfl c220) rfl rfl (E.move (v := Value.bool r193.2) rfl) ?_
        refine FL.val (wF_yes rfl rfl rfl c220) rfl rfl (E.move k130) ?_
        refine FL.val (wF_yes rfl rfl rfl c220) rfl rfl (E.neqB Tryz.runUnderlying4 rfl rfl) ?_
        refine FL.v (E.pickF rfl c220 rfl) ?_
        exact FL.nil ⟨rfl, _, S213, (Inc.rfl _), k125, k126, k127, k128, k129, k130, rfl, rfl, rfl, rfl, rfl, (congrArg Value.bool (bifF c220).symm)⟩
      rintro f219 w218 ⟨H215, S216, i217, k221, k222, k223, k224, k225, k226, k227, k228, k229, k230, k231, k232⟩
      refine FL.nil ?_
      rcases ifB hp with ⟨c233, hp⟩ | ⟨c233, hp⟩
      ·
       refine FW.condT k232 c233 ?_
       refine FW.seq (FW.region ?_)
       refine FL.v (E.assign (v := Value.bool false) rfl) ?_
       refine FL.nil ?_
       refine FW.ret ?_
       obtain rfl := Option.some.inj hp
       exact ⟨.inr rfl, res1 rfl rfl ⟨rfl, S216.back⟩⟩
      ·
       refine FW.condF k232 c233 ?_
       refine FW.skip (FW.seq (FW.seq (FW.region ?_)))
       refine FL.v (E.move k227) ?_
       refine FL.v (E.move k221) ?_
       obtain ⟨r234, hr235, hp⟩ := bnd hp
       refine FL.call rfl rfl rfl (E.call Tryz.call8 (A1 rfl)) (w_laws_toRecordS S216.sl v0 a0 (p0.mono (((((((i27.tr i122).tr r144.run.inc).tr r154.inc).tr i172).tr r187.run.inc).tr r204.run.inc).tr i217)) hr235) ?_
       rintro e w237 ⟨H236, v240, n241, cs242, rfl, r239, els243⟩
       refine ⟨_, rfl, ?_⟩
       obtain ⟨H244, r245, i246, h247, nv248⟩ := r239.sealRowU (i := 0) (l' := []) rfl els243 (by decide) rfl
       have S238 := S216.call r245.run
       have z249 := r245.run.bel.size
       have h247 := h247.mono (sg_of S238.sl)
       obtain ⟨r250, hr251, hp⟩ := bnd hp
       refine FL.call rfl rfl rfl (E.call Tryz.call12 (A2 rfl rfl)) (w_laws_eqRecordS S238.sl v139 r133 (h146.mono (sgI.tr (((((r154.inc.tr i172).tr r187.run.inc).tr r204.run.inc).tr i217).tr r245.run.inc))) v240 r234 (h247.mono sgI) hr251) ?_
       rintro e w252 ⟨rfl, r253⟩
       refine ⟨_, rfl, ?_⟩
       have S254 := S238.call r253
       have z255 := r253.bel.size
       refine FL.v (E.not rfl) ?_
       refine FL.nil ?_
       rcases ifB hp with ⟨c256, hp⟩ | ⟨c256, hp⟩
       ·
        refine FW.condT rfl c256 ?_
        refine FW.seq (FW.region ?_)
        refine FL.v (E.assign (v := Value.bool false) rfl) ?_
        refine FL.nil ?_
        refine FW.ret ?_
        obtain rfl := Option.some.inj hp
        exact ⟨.inr rfl, res1 rfl rfl ⟨rfl, S254.back⟩⟩
       ·
        refine FW.condF rfl c256 ?_
        refine FW.skip (FW.seq (FW.seq ?_))
        obtain ⟨r260, hr261, hp⟩ := bnd hp
        obtain ⟨r273, hr274, hp⟩ := bnd hp
        refine FW.drawB (Sl H244) (fun f w => ∃ H : GH, St Ha wa H w [] ∧ Inc H244 H ∧ f 0 = v0 ∧ f 1 = Value.string a1 ∧ f 3 = v3 ∧ f 6 = Value.pointer (some ⟨wa.heap.size, 0, none⟩) ∧ f 10 = v118 ∧ f 11 = Value.bool r102.2 ∧ f 12 = v139 ∧ f 13 = Value.pointer (some ⟨w152.heap.size, 0, none⟩) ∧ f 14 = v180 ∧ f 15 = v199 ∧ f 16 = Value.bool r193.2 ∧ f 83 = Value.bool (!r273)) (by kernel_rfl) S254.sl ?_ ?_
        ·
         intro w257 r258
         have S259 := S254.call r258
         refine FB.t (i := 0) (bs 5 1) rfl (SP.nil S259.sl) rfl (fun w' hw' => (E.load k228 (run_loadA Tryz.isAgg34 Tryz.sizeOf34 ((at173.mono (sgI.tr (((r187.run.inc.tr r204.run.inc).tr i217).tr r245.run.inc))).now hw') rfl))) ?_
         refine FB.t (i := 1) (bs 5 3) rfl (SP.nil S259.sl) rfl (fun w' hw' => (E.load k224 (run_loadA Tryz.isAgg25 Tryz.sizeOf25 ((at131.mono (bwI.tr ((((((r144.run.inc.tr r154.inc).tr i172).tr r187.run.inc).tr r204.run.inc).tr i217).tr r245.run.inc))).now hw') rfl))) ?_
         refine FB.all1 (i := 2) (by kernel_rfl) ?_
         ·
          refine FC.call (l' := (bs 5 7)) rfl (by kernel_rfl) rfl rfl rfl (E.call Tryz.call9 (A1 rfl)) (w_laws_toCnf S259.sl a2 v2_1 (p2_1.mono ((((((((i27.tr i122).tr r144.run.inc).tr r154.inc).tr i172).tr r187.run.inc).tr r204.run.inc).tr i217).tr r245.run.inc)) hr261) ?_
          rintro e w263 ⟨H262, v266, rfl, r265, ⟨c269, ns268⟩⟩
          refine ⟨_, rfl, ?_⟩
          have h267 := ns268.rsl
          have nv270 : New H244 c269 := New.of_up S259.sl (fun b hb => ns268.dom b (.inr hb))
          have nv271 : New H244 [v266] := New.of_up S259.sl h267.dom
          have S264 := S259.call r265
          have z272 := r265.bel.size
          have h267 := h267.mono (sg_of S264.sl)
          have ns268 := ns268.mono (sg_of S264.sl)
          refine ⟨(SP.nil (Sl.of_inc r265.inc S264.sl)), ?_⟩
          refine FB.all1 (i := 3) (by kernel_rfl) ?_
          ·
           refine FC.call (l' := (bs 5 15)) rfl (by kernel_rfl) rfl rfl rfl (E.call Tryz.call13 (A2 rfl rfl)) (w_laws_eqCnf S264.sl r149 v155 (h156.mono (sgI.tr (((((i172.tr r187.run.inc).tr r204.run.inc).tr i217).tr r245.run.inc).tr r265.inc))) r260 v266 (h267.mono sgI) hr274) ?_
           rintro e w275 ⟨rfl, r276⟩
           refine ⟨_, rfl, ?_⟩
           have S277 := S264.call r276
           have z278 := r276.bel.size
           refine ⟨(SP.nil (Sl.of_inc r265.inc S277.sl)), ?_⟩
           refine FB.t (i := 4) (bs 5 31) rfl (SP.nil (Sl.of_inc r265.inc S277.sl)) rfl (fun w' hw' => (E.not rfl)) ?_
           exact FB.done (by kernel_rfl) ⟨_, S277, r265.inc, k221, k222, k223, k224, k225, k226, k227, k228, k229, k230, k231, rfl⟩
        ·
         rintro f283 w282 ⟨H279, S280, i281, k284, k285, k286, k287, k288, k289, k290, k291, k292, k293, k294, k295⟩
         rcases ifB hp with ⟨c296, hp⟩ | ⟨c296, hp⟩
         ·
          refine FW.condT k295 c296 ?_
          refine FW.seq (FW.region ?_)
          refine FL.v (E.assign (v := Value.bool false) rfl) ?_
          refine FL.nil ?_
          refine FW.ret ?_
          obtain rfl := Option.some.inj hp
          exact ⟨.inr rfl, res1 rfl rfl ⟨rfl, S280.back⟩⟩
         ·
          refine FW.condF k295 c296 ?_
          refine FW.skip (FW.seq (FW.seq (FW.region ?_)))
          refine FL.v (E.move k292) ?_
          refine FL.v (E.move k286) ?_
          obtain ⟨r297, hr298, hp⟩ := bnd hp
          refine FL.call rfl rfl rfl (E.call Tryz.call10 (A1 rfl)) (w_laws_toResStepS S280.sl v3 a3 (p3.mono (((((((((i27.tr i122).tr r144.run.inc).tr r154.inc).tr i172).tr r187.run.inc).tr r204.run.inc).tr i217).tr r245.run.inc).tr i281)) hr298) ?_
          rintro e w300 ⟨H299, v303, n304, cs305, rfl, r302, els306, nd307⟩
          refine ⟨_, rfl, ?_⟩
          have nv308 : New H279 cs305 := New.of_up S280.sl els306.dom
          obtain ⟨H309, r310, i311, ns314, nv313⟩ := r302.sealRowN (i := 0) (l' := []) rfl els306 nd307 (by decide) rfl
          have h312 := ns314.rsl
          have S301 := S280.call r310.run
          have z315 := r310.run.bel.size
          have h312 := h312.mono (sg_of S301.sl)
          have ns314 := ns314.mono (sg_of S301.sl)
          obtain ⟨r316, hr317, hp⟩ := bnd hp
          refine FL.call rfl rfl rfl (E.call Tryz.call14 (A2 rfl rfl)) (w_laws_eqResStepS S301.sl v180 r174 (h189.mono (sgI.tr ((((r204.run.inc.tr i217).tr r245.run.inc).tr i281).tr r310.run.inc))) v303 r297 (h312.mono sgI) hr317) ?_
          rintro e w318 ⟨rfl, r319⟩
          refine ⟨_, rfl, ?_⟩
          have S320 := S301.call r319
          have z321 := r319.bel.size
          refine FL.v (E.not rfl) ?_
          refine FL.nil ?_
          rcases ifB hp with ⟨c322, hp⟩ | ⟨c322, hp⟩
          ·
           refine FW.condT rfl c322 ?_
           refine FW.seq (FW.region ?_)
           refine FL.v (E.assign (v := Value.bool false) rfl) ?_
           refine FL.nil ?_
           refine FW.ret ?_
           obtain rfl := Option.some.inj hp
           exact ⟨.inr rfl, res1 rfl rfl ⟨rfl, S320.back⟩⟩
          ·
           refine FW.condF rfl c322 ?_
           refine FW.skip (FW.seq (FW.region ?_))
           refine FL.v (E.assign (v := Value.int .i64 1) rfl) ?_
           refine FL.nil (FW.seq (FW.region ?_))
           refine FL.v (E.move k290) ?_
           refine FL.v (E.move (v := Value.int .i64 1) rfl) ?_
           refine FL.call rfl rfl rfl (E.call Tryz.call15 (A2 rfl rfl)) (w_laws_markRecordS S320 hs v139 r133 (h146.mono (sg_up (by omega) (((((((r154.inc.tr i172).tr r187.run.inc).tr r204.run.inc).tr i217).tr r245.run.inc).tr i281).tr r310.run.inc))) 1) ?_
           rintro e w324 ⟨H323, rfl, S325, h326, o327⟩
           refine ⟨_, rfl, ?_⟩
           have o328 := (h146.mono (sg_mono (hi := w136.heap.size) (((((((r154.inc.tr i172).tr r187.run.inc).tr r204.run.inc).tr i217).tr r245.run.inc).tr i281).tr r310.run.inc))).outside o327
           have h326 := h146.span eRecord_flat (by omega) h326
           have f329 := at131.mono ((bw_mono (hi := w123.heap.size) ((((((((r144.run.inc.tr r154.inc).tr i172).tr r187.run.inc).tr r204.run.inc).tr i217).tr r245.run.inc).tr i281).tr r310.run.inc)).tr (bw_keep o328 (by omega)))
           have f330 := h119.mono ((bw_mono (hi := w123.heap.size) ((((((((r144.run.inc.tr r154.inc).tr i172).tr r187.run.inc).tr r204.run.inc).tr i217).tr r245.run.inc).tr i281).tr r310.run.inc)).tr (bw_keep o328 (by omega)))
           have f331 := at173.mono ((sg_mono (lo := w152.heap.size) (hi := w152.heap.size + 1) (((((r187.run.inc.tr r204.run.inc).tr i217).tr r245.run.inc).tr i281).tr r310.run.inc)).tr (sg_keep o328 (by omega)))
           have f332 := h156.mono ((sg_mono (lo := w136.heap.size) (hi := w152.heap.size) ((((((i172.tr r187.run.inc).tr r204.run.inc).tr i217).tr r245.run.inc).tr i281).tr r310.run.inc)).tr (sg_keep o328 (by omega)))
           have f333 := ns157.mono ((sg_mono (lo := w136.heap.size) (hi := w152.heap.size) ((((((i172.tr r187.run.inc).tr r204.run.inc).tr i217).tr r245.run.inc).tr i281).tr r310.run.inc)).tr (sg_keep o328 (by omega)))
           have f334 := h189.mono ((sg_mono (lo := w166.heap.size) (hi := w177.heap.size) ((((r204.run.inc.tr i217).tr r245.run.inc).tr i281).tr r310.run.inc)).tr (sg_keep o328 (by omega)))
           have f335 := ns191.mono ((sg_mono (lo := w166.heap.size) (hi := w177.heap.size) ((((r204.run.inc.tr i217).tr r245.run.inc).tr i281).tr r310.run.inc)).tr (sg_keep o328 (by omega)))
           have f336 := h206.mono ((sg_mono (lo := w177.heap.size) (hi := w196.heap.size) (((i217.tr r245.run.inc).tr i281).tr r310.run.inc)).tr (sg_keep o328 (by omega)))
           refine FL.v (E.assign (v := Value.int .i64 ((PF.laws_markRecordS r133 1).2)) rfl) ?_
           refine FL.nil (FW.seq (FW.region ?_))
           refine FL.v (E.load k291 (run_loadA Tryz.isAgg34 Tryz.sizeOf34 ((f331.mono sgI).now S325.sl) rfl)) ?_
           refine FL.v (E.move (v := Value.int .i64 ((PF.laws_markRecordS r133 1).2)) rfl) ?_
           refine FL.call rfl rfl rfl (E.call Tryz.call16 (A2 rfl rfl)) (w_laws_markCnf S325 hs r149 v155 c158 (f333.mono (sg_up (by omega) (Inc.rfl _))) ((PF.laws_markRecordS r133 1).2)) ?_
           rintro e w338 ⟨H337, c343, rfl, S339, ns345, hb344, o341⟩
           refine ⟨_, rfl, ?_⟩
           have o342 := (f333.mono (sg_mono (hi := w152.heap.size) (Inc.rfl _))).outside o341
           have ns345 := f333.span (eL_loc eI_flat) (by omega) ns345 hb344
           have h340 := ns345.rsl
           have f346 := f329.mono ((bw_mono (hi := w123.heap.size) (Inc.rfl _)).tr (bw_keep o342 (by omega)))
           have f347 := f330.mono ((bw_mono (hi := w123.heap.size) (Inc.rfl _)).tr (bw_keep o342 (by omega)))
           have f348 := h326.mono ((sg_mono (lo := w123.heap.size) (hi := w136.heap.size) (Inc.rfl _)).tr (sg_keep o342 (by omega)))
           have f349 := f331.mono ((sg_mono (lo := w152.heap.size) (hi := w152.heap.size + 1) (Inc.rfl _)).tr (sg_keep o342 (by omega)))
           have f350 := f334.mono ((sg_mono (lo := w166.heap.size) (hi := w177.heap.size) (Inc.rfl _)).tr (sg_keep o342 (by omega)))
           have f351 := f335.mono ((sg_mono (lo := w166.heap.size) (hi := w177.heap.size) (Inc.rfl _)).tr (sg_keep o342 (by omega)))
           have f352 := f336.mono ((sg_mono (lo := w177.heap.size) (hi := w196.heap.size) (Inc.rfl _)).tr (sg_keep o342 (by omega)))
           refine FL.v (E.assign (v := Value.int .i64 ((PF.laws_markCnf r149 ((PF.laws_markRecordS r133 1).2)).2)) rfl) ?_
           refine FL.nil (FW.seq (FW.region ?_))
           refine FL.v (E.move k292) ?_
           refine FL.v (E.move (v := Value.int .i64 ((PF.laws_markCnf r149 ((PF.laws_markRecordS r133 1).2)).2)) rfl) ?_
           refine FL.call rfl rfl rfl (E.call Tryz.call17 (A2 rfl rfl)) (w_laws_markResStepS S339 hs v180 r174 cs182 (f351.mono (sg_up (by omega) (Inc.rfl _))) ((PF.laws_markCnf r149 ((PF.laws_markRecordS r133 1).2)).2)) ?_
           rintro e w354 ⟨H353, c359, rfl, S355, ns361, hb360, o357⟩
           refine ⟨_, rfl, ?_⟩
           have o358 := (f351.mono (sg_mono (hi := w177.heap.size) (Inc.rfl _))).outside o357
           have ns361 := f351.span eResStep_loc (by omega) ns361 hb360
           have h356 := ns361.rsl
           have f362 := f346.mono ((bw_mono (hi := w123.heap.size) (Inc.rfl _)).tr (bw_keep o358 (by omega)))
           have f363 := f347.mono ((bw_mono (hi := w123.heap.size) (Inc.rfl _)).tr (bw_keep o358 (by omega)))
           have f364 := f348.mono ((sg_mono (lo := w123.heap.size) (hi := w136.heap.size) (Inc.rfl _)).tr (sg_keep o358 (by omega)))
           have f365 := f349.mono ((sg_mono (lo := w152.heap.size) (hi := w152.heap.size + 1) (Inc.rfl _)).tr (sg_keep o358 (by omega)))
           have f366 := h340.mono ((sg_mono (lo := w136.heap.size) (hi := w152.heap.size) (Inc.rfl _)).tr (sg_keep o358 (by omega)))
           have f367 := ns345.mono ((sg_mono (lo := w136.heap.size) (hi := w152.heap.size) (Inc.rfl _)).tr (sg_keep o358 (by omega)))
           have f368 := f352.mono ((sg_mono (lo := w177.heap.size) (hi := w196.heap.size) (Inc.rfl _)).tr (sg_keep o358 (by omega)))
           refine FL.v (E.assign (v := Value.int .i64 ((PF.laws_markResStepS r174 ((PF.laws_markCnf r149 ((PF.laws_markRecordS r133 1).2)).2)).2)) rfl) ?_
           refine FL.nil (FW.seq (FW.seq (FW.region ?_)))
           refine FL.v (E.move (v := Value.int .i64 ((PF.laws_markResStepS r174 ((PF.laws_markCnf r149 ((PF.laws_markRecordS r133 1).2)).2)).2)) rfl) ?_
           refine FL.v (E.lss rfl rfl) ?_
           refine FL.v (E.move (v := Value.bool (decide ((PF.laws_markResStepS r174 ((PF.laws_markCnf r149 ((PF.laws_markRecordS r133 1).2)).2)).2 < 0))) rfl) ?_
           obtain ⟨t369, hqt369, hp⟩ := bnd hp
           refine FL.cut 5 (fun f w => ∃ H : GH, St Ha wa H w [] ∧ Inc H353 H ∧ f 0 = v0 ∧ f 1 = Value.string a1 ∧ f 3 = v3 ∧ f 6 = Value.pointer (some ⟨wa.heap.size, 0, none⟩) ∧ f 10 = v118 ∧ f 11 = Value.bool r102.2 ∧ f 15 = v199 ∧ f 16 = Value.bool r193.2 ∧ f 105 = Value.bool t369) ?_ ?_
           ·
            clear hp; have hp := hqt369; clear hqt369
            rcases ifB hp with ⟨c375, hp⟩ | ⟨c375, hp⟩
            ·
             refine FL.skip (wF_no rfl rfl rfl c375) rfl ?_
             refine FL.skip (wF_no rfl rfl rfl c375) rfl ?_
             refine FL.skip (wF_no rfl rfl rfl c375) rfl ?_
             refine FL.skip (wF_no rfl rfl rfl c375) rfl ?_
             obtain rfl := Option.some.inj hp
             refine FL.v (E.pickT rfl c375 rfl) ?_
             exact FL.nil ⟨rfl, _, S355, (Inc.rfl _), k284, k285, k286, k287, k288, k289, k293, k294, rfl⟩
            ·
             refine FL.val (wF_yes rfl rfl rfl c375) rfl rfl (E.move k293) ?_
             refine FL.val (wF_yes rfl rfl rfl c375) rfl rfl (E.move k288) ?_
             obtain ⟨r376, hr377, hp⟩ := bnd hp
             refine FL.call (wF_yes rfl rfl rfl c375) rfl rfl (E.call Tryz.call12 (A2 rfl rfl)) (w_laws_eqRecordS S355.sl v199 r193.1 (f368.mono sgI) v118 r102.1 (f363.mono bwI) hr377) ?_
             rintro e w378 ⟨rfl, r379⟩
             refine ⟨_, rfl, ?_⟩
             have S380 := S355.call r379
             have z381 := r379.bel.size
             refine FL.val (wF_yes rfl rfl rfl c375) rfl rfl (E.not rfl) ?_
             obtain rfl := Option.some.inj hp
             refine FL.v (E.pickF rfl c375 rfl) ?_
             exact FL.nil ⟨rfl, _, S380, (Inc.rfl _), k284, k285, k286, k287, k288, k289, k293, k294, rfl⟩
           rintro f374 w373 ⟨H370, S371, i372, k382, k383, k384, k385, k386, k387, k388, k389, k390⟩
           refine FL.v (E.move k390) ?_
           refine FL.cut 4 (fun f w => ∃ H : GH, St Ha wa H w [] ∧ Inc H370 H ∧ f 0 = v0 ∧ f 1 = Value.string a1 ∧ f 3 = v3 ∧ f 6 = Value.pointer (some ⟨wa.heap.size, 0, none⟩) ∧ f 10 = v118 ∧ f 11 = Value.bool r102.2 ∧ f 15 = v199 ∧ f 110 = Value.bool (bif t369 then true else (!(r193.2 == r102.2)))) ?_ ?_
           ·
            rcases bcase t369 with c396 | c396
            ·
             refine FL.skip (wF_no rfl rfl rfl c396) rfl ?_
             refine FL.skip (wF_no rfl rfl rfl c396) rfl ?_
             refine FL.skip (wF_no rfl rfl rfl c396) rfl ?_
             refine FL.v (E.pickT rfl c396 rfl) ?_
             exact FL.nil ⟨rfl, _, S371, (Inc.rfl _), k382, k383, k384, k385, k386, k387, k388, (congrArg Value.bool (bifT c396).symm)⟩
            ·
             refine FL.val (wF_yes rfl rfl rfl c396) rfl rfl (E.move k389) ?_
             refine FL.val (wF_yes rfl rfl rfl c396) rfl rfl (E.move k387) ?_
             refine FL.val (wF_yes rfl rfl rfl c396) rfl rfl (E.neqB Tryz.runUnderlying4 rfl rfl) ?_
             refine FL.v (E.pickF rfl c396 rfl) ?_
             exact FL.nil ⟨rfl, _, S371, (Inc.rfl _), k382, k383, k384, k385, k386, k387, k388, (congrArg Value.bool (bifF c396).symm)⟩
           rintro f395 w394 ⟨H391, S392, i393, k397, k398, k399, k400, k401, k402, k403, k404⟩
           refine FL.nil ?_
           rcases ifB hp with ⟨c405, hp⟩ | ⟨c405, hp⟩
           ·
            refine FW.condT k404 c405 ?_
            refine FW.seq (FW.region ?_)
            refine FL.v (E.assign (v := Value.bool false) rfl) ?_
            refine FL.nil ?_
            refine FW.ret ?_
            obtain rfl := Option.some.inj hp
            exact ⟨.inr rfl, res1 rfl rfl ⟨rfl, S392.back⟩⟩
           ·
            refine FW.condF k404 c405 ?_
            refine FW.skip (FW.seq (FW.region ?_))
            refine FL.v (E.assign (v := Value.int .i64 1) rfl) ?_
            refine FL.nil (FW.seq (FW.region ?_))
            refine FL.v (E.move k403) ?_
            refine FL.v (E.move (v := Value.int .i64 1) rfl) ?_
            refine FL.call rfl rfl rfl (E.call Tryz.call15 (A2 rfl rfl)) (w_laws_markRecordS S392 hs v199 r193.1 (f368.mono (sg_up (by omega) (i372.tr i393))) 1) ?_
            rintro e w407 ⟨H406, rfl, S408, h409, o410⟩
            refine ⟨_, rfl, ?_⟩
            have o411 := (f368.mono (sg_mono (hi := w196.heap.size) (i372.tr i393))).outside o410
            have h409 := f368.span eRecord_flat (by omega) h409
            have f412 := f362.mono ((bw_mono (hi := w123.heap.size) (i372.tr i393)).tr (bw_keep o411 (by omega)))
            have f413 := f363.mono ((bw_mono (hi := w123.heap.size) (i372.tr i393)).tr (bw_keep o411 (by omega)))
            refine FL.v (E.assign (v := Value.int .i64 ((PF.laws_markRecordS r193.1 1).2)) rfl) ?_
            refine FL.nil (FW.seq (FW.region ?_))
            refine FL.v (E.assign (v := Value.int .i64 1) rfl) ?_
            refine FL.nil (FW.seq (FW.region ?_))
            refine FL.v (E.move k403) ?_
            refine FL.v (E.move (v := Value.int .i64 1) rfl) ?_
            obtain ⟨r414, hr415, hp⟩ := bnd hp
            refine FL.call rfl rfl rfl (E.call Tryz.call18 (A2 rfl rfl)) (w_laws_heldRecordS S408.sl v199 ((PF.laws_markRecordS r193.1 1).1) (h409.mono sgI) 1 hr415) ?_
            rintro e w416 ⟨rfl, r417⟩
            refine ⟨_, rfl, ?_⟩
            have S418 := S408.call r417
            have z419 := r417.bel.size
            refine FL.v (E.assign (v := Value.int .i64 r414) rfl) ?_
            refine FL.nil (FW.seq (FW.seq (FW.region ?_)))
            refine FL.v (E.move (v := Value.int .i64 r414) rfl) ?_
            refine FL.v (E.lss rfl rfl) ?_
            refine FL.nil ?_
            rcases ifB hp with ⟨c420, hp⟩ | ⟨c420, hp⟩
            ·
             refine FW.condT rfl c420 ?_
             refine FW.seq (FW.region ?_)
             refine FL.v (E.assign (v := Value.bool false) rfl) ?_
             refine FL.nil ?_
             refine FW.ret ?_
             obtain rfl := Option.some.inj hp
             exact ⟨.inr rfl, res1 rfl rfl ⟨rfl, S418.back⟩⟩
            ·
             refine FW.condF rfl c420 ?_
             refine FW.skip (FW.seq (FW.seq (FW.region ?_)))
             refine FL.v (E.move (v := Value.int .i64 r414) rfl) ?_
             refine FL.v (E.move (v := Value.int .i64 ((PF.laws_markRecordS r193.1 1).2)) rfl) ?_
             refine FL.v (E.neq rfl rfl) ?_
             refine FL.nil ?_
             rcases ifB hp with ⟨c421, hp⟩ | ⟨c421, hp⟩
             ·
              refine FW.condT rfl c421 ?_
              refine FW.seq (FW.region ?_)
              refine FL.v (E.assign (v := Value.bool false) rfl) ?_
              refine FL.nil ?_
              refine FW.ret ?_
              obtain rfl := Option.some.inj hp
              exact ⟨.inr rfl, res1 rfl rfl ⟨rfl, S418.back⟩⟩
             ·
              refine FW.condF rfl c421 ?_
              refine FW.skip (FW.seq ?_)
              obtain ⟨r425, hr426, hp⟩ := bnd hp
              obtain ⟨r441, hr442, hp⟩ := bnd hp
              obtain ⟨r454, hr455, hp⟩ := bnd hp
              obtain ⟨r473, hr474, hp⟩ := bnd hp
              refine FW.drawB (Sl H406) (fun f w => ∃ H : GH, ∃ v489 : Value, St Ha wa H w [] ∧ Inc H406 H ∧ RSl H eRecord 4 v489 r473.1 ∧ f 10 = v118 ∧ f 11 = Value.bool r102.2 ∧ f 15 = v199 ∧ f 18 = Value.int .i64 ((PF.laws_markRecordS r193.1 1).2) ∧ f 20 = v489 ∧ f 21 = Value.bool r473.2) (by kernel_rfl) S418.sl ?_ ?_
              ·
               intro w422 r423
               have S424 := S418.call r423
               refine FB.t (i := 0) (bs 13 1) rfl (SP.nil S424.sl) rfl (fun w' hw' => (E.move k397)) ?_
               refine FB.t (i := 2) (bs 13 5) rfl (SP.nil S424.sl) rfl (fun w' hw' => (E.move k398)) ?_
               refine FB.t (i := 3) (bs 13 13) rfl (SP.nil S424.sl) rfl (fun w' hw' => (E.load k400 (run_loadA Tryz.isAgg25 Tryz.sizeOf25 ((f412.mono bwI).now hw') rfl))) ?_
               refine FB.t (i := 5) (bs 13 45) rfl (SP.nil S424.sl) rfl (fun w' hw' => (E.move k399)) ?_
               refine FB.all1 (i := 1) (by kernel_rfl) ?_
               ·
                refine FC.call (l' := (bs 13 47)) rfl (by kernel_rfl) rfl rfl rfl (E.call Tryz.call8 (A1 rfl)) (w_laws_toRecordS S424.sl v0 a0 (p0.mono S408.inc) hr426) ?_
                rintro e w428 ⟨H427, v431, n432, cs433, rfl, r430, els434⟩
                refine ⟨_, rfl, ?_⟩
                obtain ⟨H435, r436, i437, h438, nv439⟩ := r430.sealRowU (i := 0) (l' := []) rfl els434 (by decide) rfl
                have S429 := S424.call r436.run
                have z440 := r436.run.bel.size
                have h438 := h438.mono (sg_of S429.sl)
                refine ⟨(SP.nil (Sl.of_inc r436.run.inc S429.sl)), ?_⟩
                refine FB.all1 (i := 4) (by kernel_rfl) ?_
                ·
                 refine FC.call (l' := (bs 13 63)) rfl (by kernel_rfl) rfl rfl rfl (E.call Tryz.call9 (A1 rfl)) (w_laws_toCnf S429.sl a2 v2_1 (p2_1.mono (S408.inc.tr r436.run.inc)) hr442) ?_
                 rintro e w444 ⟨H443, v447, rfl, r446, ⟨c450, ns449⟩⟩
                 refine ⟨_, rfl, ?_⟩
                 have h448 := ns449.rsl
                 have nv451 : New H435 c450 := New.of_up S429.sl (fun b hb => ns449.dom b (.inr hb))
                 have nv452 : New H435 [v447] := New.of_up S429.sl h448.dom
                 have S445 := S429.call r446
                 have z453 := r446.bel.size
                 have h448 := h448.mono (sg_of S445.sl)
                 have ns449 := ns449.mono (sg_of S445.sl)
                 refine ⟨(SP.nil (Sl.of_inc (r436.run.inc.tr r446.inc) S445.sl)), ?_⟩
                 refine FB.all1 (i := 6) (by kernel_rfl) ?_
                 ·
                  refine FC.call (l' := (bs 13 127)) rfl (by kernel_rfl) rfl rfl rfl (E.call Tryz.call10 (A1 rfl)) (w_laws_toResStepS S445.sl v3 a3 (p3.mono ((S408.inc.tr r436.run.inc).tr r446.inc)) hr455) ?_
                  rintro e w457 ⟨H456, v460, n461, cs462, rfl, r459, els463, nd464⟩
                  refine ⟨_, rfl, ?_⟩
                  have nv465 : New H443 cs462 := New.of_up S445.sl els463.dom
                  obtain ⟨H466, r467, i468, ns471, nv470⟩ := r459.sealRowN (i := 0) (l' := []) rfl els463 nd464 (by decide) rfl
                  have h469 := ns471.rsl
                  have S458 := S445.call r467.run
                  have z472 := r467.run.bel.size
                  have h469 := h469.mono (sg_of S458.sl)
                  have ns471 := ns471.mono (sg_of S458.sl)
                  refine ⟨(SP.nil (Sl.of_inc ((r436.run.inc.tr r446.inc).tr r467.run.inc) S458.sl)), ?_⟩
                  refine FB.all1 (i := 7) (by kernel_rfl) ?_
                  ·
                   refine FC.call (l' := (bs 13 255)) rfl (by kernel_rfl) rfl rfl rfl (E.call Tryz.call11 (A4 rfl rfl rfl rfl)) (w_impl_EnterResolution S458.sl v431 r425 (h438.mono (sgI.tr (r446.inc.tr r467.run.inc))) a1 r441 v447 (h448.mono (sgI.tr r467.run.inc)) v460 r454 (h469.mono sgI) (hT.mono (((S408.inc.tr r436.run.inc).tr r446.inc).tr r467.run.inc)) hr474) ?_
                   rintro e w476 ⟨H475, v479, n480, cs481, rfl, r478, els482⟩
                   refine ⟨_, rfl, ?_⟩
                   obtain ⟨H483, r484, i485, h486, nv487⟩ := r478.sealRowU (i := 0) (l' := []) rfl els482 (by decide) rfl
                   have S477 := S458.call r484.run
                   have z488 := r484.run.bel.size
                   have h486 := h486.mono (sg_of S477.sl)
                   refine ⟨(SP.nil (Sl.of_inc (((r436.run.inc.tr r446.inc).tr r467.run.inc).tr r484.run.inc) S477.sl)), ?_⟩
                   refine FB.t (i := 8) (bs 13 511) rfl (SP.nil (Sl.of_inc (((r436.run.inc.tr r446.inc).tr r467.run.inc).tr r484.run.inc) S477.sl)) rfl (fun w' hw' => (E.move (v := Value.tuple #[v479, Value.bool r473.2]) rfl)) ?_
                   refine FB.t (i := 9) (bs 13 1023) rfl (SP.nil (Sl.of_inc (((r436.run.inc.tr r446.inc).tr r467.run.inc).tr r484.run.inc) S477.sl)) rfl (fun w' hw' => (E.extract (i := 0) rfl rfl)) ?_
                   refine FB.t (i := 10) (bs 13 2047) rfl (SP.nil (Sl.of_inc (((r436.run.inc.tr r446.inc).tr r467.run.inc).tr r484.run.inc) S477.sl)) rfl (fun w' hw' => (E.extract (i := 1) rfl rfl)) ?_
                   refine FB.t (i := 11) (bs 13 4095) rfl (SP.nil (Sl.of_inc (((r436.run.inc.tr r446.inc).tr r467.run.inc).tr r484.run.inc) S477.sl)) rfl (fun w' hw' => (E.assign (v := v479) rfl)) ?_
                   refine FB.t (i := 12) (bs 13 8191) rfl (SP.nil (Sl.of_inc (((r436.run.inc.tr r446.inc).tr r467.run.inc).tr r484.run.inc) S477.sl)) rfl (fun w' hw' => (E.assign (v := Value.bool r473.2) rfl)) ?_
                   exact FB.done (by kernel_rfl) ⟨_, _, S477, (((r436.run.inc.tr r446.inc).tr r467.run.inc).tr r484.run.inc), (h486.mono sgI), k401, k402, k403, rfl, rfl, rfl⟩
              ·
               rintro f495 w494 ⟨H491, v489, S492, i493, h490, k496, k497, k498, k499, k500, k501⟩
               refine FW.seq (FW.seq (FW.region ?_))
               refine FL.v (E.move k500) ?_
               refine FL.v (E.move k496) ?_
               obtain ⟨r502, hr503, hp⟩ := bnd hp
               refine FL.call rfl rfl rfl (E.call Tryz.call12 (A2 rfl rfl)) (w_laws_eqRecordS S492.sl v489 r473.1 h490 v118 r102.1 (f413.mono (bwI.tr i493)) hr503) ?_
               rintro e w504 ⟨rfl, r505⟩
               refine ⟨_, rfl, ?_⟩
               have S506 := S492.call r505
               have z507 := r505.bel.size
               refine FL.v (E.not rfl) ?_
               refine FL.v (E.move (v := Value.bool (!r502)) rfl) ?_
               refine FL.cut 4 (fun f w => ∃ H : GH, St Ha wa H w [] ∧ Inc H491 H ∧ f 15 = v199 ∧ f 18 = Value.int .i64 ((PF.laws_markRecordS r193.1 1).2) ∧ f 141 = Value.bool (bif (!r502) then true else (!(r473.2 == r102.2)))) ?_ ?_
               ·
                rcases bcase (!r502) with c513 | c513
                ·
                 refine FL.skip (wF_no rfl rfl rfl c513) rfl ?_
                 refine FL.skip (wF_no rfl rfl rfl c513) rfl ?_
                 refine FL.skip (wF_no rfl rfl rfl c513) rfl ?_
                 refine FL.v (E.pickT rfl c513 rfl) ?_
                 exact FL.nil ⟨rfl, _, S506, (Inc.rfl _), k498, k499, (congrArg Value.bool (bifT c513).symm)⟩
                ·
                 refine FL.val (wF_yes rfl rfl rfl c513) rfl rfl (E.move k501) ?_
                 refine FL.val (wF_yes rfl rfl rfl c513) rfl rfl (E.move k497) ?_
                 refine FL.val (wF_yes rfl rfl rfl c513) rfl rfl (E.neqB Tryz.runUnderlying4 rfl rfl) ?_
                 refine FL.v (E.pickF rfl c513 rfl) ?_
                 exact FL.nil ⟨rfl, _, S506, (Inc.rfl _), k498, k499, (congrArg Value.bool (bifF c513).symm)⟩
               rintro f512 w511 ⟨H508, S509, i510, k514, k515, k516⟩
               refine FL.nil ?_
               rcases ifB hp with ⟨c517, hp⟩ | ⟨c517, hp⟩
               ·
                refine FW.condT k516 c517 ?_
                refine FW.seq (FW.region ?_)
                refine FL.v (E.assign (v := Value.bool false) rfl) ?_
                refine FL.nil ?_
                refine FW.ret ?_
                obtain rfl := Option.some.inj hp
                exact ⟨.inr rfl, res1 rfl rfl ⟨rfl, S509.back⟩⟩
               ·
                refine FW.condF k516 c517 ?_
                refine FW.skip (FW.seq (FW.region ?_))
                refine FL.v (E.assign (v := Value.int .i64 1) rfl) ?_
                refine FL.nil (FW.seq (FW.region ?_))
                refine FL.v (E.move k514) ?_
                refine FL.v (E.move (v := Value.int .i64 1) rfl) ?_
                obtain ⟨r518, hr519, hp⟩ := bnd hp
                refine FL.call rfl rfl rfl (E.call Tryz.call18 (A2 rfl rfl)) (w_laws_heldRecordS S509.sl v199 ((PF.laws_markRecordS r193.1 1).1) (h409.mono (sgI.tr (i493.tr i510))) 1 hr519) ?_
                rintro e w520 ⟨rfl, r521⟩
                refine ⟨_, rfl, ?_⟩
                have S522 := S509.call r521
                have z523 := r521.bel.size
                refine FL.v (E.assign (v := Value.int .i64 r518) rfl) ?_
                refine FL.nil (FW.seq (FW.seq (FW.region ?_)))
                refine FL.v (E.move (v := Value.int .i64 r518) rfl) ?_
                refine FL.v (E.lss rfl rfl) ?_
                refine FL.nil ?_
                rcases ifB hp with ⟨c524, hp⟩ | ⟨c524, hp⟩
                ·
                 refine FW.condT rfl c524 ?_
                 refine FW.seq (FW.region ?_)
                 refine FL.v (E.assign (v := Value.bool false) rfl) ?_
                 refine FL.nil ?_
                 refine FW.ret ?_
                 obtain rfl := Option.some.inj hp
                 exact ⟨.inr rfl, res1 rfl rfl ⟨rfl, S522.back⟩⟩
                ·
                 refine FW.condF rfl c524 ?_
                 refine FW.skip (FW.seq (FW.seq (FW.region ?_)))
                 refine FL.v (E.move (v := Value.int .i64 r518) rfl) ?_
                 refine FL.v (E.move k515) ?_
                 refine FL.v (E.neq rfl rfl) ?_
                 refine FL.nil ?_
                 rcases ifB hp with ⟨c525, hp⟩ | ⟨c525, hp⟩
                 ·
                  refine FW.condT rfl c525 ?_
                  refine FW.seq (FW.region ?_)
                  refine FL.v (E.assign (v := Value.bool false) rfl) ?_
                  refine FL.nil ?_
                  refine FW.ret ?_
                  obtain rfl := Option.some.inj hp
                  exact ⟨.inr rfl, res1 rfl rfl ⟨rfl, S522.back⟩⟩
                 ·
                  refine FW.condF rfl c525 ?_
                  refine FW.skip (FW.seq (FW.region ?_))
                  refine FL.v (E.assign (v := Value.bool true) rfl) ?_
                  refine FL.nil ?_
                  refine FW.ret ?_
                  obtain rfl := Option.some.inj hp
                  exact ⟨.inr rfl, res1 rfl rfl ⟨rfl, S522.back⟩⟩

end Go.Proofs
