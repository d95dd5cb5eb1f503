/- Part of the walks and plain laws behind the claim: it proves helpers, under no condition beyond their own. -/
import Derived.Test.YtgkmebdjookgnaaGreatWk2
set_option linter.unusedVariables false
set_option maxRecDepth 100000
namespace Go.Proofs
open Go.Mr Go.Pu Go.PF Go.RowKit

theorem w_laws_markResStepS {H0 Ha : GH} {w0 wa : World} {l : List MO} (S0 : St H0 w0 Ha wa l) (hs0 : Sl H0 w0) (v0 : Value) (a0 : List ResStep) (c0 : List Value) (n0 : Nest (up w0.heap.size Ha) eResStep 4 v0 a0 c0) (a1 : Int) :
    Calls Tryz.prog 33 #[v0, Value.int .i64 a1] wa (M2 H0 w0 Ha l eResStep 4 v0 c0 (PF.laws_markResStepS a0 a1)) := by
  have hln := n0.rsl.ln
  have hle := n0.rsl.le
  refine calls_go (N := 41) (args := [v0, Value.int .i64 a1]) Tryz.func33 rfl rfl rfl ?_
  refine FW.seq ?_
  refine FW.region ?_
  refine FL.val rfl rfl rfl (E.assign (v := Value.int .i64 0) rfl) ?_
  refine FL.nil ?_
  refine FW.seq ?_
  refine FW.seq ?_
  refine FW.region ?_
  refine FL.val rfl rfl rfl (E.assign (v := Value.int .i64 0) rfl) ?_
  refine FL.nil ?_
  refine FW.block ?_
  refine FW.mono (FW.mark (F := fun y m => ((ResStep.mk ((PF.laws_markIntS y.clause m).1) ((PF.laws_markIntS y.clause m).2) (wr ((PF.laws_markIntS y.clause m).2 + 1)) (wr ((wr ((PF.laws_markIntS y.clause m).2 + 1)) + 1))), (wr ((wr ((wr ((PF.laws_markIntS y.clause m).2 + 1)) + 1)) + 1)))) (a0 := a0) (k0 := a1) (fun (i : Nat) (xs : List ResStep) (k : Int) f w => ∃ (H : GH) (c : List Value), St H0 w0 H w l ∧ Nest (up w0.heap.size H) eResStep 4 v0 xs c ∧ bl c = bl c0 ∧ (∀ b, b ∉ bl [v0] → b ∉ bl c0 → H b = Ha b) ∧ f 0 = v0 ∧ f 1 = Value.int .i64 k ∧ f 5 = Value.int .i64 ((i : Nat) : Int)) (fun e f w => e = Exit.exit 0 ∧ ∃ (H : GH) (c : List Value), St H0 w0 H w l ∧ Nest (up w0.heap.size H) eResStep 4 v0 (markFrom (fun y m => ((ResStep.mk ((PF.laws_markIntS y.clause m).1) ((PF.laws_markIntS y.clause m).2) (wr ((PF.laws_markIntS y.clause m).2 + 1)) (wr ((wr ((PF.laws_markIntS y.clause m).2 + 1)) + 1))), (wr ((wr ((wr ((PF.laws_markIntS y.clause m).2 + 1)) + 1)) + 1)))) a0 a1).1 c ∧ bl c = bl c0 ∧ (∀ b, b ∉ bl [v0] → b ∉ bl c0 → H b = Ha b) ∧ f 0 = v0 ∧ f 1 = Value.int .i64 (markFrom (fun y m => ((ResStep.mk ((PF.laws_markIntS y.clause m).1) ((PF.laws_markIntS y.clause m).2) (wr ((PF.laws_markIntS y.clause m).2 + 1)) (wr ((wr ((PF.laws_markIntS y.clause m).2 + 1)) + 1))), (wr ((wr ((wr ((PF.laws_markIntS y.clause m).2 + 1)) + 1)) + 1)))) a0 a1).2) ⟨_, _, S0, n0, rfl, fun _ _ _ => rfl, rfl, rfl, rfl⟩ ?_ ?_) ?_
  ·
    rintro i y xs m f1 w1 ⟨H1, c1, S1, n1, hb, ho, kv, kk, kc⟩ hx hy
    obtain ⟨p, hpt, wr0, hB, hr, nd⟩ := n1.begin hy (by decide)
    obtain ⟨u0, hci, hu0⟩ := eResStep_open hr
    have rd := wr0.opens hci
    refine FW.seq ?_
    refine FW.seq ?_
    refine FW.region ?_
    refine FL.val rfl rfl rfl (E.move kc) ?_
    refine FL.val rfl rfl rfl (E.move kv) ?_
    refine FL.val rfl rfl rfl (E.len te41 rfl hln) ?_
    refine FL.val rfl rfl rfl (E.lssT rfl rfl (lss_len hx)) ?_
    refine FL.nil ?_
    refine FW.condT rfl rfl ?_
    refine FW.skip ?_
    refine FW.seq ?_
    refine FW.block ?_
    refine FW.seq ?_
    refine FW.region ?_
    refine FL.val rfl rfl rfl (E.move kv) ?_
    refine FL.val rfl rfl rfl (E.move kc) ?_
    refine FL.val rfl rfl rfl (E.indexAddr te41 rfl rfl hpt) ?_
    refine FL.val rfl rfl rfl (E.fieldAddr tf103_0 rfl) ?_
    refine FL.val rfl rfl rfl (E.load rfl (run_load1 Tryz.isAgg61 (rd.now S1.sl) rfl)) ?_
    refine FL.val rfl rfl rfl (E.move kk) ?_
    refine FL.call rfl rfl rfl (E.call Tryz.call58 (A2 rfl rfl)) (w_laws_markIntS S1 hs0 u0 y.clause hu0 m) ?_
    rintro e w22 ⟨H21, rfl, S23, h24, o25⟩
    refine ⟨_, rfl, ?_⟩
    have wr26 := rd.inner (j := 0) rfl o25
    refine FL.val rfl rfl rfl (E.assign (v := Value.int .i64 ((PF.laws_markIntS y.clause m).2)) rfl) ?_
    refine FL.nil ?_
    refine FW.seq ?_
    refine FW.region ?_
    refine FL.val rfl rfl rfl (E.move kv) ?_
    refine FL.val rfl rfl rfl (E.move kc) ?_
    refine FL.val rfl rfl rfl (E.move (v := Value.int .i64 ((PF.laws_markIntS y.clause m).2)) rfl) ?_
    refine FL.val rfl rfl rfl (E.indexAddr te41 rfl rfl hpt) ?_
    refine FL.val rfl rfl rfl (E.fieldAddr tf103_1 rfl) ?_
    obtain ⟨w27, H28, run30, S29, wr31, o32⟩ := wr26.poke (P := Tryz.prog) (t := 3) (u := Value.int .i64 ((PF.laws_markIntS y.clause m).2)) S23 hs0 hB (j := 1) rfl rfl rfl Tryz.sizeOf3 rfl rfl (c2 := [u0, Value.int .i64 ((PF.laws_markIntS y.clause m).2), Value.int .i64 y.right, Value.int .i64 y.pivot]) rfl
    have h33 := wr26.kept (j := 0) rfl h24 eI_flat o32
    refine FL.act rfl rfl (E.store rfl rfl run30) ?_
    refine FL.nil ?_
    refine FW.seq ?_
    refine FW.region ?_
    refine FL.val rfl rfl rfl (E.move (v := Value.int .i64 ((PF.laws_markIntS y.clause m).2)) rfl) ?_
    refine FL.val rfl rfl rfl (E.add rfl rfl) ?_
    refine FL.val rfl rfl rfl (E.assign (v := Value.int .i64 (wr ((PF.laws_markIntS y.clause m).2 + 1))) rfl) ?_
    refine FL.nil ?_
    refine FW.seq ?_
    refine FW.region ?_
    refine FL.val rfl rfl rfl (E.move kv) ?_
    refine FL.val rfl rfl rfl (E.move kc) ?_
    refine FL.val rfl rfl rfl (E.move (v := Value.int .i64 (wr ((PF.laws_markIntS y.clause m).2 + 1))) rfl) ?_
    refine FL.val rfl rfl rfl (E.indexAddr te41 rfl rfl hpt) ?_
    refine FL.val rfl rfl rfl (E.fieldAddr tf103_2 rfl) ?_
    obtain ⟨w34, H35, run37, S36, wr38, o39⟩ := wr31.poke (P := Tryz.prog) (t := 3) (u := Value.int .i64 (wr ((PF.laws_markIntS y.clause m).2 + 1))) S29 hs0 hB (j := 2) rfl rfl rfl Tryz.sizeOf3 rfl rfl (c2 := [u0, Value.int .i64 ((PF.laws_markIntS y.clause m).2), Value.int .i64 (wr ((PF.laws_markIntS y.clause m).2 + 1)), Value.int .i64 y.pivot]) rfl
    have h40 := wr31.kept (j := 0) rfl h33 eI_flat o39
    refine FL.act rfl rfl (E.store rfl rfl run37) ?_
    refine FL.nil ?_
    refine FW.seq ?_
    refine FW.region ?_
    refine FL.val rfl rfl rfl (E.move (v := Value.int .i64 (wr ((PF.laws_markIntS y.clause m).2 + 1))) rfl) ?_
    refine FL.val rfl rfl rfl (E.add rfl rfl) ?_
    refine FL.val rfl rfl rfl (E.assign (v := Value.int .i64 (wr ((wr ((PF.laws_markIntS y.clause m).2 + 1)) + 1))) rfl) ?_
    refine FL.nil ?_
    refine FW.seq ?_
    refine FW.region ?_
    refine FL.val rfl rfl rfl (E.move kv) ?_
    refine FL.val rfl rfl rfl (E.move kc) ?_
    refine FL.val rfl rfl rfl (E.move (v := Value.int .i64 (wr ((wr ((PF.laws_markIntS y.clause m).2 + 1)) + 1))) rfl) ?_
    refine FL.val rfl rfl rfl (E.indexAddr te41 rfl rfl hpt) ?_
    refine FL.val rfl rfl rfl (E.fieldAddr tf103_3 rfl) ?_
    obtain ⟨w41, H42, run44, S43, wr45, o46⟩ := wr38.poke (P := Tryz.prog) (t := 3) (u := Value.int .i64 (wr ((wr ((PF.laws_markIntS y.clause m).2 + 1)) + 1))) S36 hs0 hB (j := 3) rfl rfl rfl Tryz.sizeOf3 rfl rfl (c2 := [u0, Value.int .i64 ((PF.laws_markIntS y.clause m).2), Value.int .i64 (wr ((PF.laws_markIntS y.clause m).2 + 1)), Value.int .i64 (wr ((wr ((PF.laws_markIntS y.clause m).2 + 1)) + 1))]) rfl
    have h47 := wr38.kept (j := 0) rfl h40 eI_flat o46
    refine FL.act rfl rfl (E.store rfl rfl run44) ?_
    refine FL.nil ?_
    refine FW.region ?_
    refine FL.val rfl rfl rfl (E.move (v := Value.int .i64 (wr ((wr ((PF.laws_markIntS y.clause m).2 + 1)) + 1))) rfl) ?_
    refine FL.val rfl rfl rfl (E.add rfl rfl) ?_
    refine FL.val rfl rfl rfl (E.assign (v := Value.int .i64 (wr ((wr ((wr ((PF.laws_markIntS y.clause m).2 + 1)) + 1)) + 1))) rfl) ?_
    refine FL.nil ?_
    refine FW.region ?_
    refine FL.val rfl rfl rfl (E.move kc) ?_
    refine FL.val rfl rfl rfl (E.add rfl rfl) ?_
    refine FL.val rfl rfl rfl (E.assign (v := Value.int .i64 (wr (((i : Nat) : Int) + 1))) rfl) ?_
    refine FL.nil ?_
    obtain ⟨c2, n2, hb2, ho2⟩ := n1.round eResStep_loc hy (by decide) hpt wr45 (y' := (ResStep.mk ((PF.laws_markIntS y.clause m).1) ((PF.laws_markIntS y.clause m).2) (wr ((PF.laws_markIntS y.clause m).2 + 1)) (wr ((wr ((PF.laws_markIntS y.clause m).2 + 1)) + 1)))) ⟨_, rfl, h47⟩
    exact ⟨rfl, _, _, S43, n2, hb2.trans hb, fun b q1 q2 => (ho2 b q1 (by rw [hb]; exact q2)).trans (ho b q1 q2), kv, rfl, nat_succ rfl (lt_of_get hx) hle⟩
  ·
    rintro f1 w1 ⟨H1, c1, S1, n1, hb, ho, kv, kk, kc⟩
    refine FW.seq ?_
    refine FW.seq ?_
    refine FW.region ?_
    refine FL.val rfl rfl rfl (E.move kc) ?_
    refine FL.val rfl rfl rfl (E.move kv) ?_
    refine FL.val rfl rfl rfl (E.len te41 rfl hln) ?_
    refine FL.val rfl rfl rfl (E.lss rfl rfl) ?_
    refine FL.nil ?_
    refine FW.condF rfl dlt_len ?_
    refine FW.exit ?_
    exact ⟨nofun, rfl, _, _, S1, n1, hb, ho, kv, kk⟩
  ·
    rintro e f2 w2 ⟨rfl, H2, c2, S2, n2, hb, ho, kv, kk⟩
    refine FW.seq ?_
    refine FW.region ?_
    refine FL.val rfl rfl rfl (E.move kk) ?_
    refine FL.val rfl rfl rfl (E.assign (v := Value.int .i64 ((markFrom (fun y m => ((ResStep.mk ((PF.laws_markIntS y.clause m).1) ((PF.laws_markIntS y.clause m).2) (wr ((PF.laws_markIntS y.clause m).2 + 1)) (wr ((wr ((PF.laws_markIntS y.clause m).2 + 1)) + 1))), (wr ((wr ((wr ((PF.laws_markIntS y.clause m).2 + 1)) + 1)) + 1)))) a0 a1).2)) rfl) ?_
    refine FL.nil ?_
    refine FW.ret ?_
    exact ⟨.inr rfl, res1 rfl rfl ⟨_, _, rfl, S2, n2, hb, fun b q1 q2 => weak (F := fun b => b ∉ bl [v0] ∧ b ∉ bl c0) (fun b q => ho b q.1 q.2) b ⟨q1, q2⟩⟩⟩

theorem w_laws_heldIntS {Ha : GH} {wa : World} (hs : Sl Ha wa) (v0 : Value) (a0 : List Int) (p0 : RSl Ha eI 1 v0 a0) (a1 : Int) {r : Int} (hp : (PF.laws_heldIntS a0 a1) = some r) :
    Calls Tryz.prog 59 #[v0, Value.int .i64 a1] wa (Sc Ha wa (Value.int .i64 r)) := by
  unfold PF.laws_heldIntS at hp
  have S0 := St.init hs
  refine calls_go (N := 21) (args := [v0, Value.int .i64 a1]) Tryz.func59 rfl rfl rfl ?_
  refine FW.seq ?_
  refine FW.region ?_
  refine FL.val rfl rfl rfl (E.assign (v := Value.int .i64 0) rfl) ?_
  refine FL.nil ?_
  refine FW.seq ?_
  refine FW.seq ?_
  refine FW.region ?_
  refine FL.val rfl rfl rfl (E.assign (v := Value.int .i64 0) rfl) ?_
  refine FL.nil ?_
  obtain ⟨q22, hq, hp⟩ := bndR hp
  refine FW.block ?_
  refine FW.mono (FW.forL (S := Int) (X := Int) (fun (i22 : Nat) (s22 : Int) f w => ∃ H : GH, St Ha wa H w [] ∧ Inc Ha H ∧ f 5 = Value.int .i64 ((i22 : Nat) : Int) ∧ f 0 = v0 ∧ f 1 = Value.int .i64 s22) (fun q e f w => match q with | .go s22 => e = Exit.exit 0 ∧ (∃ H : GH, St Ha wa H w [] ∧ Inc Ha H ∧ f 1 = Value.int .i64 s22) | .rt x => ((e = Exit.ret) ∧ (fun e f w => (e = Exit.normal ∨ e = Exit.ret) ∧ ∀ a, Fr (δ := []) 21 a f → ∃ v, (results Tryz.f59 a.tmps).run Tryz.prog w = .ok v w ∧ (Sc Ha wa (Value.int .i64 x)) (.returned v) w) e f w)) hq ⟨_, S0, (Inc.rfl _), rfl, rfl, rfl⟩ ?_ ?_) ?_
  ·
    clear hp hq
    rintro i22 y21 s22 f42 w41 ⟨H38, S39, i40, k43, k44, k45⟩ hx22 o53 hp
    refine FW.seq ?_
    refine FW.seq ?_
    refine FW.region ?_
    refine FL.val rfl rfl rfl (E.move k43) ?_
    refine FL.val rfl rfl rfl (E.move k44) ?_
    refine FL.val rfl rfl rfl (E.lenP te61 rfl p0) ?_
    refine FL.val rfl rfl rfl (E.lssT rfl rfl (lss_len hx22)) ?_
    refine FL.nil ?_
    refine FW.condT rfl rfl ?_
    refine FW.skip ?_
    refine FW.seq ?_
    refine FW.block ?_
    refine FW.seq ?_
    refine FW.seq ?_
    refine FW.region ?_
    refine FL.val rfl rfl rfl (E.move k44) ?_
    refine FL.val rfl rfl rfl (E.move k43) ?_
    obtain ⟨p46, cs47, pt48, l49, at50, rel51⟩ := p0.at (ix_nat hx22)
    obtain rfl := eI_open rel51
    refine FL.val rfl rfl rfl (E.indexAddr te61 rfl rfl pt48) ?_
    refine FL.val rfl rfl rfl (E.load rfl (run_load0 Tryz.isAgg3 ((at50.mono i40).now S39.sl) rfl)) ?_
    refine FL.val rfl rfl rfl (E.move k45) ?_
    refine FL.val rfl rfl rfl (E.neq rfl rfl) ?_
    refine FL.nil ?_
    rcases ifB hp with ⟨c52, hp⟩ | ⟨c52, hp⟩
    ·
      refine FW.condT rfl c52 ?_
      refine FW.seq ?_
      refine FW.region ?_
      refine FL.val rfl rfl rfl (E.assign (v := Value.int .i64 (-1)) rfl) ?_
      refine FL.nil ?_
      refine FW.ret ?_
      obtain rfl := Option.some.inj hp
      exact ⟨nofun, rfl, ⟨.inr rfl, res1 rfl rfl ⟨rfl, S39.back⟩⟩⟩
    ·
      refine FW.condF rfl c52 ?_
      refine FW.skip ?_
      refine FW.region ?_
      refine FL.val rfl rfl rfl (E.move k45) ?_
      refine FL.val rfl rfl rfl (E.add rfl rfl) ?_
      refine FL.val rfl rfl rfl (E.assign (v := Value.int .i64 (wr (s22 + 1))) rfl) ?_
      refine FL.nil ?_
      refine FW.region ?_
      refine FL.val rfl rfl rfl (E.move k43) ?_
      refine FL.val rfl rfl rfl (E.add rfl rfl) ?_
      refine FL.val rfl rfl rfl (E.assign (v := Value.int .i64 (wr (((i22 : Nat) : Int) + 1))) rfl) ?_
      refine FL.nil ?_
      obtain rfl := Option.some.inj hp
      exact ⟨rfl, ⟨_, S39, i40, (nat_succ rfl (lt_of_get hx22) (p0.mono i40).le), k44, rfl⟩⟩
  ·
    clear hp hq
    rintro s22 f64 w63 ⟨H60, S61, i62, k65, k66, k67⟩
    refine FW.seq ?_
    refine FW.seq ?_
    refine FW.region ?_
    refine FL.val rfl rfl rfl (E.move k65) ?_
    refine FL.val rfl rfl rfl (E.move k66) ?_
    refine FL.val rfl rfl rfl (E.lenP te61 rfl p0) ?_
    refine FL.val rfl rfl rfl (E.lss rfl rfl) ?_
    refine FL.nil ?_
    refine FW.condF rfl dlt_len ?_
    refine FW.exit ?_
    exact ⟨nofun, rfl, ⟨_, S61, i62, k67⟩⟩
  ·
    clear hq
    intro e f58 w57 hD
    rcases q22 with s22 | x22
    ·
      obtain ⟨rfl, hD⟩ := hD
      obtain ⟨H54, S55, i56, k59⟩ := hD
      replace hp := el_go hp
      refine FW.seq ?_
      refine FW.region ?_
      refine FL.val rfl rfl rfl (E.move k59) ?_
      refine FL.val rfl rfl rfl (E.assign (v := Value.int .i64 s22) rfl) ?_
      refine FL.nil ?_
      refine FW.ret ?_
      obtain rfl := Option.some.inj hp
      exact ⟨.inr rfl, res1 rfl rfl ⟨rfl, S55.back⟩⟩
    ·
      obtain ⟨he, hL⟩ := hD
      replace hp := el_rt hp
      obtain rfl := Option.some.inj hp
      subst he
      exact hL

theorem w_laws_heldResStepS {Ha : GH} {wa : World} (hs : Sl Ha wa) (v0 : Value) (a0 : List ResStep) (p0 : RSl Ha eResStep 4 v0 a0) (a1 : Int) {r : Int} (hp : (PF.laws_heldResStepS a0 a1) = some r) :
    Calls Tryz.prog 34 #[v0, Value.int .i64 a1] wa (Sc Ha wa (Value.int .i64 r)) := by
  unfold PF.laws_heldResStepS at hp
  have S0 := St.init hs
  refine calls_go (N := 49) (args := [v0, Value.int .i64 a1]) Tryz.func34 rfl rfl rfl ?_
  refine FW.seq ?_
  refine FW.region ?_
  refine FL.val rfl rfl rfl (E.assign (v := Value.int .i64 0) rfl) ?_
  refine FL.nil ?_
  refine FW.seq ?_
  refine FW.seq ?_
  refine FW.region ?_
  refine FL.val rfl rfl rfl (E.assign (v := Value.int .i64 0) rfl) ?_
  refine FL.nil ?_
  obtain ⟨q22, hq, hp⟩ := bndR hp
  refine FW.block ?_
  refine FW.mono (FW.forL (S := Int) (X := Int) (fun (i22 : Nat) (s22 : Int) f w => ∃ H : GH, St Ha wa H w [] ∧ Inc Ha H ∧ f 5 = Value.int .i64 ((i22 : Nat) : Int) ∧ f 0 = v0 ∧ f 1 = Value.int .i64 s22) (fun q e f w => match q with | .go s22 => e = Exit.exit 0 ∧ (∃ H : GH, St Ha wa H w [] ∧ Inc Ha H ∧ f 1 = Value.int .i64 s22) | .rt x => ((e = Exit.ret) ∧ (fun e f w => (e = Exit.normal ∨ e = Exit.ret) ∧ ∀ a, Fr (δ := []) 49 a f → ∃ v, (results Tryz.f34 a.tmps).run Tryz.prog w = .ok v w ∧ (Sc Ha wa (Value.int .i64 x)) (.returned v) w) e f w)) hq ⟨_, S0, (Inc.rfl _), rfl, rfl, rfl⟩ ?_ ?_) ?_
  ·
    clear hp hq
    rintro i22 y21 s22 f76 w75 ⟨H72, S73, i74, k77, k78, k79⟩ hx22 o121 hp
    refine FW.seq ?_
    refine FW.seq ?_
    refine FW.region ?_
    refine FL.val rfl rfl rfl (E.move k77) ?_
    refine FL.val rfl rfl rfl (E.move k78) ?_
    refine FL.val rfl rfl rfl (E.lenP te41 rfl p0) ?_
    refine FL.val rfl rfl rfl (E.lssT rfl rfl (lss_len hx22)) ?_
    refine FL.nil ?_
    refine FW.condT rfl rfl ?_
    refine FW.skip ?_
    refine FW.seq ?_
    refine FW.block ?_
    refine FW.seq ?_
    refine FW.region ?_
    refine FL.val rfl rfl rfl (E.move k78) ?_
    refine FL.val rfl rfl rfl (E.move k77) ?_
    obtain ⟨p80, cs81, pt82, l83, at84, rel85⟩ := p0.at (ix_nat hx22)
    obtain ⟨v86, rfl, h87⟩ := eResStep_open rel85
    refine FL.val rfl rfl rfl (E.indexAddr te41 rfl rfl pt82) ?_
    refine FL.val rfl rfl rfl (E.fieldAddr tf103_0 rfl) ?_
    refine FL.val rfl rfl rfl (E.load rfl (run_load1 Tryz.isAgg61 ((at84.mono i74).now S73.sl) rfl)) ?_
    refine FL.val rfl rfl rfl (E.move k79) ?_
    obtain ⟨r88, hr89, hp⟩ := bnd hp
    refine FL.call rfl rfl rfl (E.call Tryz.call59 (A2 rfl rfl)) (w_laws_heldIntS S73.sl v86 y21.clause (h87.mono i74) s22 hr89) ?_
    rintro e w90 ⟨rfl, r91⟩
    refine ⟨_, rfl, ?_⟩
    have S92 := S73.call r91
    refine FL.val rfl rfl rfl (E.assign (v := Value.int .i64 r88) rfl) ?_
    refine FL.nil ?_
    refine FW.seq ?_
    refine FW.seq ?_
    refine FW.region ?_
    refine FL.val rfl rfl rfl (E.move (v := Value.int .i64 r88) rfl) ?_
    refine FL.val rfl rfl rfl (E.lss rfl rfl) ?_
    refine FL.nil ?_
    rcases ifB hp with ⟨c93, hp⟩ | ⟨c93, hp⟩
    ·
      refine FW.condT rfl c93 ?_
      refine FW.seq ?_
      refine FW.region ?_
      refine FL.val rfl rfl rfl (E.assign (v := Value.int .i64 (-1)) rfl) ?_
      refine FL.nil ?_
      refine FW.ret ?_
      obtain rfl := Option.some.inj hp
      exact ⟨nofun, rfl, ⟨.inr rfl, res1 rfl rfl ⟨rfl, S92.back⟩⟩⟩
    ·
      refine FW.condF rfl c93 ?_
      refine FW.skip ?_
      refine FW.seq ?_
      refine FW.seq ?_
      refine FW.region ?_
      refine FL.val rfl rfl rfl (E.move k78) ?_
      refine FL.val rfl rfl rfl (E.move k77) ?_
      obtain ⟨p94, cs95, pt96, l97, at98, rel99⟩ := p0.at (ix_nat hx22)
      obtain ⟨v100, rfl, h101⟩ := eResStep_open rel99
      refine FL.val rfl rfl rfl (E.indexAddr te41 rfl rfl pt96) ?_
      refine FL.val rfl rfl rfl (E.fieldAddr tf103_1 rfl) ?_
      refine FL.val rfl rfl rfl (E.load rfl (run_load1 Tryz.isAgg3 ((at98.mono i74).now S92.sl) rfl)) ?_
      refine FL.val rfl rfl rfl (E.move (v := Value.int .i64 r88) rfl) ?_
      refine FL.val rfl rfl rfl (E.neq rfl rfl) ?_
      refine FL.nil ?_
      rcases ifB hp with ⟨c102, hp⟩ | ⟨c102, hp⟩
      ·
        refine FW.condT rfl c102 ?_
        refine FW.seq ?_
        refine FW.region ?_
        refine FL.val rfl rfl rfl (E.assign (v := Value.int .i64 (-1)) rfl) ?_
        refine FL.nil ?_
        refine FW.ret ?_
        obtain rfl := Option.some.inj hp
        exact ⟨nofun, rfl, ⟨.inr rfl, res1 rfl rfl ⟨rfl, S92.back⟩⟩⟩
      ·
        refine FW.condF rfl c102 ?_
        refine FW.skip ?_
        refine FW.seq ?_
        refine FW.region ?_
        refine FL.val rfl rfl rfl (E.move (v := Value.int .i64 r88) rfl) ?_
        refine FL.val rfl rfl rfl (E.add rfl rfl) ?_
        refine FL.val rfl rfl rfl (E.assign (v := Value.int .i64 (wr (r88 + 1))) rfl) ?_
        refine FL.nil ?_
        refine FW.seq ?_
        refine FW.seq ?_
        refine FW.region ?_
        refine FL.val rfl rfl rfl (E.move k78) ?_
        refine FL.val rfl rfl rfl (E.move k77) ?_
        obtain ⟨p103, cs104, pt105, l106, at107, rel108⟩ := p0.at (ix_nat hx22)
        obtain ⟨v109, rfl, h110⟩ := eResStep_open rel108
        refine FL.val rfl rfl rfl (E.indexAddr te41 rfl rfl pt105) ?_
        refine FL.val rfl rfl rfl (E.fieldAddr tf103_2 rfl) ?_
        refine FL.val rfl rfl rfl (E.load rfl (run_load1 Tryz.isAgg3 ((at107.mono i74).now S92.sl) rfl)) ?_
        refine FL.val rfl rfl rfl (E.move (v := Value.int .i64 (wr (r88 + 1))) rfl) ?_
        refine FL.val rfl rfl rfl (E.neq rfl rfl) ?_
        refine FL.nil ?_
        rcases ifB hp with ⟨c111, hp⟩ | ⟨c111, hp⟩
        ·
          refine FW.condT rfl c111 ?_
          refine FW.seq ?_
          refine FW.region ?_
          refine FL.val rfl rfl rfl (E.assign (v := Value.int .i64 (-1)) rfl) ?_
          refine FL.nil ?_
          refine FW.ret ?_
          obtain rfl := Option.some.inj hp
          exact ⟨nofun, rfl, ⟨.inr rfl, res1 rfl rfl ⟨rfl, S92.back⟩⟩⟩
        ·
          refine FW.condF rfl c111 ?_
          refine FW.skip ?_
          refine FW.seq ?_
          refine FW.region ?_
          refine FL.val rfl rfl rfl (E.move (v := Value.int .i64 (wr (r88 + 1))) rfl) ?_
          refine FL.val rfl rfl rfl (E.add rfl rfl) ?_
          refine FL.val rfl rfl rfl (E.assign (v := Value.int .i64 (wr ((wr (r88 + 1)) + 1))) rfl) ?_
          refine FL.nil ?_
          refine FW.seq ?_
          refine FW.seq ?_
          refine FW.region ?_
          refine FL.val rfl rfl rfl (E.move k78) ?_
          refine FL.val rfl rfl rfl (E.move k77) ?_
          obtain ⟨p112, cs113, pt114, l115, at116, rel117⟩ := p0.at (ix_nat hx22)
          obtain ⟨v118, rfl, h119⟩ := eResStep_open rel117
          refine FL.val rfl rfl rfl (E.indexAddr te41 rfl rfl pt114) ?_
          refine FL.val rfl rfl rfl (E.fieldAddr tf103_3 rfl) ?_
          refine FL.val rfl rfl rfl (E.load rfl (run_load1 Tryz.isAgg3 ((at116.mono i74).now S92.sl) rfl)) ?_
          refine FL.val rfl rfl rfl (E.move (v := Value.int .i64 (wr ((wr (r88 + 1)) + 1))) rfl) ?_
          refine FL.val rfl rfl rfl (E.neq rfl rfl) ?_
          refine FL.nil ?_
          rcases ifB hp with ⟨c120, hp⟩ | ⟨c120, hp⟩
          ·
            refine FW.condT rfl c120 ?_
            refine FW.seq ?_
            refine FW.region ?_
            refine FL.val rfl rfl rfl (E.assign (v := Value.int .i64 (-1)) rfl) ?_
            refine FL.nil ?_
            refine FW.ret ?_
            obtain rfl := Option.some.inj hp
            exact ⟨nofun, rfl, ⟨.inr rfl, res1 rfl rfl ⟨rfl, S92.back⟩⟩⟩
          ·
            refine FW.condF rfl c120 ?_
            refine FW.skip ?_
            refine FW.region ?_
            refine FL.val rfl rfl rfl (E.move (v := Value.int .i64 (wr ((wr (r88 + 1)) + 1))) rfl) ?_
            refine FL.val rfl rfl rfl (E.add rfl rfl) ?_
            refine FL.val rfl rfl rfl (E.assign (v := Value.int .i64 (wr ((wr ((wr (r88 + 1)) + 1)) + 1))) rfl) ?_
            refine FL.nil ?_
            refine FW.region ?_
            refine FL.val rfl rfl rfl (E.move k77) ?_
            refine FL.val rfl rfl rfl (E.add rfl rfl) ?_
            refine FL.val rfl rfl rfl (E.assign (v := Value.int .i64 (wr (((i22 : Nat) : Int) + 1))) rfl) ?_
            refine FL.nil ?_
            obtain rfl := Option.some.inj hp
            exact ⟨rfl, ⟨_, S92, i74, (nat_succ rfl (lt_of_get hx22) (p0.mono i74).le), k78, rfl⟩⟩
  ·
    clear hp hq
    rintro s22 f132 w131 ⟨H128, S129, i130, k133, k134, k135⟩
    refine FW.seq ?_
    refine FW.seq ?_
    refine FW.region ?_
    refine FL.val rfl rfl rfl (E.move k133) ?_
    refine FL.val rfl rfl rfl (E.move k134) ?_
    refine FL.val rfl rfl rfl (E.lenP te41 rfl p0) ?_
    refine FL.val rfl rfl rfl (E.lss rfl rfl) ?_
    refine FL.nil ?_
    refine FW.condF rfl dlt_len ?_
    refine FW.exit ?_
    exact ⟨nofun, rfl, ⟨_, S129, i130, k135⟩⟩
  ·
    clear hq
    intro e f126 w125 hD
    rcases q22 with s22 | x22
    ·
      obtain ⟨rfl, hD⟩ := hD
      obtain ⟨H122, S123, i124, k127⟩ := hD
      replace hp := el_go hp
      refine FW.seq ?_
      refine FW.region ?_
      refine FL.val rfl rfl rfl (E.move k127) ?_
      refine FL.val rfl rfl rfl (E.assign (v := Value.int .i64 s22) rfl) ?_
      refine FL.nil ?_
      refine FW.ret ?_
      obtain rfl := Option.some.inj hp
      exact ⟨.inr rfl, res1 rfl rfl ⟨rfl, S123.back⟩⟩
    ·
      obtain ⟨he, hL⟩ := hD
      replace hp := el_rt hp
      obtain rfl := Option.some.inj hp
      subst he
      exact hL

set_option maxHeartbeats 4000000 in
theorem w_laws_FnExactTrimSteps {Ha : GH} {wa : World} (hs : Sl Ha wa) (a0 : Cnf) (v0_1 : Value) (p0_1 : RSl Ha (eL eI 1) 1 v0_1 a0.clauses) (v1 : Value) (a1 : List ResStep) (p1 : RSl Ha eResStep 4 v1 a1) {r : Bool} (hp : (PF.laws_FnExactTrimSteps a0 a1) = some r) :
    Calls Tryz.prog 10 #[Value.agg #[Value.int .i64 a0.vars, v0_1], v1] wa (Sc Ha wa (Value.bool r)) := by
  unfold PF.laws_FnExactTrimSteps at hp
  have S0 := St.init hs
  refine calls_go (N := 119) (args := [Value.agg #[Value.int .i64 a0.vars, v0_1], v1]) Tryz.func10 rfl rfl rfl ?_
  refine FW.seq ?_
  refine FW.region ?_
  obtain ⟨w21, run22, S23, z24⟩ := S0.boxB (P := Tryz.prog) 24 [Value.int .i64 a0.vars, v0_1] (v := Value.agg #[Value.int .i64 a0.vars, v0_1]) rfl (ones_cons rfl (ones_cons p0_1.one ones_nil))
  refine FL.val rfl rfl rfl (E.box rfl run22) ?_
  obtain ⟨H25, S26, i27, at28⟩ := S23.sealBoxB (i := 0) (l' := []) rfl rfl
  refine FL.val rfl rfl rfl (E.assign (v := Value.bool false) rfl) ?_
  refine FL.nil ?_
  refine FW.seq ?_
  refine FW.region ?_
  refine FL.val rfl rfl rfl (E.assign (v := Value.int .i64 1048576) rfl) ?_
  refine FL.nil ?_
  refine FW.seq ?_
  refine FW.region ?_
  refine FL.val rfl rfl rfl (E.load rfl (run_loadA Tryz.isAgg24 Tryz.sizeOf24 ((at28.mono sgI).now S26.sl) rfl)) ?_
  refine FL.val rfl rfl rfl (E.move (v := Value.int .i64 1048576) rfl) ?_
  obtain ⟨r29, hr30, hp⟩ := bnd hp
  refine FL.call rfl rfl rfl (E.call Tryz.call15 (A2 rfl rfl)) (w_laws_szCnf S26.sl a0 v0_1 (p0_1.mono i27) 1048576 hr30) ?_
  rintro e w31 ⟨rfl, r32⟩
  refine ⟨_, rfl, ?_⟩
  have S33 := S26.call r32
  have z34 := r32.bel.size
  refine FL.val rfl rfl rfl (E.assign (v := Value.int .i64 r29) rfl) ?_
  refine FL.nil ?_
  refine FW.seq ?_
  refine FW.seq ?_
  refine FW.region ?_
  refine FL.val rfl rfl rfl (E.move (v := Value.int .i64 r29) rfl) ?_
  refine FL.val rfl rfl rfl (E.lss rfl rfl) ?_
  refine FL.nil ?_
  rcases ifB hp with ⟨c35, hp⟩ | ⟨c35, hp⟩
  ·
    refine FW.condT rfl c35 ?_
    refine FW.seq ?_
    refine FW.region ?_
    refine FL.val rfl rfl rfl (E.assign (v := Value.bool true) rfl) ?_
    refine FL.nil ?_
    refine FW.ret ?_
    obtain rfl := Option.some.inj hp
    exact ⟨.inr rfl, res1 rfl rfl ⟨rfl, S33.back⟩⟩
  ·
    refine FW.condF rfl c35 ?_
    refine FW.skip ?_
    refine FW.seq ?_
    refine FW.region ?_
    refine FL.val rfl rfl rfl (E.move (v := v1) rfl) ?_
    refine FL.val rfl rfl rfl (E.move (v := Value.int .i64 r29) rfl) ?_
    obtain ⟨r36, hr37, hp⟩ := bnd hp
    refine FL.call rfl rfl rfl (E.call Tryz.call41 (A2 rfl rfl)) (w_laws_szResStepS S33.sl v1 a1 (p1.mono i27) r29 hr37) ?_
    rintro e w38 ⟨rfl, r39⟩
    refine ⟨_, rfl, ?_⟩
    have S40 := S33.call r39
    have z41 := r39.bel.size
    refine FL.val rfl rfl rfl (E.assign (v := Value.int .i64 r36) rfl) ?_
    refine FL.nil ?_
    refine FW.seq ?_
    refine FW.seq ?_
    refine FW.region ?_
    refine FL.val rfl rfl rfl (E.move (v := Value.int .i64 r36) rfl) ?_
    refine FL.val rfl rfl rfl (E.lss rfl rfl) ?_
    refine FL.nil ?_
    rcases ifB hp with ⟨c42, hp⟩ | ⟨c42, hp⟩
    ·
      refine FW.condT rfl c42 ?_
      refine FW.seq ?_
      refine FW.region ?_
      refine FL.val rfl rfl rfl (E.assign (v := Value.bool true) rfl) ?_
      refine FL.nil ?_
      refine FW.ret ?_
      obtain rfl := Option.some.inj hp
      exact ⟨.inr rfl, res1 rfl rfl ⟨rfl, S40.back⟩⟩
    ·
      refine FW.condF rfl c42 ?_
      refine FW.skip ?_
      refine FW.seq ?_
      refine FW.region ?_
      refine FL.val rfl rfl rfl (E.load rfl (run_loadA Tryz.isAgg24 Tryz.sizeOf24 ((at28.mono sgI).now S40.sl) rfl)) ?_
      obtain ⟨r43, hr44, hp⟩ := bnd hp
      refine FL.call rfl rfl rfl (E.call Tryz.call18 (A1 rfl)) (w_laws_toCnf S40.sl a0 v0_1 (p0_1.mono i27) hr44) ?_
      rintro e w46 ⟨H45, v49, rfl, r48, ⟨c52, ns51⟩⟩
      refine ⟨_, rfl, ?_⟩
      have h50 := ns51.rsl
      have nv53 : New H25 [v49] := New.of_up S40.sl h50.dom
      have S47 := S40.call r48
      have z54 := r48.bel.size
      have h50 := h50.mono (sg_of S47.sl)
      have ns51 := ns51.mono (sg_of S47.sl)
      refine FL.val rfl rfl rfl (E.move (v := v1) rfl) ?_
      obtain ⟨r55, hr56, hp⟩ := bnd hp
      refine FL.call rfl rfl rfl (E.call Tryz.call43 (A1 rfl)) (w_laws_toResStepS S47.sl v1 a1 (p1.mono (i27.tr r48.inc)) hr56) ?_
      rintro e w58 ⟨H57, v61, n62, cs63, rfl, r60, els64, nd65⟩
      refine ⟨_, rfl, ?_⟩
      have nv66 : New H45 cs63 := New.of_up S47.sl els64.dom
      obtain ⟨H67, r68, i69, ns72, nv71⟩ := r60.sealRowN (i := 0) (l' := []) rfl els64 nd65 (by decide) rfl
      have h70 := ns72.rsl
      have S59 := S47.call r68.run
      have z73 := r68.run.bel.size
      have h70 := h70.mono (sg_of S59.sl)
      have ns72 := ns72.mono (sg_of S59.sl)
      obtain ⟨r74, hr75, hp⟩ := bnd hp
      refine FL.call rfl rfl rfl (E.call Tryz.call54 (A2 rfl rfl)) (w_spec_TrimSteps S59.sl r43 v49 (h50.mono (sgI.tr r68.run.inc)) v61 r55 (h70.mono sgI) hr75) ?_
      rintro e w77 ⟨H76, v80, n81, cs82, rfl, r79, els83, nd84⟩
      refine ⟨_, rfl, ?_⟩
      have nv85 : New H67 cs82 := New.of_up S59.sl els83.dom
      obtain ⟨H86, r87, i88, ns91, nv90⟩ := r79.sealRowN (i := 0) (l' := []) rfl els83 nd84 (by decide) rfl
      have h89 := ns91.rsl
      have S78 := S59.call r87.run
      have z92 := r87.run.bel.size
      have h89 := h89.mono (sg_of S78.sl)
      have ns91 := ns91.mono (sg_of S78.sl)
      refine FL.val rfl rfl rfl (E.move (v := Value.tuple #[v80, Value.bool r74.2]) rfl) ?_
      refine FL.val rfl rfl rfl (E.extract (i := 0) rfl rfl) ?_
      refine FL.val rfl rfl rfl (E.extract (i := 1) rfl rfl) ?_
      refine FL.val rfl rfl rfl (E.assign (v := v80) rfl) ?_
      refine FL.val rfl rfl rfl (E.assign (v := Value.bool r74.2) rfl) ?_
      refine FL.nil ?_
      refine FW.seq ?_
      refine FW.region ?_
      refine FL.val rfl rfl rfl (E.load rfl (run_loadA Tryz.isAgg24 Tryz.sizeOf24 ((at28.mono (sgI.tr ((r48.inc.tr r68.run.inc).tr r87.run.inc))).now S78.sl) rfl)) ?_
      obtain ⟨r93, hr94, hp⟩ := bnd hp
      refine FL.call rfl rfl rfl (E.call Tryz.call18 (A1 rfl)) (w_laws_toCnf S78.sl a0 v0_1 (p0_1.mono (((i27.tr r48.inc).tr r68.run.inc).tr r87.run.inc)) hr94) ?_
      rintro e w96 ⟨H95, v99, rfl, r98, ⟨c102, ns101⟩⟩
      refine ⟨_, rfl, ?_⟩
      have h100 := ns101.rsl
      have nv103 : New H86 [v99] := New.of_up S78.sl h100.dom
      have S97 := S78.call r98
      have z104 := r98.bel.size
      have h100 := h100.mono (sg_of S97.sl)
      have ns101 := ns101.mono (sg_of S97.sl)
      obtain ⟨w105, run106, S107, z108⟩ := S97.allocB (P := Tryz.prog) 30 [Value.int .i64 0, Value.slice none 0 0] Tryz.zeroValue30 rfl (ones_cons rfl (ones_cons rfl ones_nil))
      refine FL.val rfl rfl rfl (E.alloc run106) ?_
      obtain ⟨w109, run110, S111, z112⟩ := S107.store0B (P := Tryz.prog) (t := 30) (i := 0) (cs' := [Value.int .i64 r93.vars, v99]) (l' := [.box w96.heap.size 30 [Value.int .i64 r93.vars, v99]]) (v := Value.agg #[Value.int .i64 r93.vars, v99]) (c := [Value.int .i64 r93.vars, v99]) rfl Tryz.sizeOf30 rfl rfl (ones_cons rfl (ones_cons h100.one ones_nil)) (Nat.le_of_ble_eq_true rfl) rfl rfl
      refine FL.act rfl rfl (E.store rfl rfl run110) ?_
      obtain ⟨H113, S114, i115, at116⟩ := S111.sealBoxB (i := 0) (l' := []) rfl rfl
      refine FL.nil ?_
      refine FW.seq ?_
      refine FW.region ?_
      refine FL.val rfl rfl rfl (E.move (v := v1) rfl) ?_
      obtain ⟨r117, hr118, hp⟩ := bnd hp
      refine FL.call rfl rfl rfl (E.call Tryz.call43 (A1 rfl)) (w_laws_toResStepS S114.sl v1 a1 (p1.mono (((((i27.tr r48.inc).tr r68.run.inc).tr r87.run.inc).tr r98.inc).tr i115)) hr118) ?_
      rintro e w120 ⟨H119, v123, n124, cs125, rfl, r122, els126, nd127⟩
      refine ⟨_, rfl, ?_⟩
      have nv128 : New H113 cs125 := New.of_up S114.sl els126.dom
      obtain ⟨H129, r130, i131, ns134, nv133⟩ := r122.sealRowN (i := 0) (l' := []) rfl els126 nd127 (by decide) rfl
      have h132 := ns134.rsl
      have S121 := S114.call r130.run
      have z135 := r130.run.bel.size
      have h132 := h132.mono (sg_of S121.sl)
      have ns134 := ns134.mono (sg_of S121.sl)
      refine FL.val rfl rfl rfl (E.assign (v := v123) rfl) ?_
      refine FL.nil ?_
      refine FW.seq ?_
      refine FW.region ?_
      refine FL.val rfl rfl rfl (E.load rfl (run_loadA Tryz.isAgg30 Tryz.sizeOf30 ((at116.mono (sgI.tr r130.run.inc)).now S121.sl) rfl)) ?_
      refine FL.val rfl rfl rfl (E.move (v := v123) rfl) ?_
      obtain ⟨r136, hr137, hp⟩ := bnd hp
      refine FL.call rfl rfl rfl (E.call Tryz.call55 (A2 rfl rfl)) (w_impl_TrimSteps S121.sl r93 v99 (h100.mono (sgI.tr (i115.tr r130.run.inc))) v123 r117 (h132.mono sgI) hr137) ?_
      rintro e w139 ⟨H138, v142, n143, cs144, rfl, r141, els145, nd146⟩
      refine ⟨_, rfl, ?_⟩
      have nv147 : New H129 cs144 := New.of_up S121.sl els145.dom
      obtain ⟨H148, r149, i150, ns153, nv152⟩ := r141.sealRowN (i := 0) (l' := []) rfl els145 nd146 (by decide) rfl
      have h151 := ns153.rsl
      have S140 := S121.call r149.run
      have z154 := r149.run.bel.size
      have h151 := h151.mono (sg_of S140.sl)
      have ns153 := ns153.mono (sg_of S140.sl)
      refine FL.val rfl rfl rfl (E.move (v := Value.tuple #[v142, Value.bool r136.2]) rfl) ?_
      refine FL.val rfl rfl rfl (E.extract (i := 0) rfl rfl) ?_
      refine FL.val rfl rfl rfl (E.extract (i := 1) rfl rfl) ?_
      refine FL.val rfl rfl rfl (E.assign (v := v142) rfl) ?_
      refine FL.val rfl rfl rfl (E.assign (v := Value.bool r136.2) rfl) ?_
      refine FL.nil ?_
      refine FW.seq ?_
      refine FW.seq ?_
      refine FW.region ?_
      refine FL.val rfl rfl rfl (E.move (v := v142) rfl) ?_
      refine FL.val rfl rfl rfl (E.move (v := v80) rfl) ?_
      obtain ⟨r155, hr156, hp⟩ := bnd hp
      refine FL.call rfl rfl rfl (E.call Tryz.call32 (A2 rfl rfl)) (w_laws_eqResStepS S140.sl v142 r136.1 (h151.mono sgI) v80 r74.1 (h89.mono (sgI.tr (((r98.inc.tr i115).tr r130.run.inc).tr r149.run.inc))) hr156) ?_
      rintro e w157 ⟨rfl, r158⟩
      refine ⟨_, rfl, ?_⟩
      have S159 := S140.call r158
      have z160 := r158.bel.size
      refine FL.val rfl rfl rfl (E.not rfl) ?_
      refine FL.val rfl rfl rfl (E.move (v := Value.bool (!r155)) rfl) ?_
      refine FL.cut 4 (fun f w => ∃ H : GH, St Ha wa H w [] ∧ Inc H148 H ∧ f 1 = v1 ∧ f 2 = Value.pointer (some ⟨wa.heap.size, 0, none⟩) ∧ f 6 = v80 ∧ f 7 = Value.bool r74.2 ∧ f 8 = Value.pointer (some ⟨w96.heap.size, 0, none⟩) ∧ f 9 = v123 ∧ f 10 = v142 ∧ f 11 = Value.bool r136.2 ∧ f 53 = Value.bool (bif (!r155) then true else (!(r136.2 == r74.2)))) ?_ ?_
      ·
        rcases bcase (!r155) with c167 | c167
        ·
          refine FL.skip (wF_no rfl rfl rfl c167) rfl ?_
          refine FL.skip (wF_no rfl rfl rfl c167) rfl ?_
          refine FL.skip (wF_no rfl rfl rfl c167) rfl ?_
          refine FL.val rfl rfl rfl (E.pickT rfl c167 rfl) ?_
          exact FL.nil ⟨rfl, _, S159, (Inc.rfl _), rfl, rfl, rfl, rfl, rfl, rfl, rfl, rfl, (congrArg Value.bool (bifT c167).symm)⟩
        ·
          refine FL.val (wF_yes rfl rfl rfl c167) rfl rfl (E.move (v := Value.bool r136.2) rfl) ?_
          refine FL.val (wF_yes rfl rfl rfl c167) rfl rfl (E.move (v := Value.bool r74.2) rfl) ?_
          refine FL.val (wF_yes rfl rfl rfl c167) rfl rfl (E.neqB Tryz.runUnderlying4 rfl rfl) ?_
          refine FL.val rfl rfl rfl (E.pickF rfl c167 rfl) ?_
          exact FL.nil ⟨rfl, _, S159, (Inc.rfl _), rfl, rfl, rfl, rfl, rfl, rfl, rfl, rfl, (congrArg Value.bool (bifF c167).symm)⟩
      rintro f166 w165 ⟨H162, S163, i164, k168, k169, k170, k171, k172, k173, k174, k175, k176⟩
      refine FL.nil ?_
      rcases ifB hp with ⟨c177, hp⟩ | ⟨c177, hp⟩
      ·
        refine FW.condT k176 c177 ?_
        refine FW.seq ?_
        refine FW.region ?_
        refine FL.val rfl rfl rfl (E.assign (v := Value.bool false) rfl) ?_
        refine FL.nil ?_
        refine FW.ret ?_
        obtain rfl := Option.some.inj hp
        exact ⟨.inr rfl, res1 rfl rfl ⟨rfl, S163.back⟩⟩
      ·
        refine FW.condF k176 c177 ?_
        refine FW.skip ?_
        refine FW.seq ?_
        refine FW.seq ?_
        obtain ⟨r1378, hr1379, hp⟩ := bnd hp
        obtain ⟨r1778, hr1779, hp⟩ := bnd hp
        refine FW.drawA (Sl H162) (fun f w => ∃ H : GH, St Ha wa H w [] ∧ Inc H162 H ∧ f 1 = v1 ∧ f 2 = Value.pointer (some ⟨wa.heap.size, 0, none⟩) ∧ f 6 = v80 ∧ f 7 = Value.bool r74.2 ∧ f 8 = Value.pointer (some ⟨w96.heap.size, 0, none⟩) ∧ f 9 = v123 ∧ f 10 = v142 ∧ f 11 = Value.bool r136.2 ∧ f 58 = Value.bool (!r1778)) (by kernel_rfl) S163.sl ?_ ?_
        ·
          intro w178 r179
          have S180 := S163.call r179
          refine FA.take (i := 0) (l' := #[true, false, false, false, false]) rfl (by kernel_rfl) (by kernel_rfl) (by kernel_rfl) (by kernel_rfl) S180.sl rfl rfl rfl (fun w' hw' => (E.load k172 (run_loadA Tryz.isAgg30 Tryz.sizeOf30 ((at116.mono (sgI.tr ((r130.run.inc.tr r149.run.inc).tr i164))).now hw') rfl))) ?_
          refine FA.take (i := 1) (l' := #[true, true, false, false, false]) rfl (by kernel_rfl) (by kernel_rfl) (by kernel_rfl) (by kernel_rfl) S180.sl rfl rfl rfl (fun w' hw' => (E.load k169 (run_loadA Tryz.isAgg24 Tryz.sizeOf24 ((at28.mono (sgI.tr (((((((r48.inc.tr r68.run.inc).tr r87.run.inc).tr r98.inc).tr i115).tr r130.run.inc).tr r149.run.inc).tr i164))).now hw') rfl))) ?_
          refine FA.all1 (i := 2) (by kernel_rfl) ?_
          ·
            refine FO.call (l' := #[true, true, true, false, false]) rfl (by kernel_rfl) rfl rfl rfl (E.call Tryz.call18 (A1 rfl)) (w_laws_toCnf S180.sl a0 v0_1 (p0_1.mono ((((((((i27.tr r48.inc).tr r68.run.inc).tr r87.run.inc).tr r98.inc).tr i115).tr r130.run.inc).tr r149.run.inc).tr i164)) hr1379) ?_
            rintro e w1381 ⟨H1380, v1384, rfl, r1383, ⟨c1387, ns1386⟩⟩
            refine ⟨_, rfl, ?_⟩
            have h1385 := ns1386.rsl
            have nv1388 : New H162 [v1384] := New.of_up S180.sl h1385.dom
            have S1382 := S180.call r1383
            have z1389 := r1383.bel.size
            have h1385 := h1385.mono (sg_of S1382.sl)
            have ns1386 := ns1386.mono (sg_of S1382.sl)
            refine ⟨(Sl.of_inc r1383.inc S1382.sl), ?_⟩
            refine FA.all1 (i := 3) (by kernel_rfl) ?_
            ·
              refine FO.call (l' := #[true, true, true, true, false]) rfl (by kernel_rfl) rfl rfl rfl (E.call Tryz.call22 (A2 rfl rfl)) (w_laws_eqCnf S1382.sl r93 v99 (h100.mono (sgI.tr ((((i115.tr r130.run.inc).tr r149.run.inc).tr i164).tr r1383.inc))) r1378 v1384 (h1385.mono sgI) hr1779) ?_
              rintro e w1780 ⟨rfl, r1781⟩
              refine ⟨_, rfl, ?_⟩
              have S1782 := S1382.call r1781
              have z1783 := r1781.bel.size
              refine ⟨(Sl.of_inc r1383.inc S1782.sl), ?_⟩
              refine FA.take (i := 4) (l' := #[true, true, true, true, true]) rfl (by kernel_rfl) (by kernel_rfl) (by kernel_rfl) (by kernel_rfl) (Sl.of_inc r1383.inc S1782.sl) rfl rfl rfl (fun w' hw' => (E.not rfl)) ?_
              exact FA.done (by kernel_rfl) ⟨_, S1782, r1383.inc, k168, k169, k170, k171, k172, k173, k174, k175, rfl⟩
        ·
          rintro f2983 w2982 ⟨H2979, S2980, i2981, k2984, k2985, k2986, k2987, k2988, k2989, k2990, k2991, k2992⟩
          rcases ifB hp with ⟨c2993, hp⟩ | ⟨c2993, hp⟩
          ·
            refine FW.condT k2992 c2993 ?_
            refine FW.seq ?_
            refine FW.region ?_
            refine FL.val rfl rfl rfl (E.assign (v := Value.bool false) rfl) ?_
            refine FL.nil ?_
            refine FW.ret ?_
            obtain rfl := Option.some.inj hp
            exact ⟨.inr rfl, res1 rfl rfl ⟨rfl, S2980.back⟩⟩
          ·
            refine FW.condF k2992 c2993 ?_
            refine FW.skip ?_
            refine FW.seq ?_
            refine FW.seq ?_
            refine FW.region ?_
            refine FL.val rfl rfl rfl (E.move k2989) ?_
            refine FL.val rfl rfl rfl (E.move k2984) ?_
            obtain ⟨r2994, hr2995, hp⟩ := bnd hp
            refine FL.call rfl rfl rfl (E.call Tryz.call43 (A1 rfl)) (w_laws_toResStepS S2980.sl v1 a1 (p1.mono (((((((((i27.tr r48.inc).tr r68.run.inc).tr r87.run.inc).tr r98.inc).tr i115).tr r130.run.inc).tr r149.run.inc).tr i164).tr i2981)) hr2995) ?_
            rintro e w2997 ⟨H2996, v3000, n3001, cs3002, rfl, r2999, els3003, nd3004⟩
            refine ⟨_, rfl, ?_⟩
            have nv3005 : New H2979 cs3002 := New.of_up S2980.sl els3003.dom
            obtain ⟨H3006, r3007, i3008, ns3011, nv3010⟩ := r2999.sealRowN (i := 0) (l' := []) rfl els3003 nd3004 (by decide) rfl
            have h3009 := ns3011.rsl
            have S2998 := S2980.call r3007.run
            have z3012 := r3007.run.bel.size
            have h3009 := h3009.mono (sg_of S2998.sl)
            have ns3011 := ns3011.mono (sg_of S2998.sl)
            obtain ⟨r3013, hr3014, hp⟩ := bnd hp
            refine FL.call rfl rfl rfl (E.call Tryz.call32 (A2 rfl rfl)) (w_laws_eqResStepS S2998.sl v123 r117 (h132.mono (sgI.tr (((r149.run.inc.tr i164).tr i2981).tr r3007.run.inc))) v3000 r2994 (h3009.mono sgI) hr3014) ?_
            rintro e w3015 ⟨rfl, r3016⟩
            refine ⟨_, rfl, ?_⟩
            have S3017 := S2998.call r3016
            have z3018 := r3016.bel.size
            refine FL.val rfl rfl rfl (E.not rfl) ?_
            refine FL.nil ?_
            rcases ifB hp with ⟨c3019, hp⟩ | ⟨c3019, hp⟩
            ·
              refine FW.condT rfl c3019 ?_
              refine FW.seq ?_
              refine FW.region ?_
              refine FL.val rfl rfl rfl (E.assign (v := Value.bool false) rfl) ?_
              refine FL.nil ?_
              refine FW.ret ?_
              obtain rfl := Option.some.inj hp
              exact ⟨.inr rfl, res1 rfl rfl ⟨rfl, S3017.back⟩⟩
            ·
              refine FW.condF rfl c3019 ?_
              refine FW.skip ?_
              refine FW.seq ?_
              refine FW.region ?_
              refine FL.val rfl rfl rfl (E.assign (v := Value.int .i64 1) rfl) ?_
              refine FL.nil ?_
              refine FW.seq ?_
              refine FW.region ?_
              refine FL.val rfl rfl rfl (E.load k2988 (run_loadA Tryz.isAgg30 Tryz.sizeOf30 ((at116.mono (sgI.tr ((((r130.run.inc.tr r149.run.inc).tr i164).tr i2981).tr r3007.run.inc))).now S3017.sl) rfl)) ?_
              refine FL.val rfl rfl rfl (E.move (v := Value.int .i64 1) rfl) ?_
              refine FL.call rfl rfl rfl (E.call Tryz.call24 (A2 rfl rfl)) (w_laws_markCnf S3017 hs r93 v99 c102 (ns101.mono (sg_up (by omega) (((((i115.tr r130.run.inc).tr r149.run.inc).tr i164).tr i2981).tr r3007.run.inc))) 1) ?_
              rintro e w3021 ⟨H3020, c3026, rfl, S3022, ns3028, hb3027, o3024⟩
              refine ⟨_, rfl, ?_⟩
              have o3025 := (ns101.mono (sg_mono (hi := w96.heap.size) (((((i115.tr r130.run.inc).tr r149.run.inc).tr i164).tr i2981).tr r3007.run.inc))).outside o3024
              have ns3028 := ns101.span (eL_loc eI_flat) (by omega) ns3028 hb3027
              have h3023 := ns3028.rsl
              have f3029 := at28.mono ((sg_mono (lo := wa.heap.size) (hi := wa.heap.size + 1) (((((((((r48.inc.tr r68.run.inc).tr r87.run.inc).tr r98.inc).tr i115).tr r130.run.inc).tr r149.run.inc).tr i164).tr i2981).tr r3007.run.inc)).tr (sg_keep o3025 (by omega)))
              have f3030 := h89.mono ((sg_mono (lo := w58.heap.size) (hi := w77.heap.size) ((((((r98.inc.tr i115).tr r130.run.inc).tr r149.run.inc).tr i164).tr i2981).tr r3007.run.inc)).tr (sg_keep o3025 (by omega)))
              have f3031 := ns91.mono ((sg_mono (lo := w58.heap.size) (hi := w77.heap.size) ((((((r98.inc.tr i115).tr r130.run.inc).tr r149.run.inc).tr i164).tr i2981).tr r3007.run.inc)).tr (sg_keep o3025 (by omega)))
              have f3032 := at116.mono ((sg_mono (lo := w96.heap.size) (hi := w96.heap.size + 1) ((((r130.run.inc.tr r149.run.inc).tr i164).tr i2981).tr r3007.run.inc)).tr (sg_keep o3025 (by omega)))
              have f3033 := h132.mono ((sg_mono (lo := w109.heap.size) (hi := w120.heap.size) (((r149.run.inc.tr i164).tr i2981).tr r3007.run.inc)).tr (sg_keep o3025 (by omega)))
              have f3034 := ns134.mono ((sg_mono (lo := w109.heap.size) (hi := w120.heap.size) (((r149.run.inc.tr i164).tr i2981).tr r3007.run.inc)).tr (sg_keep o3025 (by omega)))
              have f3035 := h151.mono ((sg_mono (lo := w120.heap.size) (hi := w139.heap.size) ((i164.tr i2981).tr r3007.run.inc)).tr (sg_keep o3025 (by omega)))
              have f3036 := ns153.mono ((sg_mono (lo := w120.heap.size) (hi := w139.heap.size) ((i164.tr i2981).tr r3007.run.inc)).tr (sg_keep o3025 (by omega)))
              refine FL.val rfl rfl rfl (E.assign (v := Value.int .i64 ((PF.laws_markCnf r93 1).2)) rfl) ?_
              refine FL.nil ?_
              refine FW.seq ?_
              refine FW.region ?_
              refine FL.val rfl rfl rfl (E.move k2989) ?_
              refine FL.val rfl rfl rfl (E.move (v := Value.int .i64 ((PF.laws_markCnf r93 1).2)) rfl) ?_
              refine FL.call rfl rfl rfl (E.call Tryz.call33 (A2 rfl rfl)) (w_laws_markResStepS S3022 hs v123 r117 cs125 (f3034.mono (sg_up (by omega) (Inc.rfl _))) ((PF.laws_markCnf r93 1).2)) ?_
              rintro e w3038 ⟨H3037, c3043, rfl, S3039, ns3045, hb3044, o3041⟩
              refine ⟨_, rfl, ?_⟩
              have o3042 := (f3034.mono (sg_mono (hi := w120.heap.size) (Inc.rfl _))).outside o3041
              have ns3045 := f3034.span eResStep_loc (by omega) ns3045 hb3044
              have h3040 := ns3045.rsl
              have f3046 := f3029.mono ((sg_mono (lo := wa.heap.size) (hi := wa.heap.size + 1) (Inc.rfl _)).tr (sg_keep o3042 (by omega)))
              have f3047 := f3030.mono ((sg_mono (lo := w58.heap.size) (hi := w77.heap.size) (Inc.rfl _)).tr (sg_keep o3042 (by omega)))
              have f3048 := f3031.mono ((sg_mono (lo := w58.heap.size) (hi := w77.heap.size) (Inc.rfl _)).tr (sg_keep o3042 (by omega)))
              have f3049 := f3032.mono ((sg_mono (lo := w96.heap.size) (hi := w96.heap.size + 1) (Inc.rfl _)).tr (sg_keep o3042 (by omega)))
              have f3050 := h3023.mono ((sg_mono (lo := w77.heap.size) (hi := w96.heap.size) (Inc.rfl _)).tr (sg_keep o3042 (by omega)))
              have f3051 := ns3028.mono ((sg_mono (lo := w77.heap.size) (hi := w96.heap.size) (Inc.rfl _)).tr (sg_keep o3042 (by omega)))
              have f3052 := f3035.mono ((sg_mono (lo := w120.heap.size) (hi := w139.heap.size) (Inc.rfl _)).tr (sg_keep o3042 (by omega)))
              have f3053 := f3036.mono ((sg_mono (lo := w120.heap.size) (hi := w139.heap.size) (Inc.rfl _)).tr (sg_keep o3042 (by omega)))
              refine FL.val rfl rfl rfl (E.assign (v := Value.int .i64 ((PF.laws_markResStepS r117 ((PF.laws_markCnf r93 1).2)).2)) rfl) ?_
              refine FL.nil ?_
              refine FW.seq ?_
              refine FW.seq ?_
              refine FW.region ?_
              refine FL.val rfl rfl rfl (E.move (v := Value.int .i64 ((PF.laws_markResStepS r117 ((PF.laws_markCnf r93 1).2)).2)) rfl) ?_
              refine FL.val rfl rfl rfl (E.lss rfl rfl) ?_
              refine FL.val rfl rfl rfl (E.move (v := Value.bool (decide ((PF.laws_markResStepS r117 ((PF.laws_markCnf r93 1).2)).2 < 0))) rfl) ?_
              obtain ⟨t3060, hqt3060, hp⟩ := bnd hp
              refine FL.cut 5 (fun f w => ∃ H : GH, St Ha wa H w [] ∧ Inc H3037 H ∧ f 1 = v1 ∧ f 2 = Value.pointer (some ⟨wa.heap.size, 0, none⟩) ∧ f 6 = v80 ∧ f 7 = Value.bool r74.2 ∧ f 10 = v142 ∧ f 11 = Value.bool r136.2 ∧ f 77 = Value.bool t3060) ?_ ?_
              ·
                clear hp; have hp := hqt3060; clear hqt3060
                rcases ifB hp with ⟨c3066, hp⟩ | ⟨c3066, hp⟩
                ·
                  refine FL.skip (wF_no rfl rfl rfl c3066) rfl ?_
                  refine FL.skip (wF_no rfl rfl rfl c3066) rfl ?_
                  refine FL.skip (wF_no rfl rfl rfl c3066) rfl ?_
                  refine FL.skip (wF_no rfl rfl rfl c3066) rfl ?_
                  obtain rfl := Option.some.inj hp
                  refine FL.val rfl rfl rfl (E.pickT rfl c3066 rfl) ?_
                  exact FL.nil ⟨rfl, _, S3039, (Inc.rfl _), k2984, k2985, k2986, k2987, k2990, k2991, rfl⟩
                ·
                  refine FL.val (wF_yes rfl rfl rfl c3066) rfl rfl (E.move k2990) ?_
                  refine FL.val (wF_yes rfl rfl rfl c3066) rfl rfl (E.move k2986) ?_
                  obtain ⟨r3067, hr3068, hp⟩ := bnd hp
                  refine FL.call (wF_yes rfl rfl rfl c3066) rfl rfl (E.call Tryz.call32 (A2 rfl rfl)) (w_laws_eqResStepS S3039.sl v142 r136.1 (f3052.mono sgI) v80 r74.1 (f3047.mono sgI) hr3068) ?_
                  rintro e w3069 ⟨rfl, r3070⟩
                  refine ⟨_, rfl, ?_⟩
                  have S3071 := S3039.call r3070
                  have z3072 := r3070.bel.size
                  refine FL.val (wF_yes rfl rfl rfl c3066) rfl rfl (E.not rfl) ?_
                  obtain rfl := Option.some.inj hp
                  refine FL.val rfl rfl rfl (E.pickF rfl c3066 rfl) ?_
                  exact FL.nil ⟨rfl, _, S3071, (Inc.rfl _), k2984, k2985, k2986, k2987, k2990, k2991, rfl⟩
              rintro f3065 w3064 ⟨H3061, S3062, i3063, k3073, k3074, k3075, k3076, k3077, k3078, k3079⟩
              refine FL.val rfl rfl rfl (E.move k3079) ?_
              refine FL.cut 4 (fun f w => ∃ H : GH, St Ha wa H w [] ∧ Inc H3061 H ∧ f 1 = v1 ∧ f 2 = Value.pointer (some ⟨wa.heap.size, 0, none⟩) ∧ f 6 = v80 ∧ f 7 = Value.bool r74.2 ∧ f 10 = v142 ∧ f 82 = Value.bool (bif t3060 then true else (!(r136.2 == r74.2)))) ?_ ?_
              ·
                rcases bcase t3060 with c3086 | c3086
                ·
                  refine FL.skip (wF_no rfl rfl rfl c3086) rfl ?_
                  refine FL.skip (wF_no rfl rfl rfl c3086) rfl ?_
                  refine FL.skip (wF_no rfl rfl rfl c3086) rfl ?_
                  refine FL.val rfl rfl rfl (E.pickT rfl c3086 rfl) ?_
                  exact FL.nil ⟨rfl, _, S3062, (Inc.rfl _), k3073, k3074, k3075, k3076, k3077, (congrArg Value.bool (bifT c3086).symm)⟩
                ·
                  refine FL.val (wF_yes rfl rfl rfl c3086) rfl rfl (E.move k3078) ?_
                  refine FL.val (wF_yes rfl rfl rfl c3086) rfl rfl (E.move k3076) ?_
                  refine FL.val (wF_yes rfl rfl rfl c3086) rfl rfl (E.neqB Tryz.runUnderlying4 rfl rfl) ?_
                  refine FL.val rfl rfl rfl (E.pickF rfl c3086 rfl) ?_
                  exact FL.nil ⟨rfl, _, S3062, (Inc.rfl _), k3073, k3074, k3075, k3076, k3077, (congrArg Value.bool (bifF c3086).symm)⟩
              rintro f3085 w3084 ⟨H3081, S3082, i3083, k3087, k3088, k3089, k3090, k3091, k3092⟩
              refine FL.nil ?_
              rcases ifB hp with ⟨c3093, hp⟩ | ⟨c3093, hp⟩
              ·
                refine FW.condT k3092 c3093 ?_
                refine FW.seq ?_
                refine FW.region ?_
                refine FL.val rfl rfl rfl (E.assign (v := Value.bool false) rfl) ?_
                refine FL.nil ?_
                refine FW.ret ?_
                obtain rfl := Option.some.inj hp
                exact ⟨.inr rfl, res1 rfl rfl ⟨rfl, S3082.back⟩⟩
              ·
                refine FW.condF k3092 c3093 ?_
                refine FW.skip ?_
                refine FW.seq ?_
                refine FW.region ?_
                refine FL.val rfl rfl rfl (E.assign (v := Value.int .i64 1) rfl) ?_
                refine FL.nil ?_
                refine FW.seq ?_
                refine FW.region ?_
                refine FL.val rfl rfl rfl (E.move k3091) ?_
                refine FL.val rfl rfl rfl (E.move (v := Value.int .i64 1) rfl) ?_
                refine FL.call rfl rfl rfl (E.call Tryz.call33 (A2 rfl rfl)) (w_laws_markResStepS S3082 hs v142 r136.1 cs144 (f3053.mono (sg_up (by omega) (i3063.tr i3083))) 1) ?_
                rintro e w3095 ⟨H3094, c3100, rfl, S3096, ns3102, hb3101, o3098⟩
                refine ⟨_, rfl, ?_⟩
                have o3099 := (f3053.mono (sg_mono (hi := w139.heap.size) (i3063.tr i3083))).outside o3098
                have ns3102 := f3053.span eResStep_loc (by omega) ns3102 hb3101
                have h3097 := ns3102.rsl
                have f3103 := f3046.mono ((sg_mono (lo := wa.heap.size) (hi := wa.heap.size + 1) (i3063.tr i3083)).tr (sg_keep o3099 (by omega)))
                have f3104 := f3047.mono ((sg_mono (lo := w58.heap.size) (hi := w77.heap.size) (i3063.tr i3083)).tr (sg_keep o3099 (by omega)))
                have f3105 := f3048.mono ((sg_mono (lo := w58.heap.size) (hi := w77.heap.size) (i3063.tr i3083)).tr (sg_keep o3099 (by omega)))
                refine FL.val rfl rfl rfl (E.assign (v := Value.int .i64 ((PF.laws_markResStepS r136.1 1).2)) rfl) ?_
                refine FL.nil ?_
                refine FW.seq ?_
                refine FW.region ?_
                refine FL.val rfl rfl rfl (E.assign (v := Value.int .i64 1) rfl) ?_
                refine FL.nil ?_
                refine FW.seq ?_
                refine FW.region ?_
                refine FL.val rfl rfl rfl (E.move k3091) ?_
                refine FL.val rfl rfl rfl (E.move (v := Value.int .i64 1) rfl) ?_
                obtain ⟨r3106, hr3107, hp⟩ := bnd hp
                refine FL.call rfl rfl rfl (E.call Tryz.call34 (A2 rfl rfl)) (w_laws_heldResStepS S3096.sl v142 ((PF.laws_markResStepS r136.1 1).1) (h3097.mono sgI) 1 hr3107) ?_
                rintro e w3108 ⟨rfl, r3109⟩
                refine ⟨_, rfl, ?_⟩
                have S3110 := S3096.call r3109
                have z3111 := r3109.bel.size
                refine FL.val rfl rfl rfl (E.assign (v := Value.int .i64 r3106) rfl) ?_
                refine FL.nil ?_
                refine FW.seq ?_
                refine FW.seq ?_
                refine FW.region ?_
                refine FL.val rfl rfl rfl (E.move (v := Value.int .i64 r3106) rfl) ?_
                refine FL.val rfl rfl rfl (E.lss rfl rfl) ?_
                refine FL.nil ?_
                rcases ifB hp with ⟨c3112, hp⟩ | ⟨c3112, hp⟩
                ·
                  refine FW.condT rfl c3112 ?_
                  refine FW.seq ?_
                  refine FW.region ?_
                  refine FL.val rfl rfl rfl (E.assign (v := Value.bool false) rfl) ?_
                  refine FL.nil ?_
                  refine FW.ret ?_
                  obtain rfl := Option.some.inj hp
                  exact ⟨.inr rfl, res1 rfl rfl ⟨rfl, S3110.back⟩⟩
                ·
                  refine FW.condF rfl c3112 ?_
                  refine FW.skip ?_
                  refine FW.seq ?_
                  refine FW.seq ?_
                  refine FW.region ?_
                  refine FL.val rfl rfl rfl (E.move (v := Value.int .i64 r3106) rfl) ?_
                  refine FL.val rfl rfl rfl (E.move (v := Value.int .i64 ((PF.laws_markResStepS r136.1 1).2)) rfl) ?_
                  refine FL.val rfl rfl rfl (E.neq rfl rfl) ?_
                  refine FL.nil ?_
                  rcases ifB hp with ⟨c3113, hp⟩ | ⟨c3113, hp⟩
                  ·
                    refine FW.condT rfl c3113 ?_
                    refine FW.seq ?_
                    refine FW.region ?_
                    refine FL.val rfl rfl rfl (E.assign (v := Value.bool false) rfl) ?_
                    refine FL.nil ?_
                    refine FW.ret ?_
                    obtain rfl := Option.some.inj hp
                    exact ⟨.inr rfl, res1 rfl rfl ⟨rfl, S3110.back⟩⟩
                  ·
                    refine FW.condF rfl c3113 ?_
                    refine FW.skip ?_
                    refine FW.seq ?_
                    refine FW.region ?_
                    refine FL.val rfl rfl rfl (E.load k3088 (run_loadA Tryz.isAgg24 Tryz.sizeOf24 ((f3103.mono sgI).now S3110.sl) rfl)) ?_
                    obtain ⟨r3114, hr3115, hp⟩ := bnd hp
                    refine FL.call rfl rfl rfl (E.call Tryz.call18 (A1 rfl)) (w_laws_toCnf S3110.sl a0 v0_1 (p0_1.mono S3096.inc) hr3115) ?_
                    rintro e w3117 ⟨H3116, v3120, rfl, r3119, ⟨c3123, ns3122⟩⟩
                    refine ⟨_, rfl, ?_⟩
                    have h3121 := ns3122.rsl
                    have nv3124 : New H3094 [v3120] := New.of_up S3110.sl h3121.dom
                    have S3118 := S3110.call r3119
                    have z3125 := r3119.bel.size
                    have h3121 := h3121.mono (sg_of S3118.sl)
                    have ns3122 := ns3122.mono (sg_of S3118.sl)
                    refine FL.val rfl rfl rfl (E.move k3087) ?_
                    obtain ⟨r3126, hr3127, hp⟩ := bnd hp
                    refine FL.call rfl rfl rfl (E.call Tryz.call43 (A1 rfl)) (w_laws_toResStepS S3118.sl v1 a1 (p1.mono (S3096.inc.tr r3119.inc)) hr3127) ?_
                    rintro e w3129 ⟨H3128, v3132, n3133, cs3134, rfl, r3131, els3135, nd3136⟩
                    refine ⟨_, rfl, ?_⟩
                    have nv3137 : New H3116 cs3134 := New.of_up S3118.sl els3135.dom
                    obtain ⟨H3138, r3139, i3140, ns3143, nv3142⟩ := r3131.sealRowN (i := 0) (l' := []) rfl els3135 nd3136 (by decide) rfl
                    have h3141 := ns3143.rsl
                    have S3130 := S3118.call r3139.run
                    have z3144 := r3139.run.bel.size
                    have h3141 := h3141.mono (sg_of S3130.sl)
                    have ns3143 := ns3143.mono (sg_of S3130.sl)
                    obtain ⟨r3145, hr3146, hp⟩ := bnd hp
                    refine FL.call rfl rfl rfl (E.call Tryz.call55 (A2 rfl rfl)) (w_impl_TrimSteps S3130.sl r3114 v3120 (h3121.mono (sgI.tr r3139.run.inc)) v3132 r3126 (h3141.mono sgI) hr3146) ?_
                    rintro e w3148 ⟨H3147, v3151, n3152, cs3153, rfl, r3150, els3154, nd3155⟩
                    refine ⟨_, rfl, ?_⟩
                    have nv3156 : New H3138 cs3153 := New.of_up S3130.sl els3154.dom
                    obtain ⟨H3157, r3158, i3159, ns3162, nv3161⟩ := r3150.sealRowN (i := 0) (l' := []) rfl els3154 nd3155 (by decide) rfl
                    have h3160 := ns3162.rsl
                    have S3149 := S3130.call r3158.run
                    have z3163 := r3158.run.bel.size
                    have h3160 := h3160.mono (sg_of S3149.sl)
                    have ns3162 := ns3162.mono (sg_of S3149.sl)
                    refine FL.val rfl rfl rfl (E.move (v := Value.tuple #[v3151, Value.bool r3145.2]) rfl) ?_
                    refine FL.val rfl rfl rfl (E.extract (i := 0) rfl rfl) ?_
                    refine FL.val rfl rfl rfl (E.extract (i := 1) rfl rfl) ?_
                    refine FL.val rfl rfl rfl (E.assign (v := v3151) rfl) ?_
                    refine FL.val rfl rfl rfl (E.assign (v := Value.bool r3145.2) rfl) ?_
                    refine FL.nil ?_
                    refine FW.seq ?_
                    refine FW.seq ?_
                    refine FW.region ?_
                    refine FL.val rfl rfl rfl (E.move (v := v3151) rfl) ?_
                    refine FL.val rfl rfl rfl (E.move k3089) ?_
                    obtain ⟨r3164, hr3165, hp⟩ := bnd hp
                    refine FL.call rfl rfl rfl (E.call Tryz.call32 (A2 rfl rfl)) (w_laws_eqResStepS S3149.sl v3151 r3145.1 (h3160.mono sgI) v80 r74.1 (f3104.mono (sgI.tr ((r3119.inc.tr r3139.run.inc).tr r3158.run.inc))) hr3165) ?_
                    rintro e w3166 ⟨rfl, r3167⟩
                    refine ⟨_, rfl, ?_⟩
                    have S3168 := S3149.call r3167
                    have z3169 := r3167.bel.size
                    refine FL.val rfl rfl rfl (E.not rfl) ?_
                    refine FL.val rfl rfl rfl (E.move (v := Value.bool (!r3164)) rfl) ?_
                    refine FL.cut 4 (fun f w => ∃ H : GH, St Ha wa H w [] ∧ Inc H3157 H ∧ f 10 = v142 ∧ f 13 = Value.int .i64 ((PF.laws_markResStepS r136.1 1).2) ∧ f 110 = Value.bool (bif (!r3164) then true else (!(r3145.2 == r74.2)))) ?_ ?_
                    ·
                      rcases bcase (!r3164) with c3176 | c3176
                      ·
                        refine FL.skip (wF_no rfl rfl rfl c3176) rfl ?_
                        refine FL.skip (wF_no rfl rfl rfl c3176) rfl ?_
                        refine FL.skip (wF_no rfl rfl rfl c3176) rfl ?_
                        refine FL.val rfl rfl rfl (E.pickT rfl c3176 rfl) ?_
                        exact FL.nil ⟨rfl, _, S3168, (Inc.rfl _), k3091, rfl, (congrArg Value.bool (bifT c3176).symm)⟩
                      ·
                        refine FL.val (wF_yes rfl rfl rfl c3176) rfl rfl (E.move (v := Value.bool r3145.2) rfl) ?_
                        refine FL.val (wF_yes rfl rfl rfl c3176) rfl rfl (E.move k3090) ?_
                        refine FL.val (wF_yes rfl rfl rfl c3176) rfl rfl (E.neqB Tryz.runUnderlying4 rfl rfl) ?_
                        refine FL.val rfl rfl rfl (E.pickF rfl c3176 rfl) ?_
                        exact FL.nil ⟨rfl, _, S3168, (Inc.rfl _), k3091, rfl, (congrArg Value.bool (bifF c3176).symm)⟩
                    rintro f3175 w3174 ⟨H3171, S3172, i3173, k3177, k3178, k3179⟩
                    refine FL.nil ?_
                    rcases ifB hp with ⟨c3180, hp⟩ | ⟨c3180, hp⟩
                    ·
                      refine FW.condT k3179 c3180 ?_
                      refine FW.seq ?_
                      refine FW.region ?_
                      refine FL.val rfl rfl rfl (E.assign (v := Value.bool false) rfl) ?_
                      refine FL.nil ?_
                      refine FW.ret ?_
                      obtain rfl := Option.some.inj hp
                      exact ⟨.inr rfl, res1 rfl rfl ⟨rfl, S3172.back⟩⟩
                    ·
                      refine FW.condF k3179 c3180 ?_
                      refine FW.skip ?_
                      refine FW.seq ?_
                      refine FW.region ?_
                      refine FL.val rfl rfl rfl (E.assign (v := Value.int .i64 1) rfl) ?_
                      refine FL.nil ?_
                      refine FW.seq ?_
                      refine FW.region ?_
                      refine FL.val rfl rfl rfl (E.move k3177) ?_
                      refine FL.val rfl rfl rfl (E.move (v := Value.int .i64 1) rfl) ?_
                      obtain ⟨r3181, hr3182, hp⟩ := bnd hp
                      refine FL.call rfl rfl rfl (E.call Tryz.call34 (A2 rfl rfl)) (w_laws_heldResStepS S3172.sl v142 ((PF.laws_markResStepS r136.1 1).1) (h3097.mono (sgI.tr (((r3119.inc.tr r3139.run.inc).tr r3158.run.inc).tr i3173))) 1 hr3182) ?_
                      rintro e w3183 ⟨rfl, r3184⟩
                      refine ⟨_, rfl, ?_⟩
                      have S3185 := S3172.call r3184
                      have z3186 := r3184.bel.size
                      refine FL.val rfl rfl rfl (E.assign (v := Value.int .i64 r3181) rfl) ?_
                      refine FL.nil ?_
                      refine FW.seq ?_
                      refine FW.seq ?_
                      refine FW.region ?_
                      refine FL.val rfl rfl rfl (E.move (v := Value.int .i64 r3181) rfl) ?_
                      refine FL.val rfl rfl rfl (E.lss rfl rfl) ?_
                      refine FL.nil ?_
                      rcases ifB hp with ⟨c3187, hp⟩ | ⟨c3187, hp⟩
                      ·
                        refine FW.condT rfl c3187 ?_
                        refine FW.seq ?_
                        refine FW.region ?_
                        refine FL.val rfl rfl rfl (E.assign (v := Value.bool false) rfl) ?_
                        refine FL.nil ?_
                        refine FW.ret ?_
                        obtain rfl := Option.some.inj hp
                        exact ⟨.inr rfl, res1 rfl rfl ⟨rfl, S3185.back⟩⟩
                      ·
                        refine FW.condF rfl c3187 ?_
                        refine FW.skip ?_
                        refine FW.seq ?_
                        refine FW.seq ?_
                        refine FW.region ?_
                        refine FL.val rfl rfl rfl (E.move (v := Value.int .i64 r3181) rfl) ?_
                        refine FL.val rfl rfl rfl (E.move k3178) ?_
                        refine FL.val rfl rfl rfl (E.neq rfl rfl) ?_
                        refine FL.nil ?_
                        rcases ifB hp with ⟨c3188, hp⟩ | ⟨c3188, hp⟩
                        ·
                          refine FW.condT rfl c3188 ?_
                          refine FW.seq ?_
                          refine FW.region ?_
                          refine FL.val rfl rfl rfl (E.assign (v := Value.bool false) rfl) ?_
                          refine FL.nil ?_
                          refine FW.ret ?_
                          obtain rfl := Option.some.inj hp
                          exact ⟨.inr rfl, res1 rfl rfl ⟨rfl, S3185.back⟩⟩
                        ·
                          refine FW.condF rfl c3188 ?_
                          refine FW.skip ?_
                          refine FW.seq ?_
                          refine FW.region ?_
                          refine FL.val rfl rfl rfl (E.assign (v := Value.bool true) rfl) ?_
                          refine FL.nil ?_
                          refine FW.ret ?_
                          obtain rfl := Option.some.inj hp
                          exact ⟨.inr rfl, res1 rfl rfl ⟨rfl, S3185.back⟩⟩

end Go.Proofs
