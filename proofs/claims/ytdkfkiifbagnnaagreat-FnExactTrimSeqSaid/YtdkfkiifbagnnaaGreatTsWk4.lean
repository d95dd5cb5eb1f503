/- Part of the walks and plain laws behind the claim: it proves helpers, under no condition beyond their own. -/
import Derived.Test.YtdkfkiifbagnnaaGreatTsWk3
set_option linter.unusedVariables false
set_option maxRecDepth 100000
namespace Go.Proofs
open Go.Mr Go.Pu Go.PF Go.RowKit

theorem w_laws_markStringS {H0 Ha : GH} {w0 wa : World} {l : List MO} (S0 : St H0 w0 Ha wa l) (hs0 : Sl H0 w0) (v0 : Value) (a0 : List ByteArray) (p0 : RSl (up w0.heap.size Ha) eS 1 v0 a0) (a1 : Int) :
  Calls Tryz.prog 15 #[v0, Value.int .i64 a1] wa (M1 H0 w0 Ha l eS 1 v0 (PF.laws_markStringS a0 a1)) := by
 obtain ⟨c0, n0, hc0⟩ := p0.nest eS_flat (by decide)
 have hln := p0.ln
 have hle := p0.le
 refine calls_go (N := 20) (args := [v0, Value.int .i64 a1]) Tryz.func15 rfl rfl rfl ?_
 refine FW.seq (FW.region ?_)
 refine FL.v (E.assign (v := Value.int .i64 0) rfl) ?_
 refine FL.nil (FW.seq (FW.seq (FW.region ?_)))
 refine FL.v (E.assign (v := Value.int .i64 0) rfl) ?_
 refine FL.nil (FW.block ?_)
 refine FW.mono (FW.mark (F := fun y m => ((PF.laws_markText m), (wr (m + 1)))) (a0 := a0) (k0 := a1) (fun (i : Nat) (xs : List ByteArray) (k : Int) f w => ∃ (H : GH) (c : List Value), St H0 w0 H w l ∧ Nest (up w0.heap.size H) eS 1 v0 xs c ∧ bl c = bl c0 ∧ (∀ b, b ∉ bl [v0] → b ∉ bl c0 → H b = Ha b) ∧ f 0 = v0 ∧ f 1 = Value.int .i64 k ∧ f 5 = Value.int .i64 ((i : Nat) : Int)) (fun e f w => e = Exit.exit 0 ∧ ∃ (H : GH) (c : List Value), St H0 w0 H w l ∧ Nest (up w0.heap.size H) eS 1 v0 (markFrom (fun y m => ((PF.laws_markText m), (wr (m + 1)))) a0 a1).1 c ∧ bl c = bl c0 ∧ (∀ b, b ∉ bl [v0] → b ∉ bl c0 → H b = Ha b) ∧ f 0 = v0 ∧ f 1 = Value.int .i64 (markFrom (fun y m => ((PF.laws_markText m), (wr (m + 1)))) a0 a1).2) ⟨_, _, S0, n0, rfl, fun _ _ _ => rfl, rfl, rfl, rfl⟩ ?_ ?_) ?_
 ·
  rintro i y xs m f1 w1 ⟨H1, c1, S1, n1, hb, ho, kv, kk, kc⟩ hx hy
  obtain ⟨p, hpt, wr0, hB, hr, nd⟩ := n1.begin hy (by decide)
  have hci := eS_open hr
  have rd := wr0.opens hci
  refine FW.seq (FW.seq (FW.region ?_))
  refine FL.v (E.move kc) ?_
  refine FL.v (E.move kv) ?_
  refine FL.v (E.len te22 rfl hln) ?_
  refine FL.v (E.lssT rfl rfl (lss_len hx)) ?_
  refine FL.nil ?_
  refine FW.condT rfl rfl ?_
  refine FW.skip (FW.seq (FW.block (FW.seq (FW.region ?_))))
  refine FL.v (E.move kv) ?_
  refine FL.v (E.move kc) ?_
  refine FL.v (E.move kk) ?_
  refine FL.call rfl rfl rfl (E.call Tryz.call55 (A1 rfl)) (w_laws_markText S1.sl m) ?_
  rintro e w21 ⟨rfl, r22⟩
  refine ⟨_, rfl, ?_⟩
  have S23 := S1.call r22
  refine FL.v (E.indexAddr te22 rfl rfl hpt) ?_
  obtain ⟨w24, H25, run27, S26, wr28, o29⟩ := rd.poke0 (P := Tryz.prog) (t := 9) (u := Value.string (PF.laws_markText m)) S23 hs0 hB rfl rfl rfl Tryz.sizeOf9 rfl rfl (c2 := [Value.string (PF.laws_markText m)]) rfl
  refine FL.act rfl rfl (E.store rfl rfl run27) ?_
  refine FL.nil (FW.region ?_)
  refine FL.v (E.move kk) ?_
  refine FL.v (E.add rfl rfl) ?_
  refine FL.v (E.assign (v := Value.int .i64 (wr (m + 1))) rfl) ?_
  refine FL.nil (FW.region ?_)
  refine FL.v (E.move kc) ?_
  refine FL.v (E.add rfl rfl) ?_
  refine FL.v (E.assign (v := Value.int .i64 (wr (((i : Nat) : Int) + 1))) rfl) ?_
  refine FL.nil ?_
  obtain ⟨c2, n2, hb2, ho2⟩ := n1.round eS_flat.loc hy (by decide) hpt wr28 (y' := (PF.laws_markText m)) rfl
  exact ⟨rfl, _, _, S26, n2, hb2.trans hb, fun b q1 q2 => (ho2 b q1 (by rw [hb]; exact q2)).trans (ho b q1 q2), kv, rfl, nat_succ rfl (lt_of_get hx) hle⟩
 ·
  rintro f1 w1 ⟨H1, c1, S1, n1, hb, ho, kv, kk, kc⟩
  refine FW.seq (FW.seq (FW.region ?_))
  refine FL.v (E.move kc) ?_
  refine FL.v (E.move kv) ?_
  refine FL.v (E.len te22 rfl hln) ?_
  refine FL.v (E.lss rfl rfl) ?_
  refine FL.nil ?_
  refine FW.condF rfl dlt_len ?_
  refine FW.exit ?_
  exact ⟨nofun, rfl, _, _, S1, n1, hb, ho, kv, kk⟩
 ·
  rintro e f2 w2 ⟨rfl, H2, c2, S2, n2, hb, ho, kv, kk⟩
  refine FW.seq (FW.region ?_)
  refine FL.v (E.move kk) ?_
  refine FL.v (E.assign (v := Value.int .i64 ((markFrom (fun y m => ((PF.laws_markText m), (wr (m + 1)))) a0 a1).2)) rfl) ?_
  refine FL.nil ?_
  refine FW.ret ?_
  exact ⟨.inr rfl, res1 rfl rfl ⟨_, rfl, S2, n2.rsl, fun b q => ho b q (by rw [hc0]; simp)⟩⟩

theorem w_laws_markSeqStepS {H0 Ha : GH} {w0 wa : World} {l : List MO} (S0 : St H0 w0 Ha wa l) (hs0 : Sl H0 w0) (v0 : Value) (a0 : List SeqStep) (c0 : List Value) (n0 : Nest (up w0.heap.size Ha) eSeqStep 6 v0 a0 c0) (a1 : Int) :
  Calls Tryz.prog 16 #[v0, Value.int .i64 a1] wa (M2 H0 w0 Ha l eSeqStep 6 v0 c0 (PF.laws_markSeqStepS a0 a1)) := by
 have hln := n0.rsl.ln
 have hle := n0.rsl.le
 refine calls_go (N := 58) (args := [v0, Value.int .i64 a1]) Tryz.func16 rfl rfl rfl ?_
 refine FW.seq (FW.region ?_)
 refine FL.v (E.assign (v := Value.int .i64 0) rfl) ?_
 refine FL.nil (FW.seq (FW.seq (FW.region ?_)))
 refine FL.v (E.assign (v := Value.int .i64 0) rfl) ?_
 refine FL.nil (FW.block ?_)
 refine FW.mono (FW.mark (F := fun y m => ((SeqStep.mk (Sequent.mk ((PF.laws_markStringS y.seq.left m).1) ((PF.laws_markStringS y.seq.right ((PF.laws_markStringS y.seq.left m).2)).1)) ((PF.laws_markStringS y.seq.right ((PF.laws_markStringS y.seq.left m).2)).2) (PF.laws_markText (wr ((PF.laws_markStringS y.seq.right ((PF.laws_markStringS y.seq.left m).2)).2 + 1))) (wr ((wr ((PF.laws_markStringS y.seq.right ((PF.laws_markStringS y.seq.left m).2)).2 + 1)) + 1)) (wr ((wr ((wr ((PF.laws_markStringS y.seq.right ((PF.laws_markStringS y.seq.left m).2)).2 + 1)) + 1)) + 1))), (wr ((wr ((wr ((wr ((PF.laws_markStringS y.seq.right ((PF.laws_markStringS y.seq.left m).2)).2 + 1)) + 1)) + 1)) + 1)))) (a0 := a0) (k0 := a1) (fun (i : Nat) (xs : List SeqStep) (k : Int) f w => ∃ (H : GH) (c : List Value), St H0 w0 H w l ∧ Nest (up w0.heap.size H) eSeqStep 6 v0 xs c ∧ bl c = bl c0 ∧ (∀ b, b ∉ bl [v0] → b ∉ bl c0 → H b = Ha b) ∧ f 0 = v0 ∧ f 1 = Value.int .i64 k ∧ f 5 = Value.int .i64 ((i : Nat) : Int)) (fun e f w => e = Exit.exit 0 ∧ ∃ (H : GH) (c : List Value), St H0 w0 H w l ∧ Nest (up w0.heap.size H) eSeqStep 6 v0 (markFrom (fun y m => ((SeqStep.mk (Sequent.mk ((PF.laws_markStringS y.seq.left m).1) ((PF.laws_markStringS y.seq.right ((PF.laws_markStringS y.seq.left m).2)).1)) ((PF.laws_markStringS y.seq.right ((PF.laws_markStringS y.seq.left m).2)).2) (PF.laws_markText (wr ((PF.laws_markStringS y.seq.right ((PF.laws_markStringS y.seq.left m).2)).2 + 1))) (wr ((wr ((PF.laws_markStringS y.seq.right ((PF.laws_markStringS y.seq.left m).2)).2 + 1)) + 1)) (wr ((wr ((wr ((PF.laws_markStringS y.seq.right ((PF.laws_markStringS y.seq.left m).2)).2 + 1)) + 1)) + 1))), (wr ((wr ((wr ((wr ((PF.laws_markStringS y.seq.right ((PF.laws_markStringS y.seq.left m).2)).2 + 1)) + 1)) + 1)) + 1)))) a0 a1).1 c ∧ bl c = bl c0 ∧ (∀ b, b ∉ bl [v0] → b ∉ bl c0 → H b = Ha b) ∧ f 0 = v0 ∧ f 1 = Value.int .i64 (markFrom (fun y m => ((SeqStep.mk (Sequent.mk ((PF.laws_markStringS y.seq.left m).1) ((PF.laws_markStringS y.seq.right ((PF.laws_markStringS y.seq.left m).2)).1)) ((PF.laws_markStringS y.seq.right ((PF.laws_markStringS y.seq.left m).2)).2) (PF.laws_markText (wr ((PF.laws_markStringS y.seq.right ((PF.laws_markStringS y.seq.left m).2)).2 + 1))) (wr ((wr ((PF.laws_markStringS y.seq.right ((PF.laws_markStringS y.seq.left m).2)).2 + 1)) + 1)) (wr ((wr ((wr ((PF.laws_markStringS y.seq.right ((PF.laws_markStringS y.seq.left m).2)).2 + 1)) + 1)) + 1))), (wr ((wr ((wr ((wr ((PF.laws_markStringS y.seq.right ((PF.laws_markStringS y.seq.left m).2)).2 + 1)) + 1)) + 1)) + 1)))) a0 a1).2) ⟨_, _, S0, n0, rfl, fun _ _ _ => rfl, rfl, rfl, rfl⟩ ?_ ?_) ?_
 ·
  rintro i y xs m f1 w1 ⟨H1, c1, S1, n1, hb, ho, kv, kk, kc⟩ hx hy
  obtain ⟨p, hpt, wr0, hB, hr, nd⟩ := n1.begin hy (by decide)
  obtain ⟨u0, u1, hci, hu0, hu1⟩ := eSeqStep_open hr
  have rd := wr0.opens hci
  refine FW.seq (FW.seq (FW.region ?_))
  refine FL.v (E.move kc) ?_
  refine FL.v (E.move kv) ?_
  refine FL.v (E.len te24 rfl hln) ?_
  refine FL.v (E.lssT rfl rfl (lss_len hx)) ?_
  refine FL.nil ?_
  refine FW.condT rfl rfl ?_
  refine FW.skip (FW.seq (FW.block (FW.seq (FW.region ?_))))
  refine FL.v (E.move kv) ?_
  refine FL.v (E.move kc) ?_
  refine FL.v (E.indexAddr te24 rfl rfl hpt) ?_
  refine FL.v (E.fieldAddr tf74_0 rfl) ?_
  refine FL.v (E.fieldAddrN tf68_0 rfl rfl) ?_
  refine FL.v (E.load rfl (run_load1 Tryz.isAgg22 (rd.now S1.sl) rfl)) ?_
  refine FL.v (E.move kk) ?_
  refine FL.call rfl rfl rfl (E.call Tryz.call15 (A2 rfl rfl)) (w_laws_markStringS S1 hs0 u0 y.seq.left hu0 m) ?_
  rintro e w22 ⟨H21, rfl, S23, h24, o25⟩
  refine ⟨_, rfl, ?_⟩
  have h26 := rd.kept2 nd (i := 0) (j := 1) rfl rfl (by decide) hu1 eS_flat o25
  have wr27 := rd.inner (j := 0) rfl o25
  refine FL.v (E.assign (v := Value.int .i64 ((PF.laws_markStringS y.seq.left m).2)) rfl) ?_
  refine FL.nil (FW.seq (FW.region ?_))
  refine FL.v (E.move kv) ?_
  refine FL.v (E.move kc) ?_
  refine FL.v (E.indexAddr te24 rfl rfl hpt) ?_
  refine FL.v (E.fieldAddr tf74_0 rfl) ?_
  refine FL.v (E.fieldAddrN tf68_1 rfl rfl) ?_
  refine FL.v (E.load rfl (run_load1 Tryz.isAgg22 (wr27.now S23.sl) rfl)) ?_
  refine FL.v (E.move (v := Value.int .i64 ((PF.laws_markStringS y.seq.left m).2)) rfl) ?_
  refine FL.call rfl rfl rfl (E.call Tryz.call15 (A2 rfl rfl)) (w_laws_markStringS S23 hs0 u1 y.seq.right h26 ((PF.laws_markStringS y.seq.left m).2)) ?_
  rintro e w29 ⟨H28, rfl, S30, h31, o32⟩
  refine ⟨_, rfl, ?_⟩
  have h33 := wr27.kept2 nd (i := 1) (j := 0) rfl rfl (by decide) h24 eS_flat o32
  have wr34 := wr27.inner (j := 1) rfl o32
  refine FL.v (E.assign (v := Value.int .i64 ((PF.laws_markStringS y.seq.right ((PF.laws_markStringS y.seq.left m).2)).2)) rfl) ?_
  refine FL.nil (FW.seq (FW.region ?_))
  refine FL.v (E.move kv) ?_
  refine FL.v (E.move kc) ?_
  refine FL.v (E.move (v := Value.int .i64 ((PF.laws_markStringS y.seq.right ((PF.laws_markStringS y.seq.left m).2)).2)) rfl) ?_
  refine FL.v (E.indexAddr te24 rfl rfl hpt) ?_
  refine FL.v (E.fieldAddr tf74_1 rfl) ?_
  obtain ⟨w35, H36, run38, S37, wr39, o40⟩ := wr34.poke (P := Tryz.prog) (t := 3) (u := Value.int .i64 ((PF.laws_markStringS y.seq.right ((PF.laws_markStringS y.seq.left m).2)).2)) S30 hs0 hB (j := 2) rfl rfl rfl Tryz.sizeOf3 rfl rfl (c2 := [u0, u1, Value.int .i64 ((PF.laws_markStringS y.seq.right ((PF.laws_markStringS y.seq.left m).2)).2), Value.string y.main, Value.int .i64 y.a, Value.int .i64 y.b]) rfl
  have h41 := wr34.kept (j := 0) rfl h33 eS_flat o40
  have h42 := wr34.kept (j := 1) rfl h31 eS_flat o40
  refine FL.act rfl rfl (E.store rfl rfl run38) ?_
  refine FL.nil (FW.seq (FW.region ?_))
  refine FL.v (E.move (v := Value.int .i64 ((PF.laws_markStringS y.seq.right ((PF.laws_markStringS y.seq.left m).2)).2)) rfl) ?_
  refine FL.v (E.add rfl rfl) ?_
  refine FL.v (E.assign (v := Value.int .i64 (wr ((PF.laws_markStringS y.seq.right ((PF.laws_markStringS y.seq.left m).2)).2 + 1))) rfl) ?_
  refine FL.nil (FW.seq (FW.region ?_))
  refine FL.v (E.move kv) ?_
  refine FL.v (E.move kc) ?_
  refine FL.v (E.move (v := Value.int .i64 (wr ((PF.laws_markStringS y.seq.right ((PF.laws_markStringS y.seq.left m).2)).2 + 1))) rfl) ?_
  refine FL.call rfl rfl rfl (E.call Tryz.call55 (A1 rfl)) (w_laws_markText S37.sl (wr ((PF.laws_markStringS y.seq.right ((PF.laws_markStringS y.seq.left m).2)).2 + 1))) ?_
  rintro e w43 ⟨rfl, r44⟩
  refine ⟨_, rfl, ?_⟩
  have S45 := S37.call r44
  refine FL.v (E.indexAddr te24 rfl rfl hpt) ?_
  refine FL.v (E.fieldAddr tf74_2 rfl) ?_
  obtain ⟨w46, H47, run49, S48, wr50, o51⟩ := wr39.poke (P := Tryz.prog) (t := 9) (u := Value.string (PF.laws_markText (wr ((PF.laws_markStringS y.seq.right ((PF.laws_markStringS y.seq.left m).2)).2 + 1)))) S45 hs0 hB (j := 3) rfl rfl rfl Tryz.sizeOf9 rfl rfl (c2 := [u0, u1, Value.int .i64 ((PF.laws_markStringS y.seq.right ((PF.laws_markStringS y.seq.left m).2)).2), Value.string (PF.laws_markText (wr ((PF.laws_markStringS y.seq.right ((PF.laws_markStringS y.seq.left m).2)).2 + 1))), Value.int .i64 y.a, Value.int .i64 y.b]) rfl
  have h52 := wr39.kept (j := 0) rfl h41 eS_flat o51
  have h53 := wr39.kept (j := 1) rfl h42 eS_flat o51
  refine FL.act rfl rfl (E.store rfl rfl run49) ?_
  refine FL.nil (FW.seq (FW.region ?_))
  refine FL.v (E.move (v := Value.int .i64 (wr ((PF.laws_markStringS y.seq.right ((PF.laws_markStringS y.seq.left m).2)).2 + 1))) rfl) ?_
  refine FL.v (E.add rfl rfl) ?_
  refine FL.v (E.assign (v := Value.int .i64 (wr ((wr ((PF.laws_markStringS y.seq.right ((PF.laws_markStringS y.seq.left m).2)).2 + 1)) + 1))) rfl) ?_
  refine FL.nil (FW.seq (FW.region ?_))
  refine FL.v (E.move kv) ?_
  refine FL.v (E.move kc) ?_
  refine FL.v (E.move (v := Value.int .i64 (wr ((wr ((PF.laws_markStringS y.seq.right ((PF.laws_markStringS y.seq.left m).2)).2 + 1)) + 1))) rfl) ?_
  refine FL.v (E.indexAddr te24 rfl rfl hpt) ?_
  refine FL.v (E.fieldAddr tf74_3 rfl) ?_
  obtain ⟨w54, H55, run57, S56, wr58, o59⟩ := wr50.poke (P := Tryz.prog) (t := 3) (u := Value.int .i64 (wr ((wr ((PF.laws_markStringS y.seq.right ((PF.laws_markStringS y.seq.left m).2)).2 + 1)) + 1))) S48 hs0 hB (j := 4) rfl rfl rfl Tryz.sizeOf3 rfl rfl (c2 := [u0, u1, Value.int .i64 ((PF.laws_markStringS y.seq.right ((PF.laws_markStringS y.seq.left m).2)).2), Value.string (PF.laws_markText (wr ((PF.laws_markStringS y.seq.right ((PF.laws_markStringS y.seq.left m).2)).2 + 1))), Value.int .i64 (wr ((wr ((PF.laws_markStringS y.seq.right ((PF.laws_markStringS y.seq.left m).2)).2 + 1)) + 1)), Value.int .i64 y.b]) rfl
  have h60 := wr50.kept (j := 0) rfl h52 eS_flat o59
  have h61 := wr50.kept (j := 1) rfl h53 eS_flat o59
  refine FL.act rfl rfl (E.store rfl rfl run57) ?_
  refine FL.nil (FW.seq (FW.region ?_))
  refine FL.v (E.move (v := Value.int .i64 (wr ((wr ((PF.laws_markStringS y.seq.right ((PF.laws_markStringS y.seq.left m).2)).2 + 1)) + 1))) rfl) ?_
  refine FL.v (E.add rfl rfl) ?_
  refine FL.v (E.assign (v := Value.int .i64 (wr ((wr ((wr ((PF.laws_markStringS y.seq.right ((PF.laws_markStringS y.seq.left m).2)).2 + 1)) + 1)) + 1))) rfl) ?_
  refine FL.nil (FW.seq (FW.region ?_))
  refine FL.v (E.move kv) ?_
  refine FL.v (E.move kc) ?_
  refine FL.v (E.move (v := Value.int .i64 (wr ((wr ((wr ((PF.laws_markStringS y.seq.right ((PF.laws_markStringS y.seq.left m).2)).2 + 1)) + 1)) + 1))) rfl) ?_
  refine FL.v (E.indexAddr te24 rfl rfl hpt) ?_
  refine FL.v (E.fieldAddr tf74_4 rfl) ?_
  obtain ⟨w62, H63, run65, S64, wr66, o67⟩ := wr58.poke (P := Tryz.prog) (t := 3) (u := Value.int .i64 (wr ((wr ((wr ((PF.laws_markStringS y.seq.right ((PF.laws_markStringS y.seq.left m).2)).2 + 1)) + 1)) + 1))) S56 hs0 hB (j := 5) rfl rfl rfl Tryz.sizeOf3 rfl rfl (c2 := [u0, u1, Value.int .i64 ((PF.laws_markStringS y.seq.right ((PF.laws_markStringS y.seq.left m).2)).2), Value.string (PF.laws_markText (wr ((PF.laws_markStringS y.seq.right ((PF.laws_markStringS y.seq.left m).2)).2 + 1))), Value.int .i64 (wr ((wr ((PF.laws_markStringS y.seq.right ((PF.laws_markStringS y.seq.left m).2)).2 + 1)) + 1)), Value.int .i64 (wr ((wr ((wr ((PF.laws_markStringS y.seq.right ((PF.laws_markStringS y.seq.left m).2)).2 + 1)) + 1)) + 1))]) rfl
  have h68 := wr58.kept (j := 0) rfl h60 eS_flat o67
  have h69 := wr58.kept (j := 1) rfl h61 eS_flat o67
  refine FL.act rfl rfl (E.store rfl rfl run65) ?_
  refine FL.nil (FW.region ?_)
  refine FL.v (E.move (v := Value.int .i64 (wr ((wr ((wr ((PF.laws_markStringS y.seq.right ((PF.laws_markStringS y.seq.left m).2)).2 + 1)) + 1)) + 1))) rfl) ?_
  refine FL.v (E.add rfl rfl) ?_
  refine FL.v (E.assign (v := Value.int .i64 (wr ((wr ((wr ((wr ((PF.laws_markStringS y.seq.right ((PF.laws_markStringS y.seq.left m).2)).2 + 1)) + 1)) + 1)) + 1))) rfl) ?_
  refine FL.nil (FW.region ?_)
  refine FL.v (E.move kc) ?_
  refine FL.v (E.add rfl rfl) ?_
  refine FL.v (E.assign (v := Value.int .i64 (wr (((i : Nat) : Int) + 1))) rfl) ?_
  refine FL.nil ?_
  obtain ⟨c2, n2, hb2, ho2⟩ := n1.round eSeqStep_loc hy (by decide) hpt wr66 (y' := (SeqStep.mk (Sequent.mk ((PF.laws_markStringS y.seq.left m).1) ((PF.laws_markStringS y.seq.right ((PF.laws_markStringS y.seq.left m).2)).1)) ((PF.laws_markStringS y.seq.right ((PF.laws_markStringS y.seq.left m).2)).2) (PF.laws_markText (wr ((PF.laws_markStringS y.seq.right ((PF.laws_markStringS y.seq.left m).2)).2 + 1))) (wr ((wr ((PF.laws_markStringS y.seq.right ((PF.laws_markStringS y.seq.left m).2)).2 + 1)) + 1)) (wr ((wr ((wr ((PF.laws_markStringS y.seq.right ((PF.laws_markStringS y.seq.left m).2)).2 + 1)) + 1)) + 1)))) ⟨_, _, rfl, h68, h69⟩
  exact ⟨rfl, _, _, S64, n2, hb2.trans hb, fun b q1 q2 => (ho2 b q1 (by rw [hb]; exact q2)).trans (ho b q1 q2), kv, rfl, nat_succ rfl (lt_of_get hx) hle⟩
 ·
  rintro f1 w1 ⟨H1, c1, S1, n1, hb, ho, kv, kk, kc⟩
  refine FW.seq (FW.seq (FW.region ?_))
  refine FL.v (E.move kc) ?_
  refine FL.v (E.move kv) ?_
  refine FL.v (E.len te24 rfl hln) ?_
  refine FL.v (E.lss rfl rfl) ?_
  refine FL.nil ?_
  refine FW.condF rfl dlt_len ?_
  refine FW.exit ?_
  exact ⟨nofun, rfl, _, _, S1, n1, hb, ho, kv, kk⟩
 ·
  rintro e f2 w2 ⟨rfl, H2, c2, S2, n2, hb, ho, kv, kk⟩
  refine FW.seq (FW.region ?_)
  refine FL.v (E.move kk) ?_
  refine FL.v (E.assign (v := Value.int .i64 ((markFrom (fun y m => ((SeqStep.mk (Sequent.mk ((PF.laws_markStringS y.seq.left m).1) ((PF.laws_markStringS y.seq.right ((PF.laws_markStringS y.seq.left m).2)).1)) ((PF.laws_markStringS y.seq.right ((PF.laws_markStringS y.seq.left m).2)).2) (PF.laws_markText (wr ((PF.laws_markStringS y.seq.right ((PF.laws_markStringS y.seq.left m).2)).2 + 1))) (wr ((wr ((PF.laws_markStringS y.seq.right ((PF.laws_markStringS y.seq.left m).2)).2 + 1)) + 1)) (wr ((wr ((wr ((PF.laws_markStringS y.seq.right ((PF.laws_markStringS y.seq.left m).2)).2 + 1)) + 1)) + 1))), (wr ((wr ((wr ((wr ((PF.laws_markStringS y.seq.right ((PF.laws_markStringS y.seq.left m).2)).2 + 1)) + 1)) + 1)) + 1)))) a0 a1).2)) rfl) ?_
  refine FL.nil ?_
  refine FW.ret ?_
  exact ⟨.inr rfl, res1 rfl rfl ⟨_, _, rfl, S2, n2, hb, fun b q1 q2 => weak (F := fun b => b ∉ bl [v0] ∧ b ∉ bl c0) (fun b q => ho b q.1 q.2) b ⟨q1, q2⟩⟩⟩

set_option maxHeartbeats 4000000 in
theorem w_laws_heldStringS {Ha : GH} {wa : World} (hs : Sl Ha wa) (v0 : Value) (a0 : List ByteArray) (p0 : RSl Ha eS 1 v0 a0) (a1 : Int) {r : Int} (hp : (PF.laws_heldStringS a0 a1) = some r) :
  Calls Tryz.prog 56 #[v0, Value.int .i64 a1] wa (Sc Ha wa (Value.int .i64 r)) := by
 unfold PF.laws_heldStringS at hp
 have S0 := St.init hs
 refine calls_go (N := 22) (args := [v0, Value.int .i64 a1]) Tryz.func56 rfl rfl rfl ?_
 refine FW.seq (FW.region ?_)
 refine FL.v (E.assign (v := Value.int .i64 0) rfl) ?_
 refine FL.nil (FW.seq (FW.seq (FW.region ?_)))
 refine FL.v (E.assign (v := Value.int .i64 0) rfl) ?_
 refine FL.nil ?_
 obtain ⟨q22, hq, hp⟩ := bndR hp
 refine FW.block ?_
 refine FW.mono (FW.forL (S := Int) (X := Int) (fun (i22 : Nat) (s22 : Int) f w => ∃ H : GH, St Ha wa H w [] ∧ Inc Ha H ∧ f 5 = Value.int .i64 ((i22 : Nat) : Int) ∧ f 0 = v0 ∧ f 1 = Value.int .i64 s22) (fun q e f w => match q with | .go s22 => e = Exit.exit 0 ∧ (∃ H : GH, St Ha wa H w [] ∧ Inc Ha H ∧ f 1 = Value.int .i64 s22) | .rt x => ((e = Exit.ret) ∧ (fun e f w => (e = Exit.normal ∨ e = Exit.ret) ∧ ∀ a, Fr (δ := []) 22 a f → ∃ v, (results Tryz.f56 a.tmps).run Tryz.prog w = .ok v w ∧ (Sc Ha wa (Value.int .i64 x)) (.returned v) w) e f w)) hq ⟨_, S0, (Inc.rfl _), rfl, rfl, rfl⟩ ?_ ?_) ?_
 ·
  clear hp hq
  rintro i22 y21 s22 f46 w45 ⟨H42, S43, i44, k47, k48, k49⟩ hx22 o61 hp
  refine FW.seq (FW.seq (FW.region ?_))
  refine FL.v (E.move k47) ?_
  refine FL.v (E.move k48) ?_
  refine FL.v (E.lenP te22 rfl p0) ?_
  refine FL.v (E.lssT rfl rfl (lss_len hx22)) ?_
  refine FL.nil ?_
  refine FW.condT rfl rfl ?_
  refine FW.skip (FW.seq (FW.block (FW.seq (FW.seq ?_))))
  refine FW.draw (fun w' => Run w45.heap.size H42 w45 H42 w') (by kernel_rfl) (by kernel_rfl) (run_drew S43.sl) ?_
  refine FD.val rfl rfl rfl (fun w' hw' => (E.move k48)) ?_
  refine FD.val rfl rfl rfl (fun w' hw' => (E.move k47)) ?_
  obtain ⟨p51, cs52, pt53, l54, at55, rel56⟩ := p0.at (ix_nat hx22)
  obtain rfl := eS_open rel56
  refine FD.val rfl rfl rfl (fun w' hw' => (E.indexAddr te22 rfl rfl pt53)) ?_
  refine FD.val rfl rfl rfl (fun w' hw' => (E.load rfl (run_load0 Tryz.isAgg9 ((at55.mono i44).now (S43.call hw').sl) rfl))) ?_
  refine FD.val rfl rfl rfl (fun w' hw' => (E.move k49)) ?_
  refine FD.call rfl rfl rfl (fun w' hw' => (E.call Tryz.call55 (A1 rfl))) (fun w' hw' => Calls.cls hw' (w_laws_markText (S43.call hw').sl s22)) ?_
  refine FD.val rfl rfl rfl (fun w' hw' => (E.neqS rfl rfl)) ?_
  refine FD.nil ?_
  intro w57 r59
  have S58 := S43.call r59
  rcases ifB hp with ⟨c60, hp⟩ | ⟨c60, hp⟩
  ·
   refine FW.condT rfl c60 ?_
   refine FW.seq (FW.region ?_)
   refine FL.v (E.assign (v := Value.int .i64 (-1)) rfl) ?_
   refine FL.nil ?_
   refine FW.ret ?_
   obtain rfl := Option.some.inj hp
   exact ⟨nofun, rfl, ⟨.inr rfl, res1 rfl rfl ⟨rfl, S58.back⟩⟩⟩
  ·
   refine FW.condF rfl c60 ?_
   refine FW.skip (FW.region ?_)
   refine FL.v (E.move k49) ?_
   refine FL.v (E.add rfl rfl) ?_
   refine FL.v (E.assign (v := Value.int .i64 (wr (s22 + 1))) rfl) ?_
   refine FL.nil (FW.region ?_)
   refine FL.v (E.move k47) ?_
   refine FL.v (E.add rfl rfl) ?_
   refine FL.v (E.assign (v := Value.int .i64 (wr (((i22 : Nat) : Int) + 1))) rfl) ?_
   refine FL.nil ?_
   obtain rfl := Option.some.inj hp
   exact ⟨rfl, ⟨_, S58, i44, (nat_succ rfl (lt_of_get hx22) (p0.mono i44).le), k48, rfl⟩⟩
 ·
  clear hp hq
  rintro s22 f72 w71 ⟨H68, S69, i70, k73, k74, k75⟩
  refine FW.seq (FW.seq (FW.region ?_))
  refine FL.v (E.move k73) ?_
  refine FL.v (E.move k74) ?_
  refine FL.v (E.lenP te22 rfl p0) ?_
  refine FL.v (E.lss rfl rfl) ?_
  refine FL.nil ?_
  refine FW.condF rfl dlt_len ?_
  refine FW.exit ?_
  exact ⟨nofun, rfl, ⟨_, S69, i70, k75⟩⟩
 ·
  clear hq
  intro e f66 w65 hD
  rcases q22 with s22 | x22
  ·
   obtain ⟨rfl, hD⟩ := hD
   obtain ⟨H62, S63, i64, k67⟩ := hD
   replace hp := el_go hp
   refine FW.seq (FW.region ?_)
   refine FL.v (E.move k67) ?_
   refine FL.v (E.assign (v := Value.int .i64 s22) rfl) ?_
   refine FL.nil ?_
   refine FW.ret ?_
   obtain rfl := Option.some.inj hp
   exact ⟨.inr rfl, res1 rfl rfl ⟨rfl, S63.back⟩⟩
  ·
   obtain ⟨he, hL⟩ := hD
   replace hp := el_rt hp
   obtain rfl := Option.some.inj hp
   subst he
   exact hL

set_option maxHeartbeats 4000000 in
theorem w_laws_heldSeqStepS {Ha : GH} {wa : World} (hs : Sl Ha wa) (v0 : Value) (a0 : List SeqStep) (p0 : RSl Ha eSeqStep 6 v0 a0) (a1 : Int) {r : Int} (hp : (PF.laws_heldSeqStepS a0 a1) = some r) :
  Calls Tryz.prog 17 #[v0, Value.int .i64 a1] wa (Sc Ha wa (Value.int .i64 r)) := by
 unfold PF.laws_heldSeqStepS at hp
 have S0 := St.init hs
 refine calls_go (N := 70) (args := [v0, Value.int .i64 a1]) Tryz.func17 rfl rfl rfl ?_
 refine FW.seq (FW.region ?_)
 refine FL.v (E.assign (v := Value.int .i64 0) rfl) ?_
 refine FL.nil (FW.seq (FW.seq (FW.region ?_)))
 refine FL.v (E.assign (v := Value.int .i64 0) rfl) ?_
 refine FL.nil ?_
 obtain ⟨q22, hq, hp⟩ := bndR hp
 refine FW.block ?_
 refine FW.mono (FW.forL (S := Int) (X := Int) (fun (i22 : Nat) (s22 : Int) f w => ∃ H : GH, St Ha wa H w [] ∧ Inc Ha H ∧ f 5 = Value.int .i64 ((i22 : Nat) : Int) ∧ f 0 = v0 ∧ f 1 = Value.int .i64 s22) (fun q e f w => match q with | .go s22 => e = Exit.exit 0 ∧ (∃ H : GH, St Ha wa H w [] ∧ Inc Ha H ∧ f 1 = Value.int .i64 s22) | .rt x => ((e = Exit.ret) ∧ (fun e f w => (e = Exit.normal ∨ e = Exit.ret) ∧ ∀ a, Fr (δ := []) 70 a f → ∃ v, (results Tryz.f17 a.tmps).run Tryz.prog w = .ok v w ∧ (Sc Ha wa (Value.int .i64 x)) (.returned v) w) e f w)) hq ⟨_, S0, (Inc.rfl _), rfl, rfl, rfl⟩ ?_ ?_) ?_
 ·
  clear hp hq
  rintro i22 y21 s22 f115 w114 ⟨H111, S112, i113, k116, k117, k118⟩ hx22 o199 hp
  refine FW.seq (FW.seq (FW.region ?_))
  refine FL.v (E.move k116) ?_
  refine FL.v (E.move k117) ?_
  refine FL.v (E.lenP te24 rfl p0) ?_
  refine FL.v (E.lssT rfl rfl (lss_len hx22)) ?_
  refine FL.nil ?_
  refine FW.condT rfl rfl ?_
  refine FW.skip (FW.seq (FW.block (FW.seq (FW.region ?_))))
  refine FL.v (E.move k117) ?_
  refine FL.v (E.move k116) ?_
  obtain ⟨p119, cs120, pt121, l122, at123, rel124⟩ := p0.at (ix_nat hx22)
  obtain ⟨v125, v127, rfl, h126, h128⟩ := eSeqStep_open rel124
  refine FL.v (E.indexAddr te24 rfl rfl pt121) ?_
  refine FL.v (E.fieldAddr tf74_0 rfl) ?_
  refine FL.v (E.fieldAddrN tf68_0 rfl rfl) ?_
  refine FL.v (E.load rfl (run_load1 Tryz.isAgg22 ((at123.mono i113).now S112.sl) rfl)) ?_
  refine FL.v (E.move k118) ?_
  obtain ⟨r129, hr130, hp⟩ := bnd hp
  refine FL.call rfl rfl rfl (E.call Tryz.call56 (A2 rfl rfl)) (w_laws_heldStringS S112.sl v125 y21.seq.left (h126.mono i113) s22 hr130) ?_
  rintro e w131 ⟨rfl, r132⟩
  refine ⟨_, rfl, ?_⟩
  have S133 := S112.call r132
  refine FL.v (E.assign (v := Value.int .i64 r129) rfl) ?_
  refine FL.nil (FW.seq (FW.seq (FW.region ?_)))
  refine FL.v (E.move (v := Value.int .i64 r129) rfl) ?_
  refine FL.v (E.lss rfl rfl) ?_
  refine FL.nil ?_
  rcases ifB hp with ⟨c134, hp⟩ | ⟨c134, hp⟩
  ·
   refine FW.condT rfl c134 ?_
   refine FW.seq (FW.region ?_)
   refine FL.v (E.assign (v := Value.int .i64 (-1)) rfl) ?_
   refine FL.nil ?_
   refine FW.ret ?_
   obtain rfl := Option.some.inj hp
   exact ⟨nofun, rfl, ⟨.inr rfl, res1 rfl rfl ⟨rfl, S133.back⟩⟩⟩
  ·
   refine FW.condF rfl c134 ?_
   refine FW.skip (FW.seq (FW.region ?_))
   refine FL.v (E.move k117) ?_
   refine FL.v (E.move k116) ?_
   obtain ⟨p135, cs136, pt137, l138, at139, rel140⟩ := p0.at (ix_nat hx22)
   obtain ⟨v141, v143, rfl, h142, h144⟩ := eSeqStep_open rel140
   refine FL.v (E.indexAddr te24 rfl rfl pt137) ?_
   refine FL.v (E.fieldAddr tf74_0 rfl) ?_
   refine FL.v (E.fieldAddrN tf68_1 rfl rfl) ?_
   refine FL.v (E.load rfl (run_load1 Tryz.isAgg22 ((at139.mono i113).now S133.sl) rfl)) ?_
   refine FL.v (E.move (v := Value.int .i64 r129) rfl) ?_
   obtain ⟨r145, hr146, hp⟩ := bnd hp
   refine FL.call rfl rfl rfl (E.call Tryz.call56 (A2 rfl rfl)) (w_laws_heldStringS S133.sl v143 y21.seq.right (h144.mono i113) r129 hr146) ?_
   rintro e w147 ⟨rfl, r148⟩
   refine ⟨_, rfl, ?_⟩
   have S149 := S133.call r148
   refine FL.v (E.assign (v := Value.int .i64 r145) rfl) ?_
   refine FL.nil (FW.seq (FW.seq (FW.region ?_)))
   refine FL.v (E.move (v := Value.int .i64 r145) rfl) ?_
   refine FL.v (E.lss rfl rfl) ?_
   refine FL.nil ?_
   rcases ifB hp with ⟨c150, hp⟩ | ⟨c150, hp⟩
   ·
    refine FW.condT rfl c150 ?_
    refine FW.seq (FW.region ?_)
    refine FL.v (E.assign (v := Value.int .i64 (-1)) rfl) ?_
    refine FL.nil ?_
    refine FW.ret ?_
    obtain rfl := Option.some.inj hp
    exact ⟨nofun, rfl, ⟨.inr rfl, res1 rfl rfl ⟨rfl, S149.back⟩⟩⟩
   ·
    refine FW.condF rfl c150 ?_
    refine FW.skip (FW.seq (FW.seq (FW.region ?_)))
    refine FL.v (E.move k117) ?_
    refine FL.v (E.move k116) ?_
    obtain ⟨p151, cs152, pt153, l154, at155, rel156⟩ := p0.at (ix_nat hx22)
    obtain ⟨v157, v159, rfl, h158, h160⟩ := eSeqStep_open rel156
    refine FL.v (E.indexAddr te24 rfl rfl pt153) ?_
    refine FL.v (E.fieldAddr tf74_1 rfl) ?_
    refine FL.v (E.load rfl (run_load1 Tryz.isAgg3 ((at155.mono i113).now S149.sl) rfl)) ?_
    refine FL.v (E.move (v := Value.int .i64 r145) rfl) ?_
    refine FL.v (E.neq rfl rfl) ?_
    refine FL.nil ?_
    rcases ifB hp with ⟨c161, hp⟩ | ⟨c161, hp⟩
    ·
     refine FW.condT rfl c161 ?_
     refine FW.seq (FW.region ?_)
     refine FL.v (E.assign (v := Value.int .i64 (-1)) rfl) ?_
     refine FL.nil ?_
     refine FW.ret ?_
     obtain rfl := Option.some.inj hp
     exact ⟨nofun, rfl, ⟨.inr rfl, res1 rfl rfl ⟨rfl, S149.back⟩⟩⟩
    ·
     refine FW.condF rfl c161 ?_
     refine FW.skip (FW.seq (FW.region ?_))
     refine FL.v (E.move (v := Value.int .i64 r145) rfl) ?_
     refine FL.v (E.add rfl rfl) ?_
     refine FL.v (E.assign (v := Value.int .i64 (wr (r145 + 1))) rfl) ?_
     refine FL.nil (FW.seq (FW.seq ?_))
     refine FW.draw (fun w' => Run w147.heap.size H111 w147 H111 w') (by kernel_rfl) (by kernel_rfl) (run_drew S149.sl) ?_
     refine FD.val rfl rfl rfl (fun w' hw' => (E.move k117)) ?_
     refine FD.val rfl rfl rfl (fun w' hw' => (E.move k116)) ?_
     obtain ⟨p163, cs164, pt165, l166, at167, rel168⟩ := p0.at (ix_nat hx22)
     obtain ⟨v169, v171, rfl, h170, h172⟩ := eSeqStep_open rel168
     refine FD.val rfl rfl rfl (fun w' hw' => (E.indexAddr te24 rfl rfl pt165)) ?_
     refine FD.val rfl rfl rfl (fun w' hw' => (E.fieldAddr tf74_2 rfl)) ?_
     refine FD.val rfl rfl rfl (fun w' hw' => (E.load rfl (run_load1 Tryz.isAgg9 ((at167.mono i113).now (S149.call hw').sl) rfl))) ?_
     refine FD.val rfl rfl rfl (fun w' hw' => (E.move (v := Value.int .i64 (wr (r145 + 1))) rfl)) ?_
     refine FD.call rfl rfl rfl (fun w' hw' => (E.call Tryz.call55 (A1 rfl))) (fun w' hw' => Calls.cls hw' (w_laws_markText (S149.call hw').sl (wr (r145 + 1)))) ?_
     refine FD.val rfl rfl rfl (fun w' hw' => (E.neqS rfl rfl)) ?_
     refine FD.nil ?_
     intro w173 r175
     have S174 := S149.call r175
     rcases ifB hp with ⟨c176, hp⟩ | ⟨c176, hp⟩
     ·
      refine FW.condT rfl c176 ?_
      refine FW.seq (FW.region ?_)
      refine FL.v (E.assign (v := Value.int .i64 (-1)) rfl) ?_
      refine FL.nil ?_
      refine FW.ret ?_
      obtain rfl := Option.some.inj hp
      exact ⟨nofun, rfl, ⟨.inr rfl, res1 rfl rfl ⟨rfl, S174.back⟩⟩⟩
     ·
      refine FW.condF rfl c176 ?_
      refine FW.skip (FW.seq (FW.region ?_))
      refine FL.v (E.move (v := Value.int .i64 (wr (r145 + 1))) rfl) ?_
      refine FL.v (E.add rfl rfl) ?_
      refine FL.v (E.assign (v := Value.int .i64 (wr ((wr (r145 + 1)) + 1))) rfl) ?_
      refine FL.nil (FW.seq (FW.seq (FW.region ?_)))
      refine FL.v (E.move k117) ?_
      refine FL.v (E.move k116) ?_
      obtain ⟨p177, cs178, pt179, l180, at181, rel182⟩ := p0.at (ix_nat hx22)
      obtain ⟨v183, v185, rfl, h184, h186⟩ := eSeqStep_open rel182
      refine FL.v (E.indexAddr te24 rfl rfl pt179) ?_
      refine FL.v (E.fieldAddr tf74_3 rfl) ?_
      refine FL.v (E.load rfl (run_load1 Tryz.isAgg3 ((at181.mono i113).now S174.sl) rfl)) ?_
      refine FL.v (E.move (v := Value.int .i64 (wr ((wr (r145 + 1)) + 1))) rfl) ?_
      refine FL.v (E.neq rfl rfl) ?_
      refine FL.nil ?_
      rcases ifB hp with ⟨c187, hp⟩ | ⟨c187, hp⟩
      ·
       refine FW.condT rfl c187 ?_
       refine FW.seq (FW.region ?_)
       refine FL.v (E.assign (v := Value.int .i64 (-1)) rfl) ?_
       refine FL.nil ?_
       refine FW.ret ?_
       obtain rfl := Option.some.inj hp
       exact ⟨nofun, rfl, ⟨.inr rfl, res1 rfl rfl ⟨rfl, S174.back⟩⟩⟩
      ·
       refine FW.condF rfl c187 ?_
       refine FW.skip (FW.seq (FW.region ?_))
       refine FL.v (E.move (v := Value.int .i64 (wr ((wr (r145 + 1)) + 1))) rfl) ?_
       refine FL.v (E.add rfl rfl) ?_
       refine FL.v (E.assign (v := Value.int .i64 (wr ((wr ((wr (r145 + 1)) + 1)) + 1))) rfl) ?_
       refine FL.nil (FW.seq (FW.seq (FW.region ?_)))
       refine FL.v (E.move k117) ?_
       refine FL.v (E.move k116) ?_
       obtain ⟨p188, cs189, pt190, l191, at192, rel193⟩ := p0.at (ix_nat hx22)
       obtain ⟨v194, v196, rfl, h195, h197⟩ := eSeqStep_open rel193
       refine FL.v (E.indexAddr te24 rfl rfl pt190) ?_
       refine FL.v (E.fieldAddr tf74_4 rfl) ?_
       refine FL.v (E.load rfl (run_load1 Tryz.isAgg3 ((at192.mono i113).now S174.sl) rfl)) ?_
       refine FL.v (E.move (v := Value.int .i64 (wr ((wr ((wr (r145 + 1)) + 1)) + 1))) rfl) ?_
       refine FL.v (E.neq rfl rfl) ?_
       refine FL.nil ?_
       rcases ifB hp with ⟨c198, hp⟩ | ⟨c198, hp⟩
       ·
        refine FW.condT rfl c198 ?_
        refine FW.seq (FW.region ?_)
        refine FL.v (E.assign (v := Value.int .i64 (-1)) rfl) ?_
        refine FL.nil ?_
        refine FW.ret ?_
        obtain rfl := Option.some.inj hp
        exact ⟨nofun, rfl, ⟨.inr rfl, res1 rfl rfl ⟨rfl, S174.back⟩⟩⟩
       ·
        refine FW.condF rfl c198 ?_
        refine FW.skip (FW.region ?_)
        refine FL.v (E.move (v := Value.int .i64 (wr ((wr ((wr (r145 + 1)) + 1)) + 1))) rfl) ?_
        refine FL.v (E.add rfl rfl) ?_
        refine FL.v (E.assign (v := Value.int .i64 (wr ((wr ((wr ((wr (r145 + 1)) + 1)) + 1)) + 1))) rfl) ?_
        refine FL.nil (FW.region ?_)
        refine FL.v (E.move k116) ?_
        refine FL.v (E.add rfl rfl) ?_
        refine FL.v (E.assign (v := Value.int .i64 (wr (((i22 : Nat) : Int) + 1))) rfl) ?_
        refine FL.nil ?_
        obtain rfl := Option.some.inj hp
        exact ⟨rfl, ⟨_, S174, i113, (nat_succ rfl (lt_of_get hx22) (p0.mono i113).le), k117, rfl⟩⟩
 ·
  clear hp hq
  rintro s22 f210 w209 ⟨H206, S207, i208, k211, k212, k213⟩
  refine FW.seq (FW.seq (FW.region ?_))
  refine FL.v (E.move k211) ?_
  refine FL.v (E.move k212) ?_
  refine FL.v (E.lenP te24 rfl p0) ?_
  refine FL.v (E.lss rfl rfl) ?_
  refine FL.nil ?_
  refine FW.condF rfl dlt_len ?_
  refine FW.exit ?_
  exact ⟨nofun, rfl, ⟨_, S207, i208, k213⟩⟩
 ·
  clear hq
  intro e f204 w203 hD
  rcases q22 with s22 | x22
  ·
   obtain ⟨rfl, hD⟩ := hD
   obtain ⟨H200, S201, i202, k205⟩ := hD
   replace hp := el_go hp
   refine FW.seq (FW.region ?_)
   refine FL.v (E.move k205) ?_
   refine FL.v (E.assign (v := Value.int .i64 s22) rfl) ?_
   refine FL.nil ?_
   refine FW.ret ?_
   obtain rfl := Option.some.inj hp
   exact ⟨.inr rfl, res1 rfl rfl ⟨rfl, S201.back⟩⟩
  ·
   obtain ⟨he, hL⟩ := hD
   replace hp := el_rt hp
   obtain rfl := Option.some.inj hp
   subst he
   exact hL

set_option maxHeartbeats 4000000 in
theorem w_laws_FnExactTrimSeq {Ha : GH} {wa : World} (hs : Sl Ha wa) (v0 : Value) (a0 : List SeqStep) (p0 : RSl Ha eSeqStep 6 v0 a0) {r : Bool} (hp : (PF.laws_FnExactTrimSeq a0) = some r) :
  Calls Tryz.prog 4 #[v0] wa (Sc Ha wa (Value.bool r)) := by
 unfold PF.laws_FnExactTrimSeq at hp
 have S0 := St.init hs
 refine calls_go (N := 96) (args := [v0]) Tryz.func4 rfl rfl rfl ?_
 refine FW.seq (FW.region ?_)
 refine FL.v (E.assign (v := Value.bool false) rfl) ?_
 refine FL.nil (FW.seq (FW.region ?_))
 refine FL.v (E.assign (v := Value.int .i64 1048576) rfl) ?_
 refine FL.nil (FW.seq (FW.region ?_))
 refine FL.v (E.move (v := v0) rfl) ?_
 refine FL.v (E.move (v := Value.int .i64 1048576) rfl) ?_
 obtain ⟨r21, hr22, hp⟩ := bnd hp
 refine FL.call rfl rfl rfl (E.call Tryz.call18 (A2 rfl rfl)) (w_laws_szSeqStepS S0.sl v0 a0 p0 1048576 hr22) ?_
 rintro e w23 ⟨rfl, r24⟩
 refine ⟨_, rfl, ?_⟩
 have S25 := S0.call r24
 have z26 := r24.bel.size
 refine FL.v (E.assign (v := Value.int .i64 r21) rfl) ?_
 refine FL.nil (FW.seq (FW.seq (FW.region ?_)))
 refine FL.v (E.move (v := Value.int .i64 r21) rfl) ?_
 refine FL.v (E.lss rfl rfl) ?_
 refine FL.nil ?_
 rcases ifB hp with ⟨c27, hp⟩ | ⟨c27, hp⟩
 ·
  refine FW.condT rfl c27 ?_
  refine FW.seq (FW.region ?_)
  refine FL.v (E.assign (v := Value.bool true) rfl) ?_
  refine FL.nil ?_
  refine FW.ret ?_
  obtain rfl := Option.some.inj hp
  exact ⟨.inr rfl, res1 rfl rfl ⟨rfl, S25.back⟩⟩
 ·
  refine FW.condF rfl c27 ?_
  refine FW.skip (FW.seq (FW.region ?_))
  refine FL.v (E.move (v := v0) rfl) ?_
  obtain ⟨r28, hr29, hp⟩ := bnd hp
  refine FL.call rfl rfl rfl (E.call Tryz.call20 (A1 rfl)) (w_laws_toSeqStepS S25.sl v0 a0 p0 hr29) ?_
  rintro e w31 ⟨H30, v34, n35, cs36, rfl, r33, els37, nd38⟩
  refine ⟨_, rfl, ?_⟩
  have nv39 : New Ha cs36 := New.of_up S25.sl els37.dom
  obtain ⟨H40, r41, i42, ns45, nv44⟩ := r33.sealRowN (i := 0) (l' := []) rfl els37 nd38 (by decide) rfl
  have h43 := ns45.rsl
  have S32 := S25.call r41.run
  have z46 := r41.run.bel.size
  have h43 := h43.mono (sg_of S32.sl)
  have ns45 := ns45.mono (sg_of S32.sl)
  obtain ⟨r47, hr48, hp⟩ := bnd hp
  refine FL.call rfl rfl rfl (E.call Tryz.call19 (A1 rfl)) (w_spec_TrimSeq S32.sl v34 r28 (h43.mono sgI) hr48) ?_
  rintro e w50 ⟨H49, v53, n54, cs55, rfl, r52, els56, nd57⟩
  refine ⟨_, rfl, ?_⟩
  have nv58 : New H40 cs55 := New.of_up S32.sl els56.dom
  obtain ⟨H59, r60, i61, ns64, nv63⟩ := r52.sealRowN (i := 0) (l' := []) rfl els56 nd57 (by decide) rfl
  have h62 := ns64.rsl
  have S51 := S32.call r60.run
  have z65 := r60.run.bel.size
  have h62 := h62.mono (sg_of S51.sl)
  have ns64 := ns64.mono (sg_of S51.sl)
  refine FL.v (E.move (v := Value.tuple #[v53, Value.bool r47.2]) rfl) ?_
  refine FL.v (E.extract (i := 0) rfl rfl) ?_
  refine FL.v (E.extract (i := 1) rfl rfl) ?_
  refine FL.v (E.assign (v := v53) rfl) ?_
  refine FL.v (E.assign (v := Value.bool r47.2) rfl) ?_
  refine FL.nil (FW.seq (FW.region ?_))
  refine FL.v (E.move (v := v0) rfl) ?_
  obtain ⟨r66, hr67, hp⟩ := bnd hp
  refine FL.call rfl rfl rfl (E.call Tryz.call20 (A1 rfl)) (w_laws_toSeqStepS S51.sl v0 a0 (p0.mono (r41.run.inc.tr r60.run.inc)) hr67) ?_
  rintro e w69 ⟨H68, v72, n73, cs74, rfl, r71, els75, nd76⟩
  refine ⟨_, rfl, ?_⟩
  have nv77 : New H59 cs74 := New.of_up S51.sl els75.dom
  obtain ⟨H78, r79, i80, ns83, nv82⟩ := r71.sealRowN (i := 0) (l' := []) rfl els75 nd76 (by decide) rfl
  have h81 := ns83.rsl
  have S70 := S51.call r79.run
  have z84 := r79.run.bel.size
  have h81 := h81.mono (sg_of S70.sl)
  have ns83 := ns83.mono (sg_of S70.sl)
  refine FL.v (E.assign (v := v72) rfl) ?_
  refine FL.nil (FW.seq (FW.region ?_))
  refine FL.v (E.move (v := v72) rfl) ?_
  obtain ⟨r85, hr86, hp⟩ := bnd hp
  refine FL.call rfl rfl rfl (E.call Tryz.call21 (A1 rfl)) (w_impl_TrimSeq S70.sl v72 r66 (h81.mono sgI) hr86) ?_
  rintro e w88 ⟨H87, v91, n92, cs93, rfl, r90, els94, nd95⟩
  refine ⟨_, rfl, ?_⟩
  have nv96 : New H78 cs93 := New.of_up S70.sl els94.dom
  obtain ⟨H97, r98, i99, ns102, nv101⟩ := r90.sealRowN (i := 0) (l' := []) rfl els94 nd95 (by decide) rfl
  have h100 := ns102.rsl
  have S89 := S70.call r98.run
  have z103 := r98.run.bel.size
  have h100 := h100.mono (sg_of S89.sl)
  have ns102 := ns102.mono (sg_of S89.sl)
  refine FL.v (E.move (v := Value.tuple #[v91, Value.bool r85.2]) rfl) ?_
  refine FL.v (E.extract (i := 0) rfl rfl) ?_
  refine FL.v (E.extract (i := 1) rfl rfl) ?_
  refine FL.v (E.assign (v := v91) rfl) ?_
  refine FL.v (E.assign (v := Value.bool r85.2) rfl) ?_
  refine FL.nil (FW.seq (FW.seq (FW.region ?_)))
  refine FL.v (E.move (v := v91) rfl) ?_
  refine FL.v (E.move (v := v53) rfl) ?_
  obtain ⟨r104, hr105, hp⟩ := bnd hp
  refine FL.call rfl rfl rfl (E.call Tryz.call13 (A2 rfl rfl)) (w_laws_eqSeqStepS S89.sl v91 r85.1 (h100.mono sgI) v53 r47.1 (h62.mono (sgI.tr (r79.run.inc.tr r98.run.inc))) hr105) ?_
  rintro e w106 ⟨rfl, r107⟩
  refine ⟨_, rfl, ?_⟩
  have S108 := S89.call r107
  have z109 := r107.bel.size
  refine FL.v (E.not rfl) ?_
  refine FL.v (E.move (v := Value.bool (!r104)) rfl) ?_
  refine FL.cut 4 (fun f w => ∃ H : GH, St Ha wa H w [] ∧ Inc H97 H ∧ f 0 = v0 ∧ f 4 = v53 ∧ f 5 = Value.bool r47.2 ∧ f 6 = v72 ∧ f 7 = v91 ∧ f 8 = Value.bool r85.2 ∧ f 40 = Value.bool (bif (!r104) then true else (!(r85.2 == r47.2)))) ?_ ?_
  ·
   rcases bcase (!r104) with c116 | c116
   ·
    refine FL.skip (wF_no rfl rfl rfl c116) rfl ?_
    refine FL.skip (wF_no rfl rfl rfl c116) rfl ?_
    refine FL.skip (wF_no rfl rfl rfl c116) rfl ?_
    refine FL.v (E.pickT rfl c116 rfl) ?_
    exact FL.nil ⟨rfl, _, S108, (Inc.rfl _), rfl, rfl, rfl, rfl, rfl, rfl, (congrArg Value.bool (bifT c116).symm)⟩
   ·
    refine FL.val (wF_yes rfl rfl rfl c116) rfl rfl (E.move (v := Value.bool r85.2) rfl) ?_
    refine FL.val (wF_yes rfl rfl rfl c116) rfl rfl (E.move (v := Value.bool r47.2) rfl) ?_
    refine FL.val (wF_yes rfl rfl rfl c116) rfl rfl (E.neqB Tryz.runUnderlying4 rfl rfl) ?_
    refine FL.v (E.pickF rfl c116 rfl) ?_
    exact FL.nil ⟨rfl, _, S108, (Inc.rfl _), rfl, rfl, rfl, rfl, rfl, rfl, (congrArg Value.bool (bifF c116).symm)⟩
  rintro f115 w114 ⟨H111, S112, i113, k117, k118, k119, k120, k121, k122, k123⟩
  refine FL.nil ?_
  rcases ifB hp with ⟨c124, hp⟩ | ⟨c124, hp⟩
  ·
   refine FW.condT k123 c124 ?_
   refine FW.seq (FW.region ?_)
   refine FL.v (E.assign (v := Value.bool false) rfl) ?_
   refine FL.nil ?_
   refine FW.ret ?_
   obtain rfl := Option.some.inj hp
   exact ⟨.inr rfl, res1 rfl rfl ⟨rfl, S112.back⟩⟩
  ·
   refine FW.condF k123 c124 ?_
   refine FW.skip (FW.seq (FW.seq (FW.region ?_)))
   refine FL.v (E.move k120) ?_
   refine FL.v (E.move k117) ?_
   obtain ⟨r125, hr126, hp⟩ := bnd hp
   refine FL.call rfl rfl rfl (E.call Tryz.call20 (A1 rfl)) (w_laws_toSeqStepS S112.sl v0 a0 (p0.mono ((((r41.run.inc.tr r60.run.inc).tr r79.run.inc).tr r98.run.inc).tr i113)) hr126) ?_
   rintro e w128 ⟨H127, v131, n132, cs133, rfl, r130, els134, nd135⟩
   refine ⟨_, rfl, ?_⟩
   have nv136 : New H111 cs133 := New.of_up S112.sl els134.dom
   obtain ⟨H137, r138, i139, ns142, nv141⟩ := r130.sealRowN (i := 0) (l' := []) rfl els134 nd135 (by decide) rfl
   have h140 := ns142.rsl
   have S129 := S112.call r138.run
   have z143 := r138.run.bel.size
   have h140 := h140.mono (sg_of S129.sl)
   have ns142 := ns142.mono (sg_of S129.sl)
   obtain ⟨r144, hr145, hp⟩ := bnd hp
   refine FL.call rfl rfl rfl (E.call Tryz.call13 (A2 rfl rfl)) (w_laws_eqSeqStepS S129.sl v72 r66 (h81.mono (sgI.tr ((r98.run.inc.tr i113).tr r138.run.inc))) v131 r125 (h140.mono sgI) hr145) ?_
   rintro e w146 ⟨rfl, r147⟩
   refine ⟨_, rfl, ?_⟩
   have S148 := S129.call r147
   have z149 := r147.bel.size
   refine FL.v (E.not rfl) ?_
   refine FL.nil ?_
   rcases ifB hp with ⟨c150, hp⟩ | ⟨c150, hp⟩
   ·
    refine FW.condT rfl c150 ?_
    refine FW.seq (FW.region ?_)
    refine FL.v (E.assign (v := Value.bool false) rfl) ?_
    refine FL.nil ?_
    refine FW.ret ?_
    obtain rfl := Option.some.inj hp
    exact ⟨.inr rfl, res1 rfl rfl ⟨rfl, S148.back⟩⟩
   ·
    refine FW.condF rfl c150 ?_
    refine FW.skip (FW.seq (FW.region ?_))
    refine FL.v (E.assign (v := Value.int .i64 1) rfl) ?_
    refine FL.nil (FW.seq (FW.region ?_))
    refine FL.v (E.move k120) ?_
    refine FL.v (E.move (v := Value.int .i64 1) rfl) ?_
    refine FL.call rfl rfl rfl (E.call Tryz.call16 (A2 rfl rfl)) (w_laws_markSeqStepS S148 hs v72 r66 cs74 (ns83.mono (sg_up (by omega) ((r98.run.inc.tr i113).tr r138.run.inc))) 1) ?_
    rintro e w152 ⟨H151, c157, rfl, S153, ns159, hb158, o155⟩
    refine ⟨_, rfl, ?_⟩
    have o156 := (ns83.mono (sg_mono (hi := w69.heap.size) ((r98.run.inc.tr i113).tr r138.run.inc))).outside o155
    have ns159 := ns83.span eSeqStep_loc (by omega) ns159 hb158
    have h154 := ns159.rsl
    have f160 := h62.mono ((sg_mono (lo := w31.heap.size) (hi := w50.heap.size) (((r79.run.inc.tr r98.run.inc).tr i113).tr r138.run.inc)).tr (sg_keep o156 (by omega)))
    have f161 := ns64.mono ((sg_mono (lo := w31.heap.size) (hi := w50.heap.size) (((r79.run.inc.tr r98.run.inc).tr i113).tr r138.run.inc)).tr (sg_keep o156 (by omega)))
    have f162 := h100.mono ((sg_mono (lo := w69.heap.size) (hi := w88.heap.size) (i113.tr r138.run.inc)).tr (sg_keep o156 (by omega)))
    have f163 := ns102.mono ((sg_mono (lo := w69.heap.size) (hi := w88.heap.size) (i113.tr r138.run.inc)).tr (sg_keep o156 (by omega)))
    refine FL.v (E.assign (v := Value.int .i64 ((PF.laws_markSeqStepS r66 1).2)) rfl) ?_
    refine FL.nil (FW.seq (FW.seq (FW.region ?_)))
    refine FL.v (E.move (v := Value.int .i64 ((PF.laws_markSeqStepS r66 1).2)) rfl) ?_
    refine FL.v (E.lss rfl rfl) ?_
    refine FL.v (E.move (v := Value.bool (decide ((PF.laws_markSeqStepS r66 1).2 < 0))) rfl) ?_
    obtain ⟨t170, hqt170, hp⟩ := bnd hp
    refine FL.cut 5 (fun f w => ∃ H : GH, St Ha wa H w [] ∧ Inc H151 H ∧ f 0 = v0 ∧ f 4 = v53 ∧ f 5 = Value.bool r47.2 ∧ f 7 = v91 ∧ f 8 = Value.bool r85.2 ∧ f 56 = Value.bool t170) ?_ ?_
    ·
     clear hp; have hp := hqt170; clear hqt170
     rcases ifB hp with ⟨c176, hp⟩ | ⟨c176, hp⟩
     ·
      refine FL.skip (wF_no rfl rfl rfl c176) rfl ?_
      refine FL.skip (wF_no rfl rfl rfl c176) rfl ?_
      refine FL.skip (wF_no rfl rfl rfl c176) rfl ?_
      refine FL.skip (wF_no rfl rfl rfl c176) rfl ?_
      obtain rfl := Option.some.inj hp
      refine FL.v (E.pickT rfl c176 rfl) ?_
      exact FL.nil ⟨rfl, _, S153, (Inc.rfl _), k117, k118, k119, k121, k122, rfl⟩
     ·
      refine FL.val (wF_yes rfl rfl rfl c176) rfl rfl (E.move k121) ?_
      refine FL.val (wF_yes rfl rfl rfl c176) rfl rfl (E.move k118) ?_
      obtain ⟨r177, hr178, hp⟩ := bnd hp
      refine FL.call (wF_yes rfl rfl rfl c176) rfl rfl (E.call Tryz.call13 (A2 rfl rfl)) (w_laws_eqSeqStepS S153.sl v91 r85.1 (f162.mono sgI) v53 r47.1 (f160.mono sgI) hr178) ?_
      rintro e w179 ⟨rfl, r180⟩
      refine ⟨_, rfl, ?_⟩
      have S181 := S153.call r180
      have z182 := r180.bel.size
      refine FL.val (wF_yes rfl rfl rfl c176) rfl rfl (E.not rfl) ?_
      obtain rfl := Option.some.inj hp
      refine FL.v (E.pickF rfl c176 rfl) ?_
      exact FL.nil ⟨rfl, _, S181, (Inc.rfl _), k117, k118, k119, k121, k122, rfl⟩
    rintro f175 w174 ⟨H171, S172, i173, k183, k184, k185, k186, k187, k188⟩
    refine FL.v (E.move k188) ?_
    refine FL.cut 4 (fun f w => ∃ H : GH, St Ha wa H w [] ∧ Inc H171 H ∧ f 0 = v0 ∧ f 4 = v53 ∧ f 5 = Value.bool r47.2 ∧ f 7 = v91 ∧ f 61 = Value.bool (bif t170 then true else (!(r85.2 == r47.2)))) ?_ ?_
    ·
     rcases bcase t170 with c195 | c195
     ·
      refine FL.skip (wF_no rfl rfl rfl c195) rfl ?_
      refine FL.skip (wF_no rfl rfl rfl c195) rfl ?_
      refine FL.skip (wF_no rfl rfl rfl c195) rfl ?_
      refine FL.v (E.pickT rfl c195 rfl) ?_
      exact FL.nil ⟨rfl, _, S172, (Inc.rfl _), k183, k184, k185, k186, (congrArg Value.bool (bifT c195).symm)⟩
     ·
      refine FL.val (wF_yes rfl rfl rfl c195) rfl rfl (E.move k187) ?_
      refine FL.val (wF_yes rfl rfl rfl c195) rfl rfl (E.move k185) ?_
      refine FL.val (wF_yes rfl rfl rfl c195) rfl rfl (E.neqB Tryz.runUnderlying4 rfl rfl) ?_
      refine FL.v (E.pickF rfl c195 rfl) ?_
      exact FL.nil ⟨rfl, _, S172, (Inc.rfl _), k183, k184, k185, k186, (congrArg Value.bool (bifF c195).symm)⟩
    rintro f194 w193 ⟨H190, S191, i192, k196, k197, k198, k199, k200⟩
    refine FL.nil ?_
    rcases ifB hp with ⟨c201, hp⟩ | ⟨c201, hp⟩
    ·
     refine FW.condT k200 c201 ?_
     refine FW.seq (FW.region ?_)
     refine FL.v (E.assign (v := Value.bool false) rfl) ?_
     refine FL.nil ?_
     refine FW.ret ?_
     obtain rfl := Option.some.inj hp
     exact ⟨.inr rfl, res1 rfl rfl ⟨rfl, S191.back⟩⟩
    ·
     refine FW.condF k200 c201 ?_
     refine FW.skip (FW.seq (FW.region ?_))
     refine FL.v (E.assign (v := Value.int .i64 1) rfl) ?_
     refine FL.nil (FW.seq (FW.region ?_))
     refine FL.v (E.move k199) ?_
     refine FL.v (E.move (v := Value.int .i64 1) rfl) ?_
     refine FL.call rfl rfl rfl (E.call Tryz.call16 (A2 rfl rfl)) (w_laws_markSeqStepS S191 hs v91 r85.1 cs93 (f163.mono (sg_up (by omega) (i173.tr i192))) 1) ?_
     rintro e w203 ⟨H202, c208, rfl, S204, ns210, hb209, o206⟩
     refine ⟨_, rfl, ?_⟩
     have o207 := (f163.mono (sg_mono (hi := w88.heap.size) (i173.tr i192))).outside o206
     have ns210 := f163.span eSeqStep_loc (by omega) ns210 hb209
     have h205 := ns210.rsl
     have f211 := f160.mono ((sg_mono (lo := w31.heap.size) (hi := w50.heap.size) (i173.tr i192)).tr (sg_keep o207 (by omega)))
     have f212 := f161.mono ((sg_mono (lo := w31.heap.size) (hi := w50.heap.size) (i173.tr i192)).tr (sg_keep o207 (by omega)))
     refine FL.v (E.assign (v := Value.int .i64 ((PF.laws_markSeqStepS r85.1 1).2)) rfl) ?_
     refine FL.nil (FW.seq (FW.region ?_))
     refine FL.v (E.assign (v := Value.int .i64 1) rfl) ?_
     refine FL.nil (FW.seq (FW.region ?_))
     refine FL.v (E.move k199) ?_
     refine FL.v (E.move (v := Value.int .i64 1) rfl) ?_
     obtain ⟨r213, hr214, hp⟩ := bnd hp
     refine FL.call rfl rfl rfl (E.call Tryz.call17 (A2 rfl rfl)) (w_laws_heldSeqStepS S204.sl v91 ((PF.laws_markSeqStepS r85.1 1).1) (h205.mono sgI) 1 hr214) ?_
     rintro e w215 ⟨rfl, r216⟩
     refine ⟨_, rfl, ?_⟩
     have S217 := S204.call r216
     have z218 := r216.bel.size
     refine FL.v (E.assign (v := Value.int .i64 r213) rfl) ?_
     refine FL.nil (FW.seq (FW.seq (FW.region ?_)))
     refine FL.v (E.move (v := Value.int .i64 r213) rfl) ?_
     refine FL.v (E.lss rfl rfl) ?_
     refine FL.nil ?_
     rcases ifB hp with ⟨c219, hp⟩ | ⟨c219, hp⟩
     ·
      refine FW.condT rfl c219 ?_
      refine FW.seq (FW.region ?_)
      refine FL.v (E.assign (v := Value.bool false) rfl) ?_
      refine FL.nil ?_
      refine FW.ret ?_
      obtain rfl := Option.some.inj hp
      exact ⟨.inr rfl, res1 rfl rfl ⟨rfl, S217.back⟩⟩
     ·
      refine FW.condF rfl c219 ?_
      refine FW.skip (FW.seq (FW.seq (FW.region ?_)))
      refine FL.v (E.move (v := Value.int .i64 r213) rfl) ?_
      refine FL.v (E.move (v := Value.int .i64 ((PF.laws_markSeqStepS r85.1 1).2)) rfl) ?_
      refine FL.v (E.neq rfl rfl) ?_
      refine FL.nil ?_
      rcases ifB hp with ⟨c220, hp⟩ | ⟨c220, hp⟩
      ·
       refine FW.condT rfl c220 ?_
       refine FW.seq (FW.region ?_)
       refine FL.v (E.assign (v := Value.bool false) rfl) ?_
       refine FL.nil ?_
       refine FW.ret ?_
       obtain rfl := Option.some.inj hp
       exact ⟨.inr rfl, res1 rfl rfl ⟨rfl, S217.back⟩⟩
      ·
       refine FW.condF rfl c220 ?_
       refine FW.skip (FW.seq (FW.region ?_))
       refine FL.v (E.move k196) ?_
       obtain ⟨r221, hr222, hp⟩ := bnd hp
       refine FL.call rfl rfl rfl (E.call Tryz.call20 (A1 rfl)) (w_laws_toSeqStepS S217.sl v0 a0 (p0.mono S204.inc) hr222) ?_
       rintro e w224 ⟨H223, v227, n228, cs229, rfl, r226, els230, nd231⟩
       refine ⟨_, rfl, ?_⟩
       have nv232 : New H202 cs229 := New.of_up S217.sl els230.dom
       obtain ⟨H233, r234, i235, ns238, nv237⟩ := r226.sealRowN (i := 0) (l' := []) rfl els230 nd231 (by decide) rfl
       have h236 := ns238.rsl
       have S225 := S217.call r234.run
       have z239 := r234.run.bel.size
       have h236 := h236.mono (sg_of S225.sl)
       have ns238 := ns238.mono (sg_of S225.sl)
       obtain ⟨r240, hr241, hp⟩ := bnd hp
       refine FL.call rfl rfl rfl (E.call Tryz.call21 (A1 rfl)) (w_impl_TrimSeq S225.sl v227 r221 (h236.mono sgI) hr241) ?_
       rintro e w243 ⟨H242, v246, n247, cs248, rfl, r245, els249, nd250⟩
       refine ⟨_, rfl, ?_⟩
       have nv251 : New H233 cs248 := New.of_up S225.sl els249.dom
       obtain ⟨H252, r253, i254, ns257, nv256⟩ := r245.sealRowN (i := 0) (l' := []) rfl els249 nd250 (by decide) rfl
       have h255 := ns257.rsl
       have S244 := S225.call r253.run
       have z258 := r253.run.bel.size
       have h255 := h255.mono (sg_of S244.sl)
       have ns257 := ns257.mono (sg_of S244.sl)
       refine FL.v (E.move (v := Value.tuple #[v246, Value.bool r240.2]) rfl) ?_
       refine FL.v (E.extract (i := 0) rfl rfl) ?_
       refine FL.v (E.extract (i := 1) rfl rfl) ?_
       refine FL.v (E.assign (v := v246) rfl) ?_
       refine FL.v (E.assign (v := Value.bool r240.2) rfl) ?_
       refine FL.nil (FW.seq (FW.seq (FW.region ?_)))
       refine FL.v (E.move (v := v246) rfl) ?_
       refine FL.v (E.move k197) ?_
       obtain ⟨r259, hr260, hp⟩ := bnd hp
       refine FL.call rfl rfl rfl (E.call Tryz.call13 (A2 rfl rfl)) (w_laws_eqSeqStepS S244.sl v246 r240.1 (h255.mono sgI) v53 r47.1 (f211.mono (sgI.tr (r234.run.inc.tr r253.run.inc))) hr260) ?_
       rintro e w261 ⟨rfl, r262⟩
       refine ⟨_, rfl, ?_⟩
       have S263 := S244.call r262
       have z264 := r262.bel.size
       refine FL.v (E.not rfl) ?_
       refine FL.v (E.move (v := Value.bool (!r259)) rfl) ?_
       refine FL.cut 4 (fun f w => ∃ H : GH, St Ha wa H w [] ∧ Inc H252 H ∧ f 7 = v91 ∧ f 10 = Value.int .i64 ((PF.laws_markSeqStepS r85.1 1).2) ∧ f 87 = Value.bool (bif (!r259) then true else (!(r240.2 == r47.2)))) ?_ ?_
       ·
        rcases bcase (!r259) with c271 | c271
        ·
         refine FL.skip (wF_no rfl rfl rfl c271) rfl ?_
         refine FL.skip (wF_no rfl rfl rfl c271) rfl ?_
         refine FL.skip (wF_no rfl rfl rfl c271) rfl ?_
         refine FL.v (E.pickT rfl c271 rfl) ?_
         exact FL.nil ⟨rfl, _, S263, (Inc.rfl _), k199, rfl, (congrArg Value.bool (bifT c271).symm)⟩
        ·
         refine FL.val (wF_yes rfl rfl rfl c271) rfl rfl (E.move (v := Value.bool r240.2) rfl) ?_
         refine FL.val (wF_yes rfl rfl rfl c271) rfl rfl (E.move k198) ?_
         refine FL.val (wF_yes rfl rfl rfl c271) rfl rfl (E.neqB Tryz.runUnderlying4 rfl rfl) ?_
         refine FL.v (E.pickF rfl c271 rfl) ?_
         exact FL.nil ⟨rfl, _, S263, (Inc.rfl _), k199, rfl, (congrArg Value.bool (bifF c271).symm)⟩
       rintro f270 w269 ⟨H266, S267, i268, k272, k273, k274⟩
       refine FL.nil ?_
       rcases ifB hp with ⟨c275, hp⟩ | ⟨c275, hp⟩
       ·
        refine FW.condT k274 c275 ?_
        refine FW.seq (FW.region ?_)
        refine FL.v (E.assign (v := Value.bool false) rfl) ?_
        refine FL.nil ?_
        refine FW.ret ?_
        obtain rfl := Option.some.inj hp
        exact ⟨.inr rfl, res1 rfl rfl ⟨rfl, S267.back⟩⟩
       ·
        refine FW.condF k274 c275 ?_
        refine FW.skip (FW.seq (FW.region ?_))
        refine FL.v (E.assign (v := Value.int .i64 1) rfl) ?_
        refine FL.nil (FW.seq (FW.region ?_))
        refine FL.v (E.move k272) ?_
        refine FL.v (E.move (v := Value.int .i64 1) rfl) ?_
        obtain ⟨r276, hr277, hp⟩ := bnd hp
        refine FL.call rfl rfl rfl (E.call Tryz.call17 (A2 rfl rfl)) (w_laws_heldSeqStepS S267.sl v91 ((PF.laws_markSeqStepS r85.1 1).1) (h205.mono (sgI.tr ((r234.run.inc.tr r253.run.inc).tr i268))) 1 hr277) ?_
        rintro e w278 ⟨rfl, r279⟩
        refine ⟨_, rfl, ?_⟩
        have S280 := S267.call r279
        have z281 := r279.bel.size
        refine FL.v (E.assign (v := Value.int .i64 r276) rfl) ?_
        refine FL.nil (FW.seq (FW.seq (FW.region ?_)))
        refine FL.v (E.move (v := Value.int .i64 r276) rfl) ?_
        refine FL.v (E.lss rfl rfl) ?_
        refine FL.nil ?_
        rcases ifB hp with ⟨c282, hp⟩ | ⟨c282, hp⟩
        ·
         refine FW.condT rfl c282 ?_
         refine FW.seq (FW.region ?_)
         refine FL.v (E.assign (v := Value.bool false) rfl) ?_
         refine FL.nil ?_
         refine FW.ret ?_
         obtain rfl := Option.some.inj hp
         exact ⟨.inr rfl, res1 rfl rfl ⟨rfl, S280.back⟩⟩
        ·
         refine FW.condF rfl c282 ?_
         refine FW.skip (FW.seq (FW.seq (FW.region ?_)))
         refine FL.v (E.move (v := Value.int .i64 r276) rfl) ?_
         refine FL.v (E.move k273) ?_
         refine FL.v (E.neq rfl rfl) ?_
         refine FL.nil ?_
         rcases ifB hp with ⟨c283, hp⟩ | ⟨c283, hp⟩
         ·
          refine FW.condT rfl c283 ?_
          refine FW.seq (FW.region ?_)
          refine FL.v (E.assign (v := Value.bool false) rfl) ?_
          refine FL.nil ?_
          refine FW.ret ?_
          obtain rfl := Option.some.inj hp
          exact ⟨.inr rfl, res1 rfl rfl ⟨rfl, S280.back⟩⟩
         ·
          refine FW.condF rfl c283 ?_
          refine FW.skip (FW.seq (FW.region ?_))
          refine FL.v (E.assign (v := Value.bool true) rfl) ?_
          refine FL.nil ?_
          refine FW.ret ?_
          obtain rfl := Option.some.inj hp
          exact ⟨.inr rfl, res1 rfl rfl ⟨rfl, S280.back⟩⟩

end Go.Proofs
