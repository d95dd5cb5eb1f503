/- Part of the walks and plain laws behind the claim: it proves helpers, under no condition beyond their own. -/
import Derived.Test.YtdkfkiifbagnnaaGreatDcWk3
set_option linter.unusedVariables false
set_option maxRecDepth 100000
namespace Go.Proofs
open Go.Mr Go.Pu Go.PF Go.RowKit

theorem w_laws_markTextO {Ha : GH} {wa : World} (hs : Sl Ha wa) (a0 : Int) {r : ByteArray} (hp : (PF.laws_markTextO a0) = some r) :
  Calls Tryz.prog 55 #[Value.int .i64 a0] wa (Sc Ha wa (Value.string r)) := by
 unfold PF.laws_markTextO at hp
 have S0 := St.init hs
 refine calls_go (N := 20) (args := [Value.int .i64 a0]) Tryz.func55 rfl rfl rfl ?_
 refine FW.seq (FW.region ?_)
 refine FL.v (E.assign (v := Value.string (ByteArray.mk #[])) rfl) ?_
 refine FL.nil (FW.seq (FW.seq (FW.region ?_)))
 refine FL.v (E.move (v := Value.int .i64 a0) rfl) ?_
 refine FL.v (E.leq rfl rfl) ?_
 refine FL.nil ?_
 rcases ifB hp with ⟨c21, hp⟩ | ⟨c21, hp⟩
 ·
  refine FW.condT rfl c21 ?_
  refine FW.seq (FW.region ?_)
  refine FL.v (E.assign (v := Value.string (ByteArray.mk #[109, 48])) rfl) ?_
  refine FL.nil ?_
  refine FW.ret ?_
  obtain rfl := Option.some.inj hp
  exact ⟨.inr rfl, res1 rfl rfl ⟨rfl, S0.back⟩⟩
 ·
  refine FW.condF rfl c21 ?_
  refine FW.skip (FW.seq (FW.region ?_))
  refine FL.v (E.assign (v := Value.string (ByteArray.mk #[])) rfl) ?_
  refine FL.nil (FW.seq ?_)
  obtain ⟨q22, hq, hp⟩ := bndR hp
  refine FW.block ?_
  refine FW.mono (FW.iter (S := (Int × ByteArray)) (X := Empty) (fun (s22 : (Int × ByteArray)) f w => ∃ H : GH, St Ha wa H w [] ∧ Inc Ha H ∧ f 0 = Value.int .i64 s22.1 ∧ f 3 = Value.string s22.2) (fun (q : Rs (Int × ByteArray) Empty) e f w => match q with | .go s22 => e = Exit.exit 0 ∧ (∃ H : GH, St Ha wa H w [] ∧ Inc Ha H ∧ f 3 = Value.string s22.2) | .rt x => x.elim) hq ⟨_, S0, (Inc.rfl _), rfl, rfl⟩ ?_) ?_
  ·
   clear hp hq
   rintro s22 f42 w41 ⟨H38, S39, i40, k43, k44⟩ o53 hp
   refine FW.seq (FW.seq (FW.region ?_))
   refine FL.v (E.move k43) ?_
   refine FL.v (E.gtr rfl rfl) ?_
   refine FL.nil ?_
   rcases ifB hp with ⟨c45, hp⟩ | ⟨c45, hp⟩
   ·
    refine FW.condT rfl c45 ?_
    refine FW.skip (FW.block (FW.seq (FW.region ?_)))
    refine FL.v (E.move k43) ?_
    refine FL.v (E.rem rfl rfl (by decide)) ?_
    refine FL.v (E.add rfl rfl) ?_
    refine FL.v (E.conv Tryz.runUnderlying3 Tryz.runUnderlying5 rfl) ?_
    obtain ⟨v46, w47, run48, S49⟩ := S39.buildSlice (P := Tryz.prog) te41 [Value.int .u8 (wrk false 8 (wr (48 + (s22.1.tmod 10))))] (parts := #[(0, Value.int .u8 (wrk false 8 (wr (48 + (s22.1.tmod 10)))))]) (cells := [Value.int .u8 (wrk false 8 (wr (48 + (s22.1.tmod 10))))]) rfl (szs_cons rfl szs_nil) (fc_cons rfl fc_nil) (ones_cons rfl ones_nil) (Nat.le_of_ble_eq_true rfl)
    have els50 : Els (up wa.heap.size H38) (eN .u8) 1 [Value.int .u8 (wrk false 8 (wr (48 + (s22.1.tmod 10))))] [(wrk false 8 (wr (48 + (s22.1.tmod 10))))] := (Els.snoc (H := (up wa.heap.size H38)) (E := (eN .u8)) (k := 1) (c := [Value.int .u8 (wrk false 8 (wr (48 + (s22.1.tmod 10))))]) (x := (wrk false 8 (wr (48 + (s22.1.tmod 10))))) Els.nil rfl rfl)
    refine FL.v (E.buildSlice (B1 rfl) run48) ?_
    refine FL.v (E.bytes Tryz.underlying41 Tryz.underlying5 Tryz.underlying9 S49 (i := 0) rfl els50 rfl) ?_
    refine FL.v (E.move k44) ?_
    obtain ⟨z51, h52, hp⟩ := bnd hp
    refine FL.v (E.addT rfl rfl h52) ?_
    refine FL.v (E.assign (v := Value.string z51) rfl) ?_
    refine FL.nil (FW.region ?_)
    refine FL.v (E.move k43) ?_
    refine FL.v (E.quo rfl rfl (by decide)) ?_
    refine FL.v (E.assign (v := Value.int .i64 (wr (s22.1.tdiv 10))) rfl) ?_
    refine FL.nil ?_
    obtain rfl := Option.some.inj hp
    exact ⟨rfl, ⟨_, (S49.sel [] (by decide) rfl), i40, rfl, rfl⟩⟩
   ·
    refine FW.condF rfl c45 ?_
    refine FW.exit ?_
    obtain rfl := Option.some.inj hp
    exact ⟨nofun, rfl, ⟨_, S39, i40, k44⟩⟩
  ·
   clear hq
   intro e f58 w57 hD
   rcases q22 with s22 | x22
   ·
    obtain ⟨rfl, hD⟩ := hD
    obtain ⟨H54, S55, i56, k59⟩ := hD
    replace hp := el_go hp
    refine FW.seq (FW.region ?_)
    refine FL.v (E.move k59) ?_
    obtain ⟨z60, h61, hp⟩ := bnd hp
    refine FL.v (E.addT rfl rfl h61) ?_
    refine FL.v (E.assign (v := Value.string z60) rfl) ?_
    refine FL.nil ?_
    refine FW.ret ?_
    obtain rfl := Option.some.inj hp
    exact ⟨.inr rfl, res1 rfl rfl ⟨rfl, S55.back⟩⟩
   ·
    exact x22.elim
theorem w_laws_markText {Ha : GH} {wa : World} (hs : Sl Ha wa) (a0 : Int) : Calls Tryz.prog 55 #[Value.int .i64 a0] wa (Sc Ha wa (Value.string (PF.laws_markText a0))) := w_laws_markTextO hs a0 (PF.laws_markText_eq a0)

theorem w_laws_markStringS {H0 Ha : GH} {w0 wa : World} {l : List MO} (S0 : St H0 w0 Ha wa l) (hs0 : Sl H0 w0) (v0 : Value) (a0 : List ByteArray) (p0 : RSl (up w0.heap.size Ha) eS 1 v0 a0) (a1 : Int) :
  Calls Tryz.prog 15 #[v0, Value.int .i64 a1] wa (M1 H0 w0 Ha l eS 1 v0 (PF.laws_markStringS a0 a1)) := by
 obtain ⟨c0, n0, hc0⟩ := p0.nest eS_flat (by decide)
 have hln := p0.ln
 have hle := p0.le
 refine calls_go (N := 20) (args := [v0, Value.int .i64 a1]) Tryz.func15 rfl rfl rfl ?_
 refine FW.seq (FW.region ?_)
 refine FL.v (E.assign (v := Value.int .i64 0) rfl) ?_
 refine FL.nil (FW.seq (FW.seq (FW.region ?_)))
 refine FL.v (E.assign (v := Value.int .i64 0) rfl) ?_
 refine FL.nil (FW.block ?_)
 refine FW.mono (FW.mark (F := fun y m => ((PF.laws_markText m), (wr (m + 1)))) (a0 := a0) (k0 := a1) (fun (i : Nat) (xs : List ByteArray) (k : Int) f w => ∃ (H : GH) (c : List Value), St H0 w0 H w l ∧ Nest (up w0.heap.size H) eS 1 v0 xs c ∧ bl c = bl c0 ∧ (∀ b, b ∉ bl [v0] → b ∉ bl c0 → H b = Ha b) ∧ f 0 = v0 ∧ f 1 = Value.int .i64 k ∧ f 5 = Value.int .i64 ((i : Nat) : Int)) (fun e f w => e = Exit.exit 0 ∧ ∃ (H : GH) (c : List Value), St H0 w0 H w l ∧ Nest (up w0.heap.size H) eS 1 v0 (markFrom (fun y m => ((PF.laws_markText m), (wr (m + 1)))) a0 a1).1 c ∧ bl c = bl c0 ∧ (∀ b, b ∉ bl [v0] → b ∉ bl c0 → H b = Ha b) ∧ f 0 = v0 ∧ f 1 = Value.int .i64 (markFrom (fun y m => ((PF.laws_markText m), (wr (m + 1)))) a0 a1).2) ⟨_, _, S0, n0, rfl, fun _ _ _ => rfl, rfl, rfl, rfl⟩ ?_ ?_) ?_
 ·
  rintro i y xs m f1 w1 ⟨H1, c1, S1, n1, hb, ho, kv, kk, kc⟩ hx hy
  obtain ⟨p, hpt, wr0, hB, hr, nd⟩ := n1.begin hy (by decide)
  have hci := eS_open hr
  have rd := wr0.opens hci
  refine FW.seq (FW.seq (FW.region ?_))
  refine FL.v (E.move kc) ?_
  refine FL.v (E.move kv) ?_
  refine FL.v (E.len te22 rfl hln) ?_
  refine FL.v (E.lssT rfl rfl (lss_len hx)) ?_
  refine FL.nil ?_
  refine FW.condT rfl rfl ?_
  refine FW.skip (FW.seq (FW.block (FW.seq (FW.region ?_))))
  refine FL.v (E.move kv) ?_
  refine FL.v (E.move kc) ?_
  refine FL.v (E.move kk) ?_
  refine FL.call rfl rfl rfl (E.call Tryz.call55 (A1 rfl)) (w_laws_markText S1.sl m) ?_
  rintro e w21 ⟨rfl, r22⟩
  refine ⟨_, rfl, ?_⟩
  have S23 := S1.call r22
  refine FL.v (E.indexAddr te22 rfl rfl hpt) ?_
  obtain ⟨w24, H25, run27, S26, wr28, o29⟩ := rd.poke0 (P := Tryz.prog) (t := 9) (u := Value.string (PF.laws_markText m)) S23 hs0 hB rfl rfl rfl Tryz.sizeOf9 rfl rfl (c2 := [Value.string (PF.laws_markText m)]) rfl
  refine FL.act rfl rfl (E.store rfl rfl run27) ?_
  refine FL.nil (FW.region ?_)
  refine FL.v (E.move kk) ?_
  refine FL.v (E.add rfl rfl) ?_
  refine FL.v (E.assign (v := Value.int .i64 (wr (m + 1))) rfl) ?_
  refine FL.nil (FW.region ?_)
  refine FL.v (E.move kc) ?_
  refine FL.v (E.add rfl rfl) ?_
  refine FL.v (E.assign (v := Value.int .i64 (wr (((i : Nat) : Int) + 1))) rfl) ?_
  refine FL.nil ?_
  obtain ⟨c2, n2, hb2, ho2⟩ := n1.round eS_flat.loc hy (by decide) hpt wr28 (y' := (PF.laws_markText m)) rfl
  exact ⟨rfl, _, _, S26, n2, hb2.trans hb, fun b q1 q2 => (ho2 b q1 (by rw [hb]; exact q2)).trans (ho b q1 q2), kv, rfl, nat_succ rfl (lt_of_get hx) hle⟩
 ·
  rintro f1 w1 ⟨H1, c1, S1, n1, hb, ho, kv, kk, kc⟩
  refine FW.seq (FW.seq (FW.region ?_))
  refine FL.v (E.move kc) ?_
  refine FL.v (E.move kv) ?_
  refine FL.v (E.len te22 rfl hln) ?_
  refine FL.v (E.lss rfl rfl) ?_
  refine FL.nil ?_
  refine FW.condF rfl dlt_len ?_
  refine FW.exit ?_
  exact ⟨nofun, rfl, _, _, S1, n1, hb, ho, kv, kk⟩
 ·
  rintro e f2 w2 ⟨rfl, H2, c2, S2, n2, hb, ho, kv, kk⟩
  refine FW.seq (FW.region ?_)
  refine FL.v (E.move kk) ?_
  refine FL.v (E.assign (v := Value.int .i64 ((markFrom (fun y m => ((PF.laws_markText m), (wr (m + 1)))) a0 a1).2)) rfl) ?_
  refine FL.nil ?_
  refine FW.ret ?_
  exact ⟨.inr rfl, res1 rfl rfl ⟨_, rfl, S2, n2.rsl, fun b q => ho b q (by rw [hc0]; simp)⟩⟩

theorem w_laws_markSeqStepS {H0 Ha : GH} {w0 wa : World} {l : List MO} (S0 : St H0 w0 Ha wa l) (hs0 : Sl H0 w0) (v0 : Value) (a0 : List SeqStep) (c0 : List Value) (n0 : Nest (up w0.heap.size Ha) eSeqStep 6 v0 a0 c0) (a1 : Int) :
  Calls Tryz.prog 16 #[v0, Value.int .i64 a1] wa (M2 H0 w0 Ha l eSeqStep 6 v0 c0 (PF.laws_markSeqStepS a0 a1)) := by
 have hln := n0.rsl.ln
 have hle := n0.rsl.le
 refine calls_go (N := 58) (args := [v0, Value.int .i64 a1]) Tryz.func16 rfl rfl rfl ?_
 refine FW.seq (FW.region ?_)
 refine FL.v (E.assign (v := Value.int .i64 0) rfl) ?_
 refine FL.nil (FW.seq (FW.seq (FW.region ?_)))
 refine FL.v (E.assign (v := Value.int .i64 0) rfl) ?_
 refine FL.nil (FW.block ?_)
 refine FW.mono (FW.mark (F := fun y m => ((SeqStep.mk (Sequent.mk ((PF.laws_markStringS y.seq.left m).1) ((PF.laws_markStringS y.seq.right ((PF.laws_markStringS y.seq.left m).2)).1)) ((PF.laws_markStringS y.seq.right ((PF.laws_markStringS y.seq.left m).2)).2) (PF.laws_markText (wr ((PF.laws_markStringS y.seq.right ((PF.laws_markStringS y.seq.left m).2)).2 + 1))) (wr ((wr ((PF.laws_markStringS y.seq.right ((PF.laws_markStringS y.seq.left m).2)).2 + 1)) + 1)) (wr ((wr ((wr ((PF.laws_markStringS y.seq.right ((PF.laws_markStringS y.seq.left m).2)).2 + 1)) + 1)) + 1))), (wr ((wr ((wr ((wr ((PF.laws_markStringS y.seq.right ((PF.laws_markStringS y.seq.left m).2)).2 + 1)) + 1)) + 1)) + 1)))) (a0 := a0) (k0 := a1) (fun (i : Nat) (xs : List SeqStep) (k : Int) f w => ∃ (H : GH) (c : List Value), St H0 w0 H w l ∧ Nest (up w0.heap.size H) eSeqStep 6 v0 xs c ∧ bl c = bl c0 ∧ (∀ b, b ∉ bl [v0] → b ∉ bl c0 → H b = Ha b) ∧ f 0 = v0 ∧ f 1 = Value.int .i64 k ∧ f 5 = Value.int .i64 ((i : Nat) : Int)) (fun e f w => e = Exit.exit 0 ∧ ∃ (H : GH) (c : List Value), St H0 w0 H w l ∧ Nest (up w0.heap.size H) eSeqStep 6 v0 (markFrom (fun y m => ((SeqStep.mk (Sequent.mk ((PF.laws_markStringS y.seq.left m).1) ((PF.laws_markStringS y.seq.right ((PF.laws_markStringS y.seq.left m).2)).1)) ((PF.laws_markStringS y.seq.right ((PF.laws_markStringS y.seq.left m).2)).2) (PF.laws_markText (wr ((PF.laws_markStringS y.seq.right ((PF.laws_markStringS y.seq.left m).2)).2 + 1))) (wr ((wr ((PF.laws_markStringS y.seq.right ((PF.laws_markStringS y.seq.left m).2)).2 + 1)) + 1)) (wr ((wr ((wr ((PF.laws_markStringS y.seq.right ((PF.laws_markStringS y.seq.left m).2)).2 + 1)) + 1)) + 1))), (wr ((wr ((wr ((wr ((PF.laws_markStringS y.seq.right ((PF.laws_markStringS y.seq.left m).2)).2 + 1)) + 1)) + 1)) + 1)))) a0 a1).1 c ∧ bl c = bl c0 ∧ (∀ b, b ∉ bl [v0] → b ∉ bl c0 → H b = Ha b) ∧ f 0 = v0 ∧ f 1 = Value.int .i64 (markFrom (fun y m => ((SeqStep.mk (Sequent.mk ((PF.laws_markStringS y.seq.left m).1) ((PF.laws_markStringS y.seq.right ((PF.laws_markStringS y.seq.left m).2)).1)) ((PF.laws_markStringS y.seq.right ((PF.laws_markStringS y.seq.left m).2)).2) (PF.laws_markText (wr ((PF.laws_markStringS y.seq.right ((PF.laws_markStringS y.seq.left m).2)).2 + 1))) (wr ((wr ((PF.laws_markStringS y.seq.right ((PF.laws_markStringS y.seq.left m).2)).2 + 1)) + 1)) (wr ((wr ((wr ((PF.laws_markStringS y.seq.right ((PF.laws_markStringS y.seq.left m).2)).2 + 1)) + 1)) + 1))), (wr ((wr ((wr ((wr ((PF.laws_markStringS y.seq.right ((PF.laws_markStringS y.seq.left m).2)).2 + 1)) + 1)) + 1)) + 1)))) a0 a1).2) ⟨_, _, S0, n0, rfl, fun _ _ _ => rfl, rfl, rfl, rfl⟩ ?_ ?_) ?_
 ·
  rintro i y xs m f1 w1 ⟨H1, c1, S1, n1, hb, ho, kv, kk, kc⟩ hx hy
  obtain ⟨p, hpt, wr0, hB, hr, nd⟩ := n1.begin hy (by decide)
  obtain ⟨u0, u1, hci, hu0, hu1⟩ := eSeqStep_open hr
  have rd := wr0.opens hci
  refine FW.seq (FW.seq (FW.region ?_))
  refine FL.v (E.move kc) ?_
  refine FL.v (E.move kv) ?_
  refine FL.v (E.len te24 rfl hln) ?_
  refine FL.v (E.lssT rfl rfl (lss_len hx)) ?_
  refine FL.nil ?_
  refine FW.condT rfl rfl ?_
  refine FW.skip (FW.seq (FW.block (FW.seq (FW.region ?_))))
  refine FL.v (E.move kv) ?_
  refine FL.v (E.move kc) ?_
  refine FL.v (E.indexAddr te24 rfl rfl hpt) ?_
  refine FL.v (E.fieldAddr tf74_0 rfl) ?_
  refine FL.v (E.fieldAddrN tf68_0 rfl rfl) ?_
  refine FL.v (E.load rfl (run_load1 Tryz.isAgg22 (rd.now S1.sl) rfl)) ?_
  refine FL.v (E.move kk) ?_
  refine FL.call rfl rfl rfl (E.call Tryz.call15 (A2 rfl rfl)) (w_laws_markStringS S1 hs0 u0 y.seq.left hu0 m) ?_
  rintro e w22 ⟨H21, rfl, S23, h24, o25⟩
  refine ⟨_, rfl, ?_⟩
  have h26 := rd.kept2 nd (i := 0) (j := 1) rfl rfl (by decide) hu1 eS_flat o25
  have wr27 := rd.inner (j := 0) rfl o25
  refine FL.v (E.assign (v := Value.int .i64 ((PF.laws_markStringS y.seq.left m).2)) rfl) ?_
  refine FL.nil (FW.seq (FW.region ?_))
  refine FL.v (E.move kv) ?_
  refine FL.v (E.move kc) ?_
  refine FL.v (E.indexAddr te24 rfl rfl hpt) ?_
  refine FL.v (E.fieldAddr tf74_0 rfl) ?_
  refine FL.v (E.fieldAddrN tf68_1 rfl rfl) ?_
  refine FL.v (E.load rfl (run_load1 Tryz.isAgg22 (wr27.now S23.sl) rfl)) ?_
  refine FL.v (E.move (v := Value.int .i64 ((PF.laws_markStringS y.seq.left m).2)) rfl) ?_
  refine FL.call rfl rfl rfl (E.call Tryz.call15 (A2 rfl rfl)) (w_laws_markStringS S23 hs0 u1 y.seq.right h26 ((PF.laws_markStringS y.seq.left m).2)) ?_
  rintro e w29 ⟨H28, rfl, S30, h31, o32⟩
  refine ⟨_, rfl, ?_⟩
  have h33 := wr27.kept2 nd (i := 1) (j := 0) rfl rfl (by decide) h24 eS_flat o32
  have wr34 := wr27.inner (j := 1) rfl o32
  refine FL.v (E.assign (v := Value.int .i64 ((PF.laws_markStringS y.seq.right ((PF.laws_markStringS y.seq.left m).2)).2)) rfl) ?_
  refine FL.nil (FW.seq (FW.region ?_))
  refine FL.v (E.move kv) ?_
  refine FL.v (E.move kc) ?_
  refine FL.v (E.move (v := Value.int .i64 ((PF.laws_markStringS y.seq.right ((PF.laws_markStringS y.seq.left m).2)).2)) rfl) ?_
  refine FL.v (E.indexAddr te24 rfl rfl hpt) ?_
  refine FL.v (E.fieldAddr tf74_1 rfl) ?_
  obtain ⟨w35, H36, run38, S37, wr39, o40⟩ := wr34.poke (P := Tryz.prog) (t := 3) (u := Value.int .i64 ((PF.laws_markStringS y.seq.right ((PF.laws_markStringS y.seq.left m).2)).2)) S30 hs0 hB (j := 2) rfl rfl rfl Tryz.sizeOf3 rfl rfl (c2 := [u0, u1, Value.int .i64 ((PF.laws_markStringS y.seq.right ((PF.laws_markStringS y.seq.left m).2)).2), Value.string y.main, Value.int .i64 y.a, Value.int .i64 y.b]) rfl
  have h41 := wr34.kept (j := 0) rfl h33 eS_flat o40
  have h42 := wr34.kept (j := 1) rfl h31 eS_flat o40
  refine FL.act rfl rfl (E.store rfl rfl run38) ?_
  refine FL.nil (FW.seq (FW.region ?_))
  refine FL.v (E.move (v := Value.int .i64 ((PF.laws_markStringS y.seq.right ((PF.laws_markStringS y.seq.left m).2)).2)) rfl) ?_
  refine FL.v (E.add rfl rfl) ?_
  refine FL.v (E.assign (v := Value.int .i64 (wr ((PF.laws_markStringS y.seq.right ((PF.laws_markStringS y.seq.left m).2)).2 + 1))) rfl) ?_
  refine FL.nil (FW.seq (FW.region ?_))
  refine FL.v (E.move kv) ?_
  refine FL.v (E.move kc) ?_
  refine FL.v (E.move (v := Value.int .i64 (wr ((PF.laws_markStringS y.seq.right ((PF.laws_markStringS y.seq.left m).2)).2 + 1))) rfl) ?_
  refine FL.call rfl rfl rfl (E.call Tryz.call55 (A1 rfl)) (w_laws_markText S37.sl (wr ((PF.laws_markStringS y.seq.right ((PF.laws_markStringS y.seq.left m).2)).2 + 1))) ?_
  rintro e w43 ⟨rfl, r44⟩
  refine ⟨_, rfl, ?_⟩
  have S45 := S37.call r44
  refine FL.v (E.indexAddr te24 rfl rfl hpt) ?_
  refine FL.v (E.fieldAddr tf74_2 rfl) ?_
  obtain ⟨w46, H47, run49, S48, wr50, o51⟩ := wr39.poke (P := Tryz.prog) (t := 9) (u := Value.string (PF.laws_markText (wr ((PF.laws_markStringS y.seq.right ((PF.laws_markStringS y.seq.left m).2)).2 + 1)))) S45 hs0 hB (j := 3) rfl rfl rfl Tryz.sizeOf9 rfl rfl (c2 := [u0, u1, Value.int .i64 ((PF.laws_markStringS y.seq.right ((PF.laws_markStringS y.seq.left m).2)).2), Value.string (PF.laws_markText (wr ((PF.laws_markStringS y.seq.right ((PF.laws_markStringS y.seq.left m).2)).2 + 1))), Value.int .i64 y.a, Value.int .i64 y.b]) rfl
  have h52 := wr39.kept (j := 0) rfl h41 eS_flat o51
  have h53 := wr39.kept (j := 1) rfl h42 eS_flat o51
  refine FL.act rfl rfl (E.store rfl rfl run49) ?_
  refine FL.nil (FW.seq (FW.region ?_))
  refine FL.v (E.move (v := Value.int .i64 (wr ((PF.laws_markStringS y.seq.right ((PF.laws_markStringS y.seq.left m).2)).2 + 1))) rfl) ?_
  refine FL.v (E.add rfl rfl) ?_
  refine FL.v (E.assign (v := Value.int .i64 (wr ((wr ((PF.laws_markStringS y.seq.right ((PF.laws_markStringS y.seq.left m).2)).2 + 1)) + 1))) rfl) ?_
  refine FL.nil (FW.seq (FW.region ?_))
  refine FL.v (E.move kv) ?_
  refine FL.v (E.move kc) ?_
  refine FL.v (E.move (v := Value.int .i64 (wr ((wr ((PF.laws_markStringS y.seq.right ((PF.laws_markStringS y.seq.left m).2)).2 + 1)) + 1))) rfl) ?_
  refine FL.v (E.indexAddr te24 rfl rfl hpt) ?_
  refine FL.v (E.fieldAddr tf74_3 rfl) ?_
  obtain ⟨w54, H55, run57, S56, wr58, o59⟩ := wr50.poke (P := Tryz.prog) (t := 3) (u := Value.int .i64 (wr ((wr ((PF.laws_markStringS y.seq.right ((PF.laws_markStringS y.seq.left m).2)).2 + 1)) + 1))) S48 hs0 hB (j := 4) rfl rfl rfl Tryz.sizeOf3 rfl rfl (c2 := [u0, u1, Value.int .i64 ((PF.laws_markStringS y.seq.right ((PF.laws_markStringS y.seq.left m).2)).2), Value.string (PF.laws_markText (wr ((PF.laws_markStringS y.seq.right ((PF.laws_markStringS y.seq.left m).2)).2 + 1))), Value.int .i64 (wr ((wr ((PF.laws_markStringS y.seq.right ((PF.laws_markStringS y.seq.left m).2)).2 + 1)) + 1)), Value.int .i64 y.b]) rfl
  have h60 := wr50.kept (j := 0) rfl h52 eS_flat o59
  have h61 := wr50.kept (j := 1) rfl h53 eS_flat o59
  refine FL.act rfl rfl (E.store rfl rfl run57) ?_
  refine FL.nil (FW.seq (FW.region ?_))
  refine FL.v (E.move (v := Value.int .i64 (wr ((wr ((PF.laws_markStringS y.seq.right ((PF.laws_markStringS y.seq.left m).2)).2 + 1)) + 1))) rfl) ?_
  refine FL.v (E.add rfl rfl) ?_
  refine FL.v (E.assign (v := Value.int .i64 (wr ((wr ((wr ((PF.laws_markStringS y.seq.right ((PF.laws_markStringS y.seq.left m).2)).2 + 1)) + 1)) + 1))) rfl) ?_
  refine FL.nil (FW.seq (FW.region ?_))
  refine FL.v (E.move kv) ?_
  refine FL.v (E.move kc) ?_
  refine FL.v (E.move (v := Value.int .i64 (wr ((wr ((wr ((PF.laws_markStringS y.seq.right ((PF.laws_markStringS y.seq.left m).2)).2 + 1)) + 1)) + 1))) rfl) ?_
  refine FL.v (E.indexAddr te24 rfl rfl hpt) ?_
  refine FL.v (E.fieldAddr tf74_4 rfl) ?_
  obtain ⟨w62, H63, run65, S64, wr66, o67⟩ := wr58.poke (P := Tryz.prog) (t := 3) (u := Value.int .i64 (wr ((wr ((wr ((PF.laws_markStringS y.seq.right ((PF.laws_markStringS y.seq.left m).2)).2 + 1)) + 1)) + 1))) S56 hs0 hB (j := 5) rfl rfl rfl Tryz.sizeOf3 rfl rfl (c2 := [u0, u1, Value.int .i64 ((PF.laws_markStringS y.seq.right ((PF.laws_markStringS y.seq.left m).2)).2), Value.string (PF.laws_markText (wr ((PF.laws_markStringS y.seq.right ((PF.laws_markStringS y.seq.left m).2)).2 + 1))), Value.int .i64 (wr ((wr ((PF.laws_markStringS y.seq.right ((PF.laws_markStringS y.seq.left m).2)).2 + 1)) + 1)), Value.int .i64 (wr ((wr ((wr ((PF.laws_markStringS y.seq.right ((PF.laws_markStringS y.seq.left m).2)).2 + 1)) + 1)) + 1))]) rfl
  have h68 := wr58.kept (j := 0) rfl h60 eS_flat o67
  have h69 := wr58.kept (j := 1) rfl h61 eS_flat o67
  refine FL.act rfl rfl (E.store rfl rfl run65) ?_
  refine FL.nil (FW.region ?_)
  refine FL.v (E.move (v := Value.int .i64 (wr ((wr ((wr ((PF.laws_markStringS y.seq.right ((PF.laws_markStringS y.seq.left m).2)).2 + 1)) + 1)) + 1))) rfl) ?_
  refine FL.v (E.add rfl rfl) ?_
  refine FL.v (E.assign (v := Value.int .i64 (wr ((wr ((wr ((wr ((PF.laws_markStringS y.seq.right ((PF.laws_markStringS y.seq.left m).2)).2 + 1)) + 1)) + 1)) + 1))) rfl) ?_
  refine FL.nil (FW.region ?_)
  refine FL.v (E.move kc) ?_
  refine FL.v (E.add rfl rfl) ?_
  refine FL.v (E.assign (v := Value.int .i64 (wr (((i : Nat) : Int) + 1))) rfl) ?_
  refine FL.nil ?_
  obtain ⟨c2, n2, hb2, ho2⟩ := n1.round eSeqStep_loc hy (by decide) hpt wr66 (y' := (SeqStep.mk (Sequent.mk ((PF.laws_markStringS y.seq.left m).1) ((PF.laws_markStringS y.seq.right ((PF.laws_markStringS y.seq.left m).2)).1)) ((PF.laws_markStringS y.seq.right ((PF.laws_markStringS y.seq.left m).2)).2) (PF.laws_markText (wr ((PF.laws_markStringS y.seq.right ((PF.laws_markStringS y.seq.left m).2)).2 + 1))) (wr ((wr ((PF.laws_markStringS y.seq.right ((PF.laws_markStringS y.seq.left m).2)).2 + 1)) + 1)) (wr ((wr ((wr ((PF.laws_markStringS y.seq.right ((PF.laws_markStringS y.seq.left m).2)).2 + 1)) + 1)) + 1)))) ⟨_, _, rfl, h68, h69⟩
  exact ⟨rfl, _, _, S64, n2, hb2.trans hb, fun b q1 q2 => (ho2 b q1 (by rw [hb]; exact q2)).trans (ho b q1 q2), kv, rfl, nat_succ rfl (lt_of_get hx) hle⟩
 ·
  rintro f1 w1 ⟨H1, c1, S1, n1, hb, ho, kv, kk, kc⟩
  refine FW.seq (FW.seq (FW.region ?_))
  refine FL.v (E.move kc) ?_
  refine FL.v (E.move kv) ?_
  refine FL.v (E.len te24 rfl hln) ?_
  refine FL.v (E.lss rfl rfl) ?_
  refine FL.nil ?_
  refine FW.condF rfl dlt_len ?_
  refine FW.exit ?_
  exact ⟨nofun, rfl, _, _, S1, n1, hb, ho, kv, kk⟩
 ·
  rintro e f2 w2 ⟨rfl, H2, c2, S2, n2, hb, ho, kv, kk⟩
  refine FW.seq (FW.region ?_)
  refine FL.v (E.move kk) ?_
  refine FL.v (E.assign (v := Value.int .i64 ((markFrom (fun y m => ((SeqStep.mk (Sequent.mk ((PF.laws_markStringS y.seq.left m).1) ((PF.laws_markStringS y.seq.right ((PF.laws_markStringS y.seq.left m).2)).1)) ((PF.laws_markStringS y.seq.right ((PF.laws_markStringS y.seq.left m).2)).2) (PF.laws_markText (wr ((PF.laws_markStringS y.seq.right ((PF.laws_markStringS y.seq.left m).2)).2 + 1))) (wr ((wr ((PF.laws_markStringS y.seq.right ((PF.laws_markStringS y.seq.left m).2)).2 + 1)) + 1)) (wr ((wr ((wr ((PF.laws_markStringS y.seq.right ((PF.laws_markStringS y.seq.left m).2)).2 + 1)) + 1)) + 1))), (wr ((wr ((wr ((wr ((PF.laws_markStringS y.seq.right ((PF.laws_markStringS y.seq.left m).2)).2 + 1)) + 1)) + 1)) + 1)))) a0 a1).2)) rfl) ?_
  refine FL.nil ?_
  refine FW.ret ?_
  exact ⟨.inr rfl, res1 rfl rfl ⟨_, _, rfl, S2, n2, hb, fun b q1 q2 => weak (F := fun b => b ∉ bl [v0] ∧ b ∉ bl c0) (fun b q => ho b q.1 q.2) b ⟨q1, q2⟩⟩⟩

set_option maxHeartbeats 4000000 in
theorem w_laws_heldStringS {Ha : GH} {wa : World} (hs : Sl Ha wa) (v0 : Value) (a0 : List ByteArray) (p0 : RSl Ha eS 1 v0 a0) (a1 : Int) {r : Int} (hp : (PF.laws_heldStringS a0 a1) = some r) :
  Calls Tryz.prog 56 #[v0, Value.int .i64 a1] wa (Sc Ha wa (Value.int .i64 r)) := by
 unfold PF.laws_heldStringS at hp
 have S0 := St.init hs
 refine calls_go (N := 22) (args := [v0, Value.int .i64 a1]) Tryz.func56 rfl rfl rfl ?_
 refine FW.seq (FW.region ?_)
 refine FL.v (E.assign (v := Value.int .i64 0) rfl) ?_
 refine FL.nil (FW.seq (FW.seq (FW.region ?_)))
 refine FL.v (E.assign (v := Value.int .i64 0) rfl) ?_
 refine FL.nil ?_
 obtain ⟨q22, hq, hp⟩ := bndR hp
 refine FW.block ?_
 refine FW.mono (FW.forL (S := Int) (X := Int) (fun (i22 : Nat) (s22 : Int) f w => ∃ H : GH, St Ha wa H w [] ∧ Inc Ha H ∧ f 5 = Value.int .i64 ((i22 : Nat) : Int) ∧ f 0 = v0 ∧ f 1 = Value.int .i64 s22) (fun q e f w => match q with | .go s22 => e = Exit.exit 0 ∧ (∃ H : GH, St Ha wa H w [] ∧ Inc Ha H ∧ f 1 = Value.int .i64 s22) | .rt x => ((e = Exit.ret) ∧ (fun e f w => (e = Exit.normal ∨ e = Exit.ret) ∧ ∀ a, Fr (δ := []) 22 a f → ∃ v, (results Tryz.f56 a.tmps).run Tryz.prog w = .ok v w ∧ (Sc Ha wa (Value.int .i64 x)) (.returned v) w) e f w)) hq ⟨_, S0, (Inc.rfl _), rfl, rfl, rfl⟩ ?_ ?_) ?_
 ·
  clear hp hq
  rintro i22 y21 s22 f46 w45 ⟨H42, S43, i44, k47, k48, k49⟩ hx22 o61 hp
  refine FW.seq (FW.seq (FW.region ?_))
  refine FL.v (E.move k47) ?_
  refine FL.v (E.move k48) ?_
  refine FL.v (E.lenP te22 rfl p0) ?_
  refine FL.v (E.lssT rfl rfl (lss_len hx22)) ?_
  refine FL.nil ?_
  refine FW.condT rfl rfl ?_
  refine FW.skip (FW.seq (FW.block (FW.seq (FW.seq ?_))))
  refine FW.draw (fun w' => Run w45.heap.size H42 w45 H42 w') (by kernel_rfl) (by kernel_rfl) (run_drew S43.sl) ?_
  refine FD.val rfl rfl rfl (fun w' hw' => (E.move k48)) ?_
  refine FD.val rfl rfl rfl (fun w' hw' => (E.move k47)) ?_
  obtain ⟨p51, cs52, pt53, l54, at55, rel56⟩ := p0.at (ix_nat hx22)
  obtain rfl := eS_open rel56
  refine FD.val rfl rfl rfl (fun w' hw' => (E.indexAddr te22 rfl rfl pt53)) ?_
  refine FD.val rfl rfl rfl (fun w' hw' => (E.load rfl (run_load0 Tryz.isAgg9 ((at55.mono i44).now (S43.call hw').sl) rfl))) ?_
  refine FD.val rfl rfl rfl (fun w' hw' => (E.move k49)) ?_
  refine FD.call rfl rfl rfl (fun w' hw' => (E.call Tryz.call55 (A1 rfl))) (fun w' hw' => Calls.cls hw' (w_laws_markText (S43.call hw').sl s22)) ?_
  refine FD.val rfl rfl rfl (fun w' hw' => (E.neqS rfl rfl)) ?_
  refine FD.nil ?_
  intro w57 r59
  have S58 := S43.call r59
  rcases ifB hp with ⟨c60, hp⟩ | ⟨c60, hp⟩
  ·
   refine FW.condT rfl c60 ?_
   refine FW.seq (FW.region ?_)
   refine FL.v (E.assign (v := Value.int .i64 (-1)) rfl) ?_
   refine FL.nil ?_
   refine FW.ret ?_
   obtain rfl := Option.some.inj hp
   exact ⟨nofun, rfl, ⟨.inr rfl, res1 rfl rfl ⟨rfl, S58.back⟩⟩⟩
  ·
   refine FW.condF rfl c60 ?_
   refine FW.skip (FW.region ?_)
   refine FL.v (E.move k49) ?_
   refine FL.v (E.add rfl rfl) ?_
   refine FL.v (E.assign (v := Value.int .i64 (wr (s22 + 1))) rfl) ?_
   refine FL.nil (FW.region ?_)
   refine FL.v (E.move k47) ?_
   refine FL.v (E.add rfl rfl) ?_
   refine FL.v (E.assign (v := Value.int .i64 (wr (((i22 : Nat) : Int) + 1))) rfl) ?_
   refine FL.nil ?_
   obtain rfl := Option.some.inj hp
   exact ⟨rfl, ⟨_, S58, i44, (nat_succ rfl (lt_of_get hx22) (p0.mono i44).le), k48, rfl⟩⟩
 ·
  clear hp hq
  rintro s22 f72 w71 ⟨H68, S69, i70, k73, k74, k75⟩
  refine FW.seq (FW.seq (FW.region ?_))
  refine FL.v (E.move k73) ?_
  refine FL.v (E.move k74) ?_
  refine FL.v (E.lenP te22 rfl p0) ?_
  refine FL.v (E.lss rfl rfl) ?_
  refine FL.nil ?_
  refine FW.condF rfl dlt_len ?_
  refine FW.exit ?_
  exact ⟨nofun, rfl, ⟨_, S69, i70, k75⟩⟩
 ·
  clear hq
  intro e f66 w65 hD
  rcases q22 with s22 | x22
  ·
   obtain ⟨rfl, hD⟩ := hD
   obtain ⟨H62, S63, i64, k67⟩ := hD
   replace hp := el_go hp
   refine FW.seq (FW.region ?_)
   refine FL.v (E.move k67) ?_
   refine FL.v (E.assign (v := Value.int .i64 s22) rfl) ?_
   refine FL.nil ?_
   refine FW.ret ?_
   obtain rfl := Option.some.inj hp
   exact ⟨.inr rfl, res1 rfl rfl ⟨rfl, S63.back⟩⟩
  ·
   obtain ⟨he, hL⟩ := hD
   replace hp := el_rt hp
   obtain rfl := Option.some.inj hp
   subst he
   exact hL

set_option maxHeartbeats 4000000 in
theorem w_laws_heldSeqStepS {Ha : GH} {wa : World} (hs : Sl Ha wa) (v0 : Value) (a0 : List SeqStep) (p0 : RSl Ha eSeqStep 6 v0 a0) (a1 : Int) {r : Int} (hp : (PF.laws_heldSeqStepS a0 a1) = some r) :
  Calls Tryz.prog 17 #[v0, Value.int .i64 a1] wa (Sc Ha wa (Value.int .i64 r)) := by
 unfold PF.laws_heldSeqStepS at hp
 have S0 := St.init hs
 refine calls_go (N := 70) (args := [v0, Value.int .i64 a1]) Tryz.func17 rfl rfl rfl ?_
 refine FW.seq (FW.region ?_)
 refine FL.v (E.assign (v := Value.int .i64 0) rfl) ?_
 refine FL.nil (FW.seq (FW.seq (FW.region ?_)))
 refine FL.v (E.assign (v := Value.int .i64 0) rfl) ?_
 refine FL.nil ?_
 obtain ⟨q22, hq, hp⟩ := bndR hp
 refine FW.block ?_
 refine FW.mono (FW.forL (S := Int) (X := Int) (fun (i22 : Nat) (s22 : Int) f w => ∃ H : GH, St Ha wa H w [] ∧ Inc Ha H ∧ f 5 = Value.int .i64 ((i22 : Nat) : Int) ∧ f 0 = v0 ∧ f 1 = Value.int .i64 s22) (fun q e f w => match q with | .go s22 => e = Exit.exit 0 ∧ (∃ H : GH, St Ha wa H w [] ∧ Inc Ha H ∧ f 1 = Value.int .i64 s22) | .rt x => ((e = Exit.ret) ∧ (fun e f w => (e = Exit.normal ∨ e = Exit.ret) ∧ ∀ a, Fr (δ := []) 70 a f → ∃ v, (results Tryz.f17 a.tmps).run Tryz.prog w = .ok v w ∧ (Sc Ha wa (Value.int .i64 x)) (.returned v) w) e f w)) hq ⟨_, S0, (Inc.rfl _), rfl, rfl, rfl⟩ ?_ ?_) ?_
 ·
  clear hp hq
  rintro i22 y21 s22 f115 w114 ⟨H111, S112, i113, k116, k117, k118⟩ hx22 o199 hp
  refine FW.seq (FW.seq (FW.region ?_))
  refine FL.v (E.move k116) ?_
  refine FL.v (E.move k117) ?_
  refine FL.v (E.lenP te24 rfl p0) ?_
  refine FL.v (E.lssT rfl rfl (lss_len hx22)) ?_
  refine FL.nil ?_
  refine FW.condT rfl rfl ?_
  refine FW.skip (FW.seq (FW.block (FW.seq (FW.region ?_))))
  refine FL.v (E.move k117) ?_
  refine FL.v (E.move k116) ?_
  obtain ⟨p119, cs120, pt121, l122, at123, rel124⟩ := p0.at (ix_nat hx22)
  obtain ⟨v125, v127, rfl, h126, h128⟩ := eSeqStep_open rel124
  refine FL.v (E.indexAddr te24 rfl rfl pt121) ?_
  refine FL.v (E.fieldAddr tf74_0 rfl) ?_
  refine FL.v (E.fieldAddrN tf68_0 rfl rfl) ?_
  refine FL.v (E.load rfl (run_load1 Tryz.isAgg22 ((at123.mono i113).now S112.sl) rfl)) ?_
  refine FL.v (E.move k118) ?_
  obtain ⟨r129, hr130, hp⟩ := bnd hp
  refine FL.call rfl rfl rfl (E.call Tryz.call56 (A2 rfl rfl)) (w_laws_heldStringS S112.sl v125 y21.seq.left (h126.mono i113) s22 hr130) ?_
  rintro e w131 ⟨rfl, r132⟩
  refine ⟨_, rfl, ?_⟩
  have S133 := S112.call r132
  refine FL.v (E.assign (v := Value.int .i64 r129) rfl) ?_
  refine FL.nil (FW.seq (FW.seq (FW.region ?_)))
  refine FL.v (E.move (v := Value.int .i64 r129) rfl) ?_
  refine FL.v (E.lss rfl rfl) ?_
  refine FL.nil ?_
  rcases ifB hp with ⟨c134, hp⟩ | ⟨c134, hp⟩
  ·
   refine FW.condT rfl c134 ?_
   refine FW.seq (FW.region ?_)
   refine FL.v (E.assign (v := Value.int .i64 (-1)) rfl) ?_
   refine FL.nil ?_
   refine FW.ret ?_
   obtain rfl := Option.some.inj hp
   exact ⟨nofun, rfl, ⟨.inr rfl, res1 rfl rfl ⟨rfl, S133.back⟩⟩⟩
  ·
   refine FW.condF rfl c134 ?_
   refine FW.skip (FW.seq (FW.region ?_))
   refine FL.v (E.move k117) ?_
   refine FL.v (E.move k116) ?_
   obtain ⟨p135, cs136, pt137, l138, at139, rel140⟩ := p0.at (ix_nat hx22)
   obtain ⟨v141, v143, rfl, h142, h144⟩ := eSeqStep_open rel140
   refine FL.v (E.indexAddr te24 rfl rfl pt137) ?_
   refine FL.v (E.fieldAddr tf74_0 rfl) ?_
   refine FL.v (E.fieldAddrN tf68_1 rfl rfl) ?_
   refine FL.v (E.load rfl (run_load1 Tryz.isAgg22 ((at139.mono i113).now S133.sl) rfl)) ?_
   refine FL.v (E.move (v := Value.int .i64 r129) rfl) ?_
   obtain ⟨r145, hr146, hp⟩ := bnd hp
   refine FL.call rfl rfl rfl (E.call Tryz.call56 (A2 rfl rfl)) (w_laws_heldStringS S133.sl v143 y21.seq.right (h144.mono i113) r129 hr146) ?_
   rintro e w147 ⟨rfl, r148⟩
   refine ⟨_, rfl, ?_⟩
   have S149 := S133.call r148
   refine FL.v (E.assign (v := Value.int .i64 r145) rfl) ?_
   refine FL.nil (FW.seq (FW.seq (FW.region ?_)))
   refine FL.v (E.move (v := Value.int .i64 r145) rfl) ?_
   refine FL.v (E.lss rfl rfl) ?_
   refine FL.nil ?_
   rcases ifB hp with ⟨c150, hp⟩ | ⟨c150, hp⟩
   ·
    refine FW.condT rfl c150 ?_
    refine FW.seq (FW.region ?_)
    refine FL.v (E.assign (v := Value.int .i64 (-1)) rfl) ?_
    refine FL.nil ?_
    refine FW.ret ?_
    obtain rfl := Option.some.inj hp
    exact ⟨nofun, rfl, ⟨.inr rfl, res1 rfl rfl ⟨rfl, S149.back⟩⟩⟩
   ·
    refine FW.condF rfl c150 ?_
    refine FW.skip (FW.seq (FW.seq (FW.region ?_)))
    refine FL.v (E.move k117) ?_
    refine FL.v (E.move k116) ?_
    obtain ⟨p151, cs152, pt153, l154, at155, rel156⟩ := p0.at (ix_nat hx22)
    obtain ⟨v157, v159, rfl, h158, h160⟩ := eSeqStep_open rel156
    refine FL.v (E.indexAddr te24 rfl rfl pt153) ?_
    refine FL.v (E.fieldAddr tf74_1 rfl) ?_
    refine FL.v (E.load rfl (run_load1 Tryz.isAgg3 ((at155.mono i113).now S149.sl) rfl)) ?_
    refine FL.v (E.move (v := Value.int .i64 r145) rfl) ?_
    refine FL.v (E.neq rfl rfl) ?_
    refine FL.nil ?_
    rcases ifB hp with ⟨c161, hp⟩ | ⟨c161, hp⟩
    ·
     refine FW.condT rfl c161 ?_
     refine FW.seq (FW.region ?_)
     refine FL.v (E.assign (v := Value.int .i64 (-1)) rfl) ?_
     refine FL.nil ?_
     refine FW.ret ?_
     obtain rfl := Option.some.inj hp
     exact ⟨nofun, rfl, ⟨.inr rfl, res1 rfl rfl ⟨rfl, S149.back⟩⟩⟩
    ·
     refine FW.condF rfl c161 ?_
     refine FW.skip (FW.seq (FW.region ?_))
     refine FL.v (E.move (v := Value.int .i64 r145) rfl) ?_
     refine FL.v (E.add rfl rfl) ?_
     refine FL.v (E.assign (v := Value.int .i64 (wr (r145 + 1))) rfl) ?_
     refine FL.nil (FW.seq (FW.seq ?_))
     refine FW.draw (fun w' => Run w147.heap.size H111 w147 H111 w') (by kernel_rfl) (by kernel_rfl) (run_drew S149.sl) ?_
     refine FD.val rfl rfl rfl (fun w' hw' => (E.move k117)) ?_
     refine FD.val rfl rfl rfl (fun w' hw' => (E.move k116)) ?_
     obtain ⟨p163, cs164, pt165, l166, at167, rel168⟩ := p0.at (ix_nat hx22)
     obtain ⟨v169, v171, rfl, h170, h172⟩ := eSeqStep_open rel168
     refine FD.val rfl rfl rfl (fun w' hw' => (E.indexAddr te24 rfl rfl pt165)) ?_
     refine FD.val rfl rfl rfl (fun w' hw' => (E.fieldAddr tf74_2 rfl)) ?_
     refine FD.val rfl rfl rfl (fun w' hw' => (E.load rfl (run_load1 Tryz.isAgg9 ((at167.mono i113).now (S149.call hw').sl) rfl))) ?_
     refine FD.val rfl rfl rfl (fun w' hw' => (E.move (v := Value.int .i64 (wr (r145 + 1))) rfl)) ?_
     refine FD.call rfl rfl rfl (fun w' hw' => (E.call Tryz.call55 (A1 rfl))) (fun w' hw' => Calls.cls hw' (w_laws_markText (S149.call hw').sl (wr (r145 + 1)))) ?_
     refine FD.val rfl rfl rfl (fun w' hw' => (E.neqS rfl rfl)) ?_
     refine FD.nil ?_
     intro w173 r175
     have S174 := S149.call r175
     rcases ifB hp with ⟨c176, hp⟩ | ⟨c176, hp⟩
     ·
      refine FW.condT rfl c176 ?_
      refine FW.seq (FW.region ?_)
      refine FL.v (E.assign (v := Value.int .i64 (-1)) rfl) ?_
      refine FL.nil ?_
      refine FW.ret ?_
      obtain rfl := Option.some.inj hp
      exact ⟨nofun, rfl, ⟨.inr rfl, res1 rfl rfl ⟨rfl, S174.back⟩⟩⟩
     ·
      refine FW.condF rfl c176 ?_
      refine FW.skip (FW.seq (FW.region ?_))
      refine FL.v (E.move (v := Value.int .i64 (wr (r145 + 1))) rfl) ?_
      refine FL.v (E.add rfl rfl) ?_
      refine FL.v (E.assign (v := Value.int .i64 (wr ((wr (r145 + 1)) + 1))) rfl) ?_
      refine FL.nil (FW.seq (FW.seq (FW.region ?_)))
      refine FL.v (E.move k117) ?_
      refine FL.v (E.move k116) ?_
      obtain ⟨p177, cs178, pt179, l180, at181, rel182⟩ := p0.at (ix_nat hx22)
      obtain ⟨v183, v185, rfl, h184, h186⟩ := eSeqStep_open rel182
      refine FL.v (E.indexAddr te24 rfl rfl pt179) ?_
      refine FL.v (E.fieldAddr tf74_3 rfl) ?_
      refine FL.v (E.load rfl (run_load1 Tryz.isAgg3 ((at181.mono i113).now S174.sl) rfl)) ?_
      refine FL.v (E.move (v := Value.int .i64 (wr ((wr (r145 + 1)) + 1))) rfl) ?_
      refine FL.v (E.neq rfl rfl) ?_
      refine FL.nil ?_
      rcases ifB hp with ⟨c187, hp⟩ | ⟨c187, hp⟩
      ·
       refine FW.condT rfl c187 ?_
       refine FW.seq (FW.region ?_)
       refine FL.v (E.assign (v := Value.int .i64 (-1)) rfl) ?_
       refine FL.nil ?_
       refine FW.ret ?_
       obtain rfl := Option.some.inj hp
       exact ⟨nofun, rfl, ⟨.inr rfl, res1 rfl rfl ⟨rfl, S174.back⟩⟩⟩
      ·
       refine FW.condF rfl c187 ?_
       refine FW.skip (FW.seq (FW.region ?_))
       refine FL.v (E.move (v := Value.int .i64 (wr ((wr (r145 + 1)) + 1))) rfl) ?_
       refine FL.v (E.add rfl rfl) ?_
       refine FL.v (E.assign (v := Value.int .i64 (wr ((wr ((wr (r145 + 1)) + 1)) + 1))) rfl) ?_
       refine FL.nil (FW.seq (FW.seq (FW.region ?_)))
       refine FL.v (E.move k117) ?_
       refine FL.v (E.move k116) ?_
       obtain ⟨p188, cs189, pt190, l191, at192, rel193⟩ := p0.at (ix_nat hx22)
       obtain ⟨v194, v196, rfl, h195, h197⟩ := eSeqStep_open rel193
       refine FL.v (E.indexAddr te24 rfl rfl pt190) ?_
       refine FL.v (E.fieldAddr tf74_4 rfl) ?_
       refine FL.v (E.load rfl (run_load1 Tryz.isAgg3 ((at192.mono i113).now S174.sl) rfl)) ?_
       refine FL.v (E.move (v := Value.int .i64 (wr ((wr ((wr (r145 + 1)) + 1)) + 1))) rfl) ?_
       refine FL.v (E.neq rfl rfl) ?_
       refine FL.nil ?_
       rcases ifB hp with ⟨c198, hp⟩ | ⟨c198, hp⟩
       ·
        refine FW.condT rfl c198 ?_
        refine FW.seq (FW.region ?_)
        refine FL.v (E.assign (v := Value.int .i64 (-1)) rfl) ?_
        refine FL.nil ?_
        refine FW.ret ?_
        obtain rfl := Option.some.inj hp
        exact ⟨nofun, rfl, ⟨.inr rfl, res1 rfl rfl ⟨rfl, S174.back⟩⟩⟩
       ·
        refine FW.condF rfl c198 ?_
        refine FW.skip (FW.region ?_)
        refine FL.v (E.move (v := Value.int .i64 (wr ((wr ((wr (r145 + 1)) + 1)) + 1))) rfl) ?_
        refine FL.v (E.add rfl rfl) ?_
        refine FL.v (E.assign (v := Value.int .i64 (wr ((wr ((wr ((wr (r145 + 1)) + 1)) + 1)) + 1))) rfl) ?_
        refine FL.nil (FW.region ?_)
        refine FL.v (E.move k116) ?_
        refine FL.v (E.add rfl rfl) ?_
        refine FL.v (E.assign (v := Value.int .i64 (wr (((i22 : Nat) : Int) + 1))) rfl) ?_
        refine FL.nil ?_
        obtain rfl := Option.some.inj hp
        exact ⟨rfl, ⟨_, S174, i113, (nat_succ rfl (lt_of_get hx22) (p0.mono i113).le), k117, rfl⟩⟩
 ·
  clear hp hq
  rintro s22 f210 w209 ⟨H206, S207, i208, k211, k212, k213⟩
  refine FW.seq (FW.seq (FW.region ?_))
  refine FL.v (E.move k211) ?_
  refine FL.v (E.move k212) ?_
  refine FL.v (E.lenP te24 rfl p0) ?_
  refine FL.v (E.lss rfl rfl) ?_
  refine FL.nil ?_
  refine FW.condF rfl dlt_len ?_
  refine FW.exit ?_
  exact ⟨nofun, rfl, ⟨_, S207, i208, k213⟩⟩
 ·
  clear hq
  intro e f204 w203 hD
  rcases q22 with s22 | x22
  ·
   obtain ⟨rfl, hD⟩ := hD
   obtain ⟨H200, S201, i202, k205⟩ := hD
   replace hp := el_go hp
   refine FW.seq (FW.region ?_)
   refine FL.v (E.move k205) ?_
   refine FL.v (E.assign (v := Value.int .i64 s22) rfl) ?_
   refine FL.nil ?_
   refine FW.ret ?_
   obtain rfl := Option.some.inj hp
   exact ⟨.inr rfl, res1 rfl rfl ⟨rfl, S201.back⟩⟩
  ·
   obtain ⟨he, hL⟩ := hD
   replace hp := el_rt hp
   obtain rfl := Option.some.inj hp
   subst he
   exact hL

set_option maxHeartbeats 4000000 in
theorem w_laws_FnExactDropCuts {Ha : GH} {wa : World} (hs : Sl Ha wa) (v0 : Value) (a0 : List SeqStep) (p0 : RSl Ha eSeqStep 6 v0 a0) {r : Bool} (hp : (PF.laws_FnExactDropCuts a0) = some r) :
  Calls Tryz.prog 6 #[v0] wa (Sc Ha wa (Value.bool r)) := by
 unfold PF.laws_FnExactDropCuts at hp
 have S0 := St.init hs
 refine calls_go (N := 96) (args := [v0]) Tryz.func6 rfl rfl rfl ?_
 refine FW.seq (FW.region ?_)
 refine FL.v (E.assign (v := Value.bool false) rfl) ?_
 refine FL.nil (FW.seq (FW.region ?_))
 refine FL.v (E.assign (v := Value.int .i64 1048576) rfl) ?_
 refine FL.nil (FW.seq (FW.region ?_))
 refine FL.v (E.move (v := v0) rfl) ?_
 refine FL.v (E.move (v := Value.int .i64 1048576) rfl) ?_
 obtain ⟨r21, hr22, hp⟩ := bnd hp
 refine FL.call rfl rfl rfl (E.call Tryz.call18 (A2 rfl rfl)) (w_laws_szSeqStepS S0.sl v0 a0 p0 1048576 hr22) ?_
 rintro e w23 ⟨rfl, r24⟩
 refine ⟨_, rfl, ?_⟩
 have S25 := S0.call r24
 have z26 := r24.bel.size
 refine FL.v (E.assign (v := Value.int .i64 r21) rfl) ?_
 refine FL.nil (FW.seq (FW.seq (FW.region ?_)))
 refine FL.v (E.move (v := Value.int .i64 r21) rfl) ?_
 refine FL.v (E.lss rfl rfl) ?_
 refine FL.nil ?_
 rcases ifB hp with ⟨c27, hp⟩ | ⟨c27, hp⟩
 ·
  refine FW.condT rfl c27 ?_
  refine FW.seq (FW.region ?_)
  refine FL.v (E.assign (v := Value.bool true) rfl) ?_
  refine FL.nil ?_
  refine FW.ret ?_
  obtain rfl := Option.some.inj hp
  exact ⟨.inr rfl, res1 rfl rfl ⟨rfl, S25.back⟩⟩
 ·
  refine FW.condF rfl c27 ?_
  refine FW.skip (FW.seq (FW.region ?_))
  refine FL.v (E.move (v := v0) rfl) ?_
  obtain ⟨r28, hr29, hp⟩ := bnd hp
  refine FL.call rfl rfl rfl (E.call Tryz.call20 (A1 rfl)) (w_laws_toSeqStepS S25.sl v0 a0 p0 hr29) ?_
  rintro e w31 ⟨H30, v34, n35, cs36, rfl, r33, els37, nd38⟩
  refine ⟨_, rfl, ?_⟩
  have nv39 : New Ha cs36 := New.of_up S25.sl els37.dom
  obtain ⟨H40, r41, i42, ns45, nv44⟩ := r33.sealRowN (i := 0) (l' := []) rfl els37 nd38 (by decide) rfl
  have h43 := ns45.rsl
  have S32 := S25.call r41.run
  have z46 := r41.run.bel.size
  have h43 := h43.mono (sg_of S32.sl)
  have ns45 := ns45.mono (sg_of S32.sl)
  obtain ⟨r47, hr48, hp⟩ := bnd hp
  refine FL.call rfl rfl rfl (E.call Tryz.call24 (A1 rfl)) (w_spec_DropCuts S32.sl v34 r28 (h43.mono sgI) hr48) ?_
  rintro e w50 ⟨H49, v53, n54, cs55, rfl, r52, els56⟩
  refine ⟨_, rfl, ?_⟩
  obtain ⟨H57, r58, i59, h60⟩ := r52.sealRow (i := 0) (l' := []) rfl els56 (by decide) rfl
  have S51 := S32.call r58.run
  have z62 := r58.run.bel.size
  have h60 := h60.mono (bw_of S51.sl)
  refine FL.v (E.move (v := Value.tuple #[v53, Value.bool r47.2]) rfl) ?_
  refine FL.v (E.extract (i := 0) rfl rfl) ?_
  refine FL.v (E.extract (i := 1) rfl rfl) ?_
  refine FL.v (E.assign (v := v53) rfl) ?_
  refine FL.v (E.assign (v := Value.bool r47.2) rfl) ?_
  refine FL.nil (FW.seq (FW.region ?_))
  refine FL.v (E.move (v := v0) rfl) ?_
  obtain ⟨r63, hr64, hp⟩ := bnd hp
  refine FL.call rfl rfl rfl (E.call Tryz.call20 (A1 rfl)) (w_laws_toSeqStepS S51.sl v0 a0 (p0.mono (r41.run.inc.tr r58.run.inc)) hr64) ?_
  rintro e w66 ⟨H65, v69, n70, cs71, rfl, r68, els72, nd73⟩
  refine ⟨_, rfl, ?_⟩
  have nv74 : New H57 cs71 := New.of_up S51.sl els72.dom
  obtain ⟨H75, r76, i77, ns80, nv79⟩ := r68.sealRowN (i := 0) (l' := []) rfl els72 nd73 (by decide) rfl
  have h78 := ns80.rsl
  have S67 := S51.call r76.run
  have z81 := r76.run.bel.size
  have h78 := h78.mono (sg_of S67.sl)
  have ns80 := ns80.mono (sg_of S67.sl)
  refine FL.v (E.assign (v := v69) rfl) ?_
  refine FL.nil (FW.seq (FW.region ?_))
  refine FL.v (E.move (v := v69) rfl) ?_
  obtain ⟨r82, hr83, hp⟩ := bnd hp
  refine FL.call rfl rfl rfl (E.call Tryz.call25 (A1 rfl)) (w_impl_DropCuts S67.sl v69 r63 (h78.mono sgI) hr83) ?_
  rintro e w85 ⟨H84, v88, n89, cs90, rfl, r87, els91, nd92⟩
  refine ⟨_, rfl, ?_⟩
  have nv93 : New H75 cs90 := New.of_up S67.sl els91.dom
  obtain ⟨H94, r95, i96, ns99, nv98⟩ := r87.sealRowN (i := 0) (l' := []) rfl els91 nd92 (by decide) rfl
  have h97 := ns99.rsl
  have S86 := S67.call r95.run
  have z100 := r95.run.bel.size
  have h97 := h97.mono (sg_of S86.sl)
  have ns99 := ns99.mono (sg_of S86.sl)
  refine FL.v (E.move (v := Value.tuple #[v88, Value.bool r82.2]) rfl) ?_
  refine FL.v (E.extract (i := 0) rfl rfl) ?_
  refine FL.v (E.extract (i := 1) rfl rfl) ?_
  refine FL.v (E.assign (v := v88) rfl) ?_
  refine FL.v (E.assign (v := Value.bool r82.2) rfl) ?_
  refine FL.nil (FW.seq (FW.seq (FW.region ?_)))
  refine FL.v (E.move (v := v88) rfl) ?_
  refine FL.v (E.move (v := v53) rfl) ?_
  obtain ⟨r101, hr102, hp⟩ := bnd hp
  refine FL.call rfl rfl rfl (E.call Tryz.call13 (A2 rfl rfl)) (w_laws_eqSeqStepS S86.sl v88 r82.1 (h97.mono sgI) v53 r47.1 (h60.mono (bwI.tr (r76.run.inc.tr r95.run.inc))) hr102) ?_
  rintro e w103 ⟨rfl, r104⟩
  refine ⟨_, rfl, ?_⟩
  have S105 := S86.call r104
  have z106 := r104.bel.size
  refine FL.v (E.not rfl) ?_
  refine FL.v (E.move (v := Value.bool (!r101)) rfl) ?_
  refine FL.cut 4 (fun f w => ∃ H : GH, St Ha wa H w [] ∧ Inc H94 H ∧ f 0 = v0 ∧ f 4 = v53 ∧ f 5 = Value.bool r47.2 ∧ f 6 = v69 ∧ f 7 = v88 ∧ f 8 = Value.bool r82.2 ∧ f 40 = Value.bool (bif (!r101) then true else (!(r82.2 == r47.2)))) ?_ ?_
  ·
   rcases bcase (!r101) with c113 | c113
   ·
    refine FL.skip (wF_no rfl rfl rfl c113) rfl ?_
    refine FL.skip (wF_no rfl rfl rfl c113) rfl ?_
    refine FL.skip (wF_no rfl rfl rfl c113) rfl ?_
    refine FL.v (E.pickT rfl c113 rfl) ?_
    exact FL.nil ⟨rfl, _, S105, (Inc.rfl _), rfl, rfl, rfl, rfl, rfl, rfl, (congrArg Value.bool (bifT c113).symm)⟩
   ·
    refine FL.val (wF_yes rfl rfl rfl c113) rfl rfl (E.move (v := Value.bool r82.2) rfl) ?_
    refine FL.val (wF_yes rfl rfl rfl c113) rfl rfl (E.move (v := Value.bool r47.2) rfl) ?_
    refine FL.val (wF_yes rfl rfl rfl c113) rfl rfl (E.neqB Tryz.runUnderlying4 rfl rfl) ?_
    refine FL.v (E.pickF rfl c113 rfl) ?_
    exact FL.nil ⟨rfl, _, S105, (Inc.rfl _), rfl, rfl, rfl, rfl, rfl, rfl, (congrArg Value.bool (bifF c113).symm)⟩
  rintro f112 w111 ⟨H108, S109, i110, k114, k115, k116, k117, k118, k119, k120⟩
  refine FL.nil ?_
  rcases ifB hp with ⟨c121, hp⟩ | ⟨c121, hp⟩
  ·
   refine FW.condT k120 c121 ?_
   refine FW.seq (FW.region ?_)
   refine FL.v (E.assign (v := Value.bool false) rfl) ?_
   refine FL.nil ?_
   refine FW.ret ?_
   obtain rfl := Option.some.inj hp
   exact ⟨.inr rfl, res1 rfl rfl ⟨rfl, S109.back⟩⟩
  ·
   refine FW.condF k120 c121 ?_
   refine FW.skip (FW.seq (FW.seq (FW.region ?_)))
   refine FL.v (E.move k117) ?_
   refine FL.v (E.move k114) ?_
   obtain ⟨r122, hr123, hp⟩ := bnd hp
   refine FL.call rfl rfl rfl (E.call Tryz.call20 (A1 rfl)) (w_laws_toSeqStepS S109.sl v0 a0 (p0.mono ((((r41.run.inc.tr r58.run.inc).tr r76.run.inc).tr r95.run.inc).tr i110)) hr123) ?_
   rintro e w125 ⟨H124, v128, n129, cs130, rfl, r127, els131, nd132⟩
   refine ⟨_, rfl, ?_⟩
   have nv133 : New H108 cs130 := New.of_up S109.sl els131.dom
   obtain ⟨H134, r135, i136, ns139, nv138⟩ := r127.sealRowN (i := 0) (l' := []) rfl els131 nd132 (by decide) rfl
   have h137 := ns139.rsl
   have S126 := S109.call r135.run
   have z140 := r135.run.bel.size
   have h137 := h137.mono (sg_of S126.sl)
   have ns139 := ns139.mono (sg_of S126.sl)
   obtain ⟨r141, hr142, hp⟩ := bnd hp
   refine FL.call rfl rfl rfl (E.call Tryz.call13 (A2 rfl rfl)) (w_laws_eqSeqStepS S126.sl v69 r63 (h78.mono (sgI.tr ((r95.run.inc.tr i110).tr r135.run.inc))) v128 r122 (h137.mono sgI) hr142) ?_
   rintro e w143 ⟨rfl, r144⟩
   refine ⟨_, rfl, ?_⟩
   have S145 := S126.call r144
   have z146 := r144.bel.size
   refine FL.v (E.not rfl) ?_
   refine FL.nil ?_
   rcases ifB hp with ⟨c147, hp⟩ | ⟨c147, hp⟩
   ·
    refine FW.condT rfl c147 ?_
    refine FW.seq (FW.region ?_)
    refine FL.v (E.assign (v := Value.bool false) rfl) ?_
    refine FL.nil ?_
    refine FW.ret ?_
    obtain rfl := Option.some.inj hp
    exact ⟨.inr rfl, res1 rfl rfl ⟨rfl, S145.back⟩⟩
   ·
    refine FW.condF rfl c147 ?_
    refine FW.skip (FW.seq (FW.region ?_))
    refine FL.v (E.assign (v := Value.int .i64 1) rfl) ?_
    refine FL.nil (FW.seq (FW.region ?_))
    refine FL.v (E.move k117) ?_
    refine FL.v (E.move (v := Value.int .i64 1) rfl) ?_
    refine FL.call rfl rfl rfl (E.call Tryz.call16 (A2 rfl rfl)) (w_laws_markSeqStepS S145 hs v69 r63 cs71 (ns80.mono (sg_up (by omega) ((r95.run.inc.tr i110).tr r135.run.inc))) 1) ?_
    rintro e w149 ⟨H148, c154, rfl, S150, ns156, hb155, o152⟩
    refine ⟨_, rfl, ?_⟩
    have o153 := (ns80.mono (sg_mono (hi := w66.heap.size) ((r95.run.inc.tr i110).tr r135.run.inc))).outside o152
    have ns156 := ns80.span eSeqStep_loc (by omega) ns156 hb155
    have h151 := ns156.rsl
    have f157 := h60.mono ((bw_mono (hi := w50.heap.size) (((r76.run.inc.tr r95.run.inc).tr i110).tr r135.run.inc)).tr (bw_keep o153 (by omega)))
    have f158 := h97.mono ((sg_mono (lo := w66.heap.size) (hi := w85.heap.size) (i110.tr r135.run.inc)).tr (sg_keep o153 (by omega)))
    have f159 := ns99.mono ((sg_mono (lo := w66.heap.size) (hi := w85.heap.size) (i110.tr r135.run.inc)).tr (sg_keep o153 (by omega)))
    refine FL.v (E.assign (v := Value.int .i64 ((PF.laws_markSeqStepS r63 1).2)) rfl) ?_
    refine FL.nil (FW.seq (FW.seq (FW.region ?_)))
    refine FL.v (E.move (v := Value.int .i64 ((PF.laws_markSeqStepS r63 1).2)) rfl) ?_
    refine FL.v (E.lss rfl rfl) ?_
    refine FL.v (E.move (v := Value.bool (decide ((PF.laws_markSeqStepS r63 1).2 < 0))) rfl) ?_
    obtain ⟨t166, hqt166, hp⟩ := bnd hp
    refine FL.cut 5 (fun f w => ∃ H : GH, St Ha wa H w [] ∧ Inc H148 H ∧ f 0 = v0 ∧ f 4 = v53 ∧ f 5 = Value.bool r47.2 ∧ f 7 = v88 ∧ f 8 = Value.bool r82.2 ∧ f 56 = Value.bool t166) ?_ ?_
    ·
     clear hp; have hp := hqt166; clear hqt166
     rcases ifB hp with ⟨c172, hp⟩ | ⟨c172, hp⟩
     ·
      refine FL.skip (wF_no rfl rfl rfl c172) rfl ?_
      refine FL.skip (wF_no rfl rfl rfl c172) rfl ?_
      refine FL.skip (wF_no rfl rfl rfl c172) rfl ?_
      refine FL.skip (wF_no rfl rfl rfl c172) rfl ?_
      obtain rfl := Option.some.inj hp
      refine FL.v (E.pickT rfl c172 rfl) ?_
      exact FL.nil ⟨rfl, _, S150, (Inc.rfl _), k114, k115, k116, k118, k119, rfl⟩
     ·
      refine FL.val (wF_yes rfl rfl rfl c172) rfl rfl (E.move k118) ?_
      refine FL.val (wF_yes rfl rfl rfl c172) rfl rfl (E.move k115) ?_
      obtain ⟨r173, hr174, hp⟩ := bnd hp
      refine FL.call (wF_yes rfl rfl rfl c172) rfl rfl (E.call Tryz.call13 (A2 rfl rfl)) (w_laws_eqSeqStepS S150.sl v88 r82.1 (f158.mono sgI) v53 r47.1 (f157.mono bwI) hr174) ?_
      rintro e w175 ⟨rfl, r176⟩
      refine ⟨_, rfl, ?_⟩
      have S177 := S150.call r176
      have z178 := r176.bel.size
      refine FL.val (wF_yes rfl rfl rfl c172) rfl rfl (E.not rfl) ?_
      obtain rfl := Option.some.inj hp
      refine FL.v (E.pickF rfl c172 rfl) ?_
      exact FL.nil ⟨rfl, _, S177, (Inc.rfl _), k114, k115, k116, k118, k119, rfl⟩
    rintro f171 w170 ⟨H167, S168, i169, k179, k180, k181, k182, k183, k184⟩
    refine FL.v (E.move k184) ?_
    refine FL.cut 4 (fun f w => ∃ H : GH, St Ha wa H w [] ∧ Inc H167 H ∧ f 0 = v0 ∧ f 4 = v53 ∧ f 5 = Value.bool r47.2 ∧ f 7 = v88 ∧ f 61 = Value.bool (bif t166 then true else (!(r82.2 == r47.2)))) ?_ ?_
    ·
     rcases bcase t166 with c191 | c191
     ·
      refine FL.skip (wF_no rfl rfl rfl c191) rfl ?_
      refine FL.skip (wF_no rfl rfl rfl c191) rfl ?_
      refine FL.skip (wF_no rfl rfl rfl c191) rfl ?_
      refine FL.v (E.pickT rfl c191 rfl) ?_
      exact FL.nil ⟨rfl, _, S168, (Inc.rfl _), k179, k180, k181, k182, (congrArg Value.bool (bifT c191).symm)⟩
     ·
      refine FL.val (wF_yes rfl rfl rfl c191) rfl rfl (E.move k183) ?_
      refine FL.val (wF_yes rfl rfl rfl c191) rfl rfl (E.move k181) ?_
      refine FL.val (wF_yes rfl rfl rfl c191) rfl rfl (E.neqB Tryz.runUnderlying4 rfl rfl) ?_
      refine FL.v (E.pickF rfl c191 rfl) ?_
      exact FL.nil ⟨rfl, _, S168, (Inc.rfl _), k179, k180, k181, k182, (congrArg Value.bool (bifF c191).symm)⟩
    rintro f190 w189 ⟨H186, S187, i188, k192, k193, k194, k195, k196⟩
    refine FL.nil ?_
    rcases ifB hp with ⟨c197, hp⟩ | ⟨c197, hp⟩
    ·
     refine FW.condT k196 c197 ?_
     refine FW.seq (FW.region ?_)
     refine FL.v (E.assign (v := Value.bool false) rfl) ?_
     refine FL.nil ?_
     refine FW.ret ?_
     obtain rfl := Option.some.inj hp
     exact ⟨.inr rfl, res1 rfl rfl ⟨rfl, S187.back⟩⟩
    ·
     refine FW.condF k196 c197 ?_
     refine FW.skip (FW.seq (FW.region ?_))
     refine FL.v (E.assign (v := Value.int .i64 1) rfl) ?_
     refine FL.nil (FW.seq (FW.region ?_))
     refine FL.v (E.move k195) ?_
     refine FL.v (E.move (v := Value.int .i64 1) rfl) ?_
     refine FL.call rfl rfl rfl (E.call Tryz.call16 (A2 rfl rfl)) (w_laws_markSeqStepS S187 hs v88 r82.1 cs90 (f159.mono (sg_up (by omega) (i169.tr i188))) 1) ?_
     rintro e w199 ⟨H198, c204, rfl, S200, ns206, hb205, o202⟩
     refine ⟨_, rfl, ?_⟩
     have o203 := (f159.mono (sg_mono (hi := w85.heap.size) (i169.tr i188))).outside o202
     have ns206 := f159.span eSeqStep_loc (by omega) ns206 hb205
     have h201 := ns206.rsl
     have f207 := f157.mono ((bw_mono (hi := w50.heap.size) (i169.tr i188)).tr (bw_keep o203 (by omega)))
     refine FL.v (E.assign (v := Value.int .i64 ((PF.laws_markSeqStepS r82.1 1).2)) rfl) ?_
     refine FL.nil (FW.seq (FW.region ?_))
     refine FL.v (E.assign (v := Value.int .i64 1) rfl) ?_
     refine FL.nil (FW.seq (FW.region ?_))
     refine FL.v (E.move k195) ?_
     refine FL.v (E.move (v := Value.int .i64 1) rfl) ?_
     obtain ⟨r208, hr209, hp⟩ := bnd hp
     refine FL.call rfl rfl rfl (E.call Tryz.call17 (A2 rfl rfl)) (w_laws_heldSeqStepS S200.sl v88 ((PF.laws_markSeqStepS r82.1 1).1) (h201.mono sgI) 1 hr209) ?_
     rintro e w210 ⟨rfl, r211⟩
     refine ⟨_, rfl, ?_⟩
     have S212 := S200.call r211
     have z213 := r211.bel.size
     refine FL.v (E.assign (v := Value.int .i64 r208) rfl) ?_
     refine FL.nil (FW.seq (FW.seq (FW.region ?_)))
     refine FL.v (E.move (v := Value.int .i64 r208) rfl) ?_
     refine FL.v (E.lss rfl rfl) ?_
     refine FL.nil ?_
     rcases ifB hp with ⟨c214, hp⟩ | ⟨c214, hp⟩
     ·
      refine FW.condT rfl c214 ?_
      refine FW.seq (FW.region ?_)
      refine FL.v (E.assign (v := Value.bool false) rfl) ?_
      refine FL.nil ?_
      refine FW.ret ?_
      obtain rfl := Option.some.inj hp
      exact ⟨.inr rfl, res1 rfl rfl ⟨rfl, S212.back⟩⟩
     ·
      refine FW.condF rfl c214 ?_
      refine FW.skip (FW.seq (FW.seq (FW.region ?_)))
      refine FL.v (E.move (v := Value.int .i64 r208) rfl) ?_
      refine FL.v (E.move (v := Value.int .i64 ((PF.laws_markSeqStepS r82.1 1).2)) rfl) ?_
      refine FL.v (E.neq rfl rfl) ?_
      refine FL.nil ?_
      rcases ifB hp with ⟨c215, hp⟩ | ⟨c215, hp⟩
      ·
       refine FW.condT rfl c215 ?_
       refine FW.seq (FW.region ?_)
       refine FL.v (E.assign (v := Value.bool false) rfl) ?_
       refine FL.nil ?_
       refine FW.ret ?_
       obtain rfl := Option.some.inj hp
       exact ⟨.inr rfl, res1 rfl rfl ⟨rfl, S212.back⟩⟩
      ·
       refine FW.condF rfl c215 ?_
       refine FW.skip (FW.seq (FW.region ?_))
       refine FL.v (E.move k192) ?_
       obtain ⟨r216, hr217, hp⟩ := bnd hp
       refine FL.call rfl rfl rfl (E.call Tryz.call20 (A1 rfl)) (w_laws_toSeqStepS S212.sl v0 a0 (p0.mono S200.inc) hr217) ?_
       rintro e w219 ⟨H218, v222, n223, cs224, rfl, r221, els225, nd226⟩
       refine ⟨_, rfl, ?_⟩
       have nv227 : New H198 cs224 := New.of_up S212.sl els225.dom
       obtain ⟨H228, r229, i230, ns233, nv232⟩ := r221.sealRowN (i := 0) (l' := []) rfl els225 nd226 (by decide) rfl
       have h231 := ns233.rsl
       have S220 := S212.call r229.run
       have z234 := r229.run.bel.size
       have h231 := h231.mono (sg_of S220.sl)
       have ns233 := ns233.mono (sg_of S220.sl)
       obtain ⟨r235, hr236, hp⟩ := bnd hp
       refine FL.call rfl rfl rfl (E.call Tryz.call25 (A1 rfl)) (w_impl_DropCuts S220.sl v222 r216 (h231.mono sgI) hr236) ?_
       rintro e w238 ⟨H237, v241, n242, cs243, rfl, r240, els244, nd245⟩
       refine ⟨_, rfl, ?_⟩
       have nv246 : New H228 cs243 := New.of_up S220.sl els244.dom
       obtain ⟨H247, r248, i249, ns252, nv251⟩ := r240.sealRowN (i := 0) (l' := []) rfl els244 nd245 (by decide) rfl
       have h250 := ns252.rsl
       have S239 := S220.call r248.run
       have z253 := r248.run.bel.size
       have h250 := h250.mono (sg_of S239.sl)
       have ns252 := ns252.mono (sg_of S239.sl)
       refine FL.v (E.move (v := Value.tuple #[v241, Value.bool r235.2]) rfl) ?_
       refine FL.v (E.extract (i := 0) rfl rfl) ?_
       refine FL.v (E.extract (i := 1) rfl rfl) ?_
       refine FL.v (E.assign (v := v241) rfl) ?_
       refine FL.v (E.assign (v := Value.bool r235.2) rfl) ?_
       refine FL.nil (FW.seq (FW.seq (FW.region ?_)))
       refine FL.v (E.move (v := v241) rfl) ?_
       refine FL.v (E.move k193) ?_
       obtain ⟨r254, hr255, hp⟩ := bnd hp
       refine FL.call rfl rfl rfl (E.call Tryz.call13 (A2 rfl rfl)) (w_laws_eqSeqStepS S239.sl v241 r235.1 (h250.mono sgI) v53 r47.1 (f207.mono (bwI.tr (r229.run.inc.tr r248.run.inc))) hr255) ?_
       rintro e w256 ⟨rfl, r257⟩
       refine ⟨_, rfl, ?_⟩
       have S258 := S239.call r257
       have z259 := r257.bel.size
       refine FL.v (E.not rfl) ?_
       refine FL.v (E.move (v := Value.bool (!r254)) rfl) ?_
       refine FL.cut 4 (fun f w => ∃ H : GH, St Ha wa H w [] ∧ Inc H247 H ∧ f 7 = v88 ∧ f 10 = Value.int .i64 ((PF.laws_markSeqStepS r82.1 1).2) ∧ f 87 = Value.bool (bif (!r254) then true else (!(r235.2 == r47.2)))) ?_ ?_
       ·
        rcases bcase (!r254) with c266 | c266
        ·
         refine FL.skip (wF_no rfl rfl rfl c266) rfl ?_
         refine FL.skip (wF_no rfl rfl rfl c266) rfl ?_
         refine FL.skip (wF_no rfl rfl rfl c266) rfl ?_
         refine FL.v (E.pickT rfl c266 rfl) ?_
         exact FL.nil ⟨rfl, _, S258, (Inc.rfl _), k195, rfl, (congrArg Value.bool (bifT c266).symm)⟩
        ·
         refine FL.val (wF_yes rfl rfl rfl c266) rfl rfl (E.move (v := Value.bool r235.2) rfl) ?_
         refine FL.val (wF_yes rfl rfl rfl c266) rfl rfl (E.move k194) ?_
         refine FL.val (wF_yes rfl rfl rfl c266) rfl rfl (E.neqB Tryz.runUnderlying4 rfl rfl) ?_
         refine FL.v (E.pickF rfl c266 rfl) ?_
         exact FL.nil ⟨rfl, _, S258, (Inc.rfl _), k195, rfl, (congrArg Value.bool (bifF c266).symm)⟩
       rintro f265 w264 ⟨H261, S262, i263, k267, k268, k269⟩
       refine FL.nil ?_
       rcases ifB hp with ⟨c270, hp⟩ | ⟨c270, hp⟩
       ·
        refine FW.condT k269 c270 ?_
        refine FW.seq (FW.region ?_)
        refine FL.v (E.assign (v := Value.bool false) rfl) ?_
        refine FL.nil ?_
        refine FW.ret ?_
        obtain rfl := Option.some.inj hp
        exact ⟨.inr rfl, res1 rfl rfl ⟨rfl, S262.back⟩⟩
       ·
        refine FW.condF k269 c270 ?_
        refine FW.skip (FW.seq (FW.region ?_))
        refine FL.v (E.assign (v := Value.int .i64 1) rfl) ?_
        refine FL.nil (FW.seq (FW.region ?_))
        refine FL.v (E.move k267) ?_
        refine FL.v (E.move (v := Value.int .i64 1) rfl) ?_
        obtain ⟨r271, hr272, hp⟩ := bnd hp
        refine FL.call rfl rfl rfl (E.call Tryz.call17 (A2 rfl rfl)) (w_laws_heldSeqStepS S262.sl v88 ((PF.laws_markSeqStepS r82.1 1).1) (h201.mono (sgI.tr ((r229.run.inc.tr r248.run.inc).tr i263))) 1 hr272) ?_
        rintro e w273 ⟨rfl, r274⟩
        refine ⟨_, rfl, ?_⟩
        have S275 := S262.call r274
        have z276 := r274.bel.size
        refine FL.v (E.assign (v := Value.int .i64 r271) rfl) ?_
        refine FL.nil (FW.seq (FW.seq (FW.region ?_)))
        refine FL.v (E.move (v := Value.int .i64 r271) rfl) ?_
        refine FL.v (E.lss rfl rfl) ?_
        refine FL.nil ?_
        rcases ifB hp with ⟨c277, hp⟩ | ⟨c277, hp⟩
        ·
         refine FW.condT rfl c277 ?_
         refine FW.seq (FW.region ?_)
         refine FL.v (E.assign (v := Value.bool false) rfl) ?_
         refine FL.nil ?_
         refine FW.ret ?_
         obtain rfl := Option.some.inj hp
         exact ⟨.inr rfl, res1 rfl rfl ⟨rfl, S275.back⟩⟩
        ·
         refine FW.condF rfl c277 ?_
         refine FW.skip (FW.seq (FW.seq (FW.region ?_)))
         refine FL.v (E.move (v := Value.int .i64 r271) rfl) ?_
         refine FL.v (E.move k268) ?_
         refine FL.v (E.neq rfl rfl) ?_
         refine FL.nil ?_
         rcases ifB hp with ⟨c278, hp⟩ | ⟨c278, hp⟩
         ·
          refine FW.condT rfl c278 ?_
          refine FW.seq (FW.region ?_)
          refine FL.v (E.assign (v := Value.bool false) rfl) ?_
          refine FL.nil ?_
          refine FW.ret ?_
          obtain rfl := Option.some.inj hp
          exact ⟨.inr rfl, res1 rfl rfl ⟨rfl, S275.back⟩⟩
         ·
          refine FW.condF rfl c278 ?_
          refine FW.skip (FW.seq (FW.region ?_))
          refine FL.v (E.assign (v := Value.bool true) rfl) ?_
          refine FL.nil ?_
          refine FW.ret ?_
          obtain rfl := Option.some.inj hp
          exact ⟨.inr rfl, res1 rfl rfl ⟨rfl, S275.back⟩⟩

end Go.Proofs
