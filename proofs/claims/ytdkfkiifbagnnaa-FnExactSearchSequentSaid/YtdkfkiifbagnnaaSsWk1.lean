/- Part of the walks and plain laws behind the claim: it proves helpers, under no condition beyond their own. -/
import Derived.Test.YtdkfkiifbagnnaaSsLB
import Derived.Test.YtdkfkiifbagnnaaSsLC
import Derived.Test.YtdkfkiifbagnnaaSsSh
import Derived.Test.YtdkfkiifbagnnaaSsPf
import Derived.Test.YtdkfkiifbagnnaaProg
set_option linter.unusedVariables false
set_option maxRecDepth 100000
namespace Go.Proofs
open Go.Mr Go.Pu Go.PF Go.RowKit

def eSequent : Enc Sequent := ⟨fun H cs s => ∃ v0 v1, cs = [v0, v1] ∧ RSl H eS 1 v0 s.left ∧ RSl H eS 1 v1 s.right, fun hi ⟨v0, v1, h, h0, h1⟩ => ⟨_, _, h, h0.mono hi, h1.mono hi⟩, by rintro H cs s ⟨v0, v1, rfl, h0, h1⟩; exact (ones_cons h0.one (ones_cons h1.one ones_nil)), by rintro H cs s ⟨v0, v1, rfl, h0, h1⟩ b hb; obtain ⟨u, hu, hn⟩ := mem_bl hb; simp only [List.mem_cons, List.not_mem_nil, or_false] at hu; rcases hu with rfl | rfl <;> first | (cases hn; done) | exact h0.dom b (mem_bl1 hn) | exact h1.dom b (mem_bl1 hn)⟩
theorem eSequent_open {H : GH} {cs : List Value} {s : Sequent} (h : eSequent.rel H cs s) : ∃ v0 v1, cs = [v0, v1] ∧ RSl H eS 1 v0 s.left ∧ RSl H eS 1 v1 s.right := h

theorem eSequent_loc : LocE eSequent := by rintro H H' cs x ⟨v0, v1, rfl, h0, h1⟩ hb; exact ⟨_, _, rfl, h0.only eS_flat.rel (fun b q => hb b (bl_get (i := 0) rfl b q)), h1.only eS_flat.rel (fun b q => hb b (bl_get (i := 1) rfl b q))⟩

def eSeqStep : Enc SeqStep := ⟨fun H cs s => ∃ v0 v1, cs = [v0, v1, Value.int .i64 s.rule, Value.string s.main, Value.int .i64 s.a, Value.int .i64 s.b] ∧ RSl H eS 1 v0 s.seq.left ∧ RSl H eS 1 v1 s.seq.right, fun hi ⟨v0, v1, h, h0, h1⟩ => ⟨_, _, h, h0.mono hi, h1.mono hi⟩, by rintro H cs s ⟨v0, v1, rfl, h0, h1⟩; exact (ones_cons h0.one (ones_cons h1.one (ones_cons rfl (ones_cons rfl (ones_cons rfl (ones_cons rfl ones_nil)))))), by rintro H cs s ⟨v0, v1, rfl, h0, h1⟩ b hb; obtain ⟨u, hu, hn⟩ := mem_bl hb; simp only [List.mem_cons, List.not_mem_nil, or_false] at hu; rcases hu with rfl | rfl | rfl | rfl | rfl | rfl <;> first | (cases hn; done) | exact h0.dom b (mem_bl1 hn) | exact h1.dom b (mem_bl1 hn)⟩
theorem eSeqStep_open {H : GH} {cs : List Value} {s : SeqStep} (h : eSeqStep.rel H cs s) : ∃ v0 v1, cs = [v0, v1, Value.int .i64 s.rule, Value.string s.main, Value.int .i64 s.a, Value.int .i64 s.b] ∧ RSl H eS 1 v0 s.seq.left ∧ RSl H eS 1 v1 s.seq.right := h

theorem eSeqStep_loc : LocE eSeqStep := by rintro H H' cs x ⟨v0, v1, rfl, h0, h1⟩ hb; exact ⟨_, _, rfl, h0.only eS_flat.rel (fun b q => hb b (bl_get (i := 0) rfl b q)), h1.only eS_flat.rel (fun b q => hb b (bl_get (i := 1) rfl b q))⟩

def el23Search : Enc l23Search := ⟨fun H cs s => ∃ v0, cs = [v0, Value.bool s.open_, Value.int .i64 s.bits, Value.bool s.bad] ∧ RSl H eSeqStep 6 v0 s.steps, fun hi ⟨v0, h, h0⟩ => ⟨_, h, h0.mono hi⟩, by rintro H cs s ⟨v0, rfl, h0⟩; exact (ones_cons h0.one (ones_cons rfl (ones_cons rfl (ones_cons rfl ones_nil)))), by rintro H cs s ⟨v0, rfl, h0⟩ b hb; obtain ⟨u, hu, hn⟩ := mem_bl hb; simp only [List.mem_cons, List.not_mem_nil, or_false] at hu; rcases hu with rfl | rfl | rfl | rfl <;> first | (cases hn; done) | exact h0.dom b (mem_bl1 hn)⟩
theorem el23Search_open {H : GH} {cs : List Value} {s : l23Search} (h : el23Search.rel H cs s) : ∃ v0, cs = [v0, Value.bool s.open_, Value.int .i64 s.bits, Value.bool s.bad] ∧ RSl H eSeqStep 6 v0 s.steps := h

def Fn_S_to_B (P : Program) (H : GH) (v : Value) (p : ByteArray → Option Bool) : Prop :=
 ∀ (H' : GH) (w' : World), Inc H H' → Sl H' w' → ∀ (x0 : ByteArray) (r : Bool), p x0 = some r →
  ∃ (fid : Nat) (cs : Array Value), v = Value.func (.func fid) #[] cs ∧ (∀ args w, (callFunc fid args).run P w = .ok (.enter fid args) w) ∧ Calls P fid (#[Value.string x0] ++ cs) w' (Sc H' w' (Value.bool r))
theorem Fn_S_to_B.mono {P : Program} {H H' : GH} {v : Value} {p : ByteArray → Option Bool} (h : Fn_S_to_B P H v p) (hi : Inc H H') : Fn_S_to_B P H' v p :=
 fun H2 w2 h2 => h H2 w2 (hi.tr h2)

def Fn_S_S_to_I (P : Program) (H : GH) (v : Value) (p : ByteArray → ByteArray → Option Int) : Prop :=
 ∀ (H' : GH) (w' : World), Inc H H' → Sl H' w' → ∀ (x0 : ByteArray) (x1 : ByteArray) (r : Int), p x0 x1 = some r →
  ∃ (fid : Nat) (cs : Array Value), v = Value.func (.func fid) #[] cs ∧ (∀ args w, (callFunc fid args).run P w = .ok (.enter fid args) w) ∧ Calls P fid (#[Value.string x0, Value.string x1] ++ cs) w' (Sc H' w' (Value.int .i64 r))
theorem Fn_S_S_to_I.mono {P : Program} {H H' : GH} {v : Value} {p : ByteArray → ByteArray → Option Int} (h : Fn_S_S_to_I P H v p) (hi : Inc H H') : Fn_S_S_to_I P H' v p :=
 fun H2 w2 h2 => h H2 w2 (hi.tr h2)

theorem te102 : TE Try.prog 102 3 1 (.int .i64 0) := ⟨Try.underlying102, ⟨Try.t3, Try.type3, rfl, rfl, by decide⟩, rfl, by decide⟩
theorem te22 : TE Try.prog 22 9 1 (.string ByteArray.empty) := ⟨Try.underlying22, ⟨Try.t9, Try.type9, rfl, rfl, by decide⟩, rfl, by decide⟩
theorem te32 : TE Try.prog 32 52 6 (.agg #[(.slice none 0 0), (.slice none 0 0), (.int .i64 0), (.string ByteArray.empty), (.int .i64 0), (.int .i64 0)]) := ⟨Try.underlying32, ⟨Try.t52, Try.type52, rfl, rfl, by decide⟩, rfl, by decide⟩
theorem te61 : TE Try.prog 61 28 2 (.agg #[(.slice none 0 0), (.slice none 0 0)]) := ⟨Try.underlying61, ⟨Try.t28, Try.type28, rfl, rfl, by decide⟩, rfl, by decide⟩
theorem te70 : TE Try.prog 70 5 1 (.int .u8 0) := ⟨Try.underlying70, ⟨Try.t5, Try.type5, rfl, rfl, by decide⟩, rfl, by decide⟩
theorem te78 : TE Try.prog 78 22 1 (.slice none 0 0) := ⟨Try.underlying78, ⟨Try.t22, Try.type22, rfl, rfl, by decide⟩, rfl, by decide⟩
theorem tf24_0 : TF Try.prog 24 0 0 := ⟨_, _, _, Try.underlying24, rfl, rfl, Try.sizeOf22, by decide⟩
theorem tf24_1 : TF Try.prog 24 1 1 := ⟨_, _, _, Try.underlying24, rfl, rfl, Try.sizeOf22, by decide⟩
theorem tf28_0 : TF Try.prog 28 0 0 := ⟨_, _, _, Try.underlying28, rfl, rfl, Try.sizeOf22, by decide⟩
theorem tf28_1 : TF Try.prog 28 1 1 := ⟨_, _, _, Try.underlying28, rfl, rfl, Try.sizeOf22, by decide⟩
theorem tf41_0 : TF Try.prog 41 0 0 := ⟨_, _, _, Try.underlying41, rfl, rfl, Try.sizeOf32, by decide⟩
theorem tf41_1 : TF Try.prog 41 1 1 := ⟨_, _, _, Try.underlying41, rfl, rfl, Try.sizeOf4, by decide⟩
theorem tf41_2 : TF Try.prog 41 2 2 := ⟨_, _, _, Try.underlying41, rfl, rfl, Try.sizeOf3, by decide⟩
theorem tf41_3 : TF Try.prog 41 3 3 := ⟨_, _, _, Try.underlying41, rfl, rfl, Try.sizeOf4, by decide⟩
theorem tf47_0 : TF Try.prog 47 0 0 := ⟨_, _, _, Try.underlying47, rfl, rfl, Try.sizeOf32, by decide⟩
theorem tf47_1 : TF Try.prog 47 1 1 := ⟨_, _, _, Try.underlying47, rfl, rfl, Try.sizeOf45, by decide⟩
theorem tf52_0 : TF Try.prog 52 0 0 := ⟨_, _, _, Try.underlying52, rfl, rfl, Try.sizeOf28, by decide⟩
theorem tf52_1 : TF Try.prog 52 1 2 := ⟨_, _, _, Try.underlying52, rfl, rfl, Try.sizeOf3, by decide⟩
theorem tf52_2 : TF Try.prog 52 2 3 := ⟨_, _, _, Try.underlying52, rfl, rfl, Try.sizeOf9, by decide⟩
theorem tf52_3 : TF Try.prog 52 3 4 := ⟨_, _, _, Try.underlying52, rfl, rfl, Try.sizeOf3, by decide⟩
theorem tf52_4 : TF Try.prog 52 4 5 := ⟨_, _, _, Try.underlying52, rfl, rfl, Try.sizeOf3, by decide⟩
theorem tf68_0 : TF Try.prog 68 0 0 := ⟨_, _, _, Try.underlying68, rfl, rfl, Try.sizeOf5, by decide⟩
theorem tf68_1 : TF Try.prog 68 1 1 := ⟨_, _, _, Try.underlying68, rfl, rfl, Try.sizeOf64, by decide⟩
theorem tf68_2 : TF Try.prog 68 2 2 := ⟨_, _, _, Try.underlying68, rfl, rfl, Try.sizeOf64, by decide⟩
theorem tf68_3 : TF Try.prog 68 3 3 := ⟨_, _, _, Try.underlying68, rfl, rfl, Try.sizeOf9, by decide⟩
set_option maxHeartbeats 4000000 in
theorem w_laws_szStringS {Ha : GH} {wa : World} (hs : Sl Ha wa) (v0 : Value) (a0 : List ByteArray) (p0 : RSl Ha eS 1 v0 a0) (a1 : Int) {r : Int} (hp : (PF.laws_szStringS a0 a1) = some r) :
  Calls Try.prog 16 #[v0, Value.int .i64 a1] wa (Sc Ha wa (Value.int .i64 r)) := by
 unfold PF.laws_szStringS at hp
 have S0 := St.init hs
 refine calls_go (N := 28) (args := [v0, Value.int .i64 a1]) Try.func16 rfl rfl rfl ?_
 refine FW.seq (FW.region ?_)
 refine FL.v (E.assign (v := Value.int .i64 0) rfl) ?_
 refine FL.nil (FW.seq (FW.region ?_))
 refine FL.v (E.move (v := Value.int .i64 a1) rfl) ?_
 refine FL.v (E.move (v := v0) rfl) ?_
 refine FL.v (E.lenP te22 rfl p0) ?_
 refine FL.v (E.sub rfl rfl) ?_
 refine FL.v (E.assign (v := Value.int .i64 (wr (a1 - (len a0)))) rfl) ?_
 refine FL.nil (FW.seq (FW.seq (FW.region ?_)))
 refine FL.v (E.move (v := Value.int .i64 (wr (a1 - (len a0)))) rfl) ?_
 refine FL.v (E.lss rfl rfl) ?_
 refine FL.nil ?_
 rcases ifB hp with ⟨c21, hp⟩ | ⟨c21, hp⟩
 ·
  refine FW.condT rfl c21 ?_
  refine FW.seq (FW.region ?_)
  refine FL.v (E.assign (v := Value.int .i64 (-1)) rfl) ?_
  refine FL.nil ?_
  refine FW.ret ?_
  obtain rfl := Option.some.inj hp
  exact ⟨.inr rfl, res1 rfl rfl ⟨rfl, S0.back⟩⟩
 ·
  refine FW.condF rfl c21 ?_
  refine FW.skip (FW.seq (FW.seq (FW.region ?_)))
  refine FL.v (E.assign (v := Value.int .i64 0) rfl) ?_
  refine FL.nil ?_
  obtain ⟨q23, hq, hp⟩ := bndR hp
  refine FW.block ?_
  refine FW.mono (FW.forL (S := Int) (X := Int) (fun (i23 : Nat) (s23 : Int) f w => ∃ H : GH, St Ha wa H w [] ∧ Inc Ha H ∧ f 5 = Value.int .i64 ((i23 : Nat) : Int) ∧ f 0 = v0 ∧ f 1 = Value.int .i64 s23) (fun q e f w => match q with | .go s23 => e = Exit.exit 0 ∧ (∃ H : GH, St Ha wa H w [] ∧ Inc Ha H ∧ f 1 = Value.int .i64 s23) | .rt x => ((e = Exit.ret) ∧ (fun e f w => (e = Exit.normal ∨ e = Exit.ret) ∧ ∀ a, Fr (δ := []) 28 a f → ∃ v, (results Try.f16 a.tmps).run Try.prog w = .ok v w ∧ (Sc Ha wa (Value.int .i64 x)) (.returned v) w) e f w)) hq ⟨_, S0, (Inc.rfl _), rfl, rfl, rfl⟩ ?_ ?_) ?_
  ·
   clear hp hq
   rintro i23 y22 s23 f43 w42 ⟨H39, S40, i41, k44, k45, k46⟩ hx23 o54 hp
   refine FW.seq (FW.seq (FW.region ?_))
   refine FL.v (E.move k44) ?_
   refine FL.v (E.move k45) ?_
   refine FL.v (E.lenP te22 rfl p0) ?_
   refine FL.v (E.lssT rfl rfl (lss_len hx23)) ?_
   refine FL.nil ?_
   refine FW.condT rfl rfl ?_
   refine FW.skip (FW.seq (FW.block (FW.seq (FW.region ?_))))
   refine FL.v (E.move k46) ?_
   refine FL.v (E.move k45) ?_
   refine FL.v (E.move k44) ?_
   obtain ⟨p47, cs48, pt49, l50, at51, rel52⟩ := p0.at (ix_nat hx23)
   obtain rfl := eS_open rel52
   refine FL.v (E.indexAddr te22 rfl rfl pt49) ?_
   refine FL.v (E.load rfl (run_load0 Try.isAgg9 ((at51.mono i41).now S40.sl) rfl)) ?_
   refine FL.v (E.lenS Try.runUnderlying9 rfl) ?_
   refine FL.v (E.sub rfl rfl) ?_
   refine FL.v (E.assign (v := Value.int .i64 (wr (s23 - (y22.size : Int)))) rfl) ?_
   refine FL.nil (FW.seq (FW.region ?_))
   refine FL.v (E.move (v := Value.int .i64 (wr (s23 - (y22.size : Int)))) rfl) ?_
   refine FL.v (E.lss rfl rfl) ?_
   refine FL.nil ?_
   rcases ifB hp with ⟨c53, hp⟩ | ⟨c53, hp⟩
   ·
    refine FW.condT rfl c53 ?_
    refine FW.seq (FW.region ?_)
    refine FL.v (E.assign (v := Value.int .i64 (-1)) rfl) ?_
    refine FL.nil ?_
    refine FW.ret ?_
    obtain rfl := Option.some.inj hp
    exact ⟨nofun, rfl, ⟨.inr rfl, res1 rfl rfl ⟨rfl, S40.back⟩⟩⟩
   ·
    refine FW.condF rfl c53 ?_
    refine FW.skip (FW.region ?_)
    refine FL.v (E.move k44) ?_
    refine FL.v (E.add rfl rfl) ?_
    refine FL.v (E.assign (v := Value.int .i64 (wr (((i23 : Nat) : Int) + 1))) rfl) ?_
    refine FL.nil ?_
    obtain rfl := Option.some.inj hp
    exact ⟨rfl, ⟨_, S40, i41, (nat_succ rfl (lt_of_get hx23) (p0.mono i41).le), k45, rfl⟩⟩
  ·
   clear hp hq
   rintro s23 f65 w64 ⟨H61, S62, i63, k66, k67, k68⟩
   refine FW.seq (FW.seq (FW.region ?_))
   refine FL.v (E.move k66) ?_
   refine FL.v (E.move k67) ?_
   refine FL.v (E.lenP te22 rfl p0) ?_
   refine FL.v (E.lss rfl rfl) ?_
   refine FL.nil ?_
   refine FW.condF rfl dlt_len ?_
   refine FW.exit ?_
   exact ⟨nofun, rfl, ⟨_, S62, i63, k68⟩⟩
  ·
   clear hq
   intro e f59 w58 hD
   rcases q23 with s23 | x23
   ·
    obtain ⟨rfl, hD⟩ := hD
    obtain ⟨H55, S56, i57, k60⟩ := hD
    replace hp := el_go hp
    refine FW.seq (FW.region ?_)
    refine FL.v (E.move k60) ?_
    refine FL.v (E.assign (v := Value.int .i64 s23) rfl) ?_
    refine FL.nil ?_
    refine FW.ret ?_
    obtain rfl := Option.some.inj hp
    exact ⟨.inr rfl, res1 rfl rfl ⟨rfl, S56.back⟩⟩
   ·
    obtain ⟨he, hL⟩ := hD
    replace hp := el_rt hp
    obtain rfl := Option.some.inj hp
    subst he
    exact hL

theorem w_laws_szSequent {Ha : GH} {wa : World} (hs : Sl Ha wa) (a0 : Sequent) (v0_0 : Value) (p0_0 : RSl Ha eS 1 v0_0 a0.left) (v0_1 : Value) (p0_1 : RSl Ha eS 1 v0_1 a0.right) (a1 : Int) {r : Int} (hp : (PF.laws_szSequent a0 a1) = some r) :
  Calls Try.prog 5 #[Value.agg #[v0_0, v0_1], Value.int .i64 a1] wa (Sc Ha wa (Value.int .i64 r)) := by
 unfold PF.laws_szSequent at hp
 have S0 := St.init hs
 refine calls_go (N := 18) (args := [Value.agg #[v0_0, v0_1], Value.int .i64 a1]) Try.func5 rfl rfl rfl ?_
 refine FW.seq (FW.region ?_)
 obtain ⟨b21, w22, run23, S24⟩ := S0.box (P := Try.prog) 24 [v0_0, v0_1] (v := Value.agg #[v0_0, v0_1]) rfl (ones_cons p0_0.one (ones_cons p0_1.one ones_nil))
 refine FL.v (E.box rfl run23) ?_
 obtain ⟨H25, S26, i27, at28⟩ := S24.sealBox (i := 0) (l' := []) rfl rfl
 refine FL.v (E.assign (v := Value.int .i64 0) rfl) ?_
 refine FL.nil (FW.seq (FW.region ?_))
 refine FL.v (E.fieldAddr tf24_0 rfl) ?_
 refine FL.v (E.load rfl (run_load1 Try.isAgg22 (at28.now S26.sl) rfl)) ?_
 refine FL.v (E.move (v := Value.int .i64 a1) rfl) ?_
 obtain ⟨r29, hr30, hp⟩ := bnd hp
 refine FL.call rfl rfl rfl (E.call Try.call16 (A2 rfl rfl)) (w_laws_szStringS S26.sl v0_0 a0.left (p0_0.mono i27) a1 hr30) ?_
 rintro e w31 ⟨rfl, r32⟩
 refine ⟨_, rfl, ?_⟩
 have S33 := S26.call r32
 refine FL.v (E.assign (v := Value.int .i64 r29) rfl) ?_
 refine FL.nil (FW.seq (FW.seq (FW.region ?_)))
 refine FL.v (E.move (v := Value.int .i64 r29) rfl) ?_
 refine FL.v (E.lss rfl rfl) ?_
 refine FL.nil ?_
 rcases ifB hp with ⟨c34, hp⟩ | ⟨c34, hp⟩
 ·
  refine FW.condT rfl c34 ?_
  refine FW.seq (FW.region ?_)
  refine FL.v (E.assign (v := Value.int .i64 (-1)) rfl) ?_
  refine FL.nil ?_
  refine FW.ret ?_
  obtain rfl := Option.some.inj hp
  exact ⟨.inr rfl, res1 rfl rfl ⟨rfl, S33.back⟩⟩
 ·
  refine FW.condF rfl c34 ?_
  refine FW.skip (FW.seq (FW.region ?_))
  refine FL.v (E.fieldAddr tf24_1 rfl) ?_
  refine FL.v (E.load rfl (run_load1 Try.isAgg22 (at28.now S33.sl) rfl)) ?_
  refine FL.v (E.move (v := Value.int .i64 r29) rfl) ?_
  obtain ⟨r35, hr36, hp⟩ := bnd hp
  refine FL.call rfl rfl rfl (E.call Try.call16 (A2 rfl rfl)) (w_laws_szStringS S33.sl v0_1 a0.right (p0_1.mono i27) r29 hr36) ?_
  rintro e w37 ⟨rfl, r38⟩
  refine ⟨_, rfl, ?_⟩
  have S39 := S33.call r38
  refine FL.v (E.assign (v := Value.int .i64 r35) rfl) ?_
  refine FL.nil (FW.seq (FW.seq (FW.region ?_)))
  refine FL.v (E.move (v := Value.int .i64 r35) rfl) ?_
  refine FL.v (E.lss rfl rfl) ?_
  refine FL.nil ?_
  rcases ifB hp with ⟨c40, hp⟩ | ⟨c40, hp⟩
  ·
   refine FW.condT rfl c40 ?_
   refine FW.seq (FW.region ?_)
   refine FL.v (E.assign (v := Value.int .i64 (-1)) rfl) ?_
   refine FL.nil ?_
   refine FW.ret ?_
   obtain rfl := Option.some.inj hp
   exact ⟨.inr rfl, res1 rfl rfl ⟨rfl, S39.back⟩⟩
  ·
   refine FW.condF rfl c40 ?_
   refine FW.skip (FW.seq (FW.region ?_))
   refine FL.v (E.move (v := Value.int .i64 r35) rfl) ?_
   refine FL.v (E.assign (v := Value.int .i64 r35) rfl) ?_
   refine FL.nil ?_
   refine FW.ret ?_
   obtain rfl := Option.some.inj hp
   exact ⟨.inr rfl, res1 rfl rfl ⟨rfl, S39.back⟩⟩

@[reducible] def p_laws_toStringS (Ha : GH) (wa : World) (r : (List ByteArray)) : Ending → World → Prop :=
 fun e w' => ∃ H' : GH, ∃ v0 : Value, ∃ n0 : Nat, ∃ c0 : List Value, e = .returned (v0) ∧ St Ha wa H' w' [.row 9 1 v0 n0 c0] ∧ Els (up wa.heap.size H') eS 1 c0 r
theorem w_laws_toStringS {Ha : GH} {wa : World} (hs : Sl Ha wa) (v0 : Value) (a0 : List ByteArray) (p0 : RSl Ha eS 1 v0 a0) {r : (List ByteArray)} (hp : (PF.laws_toStringS a0) = some r) :
  Calls Try.prog 19 #[v0] wa (p_laws_toStringS Ha wa r) := by
 unfold PF.laws_toStringS at hp
 have S0 := St.init hs
 refine calls_go (N := 22) (args := [v0]) Try.func19 rfl rfl rfl ?_
 refine FW.seq (FW.region ?_)
 refine FL.v (E.assign (v := Value.slice none 0 0) rfl) ?_
 refine FL.nil (FW.seq (FW.region ?_))
 refine FL.v (E.move (v := v0) rfl) ?_
 refine FL.v (E.lenP te22 rfl p0) ?_
 obtain ⟨xs21, hm22, hp⟩ := bnd hp
 obtain ⟨v23, w24, n28, cs29, run25, S26, els27, hbl30⟩ := S0.makeEls (P := Try.prog) te22 (G := (up wa.heap.size Ha)) (En := eS) (x0 := (ByteArray.empty : ByteArray)) hm22 rfl (ones_cons rfl ones_nil) .i64 .i64
 refine FL.v (E.makeSlice rfl rfl run25) ?_
 refine FL.v (E.assign (v := v23) rfl) ?_
 refine FL.nil (FW.seq (FW.seq (FW.region ?_)))
 refine FL.v (E.assign (v := Value.int .i64 0) rfl) ?_
 refine FL.nil ?_
 obtain ⟨q32, hq, hp⟩ := bndR hp
 refine FW.block ?_
 refine FW.mono (FW.forL (S := (List ByteArray)) (X := Empty) (fun (i32 : Nat) (s32 : (List ByteArray)) f w => ∃ H : GH, ∃ v63 : Value, ∃ n64 : Nat, ∃ cs65 : List Value, St Ha wa H w [.row 9 1 v63 n64 cs65] ∧ Inc Ha H ∧ Els (up wa.heap.size H) eS 1 cs65 s32 ∧ f 4 = Value.int .i64 ((i32 : Nat) : Int) ∧ f 0 = v0 ∧ f 3 = v63) (fun (q : Rs (List ByteArray) Empty) e f w => match q with | .go s32 => e = Exit.exit 0 ∧ (∃ H : GH, ∃ v63 : Value, ∃ n64 : Nat, ∃ cs65 : List Value, St Ha wa H w [.row 9 1 v63 n64 cs65] ∧ Inc Ha H ∧ Els (up wa.heap.size H) eS 1 cs65 s32 ∧ f 3 = v63) | .rt x => x.elim) hq ⟨_, _, _, _, S26, (Inc.rfl _), els27, rfl, rfl, rfl⟩ ?_ ?_) ?_
 ·
  clear hp hq
  rintro i32 y31 s32 f101 w100 ⟨H97, v63, n64, cs65, S98, i99, els66, k102, k103, k104⟩ hx32 o127 hp
  refine FW.seq (FW.seq (FW.region ?_))
  refine FL.v (E.move k102) ?_
  refine FL.v (E.move k103) ?_
  refine FL.v (E.lenP te22 rfl p0) ?_
  refine FL.v (E.lssT rfl rfl (lss_len hx32)) ?_
  refine FL.nil ?_
  refine FW.condT rfl rfl ?_
  refine FW.skip (FW.seq (FW.block (FW.region ?_)))
  refine FL.v (E.move k104) ?_
  refine FL.v (E.move k102) ?_
  refine FL.v (E.move k103) ?_
  refine FL.v (E.move k102) ?_
  obtain ⟨p105, cs106, pt107, l108, at109, rel110⟩ := p0.at (ix_nat hx32)
  obtain rfl := eS_open rel110
  refine FL.v (E.indexAddr te22 rfl rfl pt107) ?_
  refine FL.v (E.load rfl (run_load0 Try.isAgg9 ((at109.mono i99).now S98.sl) rfl)) ?_
  obtain ⟨x117, hx118, hp⟩ := bnd hp
  obtain ⟨p111, cs112, pt113, l114, at115, rel116⟩ := S98.row_at (i := 0) rfl els66 (by decide) hx118
  obtain rfl := eS_open rel116
  refine FL.v (E.indexAddr te22 rfl rfl pt113) ?_
  obtain ⟨xs122, hput123, hp⟩ := bnd hp
  obtain ⟨w119, cs125, run120, S121, els124, ce126⟩ := S98.putEls (P := Try.prog) (t := 9) (i := 0) rfl els66 hput123 pt113 Try.sizeOf9 (u := Value.string y31) (c := [Value.string y31]) rfl rfl (ones_cons rfl ones_nil) rfl
  have S121 : St Ha wa H97 w119 [.row 9 1 v63 n64 cs125] := S121
  refine FL.act rfl rfl (E.store rfl rfl run120) ?_
  refine FL.nil (FW.region ?_)
  refine FL.v (E.move k102) ?_
  refine FL.v (E.add rfl rfl) ?_
  refine FL.v (E.assign (v := Value.int .i64 (wr (((i32 : Nat) : Int) + 1))) rfl) ?_
  refine FL.nil ?_
  obtain rfl := Option.some.inj hp
  exact ⟨rfl, ⟨_, _, _, _, S121, i99, els124, (nat_succ rfl (lt_of_get hx32) (p0.mono i99).le), k103, k104⟩⟩
 ·
  clear hp hq
  rintro s32 f138 w137 ⟨H134, v63, n64, cs65, S135, i136, els66, k139, k140, k141⟩
  refine FW.seq (FW.seq (FW.region ?_))
  refine FL.v (E.move k139) ?_
  refine FL.v (E.move k140) ?_
  refine FL.v (E.lenP te22 rfl p0) ?_
  refine FL.v (E.lss rfl rfl) ?_
  refine FL.nil ?_
  refine FW.condF rfl dlt_len ?_
  refine FW.exit ?_
  exact ⟨nofun, rfl, ⟨_, _, _, _, S135, i136, els66, k141⟩⟩
 ·
  clear hq
  intro e f132 w131 hD
  rcases q32 with s32 | x32
  ·
   obtain ⟨rfl, hD⟩ := hD
   obtain ⟨H128, v63, n64, cs65, S129, i130, els66, k133⟩ := hD
   replace hp := el_go hp
   refine FW.seq (FW.region ?_)
   refine FL.v (E.move k133) ?_
   refine FL.v (E.assign (v := v63) rfl) ?_
   refine FL.nil ?_
   refine FW.ret ?_
   obtain rfl := Option.some.inj hp
   exact ⟨.inr rfl, res1 rfl rfl ⟨_, _, _, _, rfl, S129, els66⟩⟩
  ·
   exact x32.elim

@[reducible] def p_laws_toSequent (Ha : GH) (wa : World) (r : Sequent) : Ending → World → Prop :=
 fun e w' => ∃ H' : GH, ∃ v0_0 : Value, ∃ v0_1 : Value, e = .returned (Value.agg #[v0_0, v0_1]) ∧ Run wa.heap.size Ha wa H' w' ∧ (∃ c0 c1, Nest (up wa.heap.size H') eS 1 v0_0 r.left c0 ∧ Nest (up wa.heap.size H') eS 1 v0_1 r.right c1 ∧ Ap v0_0 c0 v0_1 c1)
theorem w_laws_toSequent {Ha : GH} {wa : World} (hs : Sl Ha wa) (a0 : Sequent) (v0_0 : Value) (p0_0 : RSl Ha eS 1 v0_0 a0.left) (v0_1 : Value) (p0_1 : RSl Ha eS 1 v0_1 a0.right) {r : Sequent} (hp : (PF.laws_toSequent a0) = some r) :
  Calls Try.prog 7 #[Value.agg #[v0_0, v0_1]] wa (p_laws_toSequent Ha wa r) := by
 unfold PF.laws_toSequent at hp
 have S0 := St.init hs
 refine calls_go (N := 13) (args := [Value.agg #[v0_0, v0_1]]) Try.func7 rfl rfl rfl ?_
 refine FW.seq (FW.region ?_)
 obtain ⟨b21, w22, run23, S24⟩ := S0.box (P := Try.prog) 24 [v0_0, v0_1] (v := Value.agg #[v0_0, v0_1]) rfl (ones_cons p0_0.one (ones_cons p0_1.one ones_nil))
 refine FL.v (E.box rfl run23) ?_
 obtain ⟨H25, S26, i27, at28⟩ := S24.sealBox (i := 0) (l' := []) rfl rfl
 obtain ⟨b29, w30, run31, S32⟩ := S26.alloc (P := Try.prog) 28 [Value.slice none 0 0, Value.slice none 0 0] Try.zeroValue28 rfl (ones_cons rfl (ones_cons rfl ones_nil))
 refine FL.v (E.alloc run31) ?_
 refine FL.nil (FW.seq (FW.region ?_))
 obtain ⟨b33, w34, run35, S36⟩ := S32.alloc (P := Try.prog) 28 [Value.slice none 0 0, Value.slice none 0 0] Try.zeroValue28 rfl (ones_cons rfl (ones_cons rfl ones_nil))
 refine FL.v (E.alloc run35) ?_
 refine FL.nil (FW.seq (FW.region ?_))
 refine FL.v (E.fieldAddr tf24_0 rfl) ?_
 refine FL.v (E.load rfl (run_load1 Try.isAgg22 (at28.now S36.sl) rfl)) ?_
 obtain ⟨r37, hr38, hp⟩ := bnd hp
 refine FL.call rfl rfl rfl (E.call Try.call19 (A1 rfl)) (w_laws_toStringS S36.sl v0_0 a0.left (p0_0.mono i27) hr38) ?_
 rintro e w40 ⟨H39, v43, n44, cs45, rfl, r42, els46⟩
 refine ⟨_, rfl, ?_⟩
 have els46 := els46.mono (up_le S36.size)
 have S41 := S36.join (l' := [.row 9 1 v43 n44 cs45, .box b33 28 [Value.slice none 0 0, Value.slice none 0 0], .box b29 28 [Value.slice none 0 0, Value.slice none 0 0]]) r42 rfl
 refine FL.v (E.fieldAddr tf28_0 rfl) ?_
 obtain ⟨w47, run48, S49⟩ := S41.store (P := Try.prog) (t := 22) (i := 1) (j := 0) (cs' := [v43, Value.slice none 0 0]) (l' := [.row 9 1 v43 n44 cs45, .box b33 28 [v43, Value.slice none 0 0], .box b29 28 [Value.slice none 0 0, Value.slice none 0 0]]) (v := v43) (c := [v43]) rfl Try.sizeOf22 (Ln.cells (S41.row_ln (i := 0) rfl)) rfl (ones_cons (Ln.one (S41.row_ln (i := 0) rfl)) ones_nil) (Nat.le_of_ble_eq_true rfl) rfl rfl
 refine FL.act rfl rfl (E.store rfl rfl run48) ?_
 refine FL.nil (FW.seq (FW.region ?_))
 refine FL.v (E.fieldAddr tf24_1 rfl) ?_
 refine FL.v (E.load rfl (run_load1 Try.isAgg22 ((at28.mono r42.run.inc).now S49.sl) rfl)) ?_
 obtain ⟨r50, hr51, hp⟩ := bnd hp
 refine FL.call rfl rfl rfl (E.call Try.call19 (A1 rfl)) (w_laws_toStringS S49.sl v0_1 a0.right (p0_1.mono (i27.tr r42.run.inc)) hr51) ?_
 rintro e w53 ⟨H52, v56, n57, cs58, rfl, r55, els59⟩
 refine ⟨_, rfl, ?_⟩
 have els59 := els59.mono (up_le S49.size)
 have S54 := S49.join (l' := [.row 9 1 v56 n57 cs58, .row 9 1 v43 n44 cs45, .box b33 28 [v43, Value.slice none 0 0], .box b29 28 [Value.slice none 0 0, Value.slice none 0 0]]) r55 rfl
 refine FL.v (E.fieldAddr tf28_1 rfl) ?_
 obtain ⟨w60, run61, S62⟩ := S54.store (P := Try.prog) (t := 22) (i := 2) (j := 1) (cs' := [v43, v56]) (l' := [.row 9 1 v56 n57 cs58, .row 9 1 v43 n44 cs45, .box b33 28 [v43, v56], .box b29 28 [Value.slice none 0 0, Value.slice none 0 0]]) (v := v56) (c := [v56]) rfl Try.sizeOf22 (Ln.cells (S54.row_ln (i := 0) rfl)) rfl (ones_cons (Ln.one (S54.row_ln (i := 0) rfl)) ones_nil) (Nat.le_of_ble_eq_true rfl) rfl rfl
 refine FL.act rfl rfl (E.store rfl rfl run61) ?_
 obtain ⟨H63, S64, i65, h66, nv67⟩ := S62.sealRowU (i := 1) (l' := [.row 9 1 v56 n57 cs58, .box b33 28 [v43, v56], .box b29 28 [Value.slice none 0 0, Value.slice none 0 0]]) rfl (els46.mono (up_mono r55.run.inc)) (by decide) rfl
 obtain ⟨H68, S69, i70, h71, nv72⟩ := S64.sealRowU (i := 0) (l' := [.box b33 28 [v43, v56], .box b29 28 [Value.slice none 0 0, Value.slice none 0 0]]) rfl (els59.mono (up_mono i65)) (by decide) rfl
 obtain ⟨H73, S74, i75, at76⟩ := S69.sealBox (i := 0) (l' := [.box b29 28 [Value.slice none 0 0, Value.slice none 0 0]]) rfl rfl
 refine FL.nil (FW.seq (FW.region ?_))
 refine FL.v (E.load rfl (run_loadA Try.isAgg28 Try.sizeOf28 (at76.now S74.sl) rfl)) ?_
 obtain ⟨w77, run78, S79⟩ := S74.store0 (P := Try.prog) (t := 28) (i := 0) (cs' := [v43, v56]) (l' := [.box b29 28 [v43, v56]]) (v := Value.agg #[v43, v56]) (c := [v43, v56]) rfl Try.sizeOf28 rfl rfl (ones_cons h66.one (ones_cons h71.one ones_nil)) (Nat.le_of_ble_eq_true rfl) rfl rfl
 refine FL.act rfl rfl (E.store rfl rfl run78) ?_
 obtain ⟨H80, S81, i82, at83⟩ := S79.sealBox (i := 0) (l' := []) rfl rfl
 refine FL.nil ?_
 refine FW.ret ?_
 obtain rfl := Option.some.inj hp
 exact ⟨.inr rfl, resC rfl rfl (loadVar_A Try.isAgg28 Try.sizeOf28 (at83.now S81.sl) rfl) ⟨_, _, _, rfl, S81.run, (Ap.flat2 (h66.mono (up_mono ((i70.tr i75).tr i82))) eS_flat (by decide) (h71.mono (up_mono (i75.tr i82))) eS_flat (by decide) (New.apart (h66.mono (up_mono (Inc.rfl _))) nv72))⟩⟩

set_option maxHeartbeats 4000000 in
theorem w_spec_l22End_B {rec_spec_l22End : ByteArray → Int → Option Int} (hrec_spec_l22End : ∀ {Ha : GH} {wa : World} (hs : Sl Ha wa) (a0 : ByteArray) (a1 : Int) {r : Int} (hp : rec_spec_l22End a0 a1 = some r), Calls Try.prog 56 #[Value.string a0, Value.int .i64 a1] wa (Sc Ha wa (Value.int .i64 r))) {Ha : GH} {wa : World} (hs : Sl Ha wa) (a0 : ByteArray) (a1 : Int) {r : Int} (hp : PF.spec_l22End_B rec_spec_l22End a0 a1 = some r) :
  Calls Try.prog 56 #[Value.string a0, Value.int .i64 a1] wa (Sc Ha wa (Value.int .i64 r)) := by
 unfold PF.spec_l22End_B at hp
 have S0 := St.init hs
 refine calls_go (N := 100) (args := [Value.string a0, Value.int .i64 a1]) Try.func56 rfl rfl rfl ?_
 refine FW.seq (FW.region ?_)
 refine FL.v (E.assign (v := Value.int .i64 0) rfl) ?_
 refine FL.nil (FW.seq (FW.seq (FW.region ?_)))
 refine FL.v (E.move (v := Value.int .i64 a1) rfl) ?_
 refine FL.v (E.move (v := Value.string a0) rfl) ?_
 refine FL.v (E.lenS Try.runUnderlying9 rfl) ?_
 refine FL.v (E.geq rfl rfl) ?_
 refine FL.nil ?_
 rcases ifB hp with ⟨c21, hp⟩ | ⟨c21, hp⟩
 ·
  refine FW.condT rfl c21 ?_
  refine FW.seq (FW.region ?_)
  refine FL.v (E.assign (v := Value.int .i64 (-1)) rfl) ?_
  refine FL.nil ?_
  refine FW.ret ?_
  obtain rfl := Option.some.inj hp
  exact ⟨.inr rfl, res1 rfl rfl ⟨rfl, S0.back⟩⟩
 ·
  refine FW.condF rfl c21 ?_
  refine FW.skip (FW.seq (FW.block (FW.seq (FW.region ?_))))
  refine FL.v (E.move (v := Value.string a0) rfl) ?_
  refine FL.v (E.move (v := Value.int .i64 a1) rfl) ?_
  obtain ⟨z22, h23, hp⟩ := bnd hp
  refine FL.v (E.ixS Try.runUnderlying9 rfl rfl h23) ?_
  refine FL.v (E.eql rfl rfl) ?_
  refine FL.v (E.move (v := Value.bool (z22 == 48)) rfl) ?_
  obtain ⟨t26, hqt26, hp⟩ := bnd hp
  refine FL.cut 5 (fun f w => ∃ H : GH, St Ha wa H w [] ∧ Inc Ha H ∧ f 0 = Value.string a0 ∧ f 1 = Value.int .i64 a1 ∧ f 21 = Value.bool t26) ?_ ?_
  ·
   clear hp; have hp := hqt26; clear hqt26
   rcases ifB hp with ⟨c32, hp⟩ | ⟨c32, hp⟩
   ·
    refine FL.skip (wF_no rfl rfl rfl c32) rfl ?_
    refine FL.skip (wF_no rfl rfl rfl c32) rfl ?_
    refine FL.skip (wF_no rfl rfl rfl c32) rfl ?_
    refine FL.skip (wF_no rfl rfl rfl c32) rfl ?_
    obtain rfl := Option.some.inj hp
    refine FL.v (E.pickT rfl c32 rfl) ?_
    exact FL.nil ⟨rfl, _, S0, (Inc.rfl _), rfl, rfl, rfl⟩
   ·
    refine FL.val (wF_yes rfl rfl rfl c32) rfl rfl (E.move (v := Value.string a0) rfl) ?_
    refine FL.val (wF_yes rfl rfl rfl c32) rfl rfl (E.move (v := Value.int .i64 a1) rfl) ?_
    obtain ⟨z33, h34, hp⟩ := bnd hp
    refine FL.val (wF_yes rfl rfl rfl c32) rfl rfl (E.ixS Try.runUnderlying9 rfl rfl h34) ?_
    refine FL.val (wF_yes rfl rfl rfl c32) rfl rfl (E.eql rfl rfl) ?_
    obtain rfl := Option.some.inj hp
    refine FL.v (E.pickF rfl c32 rfl) ?_
    exact FL.nil ⟨rfl, _, S0, (Inc.rfl _), rfl, rfl, rfl⟩
  rintro f31 w30 ⟨H27, S28, i29, k35, k36, k37⟩
  refine FL.v (E.move k37) ?_
  obtain ⟨t55, hqt55, hp⟩ := bnd hp
  refine FL.cut 11 (fun f w => ∃ H : GH, St Ha wa H w [] ∧ Inc H27 H ∧ f 0 = Value.string a0 ∧ f 1 = Value.int .i64 a1 ∧ f 33 = Value.bool t55) ?_ ?_
  ·
   clear hp; have hp := hqt55; clear hqt55
   rcases ifB hp with ⟨c61, hp⟩ | ⟨c61, hp⟩
   ·
    refine FL.skip (wF_no rfl rfl rfl c61) rfl ?_
    refine FL.skip (wF_no rfl rfl rfl c61) rfl ?_
    refine FL.skip (wF_no rfl rfl rfl c61) rfl ?_
    refine FL.skip (wF_no rfl rfl rfl c61) rfl ?_
    refine FL.skip (wF_no rfl rfl rfl c61) rfl ?_
    refine FL.skip (wF_undef rfl rfl rfl) rfl ?_
    refine FL.skip (wF_undef rfl rfl rfl) rfl ?_
    refine FL.skip (wF_undef rfl rfl rfl) rfl ?_
    refine FL.skip (wF_undef rfl rfl rfl) rfl ?_
    refine FL.skip (wF_no rfl rfl rfl c61) rfl ?_
    obtain rfl := Option.some.inj hp
    refine FL.v (E.pickT rfl c61 rfl) ?_
    exact FL.nil ⟨rfl, _, S28, (Inc.rfl _), k35, k36, rfl⟩
   ·
    refine FL.val (wF_yes rfl rfl rfl c61) rfl rfl (E.move k35) ?_
    refine FL.val (wF_yes rfl rfl rfl c61) rfl rfl (E.move k36) ?_
    obtain ⟨z62, h63, hp⟩ := bnd hp
    refine FL.val (wF_yes rfl rfl rfl c61) rfl rfl (E.ixS Try.runUnderlying9 rfl rfl h63) ?_
    refine FL.val (wF_yes rfl rfl rfl c61) rfl rfl (E.geq rfl rfl) ?_
    refine FL.val (wF_yes rfl rfl rfl c61) rfl rfl (E.move (v := Value.bool (decide (97 ≤ z62))) rfl) ?_
    obtain ⟨t66, hqt66, hp⟩ := bnd hp
    refine FL.cut 5 (fun f w => ∃ H : GH, St Ha wa H w [] ∧ Inc H27 H ∧ f 0 = Value.string a0 ∧ f 1 = Value.int .i64 a1 ∧ f 22 = Value.bool t26 ∧ f 32 = Value.bool t66) ?_ ?_
    ·
     clear hp; have hp := hqt66; clear hqt66
     rcases ifB hp with ⟨c72, hp⟩ | ⟨c72, hp⟩
     ·
      refine FL.val (wF_yes rfl rfl rfl c72) rfl rfl (E.move k35) ?_
      refine FL.val (wF_yes rfl rfl rfl c72) rfl rfl (E.move k36) ?_
      obtain ⟨z73, h74, hp⟩ := bnd hp
      refine FL.val (wF_yes rfl rfl rfl c72) rfl rfl (E.ixS Try.runUnderlying9 rfl rfl h74) ?_
      refine FL.val (wF_yes rfl rfl rfl c72) rfl rfl (E.leq rfl rfl) ?_
      obtain rfl := Option.some.inj hp
      refine FL.val (wF_yes rfl rfl rfl c61) rfl rfl (E.pickT rfl c72 rfl) ?_
      exact FL.nil ⟨rfl, _, S28, (Inc.rfl _), k35, k36, rfl, rfl⟩
     ·
      refine FL.skip (wF_no rfl rfl rfl c72) rfl ?_
      refine FL.skip (wF_no rfl rfl rfl c72) rfl ?_
      refine FL.skip (wF_no rfl rfl rfl c72) rfl ?_
      refine FL.skip (wF_no rfl rfl rfl c72) rfl ?_
      obtain rfl := Option.some.inj hp
      refine FL.val (wF_yes rfl rfl rfl c61) rfl rfl (E.pickF rfl c72 rfl) ?_
      exact FL.nil ⟨rfl, _, S28, (Inc.rfl _), k35, k36, rfl, rfl⟩
    rintro f71 w70 ⟨H67, S68, i69, k75, k76, k77, k78⟩
    obtain rfl := Option.some.inj hp
    refine FL.v (E.pickF k77 c61 k78) ?_
    exact FL.nil ⟨rfl, _, S68, i69, k75, k76, rfl⟩
  rintro f60 w59 ⟨H56, S57, i58, k79, k80, k81⟩
  refine FL.v (E.assign k81) ?_
  refine FL.nil ?_
  rcases ifB hp with ⟨c82, hp⟩ | ⟨c82, hp⟩
  ·
   refine FW.condT rfl c82 ?_
   refine FW.seq (FW.region ?_)
   refine FL.v (E.move k80) ?_
   refine FL.v (E.add rfl rfl) ?_
   refine FL.v (E.assign (v := Value.int .i64 (wr (a1 + 1))) rfl) ?_
   refine FL.nil ?_
   refine FW.ret ?_
   obtain rfl := Option.some.inj hp
   exact ⟨.inr rfl, res1 rfl rfl ⟨rfl, S57.back⟩⟩
  ·
   refine FW.condF rfl c82 ?_
   refine FW.seq (FW.region ?_)
   refine FL.v (E.move k79) ?_
   refine FL.v (E.move k80) ?_
   obtain ⟨z83, h84, hp⟩ := bnd hp
   refine FL.v (E.ixS Try.runUnderlying9 rfl rfl h84) ?_
   refine FL.v (E.eql rfl rfl) ?_
   refine FL.v (E.assign (v := Value.bool (z83 == 126)) rfl) ?_
   refine FL.nil ?_
   rcases ifB hp with ⟨c85, hp⟩ | ⟨c85, hp⟩
   ·
    refine FW.condT rfl c85 ?_
    refine FW.seq (FW.region ?_)
    refine FL.v (E.move k79) ?_
    refine FL.v (E.move k80) ?_
    refine FL.v (E.add rfl rfl) ?_
    obtain ⟨r86, hr87, hp⟩ := bnd hp
    refine FL.call rfl rfl rfl (E.call Try.call56 (A2 rfl rfl)) (hrec_spec_l22End S57.sl a0 (wr (a1 + 1)) hr87) ?_
    rintro e w88 ⟨rfl, r89⟩
    refine ⟨_, rfl, ?_⟩
    have S90 := S57.call r89
    refine FL.v (E.assign (v := Value.int .i64 r86) rfl) ?_
    refine FL.nil ?_
    refine FW.ret ?_
    obtain rfl := Option.some.inj hp
    exact ⟨.inr rfl, res1 rfl rfl ⟨rfl, S90.back⟩⟩
   ·
    refine FW.condF rfl c85 ?_
    refine FW.seq (FW.region ?_)
    refine FL.v (E.move k79) ?_
    refine FL.v (E.move k80) ?_
    obtain ⟨z91, h92, hp⟩ := bnd hp
    refine FL.v (E.ixS Try.runUnderlying9 rfl rfl h92) ?_
    refine FL.v (E.neq rfl rfl) ?_
    refine FL.v (E.assign (v := Value.bool (!(z91 == 40))) rfl) ?_
    refine FL.nil ?_
    rcases ifB hp with ⟨c93, hp⟩ | ⟨c93, hp⟩
    ·
     refine FW.condT rfl c93 ?_
     refine FW.seq (FW.region ?_)
     refine FL.v (E.assign (v := Value.int .i64 (-1)) rfl) ?_
     refine FL.nil ?_
     refine FW.ret ?_
     obtain rfl := Option.some.inj hp
     exact ⟨.inr rfl, res1 rfl rfl ⟨rfl, S57.back⟩⟩
    ·
     refine FW.condF rfl c93 ?_
     refine FW.skip (FW.seq (FW.region ?_))
     refine FL.v (E.move k79) ?_
     refine FL.v (E.move k80) ?_
     refine FL.v (E.add rfl rfl) ?_
     obtain ⟨r94, hr95, hp⟩ := bnd hp
     refine FL.call rfl rfl rfl (E.call Try.call56 (A2 rfl rfl)) (hrec_spec_l22End S57.sl a0 (wr (a1 + 1)) hr95) ?_
     rintro e w96 ⟨rfl, r97⟩
     refine ⟨_, rfl, ?_⟩
     have S98 := S57.call r97
     refine FL.v (E.assign (v := Value.int .i64 r94) rfl) ?_
     refine FL.nil (FW.seq (FW.seq (FW.region ?_)))
     refine FL.v (E.move (v := Value.int .i64 r94) rfl) ?_
     refine FL.v (E.lss rfl rfl) ?_
     refine FL.v (E.move (v := Value.bool (decide (r94 < 0))) rfl) ?_
     refine FL.cut 5 (fun f w => ∃ H : GH, St Ha wa H w [] ∧ Inc H56 H ∧ f 0 = Value.string a0 ∧ f 5 = Value.int .i64 r94 ∧ f 61 = Value.bool (bif (decide (r94 < 0)) then true else (decide ((a0.size : Int) ≤ r94)))) ?_ ?_
     ·
      rcases bcase (decide (r94 < 0)) with c105 | c105
      ·
       refine FL.skip (wF_no rfl rfl rfl c105) rfl ?_
       refine FL.skip (wF_no rfl rfl rfl c105) rfl ?_
       refine FL.skip (wF_no rfl rfl rfl c105) rfl ?_
       refine FL.skip (wF_no rfl rfl rfl c105) rfl ?_
       refine FL.v (E.pickT rfl c105 rfl) ?_
       exact FL.nil ⟨rfl, _, S98, (Inc.rfl _), k79, rfl, (congrArg Value.bool (bifT c105).symm)⟩
      ·
       refine FL.val (wF_yes rfl rfl rfl c105) rfl rfl (E.move (v := Value.int .i64 r94) rfl) ?_
       refine FL.val (wF_yes rfl rfl rfl c105) rfl rfl (E.move k79) ?_
       refine FL.val (wF_yes rfl rfl rfl c105) rfl rfl (E.lenS Try.runUnderlying9 rfl) ?_
       refine FL.val (wF_yes rfl rfl rfl c105) rfl rfl (E.geq rfl rfl) ?_
       refine FL.v (E.pickF rfl c105 rfl) ?_
       exact FL.nil ⟨rfl, _, S98, (Inc.rfl _), k79, rfl, (congrArg Value.bool (bifF c105).symm)⟩
     rintro f104 w103 ⟨H100, S101, i102, k106, k107, k108⟩
     refine FL.v (E.move k108) ?_
     obtain ⟨t141, hqt141, hp⟩ := bnd hp
     refine FL.cut 17 (fun f w => ∃ H : GH, St Ha wa H w [] ∧ Inc H100 H ∧ f 0 = Value.string a0 ∧ f 5 = Value.int .i64 r94 ∧ f 79 = Value.bool t141) ?_ ?_
     ·
      clear hp; have hp := hqt141; clear hqt141
      rcases ifB hp with ⟨c147, hp⟩ | ⟨c147, hp⟩
      ·
       refine FL.skip (wF_no rfl rfl rfl c147) rfl ?_
       refine FL.skip (wF_no rfl rfl rfl c147) rfl ?_
       refine FL.skip (wF_no rfl rfl rfl c147) rfl ?_
       refine FL.skip (wF_no rfl rfl rfl c147) rfl ?_
       refine FL.skip (wF_no rfl rfl rfl c147) rfl ?_
       refine FL.skip (wF_undef rfl rfl rfl) rfl ?_
       refine FL.skip (wF_undef rfl rfl rfl) rfl ?_
       refine FL.skip (wF_undef rfl rfl rfl) rfl ?_
       refine FL.skip (wF_undef rfl rfl rfl) rfl ?_
       refine FL.skip (wF_no rfl rfl rfl c147) rfl ?_
       refine FL.skip (wF_no rfl rfl rfl c147) rfl ?_
       refine FL.skip (wF_undef rfl rfl rfl) rfl ?_
       refine FL.skip (wF_undef rfl rfl rfl) rfl ?_
       refine FL.skip (wF_undef rfl rfl rfl) rfl ?_
       refine FL.skip (wF_undef rfl rfl rfl) rfl ?_
       refine FL.skip (wF_no rfl rfl rfl c147) rfl ?_
       obtain rfl := Option.some.inj hp
       refine FL.v (E.pickT rfl c147 rfl) ?_
       exact FL.nil ⟨rfl, _, S101, (Inc.rfl _), k106, k107, rfl⟩
      ·
       refine FL.val (wF_yes rfl rfl rfl c147) rfl rfl (E.move k106) ?_
       refine FL.val (wF_yes rfl rfl rfl c147) rfl rfl (E.move k107) ?_
       obtain ⟨z148, h149, hp⟩ := bnd hp
       refine FL.val (wF_yes rfl rfl rfl c147) rfl rfl (E.ixS Try.runUnderlying9 rfl rfl h149) ?_
       refine FL.val (wF_yes rfl rfl rfl c147) rfl rfl (E.neq rfl rfl) ?_
       refine FL.val (wF_yes rfl rfl rfl c147) rfl rfl (E.move (v := Value.bool (!(z148 == 38))) rfl) ?_
       obtain ⟨t152, hqt152, hp⟩ := bnd hp
       refine FL.cut 5 (fun f w => ∃ H : GH, St Ha wa H w [] ∧ Inc H100 H ∧ f 0 = Value.string a0 ∧ f 5 = Value.int .i64 r94 ∧ f 62 = Value.bool (bif (decide (r94 < 0)) then true else (decide ((a0.size : Int) ≤ r94))) ∧ f 72 = Value.bool t152) ?_ ?_
       ·
        clear hp; have hp := hqt152; clear hqt152
        rcases ifB hp with ⟨c158, hp⟩ | ⟨c158, hp⟩
        ·
         refine FL.val (wF_yes rfl rfl rfl c158) rfl rfl (E.move k106) ?_
         refine FL.val (wF_yes rfl rfl rfl c158) rfl rfl (E.move k107) ?_
         obtain ⟨z159, h160, hp⟩ := bnd hp
         refine FL.val (wF_yes rfl rfl rfl c158) rfl rfl (E.ixS Try.runUnderlying9 rfl rfl h160) ?_
         refine FL.val (wF_yes rfl rfl rfl c158) rfl rfl (E.neq rfl rfl) ?_
         obtain rfl := Option.some.inj hp
         refine FL.val (wF_yes rfl rfl rfl c147) rfl rfl (E.pickT rfl c158 rfl) ?_
         exact FL.nil ⟨rfl, _, S101, (Inc.rfl _), k106, k107, rfl, rfl⟩
        ·
         refine FL.skip (wF_no rfl rfl rfl c158) rfl ?_
         refine FL.skip (wF_no rfl rfl rfl c158) rfl ?_
         refine FL.skip (wF_no rfl rfl rfl c158) rfl ?_
         refine FL.skip (wF_no rfl rfl rfl c158) rfl ?_
         obtain rfl := Option.some.inj hp
         refine FL.val (wF_yes rfl rfl rfl c147) rfl rfl (E.pickF rfl c158 rfl) ?_
         exact FL.nil ⟨rfl, _, S101, (Inc.rfl _), k106, k107, rfl, rfl⟩
       rintro f157 w156 ⟨H153, S154, i155, k161, k162, k163, k164⟩
       refine FL.val (wF_yes rfl rfl k163 c147) rfl rfl (E.move k164) ?_
       obtain ⟨t167, hqt167, hp⟩ := bnd hp
       refine FL.cut 5 (fun f w => ∃ H : GH, St Ha wa H w [] ∧ Inc H153 H ∧ f 0 = Value.string a0 ∧ f 5 = Value.int .i64 r94 ∧ f 62 = Value.bool (bif (decide (r94 < 0)) then true else (decide ((a0.size : Int) ≤ r94))) ∧ f 78 = Value.bool t167) ?_ ?_
       ·
        clear hp; have hp := hqt167; clear hqt167
        rcases ifB hp with ⟨c173, hp⟩ | ⟨c173, hp⟩
        ·
         refine FL.val (wF_yes rfl rfl rfl c173) rfl rfl (E.move k161) ?_
         refine FL.val (wF_yes rfl rfl rfl c173) rfl rfl (E.move k162) ?_
         obtain ⟨z174, h175, hp⟩ := bnd hp
         refine FL.val (wF_yes rfl rfl rfl c173) rfl rfl (E.ixS Try.runUnderlying9 rfl rfl h175) ?_
         refine FL.val (wF_yes rfl rfl rfl c173) rfl rfl (E.neq rfl rfl) ?_
         obtain rfl := Option.some.inj hp
         refine FL.val (wF_yes rfl rfl k163 c147) rfl rfl (E.pickT rfl c173 rfl) ?_
         exact FL.nil ⟨rfl, _, S154, (Inc.rfl _), k161, k162, k163, rfl⟩
        ·
         refine FL.skip (wF_no rfl rfl rfl c173) rfl ?_
         refine FL.skip (wF_no rfl rfl rfl c173) rfl ?_
         refine FL.skip (wF_no rfl rfl rfl c173) rfl ?_
         refine FL.skip (wF_no rfl rfl rfl c173) rfl ?_
         obtain rfl := Option.some.inj hp
         refine FL.val (wF_yes rfl rfl k163 c147) rfl rfl (E.pickF rfl c173 rfl) ?_
         exact FL.nil ⟨rfl, _, S154, (Inc.rfl _), k161, k162, k163, rfl⟩
       rintro f172 w171 ⟨H168, S169, i170, k176, k177, k178, k179⟩
       obtain rfl := Option.some.inj hp
       refine FL.v (E.pickF k178 c147 k179) ?_
       exact FL.nil ⟨rfl, _, S169, (i155.tr i170), k176, k177, rfl⟩
     rintro f146 w145 ⟨H142, S143, i144, k180, k181, k182⟩
     refine FL.nil ?_
     rcases ifB hp with ⟨c183, hp⟩ | ⟨c183, hp⟩
     ·
      refine FW.condT k182 c183 ?_
      refine FW.seq (FW.region ?_)
      refine FL.v (E.assign (v := Value.int .i64 (-1)) rfl) ?_
      refine FL.nil ?_
      refine FW.ret ?_
      obtain rfl := Option.some.inj hp
      exact ⟨.inr rfl, res1 rfl rfl ⟨rfl, S143.back⟩⟩
     ·
      refine FW.condF k182 c183 ?_
      refine FW.skip (FW.seq (FW.region ?_))
      refine FL.v (E.move k180) ?_
      refine FL.v (E.move k181) ?_
      refine FL.v (E.add rfl rfl) ?_
      obtain ⟨r184, hr185, hp⟩ := bnd hp
      refine FL.call rfl rfl rfl (E.call Try.call56 (A2 rfl rfl)) (hrec_spec_l22End S143.sl a0 (wr (r94 + 1)) hr185) ?_
      rintro e w186 ⟨rfl, r187⟩
      refine ⟨_, rfl, ?_⟩
      have S188 := S143.call r187
      refine FL.v (E.assign (v := Value.int .i64 r184) rfl) ?_
      refine FL.nil (FW.seq (FW.seq (FW.region ?_)))
      refine FL.v (E.move (v := Value.int .i64 r184) rfl) ?_
      refine FL.v (E.lss rfl rfl) ?_
      refine FL.v (E.move (v := Value.bool (decide (r184 < 0))) rfl) ?_
      refine FL.cut 5 (fun f w => ∃ H : GH, St Ha wa H w [] ∧ Inc H142 H ∧ f 0 = Value.string a0 ∧ f 6 = Value.int .i64 r184 ∧ f 91 = Value.bool (bif (decide (r184 < 0)) then true else (decide ((a0.size : Int) ≤ r184)))) ?_ ?_
      ·
       rcases bcase (decide (r184 < 0)) with c195 | c195
       ·
        refine FL.skip (wF_no rfl rfl rfl c195) rfl ?_
        refine FL.skip (wF_no rfl rfl rfl c195) rfl ?_
        refine FL.skip (wF_no rfl rfl rfl c195) rfl ?_
        refine FL.skip (wF_no rfl rfl rfl c195) rfl ?_
        refine FL.v (E.pickT rfl c195 rfl) ?_
        exact FL.nil ⟨rfl, _, S188, (Inc.rfl _), k180, rfl, (congrArg Value.bool (bifT c195).symm)⟩
       ·
        refine FL.val (wF_yes rfl rfl rfl c195) rfl rfl (E.move (v := Value.int .i64 r184) rfl) ?_
        refine FL.val (wF_yes rfl rfl rfl c195) rfl rfl (E.move k180) ?_
        refine FL.val (wF_yes rfl rfl rfl c195) rfl rfl (E.lenS Try.runUnderlying9 rfl) ?_
        refine FL.val (wF_yes rfl rfl rfl c195) rfl rfl (E.geq rfl rfl) ?_
        refine FL.v (E.pickF rfl c195 rfl) ?_
        exact FL.nil ⟨rfl, _, S188, (Inc.rfl _), k180, rfl, (congrArg Value.bool (bifF c195).symm)⟩
      rintro f194 w193 ⟨H190, S191, i192, k196, k197, k198⟩
      refine FL.v (E.move k198) ?_
      obtain ⟨t201, hqt201, hp⟩ := bnd hp
      refine FL.cut 5 (fun f w => ∃ H : GH, St Ha wa H w [] ∧ Inc H190 H ∧ f 6 = Value.int .i64 r184 ∧ f 97 = Value.bool t201) ?_ ?_
      ·
       clear hp; have hp := hqt201; clear hqt201
       rcases ifB hp with ⟨c207, hp⟩ | ⟨c207, hp⟩
       ·
        refine FL.skip (wF_no rfl rfl rfl c207) rfl ?_
        refine FL.skip (wF_no rfl rfl rfl c207) rfl ?_
        refine FL.skip (wF_no rfl rfl rfl c207) rfl ?_
        refine FL.skip (wF_no rfl rfl rfl c207) rfl ?_
        obtain rfl := Option.some.inj hp
        refine FL.v (E.pickT rfl c207 rfl) ?_
        exact FL.nil ⟨rfl, _, S191, (Inc.rfl _), k197, rfl⟩
       ·
        refine FL.val (wF_yes rfl rfl rfl c207) rfl rfl (E.move k196) ?_
        refine FL.val (wF_yes rfl rfl rfl c207) rfl rfl (E.move k197) ?_
        obtain ⟨z208, h209, hp⟩ := bnd hp
        refine FL.val (wF_yes rfl rfl rfl c207) rfl rfl (E.ixS Try.runUnderlying9 rfl rfl h209) ?_
        refine FL.val (wF_yes rfl rfl rfl c207) rfl rfl (E.neq rfl rfl) ?_
        obtain rfl := Option.some.inj hp
        refine FL.v (E.pickF rfl c207 rfl) ?_
        exact FL.nil ⟨rfl, _, S191, (Inc.rfl _), k197, rfl⟩
      rintro f206 w205 ⟨H202, S203, i204, k210, k211⟩
      refine FL.nil ?_
      rcases ifB hp with ⟨c212, hp⟩ | ⟨c212, hp⟩
      ·
       refine FW.condT k211 c212 ?_
       refine FW.seq (FW.region ?_)
       refine FL.v (E.assign (v := Value.int .i64 (-1)) rfl) ?_
       refine FL.nil ?_
       refine FW.ret ?_
       obtain rfl := Option.some.inj hp
       exact ⟨.inr rfl, res1 rfl rfl ⟨rfl, S203.back⟩⟩
      ·
       refine FW.condF k211 c212 ?_
       refine FW.skip (FW.seq (FW.region ?_))
       refine FL.v (E.move k210) ?_
       refine FL.v (E.add rfl rfl) ?_
       refine FL.v (E.assign (v := Value.int .i64 (wr (r184 + 1))) rfl) ?_
       refine FL.nil ?_
       refine FW.ret ?_
       obtain rfl := Option.some.inj hp
       exact ⟨.inr rfl, res1 rfl rfl ⟨rfl, S203.back⟩⟩
theorem w_spec_l22End_F (n : Nat) : ∀ {Ha : GH} {wa : World} (hs : Sl Ha wa) (a0 : ByteArray) (a1 : Int) {r : Int} (hp : PF.spec_l22End_F n a0 a1 = some r), Calls Try.prog 56 #[Value.string a0, Value.int .i64 a1] wa (Sc Ha wa (Value.int .i64 r)) := by
 induction n with
 | zero => intros; rename_i hp; exact nomatch hp
 | succ n ih => exact w_spec_l22End_B (rec_spec_l22End := PF.spec_l22End_F n) ih
theorem w_spec_l22End {Ha : GH} {wa : World} (hs : Sl Ha wa) (a0 : ByteArray) (a1 : Int) {r : Int} (hp : PF.spec_l22End a0 a1 = some r) :
  Calls Try.prog 56 #[Value.string a0, Value.int .i64 a1] wa (Sc Ha wa (Value.int .i64 r)) := w_spec_l22End_F deep hs a0 a1 hp

theorem w_spec_l22Good {Ha : GH} {wa : World} (hs : Sl Ha wa) (a0 : ByteArray) {r : Bool} (hp : (PF.spec_l22Good a0) = some r) :
  Calls Try.prog 40 #[Value.string a0] wa (Sc Ha wa (Value.bool r)) := by
 unfold PF.spec_l22Good at hp
 have S0 := St.init hs
 refine calls_go (N := 18) (args := [Value.string a0]) Try.func40 rfl rfl rfl ?_
 refine FW.seq (FW.region ?_)
 refine FL.v (E.assign (v := Value.bool false) rfl) ?_
 refine FL.nil (FW.seq (FW.region ?_))
 refine FL.v (E.move (v := Value.string a0) rfl) ?_
 refine FL.v (E.lenS Try.runUnderlying9 rfl) ?_
 refine FL.v (E.gtr rfl rfl) ?_
 refine FL.v (E.move (v := Value.bool (decide (0 < (a0.size : Int)))) rfl) ?_
 refine FL.cut 4 (fun f w => ∃ H : GH, St Ha wa H w [] ∧ Inc Ha H ∧ f 0 = Value.string a0 ∧ f 10 = Value.bool (bif (decide (0 < (a0.size : Int))) then (decide ((a0.size : Int) ≤ 80)) else false)) ?_ ?_
 ·
  rcases bcase (decide (0 < (a0.size : Int))) with c27 | c27
  ·
   refine FL.val (wF_yes rfl rfl rfl c27) rfl rfl (E.move (v := Value.string a0) rfl) ?_
   refine FL.val (wF_yes rfl rfl rfl c27) rfl rfl (E.lenS Try.runUnderlying9 rfl) ?_
   refine FL.val (wF_yes rfl rfl rfl c27) rfl rfl (E.leq rfl rfl) ?_
   refine FL.v (E.pickT rfl c27 rfl) ?_
   exact FL.nil ⟨rfl, _, S0, (Inc.rfl _), rfl, (congrArg Value.bool (bifT c27).symm)⟩
  ·
   refine FL.skip (wF_no rfl rfl rfl c27) rfl ?_
   refine FL.skip (wF_no rfl rfl rfl c27) rfl ?_
   refine FL.skip (wF_no rfl rfl rfl c27) rfl ?_
   refine FL.v (E.pickF rfl c27 rfl) ?_
   exact FL.nil ⟨rfl, _, S0, (Inc.rfl _), rfl, (congrArg Value.bool (bifF c27).symm)⟩
 rintro f26 w25 ⟨H22, S23, i24, k28, k29⟩
 refine FL.v (E.move k29) ?_
 obtain ⟨t35, hqt35, hp⟩ := bnd hp
 refine FL.cut 6 (fun f w => ∃ H : GH, St Ha wa H w [] ∧ Inc H22 H ∧ f 17 = Value.bool t35) ?_ ?_
 ·
  clear hp; have hp := hqt35; clear hqt35
  rcases ifB hp with ⟨c41, hp⟩ | ⟨c41, hp⟩
  ·
   refine FL.val (wF_yes rfl rfl rfl c41) rfl rfl (E.move k28) ?_
   obtain ⟨r42, hr43, hp⟩ := bnd hp
   refine FL.call (wF_yes rfl rfl rfl c41) rfl rfl (E.call Try.call56 (A2 rfl rfl)) (w_spec_l22End S23.sl a0 0 hr43) ?_
   rintro e w44 ⟨rfl, r45⟩
   refine ⟨_, rfl, ?_⟩
   have S46 := S23.call r45
   refine FL.val (wF_yes rfl rfl rfl c41) rfl rfl (E.move k28) ?_
   refine FL.val (wF_yes rfl rfl rfl c41) rfl rfl (E.lenS Try.runUnderlying9 rfl) ?_
   refine FL.val (wF_yes rfl rfl rfl c41) rfl rfl (E.eql rfl rfl) ?_
   obtain rfl := Option.some.inj hp
   refine FL.v (E.pickT rfl c41 rfl) ?_
   exact FL.nil ⟨rfl, _, S46, (Inc.rfl _), rfl⟩
  ·
   refine FL.skip (wF_no rfl rfl rfl c41) rfl ?_
   refine FL.skip (wF_no rfl rfl rfl c41) rfl ?_
   refine FL.skip (wF_no rfl rfl rfl c41) rfl ?_
   refine FL.skip (wF_no rfl rfl rfl c41) rfl ?_
   refine FL.skip (wF_no rfl rfl rfl c41) rfl ?_
   obtain rfl := Option.some.inj hp
   refine FL.v (E.pickF rfl c41 rfl) ?_
   exact FL.nil ⟨rfl, _, S23, (Inc.rfl _), rfl⟩
 rintro f40 w39 ⟨H36, S37, i38, k47⟩
 refine FL.v (E.assign k47) ?_
 refine FL.nil ?_
 refine FW.ret ?_
 obtain rfl := Option.some.inj hp
 exact ⟨.inr rfl, res1 rfl rfl ⟨rfl, S37.back⟩⟩

theorem w_spec_l22Before {Ha : GH} {wa : World} (hs : Sl Ha wa) (a0 : ByteArray) (a1 : ByteArray) :
  Calls Try.prog 41 #[Value.string a0, Value.string a1] wa (Sc Ha wa (Value.bool (PF.spec_l22Before a0 a1))) := by
 obtain ⟨r, hp⟩ : ∃ r, (PF.spec_l22Before a0 a1) = r := ⟨_, rfl⟩
 rw [hp]
 unfold PF.spec_l22Before at hp
 have S0 := St.init hs
 refine calls_go (N := 18) (args := [Value.string a0, Value.string a1]) Try.func41 rfl rfl rfl ?_
 refine FW.seq (FW.region ?_)
 refine FL.v (E.assign (v := Value.bool false) rfl) ?_
 refine FL.nil (FW.seq (FW.seq (FW.region ?_)))
 refine FL.v (E.move (v := Value.string a0) rfl) ?_
 refine FL.v (E.lenS Try.runUnderlying9 rfl) ?_
 refine FL.v (E.move (v := Value.string a1) rfl) ?_
 refine FL.v (E.lenS Try.runUnderlying9 rfl) ?_
 refine FL.v (E.neq rfl rfl) ?_
 refine FL.nil ?_
 rcases ifT hp with ⟨c21, hp⟩ | ⟨c21, hp⟩
 ·
  refine FW.condT rfl c21 ?_
  refine FW.seq (FW.region ?_)
  refine FL.v (E.move (v := Value.string a0) rfl) ?_
  refine FL.v (E.lenS Try.runUnderlying9 rfl) ?_
  refine FL.v (E.move (v := Value.string a1) rfl) ?_
  refine FL.v (E.lenS Try.runUnderlying9 rfl) ?_
  refine FL.v (E.lss rfl rfl) ?_
  refine FL.v (E.assign (v := Value.bool (decide ((a0.size : Int) < (a1.size : Int)))) rfl) ?_
  refine FL.nil ?_
  refine FW.ret ?_
  obtain rfl := hp
  exact ⟨.inr rfl, res1 rfl rfl ⟨rfl, S0.back⟩⟩
 ·
  refine FW.condF rfl c21 ?_
  refine FW.skip (FW.seq (FW.region ?_))
  refine FL.v (E.move (v := Value.string a0) rfl) ?_
  refine FL.v (E.move (v := Value.string a1) rfl) ?_
  refine FL.v (E.lssS rfl rfl) ?_
  refine FL.v (E.assign (v := Value.bool (ltS a0 a1)) rfl) ?_
  refine FL.nil ?_
  refine FW.ret ?_
  obtain rfl := hp
  exact ⟨.inr rfl, res1 rfl rfl ⟨rfl, S0.back⟩⟩

set_option maxHeartbeats 4000000 in
theorem w_spec_l23Side {Ha : GH} {wa : World} (hs : Sl Ha wa) (v0 : Value) (a0 : List ByteArray) (p0 : RSl Ha eS 1 v0 a0) {r : Bool} (hp : (PF.spec_l23Side a0) = some r) :
  Calls Try.prog 28 #[v0] wa (Sc Ha wa (Value.bool r)) := by
 unfold PF.spec_l23Side at hp
 have S0 := St.init hs
 refine calls_go (N := 36) (args := [v0]) Try.func28 rfl rfl rfl ?_
 refine FW.seq (FW.region ?_)
 refine FL.v (E.assign (v := Value.bool false) rfl) ?_
 refine FL.nil (FW.seq (FW.seq (FW.region ?_)))
 refine FL.v (E.move (v := v0) rfl) ?_
 refine FL.v (E.lenP te22 rfl p0) ?_
 refine FL.v (E.gtr rfl rfl) ?_
 refine FL.nil ?_
 rcases ifB hp with ⟨c21, hp⟩ | ⟨c21, hp⟩
 ·
  refine FW.condT rfl c21 ?_
  refine FW.seq (FW.region ?_)
  refine FL.v (E.assign (v := Value.bool false) rfl) ?_
  refine FL.nil ?_
  refine FW.ret ?_
  obtain rfl := Option.some.inj hp
  exact ⟨.inr rfl, res1 rfl rfl ⟨rfl, S0.back⟩⟩
 ·
  refine FW.condF rfl c21 ?_
  refine FW.skip (FW.seq (FW.seq (FW.region ?_)))
  refine FL.v (E.assign (v := Value.int .i64 0) rfl) ?_
  refine FL.nil ?_
  obtain ⟨q23, hq, hp⟩ := bndR hp
  refine FW.block ?_
  refine FW.mono (FW.forL (S := Unit) (X := Bool) (fun (i23 : Nat) (s23 : Unit) f w => ∃ H : GH, St Ha wa H w [] ∧ Inc Ha H ∧ f 3 = Value.int .i64 ((i23 : Nat) : Int) ∧ f 0 = v0) (fun q e f w => match q with | .go s23 => e = Exit.exit 0 ∧ (∃ H : GH, St Ha wa H w [] ∧ Inc Ha H) | .rt x => ((e = Exit.ret) ∧ (fun e f w => (e = Exit.normal ∨ e = Exit.ret) ∧ ∀ a, Fr (δ := []) 36 a f → ∃ v, (results Try.f28 a.tmps).run Try.prog w = .ok v w ∧ (Sc Ha wa (Value.bool x)) (.returned v) w) e f w)) hq ⟨_, S0, (Inc.rfl _), rfl, rfl⟩ ?_ ?_) ?_
  ·
   clear hp hq
   rintro i23 y22 s23 f136 w135 ⟨H132, S133, i134, k137, k138⟩ hx23 o240 hp
   refine FW.seq (FW.seq (FW.region ?_))
   refine FL.v (E.move k137) ?_
   refine FL.v (E.move k138) ?_
   refine FL.v (E.lenP te22 rfl p0) ?_
   refine FL.v (E.lssT rfl rfl (lss_len hx23)) ?_
   refine FL.nil ?_
   refine FW.condT rfl rfl ?_
   refine FW.skip (FW.seq (FW.block (FW.seq ?_)))
   refine FW.draw (fun w' => Run w135.heap.size H132 w135 H132 w') (by kernel_rfl) (by kernel_rfl) (run_drew S133.sl) ?_
   refine FD.val rfl rfl rfl (fun w' hw' => (E.move k138)) ?_
   refine FD.val rfl rfl rfl (fun w' hw' => (E.move k137)) ?_
   obtain ⟨p140, cs141, pt142, l143, at144, rel145⟩ := p0.at (ix_nat hx23)
   obtain rfl := eS_open rel145
   refine FD.val rfl rfl rfl (fun w' hw' => (E.indexAddr te22 rfl rfl pt142)) ?_
   refine FD.val rfl rfl rfl (fun w' hw' => (E.load rfl (run_load0 Try.isAgg9 ((at144.mono i134).now (S133.call hw').sl) rfl))) ?_
   obtain ⟨r146, hr147, hp⟩ := bnd hp
   refine FD.call rfl rfl rfl (fun w' hw' => (E.call Try.call40 (A1 rfl))) (fun w' hw' => Calls.cls hw' (w_spec_l22Good (S133.call hw').sl y22 hr147)) ?_
   refine FD.val rfl rfl rfl (fun w' hw' => (E.not rfl)) ?_
   refine FD.val rfl rfl rfl (fun w' hw' => (E.move (v := Value.bool (!r146)) rfl)) ?_
   obtain ⟨t187, hqt187, hp⟩ := bnd hp
   refine FD.cut 16 (fun f => f 0 = v0 ∧ f 3 = Value.int .i64 ((i23 : Nat) : Int) ∧ f 35 = Value.bool t187) ?_ ?_
   ·
    clear hp; have hp := hqt187; clear hqt187
    rcases ifB hp with ⟨c193, hp⟩ | ⟨c193, hp⟩
    ·
     refine FD.skip (wF_no rfl rfl rfl c193) rfl ?_
     refine FD.skip (wF_no rfl rfl rfl c193) rfl ?_
     refine FD.skip (wF_no rfl rfl rfl c193) rfl ?_
     refine FD.skip (wF_undef rfl rfl rfl) rfl ?_
     refine FD.skip (wF_undef rfl rfl rfl) rfl ?_
     refine FD.skip (wF_undef rfl rfl rfl) rfl ?_
     refine FD.skip (wF_undef rfl rfl rfl) rfl ?_
     refine FD.skip (wF_undef rfl rfl rfl) rfl ?_
     refine FD.skip (wF_undef rfl rfl rfl) rfl ?_
     refine FD.skip (wF_undef rfl rfl rfl) rfl ?_
     refine FD.skip (wF_undef rfl rfl rfl) rfl ?_
     refine FD.skip (wF_undef rfl rfl rfl) rfl ?_
     refine FD.skip (wF_undef rfl rfl rfl) rfl ?_
     refine FD.skip (wF_undef rfl rfl rfl) rfl ?_
     refine FD.skip (wF_no rfl rfl rfl c193) rfl ?_
     obtain rfl := Option.some.inj hp
     refine FD.val rfl rfl rfl (fun w' hw' => (E.pickT rfl c193 rfl)) ?_
     exact FD.nil ⟨k138, k137, rfl⟩
    ·
     refine FD.val (wF_yes rfl rfl rfl c193) rfl rfl (fun w' hw' => (E.move k137)) ?_
     refine FD.val (wF_yes rfl rfl rfl c193) rfl rfl (fun w' hw' => (E.gtr rfl rfl)) ?_
     refine FD.val (wF_yes rfl rfl rfl c193) rfl rfl (fun w' hw' => (E.move (v := Value.bool (decide (0 < ((i23 : Nat) : Int)))) rfl)) ?_
     obtain ⟨t208, hqt208, hp⟩ := bnd hp
     refine FD.cut 12 (fun f => f 0 = v0 ∧ f 3 = Value.int .i64 ((i23 : Nat) : Int) ∧ f 19 = Value.bool (!r146) ∧ f 34 = Value.bool t208) ?_ ?_
     ·
      clear hp; have hp := hqt208; clear hqt208
      rcases ifB hp with ⟨c214, hp⟩ | ⟨c214, hp⟩
      ·
       refine FD.val (wF_yes rfl rfl rfl c214) rfl rfl (fun w' hw' => (E.move k138)) ?_
       refine FD.val (wF_yes rfl rfl rfl c214) rfl rfl (fun w' hw' => (E.move k137)) ?_
       refine FD.val (wF_yes rfl rfl rfl c214) rfl rfl (fun w' hw' => (E.sub rfl rfl)) ?_
       obtain ⟨x221, hx222, hp⟩ := bnd hp
       obtain ⟨p215, cs216, pt217, l218, at219, rel220⟩ := p0.at hx222
       obtain rfl := eS_open rel220
       refine FD.val (wF_yes rfl rfl rfl c214) rfl rfl (fun w' hw' => (E.indexAddr te22 rfl rfl pt217)) ?_
       refine FD.val (wF_yes rfl rfl rfl c214) rfl rfl (fun w' hw' => (E.load rfl (run_load0 Try.isAgg9 ((at219.mono i134).now (S133.call hw').sl) rfl))) ?_
       refine FD.val (wF_yes rfl rfl rfl c214) rfl rfl (fun w' hw' => (E.move k138)) ?_
       refine FD.val (wF_yes rfl rfl rfl c214) rfl rfl (fun w' hw' => (E.move k137)) ?_
       obtain ⟨p223, cs224, pt225, l226, at227, rel228⟩ := p0.at (ix_nat hx23)
       obtain rfl := eS_open rel228
       refine FD.val (wF_yes rfl rfl rfl c214) rfl rfl (fun w' hw' => (E.indexAddr te22 rfl rfl pt225)) ?_
       refine FD.val (wF_yes rfl rfl rfl c214) rfl rfl (fun w' hw' => (E.load rfl (run_load0 Try.isAgg9 ((at227.mono i134).now (S133.call hw').sl) rfl))) ?_
       refine FD.call (wF_yes rfl rfl rfl c214) rfl rfl (fun w' hw' => (E.call Try.call41 (A2 rfl rfl))) (fun w' hw' => Calls.cls hw' (w_spec_l22Before (S133.call hw').sl x221 y22)) ?_
       refine FD.val (wF_yes rfl rfl rfl c214) rfl rfl (fun w' hw' => (E.not rfl)) ?_
       obtain rfl := Option.some.inj hp
       refine FD.val (wF_yes rfl rfl rfl c193) rfl rfl (fun w' hw' => (E.pickT rfl c214 rfl)) ?_
       exact FD.nil ⟨k138, k137, rfl, rfl⟩
      ·
       refine FD.skip (wF_no rfl rfl rfl c214) rfl ?_
       refine FD.skip (wF_no rfl rfl rfl c214) rfl ?_
       refine FD.skip (wF_no rfl rfl rfl c214) rfl ?_
       refine FD.skip (wF_no rfl rfl rfl c214) rfl ?_
       refine FD.skip (wF_no rfl rfl rfl c214) rfl ?_
       refine FD.skip (wF_no rfl rfl rfl c214) rfl ?_
       refine FD.skip (wF_no rfl rfl rfl c214) rfl ?_
       refine FD.skip (wF_no rfl rfl rfl c214) rfl ?_
       refine FD.skip (wF_no rfl rfl rfl c214) rfl ?_
       refine FD.skip (wF_no rfl rfl rfl c214) rfl ?_
       refine FD.skip (wF_no rfl rfl rfl c214) rfl ?_
       obtain rfl := Option.some.inj hp
       refine FD.val (wF_yes rfl rfl rfl c193) rfl rfl (fun w' hw' => (E.pickF rfl c214 rfl)) ?_
       exact FD.nil ⟨k138, k137, rfl, rfl⟩
     rintro f213 ⟨k229, k230, k231, k232⟩
     obtain rfl := Option.some.inj hp
     refine FD.val rfl rfl rfl (fun w' hw' => (E.pickF k231 c193 k232)) ?_
     exact FD.nil ⟨k229, k230, rfl⟩
   rintro f192 ⟨k233, k234, k235⟩
   refine FD.nil ?_
   intro w236 r238
   have S237 := S133.call r238
   rcases ifB hp with ⟨c239, hp⟩ | ⟨c239, hp⟩
   ·
    refine FW.condT k235 c239 ?_
    refine FW.seq (FW.region ?_)
    refine FL.v (E.assign (v := Value.bool false) rfl) ?_
    refine FL.nil ?_
    refine FW.ret ?_
    obtain rfl := Option.some.inj hp
    exact ⟨nofun, rfl, ⟨.inr rfl, res1 rfl rfl ⟨rfl, S237.back⟩⟩⟩
   ·
    refine FW.condF k235 c239 ?_
    refine FW.skip (FW.region ?_)
    refine FL.v (E.move k234) ?_
    refine FL.v (E.add rfl rfl) ?_
    refine FL.v (E.assign (v := Value.int .i64 (wr (((i23 : Nat) : Int) + 1))) rfl) ?_
    refine FL.nil ?_
    obtain rfl := Option.some.inj hp
    exact ⟨rfl, ⟨_, S237, i134, (nat_succ rfl (lt_of_get hx23) (p0.mono i134).le), k233⟩⟩
  ·
   clear hp hq
   rintro s23 f250 w249 ⟨H246, S247, i248, k251, k252⟩
   refine FW.seq (FW.seq (FW.region ?_))
   refine FL.v (E.move k251) ?_
   refine FL.v (E.move k252) ?_
   refine FL.v (E.lenP te22 rfl p0) ?_
   refine FL.v (E.lss rfl rfl) ?_
   refine FL.nil ?_
   refine FW.condF rfl dlt_len ?_
   refine FW.exit ?_
   exact ⟨nofun, rfl, ⟨_, S247, i248⟩⟩
  ·
   clear hq
   intro e f245 w244 hD
   rcases q23 with s23 | x23
   ·
    obtain ⟨rfl, hD⟩ := hD
    obtain ⟨H241, S242, i243⟩ := hD
    replace hp := el_go hp
    refine FW.seq (FW.region ?_)
    refine FL.v (E.assign (v := Value.bool true) rfl) ?_
    refine FL.nil ?_
    refine FW.ret ?_
    obtain rfl := Option.some.inj hp
    exact ⟨.inr rfl, res1 rfl rfl ⟨rfl, S242.back⟩⟩
   ·
    obtain ⟨he, hL⟩ := hD
    replace hp := el_rt hp
    obtain rfl := Option.some.inj hp
    subst he
    exact hL

theorem w_spec_l23Good {Ha : GH} {wa : World} (hs : Sl Ha wa) (a0 : Sequent) (v0_0 : Value) (p0_0 : RSl Ha eS 1 v0_0 a0.left) (v0_1 : Value) (p0_1 : RSl Ha eS 1 v0_1 a0.right) {r : Bool} (hp : (PF.spec_l23Good a0) = some r) :
  Calls Try.prog 17 #[Value.agg #[v0_0, v0_1]] wa (Sc Ha wa (Value.bool r)) := by
 unfold PF.spec_l23Good at hp
 have S0 := St.init hs
 refine calls_go (N := 11) (args := [Value.agg #[v0_0, v0_1]]) Try.func17 rfl rfl rfl ?_
 refine FW.seq (FW.region ?_)
 obtain ⟨b21, w22, run23, S24⟩ := S0.box (P := Try.prog) 28 [v0_0, v0_1] (v := Value.agg #[v0_0, v0_1]) rfl (ones_cons p0_0.one (ones_cons p0_1.one ones_nil))
 refine FL.v (E.box rfl run23) ?_
 obtain ⟨H25, S26, i27, at28⟩ := S24.sealBox (i := 0) (l' := []) rfl rfl
 refine FL.v (E.assign (v := Value.bool false) rfl) ?_
 refine FL.nil (FW.seq (FW.region ?_))
 refine FL.v (E.fieldAddr tf28_0 rfl) ?_
 refine FL.v (E.load rfl (run_load1 Try.isAgg22 (at28.now S26.sl) rfl)) ?_
 obtain ⟨r29, hr30, hp⟩ := bnd hp
 refine FL.call rfl rfl rfl (E.call Try.call28 (A1 rfl)) (w_spec_l23Side S26.sl v0_0 a0.left (p0_0.mono i27) hr30) ?_
 rintro e w31 ⟨rfl, r32⟩
 refine ⟨_, rfl, ?_⟩
 have S33 := S26.call r32
 refine FL.v (E.move (v := Value.bool r29) rfl) ?_
 obtain ⟨t39, hqt39, hp⟩ := bnd hp
 refine FL.cut 4 (fun f w => ∃ H : GH, St Ha wa H w [] ∧ Inc H25 H ∧ f 10 = Value.bool t39) ?_ ?_
 ·
  clear hp; have hp := hqt39; clear hqt39
  rcases ifB hp with ⟨c45, hp⟩ | ⟨c45, hp⟩
  ·
   refine FL.val (wF_yes rfl rfl rfl c45) rfl rfl (E.fieldAddr tf28_1 rfl) ?_
   refine FL.val (wF_yes rfl rfl rfl c45) rfl rfl (E.load rfl (run_load1 Try.isAgg22 (at28.now S33.sl) rfl)) ?_
   obtain ⟨r46, hr47, hp⟩ := bnd hp
   refine FL.call (wF_yes rfl rfl rfl c45) rfl rfl (E.call Try.call28 (A1 rfl)) (w_spec_l23Side S33.sl v0_1 a0.right (p0_1.mono i27) hr47) ?_
   rintro e w48 ⟨rfl, r49⟩
   refine ⟨_, rfl, ?_⟩
   have S50 := S33.call r49
   obtain rfl := Option.some.inj hp
   refine FL.v (E.pickT rfl c45 rfl) ?_
   exact FL.nil ⟨rfl, _, S50, (Inc.rfl _), rfl⟩
  ·
   refine FL.skip (wF_no rfl rfl rfl c45) rfl ?_
   refine FL.skip (wF_no rfl rfl rfl c45) rfl ?_
   refine FL.skip (wF_no rfl rfl rfl c45) rfl ?_
   obtain rfl := Option.some.inj hp
   refine FL.v (E.pickF rfl c45 rfl) ?_
   exact FL.nil ⟨rfl, _, S33, (Inc.rfl _), rfl⟩
 rintro f44 w43 ⟨H40, S41, i42, k51⟩
 refine FL.v (E.assign k51) ?_
 refine FL.nil ?_
 refine FW.ret ?_
 obtain rfl := Option.some.inj hp
 exact ⟨.inr rfl, res1 rfl rfl ⟨rfl, S41.back⟩⟩

theorem w_spec_l23Has {Ha : GH} {wa : World} (hs : Sl Ha wa) (v0 : Value) (a0 : List ByteArray) (p0 : RSl Ha eS 1 v0 a0) (a1 : ByteArray) {r : Bool} (hp : (PF.spec_l23Has a0 a1) = some r) :
  Calls Try.prog 42 #[v0, Value.string a1] wa (Sc Ha wa (Value.bool r)) := by
 unfold PF.spec_l23Has at hp
 have S0 := St.init hs
 refine calls_go (N := 18) (args := [v0, Value.string a1]) Try.func42 rfl rfl rfl ?_
 refine FW.seq (FW.region ?_)
 refine FL.v (E.assign (v := Value.bool false) rfl) ?_
 refine FL.nil (FW.seq (FW.seq (FW.region ?_)))
 refine FL.v (E.assign (v := Value.int .i64 0) rfl) ?_
 refine FL.nil ?_
 obtain ⟨q22, hq, hp⟩ := bndR hp
 refine FW.block ?_
 refine FW.mono (FW.forL (S := Unit) (X := Bool) (fun (i22 : Nat) (s22 : Unit) f w => ∃ H : GH, St Ha wa H w [] ∧ Inc Ha H ∧ f 5 = Value.int .i64 ((i22 : Nat) : Int) ∧ f 0 = v0 ∧ f 1 = Value.string a1) (fun q e f w => match q with | .go s22 => e = Exit.exit 0 ∧ (∃ H : GH, St Ha wa H w [] ∧ Inc Ha H) | .rt x => ((e = Exit.ret) ∧ (fun e f w => (e = Exit.normal ∨ e = Exit.ret) ∧ ∀ a, Fr (δ := []) 18 a f → ∃ v, (results Try.f42 a.tmps).run Try.prog w = .ok v w ∧ (Sc Ha wa (Value.bool x)) (.returned v) w) e f w)) hq ⟨_, S0, (Inc.rfl _), rfl, rfl, rfl⟩ ?_ ?_) ?_
 ·
  clear hp hq
  rintro i22 y21 s22 f42 w41 ⟨H38, S39, i40, k43, k44, k45⟩ hx22 o53 hp
  refine FW.seq (FW.seq (FW.region ?_))
  refine FL.v (E.move k43) ?_
  refine FL.v (E.move k44) ?_
  refine FL.v (E.lenP te22 rfl p0) ?_
  refine FL.v (E.lssT rfl rfl (lss_len hx22)) ?_
  refine FL.nil ?_
  refine FW.condT rfl rfl ?_
  refine FW.skip (FW.seq (FW.block (FW.seq (FW.region ?_))))
  refine FL.v (E.move k44) ?_
  refine FL.v (E.move k43) ?_
  obtain ⟨p46, cs47, pt48, l49, at50, rel51⟩ := p0.at (ix_nat hx22)
  obtain rfl := eS_open rel51
  refine FL.v (E.indexAddr te22 rfl rfl pt48) ?_
  refine FL.v (E.load rfl (run_load0 Try.isAgg9 ((at50.mono i40).now S39.sl) rfl)) ?_
  refine FL.v (E.move k45) ?_
  refine FL.v (E.eqlS rfl rfl) ?_
  refine FL.nil ?_
  rcases ifB hp with ⟨c52, hp⟩ | ⟨c52, hp⟩
  ·
   refine FW.condT rfl c52 ?_
   refine FW.seq (FW.region ?_)
   refine FL.v (E.assign (v := Value.bool true) rfl) ?_
   refine FL.nil ?_
   refine FW.ret ?_
   obtain rfl := Option.some.inj hp
   exact ⟨nofun, rfl, ⟨.inr rfl, res1 rfl rfl ⟨rfl, S39.back⟩⟩⟩
  ·
   refine FW.condF rfl c52 ?_
   refine FW.skip (FW.region ?_)
   refine FL.v (E.move k43) ?_
   refine FL.v (E.add rfl rfl) ?_
   refine FL.v (E.assign (v := Value.int .i64 (wr (((i22 : Nat) : Int) + 1))) rfl) ?_
   refine FL.nil ?_
   obtain rfl := Option.some.inj hp
   exact ⟨rfl, ⟨_, S39, i40, (nat_succ rfl (lt_of_get hx22) (p0.mono i40).le), k44, k45⟩⟩
 ·
  clear hp hq
  rintro s22 f63 w62 ⟨H59, S60, i61, k64, k65, k66⟩
  refine FW.seq (FW.seq (FW.region ?_))
  refine FL.v (E.move k64) ?_
  refine FL.v (E.move k65) ?_
  refine FL.v (E.lenP te22 rfl p0) ?_
  refine FL.v (E.lss rfl rfl) ?_
  refine FL.nil ?_
  refine FW.condF rfl dlt_len ?_
  refine FW.exit ?_
  exact ⟨nofun, rfl, ⟨_, S60, i61⟩⟩
 ·
  clear hq
  intro e f58 w57 hD
  rcases q22 with s22 | x22
  ·
   obtain ⟨rfl, hD⟩ := hD
   obtain ⟨H54, S55, i56⟩ := hD
   replace hp := el_go hp
   refine FW.seq (FW.region ?_)
   refine FL.v (E.assign (v := Value.bool false) rfl) ?_
   refine FL.nil ?_
   refine FW.ret ?_
   obtain rfl := Option.some.inj hp
   exact ⟨.inr rfl, res1 rfl rfl ⟨rfl, S55.back⟩⟩
  ·
   obtain ⟨he, hL⟩ := hD
   replace hp := el_rt hp
   obtain rfl := Option.some.inj hp
   subst he
   exact hL

set_option maxHeartbeats 4000000 in
theorem w_spec_l23Axiom {Ha : GH} {wa : World} (hs : Sl Ha wa) (a0 : Sequent) (v0_0 : Value) (p0_0 : RSl Ha eS 1 v0_0 a0.left) (v0_1 : Value) (p0_1 : RSl Ha eS 1 v0_1 a0.right) {r : Bool} (hp : (PF.spec_l23Axiom a0) = some r) :
  Calls Try.prog 29 #[Value.agg #[v0_0, v0_1]] wa (Sc Ha wa (Value.bool r)) := by
 unfold PF.spec_l23Axiom at hp
 have S0 := St.init hs
 refine calls_go (N := 30) (args := [Value.agg #[v0_0, v0_1]]) Try.func29 rfl rfl rfl ?_
 refine FW.seq (FW.region ?_)
 obtain ⟨b21, w22, run23, S24⟩ := S0.box (P := Try.prog) 28 [v0_0, v0_1] (v := Value.agg #[v0_0, v0_1]) rfl (ones_cons p0_0.one (ones_cons p0_1.one ones_nil))
 refine FL.v (E.box rfl run23) ?_
 obtain ⟨H25, S26, i27, at28⟩ := S24.sealBox (i := 0) (l' := []) rfl rfl
 refine FL.v (E.assign (v := Value.bool false) rfl) ?_
 refine FL.nil (FW.seq (FW.seq (FW.region ?_)))
 refine FL.v (E.assign (v := Value.int .i64 0) rfl) ?_
 refine FL.nil ?_
 obtain ⟨q29, hq, hp⟩ := bndR hp
 refine FW.block ?_
 refine FW.mono (FW.iter (S := Int) (X := Bool) (fun (s29 : Int) f w => ∃ H : GH, St Ha wa H w [] ∧ Inc H25 H ∧ f 1 = Value.pointer (some ⟨b21, 0, none⟩) ∧ f 3 = Value.int .i64 s29) (fun q e f w => match q with | .go s29 => e = Exit.exit 0 ∧ (∃ H : GH, St Ha wa H w [] ∧ Inc H25 H ∧ f 1 = Value.pointer (some ⟨b21, 0, none⟩)) | .rt x => ((e = Exit.ret) ∧ (fun e f w => (e = Exit.normal ∨ e = Exit.ret) ∧ ∀ a, Fr (δ := []) 30 a f → ∃ v, (results Try.f29 a.tmps).run Try.prog w = .ok v w ∧ (Sc Ha wa (Value.bool x)) (.returned v) w) e f w)) hq ⟨_, S26, (Inc.rfl _), rfl, rfl⟩ ?_) ?_
 ·
  clear hp hq
  rintro s29 f85 w84 ⟨H81, S82, i83, k86, k87⟩ o132 hp
  refine FW.seq (FW.seq (FW.region ?_))
  refine FL.v (E.move k87) ?_
  refine FL.v (E.fieldAddr tf28_0 k86) ?_
  refine FL.v (E.load rfl (run_load1 Try.isAgg22 ((at28.mono i83).now S82.sl) rfl)) ?_
  refine FL.v (E.lenP te22 rfl p0_0) ?_
  refine FL.v (E.lss rfl rfl) ?_
  refine FL.nil ?_
  rcases ifB hp with ⟨c88, hp⟩ | ⟨c88, hp⟩
  ·
   refine FW.condT rfl c88 ?_
   refine FW.skip (FW.seq (FW.block (FW.seq ?_)))
   refine FW.draw (fun w' => Run w84.heap.size H81 w84 H81 w') (by kernel_rfl) (by kernel_rfl) (run_drew S82.sl) ?_
   refine FD.val rfl rfl rfl (fun w' hw' => (E.fieldAddr tf28_0 k86)) ?_
   refine FD.val rfl rfl rfl (fun w' hw' => (E.load rfl (run_load1 Try.isAgg22 ((at28.mono i83).now (S82.call hw').sl) rfl))) ?_
   refine FD.val rfl rfl rfl (fun w' hw' => (E.move k87)) ?_
   obtain ⟨x96, hx97, hp⟩ := bnd hp
   obtain ⟨p90, cs91, pt92, l93, at94, rel95⟩ := p0_0.at hx97
   obtain rfl := eS_open rel95
   refine FD.val rfl rfl rfl (fun w' hw' => (E.indexAddr te22 rfl rfl pt92)) ?_
   refine FD.val rfl rfl rfl (fun w' hw' => (E.load rfl (run_load0 Try.isAgg9 ((at94.mono (i27.tr i83)).now (S82.call hw').sl) rfl))) ?_
   refine FD.val rfl rfl rfl (fun w' hw' => (E.eqlS rfl rfl)) ?_
   refine FD.val rfl rfl rfl (fun w' hw' => (E.move (v := Value.bool (x96.toList == (ByteArray.mk #[48]).toList)) rfl)) ?_
   obtain ⟨t108, hqt108, hp⟩ := bnd hp
   refine FD.cut 9 (fun f => f 1 = Value.pointer (some ⟨b21, 0, none⟩) ∧ f 3 = Value.int .i64 s29 ∧ f 26 = Value.bool t108) ?_ ?_
   ·
    clear hp; have hp := hqt108; clear hqt108
    rcases ifB hp with ⟨c114, hp⟩ | ⟨c114, hp⟩
    ·
     refine FD.skip (wF_no rfl rfl rfl c114) rfl ?_
     refine FD.skip (wF_no rfl rfl rfl c114) rfl ?_
     refine FD.skip (wF_no rfl rfl rfl c114) rfl ?_
     refine FD.skip (wF_no rfl rfl rfl c114) rfl ?_
     refine FD.skip (wF_no rfl rfl rfl c114) rfl ?_
     refine FD.skip (wF_no rfl rfl rfl c114) rfl ?_
     refine FD.skip (wF_no rfl rfl rfl c114) rfl ?_
     refine FD.skip (wF_no rfl rfl rfl c114) rfl ?_
     obtain rfl := Option.some.inj hp
     refine FD.val rfl rfl rfl (fun w' hw' => (E.pickT rfl c114 rfl)) ?_
     exact FD.nil ⟨k86, k87, rfl⟩
    ·
     refine FD.val (wF_yes rfl rfl rfl c114) rfl rfl (fun w' hw' => (E.fieldAddr tf28_1 k86)) ?_
     refine FD.val (wF_yes rfl rfl rfl c114) rfl rfl (fun w' hw' => (E.load rfl (run_load1 Try.isAgg22 ((at28.mono i83).now (S82.call hw').sl) rfl))) ?_
     refine FD.val (wF_yes rfl rfl rfl c114) rfl rfl (fun w' hw' => (E.fieldAddr tf28_0 k86)) ?_
     refine FD.val (wF_yes rfl rfl rfl c114) rfl rfl (fun w' hw' => (E.load rfl (run_load1 Try.isAgg22 ((at28.mono i83).now (S82.call hw').sl) rfl))) ?_
     refine FD.val (wF_yes rfl rfl rfl c114) rfl rfl (fun w' hw' => (E.move k87)) ?_
     obtain ⟨x121, hx122, hp⟩ := bnd hp
     obtain ⟨p115, cs116, pt117, l118, at119, rel120⟩ := p0_0.at hx122
     obtain rfl := eS_open rel120
     refine FD.val (wF_yes rfl rfl rfl c114) rfl rfl (fun w' hw' => (E.indexAddr te22 rfl rfl pt117)) ?_
     refine FD.val (wF_yes rfl rfl rfl c114) rfl rfl (fun w' hw' => (E.load rfl (run_load0 Try.isAgg9 ((at119.mono (i27.tr i83)).now (S82.call hw').sl) rfl))) ?_
     obtain ⟨r123, hr124, hp⟩ := bnd hp
     refine FD.call (wF_yes rfl rfl rfl c114) rfl rfl (fun w' hw' => (E.call Try.call42 (A2 rfl rfl))) (fun w' hw' => Calls.cls hw' (w_spec_l23Has (S82.call hw').sl v0_1 a0.right (p0_1.mono (i27.tr i83)) x121 hr124)) ?_
     obtain rfl := Option.some.inj hp
     refine FD.val rfl rfl rfl (fun w' hw' => (E.pickF rfl c114 rfl)) ?_
     exact FD.nil ⟨k86, k87, rfl⟩
   rintro f113 ⟨k125, k126, k127⟩
   refine FD.nil ?_
   intro w128 r130
   have S129 := S82.call r130
   rcases ifB hp with ⟨c131, hp⟩ | ⟨c131, hp⟩
   ·
    refine FW.condT k127 c131 ?_
    refine FW.seq (FW.region ?_)
    refine FL.v (E.assign (v := Value.bool true) rfl) ?_
    refine FL.nil ?_
    refine FW.ret ?_
    obtain rfl := Option.some.inj hp
    exact ⟨nofun, rfl, ⟨.inr rfl, res1 rfl rfl ⟨rfl, S129.back⟩⟩⟩
   ·
    refine FW.condF k127 c131 ?_
    refine FW.skip (FW.region ?_)
    refine FL.v (E.move k126) ?_
    refine FL.v (E.add rfl rfl) ?_
    refine FL.v (E.assign (v := Value.int .i64 (wr (s29 + 1))) rfl) ?_
    refine FL.nil ?_
    obtain rfl := Option.some.inj hp
    exact ⟨rfl, ⟨_, S129, i83, k125, rfl⟩⟩
  ·
   refine FW.condF rfl c88 ?_
   refine FW.exit ?_
   obtain rfl := Option.some.inj hp
   exact ⟨nofun, rfl, ⟨_, S82, i83, k86⟩⟩
 ·
  clear hq
  intro e f137 w136 hD
  rcases q29 with s29 | x29
  ·
   obtain ⟨rfl, hD⟩ := hD
   obtain ⟨H133, S134, i135, k138⟩ := hD
   replace hp := el_go hp
   refine FW.seq (FW.region ?_)
   refine FL.v (E.fieldAddr tf28_1 k138) ?_
   refine FL.v (E.load rfl (run_load1 Try.isAgg22 ((at28.mono i135).now S134.sl) rfl)) ?_
   obtain ⟨r139, hr140, hp⟩ := bnd hp
   refine FL.call rfl rfl rfl (E.call Try.call42 (A2 rfl rfl)) (w_spec_l23Has S134.sl v0_1 a0.right (p0_1.mono (i27.tr i135)) (ByteArray.mk #[49]) hr140) ?_
   rintro e w141 ⟨rfl, r142⟩
   refine ⟨_, rfl, ?_⟩
   have S143 := S134.call r142
   refine FL.v (E.assign (v := Value.bool r139) rfl) ?_
   refine FL.nil ?_
   refine FW.ret ?_
   obtain rfl := Option.some.inj hp
   exact ⟨.inr rfl, res1 rfl rfl ⟨rfl, S143.back⟩⟩
  ·
   obtain ⟨he, hL⟩ := hD
   replace hp := el_rt hp
   obtain rfl := Option.some.inj hp
   subst he
   exact hL

@[reducible] def p_spec_l23Put (H0 : GH) (w0 : World) (Ha : GH) (L : List MO) (r : l23Search) : Ending → World → Prop :=
 fun e w' => ∃ H' : GH, ∃ v0_0 : Value, ∃ n0_0 : Nat, ∃ c0_0 : List Value, e = .returned (Value.agg #[v0_0, Value.bool r.open_, Value.int .i64 r.bits, Value.bool r.bad]) ∧ (St H0 w0 H' w' (.row 52 6 v0_0 n0_0 c0_0 :: L) ∧ Inc Ha H') ∧ Els H' eSeqStep 6 c0_0 r.steps
theorem w_spec_l23Put {H0 Ha : GH} {w0 wa : World} {L : List MO} {a0 : l23Search} {v0_0 : Value} {n0_0 : Nat} {k0_0 : List Value} (S0 : St H0 w0 Ha wa (.row 52 6 v0_0 n0_0 k0_0 :: L)) (p0_0 : Els Ha eSeqStep 6 k0_0 a0.steps) (a1 : SeqStep) (v1_0 : Value) (p1_0 : RSl Ha eS 1 v1_0 a1.seq.left) (v1_1 : Value) (p1_1 : RSl Ha eS 1 v1_1 a1.seq.right) {r : l23Search} (hp : (PF.spec_l23Put a0 a1) = some r) :
  Calls Try.prog 30 #[Value.agg #[v0_0, Value.bool a0.open_, Value.int .i64 a0.bits, Value.bool a0.bad], Value.agg #[v1_0, v1_1, Value.int .i64 a1.rule, Value.string a1.main, Value.int .i64 a1.a, Value.int .i64 a1.b]] wa (p_spec_l23Put H0 w0 Ha L r) := by
 unfold PF.spec_l23Put at hp
 refine calls_go (N := 17) (args := [Value.agg #[v0_0, Value.bool a0.open_, Value.int .i64 a0.bits, Value.bool a0.bad], Value.agg #[v1_0, v1_1, Value.int .i64 a1.rule, Value.string a1.main, Value.int .i64 a1.a, Value.int .i64 a1.b]]) Try.func30 rfl rfl rfl ?_
 refine FW.seq (FW.region ?_)
 obtain ⟨b21, w22, run23, S24⟩ := S0.box (P := Try.prog) 41 [v0_0, Value.bool a0.open_, Value.int .i64 a0.bits, Value.bool a0.bad] (v := Value.agg #[v0_0, Value.bool a0.open_, Value.int .i64 a0.bits, Value.bool a0.bad]) rfl (ones_cons (Ln.one (S0.row_ln (i := 0) rfl)) (ones_cons rfl (ones_cons rfl (ones_cons rfl ones_nil))))
 refine FL.v (E.box rfl run23) ?_
 obtain ⟨b25, w26, run27, S28⟩ := S24.box (P := Try.prog) 52 [v1_0, v1_1, Value.int .i64 a1.rule, Value.string a1.main, Value.int .i64 a1.a, Value.int .i64 a1.b] (v := Value.agg #[v1_0, v1_1, Value.int .i64 a1.rule, Value.string a1.main, Value.int .i64 a1.a, Value.int .i64 a1.b]) rfl (ones_cons p1_0.one (ones_cons p1_1.one (ones_cons rfl (ones_cons rfl (ones_cons rfl (ones_cons rfl ones_nil))))))
 refine FL.v (E.box rfl run27) ?_
 obtain ⟨H29, S30, i31, at32⟩ := S28.sealBox (i := 0) (l' := (.box b21 41 [v0_0, Value.bool a0.open_, Value.int .i64 a0.bits, Value.bool a0.bad] :: .row 52 6 v0_0 n0_0 k0_0 :: L)) rfl rfl
 obtain ⟨b33, w34, run35, S36⟩ := S30.alloc (P := Try.prog) 41 [Value.slice none 0 0, Value.bool false, Value.int .i64 0, Value.bool false] Try.zeroValue41 rfl (ones_cons rfl (ones_cons rfl (ones_cons rfl (ones_cons rfl ones_nil))))
 refine FL.v (E.alloc run35) ?_
 refine FL.nil (FW.seq (FW.region ?_))
 refine FL.v (E.fieldAddr tf41_0 rfl) ?_
 refine FL.v (E.load rfl (run_load1 Try.isAgg32 (S36.box_now (i := 1) rfl) rfl)) ?_
 refine FL.v (E.load rfl (run_loadA Try.isAgg52 Try.sizeOf52 (at32.now S36.sl) rfl)) ?_
 obtain ⟨v37, w38, run39, S40⟩ := S36.buildSlice (P := Try.prog) te32 [Value.agg #[v1_0, v1_1, Value.int .i64 a1.rule, Value.string a1.main, Value.int .i64 a1.a, Value.int .i64 a1.b]] (parts := #[(0, Value.agg #[v1_0, v1_1, Value.int .i64 a1.rule, Value.string a1.main, Value.int .i64 a1.a, Value.int .i64 a1.b])]) (cells := [v1_0, v1_1, Value.int .i64 a1.rule, Value.string a1.main, Value.int .i64 a1.a, Value.int .i64 a1.b]) rfl (szs_cons rfl szs_nil) (fc_cons rfl fc_nil) (ones_cons p1_0.one (ones_cons p1_1.one (ones_cons rfl (ones_cons rfl (ones_cons rfl (ones_cons rfl ones_nil)))))) (Nat.le_of_ble_eq_true rfl)
 have els41 : Els H29 eSeqStep 6 [v1_0, v1_1, Value.int .i64 a1.rule, Value.string a1.main, Value.int .i64 a1.a, Value.int .i64 a1.b] [a1] := (Els.snoc (H := H29) (E := eSeqStep) (k := 6) (c := [v1_0, v1_1, Value.int .i64 a1.rule, Value.string a1.main, Value.int .i64 a1.a, Value.int .i64 a1.b]) (x := a1) Els.nil rfl ⟨_, _, rfl, (p1_0.mono i31), (p1_1.mono i31)⟩)
 refine FL.v (E.buildSlice (B1 rfl) run39) ?_
 obtain ⟨xs42, hz43, hp⟩ := bnd hp
 obtain ⟨v44, w47, n45, cs46, run48, S49, els50, ce51⟩ := S40.appendO (P := Try.prog) te32 (i := 3) (j := 0) rfl (p0_0.mono i31) rfl els41 hz43
 have S49 : St H0 w0 H29 w47 (.row 52 6 v37 1 [v1_0, v1_1, Value.int .i64 a1.rule, Value.string a1.main, Value.int .i64 a1.a, Value.int .i64 a1.b] :: .box b33 41 [Value.slice none 0 0, Value.bool false, Value.int .i64 0, Value.bool false] :: .box b21 41 [v0_0, Value.bool a0.open_, Value.int .i64 a0.bits, Value.bool a0.bad] :: .row 52 6 v44 n45 cs46 :: L) := S49
 have S52 : St H0 w0 H29 w47 (.box b33 41 [Value.slice none 0 0, Value.bool false, Value.int .i64 0, Value.bool false] :: .box b21 41 [v0_0, Value.bool a0.open_, Value.int .i64 a0.bits, Value.bool a0.bad] :: .row 52 6 v44 n45 cs46 :: L) := S49.drop 0
 refine FL.v (E.append rfl rfl run48) ?_
 refine FL.v (E.fieldAddr tf41_0 rfl) ?_
 obtain ⟨w53, run54, S55⟩ := S52.store (P := Try.prog) (t := 32) (i := 1) (j := 0) (cs' := [v44, Value.bool a0.open_, Value.int .i64 a0.bits, Value.bool a0.bad]) (l' := (.box b33 41 [Value.slice none 0 0, Value.bool false, Value.int .i64 0, Value.bool false] :: .box b21 41 [v44, Value.bool a0.open_, Value.int .i64 a0.bits, Value.bool a0.bad] :: .row 52 6 v44 n45 cs46 :: L)) (v := v44) (c := [v44]) rfl Try.sizeOf32 (Ln.cells (S52.row_ln (i := 2) rfl)) rfl (ones_cons (Ln.one (S52.row_ln (i := 2) rfl)) ones_nil) (Nat.le_of_ble_eq_true rfl) rfl rfl
 refine FL.act rfl rfl (E.store rfl rfl run54) ?_
 refine FL.nil (FW.seq (FW.region ?_))
 refine FL.v (E.fieldAddr tf41_0 rfl) ?_
 refine FL.v (E.load rfl (run_load1 Try.isAgg32 (S55.box_now (i := 1) rfl) rfl)) ?_
 refine FL.v (E.lenO te32 rfl S55 (i := 2) rfl els50 (by decide)) ?_
 refine FL.v (E.gtr rfl rfl) ?_
 refine FL.v (E.fieldAddr tf41_3 rfl) ?_
 obtain ⟨w56, run57, S58⟩ := S55.store (P := Try.prog) (t := 4) (i := 1) (j := 3) (cs' := [v44, Value.bool a0.open_, Value.int .i64 a0.bits, Value.bool (decide (200 < (len xs42)))]) (l' := (.box b33 41 [Value.slice none 0 0, Value.bool false, Value.int .i64 0, Value.bool false] :: .box b21 41 [v44, Value.bool a0.open_, Value.int .i64 a0.bits, Value.bool (decide (200 < (len xs42)))] :: .row 52 6 v44 n45 cs46 :: L)) (v := Value.bool (decide (200 < (len xs42)))) (c := [Value.bool (decide (200 < (len xs42)))]) rfl Try.sizeOf4 rfl rfl (ones_cons rfl ones_nil) (Nat.le_of_ble_eq_true rfl) rfl rfl
 refine FL.act rfl rfl (E.store rfl rfl run57) ?_
 refine FL.nil (FW.seq (FW.region ?_))
 refine FL.v (E.load rfl (run_loadA Try.isAgg41 Try.sizeOf41 (S58.box_now (i := 1) rfl) rfl)) ?_
 obtain ⟨w59, run60, S61⟩ := S58.store0 (P := Try.prog) (t := 41) (i := 0) (cs' := [v44, Value.bool a0.open_, Value.int .i64 a0.bits, Value.bool (decide (200 < (len xs42)))]) (l' := (.box b33 41 [v44, Value.bool a0.open_, Value.int .i64 a0.bits, Value.bool (decide (200 < (len xs42)))] :: .box b21 41 [v44, Value.bool a0.open_, Value.int .i64 a0.bits, Value.bool (decide (200 < (len xs42)))] :: .row 52 6 v44 n45 cs46 :: L)) (v := Value.agg #[v44, Value.bool a0.open_, Value.int .i64 a0.bits, Value.bool (decide (200 < (len xs42)))]) (c := [v44, Value.bool a0.open_, Value.int .i64 a0.bits, Value.bool (decide (200 < (len xs42)))]) rfl Try.sizeOf41 rfl rfl (ones_cons (Ln.one (S58.row_ln (i := 2) rfl)) (ones_cons rfl (ones_cons rfl (ones_cons rfl ones_nil)))) (Nat.le_of_ble_eq_true rfl) rfl rfl
 refine FL.act rfl rfl (E.store rfl rfl run60) ?_
 refine FL.nil ?_
 refine FW.ret ?_
 obtain rfl := Option.some.inj hp
 exact ⟨.inr rfl, resC rfl rfl (loadVar_A Try.isAgg41 Try.sizeOf41 (S61.box_now (i := 0) rfl) rfl) ⟨_, _, _, _, rfl, ⟨(S61.selT (a := [.box b33 41 [v44, Value.bool a0.open_, Value.int .i64 a0.bits, Value.bool (decide (200 < (len xs42)))], .box b21 41 [v44, Value.bool a0.open_, Value.int .i64 a0.bits, Value.bool (decide (200 < (len xs42)))], .row 52 6 v44 n45 cs46]) (l' := [.row 52 6 v44 n45 cs46]) [2] (by decide) rfl), i31⟩, els50⟩⟩

set_option maxHeartbeats 4000000 in
theorem w_spec_l23Main {Ha : GH} {wa : World} (hs : Sl Ha wa) (a0 : Sequent) (v0_0 : Value) (p0_0 : RSl Ha eS 1 v0_0 a0.left) (v0_1 : Value) (p0_1 : RSl Ha eS 1 v0_1 a0.right) {r : (ByteArray × Bool × Bool)} (hp : (PF.spec_l23Main a0) = some r) :
  Calls Try.prog 31 #[Value.agg #[v0_0, v0_1]] wa (Sc Ha wa (Value.tuple #[Value.string r.1, Value.bool r.2.1, Value.bool r.2.2])) := by
 unfold PF.spec_l23Main at hp
 have S0 := St.init hs
 refine calls_go (N := 45) (args := [Value.agg #[v0_0, v0_1]]) Try.func31 rfl rfl rfl ?_
 refine FW.seq (FW.region ?_)
 obtain ⟨b21, w22, run23, S24⟩ := S0.box (P := Try.prog) 28 [v0_0, v0_1] (v := Value.agg #[v0_0, v0_1]) rfl (ones_cons p0_0.one (ones_cons p0_1.one ones_nil))
 refine FL.v (E.box rfl run23) ?_
 obtain ⟨H25, S26, i27, at28⟩ := S24.sealBox (i := 0) (l' := []) rfl rfl
 refine FL.v (E.assign (v := Value.string (ByteArray.mk #[])) rfl) ?_
 refine FL.v (E.assign (v := Value.bool false) rfl) ?_
 refine FL.v (E.assign (v := Value.bool false) rfl) ?_
 refine FL.nil (FW.seq (FW.seq (FW.region ?_)))
 refine FL.v (E.assign (v := Value.int .i64 0) rfl) ?_
 refine FL.nil ?_
 obtain ⟨q29, hq, hp⟩ := bndR hp
 refine FW.block ?_
 refine FW.mono (FW.iter (S := Int) (X := (ByteArray × Bool × Bool)) (fun (s29 : Int) f w => ∃ H : GH, St Ha wa H w [] ∧ Inc H25 H ∧ f 1 = Value.pointer (some ⟨b21, 0, none⟩) ∧ f 5 = Value.int .i64 s29) (fun q e f w => match q with | .go s29 => e = Exit.exit 0 ∧ (∃ H : GH, St Ha wa H w [] ∧ Inc H25 H ∧ f 1 = Value.pointer (some ⟨b21, 0, none⟩)) | .rt x => ((e = Exit.ret) ∧ (fun e f w => (e = Exit.normal ∨ e = Exit.ret) ∧ ∀ a, Fr (δ := []) 45 a f → ∃ v, (results Try.f31 a.tmps).run Try.prog w = .ok v w ∧ (Sc Ha wa (Value.tuple #[Value.string x.1, Value.bool x.2.1, Value.bool x.2.2])) (.returned v) w) e f w)) hq ⟨_, S26, (Inc.rfl _), rfl, rfl⟩ ?_) ?_
 ·
  clear hp hq
  rintro s29 f59 w58 ⟨H55, S56, i57, k60, k61⟩ o80 hp
  refine FW.seq (FW.seq (FW.region ?_))
  refine FL.v (E.move k61) ?_
  refine FL.v (E.fieldAddr tf28_0 k60) ?_
  refine FL.v (E.load rfl (run_load1 Try.isAgg22 ((at28.mono i57).now S56.sl) rfl)) ?_
  refine FL.v (E.lenP te22 rfl p0_0) ?_
  refine FL.v (E.lss rfl rfl) ?_
  refine FL.nil ?_
  rcases ifB hp with ⟨c62, hp⟩ | ⟨c62, hp⟩
  ·
   refine FW.condT rfl c62 ?_
   refine FW.skip (FW.seq (FW.block (FW.seq (FW.region ?_))))
   refine FL.v (E.fieldAddr tf28_0 k60) ?_
   refine FL.v (E.load rfl (run_load1 Try.isAgg22 ((at28.mono i57).now S56.sl) rfl)) ?_
   refine FL.v (E.move k61) ?_
   obtain ⟨x69, hx70, hp⟩ := bnd hp
   obtain ⟨p63, cs64, pt65, l66, at67, rel68⟩ := p0_0.at hx70
   obtain rfl := eS_open rel68
   refine FL.v (E.indexAddr te22 rfl rfl pt65) ?_
   refine FL.v (E.load rfl (run_load0 Try.isAgg9 ((at67.mono (i27.tr i57)).now S56.sl) rfl)) ?_
   refine FL.v (E.lenS Try.runUnderlying9 rfl) ?_
   refine FL.v (E.gtr rfl rfl) ?_
   refine FL.nil ?_
   rcases ifB hp with ⟨c71, hp⟩ | ⟨c71, hp⟩
   ·
    refine FW.condT rfl c71 ?_
    refine FW.seq (FW.region ?_)
    refine FL.v (E.fieldAddr tf28_0 k60) ?_
    refine FL.v (E.load rfl (run_load1 Try.isAgg22 ((at28.mono i57).now S56.sl) rfl)) ?_
    refine FL.v (E.move k61) ?_
    obtain ⟨x78, hx79, hp⟩ := bnd hp
    obtain ⟨p72, cs73, pt74, l75, at76, rel77⟩ := p0_0.at hx79
    obtain rfl := eS_open rel77
    refine FL.v (E.indexAddr te22 rfl rfl pt74) ?_
    refine FL.v (E.load rfl (run_load0 Try.isAgg9 ((at76.mono (i27.tr i57)).now S56.sl) rfl)) ?_
    refine FL.v (E.assign (v := Value.string x78) rfl) ?_
    refine FL.v (E.assign (v := Value.bool true) rfl) ?_
    refine FL.v (E.assign (v := Value.bool true) rfl) ?_
    refine FL.nil ?_
    refine FW.ret ?_
    obtain rfl := Option.some.inj hp
    exact ⟨nofun, rfl, ⟨.inr rfl, res3 rfl rfl rfl rfl ⟨rfl, S56.back⟩⟩⟩
   ·
    refine FW.condF rfl c71 ?_
    refine FW.skip (FW.region ?_)
    refine FL.v (E.move k61) ?_
    refine FL.v (E.add rfl rfl) ?_
    refine FL.v (E.assign (v := Value.int .i64 (wr (s29 + 1))) rfl) ?_
    refine FL.nil ?_
    obtain rfl := Option.some.inj hp
    exact ⟨rfl, ⟨_, S56, i57, k60, rfl⟩⟩
  ·
   refine FW.condF rfl c62 ?_
   refine FW.exit ?_
   obtain rfl := Option.some.inj hp
   exact ⟨nofun, rfl, ⟨_, S56, i57, k60⟩⟩
 ·
  clear hq
  intro e f85 w84 hD
  rcases q29 with s29 | x29
  ·
   obtain ⟨rfl, hD⟩ := hD
   obtain ⟨H81, S82, i83, k86⟩ := hD
   replace hp := el_go hp
   refine FW.seq (FW.seq (FW.region ?_))
   refine FL.v (E.assign (v := Value.int .i64 0) rfl) ?_
   refine FL.nil ?_
   obtain ⟨q87, hq, hp⟩ := bndR hp
   refine FW.block ?_
   refine FW.mono (FW.iter (S := Int) (X := (ByteArray × Bool × Bool)) (fun (s87 : Int) f w => ∃ H : GH, St Ha wa H w [] ∧ Inc H81 H ∧ f 1 = Value.pointer (some ⟨b21, 0, none⟩) ∧ f 6 = Value.int .i64 s87) (fun q e f w => match q with | .go s87 => e = Exit.exit 2 ∧ (∃ H : GH, St Ha wa H w [] ∧ Inc H81 H) | .rt x => ((e = Exit.ret) ∧ (fun e f w => (e = Exit.normal ∨ e = Exit.ret) ∧ ∀ a, Fr (δ := []) 45 a f → ∃ v, (results Try.f31 a.tmps).run Try.prog w = .ok v w ∧ (Sc Ha wa (Value.tuple #[Value.string x.1, Value.bool x.2.1, Value.bool x.2.2])) (.returned v) w) e f w)) hq ⟨_, S82, (Inc.rfl _), k86, rfl⟩ ?_) ?_
   ·
    clear hp hq
    rintro s87 f117 w116 ⟨H113, S114, i115, k118, k119⟩ o138 hp
    refine FW.seq (FW.seq (FW.region ?_))
    refine FL.v (E.move k119) ?_
    refine FL.v (E.fieldAddr tf28_1 k118) ?_
    refine FL.v (E.load rfl (run_load1 Try.isAgg22 ((at28.mono (i83.tr i115)).now S114.sl) rfl)) ?_
    refine FL.v (E.lenP te22 rfl p0_1) ?_
    refine FL.v (E.lss rfl rfl) ?_
    refine FL.nil ?_
    rcases ifB hp with ⟨c120, hp⟩ | ⟨c120, hp⟩
    ·
     refine FW.condT rfl c120 ?_
     refine FW.skip (FW.seq (FW.block (FW.seq (FW.region ?_))))
     refine FL.v (E.fieldAddr tf28_1 k118) ?_
     refine FL.v (E.load rfl (run_load1 Try.isAgg22 ((at28.mono (i83.tr i115)).now S114.sl) rfl)) ?_
     refine FL.v (E.move k119) ?_
     obtain ⟨x127, hx128, hp⟩ := bnd hp
     obtain ⟨p121, cs122, pt123, l124, at125, rel126⟩ := p0_1.at hx128
     obtain rfl := eS_open rel126
     refine FL.v (E.indexAddr te22 rfl rfl pt123) ?_
     refine FL.v (E.load rfl (run_load0 Try.isAgg9 ((at125.mono ((i27.tr i83).tr i115)).now S114.sl) rfl)) ?_
     refine FL.v (E.lenS Try.runUnderlying9 rfl) ?_
     refine FL.v (E.gtr rfl rfl) ?_
     refine FL.nil ?_
     rcases ifB hp with ⟨c129, hp⟩ | ⟨c129, hp⟩
     ·
      refine FW.condT rfl c129 ?_
      refine FW.seq (FW.region ?_)
      refine FL.v (E.fieldAddr tf28_1 k118) ?_
      refine FL.v (E.load rfl (run_load1 Try.isAgg22 ((at28.mono (i83.tr i115)).now S114.sl) rfl)) ?_
      refine FL.v (E.move k119) ?_
      obtain ⟨x136, hx137, hp⟩ := bnd hp
      obtain ⟨p130, cs131, pt132, l133, at134, rel135⟩ := p0_1.at hx137
      obtain rfl := eS_open rel135
      refine FL.v (E.indexAddr te22 rfl rfl pt132) ?_
      refine FL.v (E.load rfl (run_load0 Try.isAgg9 ((at134.mono ((i27.tr i83).tr i115)).now S114.sl) rfl)) ?_
      refine FL.v (E.assign (v := Value.string x136) rfl) ?_
      refine FL.v (E.assign (v := Value.bool false) rfl) ?_
      refine FL.v (E.assign (v := Value.bool true) rfl) ?_
      refine FL.nil ?_
      refine FW.ret ?_
      obtain rfl := Option.some.inj hp
      exact ⟨nofun, rfl, ⟨.inr rfl, res3 rfl rfl rfl rfl ⟨rfl, S114.back⟩⟩⟩
     ·
      refine FW.condF rfl c129 ?_
      refine FW.skip (FW.region ?_)
      refine FL.v (E.move k119) ?_
      refine FL.v (E.add rfl rfl) ?_
      refine FL.v (E.assign (v := Value.int .i64 (wr (s87 + 1))) rfl) ?_
      refine FL.nil ?_
      obtain rfl := Option.some.inj hp
      exact ⟨rfl, ⟨_, S114, i115, k118, rfl⟩⟩
    ·
     refine FW.condF rfl c120 ?_
     refine FW.exit ?_
     obtain rfl := Option.some.inj hp
     exact ⟨nofun, rfl, ⟨_, S114, i115⟩⟩
   ·
    clear hq
    intro e f143 w142 hD
    rcases q87 with s87 | x87
    ·
     obtain ⟨rfl, hD⟩ := hD
     obtain ⟨H139, S140, i141⟩ := hD
     replace hp := el_go hp
     refine FW.seq (FW.region ?_)
     refine FL.v (E.assign (v := Value.string (ByteArray.mk #[])) rfl) ?_
     refine FL.v (E.assign (v := Value.bool false) rfl) ?_
     refine FL.v (E.assign (v := Value.bool false) rfl) ?_
     refine FL.nil ?_
     refine FW.ret ?_
     obtain rfl := Option.some.inj hp
     exact ⟨.inr rfl, res3 rfl rfl rfl rfl ⟨rfl, S140.back⟩⟩
    ·
     obtain ⟨he, hL⟩ := hD
     replace hp := el_rt hp
     obtain rfl := Option.some.inj hp
     subst he
     exact hL
  ·
   obtain ⟨he, hL⟩ := hD
   replace hp := el_rt hp
   obtain rfl := Option.some.inj hp
   subst he
   exact hL

theorem w_spec_l22Letter {Ha : GH} {wa : World} (hs : Sl Ha wa) (a0 : ByteArray) {r : Bool} (hp : (PF.spec_l22Letter a0) = some r) :
  Calls Try.prog 43 #[Value.string a0] wa (Sc Ha wa (Value.bool r)) := by
 unfold PF.spec_l22Letter at hp
 have S0 := St.init hs
 refine calls_go (N := 16) (args := [Value.string a0]) Try.func43 rfl rfl rfl ?_
 refine FW.seq (FW.region ?_)
 refine FL.v (E.assign (v := Value.bool false) rfl) ?_
 refine FL.nil (FW.seq (FW.region ?_))
 refine FL.v (E.move (v := Value.string a0) rfl) ?_
 refine FL.v (E.lenS Try.runUnderlying9 rfl) ?_
 refine FL.v (E.eql rfl rfl) ?_
 refine FL.v (E.move (v := Value.bool ((a0.size : Int) == 1)) rfl) ?_
 obtain ⟨t23, hqt23, hp⟩ := bnd hp
 refine FL.cut 4 (fun f w => ∃ H : GH, St Ha wa H w [] ∧ Inc Ha H ∧ f 0 = Value.string a0 ∧ f 10 = Value.bool t23) ?_ ?_
 ·
  clear hp; have hp := hqt23; clear hqt23
  rcases ifB hp with ⟨c29, hp⟩ | ⟨c29, hp⟩
  ·
   refine FL.val (wF_yes rfl rfl rfl c29) rfl rfl (E.move (v := Value.string a0) rfl) ?_
   obtain ⟨z30, h31, hp⟩ := bnd hp
   refine FL.val (wF_yes rfl rfl rfl c29) rfl rfl (E.ixS Try.runUnderlying9 rfl rfl h31) ?_
   refine FL.val (wF_yes rfl rfl rfl c29) rfl rfl (E.geq rfl rfl) ?_
   obtain rfl := Option.some.inj hp
   refine FL.v (E.pickT rfl c29 rfl) ?_
   exact FL.nil ⟨rfl, _, S0, (Inc.rfl _), rfl, rfl⟩
  ·
   refine FL.skip (wF_no rfl rfl rfl c29) rfl ?_
   refine FL.skip (wF_no rfl rfl rfl c29) rfl ?_
   refine FL.skip (wF_no rfl rfl rfl c29) rfl ?_
   obtain rfl := Option.some.inj hp
   refine FL.v (E.pickF rfl c29 rfl) ?_
   exact FL.nil ⟨rfl, _, S0, (Inc.rfl _), rfl, rfl⟩
 rintro f28 w27 ⟨H24, S25, i26, k32, k33⟩
 refine FL.v (E.move k33) ?_
 obtain ⟨t36, hqt36, hp⟩ := bnd hp
 refine FL.cut 4 (fun f w => ∃ H : GH, St Ha wa H w [] ∧ Inc H24 H ∧ f 15 = Value.bool t36) ?_ ?_
 ·
  clear hp; have hp := hqt36; clear hqt36
  rcases ifB hp with ⟨c42, hp⟩ | ⟨c42, hp⟩
  ·
   refine FL.val (wF_yes rfl rfl rfl c42) rfl rfl (E.move k32) ?_
   obtain ⟨z43, h44, hp⟩ := bnd hp
   refine FL.val (wF_yes rfl rfl rfl c42) rfl rfl (E.ixS Try.runUnderlying9 rfl rfl h44) ?_
   refine FL.val (wF_yes rfl rfl rfl c42) rfl rfl (E.leq rfl rfl) ?_
   obtain rfl := Option.some.inj hp
   refine FL.v (E.pickT rfl c42 rfl) ?_
   exact FL.nil ⟨rfl, _, S25, (Inc.rfl _), rfl⟩
  ·
   refine FL.skip (wF_no rfl rfl rfl c42) rfl ?_
   refine FL.skip (wF_no rfl rfl rfl c42) rfl ?_
   refine FL.skip (wF_no rfl rfl rfl c42) rfl ?_
   obtain rfl := Option.some.inj hp
   refine FL.v (E.pickF rfl c42 rfl) ?_
   exact FL.nil ⟨rfl, _, S25, (Inc.rfl _), rfl⟩
 rintro f41 w40 ⟨H37, S38, i39, k45⟩
 refine FL.v (E.assign k45) ?_
 refine FL.nil ?_
 refine FW.ret ?_
 obtain rfl := Option.some.inj hp
 exact ⟨.inr rfl, res1 rfl rfl ⟨rfl, S38.back⟩⟩

set_option maxHeartbeats 4000000 in
theorem w_spec_l23Open {Ha : GH} {wa : World} (hs : Sl Ha wa) (v0 : Value) (a0 : List ByteArray) (p0 : RSl Ha eS 1 v0 a0) {r : Int} (hp : (PF.spec_l23Open a0) = some r) :
  Calls Try.prog 32 #[v0] wa (Sc Ha wa (Value.int .i64 r)) := by
 unfold PF.spec_l23Open at hp
 have S0 := St.init hs
 refine calls_go (N := 26) (args := [v0]) Try.func32 rfl rfl rfl ?_
 refine FW.seq (FW.region ?_)
 refine FL.v (E.assign (v := Value.int .i64 0) rfl) ?_
 refine FL.nil (FW.seq (FW.region ?_))
 refine FL.v (E.assign (v := Value.int .i64 0) rfl) ?_
 refine FL.nil (FW.seq (FW.seq (FW.region ?_)))
 refine FL.v (E.assign (v := Value.int .i64 0) rfl) ?_
 refine FL.nil ?_
 obtain ⟨q22, hq, hp⟩ := bndR hp
 refine FW.block ?_
 refine FW.mono (FW.forL (S := Int) (X := Empty) (fun (i22 : Nat) (s22 : Int) f w => ∃ H : GH, St Ha wa H w [] ∧ Inc Ha H ∧ f 4 = Value.int .i64 ((i22 : Nat) : Int) ∧ f 0 = v0 ∧ f 3 = Value.int .i64 s22) (fun (q : Rs Int Empty) e f w => match q with | .go s22 => e = Exit.exit 0 ∧ (∃ H : GH, St Ha wa H w [] ∧ Inc Ha H ∧ f 3 = Value.int .i64 s22) | .rt x => x.elim) hq ⟨_, S0, (Inc.rfl _), rfl, rfl, rfl⟩ ?_ ?_) ?_
 ·
  clear hp hq
  rintro i22 y21 s22 f57 w56 ⟨H53, S54, i55, k58, k59, k60⟩ hx22 o83 hp
  refine FW.seq (FW.seq (FW.region ?_))
  refine FL.v (E.move k58) ?_
  refine FL.v (E.move k59) ?_
  refine FL.v (E.lenP te22 rfl p0) ?_
  refine FL.v (E.lssT rfl rfl (lss_len hx22)) ?_
  refine FL.nil ?_
  refine FW.condT rfl rfl ?_
  refine FW.skip (FW.seq (FW.block (FW.seq (FW.region ?_))))
  refine FL.v (E.move k59) ?_
  refine FL.v (E.move k58) ?_
  obtain ⟨p61, cs62, pt63, l64, at65, rel66⟩ := p0.at (ix_nat hx22)
  obtain rfl := eS_open rel66
  refine FL.v (E.indexAddr te22 rfl rfl pt63) ?_
  refine FL.v (E.load rfl (run_load0 Try.isAgg9 ((at65.mono i55).now S54.sl) rfl)) ?_
  obtain ⟨r67, hr68, hp⟩ := bnd hp
  refine FL.call rfl rfl rfl (E.call Try.call43 (A1 rfl)) (w_spec_l22Letter S54.sl y21 hr68) ?_
  rintro e w69 ⟨rfl, r70⟩
  refine ⟨_, rfl, ?_⟩
  have S71 := S54.call r70
  refine FL.nil ?_
  rcases ifB hp with ⟨c72, hp⟩ | ⟨c72, hp⟩
  ·
   refine FW.condT rfl c72 ?_
   refine FW.region ?_
   refine FL.v (E.move k60) ?_
   refine FL.v (E.move k59) ?_
   refine FL.v (E.move k58) ?_
   obtain ⟨p73, cs74, pt75, l76, at77, rel78⟩ := p0.at (ix_nat hx22)
   obtain rfl := eS_open rel78
   refine FL.v (E.indexAddr te22 rfl rfl pt75) ?_
   refine FL.v (E.load rfl (run_load0 Try.isAgg9 ((at77.mono i55).now S71.sl) rfl)) ?_
   obtain ⟨z79, h80, hp⟩ := bnd hp
   refine FL.v (E.ixS Try.runUnderlying9 rfl rfl h80) ?_
   refine FL.v (E.subK rfl rfl) ?_
   obtain ⟨u82, z81, hp⟩ := bnd hp
   refine FL.v (E.shl rfl rfl (nn_ge z81)) ?_
   refine FL.v (E.or rfl rfl) ?_
   refine FL.v (E.assign (v := Value.int .i64 (orK true 64 s22 (shlK true 64 1 (wrk false 8 (z79 - 97))))) rfl) ?_
   refine FL.nil (FW.region ?_)
   refine FL.v (E.move k58) ?_
   refine FL.v (E.add rfl rfl) ?_
   refine FL.v (E.assign (v := Value.int .i64 (wr (((i22 : Nat) : Int) + 1))) rfl) ?_
   refine FL.nil ?_
   obtain rfl := Option.some.inj hp
   exact ⟨rfl, ⟨_, S71, i55, (nat_succ rfl (lt_of_get hx22) (p0.mono i55).le), k59, rfl⟩⟩
  ·
   refine FW.condF rfl c72 ?_
   refine FW.skip (FW.region ?_)
   refine FL.v (E.move k58) ?_
   refine FL.v (E.add rfl rfl) ?_
   refine FL.v (E.assign (v := Value.int .i64 (wr (((i22 : Nat) : Int) + 1))) rfl) ?_
   refine FL.nil ?_
   obtain rfl := Option.some.inj hp
   exact ⟨rfl, ⟨_, S71, i55, (nat_succ rfl (lt_of_get hx22) (p0.mono i55).le), k59, k60⟩⟩
 ·
  clear hp hq
  rintro s22 f94 w93 ⟨H90, S91, i92, k95, k96, k97⟩
  refine FW.seq (FW.seq (FW.region ?_))
  refine FL.v (E.move k95) ?_
  refine FL.v (E.move k96) ?_
  refine FL.v (E.lenP te22 rfl p0) ?_
  refine FL.v (E.lss rfl rfl) ?_
  refine FL.nil ?_
  refine FW.condF rfl dlt_len ?_
  refine FW.exit ?_
  exact ⟨nofun, rfl, ⟨_, S91, i92, k97⟩⟩
 ·
  clear hq
  intro e f88 w87 hD
  rcases q22 with s22 | x22
  ·
   obtain ⟨rfl, hD⟩ := hD
   obtain ⟨H84, S85, i86, k89⟩ := hD
   replace hp := el_go hp
   refine FW.seq (FW.region ?_)
   refine FL.v (E.move k89) ?_
   refine FL.v (E.assign (v := Value.int .i64 s22) rfl) ?_
   refine FL.nil ?_
   refine FW.ret ?_
   obtain rfl := Option.some.inj hp
   exact ⟨.inr rfl, res1 rfl rfl ⟨rfl, S85.back⟩⟩
  ·
   exact x22.elim

theorem w_spec_l22Parts {Ha : GH} {wa : World} (hs : Sl Ha wa) (a0 : ByteArray) {r : (Int × ByteArray × ByteArray)} (hp : (PF.spec_l22Parts a0) = some r) :
  Calls Try.prog 44 #[Value.string a0] wa (Sc Ha wa (Value.tuple #[Value.int .u8 r.1, Value.string r.2.1, Value.string r.2.2])) := by
 unfold PF.spec_l22Parts at hp
 have S0 := St.init hs
 refine calls_go (N := 31) (args := [Value.string a0]) Try.func44 rfl rfl rfl ?_
 refine FW.seq (FW.region ?_)
 refine FL.v (E.assign (v := Value.int .u8 0) rfl) ?_
 refine FL.v (E.assign (v := Value.string (ByteArray.mk #[])) rfl) ?_
 refine FL.v (E.assign (v := Value.string (ByteArray.mk #[])) rfl) ?_
 refine FL.nil (FW.seq (FW.seq (FW.region ?_)))
 refine FL.v (E.move (v := Value.string a0) rfl) ?_
 obtain ⟨z21, h22, hp⟩ := bnd hp
 refine FL.v (E.ixS Try.runUnderlying9 rfl rfl h22) ?_
 refine FL.v (E.eql rfl rfl) ?_
 refine FL.nil ?_
 rcases ifB hp with ⟨c23, hp⟩ | ⟨c23, hp⟩
 ·
  refine FW.condT rfl c23 ?_
  refine FW.seq ?_
  refine FW.draw (fun w' => Run wa.heap.size Ha wa Ha w') (by kernel_rfl) (by kernel_rfl) (run_drew S0.sl) ?_
  refine FD.val rfl rfl rfl (fun w' hw' => (E.move (v := Value.string a0) rfl)) ?_
  obtain ⟨z25, h26, hp⟩ := bnd hp
  refine FD.val rfl rfl rfl (fun w' hw' => (E.cutS (kl := .i64) (kh := .i64) Try.underlying9 rfl (.inr ⟨_, rfl, rfl⟩) (.inl ⟨rfl, rfl⟩) h26)) ?_
  refine FD.val rfl rfl rfl (fun w' hw' => (E.assign (v := Value.int .u8 126) rfl)) ?_
  refine FD.val rfl rfl rfl (fun w' hw' => (E.assign (v := Value.string z25) rfl)) ?_
  refine FD.val rfl rfl rfl (fun w' hw' => (E.assign (v := Value.string (ByteArray.mk #[])) rfl)) ?_
  refine FD.nil ?_
  intro w27 r29
  have S28 := S0.call r29
  refine FW.ret ?_
  obtain rfl := Option.some.inj hp
  exact ⟨.inr rfl, res3 rfl rfl rfl rfl ⟨rfl, S28.back⟩⟩
 ·
  refine FW.condF rfl c23 ?_
  refine FW.skip (FW.seq (FW.seq (FW.region ?_)))
  refine FL.v (E.move (v := Value.string a0) rfl) ?_
  obtain ⟨z30, h31, hp⟩ := bnd hp
  refine FL.v (E.ixS Try.runUnderlying9 rfl rfl h31) ?_
  refine FL.v (E.neq rfl rfl) ?_
  refine FL.nil ?_
  rcases ifB hp with ⟨c32, hp⟩ | ⟨c32, hp⟩
  ·
   refine FW.condT rfl c32 ?_
   refine FW.seq (FW.region ?_)
   refine FL.v (E.move (v := Value.string a0) rfl) ?_
   obtain ⟨z33, h34, hp⟩ := bnd hp
   refine FL.v (E.ixS Try.runUnderlying9 rfl rfl h34) ?_
   refine FL.v (E.assign (v := Value.int .u8 z33) rfl) ?_
   refine FL.v (E.assign (v := Value.string (ByteArray.mk #[])) rfl) ?_
   refine FL.v (E.assign (v := Value.string (ByteArray.mk #[])) rfl) ?_
   refine FL.nil ?_
   refine FW.ret ?_
   obtain rfl := Option.some.inj hp
   exact ⟨.inr rfl, res3 rfl rfl rfl rfl ⟨rfl, S0.back⟩⟩
  ·
   refine FW.condF rfl c32 ?_
   refine FW.skip (FW.seq (FW.region ?_))
   refine FL.v (E.move (v := Value.string a0) rfl) ?_
   obtain ⟨r35, hr36, hp⟩ := bnd hp
   refine FL.call rfl rfl rfl (E.call Try.call56 (A2 rfl rfl)) (w_spec_l22End S0.sl a0 1 hr36) ?_
   rintro e w37 ⟨rfl, r38⟩
   refine ⟨_, rfl, ?_⟩
   have S39 := S0.call r38
   refine FL.v (E.assign (v := Value.int .i64 r35) rfl) ?_
   refine FL.nil (FW.seq ?_)
   refine FW.draw (fun w' => Run w37.heap.size Ha w37 Ha w') (by kernel_rfl) (by kernel_rfl) (run_drew S39.sl) ?_
   refine FD.val rfl rfl rfl (fun w' hw' => (E.move (v := Value.string a0) rfl)) ?_
   refine FD.val rfl rfl rfl (fun w' hw' => (E.move (v := Value.int .i64 r35) rfl)) ?_
   obtain ⟨z41, h42, hp⟩ := bnd hp
   refine FD.val rfl rfl rfl (fun w' hw' => (E.ixS Try.runUnderlying9 rfl rfl h42)) ?_
   refine FD.val rfl rfl rfl (fun w' hw' => (E.move (v := Value.string a0) rfl)) ?_
   refine FD.val rfl rfl rfl (fun w' hw' => (E.move (v := Value.int .i64 r35) rfl)) ?_
   obtain ⟨z43, h44, hp⟩ := bnd hp
   refine FD.val rfl rfl rfl (fun w' hw' => (E.cutS (kl := .i64) (kh := .i64) Try.underlying9 rfl (.inr ⟨_, rfl, rfl⟩) (.inr ⟨_, rfl, rfl⟩) h44)) ?_
   refine FD.val rfl rfl rfl (fun w' hw' => (E.move (v := Value.string a0) rfl)) ?_
   refine FD.val rfl rfl rfl (fun w' hw' => (E.move (v := Value.int .i64 r35) rfl)) ?_
   refine FD.val rfl rfl rfl (fun w' hw' => (E.add rfl rfl)) ?_
   refine FD.val rfl rfl rfl (fun w' hw' => (E.move (v := Value.string a0) rfl)) ?_
   refine FD.val rfl rfl rfl (fun w' hw' => (E.lenS Try.runUnderlying9 rfl)) ?_
   refine FD.val rfl rfl rfl (fun w' hw' => (E.sub rfl rfl)) ?_
   obtain ⟨z45, h46, hp⟩ := bnd hp
   refine FD.val rfl rfl rfl (fun w' hw' => (E.cutS (kl := .i64) (kh := .i64) Try.underlying9 rfl (.inr ⟨_, rfl, rfl⟩) (.inr ⟨_, rfl, rfl⟩) h46)) ?_
   refine FD.val rfl rfl rfl (fun w' hw' => (E.assign (v := Value.int .u8 z41) rfl)) ?_
   refine FD.val rfl rfl rfl (fun w' hw' => (E.assign (v := Value.string z43) rfl)) ?_
   refine FD.val rfl rfl rfl (fun w' hw' => (E.assign (v := Value.string z45) rfl)) ?_
   refine FD.nil ?_
   intro w47 r49
   have S48 := S39.call r49
   refine FW.ret ?_
   obtain rfl := Option.some.inj hp
   exact ⟨.inr rfl, res3 rfl rfl rfl rfl ⟨rfl, S48.back⟩⟩

set_option maxHeartbeats 4000000 in
theorem w_spec_l23Rule {Ha : GH} {wa : World} (hs : Sl Ha wa) (a0 : ByteArray) (a1 : Bool) {r : Int} (hp : (PF.spec_l23Rule a0 a1) = some r) :
  Calls Try.prog 33 #[Value.string a0, Value.bool a1] wa (Sc Ha wa (Value.int .i64 r)) := by
 unfold PF.spec_l23Rule at hp
 have S0 := St.init hs
 refine calls_go (N := 29) (args := [Value.string a0, Value.bool a1]) Try.func33 rfl rfl rfl ?_
 refine FW.seq (FW.region ?_)
 refine FL.v (E.assign (v := Value.int .i64 0) rfl) ?_
 refine FL.nil (FW.seq (FW.region ?_))
 refine FL.v (E.move (v := Value.string a0) rfl) ?_
 obtain ⟨r21, hr22, hp⟩ := bnd hp
 refine FL.call rfl rfl rfl (E.call Try.call44 (A1 rfl)) (w_spec_l22Parts S0.sl a0 hr22) ?_
 rintro e w23 ⟨rfl, r24⟩
 refine ⟨_, rfl, ?_⟩
 have S25 := S0.call r24
 refine FL.v (E.move (v := Value.tuple #[Value.int .u8 r21.1, Value.string r21.2.1, Value.string r21.2.2]) rfl) ?_
 refine FL.v (E.extract (i := 0) rfl rfl) ?_
 refine FL.v (E.extract (i := 1) rfl rfl) ?_
 refine FL.v (E.extract (i := 2) rfl rfl) ?_
 refine FL.v (E.assign (v := Value.int .u8 r21.1) rfl) ?_
 refine FL.v (E.assign (v := Value.string r21.2.1) rfl) ?_
 refine FL.v (E.assign (v := Value.string r21.2.2) rfl) ?_
 refine FL.nil (FW.seq (FW.region ?_))
 refine FL.v (E.assign (v := Value.int .i64 0) rfl) ?_
 refine FL.nil (FW.seq (FW.seq (FW.region ?_)))
 refine FL.v (E.move (v := Value.int .u8 r21.1) rfl) ?_
 refine FL.nil (FW.block (FW.seq (FW.region ?_)))
 refine FL.v (E.eql rfl rfl) ?_
 refine FL.v (E.assign (v := Value.bool (r21.1 == 126)) rfl) ?_
 refine FL.nil ?_
 rcases ifB hp with ⟨c26, hp⟩ | ⟨c26, hp⟩
 ·
  refine FW.condT rfl c26 ?_
  refine FW.region ?_
  refine FL.v (E.assign (v := Value.int .i64 2) rfl) ?_
  refine FL.nil (FW.seq (FW.seq (FW.region ?_)))
  refine FL.v (E.move (v := Value.bool a1) rfl) ?_
  refine FL.v (E.not rfl) ?_
  refine FL.nil ?_
  rcases ifB hp with ⟨c27, hp⟩ | ⟨c27, hp⟩
  ·
   refine FW.condT rfl c27 ?_
   refine FW.region ?_
   refine FL.v (E.move (v := Value.int .i64 2) rfl) ?_
   refine FL.v (E.add rfl rfl) ?_
   refine FL.v (E.assign (v := Value.int .i64 (wr (2 + 1))) rfl) ?_
   refine FL.nil (FW.seq (FW.region ?_))
   refine FL.v (E.move (v := Value.int .i64 (wr (2 + 1))) rfl) ?_
   refine FL.v (E.assign (v := Value.int .i64 (wr (2 + 1))) rfl) ?_
   refine FL.nil ?_
   refine FW.ret ?_
   obtain rfl := Option.some.inj hp
   exact ⟨.inr rfl, res1 rfl rfl ⟨rfl, S25.back⟩⟩
  ·
   refine FW.condF rfl c27 ?_
   refine FW.skip (FW.seq (FW.region ?_))
   refine FL.v (E.move (v := Value.int .i64 2) rfl) ?_
   refine FL.v (E.assign (v := Value.int .i64 2) rfl) ?_
   refine FL.nil ?_
   refine FW.ret ?_
   obtain rfl := Option.some.inj hp
   exact ⟨.inr rfl, res1 rfl rfl ⟨rfl, S25.back⟩⟩
 ·
  refine FW.condF rfl c26 ?_
  refine FW.seq (FW.region ?_)
  refine FL.v (E.eql rfl rfl) ?_
  refine FL.v (E.assign (v := Value.bool (r21.1 == 38)) rfl) ?_
  refine FL.nil ?_
  rcases ifB hp with ⟨c28, hp⟩ | ⟨c28, hp⟩
  ·
   refine FW.condT rfl c28 ?_
   refine FW.region ?_
   refine FL.v (E.assign (v := Value.int .i64 4) rfl) ?_
   refine FL.nil (FW.seq (FW.seq (FW.region ?_)))
   refine FL.v (E.move (v := Value.bool a1) rfl) ?_
   refine FL.v (E.not rfl) ?_
   refine FL.nil ?_
   rcases ifB hp with ⟨c29, hp⟩ | ⟨c29, hp⟩
   ·
    refine FW.condT rfl c29 ?_
    refine FW.region ?_
    refine FL.v (E.move (v := Value.int .i64 4) rfl) ?_
    refine FL.v (E.add rfl rfl) ?_
    refine FL.v (E.assign (v := Value.int .i64 (wr (4 + 1))) rfl) ?_
    refine FL.nil (FW.seq (FW.region ?_))
    refine FL.v (E.move (v := Value.int .i64 (wr (4 + 1))) rfl) ?_
    refine FL.v (E.assign (v := Value.int .i64 (wr (4 + 1))) rfl) ?_
    refine FL.nil ?_
    refine FW.ret ?_
    obtain rfl := Option.some.inj hp
    exact ⟨.inr rfl, res1 rfl rfl ⟨rfl, S25.back⟩⟩
   ·
    refine FW.condF rfl c29 ?_
    refine FW.skip (FW.seq (FW.region ?_))
    refine FL.v (E.move (v := Value.int .i64 4) rfl) ?_
    refine FL.v (E.assign (v := Value.int .i64 4) rfl) ?_
    refine FL.nil ?_
    refine FW.ret ?_
    obtain rfl := Option.some.inj hp
    exact ⟨.inr rfl, res1 rfl rfl ⟨rfl, S25.back⟩⟩
  ·
   refine FW.condF rfl c28 ?_
   refine FW.seq (FW.region ?_)
   refine FL.v (E.eql rfl rfl) ?_
   refine FL.v (E.assign (v := Value.bool (r21.1 == 124)) rfl) ?_
   refine FL.nil ?_
   rcases ifB hp with ⟨c30, hp⟩ | ⟨c30, hp⟩
   ·
    refine FW.condT rfl c30 ?_
    refine FW.region ?_
    refine FL.v (E.assign (v := Value.int .i64 6) rfl) ?_
    refine FL.nil (FW.seq (FW.seq (FW.region ?_)))
    refine FL.v (E.move (v := Value.bool a1) rfl) ?_
    refine FL.v (E.not rfl) ?_
    refine FL.nil ?_
    rcases ifB hp with ⟨c31, hp⟩ | ⟨c31, hp⟩
    ·
     refine FW.condT rfl c31 ?_
     refine FW.region ?_
     refine FL.v (E.move (v := Value.int .i64 6) rfl) ?_
     refine FL.v (E.add rfl rfl) ?_
     refine FL.v (E.assign (v := Value.int .i64 (wr (6 + 1))) rfl) ?_
     refine FL.nil (FW.seq (FW.region ?_))
     refine FL.v (E.move (v := Value.int .i64 (wr (6 + 1))) rfl) ?_
     refine FL.v (E.assign (v := Value.int .i64 (wr (6 + 1))) rfl) ?_
     refine FL.nil ?_
     refine FW.ret ?_
     obtain rfl := Option.some.inj hp
     exact ⟨.inr rfl, res1 rfl rfl ⟨rfl, S25.back⟩⟩
    ·
     refine FW.condF rfl c31 ?_
     refine FW.skip (FW.seq (FW.region ?_))
     refine FL.v (E.move (v := Value.int .i64 6) rfl) ?_
     refine FL.v (E.assign (v := Value.int .i64 6) rfl) ?_
     refine FL.nil ?_
     refine FW.ret ?_
     obtain rfl := Option.some.inj hp
     exact ⟨.inr rfl, res1 rfl rfl ⟨rfl, S25.back⟩⟩
   ·
    refine FW.condF rfl c30 ?_
    refine FW.seq (FW.region ?_)
    refine FL.v (E.eql rfl rfl) ?_
    refine FL.v (E.assign (v := Value.bool (r21.1 == 62)) rfl) ?_
    refine FL.nil ?_
    rcases ifB hp with ⟨c32, hp⟩ | ⟨c32, hp⟩
    ·
     refine FW.condT rfl c32 ?_
     refine FW.region ?_
     refine FL.v (E.assign (v := Value.int .i64 8) rfl) ?_
     refine FL.nil (FW.seq (FW.seq (FW.region ?_)))
     refine FL.v (E.move (v := Value.bool a1) rfl) ?_
     refine FL.v (E.not rfl) ?_
     refine FL.nil ?_
     rcases ifB hp with ⟨c33, hp⟩ | ⟨c33, hp⟩
     ·
      refine FW.condT rfl c33 ?_
      refine FW.region ?_
      refine FL.v (E.move (v := Value.int .i64 8) rfl) ?_
      refine FL.v (E.add rfl rfl) ?_
      refine FL.v (E.assign (v := Value.int .i64 (wr (8 + 1))) rfl) ?_
      refine FL.nil (FW.seq (FW.region ?_))
      refine FL.v (E.move (v := Value.int .i64 (wr (8 + 1))) rfl) ?_
      refine FL.v (E.assign (v := Value.int .i64 (wr (8 + 1))) rfl) ?_
      refine FL.nil ?_
      refine FW.ret ?_
      obtain rfl := Option.some.inj hp
      exact ⟨.inr rfl, res1 rfl rfl ⟨rfl, S25.back⟩⟩
     ·
      refine FW.condF rfl c33 ?_
      refine FW.skip (FW.seq (FW.region ?_))
      refine FL.v (E.move (v := Value.int .i64 8) rfl) ?_
      refine FL.v (E.assign (v := Value.int .i64 8) rfl) ?_
      refine FL.nil ?_
      refine FW.ret ?_
      obtain rfl := Option.some.inj hp
      exact ⟨.inr rfl, res1 rfl rfl ⟨rfl, S25.back⟩⟩
    ·
     refine FW.condF rfl c32 ?_
     refine FW.seq (FW.region ?_)
     refine FL.v (E.assign (v := Value.int .i64 0) rfl) ?_
     refine FL.nil ?_
     refine FW.ret ?_
     obtain rfl := Option.some.inj hp
     exact ⟨.inr rfl, res1 rfl rfl ⟨rfl, S25.back⟩⟩

@[reducible] def p_spec_l23Without (Ha : GH) (wa : World) (r : (List ByteArray)) : Ending → World → Prop :=
 fun e w' => ∃ H' : GH, ∃ v0 : Value, ∃ n0 : Nat, ∃ c0 : List Value, e = .returned (v0) ∧ St Ha wa H' w' [.row 9 1 v0 n0 c0] ∧ Els (up wa.heap.size H') eS 1 c0 r
set_option maxHeartbeats 4000000 in
theorem w_spec_l23Without {Ha : GH} {wa : World} (hs : Sl Ha wa) (v0 : Value) (a0 : List ByteArray) (p0 : RSl Ha eS 1 v0 a0) (a1 : ByteArray) {r : (List ByteArray)} (hp : (PF.spec_l23Without a0 a1) = some r) :
  Calls Try.prog 45 #[v0, Value.string a1] wa (p_spec_l23Without Ha wa r) := by
 unfold PF.spec_l23Without at hp
 have S0 := St.init hs
 refine calls_go (N := 28) (args := [v0, Value.string a1]) Try.func45 rfl rfl rfl ?_
 refine FW.seq (FW.region ?_)
 refine FL.v (E.assign (v := Value.slice none 0 0) rfl) ?_
 refine FL.nil (FW.seq (FW.region ?_))
 obtain ⟨v21, w22, run23, S24⟩ := S0.buildSlice (P := Try.prog) te22 [] (parts := #[]) (cells := []) rfl szs_nil fc_nil ones_nil (Nat.le_of_ble_eq_true rfl)
 have els25 : Els (up wa.heap.size Ha) eS 1 [] [] := Els.nil
 refine FL.v (E.buildSlice (B0) run23) ?_
 refine FL.v (E.assign (v := v21) rfl) ?_
 refine FL.nil (FW.seq (FW.seq (FW.region ?_)))
 refine FL.v (E.assign (v := Value.int .i64 0) rfl) ?_
 refine FL.nil ?_
 obtain ⟨q27, hq, hp⟩ := bndR hp
 refine FW.block ?_
 refine FW.mono (FW.forL (S := (List ByteArray)) (X := Empty) (fun (i27 : Nat) (s27 : (List ByteArray)) f w => ∃ H : GH, ∃ v28 : Value, ∃ n29 : Nat, ∃ cs30 : List Value, St Ha wa H w [.row 9 1 v28 n29 cs30] ∧ Inc Ha H ∧ Els (up wa.heap.size H) eS 1 cs30 s27 ∧ f 6 = Value.int .i64 ((i27 : Nat) : Int) ∧ f 0 = v0 ∧ f 1 = Value.string a1 ∧ f 5 = v28) (fun (q : Rs (List ByteArray) Empty) e f w => match q with | .go s27 => e = Exit.exit 0 ∧ (∃ H : GH, ∃ v28 : Value, ∃ n29 : Nat, ∃ cs30 : List Value, St Ha wa H w [.row 9 1 v28 n29 cs30] ∧ Inc Ha H ∧ Els (up wa.heap.size H) eS 1 cs30 s27 ∧ f 5 = v28) | .rt x => x.elim) hq ⟨_, _, _, _, S24, (Inc.rfl _), els25, rfl, rfl, rfl, rfl⟩ ?_ ?_) ?_
 ·
  clear hp hq
  rintro i27 y26 s27 f74 w73 ⟨H70, v28, n29, cs30, S71, i72, els31, k75, k76, k77, k78⟩ hx27 o108 hp
  refine FW.seq (FW.seq (FW.region ?_))
  refine FL.v (E.move k75) ?_
  refine FL.v (E.move k76) ?_
  refine FL.v (E.lenP te22 rfl p0) ?_
  refine FL.v (E.lssT rfl rfl (lss_len hx27)) ?_
  refine FL.nil ?_
  refine FW.condT rfl rfl ?_
  refine FW.skip (FW.seq (FW.block (FW.seq (FW.region ?_))))
  refine FL.v (E.move k76) ?_
  refine FL.v (E.move k75) ?_
  obtain ⟨p79, cs80, pt81, l82, at83, rel84⟩ := p0.at (ix_nat hx27)
  obtain rfl := eS_open rel84
  refine FL.v (E.indexAddr te22 rfl rfl pt81) ?_
  refine FL.v (E.load rfl (run_load0 Try.isAgg9 ((at83.mono i72).now S71.sl) rfl)) ?_
  refine FL.v (E.move k77) ?_
  refine FL.v (E.neqS rfl rfl) ?_
  refine FL.nil ?_
  rcases ifB hp with ⟨c85, hp⟩ | ⟨c85, hp⟩
  ·
   refine FW.condT rfl c85 ?_
   refine FW.region ?_
   refine FL.v (E.move k78) ?_
   refine FL.v (E.move k76) ?_
   refine FL.v (E.move k75) ?_
   obtain ⟨p86, cs87, pt88, l89, at90, rel91⟩ := p0.at (ix_nat hx27)
   obtain rfl := eS_open rel91
   refine FL.v (E.indexAddr te22 rfl rfl pt88) ?_
   refine FL.v (E.load rfl (run_load0 Try.isAgg9 ((at90.mono i72).now S71.sl) rfl)) ?_
   obtain ⟨v92, w93, run94, S95⟩ := S71.buildSlice (P := Try.prog) te22 [Value.string y26] (parts := #[(0, Value.string y26)]) (cells := [Value.string y26]) rfl (szs_cons rfl szs_nil) (fc_cons rfl fc_nil) (ones_cons rfl ones_nil) (Nat.le_of_ble_eq_true rfl)
   have els96 : Els (up wa.heap.size H70) eS 1 [Value.string y26] [y26] := (Els.snoc (H := (up wa.heap.size H70)) (E := eS) (k := 1) (c := [Value.string y26]) (x := y26) Els.nil rfl rfl)
   refine FL.v (E.buildSlice (B1 rfl) run94) ?_
   obtain ⟨xs97, hz98, hp⟩ := bnd hp
   obtain ⟨v99, w102, n100, cs101, run103, S104, els105, ce106⟩ := S95.appendO (P := Try.prog) te22 (i := 1) (j := 0) rfl els31 rfl els96 hz98
   have S104 : St Ha wa H70 w102 [.row 9 1 v92 1 [Value.string y26], .row 9 1 v99 n100 cs101] := S104
   have S107 : St Ha wa H70 w102 [.row 9 1 v99 n100 cs101] := S104.drop 0
   refine FL.v (E.append rfl rfl run103) ?_
   refine FL.v (E.assign (v := v99) rfl) ?_
   refine FL.nil (FW.region ?_)
   refine FL.v (E.move k75) ?_
   refine FL.v (E.add rfl rfl) ?_
   refine FL.v (E.assign (v := Value.int .i64 (wr (((i27 : Nat) : Int) + 1))) rfl) ?_
   refine FL.nil ?_
   obtain rfl := Option.some.inj hp
   exact ⟨rfl, ⟨_, _, _, _, S107, i72, els105, (nat_succ rfl (lt_of_get hx27) (p0.mono i72).le), k76, k77, rfl⟩⟩
  ·
   refine FW.condF rfl c85 ?_
   refine FW.skip (FW.region ?_)
   refine FL.v (E.move k75) ?_
   refine FL.v (E.add rfl rfl) ?_
   refine FL.v (E.assign (v := Value.int .i64 (wr (((i27 : Nat) : Int) + 1))) rfl) ?_
   refine FL.nil ?_
   obtain rfl := Option.some.inj hp
   exact ⟨rfl, ⟨_, _, _, _, S71, i72, els31, (nat_succ rfl (lt_of_get hx27) (p0.mono i72).le), k76, k77, k78⟩⟩
 ·
  clear hp hq
  rintro s27 f119 w118 ⟨H115, v28, n29, cs30, S116, i117, els31, k120, k121, k122, k123⟩
  refine FW.seq (FW.seq (FW.region ?_))
  refine FL.v (E.move k120) ?_
  refine FL.v (E.move k121) ?_
  refine FL.v (E.lenP te22 rfl p0) ?_
  refine FL.v (E.lss rfl rfl) ?_
  refine FL.nil ?_
  refine FW.condF rfl dlt_len ?_
  refine FW.exit ?_
  exact ⟨nofun, rfl, ⟨_, _, _, _, S116, i117, els31, k123⟩⟩
 ·
  clear hq
  intro e f113 w112 hD
  rcases q27 with s27 | x27
  ·
   obtain ⟨rfl, hD⟩ := hD
   obtain ⟨H109, v28, n29, cs30, S110, i111, els31, k114⟩ := hD
   replace hp := el_go hp
   refine FW.seq (FW.region ?_)
   refine FL.v (E.move k114) ?_
   refine FL.v (E.assign (v := v28) rfl) ?_
   refine FL.nil ?_
   refine FW.ret ?_
   obtain rfl := Option.some.inj hp
   exact ⟨.inr rfl, res1 rfl rfl ⟨_, _, _, _, rfl, S110, els31⟩⟩
  ·
   exact x27.elim

@[reducible] def p_spec_l22Put (Ha : GH) (wa : World) (r : (List ByteArray)) : Ending → World → Prop :=
 fun e w' => ∃ H' : GH, ∃ v0 : Value, e = .returned (v0) ∧ Run wa.heap.size Ha wa H' w' ∧ RSl H' eS 1 v0 r
set_option maxHeartbeats 4000000 in
theorem w_spec_l22Put {Ha : GH} {wa : World} (hs : Sl Ha wa) (v0 : Value) (a0 : List ByteArray) (p0 : RSl Ha eS 1 v0 a0) (a1 : ByteArray) {r : (List ByteArray)} (hp : (PF.spec_l22Put a0 a1) = some r) :
  Calls Try.prog 57 #[v0, Value.string a1] wa (p_spec_l22Put Ha wa r) := by
 unfold PF.spec_l22Put at hp
 have S0 := St.init hs
 refine calls_go (N := 45) (args := [v0, Value.string a1]) Try.func57 rfl rfl rfl ?_
 refine FW.seq (FW.region ?_)
 refine FL.v (E.assign (v := Value.slice none 0 0) rfl) ?_
 refine FL.nil (FW.seq (FW.region ?_))
 refine FL.v (E.assign (v := Value.int .i64 0) rfl) ?_
 refine FL.nil (FW.seq ?_)
 obtain ⟨q21, hq, hp⟩ := bndR hp
 refine FW.block ?_
 refine FW.mono (FW.iter (S := Int) (X := Empty) (fun (s21 : Int) f w => ∃ H : GH, St Ha wa H w [] ∧ Inc Ha H ∧ f 0 = v0 ∧ f 1 = Value.string a1 ∧ f 5 = Value.int .i64 s21) (fun (q : Rs Int Empty) e f w => match q with | .go s21 => e = Exit.exit 0 ∧ (∃ H : GH, St Ha wa H w [] ∧ Inc Ha H ∧ f 0 = v0 ∧ f 1 = Value.string a1 ∧ f 5 = Value.int .i64 s21) | .rt x => x.elim) hq ⟨_, S0, (Inc.rfl _), rfl, rfl, rfl⟩ ?_) ?_
 ·
  clear hp hq
  rintro s21 f68 w67 ⟨H64, S65, i66, k69, k70, k71⟩ o106 hp
  refine FW.seq (FW.seq (FW.region ?_))
  refine FL.v (E.move k71) ?_
  refine FL.v (E.move k69) ?_
  refine FL.v (E.lenP te22 rfl p0) ?_
  refine FL.v (E.lss rfl rfl) ?_
  refine FL.v (E.move (v := Value.bool (decide (s21 < (len a0)))) rfl) ?_
  obtain ⟨t83, hqt83, hp⟩ := bnd hp
  refine FL.cut 7 (fun f w => ∃ H : GH, St Ha wa H w [] ∧ Inc H64 H ∧ f 0 = v0 ∧ f 1 = Value.string a1 ∧ f 5 = Value.int .i64 s21 ∧ f 17 = Value.bool t83) ?_ ?_
  ·
   clear hp; have hp := hqt83; clear hqt83
   rcases ifB hp with ⟨c89, hp⟩ | ⟨c89, hp⟩
   ·
    refine FL.val (wF_yes rfl rfl rfl c89) rfl rfl (E.move k69) ?_
    refine FL.val (wF_yes rfl rfl rfl c89) rfl rfl (E.move k71) ?_
    obtain ⟨x96, hx97, hp⟩ := bnd hp
    obtain ⟨p90, cs91, pt92, l93, at94, rel95⟩ := p0.at hx97
    obtain rfl := eS_open rel95
    refine FL.val (wF_yes rfl rfl rfl c89) rfl rfl (E.indexAddr te22 rfl rfl pt92) ?_
    refine FL.val (wF_yes rfl rfl rfl c89) rfl rfl (E.load rfl (run_load0 Try.isAgg9 ((at94.mono i66).now S65.sl) rfl)) ?_
    refine FL.val (wF_yes rfl rfl rfl c89) rfl rfl (E.move k70) ?_
    refine FL.call (wF_yes rfl rfl rfl c89) rfl rfl (E.call Try.call41 (A2 rfl rfl)) (w_spec_l22Before S65.sl x96 a1) ?_
    rintro e w98 ⟨rfl, r99⟩
    refine ⟨_, rfl, ?_⟩
    have S100 := S65.call r99
    obtain rfl := Option.some.inj hp
    refine FL.v (E.pickT rfl c89 rfl) ?_
    exact FL.nil ⟨rfl, _, S100, (Inc.rfl _), k69, k70, k71, rfl⟩
   ·
    refine FL.skip (wF_no rfl rfl rfl c89) rfl ?_
    refine FL.skip (wF_no rfl rfl rfl c89) rfl ?_
    refine FL.skip (wF_no rfl rfl rfl c89) rfl ?_
    refine FL.skip (wF_no rfl rfl rfl c89) rfl ?_
    refine FL.skip (wF_no rfl rfl rfl c89) rfl ?_
    refine FL.skip (wF_no rfl rfl rfl c89) rfl ?_
    obtain rfl := Option.some.inj hp
    refine FL.v (E.pickF rfl c89 rfl) ?_
    exact FL.nil ⟨rfl, _, S65, (Inc.rfl _), k69, k70, k71, rfl⟩
  rintro f88 w87 ⟨H84, S85, i86, k101, k102, k103, k104⟩
  refine FL.nil ?_
  rcases ifB hp with ⟨c105, hp⟩ | ⟨c105, hp⟩
  ·
   refine FW.condT k104 c105 ?_
   refine FW.skip (FW.block (FW.region ?_))
   refine FL.v (E.move k103) ?_
   refine FL.v (E.add rfl rfl) ?_
   refine FL.v (E.assign (v := Value.int .i64 (wr (s21 + 1))) rfl) ?_
   refine FL.nil ?_
   obtain rfl := Option.some.inj hp
   exact ⟨rfl, ⟨_, S85, (i66.tr i86), k101, k102, rfl⟩⟩
  ·
   refine FW.condF k104 c105 ?_
   refine FW.exit ?_
   obtain rfl := Option.some.inj hp
   exact ⟨nofun, rfl, ⟨_, S85, (i66.tr i86), k101, k102, k103⟩⟩
 ·
  clear hq
  intro e f111 w110 hD
  rcases q21 with s21 | x21
  ·
   obtain ⟨rfl, hD⟩ := hD
   obtain ⟨H107, S108, i109, k112, k113, k114⟩ := hD
   replace hp := el_go hp
   refine FW.seq (FW.seq (FW.region ?_))
   refine FL.v (E.move k114) ?_
   refine FL.v (E.move k112) ?_
   refine FL.v (E.lenP te22 rfl p0) ?_
   refine FL.v (E.lss rfl rfl) ?_
   refine FL.v (E.move (v := Value.bool (decide (s21 < (len a0)))) rfl) ?_
   obtain ⟨t123, hqt123, hp⟩ := bnd hp
   refine FL.cut 7 (fun f w => ∃ H : GH, St Ha wa H w [] ∧ Inc H107 H ∧ f 0 = v0 ∧ f 1 = Value.string a1 ∧ f 5 = Value.int .i64 s21 ∧ f 31 = Value.bool t123) ?_ ?_
   ·
    clear hp; have hp := hqt123; clear hqt123
    rcases ifB hp with ⟨c129, hp⟩ | ⟨c129, hp⟩
    ·
     refine FL.val (wF_yes rfl rfl rfl c129) rfl rfl (E.move k112) ?_
     refine FL.val (wF_yes rfl rfl rfl c129) rfl rfl (E.move k114) ?_
     obtain ⟨x136, hx137, hp⟩ := bnd hp
     obtain ⟨p130, cs131, pt132, l133, at134, rel135⟩ := p0.at hx137
     obtain rfl := eS_open rel135
     refine FL.val (wF_yes rfl rfl rfl c129) rfl rfl (E.indexAddr te22 rfl rfl pt132) ?_
     refine FL.val (wF_yes rfl rfl rfl c129) rfl rfl (E.load rfl (run_load0 Try.isAgg9 ((at134.mono i109).now S108.sl) rfl)) ?_
     refine FL.val (wF_yes rfl rfl rfl c129) rfl rfl (E.move k113) ?_
     refine FL.val (wF_yes rfl rfl rfl c129) rfl rfl (E.eqlS rfl rfl) ?_
     obtain rfl := Option.some.inj hp
     refine FL.v (E.pickT rfl c129 rfl) ?_
     exact FL.nil ⟨rfl, _, S108, (Inc.rfl _), k112, k113, k114, rfl⟩
    ·
     refine FL.skip (wF_no rfl rfl rfl c129) rfl ?_
     refine FL.skip (wF_no rfl rfl rfl c129) rfl ?_
     refine FL.skip (wF_no rfl rfl rfl c129) rfl ?_
     refine FL.skip (wF_no rfl rfl rfl c129) rfl ?_
     refine FL.skip (wF_no rfl rfl rfl c129) rfl ?_
     refine FL.skip (wF_no rfl rfl rfl c129) rfl ?_
     obtain rfl := Option.some.inj hp
     refine FL.v (E.pickF rfl c129 rfl) ?_
     exact FL.nil ⟨rfl, _, S108, (Inc.rfl _), k112, k113, k114, rfl⟩
   rintro f128 w127 ⟨H124, S125, i126, k138, k139, k140, k141⟩
   refine FL.nil ?_
   rcases ifB hp with ⟨c142, hp⟩ | ⟨c142, hp⟩
   ·
    refine FW.condT k141 c142 ?_
    refine FW.seq (FW.region ?_)
    refine FL.v (E.move k138) ?_
    refine FL.v (E.assign (v := v0) rfl) ?_
    refine FL.nil ?_
    refine FW.ret ?_
    obtain rfl := Option.some.inj hp
    exact ⟨.inr rfl, res1 rfl rfl ⟨_, _, rfl, S125.run, (p0.mono (i109.tr i126))⟩⟩
   ·
    refine FW.condF k141 c142 ?_
    refine FW.skip (FW.seq ?_)
    obtain ⟨xs28, hc29, hp⟩ := bnd hp
    obtain ⟨xs33, hz34, hp⟩ := bnd hp
    obtain ⟨xs47, hz48, hp⟩ := bnd hp
    obtain ⟨xs58, hc59, hp⟩ := bnd hp
    obtain ⟨xs63, hz72, hp⟩ := bnd hp
    refine FW.drawB (Sl H124) (fun f w => ∃ H : GH, ∃ v80 : Value, ∃ n81 : Nat, ∃ cs82 : List Value, St Ha wa H w [.row 9 1 v80 n81 cs82] ∧ Inc H124 H ∧ Els (up wa.heap.size H) eS 1 cs82 xs63 ∧ f 4 = v80) (by kernel_rfl) S125.sl ?_ ?_
    ·
     intro w143 r144
     have S145 := S125.call r144
     refine FB.t (i := 1) (bs 13 2) rfl (SP.nil S145.sl) rfl (fun w' hw' => (E.move k138)) ?_
     refine FB.t (i := 2) (bs 13 6) rfl (SP.nil S145.sl) rfl (fun w' hw' => (E.move k140)) ?_
     obtain ⟨v30, run31, h32⟩ := p0.cut te22 hc29 (lo := none) (hi := some (Value.int .i64 s21)) (.inl ⟨rfl, rfl⟩) (.inr ⟨_, rfl⟩)
     refine FB.t (i := 3) (bs 13 14) rfl (SP.nil S145.sl) rfl (fun w' hw' => (E.slice te22 rfl rfl (congrArg some rfl) rfl (run31 _))) ?_
     refine FB.t (i := 5) (bs 13 46) rfl (SP.nil S145.sl) rfl (fun w' hw' => (E.move k139)) ?_
     refine FB.t (i := 8) (bs 13 302) rfl (SP.nil S145.sl) rfl (fun w' hw' => (E.move k138)) ?_
     refine FB.t (i := 9) (bs 13 814) rfl (SP.nil S145.sl) rfl (fun w' hw' => (E.move k140)) ?_
     obtain ⟨v60, run61, h62⟩ := p0.cut te22 hc59 (lo := some (Value.int .i64 s21)) (hi := none) (.inr ⟨_, rfl⟩) (.inl ⟨rfl, rfl⟩)
     refine FB.t (i := 10) (bs 13 1838) rfl (SP.nil S145.sl) rfl (fun w' hw' => (E.slice te22 rfl (congrArg some rfl) rfl rfl (run61 _))) ?_
     refine FB.all2 (i := 0) (j := 6) (by kernel_rfl) ?_ ?_
     ·
      obtain ⟨v23, w24, run25, S26⟩ := S145.buildSlice (P := Try.prog) te22 [] (parts := #[]) (cells := []) rfl szs_nil fc_nil ones_nil (Nat.le_of_ble_eq_true rfl)
      have els27 : Els (up wa.heap.size H124) eS 1 [] [] := Els.nil
      refine FC.val (l' := (bs 13 1839)) rfl (by kernel_rfl) rfl rfl rfl (E.buildSlice (B0) run25) ?_
      refine ⟨(SP.nil S26.sl), ?_⟩
      refine FB.all2 (i := 4) (j := 6) (by kernel_rfl) ?_ ?_
      ·
       obtain ⟨v35, w38, n36, cs37, run39, S40, els41⟩ := S26.appendP (P := Try.prog) (Inc.rfl _) te22 (i := 0) rfl (els27.mono upI) (h32.mono (i109.tr i126)) hz34
       have S40 : St Ha wa H124 w38 [.row 9 1 v35 n36 cs37] := S40
       have els41 : Els (up wa.heap.size H124) eS 1 cs37 xs33 := els41.any (fun _ _ _ _ h => h)
       refine FC.val (l' := (bs 13 1855)) rfl (by kernel_rfl) rfl rfl rfl (E.append rfl rfl run39) ?_
       refine ⟨(SP.nil S40.sl), ?_⟩
       refine FB.all1 (i := 6) (by kernel_rfl) ?_
       ·
        obtain ⟨v42, w43, run44, S45⟩ := S40.buildSlice (P := Try.prog) te22 [Value.string a1] (parts := #[(0, Value.string a1)]) (cells := [Value.string a1]) rfl (szs_cons rfl szs_nil) (fc_cons rfl fc_nil) (ones_cons rfl ones_nil) (Nat.le_of_ble_eq_true rfl)
        have els46 : Els (up wa.heap.size H124) eS 1 [Value.string a1] [a1] := (Els.snoc (H := (up wa.heap.size H124)) (E := eS) (k := 1) (c := [Value.string a1]) (x := a1) Els.nil rfl rfl)
        refine FC.val (l' := (bs 13 1919)) rfl (by kernel_rfl) rfl rfl rfl (E.buildSlice (B1 rfl) run44) ?_
        refine ⟨(SP.nil S45.sl), ?_⟩
        refine FB.all1 (i := 7) (by kernel_rfl) ?_
        ·
         obtain ⟨v49, w52, n50, cs51, run53, S54, els55, ce56⟩ := S45.appendO (P := Try.prog) te22 (i := 1) (j := 0) rfl els41 rfl els46 hz48
         have S54 : St Ha wa H124 w52 [.row 9 1 v42 1 [Value.string a1], .row 9 1 v49 n50 cs51] := S54
         have S57 : St Ha wa H124 w52 [.row 9 1 v49 n50 cs51] := S54.drop 0
         refine FC.val (l' := (bs 13 2047)) rfl (by kernel_rfl) rfl rfl rfl (E.append rfl rfl run53) ?_
         refine ⟨(SP.nil S57.sl), ?_⟩
         refine FB.all1 (i := 11) (by kernel_rfl) ?_
         ·
          obtain ⟨v73, w76, n74, cs75, run77, S78, els79⟩ := S57.appendP (P := Try.prog) (Inc.rfl _) te22 (i := 0) rfl (els55.mono upI) (h62.mono (i109.tr i126)) hz72
          have S78 : St Ha wa H124 w76 [.row 9 1 v73 n74 cs75] := S78
          have els79 : Els (up wa.heap.size H124) eS 1 cs75 xs63 := els79.any (fun _ _ _ _ h => h)
          refine FC.val (l' := (bs 13 4095)) rfl (by kernel_rfl) rfl rfl rfl (E.append rfl rfl run77) ?_
          refine ⟨(SP.nil S78.sl), ?_⟩
          refine FB.t (i := 12) (bs 13 8191) rfl (SP.nil S78.sl) rfl (fun w' hw' => (E.assign (v := v73) rfl)) ?_
          exact FB.done (by kernel_rfl) ⟨_, _, _, _, S78, (Inc.rfl _), els79, rfl⟩
      ·
       obtain ⟨v42, w43, run44, S45⟩ := S26.buildSlice (P := Try.prog) te22 [Value.string a1] (parts := #[(0, Value.string a1)]) (cells := [Value.string a1]) rfl (szs_cons rfl szs_nil) (fc_cons rfl fc_nil) (ones_cons rfl ones_nil) (Nat.le_of_ble_eq_true rfl)
       have els46 : Els (up wa.heap.size H124) eS 1 [Value.string a1] [a1] := (Els.snoc (H := (up wa.heap.size H124)) (E := eS) (k := 1) (c := [Value.string a1]) (x := a1) Els.nil rfl rfl)
       refine FC.val (l' := (bs 13 1903)) rfl (by kernel_rfl) rfl rfl rfl (E.buildSlice (B1 rfl) run44) ?_
       refine ⟨(SP.nil S45.sl), ?_⟩
       refine FB.all1 (i := 4) (by kernel_rfl) ?_
       ·
        obtain ⟨v35, w38, n36, cs37, run39, S40, els41⟩ := S45.appendP (P := Try.prog) (Inc.rfl _) te22 (i := 1) rfl (els27.mono upI) (h32.mono (i109.tr i126)) hz34
        have S40 : St Ha wa H124 w38 [.row 9 1 v42 1 [Value.string a1], .row 9 1 v35 n36 cs37] := S40
        have els41 : Els (up wa.heap.size H124) eS 1 cs37 xs33 := els41.any (fun _ _ _ _ h => h)
        refine FC.val (l' := (bs 13 1919)) rfl (by kernel_rfl) rfl rfl rfl (E.append rfl rfl run39) ?_
        refine ⟨(SP.nil S40.sl), ?_⟩
        refine FB.all1 (i := 7) (by kernel_rfl) ?_
        ·
         obtain ⟨v49, w52, n50, cs51, run53, S54, els55, ce56⟩ := S40.appendO (P := Try.prog) te22 (i := 1) (j := 0) rfl els41 rfl els46 hz48
         have S54 : St Ha wa H124 w52 [.row 9 1 v42 1 [Value.string a1], .row 9 1 v49 n50 cs51] := S54
         have S57 : St Ha wa H124 w52 [.row 9 1 v49 n50 cs51] := S54.drop 0
         refine FC.val (l' := (bs 13 2047)) rfl (by kernel_rfl) rfl rfl rfl (E.append rfl rfl run53) ?_
         refine ⟨(SP.nil S57.sl), ?_⟩
         refine FB.all1 (i := 11) (by kernel_rfl) ?_
         ·
          obtain ⟨v73, w76, n74, cs75, run77, S78, els79⟩ := S57.appendP (P := Try.prog) (Inc.rfl _) te22 (i := 0) rfl (els55.mono upI) (h62.mono (i109.tr i126)) hz72
          have S78 : St Ha wa H124 w76 [.row 9 1 v73 n74 cs75] := S78
          have els79 : Els (up wa.heap.size H124) eS 1 cs75 xs63 := els79.any (fun _ _ _ _ h => h)
          refine FC.val (l' := (bs 13 4095)) rfl (by kernel_rfl) rfl rfl rfl (E.append rfl rfl run77) ?_
          refine ⟨(SP.nil S78.sl), ?_⟩
          refine FB.t (i := 12) (bs 13 8191) rfl (SP.nil S78.sl) rfl (fun w' hw' => (E.assign (v := v73) rfl)) ?_
          exact FB.done (by kernel_rfl) ⟨_, _, _, _, S78, (Inc.rfl _), els79, rfl⟩
     ·
      obtain ⟨v42, w43, run44, S45⟩ := S145.buildSlice (P := Try.prog) te22 [Value.string a1] (parts := #[(0, Value.string a1)]) (cells := [Value.string a1]) rfl (szs_cons rfl szs_nil) (fc_cons rfl fc_nil) (ones_cons rfl ones_nil) (Nat.le_of_ble_eq_true rfl)
      have els46 : Els (up wa.heap.size H124) eS 1 [Value.string a1] [a1] := (Els.snoc (H := (up wa.heap.size H124)) (E := eS) (k := 1) (c := [Value.string a1]) (x := a1) Els.nil rfl rfl)
      refine FC.val (l' := (bs 13 1902)) rfl (by kernel_rfl) rfl rfl rfl (E.buildSlice (B1 rfl) run44) ?_
      refine ⟨(SP.nil S45.sl), ?_⟩
      refine FB.all1 (i := 0) (by kernel_rfl) ?_
      ·
       obtain ⟨v23, w24, run25, S26⟩ := S45.buildSlice (P := Try.prog) te22 [] (parts := #[]) (cells := []) rfl szs_nil fc_nil ones_nil (Nat.le_of_ble_eq_true rfl)
       have els27 : Els (up wa.heap.size H124) eS 1 [] [] := Els.nil
       refine FC.val (l' := (bs 13 1903)) rfl (by kernel_rfl) rfl rfl rfl (E.buildSlice (B0) run25) ?_
       refine ⟨(SP.nil S26.sl), ?_⟩
       refine FB.all1 (i := 4) (by kernel_rfl) ?_
       ·
        obtain ⟨v35, w38, n36, cs37, run39, S40, els41⟩ := S26.appendP (P := Try.prog) (Inc.rfl _) te22 (i := 0) rfl (els27.mono upI) (h32.mono (i109.tr i126)) hz34
        have S40 : St Ha wa H124 w38 [.row 9 1 v35 n36 cs37, .row 9 1 v42 1 [Value.string a1]] := S40
        have els41 : Els (up wa.heap.size H124) eS 1 cs37 xs33 := els41.any (fun _ _ _ _ h => h)
        refine FC.val (l' := (bs 13 1919)) rfl (by kernel_rfl) rfl rfl rfl (E.append rfl rfl run39) ?_
        refine ⟨(SP.nil S40.sl), ?_⟩
        refine FB.all1 (i := 7) (by kernel_rfl) ?_
        ·
         obtain ⟨v49, w52, n50, cs51, run53, S54, els55, ce56⟩ := S40.appendO (P := Try.prog) te22 (i := 0) (j := 1) rfl els41 rfl els46 hz48
         have S54 : St Ha wa H124 w52 [.row 9 1 v49 n50 cs51, .row 9 1 v42 1 [Value.string a1]] := S54
         have S57 : St Ha wa H124 w52 [.row 9 1 v49 n50 cs51] := S54.drop 1
         refine FC.val (l' := (bs 13 2047)) rfl (by kernel_rfl) rfl rfl rfl (E.append rfl rfl run53) ?_
         refine ⟨(SP.nil S57.sl), ?_⟩
         refine FB.all1 (i := 11) (by kernel_rfl) ?_
         ·
          obtain ⟨v73, w76, n74, cs75, run77, S78, els79⟩ := S57.appendP (P := Try.prog) (Inc.rfl _) te22 (i := 0) rfl (els55.mono upI) (h62.mono (i109.tr i126)) hz72
          have S78 : St Ha wa H124 w76 [.row 9 1 v73 n74 cs75] := S78
          have els79 : Els (up wa.heap.size H124) eS 1 cs75 xs63 := els79.any (fun _ _ _ _ h => h)
          refine FC.val (l' := (bs 13 4095)) rfl (by kernel_rfl) rfl rfl rfl (E.append rfl rfl run77) ?_
          refine ⟨(SP.nil S78.sl), ?_⟩
          refine FB.t (i := 12) (bs 13 8191) rfl (SP.nil S78.sl) rfl (fun w' hw' => (E.assign (v := v73) rfl)) ?_
          exact FB.done (by kernel_rfl) ⟨_, _, _, _, S78, (Inc.rfl _), els79, rfl⟩
    ·
     rintro f120 w119 ⟨H116, v80, n81, cs82, S117, i118, els115, k121⟩
     refine FW.ret ?_
     obtain ⟨H122, S146, i147, h148, nv149⟩ := S117.sealRowU (i := 0) (l' := []) rfl els115 (by decide) rfl
     obtain rfl := Option.some.inj hp
     exact ⟨.inr rfl, res1 rfl k121 ⟨_, _, rfl, S146.run, (h148.mono upI)⟩⟩
  ·
   exact x21.elim

@[reducible] def p_spec_l23With (Ha : GH) (wa : World) (r : (List ByteArray)) : Ending → World → Prop :=
 fun e w' => ∃ H' : GH, ∃ v0 : Value, e = .returned (v0) ∧ Run wa.heap.size Ha wa H' w' ∧ RSl H' eS 1 v0 r
theorem w_spec_l23With {Ha : GH} {wa : World} (hs : Sl Ha wa) (v0 : Value) (a0 : List ByteArray) (p0 : RSl Ha eS 1 v0 a0) (a1 : ByteArray) {r : (List ByteArray)} (hp : (PF.spec_l23With a0 a1) = some r) :
  Calls Try.prog 46 #[v0, Value.string a1] wa (p_spec_l23With Ha wa r) := by
 unfold PF.spec_l23With at hp
 have S0 := St.init hs
 refine calls_go (N := 10) (args := [v0, Value.string a1]) Try.func46 rfl rfl rfl ?_
 refine FW.seq (FW.region ?_)
 refine FL.v (E.assign (v := Value.slice none 0 0) rfl) ?_
 refine FL.nil (FW.seq (FW.region ?_))
 obtain ⟨v21, w22, run23, S24⟩ := S0.buildSlice (P := Try.prog) te22 [] (parts := #[]) (cells := []) rfl szs_nil fc_nil ones_nil (Nat.le_of_ble_eq_true rfl)
 have els25 : Els (up wa.heap.size Ha) eS 1 [] [] := Els.nil
 refine FL.v (E.buildSlice (B0) run23) ?_
 refine FL.v (E.move (v := v0) rfl) ?_
 obtain ⟨xs26, hz27, hp⟩ := bnd hp
 obtain ⟨v28, w31, n29, cs30, run32, S33, els34⟩ := S24.appendP (P := Try.prog) (Inc.rfl _) te22 (i := 0) rfl (els25.mono upI) p0 hz27
 have S33 : St Ha wa Ha w31 [.row 9 1 v28 n29 cs30] := S33
 have els34 : Els (up wa.heap.size Ha) eS 1 cs30 xs26 := els34.any (fun _ _ _ _ h => h)
 refine FL.v (E.append rfl rfl run32) ?_
 refine FL.v (E.move (v := Value.string a1) rfl) ?_
 obtain ⟨H36, S37, i38, h39, nv40⟩ := S33.sealRowU (i := 0) (l' := []) rfl els34 (by decide) rfl
 obtain ⟨r41, hr42, hp⟩ := bnd hp
 refine FL.call rfl rfl rfl (E.call Try.call57 (A2 rfl rfl)) (w_spec_l22Put S37.sl v28 xs26 (h39.mono upI) a1 hr42) ?_
 rintro e w44 ⟨H43, v47, rfl, r46, h48⟩
 refine ⟨_, rfl, ?_⟩
 have S45 := S37.call r46
 refine FL.v (E.assign (v := v47) rfl) ?_
 refine FL.nil ?_
 refine FW.ret ?_
 obtain rfl := Option.some.inj hp
 exact ⟨.inr rfl, res1 rfl rfl ⟨_, _, rfl, S45.run, h48⟩⟩

@[reducible] def p_spec_l23Premises (Ha : GH) (wa : World) (r : (List Sequent)) : Ending → World → Prop :=
 fun e w' => ∃ H' : GH, ∃ v0 : Value, ∃ n0 : Nat, ∃ c0 : List Value, e = .returned (v0) ∧ St Ha wa H' w' [.row 28 2 v0 n0 c0] ∧ Els H' eSequent 2 c0 r
set_option maxHeartbeats 4000000 in
theorem w_spec_l23Premises {Ha : GH} {wa : World} (hs : Sl Ha wa) (a0 : Sequent) (v0_0 : Value) (p0_0 : RSl Ha eS 1 v0_0 a0.left) (v0_1 : Value) (p0_1 : RSl Ha eS 1 v0_1 a0.right) (a1 : Int) (a2 : ByteArray) {r : (List Sequent)} (hp : (PF.spec_l23Premises a0 a1 a2) = some r) :
  Calls Try.prog 34 #[Value.agg #[v0_0, v0_1], Value.int .i64 a1, Value.string a2] wa (p_spec_l23Premises Ha wa r) := by
 unfold PF.spec_l23Premises at hp
 have S0 := St.init hs
 refine calls_go (N := 138) (args := [Value.agg #[v0_0, v0_1], Value.int .i64 a1, Value.string a2]) Try.func34 rfl rfl rfl ?_
 refine FW.seq (FW.region ?_)
 obtain ⟨b21, w22, run23, S24⟩ := S0.box (P := Try.prog) 28 [v0_0, v0_1] (v := Value.agg #[v0_0, v0_1]) rfl (ones_cons p0_0.one (ones_cons p0_1.one ones_nil))
 refine FL.v (E.box rfl run23) ?_
 obtain ⟨H25, S26, i27, at28⟩ := S24.sealBox (i := 0) (l' := []) rfl rfl
 refine FL.v (E.assign (v := Value.slice none 0 0) rfl) ?_
 refine FL.nil (FW.seq (FW.region ?_))
 refine FL.v (E.move (v := Value.string a2) rfl) ?_
 obtain ⟨r29, hr30, hp⟩ := bnd hp
 refine FL.call rfl rfl rfl (E.call Try.call44 (A1 rfl)) (w_spec_l22Parts S26.sl a2 hr30) ?_
 rintro e w31 ⟨rfl, r32⟩
 refine ⟨_, rfl, ?_⟩
 have S33 := S26.call r32
 refine FL.v (E.move (v := Value.tuple #[Value.int .u8 r29.1, Value.string r29.2.1, Value.string r29.2.2]) rfl) ?_
 refine FL.v (E.extract (i := 0) rfl rfl) ?_
 refine FL.v (E.extract (i := 1) rfl rfl) ?_
 refine FL.v (E.extract (i := 2) rfl rfl) ?_
 refine FL.v (E.assign (v := Value.int .u8 r29.1) rfl) ?_
 refine FL.v (E.assign (v := Value.string r29.2.1) rfl) ?_
 refine FL.v (E.assign (v := Value.string r29.2.2) rfl) ?_
 refine FL.nil (FW.seq ?_)
 obtain ⟨r37, hr38, hp⟩ := bnd hp
 obtain ⟨r47, hr48, hp⟩ := bnd hp
 refine FW.drawB (Sl H25) (fun f w => ∃ H : GH, ∃ v57 : Value, ∃ n58 : Nat, ∃ cs59 : List Value, ∃ v62 : Value, ∃ n63 : Nat, ∃ cs64 : List Value, St Ha wa H w [.row 9 1 v57 n58 cs59, .row 9 1 v62 n63 cs64] ∧ Inc H25 H ∧ Els (up wa.heap.size H) eS 1 cs59 r37 ∧ Els (up wa.heap.size H) eS 1 cs64 r47 ∧ f 1 = Value.int .i64 a1 ∧ f 2 = Value.string a2 ∧ f 3 = Value.pointer (some ⟨b21, 0, none⟩) ∧ f 8 = Value.string r29.2.1 ∧ f 9 = Value.string r29.2.2 ∧ f 10 = v57 ∧ f 11 = v62) (by kernel_rfl) S33.sl ?_ ?_
 ·
  intro w34 r35
  have S36 := S33.call r35
  refine FB.t (i := 0) (bs 10 1) rfl (SP.nil S36.sl) rfl (fun w' hw' => (E.fieldAddr tf28_0 rfl)) ?_
  refine FB.t (i := 1) (bs 10 3) rfl (SP.nil S36.sl) rfl (fun w' hw' => (E.load rfl (run_load1 Try.isAgg22 (at28.now hw') rfl))) ?_
  refine FB.t (i := 2) (bs 10 7) rfl (SP.nil S36.sl) rfl (fun w' hw' => (E.move (v := Value.string a2) rfl)) ?_
  refine FB.t (i := 4) (bs 10 23) rfl (SP.nil S36.sl) rfl (fun w' hw' => (E.fieldAddr tf28_1 rfl)) ?_
  refine FB.t (i := 5) (bs 10 55) rfl (SP.nil S36.sl) rfl (fun w' hw' => (E.load rfl (run_load1 Try.isAgg22 (at28.now hw') rfl))) ?_
  refine FB.t (i := 6) (bs 10 119) rfl (SP.nil S36.sl) rfl (fun w' hw' => (E.move (v := Value.string a2) rfl)) ?_
  refine FB.all1 (i := 3) (by kernel_rfl) ?_
  ·
   refine FC.call (l' := (bs 10 127)) rfl (by kernel_rfl) rfl rfl rfl (E.call Try.call45 (A2 rfl rfl)) (w_spec_l23Without S36.sl v0_0 a0.left (p0_0.mono i27) a2 hr38) ?_
   rintro e w40 ⟨H39, v43, n44, cs45, rfl, r42, els46⟩
   refine ⟨_, rfl, ?_⟩
   have els46 := els46.mono (up_le S36.size)
   have S41 := S36.join (l' := [.row 9 1 v43 n44 cs45]) r42 rfl
   refine ⟨(SP.nil (Sl.of_inc r42.run.inc S41.sl)), ?_⟩
   refine FB.all1 (i := 7) (by kernel_rfl) ?_
   ·
    refine FC.call (l' := (bs 10 255)) rfl (by kernel_rfl) rfl rfl rfl (E.call Try.call45 (A2 rfl rfl)) (w_spec_l23Without S41.sl v0_1 a0.right (p0_1.mono (i27.tr r42.run.inc)) a2 hr48) ?_
    rintro e w50 ⟨H49, v53, n54, cs55, rfl, r52, els56⟩
    refine ⟨_, rfl, ?_⟩
    have els56 := els56.mono (up_le S41.size)
    have S51 := S41.join (l' := [.row 9 1 v53 n54 cs55, .row 9 1 v43 n44 cs45]) r52 rfl
    refine ⟨(SP.nil (Sl.of_inc (r42.run.inc.tr r52.run.inc) S51.sl)), ?_⟩
    refine FB.t (i := 8) (bs 10 511) rfl (SP.nil (Sl.of_inc (r42.run.inc.tr r52.run.inc) S51.sl)) rfl (fun w' hw' => (E.assign (v := v43) rfl)) ?_
    refine FB.t (i := 9) (bs 10 1023) rfl (SP.nil (Sl.of_inc (r42.run.inc.tr r52.run.inc) S51.sl)) rfl (fun w' hw' => (E.assign (v := v53) rfl)) ?_
    exact FB.done (by kernel_rfl) ⟨_, _, _, _, _, _, _, (S51.sel [1, 0] (by decide) rfl), (r42.run.inc.tr r52.run.inc), (els46.mono (up_mono r52.run.inc)), els56, rfl, rfl, rfl, rfl, rfl, rfl, rfl⟩
 ·
  rintro f70 w69 ⟨H66, v57, n58, cs59, v62, n63, cs64, S67, i68, els60, els65, k71, k72, k73, k74, k75, k76, k77⟩
  refine FW.seq (FW.seq (FW.region ?_))
  refine FL.v (E.move k71) ?_
  refine FL.nil (FW.block (FW.seq (FW.region ?_)))
  refine FL.v (E.eql rfl rfl) ?_
  refine FL.v (E.assign (v := Value.bool (a1 == 2)) rfl) ?_
  refine FL.nil ?_
  rcases ifB hp with ⟨c78, hp⟩ | ⟨c78, hp⟩
  ·
   refine FW.condT rfl c78 ?_
   refine FW.seq (FW.region ?_)
   refine FL.v (E.move k76) ?_
   refine FL.v (E.fieldAddr tf28_1 k73) ?_
   refine FL.v (E.load rfl (run_load1 Try.isAgg22 ((at28.mono i68).now S67.sl) rfl)) ?_
   refine FL.v (E.move k74) ?_
   obtain ⟨r79, hr80, hp⟩ := bnd hp
   refine FL.call rfl rfl rfl (E.call Try.call46 (A2 rfl rfl)) (w_spec_l23With S67.sl v0_1 a0.right (p0_1.mono (i27.tr i68)) r29.2.1 hr80) ?_
   rintro e w82 ⟨H81, v85, rfl, r84, h86⟩
   refine ⟨_, rfl, ?_⟩
   have S83 := S67.call r84
   refine FL.v (E.build (B2 rfl rfl) (run_build _ 28 #[(0, v57), (1, v85)] #[v57, v85] (by obtain ⟨_, _, rfl⟩ := RSl.ln h86; obtain ⟨_, _, rfl⟩ := S83.row_ln (i := 0) rfl; rfl))) ?_
   obtain ⟨H87, S88, i89, h90, nv91⟩ := S83.sealRowU (i := 0) (l' := [.row 9 1 v62 n63 cs64]) rfl (els60.mono (up_mono r84.inc)) (by decide) rfl
   obtain ⟨v92, w93, run94, S95⟩ := S88.buildSlice (P := Try.prog) te61 [Value.agg #[v57, v85]] (parts := #[(0, Value.agg #[v57, v85])]) (cells := [v57, v85]) rfl (szs_cons rfl szs_nil) (fc_cons rfl fc_nil) (ones_cons h90.one (ones_cons h86.one ones_nil)) (Nat.le_of_ble_eq_true rfl)
   have els96 : Els H87 eSequent 2 [v57, v85] [(Sequent.mk r37 r79)] := (Els.snoc (H := H87) (E := eSequent) (k := 2) (c := [v57, v85]) (x := (Sequent.mk r37 r79)) Els.nil rfl ⟨_, _, rfl, (h90.mono upI), (h86.mono i89)⟩)
   refine FL.v (E.buildSlice (B1 rfl) run94) ?_
   refine FL.v (E.assign (v := v92) rfl) ?_
   refine FL.nil ?_
   refine FW.ret ?_
   obtain rfl := Option.some.inj hp
   exact ⟨.inr rfl, res1 rfl rfl ⟨_, _, _, _, rfl, (S95.sel [0] (by decide) rfl), els96⟩⟩
  ·
   refine FW.condF rfl c78 ?_
   refine FW.seq (FW.region ?_)
   refine FL.v (E.eql rfl rfl) ?_
   refine FL.v (E.assign (v := Value.bool (a1 == 3)) rfl) ?_
   refine FL.nil ?_
   rcases ifB hp with ⟨c97, hp⟩ | ⟨c97, hp⟩
   ·
    refine FW.condT rfl c97 ?_
    refine FW.seq (FW.region ?_)
    refine FL.v (E.fieldAddr tf28_0 k73) ?_
    refine FL.v (E.load rfl (run_load1 Try.isAgg22 ((at28.mono i68).now S67.sl) rfl)) ?_
    refine FL.v (E.move k74) ?_
    obtain ⟨r98, hr99, hp⟩ := bnd hp
    refine FL.call rfl rfl rfl (E.call Try.call46 (A2 rfl rfl)) (w_spec_l23With S67.sl v0_0 a0.left (p0_0.mono (i27.tr i68)) r29.2.1 hr99) ?_
    rintro e w101 ⟨H100, v104, rfl, r103, h105⟩
    refine ⟨_, rfl, ?_⟩
    have S102 := S67.call r103
    refine FL.v (E.move k77) ?_
    refine FL.v (E.build (B2 rfl rfl) (run_build _ 28 #[(0, v104), (1, v62)] #[v104, v62] (by obtain ⟨_, _, rfl⟩ := RSl.ln h105; obtain ⟨_, _, rfl⟩ := S102.row_ln (i := 1) rfl; rfl))) ?_
    obtain ⟨H106, S107, i108, h109, nv110⟩ := S102.sealRowU (i := 1) (l' := [.row 9 1 v57 n58 cs59]) rfl (els65.mono (up_mono r103.inc)) (by decide) rfl
    obtain ⟨v111, w112, run113, S114⟩ := S107.buildSlice (P := Try.prog) te61 [Value.agg #[v104, v62]] (parts := #[(0, Value.agg #[v104, v62])]) (cells := [v104, v62]) rfl (szs_cons rfl szs_nil) (fc_cons rfl fc_nil) (ones_cons h105.one (ones_cons h109.one ones_nil)) (Nat.le_of_ble_eq_true rfl)
    have els115 : Els H106 eSequent 2 [v104, v62] [(Sequent.mk r98 r47)] := (Els.snoc (H := H106) (E := eSequent) (k := 2) (c := [v104, v62]) (x := (Sequent.mk r98 r47)) Els.nil rfl ⟨_, _, rfl, (h105.mono i108), (h109.mono upI)⟩)
    refine FL.v (E.buildSlice (B1 rfl) run113) ?_
    refine FL.v (E.assign (v := v111) rfl) ?_
    refine FL.nil ?_
    refine FW.ret ?_
    obtain rfl := Option.some.inj hp
    exact ⟨.inr rfl, res1 rfl rfl ⟨_, _, _, _, rfl, (S114.sel [0] (by decide) rfl), els115⟩⟩
   ·
    refine FW.condF rfl c97 ?_
    refine FW.seq (FW.region ?_)
    refine FL.v (E.eql rfl rfl) ?_
    refine FL.v (E.assign (v := Value.bool (a1 == 4)) rfl) ?_
    refine FL.nil ?_
    rcases ifB hp with ⟨c116, hp⟩ | ⟨c116, hp⟩
    ·
     refine FW.condT rfl c116 ?_
     refine FW.seq ?_
     obtain ⟨s120, hq120, hp⟩ := bnd hp
     obtain ⟨r155, hr156, hp⟩ := bnd hp
     refine FW.drawB (Sl H66) (fun f w => ∃ H : GH, ∃ v168 : Value, ∃ n169 : Nat, ∃ cs170 : List Value, St Ha wa H w [.row 28 2 v168 n169 cs170] ∧ Inc H66 H ∧ Els H eSequent 2 cs170 [(Sequent.mk r155 a0.right)] ∧ f 6 = v168) (by kernel_rfl) S67.sl ?_ ?_
     ·
      intro w117 r118
      have S119 := S67.call r118
      refine FB.t (i := 0) (bs 10 1) rfl (SP.nil S119.sl) rfl (fun w' hw' => (E.move k76)) ?_
      refine FB.t (i := 1) (bs 10 3) rfl (SP.nil S119.sl) rfl (fun w' hw' => (E.move k74)) ?_
      refine FB.t (i := 3) (bs 10 11) rfl (SP.nil S119.sl) rfl (fun w' hw' => (E.move k75)) ?_
      refine FB.t (i := 5) (bs 10 43) rfl (SP.nil S119.sl) rfl (fun w' hw' => (E.fieldAddr tf28_1 k73)) ?_
      refine FB.t (i := 6) (bs 10 107) rfl (SP.nil S119.sl) rfl (fun w' hw' => (E.load rfl (run_load1 Try.isAgg22 ((at28.mono i68).now hw') rfl))) ?_
      refine FB.all1 (i := 2) (by kernel_rfl) ?_
      ·
       obtain ⟨R120, hR120⟩ : ∃ R120 : (List ByteArray) → Ending → World → Prop, R120 = (fun s120 e w => ∃ H : GH, ∃ v121 : Value, e = Ending.returned (v121) ∧ St Ha wa H w [.row 9 1 v57 n58 cs59, .row 9 1 v62 n63 cs64] ∧ Inc H66 H ∧ RSl H eS 1 v121 s120) := ⟨_, rfl⟩
       have hc120 : Calls Try.prog 46 #[v57, Value.string r29.2.1] w117 (R120 s120) := by
        clear hp; have hp := hq120; clear hq120
        refine calls_go (N := 10) (args := [v57, Value.string r29.2.1]) Try.func46 rfl rfl rfl ?_
        refine FW.seq (FW.region ?_)
        refine FL.v (E.assign (v := Value.slice none 0 0) rfl) ?_
        refine FL.nil (FW.seq (FW.region ?_))
        obtain ⟨v123, w124, run125, S126⟩ := S119.buildSlice (P := Try.prog) te22 [] (parts := #[]) (cells := []) rfl szs_nil fc_nil ones_nil (Nat.le_of_ble_eq_true rfl)
        have els127 : Els (up wa.heap.size H66) eS 1 [] [] := Els.nil
        refine FL.v (E.buildSlice (B0) run125) ?_
        refine FL.v (E.move (v := v57) rfl) ?_
        obtain ⟨xs128, hz129, hp⟩ := bnd hp
        obtain ⟨v130, w133, n131, cs132, run134, S135, els136, ce137⟩ := S126.appendO (P := Try.prog) te22 (i := 0) (j := 1) rfl els127 rfl els60 hz129
        have S135 : St Ha wa H66 w133 [.row 9 1 v130 n131 cs132, .row 9 1 v57 n58 cs59, .row 9 1 v62 n63 cs64] := S135
        refine FL.v (E.append rfl rfl run134) ?_
        refine FL.v (E.move (v := Value.string r29.2.1) rfl) ?_
        obtain ⟨H138, S139, i140, h141, nv142⟩ := S135.sealRowU (i := 0) (l' := [.row 9 1 v57 n58 cs59, .row 9 1 v62 n63 cs64]) rfl els136 (by decide) rfl
        obtain ⟨r143, hr144, hp⟩ := bnd hp
        refine FL.call rfl rfl rfl (E.call Try.call57 (A2 rfl rfl)) (w_spec_l22Put S139.sl v130 xs128 (h141.mono upI) r29.2.1 hr144) ?_
        rintro e w146 ⟨H145, v149, rfl, r148, h150⟩
        refine ⟨_, rfl, ?_⟩
        have S147 := S139.call r148
        refine FL.v (E.assign (v := v149) rfl) ?_
        refine FL.nil ?_
        refine FW.ret ?_
        obtain rfl := Option.some.inj hp
        exact ⟨.inr rfl, res1 rfl rfl (by rw [hR120]; exact ⟨_, _, rfl, S147, (i140.tr r148.inc), h150⟩)⟩
       clear hq120
       refine FC.call (l' := (bs 10 111)) rfl (by kernel_rfl) rfl rfl rfl (E.call Try.call46 (A2 rfl rfl)) hc120 ?_
       intro e w154 hQ120
       rw [hR120] at hQ120
       obtain ⟨H151, v121, rfl, S152, i153, h122⟩ := hQ120
       refine ⟨_, rfl, ?_⟩
       refine ⟨(SP.nil (Sl.of_inc i153 S152.sl)), ?_⟩
       refine FB.all1 (i := 4) (by kernel_rfl) ?_
       ·
        refine FC.call (l' := (bs 10 127)) rfl (by kernel_rfl) rfl rfl rfl (E.call Try.call46 (A2 rfl rfl)) (w_spec_l23With S152.sl v121 s120 h122 r29.2.2 hr156) ?_
        rintro e w158 ⟨H157, v161, rfl, r160, h162⟩
        refine ⟨_, rfl, ?_⟩
        have S159 := S152.call r160
        refine ⟨(SP.nil (Sl.of_inc (i153.tr r160.inc) S159.sl)), ?_⟩
        refine FB.t (i := 7) (bs 10 255) rfl (SP.nil (Sl.of_inc (i153.tr r160.inc) S159.sl)) rfl (fun w' hw' => (E.build (B2 rfl rfl) (run_build _ 28 #[(0, v161), (1, v0_1)] #[v161, v0_1] (by obtain ⟨_, _, rfl⟩ := RSl.ln h162; obtain ⟨_, _, rfl⟩ := RSl.ln (p0_1.mono (((i27.tr i68).tr i153).tr r160.inc)); rfl)))) ?_
        refine FB.all1 (i := 8) (by kernel_rfl) ?_
        ·
         obtain ⟨v163, w164, run165, S166⟩ := S159.buildSlice (P := Try.prog) te61 [Value.agg #[v161, v0_1]] (parts := #[(0, Value.agg #[v161, v0_1])]) (cells := [v161, v0_1]) rfl (szs_cons rfl szs_nil) (fc_cons rfl fc_nil) (ones_cons h162.one (ones_cons p0_1.one ones_nil)) (Nat.le_of_ble_eq_true rfl)
         have els167 : Els H157 eSequent 2 [v161, v0_1] [(Sequent.mk r155 a0.right)] := (Els.snoc (H := H157) (E := eSequent) (k := 2) (c := [v161, v0_1]) (x := (Sequent.mk r155 a0.right)) Els.nil rfl ⟨_, _, rfl, h162, (p0_1.mono (((i27.tr i68).tr i153).tr r160.inc))⟩)
         refine FC.val (l' := (bs 10 511)) rfl (by kernel_rfl) rfl rfl rfl (E.buildSlice (B1 rfl) run165) ?_
         refine ⟨(SP.nil (Sl.of_inc (i153.tr r160.inc) S166.sl)), ?_⟩
         refine FB.t (i := 9) (bs 10 1023) rfl (SP.nil (Sl.of_inc (i153.tr r160.inc) S166.sl)) rfl (fun w' hw' => (E.assign (v := v163) rfl)) ?_
         exact FB.done (by kernel_rfl) ⟨_, _, _, _, (S166.sel [0] (by decide) rfl), (i153.tr r160.inc), els167, rfl⟩
     ·
      rintro f176 w175 ⟨H172, v168, n169, cs170, S173, i174, els171, k177⟩
      refine FW.ret ?_
      obtain rfl := Option.some.inj hp
      exact ⟨.inr rfl, res1 rfl k177 ⟨_, _, _, _, rfl, S173, els171⟩⟩
    ·
     refine FW.condF rfl c116 ?_
     refine FW.seq (FW.region ?_)
     refine FL.v (E.eql rfl rfl) ?_
     refine FL.v (E.assign (v := Value.bool (a1 == 5)) rfl) ?_
     refine FL.nil ?_
     rcases ifB hp with ⟨c178, hp⟩ | ⟨c178, hp⟩
     ·
      refine FW.condT rfl c178 ?_
      refine FW.seq ?_
      obtain ⟨s182, hq182, hp⟩ := bnd hp
      obtain ⟨s217, hq217, hp⟩ := bnd hp
      refine FW.drawB (Sl H66) (fun f w => ∃ H : GH, ∃ v257 : Value, ∃ n258 : Nat, ∃ cs259 : List Value, St Ha wa H w [.row 28 2 v257 n258 cs259] ∧ Inc H66 H ∧ Els H eSequent 2 cs259 [(Sequent.mk a0.left s182), (Sequent.mk a0.left s217)] ∧ f 6 = v257) (by kernel_rfl) S67.sl ?_ ?_
      ·
       intro w179 r180
       have S181 := S67.call r180
       refine FB.t (i := 0) (bs 14 1) rfl (SP.nil S181.sl) rfl (fun w' hw' => (E.fieldAddr tf28_0 k73)) ?_
       refine FB.t (i := 1) (bs 14 3) rfl (SP.nil S181.sl) rfl (fun w' hw' => (E.load rfl (run_load1 Try.isAgg22 ((at28.mono i68).now hw') rfl))) ?_
       refine FB.t (i := 2) (bs 14 7) rfl (SP.nil S181.sl) rfl (fun w' hw' => (E.move k77)) ?_
       refine FB.t (i := 3) (bs 14 15) rfl (SP.nil S181.sl) rfl (fun w' hw' => (E.move k74)) ?_
       refine FB.t (i := 6) (bs 14 79) rfl (SP.nil S181.sl) rfl (fun w' hw' => (E.fieldAddr tf28_0 k73)) ?_
       refine FB.t (i := 7) (bs 14 207) rfl (SP.nil S181.sl) rfl (fun w' hw' => (E.load rfl (run_load1 Try.isAgg22 ((at28.mono i68).now hw') rfl))) ?_
       refine FB.t (i := 8) (bs 14 463) rfl (SP.nil S181.sl) rfl (fun w' hw' => (E.move k77)) ?_
       refine FB.t (i := 9) (bs 14 975) rfl (SP.nil S181.sl) rfl (fun w' hw' => (E.move k75)) ?_
       refine FB.all1 (i := 4) (by kernel_rfl) ?_
       ·
        obtain ⟨R182, hR182⟩ : ∃ R182 : (List ByteArray) → Ending → World → Prop, R182 = (fun s182 e w => ∃ H : GH, ∃ v183 : Value, e = Ending.returned (v183) ∧ St Ha wa H w [.row 9 1 v57 n58 cs59, .row 9 1 v62 n63 cs64] ∧ Inc H66 H ∧ RSl H eS 1 v183 s182) := ⟨_, rfl⟩
        have hc182 : Calls Try.prog 46 #[v62, Value.string r29.2.1] w179 (R182 s182) := by
         clear hp; have hp := hq182; clear hq182
         refine calls_go (N := 10) (args := [v62, Value.string r29.2.1]) Try.func46 rfl rfl rfl ?_
         refine FW.seq (FW.region ?_)
         refine FL.v (E.assign (v := Value.slice none 0 0) rfl) ?_
         refine FL.nil (FW.seq (FW.region ?_))
         obtain ⟨v185, w186, run187, S188⟩ := S181.buildSlice (P := Try.prog) te22 [] (parts := #[]) (cells := []) rfl szs_nil fc_nil ones_nil (Nat.le_of_ble_eq_true rfl)
         have els189 : Els (up wa.heap.size H66) eS 1 [] [] := Els.nil
         refine FL.v (E.buildSlice (B0) run187) ?_
         refine FL.v (E.move (v := v62) rfl) ?_
         obtain ⟨xs190, hz191, hp⟩ := bnd hp
         obtain ⟨v192, w195, n193, cs194, run196, S197, els198, ce199⟩ := S188.appendO (P := Try.prog) te22 (i := 0) (j := 2) rfl els189 rfl els65 hz191
         have S197 : St Ha wa H66 w195 [.row 9 1 v192 n193 cs194, .row 9 1 v57 n58 cs59, .row 9 1 v62 n63 cs64] := S197
         refine FL.v (E.append rfl rfl run196) ?_
         refine FL.v (E.move (v := Value.string r29.2.1) rfl) ?_
         obtain ⟨H200, S201, i202, h203, nv204⟩ := S197.sealRowU (i := 0) (l' := [.row 9 1 v57 n58 cs59, .row 9 1 v62 n63 cs64]) rfl els198 (by decide) rfl
         obtain ⟨r205, hr206, hp⟩ := bnd hp
         refine FL.call rfl rfl rfl (E.call Try.call57 (A2 rfl rfl)) (w_spec_l22Put S201.sl v192 xs190 (h203.mono upI) r29.2.1 hr206) ?_
         rintro e w208 ⟨H207, v211, rfl, r210, h212⟩
         refine ⟨_, rfl, ?_⟩
         have S209 := S201.call r210
         refine FL.v (E.assign (v := v211) rfl) ?_
         refine FL.nil ?_
         refine FW.ret ?_
         obtain rfl := Option.some.inj hp
         exact ⟨.inr rfl, res1 rfl rfl (by rw [hR182]; exact ⟨_, _, rfl, S209, (i202.tr r210.inc), h212⟩)⟩
        clear hq182
        refine FC.call (l' := (bs 14 991)) rfl (by kernel_rfl) rfl rfl rfl (E.call Try.call46 (A2 rfl rfl)) hc182 ?_
        intro e w216 hQ182
        rw [hR182] at hQ182
        obtain ⟨H213, v183, rfl, S214, i215, h184⟩ := hQ182
        refine ⟨_, rfl, ?_⟩
        refine ⟨(SP.nil (Sl.of_inc i215 S214.sl)), ?_⟩
        refine FB.t (i := 5) (bs 14 1023) rfl (SP.nil (Sl.of_inc i215 S214.sl)) rfl (fun w' hw' => (E.build (B2 rfl rfl) (run_build _ 28 #[(0, v0_0), (1, v183)] #[v0_0, v183] (by obtain ⟨_, _, rfl⟩ := RSl.ln (p0_0.mono ((i27.tr i68).tr i215)); obtain ⟨_, _, rfl⟩ := RSl.ln h184; rfl)))) ?_
        refine FB.all1 (i := 10) (by kernel_rfl) ?_
        ·
         obtain ⟨R217, hR217⟩ : ∃ R217 : (List ByteArray) → Ending → World → Prop, R217 = (fun s217 e w => ∃ H : GH, ∃ v218 : Value, e = Ending.returned (v218) ∧ St Ha wa H w [.row 9 1 v57 n58 cs59, .row 9 1 v62 n63 cs64] ∧ Inc H213 H ∧ RSl H eS 1 v218 s217) := ⟨_, rfl⟩
         have hc217 : Calls Try.prog 46 #[v62, Value.string r29.2.2] w216 (R217 s217) := by
          clear hp; have hp := hq217; clear hq217
          refine calls_go (N := 10) (args := [v62, Value.string r29.2.2]) Try.func46 rfl rfl rfl ?_
          refine FW.seq (FW.region ?_)
          refine FL.v (E.assign (v := Value.slice none 0 0) rfl) ?_
          refine FL.nil (FW.seq (FW.region ?_))
          obtain ⟨v220, w221, run222, S223⟩ := S214.buildSlice (P := Try.prog) te22 [] (parts := #[]) (cells := []) rfl szs_nil fc_nil ones_nil (Nat.le_of_ble_eq_true rfl)
          have els224 : Els (up wa.heap.size H213) eS 1 [] [] := Els.nil
          refine FL.v (E.buildSlice (B0) run222) ?_
          refine FL.v (E.move (v := v62) rfl) ?_
          obtain ⟨xs225, hz226, hp⟩ := bnd hp
          obtain ⟨v227, w230, n228, cs229, run231, S232, els233, ce234⟩ := S223.appendO (P := Try.prog) te22 (i := 0) (j := 2) rfl els224 rfl (els65.mono (up_mono i215)) hz226
          have S232 : St Ha wa H213 w230 [.row 9 1 v227 n228 cs229, .row 9 1 v57 n58 cs59, .row 9 1 v62 n63 cs64] := S232
          refine FL.v (E.append rfl rfl run231) ?_
          refine FL.v (E.move (v := Value.string r29.2.2) rfl) ?_
          obtain ⟨H235, S236, i237, h238, nv239⟩ := S232.sealRowU (i := 0) (l' := [.row 9 1 v57 n58 cs59, .row 9 1 v62 n63 cs64]) rfl els233 (by decide) rfl
          obtain ⟨r240, hr241, hp⟩ := bnd hp
          refine FL.call rfl rfl rfl (E.call Try.call57 (A2 rfl rfl)) (w_spec_l22Put S236.sl v227 xs225 (h238.mono upI) r29.2.2 hr241) ?_
          rintro e w243 ⟨H242, v246, rfl, r245, h247⟩
          refine ⟨_, rfl, ?_⟩
          have S244 := S236.call r245
          refine FL.v (E.assign (v := v246) rfl) ?_
          refine FL.nil ?_
          refine FW.ret ?_
          obtain rfl := Option.some.inj hp
          exact ⟨.inr rfl, res1 rfl rfl (by rw [hR217]; exact ⟨_, _, rfl, S244, (i237.tr r245.inc), h247⟩)⟩
         clear hq217
         refine FC.call (l' := (bs 14 2047)) rfl (by kernel_rfl) rfl rfl rfl (E.call Try.call46 (A2 rfl rfl)) hc217 ?_
         intro e w251 hQ217
         rw [hR217] at hQ217
         obtain ⟨H248, v218, rfl, S249, i250, h219⟩ := hQ217
         refine ⟨_, rfl, ?_⟩
         refine ⟨(SP.nil (Sl.of_inc (i215.tr i250) S249.sl)), ?_⟩
         refine FB.t (i := 11) (bs 14 4095) rfl (SP.nil (Sl.of_inc (i215.tr i250) S249.sl)) rfl (fun w' hw' => (E.build (B2 rfl rfl) (run_build _ 28 #[(0, v0_0), (1, v218)] #[v0_0, v218] (by obtain ⟨_, _, rfl⟩ := RSl.ln (p0_0.mono (((i27.tr i68).tr i215).tr i250)); obtain ⟨_, _, rfl⟩ := RSl.ln h219; rfl)))) ?_
         refine FB.all1 (i := 12) (by kernel_rfl) ?_
         ·
          obtain ⟨v252, w253, run254, S255⟩ := S249.buildSlice (P := Try.prog) te61 [Value.agg #[v0_0, v183], Value.agg #[v0_0, v218]] (parts := #[(0, Value.agg #[v0_0, v183]), (1, Value.agg #[v0_0, v218])]) (cells := [v0_0, v183, v0_0, v218]) rfl (szs_cons rfl (szs_cons rfl szs_nil)) (fc_cons rfl (fc_cons rfl fc_nil)) (ones_cons p0_0.one (ones_cons h184.one (ones_cons p0_0.one (ones_cons h219.one ones_nil)))) (Nat.le_of_ble_eq_true rfl)
          have els256 : Els H248 eSequent 2 [v0_0, v183, v0_0, v218] [(Sequent.mk a0.left s182), (Sequent.mk a0.left s217)] := (Els.snoc (H := H248) (E := eSequent) (k := 2) (c := [v0_0, v218]) (x := (Sequent.mk a0.left s217)) (Els.snoc (H := H248) (E := eSequent) (k := 2) (c := [v0_0, v183]) (x := (Sequent.mk a0.left s182)) Els.nil rfl ⟨_, _, rfl, (p0_0.mono (((i27.tr i68).tr i215).tr i250)), (h184.mono i250)⟩) rfl ⟨_, _, rfl, (p0_0.mono (((i27.tr i68).tr i215).tr i250)), h219⟩)
          refine FC.val (l' := (bs 14 8191)) rfl (by kernel_rfl) rfl rfl rfl (E.buildSlice (B2 rfl rfl) run254) ?_
          refine ⟨(SP.nil (Sl.of_inc (i215.tr i250) S255.sl)), ?_⟩
          refine FB.t (i := 13) (bs 14 16383) rfl (SP.nil (Sl.of_inc (i215.tr i250) S255.sl)) rfl (fun w' hw' => (E.assign (v := v252) rfl)) ?_
          exact FB.done (by kernel_rfl) ⟨_, _, _, _, (S255.sel [0] (by decide) rfl), (i215.tr i250), els256, rfl⟩
      ·
       rintro f265 w264 ⟨H261, v257, n258, cs259, S262, i263, els260, k266⟩
       refine FW.ret ?_
       obtain rfl := Option.some.inj hp
       exact ⟨.inr rfl, res1 rfl k266 ⟨_, _, _, _, rfl, S262, els260⟩⟩
     ·
      refine FW.condF rfl c178 ?_
      refine FW.seq (FW.region ?_)
      refine FL.v (E.eql rfl rfl) ?_
      refine FL.v (E.assign (v := Value.bool (a1 == 6)) rfl) ?_
      refine FL.nil ?_
      rcases ifB hp with ⟨c267, hp⟩ | ⟨c267, hp⟩
      ·
       refine FW.condT rfl c267 ?_
       refine FW.seq ?_
       obtain ⟨s271, hq271, hp⟩ := bnd hp
       obtain ⟨s306, hq306, hp⟩ := bnd hp
       refine FW.drawB (Sl H66) (fun f w => ∃ H : GH, ∃ v346 : Value, ∃ n347 : Nat, ∃ cs348 : List Value, St Ha wa H w [.row 28 2 v346 n347 cs348] ∧ Inc H66 H ∧ Els H eSequent 2 cs348 [(Sequent.mk s271 a0.right), (Sequent.mk s306 a0.right)] ∧ f 6 = v346) (by kernel_rfl) S67.sl ?_ ?_
       ·
        intro w268 r269
        have S270 := S67.call r269
        refine FB.t (i := 0) (bs 14 1) rfl (SP.nil S270.sl) rfl (fun w' hw' => (E.move k76)) ?_
        refine FB.t (i := 1) (bs 14 3) rfl (SP.nil S270.sl) rfl (fun w' hw' => (E.move k74)) ?_
        refine FB.t (i := 3) (bs 14 11) rfl (SP.nil S270.sl) rfl (fun w' hw' => (E.fieldAddr tf28_1 k73)) ?_
        refine FB.t (i := 4) (bs 14 27) rfl (SP.nil S270.sl) rfl (fun w' hw' => (E.load rfl (run_load1 Try.isAgg22 ((at28.mono i68).now hw') rfl))) ?_
        refine FB.t (i := 6) (bs 14 91) rfl (SP.nil S270.sl) rfl (fun w' hw' => (E.move k76)) ?_
        refine FB.t (i := 7) (bs 14 219) rfl (SP.nil S270.sl) rfl (fun w' hw' => (E.move k75)) ?_
        refine FB.t (i := 9) (bs 14 731) rfl (SP.nil S270.sl) rfl (fun w' hw' => (E.fieldAddr tf28_1 k73)) ?_
        refine FB.t (i := 10) (bs 14 1755) rfl (SP.nil S270.sl) rfl (fun w' hw' => (E.load rfl (run_load1 Try.isAgg22 ((at28.mono i68).now hw') rfl))) ?_
        refine FB.all1 (i := 2) (by kernel_rfl) ?_
        ·
         obtain ⟨R271, hR271⟩ : ∃ R271 : (List ByteArray) → Ending → World → Prop, R271 = (fun s271 e w => ∃ H : GH, ∃ v272 : Value, e = Ending.returned (v272) ∧ St Ha wa H w [.row 9 1 v57 n58 cs59, .row 9 1 v62 n63 cs64] ∧ Inc H66 H ∧ RSl H eS 1 v272 s271) := ⟨_, rfl⟩
         have hc271 : Calls Try.prog 46 #[v57, Value.string r29.2.1] w268 (R271 s271) := by
          clear hp; have hp := hq271; clear hq271
          refine calls_go (N := 10) (args := [v57, Value.string r29.2.1]) Try.func46 rfl rfl rfl ?_
          refine FW.seq (FW.region ?_)
          refine FL.v (E.assign (v := Value.slice none 0 0) rfl) ?_
          refine FL.nil (FW.seq (FW.region ?_))
          obtain ⟨v274, w275, run276, S277⟩ := S270.buildSlice (P := Try.prog) te22 [] (parts := #[]) (cells := []) rfl szs_nil fc_nil ones_nil (Nat.le_of_ble_eq_true rfl)
          have els278 : Els (up wa.heap.size H66) eS 1 [] [] := Els.nil
          refine FL.v (E.buildSlice (B0) run276) ?_
          refine FL.v (E.move (v := v57) rfl) ?_
          obtain ⟨xs279, hz280, hp⟩ := bnd hp
          obtain ⟨v281, w284, n282, cs283, run285, S286, els287, ce288⟩ := S277.appendO (P := Try.prog) te22 (i := 0) (j := 1) rfl els278 rfl els60 hz280
          have S286 : St Ha wa H66 w284 [.row 9 1 v281 n282 cs283, .row 9 1 v57 n58 cs59, .row 9 1 v62 n63 cs64] := S286
          refine FL.v (E.append rfl rfl run285) ?_
          refine FL.v (E.move (v := Value.string r29.2.1) rfl) ?_
          obtain ⟨H289, S290, i291, h292, nv293⟩ := S286.sealRowU (i := 0) (l' := [.row 9 1 v57 n58 cs59, .row 9 1 v62 n63 cs64]) rfl els287 (by decide) rfl
          obtain ⟨r294, hr295, hp⟩ := bnd hp
          refine FL.call rfl rfl rfl (E.call Try.call57 (A2 rfl rfl)) (w_spec_l22Put S290.sl v281 xs279 (h292.mono upI) r29.2.1 hr295) ?_
          rintro e w297 ⟨H296, v300, rfl, r299, h301⟩
          refine ⟨_, rfl, ?_⟩
          have S298 := S290.call r299
          refine FL.v (E.assign (v := v300) rfl) ?_
          refine FL.nil ?_
          refine FW.ret ?_
          obtain rfl := Option.some.inj hp
          exact ⟨.inr rfl, res1 rfl rfl (by rw [hR271]; exact ⟨_, _, rfl, S298, (i291.tr r299.inc), h301⟩)⟩
         clear hq271
         refine FC.call (l' := (bs 14 1759)) rfl (by kernel_rfl) rfl rfl rfl (E.call Try.call46 (A2 rfl rfl)) hc271 ?_
         intro e w305 hQ271
         rw [hR271] at hQ271
         obtain ⟨H302, v272, rfl, S303, i304, h273⟩ := hQ271
         refine ⟨_, rfl, ?_⟩
         refine ⟨(SP.nil (Sl.of_inc i304 S303.sl)), ?_⟩
         refine FB.t (i := 5) (bs 14 1791) rfl (SP.nil (Sl.of_inc i304 S303.sl)) rfl (fun w' hw' => (E.build (B2 rfl rfl) (run_build _ 28 #[(0, v272), (1, v0_1)] #[v272, v0_1] (by obtain ⟨_, _, rfl⟩ := RSl.ln h273; obtain ⟨_, _, rfl⟩ := RSl.ln (p0_1.mono ((i27.tr i68).tr i304)); rfl)))) ?_
         refine FB.all1 (i := 8) (by kernel_rfl) ?_
         ·
          obtain ⟨R306, hR306⟩ : ∃ R306 : (List ByteArray) → Ending → World → Prop, R306 = (fun s306 e w => ∃ H : GH, ∃ v307 : Value, e = Ending.returned (v307) ∧ St Ha wa H w [.row 9 1 v57 n58 cs59, .row 9 1 v62 n63 cs64] ∧ Inc H302 H ∧ RSl H eS 1 v307 s306) := ⟨_, rfl⟩
          have hc306 : Calls Try.prog 46 #[v57, Value.string r29.2.2] w305 (R306 s306) := by
           clear hp; have hp := hq306; clear hq306
           refine calls_go (N := 10) (args := [v57, Value.string r29.2.2]) Try.func46 rfl rfl rfl ?_
           refine FW.seq (FW.region ?_)
           refine FL.v (E.assign (v := Value.slice none 0 0) rfl) ?_
           refine FL.nil (FW.seq (FW.region ?_))
           obtain ⟨v309, w310, run311, S312⟩ := S303.buildSlice (P := Try.prog) te22 [] (parts := #[]) (cells := []) rfl szs_nil fc_nil ones_nil (Nat.le_of_ble_eq_true rfl)
           have els313 : Els (up wa.heap.size H302) eS 1 [] [] := Els.nil
           refine FL.v (E.buildSlice (B0) run311) ?_
           refine FL.v (E.move (v := v57) rfl) ?_
           obtain ⟨xs314, hz315, hp⟩ := bnd hp
           obtain ⟨v316, w319, n317, cs318, run320, S321, els322, ce323⟩ := S312.appendO (P := Try.prog) te22 (i := 0) (j := 1) rfl els313 rfl (els60.mono (up_mono i304)) hz315
           have S321 : St Ha wa H302 w319 [.row 9 1 v316 n317 cs318, .row 9 1 v57 n58 cs59, .row 9 1 v62 n63 cs64] := S321
           refine FL.v (E.append rfl rfl run320) ?_
           refine FL.v (E.move (v := Value.string r29.2.2) rfl) ?_
           obtain ⟨H324, S325, i326, h327, nv328⟩ := S321.sealRowU (i := 0) (l' := [.row 9 1 v57 n58 cs59, .row 9 1 v62 n63 cs64]) rfl els322 (by decide) rfl
           obtain ⟨r329, hr330, hp⟩ := bnd hp
           refine FL.call rfl rfl rfl (E.call Try.call57 (A2 rfl rfl)) (w_spec_l22Put S325.sl v316 xs314 (h327.mono upI) r29.2.2 hr330) ?_
           rintro e w332 ⟨H331, v335, rfl, r334, h336⟩
           refine ⟨_, rfl, ?_⟩
           have S333 := S325.call r334
           refine FL.v (E.assign (v := v335) rfl) ?_
           refine FL.nil ?_
           refine FW.ret ?_
           obtain rfl := Option.some.inj hp
           exact ⟨.inr rfl, res1 rfl rfl (by rw [hR306]; exact ⟨_, _, rfl, S333, (i326.tr r334.inc), h336⟩)⟩
          clear hq306
          refine FC.call (l' := (bs 14 2047)) rfl (by kernel_rfl) rfl rfl rfl (E.call Try.call46 (A2 rfl rfl)) hc306 ?_
          intro e w340 hQ306
          rw [hR306] at hQ306
          obtain ⟨H337, v307, rfl, S338, i339, h308⟩ := hQ306
          refine ⟨_, rfl, ?_⟩
          refine ⟨(SP.nil (Sl.of_inc (i304.tr i339) S338.sl)), ?_⟩
          refine FB.t (i := 11) (bs 14 4095) rfl (SP.nil (Sl.of_inc (i304.tr i339) S338.sl)) rfl (fun w' hw' => (E.build (B2 rfl rfl) (run_build _ 28 #[(0, v307), (1, v0_1)] #[v307, v0_1] (by obtain ⟨_, _, rfl⟩ := RSl.ln h308; obtain ⟨_, _, rfl⟩ := RSl.ln (p0_1.mono (((i27.tr i68).tr i304).tr i339)); rfl)))) ?_
          refine FB.all1 (i := 12) (by kernel_rfl) ?_
          ·
           obtain ⟨v341, w342, run343, S344⟩ := S338.buildSlice (P := Try.prog) te61 [Value.agg #[v272, v0_1], Value.agg #[v307, v0_1]] (parts := #[(0, Value.agg #[v272, v0_1]), (1, Value.agg #[v307, v0_1])]) (cells := [v272, v0_1, v307, v0_1]) rfl (szs_cons rfl (szs_cons rfl szs_nil)) (fc_cons rfl (fc_cons rfl fc_nil)) (ones_cons h273.one (ones_cons p0_1.one (ones_cons h308.one (ones_cons p0_1.one ones_nil)))) (Nat.le_of_ble_eq_true rfl)
           have els345 : Els H337 eSequent 2 [v272, v0_1, v307, v0_1] [(Sequent.mk s271 a0.right), (Sequent.mk s306 a0.right)] := (Els.snoc (H := H337) (E := eSequent) (k := 2) (c := [v307, v0_1]) (x := (Sequent.mk s306 a0.right)) (Els.snoc (H := H337) (E := eSequent) (k := 2) (c := [v272, v0_1]) (x := (Sequent.mk s271 a0.right)) Els.nil rfl ⟨_, _, rfl, (h273.mono i339), (p0_1.mono (((i27.tr i68).tr i304).tr i339))⟩) rfl ⟨_, _, rfl, h308, (p0_1.mono (((i27.tr i68).tr i304).tr i339))⟩)
           refine FC.val (l' := (bs 14 8191)) rfl (by kernel_rfl) rfl rfl rfl (E.buildSlice (B2 rfl rfl) run343) ?_
           refine ⟨(SP.nil (Sl.of_inc (i304.tr i339) S344.sl)), ?_⟩
           refine FB.t (i := 13) (bs 14 16383) rfl (SP.nil (Sl.of_inc (i304.tr i339) S344.sl)) rfl (fun w' hw' => (E.assign (v := v341) rfl)) ?_
           exact FB.done (by kernel_rfl) ⟨_, _, _, _, (S344.sel [0] (by decide) rfl), (i304.tr i339), els345, rfl⟩
       ·
        rintro f354 w353 ⟨H350, v346, n347, cs348, S351, i352, els349, k355⟩
        refine FW.ret ?_
        obtain rfl := Option.some.inj hp
        exact ⟨.inr rfl, res1 rfl k355 ⟨_, _, _, _, rfl, S351, els349⟩⟩
      ·
       refine FW.condF rfl c267 ?_
       refine FW.seq (FW.region ?_)
       refine FL.v (E.eql rfl rfl) ?_
       refine FL.v (E.assign (v := Value.bool (a1 == 7)) rfl) ?_
       refine FL.nil ?_
       rcases ifB hp with ⟨c356, hp⟩ | ⟨c356, hp⟩
       ·
        refine FW.condT rfl c356 ?_
        refine FW.seq ?_
        obtain ⟨s360, hq360, hp⟩ := bnd hp
        obtain ⟨r395, hr396, hp⟩ := bnd hp
        refine FW.drawB (Sl H66) (fun f w => ∃ H : GH, ∃ v408 : Value, ∃ n409 : Nat, ∃ cs410 : List Value, St Ha wa H w [.row 28 2 v408 n409 cs410] ∧ Inc H66 H ∧ Els H eSequent 2 cs410 [(Sequent.mk a0.left r395)] ∧ f 6 = v408) (by kernel_rfl) S67.sl ?_ ?_
        ·
         intro w357 r358
         have S359 := S67.call r358
         refine FB.t (i := 0) (bs 10 1) rfl (SP.nil S359.sl) rfl (fun w' hw' => (E.fieldAddr tf28_0 k73)) ?_
         refine FB.t (i := 1) (bs 10 3) rfl (SP.nil S359.sl) rfl (fun w' hw' => (E.load rfl (run_load1 Try.isAgg22 ((at28.mono i68).now hw') rfl))) ?_
         refine FB.t (i := 2) (bs 10 7) rfl (SP.nil S359.sl) rfl (fun w' hw' => (E.move k77)) ?_
         refine FB.t (i := 3) (bs 10 15) rfl (SP.nil S359.sl) rfl (fun w' hw' => (E.move k74)) ?_
         refine FB.t (i := 5) (bs 10 47) rfl (SP.nil S359.sl) rfl (fun w' hw' => (E.move k75)) ?_
         refine FB.all1 (i := 4) (by kernel_rfl) ?_
         ·
          obtain ⟨R360, hR360⟩ : ∃ R360 : (List ByteArray) → Ending → World → Prop, R360 = (fun s360 e w => ∃ H : GH, ∃ v361 : Value, e = Ending.returned (v361) ∧ St Ha wa H w [.row 9 1 v57 n58 cs59, .row 9 1 v62 n63 cs64] ∧ Inc H66 H ∧ RSl H eS 1 v361 s360) := ⟨_, rfl⟩
          have hc360 : Calls Try.prog 46 #[v62, Value.string r29.2.1] w357 (R360 s360) := by
           clear hp; have hp := hq360; clear hq360
           refine calls_go (N := 10) (args := [v62, Value.string r29.2.1]) Try.func46 rfl rfl rfl ?_
           refine FW.seq (FW.region ?_)
           refine FL.v (E.assign (v := Value.slice none 0 0) rfl) ?_
           refine FL.nil (FW.seq (FW.region ?_))
           obtain ⟨v363, w364, run365, S366⟩ := S359.buildSlice (P := Try.prog) te22 [] (parts := #[]) (cells := []) rfl szs_nil fc_nil ones_nil (Nat.le_of_ble_eq_true rfl)
           have els367 : Els (up wa.heap.size H66) eS 1 [] [] := Els.nil
           refine FL.v (E.buildSlice (B0) run365) ?_
           refine FL.v (E.move (v := v62) rfl) ?_
           obtain ⟨xs368, hz369, hp⟩ := bnd hp
           obtain ⟨v370, w373, n371, cs372, run374, S375, els376, ce377⟩ := S366.appendO (P := Try.prog) te22 (i := 0) (j := 2) rfl els367 rfl els65 hz369
           have S375 : St Ha wa H66 w373 [.row 9 1 v370 n371 cs372, .row 9 1 v57 n58 cs59, .row 9 1 v62 n63 cs64] := S375
           refine FL.v (E.append rfl rfl run374) ?_
           refine FL.v (E.move (v := Value.string r29.2.1) rfl) ?_
           obtain ⟨H378, S379, i380, h381, nv382⟩ := S375.sealRowU (i := 0) (l' := [.row 9 1 v57 n58 cs59, .row 9 1 v62 n63 cs64]) rfl els376 (by decide) rfl
           obtain ⟨r383, hr384, hp⟩ := bnd hp
           refine FL.call rfl rfl rfl (E.call Try.call57 (A2 rfl rfl)) (w_spec_l22Put S379.sl v370 xs368 (h381.mono upI) r29.2.1 hr384) ?_
           rintro e w386 ⟨H385, v389, rfl, r388, h390⟩
           refine ⟨_, rfl, ?_⟩
           have S387 := S379.call r388
           refine FL.v (E.assign (v := v389) rfl) ?_
           refine FL.nil ?_
           refine FW.ret ?_
           obtain rfl := Option.some.inj hp
           exact ⟨.inr rfl, res1 rfl rfl (by rw [hR360]; exact ⟨_, _, rfl, S387, (i380.tr r388.inc), h390⟩)⟩
          clear hq360
          refine FC.call (l' := (bs 10 63)) rfl (by kernel_rfl) rfl rfl rfl (E.call Try.call46 (A2 rfl rfl)) hc360 ?_
          intro e w394 hQ360
          rw [hR360] at hQ360
          obtain ⟨H391, v361, rfl, S392, i393, h362⟩ := hQ360
          refine ⟨_, rfl, ?_⟩
          refine ⟨(SP.nil (Sl.of_inc i393 S392.sl)), ?_⟩
          refine FB.all1 (i := 6) (by kernel_rfl) ?_
          ·
           refine FC.call (l' := (bs 10 127)) rfl (by kernel_rfl) rfl rfl rfl (E.call Try.call46 (A2 rfl rfl)) (w_spec_l23With S392.sl v361 s360 h362 r29.2.2 hr396) ?_
           rintro e w398 ⟨H397, v401, rfl, r400, h402⟩
           refine ⟨_, rfl, ?_⟩
           have S399 := S392.call r400
           refine ⟨(SP.nil (Sl.of_inc (i393.tr r400.inc) S399.sl)), ?_⟩
           refine FB.t (i := 7) (bs 10 255) rfl (SP.nil (Sl.of_inc (i393.tr r400.inc) S399.sl)) rfl (fun w' hw' => (E.build (B2 rfl rfl) (run_build _ 28 #[(0, v0_0), (1, v401)] #[v0_0, v401] (by obtain ⟨_, _, rfl⟩ := RSl.ln (p0_0.mono (((i27.tr i68).tr i393).tr r400.inc)); obtain ⟨_, _, rfl⟩ := RSl.ln h402; rfl)))) ?_
           refine FB.all1 (i := 8) (by kernel_rfl) ?_
           ·
            obtain ⟨v403, w404, run405, S406⟩ := S399.buildSlice (P := Try.prog) te61 [Value.agg #[v0_0, v401]] (parts := #[(0, Value.agg #[v0_0, v401])]) (cells := [v0_0, v401]) rfl (szs_cons rfl szs_nil) (fc_cons rfl fc_nil) (ones_cons p0_0.one (ones_cons h402.one ones_nil)) (Nat.le_of_ble_eq_true rfl)
            have els407 : Els H397 eSequent 2 [v0_0, v401] [(Sequent.mk a0.left r395)] := (Els.snoc (H := H397) (E := eSequent) (k := 2) (c := [v0_0, v401]) (x := (Sequent.mk a0.left r395)) Els.nil rfl ⟨_, _, rfl, (p0_0.mono (((i27.tr i68).tr i393).tr r400.inc)), h402⟩)
            refine FC.val (l' := (bs 10 511)) rfl (by kernel_rfl) rfl rfl rfl (E.buildSlice (B1 rfl) run405) ?_
            refine ⟨(SP.nil (Sl.of_inc (i393.tr r400.inc) S406.sl)), ?_⟩
            refine FB.t (i := 9) (bs 10 1023) rfl (SP.nil (Sl.of_inc (i393.tr r400.inc) S406.sl)) rfl (fun w' hw' => (E.assign (v := v403) rfl)) ?_
            exact FB.done (by kernel_rfl) ⟨_, _, _, _, (S406.sel [0] (by decide) rfl), (i393.tr r400.inc), els407, rfl⟩
        ·
         rintro f416 w415 ⟨H412, v408, n409, cs410, S413, i414, els411, k417⟩
         refine FW.ret ?_
         obtain rfl := Option.some.inj hp
         exact ⟨.inr rfl, res1 rfl k417 ⟨_, _, _, _, rfl, S413, els411⟩⟩
       ·
        refine FW.condF rfl c356 ?_
        refine FW.seq (FW.region ?_)
        refine FL.v (E.eql rfl rfl) ?_
        refine FL.v (E.assign (v := Value.bool (a1 == 8)) rfl) ?_
        refine FL.nil ?_
        rcases ifB hp with ⟨c418, hp⟩ | ⟨c418, hp⟩
        ·
         refine FW.condT rfl c418 ?_
         refine FW.seq ?_
         obtain ⟨r422, hr423, hp⟩ := bnd hp
         obtain ⟨r435, hr436, hp⟩ := bnd hp
         refine FW.drawB (Sl H66) (fun f w => ∃ H : GH, ∃ v448 : Value, ∃ n449 : Nat, ∃ cs450 : List Value, St Ha wa H w [.row 28 2 v448 n449 cs450] ∧ Inc H66 H ∧ Els H eSequent 2 cs450 [(Sequent.mk r37 r422), (Sequent.mk r435 a0.right)] ∧ f 6 = v448) (by kernel_rfl) S67.sl ?_ ?_
         ·
          intro w419 r420
          have S421 := S67.call r420
          refine FB.t (i := 0) (bs 14 1) rfl (SP.nil S421.sl) rfl (fun w' hw' => (E.move k76)) ?_
          refine FB.t (i := 1) (bs 14 3) rfl (SP.nil S421.sl) rfl (fun w' hw' => (E.fieldAddr tf28_1 k73)) ?_
          refine FB.t (i := 2) (bs 14 7) rfl (SP.nil S421.sl) rfl (fun w' hw' => (E.load rfl (run_load1 Try.isAgg22 ((at28.mono i68).now hw') rfl))) ?_
          refine FB.t (i := 3) (bs 14 15) rfl (SP.nil S421.sl) rfl (fun w' hw' => (E.move k74)) ?_
          refine FB.t (i := 6) (bs 14 79) rfl (SP.nil S421.sl) rfl (fun w' hw' => (E.move k76)) ?_
          refine FB.t (i := 7) (bs 14 207) rfl (SP.nil S421.sl) rfl (fun w' hw' => (E.move k75)) ?_
          refine FB.t (i := 9) (bs 14 719) rfl (SP.nil S421.sl) rfl (fun w' hw' => (E.fieldAddr tf28_1 k73)) ?_
          refine FB.t (i := 10) (bs 14 1743) rfl (SP.nil S421.sl) rfl (fun w' hw' => (E.load rfl (run_load1 Try.isAgg22 ((at28.mono i68).now hw') rfl))) ?_
          refine FB.all1 (i := 4) (by kernel_rfl) ?_
          ·
           refine FC.call (l' := (bs 14 1759)) rfl (by kernel_rfl) rfl rfl rfl (E.call Try.call46 (A2 rfl rfl)) (w_spec_l23With S421.sl v0_1 a0.right (p0_1.mono (i27.tr i68)) r29.2.1 hr423) ?_
           rintro e w425 ⟨H424, v428, rfl, r427, h429⟩
           refine ⟨_, rfl, ?_⟩
           have S426 := S421.call r427
           refine ⟨(SP.nil (Sl.of_inc r427.inc S426.sl)), ?_⟩
           obtain ⟨H430, S431, i432, h433, nv434⟩ := S426.sealRowU (i := 0) (l' := [.row 9 1 v62 n63 cs64]) rfl (els60.mono (up_mono r427.inc)) (by decide) rfl
           refine FB.t (i := 5) (bs 14 1791) rfl (SP.nil (Sl.of_inc r427.inc S426.sl)) rfl (fun w' hw' => (E.build (B2 rfl rfl) (run_build _ 28 #[(0, v57), (1, v428)] #[v57, v428] (by obtain ⟨_, _, rfl⟩ := RSl.ln (h433.mono upI); obtain ⟨_, _, rfl⟩ := RSl.ln (h429.mono i432); rfl)))) ?_
           refine FB.all1 (i := 8) (by kernel_rfl) ?_
           ·
            refine FC.call (l' := (bs 14 2047)) rfl (by kernel_rfl) rfl rfl rfl (E.call Try.call46 (A2 rfl rfl)) (w_spec_l23With S431.sl v57 r37 (h433.mono upI) r29.2.2 hr436) ?_
            rintro e w438 ⟨H437, v441, rfl, r440, h442⟩
            refine ⟨_, rfl, ?_⟩
            have S439 := S431.call r440
            refine ⟨(SP.nil (Sl.of_inc ((r427.inc.tr i432).tr r440.inc) S439.sl)), ?_⟩
            refine FB.t (i := 11) (bs 14 4095) rfl (SP.nil (Sl.of_inc ((r427.inc.tr i432).tr r440.inc) S439.sl)) rfl (fun w' hw' => (E.build (B2 rfl rfl) (run_build _ 28 #[(0, v441), (1, v0_1)] #[v441, v0_1] (by obtain ⟨_, _, rfl⟩ := RSl.ln h442; obtain ⟨_, _, rfl⟩ := RSl.ln (p0_1.mono ((((i27.tr i68).tr r427.inc).tr i432).tr r440.inc)); rfl)))) ?_
            refine FB.all1 (i := 12) (by kernel_rfl) ?_
            ·
             obtain ⟨v443, w444, run445, S446⟩ := S439.buildSlice (P := Try.prog) te61 [Value.agg #[v57, v428], Value.agg #[v441, v0_1]] (parts := #[(0, Value.agg #[v57, v428]), (1, Value.agg #[v441, v0_1])]) (cells := [v57, v428, v441, v0_1]) rfl (szs_cons rfl (szs_cons rfl szs_nil)) (fc_cons rfl (fc_cons rfl fc_nil)) (ones_cons h433.one (ones_cons h429.one (ones_cons h442.one (ones_cons p0_1.one ones_nil)))) (Nat.le_of_ble_eq_true rfl)
             have els447 : Els H437 eSequent 2 [v57, v428, v441, v0_1] [(Sequent.mk r37 r422), (Sequent.mk r435 a0.right)] := (Els.snoc (H := H437) (E := eSequent) (k := 2) (c := [v441, v0_1]) (x := (Sequent.mk r435 a0.right)) (Els.snoc (H := H437) (E := eSequent) (k := 2) (c := [v57, v428]) (x := (Sequent.mk r37 r422)) Els.nil rfl ⟨_, _, rfl, (h433.mono (upI.tr r440.inc)), (h429.mono (i432.tr r440.inc))⟩) rfl ⟨_, _, rfl, h442, (p0_1.mono ((((i27.tr i68).tr r427.inc).tr i432).tr r440.inc))⟩)
             refine FC.val (l' := (bs 14 8191)) rfl (by kernel_rfl) rfl rfl rfl (E.buildSlice (B2 rfl rfl) run445) ?_
             refine ⟨(SP.nil (Sl.of_inc ((r427.inc.tr i432).tr r440.inc) S446.sl)), ?_⟩
             refine FB.t (i := 13) (bs 14 16383) rfl (SP.nil (Sl.of_inc ((r427.inc.tr i432).tr r440.inc) S446.sl)) rfl (fun w' hw' => (E.assign (v := v443) rfl)) ?_
             exact FB.done (by kernel_rfl) ⟨_, _, _, _, (S446.sel [0] (by decide) rfl), ((r427.inc.tr i432).tr r440.inc), els447, rfl⟩
         ·
          rintro f456 w455 ⟨H452, v448, n449, cs450, S453, i454, els451, k457⟩
          refine FW.ret ?_
          obtain rfl := Option.some.inj hp
          exact ⟨.inr rfl, res1 rfl k457 ⟨_, _, _, _, rfl, S453, els451⟩⟩
        ·
         refine FW.condF rfl c418 ?_
         refine FW.seq (FW.region ?_)
         refine FL.v (E.eql rfl rfl) ?_
         refine FL.v (E.assign (v := Value.bool (a1 == 9)) rfl) ?_
         refine FL.nil ?_
         rcases ifB hp with ⟨c458, hp⟩ | ⟨c458, hp⟩
         ·
          refine FW.condT rfl c458 ?_
          refine FW.seq (FW.region ?_)
          refine FL.v (E.fieldAddr tf28_0 k73) ?_
          refine FL.v (E.load rfl (run_load1 Try.isAgg22 ((at28.mono i68).now S67.sl) rfl)) ?_
          refine FL.v (E.move k74) ?_
          obtain ⟨r459, hr460, hp⟩ := bnd hp
          refine FL.call rfl rfl rfl (E.call Try.call46 (A2 rfl rfl)) (w_spec_l23With S67.sl v0_0 a0.left (p0_0.mono (i27.tr i68)) r29.2.1 hr460) ?_
          rintro e w462 ⟨H461, v465, rfl, r464, h466⟩
          refine ⟨_, rfl, ?_⟩
          have S463 := S67.call r464
          refine FL.v (E.move k77) ?_
          refine FL.v (E.move k75) ?_
          obtain ⟨s467, hq467, hp⟩ := bnd hp
          obtain ⟨R467, hR467⟩ : ∃ R467 : (List ByteArray) → Ending → World → Prop, R467 = (fun s467 e w => ∃ H : GH, ∃ v468 : Value, e = Ending.returned (v468) ∧ St Ha wa H w [.row 9 1 v57 n58 cs59, .row 9 1 v62 n63 cs64] ∧ Inc H461 H ∧ RSl H eS 1 v468 s467) := ⟨_, rfl⟩
          have hc467 : Calls Try.prog 46 #[v62, Value.string r29.2.2] w462 (R467 s467) := by
           clear hp; have hp := hq467; clear hq467
           refine calls_go (N := 10) (args := [v62, Value.string r29.2.2]) Try.func46 rfl rfl rfl ?_
           refine FW.seq (FW.region ?_)
           refine FL.v (E.assign (v := Value.slice none 0 0) rfl) ?_
           refine FL.nil (FW.seq (FW.region ?_))
           obtain ⟨v470, w471, run472, S473⟩ := S463.buildSlice (P := Try.prog) te22 [] (parts := #[]) (cells := []) rfl szs_nil fc_nil ones_nil (Nat.le_of_ble_eq_true rfl)
           have els474 : Els (up wa.heap.size H461) eS 1 [] [] := Els.nil
           refine FL.v (E.buildSlice (B0) run472) ?_
           refine FL.v (E.move (v := v62) rfl) ?_
           obtain ⟨xs475, hz476, hp⟩ := bnd hp
           obtain ⟨v477, w480, n478, cs479, run481, S482, els483, ce484⟩ := S473.appendO (P := Try.prog) te22 (i := 0) (j := 2) rfl els474 rfl (els65.mono (up_mono r464.inc)) hz476
           have S482 : St Ha wa H461 w480 [.row 9 1 v477 n478 cs479, .row 9 1 v57 n58 cs59, .row 9 1 v62 n63 cs64] := S482
           refine FL.v (E.append rfl rfl run481) ?_
           refine FL.v (E.move (v := Value.string r29.2.2) rfl) ?_
           obtain ⟨H485, S486, i487, h488, nv489⟩ := S482.sealRowU (i := 0) (l' := [.row 9 1 v57 n58 cs59, .row 9 1 v62 n63 cs64]) rfl els483 (by decide) rfl
           obtain ⟨r490, hr491, hp⟩ := bnd hp
           refine FL.call rfl rfl rfl (E.call Try.call57 (A2 rfl rfl)) (w_spec_l22Put S486.sl v477 xs475 (h488.mono upI) r29.2.2 hr491) ?_
           rintro e w493 ⟨H492, v496, rfl, r495, h497⟩
           refine ⟨_, rfl, ?_⟩
           have S494 := S486.call r495
           refine FL.v (E.assign (v := v496) rfl) ?_
           refine FL.nil ?_
           refine FW.ret ?_
           obtain rfl := Option.some.inj hp
           exact ⟨.inr rfl, res1 rfl rfl (by rw [hR467]; exact ⟨_, _, rfl, S494, (i487.tr r495.inc), h497⟩)⟩
          clear hq467
          refine FL.call rfl rfl rfl (E.call Try.call46 (A2 rfl rfl)) hc467 ?_
          intro e w501 hQ467
          rw [hR467] at hQ467
          obtain ⟨H498, v468, rfl, S499, i500, h469⟩ := hQ467
          refine ⟨_, rfl, ?_⟩
          refine FL.v (E.build (B2 rfl rfl) (run_build _ 28 #[(0, v465), (1, v468)] #[v465, v468] (by obtain ⟨_, _, rfl⟩ := RSl.ln (h466.mono i500); obtain ⟨_, _, rfl⟩ := RSl.ln h469; rfl))) ?_
          obtain ⟨v502, w503, run504, S505⟩ := S499.buildSlice (P := Try.prog) te61 [Value.agg #[v465, v468]] (parts := #[(0, Value.agg #[v465, v468])]) (cells := [v465, v468]) rfl (szs_cons rfl szs_nil) (fc_cons rfl fc_nil) (ones_cons h466.one (ones_cons h469.one ones_nil)) (Nat.le_of_ble_eq_true rfl)
          have els506 : Els H498 eSequent 2 [v465, v468] [(Sequent.mk r459 s467)] := (Els.snoc (H := H498) (E := eSequent) (k := 2) (c := [v465, v468]) (x := (Sequent.mk r459 s467)) Els.nil rfl ⟨_, _, rfl, (h466.mono i500), h469⟩)
          refine FL.v (E.buildSlice (B1 rfl) run504) ?_
          refine FL.v (E.assign (v := v502) rfl) ?_
          refine FL.nil ?_
          refine FW.ret ?_
          obtain rfl := Option.some.inj hp
          exact ⟨.inr rfl, res1 rfl rfl ⟨_, _, _, _, rfl, (S505.sel [0] (by decide) rfl), els506⟩⟩
         ·
          refine FW.condF rfl c458 ?_
          refine FW.skip (FW.seq ?_)
          obtain ⟨r510, hr511, hp⟩ := bnd hp
          obtain ⟨r518, hr519, hp⟩ := bnd hp
          refine FW.drawB (Sl H66) (fun f w => ∃ H : GH, ∃ v531 : Value, ∃ n532 : Nat, ∃ cs533 : List Value, St Ha wa H w [.row 28 2 v531 n532 cs533] ∧ Inc H66 H ∧ Els H eSequent 2 cs533 [(Sequent.mk a0.left r510), (Sequent.mk r518 a0.right)] ∧ f 6 = v531) (by kernel_rfl) S67.sl ?_ ?_
          ·
           intro w507 r508
           have S509 := S67.call r508
           refine FB.t (i := 0) (bs 16 1) rfl (SP.nil S509.sl) rfl (fun w' hw' => (E.fieldAddr tf28_0 k73)) ?_
           refine FB.t (i := 1) (bs 16 3) rfl (SP.nil S509.sl) rfl (fun w' hw' => (E.load rfl (run_load1 Try.isAgg22 ((at28.mono i68).now hw') rfl))) ?_
           refine FB.t (i := 2) (bs 16 7) rfl (SP.nil S509.sl) rfl (fun w' hw' => (E.fieldAddr tf28_1 k73)) ?_
           refine FB.t (i := 3) (bs 16 15) rfl (SP.nil S509.sl) rfl (fun w' hw' => (E.load rfl (run_load1 Try.isAgg22 ((at28.mono i68).now hw') rfl))) ?_
           refine FB.t (i := 4) (bs 16 31) rfl (SP.nil S509.sl) rfl (fun w' hw' => (E.move k72)) ?_
           refine FB.t (i := 7) (bs 16 159) rfl (SP.nil S509.sl) rfl (fun w' hw' => (E.fieldAddr tf28_0 k73)) ?_
           refine FB.t (i := 8) (bs 16 415) rfl (SP.nil S509.sl) rfl (fun w' hw' => (E.load rfl (run_load1 Try.isAgg22 ((at28.mono i68).now hw') rfl))) ?_
           refine FB.t (i := 9) (bs 16 927) rfl (SP.nil S509.sl) rfl (fun w' hw' => (E.move k72)) ?_
           refine FB.t (i := 11) (bs 16 2975) rfl (SP.nil S509.sl) rfl (fun w' hw' => (E.fieldAddr tf28_1 k73)) ?_
           refine FB.t (i := 12) (bs 16 7071) rfl (SP.nil S509.sl) rfl (fun w' hw' => (E.load rfl (run_load1 Try.isAgg22 ((at28.mono i68).now hw') rfl))) ?_
           refine FB.all1 (i := 5) (by kernel_rfl) ?_
           ·
            refine FC.call (l' := (bs 16 7103)) rfl (by kernel_rfl) rfl rfl rfl (E.call Try.call46 (A2 rfl rfl)) (w_spec_l23With S509.sl v0_1 a0.right (p0_1.mono (i27.tr i68)) a2 hr511) ?_
            rintro e w513 ⟨H512, v516, rfl, r515, h517⟩
            refine ⟨_, rfl, ?_⟩
            have S514 := S509.call r515
            refine ⟨(SP.nil (Sl.of_inc r515.inc S514.sl)), ?_⟩
            refine FB.t (i := 6) (bs 16 7167) rfl (SP.nil (Sl.of_inc r515.inc S514.sl)) rfl (fun w' hw' => (E.build (B2 rfl rfl) (run_build _ 28 #[(0, v0_0), (1, v516)] #[v0_0, v516] (by obtain ⟨_, _, rfl⟩ := RSl.ln (p0_0.mono ((i27.tr i68).tr r515.inc)); obtain ⟨_, _, rfl⟩ := RSl.ln h517; rfl)))) ?_
            refine FB.all1 (i := 10) (by kernel_rfl) ?_
            ·
             refine FC.call (l' := (bs 16 8191)) rfl (by kernel_rfl) rfl rfl rfl (E.call Try.call46 (A2 rfl rfl)) (w_spec_l23With S514.sl v0_0 a0.left (p0_0.mono ((i27.tr i68).tr r515.inc)) a2 hr519) ?_
             rintro e w521 ⟨H520, v524, rfl, r523, h525⟩
             refine ⟨_, rfl, ?_⟩
             have S522 := S514.call r523
             refine ⟨(SP.nil (Sl.of_inc (r515.inc.tr r523.inc) S522.sl)), ?_⟩
             refine FB.t (i := 13) (bs 16 16383) rfl (SP.nil (Sl.of_inc (r515.inc.tr r523.inc) S522.sl)) rfl (fun w' hw' => (E.build (B2 rfl rfl) (run_build _ 28 #[(0, v524), (1, v0_1)] #[v524, v0_1] (by obtain ⟨_, _, rfl⟩ := RSl.ln h525; obtain ⟨_, _, rfl⟩ := RSl.ln (p0_1.mono (((i27.tr i68).tr r515.inc).tr r523.inc)); rfl)))) ?_
             refine FB.all1 (i := 14) (by kernel_rfl) ?_
             ·
              obtain ⟨v526, w527, run528, S529⟩ := S522.buildSlice (P := Try.prog) te61 [Value.agg #[v0_0, v516], Value.agg #[v524, v0_1]] (parts := #[(0, Value.agg #[v0_0, v516]), (1, Value.agg #[v524, v0_1])]) (cells := [v0_0, v516, v524, v0_1]) rfl (szs_cons rfl (szs_cons rfl szs_nil)) (fc_cons rfl (fc_cons rfl fc_nil)) (ones_cons p0_0.one (ones_cons h517.one (ones_cons h525.one (ones_cons p0_1.one ones_nil)))) (Nat.le_of_ble_eq_true rfl)
              have els530 : Els H520 eSequent 2 [v0_0, v516, v524, v0_1] [(Sequent.mk a0.left r510), (Sequent.mk r518 a0.right)] := (Els.snoc (H := H520) (E := eSequent) (k := 2) (c := [v524, v0_1]) (x := (Sequent.mk r518 a0.right)) (Els.snoc (H := H520) (E := eSequent) (k := 2) (c := [v0_0, v516]) (x := (Sequent.mk a0.left r510)) Els.nil rfl ⟨_, _, rfl, (p0_0.mono (((i27.tr i68).tr r515.inc).tr r523.inc)), (h517.mono r523.inc)⟩) rfl ⟨_, _, rfl, h525, (p0_1.mono (((i27.tr i68).tr r515.inc).tr r523.inc))⟩)
              refine FC.val (l' := (bs 16 32767)) rfl (by kernel_rfl) rfl rfl rfl (E.buildSlice (B2 rfl rfl) run528) ?_
              refine ⟨(SP.nil (Sl.of_inc (r515.inc.tr r523.inc) S529.sl)), ?_⟩
              refine FB.t (i := 15) (bs 16 65535) rfl (SP.nil (Sl.of_inc (r515.inc.tr r523.inc) S529.sl)) rfl (fun w' hw' => (E.assign (v := v526) rfl)) ?_
              exact FB.done (by kernel_rfl) ⟨_, _, _, _, (S529.sel [0] (by decide) rfl), (r515.inc.tr r523.inc), els530, rfl⟩
          ·
           rintro f539 w538 ⟨H535, v531, n532, cs533, S536, i537, els534, k540⟩
           refine FW.ret ?_
           obtain rfl := Option.some.inj hp
           exact ⟨.inr rfl, res1 rfl k540 ⟨_, _, _, _, rfl, S536, els534⟩⟩

@[reducible] def p_spec_l23Go (H0 : GH) (w0 : World) (Ha : GH) (L : List MO) (r : l23Search) : Ending → World → Prop :=
 fun e w' => ∃ H' : GH, ∃ v0_0 : Value, ∃ n0_0 : Nat, ∃ c0_0 : List Value, e = .returned (Value.agg #[v0_0, Value.bool r.open_, Value.int .i64 r.bits, Value.bool r.bad]) ∧ (St H0 w0 H' w' (.row 52 6 v0_0 n0_0 c0_0 :: L) ∧ Inc Ha H') ∧ Els H' eSeqStep 6 c0_0 r.steps
set_option maxHeartbeats 4000000 in
theorem w_spec_l23Go_B {rec_spec_l23Go : Sequent → l23Search → Option l23Search} (hrec_spec_l23Go : ∀ {H0 Ha : GH} {w0 wa : World} {L : List MO} {a1 : l23Search} {v1_0 : Value} {n1_0 : Nat} {k1_0 : List Value} (S0 : St H0 w0 Ha wa (.row 52 6 v1_0 n1_0 k1_0 :: L)) (a0 : Sequent) (v0_0 : Value) (p0_0 : RSl Ha eS 1 v0_0 a0.left) (v0_1 : Value) (p0_1 : RSl Ha eS 1 v0_1 a0.right) (p1_0 : Els Ha eSeqStep 6 k1_0 a1.steps) {r : l23Search} (hp : rec_spec_l23Go a0 a1 = some r), Calls Try.prog 18 #[Value.agg #[v0_0, v0_1], Value.agg #[v1_0, Value.bool a1.open_, Value.int .i64 a1.bits, Value.bool a1.bad]] wa (p_spec_l23Go H0 w0 Ha L r)) {H0 Ha : GH} {w0 wa : World} {L : List MO} {a1 : l23Search} {v1_0 : Value} {n1_0 : Nat} {k1_0 : List Value} (S0 : St H0 w0 Ha wa (.row 52 6 v1_0 n1_0 k1_0 :: L)) (a0 : Sequent) (v0_0 : Value) (p0_0 : RSl Ha eS 1 v0_0 a0.left) (v0_1 : Value) (p0_1 : RSl Ha eS 1 v0_1 a0.right) (p1_0 : Els Ha eSeqStep 6 k1_0 a1.steps) {r : l23Search} (hp : PF.spec_l23Go_B rec_spec_l23Go a0 a1 = some r) :
  Calls Try.prog 18 #[Value.agg #[v0_0, v0_1], Value.agg #[v1_0, Value.bool a1.open_, Value.int .i64 a1.bits, Value.bool a1.bad]] wa (p_spec_l23Go H0 w0 Ha L r) := by
 unfold PF.spec_l23Go_B at hp
 refine calls_go (N := 88) (args := [Value.agg #[v0_0, v0_1], Value.agg #[v1_0, Value.bool a1.open_, Value.int .i64 a1.bits, Value.bool a1.bad]]) Try.func18 rfl rfl rfl ?_
 refine FW.seq (FW.region ?_)
 obtain ⟨b21, w22, run23, S24⟩ := S0.box (P := Try.prog) 28 [v0_0, v0_1] (v := Value.agg #[v0_0, v0_1]) rfl (ones_cons p0_0.one (ones_cons p0_1.one ones_nil))
 refine FL.v (E.box rfl run23) ?_
 obtain ⟨H25, S26, i27, at28⟩ := S24.sealBox (i := 0) (l' := (.row 52 6 v1_0 n1_0 k1_0 :: L)) rfl rfl
 obtain ⟨b29, w30, run31, S32⟩ := S26.box (P := Try.prog) 41 [v1_0, Value.bool a1.open_, Value.int .i64 a1.bits, Value.bool a1.bad] (v := Value.agg #[v1_0, Value.bool a1.open_, Value.int .i64 a1.bits, Value.bool a1.bad]) rfl (ones_cons (Ln.one (S26.row_ln (i := 0) rfl)) (ones_cons rfl (ones_cons rfl (ones_cons rfl ones_nil))))
 refine FL.v (E.box rfl run31) ?_
 obtain ⟨b33, w34, run35, S36⟩ := S32.alloc (P := Try.prog) 41 [Value.slice none 0 0, Value.bool false, Value.int .i64 0, Value.bool false] Try.zeroValue41 rfl (ones_cons rfl (ones_cons rfl (ones_cons rfl (ones_cons rfl ones_nil))))
 refine FL.v (E.alloc run35) ?_
 refine FL.nil (FW.seq (FW.seq (FW.region ?_)))
 refine FL.v (E.fieldAddr tf41_1 rfl) ?_
 refine FL.v (E.load rfl (run_load1 Try.isAgg4 (S36.box_now (i := 1) rfl) rfl)) ?_
 refine FL.v (E.move (v := Value.bool a1.open_) rfl) ?_
 refine FL.cut 3 (fun f w => ∃ H : GH, St H0 w0 H w (.box b33 41 [Value.slice none 0 0, Value.bool false, Value.int .i64 0, Value.bool false] :: .box b29 41 [v1_0, Value.bool a1.open_, Value.int .i64 a1.bits, Value.bool a1.bad] :: .row 52 6 v1_0 n1_0 k1_0 :: L) ∧ Inc H25 H ∧ f 2 = Value.pointer (some ⟨b21, 0, none⟩) ∧ f 3 = Value.pointer (some (⟨b29, 0, none⟩ : Addr)) ∧ f 4 = Value.pointer (some (⟨b33, 0, none⟩ : Addr)) ∧ f 16 = Value.bool (bif a1.open_ then true else a1.bad)) ?_ ?_
 ·
  rcases bcase a1.open_ with c43 | c43
  ·
   refine FL.skip (wF_no rfl rfl rfl c43) rfl ?_
   refine FL.skip (wF_no rfl rfl rfl c43) rfl ?_
   refine FL.v (E.pickT rfl c43 rfl) ?_
   exact FL.nil ⟨rfl, _, S36, (Inc.rfl _), rfl, rfl, rfl, (congrArg Value.bool (bifT c43).symm)⟩
  ·
   refine FL.val (wF_yes rfl rfl rfl c43) rfl rfl (E.fieldAddr tf41_3 rfl) ?_
   refine FL.val (wF_yes rfl rfl rfl c43) rfl rfl (E.load rfl (run_load1 Try.isAgg4 (S36.box_now (i := 1) rfl) rfl)) ?_
   refine FL.v (E.pickF rfl c43 rfl) ?_
   exact FL.nil ⟨rfl, _, S36, (Inc.rfl _), rfl, rfl, rfl, (congrArg Value.bool (bifF c43).symm)⟩
 rintro f42 w41 ⟨H38, S39, i40, k44, k45, k46, k47⟩
 refine FL.nil ?_
 rcases ifB hp with ⟨c48, hp⟩ | ⟨c48, hp⟩
 ·
  refine FW.condT k47 c48 ?_
  refine FW.seq (FW.region ?_)
  refine FL.v (E.load k45 (run_loadA Try.isAgg41 Try.sizeOf41 (S39.box_now (i := 1) rfl) rfl)) ?_
  obtain ⟨w49, run50, S51⟩ := S39.store0 (P := Try.prog) (t := 41) (i := 0) (cs' := [v1_0, Value.bool a1.open_, Value.int .i64 a1.bits, Value.bool a1.bad]) (l' := (.box b33 41 [v1_0, Value.bool a1.open_, Value.int .i64 a1.bits, Value.bool a1.bad] :: .box b29 41 [v1_0, Value.bool a1.open_, Value.int .i64 a1.bits, Value.bool a1.bad] :: .row 52 6 v1_0 n1_0 k1_0 :: L)) (v := Value.agg #[v1_0, Value.bool a1.open_, Value.int .i64 a1.bits, Value.bool a1.bad]) (c := [v1_0, Value.bool a1.open_, Value.int .i64 a1.bits, Value.bool a1.bad]) rfl Try.sizeOf41 rfl rfl (ones_cons (Ln.one (S39.row_ln (i := 2) rfl)) (ones_cons rfl (ones_cons rfl (ones_cons rfl ones_nil)))) (Nat.le_of_ble_eq_true rfl) rfl rfl
  refine FL.act rfl rfl (E.store k46 rfl run50) ?_
  refine FL.nil ?_
  refine FW.ret ?_
  obtain rfl := Option.some.inj hp
  exact ⟨.inr rfl, resC rfl k46 (loadVar_A Try.isAgg41 Try.sizeOf41 (S51.box_now (i := 0) rfl) rfl) ⟨_, _, _, _, rfl, ⟨(S51.selT (a := [.box b33 41 [v1_0, Value.bool a1.open_, Value.int .i64 a1.bits, Value.bool a1.bad], .box b29 41 [v1_0, Value.bool a1.open_, Value.int .i64 a1.bits, Value.bool a1.bad], .row 52 6 v1_0 n1_0 k1_0]) (l' := [.row 52 6 v1_0 n1_0 k1_0]) [2] (by decide) rfl), (i27.tr i40)⟩, (p1_0.mono (i27.tr i40))⟩⟩
 ·
  refine FW.condF k47 c48 ?_
  refine FW.skip (FW.seq (FW.seq (FW.region ?_)))
  refine FL.v (E.load k44 (run_loadA Try.isAgg28 Try.sizeOf28 ((at28.mono i40).now S39.sl) rfl)) ?_
  obtain ⟨r52, hr53, hp⟩ := bnd hp
  refine FL.call rfl rfl rfl (E.call Try.call17 (A1 rfl)) (w_spec_l23Good S39.sl a0 v0_0 (p0_0.mono (i27.tr i40)) v0_1 (p0_1.mono (i27.tr i40)) hr53) ?_
  rintro e w54 ⟨rfl, r55⟩
  refine ⟨_, rfl, ?_⟩
  have S56 := S39.call r55
  refine FL.v (E.not rfl) ?_
  refine FL.nil ?_
  rcases ifB hp with ⟨c57, hp⟩ | ⟨c57, hp⟩
  ·
   refine FW.condT rfl c57 ?_
   refine FW.seq (FW.region ?_)
   refine FL.v (E.fieldAddr tf41_3 k45) ?_
   obtain ⟨w58, run59, S60⟩ := S56.store (P := Try.prog) (t := 4) (i := 1) (j := 3) (cs' := [v1_0, Value.bool a1.open_, Value.int .i64 a1.bits, Value.bool true]) (l' := (.box b33 41 [Value.slice none 0 0, Value.bool false, Value.int .i64 0, Value.bool false] :: .box b29 41 [v1_0, Value.bool a1.open_, Value.int .i64 a1.bits, Value.bool true] :: .row 52 6 v1_0 n1_0 k1_0 :: L)) (v := Value.bool true) (c := [Value.bool true]) rfl Try.sizeOf4 rfl rfl (ones_cons rfl ones_nil) (Nat.le_of_ble_eq_true rfl) rfl rfl
   refine FL.act rfl rfl (E.store rfl rfl run59) ?_
   refine FL.nil (FW.seq (FW.region ?_))
   refine FL.v (E.load k45 (run_loadA Try.isAgg41 Try.sizeOf41 (S60.box_now (i := 1) rfl) rfl)) ?_
   obtain ⟨w61, run62, S63⟩ := S60.store0 (P := Try.prog) (t := 41) (i := 0) (cs' := [v1_0, Value.bool a1.open_, Value.int .i64 a1.bits, Value.bool true]) (l' := (.box b33 41 [v1_0, Value.bool a1.open_, Value.int .i64 a1.bits, Value.bool true] :: .box b29 41 [v1_0, Value.bool a1.open_, Value.int .i64 a1.bits, Value.bool true] :: .row 52 6 v1_0 n1_0 k1_0 :: L)) (v := Value.agg #[v1_0, Value.bool a1.open_, Value.int .i64 a1.bits, Value.bool true]) (c := [v1_0, Value.bool a1.open_, Value.int .i64 a1.bits, Value.bool true]) rfl Try.sizeOf41 rfl rfl (ones_cons (Ln.one (S60.row_ln (i := 2) rfl)) (ones_cons rfl (ones_cons rfl (ones_cons rfl ones_nil)))) (Nat.le_of_ble_eq_true rfl) rfl rfl
   refine FL.act rfl rfl (E.store k46 rfl run62) ?_
   refine FL.nil ?_
   refine FW.ret ?_
   obtain rfl := Option.some.inj hp
   exact ⟨.inr rfl, resC rfl k46 (loadVar_A Try.isAgg41 Try.sizeOf41 (S63.box_now (i := 0) rfl) rfl) ⟨_, _, _, _, rfl, ⟨(S63.selT (a := [.box b33 41 [v1_0, Value.bool a1.open_, Value.int .i64 a1.bits, Value.bool true], .box b29 41 [v1_0, Value.bool a1.open_, Value.int .i64 a1.bits, Value.bool true], .row 52 6 v1_0 n1_0 k1_0]) (l' := [.row 52 6 v1_0 n1_0 k1_0]) [2] (by decide) rfl), (i27.tr i40)⟩, (p1_0.mono (i27.tr i40))⟩⟩
  ·
   refine FW.condF rfl c57 ?_
   refine FW.skip (FW.seq (FW.seq (FW.region ?_)))
   refine FL.v (E.load k44 (run_loadA Try.isAgg28 Try.sizeOf28 ((at28.mono i40).now S56.sl) rfl)) ?_
   obtain ⟨r64, hr65, hp⟩ := bnd hp
   refine FL.call rfl rfl rfl (E.call Try.call29 (A1 rfl)) (w_spec_l23Axiom S56.sl a0 v0_0 (p0_0.mono (i27.tr i40)) v0_1 (p0_1.mono (i27.tr i40)) hr65) ?_
   rintro e w66 ⟨rfl, r67⟩
   refine ⟨_, rfl, ?_⟩
   have S68 := S56.call r67
   refine FL.nil ?_
   rcases ifB hp with ⟨c69, hp⟩ | ⟨c69, hp⟩
   ·
    refine FW.condT rfl c69 ?_
    refine FW.seq (FW.region ?_)
    refine FL.v (E.load k45 (run_loadA Try.isAgg41 Try.sizeOf41 (S68.box_now (i := 1) rfl) rfl)) ?_
    refine FL.v (E.load k44 (run_loadA Try.isAgg28 Try.sizeOf28 ((at28.mono i40).now S68.sl) rfl)) ?_
    refine FL.v (E.build (B2 rfl rfl) (run_build _ 52 #[(0, Value.agg #[v0_0, v0_1]), (1, Value.int .i64 1)] #[v0_0, v0_1, Value.int .i64 1, Value.string ByteArray.empty, Value.int .i64 0, Value.int .i64 0] (by obtain ⟨_, _, rfl⟩ := RSl.ln (p0_0.mono (i27.tr i40)); obtain ⟨_, _, rfl⟩ := RSl.ln (p0_1.mono (i27.tr i40)); rfl))) ?_
    obtain ⟨r70, hr71, hp⟩ := bnd hp
    have S72 : St H0 w0 H38 w66 (.row 52 6 v1_0 n1_0 k1_0 :: .box b33 41 [Value.slice none 0 0, Value.bool false, Value.int .i64 0, Value.bool false] :: .box b29 41 [v1_0, Value.bool a1.open_, Value.int .i64 a1.bits, Value.bool a1.bad] :: L) := S68.front 2 rfl rfl
    refine FL.call rfl rfl rfl (E.call Try.call30 (A2 rfl rfl)) (w_spec_l23Put (L := (.box b33 41 [Value.slice none 0 0, Value.bool false, Value.int .i64 0, Value.bool false] :: .box b29 41 [v1_0, Value.bool a1.open_, Value.int .i64 a1.bits, Value.bool a1.bad] :: L)) S72 (a0 := a1) (p1_0.mono (i27.tr i40)) (SeqStep.mk a0 1 ByteArray.empty 0 0) v0_0 (p0_0.mono (i27.tr i40)) v0_1 (p0_1.mono (i27.tr i40)) hr71) ?_
    rintro e w74 ⟨H73, v77, n78, cs79, rfl, ⟨S75, i76⟩, els80⟩
    refine ⟨_, rfl, ?_⟩
    have S75 : St H0 w0 H73 w74 (.row 52 6 v77 n78 cs79 :: .box b33 41 [Value.slice none 0 0, Value.bool false, Value.int .i64 0, Value.bool false] :: .box b29 41 [v1_0, Value.bool a1.open_, Value.int .i64 a1.bits, Value.bool a1.bad] :: L) := S75
    obtain ⟨w81, run82, S83⟩ := S75.store0 (P := Try.prog) (t := 41) (i := 1) (cs' := [v77, Value.bool r70.open_, Value.int .i64 r70.bits, Value.bool r70.bad]) (l' := (.row 52 6 v77 n78 cs79 :: .box b33 41 [v77, Value.bool r70.open_, Value.int .i64 r70.bits, Value.bool r70.bad] :: .box b29 41 [v1_0, Value.bool a1.open_, Value.int .i64 a1.bits, Value.bool a1.bad] :: L)) (v := Value.agg #[v77, Value.bool r70.open_, Value.int .i64 r70.bits, Value.bool r70.bad]) (c := [v77, Value.bool r70.open_, Value.int .i64 r70.bits, Value.bool r70.bad]) rfl Try.sizeOf41 rfl rfl (ones_cons (Ln.one (S75.row_ln (i := 0) rfl)) (ones_cons rfl (ones_cons rfl (ones_cons rfl ones_nil)))) (Nat.le_of_ble_eq_true rfl) rfl rfl
    refine FL.act rfl rfl (E.store k46 rfl run82) ?_
    refine FL.nil ?_
    refine FW.ret ?_
    obtain rfl := Option.some.inj hp
    exact ⟨.inr rfl, resC rfl k46 (loadVar_A Try.isAgg41 Try.sizeOf41 (S83.box_now (i := 1) rfl) rfl) ⟨_, _, _, _, rfl, ⟨(S83.selT (a := [.row 52 6 v77 n78 cs79, .box b33 41 [v77, Value.bool r70.open_, Value.int .i64 r70.bits, Value.bool r70.bad], .box b29 41 [v1_0, Value.bool a1.open_, Value.int .i64 a1.bits, Value.bool a1.bad]]) (l' := [.row 52 6 v77 n78 cs79]) [0] (by decide) rfl), ((i27.tr i40).tr i76)⟩, els80⟩⟩
   ·
    refine FW.condF rfl c69 ?_
    refine FW.skip (FW.seq (FW.region ?_))
    refine FL.v (E.load k44 (run_loadA Try.isAgg28 Try.sizeOf28 ((at28.mono i40).now S68.sl) rfl)) ?_
    obtain ⟨r84, hr85, hp⟩ := bnd hp
    refine FL.call rfl rfl rfl (E.call Try.call31 (A1 rfl)) (w_spec_l23Main S68.sl a0 v0_0 (p0_0.mono (i27.tr i40)) v0_1 (p0_1.mono (i27.tr i40)) hr85) ?_
    rintro e w86 ⟨rfl, r87⟩
    refine ⟨_, rfl, ?_⟩
    have S88 := S68.call r87
    refine FL.v (E.move (v := Value.tuple #[Value.string r84.1, Value.bool r84.2.1, Value.bool r84.2.2]) rfl) ?_
    refine FL.v (E.extract (i := 0) rfl rfl) ?_
    refine FL.v (E.extract (i := 1) rfl rfl) ?_
    refine FL.v (E.extract (i := 2) rfl rfl) ?_
    refine FL.v (E.assign (v := Value.string r84.1) rfl) ?_
    refine FL.v (E.assign (v := Value.bool r84.2.1) rfl) ?_
    refine FL.v (E.assign (v := Value.bool r84.2.2) rfl) ?_
    refine FL.nil (FW.seq (FW.seq (FW.region ?_)))
    refine FL.v (E.move (v := Value.bool r84.2.2) rfl) ?_
    refine FL.v (E.not rfl) ?_
    refine FL.nil ?_
    rcases ifB hp with ⟨c89, hp⟩ | ⟨c89, hp⟩
    ·
     refine FW.condT rfl c89 ?_
     refine FW.seq (FW.region ?_)
     refine FL.v (E.fieldAddr tf41_1 k45) ?_
     obtain ⟨w90, run91, S92⟩ := S88.store (P := Try.prog) (t := 4) (i := 1) (j := 1) (cs' := [v1_0, Value.bool true, Value.int .i64 a1.bits, Value.bool a1.bad]) (l' := (.box b33 41 [Value.slice none 0 0, Value.bool false, Value.int .i64 0, Value.bool false] :: .box b29 41 [v1_0, Value.bool true, Value.int .i64 a1.bits, Value.bool a1.bad] :: .row 52 6 v1_0 n1_0 k1_0 :: L)) (v := Value.bool true) (c := [Value.bool true]) rfl Try.sizeOf4 rfl rfl (ones_cons rfl ones_nil) (Nat.le_of_ble_eq_true rfl) rfl rfl
     refine FL.act rfl rfl (E.store rfl rfl run91) ?_
     refine FL.nil (FW.seq (FW.region ?_))
     refine FL.v (E.fieldAddr tf28_0 k44) ?_
     refine FL.v (E.load rfl (run_load1 Try.isAgg22 ((at28.mono i40).now S92.sl) rfl)) ?_
     obtain ⟨r93, hr94, hp⟩ := bnd hp
     refine FL.call rfl rfl rfl (E.call Try.call32 (A1 rfl)) (w_spec_l23Open S92.sl v0_0 a0.left (p0_0.mono (i27.tr i40)) hr94) ?_
     rintro e w95 ⟨rfl, r96⟩
     refine ⟨_, rfl, ?_⟩
     have S97 := S92.call r96
     refine FL.v (E.fieldAddr tf41_2 k45) ?_
     obtain ⟨w98, run99, S100⟩ := S97.store (P := Try.prog) (t := 3) (i := 1) (j := 2) (cs' := [v1_0, Value.bool true, Value.int .i64 r93, Value.bool a1.bad]) (l' := (.box b33 41 [Value.slice none 0 0, Value.bool false, Value.int .i64 0, Value.bool false] :: .box b29 41 [v1_0, Value.bool true, Value.int .i64 r93, Value.bool a1.bad] :: .row 52 6 v1_0 n1_0 k1_0 :: L)) (v := Value.int .i64 r93) (c := [Value.int .i64 r93]) rfl Try.sizeOf3 rfl rfl (ones_cons rfl ones_nil) (Nat.le_of_ble_eq_true rfl) rfl rfl
     refine FL.act rfl rfl (E.store rfl rfl run99) ?_
     refine FL.nil (FW.seq (FW.region ?_))
     refine FL.v (E.load k45 (run_loadA Try.isAgg41 Try.sizeOf41 (S100.box_now (i := 1) rfl) rfl)) ?_
     obtain ⟨w101, run102, S103⟩ := S100.store0 (P := Try.prog) (t := 41) (i := 0) (cs' := [v1_0, Value.bool true, Value.int .i64 r93, Value.bool a1.bad]) (l' := (.box b33 41 [v1_0, Value.bool true, Value.int .i64 r93, Value.bool a1.bad] :: .box b29 41 [v1_0, Value.bool true, Value.int .i64 r93, Value.bool a1.bad] :: .row 52 6 v1_0 n1_0 k1_0 :: L)) (v := Value.agg #[v1_0, Value.bool true, Value.int .i64 r93, Value.bool a1.bad]) (c := [v1_0, Value.bool true, Value.int .i64 r93, Value.bool a1.bad]) rfl Try.sizeOf41 rfl rfl (ones_cons (Ln.one (S100.row_ln (i := 2) rfl)) (ones_cons rfl (ones_cons rfl (ones_cons rfl ones_nil)))) (Nat.le_of_ble_eq_true rfl) rfl rfl
     refine FL.act rfl rfl (E.store k46 rfl run102) ?_
     refine FL.nil ?_
     refine FW.ret ?_
     obtain rfl := Option.some.inj hp
     exact ⟨.inr rfl, resC rfl k46 (loadVar_A Try.isAgg41 Try.sizeOf41 (S103.box_now (i := 0) rfl) rfl) ⟨_, _, _, _, rfl, ⟨(S103.selT (a := [.box b33 41 [v1_0, Value.bool true, Value.int .i64 r93, Value.bool a1.bad], .box b29 41 [v1_0, Value.bool true, Value.int .i64 r93, Value.bool a1.bad], .row 52 6 v1_0 n1_0 k1_0]) (l' := [.row 52 6 v1_0 n1_0 k1_0]) [2] (by decide) rfl), (i27.tr i40)⟩, (p1_0.mono (i27.tr i40))⟩⟩
    ·
     refine FW.condF rfl c89 ?_
     refine FW.skip (FW.seq ?_)
     obtain ⟨r37, hr107, hp⟩ := bnd hp
     refine FW.drawB (Sl H38) (fun f w => ∃ H : GH, ∃ b118 : Nat, ∃ v119 : Value, ∃ v121 : Value, St H0 w0 H w (.box b33 41 [Value.slice none 0 0, Value.bool false, Value.int .i64 0, Value.bool false] :: .box b29 41 [v1_0, Value.bool a1.open_, Value.int .i64 a1.bits, Value.bool a1.bad] :: .row 52 6 v1_0 n1_0 k1_0 :: .box b118 52 [v119, v121, Value.int .i64 r37, Value.string r84.1, Value.int .i64 0, Value.int .i64 0] :: L) ∧ Inc H38 H ∧ RSl H eS 1 v119 a0.left ∧ RSl H eS 1 v121 a0.right ∧ f 2 = Value.pointer (some ⟨b21, 0, none⟩) ∧ f 3 = Value.pointer (some (⟨b29, 0, none⟩ : Addr)) ∧ f 4 = Value.pointer (some (⟨b33, 0, none⟩ : Addr)) ∧ f 5 = Value.string r84.1 ∧ f 8 = Value.pointer (some (⟨b118, 0, none⟩ : Addr))) (by kernel_rfl) S88.sl ?_ ?_
     ·
      intro w104 r105
      have S106 := S88.call r105
      refine FB.t (i := 0) (bs 8 1) rfl (SP.nil S106.sl) rfl (fun w' hw' => (E.load k44 (run_loadA Try.isAgg28 Try.sizeOf28 ((at28.mono i40).now hw') rfl))) ?_
      refine FB.t (i := 1) (bs 8 3) rfl (SP.nil S106.sl) rfl (fun w' hw' => (E.move (v := Value.string r84.1) rfl)) ?_
      refine FB.t (i := 2) (bs 8 7) rfl (SP.nil S106.sl) rfl (fun w' hw' => (E.move (v := Value.bool r84.2.1) rfl)) ?_
      refine FB.t (i := 4) (bs 8 23) rfl (SP.nil S106.sl) rfl (fun w' hw' => (E.move (v := Value.string r84.1) rfl)) ?_
      refine FB.all2 (i := 3) (j := 6) (by kernel_rfl) ?_ ?_
      ·
       refine FC.call (l' := (bs 8 31)) rfl (by kernel_rfl) rfl rfl rfl (E.call Try.call33 (A2 rfl rfl)) (w_spec_l23Rule S106.sl r84.1 r84.2.1 hr107) ?_
       rintro e w108 ⟨rfl, r109⟩
       refine ⟨_, rfl, ?_⟩
       have S110 := S106.call r109
       refine ⟨(SP.nil S110.sl), ?_⟩
       refine FB.t (i := 5) (bs 8 63) rfl (SP.nil S110.sl) rfl (fun w' hw' => (E.build (B3 rfl rfl rfl) (run_build _ 52 #[(0, Value.agg #[v0_0, v0_1]), (1, Value.int .i64 r37), (2, Value.string r84.1)] #[v0_0, v0_1, Value.int .i64 r37, Value.string r84.1, Value.int .i64 0, Value.int .i64 0] (by obtain ⟨_, _, rfl⟩ := RSl.ln (p0_0.mono (i27.tr i40)); obtain ⟨_, _, rfl⟩ := RSl.ln (p0_1.mono (i27.tr i40)); rfl)))) ?_
       refine FB.all1 (i := 6) (by kernel_rfl) ?_
       ·
        obtain ⟨b111, w112, run113, S114⟩ := S110.alloc (P := Try.prog) 52 [Value.slice none 0 0, Value.slice none 0 0, Value.int .i64 0, Value.string ByteArray.empty, Value.int .i64 0, Value.int .i64 0] Try.zeroValue52 rfl (ones_cons rfl (ones_cons rfl (ones_cons rfl (ones_cons rfl (ones_cons rfl (ones_cons rfl ones_nil))))))
        refine FC.val (l' := (bs 8 127)) rfl (by kernel_rfl) rfl rfl rfl (E.alloc run113) ?_
        refine ⟨(SP.nil S114.sl), ?_⟩
        refine FB.all1 (i := 7) (by kernel_rfl) ?_
        ·
         obtain ⟨w115, run116, S117⟩ := S114.store0 (P := Try.prog) (t := 52) (i := 0) (cs' := [v0_0, v0_1, Value.int .i64 r37, Value.string r84.1, Value.int .i64 0, Value.int .i64 0]) (l' := (.box b111 52 [v0_0, v0_1, Value.int .i64 r37, Value.string r84.1, Value.int .i64 0, Value.int .i64 0] :: .box b33 41 [Value.slice none 0 0, Value.bool false, Value.int .i64 0, Value.bool false] :: .box b29 41 [v1_0, Value.bool a1.open_, Value.int .i64 a1.bits, Value.bool a1.bad] :: .row 52 6 v1_0 n1_0 k1_0 :: L)) (v := Value.agg #[v0_0, v0_1, Value.int .i64 r37, Value.string r84.1, Value.int .i64 0, Value.int .i64 0]) (c := [v0_0, v0_1, Value.int .i64 r37, Value.string r84.1, Value.int .i64 0, Value.int .i64 0]) rfl Try.sizeOf52 rfl rfl (ones_cons p0_0.one (ones_cons p0_1.one (ones_cons rfl (ones_cons rfl (ones_cons rfl (ones_cons rfl ones_nil)))))) (Nat.le_of_ble_eq_true rfl) rfl rfl
         refine FC.act (l' := (bs 8 255)) rfl (by kernel_rfl) rfl rfl (E.store rfl rfl run116) ?_
         refine ⟨(SP.nil S117.sl), ?_⟩
         exact FB.done (by kernel_rfl) ⟨_, _, _, _, (S117.selT (a := [.box b111 52 [v0_0, v0_1, Value.int .i64 r37, Value.string r84.1, Value.int .i64 0, Value.int .i64 0], .box b33 41 [Value.slice none 0 0, Value.bool false, Value.int .i64 0, Value.bool false], .box b29 41 [v1_0, Value.bool a1.open_, Value.int .i64 a1.bits, Value.bool a1.bad], .row 52 6 v1_0 n1_0 k1_0]) (l' := [.box b33 41 [Value.slice none 0 0, Value.bool false, Value.int .i64 0, Value.bool false], .box b29 41 [v1_0, Value.bool a1.open_, Value.int .i64 a1.bits, Value.bool a1.bad], .row 52 6 v1_0 n1_0 k1_0, .box b111 52 [v0_0, v0_1, Value.int .i64 r37, Value.string r84.1, Value.int .i64 0, Value.int .i64 0]]) [1, 2, 3, 0] (by decide) rfl), (Inc.rfl _), (p0_0.mono (i27.tr i40)), (p0_1.mono (i27.tr i40)), k44, k45, k46, rfl, rfl⟩
      ·
       obtain ⟨b111, w112, run113, S114⟩ := S106.alloc (P := Try.prog) 52 [Value.slice none 0 0, Value.slice none 0 0, Value.int .i64 0, Value.string ByteArray.empty, Value.int .i64 0, Value.int .i64 0] Try.zeroValue52 rfl (ones_cons rfl (ones_cons rfl (ones_cons rfl (ones_cons rfl (ones_cons rfl (ones_cons rfl ones_nil))))))
       refine FC.val (l' := (bs 8 87)) rfl (by kernel_rfl) rfl rfl rfl (E.alloc run113) ?_
       refine ⟨(SP.nil S114.sl), ?_⟩
       refine FB.all1 (i := 3) (by kernel_rfl) ?_
       ·
        refine FC.call (l' := (bs 8 95)) rfl (by kernel_rfl) rfl rfl rfl (E.call Try.call33 (A2 rfl rfl)) (w_spec_l23Rule S114.sl r84.1 r84.2.1 hr107) ?_
        rintro e w108 ⟨rfl, r109⟩
        refine ⟨_, rfl, ?_⟩
        have S110 := S114.call r109
        refine ⟨(SP.nil S110.sl), ?_⟩
        refine FB.t (i := 5) (bs 8 127) rfl (SP.nil S110.sl) rfl (fun w' hw' => (E.build (B3 rfl rfl rfl) (run_build _ 52 #[(0, Value.agg #[v0_0, v0_1]), (1, Value.int .i64 r37), (2, Value.string r84.1)] #[v0_0, v0_1, Value.int .i64 r37, Value.string r84.1, Value.int .i64 0, Value.int .i64 0] (by obtain ⟨_, _, rfl⟩ := RSl.ln (p0_0.mono (i27.tr i40)); obtain ⟨_, _, rfl⟩ := RSl.ln (p0_1.mono (i27.tr i40)); rfl)))) ?_
        refine FB.all1 (i := 7) (by kernel_rfl) ?_
        ·
         obtain ⟨w115, run116, S117⟩ := S110.store0 (P := Try.prog) (t := 52) (i := 0) (cs' := [v0_0, v0_1, Value.int .i64 r37, Value.string r84.1, Value.int .i64 0, Value.int .i64 0]) (l' := (.box b111 52 [v0_0, v0_1, Value.int .i64 r37, Value.string r84.1, Value.int .i64 0, Value.int .i64 0] :: .box b33 41 [Value.slice none 0 0, Value.bool false, Value.int .i64 0, Value.bool false] :: .box b29 41 [v1_0, Value.bool a1.open_, Value.int .i64 a1.bits, Value.bool a1.bad] :: .row 52 6 v1_0 n1_0 k1_0 :: L)) (v := Value.agg #[v0_0, v0_1, Value.int .i64 r37, Value.string r84.1, Value.int .i64 0, Value.int .i64 0]) (c := [v0_0, v0_1, Value.int .i64 r37, Value.string r84.1, Value.int .i64 0, Value.int .i64 0]) rfl Try.sizeOf52 rfl rfl (ones_cons p0_0.one (ones_cons p0_1.one (ones_cons rfl (ones_cons rfl (ones_cons rfl (ones_cons rfl ones_nil)))))) (Nat.le_of_ble_eq_true rfl) rfl rfl
         refine FC.act (l' := (bs 8 255)) rfl (by kernel_rfl) rfl rfl (E.store rfl rfl run116) ?_
         refine ⟨(SP.nil S117.sl), ?_⟩
         exact FB.done (by kernel_rfl) ⟨_, _, _, _, (S117.selT (a := [.box b111 52 [v0_0, v0_1, Value.int .i64 r37, Value.string r84.1, Value.int .i64 0, Value.int .i64 0], .box b33 41 [Value.slice none 0 0, Value.bool false, Value.int .i64 0, Value.bool false], .box b29 41 [v1_0, Value.bool a1.open_, Value.int .i64 a1.bits, Value.bool a1.bad], .row 52 6 v1_0 n1_0 k1_0]) (l' := [.box b33 41 [Value.slice none 0 0, Value.bool false, Value.int .i64 0, Value.bool false], .box b29 41 [v1_0, Value.bool a1.open_, Value.int .i64 a1.bits, Value.bool a1.bad], .row 52 6 v1_0 n1_0 k1_0, .box b111 52 [v0_0, v0_1, Value.int .i64 r37, Value.string r84.1, Value.int .i64 0, Value.int .i64 0]]) [1, 2, 3, 0] (by decide) rfl), (Inc.rfl _), (p0_0.mono (i27.tr i40)), (p0_1.mono (i27.tr i40)), k44, k45, k46, rfl, rfl⟩
     ·
      rintro f127 w126 ⟨H123, b118, v119, v121, S124, i125, h120, h122, k128, k129, k130, k131, k132⟩
      refine FW.seq (FW.region ?_)
      refine FL.v (E.load k128 (run_loadA Try.isAgg28 Try.sizeOf28 ((at28.mono (i40.tr i125)).now S124.sl) rfl)) ?_
      refine FL.v (E.fieldAddr tf52_1 k132) ?_
      refine FL.v (E.load rfl (run_load1 Try.isAgg3 (S124.box_now (i := 3) rfl) rfl)) ?_
      refine FL.v (E.move k131) ?_
      obtain ⟨r133, hr134, hp⟩ := bnd hp
      refine FL.call rfl rfl rfl (E.call Try.call34 (A3 rfl rfl rfl)) (w_spec_l23Premises S124.sl a0 v0_0 (p0_0.mono ((i27.tr i40).tr i125)) v0_1 (p0_1.mono ((i27.tr i40).tr i125)) r37 r84.1 hr134) ?_
      rintro e w136 ⟨H135, v139, n140, cs141, rfl, r138, els142⟩
      refine ⟨_, rfl, ?_⟩
      have S137 := S124.join (l' := (.row 28 2 v139 n140 cs141 :: .box b33 41 [Value.slice none 0 0, Value.bool false, Value.int .i64 0, Value.bool false] :: .box b29 41 [v1_0, Value.bool a1.open_, Value.int .i64 a1.bits, Value.bool a1.bad] :: .row 52 6 v1_0 n1_0 k1_0 :: .box b118 52 [v119, v121, Value.int .i64 r37, Value.string r84.1, Value.int .i64 0, Value.int .i64 0] :: L)) r138 rfl
      refine FL.v (E.assign (v := v139) rfl) ?_
      refine FL.nil (FW.seq (FW.seq (FW.region ?_)))
      refine FL.v (E.assign (v := Value.int .i64 0) rfl) ?_
      refine FL.nil ?_
      obtain ⟨q143, hq, hp⟩ := bndR hp
      refine FW.block ?_
      refine FW.mono (FW.iter (S := ((List SeqStep) × Bool × Int × Bool × Int × Int × Int)) (X := l23Search) (fun (s143 : ((List SeqStep) × Bool × Int × Bool × Int × Int × Int)) f w => ∃ H : GH, ∃ v144 : Value, ∃ n145 : Nat, ∃ cs146 : List Value, St H0 w0 H w (.row 28 2 v139 n140 cs141 :: .box b33 41 [Value.slice none 0 0, Value.bool false, Value.int .i64 0, Value.bool false] :: .box b29 41 [v144, Value.bool s143.2.1, Value.int .i64 s143.2.2.1, Value.bool s143.2.2.2.1] :: .row 52 6 v144 n145 cs146 :: .box b118 52 [v119, v121, Value.int .i64 r37, Value.string r84.1, Value.int .i64 s143.2.2.2.2.1, Value.int .i64 s143.2.2.2.2.2.1] :: L) ∧ Inc H135 H ∧ Els H eSeqStep 6 cs146 s143.1 ∧ f 3 = Value.pointer (some (⟨b29, 0, none⟩ : Addr)) ∧ f 4 = Value.pointer (some (⟨b33, 0, none⟩ : Addr)) ∧ f 8 = Value.pointer (some (⟨b118, 0, none⟩ : Addr)) ∧ f 9 = v139 ∧ f 10 = Value.int .i64 s143.2.2.2.2.2.2) (fun q e f w => match q with | .go s143 => e = Exit.exit 0 ∧ (∃ H : GH, ∃ v144 : Value, ∃ n145 : Nat, ∃ cs146 : List Value, St H0 w0 H w (.row 28 2 v139 n140 cs141 :: .box b33 41 [Value.slice none 0 0, Value.bool false, Value.int .i64 0, Value.bool false] :: .box b29 41 [v144, Value.bool s143.2.1, Value.int .i64 s143.2.2.1, Value.bool s143.2.2.2.1] :: .row 52 6 v144 n145 cs146 :: .box b118 52 [v119, v121, Value.int .i64 r37, Value.string r84.1, Value.int .i64 s143.2.2.2.2.1, Value.int .i64 s143.2.2.2.2.2.1] :: L) ∧ Inc H135 H ∧ Els H eSeqStep 6 cs146 s143.1 ∧ f 3 = Value.pointer (some (⟨b29, 0, none⟩ : Addr)) ∧ f 4 = Value.pointer (some (⟨b33, 0, none⟩ : Addr)) ∧ f 8 = Value.pointer (some (⟨b118, 0, none⟩ : Addr))) | .rt x => ((e = Exit.ret) ∧ (fun e f w => (e = Exit.normal ∨ e = Exit.ret) ∧ ∀ a, Fr (δ := []) 88 a f → ∃ v, (results Try.f18 a.tmps).run Try.prog w = .ok v w ∧ (p_spec_l23Go H0 w0 Ha L x) (.returned v) w) e f w)) hq ⟨_, _, _, _, S137, (Inc.rfl _), (p1_0.mono (((i27.tr i40).tr i125).tr r138.run.inc)), k129, k130, k132, rfl, rfl⟩ ?_) ?_
      ·
       clear hp hq
       rintro s143 f152 w151 ⟨H148, v144, n145, cs146, S149, i150, els147, k153, k154, k155, k156, k157⟩ o226 hp
       refine FW.seq (FW.seq (FW.region ?_))
       refine FL.v (E.move k157) ?_
       refine FL.v (E.move k156) ?_
       refine FL.v (E.lenO te61 rfl S149 (i := 0) rfl els142 (by decide)) ?_
       refine FL.v (E.lss rfl rfl) ?_
       refine FL.nil ?_
       rcases ifB hp with ⟨c158, hp⟩ | ⟨c158, hp⟩
       ·
        refine FW.condT rfl c158 ?_
        refine FW.skip (FW.seq (FW.block (FW.seq ?_)))
        obtain ⟨x168, hx169, hp⟩ := bnd hp
        obtain ⟨r175, hr176, hp⟩ := bnd hp
        refine FW.drawB (SX H0 w0 H148 (.row 28 2 v139 n140 cs141 :: L)) (fun f w => ∃ H : GH, ∃ v189 : Value, ∃ n190 : Nat, ∃ cs191 : List Value, St H0 w0 H w (.row 28 2 v139 n140 cs141 :: .box b33 41 [Value.slice none 0 0, Value.bool false, Value.int .i64 0, Value.bool false] :: .box b29 41 [v189, Value.bool r175.open_, Value.int .i64 r175.bits, Value.bool r175.bad] :: .row 52 6 v189 n190 cs191 :: .box b118 52 [v119, v121, Value.int .i64 r37, Value.string r84.1, Value.int .i64 s143.2.2.2.2.1, Value.int .i64 s143.2.2.2.2.2.1] :: L) ∧ Inc H148 H ∧ Els H eSeqStep 6 cs191 r175.steps ∧ f 3 = Value.pointer (some (⟨b29, 0, none⟩ : Addr)) ∧ f 4 = Value.pointer (some (⟨b33, 0, none⟩ : Addr)) ∧ f 8 = Value.pointer (some (⟨b118, 0, none⟩ : Addr)) ∧ f 9 = v139 ∧ f 10 = Value.int .i64 s143.2.2.2.2.2.2) (by kernel_rfl) S149.sl ?_ ?_
        ·
         intro w159 r160
         have S161 := S149.call r160
         refine FB.phase [6] (fun w => WAt w (⟨b29, 0, none⟩ : Addr) [v144, Value.bool s143.2.1, Value.int .i64 s143.2.2.1, Value.bool s143.2.2.2.1]) ?_
         refine FB.t (i := 0) (bs 7 1) rfl (SP.on (S161.box_now (i := 2) rfl) (SP.nil ⟨_, (S161.selT (a := [.row 28 2 v139 n140 cs141, .box b33 41 [Value.slice none 0 0, Value.bool false, Value.int .i64 0, Value.bool false], .box b29 41 [v144, Value.bool s143.2.1, Value.int .i64 s143.2.2.1, Value.bool s143.2.2.2.1], .row 52 6 v144 n145 cs146, .box b118 52 [v119, v121, Value.int .i64 r37, Value.string r84.1, Value.int .i64 s143.2.2.2.2.1, Value.int .i64 s143.2.2.2.2.2.1]]) (l' := [.row 28 2 v139 n140 cs141]) [0] (by decide) rfl), (Inc.rfl _)⟩)) rfl (fun w' hw' => (E.move k156)) ?_
         refine FB.t (i := 1) (bs 7 3) rfl (SP.on (S161.box_now (i := 2) rfl) (SP.nil ⟨_, (S161.selT (a := [.row 28 2 v139 n140 cs141, .box b33 41 [Value.slice none 0 0, Value.bool false, Value.int .i64 0, Value.bool false], .box b29 41 [v144, Value.bool s143.2.1, Value.int .i64 s143.2.2.1, Value.bool s143.2.2.2.1], .row 52 6 v144 n145 cs146, .box b118 52 [v119, v121, Value.int .i64 r37, Value.string r84.1, Value.int .i64 s143.2.2.2.2.1, Value.int .i64 s143.2.2.2.2.2.1]]) (l' := [.row 28 2 v139 n140 cs141]) [0] (by decide) rfl), (Inc.rfl _)⟩)) rfl (fun w' hw' => (E.move k157)) ?_
         obtain ⟨p162, cs163, pt164, l165, at166, rel167, hall170⟩ := S161.row_atA (i := 0) rfl els142 (by decide) hx169
         obtain ⟨v171, v173, rfl, h172, h174⟩ := eSequent_open rel167
         refine FB.t (i := 2) (bs 7 7) rfl (SP.on (S161.box_now (i := 2) rfl) (SP.nil ⟨_, (S161.selT (a := [.row 28 2 v139 n140 cs141, .box b33 41 [Value.slice none 0 0, Value.bool false, Value.int .i64 0, Value.bool false], .box b29 41 [v144, Value.bool s143.2.1, Value.int .i64 s143.2.2.1, Value.bool s143.2.2.2.1], .row 52 6 v144 n145 cs146, .box b118 52 [v119, v121, Value.int .i64 r37, Value.string r84.1, Value.int .i64 s143.2.2.2.2.1, Value.int .i64 s143.2.2.2.2.2.1]]) (l' := [.row 28 2 v139 n140 cs141]) [0] (by decide) rfl), (Inc.rfl _)⟩)) rfl (fun w' hw' => (E.indexAddr te61 rfl rfl pt164)) ?_
         refine FB.t (i := 3) (bs 7 15) rfl (SP.on (S161.box_now (i := 2) rfl) (SP.nil ⟨_, (S161.selT (a := [.row 28 2 v139 n140 cs141, .box b33 41 [Value.slice none 0 0, Value.bool false, Value.int .i64 0, Value.bool false], .box b29 41 [v144, Value.bool s143.2.1, Value.int .i64 s143.2.2.1, Value.bool s143.2.2.2.1], .row 52 6 v144 n145 cs146, .box b118 52 [v119, v121, Value.int .i64 r37, Value.string r84.1, Value.int .i64 s143.2.2.2.2.1, Value.int .i64 s143.2.2.2.2.2.1]]) (l' := [.row 28 2 v139 n140 cs141]) [0] (by decide) rfl), (Inc.rfl _)⟩)) rfl (fun w' hw' => (E.load rfl (run_loadA Try.isAgg28 Try.sizeOf28 (hw'.use fun _ st => hall170 _ _ _ 0 st rfl) rfl))) ?_
         refine FB.p (i := 4) (bs 7 31) 0 [5, 6] rfl (SP.on (S161.box_now (i := 2) rfl) (SP.nil ⟨_, (S161.selT (a := [.row 28 2 v139 n140 cs141, .box b33 41 [Value.slice none 0 0, Value.bool false, Value.int .i64 0, Value.bool false], .box b29 41 [v144, Value.bool s143.2.1, Value.int .i64 s143.2.2.1, Value.bool s143.2.2.2.1], .row 52 6 v144 n145 cs146, .box b118 52 [v119, v121, Value.int .i64 r37, Value.string r84.1, Value.int .i64 s143.2.2.2.2.1, Value.int .i64 s143.2.2.2.2.2.1]]) (l' := [.row 28 2 v139 n140 cs141]) [0] (by decide) rfl), (Inc.rfl _)⟩)) rfl rfl (fun w' hw' => (E.load k153 (run_loadA Try.isAgg41 Try.sizeOf41 hw' rfl))) ?_
         refine FB.all1 (i := 5) (by kernel_rfl) ?_
         ·
          have S177 : St H0 w0 H148 w159 (.row 52 6 v144 n145 cs146 :: .row 28 2 v139 n140 cs141 :: .box b33 41 [Value.slice none 0 0, Value.bool false, Value.int .i64 0, Value.bool false] :: .box b29 41 [v144, Value.bool s143.2.1, Value.int .i64 s143.2.2.1, Value.bool s143.2.2.2.1] :: .box b118 52 [v119, v121, Value.int .i64 r37, Value.string r84.1, Value.int .i64 s143.2.2.2.2.1, Value.int .i64 s143.2.2.2.2.2.1] :: L) := S161.front 3 rfl rfl
          refine FC.call (l' := (bs 7 63)) rfl (by kernel_rfl) rfl rfl rfl (E.call Try.call18 (A2 rfl rfl)) (hrec_spec_l23Go (L := (.row 28 2 v139 n140 cs141 :: .box b33 41 [Value.slice none 0 0, Value.bool false, Value.int .i64 0, Value.bool false] :: .box b29 41 [v144, Value.bool s143.2.1, Value.int .i64 s143.2.2.1, Value.bool s143.2.2.2.1] :: .box b118 52 [v119, v121, Value.int .i64 r37, Value.string r84.1, Value.int .i64 s143.2.2.2.2.1, Value.int .i64 s143.2.2.2.2.2.1] :: L)) S177 x168 v171 (h172.mono i150) v173 (h174.mono i150) (a1 := (l23Search.mk s143.1 s143.2.1 s143.2.2.1 s143.2.2.2.1)) els147 hr176) ?_
          rintro e w179 ⟨H178, v182, n183, cs184, rfl, ⟨S180, i181⟩, els185⟩
          refine ⟨_, rfl, ?_⟩
          have S180 : St H0 w0 H178 w179 (.row 52 6 v182 n183 cs184 :: .row 28 2 v139 n140 cs141 :: .box b33 41 [Value.slice none 0 0, Value.bool false, Value.int .i64 0, Value.bool false] :: .box b29 41 [v144, Value.bool s143.2.1, Value.int .i64 s143.2.2.1, Value.bool s143.2.2.2.1] :: .box b118 52 [v119, v121, Value.int .i64 r37, Value.string r84.1, Value.int .i64 s143.2.2.2.2.1, Value.int .i64 s143.2.2.2.2.2.1] :: L) := S180
          refine ⟨(SP.on (S180.box_now (i := 3) rfl) (SP.nil ⟨_, (S180.selT (a := [.row 52 6 v182 n183 cs184, .row 28 2 v139 n140 cs141, .box b33 41 [Value.slice none 0 0, Value.bool false, Value.int .i64 0, Value.bool false], .box b29 41 [v144, Value.bool s143.2.1, Value.int .i64 s143.2.2.1, Value.bool s143.2.2.2.1], .box b118 52 [v119, v121, Value.int .i64 r37, Value.string r84.1, Value.int .i64 s143.2.2.2.2.1, Value.int .i64 s143.2.2.2.2.2.1]]) (l' := [.row 28 2 v139 n140 cs141]) [1] (by decide) rfl), i181⟩)), ?_⟩
          refine FB.all1 (i := 6) (by kernel_rfl) ?_
          ·
           obtain ⟨w186, run187, S188⟩ := S180.store0 (P := Try.prog) (t := 41) (i := 3) (cs' := [v182, Value.bool r175.open_, Value.int .i64 r175.bits, Value.bool r175.bad]) (l' := (.row 52 6 v182 n183 cs184 :: .row 28 2 v139 n140 cs141 :: .box b33 41 [Value.slice none 0 0, Value.bool false, Value.int .i64 0, Value.bool false] :: .box b29 41 [v182, Value.bool r175.open_, Value.int .i64 r175.bits, Value.bool r175.bad] :: .box b118 52 [v119, v121, Value.int .i64 r37, Value.string r84.1, Value.int .i64 s143.2.2.2.2.1, Value.int .i64 s143.2.2.2.2.2.1] :: L)) (v := Value.agg #[v182, Value.bool r175.open_, Value.int .i64 r175.bits, Value.bool r175.bad]) (c := [v182, Value.bool r175.open_, Value.int .i64 r175.bits, Value.bool r175.bad]) rfl Try.sizeOf41 rfl rfl (ones_cons (Ln.one (S180.row_ln (i := 0) rfl)) (ones_cons rfl (ones_cons rfl (ones_cons rfl ones_nil)))) (Nat.le_of_ble_eq_true rfl) rfl rfl
           refine FC.act (l' := (bs 7 127)) rfl (by kernel_rfl) rfl rfl (E.store k153 rfl run187) ?_
           refine ⟨(SP.o (SP.nil ⟨_, (S188.selT (a := [.row 52 6 v182 n183 cs184, .row 28 2 v139 n140 cs141, .box b33 41 [Value.slice none 0 0, Value.bool false, Value.int .i64 0, Value.bool false], .box b29 41 [v182, Value.bool r175.open_, Value.int .i64 r175.bits, Value.bool r175.bad], .box b118 52 [v119, v121, Value.int .i64 r37, Value.string r84.1, Value.int .i64 s143.2.2.2.2.1, Value.int .i64 s143.2.2.2.2.2.1]]) (l' := [.row 28 2 v139 n140 cs141]) [1] (by decide) rfl), i181⟩)), ?_⟩
           exact FB.done (by kernel_rfl) ⟨_, _, _, _, (S188.selT (a := [.row 52 6 v182 n183 cs184, .row 28 2 v139 n140 cs141, .box b33 41 [Value.slice none 0 0, Value.bool false, Value.int .i64 0, Value.bool false], .box b29 41 [v182, Value.bool r175.open_, Value.int .i64 r175.bits, Value.bool r175.bad], .box b118 52 [v119, v121, Value.int .i64 r37, Value.string r84.1, Value.int .i64 s143.2.2.2.2.1, Value.int .i64 s143.2.2.2.2.2.1]]) (l' := [.row 28 2 v139 n140 cs141, .box b33 41 [Value.slice none 0 0, Value.bool false, Value.int .i64 0, Value.bool false], .box b29 41 [v182, Value.bool r175.open_, Value.int .i64 r175.bits, Value.bool r175.bad], .row 52 6 v182 n183 cs184, .box b118 52 [v119, v121, Value.int .i64 r37, Value.string r84.1, Value.int .i64 s143.2.2.2.2.1, Value.int .i64 s143.2.2.2.2.2.1]]) [1, 2, 3, 0, 4] (by decide) rfl), i181, els185, k153, k154, k155, k156, k157⟩
        ·
         rintro f197 w196 ⟨H193, v189, n190, cs191, S194, i195, els192, k198, k199, k200, k201, k202⟩
         refine FW.seq (FW.seq (FW.region ?_))
         refine FL.v (E.fieldAddr tf41_1 k198) ?_
         refine FL.v (E.load rfl (run_load1 Try.isAgg4 (S194.box_now (i := 2) rfl) rfl)) ?_
         refine FL.v (E.move (v := Value.bool r175.open_) rfl) ?_
         refine FL.cut 3 (fun f w => ∃ H : GH, St H0 w0 H w (.row 28 2 v139 n140 cs141 :: .box b33 41 [Value.slice none 0 0, Value.bool false, Value.int .i64 0, Value.bool false] :: .box b29 41 [v189, Value.bool r175.open_, Value.int .i64 r175.bits, Value.bool r175.bad] :: .row 52 6 v189 n190 cs191 :: .box b118 52 [v119, v121, Value.int .i64 r37, Value.string r84.1, Value.int .i64 s143.2.2.2.2.1, Value.int .i64 s143.2.2.2.2.2.1] :: L) ∧ Inc H193 H ∧ f 3 = Value.pointer (some (⟨b29, 0, none⟩ : Addr)) ∧ f 4 = Value.pointer (some (⟨b33, 0, none⟩ : Addr)) ∧ f 8 = Value.pointer (some (⟨b118, 0, none⟩ : Addr)) ∧ f 9 = v139 ∧ f 10 = Value.int .i64 s143.2.2.2.2.2.2 ∧ f 71 = Value.bool (bif r175.open_ then true else r175.bad)) ?_ ?_
         ·
          rcases bcase r175.open_ with c208 | c208
          ·
           refine FL.skip (wF_no rfl rfl rfl c208) rfl ?_
           refine FL.skip (wF_no rfl rfl rfl c208) rfl ?_
           refine FL.v (E.pickT rfl c208 rfl) ?_
           exact FL.nil ⟨rfl, _, S194, (Inc.rfl _), k198, k199, k200, k201, k202, (congrArg Value.bool (bifT c208).symm)⟩
          ·
           refine FL.val (wF_yes rfl rfl rfl c208) rfl rfl (E.fieldAddr tf41_3 k198) ?_
           refine FL.val (wF_yes rfl rfl rfl c208) rfl rfl (E.load rfl (run_load1 Try.isAgg4 (S194.box_now (i := 2) rfl) rfl)) ?_
           refine FL.v (E.pickF rfl c208 rfl) ?_
           exact FL.nil ⟨rfl, _, S194, (Inc.rfl _), k198, k199, k200, k201, k202, (congrArg Value.bool (bifF c208).symm)⟩
         rintro f207 w206 ⟨H203, S204, i205, k209, k210, k211, k212, k213, k214⟩
         refine FL.nil ?_
         rcases ifB hp with ⟨c215, hp⟩ | ⟨c215, hp⟩
         ·
          refine FW.condT k214 c215 ?_
          refine FW.seq (FW.region ?_)
          refine FL.v (E.load k209 (run_loadA Try.isAgg41 Try.sizeOf41 (S204.box_now (i := 2) rfl) rfl)) ?_
          obtain ⟨w216, run217, S218⟩ := S204.store0 (P := Try.prog) (t := 41) (i := 1) (cs' := [v189, Value.bool r175.open_, Value.int .i64 r175.bits, Value.bool r175.bad]) (l' := (.row 28 2 v139 n140 cs141 :: .box b33 41 [v189, Value.bool r175.open_, Value.int .i64 r175.bits, Value.bool r175.bad] :: .box b29 41 [v189, Value.bool r175.open_, Value.int .i64 r175.bits, Value.bool r175.bad] :: .row 52 6 v189 n190 cs191 :: .box b118 52 [v119, v121, Value.int .i64 r37, Value.string r84.1, Value.int .i64 s143.2.2.2.2.1, Value.int .i64 s143.2.2.2.2.2.1] :: L)) (v := Value.agg #[v189, Value.bool r175.open_, Value.int .i64 r175.bits, Value.bool r175.bad]) (c := [v189, Value.bool r175.open_, Value.int .i64 r175.bits, Value.bool r175.bad]) rfl Try.sizeOf41 rfl rfl (ones_cons (Ln.one (S204.row_ln (i := 3) rfl)) (ones_cons rfl (ones_cons rfl (ones_cons rfl ones_nil)))) (Nat.le_of_ble_eq_true rfl) rfl rfl
          refine FL.act rfl rfl (E.store k210 rfl run217) ?_
          refine FL.nil ?_
          refine FW.ret ?_
          obtain rfl := Option.some.inj hp
          exact ⟨nofun, rfl, ⟨.inr rfl, resC rfl k210 (loadVar_A Try.isAgg41 Try.sizeOf41 (S218.box_now (i := 1) rfl) rfl) ⟨_, _, _, _, rfl, ⟨(S218.selT (a := [.row 28 2 v139 n140 cs141, .box b33 41 [v189, Value.bool r175.open_, Value.int .i64 r175.bits, Value.bool r175.bad], .box b29 41 [v189, Value.bool r175.open_, Value.int .i64 r175.bits, Value.bool r175.bad], .row 52 6 v189 n190 cs191, .box b118 52 [v119, v121, Value.int .i64 r37, Value.string r84.1, Value.int .i64 s143.2.2.2.2.1, Value.int .i64 s143.2.2.2.2.2.1]]) (l' := [.row 52 6 v189 n190 cs191]) [3] (by decide) rfl), ((((((i27.tr i40).tr i125).tr r138.run.inc).tr i150).tr i195).tr i205)⟩, (els192.mono i205)⟩⟩⟩
         ·
          refine FW.condF k214 c215 ?_
          refine FW.skip (FW.seq (FW.region ?_))
          refine FL.v (E.move k213) ?_
          refine FL.v (E.eql rfl rfl) ?_
          refine FL.nil ?_
          rcases ifB hp with ⟨c219, hp⟩ | ⟨c219, hp⟩
          ·
           refine FW.condT rfl c219 ?_
           refine FW.region ?_
           refine FL.v (E.fieldAddr tf41_0 k209) ?_
           refine FL.v (E.load rfl (run_load1 Try.isAgg32 (S204.box_now (i := 2) rfl) rfl)) ?_
           refine FL.v (E.lenO te32 rfl S204 (i := 3) rfl els192 (by decide)) ?_
           refine FL.v (E.sub rfl rfl) ?_
           refine FL.v (E.fieldAddr tf52_3 k211) ?_
           obtain ⟨w220, run221, S222⟩ := S204.store (P := Try.prog) (t := 3) (i := 4) (j := 4) (cs' := [v119, v121, Value.int .i64 r37, Value.string r84.1, Value.int .i64 (wr ((len r175.steps) - 1)), Value.int .i64 s143.2.2.2.2.2.1]) (l' := (.row 28 2 v139 n140 cs141 :: .box b33 41 [Value.slice none 0 0, Value.bool false, Value.int .i64 0, Value.bool false] :: .box b29 41 [v189, Value.bool r175.open_, Value.int .i64 r175.bits, Value.bool r175.bad] :: .row 52 6 v189 n190 cs191 :: .box b118 52 [v119, v121, Value.int .i64 r37, Value.string r84.1, Value.int .i64 (wr ((len r175.steps) - 1)), Value.int .i64 s143.2.2.2.2.2.1] :: L)) (v := Value.int .i64 (wr ((len r175.steps) - 1))) (c := [Value.int .i64 (wr ((len r175.steps) - 1))]) rfl Try.sizeOf3 rfl rfl (ones_cons rfl ones_nil) (Nat.le_of_ble_eq_true rfl) rfl rfl
           refine FL.act rfl rfl (E.store rfl rfl run221) ?_
           refine FL.nil (FW.region ?_)
           refine FL.v (E.move k213) ?_
           refine FL.v (E.add rfl rfl) ?_
           refine FL.v (E.assign (v := Value.int .i64 (wr (s143.2.2.2.2.2.2 + 1))) rfl) ?_
           refine FL.nil ?_
           obtain rfl := Option.some.inj hp
           exact ⟨rfl, ⟨_, _, _, _, S222, ((i150.tr i195).tr i205), (els192.mono i205), k209, k210, k211, k212, rfl⟩⟩
          ·
           refine FW.condF rfl c219 ?_
           refine FW.region ?_
           refine FL.v (E.fieldAddr tf41_0 k209) ?_
           refine FL.v (E.load rfl (run_load1 Try.isAgg32 (S204.box_now (i := 2) rfl) rfl)) ?_
           refine FL.v (E.lenO te32 rfl S204 (i := 3) rfl els192 (by decide)) ?_
           refine FL.v (E.sub rfl rfl) ?_
           refine FL.v (E.fieldAddr tf52_4 k211) ?_
           obtain ⟨w223, run224, S225⟩ := S204.store (P := Try.prog) (t := 3) (i := 4) (j := 5) (cs' := [v119, v121, Value.int .i64 r37, Value.string r84.1, Value.int .i64 s143.2.2.2.2.1, Value.int .i64 (wr ((len r175.steps) - 1))]) (l' := (.row 28 2 v139 n140 cs141 :: .box b33 41 [Value.slice none 0 0, Value.bool false, Value.int .i64 0, Value.bool false] :: .box b29 41 [v189, Value.bool r175.open_, Value.int .i64 r175.bits, Value.bool r175.bad] :: .row 52 6 v189 n190 cs191 :: .box b118 52 [v119, v121, Value.int .i64 r37, Value.string r84.1, Value.int .i64 s143.2.2.2.2.1, Value.int .i64 (wr ((len r175.steps) - 1))] :: L)) (v := Value.int .i64 (wr ((len r175.steps) - 1))) (c := [Value.int .i64 (wr ((len r175.steps) - 1))]) rfl Try.sizeOf3 rfl rfl (ones_cons rfl ones_nil) (Nat.le_of_ble_eq_true rfl) rfl rfl
           refine FL.act rfl rfl (E.store rfl rfl run224) ?_
           refine FL.nil (FW.region ?_)
           refine FL.v (E.move k213) ?_
           refine FL.v (E.add rfl rfl) ?_
           refine FL.v (E.assign (v := Value.int .i64 (wr (s143.2.2.2.2.2.2 + 1))) rfl) ?_
           refine FL.nil ?_
           obtain rfl := Option.some.inj hp
           exact ⟨rfl, ⟨_, _, _, _, S225, ((i150.tr i195).tr i205), (els192.mono i205), k209, k210, k211, k212, rfl⟩⟩
       ·
        refine FW.condF rfl c158 ?_
        refine FW.exit ?_
        obtain rfl := Option.some.inj hp
        exact ⟨nofun, rfl, ⟨_, _, _, _, S149, i150, els147, k153, k154, k155⟩⟩
      ·
       clear hq
       intro e f231 w230 hD
       rcases q143 with s143 | x143
       ·
        obtain ⟨rfl, hD⟩ := hD
        obtain ⟨H227, v144, n145, cs146, S228, i229, els147, k232, k233, k234⟩ := hD
        replace hp := el_go hp
        refine FW.seq (FW.region ?_)
        refine FL.v (E.load k232 (run_loadA Try.isAgg41 Try.sizeOf41 (S228.box_now (i := 2) rfl) rfl)) ?_
        refine FL.v (E.load k234 (run_loadA Try.isAgg52 Try.sizeOf52 (S228.box_now (i := 4) rfl) rfl)) ?_
        obtain ⟨r235, hr236, hp⟩ := bnd hp
        have S237 : St H0 w0 H227 w230 (.row 52 6 v144 n145 cs146 :: .row 28 2 v139 n140 cs141 :: .box b33 41 [Value.slice none 0 0, Value.bool false, Value.int .i64 0, Value.bool false] :: .box b29 41 [v144, Value.bool s143.2.1, Value.int .i64 s143.2.2.1, Value.bool s143.2.2.2.1] :: .box b118 52 [v119, v121, Value.int .i64 r37, Value.string r84.1, Value.int .i64 s143.2.2.2.2.1, Value.int .i64 s143.2.2.2.2.2.1] :: L) := S228.front 3 rfl rfl
        refine FL.call rfl rfl rfl (E.call Try.call30 (A2 rfl rfl)) (w_spec_l23Put (L := (.row 28 2 v139 n140 cs141 :: .box b33 41 [Value.slice none 0 0, Value.bool false, Value.int .i64 0, Value.bool false] :: .box b29 41 [v144, Value.bool s143.2.1, Value.int .i64 s143.2.2.1, Value.bool s143.2.2.2.1] :: .box b118 52 [v119, v121, Value.int .i64 r37, Value.string r84.1, Value.int .i64 s143.2.2.2.2.1, Value.int .i64 s143.2.2.2.2.2.1] :: L)) S237 (a0 := (l23Search.mk s143.1 s143.2.1 s143.2.2.1 s143.2.2.2.1)) els147 (SeqStep.mk a0 r37 r84.1 s143.2.2.2.2.1 s143.2.2.2.2.2.1) v119 (h120.mono (r138.run.inc.tr i229)) v121 (h122.mono (r138.run.inc.tr i229)) hr236) ?_
        rintro e w239 ⟨H238, v242, n243, cs244, rfl, ⟨S240, i241⟩, els245⟩
        refine ⟨_, rfl, ?_⟩
        have S240 : St H0 w0 H238 w239 (.row 52 6 v242 n243 cs244 :: .row 28 2 v139 n140 cs141 :: .box b33 41 [Value.slice none 0 0, Value.bool false, Value.int .i64 0, Value.bool false] :: .box b29 41 [v144, Value.bool s143.2.1, Value.int .i64 s143.2.2.1, Value.bool s143.2.2.2.1] :: .box b118 52 [v119, v121, Value.int .i64 r37, Value.string r84.1, Value.int .i64 s143.2.2.2.2.1, Value.int .i64 s143.2.2.2.2.2.1] :: L) := S240
        obtain ⟨w246, run247, S248⟩ := S240.store0 (P := Try.prog) (t := 41) (i := 2) (cs' := [v242, Value.bool r235.open_, Value.int .i64 r235.bits, Value.bool r235.bad]) (l' := (.row 52 6 v242 n243 cs244 :: .row 28 2 v139 n140 cs141 :: .box b33 41 [v242, Value.bool r235.open_, Value.int .i64 r235.bits, Value.bool r235.bad] :: .box b29 41 [v144, Value.bool s143.2.1, Value.int .i64 s143.2.2.1, Value.bool s143.2.2.2.1] :: .box b118 52 [v119, v121, Value.int .i64 r37, Value.string r84.1, Value.int .i64 s143.2.2.2.2.1, Value.int .i64 s143.2.2.2.2.2.1] :: L)) (v := Value.agg #[v242, Value.bool r235.open_, Value.int .i64 r235.bits, Value.bool r235.bad]) (c := [v242, Value.bool r235.open_, Value.int .i64 r235.bits, Value.bool r235.bad]) rfl Try.sizeOf41 rfl rfl (ones_cons (Ln.one (S240.row_ln (i := 0) rfl)) (ones_cons rfl (ones_cons rfl (ones_cons rfl ones_nil)))) (Nat.le_of_ble_eq_true rfl) rfl rfl
        refine FL.act rfl rfl (E.store k233 rfl run247) ?_
        refine FL.nil ?_
        refine FW.ret ?_
        obtain rfl := Option.some.inj hp
        exact ⟨.inr rfl, resC rfl k233 (loadVar_A Try.isAgg41 Try.sizeOf41 (S248.box_now (i := 2) rfl) rfl) ⟨_, _, _, _, rfl, ⟨(S248.selT (a := [.row 52 6 v242 n243 cs244, .row 28 2 v139 n140 cs141, .box b33 41 [v242, Value.bool r235.open_, Value.int .i64 r235.bits, Value.bool r235.bad], .box b29 41 [v144, Value.bool s143.2.1, Value.int .i64 s143.2.2.1, Value.bool s143.2.2.2.1], .box b118 52 [v119, v121, Value.int .i64 r37, Value.string r84.1, Value.int .i64 s143.2.2.2.2.1, Value.int .i64 s143.2.2.2.2.2.1]]) (l' := [.row 52 6 v242 n243 cs244]) [0] (by decide) rfl), (((((i27.tr i40).tr i125).tr r138.run.inc).tr i229).tr i241)⟩, els245⟩⟩
       ·
        obtain ⟨he, hL⟩ := hD
        replace hp := el_rt hp
        obtain rfl := Option.some.inj hp
        subst he
        exact hL
theorem w_spec_l23Go_F (n : Nat) : ∀ {H0 Ha : GH} {w0 wa : World} {L : List MO} {a1 : l23Search} {v1_0 : Value} {n1_0 : Nat} {k1_0 : List Value} (S0 : St H0 w0 Ha wa (.row 52 6 v1_0 n1_0 k1_0 :: L)) (a0 : Sequent) (v0_0 : Value) (p0_0 : RSl Ha eS 1 v0_0 a0.left) (v0_1 : Value) (p0_1 : RSl Ha eS 1 v0_1 a0.right) (p1_0 : Els Ha eSeqStep 6 k1_0 a1.steps) {r : l23Search} (hp : PF.spec_l23Go_F n a0 a1 = some r), Calls Try.prog 18 #[Value.agg #[v0_0, v0_1], Value.agg #[v1_0, Value.bool a1.open_, Value.int .i64 a1.bits, Value.bool a1.bad]] wa (p_spec_l23Go H0 w0 Ha L r) := by
 induction n with
 | zero => intros; rename_i hp; exact nomatch hp
 | succ n ih => exact w_spec_l23Go_B (rec_spec_l23Go := PF.spec_l23Go_F n) ih
theorem w_spec_l23Go {H0 Ha : GH} {w0 wa : World} {L : List MO} {a1 : l23Search} {v1_0 : Value} {n1_0 : Nat} {k1_0 : List Value} (S0 : St H0 w0 Ha wa (.row 52 6 v1_0 n1_0 k1_0 :: L)) (a0 : Sequent) (v0_0 : Value) (p0_0 : RSl Ha eS 1 v0_0 a0.left) (v0_1 : Value) (p0_1 : RSl Ha eS 1 v0_1 a0.right) (p1_0 : Els Ha eSeqStep 6 k1_0 a1.steps) {r : l23Search} (hp : PF.spec_l23Go a0 a1 = some r) :
  Calls Try.prog 18 #[Value.agg #[v0_0, v0_1], Value.agg #[v1_0, Value.bool a1.open_, Value.int .i64 a1.bits, Value.bool a1.bad]] wa (p_spec_l23Go H0 w0 Ha L r) := w_spec_l23Go_F deep S0 a0 v0_0 p0_0 v0_1 p0_1 p1_0 hp

@[reducible] def p_spec_l23Own (Ha : GH) (wa : World) (r : Sequent) : Ending → World → Prop :=
 fun e w' => ∃ H' : GH, ∃ v0_0 : Value, ∃ v0_1 : Value, e = .returned (Value.agg #[v0_0, v0_1]) ∧ Run wa.heap.size Ha wa H' w' ∧ (∃ c0 c1, Nest (up wa.heap.size H') eS 1 v0_0 r.left c0 ∧ Nest (up wa.heap.size H') eS 1 v0_1 r.right c1 ∧ Ap v0_0 c0 v0_1 c1)
set_option maxHeartbeats 4000000 in
theorem w_spec_l23Own {Ha : GH} {wa : World} (hs : Sl Ha wa) (a0 : Sequent) (v0_0 : Value) (p0_0 : RSl Ha eS 1 v0_0 a0.left) (v0_1 : Value) (p0_1 : RSl Ha eS 1 v0_1 a0.right) {r : Sequent} (hp : (PF.spec_l23Own a0) = some r) :
  Calls Try.prog 23 #[Value.agg #[v0_0, v0_1]] wa (p_spec_l23Own Ha wa r) := by
 unfold PF.spec_l23Own at hp
 have S0 := St.init hs
 refine calls_go (N := 12) (args := [Value.agg #[v0_0, v0_1]]) Try.func23 rfl rfl rfl ?_
 refine FW.seq (FW.region ?_)
 obtain ⟨b21, w22, run23, S24⟩ := S0.box (P := Try.prog) 28 [v0_0, v0_1] (v := Value.agg #[v0_0, v0_1]) rfl (ones_cons p0_0.one (ones_cons p0_1.one ones_nil))
 refine FL.v (E.box rfl run23) ?_
 obtain ⟨H25, S26, i27, at28⟩ := S24.sealBox (i := 0) (l' := []) rfl rfl
 obtain ⟨b29, w30, run31, S32⟩ := S26.alloc (P := Try.prog) 28 [Value.slice none 0 0, Value.slice none 0 0] Try.zeroValue28 rfl (ones_cons rfl (ones_cons rfl ones_nil))
 refine FL.v (E.alloc run31) ?_
 refine FL.nil (FW.seq ?_)
 obtain ⟨xs41, hz42, hp⟩ := bnd hp
 obtain ⟨xs55, hz56, hp⟩ := bnd hp
 refine FW.drawB (Sl H25) (fun f w => ∃ H : GH, ∃ v77 : Value, ∃ v80 : Value, St Ha wa H w [.box b29 28 [v77, v80]] ∧ Inc H25 H ∧ RSl (up wa.heap.size H) eS 1 v77 xs41 ∧ RSl (up wa.heap.size H) eS 1 v80 xs55 ∧ New H25 [v77] ∧ New H25 [v80] ∧ (∀ b ∈ bl [v77], b ∉ bl [v80]) ∧ f 2 = Value.pointer (some (⟨b29, 0, none⟩ : Addr))) (by kernel_rfl) S32.sl ?_ ?_
 ·
  intro w33 r34
  have S35 := S32.call r34
  refine FB.t (i := 1) (bs 10 2) rfl (SP.nil S35.sl) rfl (fun w' hw' => (E.fieldAddr tf28_0 rfl)) ?_
  refine FB.t (i := 2) (bs 10 6) rfl (SP.nil S35.sl) rfl (fun w' hw' => (E.load rfl (run_load1 Try.isAgg22 (at28.now hw') rfl))) ?_
  refine FB.t (i := 5) (bs 10 38) rfl (SP.nil S35.sl) rfl (fun w' hw' => (E.fieldAddr tf28_1 rfl)) ?_
  refine FB.t (i := 6) (bs 10 102) rfl (SP.nil S35.sl) rfl (fun w' hw' => (E.load rfl (run_load1 Try.isAgg22 (at28.now hw') rfl))) ?_
  refine FB.all2 (i := 0) (j := 4) (by kernel_rfl) ?_ ?_
  ·
   obtain ⟨v36, w37, run38, S39⟩ := S35.buildSlice (P := Try.prog) te22 [] (parts := #[]) (cells := []) rfl szs_nil fc_nil ones_nil (Nat.le_of_ble_eq_true rfl)
   have els40 : Els (up wa.heap.size H25) eS 1 [] [] := Els.nil
   refine FC.val (l' := (bs 10 103)) rfl (by kernel_rfl) rfl rfl rfl (E.buildSlice (B0) run38) ?_
   refine ⟨(SP.nil S39.sl), ?_⟩
   refine FB.all2 (i := 3) (j := 4) (by kernel_rfl) ?_ ?_
   ·
    obtain ⟨v43, w46, n44, cs45, run47, S48, els49⟩ := S39.appendP (P := Try.prog) (Inc.rfl _) te22 (i := 0) rfl (els40.mono upI) (p0_0.mono i27) hz42
    have S48 : St Ha wa H25 w46 [.row 9 1 v43 n44 cs45, .box b29 28 [Value.slice none 0 0, Value.slice none 0 0]] := S48
    have els49 : Els (up wa.heap.size H25) eS 1 cs45 xs41 := els49.any (fun _ _ _ _ h => h)
    refine FC.val (l' := (bs 10 111)) rfl (by kernel_rfl) rfl rfl rfl (E.append rfl rfl run47) ?_
    refine ⟨(SP.nil S48.sl), ?_⟩
    refine FB.all1 (i := 4) (by kernel_rfl) ?_
    ·
     obtain ⟨v50, w51, run52, S53⟩ := S48.buildSlice (P := Try.prog) te22 [] (parts := #[]) (cells := []) rfl szs_nil fc_nil ones_nil (Nat.le_of_ble_eq_true rfl)
     have els54 : Els (up wa.heap.size H25) eS 1 [] [] := Els.nil
     refine FC.val (l' := (bs 10 127)) rfl (by kernel_rfl) rfl rfl rfl (E.buildSlice (B0) run52) ?_
     refine ⟨(SP.nil S53.sl), ?_⟩
     refine FB.all1 (i := 7) (by kernel_rfl) ?_
     ·
      obtain ⟨v57, w60, n58, cs59, run61, S62, els63⟩ := S53.appendP (P := Try.prog) (Inc.rfl _) te22 (i := 0) rfl (els54.mono upI) (p0_1.mono i27) hz56
      have S62 : St Ha wa H25 w60 [.row 9 1 v57 n58 cs59, .row 9 1 v43 n44 cs45, .box b29 28 [Value.slice none 0 0, Value.slice none 0 0]] := S62
      have els63 : Els (up wa.heap.size H25) eS 1 cs59 xs55 := els63.any (fun _ _ _ _ h => h)
      refine FC.val (l' := (bs 10 255)) rfl (by kernel_rfl) rfl rfl rfl (E.append rfl rfl run61) ?_
      refine ⟨(SP.nil S62.sl), ?_⟩
      obtain ⟨H64, S65, i66, h67, nv68⟩ := S62.sealRowU (i := 1) (l' := [.row 9 1 v57 n58 cs59, .box b29 28 [Value.slice none 0 0, Value.slice none 0 0]]) rfl els49 (by decide) rfl
      obtain ⟨H69, S70, i71, h72, nv73⟩ := S65.sealRowU (i := 0) (l' := [.box b29 28 [Value.slice none 0 0, Value.slice none 0 0]]) rfl (els63.mono (up_mono i66)) (by decide) rfl
      refine FB.t (i := 8) (bs 10 511) rfl (SP.nil S62.sl) rfl (fun w' hw' => (E.build (B2 rfl rfl) (run_build _ 28 #[(0, v43), (1, v57)] #[v43, v57] (by obtain ⟨_, _, rfl⟩ := RSl.ln (h67.mono (upI.tr i71)); obtain ⟨_, _, rfl⟩ := RSl.ln (h72.mono upI); rfl)))) ?_
      refine FB.all1 (i := 9) (by kernel_rfl) ?_
      ·
       obtain ⟨w74, run75, S76⟩ := S70.store0 (P := Try.prog) (t := 28) (i := 0) (cs' := [v43, v57]) (l' := [.box b29 28 [v43, v57]]) (v := Value.agg #[v43, v57]) (c := [v43, v57]) rfl Try.sizeOf28 rfl rfl (ones_cons h67.one (ones_cons h72.one ones_nil)) (Nat.le_of_ble_eq_true rfl) rfl rfl
       refine FC.act (l' := (bs 10 1023)) rfl (by kernel_rfl) rfl rfl (E.store rfl rfl run75) ?_
       refine ⟨(SP.nil (Sl.of_inc (i66.tr i71) S76.sl)), ?_⟩
       exact FB.done (by kernel_rfl) ⟨_, _, _, S76, (i66.tr i71), (h67.mono (up_mono i71)), h72, (nv68.anti (Inc.rfl _)), (nv73.anti i66), (New.apart (h67.mono (up_mono (Inc.rfl _))) nv73), rfl⟩
   ·
    obtain ⟨v50, w51, run52, S53⟩ := S39.buildSlice (P := Try.prog) te22 [] (parts := #[]) (cells := []) rfl szs_nil fc_nil ones_nil (Nat.le_of_ble_eq_true rfl)
    have els54 : Els (up wa.heap.size H25) eS 1 [] [] := Els.nil
    refine FC.val (l' := (bs 10 119)) rfl (by kernel_rfl) rfl rfl rfl (E.buildSlice (B0) run52) ?_
    refine ⟨(SP.nil S53.sl), ?_⟩
    refine FB.all1 (i := 3) (by kernel_rfl) ?_
    ·
     obtain ⟨v43, w46, n44, cs45, run47, S48, els49⟩ := S53.appendP (P := Try.prog) (Inc.rfl _) te22 (i := 1) rfl (els40.mono upI) (p0_0.mono i27) hz42
     have S48 : St Ha wa H25 w46 [.row 9 1 v50 0 [], .row 9 1 v43 n44 cs45, .box b29 28 [Value.slice none 0 0, Value.slice none 0 0]] := S48
     have els49 : Els (up wa.heap.size H25) eS 1 cs45 xs41 := els49.any (fun _ _ _ _ h => h)
     refine FC.val (l' := (bs 10 127)) rfl (by kernel_rfl) rfl rfl rfl (E.append rfl rfl run47) ?_
     refine ⟨(SP.nil S48.sl), ?_⟩
     refine FB.all1 (i := 7) (by kernel_rfl) ?_
     ·
      obtain ⟨v57, w60, n58, cs59, run61, S62, els63⟩ := S48.appendP (P := Try.prog) (Inc.rfl _) te22 (i := 0) rfl (els54.mono upI) (p0_1.mono i27) hz56
      have S62 : St Ha wa H25 w60 [.row 9 1 v57 n58 cs59, .row 9 1 v43 n44 cs45, .box b29 28 [Value.slice none 0 0, Value.slice none 0 0]] := S62
      have els63 : Els (up wa.heap.size H25) eS 1 cs59 xs55 := els63.any (fun _ _ _ _ h => h)
      refine FC.val (l' := (bs 10 255)) rfl (by kernel_rfl) rfl rfl rfl (E.append rfl rfl run61) ?_
      refine ⟨(SP.nil S62.sl), ?_⟩
      obtain ⟨H64, S65, i66, h67, nv68⟩ := S62.sealRowU (i := 1) (l' := [.row 9 1 v57 n58 cs59, .box b29 28 [Value.slice none 0 0, Value.slice none 0 0]]) rfl els49 (by decide) rfl
      obtain ⟨H69, S70, i71, h72, nv73⟩ := S65.sealRowU (i := 0) (l' := [.box b29 28 [Value.slice none 0 0, Value.slice none 0 0]]) rfl (els63.mono (up_mono i66)) (by decide) rfl
      refine FB.t (i := 8) (bs 10 511) rfl (SP.nil S62.sl) rfl (fun w' hw' => (E.build (B2 rfl rfl) (run_build _ 28 #[(0, v43), (1, v57)] #[v43, v57] (by obtain ⟨_, _, rfl⟩ := RSl.ln (h67.mono (upI.tr i71)); obtain ⟨_, _, rfl⟩ := RSl.ln (h72.mono upI); rfl)))) ?_
      refine FB.all1 (i := 9) (by kernel_rfl) ?_
      ·
       obtain ⟨w74, run75, S76⟩ := S70.store0 (P := Try.prog) (t := 28) (i := 0) (cs' := [v43, v57]) (l' := [.box b29 28 [v43, v57]]) (v := Value.agg #[v43, v57]) (c := [v43, v57]) rfl Try.sizeOf28 rfl rfl (ones_cons h67.one (ones_cons h72.one ones_nil)) (Nat.le_of_ble_eq_true rfl) rfl rfl
       refine FC.act (l' := (bs 10 1023)) rfl (by kernel_rfl) rfl rfl (E.store rfl rfl run75) ?_
       refine ⟨(SP.nil (Sl.of_inc (i66.tr i71) S76.sl)), ?_⟩
       exact FB.done (by kernel_rfl) ⟨_, _, _, S76, (i66.tr i71), (h67.mono (up_mono i71)), h72, (nv68.anti (Inc.rfl _)), (nv73.anti i66), (New.apart (h67.mono (up_mono (Inc.rfl _))) nv73), rfl⟩
  ·
   obtain ⟨v50, w51, run52, S53⟩ := S35.buildSlice (P := Try.prog) te22 [] (parts := #[]) (cells := []) rfl szs_nil fc_nil ones_nil (Nat.le_of_ble_eq_true rfl)
   have els54 : Els (up wa.heap.size H25) eS 1 [] [] := Els.nil
   refine FC.val (l' := (bs 10 118)) rfl (by kernel_rfl) rfl rfl rfl (E.buildSlice (B0) run52) ?_
   refine ⟨(SP.nil S53.sl), ?_⟩
   refine FB.all1 (i := 0) (by kernel_rfl) ?_
   ·
    obtain ⟨v36, w37, run38, S39⟩ := S53.buildSlice (P := Try.prog) te22 [] (parts := #[]) (cells := []) rfl szs_nil fc_nil ones_nil (Nat.le_of_ble_eq_true rfl)
    have els40 : Els (up wa.heap.size H25) eS 1 [] [] := Els.nil
    refine FC.val (l' := (bs 10 119)) rfl (by kernel_rfl) rfl rfl rfl (E.buildSlice (B0) run38) ?_
    refine ⟨(SP.nil S39.sl), ?_⟩
    refine FB.all1 (i := 3) (by kernel_rfl) ?_
    ·
     obtain ⟨v43, w46, n44, cs45, run47, S48, els49⟩ := S39.appendP (P := Try.prog) (Inc.rfl _) te22 (i := 0) rfl (els40.mono upI) (p0_0.mono i27) hz42
     have S48 : St Ha wa H25 w46 [.row 9 1 v43 n44 cs45, .row 9 1 v50 0 [], .box b29 28 [Value.slice none 0 0, Value.slice none 0 0]] := S48
     have els49 : Els (up wa.heap.size H25) eS 1 cs45 xs41 := els49.any (fun _ _ _ _ h => h)
     refine FC.val (l' := (bs 10 127)) rfl (by kernel_rfl) rfl rfl rfl (E.append rfl rfl run47) ?_
     refine ⟨(SP.nil S48.sl), ?_⟩
     refine FB.all1 (i := 7) (by kernel_rfl) ?_
     ·
      obtain ⟨v57, w60, n58, cs59, run61, S62, els63⟩ := S48.appendP (P := Try.prog) (Inc.rfl _) te22 (i := 1) rfl (els54.mono upI) (p0_1.mono i27) hz56
      have S62 : St Ha wa H25 w60 [.row 9 1 v43 n44 cs45, .row 9 1 v57 n58 cs59, .box b29 28 [Value.slice none 0 0, Value.slice none 0 0]] := S62
      have els63 : Els (up wa.heap.size H25) eS 1 cs59 xs55 := els63.any (fun _ _ _ _ h => h)
      refine FC.val (l' := (bs 10 255)) rfl (by kernel_rfl) rfl rfl rfl (E.append rfl rfl run61) ?_
      refine ⟨(SP.nil S62.sl), ?_⟩
      obtain ⟨H64, S65, i66, h67, nv68⟩ := S62.sealRowU (i := 0) (l' := [.row 9 1 v57 n58 cs59, .box b29 28 [Value.slice none 0 0, Value.slice none 0 0]]) rfl els49 (by decide) rfl
      obtain ⟨H69, S70, i71, h72, nv73⟩ := S65.sealRowU (i := 0) (l' := [.box b29 28 [Value.slice none 0 0, Value.slice none 0 0]]) rfl (els63.mono (up_mono i66)) (by decide) rfl
      refine FB.t (i := 8) (bs 10 511) rfl (SP.nil S62.sl) rfl (fun w' hw' => (E.build (B2 rfl rfl) (run_build _ 28 #[(0, v43), (1, v57)] #[v43, v57] (by obtain ⟨_, _, rfl⟩ := RSl.ln (h67.mono (upI.tr i71)); obtain ⟨_, _, rfl⟩ := RSl.ln (h72.mono upI); rfl)))) ?_
      refine FB.all1 (i := 9) (by kernel_rfl) ?_
      ·
       obtain ⟨w74, run75, S76⟩ := S70.store0 (P := Try.prog) (t := 28) (i := 0) (cs' := [v43, v57]) (l' := [.box b29 28 [v43, v57]]) (v := Value.agg #[v43, v57]) (c := [v43, v57]) rfl Try.sizeOf28 rfl rfl (ones_cons h67.one (ones_cons h72.one ones_nil)) (Nat.le_of_ble_eq_true rfl) rfl rfl
       refine FC.act (l' := (bs 10 1023)) rfl (by kernel_rfl) rfl rfl (E.store rfl rfl run75) ?_
       refine ⟨(SP.nil (Sl.of_inc (i66.tr i71) S76.sl)), ?_⟩
       exact FB.done (by kernel_rfl) ⟨_, _, _, S76, (i66.tr i71), (h67.mono (up_mono i71)), h72, (nv68.anti (Inc.rfl _)), (nv73.anti i66), (New.apart (h67.mono (up_mono (Inc.rfl _))) nv73), rfl⟩
 ·
  rintro f88 w87 ⟨H84, v77, v80, S85, i86, h78, h81, nv79, nv82, hd83, k89⟩
  refine FW.ret ?_
  obtain rfl := Option.some.inj hp
  exact ⟨.inr rfl, resC rfl k89 (loadVar_A Try.isAgg28 Try.sizeOf28 (S85.box_now (i := 0) rfl) rfl) ⟨_, _, _, rfl, S85.run, (Ap.flat2 h78 eS_flat (by decide) h81 eS_flat (by decide) hd83)⟩⟩

@[reducible] def p_spec_SearchSequent (Ha : GH) (wa : World) (r : ((List SeqStep) × Bool)) : Ending → World → Prop :=
 fun e w' => ∃ H' : GH, ∃ v0 : Value, ∃ n0 : Nat, ∃ c0 : List Value, e = .returned (Value.tuple #[v0, Value.bool r.2]) ∧ St Ha wa H' w' [.row 52 6 v0 n0 c0] ∧ Els H' eSeqStep 6 c0 r.1
set_option maxHeartbeats 4000000 in
theorem w_spec_SearchSequent {Ha : GH} {wa : World} (hs : Sl Ha wa) (a0 : Sequent) (v0_0 : Value) (p0_0 : RSl Ha eS 1 v0_0 a0.left) (v0_1 : Value) (p0_1 : RSl Ha eS 1 v0_1 a0.right) {r : ((List SeqStep) × Bool)} (hp : (PF.spec_SearchSequent a0) = some r) :
  Calls Try.prog 10 #[Value.agg #[v0_0, v0_1]] wa (p_spec_SearchSequent Ha wa r) := by
 unfold PF.spec_SearchSequent at hp
 have S0 := St.init hs
 refine calls_go (N := 41) (args := [Value.agg #[v0_0, v0_1]]) Try.func10 rfl rfl rfl ?_
 refine FW.seq (FW.region ?_)
 obtain ⟨b21, w22, run23, S24⟩ := S0.box (P := Try.prog) 28 [v0_0, v0_1] (v := Value.agg #[v0_0, v0_1]) rfl (ones_cons p0_0.one (ones_cons p0_1.one ones_nil))
 refine FL.v (E.box rfl run23) ?_
 obtain ⟨H25, S26, i27, at28⟩ := S24.sealBox (i := 0) (l' := []) rfl rfl
 refine FL.v (E.assign (v := Value.slice none 0 0) rfl) ?_
 refine FL.v (E.assign (v := Value.bool false) rfl) ?_
 refine FL.nil (FW.seq (FW.seq (FW.region ?_)))
 refine FL.v (E.load rfl (run_loadA Try.isAgg28 Try.sizeOf28 (at28.now S26.sl) rfl)) ?_
 obtain ⟨r29, hr30, hp⟩ := bnd hp
 refine FL.call rfl rfl rfl (E.call Try.call17 (A1 rfl)) (w_spec_l23Good S26.sl a0 v0_0 (p0_0.mono i27) v0_1 (p0_1.mono i27) hr30) ?_
 rintro e w31 ⟨rfl, r32⟩
 refine ⟨_, rfl, ?_⟩
 have S33 := S26.call r32
 refine FL.v (E.not rfl) ?_
 refine FL.nil ?_
 rcases ifB hp with ⟨c34, hp⟩ | ⟨c34, hp⟩
 ·
  refine FW.condT rfl c34 ?_
  refine FW.seq (FW.region ?_)
  obtain ⟨v35, w36, run37, S38⟩ := S33.buildSlice (P := Try.prog) te32 [] (parts := #[]) (cells := []) rfl szs_nil fc_nil ones_nil (Nat.le_of_ble_eq_true rfl)
  have els39 : Els (up wa.heap.size H25) eSeqStep 6 [] [] := Els.nil
  refine FL.v (E.buildSlice (B0) run37) ?_
  refine FL.v (E.assign (v := v35) rfl) ?_
  refine FL.v (E.assign (v := Value.bool false) rfl) ?_
  refine FL.nil ?_
  refine FW.ret ?_
  obtain rfl := Option.some.inj hp
  exact ⟨.inr rfl, res2 rfl rfl rfl ⟨_, _, _, _, rfl, S38, (els39.mono upI)⟩⟩
 ·
  refine FW.condF rfl c34 ?_
  refine FW.skip (FW.seq (FW.region ?_))
  refine FL.v (E.load rfl (run_loadA Try.isAgg28 Try.sizeOf28 (at28.now S33.sl) rfl)) ?_
  refine FL.v (E.build (B0) (run_build _ 41 #[] #[Value.slice none 0 0, Value.bool false, Value.int .i64 0, Value.bool false] (by rfl))) ?_
  have S40 := S33.nil 52 6
  have els41 : Els (up wa.heap.size H25) eSeqStep 6 [] [] := Els.nil
  obtain ⟨r42, hr43, hp⟩ := bnd hp
  refine FL.call rfl rfl rfl (E.call Try.call18 (A2 rfl rfl)) (w_spec_l23Go (L := []) S40 a0 v0_0 (p0_0.mono i27) v0_1 (p0_1.mono i27) (a1 := (l23Search.mk [] false 0 false)) (els41.mono upI) hr43) ?_
  rintro e w45 ⟨H44, v48, n49, cs50, rfl, ⟨S46, i47⟩, els51⟩
  refine ⟨_, rfl, ?_⟩
  have S46 : St Ha wa H44 w45 [.row 52 6 v48 n49 cs50] := S46
  obtain ⟨b52, w53, run54, S55⟩ := S46.alloc (P := Try.prog) 41 [Value.slice none 0 0, Value.bool false, Value.int .i64 0, Value.bool false] Try.zeroValue41 rfl (ones_cons rfl (ones_cons rfl (ones_cons rfl (ones_cons rfl ones_nil))))
  refine FL.v (E.alloc run54) ?_
  obtain ⟨w56, run57, S58⟩ := S55.store0 (P := Try.prog) (t := 41) (i := 0) (cs' := [v48, Value.bool r42.open_, Value.int .i64 r42.bits, Value.bool r42.bad]) (l' := [.box b52 41 [v48, Value.bool r42.open_, Value.int .i64 r42.bits, Value.bool r42.bad], .row 52 6 v48 n49 cs50]) (v := Value.agg #[v48, Value.bool r42.open_, Value.int .i64 r42.bits, Value.bool r42.bad]) (c := [v48, Value.bool r42.open_, Value.int .i64 r42.bits, Value.bool r42.bad]) rfl Try.sizeOf41 rfl rfl (ones_cons (Ln.one (S55.row_ln (i := 1) rfl)) (ones_cons rfl (ones_cons rfl (ones_cons rfl ones_nil)))) (Nat.le_of_ble_eq_true rfl) rfl rfl
  refine FL.act rfl rfl (E.store rfl rfl run57) ?_
  refine FL.nil (FW.seq (FW.seq (FW.region ?_)))
  refine FL.v (E.fieldAddr tf41_1 rfl) ?_
  refine FL.v (E.load rfl (run_load1 Try.isAgg4 (S58.box_now (i := 0) rfl) rfl)) ?_
  refine FL.v (E.move (v := Value.bool r42.open_) rfl) ?_
  refine FL.cut 3 (fun f w => ∃ H : GH, St Ha wa H w [.box b52 41 [v48, Value.bool r42.open_, Value.int .i64 r42.bits, Value.bool r42.bad], .row 52 6 v48 n49 cs50] ∧ Inc H44 H ∧ f 4 = Value.pointer (some (⟨b52, 0, none⟩ : Addr)) ∧ f 18 = Value.bool (bif r42.open_ then true else r42.bad)) ?_ ?_
  ·
   rcases bcase r42.open_ with c65 | c65
   ·
    refine FL.skip (wF_no rfl rfl rfl c65) rfl ?_
    refine FL.skip (wF_no rfl rfl rfl c65) rfl ?_
    refine FL.v (E.pickT rfl c65 rfl) ?_
    exact FL.nil ⟨rfl, _, S58, (Inc.rfl _), rfl, (congrArg Value.bool (bifT c65).symm)⟩
   ·
    refine FL.val (wF_yes rfl rfl rfl c65) rfl rfl (E.fieldAddr tf41_3 rfl) ?_
    refine FL.val (wF_yes rfl rfl rfl c65) rfl rfl (E.load rfl (run_load1 Try.isAgg4 (S58.box_now (i := 0) rfl) rfl)) ?_
    refine FL.v (E.pickF rfl c65 rfl) ?_
    exact FL.nil ⟨rfl, _, S58, (Inc.rfl _), rfl, (congrArg Value.bool (bifF c65).symm)⟩
  rintro f64 w63 ⟨H60, S61, i62, k66, k67⟩
  refine FL.nil ?_
  rcases ifB hp with ⟨c68, hp⟩ | ⟨c68, hp⟩
  ·
   refine FW.condT k67 c68 ?_
   refine FW.seq (FW.region ?_)
   obtain ⟨v69, w70, run71, S72⟩ := S61.buildSlice (P := Try.prog) te32 [] (parts := #[]) (cells := []) rfl szs_nil fc_nil ones_nil (Nat.le_of_ble_eq_true rfl)
   have els73 : Els (up wa.heap.size H60) eSeqStep 6 [] [] := Els.nil
   refine FL.v (E.buildSlice (B0) run71) ?_
   refine FL.v (E.assign (v := v69) rfl) ?_
   refine FL.v (E.assign (v := Value.bool false) rfl) ?_
   refine FL.nil ?_
   refine FW.ret ?_
   obtain rfl := Option.some.inj hp
   exact ⟨.inr rfl, res2 rfl rfl rfl ⟨_, _, _, _, rfl, (S72.sel [0] (by decide) rfl), (els73.mono upI)⟩⟩
  ·
   refine FW.condF k67 c68 ?_
   refine FW.skip (FW.seq (FW.seq (FW.region ?_)))
   refine FL.v (E.assign (v := Value.int .i64 0) rfl) ?_
   refine FL.nil ?_
   obtain ⟨q74, hq, hp⟩ := bndR hp
   refine FW.block ?_
   refine FW.mono (FW.iter (S := ((List SeqStep) × Int)) (X := Empty) (fun (s74 : ((List SeqStep) × Int)) f w => ∃ H : GH, ∃ v59 : Value, ∃ n75 : Nat, ∃ cs76 : List Value, St Ha wa H w [.box b52 41 [v59, Value.bool r42.open_, Value.int .i64 r42.bits, Value.bool r42.bad], .row 52 6 v59 n75 cs76] ∧ Inc H60 H ∧ Els H eSeqStep 6 cs76 s74.1 ∧ f 4 = Value.pointer (some (⟨b52, 0, none⟩ : Addr)) ∧ f 5 = Value.int .i64 s74.2) (fun (q : Rs ((List SeqStep) × Int) Empty) e f w => match q with | .go s74 => e = Exit.exit 0 ∧ (∃ H : GH, ∃ v59 : Value, ∃ n75 : Nat, ∃ cs76 : List Value, St Ha wa H w [.box b52 41 [v59, Value.bool r42.open_, Value.int .i64 r42.bits, Value.bool r42.bad], .row 52 6 v59 n75 cs76] ∧ Inc H60 H ∧ Els H eSeqStep 6 cs76 s74.1 ∧ f 4 = Value.pointer (some (⟨b52, 0, none⟩ : Addr))) | .rt x => x.elim) hq ⟨_, _, _, _, S61, (Inc.rfl _), (els51.mono i62), k66, rfl⟩ ?_) ?_
   ·
    clear hp hq
    rintro s74 f82 w81 ⟨H78, v59, n75, cs76, S79, i80, els77, k83, k84⟩ o153 hp
    refine FW.seq (FW.seq (FW.region ?_))
    refine FL.v (E.move k84) ?_
    refine FL.v (E.fieldAddr tf41_0 k83) ?_
    refine FL.v (E.load rfl (run_load1 Try.isAgg32 (S79.box_now (i := 0) rfl) rfl)) ?_
    refine FL.v (E.lenO te32 rfl S79 (i := 1) rfl els77 (by decide)) ?_
    refine FL.v (E.lss rfl rfl) ?_
    refine FL.nil ?_
    rcases ifB hp with ⟨c85, hp⟩ | ⟨c85, hp⟩
    ·
     refine FW.condT rfl c85 ?_
     refine FW.skip (FW.seq (FW.block ?_))
     obtain ⟨x95, hx96, hp⟩ := bnd hp
     obtain ⟨r102, hr103, hp⟩ := bnd hp
     obtain ⟨x127, hx128, hp⟩ := bnd hp
     obtain ⟨xs137, hput138, hp⟩ := bnd hp
     refine FW.drawB (Sl H78) (fun f w => ∃ H : GH, ∃ v142 : Value, ∃ n143 : Nat, ∃ cs144 : List Value, St Ha wa H w [.box b52 41 [v142, Value.bool r42.open_, Value.int .i64 r42.bits, Value.bool r42.bad], .row 52 6 v142 n143 cs144] ∧ Inc H78 H ∧ Els H eSeqStep 6 cs144 xs137 ∧ f 4 = Value.pointer (some (⟨b52, 0, none⟩ : Addr)) ∧ f 5 = Value.int .i64 s74.2) (by kernel_rfl) S79.sl ?_ ?_
     ·
      intro w86 r87
      have S88 := S79.call r87
      refine FB.phase [12] (fun w => WAt w (Addr.add ⟨b52, 0, none⟩ 0) [v59]) ?_
      refine FB.t (i := 0) (bs 13 1) rfl (SP.on ((S88.box_now (i := 0) rfl).sub (j := 0) (n := 1) (c := [v59]) rfl) (SP.nil S88.sl)) rfl (fun w' hw' => (E.fieldAddr tf41_0 k83)) ?_
      refine FB.p (i := 1) (bs 13 3) 0 [10, 11, 12] rfl (SP.on ((S88.box_now (i := 0) rfl).sub (j := 0) (n := 1) (c := [v59]) rfl) (SP.nil S88.sl)) rfl rfl (fun w' hw' => (E.load rfl (run_load0 Try.isAgg32 hw' rfl))) ?_
      refine FB.t (i := 2) (bs 13 7) rfl (SP.on ((S88.box_now (i := 0) rfl).sub (j := 0) (n := 1) (c := [v59]) rfl) (SP.nil S88.sl)) rfl (fun w' hw' => (E.move k84)) ?_
      refine FB.t (i := 3) (bs 13 15) rfl (SP.on ((S88.box_now (i := 0) rfl).sub (j := 0) (n := 1) (c := [v59]) rfl) (SP.nil S88.sl)) rfl (fun w' hw' => (E.fieldAddr tf41_0 k83)) ?_
      refine FB.p (i := 4) (bs 13 31) 0 [6, 7, 8, 9, 10, 11, 12] rfl (SP.on ((S88.box_now (i := 0) rfl).sub (j := 0) (n := 1) (c := [v59]) rfl) (SP.nil S88.sl)) rfl rfl (fun w' hw' => (E.load rfl (run_load0 Try.isAgg32 hw' rfl))) ?_
      refine FB.t (i := 5) (bs 13 63) rfl (SP.on ((S88.box_now (i := 0) rfl).sub (j := 0) (n := 1) (c := [v59]) rfl) (SP.nil S88.sl)) rfl (fun w' hw' => (E.move k84)) ?_
      obtain ⟨p89, cs90, pt91, l92, at93, rel94, hall97⟩ := S88.row_atA (i := 1) rfl els77 (by decide) hx96
      obtain ⟨v98, v100, rfl, h99, h101⟩ := eSeqStep_open rel94
      refine FB.t (i := 6) (bs 13 127) rfl (SP.on ((S88.box_now (i := 0) rfl).sub (j := 0) (n := 1) (c := [v59]) rfl) (SP.nil S88.sl)) rfl (fun w' hw' => (E.indexAddr te32 rfl rfl pt91)) ?_
      refine FB.t (i := 7) (bs 13 255) rfl (SP.on ((S88.box_now (i := 0) rfl).sub (j := 0) (n := 1) (c := [v59]) rfl) (SP.nil S88.sl)) rfl (fun w' hw' => (E.fieldAddr tf52_0 rfl)) ?_
      refine FB.phase [12] (fun w' => WAt w' p89 [v98, v100, Value.int .i64 x95.rule, Value.string x95.main, Value.int .i64 x95.a, Value.int .i64 x95.b]) ?_
      refine FB.p (i := 8) (bs 13 511) 0 [9, 10, 11, 12] rfl (SP.on (hall97 _ _ _ 1 S88 rfl) (SP.on ((S88.box_now (i := 0) rfl).sub (j := 0) (n := 1) (c := [v59]) rfl) (SP.nil S88.sl))) rfl rfl (fun w' hw' => (E.load rfl (run_loadA Try.isAgg28 Try.sizeOf28 (hw'.sub (j := 0) (n := 2) (c := [v98, v100]) rfl) rfl))) ?_
      refine FB.all1 (i := 9) (by kernel_rfl) ?_
      ·
       refine FC.call (l' := (bs 13 1023)) rfl (by kernel_rfl) rfl rfl rfl (E.call Try.call23 (A1 rfl)) (w_spec_l23Own S88.sl x95.seq v98 h99 v100 h101 hr103) ?_
       rintro e w105 ⟨H104, v108, v114, rfl, r107, ⟨c111, c117, ns110, ns116, ap120⟩⟩
       refine ⟨_, rfl, ?_⟩
       have h109 := ns110.rsl
       have nv112 : New H78 c111 := New.of_up S88.sl (fun b hb => ns110.dom b (.inr hb))
       have nv113 : New H78 [v108] := New.of_up S88.sl h109.dom
       have h109 := h109.mono (up_le S88.size)
       have ns110 := ns110.mono (up_le S88.size)
       have h115 := ns116.rsl
       have nv118 : New H78 c117 := New.of_up S88.sl (fun b hb => ns116.dom b (.inr hb))
       have nv119 : New H78 [v114] := New.of_up S88.sl h115.dom
       have h115 := h115.mono (up_le S88.size)
       have ns116 := ns116.mono (up_le S88.size)
       have S106 := S88.call r107
       refine ⟨(SP.on (hall97 _ _ _ 1 S106 rfl) (SP.on ((S106.box_now (i := 0) rfl).sub (j := 0) (n := 1) (c := [v59]) rfl) (SP.nil (Sl.of_inc r107.inc S106.sl)))), ?_⟩
       obtain ⟨p121, cs122, pt123, l124, at125, rel126, hall129⟩ := S106.row_atA (i := 1) rfl els77 (by decide) hx128
       obtain ⟨v130, v132, rfl, h131, h133⟩ := eSeqStep_open rel126
       refine FB.t (i := 10) (bs 13 2047) rfl (SP.on (hall97 _ _ _ 1 S106 rfl) (SP.on ((S106.box_now (i := 0) rfl).sub (j := 0) (n := 1) (c := [v59]) rfl) (SP.nil (Sl.of_inc r107.inc S106.sl)))) rfl (fun w' hw' => (E.indexAddr te32 rfl rfl pt123)) ?_
       refine FB.t (i := 11) (bs 13 4095) rfl (SP.on (hall97 _ _ _ 1 S106 rfl) (SP.on ((S106.box_now (i := 0) rfl).sub (j := 0) (n := 1) (c := [v59]) rfl) (SP.nil (Sl.of_inc r107.inc S106.sl)))) rfl (fun w' hw' => (E.fieldAddr tf52_0 rfl)) ?_
       refine FB.all1 (i := 12) (by kernel_rfl) ?_
       ·
        obtain ⟨w134, cs140, run135, S136, els139, ce141⟩ := S106.putPart (P := Try.prog) (t := 28) (i := 1) rfl (els77.mono r107.inc) hput138 pt123 (cs := [v130, v132, Value.int .i64 x127.rule, Value.string x127.main, Value.int .i64 x127.a, Value.int .i64 x127.b]) rfl at125 (off := 0) (m := 2) Try.sizeOf28 (u := Value.agg #[v108, v114]) (c := [v108, v114]) rfl rfl (by decide) (ones_cons h109.one (ones_cons h115.one ones_nil)) (c2 := [v108, v114, Value.int .i64 x127.rule, Value.string x127.main, Value.int .i64 x127.a, Value.int .i64 x127.b]) rfl ⟨_, _, rfl, (h109.mono upI), (h115.mono upI)⟩
        have S136 : St Ha wa H104 w134 [.box b52 41 [v59, Value.bool r42.open_, Value.int .i64 r42.bits, Value.bool r42.bad], .row 52 6 v59 n75 cs140] := S136
        refine FC.act (l' := (bs 13 8191)) rfl (by kernel_rfl) rfl rfl (E.store rfl rfl run135) ?_
        refine ⟨(SP.o (SP.o (SP.nil (Sl.of_inc r107.inc S136.sl)))), ?_⟩
        exact FB.done (by kernel_rfl) ⟨_, _, _, _, S136, r107.inc, els139, k83, k84⟩
     ·
      rintro f150 w149 ⟨H146, v142, n143, cs144, S147, i148, els145, k151, k152⟩
      refine FW.region ?_
      refine FL.v (E.move k152) ?_
      refine FL.v (E.add rfl rfl) ?_
      refine FL.v (E.assign (v := Value.int .i64 (wr (s74.2 + 1))) rfl) ?_
      refine FL.nil ?_
      obtain rfl := Option.some.inj hp
      exact ⟨rfl, ⟨_, _, _, _, S147, (i80.tr i148), els145, k151, rfl⟩⟩
    ·
     refine FW.condF rfl c85 ?_
     refine FW.exit ?_
     obtain rfl := Option.some.inj hp
     exact ⟨nofun, rfl, ⟨_, _, _, _, S79, i80, els77, k83⟩⟩
   ·
    clear hq
    intro e f158 w157 hD
    rcases q74 with s74 | x74
    ·
     obtain ⟨rfl, hD⟩ := hD
     obtain ⟨H154, v59, n75, cs76, S155, i156, els77, k159⟩ := hD
     replace hp := el_go hp
     refine FW.seq (FW.region ?_)
     refine FL.v (E.fieldAddr tf41_0 k159) ?_
     refine FL.v (E.load rfl (run_load1 Try.isAgg32 (S155.box_now (i := 0) rfl) rfl)) ?_
     refine FL.v (E.assign (v := v59) rfl) ?_
     refine FL.v (E.assign (v := Value.bool true) rfl) ?_
     refine FL.nil ?_
     refine FW.ret ?_
     obtain rfl := Option.some.inj hp
     exact ⟨.inr rfl, res2 rfl rfl rfl ⟨_, _, _, _, rfl, (S155.sel [1] (by decide) rfl), els77⟩⟩
    ·
     exact x74.elim

theorem w_impl_isLetter {Ha : GH} {wa : World} (hs : Sl Ha wa) (a0 : Int) :
  Calls Try.prog 21 #[Value.int .u8 a0] wa (Sc Ha wa (Value.bool (PF.impl_isLetter a0))) := by
 obtain ⟨r, hp⟩ : ∃ r, (PF.impl_isLetter a0) = r := ⟨_, rfl⟩
 rw [hp]
 unfold PF.impl_isLetter at hp
 have S0 := St.init hs
 refine calls_go (N := 9) (args := [Value.int .u8 a0]) Try.func21 rfl rfl rfl ?_
 refine FW.seq (FW.region ?_)
 refine FL.v (E.assign (v := Value.bool false) rfl) ?_
 refine FL.nil (FW.seq (FW.region ?_))
 refine FL.v (E.move (v := Value.int .u8 a0) rfl) ?_
 refine FL.v (E.geq rfl rfl) ?_
 refine FL.v (E.move (v := Value.bool (decide (97 ≤ a0))) rfl) ?_
 refine FL.cut 3 (fun f w => ∃ H : GH, St Ha wa H w [] ∧ Inc Ha H ∧ f 8 = Value.bool (bif (decide (97 ≤ a0)) then (decide (a0 < 103)) else false)) ?_ ?_
 ·
  rcases bcase (decide (97 ≤ a0)) with c27 | c27
  ·
   refine FL.val (wF_yes rfl rfl rfl c27) rfl rfl (E.move (v := Value.int .u8 a0) rfl) ?_
   refine FL.val (wF_yes rfl rfl rfl c27) rfl rfl (E.lss rfl rfl) ?_
   refine FL.v (E.pickT rfl c27 rfl) ?_
   exact FL.nil ⟨rfl, _, S0, (Inc.rfl _), (congrArg Value.bool (bifT c27).symm)⟩
  ·
   refine FL.skip (wF_no rfl rfl rfl c27) rfl ?_
   refine FL.skip (wF_no rfl rfl rfl c27) rfl ?_
   refine FL.v (E.pickF rfl c27 rfl) ?_
   exact FL.nil ⟨rfl, _, S0, (Inc.rfl _), (congrArg Value.bool (bifF c27).symm)⟩
 rintro f26 w25 ⟨H22, S23, i24, k28⟩
 refine FL.v (E.assign k28) ?_
 refine FL.nil ?_
 refine FW.ret ?_
 obtain rfl := hp
 exact ⟨.inr rfl, res1 rfl rfl ⟨rfl, S23.back⟩⟩

end Go.Proofs
