/- Part of the walks and plain laws behind the claim: it proves helpers, under no condition beyond their own. -/
import Derived.Test.YtdkfkiifbagnnaaGreatTsLB
import Derived.Test.YtdkfkiifbagnnaaGreatTsSh
import Derived.Test.YtdkfkiifbagnnaaGreatTsPf
import Derived.Test.YtdkfkiifbagnnaaGreatProg
set_option linter.unusedVariables false
set_option maxRecDepth 100000
namespace Go.Proofs
open Go.Mr Go.Pu Go.PF Go.RowKit

def eCnf : Enc Cnf := ⟨fun H cs s => ∃ v0, cs = [Value.int .i64 s.vars, v0] ∧ RSl H (eL eI 1) 1 v0 s.clauses, fun hi ⟨v0, h, h0⟩ => ⟨_, h, h0.mono hi⟩, by rintro H cs s ⟨v0, rfl, h0⟩; exact (ones_cons rfl (ones_cons h0.one ones_nil)), by rintro H cs s ⟨v0, rfl, h0⟩ b hb; obtain ⟨u, hu, hn⟩ := mem_bl hb; simp only [List.mem_cons, List.not_mem_nil, or_false] at hu; rcases hu with rfl | rfl <;> first | (cases hn; done) | exact h0.dom b (mem_bl1 hn)⟩
def eSequent : Enc Sequent := ⟨fun H cs s => ∃ v0 v1, cs = [v0, v1] ∧ RSl H eS 1 v0 s.left ∧ RSl H eS 1 v1 s.right, fun hi ⟨v0, v1, h, h0, h1⟩ => ⟨_, _, h, h0.mono hi, h1.mono hi⟩, by rintro H cs s ⟨v0, v1, rfl, h0, h1⟩; exact (ones_cons h0.one (ones_cons h1.one ones_nil)), by rintro H cs s ⟨v0, v1, rfl, h0, h1⟩ b hb; obtain ⟨u, hu, hn⟩ := mem_bl hb; simp only [List.mem_cons, List.not_mem_nil, or_false] at hu; rcases hu with rfl | rfl <;> first | (cases hn; done) | exact h0.dom b (mem_bl1 hn) | exact h1.dom b (mem_bl1 hn)⟩
theorem eSequent_open {H : GH} {cs : List Value} {s : Sequent} (h : eSequent.rel H cs s) : ∃ v0 v1, cs = [v0, v1] ∧ RSl H eS 1 v0 s.left ∧ RSl H eS 1 v1 s.right := h

def eSeqStep : Enc SeqStep := ⟨fun H cs s => ∃ v0 v1, cs = [v0, v1, Value.int .i64 s.rule, Value.string s.main, Value.int .i64 s.a, Value.int .i64 s.b] ∧ RSl H eS 1 v0 s.seq.left ∧ RSl H eS 1 v1 s.seq.right, fun hi ⟨v0, v1, h, h0, h1⟩ => ⟨_, _, h, h0.mono hi, h1.mono hi⟩, by rintro H cs s ⟨v0, v1, rfl, h0, h1⟩; exact (ones_cons h0.one (ones_cons h1.one (ones_cons rfl (ones_cons rfl (ones_cons rfl (ones_cons rfl ones_nil)))))), by rintro H cs s ⟨v0, v1, rfl, h0, h1⟩ b hb; obtain ⟨u, hu, hn⟩ := mem_bl hb; simp only [List.mem_cons, List.not_mem_nil, or_false] at hu; rcases hu with rfl | rfl | rfl | rfl | rfl | rfl <;> first | (cases hn; done) | exact h0.dom b (mem_bl1 hn) | exact h1.dom b (mem_bl1 hn)⟩
theorem eSeqStep_open {H : GH} {cs : List Value} {s : SeqStep} (h : eSeqStep.rel H cs s) : ∃ v0 v1, cs = [v0, v1, Value.int .i64 s.rule, Value.string s.main, Value.int .i64 s.a, Value.int .i64 s.b] ∧ RSl H eS 1 v0 s.seq.left ∧ RSl H eS 1 v1 s.seq.right := h

theorem eSeqStep_loc : LocE eSeqStep := by rintro H H' cs x ⟨v0, v1, rfl, h0, h1⟩ hb; exact ⟨_, _, rfl, h0.only eS_flat.rel (fun b q => hb b (bl_get (i := 0) rfl b q)), h1.only eS_flat.rel (fun b q => hb b (bl_get (i := 1) rfl b q))⟩

def Fn_S_to_B (P : Program) (H : GH) (v : Value) (p : ByteArray → Option Bool) : Prop :=
 ∀ (H' : GH) (w' : World), Inc H H' → Sl H' w' → ∀ (x0 : ByteArray) (r : Bool), p x0 = some r →
  ∃ (fid : Nat) (cs : Array Value), v = Value.func (.func fid) #[] cs ∧ (∀ args w, (callFunc fid args).run P w = .ok (.enter fid args) w) ∧ Calls P fid (#[Value.string x0] ++ cs) w' (Sc H' w' (Value.bool r))
theorem Fn_S_to_B.mono {P : Program} {H H' : GH} {v : Value} {p : ByteArray → Option Bool} (h : Fn_S_to_B P H v p) (hi : Inc H H') : Fn_S_to_B P H' v p :=
 fun H2 w2 h2 => h H2 w2 (hi.tr h2)

def Fn_Sequent_to_B (P : Program) (H : GH) (v : Value) (p : Sequent → Option Bool) : Prop :=
 ∀ (H' : GH) (w' : World), Inc H H' → Sl H' w' → ∀ (x0 : Sequent) (y0_0 : Value) (_z0_0 : RSl H' eS 1 y0_0 x0.left) (y0_1 : Value) (_z0_1 : RSl H' eS 1 y0_1 x0.right) (r : Bool), p x0 = some r →
  ∃ (fid : Nat) (cs : Array Value), v = Value.func (.func fid) #[] cs ∧ (∀ args w, (callFunc fid args).run P w = .ok (.enter fid args) w) ∧ Calls P fid (#[Value.agg #[y0_0, y0_1]] ++ cs) w' (Sc H' w' (Value.bool r))
theorem Fn_Sequent_to_B.mono {P : Program} {H H' : GH} {v : Value} {p : Sequent → Option Bool} (h : Fn_Sequent_to_B P H v p) (hi : Inc H H') : Fn_Sequent_to_B P H' v p :=
 fun H2 w2 h2 => h H2 w2 (hi.tr h2)

def Fn_S_S_to_I (P : Program) (H : GH) (v : Value) (p : ByteArray → ByteArray → Option Int) : Prop :=
 ∀ (H' : GH) (w' : World), Inc H H' → Sl H' w' → ∀ (x0 : ByteArray) (x1 : ByteArray) (r : Int), p x0 x1 = some r →
  ∃ (fid : Nat) (cs : Array Value), v = Value.func (.func fid) #[] cs ∧ (∀ args w, (callFunc fid args).run P w = .ok (.enter fid args) w) ∧ Calls P fid (#[Value.string x0, Value.string x1] ++ cs) w' (Sc H' w' (Value.int .i64 r))
theorem te172 : TE Tryz.prog 172 68 2 (.agg #[(.slice none 0 0), (.slice none 0 0)]) := ⟨Tryz.underlying172, ⟨Tryz.t68, Tryz.type68, rfl, rfl, by decide⟩, rfl, by decide⟩
theorem te181 : TE Tryz.prog 181 22 1 (.slice none 0 0) := ⟨Tryz.underlying181, ⟨Tryz.t22, Tryz.type22, rfl, rfl, by decide⟩, rfl, by decide⟩
theorem te22 : TE Tryz.prog 22 9 1 (.string ByteArray.empty) := ⟨Tryz.underlying22, ⟨Tryz.t9, Tryz.type9, rfl, rfl, by decide⟩, rfl, by decide⟩
theorem te24 : TE Tryz.prog 24 74 6 (.agg #[(.slice none 0 0), (.slice none 0 0), (.int .i64 0), (.string ByteArray.empty), (.int .i64 0), (.int .i64 0)]) := ⟨Tryz.underlying24, ⟨Tryz.t74, Tryz.type74, rfl, rfl, by decide⟩, rfl, by decide⟩
theorem te32 : TE Tryz.prog 32 79 6 (.agg #[(.slice none 0 0), (.slice none 0 0), (.int .i64 0), (.string ByteArray.empty), (.int .i64 0), (.int .i64 0)]) := ⟨Tryz.underlying32, ⟨Tryz.t79, Tryz.type79, rfl, rfl, by decide⟩, rfl, by decide⟩
theorem te41 : TE Tryz.prog 41 5 1 (.int .u8 0) := ⟨Tryz.underlying41, ⟨Tryz.t5, Tryz.type5, rfl, rfl, by decide⟩, rfl, by decide⟩
theorem te81 : TE Tryz.prog 81 4 1 (.bool false) := ⟨Tryz.underlying81, ⟨Tryz.t4, Tryz.type4, rfl, rfl, by decide⟩, rfl, by decide⟩
theorem te82 : TE Tryz.prog 82 3 1 (.int .i64 0) := ⟨Tryz.underlying82, ⟨Tryz.t3, Tryz.type3, rfl, rfl, by decide⟩, rfl, by decide⟩
theorem tf109_0 : TF Tryz.prog 109 0 0 := ⟨_, _, _, Tryz.underlying109, rfl, rfl, Tryz.sizeOf5, by decide⟩
theorem tf109_1 : TF Tryz.prog 109 1 1 := ⟨_, _, _, Tryz.underlying109, rfl, rfl, Tryz.sizeOf101, by decide⟩
theorem tf109_2 : TF Tryz.prog 109 2 2 := ⟨_, _, _, Tryz.underlying109, rfl, rfl, Tryz.sizeOf101, by decide⟩
theorem tf109_3 : TF Tryz.prog 109 3 3 := ⟨_, _, _, Tryz.underlying109, rfl, rfl, Tryz.sizeOf9, by decide⟩
theorem tf68_0 : TF Tryz.prog 68 0 0 := ⟨_, _, _, Tryz.underlying68, rfl, rfl, Tryz.sizeOf22, by decide⟩
theorem tf68_1 : TF Tryz.prog 68 1 1 := ⟨_, _, _, Tryz.underlying68, rfl, rfl, Tryz.sizeOf22, by decide⟩
theorem tf74_0 : TF Tryz.prog 74 0 0 := ⟨_, _, _, Tryz.underlying74, rfl, rfl, Tryz.sizeOf68, by decide⟩
theorem tf74_1 : TF Tryz.prog 74 1 2 := ⟨_, _, _, Tryz.underlying74, rfl, rfl, Tryz.sizeOf3, by decide⟩
theorem tf74_2 : TF Tryz.prog 74 2 3 := ⟨_, _, _, Tryz.underlying74, rfl, rfl, Tryz.sizeOf9, by decide⟩
theorem tf74_3 : TF Tryz.prog 74 3 4 := ⟨_, _, _, Tryz.underlying74, rfl, rfl, Tryz.sizeOf3, by decide⟩
theorem tf74_4 : TF Tryz.prog 74 4 5 := ⟨_, _, _, Tryz.underlying74, rfl, rfl, Tryz.sizeOf3, by decide⟩
theorem tf77_0 : TF Tryz.prog 77 0 0 := ⟨_, _, _, Tryz.underlying77, rfl, rfl, Tryz.sizeOf22, by decide⟩
theorem tf77_1 : TF Tryz.prog 77 1 1 := ⟨_, _, _, Tryz.underlying77, rfl, rfl, Tryz.sizeOf22, by decide⟩
theorem tf79_0 : TF Tryz.prog 79 0 0 := ⟨_, _, _, Tryz.underlying79, rfl, rfl, Tryz.sizeOf77, by decide⟩
theorem tf79_1 : TF Tryz.prog 79 1 2 := ⟨_, _, _, Tryz.underlying79, rfl, rfl, Tryz.sizeOf3, by decide⟩
theorem tf79_2 : TF Tryz.prog 79 2 3 := ⟨_, _, _, Tryz.underlying79, rfl, rfl, Tryz.sizeOf9, by decide⟩
theorem tf79_3 : TF Tryz.prog 79 3 4 := ⟨_, _, _, Tryz.underlying79, rfl, rfl, Tryz.sizeOf3, by decide⟩
theorem tf79_4 : TF Tryz.prog 79 4 5 := ⟨_, _, _, Tryz.underlying79, rfl, rfl, Tryz.sizeOf3, by decide⟩
set_option maxHeartbeats 4000000 in
theorem w_laws_szStringS {Ha : GH} {wa : World} (hs : Sl Ha wa) (v0 : Value) (a0 : List ByteArray) (p0 : RSl Ha eS 1 v0 a0) (a1 : Int) {r : Int} (hp : (PF.laws_szStringS a0 a1) = some r) :
  Calls Tryz.prog 9 #[v0, Value.int .i64 a1] wa (Sc Ha wa (Value.int .i64 r)) := by
 unfold PF.laws_szStringS at hp
 have S0 := St.init hs
 refine calls_go (N := 28) (args := [v0, Value.int .i64 a1]) Tryz.func9 rfl rfl rfl ?_
 refine FW.seq (FW.region ?_)
 refine FL.v (E.assign (v := Value.int .i64 0) rfl) ?_
 refine FL.nil (FW.seq (FW.region ?_))
 refine FL.v (E.move (v := Value.int .i64 a1) rfl) ?_
 refine FL.v (E.move (v := v0) rfl) ?_
 refine FL.v (E.lenP te22 rfl p0) ?_
 refine FL.v (E.sub rfl rfl) ?_
 refine FL.v (E.assign (v := Value.int .i64 (wr (a1 - (len a0)))) rfl) ?_
 refine FL.nil (FW.seq (FW.seq (FW.region ?_)))
 refine FL.v (E.move (v := Value.int .i64 (wr (a1 - (len a0)))) rfl) ?_
 refine FL.v (E.lss rfl rfl) ?_
 refine FL.nil ?_
 rcases ifB hp with ⟨c21, hp⟩ | ⟨c21, hp⟩
 ·
  refine FW.condT rfl c21 ?_
  refine FW.seq (FW.region ?_)
  refine FL.v (E.assign (v := Value.int .i64 (-1)) rfl) ?_
  refine FL.nil ?_
  refine FW.ret ?_
  obtain rfl := Option.some.inj hp
  exact ⟨.inr rfl, res1 rfl rfl ⟨rfl, S0.back⟩⟩
 ·
  refine FW.condF rfl c21 ?_
  refine FW.skip (FW.seq (FW.seq (FW.region ?_)))
  refine FL.v (E.assign (v := Value.int .i64 0) rfl) ?_
  refine FL.nil ?_
  obtain ⟨q23, hq, hp⟩ := bndR hp
  refine FW.block ?_
  refine FW.mono (FW.forL (S := Int) (X := Int) (fun (i23 : Nat) (s23 : Int) f w => ∃ H : GH, St Ha wa H w [] ∧ Inc Ha H ∧ f 5 = Value.int .i64 ((i23 : Nat) : Int) ∧ f 0 = v0 ∧ f 1 = Value.int .i64 s23) (fun q e f w => match q with | .go s23 => e = Exit.exit 0 ∧ (∃ H : GH, St Ha wa H w [] ∧ Inc Ha H ∧ f 1 = Value.int .i64 s23) | .rt x => ((e = Exit.ret) ∧ (fun e f w => (e = Exit.normal ∨ e = Exit.ret) ∧ ∀ a, Fr (δ := []) 28 a f → ∃ v, (results Tryz.f9 a.tmps).run Tryz.prog w = .ok v w ∧ (Sc Ha wa (Value.int .i64 x)) (.returned v) w) e f w)) hq ⟨_, S0, (Inc.rfl _), rfl, rfl, rfl⟩ ?_ ?_) ?_
  ·
   clear hp hq
   rintro i23 y22 s23 f43 w42 ⟨H39, S40, i41, k44, k45, k46⟩ hx23 o54 hp
   refine FW.seq (FW.seq (FW.region ?_))
   refine FL.v (E.move k44) ?_
   refine FL.v (E.move k45) ?_
   refine FL.v (E.lenP te22 rfl p0) ?_
   refine FL.v (E.lssT rfl rfl (lss_len hx23)) ?_
   refine FL.nil ?_
   refine FW.condT rfl rfl ?_
   refine FW.skip (FW.seq (FW.block (FW.seq (FW.region ?_))))
   refine FL.v (E.move k46) ?_
   refine FL.v (E.move k45) ?_
   refine FL.v (E.move k44) ?_
   obtain ⟨p47, cs48, pt49, l50, at51, rel52⟩ := p0.at (ix_nat hx23)
   obtain rfl := eS_open rel52
   refine FL.v (E.indexAddr te22 rfl rfl pt49) ?_
   refine FL.v (E.load rfl (run_load0 Tryz.isAgg9 ((at51.mono i41).now S40.sl) rfl)) ?_
   refine FL.v (E.lenS Tryz.runUnderlying9 rfl) ?_
   refine FL.v (E.sub rfl rfl) ?_
   refine FL.v (E.assign (v := Value.int .i64 (wr (s23 - (y22.size : Int)))) rfl) ?_
   refine FL.nil (FW.seq (FW.region ?_))
   refine FL.v (E.move (v := Value.int .i64 (wr (s23 - (y22.size : Int)))) rfl) ?_
   refine FL.v (E.lss rfl rfl) ?_
   refine FL.nil ?_
   rcases ifB hp with ⟨c53, hp⟩ | ⟨c53, hp⟩
   ·
    refine FW.condT rfl c53 ?_
    refine FW.seq (FW.region ?_)
    refine FL.v (E.assign (v := Value.int .i64 (-1)) rfl) ?_
    refine FL.nil ?_
    refine FW.ret ?_
    obtain rfl := Option.some.inj hp
    exact ⟨nofun, rfl, ⟨.inr rfl, res1 rfl rfl ⟨rfl, S40.back⟩⟩⟩
   ·
    refine FW.condF rfl c53 ?_
    refine FW.skip (FW.region ?_)
    refine FL.v (E.move k44) ?_
    refine FL.v (E.add rfl rfl) ?_
    refine FL.v (E.assign (v := Value.int .i64 (wr (((i23 : Nat) : Int) + 1))) rfl) ?_
    refine FL.nil ?_
    obtain rfl := Option.some.inj hp
    exact ⟨rfl, ⟨_, S40, i41, (nat_succ rfl (lt_of_get hx23) (p0.mono i41).le), k45, rfl⟩⟩
  ·
   clear hp hq
   rintro s23 f65 w64 ⟨H61, S62, i63, k66, k67, k68⟩
   refine FW.seq (FW.seq (FW.region ?_))
   refine FL.v (E.move k66) ?_
   refine FL.v (E.move k67) ?_
   refine FL.v (E.lenP te22 rfl p0) ?_
   refine FL.v (E.lss rfl rfl) ?_
   refine FL.nil ?_
   refine FW.condF rfl dlt_len ?_
   refine FW.exit ?_
   exact ⟨nofun, rfl, ⟨_, S62, i63, k68⟩⟩
  ·
   clear hq
   intro e f59 w58 hD
   rcases q23 with s23 | x23
   ·
    obtain ⟨rfl, hD⟩ := hD
    obtain ⟨H55, S56, i57, k60⟩ := hD
    replace hp := el_go hp
    refine FW.seq (FW.region ?_)
    refine FL.v (E.move k60) ?_
    refine FL.v (E.assign (v := Value.int .i64 s23) rfl) ?_
    refine FL.nil ?_
    refine FW.ret ?_
    obtain rfl := Option.some.inj hp
    exact ⟨.inr rfl, res1 rfl rfl ⟨rfl, S56.back⟩⟩
   ·
    obtain ⟨he, hL⟩ := hD
    replace hp := el_rt hp
    obtain rfl := Option.some.inj hp
    subst he
    exact hL

theorem w_laws_szSequent {Ha : GH} {wa : World} (hs : Sl Ha wa) (a0 : Sequent) (v0_0 : Value) (p0_0 : RSl Ha eS 1 v0_0 a0.left) (v0_1 : Value) (p0_1 : RSl Ha eS 1 v0_1 a0.right) (a1 : Int) {r : Int} (hp : (PF.laws_szSequent a0 a1) = some r) :
  Calls Tryz.prog 106 #[Value.agg #[v0_0, v0_1], Value.int .i64 a1] wa (Sc Ha wa (Value.int .i64 r)) := by
 unfold PF.laws_szSequent at hp
 have S0 := St.init hs
 refine calls_go (N := 18) (args := [Value.agg #[v0_0, v0_1], Value.int .i64 a1]) Tryz.func106 rfl rfl rfl ?_
 refine FW.seq (FW.region ?_)
 obtain ⟨b21, w22, run23, S24⟩ := S0.box (P := Tryz.prog) 77 [v0_0, v0_1] (v := Value.agg #[v0_0, v0_1]) rfl (ones_cons p0_0.one (ones_cons p0_1.one ones_nil))
 refine FL.v (E.box rfl run23) ?_
 obtain ⟨H25, S26, i27, at28⟩ := S24.sealBox (i := 0) (l' := []) rfl rfl
 refine FL.v (E.assign (v := Value.int .i64 0) rfl) ?_
 refine FL.nil (FW.seq (FW.region ?_))
 refine FL.v (E.fieldAddr tf77_0 rfl) ?_
 refine FL.v (E.load rfl (run_load1 Tryz.isAgg22 (at28.now S26.sl) rfl)) ?_
 refine FL.v (E.move (v := Value.int .i64 a1) rfl) ?_
 obtain ⟨r29, hr30, hp⟩ := bnd hp
 refine FL.call rfl rfl rfl (E.call Tryz.call9 (A2 rfl rfl)) (w_laws_szStringS S26.sl v0_0 a0.left (p0_0.mono i27) a1 hr30) ?_
 rintro e w31 ⟨rfl, r32⟩
 refine ⟨_, rfl, ?_⟩
 have S33 := S26.call r32
 refine FL.v (E.assign (v := Value.int .i64 r29) rfl) ?_
 refine FL.nil (FW.seq (FW.seq (FW.region ?_)))
 refine FL.v (E.move (v := Value.int .i64 r29) rfl) ?_
 refine FL.v (E.lss rfl rfl) ?_
 refine FL.nil ?_
 rcases ifB hp with ⟨c34, hp⟩ | ⟨c34, hp⟩
 ·
  refine FW.condT rfl c34 ?_
  refine FW.seq (FW.region ?_)
  refine FL.v (E.assign (v := Value.int .i64 (-1)) rfl) ?_
  refine FL.nil ?_
  refine FW.ret ?_
  obtain rfl := Option.some.inj hp
  exact ⟨.inr rfl, res1 rfl rfl ⟨rfl, S33.back⟩⟩
 ·
  refine FW.condF rfl c34 ?_
  refine FW.skip (FW.seq (FW.region ?_))
  refine FL.v (E.fieldAddr tf77_1 rfl) ?_
  refine FL.v (E.load rfl (run_load1 Tryz.isAgg22 (at28.now S33.sl) rfl)) ?_
  refine FL.v (E.move (v := Value.int .i64 r29) rfl) ?_
  obtain ⟨r35, hr36, hp⟩ := bnd hp
  refine FL.call rfl rfl rfl (E.call Tryz.call9 (A2 rfl rfl)) (w_laws_szStringS S33.sl v0_1 a0.right (p0_1.mono i27) r29 hr36) ?_
  rintro e w37 ⟨rfl, r38⟩
  refine ⟨_, rfl, ?_⟩
  have S39 := S33.call r38
  refine FL.v (E.assign (v := Value.int .i64 r35) rfl) ?_
  refine FL.nil (FW.seq (FW.seq (FW.region ?_)))
  refine FL.v (E.move (v := Value.int .i64 r35) rfl) ?_
  refine FL.v (E.lss rfl rfl) ?_
  refine FL.nil ?_
  rcases ifB hp with ⟨c40, hp⟩ | ⟨c40, hp⟩
  ·
   refine FW.condT rfl c40 ?_
   refine FW.seq (FW.region ?_)
   refine FL.v (E.assign (v := Value.int .i64 (-1)) rfl) ?_
   refine FL.nil ?_
   refine FW.ret ?_
   obtain rfl := Option.some.inj hp
   exact ⟨.inr rfl, res1 rfl rfl ⟨rfl, S39.back⟩⟩
  ·
   refine FW.condF rfl c40 ?_
   refine FW.skip (FW.seq (FW.region ?_))
   refine FL.v (E.move (v := Value.int .i64 r35) rfl) ?_
   refine FL.v (E.assign (v := Value.int .i64 r35) rfl) ?_
   refine FL.nil ?_
   refine FW.ret ?_
   obtain rfl := Option.some.inj hp
   exact ⟨.inr rfl, res1 rfl rfl ⟨rfl, S39.back⟩⟩

theorem w_laws_szSeqStep {Ha : GH} {wa : World} (hs : Sl Ha wa) (a0 : SeqStep) (v0_0 : Value) (p0_0 : RSl Ha eS 1 v0_0 a0.seq.left) (v0_1 : Value) (p0_1 : RSl Ha eS 1 v0_1 a0.seq.right) (a1 : Int) {r : Int} (hp : (PF.laws_szSeqStep a0 a1) = some r) :
  Calls Tryz.prog 57 #[Value.agg #[v0_0, v0_1, Value.int .i64 a0.rule, Value.string a0.main, Value.int .i64 a0.a, Value.int .i64 a0.b], Value.int .i64 a1] wa (Sc Ha wa (Value.int .i64 r)) := by
 unfold PF.laws_szSeqStep at hp
 have S0 := St.init hs
 refine calls_go (N := 19) (args := [Value.agg #[v0_0, v0_1, Value.int .i64 a0.rule, Value.string a0.main, Value.int .i64 a0.a, Value.int .i64 a0.b], Value.int .i64 a1]) Tryz.func57 rfl rfl rfl ?_
 refine FW.seq (FW.region ?_)
 obtain ⟨b21, w22, run23, S24⟩ := S0.box (P := Tryz.prog) 79 [v0_0, v0_1, Value.int .i64 a0.rule, Value.string a0.main, Value.int .i64 a0.a, Value.int .i64 a0.b] (v := Value.agg #[v0_0, v0_1, Value.int .i64 a0.rule, Value.string a0.main, Value.int .i64 a0.a, Value.int .i64 a0.b]) rfl (ones_cons p0_0.one (ones_cons p0_1.one (ones_cons rfl (ones_cons rfl (ones_cons rfl (ones_cons rfl ones_nil))))))
 refine FL.v (E.box rfl run23) ?_
 obtain ⟨H25, S26, i27, at28⟩ := S24.sealBox (i := 0) (l' := []) rfl rfl
 refine FL.v (E.assign (v := Value.int .i64 0) rfl) ?_
 refine FL.nil (FW.seq (FW.region ?_))
 refine FL.v (E.fieldAddr tf79_0 rfl) ?_
 refine FL.v (E.load rfl (run_loadA Tryz.isAgg77 Tryz.sizeOf77 ((at28.now S26.sl).sub (j := 0) (n := 2) (c := [v0_0, v0_1]) rfl) rfl)) ?_
 refine FL.v (E.move (v := Value.int .i64 a1) rfl) ?_
 obtain ⟨r29, hr30, hp⟩ := bnd hp
 refine FL.call rfl rfl rfl (E.call Tryz.call106 (A2 rfl rfl)) (w_laws_szSequent S26.sl a0.seq v0_0 (p0_0.mono i27) v0_1 (p0_1.mono i27) a1 hr30) ?_
 rintro e w31 ⟨rfl, r32⟩
 refine ⟨_, rfl, ?_⟩
 have S33 := S26.call r32
 refine FL.v (E.assign (v := Value.int .i64 r29) rfl) ?_
 refine FL.nil (FW.seq (FW.seq (FW.region ?_)))
 refine FL.v (E.move (v := Value.int .i64 r29) rfl) ?_
 refine FL.v (E.lss rfl rfl) ?_
 refine FL.nil ?_
 rcases ifB hp with ⟨c34, hp⟩ | ⟨c34, hp⟩
 ·
  refine FW.condT rfl c34 ?_
  refine FW.seq (FW.region ?_)
  refine FL.v (E.assign (v := Value.int .i64 (-1)) rfl) ?_
  refine FL.nil ?_
  refine FW.ret ?_
  obtain rfl := Option.some.inj hp
  exact ⟨.inr rfl, res1 rfl rfl ⟨rfl, S33.back⟩⟩
 ·
  refine FW.condF rfl c34 ?_
  refine FW.skip (FW.seq (FW.region ?_))
  refine FL.v (E.move (v := Value.int .i64 r29) rfl) ?_
  refine FL.v (E.fieldAddr tf79_2 rfl) ?_
  refine FL.v (E.load rfl (run_load1 Tryz.isAgg9 (at28.now S33.sl) rfl)) ?_
  refine FL.v (E.lenS Tryz.runUnderlying9 rfl) ?_
  refine FL.v (E.sub rfl rfl) ?_
  refine FL.v (E.assign (v := Value.int .i64 (wr (r29 - (a0.main.size : Int)))) rfl) ?_
  refine FL.nil (FW.seq (FW.seq (FW.region ?_)))
  refine FL.v (E.move (v := Value.int .i64 (wr (r29 - (a0.main.size : Int)))) rfl) ?_
  refine FL.v (E.lss rfl rfl) ?_
  refine FL.nil ?_
  rcases ifB hp with ⟨c35, hp⟩ | ⟨c35, hp⟩
  ·
   refine FW.condT rfl c35 ?_
   refine FW.seq (FW.region ?_)
   refine FL.v (E.assign (v := Value.int .i64 (-1)) rfl) ?_
   refine FL.nil ?_
   refine FW.ret ?_
   obtain rfl := Option.some.inj hp
   exact ⟨.inr rfl, res1 rfl rfl ⟨rfl, S33.back⟩⟩
  ·
   refine FW.condF rfl c35 ?_
   refine FW.skip (FW.seq (FW.region ?_))
   refine FL.v (E.move (v := Value.int .i64 (wr (r29 - (a0.main.size : Int)))) rfl) ?_
   refine FL.v (E.assign (v := Value.int .i64 (wr (r29 - (a0.main.size : Int)))) rfl) ?_
   refine FL.nil ?_
   refine FW.ret ?_
   obtain rfl := Option.some.inj hp
   exact ⟨.inr rfl, res1 rfl rfl ⟨rfl, S33.back⟩⟩

set_option maxHeartbeats 4000000 in
theorem w_laws_szSeqStepS {Ha : GH} {wa : World} (hs : Sl Ha wa) (v0 : Value) (a0 : List SeqStep) (p0 : RSl Ha eSeqStep 6 v0 a0) (a1 : Int) {r : Int} (hp : (PF.laws_szSeqStepS a0 a1) = some r) :
  Calls Tryz.prog 18 #[v0, Value.int .i64 a1] wa (Sc Ha wa (Value.int .i64 r)) := by
 unfold PF.laws_szSeqStepS at hp
 have S0 := St.init hs
 refine calls_go (N := 27) (args := [v0, Value.int .i64 a1]) Tryz.func18 rfl rfl rfl ?_
 refine FW.seq (FW.region ?_)
 refine FL.v (E.assign (v := Value.int .i64 0) rfl) ?_
 refine FL.nil (FW.seq (FW.region ?_))
 refine FL.v (E.move (v := Value.int .i64 a1) rfl) ?_
 refine FL.v (E.move (v := v0) rfl) ?_
 refine FL.v (E.lenP te32 rfl p0) ?_
 refine FL.v (E.sub rfl rfl) ?_
 refine FL.v (E.assign (v := Value.int .i64 (wr (a1 - (len a0)))) rfl) ?_
 refine FL.nil (FW.seq (FW.seq (FW.region ?_)))
 refine FL.v (E.move (v := Value.int .i64 (wr (a1 - (len a0)))) rfl) ?_
 refine FL.v (E.lss rfl rfl) ?_
 refine FL.nil ?_
 rcases ifB hp with ⟨c21, hp⟩ | ⟨c21, hp⟩
 ·
  refine FW.condT rfl c21 ?_
  refine FW.seq (FW.region ?_)
  refine FL.v (E.assign (v := Value.int .i64 (-1)) rfl) ?_
  refine FL.nil ?_
  refine FW.ret ?_
  obtain rfl := Option.some.inj hp
  exact ⟨.inr rfl, res1 rfl rfl ⟨rfl, S0.back⟩⟩
 ·
  refine FW.condF rfl c21 ?_
  refine FW.skip (FW.seq (FW.seq (FW.region ?_)))
  refine FL.v (E.assign (v := Value.int .i64 0) rfl) ?_
  refine FL.nil ?_
  obtain ⟨q23, hq, hp⟩ := bndR hp
  refine FW.block ?_
  refine FW.mono (FW.forL (S := Int) (X := Int) (fun (i23 : Nat) (s23 : Int) f w => ∃ H : GH, St Ha wa H w [] ∧ Inc Ha H ∧ f 5 = Value.int .i64 ((i23 : Nat) : Int) ∧ f 0 = v0 ∧ f 1 = Value.int .i64 s23) (fun q e f w => match q with | .go s23 => e = Exit.exit 0 ∧ (∃ H : GH, St Ha wa H w [] ∧ Inc Ha H ∧ f 1 = Value.int .i64 s23) | .rt x => ((e = Exit.ret) ∧ (fun e f w => (e = Exit.normal ∨ e = Exit.ret) ∧ ∀ a, Fr (δ := []) 27 a f → ∃ v, (results Tryz.f18 a.tmps).run Tryz.prog w = .ok v w ∧ (Sc Ha wa (Value.int .i64 x)) (.returned v) w) e f w)) hq ⟨_, S0, (Inc.rfl _), rfl, rfl, rfl⟩ ?_ ?_) ?_
  ·
   clear hp hq
   rintro i23 y22 s23 f52 w51 ⟨H48, S49, i50, k53, k54, k55⟩ hx23 o72 hp
   refine FW.seq (FW.seq (FW.region ?_))
   refine FL.v (E.move k53) ?_
   refine FL.v (E.move k54) ?_
   refine FL.v (E.lenP te32 rfl p0) ?_
   refine FL.v (E.lssT rfl rfl (lss_len hx23)) ?_
   refine FL.nil ?_
   refine FW.condT rfl rfl ?_
   refine FW.skip (FW.seq (FW.block (FW.seq (FW.region ?_))))
   refine FL.v (E.move k54) ?_
   refine FL.v (E.move k53) ?_
   obtain ⟨p56, cs57, pt58, l59, at60, rel61⟩ := p0.at (ix_nat hx23)
   obtain ⟨v62, v64, rfl, h63, h65⟩ := eSeqStep_open rel61
   refine FL.v (E.indexAddr te32 rfl rfl pt58) ?_
   refine FL.v (E.load rfl (run_loadA Tryz.isAgg79 Tryz.sizeOf79 ((at60.mono i50).now S49.sl) rfl)) ?_
   refine FL.v (E.move k55) ?_
   obtain ⟨r66, hr67, hp⟩ := bnd hp
   refine FL.call rfl rfl rfl (E.call Tryz.call57 (A2 rfl rfl)) (w_laws_szSeqStep S49.sl y22 v62 (h63.mono i50) v64 (h65.mono i50) s23 hr67) ?_
   rintro e w68 ⟨rfl, r69⟩
   refine ⟨_, rfl, ?_⟩
   have S70 := S49.call r69
   refine FL.v (E.assign (v := Value.int .i64 r66) rfl) ?_
   refine FL.nil (FW.seq (FW.region ?_))
   refine FL.v (E.move (v := Value.int .i64 r66) rfl) ?_
   refine FL.v (E.lss rfl rfl) ?_
   refine FL.nil ?_
   rcases ifB hp with ⟨c71, hp⟩ | ⟨c71, hp⟩
   ·
    refine FW.condT rfl c71 ?_
    refine FW.seq (FW.region ?_)
    refine FL.v (E.assign (v := Value.int .i64 (-1)) rfl) ?_
    refine FL.nil ?_
    refine FW.ret ?_
    obtain rfl := Option.some.inj hp
    exact ⟨nofun, rfl, ⟨.inr rfl, res1 rfl rfl ⟨rfl, S70.back⟩⟩⟩
   ·
    refine FW.condF rfl c71 ?_
    refine FW.skip (FW.region ?_)
    refine FL.v (E.move k53) ?_
    refine FL.v (E.add rfl rfl) ?_
    refine FL.v (E.assign (v := Value.int .i64 (wr (((i23 : Nat) : Int) + 1))) rfl) ?_
    refine FL.nil ?_
    obtain rfl := Option.some.inj hp
    exact ⟨rfl, ⟨_, S70, i50, (nat_succ rfl (lt_of_get hx23) (p0.mono i50).le), k54, rfl⟩⟩
  ·
   clear hp hq
   rintro s23 f83 w82 ⟨H79, S80, i81, k84, k85, k86⟩
   refine FW.seq (FW.seq (FW.region ?_))
   refine FL.v (E.move k84) ?_
   refine FL.v (E.move k85) ?_
   refine FL.v (E.lenP te32 rfl p0) ?_
   refine FL.v (E.lss rfl rfl) ?_
   refine FL.nil ?_
   refine FW.condF rfl dlt_len ?_
   refine FW.exit ?_
   exact ⟨nofun, rfl, ⟨_, S80, i81, k86⟩⟩
  ·
   clear hq
   intro e f77 w76 hD
   rcases q23 with s23 | x23
   ·
    obtain ⟨rfl, hD⟩ := hD
    obtain ⟨H73, S74, i75, k78⟩ := hD
    replace hp := el_go hp
    refine FW.seq (FW.region ?_)
    refine FL.v (E.move k78) ?_
    refine FL.v (E.assign (v := Value.int .i64 s23) rfl) ?_
    refine FL.nil ?_
    refine FW.ret ?_
    obtain rfl := Option.some.inj hp
    exact ⟨.inr rfl, res1 rfl rfl ⟨rfl, S74.back⟩⟩
   ·
    obtain ⟨he, hL⟩ := hD
    replace hp := el_rt hp
    obtain rfl := Option.some.inj hp
    subst he
    exact hL

@[reducible] def p_laws_toStringS (Ha : GH) (wa : World) (r : (List ByteArray)) : Ending → World → Prop :=
 fun e w' => ∃ H' : GH, ∃ v0 : Value, ∃ n0 : Nat, ∃ c0 : List Value, e = .returned (v0) ∧ St Ha wa H' w' [.row 9 1 v0 n0 c0] ∧ Els (up wa.heap.size H') eS 1 c0 r
theorem w_laws_toStringS {Ha : GH} {wa : World} (hs : Sl Ha wa) (v0 : Value) (a0 : List ByteArray) (p0 : RSl Ha eS 1 v0 a0) {r : (List ByteArray)} (hp : (PF.laws_toStringS a0) = some r) :
  Calls Tryz.prog 11 #[v0] wa (p_laws_toStringS Ha wa r) := by
 unfold PF.laws_toStringS at hp
 have S0 := St.init hs
 refine calls_go (N := 22) (args := [v0]) Tryz.func11 rfl rfl rfl ?_
 refine FW.seq (FW.region ?_)
 refine FL.v (E.assign (v := Value.slice none 0 0) rfl) ?_
 refine FL.nil (FW.seq (FW.region ?_))
 refine FL.v (E.move (v := v0) rfl) ?_
 refine FL.v (E.lenP te22 rfl p0) ?_
 obtain ⟨xs21, hm22, hp⟩ := bnd hp
 obtain ⟨v23, w24, n28, cs29, run25, S26, els27, hbl30⟩ := S0.makeEls (P := Tryz.prog) te22 (G := (up wa.heap.size Ha)) (En := eS) (x0 := (ByteArray.empty : ByteArray)) hm22 rfl (ones_cons rfl ones_nil) .i64 .i64
 refine FL.v (E.makeSlice rfl rfl run25) ?_
 refine FL.v (E.assign (v := v23) rfl) ?_
 refine FL.nil (FW.seq (FW.seq (FW.region ?_)))
 refine FL.v (E.assign (v := Value.int .i64 0) rfl) ?_
 refine FL.nil ?_
 obtain ⟨q32, hq, hp⟩ := bndR hp
 refine FW.block ?_
 refine FW.mono (FW.forL (S := (List ByteArray)) (X := Empty) (fun (i32 : Nat) (s32 : (List ByteArray)) f w => ∃ H : GH, ∃ v63 : Value, ∃ n64 : Nat, ∃ cs65 : List Value, St Ha wa H w [.row 9 1 v63 n64 cs65] ∧ Inc Ha H ∧ Els (up wa.heap.size H) eS 1 cs65 s32 ∧ f 4 = Value.int .i64 ((i32 : Nat) : Int) ∧ f 0 = v0 ∧ f 3 = v63) (fun (q : Rs (List ByteArray) Empty) e f w => match q with | .go s32 => e = Exit.exit 0 ∧ (∃ H : GH, ∃ v63 : Value, ∃ n64 : Nat, ∃ cs65 : List Value, St Ha wa H w [.row 9 1 v63 n64 cs65] ∧ Inc Ha H ∧ Els (up wa.heap.size H) eS 1 cs65 s32 ∧ f 3 = v63) | .rt x => x.elim) hq ⟨_, _, _, _, S26, (Inc.rfl _), els27, rfl, rfl, rfl⟩ ?_ ?_) ?_
 ·
  clear hp hq
  rintro i32 y31 s32 f101 w100 ⟨H97, v63, n64, cs65, S98, i99, els66, k102, k103, k104⟩ hx32 o127 hp
  refine FW.seq (FW.seq (FW.region ?_))
  refine FL.v (E.move k102) ?_
  refine FL.v (E.move k103) ?_
  refine FL.v (E.lenP te22 rfl p0) ?_
  refine FL.v (E.lssT rfl rfl (lss_len hx32)) ?_
  refine FL.nil ?_
  refine FW.condT rfl rfl ?_
  refine FW.skip (FW.seq (FW.block (FW.region ?_)))
  refine FL.v (E.move k104) ?_
  refine FL.v (E.move k102) ?_
  refine FL.v (E.move k103) ?_
  refine FL.v (E.move k102) ?_
  obtain ⟨p105, cs106, pt107, l108, at109, rel110⟩ := p0.at (ix_nat hx32)
  obtain rfl := eS_open rel110
  refine FL.v (E.indexAddr te22 rfl rfl pt107) ?_
  refine FL.v (E.load rfl (run_load0 Tryz.isAgg9 ((at109.mono i99).now S98.sl) rfl)) ?_
  obtain ⟨x117, hx118, hp⟩ := bnd hp
  obtain ⟨p111, cs112, pt113, l114, at115, rel116⟩ := S98.row_at (i := 0) rfl els66 (by decide) hx118
  obtain rfl := eS_open rel116
  refine FL.v (E.indexAddr te22 rfl rfl pt113) ?_
  obtain ⟨xs122, hput123, hp⟩ := bnd hp
  obtain ⟨w119, cs125, run120, S121, els124, ce126⟩ := S98.putEls (P := Tryz.prog) (t := 9) (i := 0) rfl els66 hput123 pt113 Tryz.sizeOf9 (u := Value.string y31) (c := [Value.string y31]) rfl rfl (ones_cons rfl ones_nil) rfl
  have S121 : St Ha wa H97 w119 [.row 9 1 v63 n64 cs125] := S121
  refine FL.act rfl rfl (E.store rfl rfl run120) ?_
  refine FL.nil (FW.region ?_)
  refine FL.v (E.move k102) ?_
  refine FL.v (E.add rfl rfl) ?_
  refine FL.v (E.assign (v := Value.int .i64 (wr (((i32 : Nat) : Int) + 1))) rfl) ?_
  refine FL.nil ?_
  obtain rfl := Option.some.inj hp
  exact ⟨rfl, ⟨_, _, _, _, S121, i99, els124, (nat_succ rfl (lt_of_get hx32) (p0.mono i99).le), k103, k104⟩⟩
 ·
  clear hp hq
  rintro s32 f138 w137 ⟨H134, v63, n64, cs65, S135, i136, els66, k139, k140, k141⟩
  refine FW.seq (FW.seq (FW.region ?_))
  refine FL.v (E.move k139) ?_
  refine FL.v (E.move k140) ?_
  refine FL.v (E.lenP te22 rfl p0) ?_
  refine FL.v (E.lss rfl rfl) ?_
  refine FL.nil ?_
  refine FW.condF rfl dlt_len ?_
  refine FW.exit ?_
  exact ⟨nofun, rfl, ⟨_, _, _, _, S135, i136, els66, k141⟩⟩
 ·
  clear hq
  intro e f132 w131 hD
  rcases q32 with s32 | x32
  ·
   obtain ⟨rfl, hD⟩ := hD
   obtain ⟨H128, v63, n64, cs65, S129, i130, els66, k133⟩ := hD
   replace hp := el_go hp
   refine FW.seq (FW.region ?_)
   refine FL.v (E.move k133) ?_
   refine FL.v (E.assign (v := v63) rfl) ?_
   refine FL.nil ?_
   refine FW.ret ?_
   obtain rfl := Option.some.inj hp
   exact ⟨.inr rfl, res1 rfl rfl ⟨_, _, _, _, rfl, S129, els66⟩⟩
  ·
   exact x32.elim

@[reducible] def p_laws_toSequent (Ha : GH) (wa : World) (r : Sequent) : Ending → World → Prop :=
 fun e w' => ∃ H' : GH, ∃ v0_0 : Value, ∃ v0_1 : Value, e = .returned (Value.agg #[v0_0, v0_1]) ∧ Run wa.heap.size Ha wa H' w' ∧ (∃ c0 c1, Nest (up wa.heap.size H') eS 1 v0_0 r.left c0 ∧ Nest (up wa.heap.size H') eS 1 v0_1 r.right c1 ∧ Ap v0_0 c0 v0_1 c1)
theorem w_laws_toSequent {Ha : GH} {wa : World} (hs : Sl Ha wa) (a0 : Sequent) (v0_0 : Value) (p0_0 : RSl Ha eS 1 v0_0 a0.left) (v0_1 : Value) (p0_1 : RSl Ha eS 1 v0_1 a0.right) {r : Sequent} (hp : (PF.laws_toSequent a0) = some r) :
  Calls Tryz.prog 109 #[Value.agg #[v0_0, v0_1]] wa (p_laws_toSequent Ha wa r) := by
 unfold PF.laws_toSequent at hp
 have S0 := St.init hs
 refine calls_go (N := 13) (args := [Value.agg #[v0_0, v0_1]]) Tryz.func109 rfl rfl rfl ?_
 refine FW.seq (FW.region ?_)
 obtain ⟨b21, w22, run23, S24⟩ := S0.box (P := Tryz.prog) 77 [v0_0, v0_1] (v := Value.agg #[v0_0, v0_1]) rfl (ones_cons p0_0.one (ones_cons p0_1.one ones_nil))
 refine FL.v (E.box rfl run23) ?_
 obtain ⟨H25, S26, i27, at28⟩ := S24.sealBox (i := 0) (l' := []) rfl rfl
 obtain ⟨b29, w30, run31, S32⟩ := S26.alloc (P := Tryz.prog) 68 [Value.slice none 0 0, Value.slice none 0 0] Tryz.zeroValue68 rfl (ones_cons rfl (ones_cons rfl ones_nil))
 refine FL.v (E.alloc run31) ?_
 refine FL.nil (FW.seq (FW.region ?_))
 obtain ⟨b33, w34, run35, S36⟩ := S32.alloc (P := Tryz.prog) 68 [Value.slice none 0 0, Value.slice none 0 0] Tryz.zeroValue68 rfl (ones_cons rfl (ones_cons rfl ones_nil))
 refine FL.v (E.alloc run35) ?_
 refine FL.nil (FW.seq (FW.region ?_))
 refine FL.v (E.fieldAddr tf77_0 rfl) ?_
 refine FL.v (E.load rfl (run_load1 Tryz.isAgg22 (at28.now S36.sl) rfl)) ?_
 obtain ⟨r37, hr38, hp⟩ := bnd hp
 refine FL.call rfl rfl rfl (E.call Tryz.call11 (A1 rfl)) (w_laws_toStringS S36.sl v0_0 a0.left (p0_0.mono i27) hr38) ?_
 rintro e w40 ⟨H39, v43, n44, cs45, rfl, r42, els46⟩
 refine ⟨_, rfl, ?_⟩
 have els46 := els46.mono (up_le S36.size)
 have S41 := S36.join (l' := [.row 9 1 v43 n44 cs45, .box b33 68 [Value.slice none 0 0, Value.slice none 0 0], .box b29 68 [Value.slice none 0 0, Value.slice none 0 0]]) r42 rfl
 refine FL.v (E.fieldAddr tf68_0 rfl) ?_
 obtain ⟨w47, run48, S49⟩ := S41.store (P := Tryz.prog) (t := 22) (i := 1) (j := 0) (cs' := [v43, Value.slice none 0 0]) (l' := [.row 9 1 v43 n44 cs45, .box b33 68 [v43, Value.slice none 0 0], .box b29 68 [Value.slice none 0 0, Value.slice none 0 0]]) (v := v43) (c := [v43]) rfl Tryz.sizeOf22 (Ln.cells (S41.row_ln (i := 0) rfl)) rfl (ones_cons (Ln.one (S41.row_ln (i := 0) rfl)) ones_nil) (Nat.le_of_ble_eq_true rfl) rfl rfl
 refine FL.act rfl rfl (E.store rfl rfl run48) ?_
 refine FL.nil (FW.seq (FW.region ?_))
 refine FL.v (E.fieldAddr tf77_1 rfl) ?_
 refine FL.v (E.load rfl (run_load1 Tryz.isAgg22 ((at28.mono r42.run.inc).now S49.sl) rfl)) ?_
 obtain ⟨r50, hr51, hp⟩ := bnd hp
 refine FL.call rfl rfl rfl (E.call Tryz.call11 (A1 rfl)) (w_laws_toStringS S49.sl v0_1 a0.right (p0_1.mono (i27.tr r42.run.inc)) hr51) ?_
 rintro e w53 ⟨H52, v56, n57, cs58, rfl, r55, els59⟩
 refine ⟨_, rfl, ?_⟩
 have els59 := els59.mono (up_le S49.size)
 have S54 := S49.join (l' := [.row 9 1 v56 n57 cs58, .row 9 1 v43 n44 cs45, .box b33 68 [v43, Value.slice none 0 0], .box b29 68 [Value.slice none 0 0, Value.slice none 0 0]]) r55 rfl
 refine FL.v (E.fieldAddr tf68_1 rfl) ?_
 obtain ⟨w60, run61, S62⟩ := S54.store (P := Tryz.prog) (t := 22) (i := 2) (j := 1) (cs' := [v43, v56]) (l' := [.row 9 1 v56 n57 cs58, .row 9 1 v43 n44 cs45, .box b33 68 [v43, v56], .box b29 68 [Value.slice none 0 0, Value.slice none 0 0]]) (v := v56) (c := [v56]) rfl Tryz.sizeOf22 (Ln.cells (S54.row_ln (i := 0) rfl)) rfl (ones_cons (Ln.one (S54.row_ln (i := 0) rfl)) ones_nil) (Nat.le_of_ble_eq_true rfl) rfl rfl
 refine FL.act rfl rfl (E.store rfl rfl run61) ?_
 obtain ⟨H63, S64, i65, h66, nv67⟩ := S62.sealRowU (i := 1) (l' := [.row 9 1 v56 n57 cs58, .box b33 68 [v43, v56], .box b29 68 [Value.slice none 0 0, Value.slice none 0 0]]) rfl (els46.mono (up_mono r55.run.inc)) (by decide) rfl
 obtain ⟨H68, S69, i70, h71, nv72⟩ := S64.sealRowU (i := 0) (l' := [.box b33 68 [v43, v56], .box b29 68 [Value.slice none 0 0, Value.slice none 0 0]]) rfl (els59.mono (up_mono i65)) (by decide) rfl
 obtain ⟨H73, S74, i75, at76⟩ := S69.sealBox (i := 0) (l' := [.box b29 68 [Value.slice none 0 0, Value.slice none 0 0]]) rfl rfl
 refine FL.nil (FW.seq (FW.region ?_))
 refine FL.v (E.load rfl (run_loadA Tryz.isAgg68 Tryz.sizeOf68 (at76.now S74.sl) rfl)) ?_
 obtain ⟨w77, run78, S79⟩ := S74.store0 (P := Tryz.prog) (t := 68) (i := 0) (cs' := [v43, v56]) (l' := [.box b29 68 [v43, v56]]) (v := Value.agg #[v43, v56]) (c := [v43, v56]) rfl Tryz.sizeOf68 rfl rfl (ones_cons h66.one (ones_cons h71.one ones_nil)) (Nat.le_of_ble_eq_true rfl) rfl rfl
 refine FL.act rfl rfl (E.store rfl rfl run78) ?_
 obtain ⟨H80, S81, i82, at83⟩ := S79.sealBox (i := 0) (l' := []) rfl rfl
 refine FL.nil ?_
 refine FW.ret ?_
 obtain rfl := Option.some.inj hp
 exact ⟨.inr rfl, resC rfl rfl (loadVar_A Tryz.isAgg68 Tryz.sizeOf68 (at83.now S81.sl) rfl) ⟨_, _, _, rfl, S81.run, (Ap.flat2 (h66.mono (up_mono ((i70.tr i75).tr i82))) eS_flat (by decide) (h71.mono (up_mono (i75.tr i82))) eS_flat (by decide) (New.apart (h66.mono (up_mono (Inc.rfl _))) nv72))⟩⟩

@[reducible] def p_laws_toSeqStep (Ha : GH) (wa : World) (r : SeqStep) : Ending → World → Prop :=
 fun e w' => ∃ H' : GH, ∃ v0_0 : Value, ∃ v0_1 : Value, e = .returned (Value.agg #[v0_0, v0_1, Value.int .i64 r.rule, Value.string r.main, Value.int .i64 r.a, Value.int .i64 r.b]) ∧ Run wa.heap.size Ha wa H' w' ∧ (∃ c0 c1, Nest (up wa.heap.size H') eS 1 v0_0 r.seq.left c0 ∧ Nest (up wa.heap.size H') eS 1 v0_1 r.seq.right c1 ∧ Ap v0_0 c0 v0_1 c1)
theorem w_laws_toSeqStep {Ha : GH} {wa : World} (hs : Sl Ha wa) (a0 : SeqStep) (v0_0 : Value) (p0_0 : RSl Ha eS 1 v0_0 a0.seq.left) (v0_1 : Value) (p0_1 : RSl Ha eS 1 v0_1 a0.seq.right) {r : SeqStep} (hp : (PF.laws_toSeqStep a0) = some r) :
  Calls Tryz.prog 61 #[Value.agg #[v0_0, v0_1, Value.int .i64 a0.rule, Value.string a0.main, Value.int .i64 a0.a, Value.int .i64 a0.b]] wa (p_laws_toSeqStep Ha wa r) := by
 unfold PF.laws_toSeqStep at hp
 have S0 := St.init hs
 refine calls_go (N := 21) (args := [Value.agg #[v0_0, v0_1, Value.int .i64 a0.rule, Value.string a0.main, Value.int .i64 a0.a, Value.int .i64 a0.b]]) Tryz.func61 rfl rfl rfl ?_
 refine FW.seq (FW.region ?_)
 obtain ⟨b21, w22, run23, S24⟩ := S0.box (P := Tryz.prog) 79 [v0_0, v0_1, Value.int .i64 a0.rule, Value.string a0.main, Value.int .i64 a0.a, Value.int .i64 a0.b] (v := Value.agg #[v0_0, v0_1, Value.int .i64 a0.rule, Value.string a0.main, Value.int .i64 a0.a, Value.int .i64 a0.b]) rfl (ones_cons p0_0.one (ones_cons p0_1.one (ones_cons rfl (ones_cons rfl (ones_cons rfl (ones_cons rfl ones_nil))))))
 refine FL.v (E.box rfl run23) ?_
 obtain ⟨H25, S26, i27, at28⟩ := S24.sealBox (i := 0) (l' := []) rfl rfl
 obtain ⟨b29, w30, run31, S32⟩ := S26.alloc (P := Tryz.prog) 74 [Value.slice none 0 0, Value.slice none 0 0, Value.int .i64 0, Value.string ByteArray.empty, Value.int .i64 0, Value.int .i64 0] Tryz.zeroValue74 rfl (ones_cons rfl (ones_cons rfl (ones_cons rfl (ones_cons rfl (ones_cons rfl (ones_cons rfl ones_nil))))))
 refine FL.v (E.alloc run31) ?_
 refine FL.nil (FW.seq (FW.region ?_))
 obtain ⟨b33, w34, run35, S36⟩ := S32.alloc (P := Tryz.prog) 74 [Value.slice none 0 0, Value.slice none 0 0, Value.int .i64 0, Value.string ByteArray.empty, Value.int .i64 0, Value.int .i64 0] Tryz.zeroValue74 rfl (ones_cons rfl (ones_cons rfl (ones_cons rfl (ones_cons rfl (ones_cons rfl (ones_cons rfl ones_nil))))))
 refine FL.v (E.alloc run35) ?_
 refine FL.nil (FW.seq (FW.region ?_))
 refine FL.v (E.fieldAddr tf79_0 rfl) ?_
 refine FL.v (E.load rfl (run_loadA Tryz.isAgg77 Tryz.sizeOf77 ((at28.now S36.sl).sub (j := 0) (n := 2) (c := [v0_0, v0_1]) rfl) rfl)) ?_
 obtain ⟨r37, hr38, hp⟩ := bnd hp
 refine FL.call rfl rfl rfl (E.call Tryz.call109 (A1 rfl)) (w_laws_toSequent S36.sl a0.seq v0_0 (p0_0.mono i27) v0_1 (p0_1.mono i27) hr38) ?_
 rintro e w40 ⟨H39, v43, v49, rfl, r42, ⟨c46, c52, ns45, ns51, ap55⟩⟩
 refine ⟨_, rfl, ?_⟩
 have h44 := ns45.rsl
 have nv47 : New H25 c46 := New.of_up S36.sl (fun b hb => ns45.dom b (.inr hb))
 have nv48 : New H25 [v43] := New.of_up S36.sl h44.dom
 have h44 := h44.mono (up_le S36.size)
 have ns45 := ns45.mono (up_le S36.size)
 have h50 := ns51.rsl
 have nv53 : New H25 c52 := New.of_up S36.sl (fun b hb => ns51.dom b (.inr hb))
 have nv54 : New H25 [v49] := New.of_up S36.sl h50.dom
 have h50 := h50.mono (up_le S36.size)
 have ns51 := ns51.mono (up_le S36.size)
 have S41 := S36.call r42
 refine FL.v (E.fieldAddr tf74_0 rfl) ?_
 obtain ⟨w56, run57, S58⟩ := S41.store (P := Tryz.prog) (t := 68) (i := 0) (j := 0) (cs' := [v43, v49, Value.int .i64 0, Value.string ByteArray.empty, Value.int .i64 0, Value.int .i64 0]) (l' := [.box b33 74 [v43, v49, Value.int .i64 0, Value.string ByteArray.empty, Value.int .i64 0, Value.int .i64 0], .box b29 74 [Value.slice none 0 0, Value.slice none 0 0, Value.int .i64 0, Value.string ByteArray.empty, Value.int .i64 0, Value.int .i64 0]]) (v := Value.agg #[v43, v49]) (c := [v43, v49]) rfl Tryz.sizeOf68 rfl rfl (ones_cons h44.one (ones_cons h50.one ones_nil)) (Nat.le_of_ble_eq_true rfl) rfl rfl
 refine FL.act rfl rfl (E.store rfl rfl run57) ?_
 refine FL.nil (FW.seq (FW.region ?_))
 refine FL.v (E.fieldAddr tf79_1 rfl) ?_
 refine FL.v (E.load rfl (run_load1 Tryz.isAgg3 ((at28.mono r42.inc).now S58.sl) rfl)) ?_
 refine FL.v (E.fieldAddr tf74_1 rfl) ?_
 obtain ⟨w59, run60, S61⟩ := S58.store (P := Tryz.prog) (t := 3) (i := 0) (j := 2) (cs' := [v43, v49, Value.int .i64 a0.rule, Value.string ByteArray.empty, Value.int .i64 0, Value.int .i64 0]) (l' := [.box b33 74 [v43, v49, Value.int .i64 a0.rule, Value.string ByteArray.empty, Value.int .i64 0, Value.int .i64 0], .box b29 74 [Value.slice none 0 0, Value.slice none 0 0, Value.int .i64 0, Value.string ByteArray.empty, Value.int .i64 0, Value.int .i64 0]]) (v := Value.int .i64 a0.rule) (c := [Value.int .i64 a0.rule]) rfl Tryz.sizeOf3 rfl rfl (ones_cons rfl ones_nil) (Nat.le_of_ble_eq_true rfl) rfl rfl
 refine FL.act rfl rfl (E.store rfl rfl run60) ?_
 refine FL.nil (FW.seq (FW.region ?_))
 refine FL.v (E.fieldAddr tf79_2 rfl) ?_
 refine FL.v (E.load rfl (run_load1 Tryz.isAgg9 ((at28.mono r42.inc).now S61.sl) rfl)) ?_
 refine FL.v (E.fieldAddr tf74_2 rfl) ?_
 obtain ⟨w62, run63, S64⟩ := S61.store (P := Tryz.prog) (t := 9) (i := 0) (j := 3) (cs' := [v43, v49, Value.int .i64 a0.rule, Value.string a0.main, Value.int .i64 0, Value.int .i64 0]) (l' := [.box b33 74 [v43, v49, Value.int .i64 a0.rule, Value.string a0.main, Value.int .i64 0, Value.int .i64 0], .box b29 74 [Value.slice none 0 0, Value.slice none 0 0, Value.int .i64 0, Value.string ByteArray.empty, Value.int .i64 0, Value.int .i64 0]]) (v := Value.string a0.main) (c := [Value.string a0.main]) rfl Tryz.sizeOf9 rfl rfl (ones_cons rfl ones_nil) (Nat.le_of_ble_eq_true rfl) rfl rfl
 refine FL.act rfl rfl (E.store rfl rfl run63) ?_
 refine FL.nil (FW.seq (FW.region ?_))
 refine FL.v (E.fieldAddr tf79_3 rfl) ?_
 refine FL.v (E.load rfl (run_load1 Tryz.isAgg3 ((at28.mono r42.inc).now S64.sl) rfl)) ?_
 refine FL.v (E.fieldAddr tf74_3 rfl) ?_
 obtain ⟨w65, run66, S67⟩ := S64.store (P := Tryz.prog) (t := 3) (i := 0) (j := 4) (cs' := [v43, v49, Value.int .i64 a0.rule, Value.string a0.main, Value.int .i64 a0.a, Value.int .i64 0]) (l' := [.box b33 74 [v43, v49, Value.int .i64 a0.rule, Value.string a0.main, Value.int .i64 a0.a, Value.int .i64 0], .box b29 74 [Value.slice none 0 0, Value.slice none 0 0, Value.int .i64 0, Value.string ByteArray.empty, Value.int .i64 0, Value.int .i64 0]]) (v := Value.int .i64 a0.a) (c := [Value.int .i64 a0.a]) rfl Tryz.sizeOf3 rfl rfl (ones_cons rfl ones_nil) (Nat.le_of_ble_eq_true rfl) rfl rfl
 refine FL.act rfl rfl (E.store rfl rfl run66) ?_
 refine FL.nil (FW.seq (FW.region ?_))
 refine FL.v (E.fieldAddr tf79_4 rfl) ?_
 refine FL.v (E.load rfl (run_load1 Tryz.isAgg3 ((at28.mono r42.inc).now S67.sl) rfl)) ?_
 refine FL.v (E.fieldAddr tf74_4 rfl) ?_
 obtain ⟨w68, run69, S70⟩ := S67.store (P := Tryz.prog) (t := 3) (i := 0) (j := 5) (cs' := [v43, v49, Value.int .i64 a0.rule, Value.string a0.main, Value.int .i64 a0.a, Value.int .i64 a0.b]) (l' := [.box b33 74 [v43, v49, Value.int .i64 a0.rule, Value.string a0.main, Value.int .i64 a0.a, Value.int .i64 a0.b], .box b29 74 [Value.slice none 0 0, Value.slice none 0 0, Value.int .i64 0, Value.string ByteArray.empty, Value.int .i64 0, Value.int .i64 0]]) (v := Value.int .i64 a0.b) (c := [Value.int .i64 a0.b]) rfl Tryz.sizeOf3 rfl rfl (ones_cons rfl ones_nil) (Nat.le_of_ble_eq_true rfl) rfl rfl
 refine FL.act rfl rfl (E.store rfl rfl run69) ?_
 obtain ⟨H71, S72, i73, at74⟩ := S70.sealBox (i := 0) (l' := [.box b29 74 [Value.slice none 0 0, Value.slice none 0 0, Value.int .i64 0, Value.string ByteArray.empty, Value.int .i64 0, Value.int .i64 0]]) rfl rfl
 refine FL.nil (FW.seq (FW.region ?_))
 refine FL.v (E.load rfl (run_loadA Tryz.isAgg74 Tryz.sizeOf74 (at74.now S72.sl) rfl)) ?_
 obtain ⟨w75, run76, S77⟩ := S72.store0 (P := Tryz.prog) (t := 74) (i := 0) (cs' := [v43, v49, Value.int .i64 a0.rule, Value.string a0.main, Value.int .i64 a0.a, Value.int .i64 a0.b]) (l' := [.box b29 74 [v43, v49, Value.int .i64 a0.rule, Value.string a0.main, Value.int .i64 a0.a, Value.int .i64 a0.b]]) (v := Value.agg #[v43, v49, Value.int .i64 a0.rule, Value.string a0.main, Value.int .i64 a0.a, Value.int .i64 a0.b]) (c := [v43, v49, Value.int .i64 a0.rule, Value.string a0.main, Value.int .i64 a0.a, Value.int .i64 a0.b]) rfl Tryz.sizeOf74 rfl rfl (ones_cons h44.one (ones_cons h50.one (ones_cons rfl (ones_cons rfl (ones_cons rfl (ones_cons rfl ones_nil)))))) (Nat.le_of_ble_eq_true rfl) rfl rfl
 refine FL.act rfl rfl (E.store rfl rfl run76) ?_
 obtain ⟨H78, S79, i80, at81⟩ := S77.sealBox (i := 0) (l' := []) rfl rfl
 refine FL.nil ?_
 refine FW.ret ?_
 obtain rfl := Option.some.inj hp
 exact ⟨.inr rfl, resC rfl rfl (loadVar_A Tryz.isAgg74 Tryz.sizeOf74 (at81.now S79.sl) rfl) ⟨_, _, _, rfl, S79.run, (Ap.flat2 (h44.mono (up_mono (i73.tr i80))) eS_flat (by decide) (h50.mono (up_mono (i73.tr i80))) eS_flat (by decide) ap55.dis)⟩⟩

@[reducible] def p_laws_toSeqStepS (Ha : GH) (wa : World) (r : (List SeqStep)) : Ending → World → Prop :=
 fun e w' => ∃ H' : GH, ∃ v0 : Value, ∃ n0 : Nat, ∃ c0 : List Value, e = .returned (v0) ∧ St Ha wa H' w' [.row 74 6 v0 n0 c0] ∧ Els (up wa.heap.size H') eSeqStep 6 c0 r ∧ (bl c0).Nodup
set_option maxHeartbeats 4000000 in
theorem w_laws_toSeqStepS {Ha : GH} {wa : World} (hs : Sl Ha wa) (v0 : Value) (a0 : List SeqStep) (p0 : RSl Ha eSeqStep 6 v0 a0) {r : (List SeqStep)} (hp : (PF.laws_toSeqStepS a0) = some r) :
  Calls Tryz.prog 20 #[v0] wa (p_laws_toSeqStepS Ha wa r) := by
 unfold PF.laws_toSeqStepS at hp
 have S0 := St.init hs
 refine calls_go (N := 23) (args := [v0]) Tryz.func20 rfl rfl rfl ?_
 refine FW.seq (FW.region ?_)
 refine FL.v (E.assign (v := Value.slice none 0 0) rfl) ?_
 refine FL.nil (FW.seq (FW.region ?_))
 refine FL.v (E.move (v := v0) rfl) ?_
 refine FL.v (E.lenP te32 rfl p0) ?_
 obtain ⟨xs21, hm22, hp⟩ := bnd hp
 obtain ⟨v23, w24, n28, cs29, run25, S26, els27, hbl30⟩ := S0.makeEls (P := Tryz.prog) te24 (G := (up wa.heap.size Ha)) (En := eSeqStep) (x0 := ((SeqStep.mk (Sequent.mk [] []) 0 ByteArray.empty 0 0) : SeqStep)) hm22 ⟨_, _, rfl, (RSl.nil _ _ _), (RSl.nil _ _ _)⟩ (ones_cons rfl (ones_cons rfl (ones_cons rfl (ones_cons rfl (ones_cons rfl (ones_cons rfl ones_nil)))))) .i64 .i64
 have nd31 : (bl cs29).Nodup := by rw [hbl30 (by simp [Value.cells, neb])]; exact List.nodup_nil
 refine FL.v (E.makeSlice rfl rfl run25) ?_
 refine FL.v (E.assign (v := v23) rfl) ?_
 refine FL.nil (FW.seq (FW.seq (FW.region ?_)))
 refine FL.v (E.assign (v := Value.int .i64 0) rfl) ?_
 refine FL.nil ?_
 obtain ⟨q33, hq, hp⟩ := bndR hp
 refine FW.block ?_
 refine FW.mono (FW.forL (S := (List SeqStep)) (X := Empty) (fun (i33 : Nat) (s33 : (List SeqStep)) f w => ∃ H : GH, ∃ v92 : Value, ∃ n93 : Nat, ∃ cs94 : List Value, St Ha wa H w [.row 74 6 v92 n93 cs94] ∧ Inc Ha H ∧ Els (up wa.heap.size H) eSeqStep 6 cs94 s33 ∧ (bl cs94).Nodup ∧ f 4 = Value.int .i64 ((i33 : Nat) : Int) ∧ f 0 = v0 ∧ f 3 = v92) (fun (q : Rs (List SeqStep) Empty) e f w => match q with | .go s33 => e = Exit.exit 0 ∧ (∃ H : GH, ∃ v92 : Value, ∃ n93 : Nat, ∃ cs94 : List Value, St Ha wa H w [.row 74 6 v92 n93 cs94] ∧ Inc Ha H ∧ Els (up wa.heap.size H) eSeqStep 6 cs94 s33 ∧ (bl cs94).Nodup ∧ f 3 = v92) | .rt x => x.elim) hq ⟨_, _, _, _, S26, (Inc.rfl _), els27, nd31, rfl, rfl, rfl⟩ ?_ ?_) ?_
 ·
  clear hp hq
  rintro i33 y32 s33 f159 w158 ⟨H155, v92, n93, cs94, S156, i157, els95, nd96, k160, k161, k162⟩ hx33 o213 hp
  refine FW.seq (FW.seq (FW.region ?_))
  refine FL.v (E.move k160) ?_
  refine FL.v (E.move k161) ?_
  refine FL.v (E.lenP te32 rfl p0) ?_
  refine FL.v (E.lssT rfl rfl (lss_len hx33)) ?_
  refine FL.nil ?_
  refine FW.condT rfl rfl ?_
  refine FW.skip (FW.seq (FW.block (FW.region ?_)))
  refine FL.v (E.move k162) ?_
  refine FL.v (E.move k160) ?_
  refine FL.v (E.move k161) ?_
  refine FL.v (E.move k160) ?_
  obtain ⟨p163, cs164, pt165, l166, at167, rel168⟩ := p0.at (ix_nat hx33)
  obtain ⟨v169, v171, rfl, h170, h172⟩ := eSeqStep_open rel168
  refine FL.v (E.indexAddr te32 rfl rfl pt165) ?_
  refine FL.v (E.load rfl (run_loadA Tryz.isAgg79 Tryz.sizeOf79 ((at167.mono i157).now S156.sl) rfl)) ?_
  obtain ⟨r173, hr174, hp⟩ := bnd hp
  refine FL.call rfl rfl rfl (E.call Tryz.call61 (A1 rfl)) (w_laws_toSeqStep S156.sl y32 v169 (h170.mono i157) v171 (h172.mono i157) hr174) ?_
  rintro e w176 ⟨H175, v179, v185, rfl, r178, ⟨c182, c188, ns181, ns187, ap191⟩⟩
  refine ⟨_, rfl, ?_⟩
  have h180 := ns181.rsl
  have nv183 : New H155 c182 := New.of_up S156.sl (fun b hb => ns181.dom b (.inr hb))
  have nv184 : New H155 [v179] := New.of_up S156.sl h180.dom
  have h180 := h180.mono (up_le S156.size)
  have ns181 := ns181.mono (up_le S156.size)
  have h186 := ns187.rsl
  have nv189 : New H155 c188 := New.of_up S156.sl (fun b hb => ns187.dom b (.inr hb))
  have nv190 : New H155 [v185] := New.of_up S156.sl h186.dom
  have h186 := h186.mono (up_le S156.size)
  have ns187 := ns187.mono (up_le S156.size)
  have S177 := S156.call r178
  obtain ⟨x198, hx199, hp⟩ := bnd hp
  obtain ⟨p192, cs193, pt194, l195, at196, rel197⟩ := S177.row_at (i := 0) rfl els95 (by decide) hx199
  obtain ⟨v200, v202, rfl, h201, h203⟩ := eSeqStep_open rel197
  refine FL.v (E.indexAddr te24 rfl rfl pt194) ?_
  obtain ⟨xs207, hput208, hp⟩ := bnd hp
  obtain ⟨w204, cs210, run205, S206, els209, ce211⟩ := S177.putEls (P := Tryz.prog) (t := 74) (i := 0) rfl (els95.mono (up_mono r178.inc)) hput208 pt194 Tryz.sizeOf74 (u := Value.agg #[v179, v185, Value.int .i64 r173.rule, Value.string r173.main, Value.int .i64 r173.a, Value.int .i64 r173.b]) (c := [v179, v185, Value.int .i64 r173.rule, Value.string r173.main, Value.int .i64 r173.a, Value.int .i64 r173.b]) rfl rfl (ones_cons h180.one (ones_cons h186.one (ones_cons rfl (ones_cons rfl (ones_cons rfl (ones_cons rfl ones_nil)))))) ⟨_, _, rfl, h180, h186⟩
  have S206 : St Ha wa H175 w204 [.row 74 6 v92 n93 cs210] := S206
  have nd212 : (bl cs210).Nodup := by rw [ce211]; exact nd_put (Nat.le_add_right _ _) nd96 (by exact nd_two ap191.dis) (Els.dom (els95.mono (upI.tr (Inc.rfl _)))) (by exact (New.two nv184 nv190))
  refine FL.act rfl rfl (E.store rfl rfl run205) ?_
  refine FL.nil (FW.region ?_)
  refine FL.v (E.move k160) ?_
  refine FL.v (E.add rfl rfl) ?_
  refine FL.v (E.assign (v := Value.int .i64 (wr (((i33 : Nat) : Int) + 1))) rfl) ?_
  refine FL.nil ?_
  obtain rfl := Option.some.inj hp
  exact ⟨rfl, ⟨_, _, _, _, S206, (i157.tr r178.inc), els209, nd212, (nat_succ rfl (lt_of_get hx33) (p0.mono (i157.tr r178.inc)).le), k161, k162⟩⟩
 ·
  clear hp hq
  rintro s33 f224 w223 ⟨H220, v92, n93, cs94, S221, i222, els95, nd96, k225, k226, k227⟩
  refine FW.seq (FW.seq (FW.region ?_))
  refine FL.v (E.move k225) ?_
  refine FL.v (E.move k226) ?_
  refine FL.v (E.lenP te32 rfl p0) ?_
  refine FL.v (E.lss rfl rfl) ?_
  refine FL.nil ?_
  refine FW.condF rfl dlt_len ?_
  refine FW.exit ?_
  exact ⟨nofun, rfl, ⟨_, _, _, _, S221, i222, els95, nd96, k227⟩⟩
 ·
  clear hq
  intro e f218 w217 hD
  rcases q33 with s33 | x33
  ·
   obtain ⟨rfl, hD⟩ := hD
   obtain ⟨H214, v92, n93, cs94, S215, i216, els95, nd96, k219⟩ := hD
   replace hp := el_go hp
   refine FW.seq (FW.region ?_)
   refine FL.v (E.move k219) ?_
   refine FL.v (E.assign (v := v92) rfl) ?_
   refine FL.nil ?_
   refine FW.ret ?_
   obtain rfl := Option.some.inj hp
   exact ⟨.inr rfl, res1 rfl rfl ⟨_, _, _, _, rfl, S215, els95, nd96⟩⟩
  ·
   exact x33.elim

theorem w_spec_l1In {Ha : GH} {wa : World} (hs : Sl Ha wa) (a0 : Int) (a1 : Int) (a2 : Int) :
  Calls Tryz.prog 107 #[Value.int .i64 a0, Value.int .i64 a1, Value.int .i64 a2] wa (Sc Ha wa (Value.bool (PF.spec_l1In a0 a1 a2))) := by
 obtain ⟨r, hp⟩ : ∃ r, (PF.spec_l1In a0 a1 a2) = r := ⟨_, rfl⟩
 rw [hp]
 unfold PF.spec_l1In at hp
 have S0 := St.init hs
 refine calls_go (N := 15) (args := [Value.int .i64 a0, Value.int .i64 a1, Value.int .i64 a2]) Tryz.func107 rfl rfl rfl ?_
 refine FW.seq (FW.region ?_)
 refine FL.v (E.assign (v := Value.bool false) rfl) ?_
 refine FL.nil (FW.seq (FW.region ?_))
 refine FL.v (E.move (v := Value.int .i64 a0) rfl) ?_
 refine FL.v (E.move (v := Value.int .i64 a1) rfl) ?_
 refine FL.v (E.geq rfl rfl) ?_
 refine FL.v (E.move (v := Value.bool (decide (a1 ≤ a0))) rfl) ?_
 refine FL.cut 4 (fun f w => ∃ H : GH, St Ha wa H w [] ∧ Inc Ha H ∧ f 14 = Value.bool (bif (decide (a1 ≤ a0)) then (decide (a0 ≤ a2)) else false)) ?_ ?_
 ·
  rcases bcase (decide (a1 ≤ a0)) with c27 | c27
  ·
   refine FL.val (wF_yes rfl rfl rfl c27) rfl rfl (E.move (v := Value.int .i64 a0) rfl) ?_
   refine FL.val (wF_yes rfl rfl rfl c27) rfl rfl (E.move (v := Value.int .i64 a2) rfl) ?_
   refine FL.val (wF_yes rfl rfl rfl c27) rfl rfl (E.leq rfl rfl) ?_
   refine FL.v (E.pickT rfl c27 rfl) ?_
   exact FL.nil ⟨rfl, _, S0, (Inc.rfl _), (congrArg Value.bool (bifT c27).symm)⟩
  ·
   refine FL.skip (wF_no rfl rfl rfl c27) rfl ?_
   refine FL.skip (wF_no rfl rfl rfl c27) rfl ?_
   refine FL.skip (wF_no rfl rfl rfl c27) rfl ?_
   refine FL.v (E.pickF rfl c27 rfl) ?_
   exact FL.nil ⟨rfl, _, S0, (Inc.rfl _), (congrArg Value.bool (bifF c27).symm)⟩
 rintro f26 w25 ⟨H22, S23, i24, k28⟩
 refine FL.v (E.assign k28) ?_
 refine FL.nil ?_
 refine FW.ret ?_
 obtain rfl := hp
 exact ⟨.inr rfl, res1 rfl rfl ⟨rfl, S23.back⟩⟩

set_option maxHeartbeats 4000000 in
theorem w_spec_l22End_B {rec_spec_l22End : ByteArray → Int → Option Int} (hrec_spec_l22End : ∀ {Ha : GH} {wa : World} (hs : Sl Ha wa) (a0 : ByteArray) (a1 : Int) {r : Int} (hp : rec_spec_l22End a0 a1 = some r), Calls Tryz.prog 98 #[Value.string a0, Value.int .i64 a1] wa (Sc Ha wa (Value.int .i64 r))) {Ha : GH} {wa : World} (hs : Sl Ha wa) (a0 : ByteArray) (a1 : Int) {r : Int} (hp : PF.spec_l22End_B rec_spec_l22End a0 a1 = some r) :
  Calls Tryz.prog 98 #[Value.string a0, Value.int .i64 a1] wa (Sc Ha wa (Value.int .i64 r)) := by
 unfold PF.spec_l22End_B at hp
 have S0 := St.init hs
 refine calls_go (N := 100) (args := [Value.string a0, Value.int .i64 a1]) Tryz.func98 rfl rfl rfl ?_
 refine FW.seq (FW.region ?_)
 refine FL.v (E.assign (v := Value.int .i64 0) rfl) ?_
 refine FL.nil (FW.seq (FW.seq (FW.region ?_)))
 refine FL.v (E.move (v := Value.int .i64 a1) rfl) ?_
 refine FL.v (E.move (v := Value.string a0) rfl) ?_
 refine FL.v (E.lenS Tryz.runUnderlying9 rfl) ?_
 refine FL.v (E.geq rfl rfl) ?_
 refine FL.nil ?_
 rcases ifB hp with ⟨c21, hp⟩ | ⟨c21, hp⟩
 ·
  refine FW.condT rfl c21 ?_
  refine FW.seq (FW.region ?_)
  refine FL.v (E.assign (v := Value.int .i64 (-1)) rfl) ?_
  refine FL.nil ?_
  refine FW.ret ?_
  obtain rfl := Option.some.inj hp
  exact ⟨.inr rfl, res1 rfl rfl ⟨rfl, S0.back⟩⟩
 ·
  refine FW.condF rfl c21 ?_
  refine FW.skip (FW.seq (FW.block (FW.seq (FW.region ?_))))
  refine FL.v (E.move (v := Value.string a0) rfl) ?_
  refine FL.v (E.move (v := Value.int .i64 a1) rfl) ?_
  obtain ⟨z22, h23, hp⟩ := bnd hp
  refine FL.v (E.ixS Tryz.runUnderlying9 rfl rfl h23) ?_
  refine FL.v (E.eql rfl rfl) ?_
  refine FL.v (E.move (v := Value.bool (z22 == 48)) rfl) ?_
  obtain ⟨t26, hqt26, hp⟩ := bnd hp
  refine FL.cut 5 (fun f w => ∃ H : GH, St Ha wa H w [] ∧ Inc Ha H ∧ f 0 = Value.string a0 ∧ f 1 = Value.int .i64 a1 ∧ f 21 = Value.bool t26) ?_ ?_
  ·
   clear hp; have hp := hqt26; clear hqt26
   rcases ifB hp with ⟨c32, hp⟩ | ⟨c32, hp⟩
   ·
    refine FL.skip (wF_no rfl rfl rfl c32) rfl ?_
    refine FL.skip (wF_no rfl rfl rfl c32) rfl ?_
    refine FL.skip (wF_no rfl rfl rfl c32) rfl ?_
    refine FL.skip (wF_no rfl rfl rfl c32) rfl ?_
    obtain rfl := Option.some.inj hp
    refine FL.v (E.pickT rfl c32 rfl) ?_
    exact FL.nil ⟨rfl, _, S0, (Inc.rfl _), rfl, rfl, rfl⟩
   ·
    refine FL.val (wF_yes rfl rfl rfl c32) rfl rfl (E.move (v := Value.string a0) rfl) ?_
    refine FL.val (wF_yes rfl rfl rfl c32) rfl rfl (E.move (v := Value.int .i64 a1) rfl) ?_
    obtain ⟨z33, h34, hp⟩ := bnd hp
    refine FL.val (wF_yes rfl rfl rfl c32) rfl rfl (E.ixS Tryz.runUnderlying9 rfl rfl h34) ?_
    refine FL.val (wF_yes rfl rfl rfl c32) rfl rfl (E.eql rfl rfl) ?_
    obtain rfl := Option.some.inj hp
    refine FL.v (E.pickF rfl c32 rfl) ?_
    exact FL.nil ⟨rfl, _, S0, (Inc.rfl _), rfl, rfl, rfl⟩
  rintro f31 w30 ⟨H27, S28, i29, k35, k36, k37⟩
  refine FL.v (E.move k37) ?_
  obtain ⟨t55, hqt55, hp⟩ := bnd hp
  refine FL.cut 11 (fun f w => ∃ H : GH, St Ha wa H w [] ∧ Inc H27 H ∧ f 0 = Value.string a0 ∧ f 1 = Value.int .i64 a1 ∧ f 33 = Value.bool t55) ?_ ?_
  ·
   clear hp; have hp := hqt55; clear hqt55
   rcases ifB hp with ⟨c61, hp⟩ | ⟨c61, hp⟩
   ·
    refine FL.skip (wF_no rfl rfl rfl c61) rfl ?_
    refine FL.skip (wF_no rfl rfl rfl c61) rfl ?_
    refine FL.skip (wF_no rfl rfl rfl c61) rfl ?_
    refine FL.skip (wF_no rfl rfl rfl c61) rfl ?_
    refine FL.skip (wF_no rfl rfl rfl c61) rfl ?_
    refine FL.skip (wF_undef rfl rfl rfl) rfl ?_
    refine FL.skip (wF_undef rfl rfl rfl) rfl ?_
    refine FL.skip (wF_undef rfl rfl rfl) rfl ?_
    refine FL.skip (wF_undef rfl rfl rfl) rfl ?_
    refine FL.skip (wF_no rfl rfl rfl c61) rfl ?_
    obtain rfl := Option.some.inj hp
    refine FL.v (E.pickT rfl c61 rfl) ?_
    exact FL.nil ⟨rfl, _, S28, (Inc.rfl _), k35, k36, rfl⟩
   ·
    refine FL.val (wF_yes rfl rfl rfl c61) rfl rfl (E.move k35) ?_
    refine FL.val (wF_yes rfl rfl rfl c61) rfl rfl (E.move k36) ?_
    obtain ⟨z62, h63, hp⟩ := bnd hp
    refine FL.val (wF_yes rfl rfl rfl c61) rfl rfl (E.ixS Tryz.runUnderlying9 rfl rfl h63) ?_
    refine FL.val (wF_yes rfl rfl rfl c61) rfl rfl (E.geq rfl rfl) ?_
    refine FL.val (wF_yes rfl rfl rfl c61) rfl rfl (E.move (v := Value.bool (decide (97 ≤ z62))) rfl) ?_
    obtain ⟨t66, hqt66, hp⟩ := bnd hp
    refine FL.cut 5 (fun f w => ∃ H : GH, St Ha wa H w [] ∧ Inc H27 H ∧ f 0 = Value.string a0 ∧ f 1 = Value.int .i64 a1 ∧ f 22 = Value.bool t26 ∧ f 32 = Value.bool t66) ?_ ?_
    ·
     clear hp; have hp := hqt66; clear hqt66
     rcases ifB hp with ⟨c72, hp⟩ | ⟨c72, hp⟩
     ·
      refine FL.val (wF_yes rfl rfl rfl c72) rfl rfl (E.move k35) ?_
      refine FL.val (wF_yes rfl rfl rfl c72) rfl rfl (E.move k36) ?_
      obtain ⟨z73, h74, hp⟩ := bnd hp
      refine FL.val (wF_yes rfl rfl rfl c72) rfl rfl (E.ixS Tryz.runUnderlying9 rfl rfl h74) ?_
      refine FL.val (wF_yes rfl rfl rfl c72) rfl rfl (E.leq rfl rfl) ?_
      obtain rfl := Option.some.inj hp
      refine FL.val (wF_yes rfl rfl rfl c61) rfl rfl (E.pickT rfl c72 rfl) ?_
      exact FL.nil ⟨rfl, _, S28, (Inc.rfl _), k35, k36, rfl, rfl⟩
     ·
      refine FL.skip (wF_no rfl rfl rfl c72) rfl ?_
      refine FL.skip (wF_no rfl rfl rfl c72) rfl ?_
      refine FL.skip (wF_no rfl rfl rfl c72) rfl ?_
      refine FL.skip (wF_no rfl rfl rfl c72) rfl ?_
      obtain rfl := Option.some.inj hp
      refine FL.val (wF_yes rfl rfl rfl c61) rfl rfl (E.pickF rfl c72 rfl) ?_
      exact FL.nil ⟨rfl, _, S28, (Inc.rfl _), k35, k36, rfl, rfl⟩
    rintro f71 w70 ⟨H67, S68, i69, k75, k76, k77, k78⟩
    obtain rfl := Option.some.inj hp
    refine FL.v (E.pickF k77 c61 k78) ?_
    exact FL.nil ⟨rfl, _, S68, i69, k75, k76, rfl⟩
  rintro f60 w59 ⟨H56, S57, i58, k79, k80, k81⟩
  refine FL.v (E.assign k81) ?_
  refine FL.nil ?_
  rcases ifB hp with ⟨c82, hp⟩ | ⟨c82, hp⟩
  ·
   refine FW.condT rfl c82 ?_
   refine FW.seq (FW.region ?_)
   refine FL.v (E.move k80) ?_
   refine FL.v (E.add rfl rfl) ?_
   refine FL.v (E.assign (v := Value.int .i64 (wr (a1 + 1))) rfl) ?_
   refine FL.nil ?_
   refine FW.ret ?_
   obtain rfl := Option.some.inj hp
   exact ⟨.inr rfl, res1 rfl rfl ⟨rfl, S57.back⟩⟩
  ·
   refine FW.condF rfl c82 ?_
   refine FW.seq (FW.region ?_)
   refine FL.v (E.move k79) ?_
   refine FL.v (E.move k80) ?_
   obtain ⟨z83, h84, hp⟩ := bnd hp
   refine FL.v (E.ixS Tryz.runUnderlying9 rfl rfl h84) ?_
   refine FL.v (E.eql rfl rfl) ?_
   refine FL.v (E.assign (v := Value.bool (z83 == 126)) rfl) ?_
   refine FL.nil ?_
   rcases ifB hp with ⟨c85, hp⟩ | ⟨c85, hp⟩
   ·
    refine FW.condT rfl c85 ?_
    refine FW.seq (FW.region ?_)
    refine FL.v (E.move k79) ?_
    refine FL.v (E.move k80) ?_
    refine FL.v (E.add rfl rfl) ?_
    obtain ⟨r86, hr87, hp⟩ := bnd hp
    refine FL.call rfl rfl rfl (E.call Tryz.call98 (A2 rfl rfl)) (hrec_spec_l22End S57.sl a0 (wr (a1 + 1)) hr87) ?_
    rintro e w88 ⟨rfl, r89⟩
    refine ⟨_, rfl, ?_⟩
    have S90 := S57.call r89
    refine FL.v (E.assign (v := Value.int .i64 r86) rfl) ?_
    refine FL.nil ?_
    refine FW.ret ?_
    obtain rfl := Option.some.inj hp
    exact ⟨.inr rfl, res1 rfl rfl ⟨rfl, S90.back⟩⟩
   ·
    refine FW.condF rfl c85 ?_
    refine FW.seq (FW.region ?_)
    refine FL.v (E.move k79) ?_
    refine FL.v (E.move k80) ?_
    obtain ⟨z91, h92, hp⟩ := bnd hp
    refine FL.v (E.ixS Tryz.runUnderlying9 rfl rfl h92) ?_
    refine FL.v (E.neq rfl rfl) ?_
    refine FL.v (E.assign (v := Value.bool (!(z91 == 40))) rfl) ?_
    refine FL.nil ?_
    rcases ifB hp with ⟨c93, hp⟩ | ⟨c93, hp⟩
    ·
     refine FW.condT rfl c93 ?_
     refine FW.seq (FW.region ?_)
     refine FL.v (E.assign (v := Value.int .i64 (-1)) rfl) ?_
     refine FL.nil ?_
     refine FW.ret ?_
     obtain rfl := Option.some.inj hp
     exact ⟨.inr rfl, res1 rfl rfl ⟨rfl, S57.back⟩⟩
    ·
     refine FW.condF rfl c93 ?_
     refine FW.skip (FW.seq (FW.region ?_))
     refine FL.v (E.move k79) ?_
     refine FL.v (E.move k80) ?_
     refine FL.v (E.add rfl rfl) ?_
     obtain ⟨r94, hr95, hp⟩ := bnd hp
     refine FL.call rfl rfl rfl (E.call Tryz.call98 (A2 rfl rfl)) (hrec_spec_l22End S57.sl a0 (wr (a1 + 1)) hr95) ?_
     rintro e w96 ⟨rfl, r97⟩
     refine ⟨_, rfl, ?_⟩
     have S98 := S57.call r97
     refine FL.v (E.assign (v := Value.int .i64 r94) rfl) ?_
     refine FL.nil (FW.seq (FW.seq (FW.region ?_)))
     refine FL.v (E.move (v := Value.int .i64 r94) rfl) ?_
     refine FL.v (E.lss rfl rfl) ?_
     refine FL.v (E.move (v := Value.bool (decide (r94 < 0))) rfl) ?_
     refine FL.cut 5 (fun f w => ∃ H : GH, St Ha wa H w [] ∧ Inc H56 H ∧ f 0 = Value.string a0 ∧ f 5 = Value.int .i64 r94 ∧ f 61 = Value.bool (bif (decide (r94 < 0)) then true else (decide ((a0.size : Int) ≤ r94)))) ?_ ?_
     ·
      rcases bcase (decide (r94 < 0)) with c105 | c105
      ·
       refine FL.skip (wF_no rfl rfl rfl c105) rfl ?_
       refine FL.skip (wF_no rfl rfl rfl c105) rfl ?_
       refine FL.skip (wF_no rfl rfl rfl c105) rfl ?_
       refine FL.skip (wF_no rfl rfl rfl c105) rfl ?_
       refine FL.v (E.pickT rfl c105 rfl) ?_
       exact FL.nil ⟨rfl, _, S98, (Inc.rfl _), k79, rfl, (congrArg Value.bool (bifT c105).symm)⟩
      ·
       refine FL.val (wF_yes rfl rfl rfl c105) rfl rfl (E.move (v := Value.int .i64 r94) rfl) ?_
       refine FL.val (wF_yes rfl rfl rfl c105) rfl rfl (E.move k79) ?_
       refine FL.val (wF_yes rfl rfl rfl c105) rfl rfl (E.lenS Tryz.runUnderlying9 rfl) ?_
       refine FL.val (wF_yes rfl rfl rfl c105) rfl rfl (E.geq rfl rfl) ?_
       refine FL.v (E.pickF rfl c105 rfl) ?_
       exact FL.nil ⟨rfl, _, S98, (Inc.rfl _), k79, rfl, (congrArg Value.bool (bifF c105).symm)⟩
     rintro f104 w103 ⟨H100, S101, i102, k106, k107, k108⟩
     refine FL.v (E.move k108) ?_
     obtain ⟨t141, hqt141, hp⟩ := bnd hp
     refine FL.cut 17 (fun f w => ∃ H : GH, St Ha wa H w [] ∧ Inc H100 H ∧ f 0 = Value.string a0 ∧ f 5 = Value.int .i64 r94 ∧ f 79 = Value.bool t141) ?_ ?_
     ·
      clear hp; have hp := hqt141; clear hqt141
      rcases ifB hp with ⟨c147, hp⟩ | ⟨c147, hp⟩
      ·
       refine FL.skip (wF_no rfl rfl rfl c147) rfl ?_
       refine FL.skip (wF_no rfl rfl rfl c147) rfl ?_
       refine FL.skip (wF_no rfl rfl rfl c147) rfl ?_
       refine FL.skip (wF_no rfl rfl rfl c147) rfl ?_
       refine FL.skip (wF_no rfl rfl rfl c147) rfl ?_
       refine FL.skip (wF_undef rfl rfl rfl) rfl ?_
       refine FL.skip (wF_undef rfl rfl rfl) rfl ?_
       refine FL.skip (wF_undef rfl rfl rfl) rfl ?_
       refine FL.skip (wF_undef rfl rfl rfl) rfl ?_
       refine FL.skip (wF_no rfl rfl rfl c147) rfl ?_
       refine FL.skip (wF_no rfl rfl rfl c147) rfl ?_
       refine FL.skip (wF_undef rfl rfl rfl) rfl ?_
       refine FL.skip (wF_undef rfl rfl rfl) rfl ?_
       refine FL.skip (wF_undef rfl rfl rfl) rfl ?_
       refine FL.skip (wF_undef rfl rfl rfl) rfl ?_
       refine FL.skip (wF_no rfl rfl rfl c147) rfl ?_
       obtain rfl := Option.some.inj hp
       refine FL.v (E.pickT rfl c147 rfl) ?_
       exact FL.nil ⟨rfl, _, S101, (Inc.rfl _), k106, k107, rfl⟩
      ·
       refine FL.val (wF_yes rfl rfl rfl c147) rfl rfl (E.move k106) ?_
       refine FL.val (wF_yes rfl rfl rfl c147) rfl rfl (E.move k107) ?_
       obtain ⟨z148, h149, hp⟩ := bnd hp
       refine FL.val (wF_yes rfl rfl rfl c147) rfl rfl (E.ixS Tryz.runUnderlying9 rfl rfl h149) ?_
       refine FL.val (wF_yes rfl rfl rfl c147) rfl rfl (E.neq rfl rfl) ?_
       refine FL.val (wF_yes rfl rfl rfl c147) rfl rfl (E.move (v := Value.bool (!(z148 == 38))) rfl) ?_
       obtain ⟨t152, hqt152, hp⟩ := bnd hp
       refine FL.cut 5 (fun f w => ∃ H : GH, St Ha wa H w [] ∧ Inc H100 H ∧ f 0 = Value.string a0 ∧ f 5 = Value.int .i64 r94 ∧ f 62 = Value.bool (bif (decide (r94 < 0)) then true else (decide ((a0.size : Int) ≤ r94))) ∧ f 72 = Value.bool t152) ?_ ?_
       ·
        clear hp; have hp := hqt152; clear hqt152
        rcases ifB hp with ⟨c158, hp⟩ | ⟨c158, hp⟩
        ·
         refine FL.val (wF_yes rfl rfl rfl c158) rfl rfl (E.move k106) ?_
         refine FL.val (wF_yes rfl rfl rfl c158) rfl rfl (E.move k107) ?_
         obtain ⟨z159, h160, hp⟩ := bnd hp
         refine FL.val (wF_yes rfl rfl rfl c158) rfl rfl (E.ixS Tryz.runUnderlying9 rfl rfl h160) ?_
         refine FL.val (wF_yes rfl rfl rfl c158) rfl rfl (E.neq rfl rfl) ?_
         obtain rfl := Option.some.inj hp
         refine FL.val (wF_yes rfl rfl rfl c147) rfl rfl (E.pickT rfl c158 rfl) ?_
         exact FL.nil ⟨rfl, _, S101, (Inc.rfl _), k106, k107, rfl, rfl⟩
        ·
         refine FL.skip (wF_no rfl rfl rfl c158) rfl ?_
         refine FL.skip (wF_no rfl rfl rfl c158) rfl ?_
         refine FL.skip (wF_no rfl rfl rfl c158) rfl ?_
         refine FL.skip (wF_no rfl rfl rfl c158) rfl ?_
         obtain rfl := Option.some.inj hp
         refine FL.val (wF_yes rfl rfl rfl c147) rfl rfl (E.pickF rfl c158 rfl) ?_
         exact FL.nil ⟨rfl, _, S101, (Inc.rfl _), k106, k107, rfl, rfl⟩
       rintro f157 w156 ⟨H153, S154, i155, k161, k162, k163, k164⟩
       refine FL.val (wF_yes rfl rfl k163 c147) rfl rfl (E.move k164) ?_
       obtain ⟨t167, hqt167, hp⟩ := bnd hp
       refine FL.cut 5 (fun f w => ∃ H : GH, St Ha wa H w [] ∧ Inc H153 H ∧ f 0 = Value.string a0 ∧ f 5 = Value.int .i64 r94 ∧ f 62 = Value.bool (bif (decide (r94 < 0)) then true else (decide ((a0.size : Int) ≤ r94))) ∧ f 78 = Value.bool t167) ?_ ?_
       ·
        clear hp; have hp := hqt167; clear hqt167
        rcases ifB hp with ⟨c173, hp⟩ | ⟨c173, hp⟩
        ·
         refine FL.val (wF_yes rfl rfl rfl c173) rfl rfl (E.move k161) ?_
         refine FL.val (wF_yes rfl rfl rfl c173) rfl rfl (E.move k162) ?_
         obtain ⟨z174, h175, hp⟩ := bnd hp
         refine FL.val (wF_yes rfl rfl rfl c173) rfl rfl (E.ixS Tryz.runUnderlying9 rfl rfl h175) ?_
         refine FL.val (wF_yes rfl rfl rfl c173) rfl rfl (E.neq rfl rfl) ?_
         obtain rfl := Option.some.inj hp
         refine FL.val (wF_yes rfl rfl k163 c147) rfl rfl (E.pickT rfl c173 rfl) ?_
         exact FL.nil ⟨rfl, _, S154, (Inc.rfl _), k161, k162, k163, rfl⟩
        ·
         refine FL.skip (wF_no rfl rfl rfl c173) rfl ?_
         refine FL.skip (wF_no rfl rfl rfl c173) rfl ?_
         refine FL.skip (wF_no rfl rfl rfl c173) rfl ?_
         refine FL.skip (wF_no rfl rfl rfl c173) rfl ?_
         obtain rfl := Option.some.inj hp
         refine FL.val (wF_yes rfl rfl k163 c147) rfl rfl (E.pickF rfl c173 rfl) ?_
         exact FL.nil ⟨rfl, _, S154, (Inc.rfl _), k161, k162, k163, rfl⟩
       rintro f172 w171 ⟨H168, S169, i170, k176, k177, k178, k179⟩
       obtain rfl := Option.some.inj hp
       refine FL.v (E.pickF k178 c147 k179) ?_
       exact FL.nil ⟨rfl, _, S169, (i155.tr i170), k176, k177, rfl⟩
     rintro f146 w145 ⟨H142, S143, i144, k180, k181, k182⟩
     refine FL.nil ?_
     rcases ifB hp with ⟨c183, hp⟩ | ⟨c183, hp⟩
     ·
      refine FW.condT k182 c183 ?_
      refine FW.seq (FW.region ?_)
      refine FL.v (E.assign (v := Value.int .i64 (-1)) rfl) ?_
      refine FL.nil ?_
      refine FW.ret ?_
      obtain rfl := Option.some.inj hp
      exact ⟨.inr rfl, res1 rfl rfl ⟨rfl, S143.back⟩⟩
     ·
      refine FW.condF k182 c183 ?_
      refine FW.skip (FW.seq (FW.region ?_))
      refine FL.v (E.move k180) ?_
      refine FL.v (E.move k181) ?_
      refine FL.v (E.add rfl rfl) ?_
      obtain ⟨r184, hr185, hp⟩ := bnd hp
      refine FL.call rfl rfl rfl (E.call Tryz.call98 (A2 rfl rfl)) (hrec_spec_l22End S143.sl a0 (wr (r94 + 1)) hr185) ?_
      rintro e w186 ⟨rfl, r187⟩
      refine ⟨_, rfl, ?_⟩
      have S188 := S143.call r187
      refine FL.v (E.assign (v := Value.int .i64 r184) rfl) ?_
      refine FL.nil (FW.seq (FW.seq (FW.region ?_)))
      refine FL.v (E.move (v := Value.int .i64 r184) rfl) ?_
      refine FL.v (E.lss rfl rfl) ?_
      refine FL.v (E.move (v := Value.bool (decide (r184 < 0))) rfl) ?_
      refine FL.cut 5 (fun f w => ∃ H : GH, St Ha wa H w [] ∧ Inc H142 H ∧ f 0 = Value.string a0 ∧ f 6 = Value.int .i64 r184 ∧ f 91 = Value.bool (bif (decide (r184 < 0)) then true else (decide ((a0.size : Int) ≤ r184)))) ?_ ?_
      ·
       rcases bcase (decide (r184 < 0)) with c195 | c195
       ·
        refine FL.skip (wF_no rfl rfl rfl c195) rfl ?_
        refine FL.skip (wF_no rfl rfl rfl c195) rfl ?_
        refine FL.skip (wF_no rfl rfl rfl c195) rfl ?_
        refine FL.skip (wF_no rfl rfl rfl c195) rfl ?_
        refine FL.v (E.pickT rfl c195 rfl) ?_
        exact FL.nil ⟨rfl, _, S188, (Inc.rfl _), k180, rfl, (congrArg Value.bool (bifT c195).symm)⟩
       ·
        refine FL.val (wF_yes rfl rfl rfl c195) rfl rfl (E.move (v := Value.int .i64 r184) rfl) ?_
        refine FL.val (wF_yes rfl rfl rfl c195) rfl rfl (E.move k180) ?_
        refine FL.val (wF_yes rfl rfl rfl c195) rfl rfl (E.lenS Tryz.runUnderlying9 rfl) ?_
        refine FL.val (wF_yes rfl rfl rfl c195) rfl rfl (E.geq rfl rfl) ?_
        refine FL.v (E.pickF rfl c195 rfl) ?_
        exact FL.nil ⟨rfl, _, S188, (Inc.rfl _), k180, rfl, (congrArg Value.bool (bifF c195).symm)⟩
      rintro f194 w193 ⟨H190, S191, i192, k196, k197, k198⟩
      refine FL.v (E.move k198) ?_
      obtain ⟨t201, hqt201, hp⟩ := bnd hp
      refine FL.cut 5 (fun f w => ∃ H : GH, St Ha wa H w [] ∧ Inc H190 H ∧ f 6 = Value.int .i64 r184 ∧ f 97 = Value.bool t201) ?_ ?_
      ·
       clear hp; have hp := hqt201; clear hqt201
       rcases ifB hp with ⟨c207, hp⟩ | ⟨c207, hp⟩
       ·
        refine FL.skip (wF_no rfl rfl rfl c207) rfl ?_
        refine FL.skip (wF_no rfl rfl rfl c207) rfl ?_
        refine FL.skip (wF_no rfl rfl rfl c207) rfl ?_
        refine FL.skip (wF_no rfl rfl rfl c207) rfl ?_
        obtain rfl := Option.some.inj hp
        refine FL.v (E.pickT rfl c207 rfl) ?_
        exact FL.nil ⟨rfl, _, S191, (Inc.rfl _), k197, rfl⟩
       ·
        refine FL.val (wF_yes rfl rfl rfl c207) rfl rfl (E.move k196) ?_
        refine FL.val (wF_yes rfl rfl rfl c207) rfl rfl (E.move k197) ?_
        obtain ⟨z208, h209, hp⟩ := bnd hp
        refine FL.val (wF_yes rfl rfl rfl c207) rfl rfl (E.ixS Tryz.runUnderlying9 rfl rfl h209) ?_
        refine FL.val (wF_yes rfl rfl rfl c207) rfl rfl (E.neq rfl rfl) ?_
        obtain rfl := Option.some.inj hp
        refine FL.v (E.pickF rfl c207 rfl) ?_
        exact FL.nil ⟨rfl, _, S191, (Inc.rfl _), k197, rfl⟩
      rintro f206 w205 ⟨H202, S203, i204, k210, k211⟩
      refine FL.nil ?_
      rcases ifB hp with ⟨c212, hp⟩ | ⟨c212, hp⟩
      ·
       refine FW.condT k211 c212 ?_
       refine FW.seq (FW.region ?_)
       refine FL.v (E.assign (v := Value.int .i64 (-1)) rfl) ?_
       refine FL.nil ?_
       refine FW.ret ?_
       obtain rfl := Option.some.inj hp
       exact ⟨.inr rfl, res1 rfl rfl ⟨rfl, S203.back⟩⟩
      ·
       refine FW.condF k211 c212 ?_
       refine FW.skip (FW.seq (FW.region ?_))
       refine FL.v (E.move k210) ?_
       refine FL.v (E.add rfl rfl) ?_
       refine FL.v (E.assign (v := Value.int .i64 (wr (r184 + 1))) rfl) ?_
       refine FL.nil ?_
       refine FW.ret ?_
       obtain rfl := Option.some.inj hp
       exact ⟨.inr rfl, res1 rfl rfl ⟨rfl, S203.back⟩⟩
theorem w_spec_l22End_F (n : Nat) : ∀ {Ha : GH} {wa : World} (hs : Sl Ha wa) (a0 : ByteArray) (a1 : Int) {r : Int} (hp : PF.spec_l22End_F n a0 a1 = some r), Calls Tryz.prog 98 #[Value.string a0, Value.int .i64 a1] wa (Sc Ha wa (Value.int .i64 r)) := by
 induction n with
 | zero => intros; rename_i hp; exact nomatch hp
 | succ n ih => exact w_spec_l22End_B (rec_spec_l22End := PF.spec_l22End_F n) ih
theorem w_spec_l22End {Ha : GH} {wa : World} (hs : Sl Ha wa) (a0 : ByteArray) (a1 : Int) {r : Int} (hp : PF.spec_l22End a0 a1 = some r) :
  Calls Tryz.prog 98 #[Value.string a0, Value.int .i64 a1] wa (Sc Ha wa (Value.int .i64 r)) := w_spec_l22End_F deep hs a0 a1 hp

theorem w_spec_l22Good {Ha : GH} {wa : World} (hs : Sl Ha wa) (a0 : ByteArray) {r : Bool} (hp : (PF.spec_l22Good a0) = some r) :
  Calls Tryz.prog 48 #[Value.string a0] wa (Sc Ha wa (Value.bool r)) := by
 unfold PF.spec_l22Good at hp
 have S0 := St.init hs
 refine calls_go (N := 18) (args := [Value.string a0]) Tryz.func48 rfl rfl rfl ?_
 refine FW.seq (FW.region ?_)
 refine FL.v (E.assign (v := Value.bool false) rfl) ?_
 refine FL.nil (FW.seq (FW.region ?_))
 refine FL.v (E.move (v := Value.string a0) rfl) ?_
 refine FL.v (E.lenS Tryz.runUnderlying9 rfl) ?_
 refine FL.v (E.gtr rfl rfl) ?_
 refine FL.v (E.move (v := Value.bool (decide (0 < (a0.size : Int)))) rfl) ?_
 refine FL.cut 4 (fun f w => ∃ H : GH, St Ha wa H w [] ∧ Inc Ha H ∧ f 0 = Value.string a0 ∧ f 10 = Value.bool (bif (decide (0 < (a0.size : Int))) then (decide ((a0.size : Int) ≤ 80)) else false)) ?_ ?_
 ·
  rcases bcase (decide (0 < (a0.size : Int))) with c27 | c27
  ·
   refine FL.val (wF_yes rfl rfl rfl c27) rfl rfl (E.move (v := Value.string a0) rfl) ?_
   refine FL.val (wF_yes rfl rfl rfl c27) rfl rfl (E.lenS Tryz.runUnderlying9 rfl) ?_
   refine FL.val (wF_yes rfl rfl rfl c27) rfl rfl (E.leq rfl rfl) ?_
   refine FL.v (E.pickT rfl c27 rfl) ?_
   exact FL.nil ⟨rfl, _, S0, (Inc.rfl _), rfl, (congrArg Value.bool (bifT c27).symm)⟩
  ·
   refine FL.skip (wF_no rfl rfl rfl c27) rfl ?_
   refine FL.skip (wF_no rfl rfl rfl c27) rfl ?_
   refine FL.skip (wF_no rfl rfl rfl c27) rfl ?_
   refine FL.v (E.pickF rfl c27 rfl) ?_
   exact FL.nil ⟨rfl, _, S0, (Inc.rfl _), rfl, (congrArg Value.bool (bifF c27).symm)⟩
 rintro f26 w25 ⟨H22, S23, i24, k28, k29⟩
 refine FL.v (E.move k29) ?_
 obtain ⟨t35, hqt35, hp⟩ := bnd hp
 refine FL.cut 6 (fun f w => ∃ H : GH, St Ha wa H w [] ∧ Inc H22 H ∧ f 17 = Value.bool t35) ?_ ?_
 ·
  clear hp; have hp := hqt35; clear hqt35
  rcases ifB hp with ⟨c41, hp⟩ | ⟨c41, hp⟩
  ·
   refine FL.val (wF_yes rfl rfl rfl c41) rfl rfl (E.move k28) ?_
   obtain ⟨r42, hr43, hp⟩ := bnd hp
   refine FL.call (wF_yes rfl rfl rfl c41) rfl rfl (E.call Tryz.call98 (A2 rfl rfl)) (w_spec_l22End S23.sl a0 0 hr43) ?_
   rintro e w44 ⟨rfl, r45⟩
   refine ⟨_, rfl, ?_⟩
   have S46 := S23.call r45
   refine FL.val (wF_yes rfl rfl rfl c41) rfl rfl (E.move k28) ?_
   refine FL.val (wF_yes rfl rfl rfl c41) rfl rfl (E.lenS Tryz.runUnderlying9 rfl) ?_
   refine FL.val (wF_yes rfl rfl rfl c41) rfl rfl (E.eql rfl rfl) ?_
   obtain rfl := Option.some.inj hp
   refine FL.v (E.pickT rfl c41 rfl) ?_
   exact FL.nil ⟨rfl, _, S46, (Inc.rfl _), rfl⟩
  ·
   refine FL.skip (wF_no rfl rfl rfl c41) rfl ?_
   refine FL.skip (wF_no rfl rfl rfl c41) rfl ?_
   refine FL.skip (wF_no rfl rfl rfl c41) rfl ?_
   refine FL.skip (wF_no rfl rfl rfl c41) rfl ?_
   refine FL.skip (wF_no rfl rfl rfl c41) rfl ?_
   obtain rfl := Option.some.inj hp
   refine FL.v (E.pickF rfl c41 rfl) ?_
   exact FL.nil ⟨rfl, _, S23, (Inc.rfl _), rfl⟩
 rintro f40 w39 ⟨H36, S37, i38, k47⟩
 refine FL.v (E.assign k47) ?_
 refine FL.nil ?_
 refine FW.ret ?_
 obtain rfl := Option.some.inj hp
 exact ⟨.inr rfl, res1 rfl rfl ⟨rfl, S37.back⟩⟩

theorem w_spec_l22Before {Ha : GH} {wa : World} (hs : Sl Ha wa) (a0 : ByteArray) (a1 : ByteArray) :
  Calls Tryz.prog 152 #[Value.string a0, Value.string a1] wa (Sc Ha wa (Value.bool (PF.spec_l22Before a0 a1))) := by
 obtain ⟨r, hp⟩ : ∃ r, (PF.spec_l22Before a0 a1) = r := ⟨_, rfl⟩
 rw [hp]
 unfold PF.spec_l22Before at hp
 have S0 := St.init hs
 refine calls_go (N := 18) (args := [Value.string a0, Value.string a1]) Tryz.func152 rfl rfl rfl ?_
 refine FW.seq (FW.region ?_)
 refine FL.v (E.assign (v := Value.bool false) rfl) ?_
 refine FL.nil (FW.seq (FW.seq (FW.region ?_)))
 refine FL.v (E.move (v := Value.string a0) rfl) ?_
 refine FL.v (E.lenS Tryz.runUnderlying9 rfl) ?_
 refine FL.v (E.move (v := Value.string a1) rfl) ?_
 refine FL.v (E.lenS Tryz.runUnderlying9 rfl) ?_
 refine FL.v (E.neq rfl rfl) ?_
 refine FL.nil ?_
 rcases ifT hp with ⟨c21, hp⟩ | ⟨c21, hp⟩
 ·
  refine FW.condT rfl c21 ?_
  refine FW.seq (FW.region ?_)
  refine FL.v (E.move (v := Value.string a0) rfl) ?_
  refine FL.v (E.lenS Tryz.runUnderlying9 rfl) ?_
  refine FL.v (E.move (v := Value.string a1) rfl) ?_
  refine FL.v (E.lenS Tryz.runUnderlying9 rfl) ?_
  refine FL.v (E.lss rfl rfl) ?_
  refine FL.v (E.assign (v := Value.bool (decide ((a0.size : Int) < (a1.size : Int)))) rfl) ?_
  refine FL.nil ?_
  refine FW.ret ?_
  obtain rfl := hp
  exact ⟨.inr rfl, res1 rfl rfl ⟨rfl, S0.back⟩⟩
 ·
  refine FW.condF rfl c21 ?_
  refine FW.skip (FW.seq (FW.region ?_))
  refine FL.v (E.move (v := Value.string a0) rfl) ?_
  refine FL.v (E.move (v := Value.string a1) rfl) ?_
  refine FL.v (E.lssS rfl rfl) ?_
  refine FL.v (E.assign (v := Value.bool (ltS a0 a1)) rfl) ?_
  refine FL.nil ?_
  refine FW.ret ?_
  obtain rfl := hp
  exact ⟨.inr rfl, res1 rfl rfl ⟨rfl, S0.back⟩⟩

set_option maxHeartbeats 4000000 in
theorem w_spec_l23Side {Ha : GH} {wa : World} (hs : Sl Ha wa) (v0 : Value) (a0 : List ByteArray) (p0 : RSl Ha eS 1 v0 a0) {r : Bool} (hp : (PF.spec_l23Side a0) = some r) :
  Calls Tryz.prog 145 #[v0] wa (Sc Ha wa (Value.bool r)) := by
 unfold PF.spec_l23Side at hp
 have S0 := St.init hs
 refine calls_go (N := 36) (args := [v0]) Tryz.func145 rfl rfl rfl ?_
 refine FW.seq (FW.region ?_)
 refine FL.v (E.assign (v := Value.bool false) rfl) ?_
 refine FL.nil (FW.seq (FW.seq (FW.region ?_)))
 refine FL.v (E.move (v := v0) rfl) ?_
 refine FL.v (E.lenP te22 rfl p0) ?_
 refine FL.v (E.gtr rfl rfl) ?_
 refine FL.nil ?_
 rcases ifB hp with ⟨c21, hp⟩ | ⟨c21, hp⟩
 ·
  refine FW.condT rfl c21 ?_
  refine FW.seq (FW.region ?_)
  refine FL.v (E.assign (v := Value.bool false) rfl) ?_
  refine FL.nil ?_
  refine FW.ret ?_
  obtain rfl := Option.some.inj hp
  exact ⟨.inr rfl, res1 rfl rfl ⟨rfl, S0.back⟩⟩
 ·
  refine FW.condF rfl c21 ?_
  refine FW.skip (FW.seq (FW.seq (FW.region ?_)))
  refine FL.v (E.assign (v := Value.int .i64 0) rfl) ?_
  refine FL.nil ?_
  obtain ⟨q23, hq, hp⟩ := bndR hp
  refine FW.block ?_
  refine FW.mono (FW.forL (S := Unit) (X := Bool) (fun (i23 : Nat) (s23 : Unit) f w => ∃ H : GH, St Ha wa H w [] ∧ Inc Ha H ∧ f 3 = Value.int .i64 ((i23 : Nat) : Int) ∧ f 0 = v0) (fun q e f w => match q with | .go s23 => e = Exit.exit 0 ∧ (∃ H : GH, St Ha wa H w [] ∧ Inc Ha H) | .rt x => ((e = Exit.ret) ∧ (fun e f w => (e = Exit.normal ∨ e = Exit.ret) ∧ ∀ a, Fr (δ := []) 36 a f → ∃ v, (results Tryz.f145 a.tmps).run Tryz.prog w = .ok v w ∧ (Sc Ha wa (Value.bool x)) (.returned v) w) e f w)) hq ⟨_, S0, (Inc.rfl _), rfl, rfl⟩ ?_ ?_) ?_
  ·
   clear hp hq
   rintro i23 y22 s23 f136 w135 ⟨H132, S133, i134, k137, k138⟩ hx23 o240 hp
   refine FW.seq (FW.seq (FW.region ?_))
   refine FL.v (E.move k137) ?_
   refine FL.v (E.move k138) ?_
   refine FL.v (E.lenP te22 rfl p0) ?_
   refine FL.v (E.lssT rfl rfl (lss_len hx23)) ?_
   refine FL.nil ?_
   refine FW.condT rfl rfl ?_
   refine FW.skip (FW.seq (FW.block (FW.seq ?_)))
   refine FW.draw (fun w' => Run w135.heap.size H132 w135 H132 w') (by kernel_rfl) (by kernel_rfl) (run_drew S133.sl) ?_
   refine FD.val rfl rfl rfl (fun w' hw' => (E.move k138)) ?_
   refine FD.val rfl rfl rfl (fun w' hw' => (E.move k137)) ?_
   obtain ⟨p140, cs141, pt142, l143, at144, rel145⟩ := p0.at (ix_nat hx23)
   obtain rfl := eS_open rel145
   refine FD.val rfl rfl rfl (fun w' hw' => (E.indexAddr te22 rfl rfl pt142)) ?_
   refine FD.val rfl rfl rfl (fun w' hw' => (E.load rfl (run_load0 Tryz.isAgg9 ((at144.mono i134).now (S133.call hw').sl) rfl))) ?_
   obtain ⟨r146, hr147, hp⟩ := bnd hp
   refine FD.call rfl rfl rfl (fun w' hw' => (E.call Tryz.call48 (A1 rfl))) (fun w' hw' => Calls.cls hw' (w_spec_l22Good (S133.call hw').sl y22 hr147)) ?_
   refine FD.val rfl rfl rfl (fun w' hw' => (E.not rfl)) ?_
   refine FD.val rfl rfl rfl (fun w' hw' => (E.move (v := Value.bool (!r146)) rfl)) ?_
   obtain ⟨t187, hqt187, hp⟩ := bnd hp
   refine FD.cut 16 (fun f => f 0 = v0 ∧ f 3 = Value.int .i64 ((i23 : Nat) : Int) ∧ f 35 = Value.bool t187) ?_ ?_
   ·
    clear hp; have hp := hqt187; clear hqt187
    rcases ifB hp with ⟨c193, hp⟩ | ⟨c193, hp⟩
    ·
     refine FD.skip (wF_no rfl rfl rfl c193) rfl ?_
     refine FD.skip (wF_no rfl rfl rfl c193) rfl ?_
     refine FD.skip (wF_no rfl rfl rfl c193) rfl ?_
     refine FD.skip (wF_undef rfl rfl rfl) rfl ?_
     refine FD.skip (wF_undef rfl rfl rfl) rfl ?_
     refine FD.skip (wF_undef rfl rfl rfl) rfl ?_
     refine FD.skip (wF_undef rfl rfl rfl) rfl ?_
     refine FD.skip (wF_undef rfl rfl rfl) rfl ?_
     refine FD.skip (wF_undef rfl rfl rfl) rfl ?_
     refine FD.skip (wF_undef rfl rfl rfl) rfl ?_
     refine FD.skip (wF_undef rfl rfl rfl) rfl ?_
     refine FD.skip (wF_undef rfl rfl rfl) rfl ?_
     refine FD.skip (wF_undef rfl rfl rfl) rfl ?_
     refine FD.skip (wF_undef rfl rfl rfl) rfl ?_
     refine FD.skip (wF_no rfl rfl rfl c193) rfl ?_
     obtain rfl := Option.some.inj hp
     refine FD.val rfl rfl rfl (fun w' hw' => (E.pickT rfl c193 rfl)) ?_
     exact FD.nil ⟨k138, k137, rfl⟩
    ·
     refine FD.val (wF_yes rfl rfl rfl c193) rfl rfl (fun w' hw' => (E.move k137)) ?_
     refine FD.val (wF_yes rfl rfl rfl c193) rfl rfl (fun w' hw' => (E.gtr rfl rfl)) ?_
     refine FD.val (wF_yes rfl rfl rfl c193) rfl rfl (fun w' hw' => (E.move (v := Value.bool (decide (0 < ((i23 : Nat) : Int)))) rfl)) ?_
     obtain ⟨t208, hqt208, hp⟩ := bnd hp
     refine FD.cut 12 (fun f => f 0 = v0 ∧ f 3 = Value.int .i64 ((i23 : Nat) : Int) ∧ f 19 = Value.bool (!r146) ∧ f 34 = Value.bool t208) ?_ ?_
     ·
      clear hp; have hp := hqt208; clear hqt208
      rcases ifB hp with ⟨c214, hp⟩ | ⟨c214, hp⟩
      ·
       refine FD.val (wF_yes rfl rfl rfl c214) rfl rfl (fun w' hw' => (E.move k138)) ?_
       refine FD.val (wF_yes rfl rfl rfl c214) rfl rfl (fun w' hw' => (E.move k137)) ?_
       refine FD.val (wF_yes rfl rfl rfl c214) rfl rfl (fun w' hw' => (E.sub rfl rfl)) ?_
       obtain ⟨x221, hx222, hp⟩ := bnd hp
       obtain ⟨p215, cs216, pt217, l218, at219, rel220⟩ := p0.at hx222
       obtain rfl := eS_open rel220
       refine FD.val (wF_yes rfl rfl rfl c214) rfl rfl (fun w' hw' => (E.indexAddr te22 rfl rfl pt217)) ?_
       refine FD.val (wF_yes rfl rfl rfl c214) rfl rfl (fun w' hw' => (E.load rfl (run_load0 Tryz.isAgg9 ((at219.mono i134).now (S133.call hw').sl) rfl))) ?_
       refine FD.val (wF_yes rfl rfl rfl c214) rfl rfl (fun w' hw' => (E.move k138)) ?_
       refine FD.val (wF_yes rfl rfl rfl c214) rfl rfl (fun w' hw' => (E.move k137)) ?_
       obtain ⟨p223, cs224, pt225, l226, at227, rel228⟩ := p0.at (ix_nat hx23)
       obtain rfl := eS_open rel228
       refine FD.val (wF_yes rfl rfl rfl c214) rfl rfl (fun w' hw' => (E.indexAddr te22 rfl rfl pt225)) ?_
       refine FD.val (wF_yes rfl rfl rfl c214) rfl rfl (fun w' hw' => (E.load rfl (run_load0 Tryz.isAgg9 ((at227.mono i134).now (S133.call hw').sl) rfl))) ?_
       refine FD.call (wF_yes rfl rfl rfl c214) rfl rfl (fun w' hw' => (E.call Tryz.call152 (A2 rfl rfl))) (fun w' hw' => Calls.cls hw' (w_spec_l22Before (S133.call hw').sl x221 y22)) ?_
       refine FD.val (wF_yes rfl rfl rfl c214) rfl rfl (fun w' hw' => (E.not rfl)) ?_
       obtain rfl := Option.some.inj hp
       refine FD.val (wF_yes rfl rfl rfl c193) rfl rfl (fun w' hw' => (E.pickT rfl c214 rfl)) ?_
       exact FD.nil ⟨k138, k137, rfl, rfl⟩
      ·
       refine FD.skip (wF_no rfl rfl rfl c214) rfl ?_
       refine FD.skip (wF_no rfl rfl rfl c214) rfl ?_
       refine FD.skip (wF_no rfl rfl rfl c214) rfl ?_
       refine FD.skip (wF_no rfl rfl rfl c214) rfl ?_
       refine FD.skip (wF_no rfl rfl rfl c214) rfl ?_
       refine FD.skip (wF_no rfl rfl rfl c214) rfl ?_
       refine FD.skip (wF_no rfl rfl rfl c214) rfl ?_
       refine FD.skip (wF_no rfl rfl rfl c214) rfl ?_
       refine FD.skip (wF_no rfl rfl rfl c214) rfl ?_
       refine FD.skip (wF_no rfl rfl rfl c214) rfl ?_
       refine FD.skip (wF_no rfl rfl rfl c214) rfl ?_
       obtain rfl := Option.some.inj hp
       refine FD.val (wF_yes rfl rfl rfl c193) rfl rfl (fun w' hw' => (E.pickF rfl c214 rfl)) ?_
       exact FD.nil ⟨k138, k137, rfl, rfl⟩
     rintro f213 ⟨k229, k230, k231, k232⟩
     obtain rfl := Option.some.inj hp
     refine FD.val rfl rfl rfl (fun w' hw' => (E.pickF k231 c193 k232)) ?_
     exact FD.nil ⟨k229, k230, rfl⟩
   rintro f192 ⟨k233, k234, k235⟩
   refine FD.nil ?_
   intro w236 r238
   have S237 := S133.call r238
   rcases ifB hp with ⟨c239, hp⟩ | ⟨c239, hp⟩
   ·
    refine FW.condT k235 c239 ?_
    refine FW.seq (FW.region ?_)
    refine FL.v (E.assign (v := Value.bool false) rfl) ?_
    refine FL.nil ?_
    refine FW.ret ?_
    obtain rfl := Option.some.inj hp
    exact ⟨nofun, rfl, ⟨.inr rfl, res1 rfl rfl ⟨rfl, S237.back⟩⟩⟩
   ·
    refine FW.condF k235 c239 ?_
    refine FW.skip (FW.region ?_)
    refine FL.v (E.move k234) ?_
    refine FL.v (E.add rfl rfl) ?_
    refine FL.v (E.assign (v := Value.int .i64 (wr (((i23 : Nat) : Int) + 1))) rfl) ?_
    refine FL.nil ?_
    obtain rfl := Option.some.inj hp
    exact ⟨rfl, ⟨_, S237, i134, (nat_succ rfl (lt_of_get hx23) (p0.mono i134).le), k233⟩⟩
  ·
   clear hp hq
   rintro s23 f250 w249 ⟨H246, S247, i248, k251, k252⟩
   refine FW.seq (FW.seq (FW.region ?_))
   refine FL.v (E.move k251) ?_
   refine FL.v (E.move k252) ?_
   refine FL.v (E.lenP te22 rfl p0) ?_
   refine FL.v (E.lss rfl rfl) ?_
   refine FL.nil ?_
   refine FW.condF rfl dlt_len ?_
   refine FW.exit ?_
   exact ⟨nofun, rfl, ⟨_, S247, i248⟩⟩
  ·
   clear hq
   intro e f245 w244 hD
   rcases q23 with s23 | x23
   ·
    obtain ⟨rfl, hD⟩ := hD
    obtain ⟨H241, S242, i243⟩ := hD
    replace hp := el_go hp
    refine FW.seq (FW.region ?_)
    refine FL.v (E.assign (v := Value.bool true) rfl) ?_
    refine FL.nil ?_
    refine FW.ret ?_
    obtain rfl := Option.some.inj hp
    exact ⟨.inr rfl, res1 rfl rfl ⟨rfl, S242.back⟩⟩
   ·
    obtain ⟨he, hL⟩ := hD
    replace hp := el_rt hp
    obtain rfl := Option.some.inj hp
    subst he
    exact hL

theorem w_spec_l23Good {Ha : GH} {wa : World} (hs : Sl Ha wa) (a0 : Sequent) (v0_0 : Value) (p0_0 : RSl Ha eS 1 v0_0 a0.left) (v0_1 : Value) (p0_1 : RSl Ha eS 1 v0_1 a0.right) {r : Bool} (hp : (PF.spec_l23Good a0) = some r) :
  Calls Tryz.prog 99 #[Value.agg #[v0_0, v0_1]] wa (Sc Ha wa (Value.bool r)) := by
 unfold PF.spec_l23Good at hp
 have S0 := St.init hs
 refine calls_go (N := 11) (args := [Value.agg #[v0_0, v0_1]]) Tryz.func99 rfl rfl rfl ?_
 refine FW.seq (FW.region ?_)
 obtain ⟨b21, w22, run23, S24⟩ := S0.box (P := Tryz.prog) 68 [v0_0, v0_1] (v := Value.agg #[v0_0, v0_1]) rfl (ones_cons p0_0.one (ones_cons p0_1.one ones_nil))
 refine FL.v (E.box rfl run23) ?_
 obtain ⟨H25, S26, i27, at28⟩ := S24.sealBox (i := 0) (l' := []) rfl rfl
 refine FL.v (E.assign (v := Value.bool false) rfl) ?_
 refine FL.nil (FW.seq (FW.region ?_))
 refine FL.v (E.fieldAddr tf68_0 rfl) ?_
 refine FL.v (E.load rfl (run_load1 Tryz.isAgg22 (at28.now S26.sl) rfl)) ?_
 obtain ⟨r29, hr30, hp⟩ := bnd hp
 refine FL.call rfl rfl rfl (E.call Tryz.call145 (A1 rfl)) (w_spec_l23Side S26.sl v0_0 a0.left (p0_0.mono i27) hr30) ?_
 rintro e w31 ⟨rfl, r32⟩
 refine ⟨_, rfl, ?_⟩
 have S33 := S26.call r32
 refine FL.v (E.move (v := Value.bool r29) rfl) ?_
 obtain ⟨t39, hqt39, hp⟩ := bnd hp
 refine FL.cut 4 (fun f w => ∃ H : GH, St Ha wa H w [] ∧ Inc H25 H ∧ f 10 = Value.bool t39) ?_ ?_
 ·
  clear hp; have hp := hqt39; clear hqt39
  rcases ifB hp with ⟨c45, hp⟩ | ⟨c45, hp⟩
  ·
   refine FL.val (wF_yes rfl rfl rfl c45) rfl rfl (E.fieldAddr tf68_1 rfl) ?_
   refine FL.val (wF_yes rfl rfl rfl c45) rfl rfl (E.load rfl (run_load1 Tryz.isAgg22 (at28.now S33.sl) rfl)) ?_
   obtain ⟨r46, hr47, hp⟩ := bnd hp
   refine FL.call (wF_yes rfl rfl rfl c45) rfl rfl (E.call Tryz.call145 (A1 rfl)) (w_spec_l23Side S33.sl v0_1 a0.right (p0_1.mono i27) hr47) ?_
   rintro e w48 ⟨rfl, r49⟩
   refine ⟨_, rfl, ?_⟩
   have S50 := S33.call r49
   obtain rfl := Option.some.inj hp
   refine FL.v (E.pickT rfl c45 rfl) ?_
   exact FL.nil ⟨rfl, _, S50, (Inc.rfl _), rfl⟩
  ·
   refine FL.skip (wF_no rfl rfl rfl c45) rfl ?_
   refine FL.skip (wF_no rfl rfl rfl c45) rfl ?_
   refine FL.skip (wF_no rfl rfl rfl c45) rfl ?_
   obtain rfl := Option.some.inj hp
   refine FL.v (E.pickF rfl c45 rfl) ?_
   exact FL.nil ⟨rfl, _, S33, (Inc.rfl _), rfl⟩
 rintro f44 w43 ⟨H40, S41, i42, k51⟩
 refine FL.v (E.assign k51) ?_
 refine FL.nil ?_
 refine FW.ret ?_
 obtain rfl := Option.some.inj hp
 exact ⟨.inr rfl, res1 rfl rfl ⟨rfl, S41.back⟩⟩

theorem w_spec_l23Has {Ha : GH} {wa : World} (hs : Sl Ha wa) (v0 : Value) (a0 : List ByteArray) (p0 : RSl Ha eS 1 v0 a0) (a1 : ByteArray) {r : Bool} (hp : (PF.spec_l23Has a0 a1) = some r) :
  Calls Tryz.prog 121 #[v0, Value.string a1] wa (Sc Ha wa (Value.bool r)) := by
 unfold PF.spec_l23Has at hp
 have S0 := St.init hs
 refine calls_go (N := 18) (args := [v0, Value.string a1]) Tryz.func121 rfl rfl rfl ?_
 refine FW.seq (FW.region ?_)
 refine FL.v (E.assign (v := Value.bool false) rfl) ?_
 refine FL.nil (FW.seq (FW.seq (FW.region ?_)))
 refine FL.v (E.assign (v := Value.int .i64 0) rfl) ?_
 refine FL.nil ?_
 obtain ⟨q22, hq, hp⟩ := bndR hp
 refine FW.block ?_
 refine FW.mono (FW.forL (S := Unit) (X := Bool) (fun (i22 : Nat) (s22 : Unit) f w => ∃ H : GH, St Ha wa H w [] ∧ Inc Ha H ∧ f 5 = Value.int .i64 ((i22 : Nat) : Int) ∧ f 0 = v0 ∧ f 1 = Value.string a1) (fun q e f w => match q with | .go s22 => e = Exit.exit 0 ∧ (∃ H : GH, St Ha wa H w [] ∧ Inc Ha H) | .rt x => ((e = Exit.ret) ∧ (fun e f w => (e = Exit.normal ∨ e = Exit.ret) ∧ ∀ a, Fr (δ := []) 18 a f → ∃ v, (results Tryz.f121 a.tmps).run Tryz.prog w = .ok v w ∧ (Sc Ha wa (Value.bool x)) (.returned v) w) e f w)) hq ⟨_, S0, (Inc.rfl _), rfl, rfl, rfl⟩ ?_ ?_) ?_
 ·
  clear hp hq
  rintro i22 y21 s22 f42 w41 ⟨H38, S39, i40, k43, k44, k45⟩ hx22 o53 hp
  refine FW.seq (FW.seq (FW.region ?_))
  refine FL.v (E.move k43) ?_
  refine FL.v (E.move k44) ?_
  refine FL.v (E.lenP te22 rfl p0) ?_
  refine FL.v (E.lssT rfl rfl (lss_len hx22)) ?_
  refine FL.nil ?_
  refine FW.condT rfl rfl ?_
  refine FW.skip (FW.seq (FW.block (FW.seq (FW.region ?_))))
  refine FL.v (E.move k44) ?_
  refine FL.v (E.move k43) ?_
  obtain ⟨p46, cs47, pt48, l49, at50, rel51⟩ := p0.at (ix_nat hx22)
  obtain rfl := eS_open rel51
  refine FL.v (E.indexAddr te22 rfl rfl pt48) ?_
  refine FL.v (E.load rfl (run_load0 Tryz.isAgg9 ((at50.mono i40).now S39.sl) rfl)) ?_
  refine FL.v (E.move k45) ?_
  refine FL.v (E.eqlS rfl rfl) ?_
  refine FL.nil ?_
  rcases ifB hp with ⟨c52, hp⟩ | ⟨c52, hp⟩
  ·
   refine FW.condT rfl c52 ?_
   refine FW.seq (FW.region ?_)
   refine FL.v (E.assign (v := Value.bool true) rfl) ?_
   refine FL.nil ?_
   refine FW.ret ?_
   obtain rfl := Option.some.inj hp
   exact ⟨nofun, rfl, ⟨.inr rfl, res1 rfl rfl ⟨rfl, S39.back⟩⟩⟩
  ·
   refine FW.condF rfl c52 ?_
   refine FW.skip (FW.region ?_)
   refine FL.v (E.move k43) ?_
   refine FL.v (E.add rfl rfl) ?_
   refine FL.v (E.assign (v := Value.int .i64 (wr (((i22 : Nat) : Int) + 1))) rfl) ?_
   refine FL.nil ?_
   obtain rfl := Option.some.inj hp
   exact ⟨rfl, ⟨_, S39, i40, (nat_succ rfl (lt_of_get hx22) (p0.mono i40).le), k44, k45⟩⟩
 ·
  clear hp hq
  rintro s22 f63 w62 ⟨H59, S60, i61, k64, k65, k66⟩
  refine FW.seq (FW.seq (FW.region ?_))
  refine FL.v (E.move k64) ?_
  refine FL.v (E.move k65) ?_
  refine FL.v (E.lenP te22 rfl p0) ?_
  refine FL.v (E.lss rfl rfl) ?_
  refine FL.nil ?_
  refine FW.condF rfl dlt_len ?_
  refine FW.exit ?_
  exact ⟨nofun, rfl, ⟨_, S60, i61⟩⟩
 ·
  clear hq
  intro e f58 w57 hD
  rcases q22 with s22 | x22
  ·
   obtain ⟨rfl, hD⟩ := hD
   obtain ⟨H54, S55, i56⟩ := hD
   replace hp := el_go hp
   refine FW.seq (FW.region ?_)
   refine FL.v (E.assign (v := Value.bool false) rfl) ?_
   refine FL.nil ?_
   refine FW.ret ?_
   obtain rfl := Option.some.inj hp
   exact ⟨.inr rfl, res1 rfl rfl ⟨rfl, S55.back⟩⟩
  ·
   obtain ⟨he, hL⟩ := hD
   replace hp := el_rt hp
   obtain rfl := Option.some.inj hp
   subst he
   exact hL

set_option maxHeartbeats 4000000 in
theorem w_spec_l23Axiom {Ha : GH} {wa : World} (hs : Sl Ha wa) (a0 : Sequent) (v0_0 : Value) (p0_0 : RSl Ha eS 1 v0_0 a0.left) (v0_1 : Value) (p0_1 : RSl Ha eS 1 v0_1 a0.right) {r : Bool} (hp : (PF.spec_l23Axiom a0) = some r) :
  Calls Tryz.prog 146 #[Value.agg #[v0_0, v0_1]] wa (Sc Ha wa (Value.bool r)) := by
 unfold PF.spec_l23Axiom at hp
 have S0 := St.init hs
 refine calls_go (N := 30) (args := [Value.agg #[v0_0, v0_1]]) Tryz.func146 rfl rfl rfl ?_
 refine FW.seq (FW.region ?_)
 obtain ⟨b21, w22, run23, S24⟩ := S0.box (P := Tryz.prog) 68 [v0_0, v0_1] (v := Value.agg #[v0_0, v0_1]) rfl (ones_cons p0_0.one (ones_cons p0_1.one ones_nil))
 refine FL.v (E.box rfl run23) ?_
 obtain ⟨H25, S26, i27, at28⟩ := S24.sealBox (i := 0) (l' := []) rfl rfl
 refine FL.v (E.assign (v := Value.bool false) rfl) ?_
 refine FL.nil (FW.seq (FW.seq (FW.region ?_)))
 refine FL.v (E.assign (v := Value.int .i64 0) rfl) ?_
 refine FL.nil ?_
 obtain ⟨q29, hq, hp⟩ := bndR hp
 refine FW.block ?_
 refine FW.mono (FW.iter (S := Int) (X := Bool) (fun (s29 : Int) f w => ∃ H : GH, St Ha wa H w [] ∧ Inc H25 H ∧ f 1 = Value.pointer (some ⟨b21, 0, none⟩) ∧ f 3 = Value.int .i64 s29) (fun q e f w => match q with | .go s29 => e = Exit.exit 0 ∧ (∃ H : GH, St Ha wa H w [] ∧ Inc H25 H ∧ f 1 = Value.pointer (some ⟨b21, 0, none⟩)) | .rt x => ((e = Exit.ret) ∧ (fun e f w => (e = Exit.normal ∨ e = Exit.ret) ∧ ∀ a, Fr (δ := []) 30 a f → ∃ v, (results Tryz.f146 a.tmps).run Tryz.prog w = .ok v w ∧ (Sc Ha wa (Value.bool x)) (.returned v) w) e f w)) hq ⟨_, S26, (Inc.rfl _), rfl, rfl⟩ ?_) ?_
 ·
  clear hp hq
  rintro s29 f85 w84 ⟨H81, S82, i83, k86, k87⟩ o132 hp
  refine FW.seq (FW.seq (FW.region ?_))
  refine FL.v (E.move k87) ?_
  refine FL.v (E.fieldAddr tf68_0 k86) ?_
  refine FL.v (E.load rfl (run_load1 Tryz.isAgg22 ((at28.mono i83).now S82.sl) rfl)) ?_
  refine FL.v (E.lenP te22 rfl p0_0) ?_
  refine FL.v (E.lss rfl rfl) ?_
  refine FL.nil ?_
  rcases ifB hp with ⟨c88, hp⟩ | ⟨c88, hp⟩
  ·
   refine FW.condT rfl c88 ?_
   refine FW.skip (FW.seq (FW.block (FW.seq ?_)))
   refine FW.draw (fun w' => Run w84.heap.size H81 w84 H81 w') (by kernel_rfl) (by kernel_rfl) (run_drew S82.sl) ?_
   refine FD.val rfl rfl rfl (fun w' hw' => (E.fieldAddr tf68_0 k86)) ?_
   refine FD.val rfl rfl rfl (fun w' hw' => (E.load rfl (run_load1 Tryz.isAgg22 ((at28.mono i83).now (S82.call hw').sl) rfl))) ?_
   refine FD.val rfl rfl rfl (fun w' hw' => (E.move k87)) ?_
   obtain ⟨x96, hx97, hp⟩ := bnd hp
   obtain ⟨p90, cs91, pt92, l93, at94, rel95⟩ := p0_0.at hx97
   obtain rfl := eS_open rel95
   refine FD.val rfl rfl rfl (fun w' hw' => (E.indexAddr te22 rfl rfl pt92)) ?_
   refine FD.val rfl rfl rfl (fun w' hw' => (E.load rfl (run_load0 Tryz.isAgg9 ((at94.mono (i27.tr i83)).now (S82.call hw').sl) rfl))) ?_
   refine FD.val rfl rfl rfl (fun w' hw' => (E.eqlS rfl rfl)) ?_
   refine FD.val rfl rfl rfl (fun w' hw' => (E.move (v := Value.bool (x96.toList == (ByteArray.mk #[48]).toList)) rfl)) ?_
   obtain ⟨t108, hqt108, hp⟩ := bnd hp
   refine FD.cut 9 (fun f => f 1 = Value.pointer (some ⟨b21, 0, none⟩) ∧ f 3 = Value.int .i64 s29 ∧ f 26 = Value.bool t108) ?_ ?_
   ·
    clear hp; have hp := hqt108; clear hqt108
    rcases ifB hp with ⟨c114, hp⟩ | ⟨c114, hp⟩
    ·
     refine FD.skip (wF_no rfl rfl rfl c114) rfl ?_
     refine FD.skip (wF_no rfl rfl rfl c114) rfl ?_
     refine FD.skip (wF_no rfl rfl rfl c114) rfl ?_
     refine FD.skip (wF_no rfl rfl rfl c114) rfl ?_
     refine FD.skip (wF_no rfl rfl rfl c114) rfl ?_
     refine FD.skip (wF_no rfl rfl rfl c114) rfl ?_
     refine FD.skip (wF_no rfl rfl rfl c114) rfl ?_
     refine FD.skip (wF_no rfl rfl rfl c114) rfl ?_
     obtain rfl := Option.some.inj hp
     refine FD.val rfl rfl rfl (fun w' hw' => (E.pickT rfl c114 rfl)) ?_
     exact FD.nil ⟨k86, k87, rfl⟩
    ·
     refine FD.val (wF_yes rfl rfl rfl c114) rfl rfl (fun w' hw' => (E.fieldAddr tf68_1 k86)) ?_
     refine FD.val (wF_yes rfl rfl rfl c114) rfl rfl (fun w' hw' => (E.load rfl (run_load1 Tryz.isAgg22 ((at28.mono i83).now (S82.call hw').sl) rfl))) ?_
     refine FD.val (wF_yes rfl rfl rfl c114) rfl rfl (fun w' hw' => (E.fieldAddr tf68_0 k86)) ?_
     refine FD.val (wF_yes rfl rfl rfl c114) rfl rfl (fun w' hw' => (E.load rfl (run_load1 Tryz.isAgg22 ((at28.mono i83).now (S82.call hw').sl) rfl))) ?_
     refine FD.val (wF_yes rfl rfl rfl c114) rfl rfl (fun w' hw' => (E.move k87)) ?_
     obtain ⟨x121, hx122, hp⟩ := bnd hp
     obtain ⟨p115, cs116, pt117, l118, at119, rel120⟩ := p0_0.at hx122
     obtain rfl := eS_open rel120
     refine FD.val (wF_yes rfl rfl rfl c114) rfl rfl (fun w' hw' => (E.indexAddr te22 rfl rfl pt117)) ?_
     refine FD.val (wF_yes rfl rfl rfl c114) rfl rfl (fun w' hw' => (E.load rfl (run_load0 Tryz.isAgg9 ((at119.mono (i27.tr i83)).now (S82.call hw').sl) rfl))) ?_
     obtain ⟨r123, hr124, hp⟩ := bnd hp
     refine FD.call (wF_yes rfl rfl rfl c114) rfl rfl (fun w' hw' => (E.call Tryz.call121 (A2 rfl rfl))) (fun w' hw' => Calls.cls hw' (w_spec_l23Has (S82.call hw').sl v0_1 a0.right (p0_1.mono (i27.tr i83)) x121 hr124)) ?_
     obtain rfl := Option.some.inj hp
     refine FD.val rfl rfl rfl (fun w' hw' => (E.pickF rfl c114 rfl)) ?_
     exact FD.nil ⟨k86, k87, rfl⟩
   rintro f113 ⟨k125, k126, k127⟩
   refine FD.nil ?_
   intro w128 r130
   have S129 := S82.call r130
   rcases ifB hp with ⟨c131, hp⟩ | ⟨c131, hp⟩
   ·
    refine FW.condT k127 c131 ?_
    refine FW.seq (FW.region ?_)
    refine FL.v (E.assign (v := Value.bool true) rfl) ?_
    refine FL.nil ?_
    refine FW.ret ?_
    obtain rfl := Option.some.inj hp
    exact ⟨nofun, rfl, ⟨.inr rfl, res1 rfl rfl ⟨rfl, S129.back⟩⟩⟩
   ·
    refine FW.condF k127 c131 ?_
    refine FW.skip (FW.region ?_)
    refine FL.v (E.move k126) ?_
    refine FL.v (E.add rfl rfl) ?_
    refine FL.v (E.assign (v := Value.int .i64 (wr (s29 + 1))) rfl) ?_
    refine FL.nil ?_
    obtain rfl := Option.some.inj hp
    exact ⟨rfl, ⟨_, S129, i83, k125, rfl⟩⟩
  ·
   refine FW.condF rfl c88 ?_
   refine FW.exit ?_
   obtain rfl := Option.some.inj hp
   exact ⟨nofun, rfl, ⟨_, S82, i83, k86⟩⟩
 ·
  clear hq
  intro e f137 w136 hD
  rcases q29 with s29 | x29
  ·
   obtain ⟨rfl, hD⟩ := hD
   obtain ⟨H133, S134, i135, k138⟩ := hD
   replace hp := el_go hp
   refine FW.seq (FW.region ?_)
   refine FL.v (E.fieldAddr tf68_1 k138) ?_
   refine FL.v (E.load rfl (run_load1 Tryz.isAgg22 ((at28.mono i135).now S134.sl) rfl)) ?_
   obtain ⟨r139, hr140, hp⟩ := bnd hp
   refine FL.call rfl rfl rfl (E.call Tryz.call121 (A2 rfl rfl)) (w_spec_l23Has S134.sl v0_1 a0.right (p0_1.mono (i27.tr i135)) (ByteArray.mk #[49]) hr140) ?_
   rintro e w141 ⟨rfl, r142⟩
   refine ⟨_, rfl, ?_⟩
   have S143 := S134.call r142
   refine FL.v (E.assign (v := Value.bool r139) rfl) ?_
   refine FL.nil ?_
   refine FW.ret ?_
   obtain rfl := Option.some.inj hp
   exact ⟨.inr rfl, res1 rfl rfl ⟨rfl, S143.back⟩⟩
  ·
   obtain ⟨he, hL⟩ := hD
   replace hp := el_rt hp
   obtain rfl := Option.some.inj hp
   subst he
   exact hL

theorem w_spec_l23Earlier {Ha : GH} {wa : World} (hs : Sl Ha wa) (v0 : Value) (a0 : List SeqStep) (p0 : RSl Ha eSeqStep 6 v0 a0) (a1 : Int) (a2 : Int) {r : Bool} (hp : (PF.spec_l23Earlier a0 a1 a2) = some r) :
  Calls Tryz.prog 192 #[v0, Value.int .i64 a1, Value.int .i64 a2] wa (Sc Ha wa (Value.bool r)) := by
 unfold PF.spec_l23Earlier at hp
 have S0 := St.init hs
 refine calls_go (N := 19) (args := [v0, Value.int .i64 a1, Value.int .i64 a2]) Tryz.func192 rfl rfl rfl ?_
 refine FW.seq (FW.region ?_)
 refine FL.v (E.assign (v := Value.bool false) rfl) ?_
 refine FL.nil (FW.seq (FW.region ?_))
 refine FL.v (E.move (v := Value.int .i64 a2) rfl) ?_
 refine FL.v (E.move (v := Value.int .i64 a1) rfl) ?_
 refine FL.v (E.sub rfl rfl) ?_
 refine FL.call rfl rfl rfl (E.call Tryz.call107 (A3 rfl rfl rfl)) (w_spec_l1In S0.sl a2 0 (wr (a1 - 1))) ?_
 rintro e w21 ⟨rfl, r22⟩
 refine ⟨_, rfl, ?_⟩
 have S23 := S0.call r22
 refine FL.v (E.move (v := Value.bool (PF.spec_l1In a2 0 (wr (a1 - 1)))) rfl) ?_
 obtain ⟨t41, hqt41, hp⟩ := bnd hp
 refine FL.cut 7 (fun f w => ∃ H : GH, St Ha wa H w [] ∧ Inc Ha H ∧ f 18 = Value.bool t41) ?_ ?_
 ·
  clear hp; have hp := hqt41; clear hqt41
  rcases ifB hp with ⟨c47, hp⟩ | ⟨c47, hp⟩
  ·
   refine FL.val (wF_yes rfl rfl rfl c47) rfl rfl (E.move (v := v0) rfl) ?_
   refine FL.val (wF_yes rfl rfl rfl c47) rfl rfl (E.move (v := Value.int .i64 a2) rfl) ?_
   obtain ⟨x54, hx55, hp⟩ := bnd hp
   obtain ⟨p48, cs49, pt50, l51, at52, rel53⟩ := p0.at hx55
   obtain ⟨v56, v58, rfl, h57, h59⟩ := eSeqStep_open rel53
   refine FL.val (wF_yes rfl rfl rfl c47) rfl rfl (E.indexAddr te24 rfl rfl pt50) ?_
   refine FL.val (wF_yes rfl rfl rfl c47) rfl rfl (E.fieldAddr tf74_0 rfl) ?_
   refine FL.val (wF_yes rfl rfl rfl c47) rfl rfl (E.load rfl (run_loadA Tryz.isAgg68 Tryz.sizeOf68 ((at52.now S23.sl).sub (j := 0) (n := 2) (c := [v56, v58]) rfl) rfl)) ?_
   obtain ⟨r60, hr61, hp⟩ := bnd hp
   refine FL.call (wF_yes rfl rfl rfl c47) rfl rfl (E.call Tryz.call99 (A1 rfl)) (w_spec_l23Good S23.sl x54.seq v56 h57 v58 h59 hr61) ?_
   rintro e w62 ⟨rfl, r63⟩
   refine ⟨_, rfl, ?_⟩
   have S64 := S23.call r63
   obtain rfl := Option.some.inj hp
   refine FL.v (E.pickT rfl c47 rfl) ?_
   exact FL.nil ⟨rfl, _, S64, (Inc.rfl _), rfl⟩
  ·
   refine FL.skip (wF_no rfl rfl rfl c47) rfl ?_
   refine FL.skip (wF_no rfl rfl rfl c47) rfl ?_
   refine FL.skip (wF_no rfl rfl rfl c47) rfl ?_
   refine FL.skip (wF_no rfl rfl rfl c47) rfl ?_
   refine FL.skip (wF_no rfl rfl rfl c47) rfl ?_
   refine FL.skip (wF_no rfl rfl rfl c47) rfl ?_
   obtain rfl := Option.some.inj hp
   refine FL.v (E.pickF rfl c47 rfl) ?_
   exact FL.nil ⟨rfl, _, S23, (Inc.rfl _), rfl⟩
 rintro f46 w45 ⟨H42, S43, i44, k65⟩
 refine FL.v (E.assign k65) ?_
 refine FL.nil ?_
 refine FW.ret ?_
 obtain rfl := Option.some.inj hp
 exact ⟨.inr rfl, res1 rfl rfl ⟨rfl, S43.back⟩⟩

theorem w_spec_l23Part {Ha : GH} {wa : World} (hs : Sl Ha wa) (v0 : Value) (a0 : List ByteArray) (p0 : RSl Ha eS 1 v0 a0) (v1 : Value) (a1 : List ByteArray) (p1 : RSl Ha eS 1 v1 a1) {r : Bool} (hp : (PF.spec_l23Part a0 a1) = some r) :
  Calls Tryz.prog 72 #[v0, v1] wa (Sc Ha wa (Value.bool r)) := by
 unfold PF.spec_l23Part at hp
 have S0 := St.init hs
 refine calls_go (N := 19) (args := [v0, v1]) Tryz.func72 rfl rfl rfl ?_
 refine FW.seq (FW.region ?_)
 refine FL.v (E.assign (v := Value.bool false) rfl) ?_
 refine FL.nil (FW.seq (FW.seq (FW.region ?_)))
 refine FL.v (E.assign (v := Value.int .i64 0) rfl) ?_
 refine FL.nil ?_
 obtain ⟨q22, hq, hp⟩ := bndR hp
 refine FW.block ?_
 refine FW.mono (FW.forL (S := Unit) (X := Bool) (fun (i22 : Nat) (s22 : Unit) f w => ∃ H : GH, St Ha wa H w [] ∧ Inc Ha H ∧ f 5 = Value.int .i64 ((i22 : Nat) : Int) ∧ f 0 = v0 ∧ f 1 = v1) (fun q e f w => match q with | .go s22 => e = Exit.exit 0 ∧ (∃ H : GH, St Ha wa H w [] ∧ Inc Ha H) | .rt x => ((e = Exit.ret) ∧ (fun e f w => (e = Exit.normal ∨ e = Exit.ret) ∧ ∀ a, Fr (δ := []) 19 a f → ∃ v, (results Tryz.f72 a.tmps).run Tryz.prog w = .ok v w ∧ (Sc Ha wa (Value.bool x)) (.returned v) w) e f w)) hq ⟨_, S0, (Inc.rfl _), rfl, rfl, rfl⟩ ?_ ?_) ?_
 ·
  clear hp hq
  rintro i22 y21 s22 f47 w46 ⟨H43, S44, i45, k48, k49, k50⟩ hx22 o63 hp
  refine FW.seq (FW.seq (FW.region ?_))
  refine FL.v (E.move k48) ?_
  refine FL.v (E.move k49) ?_
  refine FL.v (E.lenP te22 rfl p0) ?_
  refine FL.v (E.lssT rfl rfl (lss_len hx22)) ?_
  refine FL.nil ?_
  refine FW.condT rfl rfl ?_
  refine FW.skip (FW.seq (FW.block (FW.seq (FW.region ?_))))
  refine FL.v (E.move k50) ?_
  refine FL.v (E.move k49) ?_
  refine FL.v (E.move k48) ?_
  obtain ⟨p51, cs52, pt53, l54, at55, rel56⟩ := p0.at (ix_nat hx22)
  obtain rfl := eS_open rel56
  refine FL.v (E.indexAddr te22 rfl rfl pt53) ?_
  refine FL.v (E.load rfl (run_load0 Tryz.isAgg9 ((at55.mono i45).now S44.sl) rfl)) ?_
  obtain ⟨r57, hr58, hp⟩ := bnd hp
  refine FL.call rfl rfl rfl (E.call Tryz.call121 (A2 rfl rfl)) (w_spec_l23Has S44.sl v1 a1 (p1.mono i45) y21 hr58) ?_
  rintro e w59 ⟨rfl, r60⟩
  refine ⟨_, rfl, ?_⟩
  have S61 := S44.call r60
  refine FL.v (E.not rfl) ?_
  refine FL.nil ?_
  rcases ifB hp with ⟨c62, hp⟩ | ⟨c62, hp⟩
  ·
   refine FW.condT rfl c62 ?_
   refine FW.seq (FW.region ?_)
   refine FL.v (E.assign (v := Value.bool false) rfl) ?_
   refine FL.nil ?_
   refine FW.ret ?_
   obtain rfl := Option.some.inj hp
   exact ⟨nofun, rfl, ⟨.inr rfl, res1 rfl rfl ⟨rfl, S61.back⟩⟩⟩
  ·
   refine FW.condF rfl c62 ?_
   refine FW.skip (FW.region ?_)
   refine FL.v (E.move k48) ?_
   refine FL.v (E.add rfl rfl) ?_
   refine FL.v (E.assign (v := Value.int .i64 (wr (((i22 : Nat) : Int) + 1))) rfl) ?_
   refine FL.nil ?_
   obtain rfl := Option.some.inj hp
   exact ⟨rfl, ⟨_, S61, i45, (nat_succ rfl (lt_of_get hx22) (p0.mono i45).le), k49, k50⟩⟩
 ·
  clear hp hq
  rintro s22 f73 w72 ⟨H69, S70, i71, k74, k75, k76⟩
  refine FW.seq (FW.seq (FW.region ?_))
  refine FL.v (E.move k74) ?_
  refine FL.v (E.move k75) ?_
  refine FL.v (E.lenP te22 rfl p0) ?_
  refine FL.v (E.lss rfl rfl) ?_
  refine FL.nil ?_
  refine FW.condF rfl dlt_len ?_
  refine FW.exit ?_
  exact ⟨nofun, rfl, ⟨_, S70, i71⟩⟩
 ·
  clear hq
  intro e f68 w67 hD
  rcases q22 with s22 | x22
  ·
   obtain ⟨rfl, hD⟩ := hD
   obtain ⟨H64, S65, i66⟩ := hD
   replace hp := el_go hp
   refine FW.seq (FW.region ?_)
   refine FL.v (E.assign (v := Value.bool true) rfl) ?_
   refine FL.nil ?_
   refine FW.ret ?_
   obtain rfl := Option.some.inj hp
   exact ⟨.inr rfl, res1 rfl rfl ⟨rfl, S65.back⟩⟩
  ·
   obtain ⟨he, hL⟩ := hD
   replace hp := el_rt hp
   obtain rfl := Option.some.inj hp
   subst he
   exact hL

theorem w_spec_l22Parts {Ha : GH} {wa : World} (hs : Sl Ha wa) (a0 : ByteArray) {r : (Int × ByteArray × ByteArray)} (hp : (PF.spec_l22Parts a0) = some r) :
  Calls Tryz.prog 73 #[Value.string a0] wa (Sc Ha wa (Value.tuple #[Value.int .u8 r.1, Value.string r.2.1, Value.string r.2.2])) := by
 unfold PF.spec_l22Parts at hp
 have S0 := St.init hs
 refine calls_go (N := 31) (args := [Value.string a0]) Tryz.func73 rfl rfl rfl ?_
 refine FW.seq (FW.region ?_)
 refine FL.v (E.assign (v := Value.int .u8 0) rfl) ?_
 refine FL.v (E.assign (v := Value.string (ByteArray.mk #[])) rfl) ?_
 refine FL.v (E.assign (v := Value.string (ByteArray.mk #[])) rfl) ?_
 refine FL.nil (FW.seq (FW.seq (FW.region ?_)))
 refine FL.v (E.move (v := Value.string a0) rfl) ?_
 obtain ⟨z21, h22, hp⟩ := bnd hp
 refine FL.v (E.ixS Tryz.runUnderlying9 rfl rfl h22) ?_
 refine FL.v (E.eql rfl rfl) ?_
 refine FL.nil ?_
 rcases ifB hp with ⟨c23, hp⟩ | ⟨c23, hp⟩
 ·
  refine FW.condT rfl c23 ?_
  refine FW.seq ?_
  refine FW.draw (fun w' => Run wa.heap.size Ha wa Ha w') (by kernel_rfl) (by kernel_rfl) (run_drew S0.sl) ?_
  refine FD.val rfl rfl rfl (fun w' hw' => (E.move (v := Value.string a0) rfl)) ?_
  obtain ⟨z25, h26, hp⟩ := bnd hp
  refine FD.val rfl rfl rfl (fun w' hw' => (E.cutS (kl := .i64) (kh := .i64) Tryz.underlying9 rfl (.inr ⟨_, rfl, rfl⟩) (.inl ⟨rfl, rfl⟩) h26)) ?_
  refine FD.val rfl rfl rfl (fun w' hw' => (E.assign (v := Value.int .u8 126) rfl)) ?_
  refine FD.val rfl rfl rfl (fun w' hw' => (E.assign (v := Value.string z25) rfl)) ?_
  refine FD.val rfl rfl rfl (fun w' hw' => (E.assign (v := Value.string (ByteArray.mk #[])) rfl)) ?_
  refine FD.nil ?_
  intro w27 r29
  have S28 := S0.call r29
  refine FW.ret ?_
  obtain rfl := Option.some.inj hp
  exact ⟨.inr rfl, res3 rfl rfl rfl rfl ⟨rfl, S28.back⟩⟩
 ·
  refine FW.condF rfl c23 ?_
  refine FW.skip (FW.seq (FW.seq (FW.region ?_)))
  refine FL.v (E.move (v := Value.string a0) rfl) ?_
  obtain ⟨z30, h31, hp⟩ := bnd hp
  refine FL.v (E.ixS Tryz.runUnderlying9 rfl rfl h31) ?_
  refine FL.v (E.neq rfl rfl) ?_
  refine FL.nil ?_
  rcases ifB hp with ⟨c32, hp⟩ | ⟨c32, hp⟩
  ·
   refine FW.condT rfl c32 ?_
   refine FW.seq (FW.region ?_)
   refine FL.v (E.move (v := Value.string a0) rfl) ?_
   obtain ⟨z33, h34, hp⟩ := bnd hp
   refine FL.v (E.ixS Tryz.runUnderlying9 rfl rfl h34) ?_
   refine FL.v (E.assign (v := Value.int .u8 z33) rfl) ?_
   refine FL.v (E.assign (v := Value.string (ByteArray.mk #[])) rfl) ?_
   refine FL.v (E.assign (v := Value.string (ByteArray.mk #[])) rfl) ?_
   refine FL.nil ?_
   refine FW.ret ?_
   obtain rfl := Option.some.inj hp
   exact ⟨.inr rfl, res3 rfl rfl rfl rfl ⟨rfl, S0.back⟩⟩
  ·
   refine FW.condF rfl c32 ?_
   refine FW.skip (FW.seq (FW.region ?_))
   refine FL.v (E.move (v := Value.string a0) rfl) ?_
   obtain ⟨r35, hr36, hp⟩ := bnd hp
   refine FL.call rfl rfl rfl (E.call Tryz.call98 (A2 rfl rfl)) (w_spec_l22End S0.sl a0 1 hr36) ?_
   rintro e w37 ⟨rfl, r38⟩
   refine ⟨_, rfl, ?_⟩
   have S39 := S0.call r38
   refine FL.v (E.assign (v := Value.int .i64 r35) rfl) ?_
   refine FL.nil (FW.seq ?_)
   refine FW.draw (fun w' => Run w37.heap.size Ha w37 Ha w') (by kernel_rfl) (by kernel_rfl) (run_drew S39.sl) ?_
   refine FD.val rfl rfl rfl (fun w' hw' => (E.move (v := Value.string a0) rfl)) ?_
   refine FD.val rfl rfl rfl (fun w' hw' => (E.move (v := Value.int .i64 r35) rfl)) ?_
   obtain ⟨z41, h42, hp⟩ := bnd hp
   refine FD.val rfl rfl rfl (fun w' hw' => (E.ixS Tryz.runUnderlying9 rfl rfl h42)) ?_
   refine FD.val rfl rfl rfl (fun w' hw' => (E.move (v := Value.string a0) rfl)) ?_
   refine FD.val rfl rfl rfl (fun w' hw' => (E.move (v := Value.int .i64 r35) rfl)) ?_
   obtain ⟨z43, h44, hp⟩ := bnd hp
   refine FD.val rfl rfl rfl (fun w' hw' => (E.cutS (kl := .i64) (kh := .i64) Tryz.underlying9 rfl (.inr ⟨_, rfl, rfl⟩) (.inr ⟨_, rfl, rfl⟩) h44)) ?_
   refine FD.val rfl rfl rfl (fun w' hw' => (E.move (v := Value.string a0) rfl)) ?_
   refine FD.val rfl rfl rfl (fun w' hw' => (E.move (v := Value.int .i64 r35) rfl)) ?_
   refine FD.val rfl rfl rfl (fun w' hw' => (E.add rfl rfl)) ?_
   refine FD.val rfl rfl rfl (fun w' hw' => (E.move (v := Value.string a0) rfl)) ?_
   refine FD.val rfl rfl rfl (fun w' hw' => (E.lenS Tryz.runUnderlying9 rfl)) ?_
   refine FD.val rfl rfl rfl (fun w' hw' => (E.sub rfl rfl)) ?_
   obtain ⟨z45, h46, hp⟩ := bnd hp
   refine FD.val rfl rfl rfl (fun w' hw' => (E.cutS (kl := .i64) (kh := .i64) Tryz.underlying9 rfl (.inr ⟨_, rfl, rfl⟩) (.inr ⟨_, rfl, rfl⟩) h46)) ?_
   refine FD.val rfl rfl rfl (fun w' hw' => (E.assign (v := Value.int .u8 z41) rfl)) ?_
   refine FD.val rfl rfl rfl (fun w' hw' => (E.assign (v := Value.string z43) rfl)) ?_
   refine FD.val rfl rfl rfl (fun w' hw' => (E.assign (v := Value.string z45) rfl)) ?_
   refine FD.nil ?_
   intro w47 r49
   have S48 := S39.call r49
   refine FW.ret ?_
   obtain rfl := Option.some.inj hp
   exact ⟨.inr rfl, res3 rfl rfl rfl rfl ⟨rfl, S48.back⟩⟩

set_option maxHeartbeats 4000000 in
theorem w_spec_l23Rule {Ha : GH} {wa : World} (hs : Sl Ha wa) (a0 : ByteArray) (a1 : Bool) {r : Int} (hp : (PF.spec_l23Rule a0 a1) = some r) :
  Calls Tryz.prog 150 #[Value.string a0, Value.bool a1] wa (Sc Ha wa (Value.int .i64 r)) := by
 unfold PF.spec_l23Rule at hp
 have S0 := St.init hs
 refine calls_go (N := 29) (args := [Value.string a0, Value.bool a1]) Tryz.func150 rfl rfl rfl ?_
 refine FW.seq (FW.region ?_)
 refine FL.v (E.assign (v := Value.int .i64 0) rfl) ?_
 refine FL.nil (FW.seq (FW.region ?_))
 refine FL.v (E.move (v := Value.string a0) rfl) ?_
 obtain ⟨r21, hr22, hp⟩ := bnd hp
 refine FL.call rfl rfl rfl (E.call Tryz.call73 (A1 rfl)) (w_spec_l22Parts S0.sl a0 hr22) ?_
 rintro e w23 ⟨rfl, r24⟩
 refine ⟨_, rfl, ?_⟩
 have S25 := S0.call r24
 refine FL.v (E.move (v := Value.tuple #[Value.int .u8 r21.1, Value.string r21.2.1, Value.string r21.2.2]) rfl) ?_
 refine FL.v (E.extract (i := 0) rfl rfl) ?_
 refine FL.v (E.extract (i := 1) rfl rfl) ?_
 refine FL.v (E.extract (i := 2) rfl rfl) ?_
 refine FL.v (E.assign (v := Value.int .u8 r21.1) rfl) ?_
 refine FL.v (E.assign (v := Value.string r21.2.1) rfl) ?_
 refine FL.v (E.assign (v := Value.string r21.2.2) rfl) ?_
 refine FL.nil (FW.seq (FW.region ?_))
 refine FL.v (E.assign (v := Value.int .i64 0) rfl) ?_
 refine FL.nil (FW.seq (FW.seq (FW.region ?_)))
 refine FL.v (E.move (v := Value.int .u8 r21.1) rfl) ?_
 refine FL.nil (FW.block (FW.seq (FW.region ?_)))
 refine FL.v (E.eql rfl rfl) ?_
 refine FL.v (E.assign (v := Value.bool (r21.1 == 126)) rfl) ?_
 refine FL.nil ?_
 rcases ifB hp with ⟨c26, hp⟩ | ⟨c26, hp⟩
 ·
  refine FW.condT rfl c26 ?_
  refine FW.region ?_
  refine FL.v (E.assign (v := Value.int .i64 2) rfl) ?_
  refine FL.nil (FW.seq (FW.seq (FW.region ?_)))
  refine FL.v (E.move (v := Value.bool a1) rfl) ?_
  refine FL.v (E.not rfl) ?_
  refine FL.nil ?_
  rcases ifB hp with ⟨c27, hp⟩ | ⟨c27, hp⟩
  ·
   refine FW.condT rfl c27 ?_
   refine FW.region ?_
   refine FL.v (E.move (v := Value.int .i64 2) rfl) ?_
   refine FL.v (E.add rfl rfl) ?_
   refine FL.v (E.assign (v := Value.int .i64 (wr (2 + 1))) rfl) ?_
   refine FL.nil (FW.seq (FW.region ?_))
   refine FL.v (E.move (v := Value.int .i64 (wr (2 + 1))) rfl) ?_
   refine FL.v (E.assign (v := Value.int .i64 (wr (2 + 1))) rfl) ?_
   refine FL.nil ?_
   refine FW.ret ?_
   obtain rfl := Option.some.inj hp
   exact ⟨.inr rfl, res1 rfl rfl ⟨rfl, S25.back⟩⟩
  ·
   refine FW.condF rfl c27 ?_
   refine FW.skip (FW.seq (FW.region ?_))
   refine FL.v (E.move (v := Value.int .i64 2) rfl) ?_
   refine FL.v (E.assign (v := Value.int .i64 2) rfl) ?_
   refine FL.nil ?_
   refine FW.ret ?_
   obtain rfl := Option.some.inj hp
   exact ⟨.inr rfl, res1 rfl rfl ⟨rfl, S25.back⟩⟩
 ·
  refine FW.condF rfl c26 ?_
  refine FW.seq (FW.region ?_)
  refine FL.v (E.eql rfl rfl) ?_
  refine FL.v (E.assign (v := Value.bool (r21.1 == 38)) rfl) ?_
  refine FL.nil ?_
  rcases ifB hp with ⟨c28, hp⟩ | ⟨c28, hp⟩
  ·
   refine FW.condT rfl c28 ?_
   refine FW.region ?_
   refine FL.v (E.assign (v := Value.int .i64 4) rfl) ?_
   refine FL.nil (FW.seq (FW.seq (FW.region ?_)))
   refine FL.v (E.move (v := Value.bool a1) rfl) ?_
   refine FL.v (E.not rfl) ?_
   refine FL.nil ?_
   rcases ifB hp with ⟨c29, hp⟩ | ⟨c29, hp⟩
   ·
    refine FW.condT rfl c29 ?_
    refine FW.region ?_
    refine FL.v (E.move (v := Value.int .i64 4) rfl) ?_
    refine FL.v (E.add rfl rfl) ?_
    refine FL.v (E.assign (v := Value.int .i64 (wr (4 + 1))) rfl) ?_
    refine FL.nil (FW.seq (FW.region ?_))
    refine FL.v (E.move (v := Value.int .i64 (wr (4 + 1))) rfl) ?_
    refine FL.v (E.assign (v := Value.int .i64 (wr (4 + 1))) rfl) ?_
    refine FL.nil ?_
    refine FW.ret ?_
    obtain rfl := Option.some.inj hp
    exact ⟨.inr rfl, res1 rfl rfl ⟨rfl, S25.back⟩⟩
   ·
    refine FW.condF rfl c29 ?_
    refine FW.skip (FW.seq (FW.region ?_))
    refine FL.v (E.move (v := Value.int .i64 4) rfl) ?_
    refine FL.v (E.assign (v := Value.int .i64 4) rfl) ?_
    refine FL.nil ?_
    refine FW.ret ?_
    obtain rfl := Option.some.inj hp
    exact ⟨.inr rfl, res1 rfl rfl ⟨rfl, S25.back⟩⟩
  ·
   refine FW.condF rfl c28 ?_
   refine FW.seq (FW.region ?_)
   refine FL.v (E.eql rfl rfl) ?_
   refine FL.v (E.assign (v := Value.bool (r21.1 == 124)) rfl) ?_
   refine FL.nil ?_
   rcases ifB hp with ⟨c30, hp⟩ | ⟨c30, hp⟩
   ·
    refine FW.condT rfl c30 ?_
    refine FW.region ?_
    refine FL.v (E.assign (v := Value.int .i64 6) rfl) ?_
    refine FL.nil (FW.seq (FW.seq (FW.region ?_)))
    refine FL.v (E.move (v := Value.bool a1) rfl) ?_
    refine FL.v (E.not rfl) ?_
    refine FL.nil ?_
    rcases ifB hp with ⟨c31, hp⟩ | ⟨c31, hp⟩
    ·
     refine FW.condT rfl c31 ?_
     refine FW.region ?_
     refine FL.v (E.move (v := Value.int .i64 6) rfl) ?_
     refine FL.v (E.add rfl rfl) ?_
     refine FL.v (E.assign (v := Value.int .i64 (wr (6 + 1))) rfl) ?_
     refine FL.nil (FW.seq (FW.region ?_))
     refine FL.v (E.move (v := Value.int .i64 (wr (6 + 1))) rfl) ?_
     refine FL.v (E.assign (v := Value.int .i64 (wr (6 + 1))) rfl) ?_
     refine FL.nil ?_
     refine FW.ret ?_
     obtain rfl := Option.some.inj hp
     exact ⟨.inr rfl, res1 rfl rfl ⟨rfl, S25.back⟩⟩
    ·
     refine FW.condF rfl c31 ?_
     refine FW.skip (FW.seq (FW.region ?_))
     refine FL.v (E.move (v := Value.int .i64 6) rfl) ?_
     refine FL.v (E.assign (v := Value.int .i64 6) rfl) ?_
     refine FL.nil ?_
     refine FW.ret ?_
     obtain rfl := Option.some.inj hp
     exact ⟨.inr rfl, res1 rfl rfl ⟨rfl, S25.back⟩⟩
   ·
    refine FW.condF rfl c30 ?_
    refine FW.seq (FW.region ?_)
    refine FL.v (E.eql rfl rfl) ?_
    refine FL.v (E.assign (v := Value.bool (r21.1 == 62)) rfl) ?_
    refine FL.nil ?_
    rcases ifB hp with ⟨c32, hp⟩ | ⟨c32, hp⟩
    ·
     refine FW.condT rfl c32 ?_
     refine FW.region ?_
     refine FL.v (E.assign (v := Value.int .i64 8) rfl) ?_
     refine FL.nil (FW.seq (FW.seq (FW.region ?_)))
     refine FL.v (E.move (v := Value.bool a1) rfl) ?_
     refine FL.v (E.not rfl) ?_
     refine FL.nil ?_
     rcases ifB hp with ⟨c33, hp⟩ | ⟨c33, hp⟩
     ·
      refine FW.condT rfl c33 ?_
      refine FW.region ?_
      refine FL.v (E.move (v := Value.int .i64 8) rfl) ?_
      refine FL.v (E.add rfl rfl) ?_
      refine FL.v (E.assign (v := Value.int .i64 (wr (8 + 1))) rfl) ?_
      refine FL.nil (FW.seq (FW.region ?_))
      refine FL.v (E.move (v := Value.int .i64 (wr (8 + 1))) rfl) ?_
      refine FL.v (E.assign (v := Value.int .i64 (wr (8 + 1))) rfl) ?_
      refine FL.nil ?_
      refine FW.ret ?_
      obtain rfl := Option.some.inj hp
      exact ⟨.inr rfl, res1 rfl rfl ⟨rfl, S25.back⟩⟩
     ·
      refine FW.condF rfl c33 ?_
      refine FW.skip (FW.seq (FW.region ?_))
      refine FL.v (E.move (v := Value.int .i64 8) rfl) ?_
      refine FL.v (E.assign (v := Value.int .i64 8) rfl) ?_
      refine FL.nil ?_
      refine FW.ret ?_
      obtain rfl := Option.some.inj hp
      exact ⟨.inr rfl, res1 rfl rfl ⟨rfl, S25.back⟩⟩
    ·
     refine FW.condF rfl c32 ?_
     refine FW.seq (FW.region ?_)
     refine FL.v (E.assign (v := Value.int .i64 0) rfl) ?_
     refine FL.nil ?_
     refine FW.ret ?_
     obtain rfl := Option.some.inj hp
     exact ⟨.inr rfl, res1 rfl rfl ⟨rfl, S25.back⟩⟩

@[reducible] def p_spec_l23Without (Ha : GH) (wa : World) (r : (List ByteArray)) : Ending → World → Prop :=
 fun e w' => ∃ H' : GH, ∃ v0 : Value, ∃ n0 : Nat, ∃ c0 : List Value, e = .returned (v0) ∧ St Ha wa H' w' [.row 9 1 v0 n0 c0] ∧ Els (up wa.heap.size H') eS 1 c0 r
set_option maxHeartbeats 4000000 in
theorem w_spec_l23Without {Ha : GH} {wa : World} (hs : Sl Ha wa) (v0 : Value) (a0 : List ByteArray) (p0 : RSl Ha eS 1 v0 a0) (a1 : ByteArray) {r : (List ByteArray)} (hp : (PF.spec_l23Without a0 a1) = some r) :
  Calls Tryz.prog 124 #[v0, Value.string a1] wa (p_spec_l23Without Ha wa r) := by
 unfold PF.spec_l23Without at hp
 have S0 := St.init hs
 refine calls_go (N := 28) (args := [v0, Value.string a1]) Tryz.func124 rfl rfl rfl ?_
 refine FW.seq (FW.region ?_)
 refine FL.v (E.assign (v := Value.slice none 0 0) rfl) ?_
 refine FL.nil (FW.seq (FW.region ?_))
 obtain ⟨v21, w22, run23, S24⟩ := S0.buildSlice (P := Tryz.prog) te22 [] (parts := #[]) (cells := []) rfl szs_nil fc_nil ones_nil (Nat.le_of_ble_eq_true rfl)
 have els25 : Els (up wa.heap.size Ha) eS 1 [] [] := Els.nil
 refine FL.v (E.buildSlice (B0) run23) ?_
 refine FL.v (E.assign (v := v21) rfl) ?_
 refine FL.nil (FW.seq (FW.seq (FW.region ?_)))
 refine FL.v (E.assign (v := Value.int .i64 0) rfl) ?_
 refine FL.nil ?_
 obtain ⟨q27, hq, hp⟩ := bndR hp
 refine FW.block ?_
 refine FW.mono (FW.forL (S := (List ByteArray)) (X := Empty) (fun (i27 : Nat) (s27 : (List ByteArray)) f w => ∃ H : GH, ∃ v28 : Value, ∃ n29 : Nat, ∃ cs30 : List Value, St Ha wa H w [.row 9 1 v28 n29 cs30] ∧ Inc Ha H ∧ Els (up wa.heap.size H) eS 1 cs30 s27 ∧ f 6 = Value.int .i64 ((i27 : Nat) : Int) ∧ f 0 = v0 ∧ f 1 = Value.string a1 ∧ f 5 = v28) (fun (q : Rs (List ByteArray) Empty) e f w => match q with | .go s27 => e = Exit.exit 0 ∧ (∃ H : GH, ∃ v28 : Value, ∃ n29 : Nat, ∃ cs30 : List Value, St Ha wa H w [.row 9 1 v28 n29 cs30] ∧ Inc Ha H ∧ Els (up wa.heap.size H) eS 1 cs30 s27 ∧ f 5 = v28) | .rt x => x.elim) hq ⟨_, _, _, _, S24, (Inc.rfl _), els25, rfl, rfl, rfl, rfl⟩ ?_ ?_) ?_
 ·
  clear hp hq
  rintro i27 y26 s27 f74 w73 ⟨H70, v28, n29, cs30, S71, i72, els31, k75, k76, k77, k78⟩ hx27 o108 hp
  refine FW.seq (FW.seq (FW.region ?_))
  refine FL.v (E.move k75) ?_
  refine FL.v (E.move k76) ?_
  refine FL.v (E.lenP te22 rfl p0) ?_
  refine FL.v (E.lssT rfl rfl (lss_len hx27)) ?_
  refine FL.nil ?_
  refine FW.condT rfl rfl ?_
  refine FW.skip (FW.seq (FW.block (FW.seq (FW.region ?_))))
  refine FL.v (E.move k76) ?_
  refine FL.v (E.move k75) ?_
  obtain ⟨p79, cs80, pt81, l82, at83, rel84⟩ := p0.at (ix_nat hx27)
  obtain rfl := eS_open rel84
  refine FL.v (E.indexAddr te22 rfl rfl pt81) ?_
  refine FL.v (E.load rfl (run_load0 Tryz.isAgg9 ((at83.mono i72).now S71.sl) rfl)) ?_
  refine FL.v (E.move k77) ?_
  refine FL.v (E.neqS rfl rfl) ?_
  refine FL.nil ?_
  rcases ifB hp with ⟨c85, hp⟩ | ⟨c85, hp⟩
  ·
   refine FW.condT rfl c85 ?_
   refine FW.region ?_
   refine FL.v (E.move k78) ?_
   refine FL.v (E.move k76) ?_
   refine FL.v (E.move k75) ?_
   obtain ⟨p86, cs87, pt88, l89, at90, rel91⟩ := p0.at (ix_nat hx27)
   obtain rfl := eS_open rel91
   refine FL.v (E.indexAddr te22 rfl rfl pt88) ?_
   refine FL.v (E.load rfl (run_load0 Tryz.isAgg9 ((at90.mono i72).now S71.sl) rfl)) ?_
   obtain ⟨v92, w93, run94, S95⟩ := S71.buildSlice (P := Tryz.prog) te22 [Value.string y26] (parts := #[(0, Value.string y26)]) (cells := [Value.string y26]) rfl (szs_cons rfl szs_nil) (fc_cons rfl fc_nil) (ones_cons rfl ones_nil) (Nat.le_of_ble_eq_true rfl)
   have els96 : Els (up wa.heap.size H70) eS 1 [Value.string y26] [y26] := (Els.snoc (H := (up wa.heap.size H70)) (E := eS) (k := 1) (c := [Value.string y26]) (x := y26) Els.nil rfl rfl)
   refine FL.v (E.buildSlice (B1 rfl) run94) ?_
   obtain ⟨xs97, hz98, hp⟩ := bnd hp
   obtain ⟨v99, w102, n100, cs101, run103, S104, els105, ce106⟩ := S95.appendO (P := Tryz.prog) te22 (i := 1) (j := 0) rfl els31 rfl els96 hz98
   have S104 : St Ha wa H70 w102 [.row 9 1 v92 1 [Value.string y26], .row 9 1 v99 n100 cs101] := S104
   have S107 : St Ha wa H70 w102 [.row 9 1 v99 n100 cs101] := S104.drop 0
   refine FL.v (E.append rfl rfl run103) ?_
   refine FL.v (E.assign (v := v99) rfl) ?_
   refine FL.nil (FW.region ?_)
   refine FL.v (E.move k75) ?_
   refine FL.v (E.add rfl rfl) ?_
   refine FL.v (E.assign (v := Value.int .i64 (wr (((i27 : Nat) : Int) + 1))) rfl) ?_
   refine FL.nil ?_
   obtain rfl := Option.some.inj hp
   exact ⟨rfl, ⟨_, _, _, _, S107, i72, els105, (nat_succ rfl (lt_of_get hx27) (p0.mono i72).le), k76, k77, rfl⟩⟩
  ·
   refine FW.condF rfl c85 ?_
   refine FW.skip (FW.region ?_)
   refine FL.v (E.move k75) ?_
   refine FL.v (E.add rfl rfl) ?_
   refine FL.v (E.assign (v := Value.int .i64 (wr (((i27 : Nat) : Int) + 1))) rfl) ?_
   refine FL.nil ?_
   obtain rfl := Option.some.inj hp
   exact ⟨rfl, ⟨_, _, _, _, S71, i72, els31, (nat_succ rfl (lt_of_get hx27) (p0.mono i72).le), k76, k77, k78⟩⟩
 ·
  clear hp hq
  rintro s27 f119 w118 ⟨H115, v28, n29, cs30, S116, i117, els31, k120, k121, k122, k123⟩
  refine FW.seq (FW.seq (FW.region ?_))
  refine FL.v (E.move k120) ?_
  refine FL.v (E.move k121) ?_
  refine FL.v (E.lenP te22 rfl p0) ?_
  refine FL.v (E.lss rfl rfl) ?_
  refine FL.nil ?_
  refine FW.condF rfl dlt_len ?_
  refine FW.exit ?_
  exact ⟨nofun, rfl, ⟨_, _, _, _, S116, i117, els31, k123⟩⟩
 ·
  clear hq
  intro e f113 w112 hD
  rcases q27 with s27 | x27
  ·
   obtain ⟨rfl, hD⟩ := hD
   obtain ⟨H109, v28, n29, cs30, S110, i111, els31, k114⟩ := hD
   replace hp := el_go hp
   refine FW.seq (FW.region ?_)
   refine FL.v (E.move k114) ?_
   refine FL.v (E.assign (v := v28) rfl) ?_
   refine FL.nil ?_
   refine FW.ret ?_
   obtain rfl := Option.some.inj hp
   exact ⟨.inr rfl, res1 rfl rfl ⟨_, _, _, _, rfl, S110, els31⟩⟩
  ·
   exact x27.elim

@[reducible] def p_spec_l22Put (Ha : GH) (wa : World) (r : (List ByteArray)) : Ending → World → Prop :=
 fun e w' => ∃ H' : GH, ∃ v0 : Value, e = .returned (v0) ∧ Run wa.heap.size Ha wa H' w' ∧ RSl H' eS 1 v0 r
set_option maxHeartbeats 4000000 in
theorem w_spec_l22Put {Ha : GH} {wa : World} (hs : Sl Ha wa) (v0 : Value) (a0 : List ByteArray) (p0 : RSl Ha eS 1 v0 a0) (a1 : ByteArray) {r : (List ByteArray)} (hp : (PF.spec_l22Put a0 a1) = some r) :
  Calls Tryz.prog 101 #[v0, Value.string a1] wa (p_spec_l22Put Ha wa r) := by
 unfold PF.spec_l22Put at hp
 have S0 := St.init hs
 refine calls_go (N := 45) (args := [v0, Value.string a1]) Tryz.func101 rfl rfl rfl ?_
 refine FW.seq (FW.region ?_)
 refine FL.v (E.assign (v := Value.slice none 0 0) rfl) ?_
 refine FL.nil (FW.seq (FW.region ?_))
 refine FL.v (E.assign (v := Value.int .i64 0) rfl) ?_
 refine FL.nil (FW.seq ?_)
 obtain ⟨q21, hq, hp⟩ := bndR hp
 refine FW.block ?_
 refine FW.mono (FW.iter (S := Int) (X := Empty) (fun (s21 : Int) f w => ∃ H : GH, St Ha wa H w [] ∧ Inc Ha H ∧ f 0 = v0 ∧ f 1 = Value.string a1 ∧ f 5 = Value.int .i64 s21) (fun (q : Rs Int Empty) e f w => match q with | .go s21 => e = Exit.exit 0 ∧ (∃ H : GH, St Ha wa H w [] ∧ Inc Ha H ∧ f 0 = v0 ∧ f 1 = Value.string a1 ∧ f 5 = Value.int .i64 s21) | .rt x => x.elim) hq ⟨_, S0, (Inc.rfl _), rfl, rfl, rfl⟩ ?_) ?_
 ·
  clear hp hq
  rintro s21 f68 w67 ⟨H64, S65, i66, k69, k70, k71⟩ o106 hp
  refine FW.seq (FW.seq (FW.region ?_))
  refine FL.v (E.move k71) ?_
  refine FL.v (E.move k69) ?_
  refine FL.v (E.lenP te22 rfl p0) ?_
  refine FL.v (E.lss rfl rfl) ?_
  refine FL.v (E.move (v := Value.bool (decide (s21 < (len a0)))) rfl) ?_
  obtain ⟨t83, hqt83, hp⟩ := bnd hp
  refine FL.cut 7 (fun f w => ∃ H : GH, St Ha wa H w [] ∧ Inc H64 H ∧ f 0 = v0 ∧ f 1 = Value.string a1 ∧ f 5 = Value.int .i64 s21 ∧ f 17 = Value.bool t83) ?_ ?_
  ·
   clear hp; have hp := hqt83; clear hqt83
   rcases ifB hp with ⟨c89, hp⟩ | ⟨c89, hp⟩
   ·
    refine FL.val (wF_yes rfl rfl rfl c89) rfl rfl (E.move k69) ?_
    refine FL.val (wF_yes rfl rfl rfl c89) rfl rfl (E.move k71) ?_
    obtain ⟨x96, hx97, hp⟩ := bnd hp
    obtain ⟨p90, cs91, pt92, l93, at94, rel95⟩ := p0.at hx97
    obtain rfl := eS_open rel95
    refine FL.val (wF_yes rfl rfl rfl c89) rfl rfl (E.indexAddr te22 rfl rfl pt92) ?_
    refine FL.val (wF_yes rfl rfl rfl c89) rfl rfl (E.load rfl (run_load0 Tryz.isAgg9 ((at94.mono i66).now S65.sl) rfl)) ?_
    refine FL.val (wF_yes rfl rfl rfl c89) rfl rfl (E.move k70) ?_
    refine FL.call (wF_yes rfl rfl rfl c89) rfl rfl (E.call Tryz.call152 (A2 rfl rfl)) (w_spec_l22Before S65.sl x96 a1) ?_
    rintro e w98 ⟨rfl, r99⟩
    refine ⟨_, rfl, ?_⟩
    have S100 := S65.call r99
    obtain rfl := Option.some.inj hp
    refine FL.v (E.pickT rfl c89 rfl) ?_
    exact FL.nil ⟨rfl, _, S100, (Inc.rfl _), k69, k70, k71, rfl⟩
   ·
    refine FL.skip (wF_no rfl rfl rfl c89) rfl ?_
    refine FL.skip (wF_no rfl rfl rfl c89) rfl ?_
    refine FL.skip (wF_no rfl rfl rfl c89) rfl ?_
    refine FL.skip (wF_no rfl rfl rfl c89) rfl ?_
    refine FL.skip (wF_no rfl rfl rfl c89) rfl ?_
    refine FL.skip (wF_no rfl rfl rfl c89) rfl ?_
    obtain rfl := Option.some.inj hp
    refine FL.v (E.pickF rfl c89 rfl) ?_
    exact FL.nil ⟨rfl, _, S65, (Inc.rfl _), k69, k70, k71, rfl⟩
  rintro f88 w87 ⟨H84, S85, i86, k101, k102, k103, k104⟩
  refine FL.nil ?_
  rcases ifB hp with ⟨c105, hp⟩ | ⟨c105, hp⟩
  ·
   refine FW.condT k104 c105 ?_
   refine FW.skip (FW.block (FW.region ?_))
   refine FL.v (E.move k103) ?_
   refine FL.v (E.add rfl rfl) ?_
   refine FL.v (E.assign (v := Value.int .i64 (wr (s21 + 1))) rfl) ?_
   refine FL.nil ?_
   obtain rfl := Option.some.inj hp
   exact ⟨rfl, ⟨_, S85, (i66.tr i86), k101, k102, rfl⟩⟩
  ·
   refine FW.condF k104 c105 ?_
   refine FW.exit ?_
   obtain rfl := Option.some.inj hp
   exact ⟨nofun, rfl, ⟨_, S85, (i66.tr i86), k101, k102, k103⟩⟩
 ·
  clear hq
  intro e f111 w110 hD
  rcases q21 with s21 | x21
  ·
   obtain ⟨rfl, hD⟩ := hD
   obtain ⟨H107, S108, i109, k112, k113, k114⟩ := hD
   replace hp := el_go hp
   refine FW.seq (FW.seq (FW.region ?_))
   refine FL.v (E.move k114) ?_
   refine FL.v (E.move k112) ?_
   refine FL.v (E.lenP te22 rfl p0) ?_
   refine FL.v (E.lss rfl rfl) ?_
   refine FL.v (E.move (v := Value.bool (decide (s21 < (len a0)))) rfl) ?_
   obtain ⟨t123, hqt123, hp⟩ := bnd hp
   refine FL.cut 7 (fun f w => ∃ H : GH, St Ha wa H w [] ∧ Inc H107 H ∧ f 0 = v0 ∧ f 1 = Value.string a1 ∧ f 5 = Value.int .i64 s21 ∧ f 31 = Value.bool t123) ?_ ?_
   ·
    clear hp; have hp := hqt123; clear hqt123
    rcases ifB hp with ⟨c129, hp⟩ | ⟨c129, hp⟩
    ·
     refine FL.val (wF_yes rfl rfl rfl c129) rfl rfl (E.move k112) ?_
     refine FL.val (wF_yes rfl rfl rfl c129) rfl rfl (E.move k114) ?_
     obtain ⟨x136, hx137, hp⟩ := bnd hp
     obtain ⟨p130, cs131, pt132, l133, at134, rel135⟩ := p0.at hx137
     obtain rfl := eS_open rel135
     refine FL.val (wF_yes rfl rfl rfl c129) rfl rfl (E.indexAddr te22 rfl rfl pt132) ?_
     refine FL.val (wF_yes rfl rfl rfl c129) rfl rfl (E.load rfl (run_load0 Tryz.isAgg9 ((at134.mono i109).now S108.sl) rfl)) ?_
     refine FL.val (wF_yes rfl rfl rfl c129) rfl rfl (E.move k113) ?_
     refine FL.val (wF_yes rfl rfl rfl c129) rfl rfl (E.eqlS rfl rfl) ?_
     obtain rfl := Option.some.inj hp
     refine FL.v (E.pickT rfl c129 rfl) ?_
     exact FL.nil ⟨rfl, _, S108, (Inc.rfl _), k112, k113, k114, rfl⟩
    ·
     refine FL.skip (wF_no rfl rfl rfl c129) rfl ?_
     refine FL.skip (wF_no rfl rfl rfl c129) rfl ?_
     refine FL.skip (wF_no rfl rfl rfl c129) rfl ?_
     refine FL.skip (wF_no rfl rfl rfl c129) rfl ?_
     refine FL.skip (wF_no rfl rfl rfl c129) rfl ?_
     refine FL.skip (wF_no rfl rfl rfl c129) rfl ?_
     obtain rfl := Option.some.inj hp
     refine FL.v (E.pickF rfl c129 rfl) ?_
     exact FL.nil ⟨rfl, _, S108, (Inc.rfl _), k112, k113, k114, rfl⟩
   rintro f128 w127 ⟨H124, S125, i126, k138, k139, k140, k141⟩
   refine FL.nil ?_
   rcases ifB hp with ⟨c142, hp⟩ | ⟨c142, hp⟩
   ·
    refine FW.condT k141 c142 ?_
    refine FW.seq (FW.region ?_)
    refine FL.v (E.move k138) ?_
    refine FL.v (E.assign (v := v0) rfl) ?_
    refine FL.nil ?_
    refine FW.ret ?_
    obtain rfl := Option.some.inj hp
    exact ⟨.inr rfl, res1 rfl rfl ⟨_, _, rfl, S125.run, (p0.mono (i109.tr i126))⟩⟩
   ·
    refine FW.condF k141 c142 ?_
    refine FW.skip (FW.seq ?_)
    obtain ⟨xs28, hc29, hp⟩ := bnd hp
    obtain ⟨xs33, hz34, hp⟩ := bnd hp
    obtain ⟨xs47, hz48, hp⟩ := bnd hp
    obtain ⟨xs58, hc59, hp⟩ := bnd hp
    obtain ⟨xs63, hz72, hp⟩ := bnd hp
    refine FW.drawB (Sl H124) (fun f w => ∃ H : GH, ∃ v80 : Value, ∃ n81 : Nat, ∃ cs82 : List Value, St Ha wa H w [.row 9 1 v80 n81 cs82] ∧ Inc H124 H ∧ Els (up wa.heap.size H) eS 1 cs82 xs63 ∧ f 4 = v80) (by kernel_rfl) S125.sl ?_ ?_
    ·
     intro w143 r144
     have S145 := S125.call r144
     refine FB.t (i := 1) (bs 13 2) rfl (SP.nil S145.sl) rfl (fun w' hw' => (E.move k138)) ?_
     refine FB.t (i := 2) (bs 13 6) rfl (SP.nil S145.sl) rfl (fun w' hw' => (E.move k140)) ?_
     obtain ⟨v30, run31, h32⟩ := p0.cut te22 hc29 (lo := none) (hi := some (Value.int .i64 s21)) (.inl ⟨rfl, rfl⟩) (.inr ⟨_, rfl⟩)
     refine FB.t (i := 3) (bs 13 14) rfl (SP.nil S145.sl) rfl (fun w' hw' => (E.slice te22 rfl rfl (congrArg some rfl) rfl (run31 _))) ?_
     refine FB.t (i := 5) (bs 13 46) rfl (SP.nil S145.sl) rfl (fun w' hw' => (E.move k139)) ?_
     refine FB.t (i := 8) (bs 13 302) rfl (SP.nil S145.sl) rfl (fun w' hw' => (E.move k138)) ?_
     refine FB.t (i := 9) (bs 13 814) rfl (SP.nil S145.sl) rfl (fun w' hw' => (E.move k140)) ?_
     obtain ⟨v60, run61, h62⟩ := p0.cut te22 hc59 (lo := some (Value.int .i64 s21)) (hi := none) (.inr ⟨_, rfl⟩) (.inl ⟨rfl, rfl⟩)
     refine FB.t (i := 10) (bs 13 1838) rfl (SP.nil S145.sl) rfl (fun w' hw' => (E.slice te22 rfl (congrArg some rfl) rfl rfl (run61 _))) ?_
     refine FB.all2 (i := 0) (j := 6) (by kernel_rfl) ?_ ?_
     ·
      obtain ⟨v23, w24, run25, S26⟩ := S145.buildSlice (P := Tryz.prog) te22 [] (parts := #[]) (cells := []) rfl szs_nil fc_nil ones_nil (Nat.le_of_ble_eq_true rfl)
      have els27 : Els (up wa.heap.size H124) eS 1 [] [] := Els.nil
      refine FC.val (l' := (bs 13 1839)) rfl (by kernel_rfl) rfl rfl rfl (E.buildSlice (B0) run25) ?_
      refine ⟨(SP.nil S26.sl), ?_⟩
      refine FB.all2 (i := 4) (j := 6) (by kernel_rfl) ?_ ?_
      ·
       obtain ⟨v35, w38, n36, cs37, run39, S40, els41⟩ := S26.appendP (P := Tryz.prog) (Inc.rfl _) te22 (i := 0) rfl (els27.mono upI) (h32.mono (i109.tr i126)) hz34
       have S40 : St Ha wa H124 w38 [.row 9 1 v35 n36 cs37] := S40
       have els41 : Els (up wa.heap.size H124) eS 1 cs37 xs33 := els41.any (fun _ _ _ _ h => h)
       refine FC.val (l' := (bs 13 1855)) rfl (by kernel_rfl) rfl rfl rfl (E.append rfl rfl run39) ?_
       refine ⟨(SP.nil S40.sl), ?_⟩
       refine FB.all1 (i := 6) (by kernel_rfl) ?_
       ·
        obtain ⟨v42, w43, run44, S45⟩ := S40.buildSlice (P := Tryz.prog) te22 [Value.string a1] (parts := #[(0, Value.string a1)]) (cells := [Value.string a1]) rfl (szs_cons rfl szs_nil) (fc_cons rfl fc_nil) (ones_cons rfl ones_nil) (Nat.le_of_ble_eq_true rfl)
        have els46 : Els (up wa.heap.size H124) eS 1 [Value.string a1] [a1] := (Els.snoc (H := (up wa.heap.size H124)) (E := eS) (k := 1) (c := [Value.string a1]) (x := a1) Els.nil rfl rfl)
        refine FC.val (l' := (bs 13 1919)) rfl (by kernel_rfl) rfl rfl rfl (E.buildSlice (B1 rfl) run44) ?_
        refine ⟨(SP.nil S45.sl), ?_⟩
        refine FB.all1 (i := 7) (by kernel_rfl) ?_
        ·
         obtain ⟨v49, w52, n50, cs51, run53, S54, els55, ce56⟩ := S45.appendO (P := Tryz.prog) te22 (i := 1) (j := 0) rfl els41 rfl els46 hz48
         have S54 : St Ha wa H124 w52 [.row 9 1 v42 1 [Value.string a1], .row 9 1 v49 n50 cs51] := S54
         have S57 : St Ha wa H124 w52 [.row 9 1 v49 n50 cs51] := S54.drop 0
         refine FC.val (l' := (bs 13 2047)) rfl (by kernel_rfl) rfl rfl rfl (E.append rfl rfl run53) ?_
         refine ⟨(SP.nil S57.sl), ?_⟩
         refine FB.all1 (i := 11) (by kernel_rfl) ?_
         ·
          obtain ⟨v73, w76, n74, cs75, run77, S78, els79⟩ := S57.appendP (P := Tryz.prog) (Inc.rfl _) te22 (i := 0) rfl (els55.mono upI) (h62.mono (i109.tr i126)) hz72
          have S78 : St Ha wa H124 w76 [.row 9 1 v73 n74 cs75] := S78
          have els79 : Els (up wa.heap.size H124) eS 1 cs75 xs63 := els79.any (fun _ _ _ _ h => h)
          refine FC.val (l' := (bs 13 4095)) rfl (by kernel_rfl) rfl rfl rfl (E.append rfl rfl run77) ?_
          refine ⟨(SP.nil S78.sl), ?_⟩
          refine FB.t (i := 12) (bs 13 8191) rfl (SP.nil S78.sl) rfl (fun w' hw' => (E.assign (v := v73) rfl)) ?_
          exact FB.done (by kernel_rfl) ⟨_, _, _, _, S78, (Inc.rfl _), els79, rfl⟩
      ·
       obtain ⟨v42, w43, run44, S45⟩ := S26.buildSlice (P := Tryz.prog) te22 [Value.string a1] (parts := #[(0, Value.string a1)]) (cells := [Value.string a1]) rfl (szs_cons rfl szs_nil) (fc_cons rfl fc_nil) (ones_cons rfl ones_nil) (Nat.le_of_ble_eq_true rfl)
       have els46 : Els (up wa.heap.size H124) eS 1 [Value.string a1] [a1] := (Els.snoc (H := (up wa.heap.size H124)) (E := eS) (k := 1) (c := [Value.string a1]) (x := a1) Els.nil rfl rfl)
       refine FC.val (l' := (bs 13 1903)) rfl (by kernel_rfl) rfl rfl rfl (E.buildSlice (B1 rfl) run44) ?_
       refine ⟨(SP.nil S45.sl), ?_⟩
       refine FB.all1 (i := 4) (by kernel_rfl) ?_
       ·
        obtain ⟨v35, w38, n36, cs37, run39, S40, els41⟩ := S45.appendP (P := Tryz.prog) (Inc.rfl _) te22 (i := 1) rfl (els27.mono upI) (h32.mono (i109.tr i126)) hz34
        have S40 : St Ha wa H124 w38 [.row 9 1 v42 1 [Value.string a1], .row 9 1 v35 n36 cs37] := S40
        have els41 : Els (up wa.heap.size H124) eS 1 cs37 xs33 := els41.any (fun _ _ _ _ h => h)
        refine FC.val (l' := (bs 13 1919)) rfl (by kernel_rfl) rfl rfl rfl (E.append rfl rfl run39) ?_
        refine ⟨(SP.nil S40.sl), ?_⟩
        refine FB.all1 (i := 7) (by kernel_rfl) ?_
        ·
         obtain ⟨v49, w52, n50, cs51, run53, S54, els55, ce56⟩ := S40.appendO (P := Tryz.prog) te22 (i := 1) (j := 0) rfl els41 rfl els46 hz48
         have S54 : St Ha wa H124 w52 [.row 9 1 v42 1 [Value.string a1], .row 9 1 v49 n50 cs51] := S54
         have S57 : St Ha wa H124 w52 [.row 9 1 v49 n50 cs51] := S54.drop 0
         refine FC.val (l' := (bs 13 2047)) rfl (by kernel_rfl) rfl rfl rfl (E.append rfl rfl run53) ?_
         refine ⟨(SP.nil S57.sl), ?_⟩
         refine FB.all1 (i := 11) (by kernel_rfl) ?_
         ·
          obtain ⟨v73, w76, n74, cs75, run77, S78, els79⟩ := S57.appendP (P := Tryz.prog) (Inc.rfl _) te22 (i := 0) rfl (els55.mono upI) (h62.mono (i109.tr i126)) hz72
          have S78 : St Ha wa H124 w76 [.row 9 1 v73 n74 cs75] := S78
          have els79 : Els (up wa.heap.size H124) eS 1 cs75 xs63 := els79.any (fun _ _ _ _ h => h)
          refine FC.val (l' := (bs 13 4095)) rfl (by kernel_rfl) rfl rfl rfl (E.append rfl rfl run77) ?_
          refine ⟨(SP.nil S78.sl), ?_⟩
          refine FB.t (i := 12) (bs 13 8191) rfl (SP.nil S78.sl) rfl (fun w' hw' => (E.assign (v := v73) rfl)) ?_
          exact FB.done (by kernel_rfl) ⟨_, _, _, _, S78, (Inc.rfl _), els79, rfl⟩
     ·
      obtain ⟨v42, w43, run44, S45⟩ := S145.buildSlice (P := Tryz.prog) te22 [Value.string a1] (parts := #[(0, Value.string a1)]) (cells := [Value.string a1]) rfl (szs_cons rfl szs_nil) (fc_cons rfl fc_nil) (ones_cons rfl ones_nil) (Nat.le_of_ble_eq_true rfl)
      have els46 : Els (up wa.heap.size H124) eS 1 [Value.string a1] [a1] := (Els.snoc (H := (up wa.heap.size H124)) (E := eS) (k := 1) (c := [Value.string a1]) (x := a1) Els.nil rfl rfl)
      refine FC.val (l' := (bs 13 1902)) rfl (by kernel_rfl) rfl rfl rfl (E.buildSlice (B1 rfl) run44) ?_
      refine ⟨(SP.nil S45.sl), ?_⟩
      refine FB.all1 (i := 0) (by kernel_rfl) ?_
      ·
       obtain ⟨v23, w24, run25, S26⟩ := S45.buildSlice (P := Tryz.prog) te22 [] (parts := #[]) (cells := []) rfl szs_nil fc_nil ones_nil (Nat.le_of_ble_eq_true rfl)
       have els27 : Els (up wa.heap.size H124) eS 1 [] [] := Els.nil
       refine FC.val (l' := (bs 13 1903)) rfl (by kernel_rfl) rfl rfl rfl (E.buildSlice (B0) run25) ?_
       refine ⟨(SP.nil S26.sl), ?_⟩
       refine FB.all1 (i := 4) (by kernel_rfl) ?_
       ·
        obtain ⟨v35, w38, n36, cs37, run39, S40, els41⟩ := S26.appendP (P := Tryz.prog) (Inc.rfl _) te22 (i := 0) rfl (els27.mono upI) (h32.mono (i109.tr i126)) hz34
        have S40 : St Ha wa H124 w38 [.row 9 1 v35 n36 cs37, .row 9 1 v42 1 [Value.string a1]] := S40
        have els41 : Els (up wa.heap.size H124) eS 1 cs37 xs33 := els41.any (fun _ _ _ _ h => h)
        refine FC.val (l' := (bs 13 1919)) rfl (by kernel_rfl) rfl rfl rfl (E.append rfl rfl run39) ?_
        refine ⟨(SP.nil S40.sl), ?_⟩
        refine FB.all1 (i := 7) (by kernel_rfl) ?_
        ·
         obtain ⟨v49, w52, n50, cs51, run53, S54, els55, ce56⟩ := S40.appendO (P := Tryz.prog) te22 (i := 0) (j := 1) rfl els41 rfl els46 hz48
         have S54 : St Ha wa H124 w52 [.row 9 1 v49 n50 cs51, .row 9 1 v42 1 [Value.string a1]] := S54
         have S57 : St Ha wa H124 w52 [.row 9 1 v49 n50 cs51] := S54.drop 1
         refine FC.val (l' := (bs 13 2047)) rfl (by kernel_rfl) rfl rfl rfl (E.append rfl rfl run53) ?_
         refine ⟨(SP.nil S57.sl), ?_⟩
         refine FB.all1 (i := 11) (by kernel_rfl) ?_
         ·
          obtain ⟨v73, w76, n74, cs75, run77, S78, els79⟩ := S57.appendP (P := Tryz.prog) (Inc.rfl _) te22 (i := 0) rfl (els55.mono upI) (h62.mono (i109.tr i126)) hz72
          have S78 : St Ha wa H124 w76 [.row 9 1 v73 n74 cs75] := S78
          have els79 : Els (up wa.heap.size H124) eS 1 cs75 xs63 := els79.any (fun _ _ _ _ h => h)
          refine FC.val (l' := (bs 13 4095)) rfl (by kernel_rfl) rfl rfl rfl (E.append rfl rfl run77) ?_
          refine ⟨(SP.nil S78.sl), ?_⟩
          refine FB.t (i := 12) (bs 13 8191) rfl (SP.nil S78.sl) rfl (fun w' hw' => (E.assign (v := v73) rfl)) ?_
          exact FB.done (by kernel_rfl) ⟨_, _, _, _, S78, (Inc.rfl _), els79, rfl⟩
    ·
     rintro f120 w119 ⟨H116, v80, n81, cs82, S117, i118, els115, k121⟩
     refine FW.ret ?_
     obtain ⟨H122, S146, i147, h148, nv149⟩ := S117.sealRowU (i := 0) (l' := []) rfl els115 (by decide) rfl
     obtain rfl := Option.some.inj hp
     exact ⟨.inr rfl, res1 rfl k121 ⟨_, _, rfl, S146.run, (h148.mono upI)⟩⟩
  ·
   exact x21.elim

@[reducible] def p_spec_l23With (Ha : GH) (wa : World) (r : (List ByteArray)) : Ending → World → Prop :=
 fun e w' => ∃ H' : GH, ∃ v0 : Value, e = .returned (v0) ∧ Run wa.heap.size Ha wa H' w' ∧ RSl H' eS 1 v0 r
theorem w_spec_l23With {Ha : GH} {wa : World} (hs : Sl Ha wa) (v0 : Value) (a0 : List ByteArray) (p0 : RSl Ha eS 1 v0 a0) (a1 : ByteArray) {r : (List ByteArray)} (hp : (PF.spec_l23With a0 a1) = some r) :
  Calls Tryz.prog 123 #[v0, Value.string a1] wa (p_spec_l23With Ha wa r) := by
 unfold PF.spec_l23With at hp
 have S0 := St.init hs
 refine calls_go (N := 10) (args := [v0, Value.string a1]) Tryz.func123 rfl rfl rfl ?_
 refine FW.seq (FW.region ?_)
 refine FL.v (E.assign (v := Value.slice none 0 0) rfl) ?_
 refine FL.nil (FW.seq (FW.region ?_))
 obtain ⟨v21, w22, run23, S24⟩ := S0.buildSlice (P := Tryz.prog) te22 [] (parts := #[]) (cells := []) rfl szs_nil fc_nil ones_nil (Nat.le_of_ble_eq_true rfl)
 have els25 : Els (up wa.heap.size Ha) eS 1 [] [] := Els.nil
 refine FL.v (E.buildSlice (B0) run23) ?_
 refine FL.v (E.move (v := v0) rfl) ?_
 obtain ⟨xs26, hz27, hp⟩ := bnd hp
 obtain ⟨v28, w31, n29, cs30, run32, S33, els34⟩ := S24.appendP (P := Tryz.prog) (Inc.rfl _) te22 (i := 0) rfl (els25.mono upI) p0 hz27
 have S33 : St Ha wa Ha w31 [.row 9 1 v28 n29 cs30] := S33
 have els34 : Els (up wa.heap.size Ha) eS 1 cs30 xs26 := els34.any (fun _ _ _ _ h => h)
 refine FL.v (E.append rfl rfl run32) ?_
 refine FL.v (E.move (v := Value.string a1) rfl) ?_
 obtain ⟨H36, S37, i38, h39, nv40⟩ := S33.sealRowU (i := 0) (l' := []) rfl els34 (by decide) rfl
 obtain ⟨r41, hr42, hp⟩ := bnd hp
 refine FL.call rfl rfl rfl (E.call Tryz.call101 (A2 rfl rfl)) (w_spec_l22Put S37.sl v28 xs26 (h39.mono upI) a1 hr42) ?_
 rintro e w44 ⟨H43, v47, rfl, r46, h48⟩
 refine ⟨_, rfl, ?_⟩
 have S45 := S37.call r46
 refine FL.v (E.assign (v := v47) rfl) ?_
 refine FL.nil ?_
 refine FW.ret ?_
 obtain rfl := Option.some.inj hp
 exact ⟨.inr rfl, res1 rfl rfl ⟨_, _, rfl, S45.run, h48⟩⟩

@[reducible] def p_spec_l23Premises (Ha : GH) (wa : World) (r : (List Sequent)) : Ending → World → Prop :=
 fun e w' => ∃ H' : GH, ∃ v0 : Value, ∃ n0 : Nat, ∃ c0 : List Value, e = .returned (v0) ∧ St Ha wa H' w' [.row 68 2 v0 n0 c0] ∧ Els H' eSequent 2 c0 r
set_option maxHeartbeats 4000000 in
theorem w_spec_l23Premises {Ha : GH} {wa : World} (hs : Sl Ha wa) (a0 : Sequent) (v0_0 : Value) (p0_0 : RSl Ha eS 1 v0_0 a0.left) (v0_1 : Value) (p0_1 : RSl Ha eS 1 v0_1 a0.right) (a1 : Int) (a2 : ByteArray) {r : (List Sequent)} (hp : (PF.spec_l23Premises a0 a1 a2) = some r) :
  Calls Tryz.prog 151 #[Value.agg #[v0_0, v0_1], Value.int .i64 a1, Value.string a2] wa (p_spec_l23Premises Ha wa r) := by
 unfold PF.spec_l23Premises at hp
 have S0 := St.init hs
 refine calls_go (N := 138) (args := [Value.agg #[v0_0, v0_1], Value.int .i64 a1, Value.string a2]) Tryz.func151 rfl rfl rfl ?_
 refine FW.seq (FW.region ?_)
 obtain ⟨b21, w22, run23, S24⟩ := S0.box (P := Tryz.prog) 68 [v0_0, v0_1] (v := Value.agg #[v0_0, v0_1]) rfl (ones_cons p0_0.one (ones_cons p0_1.one ones_nil))
 refine FL.v (E.box rfl run23) ?_
 obtain ⟨H25, S26, i27, at28⟩ := S24.sealBox (i := 0) (l' := []) rfl rfl
 refine FL.v (E.assign (v := Value.slice none 0 0) rfl) ?_
 refine FL.nil (FW.seq (FW.region ?_))
 refine FL.v (E.move (v := Value.string a2) rfl) ?_
 obtain ⟨r29, hr30, hp⟩ := bnd hp
 refine FL.call rfl rfl rfl (E.call Tryz.call73 (A1 rfl)) (w_spec_l22Parts S26.sl a2 hr30) ?_
 rintro e w31 ⟨rfl, r32⟩
 refine ⟨_, rfl, ?_⟩
 have S33 := S26.call r32
 refine FL.v (E.move (v := Value.tuple #[Value.int .u8 r29.1, Value.string r29.2.1, Value.string r29.2.2]) rfl) ?_
 refine FL.v (E.extract (i := 0) rfl rfl) ?_
 refine FL.v (E.extract (i := 1) rfl rfl) ?_
 refine FL.v (E.extract (i := 2) rfl rfl) ?_
 refine FL.v (E.assign (v := Value.int .u8 r29.1) rfl) ?_
 refine FL.v (E.assign (v := Value.string r29.2.1) rfl) ?_
 refine FL.v (E.assign (v := Value.string r29.2.2) rfl) ?_
 refine FL.nil (FW.seq ?_)
 obtain ⟨r37, hr38, hp⟩ := bnd hp
 obtain ⟨r47, hr48, hp⟩ := bnd hp
 refine FW.drawB (Sl H25) (fun f w => ∃ H : GH, ∃ v57 : Value, ∃ n58 : Nat, ∃ cs59 : List Value, ∃ v61 : Value, ∃ n62 : Nat, ∃ cs63 : List Value, St Ha wa H w [.row 9 1 v57 n58 cs59, .row 9 1 v61 n62 cs63] ∧ Inc H25 H ∧ Els (up wa.heap.size H) eS 1 cs59 r37 ∧ Els (up wa.heap.size H) eS 1 cs63 r47 ∧ f 1 = Value.int .i64 a1 ∧ f 2 = Value.string a2 ∧ f 3 = Value.pointer (some ⟨b21, 0, none⟩) ∧ f 8 = Value.string r29.2.1 ∧ f 9 = Value.string r29.2.2 ∧ f 10 = v57 ∧ f 11 = v61) (by kernel_rfl) S33.sl ?_ ?_
 ·
  intro w34 r35
  have S36 := S33.call r35
  refine FB.t (i := 0) (bs 10 1) rfl (SP.nil S36.sl) rfl (fun w' hw' => (E.fieldAddr tf68_0 rfl)) ?_
  refine FB.t (i := 1) (bs 10 3) rfl (SP.nil S36.sl) rfl (fun w' hw' => (E.load rfl (run_load1 Tryz.isAgg22 (at28.now hw') rfl))) ?_
  refine FB.t (i := 2) (bs 10 7) rfl (SP.nil S36.sl) rfl (fun w' hw' => (E.move (v := Value.string a2) rfl)) ?_
  refine FB.t (i := 4) (bs 10 23) rfl (SP.nil S36.sl) rfl (fun w' hw' => (E.fieldAddr tf68_1 rfl)) ?_
  refine FB.t (i := 5) (bs 10 55) rfl (SP.nil S36.sl) rfl (fun w' hw' => (E.load rfl (run_load1 Tryz.isAgg22 (at28.now hw') rfl))) ?_
  refine FB.t (i := 6) (bs 10 119) rfl (SP.nil S36.sl) rfl (fun w' hw' => (E.move (v := Value.string a2) rfl)) ?_
  refine FB.all1 (i := 3) (by kernel_rfl) ?_
  ·
   refine FC.call (l' := (bs 10 127)) rfl (by kernel_rfl) rfl rfl rfl (E.call Tryz.call124 (A2 rfl rfl)) (w_spec_l23Without S36.sl v0_0 a0.left (p0_0.mono i27) a2 hr38) ?_
   rintro e w40 ⟨H39, v43, n44, cs45, rfl, r42, els46⟩
   refine ⟨_, rfl, ?_⟩
   have els46 := els46.mono (up_le S36.size)
   have S41 := S36.join (l' := [.row 9 1 v43 n44 cs45]) r42 rfl
   refine ⟨(SP.nil (Sl.of_inc r42.run.inc S41.sl)), ?_⟩
   refine FB.all1 (i := 7) (by kernel_rfl) ?_
   ·
    refine FC.call (l' := (bs 10 255)) rfl (by kernel_rfl) rfl rfl rfl (E.call Tryz.call124 (A2 rfl rfl)) (w_spec_l23Without S41.sl v0_1 a0.right (p0_1.mono (i27.tr r42.run.inc)) a2 hr48) ?_
    rintro e w50 ⟨H49, v53, n54, cs55, rfl, r52, els56⟩
    refine ⟨_, rfl, ?_⟩
    have els56 := els56.mono (up_le S41.size)
    have S51 := S41.join (l' := [.row 9 1 v53 n54 cs55, .row 9 1 v43 n44 cs45]) r52 rfl
    refine ⟨(SP.nil (Sl.of_inc (r42.run.inc.tr r52.run.inc) S51.sl)), ?_⟩
    refine FB.t (i := 8) (bs 10 511) rfl (SP.nil (Sl.of_inc (r42.run.inc.tr r52.run.inc) S51.sl)) rfl (fun w' hw' => (E.assign (v := v43) rfl)) ?_
    refine FB.t (i := 9) (bs 10 1023) rfl (SP.nil (Sl.of_inc (r42.run.inc.tr r52.run.inc) S51.sl)) rfl (fun w' hw' => (E.assign (v := v53) rfl)) ?_
    exact FB.done (by kernel_rfl) ⟨_, _, _, _, _, _, _, (S51.sel [1, 0] (by decide) rfl), (r42.run.inc.tr r52.run.inc), (els46.mono (up_mono r52.run.inc)), els56, rfl, rfl, rfl, rfl, rfl, rfl, rfl⟩
 ·
  rintro f70 w69 ⟨H65, v57, n58, cs59, v61, n62, cs63, S66, i67, els60, els64, k71, k72, k73, k74, k75, k76, k77⟩
  refine FW.seq (FW.seq (FW.region ?_))
  refine FL.v (E.move k71) ?_
  refine FL.nil (FW.block (FW.seq (FW.region ?_)))
  refine FL.v (E.eql rfl rfl) ?_
  refine FL.v (E.assign (v := Value.bool (a1 == 2)) rfl) ?_
  refine FL.nil ?_
  rcases ifB hp with ⟨c78, hp⟩ | ⟨c78, hp⟩
  ·
   refine FW.condT rfl c78 ?_
   refine FW.seq (FW.region ?_)
   refine FL.v (E.move k76) ?_
   refine FL.v (E.fieldAddr tf68_1 k73) ?_
   refine FL.v (E.load rfl (run_load1 Tryz.isAgg22 ((at28.mono i67).now S66.sl) rfl)) ?_
   refine FL.v (E.move k74) ?_
   obtain ⟨r79, hr80, hp⟩ := bnd hp
   refine FL.call rfl rfl rfl (E.call Tryz.call123 (A2 rfl rfl)) (w_spec_l23With S66.sl v0_1 a0.right (p0_1.mono (i27.tr i67)) r29.2.1 hr80) ?_
   rintro e w82 ⟨H81, v85, rfl, r84, h86⟩
   refine ⟨_, rfl, ?_⟩
   have S83 := S66.call r84
   refine FL.v (E.build (B2 rfl rfl) (run_build _ 68 #[(0, v57), (1, v85)] #[v57, v85] (by obtain ⟨_, _, rfl⟩ := RSl.ln h86; obtain ⟨_, _, rfl⟩ := S83.row_ln (i := 0) rfl; rfl))) ?_
   obtain ⟨H87, S88, i89, h90, nv91⟩ := S83.sealRowU (i := 0) (l' := [.row 9 1 v61 n62 cs63]) rfl (els60.mono (up_mono r84.inc)) (by decide) rfl
   obtain ⟨v92, w93, run94, S95⟩ := S88.buildSlice (P := Tryz.prog) te172 [Value.agg #[v57, v85]] (parts := #[(0, Value.agg #[v57, v85])]) (cells := [v57, v85]) rfl (szs_cons rfl szs_nil) (fc_cons rfl fc_nil) (ones_cons h90.one (ones_cons h86.one ones_nil)) (Nat.le_of_ble_eq_true rfl)
   have els96 : Els H87 eSequent 2 [v57, v85] [(Sequent.mk r37 r79)] := (Els.snoc (H := H87) (E := eSequent) (k := 2) (c := [v57, v85]) (x := (Sequent.mk r37 r79)) Els.nil rfl ⟨_, _, rfl, (h90.mono upI), (h86.mono i89)⟩)
   refine FL.v (E.buildSlice (B1 rfl) run94) ?_
   refine FL.v (E.assign (v := v92) rfl) ?_
   refine FL.nil ?_
   refine FW.ret ?_
   obtain rfl := Option.some.inj hp
   exact ⟨.inr rfl, res1 rfl rfl ⟨_, _, _, _, rfl, (S95.sel [0] (by decide) rfl), els96⟩⟩
  ·
   refine FW.condF rfl c78 ?_
   refine FW.seq (FW.region ?_)
   refine FL.v (E.eql rfl rfl) ?_
   refine FL.v (E.assign (v := Value.bool (a1 == 3)) rfl) ?_
   refine FL.nil ?_
   rcases ifB hp with ⟨c97, hp⟩ | ⟨c97, hp⟩
   ·
    refine FW.condT rfl c97 ?_
    refine FW.seq (FW.region ?_)
    refine FL.v (E.fieldAddr tf68_0 k73) ?_
    refine FL.v (E.load rfl (run_load1 Tryz.isAgg22 ((at28.mono i67).now S66.sl) rfl)) ?_
    refine FL.v (E.move k74) ?_
    obtain ⟨r98, hr99, hp⟩ := bnd hp
    refine FL.call rfl rfl rfl (E.call Tryz.call123 (A2 rfl rfl)) (w_spec_l23With S66.sl v0_0 a0.left (p0_0.mono (i27.tr i67)) r29.2.1 hr99) ?_
    rintro e w101 ⟨H100, v104, rfl, r103, h105⟩
    refine ⟨_, rfl, ?_⟩
    have S102 := S66.call r103
    refine FL.v (E.move k77) ?_
    refine FL.v (E.build (B2 rfl rfl) (run_build _ 68 #[(0, v104), (1, v61)] #[v104, v61] (by obtain ⟨_, _, rfl⟩ := RSl.ln h105; obtain ⟨_, _, rfl⟩ := S102.row_ln (i := 1) rfl; rfl))) ?_
    obtain ⟨H106, S107, i108, h109, nv110⟩ := S102.sealRowU (i := 1) (l' := [.row 9 1 v57 n58 cs59]) rfl (els64.mono (up_mono r103.inc)) (by decide) rfl
    obtain ⟨v111, w112, run113, S114⟩ := S107.buildSlice (P := Tryz.prog) te172 [Value.agg #[v104, v61]] (parts := #[(0, Value.agg #[v104, v61])]) (cells := [v104, v61]) rfl (szs_cons rfl szs_nil) (fc_cons rfl fc_nil) (ones_cons h105.one (ones_cons h109.one ones_nil)) (Nat.le_of_ble_eq_true rfl)
    have els115 : Els H106 eSequent 2 [v104, v61] [(Sequent.mk r98 r47)] := (Els.snoc (H := H106) (E := eSequent) (k := 2) (c := [v104, v61]) (x := (Sequent.mk r98 r47)) Els.nil rfl ⟨_, _, rfl, (h105.mono i108), (h109.mono upI)⟩)
    refine FL.v (E.buildSlice (B1 rfl) run113) ?_
    refine FL.v (E.assign (v := v111) rfl) ?_
    refine FL.nil ?_
    refine FW.ret ?_
    obtain rfl := Option.some.inj hp
    exact ⟨.inr rfl, res1 rfl rfl ⟨_, _, _, _, rfl, (S114.sel [0] (by decide) rfl), els115⟩⟩
   ·
    refine FW.condF rfl c97 ?_
    refine FW.seq (FW.region ?_)
    refine FL.v (E.eql rfl rfl) ?_
    refine FL.v (E.assign (v := Value.bool (a1 == 4)) rfl) ?_
    refine FL.nil ?_
    rcases ifB hp with ⟨c116, hp⟩ | ⟨c116, hp⟩
    ·
     refine FW.condT rfl c116 ?_
     refine FW.seq ?_
     obtain ⟨s120, hq120, hp⟩ := bnd hp
     obtain ⟨r155, hr156, hp⟩ := bnd hp
     refine FW.drawB (Sl H65) (fun f w => ∃ H : GH, ∃ v168 : Value, ∃ n169 : Nat, ∃ cs170 : List Value, St Ha wa H w [.row 68 2 v168 n169 cs170] ∧ Inc H65 H ∧ Els H eSequent 2 cs170 [(Sequent.mk r155 a0.right)] ∧ f 6 = v168) (by kernel_rfl) S66.sl ?_ ?_
     ·
      intro w117 r118
      have S119 := S66.call r118
      refine FB.t (i := 0) (bs 10 1) rfl (SP.nil S119.sl) rfl (fun w' hw' => (E.move k76)) ?_
      refine FB.t (i := 1) (bs 10 3) rfl (SP.nil S119.sl) rfl (fun w' hw' => (E.move k74)) ?_
      refine FB.t (i := 3) (bs 10 11) rfl (SP.nil S119.sl) rfl (fun w' hw' => (E.move k75)) ?_
      refine FB.t (i := 5) (bs 10 43) rfl (SP.nil S119.sl) rfl (fun w' hw' => (E.fieldAddr tf68_1 k73)) ?_
      refine FB.t (i := 6) (bs 10 107) rfl (SP.nil S119.sl) rfl (fun w' hw' => (E.load rfl (run_load1 Tryz.isAgg22 ((at28.mono i67).now hw') rfl))) ?_
      refine FB.all1 (i := 2) (by kernel_rfl) ?_
      ·
       obtain ⟨R120, hR120⟩ : ∃ R120 : (List ByteArray) → Ending → World → Prop, R120 = (fun s120 e w => ∃ H : GH, ∃ v121 : Value, e = Ending.returned (v121) ∧ St Ha wa H w [.row 9 1 v57 n58 cs59, .row 9 1 v61 n62 cs63] ∧ Inc H65 H ∧ RSl H eS 1 v121 s120) := ⟨_, rfl⟩
       have hc120 : Calls Tryz.prog 123 #[v57, Value.string r29.2.1] w117 (R120 s120) := by
        clear hp; have hp := hq120; clear hq120
        refine calls_go (N := 10) (args := [v57, Value.string r29.2.1]) Tryz.func123 rfl rfl rfl ?_
        refine FW.seq (FW.region ?_)
        refine FL.v (E.assign (v := Value.slice none 0 0) rfl) ?_
        refine FL.nil (FW.seq (FW.region ?_))
        obtain ⟨v123, w124, run125, S126⟩ := S119.buildSlice (P := Tryz.prog) te22 [] (parts := #[]) (cells := []) rfl szs_nil fc_nil ones_nil (Nat.le_of_ble_eq_true rfl)
        have els127 : Els (up wa.heap.size H65) eS 1 [] [] := Els.nil
        refine FL.v (E.buildSlice (B0) run125) ?_
        refine FL.v (E.move (v := v57) rfl) ?_
        obtain ⟨xs128, hz129, hp⟩ := bnd hp
        obtain ⟨v130, w133, n131, cs132, run134, S135, els136, ce137⟩ := S126.appendO (P := Tryz.prog) te22 (i := 0) (j := 1) rfl els127 rfl els60 hz129
        have S135 : St Ha wa H65 w133 [.row 9 1 v130 n131 cs132, .row 9 1 v57 n58 cs59, .row 9 1 v61 n62 cs63] := S135
        refine FL.v (E.append rfl rfl run134) ?_
        refine FL.v (E.move (v := Value.string r29.2.1) rfl) ?_
        obtain ⟨H138, S139, i140, h141, nv142⟩ := S135.sealRowU (i := 0) (l' := [.row 9 1 v57 n58 cs59, .row 9 1 v61 n62 cs63]) rfl els136 (by decide) rfl
        obtain ⟨r143, hr144, hp⟩ := bnd hp
        refine FL.call rfl rfl rfl (E.call Tryz.call101 (A2 rfl rfl)) (w_spec_l22Put S139.sl v130 xs128 (h141.mono upI) r29.2.1 hr144) ?_
        rintro e w146 ⟨H145, v149, rfl, r148, h150⟩
        refine ⟨_, rfl, ?_⟩
        have S147 := S139.call r148
        refine FL.v (E.assign (v := v149) rfl) ?_
        refine FL.nil ?_
        refine FW.ret ?_
        obtain rfl := Option.some.inj hp
        exact ⟨.inr rfl, res1 rfl rfl (by rw [hR120]; exact ⟨_, _, rfl, S147, (i140.tr r148.inc), h150⟩)⟩
       clear hq120
       refine FC.call (l' := (bs 10 111)) rfl (by kernel_rfl) rfl rfl rfl (E.call Tryz.call123 (A2 rfl rfl)) hc120 ?_
       intro e w154 hQ120
       rw [hR120] at hQ120
       obtain ⟨H151, v121, rfl, S152, i153, h122⟩ := hQ120
       refine ⟨_, rfl, ?_⟩
       refine ⟨(SP.nil (Sl.of_inc i153 S152.sl)), ?_⟩
       refine FB.all1 (i := 4) (by kernel_rfl) ?_
       ·
        refine FC.call (l' := (bs 10 127)) rfl (by kernel_rfl) rfl rfl rfl (E.call Tryz.call123 (A2 rfl rfl)) (w_spec_l23With S152.sl v121 s120 h122 r29.2.2 hr156) ?_
        rintro e w158 ⟨H157, v161, rfl, r160, h162⟩
        refine ⟨_, rfl, ?_⟩
        have S159 := S152.call r160
        refine ⟨(SP.nil (Sl.of_inc (i153.tr r160.inc) S159.sl)), ?_⟩
        refine FB.t (i := 7) (bs 10 255) rfl (SP.nil (Sl.of_inc (i153.tr r160.inc) S159.sl)) rfl (fun w' hw' => (E.build (B2 rfl rfl) (run_build _ 68 #[(0, v161), (1, v0_1)] #[v161, v0_1] (by obtain ⟨_, _, rfl⟩ := RSl.ln h162; obtain ⟨_, _, rfl⟩ := RSl.ln (p0_1.mono (((i27.tr i67).tr i153).tr r160.inc)); rfl)))) ?_
        refine FB.all1 (i := 8) (by kernel_rfl) ?_
        ·
         obtain ⟨v163, w164, run165, S166⟩ := S159.buildSlice (P := Tryz.prog) te172 [Value.agg #[v161, v0_1]] (parts := #[(0, Value.agg #[v161, v0_1])]) (cells := [v161, v0_1]) rfl (szs_cons rfl szs_nil) (fc_cons rfl fc_nil) (ones_cons h162.one (ones_cons p0_1.one ones_nil)) (Nat.le_of_ble_eq_true rfl)
         have els167 : Els H157 eSequent 2 [v161, v0_1] [(Sequent.mk r155 a0.right)] := (Els.snoc (H := H157) (E := eSequent) (k := 2) (c := [v161, v0_1]) (x := (Sequent.mk r155 a0.right)) Els.nil rfl ⟨_, _, rfl, h162, (p0_1.mono (((i27.tr i67).tr i153).tr r160.inc))⟩)
         refine FC.val (l' := (bs 10 511)) rfl (by kernel_rfl) rfl rfl rfl (E.buildSlice (B1 rfl) run165) ?_
         refine ⟨(SP.nil (Sl.of_inc (i153.tr r160.inc) S166.sl)), ?_⟩
         refine FB.t (i := 9) (bs 10 1023) rfl (SP.nil (Sl.of_inc (i153.tr r160.inc) S166.sl)) rfl (fun w' hw' => (E.assign (v := v163) rfl)) ?_
         exact FB.done (by kernel_rfl) ⟨_, _, _, _, (S166.sel [0] (by decide) rfl), (i153.tr r160.inc), els167, rfl⟩
     ·
      rintro f177 w176 ⟨H173, v168, n169, cs170, S174, i175, els171, k178⟩
      refine FW.ret ?_
      obtain rfl := Option.some.inj hp
      exact ⟨.inr rfl, res1 rfl k178 ⟨_, _, _, _, rfl, S174, els171⟩⟩
    ·
     refine FW.condF rfl c116 ?_
     refine FW.seq (FW.region ?_)
     refine FL.v (E.eql rfl rfl) ?_
     refine FL.v (E.assign (v := Value.bool (a1 == 5)) rfl) ?_
     refine FL.nil ?_
     rcases ifB hp with ⟨c179, hp⟩ | ⟨c179, hp⟩
     ·
      refine FW.condT rfl c179 ?_
      refine FW.seq ?_
      obtain ⟨s183, hq183, hp⟩ := bnd hp
      obtain ⟨s218, hq218, hp⟩ := bnd hp
      refine FW.drawB (Sl H65) (fun f w => ∃ H : GH, ∃ v258 : Value, ∃ n259 : Nat, ∃ cs260 : List Value, St Ha wa H w [.row 68 2 v258 n259 cs260] ∧ Inc H65 H ∧ Els H eSequent 2 cs260 [(Sequent.mk a0.left s183), (Sequent.mk a0.left s218)] ∧ f 6 = v258) (by kernel_rfl) S66.sl ?_ ?_
      ·
       intro w180 r181
       have S182 := S66.call r181
       refine FB.t (i := 0) (bs 14 1) rfl (SP.nil S182.sl) rfl (fun w' hw' => (E.fieldAddr tf68_0 k73)) ?_
       refine FB.t (i := 1) (bs 14 3) rfl (SP.nil S182.sl) rfl (fun w' hw' => (E.load rfl (run_load1 Tryz.isAgg22 ((at28.mono i67).now hw') rfl))) ?_
       refine FB.t (i := 2) (bs 14 7) rfl (SP.nil S182.sl) rfl (fun w' hw' => (E.move k77)) ?_
       refine FB.t (i := 3) (bs 14 15) rfl (SP.nil S182.sl) rfl (fun w' hw' => (E.move k74)) ?_
       refine FB.t (i := 6) (bs 14 79) rfl (SP.nil S182.sl) rfl (fun w' hw' => (E.fieldAddr tf68_0 k73)) ?_
       refine FB.t (i := 7) (bs 14 207) rfl (SP.nil S182.sl) rfl (fun w' hw' => (E.load rfl (run_load1 Tryz.isAgg22 ((at28.mono i67).now hw') rfl))) ?_
       refine FB.t (i := 8) (bs 14 463) rfl (SP.nil S182.sl) rfl (fun w' hw' => (E.move k77)) ?_
       refine FB.t (i := 9) (bs 14 975) rfl (SP.nil S182.sl) rfl (fun w' hw' => (E.move k75)) ?_
       refine FB.all1 (i := 4) (by kernel_rfl) ?_
       ·
        obtain ⟨R183, hR183⟩ : ∃ R183 : (List ByteArray) → Ending → World → Prop, R183 = (fun s183 e w => ∃ H : GH, ∃ v184 : Value, e = Ending.returned (v184) ∧ St Ha wa H w [.row 9 1 v57 n58 cs59, .row 9 1 v61 n62 cs63] ∧ Inc H65 H ∧ RSl H eS 1 v184 s183) := ⟨_, rfl⟩
        have hc183 : Calls Tryz.prog 123 #[v61, Value.string r29.2.1] w180 (R183 s183) := by
         clear hp; have hp := hq183; clear hq183
         refine calls_go (N := 10) (args := [v61, Value.string r29.2.1]) Tryz.func123 rfl rfl rfl ?_
         refine FW.seq (FW.region ?_)
         refine FL.v (E.assign (v := Value.slice none 0 0) rfl) ?_
         refine FL.nil (FW.seq (FW.region ?_))
         obtain ⟨v186, w187, run188, S189⟩ := S182.buildSlice (P := Tryz.prog) te22 [] (parts := #[]) (cells := []) rfl szs_nil fc_nil ones_nil (Nat.le_of_ble_eq_true rfl)
         have els190 : Els (up wa.heap.size H65) eS 1 [] [] := Els.nil
         refine FL.v (E.buildSlice (B0) run188) ?_
         refine FL.v (E.move (v := v61) rfl) ?_
         obtain ⟨xs191, hz192, hp⟩ := bnd hp
         obtain ⟨v193, w196, n194, cs195, run197, S198, els199, ce200⟩ := S189.appendO (P := Tryz.prog) te22 (i := 0) (j := 2) rfl els190 rfl els64 hz192
         have S198 : St Ha wa H65 w196 [.row 9 1 v193 n194 cs195, .row 9 1 v57 n58 cs59, .row 9 1 v61 n62 cs63] := S198
         refine FL.v (E.append rfl rfl run197) ?_
         refine FL.v (E.move (v := Value.string r29.2.1) rfl) ?_
         obtain ⟨H201, S202, i203, h204, nv205⟩ := S198.sealRowU (i := 0) (l' := [.row 9 1 v57 n58 cs59, .row 9 1 v61 n62 cs63]) rfl els199 (by decide) rfl
         obtain ⟨r206, hr207, hp⟩ := bnd hp
         refine FL.call rfl rfl rfl (E.call Tryz.call101 (A2 rfl rfl)) (w_spec_l22Put S202.sl v193 xs191 (h204.mono upI) r29.2.1 hr207) ?_
         rintro e w209 ⟨H208, v212, rfl, r211, h213⟩
         refine ⟨_, rfl, ?_⟩
         have S210 := S202.call r211
         refine FL.v (E.assign (v := v212) rfl) ?_
         refine FL.nil ?_
         refine FW.ret ?_
         obtain rfl := Option.some.inj hp
         exact ⟨.inr rfl, res1 rfl rfl (by rw [hR183]; exact ⟨_, _, rfl, S210, (i203.tr r211.inc), h213⟩)⟩
        clear hq183
        refine FC.call (l' := (bs 14 991)) rfl (by kernel_rfl) rfl rfl rfl (E.call Tryz.call123 (A2 rfl rfl)) hc183 ?_
        intro e w217 hQ183
        rw [hR183] at hQ183
        obtain ⟨H214, v184, rfl, S215, i216, h185⟩ := hQ183
        refine ⟨_, rfl, ?_⟩
        refine ⟨(SP.nil (Sl.of_inc i216 S215.sl)), ?_⟩
        refine FB.t (i := 5) (bs 14 1023) rfl (SP.nil (Sl.of_inc i216 S215.sl)) rfl (fun w' hw' => (E.build (B2 rfl rfl) (run_build _ 68 #[(0, v0_0), (1, v184)] #[v0_0, v184] (by obtain ⟨_, _, rfl⟩ := RSl.ln (p0_0.mono ((i27.tr i67).tr i216)); obtain ⟨_, _, rfl⟩ := RSl.ln h185; rfl)))) ?_
        refine FB.all1 (i := 10) (by kernel_rfl) ?_
        ·
         obtain ⟨R218, hR218⟩ : ∃ R218 : (List ByteArray) → Ending → World → Prop, R218 = (fun s218 e w => ∃ H : GH, ∃ v219 : Value, e = Ending.returned (v219) ∧ St Ha wa H w [.row 9 1 v57 n58 cs59, .row 9 1 v61 n62 cs63] ∧ Inc H214 H ∧ RSl H eS 1 v219 s218) := ⟨_, rfl⟩
         have hc218 : Calls Tryz.prog 123 #[v61, Value.string r29.2.2] w217 (R218 s218) := by
          clear hp; have hp := hq218; clear hq218
          refine calls_go (N := 10) (args := [v61, Value.string r29.2.2]) Tryz.func123 rfl rfl rfl ?_
          refine FW.seq (FW.region ?_)
          refine FL.v (E.assign (v := Value.slice none 0 0) rfl) ?_
          refine FL.nil (FW.seq (FW.region ?_))
          obtain ⟨v221, w222, run223, S224⟩ := S215.buildSlice (P := Tryz.prog) te22 [] (parts := #[]) (cells := []) rfl szs_nil fc_nil ones_nil (Nat.le_of_ble_eq_true rfl)
          have els225 : Els (up wa.heap.size H214) eS 1 [] [] := Els.nil
          refine FL.v (E.buildSlice (B0) run223) ?_
          refine FL.v (E.move (v := v61) rfl) ?_
          obtain ⟨xs226, hz227, hp⟩ := bnd hp
          obtain ⟨v228, w231, n229, cs230, run232, S233, els234, ce235⟩ := S224.appendO (P := Tryz.prog) te22 (i := 0) (j := 2) rfl els225 rfl (els64.mono (up_mono i216)) hz227
          have S233 : St Ha wa H214 w231 [.row 9 1 v228 n229 cs230, .row 9 1 v57 n58 cs59, .row 9 1 v61 n62 cs63] := S233
          refine FL.v (E.append rfl rfl run232) ?_
          refine FL.v (E.move (v := Value.string r29.2.2) rfl) ?_
          obtain ⟨H236, S237, i238, h239, nv240⟩ := S233.sealRowU (i := 0) (l' := [.row 9 1 v57 n58 cs59, .row 9 1 v61 n62 cs63]) rfl els234 (by decide) rfl
          obtain ⟨r241, hr242, hp⟩ := bnd hp
          refine FL.call rfl rfl rfl (E.call Tryz.call101 (A2 rfl rfl)) (w_spec_l22Put S237.sl v228 xs226 (h239.mono upI) r29.2.2 hr242) ?_
          rintro e w244 ⟨H243, v247, rfl, r246, h248⟩
          refine ⟨_, rfl, ?_⟩
          have S245 := S237.call r246
          refine FL.v (E.assign (v := v247) rfl) ?_
          refine FL.nil ?_
          refine FW.ret ?_
          obtain rfl := Option.some.inj hp
          exact ⟨.inr rfl, res1 rfl rfl (by rw [hR218]; exact ⟨_, _, rfl, S245, (i238.tr r246.inc), h248⟩)⟩
         clear hq218
         refine FC.call (l' := (bs 14 2047)) rfl (by kernel_rfl) rfl rfl rfl (E.call Tryz.call123 (A2 rfl rfl)) hc218 ?_
         intro e w252 hQ218
         rw [hR218] at hQ218
         obtain ⟨H249, v219, rfl, S250, i251, h220⟩ := hQ218
         refine ⟨_, rfl, ?_⟩
         refine ⟨(SP.nil (Sl.of_inc (i216.tr i251) S250.sl)), ?_⟩
         refine FB.t (i := 11) (bs 14 4095) rfl (SP.nil (Sl.of_inc (i216.tr i251) S250.sl)) rfl (fun w' hw' => (E.build (B2 rfl rfl) (run_build _ 68 #[(0, v0_0), (1, v219)] #[v0_0, v219] (by obtain ⟨_, _, rfl⟩ := RSl.ln (p0_0.mono (((i27.tr i67).tr i216).tr i251)); obtain ⟨_, _, rfl⟩ := RSl.ln h220; rfl)))) ?_
         refine FB.all1 (i := 12) (by kernel_rfl) ?_
         ·
          obtain ⟨v253, w254, run255, S256⟩ := S250.buildSlice (P := Tryz.prog) te172 [Value.agg #[v0_0, v184], Value.agg #[v0_0, v219]] (parts := #[(0, Value.agg #[v0_0, v184]), (1, Value.agg #[v0_0, v219])]) (cells := [v0_0, v184, v0_0, v219]) rfl (szs_cons rfl (szs_cons rfl szs_nil)) (fc_cons rfl (fc_cons rfl fc_nil)) (ones_cons p0_0.one (ones_cons h185.one (ones_cons p0_0.one (ones_cons h220.one ones_nil)))) (Nat.le_of_ble_eq_true rfl)
          have els257 : Els H249 eSequent 2 [v0_0, v184, v0_0, v219] [(Sequent.mk a0.left s183), (Sequent.mk a0.left s218)] := (Els.snoc (H := H249) (E := eSequent) (k := 2) (c := [v0_0, v219]) (x := (Sequent.mk a0.left s218)) (Els.snoc (H := H249) (E := eSequent) (k := 2) (c := [v0_0, v184]) (x := (Sequent.mk a0.left s183)) Els.nil rfl ⟨_, _, rfl, (p0_0.mono (((i27.tr i67).tr i216).tr i251)), (h185.mono i251)⟩) rfl ⟨_, _, rfl, (p0_0.mono (((i27.tr i67).tr i216).tr i251)), h220⟩)
          refine FC.val (l' := (bs 14 8191)) rfl (by kernel_rfl) rfl rfl rfl (E.buildSlice (B2 rfl rfl) run255) ?_
          refine ⟨(SP.nil (Sl.of_inc (i216.tr i251) S256.sl)), ?_⟩
          refine FB.t (i := 13) (bs 14 16383) rfl (SP.nil (Sl.of_inc (i216.tr i251) S256.sl)) rfl (fun w' hw' => (E.assign (v := v253) rfl)) ?_
          exact FB.done (by kernel_rfl) ⟨_, _, _, _, (S256.sel [0] (by decide) rfl), (i216.tr i251), els257, rfl⟩
      ·
       rintro f266 w265 ⟨H262, v258, n259, cs260, S263, i264, els261, k267⟩
       refine FW.ret ?_
       obtain rfl := Option.some.inj hp
       exact ⟨.inr rfl, res1 rfl k267 ⟨_, _, _, _, rfl, S263, els261⟩⟩
     ·
      refine FW.condF rfl c179 ?_
      refine FW.seq (FW.region ?_)
      refine FL.v (E.eql rfl rfl) ?_
      refine FL.v (E.assign (v := Value.bool (a1 == 6)) rfl) ?_
      refine FL.nil ?_
      rcases ifB hp with ⟨c268, hp⟩ | ⟨c268, hp⟩
      ·
       refine FW.condT rfl c268 ?_
       refine FW.seq ?_
       obtain ⟨s272, hq272, hp⟩ := bnd hp
       obtain ⟨s307, hq307, hp⟩ := bnd hp
       refine FW.drawB (Sl H65) (fun f w => ∃ H : GH, ∃ v347 : Value, ∃ n348 : Nat, ∃ cs349 : List Value, St Ha wa H w [.row 68 2 v347 n348 cs349] ∧ Inc H65 H ∧ Els H eSequent 2 cs349 [(Sequent.mk s272 a0.right), (Sequent.mk s307 a0.right)] ∧ f 6 = v347) (by kernel_rfl) S66.sl ?_ ?_
       ·
        intro w269 r270
        have S271 := S66.call r270
        refine FB.t (i := 0) (bs 14 1) rfl (SP.nil S271.sl) rfl (fun w' hw' => (E.move k76)) ?_
        refine FB.t (i := 1) (bs 14 3) rfl (SP.nil S271.sl) rfl (fun w' hw' => (E.move k74)) ?_
        refine FB.t (i := 3) (bs 14 11) rfl (SP.nil S271.sl) rfl (fun w' hw' => (E.fieldAddr tf68_1 k73)) ?_
        refine FB.t (i := 4) (bs 14 27) rfl (SP.nil S271.sl) rfl (fun w' hw' => (E.load rfl (run_load1 Tryz.isAgg22 ((at28.mono i67).now hw') rfl))) ?_
        refine FB.t (i := 6) (bs 14 91) rfl (SP.nil S271.sl) rfl (fun w' hw' => (E.move k76)) ?_
        refine FB.t (i := 7) (bs 14 219) rfl (SP.nil S271.sl) rfl (fun w' hw' => (E.move k75)) ?_
        refine FB.t (i := 9) (bs 14 731) rfl (SP.nil S271.sl) rfl (fun w' hw' => (E.fieldAddr tf68_1 k73)) ?_
        refine FB.t (i := 10) (bs 14 1755) rfl (SP.nil S271.sl) rfl (fun w' hw' => (E.load rfl (run_load1 Tryz.isAgg22 ((at28.mono i67).now hw') rfl))) ?_
        refine FB.all1 (i := 2) (by kernel_rfl) ?_
        ·
         obtain ⟨R272, hR272⟩ : ∃ R272 : (List ByteArray) → Ending → World → Prop, R272 = (fun s272 e w => ∃ H : GH, ∃ v273 : Value, e = Ending.returned (v273) ∧ St Ha wa H w [.row 9 1 v57 n58 cs59, .row 9 1 v61 n62 cs63] ∧ Inc H65 H ∧ RSl H eS 1 v273 s272) := ⟨_, rfl⟩
         have hc272 : Calls Tryz.prog 123 #[v57, Value.string r29.2.1] w269 (R272 s272) := by
          clear hp; have hp := hq272; clear hq272
          refine calls_go (N := 10) (args := [v57, Value.string r29.2.1]) Tryz.func123 rfl rfl rfl ?_
          refine FW.seq (FW.region ?_)
          refine FL.v (E.assign (v := Value.slice none 0 0) rfl) ?_
          refine FL.nil (FW.seq (FW.region ?_))
          obtain ⟨v275, w276, run277, S278⟩ := S271.buildSlice (P := Tryz.prog) te22 [] (parts := #[]) (cells := []) rfl szs_nil fc_nil ones_nil (Nat.le_of_ble_eq_true rfl)
          have els279 : Els (up wa.heap.size H65) eS 1 [] [] := Els.nil
          refine FL.v (E.buildSlice (B0) run277) ?_
          refine FL.v (E.move (v := v57) rfl) ?_
          obtain ⟨xs280, hz281, hp⟩ := bnd hp
          obtain ⟨v282, w285, n283, cs284, run286, S287, els288, ce289⟩ := S278.appendO (P := Tryz.prog) te22 (i := 0) (j := 1) rfl els279 rfl els60 hz281
          have S287 : St Ha wa H65 w285 [.row 9 1 v282 n283 cs284, .row 9 1 v57 n58 cs59, .row 9 1 v61 n62 cs63] := S287
          refine FL.v (E.append rfl rfl run286) ?_
          refine FL.v (E.move (v := Value.string r29.2.1) rfl) ?_
          obtain ⟨H290, S291, i292, h293, nv294⟩ := S287.sealRowU (i := 0) (l' := [.row 9 1 v57 n58 cs59, .row 9 1 v61 n62 cs63]) rfl els288 (by decide) rfl
          obtain ⟨r295, hr296, hp⟩ := bnd hp
          refine FL.call rfl rfl rfl (E.call Tryz.call101 (A2 rfl rfl)) (w_spec_l22Put S291.sl v282 xs280 (h293.mono upI) r29.2.1 hr296) ?_
          rintro e w298 ⟨H297, v301, rfl, r300, h302⟩
          refine ⟨_, rfl, ?_⟩
          have S299 := S291.call r300
          refine FL.v (E.assign (v := v301) rfl) ?_
          refine FL.nil ?_
          refine FW.ret ?_
          obtain rfl := Option.some.inj hp
          exact ⟨.inr rfl, res1 rfl rfl (by rw [hR272]; exact ⟨_, _, rfl, S299, (i292.tr r300.inc), h302⟩)⟩
         clear hq272
         refine FC.call (l' := (bs 14 1759)) rfl (by kernel_rfl) rfl rfl rfl (E.call Tryz.call123 (A2 rfl rfl)) hc272 ?_
         intro e w306 hQ272
         rw [hR272] at hQ272
         obtain ⟨H303, v273, rfl, S304, i305, h274⟩ := hQ272
         refine ⟨_, rfl, ?_⟩
         refine ⟨(SP.nil (Sl.of_inc i305 S304.sl)), ?_⟩
         refine FB.t (i := 5) (bs 14 1791) rfl (SP.nil (Sl.of_inc i305 S304.sl)) rfl (fun w' hw' => (E.build (B2 rfl rfl) (run_build _ 68 #[(0, v273), (1, v0_1)] #[v273, v0_1] (by obtain ⟨_, _, rfl⟩ := RSl.ln h274; obtain ⟨_, _, rfl⟩ := RSl.ln (p0_1.mono ((i27.tr i67).tr i305)); rfl)))) ?_
         refine FB.all1 (i := 8) (by kernel_rfl) ?_
         ·
          obtain ⟨R307, hR307⟩ : ∃ R307 : (List ByteArray) → Ending → World → Prop, R307 = (fun s307 e w => ∃ H : GH, ∃ v308 : Value, e = Ending.returned (v308) ∧ St Ha wa H w [.row 9 1 v57 n58 cs59, .row 9 1 v61 n62 cs63] ∧ Inc H303 H ∧ RSl H eS 1 v308 s307) := ⟨_, rfl⟩
          have hc307 : Calls Tryz.prog 123 #[v57, Value.string r29.2.2] w306 (R307 s307) := by
           clear hp; have hp := hq307; clear hq307
           refine calls_go (N := 10) (args := [v57, Value.string r29.2.2]) Tryz.func123 rfl rfl rfl ?_
           refine FW.seq (FW.region ?_)
           refine FL.v (E.assign (v := Value.slice none 0 0) rfl) ?_
           refine FL.nil (FW.seq (FW.region ?_))
           obtain ⟨v310, w311, run312, S313⟩ := S304.buildSlice (P := Tryz.prog) te22 [] (parts := #[]) (cells := []) rfl szs_nil fc_nil ones_nil (Nat.le_of_ble_eq_true rfl)
           have els314 : Els (up wa.heap.size H303) eS 1 [] [] := Els.nil
           refine FL.v (E.buildSlice (B0) run312) ?_
           refine FL.v (E.move (v := v57) rfl) ?_
           obtain ⟨xs315, hz316, hp⟩ := bnd hp
           obtain ⟨v317, w320, n318, cs319, run321, S322, els323, ce324⟩ := S313.appendO (P := Tryz.prog) te22 (i := 0) (j := 1) rfl els314 rfl (els60.mono (up_mono i305)) hz316
           have S322 : St Ha wa H303 w320 [.row 9 1 v317 n318 cs319, .row 9 1 v57 n58 cs59, .row 9 1 v61 n62 cs63] := S322
           refine FL.v (E.append rfl rfl run321) ?_
           refine FL.v (E.move (v := Value.string r29.2.2) rfl) ?_
           obtain ⟨H325, S326, i327, h328, nv329⟩ := S322.sealRowU (i := 0) (l' := [.row 9 1 v57 n58 cs59, .row 9 1 v61 n62 cs63]) rfl els323 (by decide) rfl
           obtain ⟨r330, hr331, hp⟩ := bnd hp
           refine FL.call rfl rfl rfl (E.call Tryz.call101 (A2 rfl rfl)) (w_spec_l22Put S326.sl v317 xs315 (h328.mono upI) r29.2.2 hr331) ?_
           rintro e w333 ⟨H332, v336, rfl, r335, h337⟩
           refine ⟨_, rfl, ?_⟩
           have S334 := S326.call r335
           refine FL.v (E.assign (v := v336) rfl) ?_
           refine FL.nil ?_
           refine FW.ret ?_
           obtain rfl := Option.some.inj hp
           exact ⟨.inr rfl, res1 rfl rfl (by rw [hR307]; exact ⟨_, _, rfl, S334, (i327.tr r335.inc), h337⟩)⟩
          clear hq307
          refine FC.call (l' := (bs 14 2047)) rfl (by kernel_rfl) rfl rfl rfl (E.call Tryz.call123 (A2 rfl rfl)) hc307 ?_
          intro e w341 hQ307
          rw [hR307] at hQ307
          obtain ⟨H338, v308, rfl, S339, i340, h309⟩ := hQ307
          refine ⟨_, rfl, ?_⟩
          refine ⟨(SP.nil (Sl.of_inc (i305.tr i340) S339.sl)), ?_⟩
          refine FB.t (i := 11) (bs 14 4095) rfl (SP.nil (Sl.of_inc (i305.tr i340) S339.sl)) rfl (fun w' hw' => (E.build (B2 rfl rfl) (run_build _ 68 #[(0, v308), (1, v0_1)] #[v308, v0_1] (by obtain ⟨_, _, rfl⟩ := RSl.ln h309; obtain ⟨_, _, rfl⟩ := RSl.ln (p0_1.mono (((i27.tr i67).tr i305).tr i340)); rfl)))) ?_
          refine FB.all1 (i := 12) (by kernel_rfl) ?_
          ·
           obtain ⟨v342, w343, run344, S345⟩ := S339.buildSlice (P := Tryz.prog) te172 [Value.agg #[v273, v0_1], Value.agg #[v308, v0_1]] (parts := #[(0, Value.agg #[v273, v0_1]), (1, Value.agg #[v308, v0_1])]) (cells := [v273, v0_1, v308, v0_1]) rfl (szs_cons rfl (szs_cons rfl szs_nil)) (fc_cons rfl (fc_cons rfl fc_nil)) (ones_cons h274.one (ones_cons p0_1.one (ones_cons h309.one (ones_cons p0_1.one ones_nil)))) (Nat.le_of_ble_eq_true rfl)
           have els346 : Els H338 eSequent 2 [v273, v0_1, v308, v0_1] [(Sequent.mk s272 a0.right), (Sequent.mk s307 a0.right)] := (Els.snoc (H := H338) (E := eSequent) (k := 2) (c := [v308, v0_1]) (x := (Sequent.mk s307 a0.right)) (Els.snoc (H := H338) (E := eSequent) (k := 2) (c := [v273, v0_1]) (x := (Sequent.mk s272 a0.right)) Els.nil rfl ⟨_, _, rfl, (h274.mono i340), (p0_1.mono (((i27.tr i67).tr i305).tr i340))⟩) rfl ⟨_, _, rfl, h309, (p0_1.mono (((i27.tr i67).tr i305).tr i340))⟩)
           refine FC.val (l' := (bs 14 8191)) rfl (by kernel_rfl) rfl rfl rfl (E.buildSlice (B2 rfl rfl) run344) ?_
           refine ⟨(SP.nil (Sl.of_inc (i305.tr i340) S345.sl)), ?_⟩
           refine FB.t (i := 13) (bs 14 16383) rfl (SP.nil (Sl.of_inc (i305.tr i340) S345.sl)) rfl (fun w' hw' => (E.assign (v := v342) rfl)) ?_
           exact FB.done (by kernel_rfl) ⟨_, _, _, _, (S345.sel [0] (by decide) rfl), (i305.tr i340), els346, rfl⟩
       ·
        rintro f355 w354 ⟨H351, v347, n348, cs349, S352, i353, els350, k356⟩
        refine FW.ret ?_
        obtain rfl := Option.some.inj hp
        exact ⟨.inr rfl, res1 rfl k356 ⟨_, _, _, _, rfl, S352, els350⟩⟩
      ·
       refine FW.condF rfl c268 ?_
       refine FW.seq (FW.region ?_)
       refine FL.v (E.eql rfl rfl) ?_
       refine FL.v (E.assign (v := Value.bool (a1 == 7)) rfl) ?_
       refine FL.nil ?_
       rcases ifB hp with ⟨c357, hp⟩ | ⟨c357, hp⟩
       ·
        refine FW.condT rfl c357 ?_
        refine FW.seq ?_
        obtain ⟨s361, hq361, hp⟩ := bnd hp
        obtain ⟨r396, hr397, hp⟩ := bnd hp
        refine FW.drawB (Sl H65) (fun f w => ∃ H : GH, ∃ v409 : Value, ∃ n410 : Nat, ∃ cs411 : List Value, St Ha wa H w [.row 68 2 v409 n410 cs411] ∧ Inc H65 H ∧ Els H eSequent 2 cs411 [(Sequent.mk a0.left r396)] ∧ f 6 = v409) (by kernel_rfl) S66.sl ?_ ?_
        ·
         intro w358 r359
         have S360 := S66.call r359
         refine FB.t (i := 0) (bs 10 1) rfl (SP.nil S360.sl) rfl (fun w' hw' => (E.fieldAddr tf68_0 k73)) ?_
         refine FB.t (i := 1) (bs 10 3) rfl (SP.nil S360.sl) rfl (fun w' hw' => (E.load rfl (run_load1 Tryz.isAgg22 ((at28.mono i67).now hw') rfl))) ?_
         refine FB.t (i := 2) (bs 10 7) rfl (SP.nil S360.sl) rfl (fun w' hw' => (E.move k77)) ?_
         refine FB.t (i := 3) (bs 10 15) rfl (SP.nil S360.sl) rfl (fun w' hw' => (E.move k74)) ?_
         refine FB.t (i := 5) (bs 10 47) rfl (SP.nil S360.sl) rfl (fun w' hw' => (E.move k75)) ?_
         refine FB.all1 (i := 4) (by kernel_rfl) ?_
         ·
          obtain ⟨R361, hR361⟩ : ∃ R361 : (List ByteArray) → Ending → World → Prop, R361 = (fun s361 e w => ∃ H : GH, ∃ v362 : Value, e = Ending.returned (v362) ∧ St Ha wa H w [.row 9 1 v57 n58 cs59, .row 9 1 v61 n62 cs63] ∧ Inc H65 H ∧ RSl H eS 1 v362 s361) := ⟨_, rfl⟩
          have hc361 : Calls Tryz.prog 123 #[v61, Value.string r29.2.1] w358 (R361 s361) := by
           clear hp; have hp := hq361; clear hq361
           refine calls_go (N := 10) (args := [v61, Value.string r29.2.1]) Tryz.func123 rfl rfl rfl ?_
           refine FW.seq (FW.region ?_)
           refine FL.v (E.assign (v := Value.slice none 0 0) rfl) ?_
           refine FL.nil (FW.seq (FW.region ?_))
           obtain ⟨v364, w365, run366, S367⟩ := S360.buildSlice (P := Tryz.prog) te22 [] (parts := #[]) (cells := []) rfl szs_nil fc_nil ones_nil (Nat.le_of_ble_eq_true rfl)
           have els368 : Els (up wa.heap.size H65) eS 1 [] [] := Els.nil
           refine FL.v (E.buildSlice (B0) run366) ?_
           refine FL.v (E.move (v := v61) rfl) ?_
           obtain ⟨xs369, hz370, hp⟩ := bnd hp
           obtain ⟨v371, w374, n372, cs373, run375, S376, els377, ce378⟩ := S367.appendO (P := Tryz.prog) te22 (i := 0) (j := 2) rfl els368 rfl els64 hz370
           have S376 : St Ha wa H65 w374 [.row 9 1 v371 n372 cs373, .row 9 1 v57 n58 cs59, .row 9 1 v61 n62 cs63] := S376
           refine FL.v (E.append rfl rfl run375) ?_
           refine FL.v (E.move (v := Value.string r29.2.1) rfl) ?_
           obtain ⟨H379, S380, i381, h382, nv383⟩ := S376.sealRowU (i := 0) (l' := [.row 9 1 v57 n58 cs59, .row 9 1 v61 n62 cs63]) rfl els377 (by decide) rfl
           obtain ⟨r384, hr385, hp⟩ := bnd hp
           refine FL.call rfl rfl rfl (E.call Tryz.call101 (A2 rfl rfl)) (w_spec_l22Put S380.sl v371 xs369 (h382.mono upI) r29.2.1 hr385) ?_
           rintro e w387 ⟨H386, v390, rfl, r389, h391⟩
           refine ⟨_, rfl, ?_⟩
           have S388 := S380.call r389
           refine FL.v (E.assign (v := v390) rfl) ?_
           refine FL.nil ?_
           refine FW.ret ?_
           obtain rfl := Option.some.inj hp
           exact ⟨.inr rfl, res1 rfl rfl (by rw [hR361]; exact ⟨_, _, rfl, S388, (i381.tr r389.inc), h391⟩)⟩
          clear hq361
          refine FC.call (l' := (bs 10 63)) rfl (by kernel_rfl) rfl rfl rfl (E.call Tryz.call123 (A2 rfl rfl)) hc361 ?_
          intro e w395 hQ361
          rw [hR361] at hQ361
          obtain ⟨H392, v362, rfl, S393, i394, h363⟩ := hQ361
          refine ⟨_, rfl, ?_⟩
          refine ⟨(SP.nil (Sl.of_inc i394 S393.sl)), ?_⟩
          refine FB.all1 (i := 6) (by kernel_rfl) ?_
          ·
           refine FC.call (l' := (bs 10 127)) rfl (by kernel_rfl) rfl rfl rfl (E.call Tryz.call123 (A2 rfl rfl)) (w_spec_l23With S393.sl v362 s361 h363 r29.2.2 hr397) ?_
           rintro e w399 ⟨H398, v402, rfl, r401, h403⟩
           refine ⟨_, rfl, ?_⟩
           have S400 := S393.call r401
           refine ⟨(SP.nil (Sl.of_inc (i394.tr r401.inc) S400.sl)), ?_⟩
           refine FB.t (i := 7) (bs 10 255) rfl (SP.nil (Sl.of_inc (i394.tr r401.inc) S400.sl)) rfl (fun w' hw' => (E.build (B2 rfl rfl) (run_build _ 68 #[(0, v0_0), (1, v402)] #[v0_0, v402] (by obtain ⟨_, _, rfl⟩ := RSl.ln (p0_0.mono (((i27.tr i67).tr i394).tr r401.inc)); obtain ⟨_, _, rfl⟩ := RSl.ln h403; rfl)))) ?_
           refine FB.all1 (i := 8) (by kernel_rfl) ?_
           ·
            obtain ⟨v404, w405, run406, S407⟩ := S400.buildSlice (P := Tryz.prog) te172 [Value.agg #[v0_0, v402]] (parts := #[(0, Value.agg #[v0_0, v402])]) (cells := [v0_0, v402]) rfl (szs_cons rfl szs_nil) (fc_cons rfl fc_nil) (ones_cons p0_0.one (ones_cons h403.one ones_nil)) (Nat.le_of_ble_eq_true rfl)
            have els408 : Els H398 eSequent 2 [v0_0, v402] [(Sequent.mk a0.left r396)] := (Els.snoc (H := H398) (E := eSequent) (k := 2) (c := [v0_0, v402]) (x := (Sequent.mk a0.left r396)) Els.nil rfl ⟨_, _, rfl, (p0_0.mono (((i27.tr i67).tr i394).tr r401.inc)), h403⟩)
            refine FC.val (l' := (bs 10 511)) rfl (by kernel_rfl) rfl rfl rfl (E.buildSlice (B1 rfl) run406) ?_
            refine ⟨(SP.nil (Sl.of_inc (i394.tr r401.inc) S407.sl)), ?_⟩
            refine FB.t (i := 9) (bs 10 1023) rfl (SP.nil (Sl.of_inc (i394.tr r401.inc) S407.sl)) rfl (fun w' hw' => (E.assign (v := v404) rfl)) ?_
            exact FB.done (by kernel_rfl) ⟨_, _, _, _, (S407.sel [0] (by decide) rfl), (i394.tr r401.inc), els408, rfl⟩
        ·
         rintro f417 w416 ⟨H413, v409, n410, cs411, S414, i415, els412, k418⟩
         refine FW.ret ?_
         obtain rfl := Option.some.inj hp
         exact ⟨.inr rfl, res1 rfl k418 ⟨_, _, _, _, rfl, S414, els412⟩⟩
       ·
        refine FW.condF rfl c357 ?_
        refine FW.seq (FW.region ?_)
        refine FL.v (E.eql rfl rfl) ?_
        refine FL.v (E.assign (v := Value.bool (a1 == 8)) rfl) ?_
        refine FL.nil ?_
        rcases ifB hp with ⟨c419, hp⟩ | ⟨c419, hp⟩
        ·
         refine FW.condT rfl c419 ?_
         refine FW.seq ?_
         obtain ⟨r423, hr424, hp⟩ := bnd hp
         obtain ⟨r436, hr437, hp⟩ := bnd hp
         refine FW.drawB (Sl H65) (fun f w => ∃ H : GH, ∃ v449 : Value, ∃ n450 : Nat, ∃ cs451 : List Value, St Ha wa H w [.row 68 2 v449 n450 cs451] ∧ Inc H65 H ∧ Els H eSequent 2 cs451 [(Sequent.mk r37 r423), (Sequent.mk r436 a0.right)] ∧ f 6 = v449) (by kernel_rfl) S66.sl ?_ ?_
         ·
          intro w420 r421
          have S422 := S66.call r421
          refine FB.t (i := 0) (bs 14 1) rfl (SP.nil S422.sl) rfl (fun w' hw' => (E.move k76)) ?_
          refine FB.t (i := 1) (bs 14 3) rfl (SP.nil S422.sl) rfl (fun w' hw' => (E.fieldAddr tf68_1 k73)) ?_
          refine FB.t (i := 2) (bs 14 7) rfl (SP.nil S422.sl) rfl (fun w' hw' => (E.load rfl (run_load1 Tryz.isAgg22 ((at28.mono i67).now hw') rfl))) ?_
          refine FB.t (i := 3) (bs 14 15) rfl (SP.nil S422.sl) rfl (fun w' hw' => (E.move k74)) ?_
          refine FB.t (i := 6) (bs 14 79) rfl (SP.nil S422.sl) rfl (fun w' hw' => (E.move k76)) ?_
          refine FB.t (i := 7) (bs 14 207) rfl (SP.nil S422.sl) rfl (fun w' hw' => (E.move k75)) ?_
          refine FB.t (i := 9) (bs 14 719) rfl (SP.nil S422.sl) rfl (fun w' hw' => (E.fieldAddr tf68_1 k73)) ?_
          refine FB.t (i := 10) (bs 14 1743) rfl (SP.nil S422.sl) rfl (fun w' hw' => (E.load rfl (run_load1 Tryz.isAgg22 ((at28.mono i67).now hw') rfl))) ?_
          refine FB.all1 (i := 4) (by kernel_rfl) ?_
          ·
           refine FC.call (l' := (bs 14 1759)) rfl (by kernel_rfl) rfl rfl rfl (E.call Tryz.call123 (A2 rfl rfl)) (w_spec_l23With S422.sl v0_1 a0.right (p0_1.mono (i27.tr i67)) r29.2.1 hr424) ?_
           rintro e w426 ⟨H425, v429, rfl, r428, h430⟩
           refine ⟨_, rfl, ?_⟩
           have S427 := S422.call r428
           refine ⟨(SP.nil (Sl.of_inc r428.inc S427.sl)), ?_⟩
           obtain ⟨H431, S432, i433, h434, nv435⟩ := S427.sealRowU (i := 0) (l' := [.row 9 1 v61 n62 cs63]) rfl (els60.mono (up_mono r428.inc)) (by decide) rfl
           refine FB.t (i := 5) (bs 14 1791) rfl (SP.nil (Sl.of_inc r428.inc S427.sl)) rfl (fun w' hw' => (E.build (B2 rfl rfl) (run_build _ 68 #[(0, v57), (1, v429)] #[v57, v429] (by obtain ⟨_, _, rfl⟩ := RSl.ln (h434.mono upI); obtain ⟨_, _, rfl⟩ := RSl.ln (h430.mono i433); rfl)))) ?_
           refine FB.all1 (i := 8) (by kernel_rfl) ?_
           ·
            refine FC.call (l' := (bs 14 2047)) rfl (by kernel_rfl) rfl rfl rfl (E.call Tryz.call123 (A2 rfl rfl)) (w_spec_l23With S432.sl v57 r37 (h434.mono upI) r29.2.2 hr437) ?_
            rintro e w439 ⟨H438, v442, rfl, r441, h443⟩
            refine ⟨_, rfl, ?_⟩
            have S440 := S432.call r441
            refine ⟨(SP.nil (Sl.of_inc ((r428.inc.tr i433).tr r441.inc) S440.sl)), ?_⟩
            refine FB.t (i := 11) (bs 14 4095) rfl (SP.nil (Sl.of_inc ((r428.inc.tr i433).tr r441.inc) S440.sl)) rfl (fun w' hw' => (E.build (B2 rfl rfl) (run_build _ 68 #[(0, v442), (1, v0_1)] #[v442, v0_1] (by obtain ⟨_, _, rfl⟩ := RSl.ln h443; obtain ⟨_, _, rfl⟩ := RSl.ln (p0_1.mono ((((i27.tr i67).tr r428.inc).tr i433).tr r441.inc)); rfl)))) ?_
            refine FB.all1 (i := 12) (by kernel_rfl) ?_
            ·
             obtain ⟨v444, w445, run446, S447⟩ := S440.buildSlice (P := Tryz.prog) te172 [Value.agg #[v57, v429], Value.agg #[v442, v0_1]] (parts := #[(0, Value.agg #[v57, v429]), (1, Value.agg #[v442, v0_1])]) (cells := [v57, v429, v442, v0_1]) rfl (szs_cons rfl (szs_cons rfl szs_nil)) (fc_cons rfl (fc_cons rfl fc_nil)) (ones_cons h434.one (ones_cons h430.one (ones_cons h443.one (ones_cons p0_1.one ones_nil)))) (Nat.le_of_ble_eq_true rfl)
             have els448 : Els H438 eSequent 2 [v57, v429, v442, v0_1] [(Sequent.mk r37 r423), (Sequent.mk r436 a0.right)] := (Els.snoc (H := H438) (E := eSequent) (k := 2) (c := [v442, v0_1]) (x := (Sequent.mk r436 a0.right)) (Els.snoc (H := H438) (E := eSequent) (k := 2) (c := [v57, v429]) (x := (Sequent.mk r37 r423)) Els.nil rfl ⟨_, _, rfl, (h434.mono (upI.tr r441.inc)), (h430.mono (i433.tr r441.inc))⟩) rfl ⟨_, _, rfl, h443, (p0_1.mono ((((i27.tr i67).tr r428.inc).tr i433).tr r441.inc))⟩)
             refine FC.val (l' := (bs 14 8191)) rfl (by kernel_rfl) rfl rfl rfl (E.buildSlice (B2 rfl rfl) run446) ?_
             refine ⟨(SP.nil (Sl.of_inc ((r428.inc.tr i433).tr r441.inc) S447.sl)), ?_⟩
             refine FB.t (i := 13) (bs 14 16383) rfl (SP.nil (Sl.of_inc ((r428.inc.tr i433).tr r441.inc) S447.sl)) rfl (fun w' hw' => (E.assign (v := v444) rfl)) ?_
             exact FB.done (by kernel_rfl) ⟨_, _, _, _, (S447.sel [0] (by decide) rfl), ((r428.inc.tr i433).tr r441.inc), els448, rfl⟩
         ·
          rintro f457 w456 ⟨H453, v449, n450, cs451, S454, i455, els452, k458⟩
          refine FW.ret ?_
          obtain rfl := Option.some.inj hp
          exact ⟨.inr rfl, res1 rfl k458 ⟨_, _, _, _, rfl, S454, els452⟩⟩
        ·
         refine FW.condF rfl c419 ?_
         refine FW.seq (FW.region ?_)
         refine FL.v (E.eql rfl rfl) ?_
         refine FL.v (E.assign (v := Value.bool (a1 == 9)) rfl) ?_
         refine FL.nil ?_
         rcases ifB hp with ⟨c459, hp⟩ | ⟨c459, hp⟩
         ·
          refine FW.condT rfl c459 ?_
          refine FW.seq (FW.region ?_)
          refine FL.v (E.fieldAddr tf68_0 k73) ?_
          refine FL.v (E.load rfl (run_load1 Tryz.isAgg22 ((at28.mono i67).now S66.sl) rfl)) ?_
          refine FL.v (E.move k74) ?_
          obtain ⟨r460, hr461, hp⟩ := bnd hp
          refine FL.call rfl rfl rfl (E.call Tryz.call123 (A2 rfl rfl)) (w_spec_l23With S66.sl v0_0 a0.left (p0_0.mono (i27.tr i67)) r29.2.1 hr461) ?_
          rintro e w463 ⟨H462, v466, rfl, r465, h467⟩
          refine ⟨_, rfl, ?_⟩
          have S464 := S66.call r465
          refine FL.v (E.move k77) ?_
          refine FL.v (E.move k75) ?_
          obtain ⟨s468, hq468, hp⟩ := bnd hp
          obtain ⟨R468, hR468⟩ : ∃ R468 : (List ByteArray) → Ending → World → Prop, R468 = (fun s468 e w => ∃ H : GH, ∃ v469 : Value, e = Ending.returned (v469) ∧ St Ha wa H w [.row 9 1 v57 n58 cs59, .row 9 1 v61 n62 cs63] ∧ Inc H462 H ∧ RSl H eS 1 v469 s468) := ⟨_, rfl⟩
          have hc468 : Calls Tryz.prog 123 #[v61, Value.string r29.2.2] w463 (R468 s468) := by
           clear hp; have hp := hq468; clear hq468
           refine calls_go (N := 10) (args := [v61, Value.string r29.2.2]) Tryz.func123 rfl rfl rfl ?_
           refine FW.seq (FW.region ?_)
           refine FL.v (E.assign (v := Value.slice none 0 0) rfl) ?_
           refine FL.nil (FW.seq (FW.region ?_))
           obtain ⟨v471, w472, run473, S474⟩ := S464.buildSlice (P := Tryz.prog) te22 [] (parts := #[]) (cells := []) rfl szs_nil fc_nil ones_nil (Nat.le_of_ble_eq_true rfl)
           have els475 : Els (up wa.heap.size H462) eS 1 [] [] := Els.nil
           refine FL.v (E.buildSlice (B0) run473) ?_
           refine FL.v (E.move (v := v61) rfl) ?_
           obtain ⟨xs476, hz477, hp⟩ := bnd hp
           obtain ⟨v478, w481, n479, cs480, run482, S483, els484, ce485⟩ := S474.appendO (P := Tryz.prog) te22 (i := 0) (j := 2) rfl els475 rfl (els64.mono (up_mono r465.inc)) hz477
           have S483 : St Ha wa H462 w481 [.row 9 1 v478 n479 cs480, .row 9 1 v57 n58 cs59, .row 9 1 v61 n62 cs63] := S483
           refine FL.v (E.append rfl rfl run482) ?_
           refine FL.v (E.move (v := Value.string r29.2.2) rfl) ?_
           obtain ⟨H486, S487, i488, h489, nv490⟩ := S483.sealRowU (i := 0) (l' := [.row 9 1 v57 n58 cs59, .row 9 1 v61 n62 cs63]) rfl els484 (by decide) rfl
           obtain ⟨r491, hr492, hp⟩ := bnd hp
           refine FL.call rfl rfl rfl (E.call Tryz.call101 (A2 rfl rfl)) (w_spec_l22Put S487.sl v478 xs476 (h489.mono upI) r29.2.2 hr492) ?_
           rintro e w494 ⟨H493, v497, rfl, r496, h498⟩
           refine ⟨_, rfl, ?_⟩
           have S495 := S487.call r496
           refine FL.v (E.assign (v := v497) rfl) ?_
           refine FL.nil ?_
           refine FW.ret ?_
           obtain rfl := Option.some.inj hp
           exact ⟨.inr rfl, res1 rfl rfl (by rw [hR468]; exact ⟨_, _, rfl, S495, (i488.tr r496.inc), h498⟩)⟩
          clear hq468
          refine FL.call rfl rfl rfl (E.call Tryz.call123 (A2 rfl rfl)) hc468 ?_
          intro e w502 hQ468
          rw [hR468] at hQ468
          obtain ⟨H499, v469, rfl, S500, i501, h470⟩ := hQ468
          refine ⟨_, rfl, ?_⟩
          refine FL.v (E.build (B2 rfl rfl) (run_build _ 68 #[(0, v466), (1, v469)] #[v466, v469] (by obtain ⟨_, _, rfl⟩ := RSl.ln (h467.mono i501); obtain ⟨_, _, rfl⟩ := RSl.ln h470; rfl))) ?_
          obtain ⟨v503, w504, run505, S506⟩ := S500.buildSlice (P := Tryz.prog) te172 [Value.agg #[v466, v469]] (parts := #[(0, Value.agg #[v466, v469])]) (cells := [v466, v469]) rfl (szs_cons rfl szs_nil) (fc_cons rfl fc_nil) (ones_cons h467.one (ones_cons h470.one ones_nil)) (Nat.le_of_ble_eq_true rfl)
          have els507 : Els H499 eSequent 2 [v466, v469] [(Sequent.mk r460 s468)] := (Els.snoc (H := H499) (E := eSequent) (k := 2) (c := [v466, v469]) (x := (Sequent.mk r460 s468)) Els.nil rfl ⟨_, _, rfl, (h467.mono i501), h470⟩)
          refine FL.v (E.buildSlice (B1 rfl) run505) ?_
          refine FL.v (E.assign (v := v503) rfl) ?_
          refine FL.nil ?_
          refine FW.ret ?_
          obtain rfl := Option.some.inj hp
          exact ⟨.inr rfl, res1 rfl rfl ⟨_, _, _, _, rfl, (S506.sel [0] (by decide) rfl), els507⟩⟩
         ·
          refine FW.condF rfl c459 ?_
          refine FW.skip (FW.seq ?_)
          obtain ⟨r511, hr512, hp⟩ := bnd hp
          obtain ⟨r519, hr520, hp⟩ := bnd hp
          refine FW.drawB (Sl H65) (fun f w => ∃ H : GH, ∃ v532 : Value, ∃ n533 : Nat, ∃ cs534 : List Value, St Ha wa H w [.row 68 2 v532 n533 cs534] ∧ Inc H65 H ∧ Els H eSequent 2 cs534 [(Sequent.mk a0.left r511), (Sequent.mk r519 a0.right)] ∧ f 6 = v532) (by kernel_rfl) S66.sl ?_ ?_
          ·
           intro w508 r509
           have S510 := S66.call r509
           refine FB.t (i := 0) (bs 16 1) rfl (SP.nil S510.sl) rfl (fun w' hw' => (E.fieldAddr tf68_0 k73)) ?_
           refine FB.t (i := 1) (bs 16 3) rfl (SP.nil S510.sl) rfl (fun w' hw' => (E.load rfl (run_load1 Tryz.isAgg22 ((at28.mono i67).now hw') rfl))) ?_
           refine FB.t (i := 2) (bs 16 7) rfl (SP.nil S510.sl) rfl (fun w' hw' => (E.fieldAddr tf68_1 k73)) ?_
           refine FB.t (i := 3) (bs 16 15) rfl (SP.nil S510.sl) rfl (fun w' hw' => (E.load rfl (run_load1 Tryz.isAgg22 ((at28.mono i67).now hw') rfl))) ?_
           refine FB.t (i := 4) (bs 16 31) rfl (SP.nil S510.sl) rfl (fun w' hw' => (E.move k72)) ?_
           refine FB.t (i := 7) (bs 16 159) rfl (SP.nil S510.sl) rfl (fun w' hw' => (E.fieldAddr tf68_0 k73)) ?_
           refine FB.t (i := 8) (bs 16 415) rfl (SP.nil S510.sl) rfl (fun w' hw' => (E.load rfl (run_load1 Tryz.isAgg22 ((at28.mono i67).now hw') rfl))) ?_
           refine FB.t (i := 9) (bs 16 927) rfl (SP.nil S510.sl) rfl (fun w' hw' => (E.move k72)) ?_
           refine FB.t (i := 11) (bs 16 2975) rfl (SP.nil S510.sl) rfl (fun w' hw' => (E.fieldAddr tf68_1 k73)) ?_
           refine FB.t (i := 12) (bs 16 7071) rfl (SP.nil S510.sl) rfl (fun w' hw' => (E.load rfl (run_load1 Tryz.isAgg22 ((at28.mono i67).now hw') rfl))) ?_
           refine FB.all1 (i := 5) (by kernel_rfl) ?_
           ·
            refine FC.call (l' := (bs 16 7103)) rfl (by kernel_rfl) rfl rfl rfl (E.call Tryz.call123 (A2 rfl rfl)) (w_spec_l23With S510.sl v0_1 a0.right (p0_1.mono (i27.tr i67)) a2 hr512) ?_
            rintro e w514 ⟨H513, v517, rfl, r516, h518⟩
            refine ⟨_, rfl, ?_⟩
            have S515 := S510.call r516
            refine ⟨(SP.nil (Sl.of_inc r516.inc S515.sl)), ?_⟩
            refine FB.t (i := 6) (bs 16 7167) rfl (SP.nil (Sl.of_inc r516.inc S515.sl)) rfl (fun w' hw' => (E.build (B2 rfl rfl) (run_build _ 68 #[(0, v0_0), (1, v517)] #[v0_0, v517] (by obtain ⟨_, _, rfl⟩ := RSl.ln (p0_0.mono ((i27.tr i67).tr r516.inc)); obtain ⟨_, _, rfl⟩ := RSl.ln h518; rfl)))) ?_
            refine FB.all1 (i := 10) (by kernel_rfl) ?_
            ·
             refine FC.call (l' := (bs 16 8191)) rfl (by kernel_rfl) rfl rfl rfl (E.call Tryz.call123 (A2 rfl rfl)) (w_spec_l23With S515.sl v0_0 a0.left (p0_0.mono ((i27.tr i67).tr r516.inc)) a2 hr520) ?_
             rintro e w522 ⟨H521, v525, rfl, r524, h526⟩
             refine ⟨_, rfl, ?_⟩
             have S523 := S515.call r524
             refine ⟨(SP.nil (Sl.of_inc (r516.inc.tr r524.inc) S523.sl)), ?_⟩
             refine FB.t (i := 13) (bs 16 16383) rfl (SP.nil (Sl.of_inc (r516.inc.tr r524.inc) S523.sl)) rfl (fun w' hw' => (E.build (B2 rfl rfl) (run_build _ 68 #[(0, v525), (1, v0_1)] #[v525, v0_1] (by obtain ⟨_, _, rfl⟩ := RSl.ln h526; obtain ⟨_, _, rfl⟩ := RSl.ln (p0_1.mono (((i27.tr i67).tr r516.inc).tr r524.inc)); rfl)))) ?_
             refine FB.all1 (i := 14) (by kernel_rfl) ?_
             ·
              obtain ⟨v527, w528, run529, S530⟩ := S523.buildSlice (P := Tryz.prog) te172 [Value.agg #[v0_0, v517], Value.agg #[v525, v0_1]] (parts := #[(0, Value.agg #[v0_0, v517]), (1, Value.agg #[v525, v0_1])]) (cells := [v0_0, v517, v525, v0_1]) rfl (szs_cons rfl (szs_cons rfl szs_nil)) (fc_cons rfl (fc_cons rfl fc_nil)) (ones_cons p0_0.one (ones_cons h518.one (ones_cons h526.one (ones_cons p0_1.one ones_nil)))) (Nat.le_of_ble_eq_true rfl)
              have els531 : Els H521 eSequent 2 [v0_0, v517, v525, v0_1] [(Sequent.mk a0.left r511), (Sequent.mk r519 a0.right)] := (Els.snoc (H := H521) (E := eSequent) (k := 2) (c := [v525, v0_1]) (x := (Sequent.mk r519 a0.right)) (Els.snoc (H := H521) (E := eSequent) (k := 2) (c := [v0_0, v517]) (x := (Sequent.mk a0.left r511)) Els.nil rfl ⟨_, _, rfl, (p0_0.mono (((i27.tr i67).tr r516.inc).tr r524.inc)), (h518.mono r524.inc)⟩) rfl ⟨_, _, rfl, h526, (p0_1.mono (((i27.tr i67).tr r516.inc).tr r524.inc))⟩)
              refine FC.val (l' := (bs 16 32767)) rfl (by kernel_rfl) rfl rfl rfl (E.buildSlice (B2 rfl rfl) run529) ?_
              refine ⟨(SP.nil (Sl.of_inc (r516.inc.tr r524.inc) S530.sl)), ?_⟩
              refine FB.t (i := 15) (bs 16 65535) rfl (SP.nil (Sl.of_inc (r516.inc.tr r524.inc) S530.sl)) rfl (fun w' hw' => (E.assign (v := v527) rfl)) ?_
              exact FB.done (by kernel_rfl) ⟨_, _, _, _, (S530.sel [0] (by decide) rfl), (r516.inc.tr r524.inc), els531, rfl⟩
          ·
           rintro f540 w539 ⟨H536, v532, n533, cs534, S537, i538, els535, k541⟩
           refine FW.ret ?_
           obtain rfl := Option.some.inj hp
           exact ⟨.inr rfl, res1 rfl k541 ⟨_, _, _, _, rfl, S537, els535⟩⟩

set_option maxHeartbeats 4000000 in
theorem w_spec_l23Text {Ha : GH} {wa : World} (hs : Sl Ha wa) (a0 : Sequent) (v0_0 : Value) (p0_0 : RSl Ha eS 1 v0_0 a0.left) (v0_1 : Value) (p0_1 : RSl Ha eS 1 v0_1 a0.right) {r : ByteArray} (hp : (PF.spec_l23Text a0) = some r) :
  Calls Tryz.prog 240 #[Value.agg #[v0_0, v0_1]] wa (Sc Ha wa (Value.string r)) := by
 unfold PF.spec_l23Text at hp
 have S0 := St.init hs
 refine calls_go (N := 45) (args := [Value.agg #[v0_0, v0_1]]) Tryz.func240 rfl rfl rfl ?_
 refine FW.seq (FW.region ?_)
 obtain ⟨b21, w22, run23, S24⟩ := S0.box (P := Tryz.prog) 68 [v0_0, v0_1] (v := Value.agg #[v0_0, v0_1]) rfl (ones_cons p0_0.one (ones_cons p0_1.one ones_nil))
 refine FL.v (E.box rfl run23) ?_
 obtain ⟨H25, S26, i27, at28⟩ := S24.sealBox (i := 0) (l' := []) rfl rfl
 refine FL.v (E.assign (v := Value.string (ByteArray.mk #[])) rfl) ?_
 refine FL.nil (FW.seq (FW.region ?_))
 refine FL.v (E.assign (v := Value.string (ByteArray.mk #[])) rfl) ?_
 refine FL.nil (FW.seq (FW.seq (FW.region ?_)))
 refine FL.v (E.assign (v := Value.int .i64 0) rfl) ?_
 refine FL.nil ?_
 obtain ⟨q29, hq, hp⟩ := bndR hp
 refine FW.block ?_
 refine FW.mono (FW.iter (S := (ByteArray × Int)) (X := Empty) (fun (s29 : (ByteArray × Int)) f w => ∃ H : GH, St Ha wa H w [] ∧ Inc H25 H ∧ f 1 = Value.pointer (some ⟨b21, 0, none⟩) ∧ f 3 = Value.string s29.1 ∧ f 4 = Value.int .i64 s29.2) (fun (q : Rs (ByteArray × Int) Empty) e f w => match q with | .go s29 => e = Exit.exit 0 ∧ (∃ H : GH, St Ha wa H w [] ∧ Inc H25 H ∧ f 1 = Value.pointer (some ⟨b21, 0, none⟩) ∧ f 3 = Value.string s29.1) | .rt x => x.elim) hq ⟨_, S26, (Inc.rfl _), rfl, rfl, rfl⟩ ?_) ?_
 ·
  clear hp hq
  rintro s29 f66 w65 ⟨H62, S63, i64, k67, k68, k69⟩ o94 hp
  refine FW.seq (FW.seq (FW.region ?_))
  refine FL.v (E.move k69) ?_
  refine FL.v (E.fieldAddr tf68_0 k67) ?_
  refine FL.v (E.load rfl (run_load1 Tryz.isAgg22 ((at28.mono i64).now S63.sl) rfl)) ?_
  refine FL.v (E.lenP te22 rfl p0_0) ?_
  refine FL.v (E.lss rfl rfl) ?_
  refine FL.nil ?_
  rcases ifB hp with ⟨c70, hp⟩ | ⟨c70, hp⟩
  ·
   refine FW.condT rfl c70 ?_
   refine FW.skip (FW.seq (FW.block (FW.seq (FW.seq (FW.region ?_)))))
   refine FL.v (E.move k69) ?_
   refine FL.v (E.gtr rfl rfl) ?_
   refine FL.nil ?_
   rcases ifB hp with ⟨c71, hp⟩ | ⟨c71, hp⟩
   ·
    refine FW.condT rfl c71 ?_
    refine FW.region ?_
    refine FL.v (E.move k68) ?_
    obtain ⟨z72, h73, hp⟩ := bnd hp
    refine FL.v (E.addT rfl rfl h73) ?_
    refine FL.v (E.assign (v := Value.string z72) rfl) ?_
    refine FL.nil (FW.region ?_)
    refine FL.v (E.move (v := Value.string z72) rfl) ?_
    refine FL.v (E.fieldAddr tf68_0 k67) ?_
    refine FL.v (E.load rfl (run_load1 Tryz.isAgg22 ((at28.mono i64).now S63.sl) rfl)) ?_
    refine FL.v (E.move k69) ?_
    obtain ⟨x80, hx81, hp⟩ := bnd hp
    obtain ⟨p74, cs75, pt76, l77, at78, rel79⟩ := p0_0.at hx81
    obtain rfl := eS_open rel79
    refine FL.v (E.indexAddr te22 rfl rfl pt76) ?_
    refine FL.v (E.load rfl (run_load0 Tryz.isAgg9 ((at78.mono (i27.tr i64)).now S63.sl) rfl)) ?_
    obtain ⟨z82, h83, hp⟩ := bnd hp
    refine FL.v (E.addT rfl rfl h83) ?_
    refine FL.v (E.assign (v := Value.string z82) rfl) ?_
    refine FL.nil (FW.region ?_)
    refine FL.v (E.move k69) ?_
    refine FL.v (E.add rfl rfl) ?_
    refine FL.v (E.assign (v := Value.int .i64 (wr (s29.2 + 1))) rfl) ?_
    refine FL.nil ?_
    obtain rfl := Option.some.inj hp
    exact ⟨rfl, ⟨_, S63, i64, k67, rfl, rfl⟩⟩
   ·
    refine FW.condF rfl c71 ?_
    refine FW.skip (FW.region ?_)
    refine FL.v (E.move k68) ?_
    refine FL.v (E.fieldAddr tf68_0 k67) ?_
    refine FL.v (E.load rfl (run_load1 Tryz.isAgg22 ((at28.mono i64).now S63.sl) rfl)) ?_
    refine FL.v (E.move k69) ?_
    obtain ⟨x90, hx91, hp⟩ := bnd hp
    obtain ⟨p84, cs85, pt86, l87, at88, rel89⟩ := p0_0.at hx91
    obtain rfl := eS_open rel89
    refine FL.v (E.indexAddr te22 rfl rfl pt86) ?_
    refine FL.v (E.load rfl (run_load0 Tryz.isAgg9 ((at88.mono (i27.tr i64)).now S63.sl) rfl)) ?_
    obtain ⟨z92, h93, hp⟩ := bnd hp
    refine FL.v (E.addT rfl rfl h93) ?_
    refine FL.v (E.assign (v := Value.string z92) rfl) ?_
    refine FL.nil (FW.region ?_)
    refine FL.v (E.move k69) ?_
    refine FL.v (E.add rfl rfl) ?_
    refine FL.v (E.assign (v := Value.int .i64 (wr (s29.2 + 1))) rfl) ?_
    refine FL.nil ?_
    obtain rfl := Option.some.inj hp
    exact ⟨rfl, ⟨_, S63, i64, k67, rfl, rfl⟩⟩
  ·
   refine FW.condF rfl c70 ?_
   refine FW.exit ?_
   obtain rfl := Option.some.inj hp
   exact ⟨nofun, rfl, ⟨_, S63, i64, k67, k68⟩⟩
 ·
  clear hq
  intro e f99 w98 hD
  rcases q29 with s29 | x29
  ·
   obtain ⟨rfl, hD⟩ := hD
   obtain ⟨H95, S96, i97, k100, k101⟩ := hD
   replace hp := el_go hp
   refine FW.seq (FW.region ?_)
   refine FL.v (E.move k101) ?_
   obtain ⟨z102, h103, hp⟩ := bnd hp
   refine FL.v (E.addT rfl rfl h103) ?_
   refine FL.v (E.assign (v := Value.string z102) rfl) ?_
   refine FL.nil (FW.seq (FW.seq (FW.region ?_)))
   refine FL.v (E.assign (v := Value.int .i64 0) rfl) ?_
   refine FL.nil ?_
   obtain ⟨q104, hq, hp⟩ := bndR hp
   refine FW.block ?_
   refine FW.mono (FW.iter (S := (ByteArray × Int)) (X := Empty) (fun (s104 : (ByteArray × Int)) f w => ∃ H : GH, St Ha wa H w [] ∧ Inc H95 H ∧ f 1 = Value.pointer (some ⟨b21, 0, none⟩) ∧ f 3 = Value.string s104.1 ∧ f 5 = Value.int .i64 s104.2) (fun (q : Rs (ByteArray × Int) Empty) e f w => match q with | .go s104 => e = Exit.exit 2 ∧ (∃ H : GH, St Ha wa H w [] ∧ Inc H95 H ∧ f 3 = Value.string s104.1) | .rt x => x.elim) hq ⟨_, S96, (Inc.rfl _), k100, rfl, rfl⟩ ?_) ?_
   ·
    clear hp hq
    rintro s104 f141 w140 ⟨H137, S138, i139, k142, k143, k144⟩ o169 hp
    refine FW.seq (FW.seq (FW.region ?_))
    refine FL.v (E.move k144) ?_
    refine FL.v (E.fieldAddr tf68_1 k142) ?_
    refine FL.v (E.load rfl (run_load1 Tryz.isAgg22 ((at28.mono (i97.tr i139)).now S138.sl) rfl)) ?_
    refine FL.v (E.lenP te22 rfl p0_1) ?_
    refine FL.v (E.lss rfl rfl) ?_
    refine FL.nil ?_
    rcases ifB hp with ⟨c145, hp⟩ | ⟨c145, hp⟩
    ·
     refine FW.condT rfl c145 ?_
     refine FW.skip (FW.seq (FW.block (FW.seq (FW.seq (FW.region ?_)))))
     refine FL.v (E.move k144) ?_
     refine FL.v (E.gtr rfl rfl) ?_
     refine FL.nil ?_
     rcases ifB hp with ⟨c146, hp⟩ | ⟨c146, hp⟩
     ·
      refine FW.condT rfl c146 ?_
      refine FW.region ?_
      refine FL.v (E.move k143) ?_
      obtain ⟨z147, h148, hp⟩ := bnd hp
      refine FL.v (E.addT rfl rfl h148) ?_
      refine FL.v (E.assign (v := Value.string z147) rfl) ?_
      refine FL.nil (FW.region ?_)
      refine FL.v (E.move (v := Value.string z147) rfl) ?_
      refine FL.v (E.fieldAddr tf68_1 k142) ?_
      refine FL.v (E.load rfl (run_load1 Tryz.isAgg22 ((at28.mono (i97.tr i139)).now S138.sl) rfl)) ?_
      refine FL.v (E.move k144) ?_
      obtain ⟨x155, hx156, hp⟩ := bnd hp
      obtain ⟨p149, cs150, pt151, l152, at153, rel154⟩ := p0_1.at hx156
      obtain rfl := eS_open rel154
      refine FL.v (E.indexAddr te22 rfl rfl pt151) ?_
      refine FL.v (E.load rfl (run_load0 Tryz.isAgg9 ((at153.mono ((i27.tr i97).tr i139)).now S138.sl) rfl)) ?_
      obtain ⟨z157, h158, hp⟩ := bnd hp
      refine FL.v (E.addT rfl rfl h158) ?_
      refine FL.v (E.assign (v := Value.string z157) rfl) ?_
      refine FL.nil (FW.region ?_)
      refine FL.v (E.move k144) ?_
      refine FL.v (E.add rfl rfl) ?_
      refine FL.v (E.assign (v := Value.int .i64 (wr (s104.2 + 1))) rfl) ?_
      refine FL.nil ?_
      obtain rfl := Option.some.inj hp
      exact ⟨rfl, ⟨_, S138, i139, k142, rfl, rfl⟩⟩
     ·
      refine FW.condF rfl c146 ?_
      refine FW.skip (FW.region ?_)
      refine FL.v (E.move k143) ?_
      refine FL.v (E.fieldAddr tf68_1 k142) ?_
      refine FL.v (E.load rfl (run_load1 Tryz.isAgg22 ((at28.mono (i97.tr i139)).now S138.sl) rfl)) ?_
      refine FL.v (E.move k144) ?_
      obtain ⟨x165, hx166, hp⟩ := bnd hp
      obtain ⟨p159, cs160, pt161, l162, at163, rel164⟩ := p0_1.at hx166
      obtain rfl := eS_open rel164
      refine FL.v (E.indexAddr te22 rfl rfl pt161) ?_
      refine FL.v (E.load rfl (run_load0 Tryz.isAgg9 ((at163.mono ((i27.tr i97).tr i139)).now S138.sl) rfl)) ?_
      obtain ⟨z167, h168, hp⟩ := bnd hp
      refine FL.v (E.addT rfl rfl h168) ?_
      refine FL.v (E.assign (v := Value.string z167) rfl) ?_
      refine FL.nil (FW.region ?_)
      refine FL.v (E.move k144) ?_
      refine FL.v (E.add rfl rfl) ?_
      refine FL.v (E.assign (v := Value.int .i64 (wr (s104.2 + 1))) rfl) ?_
      refine FL.nil ?_
      obtain rfl := Option.some.inj hp
      exact ⟨rfl, ⟨_, S138, i139, k142, rfl, rfl⟩⟩
    ·
     refine FW.condF rfl c145 ?_
     refine FW.exit ?_
     obtain rfl := Option.some.inj hp
     exact ⟨nofun, rfl, ⟨_, S138, i139, k143⟩⟩
   ·
    clear hq
    intro e f174 w173 hD
    rcases q104 with s104 | x104
    ·
     obtain ⟨rfl, hD⟩ := hD
     obtain ⟨H170, S171, i172, k175⟩ := hD
     replace hp := el_go hp
     refine FW.seq (FW.region ?_)
     refine FL.v (E.move k175) ?_
     refine FL.v (E.assign (v := Value.string s104.1) rfl) ?_
     refine FL.nil ?_
     refine FW.ret ?_
     obtain rfl := Option.some.inj hp
     exact ⟨.inr rfl, res1 rfl rfl ⟨rfl, S171.back⟩⟩
    ·
     exact x104.elim
  ·
   exact x29.elim

theorem w_spec_l23Same {Ha : GH} {wa : World} (hs : Sl Ha wa) (a0 : Sequent) (v0_0 : Value) (p0_0 : RSl Ha eS 1 v0_0 a0.left) (v0_1 : Value) (p0_1 : RSl Ha eS 1 v0_1 a0.right) (a1 : Sequent) (v1_0 : Value) (p1_0 : RSl Ha eS 1 v1_0 a1.left) (v1_1 : Value) (p1_1 : RSl Ha eS 1 v1_1 a1.right) {r : Bool} (hp : (PF.spec_l23Same a0 a1) = some r) :
  Calls Tryz.prog 193 #[Value.agg #[v0_0, v0_1], Value.agg #[v1_0, v1_1]] wa (Sc Ha wa (Value.bool r)) := by
 unfold PF.spec_l23Same at hp
 have S0 := St.init hs
 refine calls_go (N := 10) (args := [Value.agg #[v0_0, v0_1], Value.agg #[v1_0, v1_1]]) Tryz.func193 rfl rfl rfl ?_
 refine FW.seq (FW.region ?_)
 obtain ⟨b21, w22, run23, S24⟩ := S0.box (P := Tryz.prog) 68 [v0_0, v0_1] (v := Value.agg #[v0_0, v0_1]) rfl (ones_cons p0_0.one (ones_cons p0_1.one ones_nil))
 refine FL.v (E.box rfl run23) ?_
 obtain ⟨H25, S26, i27, at28⟩ := S24.sealBox (i := 0) (l' := []) rfl rfl
 obtain ⟨b29, w30, run31, S32⟩ := S26.box (P := Tryz.prog) 68 [v1_0, v1_1] (v := Value.agg #[v1_0, v1_1]) rfl (ones_cons p1_0.one (ones_cons p1_1.one ones_nil))
 refine FL.v (E.box rfl run31) ?_
 obtain ⟨H33, S34, i35, at36⟩ := S32.sealBox (i := 0) (l' := []) rfl rfl
 refine FL.v (E.assign (v := Value.bool false) rfl) ?_
 refine FL.nil (FW.seq ?_)
 refine FW.draw (fun w' => Run w30.heap.size H33 w30 H33 w') (by kernel_rfl) (by kernel_rfl) (run_drew S34.sl) ?_
 refine FD.val rfl rfl rfl (fun w' hw' => (E.load rfl (run_loadA Tryz.isAgg68 Tryz.sizeOf68 ((at28.mono i35).now (S34.call hw').sl) rfl))) ?_
 obtain ⟨r38, hr39, hp⟩ := bnd hp
 refine FD.call rfl rfl rfl (fun w' hw' => (E.call Tryz.call240 (A1 rfl))) (fun w' hw' => Calls.cls hw' (w_spec_l23Text (S34.call hw').sl a0 v0_0 (p0_0.mono (i27.tr i35)) v0_1 (p0_1.mono (i27.tr i35)) hr39)) ?_
 refine FD.val rfl rfl rfl (fun w' hw' => (E.load rfl (run_loadA Tryz.isAgg68 Tryz.sizeOf68 (at36.now (S34.call hw').sl) rfl))) ?_
 obtain ⟨r40, hr41, hp⟩ := bnd hp
 refine FD.call rfl rfl rfl (fun w' hw' => (E.call Tryz.call240 (A1 rfl))) (fun w' hw' => Calls.cls hw' (w_spec_l23Text (S34.call hw').sl a1 v1_0 (p1_0.mono (i27.tr i35)) v1_1 (p1_1.mono (i27.tr i35)) hr41)) ?_
 refine FD.val rfl rfl rfl (fun w' hw' => (E.eqlS rfl rfl)) ?_
 refine FD.val rfl rfl rfl (fun w' hw' => (E.assign (v := Value.bool (r38.toList == r40.toList)) rfl)) ?_
 refine FD.nil ?_
 intro w42 r44
 have S43 := S34.call r44
 refine FW.ret ?_
 obtain rfl := Option.some.inj hp
 exact ⟨.inr rfl, res1 rfl rfl ⟨rfl, S43.back⟩⟩

set_option maxHeartbeats 4000000 in
theorem w_spec_l23Correct {Ha : GH} {wa : World} (hs : Sl Ha wa) (v0 : Value) (a0 : List SeqStep) (p0 : RSl Ha eSeqStep 6 v0 a0) (a1 : Int) {r : Bool} (hp : (PF.spec_l23Correct a0 a1) = some r) :
  Calls Tryz.prog 157 #[v0, Value.int .i64 a1] wa (Sc Ha wa (Value.bool r)) := by
 unfold PF.spec_l23Correct at hp
 have S0 := St.init hs
 refine calls_go (N := 160) (args := [v0, Value.int .i64 a1]) Tryz.func157 rfl rfl rfl ?_
 refine FW.seq (FW.region ?_)
 refine FL.v (E.assign (v := Value.bool false) rfl) ?_
 refine FL.nil (FW.seq (FW.region ?_))
 refine FL.v (E.move (v := v0) rfl) ?_
 refine FL.v (E.move (v := Value.int .i64 a1) rfl) ?_
 obtain ⟨x27, hx28, hp⟩ := bnd hp
 obtain ⟨p21, cs22, pt23, l24, at25, rel26⟩ := p0.at hx28
 obtain ⟨v29, v31, rfl, h30, h32⟩ := eSeqStep_open rel26
 refine FL.v (E.indexAddr te24 rfl rfl pt23) ?_
 refine FL.v (E.load rfl (run_loadA Tryz.isAgg74 Tryz.sizeOf74 (at25.now S0.sl) rfl)) ?_
 obtain ⟨b33, w34, run35, S36⟩ := S0.alloc (P := Tryz.prog) 74 [Value.slice none 0 0, Value.slice none 0 0, Value.int .i64 0, Value.string ByteArray.empty, Value.int .i64 0, Value.int .i64 0] Tryz.zeroValue74 rfl (ones_cons rfl (ones_cons rfl (ones_cons rfl (ones_cons rfl (ones_cons rfl (ones_cons rfl ones_nil))))))
 refine FL.v (E.alloc run35) ?_
 obtain ⟨w37, run38, S39⟩ := S36.store0 (P := Tryz.prog) (t := 74) (i := 0) (cs' := [v29, v31, Value.int .i64 x27.rule, Value.string x27.main, Value.int .i64 x27.a, Value.int .i64 x27.b]) (l' := [.box b33 74 [v29, v31, Value.int .i64 x27.rule, Value.string x27.main, Value.int .i64 x27.a, Value.int .i64 x27.b]]) (v := Value.agg #[v29, v31, Value.int .i64 x27.rule, Value.string x27.main, Value.int .i64 x27.a, Value.int .i64 x27.b]) (c := [v29, v31, Value.int .i64 x27.rule, Value.string x27.main, Value.int .i64 x27.a, Value.int .i64 x27.b]) rfl Tryz.sizeOf74 rfl rfl (ones_cons h30.one (ones_cons h32.one (ones_cons rfl (ones_cons rfl (ones_cons rfl (ones_cons rfl ones_nil)))))) (Nat.le_of_ble_eq_true rfl) rfl rfl
 refine FL.act rfl rfl (E.store rfl rfl run38) ?_
 obtain ⟨H40, S41, i42, at43⟩ := S39.sealBox (i := 0) (l' := []) rfl rfl
 refine FL.nil (FW.seq (FW.seq (FW.region ?_)))
 refine FL.v (E.fieldAddr tf74_0 rfl) ?_
 refine FL.v (E.load rfl (run_loadA Tryz.isAgg68 Tryz.sizeOf68 ((at43.now S41.sl).sub (j := 0) (n := 2) (c := [v29, v31]) rfl) rfl)) ?_
 obtain ⟨r44, hr45, hp⟩ := bnd hp
 refine FL.call rfl rfl rfl (E.call Tryz.call99 (A1 rfl)) (w_spec_l23Good S41.sl x27.seq v29 (h30.mono i42) v31 (h32.mono i42) hr45) ?_
 rintro e w46 ⟨rfl, r47⟩
 refine ⟨_, rfl, ?_⟩
 have S48 := S41.call r47
 refine FL.v (E.not rfl) ?_
 refine FL.v (E.move (v := Value.bool (!r44)) rfl) ?_
 refine FL.cut 5 (fun f w => ∃ H : GH, St Ha wa H w [] ∧ Inc H40 H ∧ f 0 = v0 ∧ f 1 = Value.int .i64 a1 ∧ f 5 = Value.pointer (some ⟨b33, 0, none⟩) ∧ f 22 = Value.bool (bif (!r44) then true else (!(PF.spec_l1In x27.rule 1 11)))) ?_ ?_
 ·
  rcases bcase (!r44) with c58 | c58
  ·
   refine FL.skip (wF_no rfl rfl rfl c58) rfl ?_
   refine FL.skip (wF_no rfl rfl rfl c58) rfl ?_
   refine FL.skip (wF_no rfl rfl rfl c58) rfl ?_
   refine FL.skip (wF_no rfl rfl rfl c58) rfl ?_
   refine FL.v (E.pickT rfl c58 rfl) ?_
   exact FL.nil ⟨rfl, _, S48, (Inc.rfl _), rfl, rfl, rfl, (congrArg Value.bool (bifT c58).symm)⟩
  ·
   refine FL.val (wF_yes rfl rfl rfl c58) rfl rfl (E.fieldAddr tf74_1 rfl) ?_
   refine FL.val (wF_yes rfl rfl rfl c58) rfl rfl (E.load rfl (run_load1 Tryz.isAgg3 (at43.now S48.sl) rfl)) ?_
   refine FL.call (wF_yes rfl rfl rfl c58) rfl rfl (E.call Tryz.call107 (A3 rfl rfl rfl)) (w_spec_l1In S48.sl x27.rule 1 11) ?_
   rintro e w59 ⟨rfl, r60⟩
   refine ⟨_, rfl, ?_⟩
   have S61 := S48.call r60
   refine FL.val (wF_yes rfl rfl rfl c58) rfl rfl (E.not rfl) ?_
   refine FL.v (E.pickF rfl c58 rfl) ?_
   exact FL.nil ⟨rfl, _, S61, (Inc.rfl _), rfl, rfl, rfl, (congrArg Value.bool (bifF c58).symm)⟩
 rintro f57 w56 ⟨H53, S54, i55, k62, k63, k64, k65⟩
 refine FL.nil ?_
 rcases ifB hp with ⟨c66, hp⟩ | ⟨c66, hp⟩
 ·
  refine FW.condT k65 c66 ?_
  refine FW.seq (FW.region ?_)
  refine FL.v (E.assign (v := Value.bool false) rfl) ?_
  refine FL.nil ?_
  refine FW.ret ?_
  obtain rfl := Option.some.inj hp
  exact ⟨.inr rfl, res1 rfl rfl ⟨rfl, S54.back⟩⟩
 ·
  refine FW.condF k65 c66 ?_
  refine FW.skip (FW.seq (FW.seq (FW.region ?_)))
  refine FL.v (E.fieldAddr tf74_1 k64) ?_
  refine FL.v (E.load rfl (run_load1 Tryz.isAgg3 ((at43.mono i55).now S54.sl) rfl)) ?_
  refine FL.v (E.eql rfl rfl) ?_
  refine FL.nil ?_
  rcases ifB hp with ⟨c67, hp⟩ | ⟨c67, hp⟩
  ·
   refine FW.condT rfl c67 ?_
   refine FW.seq (FW.region ?_)
   refine FL.v (E.fieldAddr tf74_2 k64) ?_
   refine FL.v (E.load rfl (run_load1 Tryz.isAgg9 ((at43.mono i55).now S54.sl) rfl)) ?_
   refine FL.v (E.eqlS rfl rfl) ?_
   refine FL.v (E.move (v := Value.bool (x27.main.toList == (ByteArray.mk #[]).toList)) rfl) ?_
   refine FL.cut 4 (fun f w => ∃ H : GH, St Ha wa H w [] ∧ Inc H53 H ∧ f 5 = Value.pointer (some ⟨b33, 0, none⟩) ∧ f 33 = Value.bool (bif (x27.main.toList == (ByteArray.mk #[]).toList) then (x27.a == 0) else false)) ?_ ?_
   ·
    rcases bcase (x27.main.toList == (ByteArray.mk #[]).toList) with c74 | c74
    ·
     refine FL.val (wF_yes rfl rfl rfl c74) rfl rfl (E.fieldAddr tf74_3 k64) ?_
     refine FL.val (wF_yes rfl rfl rfl c74) rfl rfl (E.load rfl (run_load1 Tryz.isAgg3 ((at43.mono i55).now S54.sl) rfl)) ?_
     refine FL.val (wF_yes rfl rfl rfl c74) rfl rfl (E.eql rfl rfl) ?_
     refine FL.v (E.pickT rfl c74 rfl) ?_
     exact FL.nil ⟨rfl, _, S54, (Inc.rfl _), k64, (congrArg Value.bool (bifT c74).symm)⟩
    ·
     refine FL.skip (wF_no rfl rfl rfl c74) rfl ?_
     refine FL.skip (wF_no rfl rfl rfl c74) rfl ?_
     refine FL.skip (wF_no rfl rfl rfl c74) rfl ?_
     refine FL.v (E.pickF rfl c74 rfl) ?_
     exact FL.nil ⟨rfl, _, S54, (Inc.rfl _), k64, (congrArg Value.bool (bifF c74).symm)⟩
   rintro f73 w72 ⟨H69, S70, i71, k75, k76⟩
   refine FL.v (E.move k76) ?_
   refine FL.cut 4 (fun f w => ∃ H : GH, St Ha wa H w [] ∧ Inc H69 H ∧ f 5 = Value.pointer (some ⟨b33, 0, none⟩) ∧ f 38 = Value.bool (bif (bif (x27.main.toList == (ByteArray.mk #[]).toList) then (x27.a == 0) else false) then (x27.b == 0) else false)) ?_ ?_
   ·
    rcases bcase (bif (x27.main.toList == (ByteArray.mk #[]).toList) then (x27.a == 0) else false) with c83 | c83
    ·
     refine FL.val (wF_yes rfl rfl rfl c83) rfl rfl (E.fieldAddr tf74_4 k75) ?_
     refine FL.val (wF_yes rfl rfl rfl c83) rfl rfl (E.load rfl (run_load1 Tryz.isAgg3 ((at43.mono (i55.tr i71)).now S70.sl) rfl)) ?_
     refine FL.val (wF_yes rfl rfl rfl c83) rfl rfl (E.eql rfl rfl) ?_
     refine FL.v (E.pickT rfl c83 rfl) ?_
     exact FL.nil ⟨rfl, _, S70, (Inc.rfl _), k75, (congrArg Value.bool (bifT c83).symm)⟩
    ·
     refine FL.skip (wF_no rfl rfl rfl c83) rfl ?_
     refine FL.skip (wF_no rfl rfl rfl c83) rfl ?_
     refine FL.skip (wF_no rfl rfl rfl c83) rfl ?_
     refine FL.v (E.pickF rfl c83 rfl) ?_
     exact FL.nil ⟨rfl, _, S70, (Inc.rfl _), k75, (congrArg Value.bool (bifF c83).symm)⟩
   rintro f82 w81 ⟨H78, S79, i80, k84, k85⟩
   refine FL.v (E.move k85) ?_
   obtain ⟨t91, hqt91, hp⟩ := bnd hp
   refine FL.cut 4 (fun f w => ∃ H : GH, St Ha wa H w [] ∧ Inc H78 H ∧ f 43 = Value.bool t91) ?_ ?_
   ·
    clear hp; have hp := hqt91; clear hqt91
    rcases ifB hp with ⟨c97, hp⟩ | ⟨c97, hp⟩
    ·
     refine FL.val (wF_yes rfl rfl rfl c97) rfl rfl (E.fieldAddr tf74_0 k84) ?_
     refine FL.val (wF_yes rfl rfl rfl c97) rfl rfl (E.load rfl (run_loadA Tryz.isAgg68 Tryz.sizeOf68 (((at43.mono ((i55.tr i71).tr i80)).now S79.sl).sub (j := 0) (n := 2) (c := [v29, v31]) rfl) rfl)) ?_
     obtain ⟨r98, hr99, hp⟩ := bnd hp
     refine FL.call (wF_yes rfl rfl rfl c97) rfl rfl (E.call Tryz.call146 (A1 rfl)) (w_spec_l23Axiom S79.sl x27.seq v29 (h30.mono (((i42.tr i55).tr i71).tr i80)) v31 (h32.mono (((i42.tr i55).tr i71).tr i80)) hr99) ?_
     rintro e w100 ⟨rfl, r101⟩
     refine ⟨_, rfl, ?_⟩
     have S102 := S79.call r101
     obtain rfl := Option.some.inj hp
     refine FL.v (E.pickT rfl c97 rfl) ?_
     exact FL.nil ⟨rfl, _, S102, (Inc.rfl _), rfl⟩
    ·
     refine FL.skip (wF_no rfl rfl rfl c97) rfl ?_
     refine FL.skip (wF_no rfl rfl rfl c97) rfl ?_
     refine FL.skip (wF_no rfl rfl rfl c97) rfl ?_
     obtain rfl := Option.some.inj hp
     refine FL.v (E.pickF rfl c97 rfl) ?_
     exact FL.nil ⟨rfl, _, S79, (Inc.rfl _), rfl⟩
   rintro f96 w95 ⟨H92, S93, i94, k103⟩
   refine FL.v (E.assign k103) ?_
   refine FL.nil ?_
   refine FW.ret ?_
   obtain rfl := Option.some.inj hp
   exact ⟨.inr rfl, res1 rfl rfl ⟨rfl, S93.back⟩⟩
  ·
   refine FW.condF rfl c67 ?_
   refine FW.skip (FW.seq (FW.seq (FW.region ?_)))
   refine FL.v (E.move k62) ?_
   refine FL.v (E.move k63) ?_
   refine FL.v (E.fieldAddr tf74_3 k64) ?_
   refine FL.v (E.load rfl (run_load1 Tryz.isAgg3 ((at43.mono i55).now S54.sl) rfl)) ?_
   obtain ⟨r104, hr105, hp⟩ := bnd hp
   refine FL.call rfl rfl rfl (E.call Tryz.call192 (A3 rfl rfl rfl)) (w_spec_l23Earlier S54.sl v0 a0 (p0.mono (i42.tr i55)) a1 x27.a hr105) ?_
   rintro e w106 ⟨rfl, r107⟩
   refine ⟨_, rfl, ?_⟩
   have S108 := S54.call r107
   refine FL.v (E.not rfl) ?_
   refine FL.nil ?_
   rcases ifB hp with ⟨c109, hp⟩ | ⟨c109, hp⟩
   ·
    refine FW.condT rfl c109 ?_
    refine FW.seq (FW.region ?_)
    refine FL.v (E.assign (v := Value.bool false) rfl) ?_
    refine FL.nil ?_
    refine FW.ret ?_
    obtain rfl := Option.some.inj hp
    exact ⟨.inr rfl, res1 rfl rfl ⟨rfl, S108.back⟩⟩
   ·
    refine FW.condF rfl c109 ?_
    refine FW.skip (FW.seq (FW.seq (FW.region ?_)))
    refine FL.v (E.fieldAddr tf74_1 k64) ?_
    refine FL.v (E.load rfl (run_load1 Tryz.isAgg3 ((at43.mono i55).now S108.sl) rfl)) ?_
    refine FL.v (E.eql rfl rfl) ?_
    refine FL.nil ?_
    rcases ifB hp with ⟨c110, hp⟩ | ⟨c110, hp⟩
    ·
     refine FW.condT rfl c110 ?_
     refine FW.seq ?_
     refine FW.draw (fun w' => Run w106.heap.size H53 w106 H53 w') (by kernel_rfl) (by kernel_rfl) (run_drew S108.sl) ?_
     refine FD.val rfl rfl rfl (fun w' hw' => (E.fieldAddr tf74_2 k64)) ?_
     refine FD.val rfl rfl rfl (fun w' hw' => (E.load rfl (run_load1 Tryz.isAgg9 ((at43.mono i55).now (S108.call hw').sl) rfl))) ?_
     refine FD.val rfl rfl rfl (fun w' hw' => (E.eqlS rfl rfl)) ?_
     refine FD.val rfl rfl rfl (fun w' hw' => (E.move (v := Value.bool (x27.main.toList == (ByteArray.mk #[]).toList)) rfl)) ?_
     refine FD.cut 4 (fun f => f 0 = v0 ∧ f 5 = Value.pointer (some ⟨b33, 0, none⟩) ∧ f 60 = Value.bool (bif (x27.main.toList == (ByteArray.mk #[]).toList) then (x27.b == 0) else false)) ?_ ?_
     ·
      rcases bcase (x27.main.toList == (ByteArray.mk #[]).toList) with c118 | c118
      ·
       refine FD.val (wF_yes rfl rfl rfl c118) rfl rfl (fun w' hw' => (E.fieldAddr tf74_4 k64)) ?_
       refine FD.val (wF_yes rfl rfl rfl c118) rfl rfl (fun w' hw' => (E.load rfl (run_load1 Tryz.isAgg3 ((at43.mono i55).now (S108.call hw').sl) rfl))) ?_
       refine FD.val (wF_yes rfl rfl rfl c118) rfl rfl (fun w' hw' => (E.eql rfl rfl)) ?_
       refine FD.val rfl rfl rfl (fun w' hw' => (E.pickT rfl c118 rfl)) ?_
       exact FD.nil ⟨k62, k64, (congrArg Value.bool (bifT c118).symm)⟩
      ·
       refine FD.skip (wF_no rfl rfl rfl c118) rfl ?_
       refine FD.skip (wF_no rfl rfl rfl c118) rfl ?_
       refine FD.skip (wF_no rfl rfl rfl c118) rfl ?_
       refine FD.val rfl rfl rfl (fun w' hw' => (E.pickF rfl c118 rfl)) ?_
       exact FD.nil ⟨k62, k64, (congrArg Value.bool (bifF c118).symm)⟩
     rintro f117 ⟨k119, k120, k121⟩
     refine FD.val rfl rfl rfl (fun w' hw' => (E.move k121)) ?_
     obtain ⟨t136, hqt136, hp⟩ := bnd hp
     refine FD.cut 12 (fun f => f 0 = v0 ∧ f 5 = Value.pointer (some ⟨b33, 0, none⟩) ∧ f 73 = Value.bool t136) ?_ ?_
     ·
      clear hp; have hp := hqt136; clear hqt136
      rcases ifB hp with ⟨c142, hp⟩ | ⟨c142, hp⟩
      ·
       refine FD.val (wF_yes rfl rfl rfl c142) rfl rfl (fun w' hw' => (E.move k119)) ?_
       refine FD.val (wF_yes rfl rfl rfl c142) rfl rfl (fun w' hw' => (E.fieldAddr tf74_3 k120)) ?_
       refine FD.val (wF_yes rfl rfl rfl c142) rfl rfl (fun w' hw' => (E.load rfl (run_load1 Tryz.isAgg3 ((at43.mono i55).now (S108.call hw').sl) rfl))) ?_
       obtain ⟨x149, hx150, hp⟩ := bnd hp
       obtain ⟨p143, cs144, pt145, l146, at147, rel148⟩ := p0.at hx150
       obtain ⟨v151, v153, rfl, h152, h154⟩ := eSeqStep_open rel148
       refine FD.val (wF_yes rfl rfl rfl c142) rfl rfl (fun w' hw' => (E.indexAddr te24 rfl rfl pt145)) ?_
       refine FD.val (wF_yes rfl rfl rfl c142) rfl rfl (fun w' hw' => (E.fieldAddr tf74_0 rfl)) ?_
       refine FD.val (wF_yes rfl rfl rfl c142) rfl rfl (fun w' hw' => (E.fieldAddrN tf68_0 rfl rfl)) ?_
       refine FD.val (wF_yes rfl rfl rfl c142) rfl rfl (fun w' hw' => (E.load rfl (run_load1 Tryz.isAgg22 ((at147.mono (i42.tr i55)).now (S108.call hw').sl) rfl))) ?_
       refine FD.val (wF_yes rfl rfl rfl c142) rfl rfl (fun w' hw' => (E.fieldAddr tf74_0 k120)) ?_
       refine FD.val (wF_yes rfl rfl rfl c142) rfl rfl (fun w' hw' => (E.fieldAddrN tf68_0 rfl rfl)) ?_
       refine FD.val (wF_yes rfl rfl rfl c142) rfl rfl (fun w' hw' => (E.load rfl (run_load1 Tryz.isAgg22 ((at43.mono i55).now (S108.call hw').sl) rfl))) ?_
       obtain ⟨r155, hr156, hp⟩ := bnd hp
       refine FD.call (wF_yes rfl rfl rfl c142) rfl rfl (fun w' hw' => (E.call Tryz.call72 (A2 rfl rfl))) (fun w' hw' => Calls.cls hw' (w_spec_l23Part (S108.call hw').sl v151 x149.seq.left (h152.mono (i42.tr i55)) v29 x27.seq.left (h30.mono (i42.tr i55)) hr156)) ?_
       obtain rfl := Option.some.inj hp
       refine FD.val rfl rfl rfl (fun w' hw' => (E.pickT rfl c142 rfl)) ?_
       exact FD.nil ⟨k119, k120, rfl⟩
      ·
       refine FD.skip (wF_no rfl rfl rfl c142) rfl ?_
       refine FD.skip (wF_no rfl rfl rfl c142) rfl ?_
       refine FD.skip (wF_no rfl rfl rfl c142) rfl ?_
       refine FD.skip (wF_no rfl rfl rfl c142) rfl ?_
       refine FD.skip (wF_no rfl rfl rfl c142) rfl ?_
       refine FD.skip (wF_no rfl rfl rfl c142) rfl ?_
       refine FD.skip (wF_no rfl rfl rfl c142) rfl ?_
       refine FD.skip (wF_no rfl rfl rfl c142) rfl ?_
       refine FD.skip (wF_no rfl rfl rfl c142) rfl ?_
       refine FD.skip (wF_no rfl rfl rfl c142) rfl ?_
       refine FD.skip (wF_no rfl rfl rfl c142) rfl ?_
       obtain rfl := Option.some.inj hp
       refine FD.val rfl rfl rfl (fun w' hw' => (E.pickF rfl c142 rfl)) ?_
       exact FD.nil ⟨k119, k120, rfl⟩
     rintro f141 ⟨k157, k158, k159⟩
     refine FD.val rfl rfl rfl (fun w' hw' => (E.move k159)) ?_
     obtain ⟨t174, hqt174, hp⟩ := bnd hp
     refine FD.cut 12 (fun f => f 86 = Value.bool t174) ?_ ?_
     ·
      clear hp; have hp := hqt174; clear hqt174
      rcases ifB hp with ⟨c180, hp⟩ | ⟨c180, hp⟩
      ·
       refine FD.val (wF_yes rfl rfl rfl c180) rfl rfl (fun w' hw' => (E.move k157)) ?_
       refine FD.val (wF_yes rfl rfl rfl c180) rfl rfl (fun w' hw' => (E.fieldAddr tf74_3 k158)) ?_
       refine FD.val (wF_yes rfl rfl rfl c180) rfl rfl (fun w' hw' => (E.load rfl (run_load1 Tryz.isAgg3 ((at43.mono i55).now (S108.call hw').sl) rfl))) ?_
       obtain ⟨x187, hx188, hp⟩ := bnd hp
       obtain ⟨p181, cs182, pt183, l184, at185, rel186⟩ := p0.at hx188
       obtain ⟨v189, v191, rfl, h190, h192⟩ := eSeqStep_open rel186
       refine FD.val (wF_yes rfl rfl rfl c180) rfl rfl (fun w' hw' => (E.indexAddr te24 rfl rfl pt183)) ?_
       refine FD.val (wF_yes rfl rfl rfl c180) rfl rfl (fun w' hw' => (E.fieldAddr tf74_0 rfl)) ?_
       refine FD.val (wF_yes rfl rfl rfl c180) rfl rfl (fun w' hw' => (E.fieldAddrN tf68_1 rfl rfl)) ?_
       refine FD.val (wF_yes rfl rfl rfl c180) rfl rfl (fun w' hw' => (E.load rfl (run_load1 Tryz.isAgg22 ((at185.mono (i42.tr i55)).now (S108.call hw').sl) rfl))) ?_
       refine FD.val (wF_yes rfl rfl rfl c180) rfl rfl (fun w' hw' => (E.fieldAddr tf74_0 k158)) ?_
       refine FD.val (wF_yes rfl rfl rfl c180) rfl rfl (fun w' hw' => (E.fieldAddrN tf68_1 rfl rfl)) ?_
       refine FD.val (wF_yes rfl rfl rfl c180) rfl rfl (fun w' hw' => (E.load rfl (run_load1 Tryz.isAgg22 ((at43.mono i55).now (S108.call hw').sl) rfl))) ?_
       obtain ⟨r193, hr194, hp⟩ := bnd hp
       refine FD.call (wF_yes rfl rfl rfl c180) rfl rfl (fun w' hw' => (E.call Tryz.call72 (A2 rfl rfl))) (fun w' hw' => Calls.cls hw' (w_spec_l23Part (S108.call hw').sl v191 x187.seq.right (h192.mono (i42.tr i55)) v31 x27.seq.right (h32.mono (i42.tr i55)) hr194)) ?_
       obtain rfl := Option.some.inj hp
       refine FD.val rfl rfl rfl (fun w' hw' => (E.pickT rfl c180 rfl)) ?_
       exact FD.nil rfl
      ·
       refine FD.skip (wF_no rfl rfl rfl c180) rfl ?_
       refine FD.skip (wF_no rfl rfl rfl c180) rfl ?_
       refine FD.skip (wF_no rfl rfl rfl c180) rfl ?_
       refine FD.skip (wF_no rfl rfl rfl c180) rfl ?_
       refine FD.skip (wF_no rfl rfl rfl c180) rfl ?_
       refine FD.skip (wF_no rfl rfl rfl c180) rfl ?_
       refine FD.skip (wF_no rfl rfl rfl c180) rfl ?_
       refine FD.skip (wF_no rfl rfl rfl c180) rfl ?_
       refine FD.skip (wF_no rfl rfl rfl c180) rfl ?_
       refine FD.skip (wF_no rfl rfl rfl c180) rfl ?_
       refine FD.skip (wF_no rfl rfl rfl c180) rfl ?_
       obtain rfl := Option.some.inj hp
       refine FD.val rfl rfl rfl (fun w' hw' => (E.pickF rfl c180 rfl)) ?_
       exact FD.nil rfl
     intro f179 k195
     refine FD.val rfl rfl rfl (fun w' hw' => (E.assign k195)) ?_
     refine FD.nil ?_
     intro w196 r198
     have S197 := S108.call r198
     refine FW.ret ?_
     obtain rfl := Option.some.inj hp
     exact ⟨.inr rfl, res1 rfl rfl ⟨rfl, S197.back⟩⟩
    ·
     refine FW.condF rfl c110 ?_
     refine FW.skip (FW.seq (FW.seq (FW.region ?_)))
     refine FL.v (E.fieldAddr tf74_2 k64) ?_
     refine FL.v (E.load rfl (run_load1 Tryz.isAgg9 ((at43.mono i55).now S108.sl) rfl)) ?_
     obtain ⟨r199, hr200, hp⟩ := bnd hp
     refine FL.call rfl rfl rfl (E.call Tryz.call48 (A1 rfl)) (w_spec_l22Good S108.sl x27.main hr200) ?_
     rintro e w201 ⟨rfl, r202⟩
     refine ⟨_, rfl, ?_⟩
     have S203 := S108.call r202
     refine FL.v (E.not rfl) ?_
     refine FL.nil ?_
     rcases ifB hp with ⟨c204, hp⟩ | ⟨c204, hp⟩
     ·
      refine FW.condT rfl c204 ?_
      refine FW.seq (FW.region ?_)
      refine FL.v (E.assign (v := Value.bool false) rfl) ?_
      refine FL.nil ?_
      refine FW.ret ?_
      obtain rfl := Option.some.inj hp
      exact ⟨.inr rfl, res1 rfl rfl ⟨rfl, S203.back⟩⟩
     ·
      refine FW.condF rfl c204 ?_
      refine FW.skip (FW.seq (FW.region ?_))
      refine FL.v (E.fieldAddr tf74_1 k64) ?_
      refine FL.v (E.load rfl (run_load1 Tryz.isAgg3 ((at43.mono i55).now S203.sl) rfl)) ?_
      refine FL.v (E.rem rfl rfl (by decide)) ?_
      refine FL.v (E.eql rfl rfl) ?_
      refine FL.v (E.assign (v := Value.bool ((x27.rule.tmod 2) == 0)) rfl) ?_
      refine FL.nil (FW.seq (FW.seq (FW.region ?_)))
      refine FL.v (E.fieldAddr tf74_1 k64) ?_
      refine FL.v (E.load rfl (run_load1 Tryz.isAgg3 ((at43.mono i55).now S203.sl) rfl)) ?_
      refine FL.v (E.neq rfl rfl) ?_
      refine FL.nil ?_
      obtain ⟨q245, hq, hp⟩ := bndR hp
      refine FW.joinE (S := Unit) (X := Bool) (q := q245) (fun s244 f w => ∃ H : GH, St Ha wa H w [] ∧ Inc H53 H ∧ f 0 = v0 ∧ f 1 = Value.int .i64 a1 ∧ f 5 = Value.pointer (some ⟨b33, 0, none⟩)) (fun x e f w => (e = Exit.ret) ∧ (fun e f w => (e = Exit.normal ∨ e = Exit.ret) ∧ ∀ a, Fr (δ := []) 160 a f → ∃ v, (results Tryz.f157 a.tmps).run Tryz.prog w = .ok v w ∧ (Sc Ha wa (Value.bool x)) (.returned v) w) e f w) ?_ ?_ ?_
      ·
       clear hp; have hp := hq; clear hq
       rcases ifB hp with ⟨c247, hp⟩ | ⟨c247, hp⟩
       ·
        refine FW.condT rfl c247 ?_
        refine FW.seq (FW.region ?_)
        refine FL.v (E.fieldAddr tf74_0 k64) ?_
        refine FL.v (E.fieldAddrN tf68_1 rfl rfl) ?_
        refine FL.v (E.load rfl (run_load1 Tryz.isAgg22 ((at43.mono i55).now S203.sl) rfl)) ?_
        refine FL.v (E.assign (v := v31) rfl) ?_
        refine FL.nil (FW.seq (FW.seq (FW.region ?_)))
        refine FL.v (E.move (v := Value.bool ((x27.rule.tmod 2) == 0)) rfl) ?_
        refine FL.nil ?_
        obtain ⟨q250, hq, hp⟩ := bndR hp
        refine FW.joinE (S := (List ByteArray)) (X := Empty) (q := q250) (fun s249 f w => ∃ H : GH, ∃ v252 : Value, St Ha wa H w [] ∧ Inc H53 H ∧ RSl H eS 1 v252 s249 ∧ f 0 = v0 ∧ f 1 = Value.int .i64 a1 ∧ f 5 = Value.pointer (some ⟨b33, 0, none⟩) ∧ f 6 = Value.bool ((x27.rule.tmod 2) == 0) ∧ f 7 = v252) (fun (_ : Empty) _ _ _ => False) ?_ ?_ ?_
        ·
         clear hp; have hp := hq; clear hq
         rcases ifB hp with ⟨c254, hp⟩ | ⟨c254, hp⟩
         ·
          refine FW.condT rfl c254 ?_
          refine FW.region ?_
          refine FL.v (E.fieldAddr tf74_0 k64) ?_
          refine FL.v (E.fieldAddrN tf68_0 rfl rfl) ?_
          refine FL.v (E.load rfl (run_load1 Tryz.isAgg22 ((at43.mono i55).now S203.sl) rfl)) ?_
          refine FL.v (E.assign (v := v29) rfl) ?_
          refine FL.nil ?_
          obtain rfl := Option.some.inj hp
          exact ⟨rfl, ⟨_, _, S203, (Inc.rfl _), (h30.mono (i42.tr i55)), k62, k63, k64, rfl, rfl⟩⟩
         ·
          refine FW.condF rfl c254 ?_
          refine FW.skip ?_
          obtain rfl := Option.some.inj hp
          exact ⟨rfl, ⟨_, _, S203, (Inc.rfl _), (h32.mono (i42.tr i55)), k62, k63, k64, rfl, rfl⟩⟩
        ·
         rintro s249 rfl f259 w258 ⟨H255, v252, S256, i257, h253, k260, k261, k262, k263, k264⟩
         replace hp := el_go hp
         refine FW.seq ?_
         refine FW.draw (fun w' => Run w258.heap.size H255 w258 H255 w') (by kernel_rfl) (by kernel_rfl) (run_drew S256.sl) ?_
         refine FD.val rfl rfl rfl (fun w' hw' => (E.fieldAddr tf74_2 k262)) ?_
         refine FD.val rfl rfl rfl (fun w' hw' => (E.load rfl (run_load1 Tryz.isAgg9 ((at43.mono (i55.tr i257)).now (S256.call hw').sl) rfl))) ?_
         refine FD.val rfl rfl rfl (fun w' hw' => (E.move k263)) ?_
         obtain ⟨r266, hr267, hp⟩ := bnd hp
         refine FD.call rfl rfl rfl (fun w' hw' => (E.call Tryz.call150 (A2 rfl rfl))) (fun w' hw' => Calls.cls hw' (w_spec_l23Rule (S256.call hw').sl x27.main ((x27.rule.tmod 2) == 0) hr267)) ?_
         refine FD.val rfl rfl rfl (fun w' hw' => (E.fieldAddr tf74_1 k262)) ?_
         refine FD.val rfl rfl rfl (fun w' hw' => (E.load rfl (run_load1 Tryz.isAgg3 ((at43.mono (i55.tr i257)).now (S256.call hw').sl) rfl))) ?_
         refine FD.val rfl rfl rfl (fun w' hw' => (E.neq rfl rfl)) ?_
         refine FD.val rfl rfl rfl (fun w' hw' => (E.move (v := Value.bool (!(r266 == x27.rule))) rfl)) ?_
         obtain ⟨t270, hqt270, hp⟩ := bnd hp
         refine FD.cut 6 (fun f => f 0 = v0 ∧ f 1 = Value.int .i64 a1 ∧ f 5 = Value.pointer (some ⟨b33, 0, none⟩) ∧ f 118 = Value.bool t270) ?_ ?_
         ·
          clear hp; have hp := hqt270; clear hqt270
          rcases ifB hp with ⟨c276, hp⟩ | ⟨c276, hp⟩
          ·
           refine FD.skip (wF_no rfl rfl rfl c276) rfl ?_
           refine FD.skip (wF_no rfl rfl rfl c276) rfl ?_
           refine FD.skip (wF_no rfl rfl rfl c276) rfl ?_
           refine FD.skip (wF_no rfl rfl rfl c276) rfl ?_
           refine FD.skip (wF_no rfl rfl rfl c276) rfl ?_
           obtain rfl := Option.some.inj hp
           refine FD.val rfl rfl rfl (fun w' hw' => (E.pickT rfl c276 rfl)) ?_
           exact FD.nil ⟨k260, k261, k262, rfl⟩
          ·
           refine FD.val (wF_yes rfl rfl rfl c276) rfl rfl (fun w' hw' => (E.move k264)) ?_
           refine FD.val (wF_yes rfl rfl rfl c276) rfl rfl (fun w' hw' => (E.fieldAddr tf74_2 k262)) ?_
           refine FD.val (wF_yes rfl rfl rfl c276) rfl rfl (fun w' hw' => (E.load rfl (run_load1 Tryz.isAgg9 ((at43.mono (i55.tr i257)).now (S256.call hw').sl) rfl))) ?_
           obtain ⟨r277, hr278, hp⟩ := bnd hp
           refine FD.call (wF_yes rfl rfl rfl c276) rfl rfl (fun w' hw' => (E.call Tryz.call121 (A2 rfl rfl))) (fun w' hw' => Calls.cls hw' (w_spec_l23Has (S256.call hw').sl v252 s249 h253 x27.main hr278)) ?_
           refine FD.val (wF_yes rfl rfl rfl c276) rfl rfl (fun w' hw' => (E.not rfl)) ?_
           obtain rfl := Option.some.inj hp
           refine FD.val rfl rfl rfl (fun w' hw' => (E.pickF rfl c276 rfl)) ?_
           exact FD.nil ⟨k260, k261, k262, rfl⟩
         rintro f275 ⟨k279, k280, k281, k282⟩
         refine FD.nil ?_
         intro w283 r285
         have S284 := S256.call r285
         rcases ifB hp with ⟨c286, hp⟩ | ⟨c286, hp⟩
         ·
          refine FW.condT k282 c286 ?_
          refine FW.seq (FW.region ?_)
          refine FL.v (E.assign (v := Value.bool false) rfl) ?_
          refine FL.nil ?_
          refine FW.ret ?_
          obtain rfl := Option.some.inj hp
          exact ⟨nofun, rfl, ⟨.inr rfl, res1 rfl rfl ⟨rfl, S284.back⟩⟩⟩
         ·
          refine FW.condF k282 c286 ?_
          refine FW.skip ?_
          obtain rfl := Option.some.inj hp
          exact ⟨rfl, ⟨_, S284, i257, k279, k280, k281⟩⟩
        ·
         intro x251; exact x251.elim
       ·
        refine FW.condF rfl c247 ?_
        refine FW.skip ?_
        obtain rfl := Option.some.inj hp
        exact ⟨rfl, ⟨_, S203, (Inc.rfl _), k62, k63, k64⟩⟩
      ·
       rintro s244 rfl f291 w290 ⟨H287, S288, i289, k292, k293, k294⟩
       replace hp := el_go hp
       refine FW.seq (FW.region ?_)
       refine FL.v (E.fieldAddr tf74_0 k294) ?_
       refine FL.v (E.load rfl (run_loadA Tryz.isAgg68 Tryz.sizeOf68 (((at43.mono (i55.tr i289)).now S288.sl).sub (j := 0) (n := 2) (c := [v29, v31]) rfl) rfl)) ?_
       refine FL.v (E.fieldAddr tf74_1 k294) ?_
       refine FL.v (E.load rfl (run_load1 Tryz.isAgg3 ((at43.mono (i55.tr i289)).now S288.sl) rfl)) ?_
       refine FL.v (E.fieldAddr tf74_2 k294) ?_
       refine FL.v (E.load rfl (run_load1 Tryz.isAgg9 ((at43.mono (i55.tr i289)).now S288.sl) rfl)) ?_
       obtain ⟨r295, hr296, hp⟩ := bnd hp
       refine FL.call rfl rfl rfl (E.call Tryz.call151 (A3 rfl rfl rfl)) (w_spec_l23Premises S288.sl x27.seq v29 (h30.mono ((i42.tr i55).tr i289)) v31 (h32.mono ((i42.tr i55).tr i289)) x27.rule x27.main hr296) ?_
       rintro e w298 ⟨H297, v301, n302, cs303, rfl, r300, els304⟩
       refine ⟨_, rfl, ?_⟩
       have S299 := S288.join (l' := [.row 68 2 v301 n302 cs303]) r300 rfl
       refine FL.v (E.assign (v := v301) rfl) ?_
       refine FL.nil (FW.seq (FW.seq ?_))
       refine FW.draw (fun w' => Run w298.heap.size H297 w298 H297 w') (by kernel_rfl) (by kernel_rfl) (run_drew S299.sl) ?_
       refine FD.val rfl rfl rfl (fun w' hw' => (E.move (v := v301) rfl)) ?_
       obtain ⟨x312, hx313, hp⟩ := bnd hp
       obtain ⟨p306, cs307, pt308, l309, at310, rel311⟩ := S299.row_at (i := 0) rfl els304 (by decide) hx313
       obtain ⟨v314, v316, rfl, h315, h317⟩ := eSequent_open rel311
       refine FD.val rfl rfl rfl (fun w' hw' => (E.indexAddr te172 rfl rfl pt308)) ?_
       refine FD.val rfl rfl rfl (fun w' hw' => (E.load rfl (run_loadA Tryz.isAgg68 Tryz.sizeOf68 (at310.cls hw') rfl))) ?_
       refine FD.val rfl rfl rfl (fun w' hw' => (E.move k292)) ?_
       refine FD.val rfl rfl rfl (fun w' hw' => (E.fieldAddr tf74_3 k294)) ?_
       refine FD.val rfl rfl rfl (fun w' hw' => (E.load rfl (run_load1 Tryz.isAgg3 ((at43.mono ((i55.tr i289).tr r300.run.inc)).now (S299.call hw').sl) rfl))) ?_
       obtain ⟨x324, hx325, hp⟩ := bnd hp
       obtain ⟨p318, cs319, pt320, l321, at322, rel323⟩ := p0.at hx325
       obtain ⟨v326, v328, rfl, h327, h329⟩ := eSeqStep_open rel323
       refine FD.val rfl rfl rfl (fun w' hw' => (E.indexAddr te24 rfl rfl pt320)) ?_
       refine FD.val rfl rfl rfl (fun w' hw' => (E.fieldAddr tf74_0 rfl)) ?_
       refine FD.val rfl rfl rfl (fun w' hw' => (E.load rfl (run_loadA Tryz.isAgg68 Tryz.sizeOf68 (((at322.mono (((i42.tr i55).tr i289).tr r300.run.inc)).now (S299.call hw').sl).sub (j := 0) (n := 2) (c := [v326, v328]) rfl) rfl))) ?_
       obtain ⟨r330, hr331, hp⟩ := bnd hp
       refine FD.call rfl rfl rfl (fun w' hw' => (E.call Tryz.call193 (A2 rfl rfl))) (fun w' hw' => Calls.cls hw' (w_spec_l23Same (S299.call hw').sl x312 v314 h315 v316 h317 x324.seq v326 (h327.mono (((i42.tr i55).tr i289).tr r300.run.inc)) v328 (h329.mono (((i42.tr i55).tr i289).tr r300.run.inc)) hr331)) ?_
       refine FD.val rfl rfl rfl (fun w' hw' => (E.not rfl)) ?_
       refine FD.nil ?_
       intro w332 r334
       have S333 := S299.call r334
       rcases ifB hp with ⟨c335, hp⟩ | ⟨c335, hp⟩
       ·
        refine FW.condT rfl c335 ?_
        refine FW.seq (FW.region ?_)
        refine FL.v (E.assign (v := Value.bool false) rfl) ?_
        refine FL.nil ?_
        refine FW.ret ?_
        obtain rfl := Option.some.inj hp
        exact ⟨.inr rfl, res1 rfl rfl ⟨rfl, S333.back⟩⟩
       ·
        refine FW.condF rfl c335 ?_
        refine FW.skip (FW.seq (FW.seq (FW.region ?_)))
        refine FL.v (E.move (v := v301) rfl) ?_
        refine FL.v (E.lenO te172 rfl S333 (i := 0) rfl els304 (by decide)) ?_
        refine FL.v (E.eql rfl rfl) ?_
        refine FL.nil ?_
        rcases ifB hp with ⟨c336, hp⟩ | ⟨c336, hp⟩
        ·
         refine FW.condT rfl c336 ?_
         refine FW.seq (FW.region ?_)
         refine FL.v (E.fieldAddr tf74_4 k294) ?_
         refine FL.v (E.load rfl (run_load1 Tryz.isAgg3 ((at43.mono ((i55.tr i289).tr r300.run.inc)).now S333.sl) rfl)) ?_
         refine FL.v (E.eql rfl rfl) ?_
         refine FL.v (E.assign (v := Value.bool (x27.b == 0)) rfl) ?_
         refine FL.nil ?_
         refine FW.ret ?_
         obtain rfl := Option.some.inj hp
         exact ⟨.inr rfl, res1 rfl rfl ⟨rfl, S333.back⟩⟩
        ·
         refine FW.condF rfl c336 ?_
         refine FW.skip (FW.seq ?_)
         refine FW.draw (fun w' => Run w332.heap.size H297 w332 H297 w') (by kernel_rfl) (by kernel_rfl) (run_drew S333.sl) ?_
         refine FD.val rfl rfl rfl (fun w' hw' => (E.move k292)) ?_
         refine FD.val rfl rfl rfl (fun w' hw' => (E.move k293)) ?_
         refine FD.val rfl rfl rfl (fun w' hw' => (E.fieldAddr tf74_4 k294)) ?_
         refine FD.val rfl rfl rfl (fun w' hw' => (E.load rfl (run_load1 Tryz.isAgg3 ((at43.mono ((i55.tr i289).tr r300.run.inc)).now (S333.call hw').sl) rfl))) ?_
         obtain ⟨r338, hr339, hp⟩ := bnd hp
         refine FD.call rfl rfl rfl (fun w' hw' => (E.call Tryz.call192 (A3 rfl rfl rfl))) (fun w' hw' => Calls.cls hw' (w_spec_l23Earlier (S333.call hw').sl v0 a0 (p0.mono (((i42.tr i55).tr i289).tr r300.run.inc)) a1 x27.b hr339)) ?_
         refine FD.val rfl rfl rfl (fun w' hw' => (E.move (v := Value.bool r338) rfl)) ?_
         obtain ⟨t366, hqt366, hp⟩ := bnd hp
         refine FD.cut 11 (fun f => f 159 = Value.bool t366) ?_ ?_
         ·
          clear hp; have hp := hqt366; clear hqt366
          rcases ifB hp with ⟨c372, hp⟩ | ⟨c372, hp⟩
          ·
           refine FD.val (wF_yes rfl rfl rfl c372) rfl rfl (fun w' hw' => (E.move (v := v301) rfl)) ?_
           obtain ⟨x379, hx380, hp⟩ := bnd hp
           obtain ⟨p373, cs374, pt375, l376, at377, rel378⟩ := S333.row_at (i := 0) rfl els304 (by decide) hx380
           obtain ⟨v381, v383, rfl, h382, h384⟩ := eSequent_open rel378
           refine FD.val (wF_yes rfl rfl rfl c372) rfl rfl (fun w' hw' => (E.indexAddr te172 rfl rfl pt375)) ?_
           refine FD.val (wF_yes rfl rfl rfl c372) rfl rfl (fun w' hw' => (E.load rfl (run_loadA Tryz.isAgg68 Tryz.sizeOf68 (at377.cls hw') rfl))) ?_
           refine FD.val (wF_yes rfl rfl rfl c372) rfl rfl (fun w' hw' => (E.move k292)) ?_
           refine FD.val (wF_yes rfl rfl rfl c372) rfl rfl (fun w' hw' => (E.fieldAddr tf74_4 k294)) ?_
           refine FD.val (wF_yes rfl rfl rfl c372) rfl rfl (fun w' hw' => (E.load rfl (run_load1 Tryz.isAgg3 ((at43.mono ((i55.tr i289).tr r300.run.inc)).now (S333.call hw').sl) rfl))) ?_
           obtain ⟨x391, hx392, hp⟩ := bnd hp
           obtain ⟨p385, cs386, pt387, l388, at389, rel390⟩ := p0.at hx392
           obtain ⟨v393, v395, rfl, h394, h396⟩ := eSeqStep_open rel390
           refine FD.val (wF_yes rfl rfl rfl c372) rfl rfl (fun w' hw' => (E.indexAddr te24 rfl rfl pt387)) ?_
           refine FD.val (wF_yes rfl rfl rfl c372) rfl rfl (fun w' hw' => (E.fieldAddr tf74_0 rfl)) ?_
           refine FD.val (wF_yes rfl rfl rfl c372) rfl rfl (fun w' hw' => (E.load rfl (run_loadA Tryz.isAgg68 Tryz.sizeOf68 (((at389.mono (((i42.tr i55).tr i289).tr r300.run.inc)).now (S333.call hw').sl).sub (j := 0) (n := 2) (c := [v393, v395]) rfl) rfl))) ?_
           obtain ⟨r397, hr398, hp⟩ := bnd hp
           refine FD.call (wF_yes rfl rfl rfl c372) rfl rfl (fun w' hw' => (E.call Tryz.call193 (A2 rfl rfl))) (fun w' hw' => Calls.cls hw' (w_spec_l23Same (S333.call hw').sl x379 v381 h382 v383 h384 x391.seq v393 (h394.mono (((i42.tr i55).tr i289).tr r300.run.inc)) v395 (h396.mono (((i42.tr i55).tr i289).tr r300.run.inc)) hr398)) ?_
           obtain rfl := Option.some.inj hp
           refine FD.val rfl rfl rfl (fun w' hw' => (E.pickT rfl c372 rfl)) ?_
           exact FD.nil rfl
          ·
           refine FD.skip (wF_no rfl rfl rfl c372) rfl ?_
           refine FD.skip (wF_no rfl rfl rfl c372) rfl ?_
           refine FD.skip (wF_no rfl rfl rfl c372) rfl ?_
           refine FD.skip (wF_no rfl rfl rfl c372) rfl ?_
           refine FD.skip (wF_no rfl rfl rfl c372) rfl ?_
           refine FD.skip (wF_no rfl rfl rfl c372) rfl ?_
           refine FD.skip (wF_no rfl rfl rfl c372) rfl ?_
           refine FD.skip (wF_no rfl rfl rfl c372) rfl ?_
           refine FD.skip (wF_no rfl rfl rfl c372) rfl ?_
           refine FD.skip (wF_no rfl rfl rfl c372) rfl ?_
           obtain rfl := Option.some.inj hp
           refine FD.val rfl rfl rfl (fun w' hw' => (E.pickF rfl c372 rfl)) ?_
           exact FD.nil rfl
         intro f371 k399
         refine FD.val rfl rfl rfl (fun w' hw' => (E.assign k399)) ?_
         refine FD.nil ?_
         intro w400 r402
         have S401 := S333.call r402
         refine FW.ret ?_
         obtain rfl := Option.some.inj hp
         exact ⟨.inr rfl, res1 rfl rfl ⟨rfl, S401.back⟩⟩
      ·
       rintro x246 rfl e f w hne ⟨he, hL⟩
       replace hp := el_rt hp
       obtain rfl := Option.some.inj hp
       subst he
       exact hL

theorem w_spec_l23First {Ha : GH} {wa : World} (hs : Sl Ha wa) (v0 : Value) (a0 : List SeqStep) (p0 : RSl Ha eSeqStep 6 v0 a0) {r : Int} (hp : (PF.spec_l23First a0) = some r) :
  Calls Tryz.prog 108 #[v0] wa (Sc Ha wa (Value.int .i64 r)) := by
 unfold PF.spec_l23First at hp
 have S0 := St.init hs
 refine calls_go (N := 15) (args := [v0]) Tryz.func108 rfl rfl rfl ?_
 refine FW.seq (FW.region ?_)
 refine FL.v (E.assign (v := Value.int .i64 0) rfl) ?_
 refine FL.nil (FW.seq (FW.seq (FW.region ?_)))
 refine FL.v (E.assign (v := Value.int .i64 0) rfl) ?_
 refine FL.nil ?_
 obtain ⟨q22, hq, hp⟩ := bndR hp
 refine FW.block ?_
 refine FW.mono (FW.forL (S := Unit) (X := Int) (fun (i22 : Nat) (s22 : Unit) f w => ∃ H : GH, St Ha wa H w [] ∧ Inc Ha H ∧ f 3 = Value.int .i64 ((i22 : Nat) : Int) ∧ f 0 = v0) (fun q e f w => match q with | .go s22 => e = Exit.exit 0 ∧ (∃ H : GH, St Ha wa H w [] ∧ Inc Ha H) | .rt x => ((e = Exit.ret) ∧ (fun e f w => (e = Exit.normal ∨ e = Exit.ret) ∧ ∀ a, Fr (δ := []) 15 a f → ∃ v, (results Tryz.f108 a.tmps).run Tryz.prog w = .ok v w ∧ (Sc Ha wa (Value.int .i64 x)) (.returned v) w) e f w)) hq ⟨_, S0, (Inc.rfl _), rfl, rfl⟩ ?_ ?_) ?_
 ·
  clear hp hq
  rintro i22 y21 s22 f40 w39 ⟨H36, S37, i38, k41, k42⟩ hx22 o49 hp
  refine FW.seq (FW.seq (FW.region ?_))
  refine FL.v (E.move k41) ?_
  refine FL.v (E.move k42) ?_
  refine FL.v (E.lenP te24 rfl p0) ?_
  refine FL.v (E.lssT rfl rfl (lss_len hx22)) ?_
  refine FL.nil ?_
  refine FW.condT rfl rfl ?_
  refine FW.skip (FW.seq (FW.block (FW.seq (FW.region ?_))))
  refine FL.v (E.move k42) ?_
  refine FL.v (E.move k41) ?_
  obtain ⟨r43, hr44, hp⟩ := bnd hp
  refine FL.call rfl rfl rfl (E.call Tryz.call157 (A2 rfl rfl)) (w_spec_l23Correct S37.sl v0 a0 (p0.mono i38) ((i22 : Nat) : Int) hr44) ?_
  rintro e w45 ⟨rfl, r46⟩
  refine ⟨_, rfl, ?_⟩
  have S47 := S37.call r46
  refine FL.v (E.not rfl) ?_
  refine FL.nil ?_
  rcases ifB hp with ⟨c48, hp⟩ | ⟨c48, hp⟩
  ·
   refine FW.condT rfl c48 ?_
   refine FW.seq (FW.region ?_)
   refine FL.v (E.move k41) ?_
   refine FL.v (E.assign (v := Value.int .i64 ((i22 : Nat) : Int)) rfl) ?_
   refine FL.nil ?_
   refine FW.ret ?_
   obtain rfl := Option.some.inj hp
   exact ⟨nofun, rfl, ⟨.inr rfl, res1 rfl rfl ⟨rfl, S47.back⟩⟩⟩
  ·
   refine FW.condF rfl c48 ?_
   refine FW.skip (FW.region ?_)
   refine FL.v (E.move k41) ?_
   refine FL.v (E.add rfl rfl) ?_
   refine FL.v (E.assign (v := Value.int .i64 (wr (((i22 : Nat) : Int) + 1))) rfl) ?_
   refine FL.nil ?_
   obtain rfl := Option.some.inj hp
   exact ⟨rfl, ⟨_, S47, i38, (nat_succ rfl (lt_of_get hx22) (p0.mono i38).le), k42⟩⟩
 ·
  clear hp hq
  rintro s22 f59 w58 ⟨H55, S56, i57, k60, k61⟩
  refine FW.seq (FW.seq (FW.region ?_))
  refine FL.v (E.move k60) ?_
  refine FL.v (E.move k61) ?_
  refine FL.v (E.lenP te24 rfl p0) ?_
  refine FL.v (E.lss rfl rfl) ?_
  refine FL.nil ?_
  refine FW.condF rfl dlt_len ?_
  refine FW.exit ?_
  exact ⟨nofun, rfl, ⟨_, S56, i57⟩⟩
 ·
  clear hq
  intro e f54 w53 hD
  rcases q22 with s22 | x22
  ·
   obtain ⟨rfl, hD⟩ := hD
   obtain ⟨H50, S51, i52⟩ := hD
   replace hp := el_go hp
   refine FW.seq (FW.region ?_)
   refine FL.v (E.assign (v := Value.int .i64 (-1)) rfl) ?_
   refine FL.nil ?_
   refine FW.ret ?_
   obtain rfl := Option.some.inj hp
   exact ⟨.inr rfl, res1 rfl rfl ⟨rfl, S51.back⟩⟩
  ·
   obtain ⟨he, hL⟩ := hD
   replace hp := el_rt hp
   obtain rfl := Option.some.inj hp
   subst he
   exact hL

theorem w_spec_l23Proof {Ha : GH} {wa : World} (hs : Sl Ha wa) (v0 : Value) (a0 : List SeqStep) (p0 : RSl Ha eSeqStep 6 v0 a0) {r : Bool} (hp : (PF.spec_l23Proof a0) = some r) :
  Calls Tryz.prog 58 #[v0] wa (Sc Ha wa (Value.bool r)) := by
 unfold PF.spec_l23Proof at hp
 have S0 := St.init hs
 refine calls_go (N := 11) (args := [v0]) Tryz.func58 rfl rfl rfl ?_
 refine FW.seq (FW.region ?_)
 refine FL.v (E.assign (v := Value.bool false) rfl) ?_
 refine FL.nil (FW.seq (FW.region ?_))
 refine FL.v (E.move (v := v0) rfl) ?_
 refine FL.v (E.lenP te24 rfl p0) ?_
 refine FL.call rfl rfl rfl (E.call Tryz.call107 (A3 rfl rfl rfl)) (w_spec_l1In S0.sl (len a0) 1 200) ?_
 rintro e w21 ⟨rfl, r22⟩
 refine ⟨_, rfl, ?_⟩
 have S23 := S0.call r22
 refine FL.v (E.move (v := Value.bool (PF.spec_l1In (len a0) 1 200)) rfl) ?_
 obtain ⟨t29, hqt29, hp⟩ := bnd hp
 refine FL.cut 4 (fun f w => ∃ H : GH, St Ha wa H w [] ∧ Inc Ha H ∧ f 10 = Value.bool t29) ?_ ?_
 ·
  clear hp; have hp := hqt29; clear hqt29
  rcases ifB hp with ⟨c35, hp⟩ | ⟨c35, hp⟩
  ·
   refine FL.val (wF_yes rfl rfl rfl c35) rfl rfl (E.move (v := v0) rfl) ?_
   obtain ⟨r36, hr37, hp⟩ := bnd hp
   refine FL.call (wF_yes rfl rfl rfl c35) rfl rfl (E.call Tryz.call108 (A1 rfl)) (w_spec_l23First S23.sl v0 a0 p0 hr37) ?_
   rintro e w38 ⟨rfl, r39⟩
   refine ⟨_, rfl, ?_⟩
   have S40 := S23.call r39
   refine FL.val (wF_yes rfl rfl rfl c35) rfl rfl (E.lss rfl rfl) ?_
   obtain rfl := Option.some.inj hp
   refine FL.v (E.pickT rfl c35 rfl) ?_
   exact FL.nil ⟨rfl, _, S40, (Inc.rfl _), rfl⟩
  ·
   refine FL.skip (wF_no rfl rfl rfl c35) rfl ?_
   refine FL.skip (wF_no rfl rfl rfl c35) rfl ?_
   refine FL.skip (wF_no rfl rfl rfl c35) rfl ?_
   obtain rfl := Option.some.inj hp
   refine FL.v (E.pickF rfl c35 rfl) ?_
   exact FL.nil ⟨rfl, _, S23, (Inc.rfl _), rfl⟩
 rintro f34 w33 ⟨H30, S31, i32, k41⟩
 refine FL.v (E.assign k41) ?_
 refine FL.nil ?_
 refine FW.ret ?_
 obtain rfl := Option.some.inj hp
 exact ⟨.inr rfl, res1 rfl rfl ⟨rfl, S31.back⟩⟩

@[reducible] def p_spec_l23Uses (Ha : GH) (wa : World) (r : (List Int)) : Ending → World → Prop :=
 fun e w' => ∃ H' : GH, ∃ v0 : Value, ∃ n0 : Nat, ∃ c0 : List Value, e = .returned (v0) ∧ St Ha wa H' w' [.row 3 1 v0 n0 c0] ∧ Els (up wa.heap.size H') eI 1 c0 r
set_option maxHeartbeats 4000000 in
theorem w_spec_l23Uses {Ha : GH} {wa : World} (hs : Sl Ha wa) (a0 : SeqStep) (v0_0 : Value) (p0_0 : RSl Ha eS 1 v0_0 a0.seq.left) (v0_1 : Value) (p0_1 : RSl Ha eS 1 v0_1 a0.seq.right) :
  Calls Tryz.prog 59 #[Value.agg #[v0_0, v0_1, Value.int .i64 a0.rule, Value.string a0.main, Value.int .i64 a0.a, Value.int .i64 a0.b]] wa (p_spec_l23Uses Ha wa (PF.spec_l23Uses a0)) := by
 obtain ⟨r, hp⟩ : ∃ r, (PF.spec_l23Uses a0) = r := ⟨_, rfl⟩
 rw [hp]
 unfold PF.spec_l23Uses at hp
 have S0 := St.init hs
 refine calls_go (N := 21) (args := [Value.agg #[v0_0, v0_1, Value.int .i64 a0.rule, Value.string a0.main, Value.int .i64 a0.a, Value.int .i64 a0.b]]) Tryz.func59 rfl rfl rfl ?_
 refine FW.seq (FW.region ?_)
 obtain ⟨b21, w22, run23, S24⟩ := S0.box (P := Tryz.prog) 74 [v0_0, v0_1, Value.int .i64 a0.rule, Value.string a0.main, Value.int .i64 a0.a, Value.int .i64 a0.b] (v := Value.agg #[v0_0, v0_1, Value.int .i64 a0.rule, Value.string a0.main, Value.int .i64 a0.a, Value.int .i64 a0.b]) rfl (ones_cons p0_0.one (ones_cons p0_1.one (ones_cons rfl (ones_cons rfl (ones_cons rfl (ones_cons rfl ones_nil))))))
 refine FL.v (E.box rfl run23) ?_
 obtain ⟨H25, S26, i27, at28⟩ := S24.sealBox (i := 0) (l' := []) rfl rfl
 refine FL.v (E.assign (v := Value.slice none 0 0) rfl) ?_
 refine FL.nil (FW.seq (FW.seq (FW.region ?_)))
 refine FL.v (E.fieldAddr tf74_1 rfl) ?_
 refine FL.v (E.load rfl (run_load1 Tryz.isAgg3 (at28.now S26.sl) rfl)) ?_
 refine FL.nil (FW.block (FW.seq (FW.region ?_)))
 refine FL.v (E.eql rfl rfl) ?_
 refine FL.v (E.assign (v := Value.bool (a0.rule == 1)) rfl) ?_
 refine FL.nil ?_
 rcases ifT hp with ⟨c29, hp⟩ | ⟨c29, hp⟩
 ·
  refine FW.condT rfl c29 ?_
  refine FW.seq (FW.region ?_)
  obtain ⟨v30, w31, run32, S33⟩ := S26.buildSlice (P := Tryz.prog) te82 [] (parts := #[]) (cells := []) rfl szs_nil fc_nil ones_nil (Nat.le_of_ble_eq_true rfl)
  have els34 : Els (up wa.heap.size H25) eI 1 [] [] := Els.nil
  refine FL.v (E.buildSlice (B0) run32) ?_
  refine FL.v (E.assign (v := v30) rfl) ?_
  refine FL.nil ?_
  refine FW.ret ?_
  obtain rfl := hp
  exact ⟨.inr rfl, res1 rfl rfl ⟨_, _, _, _, rfl, S33, els34⟩⟩
 ·
  refine FW.condF rfl c29 ?_
  refine FW.seq (FW.seq (FW.region ?_))
  refine FL.v (E.eql rfl rfl) ?_
  refine FL.v (E.assign (v := Value.bool (a0.rule == 5)) rfl) ?_
  refine FL.nil ?_
  rcases ifT hp with ⟨c35, hp⟩ | ⟨c35, hp⟩
  ·
   refine FW.condT rfl c35 ?_
   refine FW.skip ?_
   refine FW.condT rfl c35 ?_
   refine FW.seq (FW.region ?_)
   refine FL.v (E.fieldAddr tf74_3 rfl) ?_
   refine FL.v (E.load rfl (run_load1 Tryz.isAgg3 (at28.now S26.sl) rfl)) ?_
   refine FL.v (E.fieldAddr tf74_4 rfl) ?_
   refine FL.v (E.load rfl (run_load1 Tryz.isAgg3 (at28.now S26.sl) rfl)) ?_
   obtain ⟨v36, w37, run38, S39, els40⟩ := S26.ints (P := Tryz.prog) te82 (up wa.heap.size H25) 2 [a0.a, a0.b]
   refine FL.v (E.buildSlice (B2 rfl rfl) run38) ?_
   refine FL.v (E.assign (v := v36) rfl) ?_
   refine FL.nil ?_
   refine FW.ret ?_
   obtain rfl := hp
   exact ⟨.inr rfl, res1 rfl rfl ⟨_, _, _, _, rfl, S39, els40⟩⟩
  ·
   refine FW.condF rfl c35 ?_
   refine FW.seq (FW.region ?_)
   refine FL.v (E.eql rfl rfl) ?_
   refine FL.v (E.assign (v := Value.bool (a0.rule == 6)) rfl) ?_
   refine FL.nil ?_
   rcases ifT hp with ⟨c41, hp⟩ | ⟨c41, hp⟩
   ·
    refine FW.condT rfl c41 ?_
    refine FW.skip ?_
    refine FW.condT rfl c41 ?_
    refine FW.seq (FW.region ?_)
    refine FL.v (E.fieldAddr tf74_3 rfl) ?_
    refine FL.v (E.load rfl (run_load1 Tryz.isAgg3 (at28.now S26.sl) rfl)) ?_
    refine FL.v (E.fieldAddr tf74_4 rfl) ?_
    refine FL.v (E.load rfl (run_load1 Tryz.isAgg3 (at28.now S26.sl) rfl)) ?_
    obtain ⟨v42, w43, run44, S45, els46⟩ := S26.ints (P := Tryz.prog) te82 (up wa.heap.size H25) 2 [a0.a, a0.b]
    refine FL.v (E.buildSlice (B2 rfl rfl) run44) ?_
    refine FL.v (E.assign (v := v42) rfl) ?_
    refine FL.nil ?_
    refine FW.ret ?_
    obtain rfl := hp
    exact ⟨.inr rfl, res1 rfl rfl ⟨_, _, _, _, rfl, S45, els46⟩⟩
   ·
    refine FW.condF rfl c41 ?_
    refine FW.seq (FW.region ?_)
    refine FL.v (E.eql rfl rfl) ?_
    refine FL.v (E.assign (v := Value.bool (a0.rule == 8)) rfl) ?_
    refine FL.nil ?_
    rcases ifT hp with ⟨c47, hp⟩ | ⟨c47, hp⟩
    ·
     refine FW.condT rfl c47 ?_
     refine FW.skip ?_
     refine FW.condT rfl c47 ?_
     refine FW.seq (FW.region ?_)
     refine FL.v (E.fieldAddr tf74_3 rfl) ?_
     refine FL.v (E.load rfl (run_load1 Tryz.isAgg3 (at28.now S26.sl) rfl)) ?_
     refine FL.v (E.fieldAddr tf74_4 rfl) ?_
     refine FL.v (E.load rfl (run_load1 Tryz.isAgg3 (at28.now S26.sl) rfl)) ?_
     obtain ⟨v48, w49, run50, S51, els52⟩ := S26.ints (P := Tryz.prog) te82 (up wa.heap.size H25) 2 [a0.a, a0.b]
     refine FL.v (E.buildSlice (B2 rfl rfl) run50) ?_
     refine FL.v (E.assign (v := v48) rfl) ?_
     refine FL.nil ?_
     refine FW.ret ?_
     obtain rfl := hp
     exact ⟨.inr rfl, res1 rfl rfl ⟨_, _, _, _, rfl, S51, els52⟩⟩
    ·
     refine FW.condF rfl c47 ?_
     refine FW.region ?_
     refine FL.v (E.eql rfl rfl) ?_
     refine FL.v (E.assign (v := Value.bool (a0.rule == 11)) rfl) ?_
     refine FL.nil ?_
     rcases ifT hp with ⟨c53, hp⟩ | ⟨c53, hp⟩
     ·
      refine FW.condT rfl c53 ?_
      refine FW.seq (FW.region ?_)
      refine FL.v (E.fieldAddr tf74_3 rfl) ?_
      refine FL.v (E.load rfl (run_load1 Tryz.isAgg3 (at28.now S26.sl) rfl)) ?_
      refine FL.v (E.fieldAddr tf74_4 rfl) ?_
      refine FL.v (E.load rfl (run_load1 Tryz.isAgg3 (at28.now S26.sl) rfl)) ?_
      obtain ⟨v54, w55, run56, S57, els58⟩ := S26.ints (P := Tryz.prog) te82 (up wa.heap.size H25) 2 [a0.a, a0.b]
      refine FL.v (E.buildSlice (B2 rfl rfl) run56) ?_
      refine FL.v (E.assign (v := v54) rfl) ?_
      refine FL.nil ?_
      refine FW.ret ?_
      obtain rfl := hp
      exact ⟨.inr rfl, res1 rfl rfl ⟨_, _, _, _, rfl, S57, els58⟩⟩
     ·
      refine FW.condF rfl c53 ?_
      refine FW.skip (FW.seq (FW.region ?_))
      refine FL.v (E.fieldAddr tf74_3 rfl) ?_
      refine FL.v (E.load rfl (run_load1 Tryz.isAgg3 (at28.now S26.sl) rfl)) ?_
      obtain ⟨v59, w60, run61, S62, els63⟩ := S26.ints (P := Tryz.prog) te82 (up wa.heap.size H25) 1 [a0.a]
      refine FL.v (E.buildSlice (B1 rfl) run61) ?_
      refine FL.v (E.assign (v := v59) rfl) ?_
      refine FL.nil ?_
      refine FW.ret ?_
      obtain rfl := hp
      exact ⟨.inr rfl, res1 rfl rfl ⟨_, _, _, _, rfl, S62, els63⟩⟩

end Go.Proofs
