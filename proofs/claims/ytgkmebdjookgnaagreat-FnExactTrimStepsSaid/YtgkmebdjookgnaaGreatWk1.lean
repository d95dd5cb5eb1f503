/- Part of the walks and plain laws behind the claim: it proves helpers, under no condition beyond their own. -/
import Derived.Test.YtgkmebdjookgnaaGreatMr16
import Derived.Test.YtgkmebdjookgnaaGreatMr14
import Derived.Test.YtgkmebdjookgnaaGreatMr19
import Derived.Test.YtgkmebdjookgnaaGreatSh
import Derived.Test.YtgkmebdjookgnaaGreatPf
import Derived.Test.YtgkmebdjookgnaaGreatProg
set_option linter.unusedVariables false
set_option maxRecDepth 100000
namespace Go.Proofs
open Go.Mr Go.Pu Go.PF Go.RowKit

def eCnf : Enc Cnf := ⟨fun H cs s => ∃ v0, cs = [Value.int .i64 s.vars, v0] ∧ RSl H (eL eI 1) 1 v0 s.clauses, fun hi ⟨v0, h, h0⟩ => ⟨_, h, h0.mono hi⟩, by rintro H cs s ⟨v0, rfl, h0⟩; exact (ones_cons rfl (ones_cons h0.one ones_nil)), by rintro H cs s ⟨v0, rfl, h0⟩ b hb; obtain ⟨u, hu, hn⟩ := mem_bl hb; simp only [List.mem_cons, List.not_mem_nil, or_false] at hu; rcases hu with rfl | rfl <;> first | (cases hn; done) | exact h0.dom b (mem_bl1 hn)⟩
theorem eCnf_open {H : GH} {cs : List Value} {s : Cnf} (h : eCnf.rel H cs s) : ∃ v0, cs = [Value.int .i64 s.vars, v0] ∧ RSl H (eL eI 1) 1 v0 s.clauses := h

def eResStep : Enc ResStep := ⟨fun H cs s => ∃ v0, cs = [v0, Value.int .i64 s.left, Value.int .i64 s.right, Value.int .i64 s.pivot] ∧ RSl H eI 1 v0 s.clause, fun hi ⟨v0, h, h0⟩ => ⟨_, h, h0.mono hi⟩, by rintro H cs s ⟨v0, rfl, h0⟩; exact (ones_cons h0.one (ones_cons rfl (ones_cons rfl (ones_cons rfl ones_nil)))), by rintro H cs s ⟨v0, rfl, h0⟩ b hb; obtain ⟨u, hu, hn⟩ := mem_bl hb; simp only [List.mem_cons, List.not_mem_nil, or_false] at hu; rcases hu with rfl | rfl | rfl | rfl <;> first | (cases hn; done) | exact h0.dom b (mem_bl1 hn)⟩
theorem eResStep_open {H : GH} {cs : List Value} {s : ResStep} (h : eResStep.rel H cs s) : ∃ v0, cs = [v0, Value.int .i64 s.left, Value.int .i64 s.right, Value.int .i64 s.pivot] ∧ RSl H eI 1 v0 s.clause := h

theorem eResStep_loc : LocE eResStep := by rintro H H' cs x ⟨v0, rfl, h0⟩ hb; exact ⟨_, rfl, h0.only eI_flat.rel (fun b q => hb b (bl_get (i := 0) rfl b q))⟩

def eBench : Enc Bench := ⟨fun H cs s => ∃ v0 v1, cs = [Value.int .i64 s.stage, Value.int .i64 s.formula.vars, v0, v1, Value.int .i64 s.wide, Value.int .i64 s.count] ∧ RSl H (eL eI 1) 1 v0 s.formula.clauses ∧ RSl H eResStep 4 v1 s.steps, fun hi ⟨v0, v1, h, h0, h1⟩ => ⟨_, _, h, h0.mono hi, h1.mono hi⟩, by rintro H cs s ⟨v0, v1, rfl, h0, h1⟩; exact (ones_cons rfl (ones_cons rfl (ones_cons h0.one (ones_cons h1.one (ones_cons rfl (ones_cons rfl ones_nil)))))), by rintro H cs s ⟨v0, v1, rfl, h0, h1⟩ b hb; obtain ⟨u, hu, hn⟩ := mem_bl hb; simp only [List.mem_cons, List.not_mem_nil, or_false] at hu; rcases hu with rfl | rfl | rfl | rfl | rfl | rfl <;> first | (cases hn; done) | exact h0.dom b (mem_bl1 hn) | exact h1.dom b (mem_bl1 hn)⟩
theorem eBench_open {H : GH} {cs : List Value} {s : Bench} (h : eBench.rel H cs s) : ∃ v0 v1, cs = [Value.int .i64 s.stage, Value.int .i64 s.formula.vars, v0, v1, Value.int .i64 s.wide, Value.int .i64 s.count] ∧ RSl H (eL eI 1) 1 v0 s.formula.clauses ∧ RSl H eResStep 4 v1 s.steps := h

def eDag : Enc Dag := ⟨fun H cs s => ∃ v0, cs = [v0] ∧ RSl H (eL eI 1) 1 v0 s.preds, fun hi ⟨v0, h, h0⟩ => ⟨_, h, h0.mono hi⟩, by rintro H cs s ⟨v0, rfl, h0⟩; exact (ones_cons h0.one ones_nil), by rintro H cs s ⟨v0, rfl, h0⟩ b hb; obtain ⟨u, hu, hn⟩ := mem_bl hb; simp only [List.mem_cons, List.not_mem_nil, or_false] at hu; rcases hu with rfl <;> first | (cases hn; done) | exact h0.dom b (mem_bl1 hn)⟩
theorem eDag_open {H : GH} {cs : List Value} {s : Dag} (h : eDag.rel H cs s) : ∃ v0, cs = [v0] ∧ RSl H (eL eI 1) 1 v0 s.preds := h

def el15Work : Enc l15Work := ⟨fun H cs s => ∃ v0 v1, cs = [v0, Value.int .i64 s.most, v1, Value.bool s.ok] ∧ RSl H (eL eI 1) 1 v0 s.now ∧ RSl H (eL eI 1) 1 v1 s.all, fun hi ⟨v0, v1, h, h0, h1⟩ => ⟨_, _, h, h0.mono hi, h1.mono hi⟩, by rintro H cs s ⟨v0, v1, rfl, h0, h1⟩; exact (ones_cons h0.one (ones_cons rfl (ones_cons h1.one (ones_cons rfl ones_nil)))), by rintro H cs s ⟨v0, v1, rfl, h0, h1⟩ b hb; obtain ⟨u, hu, hn⟩ := mem_bl hb; simp only [List.mem_cons, List.not_mem_nil, or_false] at hu; rcases hu with rfl | rfl | rfl | rfl <;> first | (cases hn; done) | exact h0.dom b (mem_bl1 hn) | exact h1.dom b (mem_bl1 hn)⟩
theorem el15Work_open {H : GH} {cs : List Value} {s : l15Work} (h : el15Work.rel H cs s) : ∃ v0 v1, cs = [v0, Value.int .i64 s.most, v1, Value.bool s.ok] ∧ RSl H (eL eI 1) 1 v0 s.now ∧ RSl H (eL eI 1) 1 v1 s.all := h

def eSpaceStep : Enc SpaceStep := ⟨fun H cs s => cs = [Value.int .i64 s.kind, Value.int .i64 s.a, Value.int .i64 s.b, Value.int .i64 s.pivot], fun _ h => h, by rintro H cs s rfl; exact (ones_cons rfl (ones_cons rfl (ones_cons rfl (ones_cons rfl ones_nil)))), by rintro H cs s rfl b hb; obtain ⟨u, hu, hn⟩ := mem_bl hb; simp only [List.mem_cons, List.not_mem_nil, or_false] at hu; rcases hu with rfl | rfl | rfl | rfl <;> cases hn⟩
theorem eSpaceStep_open {H : GH} {cs : List Value} {s : SpaceStep} (h : eSpaceStep.rel H cs s) : cs = [Value.int .i64 s.kind, Value.int .i64 s.a, Value.int .i64 s.b, Value.int .i64 s.pivot] := h

theorem eSpaceStep_flat : FlatE eSpaceStep := by rintro H H' cs x rfl; exact ⟨rfl, rfl⟩

def Fn_I_to_B (P : Program) (H : GH) (v : Value) (p : Int → Option Bool) : Prop :=
  ∀ (H' : GH) (w' : World), Inc H H' → Sl H' w' → ∀ (x0 : Int) (r : Bool), p x0 = some r →
    ∃ (fid : Nat) (cs : Array Value), v = Value.func (.func fid) #[] cs ∧ (∀ args w, (callFunc fid args).run P w = .ok (.enter fid args) w) ∧ Calls P fid (#[Value.int .i64 x0] ++ cs) w' (Sc H' w' (Value.bool r))
theorem Fn_I_to_B.mono {P : Program} {H H' : GH} {v : Value} {p : Int → Option Bool} (h : Fn_I_to_B P H v p) (hi : Inc H H') : Fn_I_to_B P H' v p :=
  fun H2 w2 h2 => h H2 w2 (hi.tr h2)

def Fn_I_I_to_I (P : Program) (H : GH) (v : Value) (p : Int → Int → Option Int) : Prop :=
  ∀ (H' : GH) (w' : World), Inc H H' → Sl H' w' → ∀ (x0 : Int) (x1 : Int) (r : Int), p x0 x1 = some r →
    ∃ (fid : Nat) (cs : Array Value), v = Value.func (.func fid) #[] cs ∧ (∀ args w, (callFunc fid args).run P w = .ok (.enter fid args) w) ∧ Calls P fid (#[Value.int .i64 x0, Value.int .i64 x1] ++ cs) w' (Sc H' w' (Value.int .i64 r))
theorem Fn_I_I_to_I.mono {P : Program} {H H' : GH} {v : Value} {p : Int → Int → Option Int} (h : Fn_I_I_to_I P H v p) (hi : Inc H H') : Fn_I_I_to_I P H' v p :=
  fun H2 w2 h2 => h H2 w2 (hi.tr h2)

def Fn_I_to_I (P : Program) (H : GH) (v : Value) (p : Int → Option Int) : Prop :=
  ∀ (H' : GH) (w' : World), Inc H H' → Sl H' w' → ∀ (x0 : Int) (r : Int), p x0 = some r →
    ∃ (fid : Nat) (cs : Array Value), v = Value.func (.func fid) #[] cs ∧ (∀ args w, (callFunc fid args).run P w = .ok (.enter fid args) w) ∧ Calls P fid (#[Value.int .i64 x0] ++ cs) w' (Sc H' w' (Value.int .i64 r))
theorem Fn_I_to_I.mono {P : Program} {H H' : GH} {v : Value} {p : Int → Option Int} (h : Fn_I_to_I P H v p) (hi : Inc H H') : Fn_I_to_I P H' v p :=
  fun H2 w2 h2 => h H2 w2 (hi.tr h2)

theorem te128 : TE Tryz.prog 128 4 1 (.bool false) := ⟨Tryz.underlying128, ⟨Tryz.t4, Tryz.type4, rfl, rfl, by decide⟩, rfl, by decide⟩
theorem te22 : TE Tryz.prog 22 61 1 (.slice none 0 0) := ⟨Tryz.underlying22, ⟨Tryz.t61, Tryz.type61, rfl, rfl, by decide⟩, rfl, by decide⟩
theorem te41 : TE Tryz.prog 41 103 4 (.agg #[(.slice none 0 0), (.int .i64 0), (.int .i64 0), (.int .i64 0)]) := ⟨Tryz.underlying41, ⟨Tryz.t103, Tryz.type103, rfl, rfl, by decide⟩, rfl, by decide⟩
theorem te46 : TE Tryz.prog 46 112 4 (.agg #[(.slice none 0 0), (.int .i64 0), (.int .i64 0), (.int .i64 0)]) := ⟨Tryz.underlying46, ⟨Tryz.t112, Tryz.type112, rfl, rfl, by decide⟩, rfl, by decide⟩
theorem te61 : TE Tryz.prog 61 3 1 (.int .i64 0) := ⟨Tryz.underlying61, ⟨Tryz.t3, Tryz.type3, rfl, rfl, by decide⟩, rfl, by decide⟩
theorem tf103_0 : TF Tryz.prog 103 0 0 := ⟨_, _, _, Tryz.underlying103, rfl, rfl, Tryz.sizeOf61, by decide⟩
theorem tf103_1 : TF Tryz.prog 103 1 1 := ⟨_, _, _, Tryz.underlying103, rfl, rfl, Tryz.sizeOf3, by decide⟩
theorem tf103_2 : TF Tryz.prog 103 2 2 := ⟨_, _, _, Tryz.underlying103, rfl, rfl, Tryz.sizeOf3, by decide⟩
theorem tf103_3 : TF Tryz.prog 103 3 3 := ⟨_, _, _, Tryz.underlying103, rfl, rfl, Tryz.sizeOf3, by decide⟩
theorem tf112_0 : TF Tryz.prog 112 0 0 := ⟨_, _, _, Tryz.underlying112, rfl, rfl, Tryz.sizeOf61, by decide⟩
theorem tf112_1 : TF Tryz.prog 112 1 1 := ⟨_, _, _, Tryz.underlying112, rfl, rfl, Tryz.sizeOf3, by decide⟩
theorem tf112_2 : TF Tryz.prog 112 2 2 := ⟨_, _, _, Tryz.underlying112, rfl, rfl, Tryz.sizeOf3, by decide⟩
theorem tf112_3 : TF Tryz.prog 112 3 3 := ⟨_, _, _, Tryz.underlying112, rfl, rfl, Tryz.sizeOf3, by decide⟩
theorem tf24_0 : TF Tryz.prog 24 0 0 := ⟨_, _, _, Tryz.underlying24, rfl, rfl, Tryz.sizeOf3, by decide⟩
theorem tf24_1 : TF Tryz.prog 24 1 1 := ⟨_, _, _, Tryz.underlying24, rfl, rfl, Tryz.sizeOf22, by decide⟩
theorem tf30_0 : TF Tryz.prog 30 0 0 := ⟨_, _, _, Tryz.underlying30, rfl, rfl, Tryz.sizeOf3, by decide⟩
theorem tf30_1 : TF Tryz.prog 30 1 1 := ⟨_, _, _, Tryz.underlying30, rfl, rfl, Tryz.sizeOf22, by decide⟩
theorem w_laws_szIntS {Ha : GH} {wa : World} (hs : Sl Ha wa) (v0 : Value) (a0 : List Int) (p0 : RSl Ha eI 1 v0 a0) (a1 : Int) :
    Calls Tryz.prog 131 #[v0, Value.int .i64 a1] wa (Sc Ha wa (Value.int .i64 (PF.laws_szIntS a0 a1))) := by
  obtain ⟨r, hp⟩ : ∃ r, (PF.laws_szIntS a0 a1) = r := ⟨_, rfl⟩
  rw [hp]
  unfold PF.laws_szIntS at hp
  have S0 := St.init hs
  refine calls_go (N := 12) (args := [v0, Value.int .i64 a1]) Tryz.func131 rfl rfl rfl ?_
  refine FW.seq ?_
  refine FW.region ?_
  refine FL.val rfl rfl rfl (E.assign (v := Value.int .i64 0) rfl) ?_
  refine FL.nil ?_
  refine FW.seq ?_
  refine FW.region ?_
  refine FL.val rfl rfl rfl (E.move (v := Value.int .i64 a1) rfl) ?_
  refine FL.val rfl rfl rfl (E.move (v := v0) rfl) ?_
  refine FL.val rfl rfl rfl (E.lenP te61 rfl p0) ?_
  refine FL.val rfl rfl rfl (E.sub rfl rfl) ?_
  refine FL.val rfl rfl rfl (E.assign (v := Value.int .i64 (wr (a1 - (len a0)))) rfl) ?_
  refine FL.nil ?_
  refine FW.seq ?_
  refine FW.seq ?_
  refine FW.region ?_
  refine FL.val rfl rfl rfl (E.move (v := Value.int .i64 (wr (a1 - (len a0)))) rfl) ?_
  refine FL.val rfl rfl rfl (E.lss rfl rfl) ?_
  refine FL.nil ?_
  rcases ifT hp with ⟨c21, hp⟩ | ⟨c21, hp⟩
  ·
    refine FW.condT rfl c21 ?_
    refine FW.seq ?_
    refine FW.region ?_
    refine FL.val rfl rfl rfl (E.assign (v := Value.int .i64 (-1)) rfl) ?_
    refine FL.nil ?_
    refine FW.ret ?_
    obtain rfl := hp
    exact ⟨.inr rfl, res1 rfl rfl ⟨rfl, S0.back⟩⟩
  ·
    refine FW.condF rfl c21 ?_
    refine FW.skip ?_
    refine FW.seq ?_
    refine FW.region ?_
    refine FL.val rfl rfl rfl (E.move (v := Value.int .i64 (wr (a1 - (len a0)))) rfl) ?_
    refine FL.val rfl rfl rfl (E.assign (v := Value.int .i64 (wr (a1 - (len a0)))) rfl) ?_
    refine FL.nil ?_
    refine FW.ret ?_
    obtain rfl := hp
    exact ⟨.inr rfl, res1 rfl rfl ⟨rfl, S0.back⟩⟩

theorem w_laws_szIntSS {Ha : GH} {wa : World} (hs : Sl Ha wa) (v0 : Value) (a0 : List (List Int)) (p0 : RSl Ha (eL eI 1) 1 v0 a0) (a1 : Int) {r : Int} (hp : (PF.laws_szIntSS a0 a1) = some r) :
    Calls Tryz.prog 67 #[v0, Value.int .i64 a1] wa (Sc Ha wa (Value.int .i64 r)) := by
  unfold PF.laws_szIntSS at hp
  have S0 := St.init hs
  refine calls_go (N := 27) (args := [v0, Value.int .i64 a1]) Tryz.func67 rfl rfl rfl ?_
  refine FW.seq ?_
  refine FW.region ?_
  refine FL.val rfl rfl rfl (E.assign (v := Value.int .i64 0) rfl) ?_
  refine FL.nil ?_
  refine FW.seq ?_
  refine FW.region ?_
  refine FL.val rfl rfl rfl (E.move (v := Value.int .i64 a1) rfl) ?_
  refine FL.val rfl rfl rfl (E.move (v := v0) rfl) ?_
  refine FL.val rfl rfl rfl (E.lenP te22 rfl p0) ?_
  refine FL.val rfl rfl rfl (E.sub rfl rfl) ?_
  refine FL.val rfl rfl rfl (E.assign (v := Value.int .i64 (wr (a1 - (len a0)))) rfl) ?_
  refine FL.nil ?_
  refine FW.seq ?_
  refine FW.seq ?_
  refine FW.region ?_
  refine FL.val rfl rfl rfl (E.move (v := Value.int .i64 (wr (a1 - (len a0)))) rfl) ?_
  refine FL.val rfl rfl rfl (E.lss rfl rfl) ?_
  refine FL.nil ?_
  rcases ifB hp with ⟨c21, hp⟩ | ⟨c21, hp⟩
  ·
    refine FW.condT rfl c21 ?_
    refine FW.seq ?_
    refine FW.region ?_
    refine FL.val rfl rfl rfl (E.assign (v := Value.int .i64 (-1)) rfl) ?_
    refine FL.nil ?_
    refine FW.ret ?_
    obtain rfl := Option.some.inj hp
    exact ⟨.inr rfl, res1 rfl rfl ⟨rfl, S0.back⟩⟩
  ·
    refine FW.condF rfl c21 ?_
    refine FW.skip ?_
    refine FW.seq ?_
    refine FW.seq ?_
    refine FW.region ?_
    refine FL.val rfl rfl rfl (E.assign (v := Value.int .i64 0) rfl) ?_
    refine FL.nil ?_
    obtain ⟨q23, hq, hp⟩ := bndR hp
    refine FW.block ?_
    refine FW.mono (FW.forL (S := Int) (X := Int) (fun (i23 : Nat) (s23 : Int) f w => ∃ H : GH, St Ha wa H w [] ∧ Inc Ha H ∧ f 5 = Value.int .i64 ((i23 : Nat) : Int) ∧ f 0 = v0 ∧ f 1 = Value.int .i64 s23) (fun q e f w => match q with | .go s23 => e = Exit.exit 0 ∧ (∃ H : GH, St Ha wa H w [] ∧ Inc Ha H ∧ f 1 = Value.int .i64 s23) | .rt x => ((e = Exit.ret) ∧ (fun e f w => (e = Exit.normal ∨ e = Exit.ret) ∧ ∀ a, Fr (δ := []) 27 a f → ∃ v, (results Tryz.f67 a.tmps).run Tryz.prog w = .ok v w ∧ (Sc Ha wa (Value.int .i64 x)) (.returned v) w) e f w)) hq ⟨_, S0, (Inc.rfl _), rfl, rfl, rfl⟩ ?_ ?_) ?_
    ·
      clear hp hq
      rintro i23 y22 s23 f48 w47 ⟨H44, S45, i46, k49, k50, k51⟩ hx23 o64 hp
      refine FW.seq ?_
      refine FW.seq ?_
      refine FW.region ?_
      refine FL.val rfl rfl rfl (E.move k49) ?_
      refine FL.val rfl rfl rfl (E.move k50) ?_
      refine FL.val rfl rfl rfl (E.lenP te22 rfl p0) ?_
      refine FL.val rfl rfl rfl (E.lssT rfl rfl (lss_len hx23)) ?_
      refine FL.nil ?_
      refine FW.condT rfl rfl ?_
      refine FW.skip ?_
      refine FW.seq ?_
      refine FW.block ?_
      refine FW.seq ?_
      refine FW.region ?_
      refine FL.val rfl rfl rfl (E.move k50) ?_
      refine FL.val rfl rfl rfl (E.move k49) ?_
      obtain ⟨p52, cs53, pt54, l55, at56, rel57⟩ := p0.at (ix_nat hx23)
      obtain ⟨v58, rfl, h59⟩ := eL_open rel57
      refine FL.val rfl rfl rfl (E.indexAddr te22 rfl rfl pt54) ?_
      refine FL.val rfl rfl rfl (E.load rfl (run_load0 Tryz.isAgg61 ((at56.mono i46).now S45.sl) rfl)) ?_
      refine FL.val rfl rfl rfl (E.move k51) ?_
      refine FL.call rfl rfl rfl (E.call Tryz.call131 (A2 rfl rfl)) (w_laws_szIntS S45.sl v58 y22 (h59.mono i46) s23) ?_
      rintro e w60 ⟨rfl, r61⟩
      refine ⟨_, rfl, ?_⟩
      have S62 := S45.call r61
      refine FL.val rfl rfl rfl (E.assign (v := Value.int .i64 (PF.laws_szIntS y22 s23)) rfl) ?_
      refine FL.nil ?_
      refine FW.seq ?_
      refine FW.region ?_
      refine FL.val rfl rfl rfl (E.move (v := Value.int .i64 (PF.laws_szIntS y22 s23)) rfl) ?_
      refine FL.val rfl rfl rfl (E.lss rfl rfl) ?_
      refine FL.nil ?_
      rcases ifB hp with ⟨c63, hp⟩ | ⟨c63, hp⟩
      ·
        refine FW.condT rfl c63 ?_
        refine FW.seq ?_
        refine FW.region ?_
        refine FL.val rfl rfl rfl (E.assign (v := Value.int .i64 (-1)) rfl) ?_
        refine FL.nil ?_
        refine FW.ret ?_
        obtain rfl := Option.some.inj hp
        exact ⟨nofun, rfl, ⟨.inr rfl, res1 rfl rfl ⟨rfl, S62.back⟩⟩⟩
      ·
        refine FW.condF rfl c63 ?_
        refine FW.skip ?_
        refine FW.region ?_
        refine FL.val rfl rfl rfl (E.move k49) ?_
        refine FL.val rfl rfl rfl (E.add rfl rfl) ?_
        refine FL.val rfl rfl rfl (E.assign (v := Value.int .i64 (wr (((i23 : Nat) : Int) + 1))) rfl) ?_
        refine FL.nil ?_
        obtain rfl := Option.some.inj hp
        exact ⟨rfl, ⟨_, S62, i46, (nat_succ rfl (lt_of_get hx23) (p0.mono i46).le), k50, rfl⟩⟩
    ·
      clear hp hq
      rintro s23 f75 w74 ⟨H71, S72, i73, k76, k77, k78⟩
      refine FW.seq ?_
      refine FW.seq ?_
      refine FW.region ?_
      refine FL.val rfl rfl rfl (E.move k76) ?_
      refine FL.val rfl rfl rfl (E.move k77) ?_
      refine FL.val rfl rfl rfl (E.lenP te22 rfl p0) ?_
      refine FL.val rfl rfl rfl (E.lss rfl rfl) ?_
      refine FL.nil ?_
      refine FW.condF rfl dlt_len ?_
      refine FW.exit ?_
      exact ⟨nofun, rfl, ⟨_, S72, i73, k78⟩⟩
    ·
      clear hq
      intro e f69 w68 hD
      rcases q23 with s23 | x23
      ·
        obtain ⟨rfl, hD⟩ := hD
        obtain ⟨H65, S66, i67, k70⟩ := hD
        replace hp := el_go hp
        refine FW.seq ?_
        refine FW.region ?_
        refine FL.val rfl rfl rfl (E.move k70) ?_
        refine FL.val rfl rfl rfl (E.assign (v := Value.int .i64 s23) rfl) ?_
        refine FL.nil ?_
        refine FW.ret ?_
        obtain rfl := Option.some.inj hp
        exact ⟨.inr rfl, res1 rfl rfl ⟨rfl, S66.back⟩⟩
      ·
        obtain ⟨he, hL⟩ := hD
        replace hp := el_rt hp
        obtain rfl := Option.some.inj hp
        subst he
        exact hL

theorem w_laws_szCnf {Ha : GH} {wa : World} (hs : Sl Ha wa) (a0 : Cnf) (v0_1 : Value) (p0_1 : RSl Ha (eL eI 1) 1 v0_1 a0.clauses) (a1 : Int) {r : Int} (hp : (PF.laws_szCnf a0 a1) = some r) :
    Calls Tryz.prog 15 #[Value.agg #[Value.int .i64 a0.vars, v0_1], Value.int .i64 a1] wa (Sc Ha wa (Value.int .i64 r)) := by
  unfold PF.laws_szCnf at hp
  have S0 := St.init hs
  refine calls_go (N := 12) (args := [Value.agg #[Value.int .i64 a0.vars, v0_1], Value.int .i64 a1]) Tryz.func15 rfl rfl rfl ?_
  refine FW.seq ?_
  refine FW.region ?_
  obtain ⟨b21, w22, run23, S24⟩ := S0.box (P := Tryz.prog) 24 [Value.int .i64 a0.vars, v0_1] (v := Value.agg #[Value.int .i64 a0.vars, v0_1]) rfl (ones_cons rfl (ones_cons p0_1.one ones_nil))
  refine FL.val rfl rfl rfl (E.box rfl run23) ?_
  obtain ⟨H25, S26, i27, at28⟩ := S24.sealBox (i := 0) (l' := []) rfl rfl
  refine FL.val rfl rfl rfl (E.assign (v := Value.int .i64 0) rfl) ?_
  refine FL.nil ?_
  refine FW.seq ?_
  refine FW.region ?_
  refine FL.val rfl rfl rfl (E.fieldAddr tf24_1 rfl) ?_
  refine FL.val rfl rfl rfl (E.load rfl (run_load1 Tryz.isAgg22 (at28.now S26.sl) rfl)) ?_
  refine FL.val rfl rfl rfl (E.move (v := Value.int .i64 a1) rfl) ?_
  obtain ⟨r29, hr30, hp⟩ := bnd hp
  refine FL.call rfl rfl rfl (E.call Tryz.call67 (A2 rfl rfl)) (w_laws_szIntSS S26.sl v0_1 a0.clauses (p0_1.mono i27) a1 hr30) ?_
  rintro e w31 ⟨rfl, r32⟩
  refine ⟨_, rfl, ?_⟩
  have S33 := S26.call r32
  refine FL.val rfl rfl rfl (E.assign (v := Value.int .i64 r29) rfl) ?_
  refine FL.nil ?_
  refine FW.seq ?_
  refine FW.seq ?_
  refine FW.region ?_
  refine FL.val rfl rfl rfl (E.move (v := Value.int .i64 r29) rfl) ?_
  refine FL.val rfl rfl rfl (E.lss rfl rfl) ?_
  refine FL.nil ?_
  rcases ifB hp with ⟨c34, hp⟩ | ⟨c34, hp⟩
  ·
    refine FW.condT rfl c34 ?_
    refine FW.seq ?_
    refine FW.region ?_
    refine FL.val rfl rfl rfl (E.assign (v := Value.int .i64 (-1)) rfl) ?_
    refine FL.nil ?_
    refine FW.ret ?_
    obtain rfl := Option.some.inj hp
    exact ⟨.inr rfl, res1 rfl rfl ⟨rfl, S33.back⟩⟩
  ·
    refine FW.condF rfl c34 ?_
    refine FW.skip ?_
    refine FW.seq ?_
    refine FW.region ?_
    refine FL.val rfl rfl rfl (E.move (v := Value.int .i64 r29) rfl) ?_
    refine FL.val rfl rfl rfl (E.assign (v := Value.int .i64 r29) rfl) ?_
    refine FL.nil ?_
    refine FW.ret ?_
    obtain rfl := Option.some.inj hp
    exact ⟨.inr rfl, res1 rfl rfl ⟨rfl, S33.back⟩⟩

theorem w_laws_szResStep {Ha : GH} {wa : World} (hs : Sl Ha wa) (a0 : ResStep) (v0_0 : Value) (p0_0 : RSl Ha eI 1 v0_0 a0.clause) (a1 : Int) :
    Calls Tryz.prog 92 #[Value.agg #[v0_0, Value.int .i64 a0.left, Value.int .i64 a0.right, Value.int .i64 a0.pivot], Value.int .i64 a1] wa (Sc Ha wa (Value.int .i64 (PF.laws_szResStep a0 a1))) := by
  obtain ⟨r, hp⟩ : ∃ r, (PF.laws_szResStep a0 a1) = r := ⟨_, rfl⟩
  rw [hp]
  unfold PF.laws_szResStep at hp
  have S0 := St.init hs
  refine calls_go (N := 12) (args := [Value.agg #[v0_0, Value.int .i64 a0.left, Value.int .i64 a0.right, Value.int .i64 a0.pivot], Value.int .i64 a1]) Tryz.func92 rfl rfl rfl ?_
  refine FW.seq ?_
  refine FW.region ?_
  obtain ⟨b21, w22, run23, S24⟩ := S0.box (P := Tryz.prog) 112 [v0_0, Value.int .i64 a0.left, Value.int .i64 a0.right, Value.int .i64 a0.pivot] (v := Value.agg #[v0_0, Value.int .i64 a0.left, Value.int .i64 a0.right, Value.int .i64 a0.pivot]) rfl (ones_cons p0_0.one (ones_cons rfl (ones_cons rfl (ones_cons rfl ones_nil))))
  refine FL.val rfl rfl rfl (E.box rfl run23) ?_
  obtain ⟨H25, S26, i27, at28⟩ := S24.sealBox (i := 0) (l' := []) rfl rfl
  refine FL.val rfl rfl rfl (E.assign (v := Value.int .i64 0) rfl) ?_
  refine FL.nil ?_
  refine FW.seq ?_
  refine FW.region ?_
  refine FL.val rfl rfl rfl (E.fieldAddr tf112_0 rfl) ?_
  refine FL.val rfl rfl rfl (E.load rfl (run_load1 Tryz.isAgg61 (at28.now S26.sl) rfl)) ?_
  refine FL.val rfl rfl rfl (E.move (v := Value.int .i64 a1) rfl) ?_
  refine FL.call rfl rfl rfl (E.call Tryz.call131 (A2 rfl rfl)) (w_laws_szIntS S26.sl v0_0 a0.clause (p0_0.mono i27) a1) ?_
  rintro e w29 ⟨rfl, r30⟩
  refine ⟨_, rfl, ?_⟩
  have S31 := S26.call r30
  refine FL.val rfl rfl rfl (E.assign (v := Value.int .i64 (PF.laws_szIntS a0.clause a1)) rfl) ?_
  refine FL.nil ?_
  refine FW.seq ?_
  refine FW.seq ?_
  refine FW.region ?_
  refine FL.val rfl rfl rfl (E.move (v := Value.int .i64 (PF.laws_szIntS a0.clause a1)) rfl) ?_
  refine FL.val rfl rfl rfl (E.lss rfl rfl) ?_
  refine FL.nil ?_
  rcases ifT hp with ⟨c32, hp⟩ | ⟨c32, hp⟩
  ·
    refine FW.condT rfl c32 ?_
    refine FW.seq ?_
    refine FW.region ?_
    refine FL.val rfl rfl rfl (E.assign (v := Value.int .i64 (-1)) rfl) ?_
    refine FL.nil ?_
    refine FW.ret ?_
    obtain rfl := hp
    exact ⟨.inr rfl, res1 rfl rfl ⟨rfl, S31.back⟩⟩
  ·
    refine FW.condF rfl c32 ?_
    refine FW.skip ?_
    refine FW.seq ?_
    refine FW.region ?_
    refine FL.val rfl rfl rfl (E.move (v := Value.int .i64 (PF.laws_szIntS a0.clause a1)) rfl) ?_
    refine FL.val rfl rfl rfl (E.assign (v := Value.int .i64 (PF.laws_szIntS a0.clause a1)) rfl) ?_
    refine FL.nil ?_
    refine FW.ret ?_
    obtain rfl := hp
    exact ⟨.inr rfl, res1 rfl rfl ⟨rfl, S31.back⟩⟩

theorem w_laws_szResStepS {Ha : GH} {wa : World} (hs : Sl Ha wa) (v0 : Value) (a0 : List ResStep) (p0 : RSl Ha eResStep 4 v0 a0) (a1 : Int) {r : Int} (hp : (PF.laws_szResStepS a0 a1) = some r) :
    Calls Tryz.prog 41 #[v0, Value.int .i64 a1] wa (Sc Ha wa (Value.int .i64 r)) := by
  unfold PF.laws_szResStepS at hp
  have S0 := St.init hs
  refine calls_go (N := 27) (args := [v0, Value.int .i64 a1]) Tryz.func41 rfl rfl rfl ?_
  refine FW.seq ?_
  refine FW.region ?_
  refine FL.val rfl rfl rfl (E.assign (v := Value.int .i64 0) rfl) ?_
  refine FL.nil ?_
  refine FW.seq ?_
  refine FW.region ?_
  refine FL.val rfl rfl rfl (E.move (v := Value.int .i64 a1) rfl) ?_
  refine FL.val rfl rfl rfl (E.move (v := v0) rfl) ?_
  refine FL.val rfl rfl rfl (E.lenP te46 rfl p0) ?_
  refine FL.val rfl rfl rfl (E.sub rfl rfl) ?_
  refine FL.val rfl rfl rfl (E.assign (v := Value.int .i64 (wr (a1 - (len a0)))) rfl) ?_
  refine FL.nil ?_
  refine FW.seq ?_
  refine FW.seq ?_
  refine FW.region ?_
  refine FL.val rfl rfl rfl (E.move (v := Value.int .i64 (wr (a1 - (len a0)))) rfl) ?_
  refine FL.val rfl rfl rfl (E.lss rfl rfl) ?_
  refine FL.nil ?_
  rcases ifB hp with ⟨c21, hp⟩ | ⟨c21, hp⟩
  ·
    refine FW.condT rfl c21 ?_
    refine FW.seq ?_
    refine FW.region ?_
    refine FL.val rfl rfl rfl (E.assign (v := Value.int .i64 (-1)) rfl) ?_
    refine FL.nil ?_
    refine FW.ret ?_
    obtain rfl := Option.some.inj hp
    exact ⟨.inr rfl, res1 rfl rfl ⟨rfl, S0.back⟩⟩
  ·
    refine FW.condF rfl c21 ?_
    refine FW.skip ?_
    refine FW.seq ?_
    refine FW.seq ?_
    refine FW.region ?_
    refine FL.val rfl rfl rfl (E.assign (v := Value.int .i64 0) rfl) ?_
    refine FL.nil ?_
    obtain ⟨q23, hq, hp⟩ := bndR hp
    refine FW.block ?_
    refine FW.mono (FW.forL (S := Int) (X := Int) (fun (i23 : Nat) (s23 : Int) f w => ∃ H : GH, St Ha wa H w [] ∧ Inc Ha H ∧ f 5 = Value.int .i64 ((i23 : Nat) : Int) ∧ f 0 = v0 ∧ f 1 = Value.int .i64 s23) (fun q e f w => match q with | .go s23 => e = Exit.exit 0 ∧ (∃ H : GH, St Ha wa H w [] ∧ Inc Ha H ∧ f 1 = Value.int .i64 s23) | .rt x => ((e = Exit.ret) ∧ (fun e f w => (e = Exit.normal ∨ e = Exit.ret) ∧ ∀ a, Fr (δ := []) 27 a f → ∃ v, (results Tryz.f41 a.tmps).run Tryz.prog w = .ok v w ∧ (Sc Ha wa (Value.int .i64 x)) (.returned v) w) e f w)) hq ⟨_, S0, (Inc.rfl _), rfl, rfl, rfl⟩ ?_ ?_) ?_
    ·
      clear hp hq
      rintro i23 y22 s23 f48 w47 ⟨H44, S45, i46, k49, k50, k51⟩ hx23 o64 hp
      refine FW.seq ?_
      refine FW.seq ?_
      refine FW.region ?_
      refine FL.val rfl rfl rfl (E.move k49) ?_
      refine FL.val rfl rfl rfl (E.move k50) ?_
      refine FL.val rfl rfl rfl (E.lenP te46 rfl p0) ?_
      refine FL.val rfl rfl rfl (E.lssT rfl rfl (lss_len hx23)) ?_
      refine FL.nil ?_
      refine FW.condT rfl rfl ?_
      refine FW.skip ?_
      refine FW.seq ?_
      refine FW.block ?_
      refine FW.seq ?_
      refine FW.region ?_
      refine FL.val rfl rfl rfl (E.move k50) ?_
      refine FL.val rfl rfl rfl (E.move k49) ?_
      obtain ⟨p52, cs53, pt54, l55, at56, rel57⟩ := p0.at (ix_nat hx23)
      obtain ⟨v58, rfl, h59⟩ := eResStep_open rel57
      refine FL.val rfl rfl rfl (E.indexAddr te46 rfl rfl pt54) ?_
      refine FL.val rfl rfl rfl (E.load rfl (run_loadA Tryz.isAgg112 Tryz.sizeOf112 ((at56.mono i46).now S45.sl) rfl)) ?_
      refine FL.val rfl rfl rfl (E.move k51) ?_
      refine FL.call rfl rfl rfl (E.call Tryz.call92 (A2 rfl rfl)) (w_laws_szResStep S45.sl y22 v58 (h59.mono i46) s23) ?_
      rintro e w60 ⟨rfl, r61⟩
      refine ⟨_, rfl, ?_⟩
      have S62 := S45.call r61
      refine FL.val rfl rfl rfl (E.assign (v := Value.int .i64 (PF.laws_szResStep y22 s23)) rfl) ?_
      refine FL.nil ?_
      refine FW.seq ?_
      refine FW.region ?_
      refine FL.val rfl rfl rfl (E.move (v := Value.int .i64 (PF.laws_szResStep y22 s23)) rfl) ?_
      refine FL.val rfl rfl rfl (E.lss rfl rfl) ?_
      refine FL.nil ?_
      rcases ifB hp with ⟨c63, hp⟩ | ⟨c63, hp⟩
      ·
        refine FW.condT rfl c63 ?_
        refine FW.seq ?_
        refine FW.region ?_
        refine FL.val rfl rfl rfl (E.assign (v := Value.int .i64 (-1)) rfl) ?_
        refine FL.nil ?_
        refine FW.ret ?_
        obtain rfl := Option.some.inj hp
        exact ⟨nofun, rfl, ⟨.inr rfl, res1 rfl rfl ⟨rfl, S62.back⟩⟩⟩
      ·
        refine FW.condF rfl c63 ?_
        refine FW.skip ?_
        refine FW.region ?_
        refine FL.val rfl rfl rfl (E.move k49) ?_
        refine FL.val rfl rfl rfl (E.add rfl rfl) ?_
        refine FL.val rfl rfl rfl (E.assign (v := Value.int .i64 (wr (((i23 : Nat) : Int) + 1))) rfl) ?_
        refine FL.nil ?_
        obtain rfl := Option.some.inj hp
        exact ⟨rfl, ⟨_, S62, i46, (nat_succ rfl (lt_of_get hx23) (p0.mono i46).le), k50, rfl⟩⟩
    ·
      clear hp hq
      rintro s23 f75 w74 ⟨H71, S72, i73, k76, k77, k78⟩
      refine FW.seq ?_
      refine FW.seq ?_
      refine FW.region ?_
      refine FL.val rfl rfl rfl (E.move k76) ?_
      refine FL.val rfl rfl rfl (E.move k77) ?_
      refine FL.val rfl rfl rfl (E.lenP te46 rfl p0) ?_
      refine FL.val rfl rfl rfl (E.lss rfl rfl) ?_
      refine FL.nil ?_
      refine FW.condF rfl dlt_len ?_
      refine FW.exit ?_
      exact ⟨nofun, rfl, ⟨_, S72, i73, k78⟩⟩
    ·
      clear hq
      intro e f69 w68 hD
      rcases q23 with s23 | x23
      ·
        obtain ⟨rfl, hD⟩ := hD
        obtain ⟨H65, S66, i67, k70⟩ := hD
        replace hp := el_go hp
        refine FW.seq ?_
        refine FW.region ?_
        refine FL.val rfl rfl rfl (E.move k70) ?_
        refine FL.val rfl rfl rfl (E.assign (v := Value.int .i64 s23) rfl) ?_
        refine FL.nil ?_
        refine FW.ret ?_
        obtain rfl := Option.some.inj hp
        exact ⟨.inr rfl, res1 rfl rfl ⟨rfl, S66.back⟩⟩
      ·
        obtain ⟨he, hL⟩ := hD
        replace hp := el_rt hp
        obtain rfl := Option.some.inj hp
        subst he
        exact hL

@[reducible] def p_laws_toIntS (Ha : GH) (wa : World) (r : (List Int)) : Ending → World → Prop :=
  fun e w' => ∃ H' : GH, ∃ v0 : Value, ∃ n0 : Nat, ∃ c0 : List Value, e = .returned (v0) ∧ St Ha wa H' w' [.row 3 1 v0 n0 c0] ∧ Els (up wa.heap.size H') eI 1 c0 r
theorem w_laws_toIntS {Ha : GH} {wa : World} (hs : Sl Ha wa) (v0 : Value) (a0 : List Int) (p0 : RSl Ha eI 1 v0 a0) {r : (List Int)} (hp : (PF.laws_toIntS a0) = some r) :
    Calls Tryz.prog 46 #[v0] wa (p_laws_toIntS Ha wa r) := by
  unfold PF.laws_toIntS at hp
  have S0 := St.init hs
  refine calls_go (N := 22) (args := [v0]) Tryz.func46 rfl rfl rfl ?_
  refine FW.seq ?_
  refine FW.region ?_
  refine FL.val rfl rfl rfl (E.assign (v := Value.slice none 0 0) rfl) ?_
  refine FL.nil ?_
  refine FW.seq ?_
  refine FW.region ?_
  refine FL.val rfl rfl rfl (E.move (v := v0) rfl) ?_
  refine FL.val rfl rfl rfl (E.lenP te61 rfl p0) ?_
  obtain ⟨xs21, hm22, hp⟩ := bnd hp
  obtain ⟨v23, w24, n28, cs29, run25, S26, els27, hbl30⟩ := S0.makeEls (P := Tryz.prog) te61 (G := (up wa.heap.size Ha)) (En := eI) (x0 := 0) hm22 rfl (ones_cons rfl ones_nil) .i64 .i64
  refine FL.val rfl rfl rfl (E.makeSlice rfl rfl run25) ?_
  refine FL.val rfl rfl rfl (E.assign (v := v23) rfl) ?_
  refine FL.nil ?_
  refine FW.seq ?_
  refine FW.seq ?_
  refine FW.region ?_
  refine FL.val rfl rfl rfl (E.assign (v := Value.int .i64 0) rfl) ?_
  refine FL.nil ?_
  obtain ⟨q32, hq, hp⟩ := bndR hp
  refine FW.block ?_
  refine FW.mono (FW.forL (S := (List Int)) (X := Empty) (fun (i32 : Nat) (s32 : (List Int)) f w => ∃ H : GH, ∃ v63 : Value, ∃ n64 : Nat, ∃ cs65 : List Value, St Ha wa H w [.row 3 1 v63 n64 cs65] ∧ Inc Ha H ∧ Els (up wa.heap.size H) eI 1 cs65 s32 ∧ f 4 = Value.int .i64 ((i32 : Nat) : Int) ∧ f 0 = v0 ∧ f 3 = v63) (fun (q : Rs (List Int) Empty) e f w => match q with | .go s32 => e = Exit.exit 0 ∧ (∃ H : GH, ∃ v63 : Value, ∃ n64 : Nat, ∃ cs65 : List Value, St Ha wa H w [.row 3 1 v63 n64 cs65] ∧ Inc Ha H ∧ Els (up wa.heap.size H) eI 1 cs65 s32 ∧ f 3 = v63) | .rt x => x.elim) hq ⟨_, _, _, _, S26, (Inc.rfl _), els27, rfl, rfl, rfl⟩ ?_ ?_) ?_
  ·
    clear hp hq
    rintro i32 y31 s32 f101 w100 ⟨H97, v63, n64, cs65, S98, i99, els66, k102, k103, k104⟩ hx32 o127 hp
    refine FW.seq ?_
    refine FW.seq ?_
    refine FW.region ?_
    refine FL.val rfl rfl rfl (E.move k102) ?_
    refine FL.val rfl rfl rfl (E.move k103) ?_
    refine FL.val rfl rfl rfl (E.lenP te61 rfl p0) ?_
    refine FL.val rfl rfl rfl (E.lssT rfl rfl (lss_len hx32)) ?_
    refine FL.nil ?_
    refine FW.condT rfl rfl ?_
    refine FW.skip ?_
    refine FW.seq ?_
    refine FW.block ?_
    refine FW.region ?_
    refine FL.val rfl rfl rfl (E.move k104) ?_
    refine FL.val rfl rfl rfl (E.move k102) ?_
    refine FL.val rfl rfl rfl (E.move k103) ?_
    refine FL.val rfl rfl rfl (E.move k102) ?_
    obtain ⟨p105, cs106, pt107, l108, at109, rel110⟩ := p0.at (ix_nat hx32)
    obtain rfl := eI_open rel110
    refine FL.val rfl rfl rfl (E.indexAddr te61 rfl rfl pt107) ?_
    refine FL.val rfl rfl rfl (E.load rfl (run_load0 Tryz.isAgg3 ((at109.mono i99).now S98.sl) rfl)) ?_
    obtain ⟨x117, hx118, hp⟩ := bnd hp
    obtain ⟨p111, cs112, pt113, l114, at115, rel116⟩ := S98.row_at (i := 0) rfl els66 (by decide) hx118
    obtain rfl := eI_open rel116
    refine FL.val rfl rfl rfl (E.indexAddr te61 rfl rfl pt113) ?_
    obtain ⟨xs122, hput123, hp⟩ := bnd hp
    obtain ⟨w119, cs125, run120, S121, els124, ce126⟩ := S98.putEls (P := Tryz.prog) (t := 3) (i := 0) rfl els66 hput123 pt113 Tryz.sizeOf3 (u := Value.int .i64 y31) (c := [Value.int .i64 y31]) rfl rfl (ones_cons rfl ones_nil) rfl
    have S121 : St Ha wa H97 w119 [.row 3 1 v63 n64 cs125] := S121
    refine FL.act rfl rfl (E.store rfl rfl run120) ?_
    refine FL.nil ?_
    refine FW.region ?_
    refine FL.val rfl rfl rfl (E.move k102) ?_
    refine FL.val rfl rfl rfl (E.add rfl rfl) ?_
    refine FL.val rfl rfl rfl (E.assign (v := Value.int .i64 (wr (((i32 : Nat) : Int) + 1))) rfl) ?_
    refine FL.nil ?_
    obtain rfl := Option.some.inj hp
    exact ⟨rfl, ⟨_, _, _, _, S121, i99, els124, (nat_succ rfl (lt_of_get hx32) (p0.mono i99).le), k103, k104⟩⟩
  ·
    clear hp hq
    rintro s32 f138 w137 ⟨H134, v63, n64, cs65, S135, i136, els66, k139, k140, k141⟩
    refine FW.seq ?_
    refine FW.seq ?_
    refine FW.region ?_
    refine FL.val rfl rfl rfl (E.move k139) ?_
    refine FL.val rfl rfl rfl (E.move k140) ?_
    refine FL.val rfl rfl rfl (E.lenP te61 rfl p0) ?_
    refine FL.val rfl rfl rfl (E.lss rfl rfl) ?_
    refine FL.nil ?_
    refine FW.condF rfl dlt_len ?_
    refine FW.exit ?_
    exact ⟨nofun, rfl, ⟨_, _, _, _, S135, i136, els66, k141⟩⟩
  ·
    clear hq
    intro e f132 w131 hD
    rcases q32 with s32 | x32
    ·
      obtain ⟨rfl, hD⟩ := hD
      obtain ⟨H128, v63, n64, cs65, S129, i130, els66, k133⟩ := hD
      replace hp := el_go hp
      refine FW.seq ?_
      refine FW.region ?_
      refine FL.val rfl rfl rfl (E.move k133) ?_
      refine FL.val rfl rfl rfl (E.assign (v := v63) rfl) ?_
      refine FL.nil ?_
      refine FW.ret ?_
      obtain rfl := Option.some.inj hp
      exact ⟨.inr rfl, res1 rfl rfl ⟨_, _, _, _, rfl, S129, els66⟩⟩
    · exact x32.elim

@[reducible] def p_laws_toIntSS (Ha : GH) (wa : World) (r : (List (List Int))) : Ending → World → Prop :=
  fun e w' => ∃ H' : GH, ∃ v0 : Value, ∃ n0 : Nat, ∃ c0 : List Value, e = .returned (v0) ∧ St Ha wa H' w' [.row 61 1 v0 n0 c0] ∧ Els (up wa.heap.size H') (eL eI 1) 1 c0 r ∧ (bl c0).Nodup
theorem w_laws_toIntSS {Ha : GH} {wa : World} (hs : Sl Ha wa) (v0 : Value) (a0 : List (List Int)) (p0 : RSl Ha (eL eI 1) 1 v0 a0) {r : (List (List Int))} (hp : (PF.laws_toIntSS a0) = some r) :
    Calls Tryz.prog 71 #[v0] wa (p_laws_toIntSS Ha wa r) := by
  unfold PF.laws_toIntSS at hp
  have S0 := St.init hs
  refine calls_go (N := 23) (args := [v0]) Tryz.func71 rfl rfl rfl ?_
  refine FW.seq ?_
  refine FW.region ?_
  refine FL.val rfl rfl rfl (E.assign (v := Value.slice none 0 0) rfl) ?_
  refine FL.nil ?_
  refine FW.seq ?_
  refine FW.region ?_
  refine FL.val rfl rfl rfl (E.move (v := v0) rfl) ?_
  refine FL.val rfl rfl rfl (E.lenP te22 rfl p0) ?_
  obtain ⟨xs21, hm22, hp⟩ := bnd hp
  obtain ⟨v23, w24, n28, cs29, run25, S26, els27, hbl30⟩ := S0.makeEls (P := Tryz.prog) te22 (G := (up wa.heap.size Ha)) (En := (eL eI 1)) (x0 := []) hm22 ⟨_, rfl, RSl.nil _ _ _⟩ (ones_cons rfl ones_nil) .i64 .i64
  have nd31 : (bl cs29).Nodup := by rw [hbl30 (by simp [Value.cells, neb])]; exact List.nodup_nil
  refine FL.val rfl rfl rfl (E.makeSlice rfl rfl run25) ?_
  refine FL.val rfl rfl rfl (E.assign (v := v23) rfl) ?_
  refine FL.nil ?_
  refine FW.seq ?_
  refine FW.seq ?_
  refine FW.region ?_
  refine FL.val rfl rfl rfl (E.assign (v := Value.int .i64 0) rfl) ?_
  refine FL.nil ?_
  obtain ⟨q33, hq, hp⟩ := bndR hp
  refine FW.block ?_
  refine FW.mono (FW.forL (S := (List (List Int))) (X := Empty) (fun (i33 : Nat) (s33 : (List (List Int))) f w => ∃ H : GH, ∃ v84 : Value, ∃ n85 : Nat, ∃ cs86 : List Value, St Ha wa H w [.row 61 1 v84 n85 cs86] ∧ Inc Ha H ∧ Els (up wa.heap.size H) (eL eI 1) 1 cs86 s33 ∧ (bl cs86).Nodup ∧ f 4 = Value.int .i64 ((i33 : Nat) : Int) ∧ f 0 = v0 ∧ f 3 = v84) (fun (q : Rs (List (List Int)) Empty) e f w => match q with | .go s33 => e = Exit.exit 0 ∧ (∃ H : GH, ∃ v84 : Value, ∃ n85 : Nat, ∃ cs86 : List Value, St Ha wa H w [.row 61 1 v84 n85 cs86] ∧ Inc Ha H ∧ Els (up wa.heap.size H) (eL eI 1) 1 cs86 s33 ∧ (bl cs86).Nodup ∧ f 3 = v84) | .rt x => x.elim) hq ⟨_, _, _, _, S26, (Inc.rfl _), els27, nd31, rfl, rfl, rfl⟩ ?_ ?_) ?_
  ·
    clear hp hq
    rintro i33 y32 s33 f143 w142 ⟨H139, v84, n85, cs86, S140, i141, els87, nd88, k144, k145, k146⟩ hx33 o189 hp
    refine FW.seq ?_
    refine FW.seq ?_
    refine FW.region ?_
    refine FL.val rfl rfl rfl (E.move k144) ?_
    refine FL.val rfl rfl rfl (E.move k145) ?_
    refine FL.val rfl rfl rfl (E.lenP te22 rfl p0) ?_
    refine FL.val rfl rfl rfl (E.lssT rfl rfl (lss_len hx33)) ?_
    refine FL.nil ?_
    refine FW.condT rfl rfl ?_
    refine FW.skip ?_
    refine FW.seq ?_
    refine FW.block ?_
    refine FW.region ?_
    refine FL.val rfl rfl rfl (E.move k146) ?_
    refine FL.val rfl rfl rfl (E.move k144) ?_
    refine FL.val rfl rfl rfl (E.move k145) ?_
    refine FL.val rfl rfl rfl (E.move k144) ?_
    obtain ⟨p147, cs148, pt149, l150, at151, rel152⟩ := p0.at (ix_nat hx33)
    obtain ⟨v153, rfl, h154⟩ := eL_open rel152
    refine FL.val rfl rfl rfl (E.indexAddr te22 rfl rfl pt149) ?_
    refine FL.val rfl rfl rfl (E.load rfl (run_load0 Tryz.isAgg61 ((at151.mono i141).now S140.sl) rfl)) ?_
    obtain ⟨r155, hr156, hp⟩ := bnd hp
    refine FL.call rfl rfl rfl (E.call Tryz.call46 (A1 rfl)) (w_laws_toIntS S140.sl v153 y32 (h154.mono i141) hr156) ?_
    rintro e w158 ⟨H157, v161, n162, cs163, rfl, r160, els164⟩
    refine ⟨_, rfl, ?_⟩
    have els164 := els164.mono (up_le S140.size)
    have S159 := S140.join (l' := [.row 3 1 v161 n162 cs163, .row 61 1 v84 n85 cs86]) r160 rfl
    obtain ⟨x171, hx172, hp⟩ := bnd hp
    obtain ⟨p165, cs166, pt167, l168, at169, rel170⟩ := S159.row_at (i := 1) rfl els87 (by decide) hx172
    obtain ⟨v173, rfl, h174⟩ := eL_open rel170
    refine FL.val rfl rfl rfl (E.indexAddr te22 rfl rfl pt167) ?_
    obtain ⟨H175, S176, i177, h178, nv179⟩ := S159.sealRowU (i := 0) (l' := [.row 61 1 v84 n85 cs86]) rfl els164 (by decide) rfl
    obtain ⟨xs183, hput184, hp⟩ := bnd hp
    obtain ⟨w180, cs186, run181, S182, els185, ce187⟩ := S176.putEls (P := Tryz.prog) (t := 61) (i := 0) rfl (els87.mono (up_mono (r160.run.inc.tr i177))) hput184 pt167 Tryz.sizeOf61 (u := v161) (c := [v161]) h178.cells rfl (ones_cons h178.one ones_nil) ⟨_, rfl, h178⟩
    have S182 : St Ha wa H175 w180 [.row 61 1 v84 n85 cs186] := S182
    have nd188 : (bl cs186).Nodup := by rw [ce187]; exact nd_put (Nat.le_add_right _ _) nd88 (by exact nd_one v161) (Els.dom (els87.mono (upI.tr r160.run.inc))) (by exact nv179)
    refine FL.act rfl rfl (E.store rfl rfl run181) ?_
    refine FL.nil ?_
    refine FW.region ?_
    refine FL.val rfl rfl rfl (E.move k144) ?_
    refine FL.val rfl rfl rfl (E.add rfl rfl) ?_
    refine FL.val rfl rfl rfl (E.assign (v := Value.int .i64 (wr (((i33 : Nat) : Int) + 1))) rfl) ?_
    refine FL.nil ?_
    obtain rfl := Option.some.inj hp
    exact ⟨rfl, ⟨_, _, _, _, S182, ((i141.tr r160.run.inc).tr i177), els185, nd188, (nat_succ rfl (lt_of_get hx33) (p0.mono ((i141.tr r160.run.inc).tr i177)).le), k145, k146⟩⟩
  ·
    clear hp hq
    rintro s33 f200 w199 ⟨H196, v84, n85, cs86, S197, i198, els87, nd88, k201, k202, k203⟩
    refine FW.seq ?_
    refine FW.seq ?_
    refine FW.region ?_
    refine FL.val rfl rfl rfl (E.move k201) ?_
    refine FL.val rfl rfl rfl (E.move k202) ?_
    refine FL.val rfl rfl rfl (E.lenP te22 rfl p0) ?_
    refine FL.val rfl rfl rfl (E.lss rfl rfl) ?_
    refine FL.nil ?_
    refine FW.condF rfl dlt_len ?_
    refine FW.exit ?_
    exact ⟨nofun, rfl, ⟨_, _, _, _, S197, i198, els87, nd88, k203⟩⟩
  ·
    clear hq
    intro e f194 w193 hD
    rcases q33 with s33 | x33
    ·
      obtain ⟨rfl, hD⟩ := hD
      obtain ⟨H190, v84, n85, cs86, S191, i192, els87, nd88, k195⟩ := hD
      replace hp := el_go hp
      refine FW.seq ?_
      refine FW.region ?_
      refine FL.val rfl rfl rfl (E.move k195) ?_
      refine FL.val rfl rfl rfl (E.assign (v := v84) rfl) ?_
      refine FL.nil ?_
      refine FW.ret ?_
      obtain rfl := Option.some.inj hp
      exact ⟨.inr rfl, res1 rfl rfl ⟨_, _, _, _, rfl, S191, els87, nd88⟩⟩
    · exact x33.elim

@[reducible] def p_laws_toCnf (Ha : GH) (wa : World) (r : Cnf) : Ending → World → Prop :=
  fun e w' => ∃ H' : GH, ∃ v0_1 : Value, e = .returned (Value.agg #[Value.int .i64 r.vars, v0_1]) ∧ Run wa.heap.size Ha wa H' w' ∧ (∃ c, Nest (up wa.heap.size H') (eL eI 1) 1 v0_1 r.clauses c)
theorem w_laws_toCnf {Ha : GH} {wa : World} (hs : Sl Ha wa) (a0 : Cnf) (v0_1 : Value) (p0_1 : RSl Ha (eL eI 1) 1 v0_1 a0.clauses) {r : Cnf} (hp : (PF.laws_toCnf a0) = some r) :
    Calls Tryz.prog 18 #[Value.agg #[Value.int .i64 a0.vars, v0_1]] wa (p_laws_toCnf Ha wa r) := by
  unfold PF.laws_toCnf at hp
  have S0 := St.init hs
  refine calls_go (N := 12) (args := [Value.agg #[Value.int .i64 a0.vars, v0_1]]) Tryz.func18 rfl rfl rfl ?_
  refine FW.seq ?_
  refine FW.region ?_
  obtain ⟨b21, w22, run23, S24⟩ := S0.box (P := Tryz.prog) 24 [Value.int .i64 a0.vars, v0_1] (v := Value.agg #[Value.int .i64 a0.vars, v0_1]) rfl (ones_cons rfl (ones_cons p0_1.one ones_nil))
  refine FL.val rfl rfl rfl (E.box rfl run23) ?_
  obtain ⟨H25, S26, i27, at28⟩ := S24.sealBox (i := 0) (l' := []) rfl rfl
  obtain ⟨b29, w30, run31, S32⟩ := S26.alloc (P := Tryz.prog) 30 [Value.int .i64 0, Value.slice none 0 0] Tryz.zeroValue30 rfl (ones_cons rfl (ones_cons rfl ones_nil))
  refine FL.val rfl rfl rfl (E.alloc run31) ?_
  refine FL.nil ?_
  refine FW.seq ?_
  refine FW.region ?_
  obtain ⟨b33, w34, run35, S36⟩ := S32.alloc (P := Tryz.prog) 30 [Value.int .i64 0, Value.slice none 0 0] Tryz.zeroValue30 rfl (ones_cons rfl (ones_cons rfl ones_nil))
  refine FL.val rfl rfl rfl (E.alloc run35) ?_
  refine FL.nil ?_
  refine FW.seq ?_
  refine FW.region ?_
  refine FL.val rfl rfl rfl (E.fieldAddr tf24_0 rfl) ?_
  refine FL.val rfl rfl rfl (E.load rfl (run_load1 Tryz.isAgg3 (at28.now S36.sl) rfl)) ?_
  refine FL.val rfl rfl rfl (E.fieldAddr tf30_0 rfl) ?_
  obtain ⟨w37, run38, S39⟩ := S36.store (P := Tryz.prog) (t := 3) (i := 0) (j := 0) (cs' := [Value.int .i64 a0.vars, Value.slice none 0 0]) (l' := [.box b33 30 [Value.int .i64 a0.vars, Value.slice none 0 0], .box b29 30 [Value.int .i64 0, Value.slice none 0 0]]) (v := Value.int .i64 a0.vars) (c := [Value.int .i64 a0.vars]) rfl Tryz.sizeOf3 rfl rfl (ones_cons rfl ones_nil) (Nat.le_of_ble_eq_true rfl) rfl rfl
  refine FL.act rfl rfl (E.store rfl rfl run38) ?_
  refine FL.nil ?_
  refine FW.seq ?_
  refine FW.region ?_
  refine FL.val rfl rfl rfl (E.fieldAddr tf24_1 rfl) ?_
  refine FL.val rfl rfl rfl (E.load rfl (run_load1 Tryz.isAgg22 (at28.now S39.sl) rfl)) ?_
  obtain ⟨r40, hr41, hp⟩ := bnd hp
  refine FL.call rfl rfl rfl (E.call Tryz.call71 (A1 rfl)) (w_laws_toIntSS S39.sl v0_1 a0.clauses (p0_1.mono i27) hr41) ?_
  rintro e w43 ⟨H42, v46, n47, cs48, rfl, r45, els49, nd50⟩
  refine ⟨_, rfl, ?_⟩
  have nv51 : New H25 cs48 := New.of_up S39.sl els49.dom
  have els49 := els49.mono (up_le S39.size)
  have S44 := S39.join (l' := [.row 61 1 v46 n47 cs48, .box b33 30 [Value.int .i64 a0.vars, Value.slice none 0 0], .box b29 30 [Value.int .i64 0, Value.slice none 0 0]]) r45 rfl
  refine FL.val rfl rfl rfl (E.fieldAddr tf30_1 rfl) ?_
  obtain ⟨w52, run53, S54⟩ := S44.store (P := Tryz.prog) (t := 22) (i := 1) (j := 1) (cs' := [Value.int .i64 a0.vars, v46]) (l' := [.row 61 1 v46 n47 cs48, .box b33 30 [Value.int .i64 a0.vars, v46], .box b29 30 [Value.int .i64 0, Value.slice none 0 0]]) (v := v46) (c := [v46]) rfl Tryz.sizeOf22 (Ln.cells (S44.row_ln (i := 0) rfl)) rfl (ones_cons (Ln.one (S44.row_ln (i := 0) rfl)) ones_nil) (Nat.le_of_ble_eq_true rfl) rfl rfl
  refine FL.act rfl rfl (E.store rfl rfl run53) ?_
  obtain ⟨H55, S56, i57, ns60, nv59⟩ := S54.sealRowN (i := 0) (l' := [.box b33 30 [Value.int .i64 a0.vars, v46], .box b29 30 [Value.int .i64 0, Value.slice none 0 0]]) rfl els49 nd50 (by decide) rfl
  have h58 := ns60.rsl
  obtain ⟨H61, S62, i63, at64⟩ := S56.sealBox (i := 0) (l' := [.box b29 30 [Value.int .i64 0, Value.slice none 0 0]]) rfl rfl
  refine FL.nil ?_
  refine FW.seq ?_
  refine FW.region ?_
  refine FL.val rfl rfl rfl (E.load rfl (run_loadA Tryz.isAgg30 Tryz.sizeOf30 (at64.now S62.sl) rfl)) ?_
  obtain ⟨w65, run66, S67⟩ := S62.store0 (P := Tryz.prog) (t := 30) (i := 0) (cs' := [Value.int .i64 a0.vars, v46]) (l' := [.box b29 30 [Value.int .i64 a0.vars, v46]]) (v := Value.agg #[Value.int .i64 a0.vars, v46]) (c := [Value.int .i64 a0.vars, v46]) rfl Tryz.sizeOf30 rfl rfl (ones_cons rfl (ones_cons h58.one ones_nil)) (Nat.le_of_ble_eq_true rfl) rfl rfl
  refine FL.act rfl rfl (E.store rfl rfl run66) ?_
  obtain ⟨H68, S69, i70, at71⟩ := S67.sealBox (i := 0) (l' := []) rfl rfl
  refine FL.nil ?_
  refine FW.ret ?_
  obtain rfl := Option.some.inj hp
  exact ⟨.inr rfl, resC rfl rfl (loadVar_A Tryz.isAgg30 Tryz.sizeOf30 (at71.now S69.sl) rfl) ⟨_, _, rfl, S69.run, ⟨_, (ns60.mono (up_mono (i63.tr i70)))⟩⟩⟩

@[reducible] def p_laws_toResStep (Ha : GH) (wa : World) (r : ResStep) : Ending → World → Prop :=
  fun e w' => ∃ H' : GH, ∃ v0_0 : Value, e = .returned (Value.agg #[v0_0, Value.int .i64 r.left, Value.int .i64 r.right, Value.int .i64 r.pivot]) ∧ Run wa.heap.size Ha wa H' w' ∧ RSl (up wa.heap.size H') eI 1 v0_0 r.clause
theorem w_laws_toResStep {Ha : GH} {wa : World} (hs : Sl Ha wa) (a0 : ResStep) (v0_0 : Value) (p0_0 : RSl Ha eI 1 v0_0 a0.clause) {r : ResStep} (hp : (PF.laws_toResStep a0) = some r) :
    Calls Tryz.prog 95 #[Value.agg #[v0_0, Value.int .i64 a0.left, Value.int .i64 a0.right, Value.int .i64 a0.pivot]] wa (p_laws_toResStep Ha wa r) := by
  unfold PF.laws_toResStep at hp
  have S0 := St.init hs
  refine calls_go (N := 18) (args := [Value.agg #[v0_0, Value.int .i64 a0.left, Value.int .i64 a0.right, Value.int .i64 a0.pivot]]) Tryz.func95 rfl rfl rfl ?_
  refine FW.seq ?_
  refine FW.region ?_
  obtain ⟨b21, w22, run23, S24⟩ := S0.box (P := Tryz.prog) 112 [v0_0, Value.int .i64 a0.left, Value.int .i64 a0.right, Value.int .i64 a0.pivot] (v := Value.agg #[v0_0, Value.int .i64 a0.left, Value.int .i64 a0.right, Value.int .i64 a0.pivot]) rfl (ones_cons p0_0.one (ones_cons rfl (ones_cons rfl (ones_cons rfl ones_nil))))
  refine FL.val rfl rfl rfl (E.box rfl run23) ?_
  obtain ⟨H25, S26, i27, at28⟩ := S24.sealBox (i := 0) (l' := []) rfl rfl
  obtain ⟨b29, w30, run31, S32⟩ := S26.alloc (P := Tryz.prog) 103 [Value.slice none 0 0, Value.int .i64 0, Value.int .i64 0, Value.int .i64 0] Tryz.zeroValue103 rfl (ones_cons rfl (ones_cons rfl (ones_cons rfl (ones_cons rfl ones_nil))))
  refine FL.val rfl rfl rfl (E.alloc run31) ?_
  refine FL.nil ?_
  refine FW.seq ?_
  refine FW.region ?_
  obtain ⟨b33, w34, run35, S36⟩ := S32.alloc (P := Tryz.prog) 103 [Value.slice none 0 0, Value.int .i64 0, Value.int .i64 0, Value.int .i64 0] Tryz.zeroValue103 rfl (ones_cons rfl (ones_cons rfl (ones_cons rfl (ones_cons rfl ones_nil))))
  refine FL.val rfl rfl rfl (E.alloc run35) ?_
  refine FL.nil ?_
  refine FW.seq ?_
  refine FW.region ?_
  refine FL.val rfl rfl rfl (E.fieldAddr tf112_0 rfl) ?_
  refine FL.val rfl rfl rfl (E.load rfl (run_load1 Tryz.isAgg61 (at28.now S36.sl) rfl)) ?_
  obtain ⟨r37, hr38, hp⟩ := bnd hp
  refine FL.call rfl rfl rfl (E.call Tryz.call46 (A1 rfl)) (w_laws_toIntS S36.sl v0_0 a0.clause (p0_0.mono i27) hr38) ?_
  rintro e w40 ⟨H39, v43, n44, cs45, rfl, r42, els46⟩
  refine ⟨_, rfl, ?_⟩
  have els46 := els46.mono (up_le S36.size)
  have S41 := S36.join (l' := [.row 3 1 v43 n44 cs45, .box b33 103 [Value.slice none 0 0, Value.int .i64 0, Value.int .i64 0, Value.int .i64 0], .box b29 103 [Value.slice none 0 0, Value.int .i64 0, Value.int .i64 0, Value.int .i64 0]]) r42 rfl
  refine FL.val rfl rfl rfl (E.fieldAddr tf103_0 rfl) ?_
  obtain ⟨w47, run48, S49⟩ := S41.store (P := Tryz.prog) (t := 61) (i := 1) (j := 0) (cs' := [v43, Value.int .i64 0, Value.int .i64 0, Value.int .i64 0]) (l' := [.row 3 1 v43 n44 cs45, .box b33 103 [v43, Value.int .i64 0, Value.int .i64 0, Value.int .i64 0], .box b29 103 [Value.slice none 0 0, Value.int .i64 0, Value.int .i64 0, Value.int .i64 0]]) (v := v43) (c := [v43]) rfl Tryz.sizeOf61 (Ln.cells (S41.row_ln (i := 0) rfl)) rfl (ones_cons (Ln.one (S41.row_ln (i := 0) rfl)) ones_nil) (Nat.le_of_ble_eq_true rfl) rfl rfl
  refine FL.act rfl rfl (E.store rfl rfl run48) ?_
  refine FL.nil ?_
  refine FW.seq ?_
  refine FW.region ?_
  refine FL.val rfl rfl rfl (E.fieldAddr tf112_1 rfl) ?_
  refine FL.val rfl rfl rfl (E.load rfl (run_load1 Tryz.isAgg3 ((at28.mono r42.run.inc).now S49.sl) rfl)) ?_
  refine FL.val rfl rfl rfl (E.fieldAddr tf103_1 rfl) ?_
  obtain ⟨w50, run51, S52⟩ := S49.store (P := Tryz.prog) (t := 3) (i := 1) (j := 1) (cs' := [v43, Value.int .i64 a0.left, Value.int .i64 0, Value.int .i64 0]) (l' := [.row 3 1 v43 n44 cs45, .box b33 103 [v43, Value.int .i64 a0.left, Value.int .i64 0, Value.int .i64 0], .box b29 103 [Value.slice none 0 0, Value.int .i64 0, Value.int .i64 0, Value.int .i64 0]]) (v := Value.int .i64 a0.left) (c := [Value.int .i64 a0.left]) rfl Tryz.sizeOf3 rfl rfl (ones_cons rfl ones_nil) (Nat.le_of_ble_eq_true rfl) rfl rfl
  refine FL.act rfl rfl (E.store rfl rfl run51) ?_
  refine FL.nil ?_
  refine FW.seq ?_
  refine FW.region ?_
  refine FL.val rfl rfl rfl (E.fieldAddr tf112_2 rfl) ?_
  refine FL.val rfl rfl rfl (E.load rfl (run_load1 Tryz.isAgg3 ((at28.mono r42.run.inc).now S52.sl) rfl)) ?_
  refine FL.val rfl rfl rfl (E.fieldAddr tf103_2 rfl) ?_
  obtain ⟨w53, run54, S55⟩ := S52.store (P := Tryz.prog) (t := 3) (i := 1) (j := 2) (cs' := [v43, Value.int .i64 a0.left, Value.int .i64 a0.right, Value.int .i64 0]) (l' := [.row 3 1 v43 n44 cs45, .box b33 103 [v43, Value.int .i64 a0.left, Value.int .i64 a0.right, Value.int .i64 0], .box b29 103 [Value.slice none 0 0, Value.int .i64 0, Value.int .i64 0, Value.int .i64 0]]) (v := Value.int .i64 a0.right) (c := [Value.int .i64 a0.right]) rfl Tryz.sizeOf3 rfl rfl (ones_cons rfl ones_nil) (Nat.le_of_ble_eq_true rfl) rfl rfl
  refine FL.act rfl rfl (E.store rfl rfl run54) ?_
  refine FL.nil ?_
  refine FW.seq ?_
  refine FW.region ?_
  refine FL.val rfl rfl rfl (E.fieldAddr tf112_3 rfl) ?_
  refine FL.val rfl rfl rfl (E.load rfl (run_load1 Tryz.isAgg3 ((at28.mono r42.run.inc).now S55.sl) rfl)) ?_
  refine FL.val rfl rfl rfl (E.fieldAddr tf103_3 rfl) ?_
  obtain ⟨w56, run57, S58⟩ := S55.store (P := Tryz.prog) (t := 3) (i := 1) (j := 3) (cs' := [v43, Value.int .i64 a0.left, Value.int .i64 a0.right, Value.int .i64 a0.pivot]) (l' := [.row 3 1 v43 n44 cs45, .box b33 103 [v43, Value.int .i64 a0.left, Value.int .i64 a0.right, Value.int .i64 a0.pivot], .box b29 103 [Value.slice none 0 0, Value.int .i64 0, Value.int .i64 0, Value.int .i64 0]]) (v := Value.int .i64 a0.pivot) (c := [Value.int .i64 a0.pivot]) rfl Tryz.sizeOf3 rfl rfl (ones_cons rfl ones_nil) (Nat.le_of_ble_eq_true rfl) rfl rfl
  refine FL.act rfl rfl (E.store rfl rfl run57) ?_
  obtain ⟨H59, S60, i61, h62, nv63⟩ := S58.sealRowU (i := 0) (l' := [.box b33 103 [v43, Value.int .i64 a0.left, Value.int .i64 a0.right, Value.int .i64 a0.pivot], .box b29 103 [Value.slice none 0 0, Value.int .i64 0, Value.int .i64 0, Value.int .i64 0]]) rfl els46 (by decide) rfl
  obtain ⟨H64, S65, i66, at67⟩ := S60.sealBox (i := 0) (l' := [.box b29 103 [Value.slice none 0 0, Value.int .i64 0, Value.int .i64 0, Value.int .i64 0]]) rfl rfl
  refine FL.nil ?_
  refine FW.seq ?_
  refine FW.region ?_
  refine FL.val rfl rfl rfl (E.load rfl (run_loadA Tryz.isAgg103 Tryz.sizeOf103 (at67.now S65.sl) rfl)) ?_
  obtain ⟨w68, run69, S70⟩ := S65.store0 (P := Tryz.prog) (t := 103) (i := 0) (cs' := [v43, Value.int .i64 a0.left, Value.int .i64 a0.right, Value.int .i64 a0.pivot]) (l' := [.box b29 103 [v43, Value.int .i64 a0.left, Value.int .i64 a0.right, Value.int .i64 a0.pivot]]) (v := Value.agg #[v43, Value.int .i64 a0.left, Value.int .i64 a0.right, Value.int .i64 a0.pivot]) (c := [v43, Value.int .i64 a0.left, Value.int .i64 a0.right, Value.int .i64 a0.pivot]) rfl Tryz.sizeOf103 rfl rfl (ones_cons h62.one (ones_cons rfl (ones_cons rfl (ones_cons rfl ones_nil)))) (Nat.le_of_ble_eq_true rfl) rfl rfl
  refine FL.act rfl rfl (E.store rfl rfl run69) ?_
  obtain ⟨H71, S72, i73, at74⟩ := S70.sealBox (i := 0) (l' := []) rfl rfl
  refine FL.nil ?_
  refine FW.ret ?_
  obtain rfl := Option.some.inj hp
  exact ⟨.inr rfl, resC rfl rfl (loadVar_A Tryz.isAgg103 Tryz.sizeOf103 (at74.now S72.sl) rfl) ⟨_, _, rfl, S72.run, (h62.mono (up_mono (i66.tr i73)))⟩⟩

@[reducible] def p_laws_toResStepS (Ha : GH) (wa : World) (r : (List ResStep)) : Ending → World → Prop :=
  fun e w' => ∃ H' : GH, ∃ v0 : Value, ∃ n0 : Nat, ∃ c0 : List Value, e = .returned (v0) ∧ St Ha wa H' w' [.row 103 4 v0 n0 c0] ∧ Els (up wa.heap.size H') eResStep 4 c0 r ∧ (bl c0).Nodup
theorem w_laws_toResStepS {Ha : GH} {wa : World} (hs : Sl Ha wa) (v0 : Value) (a0 : List ResStep) (p0 : RSl Ha eResStep 4 v0 a0) {r : (List ResStep)} (hp : (PF.laws_toResStepS a0) = some r) :
    Calls Tryz.prog 43 #[v0] wa (p_laws_toResStepS Ha wa r) := by
  unfold PF.laws_toResStepS at hp
  have S0 := St.init hs
  refine calls_go (N := 23) (args := [v0]) Tryz.func43 rfl rfl rfl ?_
  refine FW.seq ?_
  refine FW.region ?_
  refine FL.val rfl rfl rfl (E.assign (v := Value.slice none 0 0) rfl) ?_
  refine FL.nil ?_
  refine FW.seq ?_
  refine FW.region ?_
  refine FL.val rfl rfl rfl (E.move (v := v0) rfl) ?_
  refine FL.val rfl rfl rfl (E.lenP te46 rfl p0) ?_
  obtain ⟨xs21, hm22, hp⟩ := bnd hp
  obtain ⟨v23, w24, n28, cs29, run25, S26, els27, hbl30⟩ := S0.makeEls (P := Tryz.prog) te41 (G := (up wa.heap.size Ha)) (En := eResStep) (x0 := (ResStep.mk [] 0 0 0)) hm22 ⟨_, rfl, (RSl.nil _ _ _)⟩ (ones_cons rfl (ones_cons rfl (ones_cons rfl (ones_cons rfl ones_nil)))) .i64 .i64
  have nd31 : (bl cs29).Nodup := by rw [hbl30 (by simp [Value.cells, neb])]; exact List.nodup_nil
  refine FL.val rfl rfl rfl (E.makeSlice rfl rfl run25) ?_
  refine FL.val rfl rfl rfl (E.assign (v := v23) rfl) ?_
  refine FL.nil ?_
  refine FW.seq ?_
  refine FW.seq ?_
  refine FW.region ?_
  refine FL.val rfl rfl rfl (E.assign (v := Value.int .i64 0) rfl) ?_
  refine FL.nil ?_
  obtain ⟨q33, hq, hp⟩ := bndR hp
  refine FW.block ?_
  refine FW.mono (FW.forL (S := (List ResStep)) (X := Empty) (fun (i33 : Nat) (s33 : (List ResStep)) f w => ∃ H : GH, ∃ v78 : Value, ∃ n79 : Nat, ∃ cs80 : List Value, St Ha wa H w [.row 103 4 v78 n79 cs80] ∧ Inc Ha H ∧ Els (up wa.heap.size H) eResStep 4 cs80 s33 ∧ (bl cs80).Nodup ∧ f 4 = Value.int .i64 ((i33 : Nat) : Int) ∧ f 0 = v0 ∧ f 3 = v78) (fun (q : Rs (List ResStep) Empty) e f w => match q with | .go s33 => e = Exit.exit 0 ∧ (∃ H : GH, ∃ v78 : Value, ∃ n79 : Nat, ∃ cs80 : List Value, St Ha wa H w [.row 103 4 v78 n79 cs80] ∧ Inc Ha H ∧ Els (up wa.heap.size H) eResStep 4 cs80 s33 ∧ (bl cs80).Nodup ∧ f 3 = v78) | .rt x => x.elim) hq ⟨_, _, _, _, S26, (Inc.rfl _), els27, nd31, rfl, rfl, rfl⟩ ?_ ?_) ?_
  ·
    clear hp hq
    rintro i33 y32 s33 f131 w130 ⟨H127, v78, n79, cs80, S128, i129, els81, nd82, k132, k133, k134⟩ hx33 o171 hp
    refine FW.seq ?_
    refine FW.seq ?_
    refine FW.region ?_
    refine FL.val rfl rfl rfl (E.move k132) ?_
    refine FL.val rfl rfl rfl (E.move k133) ?_
    refine FL.val rfl rfl rfl (E.lenP te46 rfl p0) ?_
    refine FL.val rfl rfl rfl (E.lssT rfl rfl (lss_len hx33)) ?_
    refine FL.nil ?_
    refine FW.condT rfl rfl ?_
    refine FW.skip ?_
    refine FW.seq ?_
    refine FW.block ?_
    refine FW.region ?_
    refine FL.val rfl rfl rfl (E.move k134) ?_
    refine FL.val rfl rfl rfl (E.move k132) ?_
    refine FL.val rfl rfl rfl (E.move k133) ?_
    refine FL.val rfl rfl rfl (E.move k132) ?_
    obtain ⟨p135, cs136, pt137, l138, at139, rel140⟩ := p0.at (ix_nat hx33)
    obtain ⟨v141, rfl, h142⟩ := eResStep_open rel140
    refine FL.val rfl rfl rfl (E.indexAddr te46 rfl rfl pt137) ?_
    refine FL.val rfl rfl rfl (E.load rfl (run_loadA Tryz.isAgg112 Tryz.sizeOf112 ((at139.mono i129).now S128.sl) rfl)) ?_
    obtain ⟨r143, hr144, hp⟩ := bnd hp
    refine FL.call rfl rfl rfl (E.call Tryz.call95 (A1 rfl)) (w_laws_toResStep S128.sl y32 v141 (h142.mono i129) hr144) ?_
    rintro e w146 ⟨H145, v149, rfl, r148, h150⟩
    refine ⟨_, rfl, ?_⟩
    have nv151 : New H127 [v149] := New.of_up S128.sl h150.dom
    have h150 := h150.mono (up_le S128.size)
    have S147 := S128.call r148
    obtain ⟨x158, hx159, hp⟩ := bnd hp
    obtain ⟨p152, cs153, pt154, l155, at156, rel157⟩ := S147.row_at (i := 0) rfl els81 (by decide) hx159
    obtain ⟨v160, rfl, h161⟩ := eResStep_open rel157
    refine FL.val rfl rfl rfl (E.indexAddr te41 rfl rfl pt154) ?_
    obtain ⟨xs165, hput166, hp⟩ := bnd hp
    obtain ⟨w162, cs168, run163, S164, els167, ce169⟩ := S147.putEls (P := Tryz.prog) (t := 103) (i := 0) rfl (els81.mono (up_mono r148.inc)) hput166 pt154 Tryz.sizeOf103 (u := Value.agg #[v149, Value.int .i64 r143.left, Value.int .i64 r143.right, Value.int .i64 r143.pivot]) (c := [v149, Value.int .i64 r143.left, Value.int .i64 r143.right, Value.int .i64 r143.pivot]) rfl rfl (ones_cons h150.one (ones_cons rfl (ones_cons rfl (ones_cons rfl ones_nil)))) ⟨_, rfl, h150⟩
    have S164 : St Ha wa H145 w162 [.row 103 4 v78 n79 cs168] := S164
    have nd170 : (bl cs168).Nodup := by rw [ce169]; exact nd_put (Nat.le_add_right _ _) nd82 (by exact nd_one v149) (Els.dom (els81.mono (upI.tr (Inc.rfl _)))) (by exact nv151)
    refine FL.act rfl rfl (E.store rfl rfl run163) ?_
    refine FL.nil ?_
    refine FW.region ?_
    refine FL.val rfl rfl rfl (E.move k132) ?_
    refine FL.val rfl rfl rfl (E.add rfl rfl) ?_
    refine FL.val rfl rfl rfl (E.assign (v := Value.int .i64 (wr (((i33 : Nat) : Int) + 1))) rfl) ?_
    refine FL.nil ?_
    obtain rfl := Option.some.inj hp
    exact ⟨rfl, ⟨_, _, _, _, S164, (i129.tr r148.inc), els167, nd170, (nat_succ rfl (lt_of_get hx33) (p0.mono (i129.tr r148.inc)).le), k133, k134⟩⟩
  ·
    clear hp hq
    rintro s33 f182 w181 ⟨H178, v78, n79, cs80, S179, i180, els81, nd82, k183, k184, k185⟩
    refine FW.seq ?_
    refine FW.seq ?_
    refine FW.region ?_
    refine FL.val rfl rfl rfl (E.move k183) ?_
    refine FL.val rfl rfl rfl (E.move k184) ?_
    refine FL.val rfl rfl rfl (E.lenP te46 rfl p0) ?_
    refine FL.val rfl rfl rfl (E.lss rfl rfl) ?_
    refine FL.nil ?_
    refine FW.condF rfl dlt_len ?_
    refine FW.exit ?_
    exact ⟨nofun, rfl, ⟨_, _, _, _, S179, i180, els81, nd82, k185⟩⟩
  ·
    clear hq
    intro e f176 w175 hD
    rcases q33 with s33 | x33
    ·
      obtain ⟨rfl, hD⟩ := hD
      obtain ⟨H172, v78, n79, cs80, S173, i174, els81, nd82, k177⟩ := hD
      replace hp := el_go hp
      refine FW.seq ?_
      refine FW.region ?_
      refine FL.val rfl rfl rfl (E.move k177) ?_
      refine FL.val rfl rfl rfl (E.assign (v := v78) rfl) ?_
      refine FL.nil ?_
      refine FW.ret ?_
      obtain rfl := Option.some.inj hp
      exact ⟨.inr rfl, res1 rfl rfl ⟨_, _, _, _, rfl, S173, els81, nd82⟩⟩
    · exact x33.elim

theorem w_spec_l1In {Ha : GH} {wa : World} (hs : Sl Ha wa) (a0 : Int) (a1 : Int) (a2 : Int) :
    Calls Tryz.prog 143 #[Value.int .i64 a0, Value.int .i64 a1, Value.int .i64 a2] wa (Sc Ha wa (Value.bool (PF.spec_l1In a0 a1 a2))) := by
  obtain ⟨r, hp⟩ : ∃ r, (PF.spec_l1In a0 a1 a2) = r := ⟨_, rfl⟩
  rw [hp]
  unfold PF.spec_l1In at hp
  have S0 := St.init hs
  refine calls_go (N := 15) (args := [Value.int .i64 a0, Value.int .i64 a1, Value.int .i64 a2]) Tryz.func143 rfl rfl rfl ?_
  refine FW.seq ?_
  refine FW.region ?_
  refine FL.val rfl rfl rfl (E.assign (v := Value.bool false) rfl) ?_
  refine FL.nil ?_
  refine FW.seq ?_
  refine FW.region ?_
  refine FL.val rfl rfl rfl (E.move (v := Value.int .i64 a0) rfl) ?_
  refine FL.val rfl rfl rfl (E.move (v := Value.int .i64 a1) rfl) ?_
  refine FL.val rfl rfl rfl (E.geq rfl rfl) ?_
  refine FL.val rfl rfl rfl (E.move (v := Value.bool (decide (a1 ≤ a0))) rfl) ?_
  refine FL.cut 4 (fun f w => ∃ H : GH, St Ha wa H w [] ∧ Inc Ha H ∧ f 14 = Value.bool (bif (decide (a1 ≤ a0)) then (decide (a0 ≤ a2)) else false)) ?_ ?_
  ·
    rcases bcase (decide (a1 ≤ a0)) with c27 | c27
    ·
      refine FL.val (wF_yes rfl rfl rfl c27) rfl rfl (E.move (v := Value.int .i64 a0) rfl) ?_
      refine FL.val (wF_yes rfl rfl rfl c27) rfl rfl (E.move (v := Value.int .i64 a2) rfl) ?_
      refine FL.val (wF_yes rfl rfl rfl c27) rfl rfl (E.leq rfl rfl) ?_
      refine FL.val rfl rfl rfl (E.pickT rfl c27 rfl) ?_
      exact FL.nil ⟨rfl, _, S0, (Inc.rfl _), (congrArg Value.bool (bifT c27).symm)⟩
    ·
      refine FL.skip (wF_no rfl rfl rfl c27) rfl ?_
      refine FL.skip (wF_no rfl rfl rfl c27) rfl ?_
      refine FL.skip (wF_no rfl rfl rfl c27) rfl ?_
      refine FL.val rfl rfl rfl (E.pickF rfl c27 rfl) ?_
      exact FL.nil ⟨rfl, _, S0, (Inc.rfl _), (congrArg Value.bool (bifF c27).symm)⟩
  rintro f26 w25 ⟨H22, S23, i24, k28⟩
  refine FL.val rfl rfl rfl (E.assign k28) ?_
  refine FL.nil ?_
  refine FW.ret ?_
  obtain rfl := hp
  exact ⟨.inr rfl, res1 rfl rfl ⟨rfl, S23.back⟩⟩

theorem w_spec_l2Vars {Ha : GH} {wa : World} (hs : Sl Ha wa) (a0 : Int) :
    Calls Tryz.prog 132 #[Value.int .i64 a0] wa (Sc Ha wa (Value.bool (PF.spec_l2Vars a0))) := by
  obtain ⟨r, hp⟩ : ∃ r, (PF.spec_l2Vars a0) = r := ⟨_, rfl⟩
  rw [hp]
  unfold PF.spec_l2Vars at hp
  have S0 := St.init hs
  refine calls_go (N := 5) (args := [Value.int .i64 a0]) Tryz.func132 rfl rfl rfl ?_
  refine FW.seq ?_
  refine FW.region ?_
  refine FL.val rfl rfl rfl (E.assign (v := Value.bool false) rfl) ?_
  refine FL.nil ?_
  refine FW.seq ?_
  refine FW.region ?_
  refine FL.val rfl rfl rfl (E.move (v := Value.int .i64 a0) rfl) ?_
  refine FL.call rfl rfl rfl (E.call Tryz.call143 (A3 rfl rfl rfl)) (w_spec_l1In S0.sl a0 0 12) ?_
  rintro e w21 ⟨rfl, r22⟩
  refine ⟨_, rfl, ?_⟩
  have S23 := S0.call r22
  refine FL.val rfl rfl rfl (E.assign (v := Value.bool (PF.spec_l1In a0 0 12)) rfl) ?_
  refine FL.nil ?_
  refine FW.ret ?_
  obtain rfl := hp
  exact ⟨.inr rfl, res1 rfl rfl ⟨rfl, S23.back⟩⟩

theorem w_spec_l2Lit {Ha : GH} {wa : World} (hs : Sl Ha wa) (a0 : Int) (a1 : Int) :
    Calls Tryz.prog 174 #[Value.int .i64 a0, Value.int .i64 a1] wa (Sc Ha wa (Value.bool (PF.spec_l2Lit a0 a1))) := by
  obtain ⟨r, hp⟩ : ∃ r, (PF.spec_l2Lit a0 a1) = r := ⟨_, rfl⟩
  rw [hp]
  unfold PF.spec_l2Lit at hp
  have S0 := St.init hs
  refine calls_go (N := 14) (args := [Value.int .i64 a0, Value.int .i64 a1]) Tryz.func174 rfl rfl rfl ?_
  refine FW.seq ?_
  refine FW.region ?_
  refine FL.val rfl rfl rfl (E.assign (v := Value.bool false) rfl) ?_
  refine FL.nil ?_
  refine FW.seq ?_
  refine FW.region ?_
  refine FL.val rfl rfl rfl (E.move (v := Value.int .i64 a1) rfl) ?_
  refine FL.val rfl rfl rfl (E.move (v := Value.int .i64 a0) rfl) ?_
  refine FL.val rfl rfl rfl (E.neg rfl) ?_
  refine FL.val rfl rfl rfl (E.move (v := Value.int .i64 a0) rfl) ?_
  refine FL.call rfl rfl rfl (E.call Tryz.call143 (A3 rfl rfl rfl)) (w_spec_l1In S0.sl a1 (wr (-a0)) a0) ?_
  rintro e w21 ⟨rfl, r22⟩
  refine ⟨_, rfl, ?_⟩
  have S23 := S0.call r22
  refine FL.val rfl rfl rfl (E.move (v := Value.bool (PF.spec_l1In a1 (wr (-a0)) a0)) rfl) ?_
  refine FL.cut 3 (fun f w => ∃ H : GH, St Ha wa H w [] ∧ Inc Ha H ∧ f 13 = Value.bool (bif (PF.spec_l1In a1 (wr (-a0)) a0) then (!(a1 == 0)) else false)) ?_ ?_
  ·
    rcases bcase (PF.spec_l1In a1 (wr (-a0)) a0) with c30 | c30
    ·
      refine FL.val (wF_yes rfl rfl rfl c30) rfl rfl (E.move (v := Value.int .i64 a1) rfl) ?_
      refine FL.val (wF_yes rfl rfl rfl c30) rfl rfl (E.neq rfl rfl) ?_
      refine FL.val rfl rfl rfl (E.pickT rfl c30 rfl) ?_
      exact FL.nil ⟨rfl, _, S23, (Inc.rfl _), (congrArg Value.bool (bifT c30).symm)⟩
    ·
      refine FL.skip (wF_no rfl rfl rfl c30) rfl ?_
      refine FL.skip (wF_no rfl rfl rfl c30) rfl ?_
      refine FL.val rfl rfl rfl (E.pickF rfl c30 rfl) ?_
      exact FL.nil ⟨rfl, _, S23, (Inc.rfl _), (congrArg Value.bool (bifF c30).symm)⟩
  rintro f29 w28 ⟨H25, S26, i27, k31⟩
  refine FL.val rfl rfl rfl (E.assign k31) ?_
  refine FL.nil ?_
  refine FW.ret ?_
  obtain rfl := hp
  exact ⟨.inr rfl, res1 rfl rfl ⟨rfl, S26.back⟩⟩

theorem w_spec_l2Var {Ha : GH} {wa : World} (hs : Sl Ha wa) (a0 : Int) :
    Calls Tryz.prog 175 #[Value.int .i64 a0] wa (Sc Ha wa (Value.int .i64 (PF.spec_l2Var a0))) := by
  obtain ⟨r, hp⟩ : ∃ r, (PF.spec_l2Var a0) = r := ⟨_, rfl⟩
  rw [hp]
  unfold PF.spec_l2Var at hp
  have S0 := St.init hs
  refine calls_go (N := 8) (args := [Value.int .i64 a0]) Tryz.func175 rfl rfl rfl ?_
  refine FW.seq ?_
  refine FW.region ?_
  refine FL.val rfl rfl rfl (E.assign (v := Value.int .i64 0) rfl) ?_
  refine FL.nil ?_
  refine FW.seq ?_
  refine FW.seq ?_
  refine FW.region ?_
  refine FL.val rfl rfl rfl (E.move (v := Value.int .i64 a0) rfl) ?_
  refine FL.val rfl rfl rfl (E.lss rfl rfl) ?_
  refine FL.nil ?_
  rcases ifT hp with ⟨c21, hp⟩ | ⟨c21, hp⟩
  ·
    refine FW.condT rfl c21 ?_
    refine FW.seq ?_
    refine FW.region ?_
    refine FL.val rfl rfl rfl (E.move (v := Value.int .i64 a0) rfl) ?_
    refine FL.val rfl rfl rfl (E.neg rfl) ?_
    refine FL.val rfl rfl rfl (E.assign (v := Value.int .i64 (wr (-a0))) rfl) ?_
    refine FL.nil ?_
    refine FW.ret ?_
    obtain rfl := hp
    exact ⟨.inr rfl, res1 rfl rfl ⟨rfl, S0.back⟩⟩
  ·
    refine FW.condF rfl c21 ?_
    refine FW.skip ?_
    refine FW.seq ?_
    refine FW.region ?_
    refine FL.val rfl rfl rfl (E.move (v := Value.int .i64 a0) rfl) ?_
    refine FL.val rfl rfl rfl (E.assign (v := Value.int .i64 a0) rfl) ?_
    refine FL.nil ?_
    refine FW.ret ?_
    obtain rfl := hp
    exact ⟨.inr rfl, res1 rfl rfl ⟨rfl, S0.back⟩⟩

theorem w_spec_l2Clause {Ha : GH} {wa : World} (hs : Sl Ha wa) (a0 : Int) (v1 : Value) (a1 : List Int) (p1 : RSl Ha eI 1 v1 a1) {r : Bool} (hp : (PF.spec_l2Clause a0 a1) = some r) :
    Calls Tryz.prog 133 #[Value.int .i64 a0, v1] wa (Sc Ha wa (Value.bool r)) := by
  unfold PF.spec_l2Clause at hp
  have S0 := St.init hs
  refine calls_go (N := 40) (args := [Value.int .i64 a0, v1]) Tryz.func133 rfl rfl rfl ?_
  refine FW.seq ?_
  refine FW.region ?_
  refine FL.val rfl rfl rfl (E.assign (v := Value.bool false) rfl) ?_
  refine FL.nil ?_
  refine FW.seq ?_
  refine FW.seq ?_
  refine FW.region ?_
  refine FL.val rfl rfl rfl (E.move (v := Value.int .i64 a0) rfl) ?_
  refine FL.call rfl rfl rfl (E.call Tryz.call132 (A1 rfl)) (w_spec_l2Vars S0.sl a0) ?_
  rintro e w21 ⟨rfl, r22⟩
  refine ⟨_, rfl, ?_⟩
  have S23 := S0.call r22
  refine FL.val rfl rfl rfl (E.not rfl) ?_
  refine FL.nil ?_
  rcases ifB hp with ⟨c24, hp⟩ | ⟨c24, hp⟩
  ·
    refine FW.condT rfl c24 ?_
    refine FW.seq ?_
    refine FW.region ?_
    refine FL.val rfl rfl rfl (E.assign (v := Value.bool false) rfl) ?_
    refine FL.nil ?_
    refine FW.ret ?_
    obtain rfl := Option.some.inj hp
    exact ⟨.inr rfl, res1 rfl rfl ⟨rfl, S23.back⟩⟩
  ·
    refine FW.condF rfl c24 ?_
    refine FW.skip ?_
    refine FW.seq ?_
    refine FW.seq ?_
    refine FW.region ?_
    refine FL.val rfl rfl rfl (E.assign (v := Value.int .i64 0) rfl) ?_
    refine FL.nil ?_
    obtain ⟨q26, hq, hp⟩ := bndR hp
    refine FW.block ?_
    refine FW.mono (FW.forL (S := Unit) (X := Bool) (fun (i26 : Nat) (s26 : Unit) f w => ∃ H : GH, St Ha wa H w [] ∧ Inc Ha H ∧ f 5 = Value.int .i64 ((i26 : Nat) : Int) ∧ f 0 = Value.int .i64 a0 ∧ f 1 = v1) (fun q e f w => match q with | .go s26 => e = Exit.exit 0 ∧ (∃ H : GH, St Ha wa H w [] ∧ Inc Ha H) | .rt x => ((e = Exit.ret) ∧ (fun e f w => (e = Exit.normal ∨ e = Exit.ret) ∧ ∀ a, Fr (δ := []) 40 a f → ∃ v, (results Tryz.f133 a.tmps).run Tryz.prog w = .ok v w ∧ (Sc Ha wa (Value.bool x)) (.returned v) w) e f w)) hq ⟨_, S23, (Inc.rfl _), rfl, rfl, rfl⟩ ?_ ?_) ?_
    ·
      clear hp hq
      rintro i26 y25 s26 f141 w140 ⟨H137, S138, i139, k142, k143, k144⟩ hx26 o247 hp
      refine FW.seq ?_
      refine FW.seq ?_
      refine FW.region ?_
      refine FL.val rfl rfl rfl (E.move k142) ?_
      refine FL.val rfl rfl rfl (E.move k144) ?_
      refine FL.val rfl rfl rfl (E.lenP te61 rfl p1) ?_
      refine FL.val rfl rfl rfl (E.lssT rfl rfl (lss_len hx26)) ?_
      refine FL.nil ?_
      refine FW.condT rfl rfl ?_
      refine FW.skip ?_
      refine FW.seq ?_
      refine FW.block ?_
      refine FW.seq ?_
      refine FW.draw (fun w' => Run w140.heap.size H137 w140 H137 w') (by kernel_rfl) (by kernel_rfl) (run_drew S138.sl) ?_
      refine FD.val rfl rfl rfl (fun w' hw' => (E.move k143)) ?_
      refine FD.val rfl rfl rfl (fun w' hw' => (E.move k144)) ?_
      refine FD.val rfl rfl rfl (fun w' hw' => (E.move k142)) ?_
      obtain ⟨p146, cs147, pt148, l149, at150, rel151⟩ := p1.at (ix_nat hx26)
      obtain rfl := eI_open rel151
      refine FD.val rfl rfl rfl (fun w' hw' => (E.indexAddr te61 rfl rfl pt148)) ?_
      refine FD.val rfl rfl rfl (fun w' hw' => (E.load rfl (run_load0 Tryz.isAgg3 ((at150.mono i139).now (S138.call hw').sl) rfl))) ?_
      refine FD.call rfl rfl rfl (fun w' hw' => (E.call Tryz.call174 (A2 rfl rfl))) (fun w' hw' => Calls.cls hw' (w_spec_l2Lit (S138.call hw').sl a0 y25)) ?_
      refine FD.val rfl rfl rfl (fun w' hw' => (E.not rfl)) ?_
      refine FD.val rfl rfl rfl (fun w' hw' => (E.move (v := Value.bool (!(PF.spec_l2Lit a0 y25))) rfl)) ?_
      obtain ⟨t192, hqt192, hp⟩ := bnd hp
      refine FD.cut 17 (fun f => f 0 = Value.int .i64 a0 ∧ f 1 = v1 ∧ f 5 = Value.int .i64 ((i26 : Nat) : Int) ∧ f 39 = Value.bool t192) ?_ ?_
      ·
        clear hp; have hp := hqt192; clear hqt192
        rcases ifB hp with ⟨c198, hp⟩ | ⟨c198, hp⟩
        ·
          refine FD.skip (wF_no rfl rfl rfl c198) rfl ?_
          refine FD.skip (wF_no rfl rfl rfl c198) rfl ?_
          refine FD.skip (wF_no rfl rfl rfl c198) rfl ?_
          refine FD.skip (wF_undef rfl rfl rfl) rfl ?_
          refine FD.skip (wF_undef rfl rfl rfl) rfl ?_
          refine FD.skip (wF_undef rfl rfl rfl) rfl ?_
          refine FD.skip (wF_undef rfl rfl rfl) rfl ?_
          refine FD.skip (wF_undef rfl rfl rfl) rfl ?_
          refine FD.skip (wF_undef rfl rfl rfl) rfl ?_
          refine FD.skip (wF_undef rfl rfl rfl) rfl ?_
          refine FD.skip (wF_undef rfl rfl rfl) rfl ?_
          refine FD.skip (wF_undef rfl rfl rfl) rfl ?_
          refine FD.skip (wF_undef rfl rfl rfl) rfl ?_
          refine FD.skip (wF_undef rfl rfl rfl) rfl ?_
          refine FD.skip (wF_undef rfl rfl rfl) rfl ?_
          refine FD.skip (wF_no rfl rfl rfl c198) rfl ?_
          obtain rfl := Option.some.inj hp
          refine FD.val rfl rfl rfl (fun w' hw' => (E.pickT rfl c198 rfl)) ?_
          exact FD.nil ⟨k143, k144, k142, rfl⟩
        ·
          refine FD.val (wF_yes rfl rfl rfl c198) rfl rfl (fun w' hw' => (E.move k142)) ?_
          refine FD.val (wF_yes rfl rfl rfl c198) rfl rfl (fun w' hw' => (E.gtr rfl rfl)) ?_
          refine FD.val (wF_yes rfl rfl rfl c198) rfl rfl (fun w' hw' => (E.move (v := Value.bool (decide (0 < ((i26 : Nat) : Int)))) rfl)) ?_
          obtain ⟨t213, hqt213, hp⟩ := bnd hp
          refine FD.cut 13 (fun f => f 0 = Value.int .i64 a0 ∧ f 1 = v1 ∧ f 5 = Value.int .i64 ((i26 : Nat) : Int) ∧ f 22 = Value.bool (!(PF.spec_l2Lit a0 y25)) ∧ f 38 = Value.bool t213) ?_ ?_
          ·
            clear hp; have hp := hqt213; clear hqt213
            rcases ifB hp with ⟨c219, hp⟩ | ⟨c219, hp⟩
            ·
              refine FD.val (wF_yes rfl rfl rfl c219) rfl rfl (fun w' hw' => (E.move k144)) ?_
              refine FD.val (wF_yes rfl rfl rfl c219) rfl rfl (fun w' hw' => (E.move k142)) ?_
              refine FD.val (wF_yes rfl rfl rfl c219) rfl rfl (fun w' hw' => (E.sub rfl rfl)) ?_
              obtain ⟨x226, hx227, hp⟩ := bnd hp
              obtain ⟨p220, cs221, pt222, l223, at224, rel225⟩ := p1.at hx227
              obtain rfl := eI_open rel225
              refine FD.val (wF_yes rfl rfl rfl c219) rfl rfl (fun w' hw' => (E.indexAddr te61 rfl rfl pt222)) ?_
              refine FD.val (wF_yes rfl rfl rfl c219) rfl rfl (fun w' hw' => (E.load rfl (run_load0 Tryz.isAgg3 ((at224.mono i139).now (S138.call hw').sl) rfl))) ?_
              refine FD.call (wF_yes rfl rfl rfl c219) rfl rfl (fun w' hw' => (E.call Tryz.call175 (A1 rfl))) (fun w' hw' => Calls.cls hw' (w_spec_l2Var (S138.call hw').sl x226)) ?_
              refine FD.val (wF_yes rfl rfl rfl c219) rfl rfl (fun w' hw' => (E.move k144)) ?_
              refine FD.val (wF_yes rfl rfl rfl c219) rfl rfl (fun w' hw' => (E.move k142)) ?_
              obtain ⟨p228, cs229, pt230, l231, at232, rel233⟩ := p1.at (ix_nat hx26)
              obtain rfl := eI_open rel233
              refine FD.val (wF_yes rfl rfl rfl c219) rfl rfl (fun w' hw' => (E.indexAddr te61 rfl rfl pt230)) ?_
              refine FD.val (wF_yes rfl rfl rfl c219) rfl rfl (fun w' hw' => (E.load rfl (run_load0 Tryz.isAgg3 ((at232.mono i139).now (S138.call hw').sl) rfl))) ?_
              refine FD.call (wF_yes rfl rfl rfl c219) rfl rfl (fun w' hw' => (E.call Tryz.call175 (A1 rfl))) (fun w' hw' => Calls.cls hw' (w_spec_l2Var (S138.call hw').sl y25)) ?_
              refine FD.val (wF_yes rfl rfl rfl c219) rfl rfl (fun w' hw' => (E.geq rfl rfl)) ?_
              obtain rfl := Option.some.inj hp
              refine FD.val (wF_yes rfl rfl rfl c198) rfl rfl (fun w' hw' => (E.pickT rfl c219 rfl)) ?_
              exact FD.nil ⟨k143, k144, k142, rfl, rfl⟩
            ·
              refine FD.skip (wF_no rfl rfl rfl c219) rfl ?_
              refine FD.skip (wF_no rfl rfl rfl c219) rfl ?_
              refine FD.skip (wF_no rfl rfl rfl c219) rfl ?_
              refine FD.skip (wF_no rfl rfl rfl c219) rfl ?_
              refine FD.skip (wF_no rfl rfl rfl c219) rfl ?_
              refine FD.skip (wF_no rfl rfl rfl c219) rfl ?_
              refine FD.skip (wF_no rfl rfl rfl c219) rfl ?_
              refine FD.skip (wF_no rfl rfl rfl c219) rfl ?_
              refine FD.skip (wF_no rfl rfl rfl c219) rfl ?_
              refine FD.skip (wF_no rfl rfl rfl c219) rfl ?_
              refine FD.skip (wF_no rfl rfl rfl c219) rfl ?_
              refine FD.skip (wF_no rfl rfl rfl c219) rfl ?_
              obtain rfl := Option.some.inj hp
              refine FD.val (wF_yes rfl rfl rfl c198) rfl rfl (fun w' hw' => (E.pickF rfl c219 rfl)) ?_
              exact FD.nil ⟨k143, k144, k142, rfl, rfl⟩
          rintro f218 ⟨k234, k235, k236, k237, k238⟩
          obtain rfl := Option.some.inj hp
          refine FD.val rfl rfl rfl (fun w' hw' => (E.pickF k237 c198 k238)) ?_
          exact FD.nil ⟨k234, k235, k236, rfl⟩
      rintro f197 ⟨k239, k240, k241, k242⟩
      refine FD.nil ?_
      intro w243 r245
      have S244 := S138.call r245
      rcases ifB hp with ⟨c246, hp⟩ | ⟨c246, hp⟩
      ·
        refine FW.condT k242 c246 ?_
        refine FW.seq ?_
        refine FW.region ?_
        refine FL.val rfl rfl rfl (E.assign (v := Value.bool false) rfl) ?_
        refine FL.nil ?_
        refine FW.ret ?_
        obtain rfl := Option.some.inj hp
        exact ⟨nofun, rfl, ⟨.inr rfl, res1 rfl rfl ⟨rfl, S244.back⟩⟩⟩
      ·
        refine FW.condF k242 c246 ?_
        refine FW.skip ?_
        refine FW.region ?_
        refine FL.val rfl rfl rfl (E.move k241) ?_
        refine FL.val rfl rfl rfl (E.add rfl rfl) ?_
        refine FL.val rfl rfl rfl (E.assign (v := Value.int .i64 (wr (((i26 : Nat) : Int) + 1))) rfl) ?_
        refine FL.nil ?_
        obtain rfl := Option.some.inj hp
        exact ⟨rfl, ⟨_, S244, i139, (nat_succ rfl (lt_of_get hx26) (p1.mono i139).le), k239, k240⟩⟩
    ·
      clear hp hq
      rintro s26 f257 w256 ⟨H253, S254, i255, k258, k259, k260⟩
      refine FW.seq ?_
      refine FW.seq ?_
      refine FW.region ?_
      refine FL.val rfl rfl rfl (E.move k258) ?_
      refine FL.val rfl rfl rfl (E.move k260) ?_
      refine FL.val rfl rfl rfl (E.lenP te61 rfl p1) ?_
      refine FL.val rfl rfl rfl (E.lss rfl rfl) ?_
      refine FL.nil ?_
      refine FW.condF rfl dlt_len ?_
      refine FW.exit ?_
      exact ⟨nofun, rfl, ⟨_, S254, i255⟩⟩
    ·
      clear hq
      intro e f252 w251 hD
      rcases q26 with s26 | x26
      ·
        obtain ⟨rfl, hD⟩ := hD
        obtain ⟨H248, S249, i250⟩ := hD
        replace hp := el_go hp
        refine FW.seq ?_
        refine FW.region ?_
        refine FL.val rfl rfl rfl (E.assign (v := Value.bool true) rfl) ?_
        refine FL.nil ?_
        refine FW.ret ?_
        obtain rfl := Option.some.inj hp
        exact ⟨.inr rfl, res1 rfl rfl ⟨rfl, S249.back⟩⟩
      ·
        obtain ⟨he, hL⟩ := hD
        replace hp := el_rt hp
        obtain rfl := Option.some.inj hp
        subst he
        exact hL

theorem w_spec_l2Good {Ha : GH} {wa : World} (hs : Sl Ha wa) (a0 : Cnf) (v0_1 : Value) (p0_1 : RSl Ha (eL eI 1) 1 v0_1 a0.clauses) {r : Bool} (hp : (PF.spec_l2Good a0) = some r) :
    Calls Tryz.prog 68 #[Value.agg #[Value.int .i64 a0.vars, v0_1]] wa (Sc Ha wa (Value.bool r)) := by
  unfold PF.spec_l2Good at hp
  have S0 := St.init hs
  refine calls_go (N := 30) (args := [Value.agg #[Value.int .i64 a0.vars, v0_1]]) Tryz.func68 rfl rfl rfl ?_
  refine FW.seq ?_
  refine FW.region ?_
  obtain ⟨b21, w22, run23, S24⟩ := S0.box (P := Tryz.prog) 30 [Value.int .i64 a0.vars, v0_1] (v := Value.agg #[Value.int .i64 a0.vars, v0_1]) rfl (ones_cons rfl (ones_cons p0_1.one ones_nil))
  refine FL.val rfl rfl rfl (E.box rfl run23) ?_
  obtain ⟨H25, S26, i27, at28⟩ := S24.sealBox (i := 0) (l' := []) rfl rfl
  refine FL.val rfl rfl rfl (E.assign (v := Value.bool false) rfl) ?_
  refine FL.nil ?_
  refine FW.seq ?_
  refine FW.seq ?_
  refine FW.region ?_
  refine FL.val rfl rfl rfl (E.fieldAddr tf30_0 rfl) ?_
  refine FL.val rfl rfl rfl (E.load rfl (run_load1 Tryz.isAgg3 (at28.now S26.sl) rfl)) ?_
  refine FL.call rfl rfl rfl (E.call Tryz.call132 (A1 rfl)) (w_spec_l2Vars S26.sl a0.vars) ?_
  rintro e w29 ⟨rfl, r30⟩
  refine ⟨_, rfl, ?_⟩
  have S31 := S26.call r30
  refine FL.val rfl rfl rfl (E.not rfl) ?_
  refine FL.val rfl rfl rfl (E.move (v := Value.bool (!(PF.spec_l2Vars a0.vars))) rfl) ?_
  refine FL.cut 5 (fun f w => ∃ H : GH, St Ha wa H w [] ∧ Inc H25 H ∧ f 1 = Value.pointer (some ⟨b21, 0, none⟩) ∧ f 13 = Value.bool (bif (!(PF.spec_l2Vars a0.vars)) then true else (decide (60 < (len a0.clauses))))) ?_ ?_
  ·
    rcases bcase (!(PF.spec_l2Vars a0.vars)) with c38 | c38
    ·
      refine FL.skip (wF_no rfl rfl rfl c38) rfl ?_
      refine FL.skip (wF_no rfl rfl rfl c38) rfl ?_
      refine FL.skip (wF_no rfl rfl rfl c38) rfl ?_
      refine FL.skip (wF_no rfl rfl rfl c38) rfl ?_
      refine FL.val rfl rfl rfl (E.pickT rfl c38 rfl) ?_
      exact FL.nil ⟨rfl, _, S31, (Inc.rfl _), rfl, (congrArg Value.bool (bifT c38).symm)⟩
    ·
      refine FL.val (wF_yes rfl rfl rfl c38) rfl rfl (E.fieldAddr tf30_1 rfl) ?_
      refine FL.val (wF_yes rfl rfl rfl c38) rfl rfl (E.load rfl (run_load1 Tryz.isAgg22 (at28.now S31.sl) rfl)) ?_
      refine FL.val (wF_yes rfl rfl rfl c38) rfl rfl (E.lenP te22 rfl p0_1) ?_
      refine FL.val (wF_yes rfl rfl rfl c38) rfl rfl (E.gtr rfl rfl) ?_
      refine FL.val rfl rfl rfl (E.pickF rfl c38 rfl) ?_
      exact FL.nil ⟨rfl, _, S31, (Inc.rfl _), rfl, (congrArg Value.bool (bifF c38).symm)⟩
  rintro f37 w36 ⟨H33, S34, i35, k39, k40⟩
  refine FL.nil ?_
  rcases ifB hp with ⟨c41, hp⟩ | ⟨c41, hp⟩
  ·
    refine FW.condT k40 c41 ?_
    refine FW.seq ?_
    refine FW.region ?_
    refine FL.val rfl rfl rfl (E.assign (v := Value.bool false) rfl) ?_
    refine FL.nil ?_
    refine FW.ret ?_
    obtain rfl := Option.some.inj hp
    exact ⟨.inr rfl, res1 rfl rfl ⟨rfl, S34.back⟩⟩
  ·
    refine FW.condF k40 c41 ?_
    refine FW.skip ?_
    refine FW.seq ?_
    refine FW.seq ?_
    refine FW.region ?_
    refine FL.val rfl rfl rfl (E.assign (v := Value.int .i64 0) rfl) ?_
    refine FL.nil ?_
    obtain ⟨q42, hq, hp⟩ := bndR hp
    refine FW.block ?_
    refine FW.mono (FW.iter (S := Int) (X := Bool) (fun (s42 : Int) f w => ∃ H : GH, St Ha wa H w [] ∧ Inc H33 H ∧ f 1 = Value.pointer (some ⟨b21, 0, none⟩) ∧ f 3 = Value.int .i64 s42) (fun q e f w => match q with | .go s42 => e = Exit.exit 0 ∧ (∃ H : GH, St Ha wa H w [] ∧ Inc H33 H) | .rt x => ((e = Exit.ret) ∧ (fun e f w => (e = Exit.normal ∨ e = Exit.ret) ∧ ∀ a, Fr (δ := []) 30 a f → ∃ v, (results Tryz.f68 a.tmps).run Tryz.prog w = .ok v w ∧ (Sc Ha wa (Value.bool x)) (.returned v) w) e f w)) hq ⟨_, S34, (Inc.rfl _), k39, rfl⟩ ?_) ?_
    ·
      clear hp hq
      rintro s42 f72 w71 ⟨H68, S69, i70, k73, k74⟩ o93 hp
      refine FW.seq ?_
      refine FW.seq ?_
      refine FW.region ?_
      refine FL.val rfl rfl rfl (E.move k74) ?_
      refine FL.val rfl rfl rfl (E.fieldAddr tf30_1 k73) ?_
      refine FL.val rfl rfl rfl (E.load rfl (run_load1 Tryz.isAgg22 ((at28.mono (i35.tr i70)).now S69.sl) rfl)) ?_
      refine FL.val rfl rfl rfl (E.lenP te22 rfl p0_1) ?_
      refine FL.val rfl rfl rfl (E.lss rfl rfl) ?_
      refine FL.nil ?_
      rcases ifB hp with ⟨c75, hp⟩ | ⟨c75, hp⟩
      ·
        refine FW.condT rfl c75 ?_
        refine FW.skip ?_
        refine FW.seq ?_
        refine FW.block ?_
        refine FW.seq ?_
        refine FW.draw (fun w' => Run w71.heap.size H68 w71 H68 w') (by kernel_rfl) (by kernel_rfl) (run_drew S69.sl) ?_
        refine FD.val rfl rfl rfl (fun w' hw' => (E.fieldAddr tf30_0 k73)) ?_
        refine FD.val rfl rfl rfl (fun w' hw' => (E.load rfl (run_load1 Tryz.isAgg3 ((at28.mono (i35.tr i70)).now (S69.call hw').sl) rfl))) ?_
        refine FD.val rfl rfl rfl (fun w' hw' => (E.fieldAddr tf30_1 k73)) ?_
        refine FD.val rfl rfl rfl (fun w' hw' => (E.load rfl (run_load1 Tryz.isAgg22 ((at28.mono (i35.tr i70)).now (S69.call hw').sl) rfl))) ?_
        refine FD.val rfl rfl rfl (fun w' hw' => (E.move k74)) ?_
        obtain ⟨x83, hx84, hp⟩ := bnd hp
        obtain ⟨p77, cs78, pt79, l80, at81, rel82⟩ := p0_1.at hx84
        obtain ⟨v85, rfl, h86⟩ := eL_open rel82
        refine FD.val rfl rfl rfl (fun w' hw' => (E.indexAddr te22 rfl rfl pt79)) ?_
        refine FD.val rfl rfl rfl (fun w' hw' => (E.load rfl (run_load0 Tryz.isAgg61 ((at81.mono ((i27.tr i35).tr i70)).now (S69.call hw').sl) rfl))) ?_
        obtain ⟨r87, hr88, hp⟩ := bnd hp
        refine FD.call rfl rfl rfl (fun w' hw' => (E.call Tryz.call133 (A2 rfl rfl))) (fun w' hw' => Calls.cls hw' (w_spec_l2Clause (S69.call hw').sl a0.vars v85 x83 (h86.mono ((i27.tr i35).tr i70)) hr88)) ?_
        refine FD.val rfl rfl rfl (fun w' hw' => (E.not rfl)) ?_
        refine FD.nil ?_
        intro w89 r91
        have S90 := S69.call r91
        rcases ifB hp with ⟨c92, hp⟩ | ⟨c92, hp⟩
        ·
          refine FW.condT rfl c92 ?_
          refine FW.seq ?_
          refine FW.region ?_
          refine FL.val rfl rfl rfl (E.assign (v := Value.bool false) rfl) ?_
          refine FL.nil ?_
          refine FW.ret ?_
          obtain rfl := Option.some.inj hp
          exact ⟨nofun, rfl, ⟨.inr rfl, res1 rfl rfl ⟨rfl, S90.back⟩⟩⟩
        ·
          refine FW.condF rfl c92 ?_
          refine FW.skip ?_
          refine FW.region ?_
          refine FL.val rfl rfl rfl (E.move k74) ?_
          refine FL.val rfl rfl rfl (E.add rfl rfl) ?_
          refine FL.val rfl rfl rfl (E.assign (v := Value.int .i64 (wr (s42 + 1))) rfl) ?_
          refine FL.nil ?_
          obtain rfl := Option.some.inj hp
          exact ⟨rfl, ⟨_, S90, i70, k73, rfl⟩⟩
      ·
        refine FW.condF rfl c75 ?_
        refine FW.exit ?_
        obtain rfl := Option.some.inj hp
        exact ⟨nofun, rfl, ⟨_, S69, i70⟩⟩
    ·
      clear hq
      intro e f98 w97 hD
      rcases q42 with s42 | x42
      ·
        obtain ⟨rfl, hD⟩ := hD
        obtain ⟨H94, S95, i96⟩ := hD
        replace hp := el_go hp
        refine FW.seq ?_
        refine FW.region ?_
        refine FL.val rfl rfl rfl (E.assign (v := Value.bool true) rfl) ?_
        refine FL.nil ?_
        refine FW.ret ?_
        obtain rfl := Option.some.inj hp
        exact ⟨.inr rfl, res1 rfl rfl ⟨rfl, S95.back⟩⟩
      ·
        obtain ⟨he, hL⟩ := hD
        replace hp := el_rt hp
        obtain rfl := Option.some.inj hp
        subst he
        exact hL

theorem w_spec_l7Asked {Ha : GH} {wa : World} (hs : Sl Ha wa) (a0 : Cnf) (v0_1 : Value) (p0_1 : RSl Ha (eL eI 1) 1 v0_1 a0.clauses) (v1 : Value) (a1 : List ResStep) (p1 : RSl Ha eResStep 4 v1 a1) {r : Bool} (hp : (PF.spec_l7Asked a0 a1) = some r) :
    Calls Tryz.prog 163 #[Value.agg #[Value.int .i64 a0.vars, v0_1], v1] wa (Sc Ha wa (Value.bool r)) := by
  unfold PF.spec_l7Asked at hp
  have S0 := St.init hs
  refine calls_go (N := 12) (args := [Value.agg #[Value.int .i64 a0.vars, v0_1], v1]) Tryz.func163 rfl rfl rfl ?_
  refine FW.seq ?_
  refine FW.region ?_
  obtain ⟨b21, w22, run23, S24⟩ := S0.box (P := Tryz.prog) 30 [Value.int .i64 a0.vars, v0_1] (v := Value.agg #[Value.int .i64 a0.vars, v0_1]) rfl (ones_cons rfl (ones_cons p0_1.one ones_nil))
  refine FL.val rfl rfl rfl (E.box rfl run23) ?_
  obtain ⟨H25, S26, i27, at28⟩ := S24.sealBox (i := 0) (l' := []) rfl rfl
  refine FL.val rfl rfl rfl (E.assign (v := Value.bool false) rfl) ?_
  refine FL.nil ?_
  refine FW.seq ?_
  refine FW.region ?_
  refine FL.val rfl rfl rfl (E.move (v := v1) rfl) ?_
  refine FL.val rfl rfl rfl (E.lenP te41 rfl p1) ?_
  refine FL.val rfl rfl rfl (E.leq rfl rfl) ?_
  refine FL.val rfl rfl rfl (E.move (v := Value.bool (decide ((len a1) ≤ 200))) rfl) ?_
  obtain ⟨t34, hqt34, hp⟩ := bnd hp
  refine FL.cut 3 (fun f w => ∃ H : GH, St Ha wa H w [] ∧ Inc H25 H ∧ f 11 = Value.bool t34) ?_ ?_
  ·
    clear hp; have hp := hqt34; clear hqt34
    rcases ifB hp with ⟨c40, hp⟩ | ⟨c40, hp⟩
    ·
      refine FL.val (wF_yes rfl rfl rfl c40) rfl rfl (E.load rfl (run_loadA Tryz.isAgg30 Tryz.sizeOf30 (at28.now S26.sl) rfl)) ?_
      obtain ⟨r41, hr42, hp⟩ := bnd hp
      refine FL.call (wF_yes rfl rfl rfl c40) rfl rfl (E.call Tryz.call68 (A1 rfl)) (w_spec_l2Good S26.sl a0 v0_1 (p0_1.mono i27) hr42) ?_
      rintro e w43 ⟨rfl, r44⟩
      refine ⟨_, rfl, ?_⟩
      have S45 := S26.call r44
      obtain rfl := Option.some.inj hp
      refine FL.val rfl rfl rfl (E.pickT rfl c40 rfl) ?_
      exact FL.nil ⟨rfl, _, S45, (Inc.rfl _), rfl⟩
    ·
      refine FL.skip (wF_no rfl rfl rfl c40) rfl ?_
      refine FL.skip (wF_no rfl rfl rfl c40) rfl ?_
      obtain rfl := Option.some.inj hp
      refine FL.val rfl rfl rfl (E.pickF rfl c40 rfl) ?_
      exact FL.nil ⟨rfl, _, S26, (Inc.rfl _), rfl⟩
  rintro f39 w38 ⟨H35, S36, i37, k46⟩
  refine FL.val rfl rfl rfl (E.assign k46) ?_
  refine FL.nil ?_
  refine FW.ret ?_
  obtain rfl := Option.some.inj hp
  exact ⟨.inr rfl, res1 rfl rfl ⟨rfl, S36.back⟩⟩

theorem w_spec_l1Same {Ha : GH} {wa : World} (hs : Sl Ha wa) (v0 : Value) (a0 : List Int) (p0 : RSl Ha eI 1 v0 a0) (v1 : Value) (a1 : List Int) (p1 : RSl Ha eI 1 v1 a1) {r : Bool} (hp : (PF.spec_l1Same a0 a1) = some r) :
    Calls Tryz.prog 146 #[v0, v1] wa (Sc Ha wa (Value.bool r)) := by
  unfold PF.spec_l1Same at hp
  have S0 := St.init hs
  refine calls_go (N := 26) (args := [v0, v1]) Tryz.func146 rfl rfl rfl ?_
  refine FW.seq ?_
  refine FW.region ?_
  refine FL.val rfl rfl rfl (E.assign (v := Value.bool false) rfl) ?_
  refine FL.nil ?_
  refine FW.seq ?_
  refine FW.seq ?_
  refine FW.region ?_
  refine FL.val rfl rfl rfl (E.move (v := v0) rfl) ?_
  refine FL.val rfl rfl rfl (E.lenP te61 rfl p0) ?_
  refine FL.val rfl rfl rfl (E.move (v := v1) rfl) ?_
  refine FL.val rfl rfl rfl (E.lenP te61 rfl p1) ?_
  refine FL.val rfl rfl rfl (E.neq rfl rfl) ?_
  refine FL.nil ?_
  rcases ifB hp with ⟨c21, hp⟩ | ⟨c21, hp⟩
  ·
    refine FW.condT rfl c21 ?_
    refine FW.seq ?_
    refine FW.region ?_
    refine FL.val rfl rfl rfl (E.assign (v := Value.bool false) rfl) ?_
    refine FL.nil ?_
    refine FW.ret ?_
    obtain rfl := Option.some.inj hp
    exact ⟨.inr rfl, res1 rfl rfl ⟨rfl, S0.back⟩⟩
  ·
    refine FW.condF rfl c21 ?_
    refine FW.skip ?_
    refine FW.seq ?_
    refine FW.seq ?_
    refine FW.region ?_
    refine FL.val rfl rfl rfl (E.assign (v := Value.int .i64 0) rfl) ?_
    refine FL.nil ?_
    obtain ⟨q23, hq, hp⟩ := bndR hp
    refine FW.block ?_
    refine FW.mono (FW.forL (S := Unit) (X := Bool) (fun (i23 : Nat) (s23 : Unit) f w => ∃ H : GH, St Ha wa H w [] ∧ Inc Ha H ∧ f 5 = Value.int .i64 ((i23 : Nat) : Int) ∧ f 0 = v0 ∧ f 1 = v1) (fun q e f w => match q with | .go s23 => e = Exit.exit 0 ∧ (∃ H : GH, St Ha wa H w [] ∧ Inc Ha H) | .rt x => ((e = Exit.ret) ∧ (fun e f w => (e = Exit.normal ∨ e = Exit.ret) ∧ ∀ a, Fr (δ := []) 26 a f → ∃ v, (results Tryz.f146 a.tmps).run Tryz.prog w = .ok v w ∧ (Sc Ha wa (Value.bool x)) (.returned v) w) e f w)) hq ⟨_, S0, (Inc.rfl _), rfl, rfl, rfl⟩ ?_ ?_) ?_
    ·
      clear hp hq
      rintro i23 y22 s23 f55 w54 ⟨H51, S52, i53, k56, k57, k58⟩ hx23 o78 hp
      refine FW.seq ?_
      refine FW.seq ?_
      refine FW.region ?_
      refine FL.val rfl rfl rfl (E.move k56) ?_
      refine FL.val rfl rfl rfl (E.move k57) ?_
      refine FL.val rfl rfl rfl (E.lenP te61 rfl p0) ?_
      refine FL.val rfl rfl rfl (E.lssT rfl rfl (lss_len hx23)) ?_
      refine FL.nil ?_
      refine FW.condT rfl rfl ?_
      refine FW.skip ?_
      refine FW.seq ?_
      refine FW.block ?_
      refine FW.seq ?_
      refine FW.draw (fun w' => Run w54.heap.size H51 w54 H51 w') (by kernel_rfl) (by kernel_rfl) (run_drew S52.sl) ?_
      refine FD.val rfl rfl rfl (fun w' hw' => (E.move k57)) ?_
      refine FD.val rfl rfl rfl (fun w' hw' => (E.move k56)) ?_
      obtain ⟨p60, cs61, pt62, l63, at64, rel65⟩ := p0.at (ix_nat hx23)
      obtain rfl := eI_open rel65
      refine FD.val rfl rfl rfl (fun w' hw' => (E.indexAddr te61 rfl rfl pt62)) ?_
      refine FD.val rfl rfl rfl (fun w' hw' => (E.load rfl (run_load0 Tryz.isAgg3 ((at64.mono i53).now (S52.call hw').sl) rfl))) ?_
      refine FD.val rfl rfl rfl (fun w' hw' => (E.move k58)) ?_
      refine FD.val rfl rfl rfl (fun w' hw' => (E.move k56)) ?_
      obtain ⟨x72, hx73, hp⟩ := bnd hp
      obtain ⟨p66, cs67, pt68, l69, at70, rel71⟩ := p1.at hx73
      obtain rfl := eI_open rel71
      refine FD.val rfl rfl rfl (fun w' hw' => (E.indexAddr te61 rfl rfl pt68)) ?_
      refine FD.val rfl rfl rfl (fun w' hw' => (E.load rfl (run_load0 Tryz.isAgg3 ((at70.mono i53).now (S52.call hw').sl) rfl))) ?_
      refine FD.val rfl rfl rfl (fun w' hw' => (E.neq rfl rfl)) ?_
      refine FD.nil ?_
      intro w74 r76
      have S75 := S52.call r76
      rcases ifB hp with ⟨c77, hp⟩ | ⟨c77, hp⟩
      ·
        refine FW.condT rfl c77 ?_
        refine FW.seq ?_
        refine FW.region ?_
        refine FL.val rfl rfl rfl (E.assign (v := Value.bool false) rfl) ?_
        refine FL.nil ?_
        refine FW.ret ?_
        obtain rfl := Option.some.inj hp
        exact ⟨nofun, rfl, ⟨.inr rfl, res1 rfl rfl ⟨rfl, S75.back⟩⟩⟩
      ·
        refine FW.condF rfl c77 ?_
        refine FW.skip ?_
        refine FW.region ?_
        refine FL.val rfl rfl rfl (E.move k56) ?_
        refine FL.val rfl rfl rfl (E.add rfl rfl) ?_
        refine FL.val rfl rfl rfl (E.assign (v := Value.int .i64 (wr (((i23 : Nat) : Int) + 1))) rfl) ?_
        refine FL.nil ?_
        obtain rfl := Option.some.inj hp
        exact ⟨rfl, ⟨_, S75, i53, (nat_succ rfl (lt_of_get hx23) (p0.mono i53).le), k57, k58⟩⟩
    ·
      clear hp hq
      rintro s23 f88 w87 ⟨H84, S85, i86, k89, k90, k91⟩
      refine FW.seq ?_
      refine FW.seq ?_
      refine FW.region ?_
      refine FL.val rfl rfl rfl (E.move k89) ?_
      refine FL.val rfl rfl rfl (E.move k90) ?_
      refine FL.val rfl rfl rfl (E.lenP te61 rfl p0) ?_
      refine FL.val rfl rfl rfl (E.lss rfl rfl) ?_
      refine FL.nil ?_
      refine FW.condF rfl dlt_len ?_
      refine FW.exit ?_
      exact ⟨nofun, rfl, ⟨_, S85, i86⟩⟩
    ·
      clear hq
      intro e f83 w82 hD
      rcases q23 with s23 | x23
      ·
        obtain ⟨rfl, hD⟩ := hD
        obtain ⟨H79, S80, i81⟩ := hD
        replace hp := el_go hp
        refine FW.seq ?_
        refine FW.region ?_
        refine FL.val rfl rfl rfl (E.assign (v := Value.bool true) rfl) ?_
        refine FL.nil ?_
        refine FW.ret ?_
        obtain rfl := Option.some.inj hp
        exact ⟨.inr rfl, res1 rfl rfl ⟨rfl, S80.back⟩⟩
      ·
        obtain ⟨he, hL⟩ := hD
        replace hp := el_rt hp
        obtain rfl := Option.some.inj hp
        subst he
        exact hL

theorem w_spec_l7Clause {Ha : GH} {wa : World} (hs : Sl Ha wa) (a0 : Cnf) (v0_1 : Value) (p0_1 : RSl Ha (eL eI 1) 1 v0_1 a0.clauses) (v1 : Value) (a1 : List ResStep) (p1 : RSl Ha eResStep 4 v1 a1) (a2 : Int) (a3 : Int) {r : Bool} (hp : (PF.spec_l7Clause a0 a1 a2 a3) = some r) :
    Calls Tryz.prog 231 #[Value.agg #[Value.int .i64 a0.vars, v0_1], v1, Value.int .i64 a2, Value.int .i64 a3] wa (Sc Ha wa (Value.bool r)) := by
  unfold PF.spec_l7Clause at hp
  have S0 := St.init hs
  refine calls_go (N := 23) (args := [Value.agg #[Value.int .i64 a0.vars, v0_1], v1, Value.int .i64 a2, Value.int .i64 a3]) Tryz.func231 rfl rfl rfl ?_
  refine FW.seq ?_
  refine FW.region ?_
  obtain ⟨b21, w22, run23, S24⟩ := S0.box (P := Tryz.prog) 30 [Value.int .i64 a0.vars, v0_1] (v := Value.agg #[Value.int .i64 a0.vars, v0_1]) rfl (ones_cons rfl (ones_cons p0_1.one ones_nil))
  refine FL.val rfl rfl rfl (E.box rfl run23) ?_
  obtain ⟨H25, S26, i27, at28⟩ := S24.sealBox (i := 0) (l' := []) rfl rfl
  refine FL.val rfl rfl rfl (E.assign (v := Value.bool false) rfl) ?_
  refine FL.nil ?_
  refine FW.seq ?_
  refine FW.draw (fun w' => Run w22.heap.size H25 w22 H25 w') (by kernel_rfl) (by kernel_rfl) (run_drew S26.sl) ?_
  refine FD.val rfl rfl rfl (fun w' hw' => (E.move (v := Value.int .i64 a3) rfl)) ?_
  refine FD.val rfl rfl rfl (fun w' hw' => (E.move (v := Value.int .i64 a2) rfl)) ?_
  refine FD.val rfl rfl rfl (fun w' hw' => (E.sub rfl rfl)) ?_
  refine FD.call rfl rfl rfl (fun w' hw' => (E.call Tryz.call143 (A3 rfl rfl rfl))) (fun w' hw' => Calls.cls hw' (w_spec_l1In (S26.call hw').sl a3 0 (wr (a2 - 1)))) ?_
  refine FD.val rfl rfl rfl (fun w' hw' => (E.move (v := Value.bool (PF.spec_l1In a3 0 (wr (a2 - 1)))) rfl)) ?_
  obtain ⟨t42, hqt42, hp⟩ := bnd hp
  refine FD.cut 9 (fun f => f 22 = Value.bool t42) ?_ ?_
  ·
    clear hp; have hp := hqt42; clear hqt42
    rcases ifB hp with ⟨c48, hp⟩ | ⟨c48, hp⟩
    ·
      refine FD.val (wF_yes rfl rfl rfl c48) rfl rfl (fun w' hw' => (E.fieldAddr tf30_0 rfl)) ?_
      refine FD.val (wF_yes rfl rfl rfl c48) rfl rfl (fun w' hw' => (E.load rfl (run_load1 Tryz.isAgg3 (at28.now (S26.call hw').sl) rfl))) ?_
      refine FD.val (wF_yes rfl rfl rfl c48) rfl rfl (fun w' hw' => (E.move (v := v1) rfl)) ?_
      refine FD.val (wF_yes rfl rfl rfl c48) rfl rfl (fun w' hw' => (E.move (v := Value.int .i64 a3) rfl)) ?_
      obtain ⟨x55, hx56, hp⟩ := bnd hp
      obtain ⟨p49, cs50, pt51, l52, at53, rel54⟩ := p1.at hx56
      obtain ⟨v57, rfl, h58⟩ := eResStep_open rel54
      refine FD.val (wF_yes rfl rfl rfl c48) rfl rfl (fun w' hw' => (E.indexAddr te41 rfl rfl pt51)) ?_
      refine FD.val (wF_yes rfl rfl rfl c48) rfl rfl (fun w' hw' => (E.fieldAddr tf103_0 rfl)) ?_
      refine FD.val (wF_yes rfl rfl rfl c48) rfl rfl (fun w' hw' => (E.load rfl (run_load1 Tryz.isAgg61 ((at53.mono i27).now (S26.call hw').sl) rfl))) ?_
      obtain ⟨r59, hr60, hp⟩ := bnd hp
      refine FD.call (wF_yes rfl rfl rfl c48) rfl rfl (fun w' hw' => (E.call Tryz.call133 (A2 rfl rfl))) (fun w' hw' => Calls.cls hw' (w_spec_l2Clause (S26.call hw').sl a0.vars v57 x55.clause (h58.mono i27) hr60)) ?_
      obtain rfl := Option.some.inj hp
      refine FD.val rfl rfl rfl (fun w' hw' => (E.pickT rfl c48 rfl)) ?_
      exact FD.nil rfl
    ·
      refine FD.skip (wF_no rfl rfl rfl c48) rfl ?_
      refine FD.skip (wF_no rfl rfl rfl c48) rfl ?_
      refine FD.skip (wF_no rfl rfl rfl c48) rfl ?_
      refine FD.skip (wF_no rfl rfl rfl c48) rfl ?_
      refine FD.skip (wF_no rfl rfl rfl c48) rfl ?_
      refine FD.skip (wF_no rfl rfl rfl c48) rfl ?_
      refine FD.skip (wF_no rfl rfl rfl c48) rfl ?_
      refine FD.skip (wF_no rfl rfl rfl c48) rfl ?_
      obtain rfl := Option.some.inj hp
      refine FD.val rfl rfl rfl (fun w' hw' => (E.pickF rfl c48 rfl)) ?_
      exact FD.nil rfl
  intro f47 k61
  refine FD.val rfl rfl rfl (fun w' hw' => (E.assign k61)) ?_
  refine FD.nil ?_
  intro w62 r64
  have S63 := S26.call r64
  refine FW.ret ?_
  obtain rfl := Option.some.inj hp
  exact ⟨.inr rfl, res1 rfl rfl ⟨rfl, S63.back⟩⟩

theorem w_spec_l1Has {Ha : GH} {wa : World} (hs : Sl Ha wa) (v0 : Value) (a0 : List Int) (p0 : RSl Ha eI 1 v0 a0) (a1 : Int) {r : Bool} (hp : (PF.spec_l1Has a0 a1) = some r) :
    Calls Tryz.prog 154 #[v0, Value.int .i64 a1] wa (Sc Ha wa (Value.bool r)) := by
  unfold PF.spec_l1Has at hp
  have S0 := St.init hs
  refine calls_go (N := 18) (args := [v0, Value.int .i64 a1]) Tryz.func154 rfl rfl rfl ?_
  refine FW.seq ?_
  refine FW.region ?_
  refine FL.val rfl rfl rfl (E.assign (v := Value.bool false) rfl) ?_
  refine FL.nil ?_
  refine FW.seq ?_
  refine FW.seq ?_
  refine FW.region ?_
  refine FL.val rfl rfl rfl (E.assign (v := Value.int .i64 0) rfl) ?_
  refine FL.nil ?_
  obtain ⟨q22, hq, hp⟩ := bndR hp
  refine FW.block ?_
  refine FW.mono (FW.forL (S := Unit) (X := Bool) (fun (i22 : Nat) (s22 : Unit) f w => ∃ H : GH, St Ha wa H w [] ∧ Inc Ha H ∧ f 5 = Value.int .i64 ((i22 : Nat) : Int) ∧ f 0 = v0 ∧ f 1 = Value.int .i64 a1) (fun q e f w => match q with | .go s22 => e = Exit.exit 0 ∧ (∃ H : GH, St Ha wa H w [] ∧ Inc Ha H) | .rt x => ((e = Exit.ret) ∧ (fun e f w => (e = Exit.normal ∨ e = Exit.ret) ∧ ∀ a, Fr (δ := []) 18 a f → ∃ v, (results Tryz.f154 a.tmps).run Tryz.prog w = .ok v w ∧ (Sc Ha wa (Value.bool x)) (.returned v) w) e f w)) hq ⟨_, S0, (Inc.rfl _), rfl, rfl, rfl⟩ ?_ ?_) ?_
  ·
    clear hp hq
    rintro i22 y21 s22 f42 w41 ⟨H38, S39, i40, k43, k44, k45⟩ hx22 o53 hp
    refine FW.seq ?_
    refine FW.seq ?_
    refine FW.region ?_
    refine FL.val rfl rfl rfl (E.move k43) ?_
    refine FL.val rfl rfl rfl (E.move k44) ?_
    refine FL.val rfl rfl rfl (E.lenP te61 rfl p0) ?_
    refine FL.val rfl rfl rfl (E.lssT rfl rfl (lss_len hx22)) ?_
    refine FL.nil ?_
    refine FW.condT rfl rfl ?_
    refine FW.skip ?_
    refine FW.seq ?_
    refine FW.block ?_
    refine FW.seq ?_
    refine FW.region ?_
    refine FL.val rfl rfl rfl (E.move k44) ?_
    refine FL.val rfl rfl rfl (E.move k43) ?_
    obtain ⟨p46, cs47, pt48, l49, at50, rel51⟩ := p0.at (ix_nat hx22)
    obtain rfl := eI_open rel51
    refine FL.val rfl rfl rfl (E.indexAddr te61 rfl rfl pt48) ?_
    refine FL.val rfl rfl rfl (E.load rfl (run_load0 Tryz.isAgg3 ((at50.mono i40).now S39.sl) rfl)) ?_
    refine FL.val rfl rfl rfl (E.move k45) ?_
    refine FL.val rfl rfl rfl (E.eql rfl rfl) ?_
    refine FL.nil ?_
    rcases ifB hp with ⟨c52, hp⟩ | ⟨c52, hp⟩
    ·
      refine FW.condT rfl c52 ?_
      refine FW.seq ?_
      refine FW.region ?_
      refine FL.val rfl rfl rfl (E.assign (v := Value.bool true) rfl) ?_
      refine FL.nil ?_
      refine FW.ret ?_
      obtain rfl := Option.some.inj hp
      exact ⟨nofun, rfl, ⟨.inr rfl, res1 rfl rfl ⟨rfl, S39.back⟩⟩⟩
    ·
      refine FW.condF rfl c52 ?_
      refine FW.skip ?_
      refine FW.region ?_
      refine FL.val rfl rfl rfl (E.move k43) ?_
      refine FL.val rfl rfl rfl (E.add rfl rfl) ?_
      refine FL.val rfl rfl rfl (E.assign (v := Value.int .i64 (wr (((i22 : Nat) : Int) + 1))) rfl) ?_
      refine FL.nil ?_
      obtain rfl := Option.some.inj hp
      exact ⟨rfl, ⟨_, S39, i40, (nat_succ rfl (lt_of_get hx22) (p0.mono i40).le), k44, k45⟩⟩
  ·
    clear hp hq
    rintro s22 f63 w62 ⟨H59, S60, i61, k64, k65, k66⟩
    refine FW.seq ?_
    refine FW.seq ?_
    refine FW.region ?_
    refine FL.val rfl rfl rfl (E.move k64) ?_
    refine FL.val rfl rfl rfl (E.move k65) ?_
    refine FL.val rfl rfl rfl (E.lenP te61 rfl p0) ?_
    refine FL.val rfl rfl rfl (E.lss rfl rfl) ?_
    refine FL.nil ?_
    refine FW.condF rfl dlt_len ?_
    refine FW.exit ?_
    exact ⟨nofun, rfl, ⟨_, S60, i61⟩⟩
  ·
    clear hq
    intro e f58 w57 hD
    rcases q22 with s22 | x22
    ·
      obtain ⟨rfl, hD⟩ := hD
      obtain ⟨H54, S55, i56⟩ := hD
      replace hp := el_go hp
      refine FW.seq ?_
      refine FW.region ?_
      refine FL.val rfl rfl rfl (E.assign (v := Value.bool false) rfl) ?_
      refine FL.nil ?_
      refine FW.ret ?_
      obtain rfl := Option.some.inj hp
      exact ⟨.inr rfl, res1 rfl rfl ⟨rfl, S55.back⟩⟩
    ·
      obtain ⟨he, hL⟩ := hD
      replace hp := el_rt hp
      obtain rfl := Option.some.inj hp
      subst he
      exact hL

theorem w_spec_l2Has {Ha : GH} {wa : World} (hs : Sl Ha wa) (v0 : Value) (a0 : List Int) (p0 : RSl Ha eI 1 v0 a0) (a1 : Int) {r : Bool} (hp : (PF.spec_l2Has a0 a1) = some r) :
    Calls Tryz.prog 191 #[v0, Value.int .i64 a1] wa (Sc Ha wa (Value.bool r)) := by
  unfold PF.spec_l2Has at hp
  have S0 := St.init hs
  refine calls_go (N := 8) (args := [v0, Value.int .i64 a1]) Tryz.func191 rfl rfl rfl ?_
  refine FW.seq ?_
  refine FW.region ?_
  refine FL.val rfl rfl rfl (E.assign (v := Value.bool false) rfl) ?_
  refine FL.nil ?_
  refine FW.seq ?_
  refine FW.region ?_
  refine FL.val rfl rfl rfl (E.move (v := v0) rfl) ?_
  refine FL.val rfl rfl rfl (E.move (v := Value.int .i64 a1) rfl) ?_
  obtain ⟨r21, hr22, hp⟩ := bnd hp
  refine FL.call rfl rfl rfl (E.call Tryz.call154 (A2 rfl rfl)) (w_spec_l1Has S0.sl v0 a0 p0 a1 hr22) ?_
  rintro e w23 ⟨rfl, r24⟩
  refine ⟨_, rfl, ?_⟩
  have S25 := S0.call r24
  refine FL.val rfl rfl rfl (E.assign (v := Value.bool r21) rfl) ?_
  refine FL.nil ?_
  refine FW.ret ?_
  obtain rfl := Option.some.inj hp
  exact ⟨.inr rfl, res1 rfl rfl ⟨rfl, S25.back⟩⟩

theorem w_spec_l2Sub {Ha : GH} {wa : World} (hs : Sl Ha wa) (v0 : Value) (a0 : List Int) (p0 : RSl Ha eI 1 v0 a0) (v1 : Value) (a1 : List Int) (p1 : RSl Ha eI 1 v1 a1) {r : Bool} (hp : (PF.spec_l2Sub a0 a1) = some r) :
    Calls Tryz.prog 232 #[v0, v1] wa (Sc Ha wa (Value.bool r)) := by
  unfold PF.spec_l2Sub at hp
  have S0 := St.init hs
  refine calls_go (N := 19) (args := [v0, v1]) Tryz.func232 rfl rfl rfl ?_
  refine FW.seq ?_
  refine FW.region ?_
  refine FL.val rfl rfl rfl (E.assign (v := Value.bool false) rfl) ?_
  refine FL.nil ?_
  refine FW.seq ?_
  refine FW.seq ?_
  refine FW.region ?_
  refine FL.val rfl rfl rfl (E.assign (v := Value.int .i64 0) rfl) ?_
  refine FL.nil ?_
  obtain ⟨q22, hq, hp⟩ := bndR hp
  refine FW.block ?_
  refine FW.mono (FW.forL (S := Unit) (X := Bool) (fun (i22 : Nat) (s22 : Unit) f w => ∃ H : GH, St Ha wa H w [] ∧ Inc Ha H ∧ f 5 = Value.int .i64 ((i22 : Nat) : Int) ∧ f 0 = v0 ∧ f 1 = v1) (fun q e f w => match q with | .go s22 => e = Exit.exit 0 ∧ (∃ H : GH, St Ha wa H w [] ∧ Inc Ha H) | .rt x => ((e = Exit.ret) ∧ (fun e f w => (e = Exit.normal ∨ e = Exit.ret) ∧ ∀ a, Fr (δ := []) 19 a f → ∃ v, (results Tryz.f232 a.tmps).run Tryz.prog w = .ok v w ∧ (Sc Ha wa (Value.bool x)) (.returned v) w) e f w)) hq ⟨_, S0, (Inc.rfl _), rfl, rfl, rfl⟩ ?_ ?_) ?_
  ·
    clear hp hq
    rintro i22 y21 s22 f47 w46 ⟨H43, S44, i45, k48, k49, k50⟩ hx22 o63 hp
    refine FW.seq ?_
    refine FW.seq ?_
    refine FW.region ?_
    refine FL.val rfl rfl rfl (E.move k48) ?_
    refine FL.val rfl rfl rfl (E.move k49) ?_
    refine FL.val rfl rfl rfl (E.lenP te61 rfl p0) ?_
    refine FL.val rfl rfl rfl (E.lssT rfl rfl (lss_len hx22)) ?_
    refine FL.nil ?_
    refine FW.condT rfl rfl ?_
    refine FW.skip ?_
    refine FW.seq ?_
    refine FW.block ?_
    refine FW.seq ?_
    refine FW.region ?_
    refine FL.val rfl rfl rfl (E.move k50) ?_
    refine FL.val rfl rfl rfl (E.move k49) ?_
    refine FL.val rfl rfl rfl (E.move k48) ?_
    obtain ⟨p51, cs52, pt53, l54, at55, rel56⟩ := p0.at (ix_nat hx22)
    obtain rfl := eI_open rel56
    refine FL.val rfl rfl rfl (E.indexAddr te61 rfl rfl pt53) ?_
    refine FL.val rfl rfl rfl (E.load rfl (run_load0 Tryz.isAgg3 ((at55.mono i45).now S44.sl) rfl)) ?_
    obtain ⟨r57, hr58, hp⟩ := bnd hp
    refine FL.call rfl rfl rfl (E.call Tryz.call191 (A2 rfl rfl)) (w_spec_l2Has S44.sl v1 a1 (p1.mono i45) y21 hr58) ?_
    rintro e w59 ⟨rfl, r60⟩
    refine ⟨_, rfl, ?_⟩
    have S61 := S44.call r60
    refine FL.val rfl rfl rfl (E.not rfl) ?_
    refine FL.nil ?_
    rcases ifB hp with ⟨c62, hp⟩ | ⟨c62, hp⟩
    ·
      refine FW.condT rfl c62 ?_
      refine FW.seq ?_
      refine FW.region ?_
      refine FL.val rfl rfl rfl (E.assign (v := Value.bool false) rfl) ?_
      refine FL.nil ?_
      refine FW.ret ?_
      obtain rfl := Option.some.inj hp
      exact ⟨nofun, rfl, ⟨.inr rfl, res1 rfl rfl ⟨rfl, S61.back⟩⟩⟩
    ·
      refine FW.condF rfl c62 ?_
      refine FW.skip ?_
      refine FW.region ?_
      refine FL.val rfl rfl rfl (E.move k48) ?_
      refine FL.val rfl rfl rfl (E.add rfl rfl) ?_
      refine FL.val rfl rfl rfl (E.assign (v := Value.int .i64 (wr (((i22 : Nat) : Int) + 1))) rfl) ?_
      refine FL.nil ?_
      obtain rfl := Option.some.inj hp
      exact ⟨rfl, ⟨_, S61, i45, (nat_succ rfl (lt_of_get hx22) (p0.mono i45).le), k49, k50⟩⟩
  ·
    clear hp hq
    rintro s22 f73 w72 ⟨H69, S70, i71, k74, k75, k76⟩
    refine FW.seq ?_
    refine FW.seq ?_
    refine FW.region ?_
    refine FL.val rfl rfl rfl (E.move k74) ?_
    refine FL.val rfl rfl rfl (E.move k75) ?_
    refine FL.val rfl rfl rfl (E.lenP te61 rfl p0) ?_
    refine FL.val rfl rfl rfl (E.lss rfl rfl) ?_
    refine FL.nil ?_
    refine FW.condF rfl dlt_len ?_
    refine FW.exit ?_
    exact ⟨nofun, rfl, ⟨_, S70, i71⟩⟩
  ·
    clear hq
    intro e f68 w67 hD
    rcases q22 with s22 | x22
    ·
      obtain ⟨rfl, hD⟩ := hD
      obtain ⟨H64, S65, i66⟩ := hD
      replace hp := el_go hp
      refine FW.seq ?_
      refine FW.region ?_
      refine FL.val rfl rfl rfl (E.assign (v := Value.bool true) rfl) ?_
      refine FL.nil ?_
      refine FW.ret ?_
      obtain rfl := Option.some.inj hp
      exact ⟨.inr rfl, res1 rfl rfl ⟨rfl, S65.back⟩⟩
    ·
      obtain ⟨he, hL⟩ := hD
      replace hp := el_rt hp
      obtain rfl := Option.some.inj hp
      subst he
      exact hL

@[reducible] def p_spec_l2Without (Ha : GH) (wa : World) (r : (List Int)) : Ending → World → Prop :=
  fun e w' => ∃ H' : GH, ∃ v0 : Value, ∃ n0 : Nat, ∃ c0 : List Value, e = .returned (v0) ∧ St Ha wa H' w' [.row 3 1 v0 n0 c0] ∧ Els (up wa.heap.size H') eI 1 c0 r
theorem w_spec_l2Without {Ha : GH} {wa : World} (hs : Sl Ha wa) (v0 : Value) (a0 : List Int) (p0 : RSl Ha eI 1 v0 a0) (a1 : Int) {r : (List Int)} (hp : (PF.spec_l2Without a0 a1) = some r) :
    Calls Tryz.prog 193 #[v0, Value.int .i64 a1] wa (p_spec_l2Without Ha wa r) := by
  unfold PF.spec_l2Without at hp
  have S0 := St.init hs
  refine calls_go (N := 29) (args := [v0, Value.int .i64 a1]) Tryz.func193 rfl rfl rfl ?_
  refine FW.seq ?_
  refine FW.region ?_
  refine FL.val rfl rfl rfl (E.assign (v := Value.slice none 0 0) rfl) ?_
  refine FL.nil ?_
  refine FW.seq ?_
  refine FW.region ?_
  obtain ⟨v21, w22, run23, S24⟩ := S0.buildSlice (P := Tryz.prog) te61 [] (parts := #[]) (cells := []) rfl szs_nil fc_nil ones_nil (Nat.le_of_ble_eq_true rfl)
  have els25 : Els (up wa.heap.size Ha) eI 1 [] [] := Els.nil
  refine FL.val rfl rfl rfl (E.buildSlice (B0) run23) ?_
  refine FL.val rfl rfl rfl (E.assign (v := v21) rfl) ?_
  refine FL.nil ?_
  refine FW.seq ?_
  refine FW.seq ?_
  refine FW.region ?_
  refine FL.val rfl rfl rfl (E.assign (v := Value.int .i64 0) rfl) ?_
  refine FL.nil ?_
  obtain ⟨q27, hq, hp⟩ := bndR hp
  refine FW.block ?_
  refine FW.mono (FW.forL (S := (List Int)) (X := Empty) (fun (i27 : Nat) (s27 : (List Int)) f w => ∃ H : GH, ∃ v28 : Value, ∃ n29 : Nat, ∃ cs30 : List Value, St Ha wa H w [.row 3 1 v28 n29 cs30] ∧ Inc Ha H ∧ Els (up wa.heap.size H) eI 1 cs30 s27 ∧ f 6 = Value.int .i64 ((i27 : Nat) : Int) ∧ f 0 = v0 ∧ f 1 = Value.int .i64 a1 ∧ f 5 = v28) (fun (q : Rs (List Int) Empty) e f w => match q with | .go s27 => e = Exit.exit 0 ∧ (∃ H : GH, ∃ v28 : Value, ∃ n29 : Nat, ∃ cs30 : List Value, St Ha wa H w [.row 3 1 v28 n29 cs30] ∧ Inc Ha H ∧ Els (up wa.heap.size H) eI 1 cs30 s27 ∧ f 5 = v28) | .rt x => x.elim) hq ⟨_, _, _, _, S24, (Inc.rfl _), els25, rfl, rfl, rfl, rfl⟩ ?_ ?_) ?_
  ·
    clear hp hq
    rintro i27 y26 s27 f77 w76 ⟨H73, v28, n29, cs30, S74, i75, els31, k78, k79, k80, k81⟩ hx27 o114 hp
    refine FW.seq ?_
    refine FW.seq ?_
    refine FW.region ?_
    refine FL.val rfl rfl rfl (E.move k78) ?_
    refine FL.val rfl rfl rfl (E.move k79) ?_
    refine FL.val rfl rfl rfl (E.lenP te61 rfl p0) ?_
    refine FL.val rfl rfl rfl (E.lssT rfl rfl (lss_len hx27)) ?_
    refine FL.nil ?_
    refine FW.condT rfl rfl ?_
    refine FW.skip ?_
    refine FW.seq ?_
    refine FW.block ?_
    refine FW.seq ?_
    refine FW.region ?_
    refine FL.val rfl rfl rfl (E.move k79) ?_
    refine FL.val rfl rfl rfl (E.move k78) ?_
    obtain ⟨p82, cs83, pt84, l85, at86, rel87⟩ := p0.at (ix_nat hx27)
    obtain rfl := eI_open rel87
    refine FL.val rfl rfl rfl (E.indexAddr te61 rfl rfl pt84) ?_
    refine FL.val rfl rfl rfl (E.load rfl (run_load0 Tryz.isAgg3 ((at86.mono i75).now S74.sl) rfl)) ?_
    refine FL.call rfl rfl rfl (E.call Tryz.call175 (A1 rfl)) (w_spec_l2Var S74.sl y26) ?_
    rintro e w88 ⟨rfl, r89⟩
    refine ⟨_, rfl, ?_⟩
    have S90 := S74.call r89
    refine FL.val rfl rfl rfl (E.move k80) ?_
    refine FL.val rfl rfl rfl (E.neq rfl rfl) ?_
    refine FL.nil ?_
    rcases ifB hp with ⟨c91, hp⟩ | ⟨c91, hp⟩
    ·
      refine FW.condT rfl c91 ?_
      refine FW.region ?_
      refine FL.val rfl rfl rfl (E.move k81) ?_
      refine FL.val rfl rfl rfl (E.move k79) ?_
      refine FL.val rfl rfl rfl (E.move k78) ?_
      obtain ⟨p92, cs93, pt94, l95, at96, rel97⟩ := p0.at (ix_nat hx27)
      obtain rfl := eI_open rel97
      refine FL.val rfl rfl rfl (E.indexAddr te61 rfl rfl pt94) ?_
      refine FL.val rfl rfl rfl (E.load rfl (run_load0 Tryz.isAgg3 ((at96.mono i75).now S90.sl) rfl)) ?_
      obtain ⟨v98, w99, run100, S101⟩ := S90.buildSlice (P := Tryz.prog) te61 [Value.int .i64 y26] (parts := #[(0, Value.int .i64 y26)]) (cells := [Value.int .i64 y26]) rfl (szs_cons rfl szs_nil) (fc_cons rfl fc_nil) (ones_cons rfl ones_nil) (Nat.le_of_ble_eq_true rfl)
      have els102 : Els (up wa.heap.size H73) eI 1 [Value.int .i64 y26] [y26] := (Els.snoc (H := (up wa.heap.size H73)) (E := eI) (k := 1) (c := [Value.int .i64 y26]) (x := y26) Els.nil rfl rfl)
      refine FL.val rfl rfl rfl (E.buildSlice (B1 rfl) run100) ?_
      obtain ⟨xs103, hz104, hp⟩ := bnd hp
      obtain ⟨v105, w108, n106, cs107, run109, S110, els111, ce112⟩ := S101.appendO (P := Tryz.prog) te61 (i := 1) (j := 0) rfl els31 rfl els102 hz104
      have S110 : St Ha wa H73 w108 [.row 3 1 v98 1 [Value.int .i64 y26], .row 3 1 v105 n106 cs107] := S110
      have S113 : St Ha wa H73 w108 [.row 3 1 v105 n106 cs107] := S110.drop 0
      refine FL.val rfl rfl rfl (E.append rfl rfl run109) ?_
      refine FL.val rfl rfl rfl (E.assign (v := v105) rfl) ?_
      refine FL.nil ?_
      refine FW.region ?_
      refine FL.val rfl rfl rfl (E.move k78) ?_
      refine FL.val rfl rfl rfl (E.add rfl rfl) ?_
      refine FL.val rfl rfl rfl (E.assign (v := Value.int .i64 (wr (((i27 : Nat) : Int) + 1))) rfl) ?_
      refine FL.nil ?_
      obtain rfl := Option.some.inj hp
      exact ⟨rfl, ⟨_, _, _, _, S113, i75, els111, (nat_succ rfl (lt_of_get hx27) (p0.mono i75).le), k79, k80, rfl⟩⟩
    ·
      refine FW.condF rfl c91 ?_
      refine FW.skip ?_
      refine FW.region ?_
      refine FL.val rfl rfl rfl (E.move k78) ?_
      refine FL.val rfl rfl rfl (E.add rfl rfl) ?_
      refine FL.val rfl rfl rfl (E.assign (v := Value.int .i64 (wr (((i27 : Nat) : Int) + 1))) rfl) ?_
      refine FL.nil ?_
      obtain rfl := Option.some.inj hp
      exact ⟨rfl, ⟨_, _, _, _, S90, i75, els31, (nat_succ rfl (lt_of_get hx27) (p0.mono i75).le), k79, k80, k81⟩⟩
  ·
    clear hp hq
    rintro s27 f125 w124 ⟨H121, v28, n29, cs30, S122, i123, els31, k126, k127, k128, k129⟩
    refine FW.seq ?_
    refine FW.seq ?_
    refine FW.region ?_
    refine FL.val rfl rfl rfl (E.move k126) ?_
    refine FL.val rfl rfl rfl (E.move k127) ?_
    refine FL.val rfl rfl rfl (E.lenP te61 rfl p0) ?_
    refine FL.val rfl rfl rfl (E.lss rfl rfl) ?_
    refine FL.nil ?_
    refine FW.condF rfl dlt_len ?_
    refine FW.exit ?_
    exact ⟨nofun, rfl, ⟨_, _, _, _, S122, i123, els31, k129⟩⟩
  ·
    clear hq
    intro e f119 w118 hD
    rcases q27 with s27 | x27
    ·
      obtain ⟨rfl, hD⟩ := hD
      obtain ⟨H115, v28, n29, cs30, S116, i117, els31, k120⟩ := hD
      replace hp := el_go hp
      refine FW.seq ?_
      refine FW.region ?_
      refine FL.val rfl rfl rfl (E.move k120) ?_
      refine FL.val rfl rfl rfl (E.assign (v := v28) rfl) ?_
      refine FL.nil ?_
      refine FW.ret ?_
      obtain rfl := Option.some.inj hp
      exact ⟨.inr rfl, res1 rfl rfl ⟨_, _, _, _, rfl, S116, els31⟩⟩
    · exact x27.elim

@[reducible] def p_spec_l1Own (Ha : GH) (wa : World) (r : (List Int)) : Ending → World → Prop :=
  fun e w' => ∃ H' : GH, ∃ v0 : Value, ∃ n0 : Nat, ∃ c0 : List Value, e = .returned (v0) ∧ St Ha wa H' w' [.row 3 1 v0 n0 c0] ∧ Els (up wa.heap.size H') eI 1 c0 r
theorem w_spec_l1Own {Ha : GH} {wa : World} (hs : Sl Ha wa) (v0 : Value) (a0 : List Int) (p0 : RSl Ha eI 1 v0 a0) {r : (List Int)} (hp : (PF.spec_l1Own a0) = some r) :
    Calls Tryz.prog 83 #[v0] wa (p_spec_l1Own Ha wa r) := by
  unfold PF.spec_l1Own at hp
  have S0 := St.init hs
  refine calls_go (N := 6) (args := [v0]) Tryz.func83 rfl rfl rfl ?_
  refine FW.seq ?_
  refine FW.region ?_
  refine FL.val rfl rfl rfl (E.assign (v := Value.slice none 0 0) rfl) ?_
  refine FL.nil ?_
  refine FW.seq ?_
  refine FW.region ?_
  obtain ⟨v21, w22, run23, S24⟩ := S0.buildSlice (P := Tryz.prog) te61 [] (parts := #[]) (cells := []) rfl szs_nil fc_nil ones_nil (Nat.le_of_ble_eq_true rfl)
  have els25 : Els (up wa.heap.size Ha) eI 1 [] [] := Els.nil
  refine FL.val rfl rfl rfl (E.buildSlice (B0) run23) ?_
  refine FL.val rfl rfl rfl (E.move (v := v0) rfl) ?_
  obtain ⟨xs26, hz27, hp⟩ := bnd hp
  obtain ⟨v28, w31, n29, cs30, run32, S33, els34⟩ := S24.appendP (P := Tryz.prog) (Inc.rfl _) te61 (i := 0) rfl (els25.mono upI) p0 hz27
  have S33 : St Ha wa Ha w31 [.row 3 1 v28 n29 cs30] := S33
  have els34 : Els (up wa.heap.size Ha) eI 1 cs30 xs26 := els34.any (fun _ _ _ _ h => h)
  refine FL.val rfl rfl rfl (E.append rfl rfl run32) ?_
  refine FL.val rfl rfl rfl (E.assign (v := v28) rfl) ?_
  refine FL.nil ?_
  refine FW.ret ?_
  obtain rfl := Option.some.inj hp
  exact ⟨.inr rfl, res1 rfl rfl ⟨_, _, _, _, rfl, S33, els34⟩⟩

@[reducible] def p_spec_l2Put (Ha : GH) (wa : World) (r : (List Int)) : Ending → World → Prop :=
  fun e w' => ∃ H' : GH, ∃ v0 : Value, ∃ n0 : Nat, ∃ c0 : List Value, e = .returned (v0) ∧ St Ha wa H' w' [.row 3 1 v0 n0 c0] ∧ Els (up wa.heap.size H') eI 1 c0 r
theorem w_spec_l2Put {Ha : GH} {wa : World} (hs : Sl Ha wa) (v0 : Value) (a0 : List Int) (p0 : RSl Ha eI 1 v0 a0) (a1 : Int) {r : (List Int)} (hp : (PF.spec_l2Put a0 a1) = some r) :
    Calls Tryz.prog 221 #[v0, Value.int .i64 a1] wa (p_spec_l2Put Ha wa r) := by
  unfold PF.spec_l2Put at hp
  have S0 := St.init hs
  refine calls_go (N := 33) (args := [v0, Value.int .i64 a1]) Tryz.func221 rfl rfl rfl ?_
  refine FW.seq ?_
  refine FW.region ?_
  refine FL.val rfl rfl rfl (E.assign (v := Value.slice none 0 0) rfl) ?_
  refine FL.nil ?_
  refine FW.seq ?_
  refine FW.region ?_
  refine FL.val rfl rfl rfl (E.assign (v := Value.int .i64 0) rfl) ?_
  refine FL.nil ?_
  refine FW.seq ?_
  obtain ⟨q21, hq, hp⟩ := bndR hp
  refine FW.block ?_
  refine FW.mono (FW.iter (S := Int) (X := Empty) (fun (s21 : Int) f w => ∃ H : GH, St Ha wa H w [] ∧ Inc Ha H ∧ f 0 = v0 ∧ f 1 = Value.int .i64 a1 ∧ f 5 = Value.int .i64 s21) (fun (q : Rs Int Empty) e f w => match q with | .go s21 => e = Exit.exit 0 ∧ (∃ H : GH, St Ha wa H w [] ∧ Inc Ha H ∧ f 0 = v0 ∧ f 1 = Value.int .i64 a1 ∧ f 5 = Value.int .i64 s21) | .rt x => x.elim) hq ⟨_, S0, (Inc.rfl _), rfl, rfl, rfl⟩ ?_) ?_
  ·
    clear hp hq
    rintro s21 f74 w73 ⟨H70, S71, i72, k75, k76, k77⟩ o118 hp
    refine FW.seq ?_
    refine FW.seq ?_
    refine FW.region ?_
    refine FL.val rfl rfl rfl (E.move k77) ?_
    refine FL.val rfl rfl rfl (E.move k75) ?_
    refine FL.val rfl rfl rfl (E.lenP te61 rfl p0) ?_
    refine FL.val rfl rfl rfl (E.lss rfl rfl) ?_
    refine FL.val rfl rfl rfl (E.move (v := Value.bool (decide (s21 < (len a0)))) rfl) ?_
    obtain ⟨t92, hqt92, hp⟩ := bnd hp
    refine FL.cut 9 (fun f w => ∃ H : GH, St Ha wa H w [] ∧ Inc H70 H ∧ f 0 = v0 ∧ f 1 = Value.int .i64 a1 ∧ f 5 = Value.int .i64 s21 ∧ f 19 = Value.bool t92) ?_ ?_
    ·
      clear hp; have hp := hqt92; clear hqt92
      rcases ifB hp with ⟨c98, hp⟩ | ⟨c98, hp⟩
      ·
        refine FL.val (wF_yes rfl rfl rfl c98) rfl rfl (E.move k75) ?_
        refine FL.val (wF_yes rfl rfl rfl c98) rfl rfl (E.move k77) ?_
        obtain ⟨x105, hx106, hp⟩ := bnd hp
        obtain ⟨p99, cs100, pt101, l102, at103, rel104⟩ := p0.at hx106
        obtain rfl := eI_open rel104
        refine FL.val (wF_yes rfl rfl rfl c98) rfl rfl (E.indexAddr te61 rfl rfl pt101) ?_
        refine FL.val (wF_yes rfl rfl rfl c98) rfl rfl (E.load rfl (run_load0 Tryz.isAgg3 ((at103.mono i72).now S71.sl) rfl)) ?_
        refine FL.call (wF_yes rfl rfl rfl c98) rfl rfl (E.call Tryz.call175 (A1 rfl)) (w_spec_l2Var S71.sl x105) ?_
        rintro e w107 ⟨rfl, r108⟩
        refine ⟨_, rfl, ?_⟩
        have S109 := S71.call r108
        refine FL.val (wF_yes rfl rfl rfl c98) rfl rfl (E.move k76) ?_
        refine FL.call (wF_yes rfl rfl rfl c98) rfl rfl (E.call Tryz.call175 (A1 rfl)) (w_spec_l2Var S109.sl a1) ?_
        rintro e w110 ⟨rfl, r111⟩
        refine ⟨_, rfl, ?_⟩
        have S112 := S109.call r111
        refine FL.val (wF_yes rfl rfl rfl c98) rfl rfl (E.lss rfl rfl) ?_
        obtain rfl := Option.some.inj hp
        refine FL.val rfl rfl rfl (E.pickT rfl c98 rfl) ?_
        exact FL.nil ⟨rfl, _, S112, (Inc.rfl _), k75, k76, k77, rfl⟩
      ·
        refine FL.skip (wF_no rfl rfl rfl c98) rfl ?_
        refine FL.skip (wF_no rfl rfl rfl c98) rfl ?_
        refine FL.skip (wF_no rfl rfl rfl c98) rfl ?_
        refine FL.skip (wF_no rfl rfl rfl c98) rfl ?_
        refine FL.skip (wF_no rfl rfl rfl c98) rfl ?_
        refine FL.skip (wF_no rfl rfl rfl c98) rfl ?_
        refine FL.skip (wF_no rfl rfl rfl c98) rfl ?_
        refine FL.skip (wF_no rfl rfl rfl c98) rfl ?_
        obtain rfl := Option.some.inj hp
        refine FL.val rfl rfl rfl (E.pickF rfl c98 rfl) ?_
        exact FL.nil ⟨rfl, _, S71, (Inc.rfl _), k75, k76, k77, rfl⟩
    rintro f97 w96 ⟨H93, S94, i95, k113, k114, k115, k116⟩
    refine FL.nil ?_
    rcases ifB hp with ⟨c117, hp⟩ | ⟨c117, hp⟩
    ·
      refine FW.condT k116 c117 ?_
      refine FW.skip ?_
      refine FW.block ?_
      refine FW.region ?_
      refine FL.val rfl rfl rfl (E.move k115) ?_
      refine FL.val rfl rfl rfl (E.add rfl rfl) ?_
      refine FL.val rfl rfl rfl (E.assign (v := Value.int .i64 (wr (s21 + 1))) rfl) ?_
      refine FL.nil ?_
      obtain rfl := Option.some.inj hp
      exact ⟨rfl, ⟨_, S94, (i72.tr i95), k113, k114, rfl⟩⟩
    ·
      refine FW.condF k116 c117 ?_
      refine FW.exit ?_
      obtain rfl := Option.some.inj hp
      exact ⟨nofun, rfl, ⟨_, S94, (i72.tr i95), k113, k114, k115⟩⟩
  ·
    clear hq
    intro e f123 w122 hD
    rcases q21 with s21 | x21
    ·
      obtain ⟨rfl, hD⟩ := hD
      obtain ⟨H119, S120, i121, k124, k125, k126⟩ := hD
      replace hp := el_go hp
      refine FW.seq ?_
      obtain ⟨xs1327, hc1328, hp⟩ := bnd hp
      obtain ⟨r1727, hr1728, hp⟩ := bnd hp
      obtain ⟨xs2927, hz2928, hp⟩ := bnd hp
      obtain ⟨xs4127, hc4128, hp⟩ := bnd hp
      obtain ⟨xs4527, hz4528, hp⟩ := bnd hp
      refine FW.drawA (Sl H119) (fun f w => ∃ H : GH, ∃ v5727 : Value, ∃ n5728 : Nat, ∃ cs5729 : List Value, St Ha wa H w [.row 3 1 v5727 n5728 cs5729] ∧ Inc H119 H ∧ Els (up wa.heap.size H) eI 1 cs5729 xs4527 ∧ f 4 = v5727) (by kernel_rfl) S120.sl ?_ ?_
      ·
        intro w127 r128
        have S129 := S120.call r128
        refine FA.take (i := 0) (l' := #[true, false, false, false, false, false, false, false, false, false, false, false]) rfl (by kernel_rfl) (by kernel_rfl) (by kernel_rfl) (by kernel_rfl) S129.sl rfl rfl rfl (fun w' hw' => (E.move k124)) ?_
        refine FA.take (i := 1) (l' := #[true, true, false, false, false, false, false, false, false, false, false, false]) rfl (by kernel_rfl) (by kernel_rfl) (by kernel_rfl) (by kernel_rfl) S129.sl rfl rfl rfl (fun w' hw' => (E.move k126)) ?_
        obtain ⟨v1329, run1330, h1331⟩ := p0.cut te61 hc1328 (lo := none) (hi := some (Value.int .i64 s21)) (.inl ⟨rfl, rfl⟩) (.inr ⟨_, rfl⟩)
        refine FA.take (i := 2) (l' := #[true, true, true, false, false, false, false, false, false, false, false, false]) rfl (by kernel_rfl) (by kernel_rfl) (by kernel_rfl) (by kernel_rfl) S129.sl rfl rfl rfl (fun w' hw' => (E.slice te61 rfl rfl (congrArg some rfl) rfl (run1330 _))) ?_
        refine FA.take (i := 4) (l' := #[true, true, true, false, true, false, false, false, false, false, false, false]) rfl (by kernel_rfl) (by kernel_rfl) (by kernel_rfl) (by kernel_rfl) S129.sl rfl rfl rfl (fun w' hw' => (E.move k125)) ?_
        refine FA.take (i := 7) (l' := #[true, true, true, false, true, false, false, true, false, false, false, false]) rfl (by kernel_rfl) (by kernel_rfl) (by kernel_rfl) (by kernel_rfl) S129.sl rfl rfl rfl (fun w' hw' => (E.move k124)) ?_
        refine FA.take (i := 8) (l' := #[true, true, true, false, true, false, false, true, true, false, false, false]) rfl (by kernel_rfl) (by kernel_rfl) (by kernel_rfl) (by kernel_rfl) S129.sl rfl rfl rfl (fun w' hw' => (E.move k126)) ?_
        obtain ⟨v4129, run4130, h4131⟩ := p0.cut te61 hc4128 (lo := some (Value.int .i64 s21)) (hi := none) (.inr ⟨_, rfl⟩) (.inl ⟨rfl, rfl⟩)
        refine FA.take (i := 9) (l' := #[true, true, true, false, true, false, false, true, true, true, false, false]) rfl (by kernel_rfl) (by kernel_rfl) (by kernel_rfl) (by kernel_rfl) S129.sl rfl rfl rfl (fun w' hw' => (E.slice te61 rfl (congrArg some rfl) rfl rfl (run4130 _))) ?_
        refine FA.all2 (i := 3) (j := 5) (by kernel_rfl) ?_ ?_
        ·
          refine FO.call (l' := #[true, true, true, true, true, false, false, true, true, true, false, false]) rfl (by kernel_rfl) rfl rfl rfl (E.call Tryz.call83 (A1 rfl)) (w_spec_l1Own S129.sl v1329 xs1327 (h1331.mono i121) hr1728) ?_
          rintro e w1730 ⟨H1729, v1733, n1734, cs1735, rfl, r1732, els1736⟩
          refine ⟨_, rfl, ?_⟩
          have els1736 := els1736.mono (up_le S129.size)
          have S1731 := S129.join (l' := [.row 3 1 v1733 n1734 cs1735]) r1732 rfl
          refine ⟨(Sl.of_inc r1732.run.inc S1731.sl), ?_⟩
          refine FA.all1 (i := 5) (by kernel_rfl) ?_
          ·
            obtain ⟨v2527, w2528, run2529, S2530⟩ := S1731.buildSlice (P := Tryz.prog) te61 [Value.int .i64 a1] (parts := #[(0, Value.int .i64 a1)]) (cells := [Value.int .i64 a1]) rfl (szs_cons rfl szs_nil) (fc_cons rfl fc_nil) (ones_cons rfl ones_nil) (Nat.le_of_ble_eq_true rfl)
            have els2531 : Els (up wa.heap.size H1729) eI 1 [Value.int .i64 a1] [a1] := (Els.snoc (H := (up wa.heap.size H1729)) (E := eI) (k := 1) (c := [Value.int .i64 a1]) (x := a1) Els.nil rfl rfl)
            refine FO.val (l' := #[true, true, true, true, true, true, false, true, true, true, false, false]) rfl (by kernel_rfl) rfl rfl rfl (E.buildSlice (B1 rfl) run2529) ?_
            refine ⟨(Sl.of_inc r1732.run.inc S2530.sl), ?_⟩
            refine FA.all1 (i := 6) (by kernel_rfl) ?_
            ·
              obtain ⟨v2929, w2932, n2930, cs2931, run2933, S2934, els2935, ce2936⟩ := S2530.appendO (P := Tryz.prog) te61 (i := 1) (j := 0) rfl els1736 rfl els2531 hz2928
              have S2934 : St Ha wa H1729 w2932 [.row 3 1 v2527 1 [Value.int .i64 a1], .row 3 1 v2929 n2930 cs2931] := S2934
              have S2937 : St Ha wa H1729 w2932 [.row 3 1 v2929 n2930 cs2931] := S2934.drop 0
              refine FO.val (l' := #[true, true, true, true, true, true, true, true, true, true, false, false]) rfl (by kernel_rfl) rfl rfl rfl (E.append rfl rfl run2933) ?_
              refine ⟨(Sl.of_inc r1732.run.inc S2937.sl), ?_⟩
              refine FA.all1 (i := 10) (by kernel_rfl) ?_
              ·
                obtain ⟨v4529, w4532, n4530, cs4531, run4533, S4534, els4535⟩ := S2937.appendP (P := Tryz.prog) (Inc.rfl _) te61 (i := 0) rfl (els2935.mono upI) (h4131.mono (i121.tr r1732.run.inc)) hz4528
                have S4534 : St Ha wa H1729 w4532 [.row 3 1 v4529 n4530 cs4531] := S4534
                have els4535 : Els (up wa.heap.size H1729) eI 1 cs4531 xs4527 := els4535.any (fun _ _ _ _ h => h)
                refine FO.val (l' := #[true, true, true, true, true, true, true, true, true, true, true, false]) rfl (by kernel_rfl) rfl rfl rfl (E.append rfl rfl run4533) ?_
                refine ⟨(Sl.of_inc r1732.run.inc S4534.sl), ?_⟩
                refine FA.take (i := 11) (l' := #[true, true, true, true, true, true, true, true, true, true, true, true]) rfl (by kernel_rfl) (by kernel_rfl) (by kernel_rfl) (by kernel_rfl) (Sl.of_inc r1732.run.inc S4534.sl) rfl rfl rfl (fun w' hw' => (E.assign (v := v4529) rfl)) ?_
                exact FA.done (by kernel_rfl) ⟨_, _, _, _, S4534, r1732.run.inc, els4535, rfl⟩
        ·
          obtain ⟨v2527, w2528, run2529, S2530⟩ := S129.buildSlice (P := Tryz.prog) te61 [Value.int .i64 a1] (parts := #[(0, Value.int .i64 a1)]) (cells := [Value.int .i64 a1]) rfl (szs_cons rfl szs_nil) (fc_cons rfl fc_nil) (ones_cons rfl ones_nil) (Nat.le_of_ble_eq_true rfl)
          have els2531 : Els (up wa.heap.size H119) eI 1 [Value.int .i64 a1] [a1] := (Els.snoc (H := (up wa.heap.size H119)) (E := eI) (k := 1) (c := [Value.int .i64 a1]) (x := a1) Els.nil rfl rfl)
          refine FO.val (l' := #[true, true, true, false, true, true, false, true, true, true, false, false]) rfl (by kernel_rfl) rfl rfl rfl (E.buildSlice (B1 rfl) run2529) ?_
          refine ⟨S2530.sl, ?_⟩
          refine FA.all1 (i := 3) (by kernel_rfl) ?_
          ·
            refine FO.call (l' := #[true, true, true, true, true, true, false, true, true, true, false, false]) rfl (by kernel_rfl) rfl rfl rfl (E.call Tryz.call83 (A1 rfl)) (w_spec_l1Own S2530.sl v1329 xs1327 (h1331.mono i121) hr1728) ?_
            rintro e w1730 ⟨H1729, v1733, n1734, cs1735, rfl, r1732, els1736⟩
            refine ⟨_, rfl, ?_⟩
            have els1736 := els1736.mono (up_le S2530.size)
            have S1731 := S2530.join (l' := [.row 3 1 v1733 n1734 cs1735, .row 3 1 v2527 1 [Value.int .i64 a1]]) r1732 rfl
            refine ⟨(Sl.of_inc r1732.run.inc S1731.sl), ?_⟩
            refine FA.all1 (i := 6) (by kernel_rfl) ?_
            ·
              obtain ⟨v2929, w2932, n2930, cs2931, run2933, S2934, els2935, ce2936⟩ := S1731.appendO (P := Tryz.prog) te61 (i := 0) (j := 1) rfl els1736 rfl (els2531.mono (up_mono r1732.run.inc)) hz2928
              have S2934 : St Ha wa H1729 w2932 [.row 3 1 v2929 n2930 cs2931, .row 3 1 v2527 1 [Value.int .i64 a1]] := S2934
              have S2937 : St Ha wa H1729 w2932 [.row 3 1 v2929 n2930 cs2931] := S2934.drop 1
              refine FO.val (l' := #[true, true, true, true, true, true, true, true, true, true, false, false]) rfl (by kernel_rfl) rfl rfl rfl (E.append rfl rfl run2933) ?_
              refine ⟨(Sl.of_inc r1732.run.inc S2937.sl), ?_⟩
              refine FA.all1 (i := 10) (by kernel_rfl) ?_
              ·
                obtain ⟨v4529, w4532, n4530, cs4531, run4533, S4534, els4535⟩ := S2937.appendP (P := Tryz.prog) (Inc.rfl _) te61 (i := 0) rfl (els2935.mono upI) (h4131.mono (i121.tr r1732.run.inc)) hz4528
                have S4534 : St Ha wa H1729 w4532 [.row 3 1 v4529 n4530 cs4531] := S4534
                have els4535 : Els (up wa.heap.size H1729) eI 1 cs4531 xs4527 := els4535.any (fun _ _ _ _ h => h)
                refine FO.val (l' := #[true, true, true, true, true, true, true, true, true, true, true, false]) rfl (by kernel_rfl) rfl rfl rfl (E.append rfl rfl run4533) ?_
                refine ⟨(Sl.of_inc r1732.run.inc S4534.sl), ?_⟩
                refine FA.take (i := 11) (l' := #[true, true, true, true, true, true, true, true, true, true, true, true]) rfl (by kernel_rfl) (by kernel_rfl) (by kernel_rfl) (by kernel_rfl) (Sl.of_inc r1732.run.inc S4534.sl) rfl rfl rfl (fun w' hw' => (E.assign (v := v4529) rfl)) ?_
                exact FA.done (by kernel_rfl) ⟨_, _, _, _, S4534, r1732.run.inc, els4535, rfl⟩
      ·
        rintro f5736 w5735 ⟨H5732, v5727, n5728, cs5729, S5733, i5734, els5730, k5737⟩
        refine FW.ret ?_
        obtain rfl := Option.some.inj hp
        exact ⟨.inr rfl, res1 rfl k5737 ⟨_, _, _, _, rfl, S5733, els5730⟩⟩
    · exact x21.elim

@[reducible] def p_spec_l2Join (Ha : GH) (wa : World) (r : ((List Int) × Bool)) : Ending → World → Prop :=
  fun e w' => ∃ H' : GH, ∃ v0 : Value, ∃ n0 : Nat, ∃ c0 : List Value, e = .returned (Value.tuple #[v0, Value.bool r.2]) ∧ St Ha wa H' w' [.row 3 1 v0 n0 c0] ∧ Els (up wa.heap.size H') eI 1 c0 r.1
theorem w_spec_l2Join {Ha : GH} {wa : World} (hs : Sl Ha wa) (v0 : Value) (a0 : List Int) (p0 : RSl Ha eI 1 v0 a0) (v1 : Value) (a1 : List Int) (p1 : RSl Ha eI 1 v1 a1) {r : ((List Int) × Bool)} (hp : (PF.spec_l2Join a0 a1) = some r) :
    Calls Tryz.prog 192 #[v0, v1] wa (p_spec_l2Join Ha wa r) := by
  unfold PF.spec_l2Join at hp
  have S0 := St.init hs
  refine calls_go (N := 38) (args := [v0, v1]) Tryz.func192 rfl rfl rfl ?_
  refine FW.seq ?_
  refine FW.region ?_
  refine FL.val rfl rfl rfl (E.assign (v := Value.slice none 0 0) rfl) ?_
  refine FL.val rfl rfl rfl (E.assign (v := Value.bool false) rfl) ?_
  refine FL.nil ?_
  refine FW.seq ?_
  refine FW.region ?_
  refine FL.val rfl rfl rfl (E.move (v := v0) rfl) ?_
  obtain ⟨r21, hr22, hp⟩ := bnd hp
  refine FL.call rfl rfl rfl (E.call Tryz.call83 (A1 rfl)) (w_spec_l1Own S0.sl v0 a0 p0 hr22) ?_
  rintro e w24 ⟨H23, v27, n28, cs29, rfl, r26, els30⟩
  refine ⟨_, rfl, ?_⟩
  have els30 := els30.mono (up_le S0.size)
  have S25 := S0.join (l' := [.row 3 1 v27 n28 cs29]) r26 rfl
  refine FL.val rfl rfl rfl (E.assign (v := v27) rfl) ?_
  refine FL.nil ?_
  refine FW.seq ?_
  refine FW.seq ?_
  refine FW.region ?_
  refine FL.val rfl rfl rfl (E.assign (v := Value.int .i64 0) rfl) ?_
  refine FL.nil ?_
  obtain ⟨q32, hq, hp⟩ := bndR hp
  refine FW.block ?_
  refine FW.mono (FW.forL (S := (List Int)) (X := ((List Int) × Bool)) (fun (i32 : Nat) (s32 : (List Int)) f w => ∃ H : GH, ∃ v107 : Value, ∃ n108 : Nat, ∃ cs109 : List Value, St Ha wa H w [.row 3 1 v107 n108 cs109] ∧ Inc H23 H ∧ Els (up wa.heap.size H) eI 1 cs109 s32 ∧ f 7 = Value.int .i64 ((i32 : Nat) : Int) ∧ f 1 = v1 ∧ f 6 = v107) (fun q e f w => match q with | .go s32 => e = Exit.exit 0 ∧ (∃ H : GH, ∃ v107 : Value, ∃ n108 : Nat, ∃ cs109 : List Value, St Ha wa H w [.row 3 1 v107 n108 cs109] ∧ Inc H23 H ∧ Els (up wa.heap.size H) eI 1 cs109 s32 ∧ f 6 = v107) | .rt x => ((e = Exit.ret) ∧ (fun e f w => (e = Exit.normal ∨ e = Exit.ret) ∧ ∀ a, Fr (δ := []) 38 a f → ∃ v, (results Tryz.f192 a.tmps).run Tryz.prog w = .ok v w ∧ (p_spec_l2Join Ha wa x) (.returned v) w) e f w)) hq ⟨_, _, _, _, S25, (Inc.rfl _), els30, rfl, rfl, rfl⟩ ?_ ?_) ?_
  ·
    clear hp hq
    rintro i32 y31 s32 f185 w184 ⟨H181, v107, n108, cs109, S182, i183, els110, k186, k187, k188⟩ hx32 o251 hp
    refine FW.seq ?_
    refine FW.seq ?_
    refine FW.region ?_
    refine FL.val rfl rfl rfl (E.move k186) ?_
    refine FL.val rfl rfl rfl (E.move k187) ?_
    refine FL.val rfl rfl rfl (E.lenP te61 rfl p1) ?_
    refine FL.val rfl rfl rfl (E.lssT rfl rfl (lss_len hx32)) ?_
    refine FL.nil ?_
    refine FW.condT rfl rfl ?_
    refine FW.skip ?_
    refine FW.seq ?_
    refine FW.block ?_
    refine FW.seq ?_
    refine FW.seq ?_
    refine FW.region ?_
    refine FL.val rfl rfl rfl (E.move k188) ?_
    refine FL.val rfl rfl rfl (E.move k187) ?_
    refine FL.val rfl rfl rfl (E.move k186) ?_
    obtain ⟨p189, cs190, pt191, l192, at193, rel194⟩ := p1.at (ix_nat hx32)
    obtain rfl := eI_open rel194
    refine FL.val rfl rfl rfl (E.indexAddr te61 rfl rfl pt191) ?_
    refine FL.val rfl rfl rfl (E.load rfl (run_load0 Tryz.isAgg3 ((at193.mono (r26.run.inc.tr i183)).now S182.sl) rfl)) ?_
    refine FL.val rfl rfl rfl (E.neg rfl) ?_
    obtain ⟨H195, S196, i197, h198, nv199⟩ := S182.sealRowU (i := 0) (l' := []) rfl els110 (by decide) rfl
    obtain ⟨r200, hr201, hp⟩ := bnd hp
    refine FL.call rfl rfl rfl (E.call Tryz.call191 (A2 rfl rfl)) (w_spec_l2Has S196.sl v107 s32 (h198.mono upI) (wr (-y31)) hr201) ?_
    rintro e w202 ⟨rfl, r203⟩
    refine ⟨_, rfl, ?_⟩
    have r203 := Run.lend i197 S182.sl r203
    have S204 := S182.call r203
    refine FL.nil ?_
    rcases ifB hp with ⟨c205, hp⟩ | ⟨c205, hp⟩
    ·
      refine FW.condT rfl c205 ?_
      refine FW.seq ?_
      refine FW.region ?_
      obtain ⟨v206, w207, run208, S209⟩ := S204.buildSlice (P := Tryz.prog) te61 [] (parts := #[]) (cells := []) rfl szs_nil fc_nil ones_nil (Nat.le_of_ble_eq_true rfl)
      have els210 : Els (up wa.heap.size H181) eI 1 [] [] := Els.nil
      refine FL.val rfl rfl rfl (E.buildSlice (B0) run208) ?_
      refine FL.val rfl rfl rfl (E.assign (v := v206) rfl) ?_
      refine FL.val rfl rfl rfl (E.assign (v := Value.bool false) rfl) ?_
      refine FL.nil ?_
      refine FW.ret ?_
      obtain rfl := Option.some.inj hp
      exact ⟨nofun, rfl, ⟨.inr rfl, res2 rfl rfl rfl ⟨_, _, _, _, rfl, (S209.sel [0] (by decide) rfl), els210⟩⟩⟩
    ·
      refine FW.condF rfl c205 ?_
      refine FW.skip ?_
      refine FW.seq ?_
      refine FW.region ?_
      refine FL.val rfl rfl rfl (E.move k188) ?_
      refine FL.val rfl rfl rfl (E.move k187) ?_
      refine FL.val rfl rfl rfl (E.move k186) ?_
      obtain ⟨p211, cs212, pt213, l214, at215, rel216⟩ := p1.at (ix_nat hx32)
      obtain rfl := eI_open rel216
      refine FL.val rfl rfl rfl (E.indexAddr te61 rfl rfl pt213) ?_
      refine FL.val rfl rfl rfl (E.load rfl (run_load0 Tryz.isAgg3 ((at215.mono (r26.run.inc.tr i183)).now S204.sl) rfl)) ?_
      obtain ⟨H217, S218, i219, h220, nv221⟩ := S204.sealRowU (i := 0) (l' := []) rfl els110 (by decide) rfl
      obtain ⟨r222, hr223, hp⟩ := bnd hp
      refine FL.call rfl rfl rfl (E.call Tryz.call191 (A2 rfl rfl)) (w_spec_l2Has S218.sl v107 s32 (h220.mono upI) y31 hr223) ?_
      rintro e w224 ⟨rfl, r225⟩
      refine ⟨_, rfl, ?_⟩
      have r225 := Run.lend i219 S204.sl r225
      have S226 := S204.call r225
      refine FL.val rfl rfl rfl (E.not rfl) ?_
      refine FL.nil ?_
      rcases ifB hp with ⟨c227, hp⟩ | ⟨c227, hp⟩
      ·
        refine FW.condT rfl c227 ?_
        refine FW.region ?_
        refine FL.val rfl rfl rfl (E.move k188) ?_
        refine FL.val rfl rfl rfl (E.move k187) ?_
        refine FL.val rfl rfl rfl (E.move k186) ?_
        obtain ⟨p228, cs229, pt230, l231, at232, rel233⟩ := p1.at (ix_nat hx32)
        obtain rfl := eI_open rel233
        refine FL.val rfl rfl rfl (E.indexAddr te61 rfl rfl pt230) ?_
        refine FL.val rfl rfl rfl (E.load rfl (run_load0 Tryz.isAgg3 ((at232.mono (r26.run.inc.tr i183)).now S226.sl) rfl)) ?_
        obtain ⟨H234, S235, i236, h237, nv238⟩ := S226.sealRowU (i := 0) (l' := []) rfl els110 (by decide) rfl
        obtain ⟨r239, hr240, hp⟩ := bnd hp
        refine FL.call rfl rfl rfl (E.call Tryz.call221 (A2 rfl rfl)) (w_spec_l2Put S235.sl v107 s32 (h237.mono upI) y31 hr240) ?_
        rintro e w242 ⟨H241, v247, n248, cs249, rfl, r244, els250⟩
        refine ⟨_, rfl, ?_⟩
        obtain ⟨H245, r244, hU246⟩ := St.lendX i236 S226.sl r244
        have els250 := els250.mono (hU246.tr (up_le S226.size))
        have S243 := S226.join (l' := [.row 3 1 v247 n248 cs249, .row 3 1 v107 n108 cs109]) r244 rfl
        refine FL.val rfl rfl rfl (E.assign (v := v247) rfl) ?_
        refine FL.nil ?_
        refine FW.region ?_
        refine FL.val rfl rfl rfl (E.move k186) ?_
        refine FL.val rfl rfl rfl (E.add rfl rfl) ?_
        refine FL.val rfl rfl rfl (E.assign (v := Value.int .i64 (wr (((i32 : Nat) : Int) + 1))) rfl) ?_
        refine FL.nil ?_
        obtain rfl := Option.some.inj hp
        exact ⟨rfl, ⟨_, _, _, _, (S243.sel [0] (by decide) rfl), (i183.tr r244.run.inc), els250, (nat_succ rfl (lt_of_get hx32) (p1.mono ((r26.run.inc.tr i183).tr r244.run.inc)).le), k187, rfl⟩⟩
      ·
        refine FW.condF rfl c227 ?_
        refine FW.skip ?_
        refine FW.region ?_
        refine FL.val rfl rfl rfl (E.move k186) ?_
        refine FL.val rfl rfl rfl (E.add rfl rfl) ?_
        refine FL.val rfl rfl rfl (E.assign (v := Value.int .i64 (wr (((i32 : Nat) : Int) + 1))) rfl) ?_
        refine FL.nil ?_
        obtain rfl := Option.some.inj hp
        exact ⟨rfl, ⟨_, _, _, _, S226, i183, els110, (nat_succ rfl (lt_of_get hx32) (p1.mono (r26.run.inc.tr i183)).le), k187, k188⟩⟩
  ·
    clear hp hq
    rintro s32 f262 w261 ⟨H258, v107, n108, cs109, S259, i260, els110, k263, k264, k265⟩
    refine FW.seq ?_
    refine FW.seq ?_
    refine FW.region ?_
    refine FL.val rfl rfl rfl (E.move k263) ?_
    refine FL.val rfl rfl rfl (E.move k264) ?_
    refine FL.val rfl rfl rfl (E.lenP te61 rfl p1) ?_
    refine FL.val rfl rfl rfl (E.lss rfl rfl) ?_
    refine FL.nil ?_
    refine FW.condF rfl dlt_len ?_
    refine FW.exit ?_
    exact ⟨nofun, rfl, ⟨_, _, _, _, S259, i260, els110, k265⟩⟩
  ·
    clear hq
    intro e f256 w255 hD
    rcases q32 with s32 | x32
    ·
      obtain ⟨rfl, hD⟩ := hD
      obtain ⟨H252, v107, n108, cs109, S253, i254, els110, k257⟩ := hD
      replace hp := el_go hp
      refine FW.seq ?_
      refine FW.region ?_
      refine FL.val rfl rfl rfl (E.move k257) ?_
      refine FL.val rfl rfl rfl (E.assign (v := v107) rfl) ?_
      refine FL.val rfl rfl rfl (E.assign (v := Value.bool true) rfl) ?_
      refine FL.nil ?_
      refine FW.ret ?_
      obtain rfl := Option.some.inj hp
      exact ⟨.inr rfl, res2 rfl rfl rfl ⟨_, _, _, _, rfl, S253, els110⟩⟩
    ·
      obtain ⟨he, hL⟩ := hD
      replace hp := el_rt hp
      obtain rfl := Option.some.inj hp
      subst he
      exact hL

@[reducible] def p_spec_l2Resolve (Ha : GH) (wa : World) (r : ((List Int) × Bool)) : Ending → World → Prop :=
  fun e w' => ∃ H' : GH, ∃ v0 : Value, ∃ n0 : Nat, ∃ c0 : List Value, e = .returned (Value.tuple #[v0, Value.bool r.2]) ∧ St Ha wa H' w' [.row 3 1 v0 n0 c0] ∧ Els (up wa.heap.size H') eI 1 c0 r.1
theorem w_spec_l2Resolve {Ha : GH} {wa : World} (hs : Sl Ha wa) (v0 : Value) (a0 : List Int) (p0 : RSl Ha eI 1 v0 a0) (v1 : Value) (a1 : List Int) (p1 : RSl Ha eI 1 v1 a1) (a2 : Int) {r : ((List Int) × Bool)} (hp : (PF.spec_l2Resolve a0 a1 a2) = some r) :
    Calls Tryz.prog 145 #[v0, v1, Value.int .i64 a2] wa (p_spec_l2Resolve Ha wa r) := by
  unfold PF.spec_l2Resolve at hp
  have S0 := St.init hs
  refine calls_go (N := 29) (args := [v0, v1, Value.int .i64 a2]) Tryz.func145 rfl rfl rfl ?_
  refine FW.seq ?_
  refine FW.region ?_
  refine FL.val rfl rfl rfl (E.assign (v := Value.slice none 0 0) rfl) ?_
  refine FL.val rfl rfl rfl (E.assign (v := Value.bool false) rfl) ?_
  refine FL.nil ?_
  refine FW.seq ?_
  refine FW.seq ?_
  refine FW.region ?_
  refine FL.val rfl rfl rfl (E.move (v := v0) rfl) ?_
  refine FL.val rfl rfl rfl (E.move (v := Value.int .i64 a2) rfl) ?_
  obtain ⟨r21, hr22, hp⟩ := bnd hp
  refine FL.call rfl rfl rfl (E.call Tryz.call191 (A2 rfl rfl)) (w_spec_l2Has S0.sl v0 a0 p0 a2 hr22) ?_
  rintro e w23 ⟨rfl, r24⟩
  refine ⟨_, rfl, ?_⟩
  have S25 := S0.call r24
  refine FL.val rfl rfl rfl (E.not rfl) ?_
  refine FL.val rfl rfl rfl (E.move (v := Value.bool (!r21)) rfl) ?_
  obtain ⟨t31, hqt31, hp⟩ := bnd hp
  refine FL.cut 6 (fun f w => ∃ H : GH, St Ha wa H w [] ∧ Inc Ha H ∧ f 0 = v0 ∧ f 1 = v1 ∧ f 2 = Value.int .i64 a2 ∧ f 18 = Value.bool t31) ?_ ?_
  ·
    clear hp; have hp := hqt31; clear hqt31
    rcases ifB hp with ⟨c37, hp⟩ | ⟨c37, hp⟩
    ·
      refine FL.skip (wF_no rfl rfl rfl c37) rfl ?_
      refine FL.skip (wF_no rfl rfl rfl c37) rfl ?_
      refine FL.skip (wF_no rfl rfl rfl c37) rfl ?_
      refine FL.skip (wF_no rfl rfl rfl c37) rfl ?_
      refine FL.skip (wF_no rfl rfl rfl c37) rfl ?_
      obtain rfl := Option.some.inj hp
      refine FL.val rfl rfl rfl (E.pickT rfl c37 rfl) ?_
      exact FL.nil ⟨rfl, _, S25, (Inc.rfl _), rfl, rfl, rfl, rfl⟩
    ·
      refine FL.val (wF_yes rfl rfl rfl c37) rfl rfl (E.move (v := v1) rfl) ?_
      refine FL.val (wF_yes rfl rfl rfl c37) rfl rfl (E.move (v := Value.int .i64 a2) rfl) ?_
      refine FL.val (wF_yes rfl rfl rfl c37) rfl rfl (E.neg rfl) ?_
      obtain ⟨r38, hr39, hp⟩ := bnd hp
      refine FL.call (wF_yes rfl rfl rfl c37) rfl rfl (E.call Tryz.call191 (A2 rfl rfl)) (w_spec_l2Has S25.sl v1 a1 p1 (wr (-a2)) hr39) ?_
      rintro e w40 ⟨rfl, r41⟩
      refine ⟨_, rfl, ?_⟩
      have S42 := S25.call r41
      refine FL.val (wF_yes rfl rfl rfl c37) rfl rfl (E.not rfl) ?_
      obtain rfl := Option.some.inj hp
      refine FL.val rfl rfl rfl (E.pickF rfl c37 rfl) ?_
      exact FL.nil ⟨rfl, _, S42, (Inc.rfl _), rfl, rfl, rfl, rfl⟩
  rintro f36 w35 ⟨H32, S33, i34, k43, k44, k45, k46⟩
  refine FL.nil ?_
  rcases ifB hp with ⟨c47, hp⟩ | ⟨c47, hp⟩
  ·
    refine FW.condT k46 c47 ?_
    refine FW.seq ?_
    refine FW.region ?_
    obtain ⟨v48, w49, run50, S51⟩ := S33.buildSlice (P := Tryz.prog) te61 [] (parts := #[]) (cells := []) rfl szs_nil fc_nil ones_nil (Nat.le_of_ble_eq_true rfl)
    have els52 : Els (up wa.heap.size H32) eI 1 [] [] := Els.nil
    refine FL.val rfl rfl rfl (E.buildSlice (B0) run50) ?_
    refine FL.val rfl rfl rfl (E.assign (v := v48) rfl) ?_
    refine FL.val rfl rfl rfl (E.assign (v := Value.bool false) rfl) ?_
    refine FL.nil ?_
    refine FW.ret ?_
    obtain rfl := Option.some.inj hp
    exact ⟨.inr rfl, res2 rfl rfl rfl ⟨_, _, _, _, rfl, S51, els52⟩⟩
  ·
    refine FW.condF k46 c47 ?_
    refine FW.skip ?_
    refine FW.seq ?_
    refine FW.region ?_
    refine FL.val rfl rfl rfl (E.move k43) ?_
    refine FL.val rfl rfl rfl (E.move k45) ?_
    obtain ⟨r53, hr54, hp⟩ := bnd hp
    refine FL.call rfl rfl rfl (E.call Tryz.call193 (A2 rfl rfl)) (w_spec_l2Without S33.sl v0 a0 (p0.mono i34) a2 hr54) ?_
    rintro e w56 ⟨H55, v59, n60, cs61, rfl, r58, els62⟩
    refine ⟨_, rfl, ?_⟩
    have els62 := els62.mono (up_le S33.size)
    have S57 := S33.join (l' := [.row 3 1 v59 n60 cs61]) r58 rfl
    refine FL.val rfl rfl rfl (E.move k44) ?_
    refine FL.val rfl rfl rfl (E.move k45) ?_
    obtain ⟨r63, hr64, hp⟩ := bnd hp
    refine FL.call rfl rfl rfl (E.call Tryz.call193 (A2 rfl rfl)) (w_spec_l2Without S57.sl v1 a1 (p1.mono (i34.tr r58.run.inc)) a2 hr64) ?_
    rintro e w66 ⟨H65, v69, n70, cs71, rfl, r68, els72⟩
    refine ⟨_, rfl, ?_⟩
    have els72 := els72.mono (up_le S57.size)
    have S67 := S57.join (l' := [.row 3 1 v69 n70 cs71, .row 3 1 v59 n60 cs61]) r68 rfl
    obtain ⟨H73, S74, i75, h76, nv77⟩ := S67.sealRowU (i := 1) (l' := [.row 3 1 v69 n70 cs71]) rfl (els62.mono (up_mono r68.run.inc)) (by decide) rfl
    obtain ⟨H78, S79, i80, h81, nv82⟩ := S74.sealRowU (i := 0) (l' := []) rfl (els72.mono (up_mono i75)) (by decide) rfl
    obtain ⟨r83, hr84, hp⟩ := bnd hp
    refine FL.call rfl rfl rfl (E.call Tryz.call192 (A2 rfl rfl)) (w_spec_l2Join S79.sl v59 r53 (h76.mono (upI.tr i80)) v69 r63 (h81.mono upI) hr84) ?_
    rintro e w86 ⟨H85, v91, n92, cs93, rfl, r88, els94⟩
    refine ⟨_, rfl, ?_⟩
    obtain ⟨H89, r88, hU90⟩ := St.lendX (i75.tr i80) S67.sl r88
    have els94 := els94.mono (hU90.tr (up_le S67.size))
    have S87 := S67.join (l' := [.row 3 1 v91 n92 cs93, .row 3 1 v69 n70 cs71, .row 3 1 v59 n60 cs61]) r88 rfl
    refine FL.val rfl rfl rfl (E.extract (i := 0) rfl rfl) ?_
    refine FL.val rfl rfl rfl (E.extract (i := 1) rfl rfl) ?_
    refine FL.val rfl rfl rfl (E.assign (v := v91) rfl) ?_
    refine FL.val rfl rfl rfl (E.assign (v := Value.bool r83.2) rfl) ?_
    refine FL.nil ?_
    refine FW.ret ?_
    obtain rfl := Option.some.inj hp
    exact ⟨.inr rfl, res2 rfl rfl rfl ⟨_, _, _, _, rfl, (S87.sel [0] (by decide) rfl), els94⟩⟩

theorem w_spec_l7Correct {Ha : GH} {wa : World} (hs : Sl Ha wa) (a0 : Cnf) (v0_1 : Value) (p0_1 : RSl Ha (eL eI 1) 1 v0_1 a0.clauses) (v1 : Value) (a1 : List ResStep) (p1 : RSl Ha eResStep 4 v1 a1) (a2 : Int) {r : Bool} (hp : (PF.spec_l7Correct a0 a1 a2) = some r) :
    Calls Tryz.prog 208 #[Value.agg #[Value.int .i64 a0.vars, v0_1], v1, Value.int .i64 a2] wa (Sc Ha wa (Value.bool r)) := by
  unfold PF.spec_l7Correct at hp
  have S0 := St.init hs
  refine calls_go (N := 110) (args := [Value.agg #[Value.int .i64 a0.vars, v0_1], v1, Value.int .i64 a2]) Tryz.func208 rfl rfl rfl ?_
  refine FW.seq ?_
  refine FW.region ?_
  obtain ⟨b21, w22, run23, S24⟩ := S0.box (P := Tryz.prog) 30 [Value.int .i64 a0.vars, v0_1] (v := Value.agg #[Value.int .i64 a0.vars, v0_1]) rfl (ones_cons rfl (ones_cons p0_1.one ones_nil))
  refine FL.val rfl rfl rfl (E.box rfl run23) ?_
  obtain ⟨H25, S26, i27, at28⟩ := S24.sealBox (i := 0) (l' := []) rfl rfl
  refine FL.val rfl rfl rfl (E.assign (v := Value.bool false) rfl) ?_
  refine FL.nil ?_
  refine FW.seq ?_
  refine FW.region ?_
  refine FL.val rfl rfl rfl (E.move (v := v1) rfl) ?_
  refine FL.val rfl rfl rfl (E.move (v := Value.int .i64 a2) rfl) ?_
  obtain ⟨x35, hx36, hp⟩ := bnd hp
  obtain ⟨p29, cs30, pt31, l32, at33, rel34⟩ := p1.at hx36
  obtain ⟨v37, rfl, h38⟩ := eResStep_open rel34
  refine FL.val rfl rfl rfl (E.indexAddr te41 rfl rfl pt31) ?_
  refine FL.val rfl rfl rfl (E.load rfl (run_loadA Tryz.isAgg103 Tryz.sizeOf103 ((at33.mono i27).now S26.sl) rfl)) ?_
  obtain ⟨b39, w40, run41, S42⟩ := S26.alloc (P := Tryz.prog) 103 [Value.slice none 0 0, Value.int .i64 0, Value.int .i64 0, Value.int .i64 0] Tryz.zeroValue103 rfl (ones_cons rfl (ones_cons rfl (ones_cons rfl (ones_cons rfl ones_nil))))
  refine FL.val rfl rfl rfl (E.alloc run41) ?_
  obtain ⟨w43, run44, S45⟩ := S42.store0 (P := Tryz.prog) (t := 103) (i := 0) (cs' := [v37, Value.int .i64 x35.left, Value.int .i64 x35.right, Value.int .i64 x35.pivot]) (l' := [.box b39 103 [v37, Value.int .i64 x35.left, Value.int .i64 x35.right, Value.int .i64 x35.pivot]]) (v := Value.agg #[v37, Value.int .i64 x35.left, Value.int .i64 x35.right, Value.int .i64 x35.pivot]) (c := [v37, Value.int .i64 x35.left, Value.int .i64 x35.right, Value.int .i64 x35.pivot]) rfl Tryz.sizeOf103 rfl rfl (ones_cons h38.one (ones_cons rfl (ones_cons rfl (ones_cons rfl ones_nil)))) (Nat.le_of_ble_eq_true rfl) rfl rfl
  refine FL.act rfl rfl (E.store rfl rfl run44) ?_
  obtain ⟨H46, S47, i48, at49⟩ := S45.sealBox (i := 0) (l' := []) rfl rfl
  refine FL.nil ?_
  refine FW.seq ?_
  refine FW.seq ?_
  refine FW.region ?_
  refine FL.val rfl rfl rfl (E.fieldAddr tf30_0 rfl) ?_
  refine FL.val rfl rfl rfl (E.load rfl (run_load1 Tryz.isAgg3 ((at28.mono i48).now S47.sl) rfl)) ?_
  refine FL.val rfl rfl rfl (E.fieldAddr tf103_0 rfl) ?_
  refine FL.val rfl rfl rfl (E.load rfl (run_load1 Tryz.isAgg61 (at49.now S47.sl) rfl)) ?_
  obtain ⟨r50, hr51, hp⟩ := bnd hp
  refine FL.call rfl rfl rfl (E.call Tryz.call133 (A2 rfl rfl)) (w_spec_l2Clause S47.sl a0.vars v37 x35.clause (h38.mono (i27.tr i48)) hr51) ?_
  rintro e w52 ⟨rfl, r53⟩
  refine ⟨_, rfl, ?_⟩
  have S54 := S47.call r53
  refine FL.val rfl rfl rfl (E.not rfl) ?_
  refine FL.nil ?_
  rcases ifB hp with ⟨c55, hp⟩ | ⟨c55, hp⟩
  ·
    refine FW.condT rfl c55 ?_
    refine FW.seq ?_
    refine FW.region ?_
    refine FL.val rfl rfl rfl (E.assign (v := Value.bool false) rfl) ?_
    refine FL.nil ?_
    refine FW.ret ?_
    obtain rfl := Option.some.inj hp
    exact ⟨.inr rfl, res1 rfl rfl ⟨rfl, S54.back⟩⟩
  ·
    refine FW.condF rfl c55 ?_
    refine FW.skip ?_
    refine FW.seq ?_
    refine FW.seq ?_
    refine FW.region ?_
    refine FL.val rfl rfl rfl (E.fieldAddr tf103_1 rfl) ?_
    refine FL.val rfl rfl rfl (E.load rfl (run_load1 Tryz.isAgg3 (at49.now S54.sl) rfl)) ?_
    refine FL.val rfl rfl rfl (E.eql rfl rfl) ?_
    refine FL.nil ?_
    rcases ifB hp with ⟨c56, hp⟩ | ⟨c56, hp⟩
    ·
      refine FW.condT rfl c56 ?_
      refine FW.seq ?_
      refine FW.draw (fun w' => Run w52.heap.size H46 w52 H46 w') (by kernel_rfl) (by kernel_rfl) (run_drew S54.sl) ?_
      refine FD.val rfl rfl rfl (fun w' hw' => (E.fieldAddr tf103_3 rfl)) ?_
      refine FD.val rfl rfl rfl (fun w' hw' => (E.load rfl (run_load1 Tryz.isAgg3 (at49.now (S54.call hw').sl) rfl))) ?_
      refine FD.val rfl rfl rfl (fun w' hw' => (E.eql rfl rfl)) ?_
      refine FD.val rfl rfl rfl (fun w' hw' => (E.move (v := Value.bool (x35.pivot == 0)) rfl)) ?_
      refine FD.cut 8 (fun f => f 3 = Value.pointer (some ⟨b21, 0, none⟩) ∧ f 7 = Value.pointer (some ⟨b39, 0, none⟩) ∧ f 34 = Value.bool (bif (x35.pivot == 0) then (PF.spec_l1In x35.right 0 (wr ((len a0.clauses) - 1))) else false)) ?_ ?_
      ·
        rcases bcase (x35.pivot == 0) with c64 | c64
        ·
          refine FD.val (wF_yes rfl rfl rfl c64) rfl rfl (fun w' hw' => (E.fieldAddr tf103_2 rfl)) ?_
          refine FD.val (wF_yes rfl rfl rfl c64) rfl rfl (fun w' hw' => (E.load rfl (run_load1 Tryz.isAgg3 (at49.now (S54.call hw').sl) rfl))) ?_
          refine FD.val (wF_yes rfl rfl rfl c64) rfl rfl (fun w' hw' => (E.fieldAddr tf30_1 rfl)) ?_
          refine FD.val (wF_yes rfl rfl rfl c64) rfl rfl (fun w' hw' => (E.load rfl (run_load1 Tryz.isAgg22 ((at28.mono i48).now (S54.call hw').sl) rfl))) ?_
          refine FD.val (wF_yes rfl rfl rfl c64) rfl rfl (fun w' hw' => (E.lenP te22 rfl p0_1)) ?_
          refine FD.val (wF_yes rfl rfl rfl c64) rfl rfl (fun w' hw' => (E.sub rfl rfl)) ?_
          refine FD.call (wF_yes rfl rfl rfl c64) rfl rfl (fun w' hw' => (E.call Tryz.call143 (A3 rfl rfl rfl))) (fun w' hw' => Calls.cls hw' (w_spec_l1In (S54.call hw').sl x35.right 0 (wr ((len a0.clauses) - 1)))) ?_
          refine FD.val rfl rfl rfl (fun w' hw' => (E.pickT rfl c64 rfl)) ?_
          exact FD.nil ⟨rfl, rfl, (congrArg Value.bool (bifT c64).symm)⟩
        ·
          refine FD.skip (wF_no rfl rfl rfl c64) rfl ?_
          refine FD.skip (wF_no rfl rfl rfl c64) rfl ?_
          refine FD.skip (wF_no rfl rfl rfl c64) rfl ?_
          refine FD.skip (wF_no rfl rfl rfl c64) rfl ?_
          refine FD.skip (wF_no rfl rfl rfl c64) rfl ?_
          refine FD.skip (wF_no rfl rfl rfl c64) rfl ?_
          refine FD.skip (wF_no rfl rfl rfl c64) rfl ?_
          refine FD.val rfl rfl rfl (fun w' hw' => (E.pickF rfl c64 rfl)) ?_
          exact FD.nil ⟨rfl, rfl, (congrArg Value.bool (bifF c64).symm)⟩
      rintro f63 ⟨k65, k66, k67⟩
      refine FD.val rfl rfl rfl (fun w' hw' => (E.move k67)) ?_
      obtain ⟨t80, hqt80, hp⟩ := bnd hp
      refine FD.cut 10 (fun f => f 45 = Value.bool t80) ?_ ?_
      ·
        clear hp; have hp := hqt80; clear hqt80
        rcases ifB hp with ⟨c86, hp⟩ | ⟨c86, hp⟩
        ·
          refine FD.val (wF_yes rfl rfl rfl c86) rfl rfl (fun w' hw' => (E.fieldAddr tf30_1 k65)) ?_
          refine FD.val (wF_yes rfl rfl rfl c86) rfl rfl (fun w' hw' => (E.load rfl (run_load1 Tryz.isAgg22 ((at28.mono i48).now (S54.call hw').sl) rfl))) ?_
          refine FD.val (wF_yes rfl rfl rfl c86) rfl rfl (fun w' hw' => (E.fieldAddr tf103_2 k66)) ?_
          refine FD.val (wF_yes rfl rfl rfl c86) rfl rfl (fun w' hw' => (E.load rfl (run_load1 Tryz.isAgg3 (at49.now (S54.call hw').sl) rfl))) ?_
          obtain ⟨x93, hx94, hp⟩ := bnd hp
          obtain ⟨p87, cs88, pt89, l90, at91, rel92⟩ := p0_1.at hx94
          obtain ⟨v95, rfl, h96⟩ := eL_open rel92
          refine FD.val (wF_yes rfl rfl rfl c86) rfl rfl (fun w' hw' => (E.indexAddr te22 rfl rfl pt89)) ?_
          refine FD.val (wF_yes rfl rfl rfl c86) rfl rfl (fun w' hw' => (E.load rfl (run_load0 Tryz.isAgg61 ((at91.mono (i27.tr i48)).now (S54.call hw').sl) rfl))) ?_
          refine FD.val (wF_yes rfl rfl rfl c86) rfl rfl (fun w' hw' => (E.fieldAddr tf103_0 k66)) ?_
          refine FD.val (wF_yes rfl rfl rfl c86) rfl rfl (fun w' hw' => (E.load rfl (run_load1 Tryz.isAgg61 (at49.now (S54.call hw').sl) rfl))) ?_
          obtain ⟨r97, hr98, hp⟩ := bnd hp
          refine FD.call (wF_yes rfl rfl rfl c86) rfl rfl (fun w' hw' => (E.call Tryz.call146 (A2 rfl rfl))) (fun w' hw' => Calls.cls hw' (w_spec_l1Same (S54.call hw').sl v95 x93 (h96.mono (i27.tr i48)) v37 x35.clause (h38.mono (i27.tr i48)) hr98)) ?_
          obtain rfl := Option.some.inj hp
          refine FD.val rfl rfl rfl (fun w' hw' => (E.pickT rfl c86 rfl)) ?_
          exact FD.nil rfl
        ·
          refine FD.skip (wF_no rfl rfl rfl c86) rfl ?_
          refine FD.skip (wF_no rfl rfl rfl c86) rfl ?_
          refine FD.skip (wF_no rfl rfl rfl c86) rfl ?_
          refine FD.skip (wF_no rfl rfl rfl c86) rfl ?_
          refine FD.skip (wF_no rfl rfl rfl c86) rfl ?_
          refine FD.skip (wF_no rfl rfl rfl c86) rfl ?_
          refine FD.skip (wF_no rfl rfl rfl c86) rfl ?_
          refine FD.skip (wF_no rfl rfl rfl c86) rfl ?_
          refine FD.skip (wF_no rfl rfl rfl c86) rfl ?_
          obtain rfl := Option.some.inj hp
          refine FD.val rfl rfl rfl (fun w' hw' => (E.pickF rfl c86 rfl)) ?_
          exact FD.nil rfl
      intro f85 k99
      refine FD.val rfl rfl rfl (fun w' hw' => (E.assign k99)) ?_
      refine FD.nil ?_
      intro w100 r102
      have S101 := S54.call r102
      refine FW.ret ?_
      obtain rfl := Option.some.inj hp
      exact ⟨.inr rfl, res1 rfl rfl ⟨rfl, S101.back⟩⟩
    ·
      refine FW.condF rfl c56 ?_
      refine FW.skip ?_
      refine FW.seq ?_
      refine FW.seq ?_
      refine FW.region ?_
      refine FL.val rfl rfl rfl (E.load rfl (run_loadA Tryz.isAgg30 Tryz.sizeOf30 ((at28.mono i48).now S54.sl) rfl)) ?_
      refine FL.val rfl rfl rfl (E.move (v := v1) rfl) ?_
      refine FL.val rfl rfl rfl (E.move (v := Value.int .i64 a2) rfl) ?_
      refine FL.val rfl rfl rfl (E.fieldAddr tf103_1 rfl) ?_
      refine FL.val rfl rfl rfl (E.load rfl (run_load1 Tryz.isAgg3 (at49.now S54.sl) rfl)) ?_
      obtain ⟨r103, hr104, hp⟩ := bnd hp
      refine FL.call rfl rfl rfl (E.call Tryz.call231 (A4 rfl rfl rfl rfl)) (w_spec_l7Clause S54.sl a0 v0_1 (p0_1.mono (i27.tr i48)) v1 a1 (p1.mono (i27.tr i48)) a2 x35.left hr104) ?_
      rintro e w105 ⟨rfl, r106⟩
      refine ⟨_, rfl, ?_⟩
      have S107 := S54.call r106
      refine FL.val rfl rfl rfl (E.not rfl) ?_
      refine FL.nil ?_
      rcases ifB hp with ⟨c108, hp⟩ | ⟨c108, hp⟩
      ·
        refine FW.condT rfl c108 ?_
        refine FW.seq ?_
        refine FW.region ?_
        refine FL.val rfl rfl rfl (E.assign (v := Value.bool false) rfl) ?_
        refine FL.nil ?_
        refine FW.ret ?_
        obtain rfl := Option.some.inj hp
        exact ⟨.inr rfl, res1 rfl rfl ⟨rfl, S107.back⟩⟩
      ·
        refine FW.condF rfl c108 ?_
        refine FW.skip ?_
        refine FW.seq ?_
        refine FW.seq ?_
        refine FW.region ?_
        refine FL.val rfl rfl rfl (E.fieldAddr tf103_2 rfl) ?_
        refine FL.val rfl rfl rfl (E.load rfl (run_load1 Tryz.isAgg3 (at49.now S107.sl) rfl)) ?_
        refine FL.val rfl rfl rfl (E.eql rfl rfl) ?_
        refine FL.nil ?_
        rcases ifB hp with ⟨c109, hp⟩ | ⟨c109, hp⟩
        ·
          refine FW.condT rfl c109 ?_
          refine FW.seq ?_
          refine FW.draw (fun w' => Run w105.heap.size H46 w105 H46 w') (by kernel_rfl) (by kernel_rfl) (run_drew S107.sl) ?_
          refine FD.val rfl rfl rfl (fun w' hw' => (E.fieldAddr tf103_3 rfl)) ?_
          refine FD.val rfl rfl rfl (fun w' hw' => (E.load rfl (run_load1 Tryz.isAgg3 (at49.now (S107.call hw').sl) rfl))) ?_
          refine FD.val rfl rfl rfl (fun w' hw' => (E.eql rfl rfl)) ?_
          refine FD.val rfl rfl rfl (fun w' hw' => (E.move (v := Value.bool (x35.pivot == 0)) rfl)) ?_
          obtain ⟨t123, hqt123, hp⟩ := bnd hp
          refine FD.cut 10 (fun f => f 69 = Value.bool t123) ?_ ?_
          ·
            clear hp; have hp := hqt123; clear hqt123
            rcases ifB hp with ⟨c129, hp⟩ | ⟨c129, hp⟩
            ·
              refine FD.val (wF_yes rfl rfl rfl c129) rfl rfl (fun w' hw' => (E.move (v := v1) rfl)) ?_
              refine FD.val (wF_yes rfl rfl rfl c129) rfl rfl (fun w' hw' => (E.fieldAddr tf103_1 rfl)) ?_
              refine FD.val (wF_yes rfl rfl rfl c129) rfl rfl (fun w' hw' => (E.load rfl (run_load1 Tryz.isAgg3 (at49.now (S107.call hw').sl) rfl))) ?_
              obtain ⟨x136, hx137, hp⟩ := bnd hp
              obtain ⟨p130, cs131, pt132, l133, at134, rel135⟩ := p1.at hx137
              obtain ⟨v138, rfl, h139⟩ := eResStep_open rel135
              refine FD.val (wF_yes rfl rfl rfl c129) rfl rfl (fun w' hw' => (E.indexAddr te41 rfl rfl pt132)) ?_
              refine FD.val (wF_yes rfl rfl rfl c129) rfl rfl (fun w' hw' => (E.fieldAddr tf103_0 rfl)) ?_
              refine FD.val (wF_yes rfl rfl rfl c129) rfl rfl (fun w' hw' => (E.load rfl (run_load1 Tryz.isAgg61 ((at134.mono (i27.tr i48)).now (S107.call hw').sl) rfl))) ?_
              refine FD.val (wF_yes rfl rfl rfl c129) rfl rfl (fun w' hw' => (E.fieldAddr tf103_0 rfl)) ?_
              refine FD.val (wF_yes rfl rfl rfl c129) rfl rfl (fun w' hw' => (E.load rfl (run_load1 Tryz.isAgg61 (at49.now (S107.call hw').sl) rfl))) ?_
              obtain ⟨r140, hr141, hp⟩ := bnd hp
              refine FD.call (wF_yes rfl rfl rfl c129) rfl rfl (fun w' hw' => (E.call Tryz.call232 (A2 rfl rfl))) (fun w' hw' => Calls.cls hw' (w_spec_l2Sub (S107.call hw').sl v138 x136.clause (h139.mono (i27.tr i48)) v37 x35.clause (h38.mono (i27.tr i48)) hr141)) ?_
              obtain rfl := Option.some.inj hp
              refine FD.val rfl rfl rfl (fun w' hw' => (E.pickT rfl c129 rfl)) ?_
              exact FD.nil rfl
            ·
              refine FD.skip (wF_no rfl rfl rfl c129) rfl ?_
              refine FD.skip (wF_no rfl rfl rfl c129) rfl ?_
              refine FD.skip (wF_no rfl rfl rfl c129) rfl ?_
              refine FD.skip (wF_no rfl rfl rfl c129) rfl ?_
              refine FD.skip (wF_no rfl rfl rfl c129) rfl ?_
              refine FD.skip (wF_no rfl rfl rfl c129) rfl ?_
              refine FD.skip (wF_no rfl rfl rfl c129) rfl ?_
              refine FD.skip (wF_no rfl rfl rfl c129) rfl ?_
              refine FD.skip (wF_no rfl rfl rfl c129) rfl ?_
              obtain rfl := Option.some.inj hp
              refine FD.val rfl rfl rfl (fun w' hw' => (E.pickF rfl c129 rfl)) ?_
              exact FD.nil rfl
          intro f128 k142
          refine FD.val rfl rfl rfl (fun w' hw' => (E.assign k142)) ?_
          refine FD.nil ?_
          intro w143 r145
          have S144 := S107.call r145
          refine FW.ret ?_
          obtain rfl := Option.some.inj hp
          exact ⟨.inr rfl, res1 rfl rfl ⟨rfl, S144.back⟩⟩
        ·
          refine FW.condF rfl c109 ?_
          refine FW.skip ?_
          refine FW.seq ?_
          refine FW.seq ?_
          refine FW.region ?_
          refine FL.val rfl rfl rfl (E.load rfl (run_loadA Tryz.isAgg30 Tryz.sizeOf30 ((at28.mono i48).now S107.sl) rfl)) ?_
          refine FL.val rfl rfl rfl (E.move (v := v1) rfl) ?_
          refine FL.val rfl rfl rfl (E.move (v := Value.int .i64 a2) rfl) ?_
          refine FL.val rfl rfl rfl (E.fieldAddr tf103_2 rfl) ?_
          refine FL.val rfl rfl rfl (E.load rfl (run_load1 Tryz.isAgg3 (at49.now S107.sl) rfl)) ?_
          obtain ⟨r146, hr147, hp⟩ := bnd hp
          refine FL.call rfl rfl rfl (E.call Tryz.call231 (A4 rfl rfl rfl rfl)) (w_spec_l7Clause S107.sl a0 v0_1 (p0_1.mono (i27.tr i48)) v1 a1 (p1.mono (i27.tr i48)) a2 x35.right hr147) ?_
          rintro e w148 ⟨rfl, r149⟩
          refine ⟨_, rfl, ?_⟩
          have S150 := S107.call r149
          refine FL.val rfl rfl rfl (E.not rfl) ?_
          refine FL.val rfl rfl rfl (E.move (v := Value.bool (!r146)) rfl) ?_
          refine FL.cut 7 (fun f w => ∃ H : GH, St Ha wa H w [] ∧ Inc H46 H ∧ f 1 = v1 ∧ f 7 = Value.pointer (some ⟨b39, 0, none⟩) ∧ f 84 = Value.bool (bif (!r146) then true else (!(PF.spec_l1In x35.pivot 1 a0.vars)))) ?_ ?_
          ·
            rcases bcase (!r146) with c160 | c160
            ·
              refine FL.skip (wF_no rfl rfl rfl c160) rfl ?_
              refine FL.skip (wF_no rfl rfl rfl c160) rfl ?_
              refine FL.skip (wF_no rfl rfl rfl c160) rfl ?_
              refine FL.skip (wF_no rfl rfl rfl c160) rfl ?_
              refine FL.skip (wF_no rfl rfl rfl c160) rfl ?_
              refine FL.skip (wF_no rfl rfl rfl c160) rfl ?_
              refine FL.val rfl rfl rfl (E.pickT rfl c160 rfl) ?_
              exact FL.nil ⟨rfl, _, S150, (Inc.rfl _), rfl, rfl, (congrArg Value.bool (bifT c160).symm)⟩
            ·
              refine FL.val (wF_yes rfl rfl rfl c160) rfl rfl (E.fieldAddr tf103_3 rfl) ?_
              refine FL.val (wF_yes rfl rfl rfl c160) rfl rfl (E.load rfl (run_load1 Tryz.isAgg3 (at49.now S150.sl) rfl)) ?_
              refine FL.val (wF_yes rfl rfl rfl c160) rfl rfl (E.fieldAddr tf30_0 rfl) ?_
              refine FL.val (wF_yes rfl rfl rfl c160) rfl rfl (E.load rfl (run_load1 Tryz.isAgg3 ((at28.mono i48).now S150.sl) rfl)) ?_
              refine FL.call (wF_yes rfl rfl rfl c160) rfl rfl (E.call Tryz.call143 (A3 rfl rfl rfl)) (w_spec_l1In S150.sl x35.pivot 1 a0.vars) ?_
              rintro e w161 ⟨rfl, r162⟩
              refine ⟨_, rfl, ?_⟩
              have S163 := S150.call r162
              refine FL.val (wF_yes rfl rfl rfl c160) rfl rfl (E.not rfl) ?_
              refine FL.val rfl rfl rfl (E.pickF rfl c160 rfl) ?_
              exact FL.nil ⟨rfl, _, S163, (Inc.rfl _), rfl, rfl, (congrArg Value.bool (bifF c160).symm)⟩
          rintro f159 w158 ⟨H155, S156, i157, k164, k165, k166⟩
          refine FL.nil ?_
          rcases ifB hp with ⟨c167, hp⟩ | ⟨c167, hp⟩
          ·
            refine FW.condT k166 c167 ?_
            refine FW.seq ?_
            refine FW.region ?_
            refine FL.val rfl rfl rfl (E.assign (v := Value.bool false) rfl) ?_
            refine FL.nil ?_
            refine FW.ret ?_
            obtain rfl := Option.some.inj hp
            exact ⟨.inr rfl, res1 rfl rfl ⟨rfl, S156.back⟩⟩
          ·
            refine FW.condF k166 c167 ?_
            refine FW.skip ?_
            refine FW.seq ?_
            obtain ⟨x1774, hx1775, hp⟩ := bnd hp
            obtain ⟨x4174, hx4175, hp⟩ := bnd hp
            obtain ⟨r6168, hr6169, hp⟩ := bnd hp
            refine FW.drawA (Sl H155) (fun f w => ∃ H : GH, ∃ v8968 : Value, ∃ n8969 : Nat, ∃ cs8970 : List Value, St Ha wa H w [.row 3 1 v8968 n8969 cs8970] ∧ Inc H155 H ∧ Els (up wa.heap.size H) eI 1 cs8970 r6168.1 ∧ f 7 = Value.pointer (some ⟨b39, 0, none⟩) ∧ f 8 = v8968 ∧ f 9 = Value.bool r6168.2) (by kernel_rfl) S156.sl ?_ ?_
            ·
              intro w168 r169
              have S170 := S156.call r169
              refine FA.take (i := 0) (l' := #[true, false, false, false, false, false, false, false, false, false, false, false, false, false, false, false, false, false, false, false]) rfl (by kernel_rfl) (by kernel_rfl) (by kernel_rfl) (by kernel_rfl) S170.sl rfl rfl rfl (fun w' hw' => (E.move k164)) ?_
              refine FA.take (i := 1) (l' := #[true, true, false, false, false, false, false, false, false, false, false, false, false, false, false, false, false, false, false, false]) rfl (by kernel_rfl) (by kernel_rfl) (by kernel_rfl) (by kernel_rfl) S170.sl rfl rfl rfl (fun w' hw' => (E.fieldAddr tf103_1 k165)) ?_
              refine FA.take (i := 2) (l' := #[true, true, true, false, false, false, false, false, false, false, false, false, false, false, false, false, false, false, false, false]) rfl (by kernel_rfl) (by kernel_rfl) (by kernel_rfl) (by kernel_rfl) S170.sl rfl rfl rfl (fun w' hw' => (E.load rfl (run_load1 Tryz.isAgg3 ((at49.mono i157).now hw') rfl))) ?_
              obtain ⟨p1768, cs1769, pt1770, l1771, at1772, rel1773⟩ := p1.at hx1775
              obtain ⟨v1776, rfl, h1777⟩ := eResStep_open rel1773
              refine FA.take (i := 3) (l' := #[true, true, true, true, false, false, false, false, false, false, false, false, false, false, false, false, false, false, false, false]) rfl (by kernel_rfl) (by kernel_rfl) (by kernel_rfl) (by kernel_rfl) S170.sl rfl rfl rfl (fun w' hw' => (E.indexAddr te41 rfl rfl pt1770)) ?_
              refine FA.take (i := 4) (l' := #[true, true, true, true, true, false, false, false, false, false, false, false, false, false, false, false, false, false, false, false]) rfl (by kernel_rfl) (by kernel_rfl) (by kernel_rfl) (by kernel_rfl) S170.sl rfl rfl rfl (fun w' hw' => (E.fieldAddr tf103_0 rfl)) ?_
              refine FA.take (i := 5) (l' := #[true, true, true, true, true, true, false, false, false, false, false, false, false, false, false, false, false, false, false, false]) rfl (by kernel_rfl) (by kernel_rfl) (by kernel_rfl) (by kernel_rfl) S170.sl rfl rfl rfl (fun w' hw' => (E.load rfl (run_load1 Tryz.isAgg61 ((at1772.mono ((i27.tr i48).tr i157)).now hw') rfl))) ?_
              refine FA.take (i := 6) (l' := #[true, true, true, true, true, true, true, false, false, false, false, false, false, false, false, false, false, false, false, false]) rfl (by kernel_rfl) (by kernel_rfl) (by kernel_rfl) (by kernel_rfl) S170.sl rfl rfl rfl (fun w' hw' => (E.move k164)) ?_
              refine FA.take (i := 7) (l' := #[true, true, true, true, true, true, true, true, false, false, false, false, false, false, false, false, false, false, false, false]) rfl (by kernel_rfl) (by kernel_rfl) (by kernel_rfl) (by kernel_rfl) S170.sl rfl rfl rfl (fun w' hw' => (E.fieldAddr tf103_2 k165)) ?_
              refine FA.take (i := 8) (l' := #[true, true, true, true, true, true, true, true, true, false, false, false, false, false, false, false, false, false, false, false]) rfl (by kernel_rfl) (by kernel_rfl) (by kernel_rfl) (by kernel_rfl) S170.sl rfl rfl rfl (fun w' hw' => (E.load rfl (run_load1 Tryz.isAgg3 ((at49.mono i157).now hw') rfl))) ?_
              obtain ⟨p4168, cs4169, pt4170, l4171, at4172, rel4173⟩ := p1.at hx4175
              obtain ⟨v4176, rfl, h4177⟩ := eResStep_open rel4173
              refine FA.take (i := 9) (l' := #[true, true, true, true, true, true, true, true, true, true, false, false, false, false, false, false, false, false, false, false]) rfl (by kernel_rfl) (by kernel_rfl) (by kernel_rfl) (by kernel_rfl) S170.sl rfl rfl rfl (fun w' hw' => (E.indexAddr te41 rfl rfl pt4170)) ?_
              refine FA.take (i := 10) (l' := #[true, true, true, true, true, true, true, true, true, true, true, false, false, false, false, false, false, false, false, false]) rfl (by kernel_rfl) (by kernel_rfl) (by kernel_rfl) (by kernel_rfl) S170.sl rfl rfl rfl (fun w' hw' => (E.fieldAddr tf103_0 rfl)) ?_
              refine FA.take (i := 11) (l' := #[true, true, true, true, true, true, true, true, true, true, true, true, false, false, false, false, false, false, false, false]) rfl (by kernel_rfl) (by kernel_rfl) (by kernel_rfl) (by kernel_rfl) S170.sl rfl rfl rfl (fun w' hw' => (E.load rfl (run_load1 Tryz.isAgg61 ((at4172.mono ((i27.tr i48).tr i157)).now hw') rfl))) ?_
              refine FA.take (i := 12) (l' := #[true, true, true, true, true, true, true, true, true, true, true, true, true, false, false, false, false, false, false, false]) rfl (by kernel_rfl) (by kernel_rfl) (by kernel_rfl) (by kernel_rfl) S170.sl rfl rfl rfl (fun w' hw' => (E.fieldAddr tf103_3 k165)) ?_
              refine FA.take (i := 13) (l' := #[true, true, true, true, true, true, true, true, true, true, true, true, true, true, false, false, false, false, false, false]) rfl (by kernel_rfl) (by kernel_rfl) (by kernel_rfl) (by kernel_rfl) S170.sl rfl rfl rfl (fun w' hw' => (E.load rfl (run_load1 Tryz.isAgg3 ((at49.mono i157).now hw') rfl))) ?_
              refine FA.all1 (i := 14) (by kernel_rfl) ?_
              ·
                refine FO.call (l' := #[true, true, true, true, true, true, true, true, true, true, true, true, true, true, true, false, false, false, false, false]) rfl (by kernel_rfl) rfl rfl rfl (E.call Tryz.call145 (A3 rfl rfl rfl)) (w_spec_l2Resolve S170.sl v1776 x1774.clause (h1777.mono ((i27.tr i48).tr i157)) v4176 x4174.clause (h4177.mono ((i27.tr i48).tr i157)) x35.pivot hr6169) ?_
                rintro e w6171 ⟨H6170, v6174, n6175, cs6176, rfl, r6173, els6177⟩
                refine ⟨_, rfl, ?_⟩
                have els6177 := els6177.mono (up_le S170.size)
                have S6172 := S170.join (l' := [.row 3 1 v6174 n6175 cs6176]) r6173 rfl
                refine ⟨(Sl.of_inc r6173.run.inc S6172.sl), ?_⟩
                refine FA.take (i := 15) (l' := #[true, true, true, true, true, true, true, true, true, true, true, true, true, true, true, true, false, false, false, false]) rfl (by kernel_rfl) (by kernel_rfl) (by kernel_rfl) (by kernel_rfl) (Sl.of_inc r6173.run.inc S6172.sl) rfl rfl rfl (fun w' hw' => (E.move (v := Value.tuple #[v6174, Value.bool r6168.2]) rfl)) ?_
                refine FA.take (i := 16) (l' := #[true, true, true, true, true, true, true, true, true, true, true, true, true, true, true, true, true, false, false, false]) rfl (by kernel_rfl) (by kernel_rfl) (by kernel_rfl) (by kernel_rfl) (Sl.of_inc r6173.run.inc S6172.sl) rfl rfl rfl (fun w' hw' => (E.extract (i := 0) rfl rfl)) ?_
                refine FA.take (i := 17) (l' := #[true, true, true, true, true, true, true, true, true, true, true, true, true, true, true, true, true, true, false, false]) rfl (by kernel_rfl) (by kernel_rfl) (by kernel_rfl) (by kernel_rfl) (Sl.of_inc r6173.run.inc S6172.sl) rfl rfl rfl (fun w' hw' => (E.extract (i := 1) rfl rfl)) ?_
                refine FA.take (i := 18) (l' := #[true, true, true, true, true, true, true, true, true, true, true, true, true, true, true, true, true, true, true, false]) rfl (by kernel_rfl) (by kernel_rfl) (by kernel_rfl) (by kernel_rfl) (Sl.of_inc r6173.run.inc S6172.sl) rfl rfl rfl (fun w' hw' => (E.assign (v := v6174) rfl)) ?_
                refine FA.take (i := 19) (l' := #[true, true, true, true, true, true, true, true, true, true, true, true, true, true, true, true, true, true, true, true]) rfl (by kernel_rfl) (by kernel_rfl) (by kernel_rfl) (by kernel_rfl) (Sl.of_inc r6173.run.inc S6172.sl) rfl rfl rfl (fun w' hw' => (E.assign (v := Value.bool r6168.2) rfl)) ?_
                exact FA.done (by kernel_rfl) ⟨_, _, _, _, S6172, r6173.run.inc, els6177, k165, rfl, rfl⟩
            ·
              rintro f8977 w8976 ⟨H8973, v8968, n8969, cs8970, S8974, i8975, els8971, k8978, k8979, k8980⟩
              refine FW.seq ?_
              refine FW.region ?_
              refine FL.val rfl rfl rfl (E.move k8980) ?_
              refine FL.val rfl rfl rfl (E.move (v := Value.bool r6168.2) rfl) ?_
              obtain ⟨t8991, hqt8991, hp⟩ := bnd hp
              refine FL.cut 5 (fun f w => ∃ H : GH, St Ha wa H w [.row 3 1 v8968 n8969 cs8970] ∧ Inc H8973 H ∧ f 109 = Value.bool t8991) ?_ ?_
              ·
                clear hp; have hp := hqt8991; clear hqt8991
                rcases ifB hp with ⟨c8997, hp⟩ | ⟨c8997, hp⟩
                ·
                  refine FL.val (wF_yes rfl rfl rfl c8997) rfl rfl (E.move k8979) ?_
                  refine FL.val (wF_yes rfl rfl rfl c8997) rfl rfl (E.fieldAddr tf103_0 k8978) ?_
                  refine FL.val (wF_yes rfl rfl rfl c8997) rfl rfl (E.load rfl (run_load1 Tryz.isAgg61 ((at49.mono (i157.tr i8975)).now S8974.sl) rfl)) ?_
                  obtain ⟨H8998, S8999, i9000, h9001, nv9002⟩ := S8974.sealRowU (i := 0) (l' := []) rfl els8971 (by decide) rfl
                  obtain ⟨r9003, hr9004, hp⟩ := bnd hp
                  refine FL.call (wF_yes rfl rfl rfl c8997) rfl rfl (E.call Tryz.call146 (A2 rfl rfl)) (w_spec_l1Same S8999.sl v8968 r6168.1 (h9001.mono upI) v37 x35.clause (h38.mono ((((i27.tr i48).tr i157).tr i8975).tr i9000)) hr9004) ?_
                  rintro e w9005 ⟨rfl, r9006⟩
                  refine ⟨_, rfl, ?_⟩
                  have r9006 := Run.lend i9000 S8974.sl r9006
                  have S9007 := S8974.call r9006
                  obtain rfl := Option.some.inj hp
                  refine FL.val rfl rfl rfl (E.pickT rfl c8997 rfl) ?_
                  exact FL.nil ⟨rfl, _, S9007, (Inc.rfl _), rfl⟩
                ·
                  refine FL.skip (wF_no rfl rfl rfl c8997) rfl ?_
                  refine FL.skip (wF_no rfl rfl rfl c8997) rfl ?_
                  refine FL.skip (wF_no rfl rfl rfl c8997) rfl ?_
                  refine FL.skip (wF_no rfl rfl rfl c8997) rfl ?_
                  obtain rfl := Option.some.inj hp
                  refine FL.val rfl rfl rfl (E.pickF rfl c8997 rfl) ?_
                  exact FL.nil ⟨rfl, _, S8974, (Inc.rfl _), rfl⟩
              rintro f8996 w8995 ⟨H8992, S8993, i8994, k9008⟩
              refine FL.val rfl rfl rfl (E.assign k9008) ?_
              refine FL.nil ?_
              refine FW.ret ?_
              obtain rfl := Option.some.inj hp
              exact ⟨.inr rfl, res1 rfl rfl ⟨rfl, S8993.back⟩⟩

theorem w_spec_l7Wrong {Ha : GH} {wa : World} (hs : Sl Ha wa) (a0 : Cnf) (v0_1 : Value) (p0_1 : RSl Ha (eL eI 1) 1 v0_1 a0.clauses) (v1 : Value) (a1 : List ResStep) (p1 : RSl Ha eResStep 4 v1 a1) {r : Int} (hp : (PF.spec_l7Wrong a0 a1) = some r) :
    Calls Tryz.prog 164 #[Value.agg #[Value.int .i64 a0.vars, v0_1], v1] wa (Sc Ha wa (Value.int .i64 r)) := by
  unfold PF.spec_l7Wrong at hp
  have S0 := St.init hs
  refine calls_go (N := 18) (args := [Value.agg #[Value.int .i64 a0.vars, v0_1], v1]) Tryz.func164 rfl rfl rfl ?_
  refine FW.seq ?_
  refine FW.region ?_
  obtain ⟨b21, w22, run23, S24⟩ := S0.box (P := Tryz.prog) 30 [Value.int .i64 a0.vars, v0_1] (v := Value.agg #[Value.int .i64 a0.vars, v0_1]) rfl (ones_cons rfl (ones_cons p0_1.one ones_nil))
  refine FL.val rfl rfl rfl (E.box rfl run23) ?_
  obtain ⟨H25, S26, i27, at28⟩ := S24.sealBox (i := 0) (l' := []) rfl rfl
  refine FL.val rfl rfl rfl (E.assign (v := Value.int .i64 0) rfl) ?_
  refine FL.nil ?_
  refine FW.seq ?_
  refine FW.seq ?_
  refine FW.region ?_
  refine FL.val rfl rfl rfl (E.assign (v := Value.int .i64 0) rfl) ?_
  refine FL.nil ?_
  obtain ⟨q30, hq, hp⟩ := bndR hp
  refine FW.block ?_
  refine FW.mono (FW.forL (S := Unit) (X := Int) (fun (i30 : Nat) (s30 : Unit) f w => ∃ H : GH, St Ha wa H w [] ∧ Inc H25 H ∧ f 5 = Value.int .i64 ((i30 : Nat) : Int) ∧ f 1 = v1 ∧ f 2 = Value.pointer (some ⟨b21, 0, none⟩)) (fun q e f w => match q with | .go s30 => e = Exit.exit 0 ∧ (∃ H : GH, St Ha wa H w [] ∧ Inc H25 H) | .rt x => ((e = Exit.ret) ∧ (fun e f w => (e = Exit.normal ∨ e = Exit.ret) ∧ ∀ a, Fr (δ := []) 18 a f → ∃ v, (results Tryz.f164 a.tmps).run Tryz.prog w = .ok v w ∧ (Sc Ha wa (Value.int .i64 x)) (.returned v) w) e f w)) hq ⟨_, S26, (Inc.rfl _), rfl, rfl, rfl⟩ ?_ ?_) ?_
  ·
    clear hp hq
    rintro i30 y29 s30 f49 w48 ⟨H45, S46, i47, k50, k51, k52⟩ hx30 o59 hp
    refine FW.seq ?_
    refine FW.seq ?_
    refine FW.region ?_
    refine FL.val rfl rfl rfl (E.move k50) ?_
    refine FL.val rfl rfl rfl (E.move k51) ?_
    refine FL.val rfl rfl rfl (E.lenP te41 rfl p1) ?_
    refine FL.val rfl rfl rfl (E.lssT rfl rfl (lss_len hx30)) ?_
    refine FL.nil ?_
    refine FW.condT rfl rfl ?_
    refine FW.skip ?_
    refine FW.seq ?_
    refine FW.block ?_
    refine FW.seq ?_
    refine FW.region ?_
    refine FL.val rfl rfl rfl (E.load k52 (run_loadA Tryz.isAgg30 Tryz.sizeOf30 ((at28.mono i47).now S46.sl) rfl)) ?_
    refine FL.val rfl rfl rfl (E.move k51) ?_
    refine FL.val rfl rfl rfl (E.move k50) ?_
    obtain ⟨r53, hr54, hp⟩ := bnd hp
    refine FL.call rfl rfl rfl (E.call Tryz.call208 (A3 rfl rfl rfl)) (w_spec_l7Correct S46.sl a0 v0_1 (p0_1.mono (i27.tr i47)) v1 a1 (p1.mono (i27.tr i47)) ((i30 : Nat) : Int) hr54) ?_
    rintro e w55 ⟨rfl, r56⟩
    refine ⟨_, rfl, ?_⟩
    have S57 := S46.call r56
    refine FL.val rfl rfl rfl (E.not rfl) ?_
    refine FL.nil ?_
    rcases ifB hp with ⟨c58, hp⟩ | ⟨c58, hp⟩
    ·
      refine FW.condT rfl c58 ?_
      refine FW.seq ?_
      refine FW.region ?_
      refine FL.val rfl rfl rfl (E.move k50) ?_
      refine FL.val rfl rfl rfl (E.assign (v := Value.int .i64 ((i30 : Nat) : Int)) rfl) ?_
      refine FL.nil ?_
      refine FW.ret ?_
      obtain rfl := Option.some.inj hp
      exact ⟨nofun, rfl, ⟨.inr rfl, res1 rfl rfl ⟨rfl, S57.back⟩⟩⟩
    ·
      refine FW.condF rfl c58 ?_
      refine FW.skip ?_
      refine FW.region ?_
      refine FL.val rfl rfl rfl (E.move k50) ?_
      refine FL.val rfl rfl rfl (E.add rfl rfl) ?_
      refine FL.val rfl rfl rfl (E.assign (v := Value.int .i64 (wr (((i30 : Nat) : Int) + 1))) rfl) ?_
      refine FL.nil ?_
      obtain rfl := Option.some.inj hp
      exact ⟨rfl, ⟨_, S57, i47, (nat_succ rfl (lt_of_get hx30) (p1.mono (i27.tr i47)).le), k51, k52⟩⟩
  ·
    clear hp hq
    rintro s30 f69 w68 ⟨H65, S66, i67, k70, k71, k72⟩
    refine FW.seq ?_
    refine FW.seq ?_
    refine FW.region ?_
    refine FL.val rfl rfl rfl (E.move k70) ?_
    refine FL.val rfl rfl rfl (E.move k71) ?_
    refine FL.val rfl rfl rfl (E.lenP te41 rfl p1) ?_
    refine FL.val rfl rfl rfl (E.lss rfl rfl) ?_
    refine FL.nil ?_
    refine FW.condF rfl dlt_len ?_
    refine FW.exit ?_
    exact ⟨nofun, rfl, ⟨_, S66, i67⟩⟩
  ·
    clear hq
    intro e f64 w63 hD
    rcases q30 with s30 | x30
    ·
      obtain ⟨rfl, hD⟩ := hD
      obtain ⟨H60, S61, i62⟩ := hD
      replace hp := el_go hp
      refine FW.seq ?_
      refine FW.region ?_
      refine FL.val rfl rfl rfl (E.assign (v := Value.int .i64 (-1)) rfl) ?_
      refine FL.nil ?_
      refine FW.ret ?_
      obtain rfl := Option.some.inj hp
      exact ⟨.inr rfl, res1 rfl rfl ⟨rfl, S61.back⟩⟩
    ·
      obtain ⟨he, hL⟩ := hD
      replace hp := el_rt hp
      obtain rfl := Option.some.inj hp
      subst he
      exact hL

theorem w_spec_l7Good {Ha : GH} {wa : World} (hs : Sl Ha wa) (a0 : Cnf) (v0_1 : Value) (p0_1 : RSl Ha (eL eI 1) 1 v0_1 a0.clauses) (v1 : Value) (a1 : List ResStep) (p1 : RSl Ha eResStep 4 v1 a1) {r : Bool} (hp : (PF.spec_l7Good a0 a1) = some r) :
    Calls Tryz.prog 115 #[Value.agg #[Value.int .i64 a0.vars, v0_1], v1] wa (Sc Ha wa (Value.bool r)) := by
  unfold PF.spec_l7Good at hp
  have S0 := St.init hs
  refine calls_go (N := 14) (args := [Value.agg #[Value.int .i64 a0.vars, v0_1], v1]) Tryz.func115 rfl rfl rfl ?_
  refine FW.seq ?_
  refine FW.region ?_
  obtain ⟨b21, w22, run23, S24⟩ := S0.box (P := Tryz.prog) 30 [Value.int .i64 a0.vars, v0_1] (v := Value.agg #[Value.int .i64 a0.vars, v0_1]) rfl (ones_cons rfl (ones_cons p0_1.one ones_nil))
  refine FL.val rfl rfl rfl (E.box rfl run23) ?_
  obtain ⟨H25, S26, i27, at28⟩ := S24.sealBox (i := 0) (l' := []) rfl rfl
  refine FL.val rfl rfl rfl (E.assign (v := Value.bool false) rfl) ?_
  refine FL.nil ?_
  refine FW.seq ?_
  refine FW.region ?_
  refine FL.val rfl rfl rfl (E.load rfl (run_loadA Tryz.isAgg30 Tryz.sizeOf30 (at28.now S26.sl) rfl)) ?_
  refine FL.val rfl rfl rfl (E.move (v := v1) rfl) ?_
  obtain ⟨r29, hr30, hp⟩ := bnd hp
  refine FL.call rfl rfl rfl (E.call Tryz.call163 (A2 rfl rfl)) (w_spec_l7Asked S26.sl a0 v0_1 (p0_1.mono i27) v1 a1 (p1.mono i27) hr30) ?_
  rintro e w31 ⟨rfl, r32⟩
  refine ⟨_, rfl, ?_⟩
  have S33 := S26.call r32
  refine FL.val rfl rfl rfl (E.move (v := Value.bool r29) rfl) ?_
  obtain ⟨t39, hqt39, hp⟩ := bnd hp
  refine FL.cut 5 (fun f w => ∃ H : GH, St Ha wa H w [] ∧ Inc H25 H ∧ f 13 = Value.bool t39) ?_ ?_
  ·
    clear hp; have hp := hqt39; clear hqt39
    rcases ifB hp with ⟨c45, hp⟩ | ⟨c45, hp⟩
    ·
      refine FL.val (wF_yes rfl rfl rfl c45) rfl rfl (E.load rfl (run_loadA Tryz.isAgg30 Tryz.sizeOf30 (at28.now S33.sl) rfl)) ?_
      refine FL.val (wF_yes rfl rfl rfl c45) rfl rfl (E.move (v := v1) rfl) ?_
      obtain ⟨r46, hr47, hp⟩ := bnd hp
      refine FL.call (wF_yes rfl rfl rfl c45) rfl rfl (E.call Tryz.call164 (A2 rfl rfl)) (w_spec_l7Wrong S33.sl a0 v0_1 (p0_1.mono i27) v1 a1 (p1.mono i27) hr47) ?_
      rintro e w48 ⟨rfl, r49⟩
      refine ⟨_, rfl, ?_⟩
      have S50 := S33.call r49
      refine FL.val (wF_yes rfl rfl rfl c45) rfl rfl (E.lss rfl rfl) ?_
      obtain rfl := Option.some.inj hp
      refine FL.val rfl rfl rfl (E.pickT rfl c45 rfl) ?_
      exact FL.nil ⟨rfl, _, S50, (Inc.rfl _), rfl⟩
    ·
      refine FL.skip (wF_no rfl rfl rfl c45) rfl ?_
      refine FL.skip (wF_no rfl rfl rfl c45) rfl ?_
      refine FL.skip (wF_no rfl rfl rfl c45) rfl ?_
      refine FL.skip (wF_no rfl rfl rfl c45) rfl ?_
      obtain rfl := Option.some.inj hp
      refine FL.val rfl rfl rfl (E.pickF rfl c45 rfl) ?_
      exact FL.nil ⟨rfl, _, S33, (Inc.rfl _), rfl⟩
  rintro f44 w43 ⟨H40, S41, i42, k51⟩
  refine FL.val rfl rfl rfl (E.assign k51) ?_
  refine FL.nil ?_
  refine FW.ret ?_
  obtain rfl := Option.some.inj hp
  exact ⟨.inr rfl, res1 rfl rfl ⟨rfl, S41.back⟩⟩

@[reducible] def p_spec_l7Uses (Ha : GH) (wa : World) (r : (List Int)) : Ending → World → Prop :=
  fun e w' => ∃ H' : GH, ∃ v0 : Value, ∃ n0 : Nat, ∃ c0 : List Value, e = .returned (v0) ∧ St Ha wa H' w' [.row 3 1 v0 n0 c0] ∧ Els (up wa.heap.size H') eI 1 c0 r
theorem w_spec_l7Uses {Ha : GH} {wa : World} (hs : Sl Ha wa) (a0 : ResStep) (v0_0 : Value) (p0_0 : RSl Ha eI 1 v0_0 a0.clause) :
    Calls Tryz.prog 159 #[Value.agg #[v0_0, Value.int .i64 a0.left, Value.int .i64 a0.right, Value.int .i64 a0.pivot]] wa (p_spec_l7Uses Ha wa (PF.spec_l7Uses a0)) := by
  obtain ⟨r, hp⟩ : ∃ r, (PF.spec_l7Uses a0) = r := ⟨_, rfl⟩
  rw [hp]
  unfold PF.spec_l7Uses at hp
  have S0 := St.init hs
  refine calls_go (N := 20) (args := [Value.agg #[v0_0, Value.int .i64 a0.left, Value.int .i64 a0.right, Value.int .i64 a0.pivot]]) Tryz.func159 rfl rfl rfl ?_
  refine FW.seq ?_
  refine FW.region ?_
  obtain ⟨b21, w22, run23, S24⟩ := S0.box (P := Tryz.prog) 103 [v0_0, Value.int .i64 a0.left, Value.int .i64 a0.right, Value.int .i64 a0.pivot] (v := Value.agg #[v0_0, Value.int .i64 a0.left, Value.int .i64 a0.right, Value.int .i64 a0.pivot]) rfl (ones_cons p0_0.one (ones_cons rfl (ones_cons rfl (ones_cons rfl ones_nil))))
  refine FL.val rfl rfl rfl (E.box rfl run23) ?_
  obtain ⟨H25, S26, i27, at28⟩ := S24.sealBox (i := 0) (l' := []) rfl rfl
  refine FL.val rfl rfl rfl (E.assign (v := Value.slice none 0 0) rfl) ?_
  refine FL.nil ?_
  refine FW.seq ?_
  refine FW.block ?_
  refine FW.seq ?_
  refine FW.region ?_
  refine FL.val rfl rfl rfl (E.fieldAddr tf103_1 rfl) ?_
  refine FL.val rfl rfl rfl (E.load rfl (run_load1 Tryz.isAgg3 (at28.now S26.sl) rfl)) ?_
  refine FL.val rfl rfl rfl (E.eql rfl rfl) ?_
  refine FL.val rfl rfl rfl (E.assign (v := Value.bool (a0.left == (-1))) rfl) ?_
  refine FL.nil ?_
  rcases ifT hp with ⟨c29, hp⟩ | ⟨c29, hp⟩
  ·
    refine FW.condT rfl c29 ?_
    refine FW.seq ?_
    refine FW.region ?_
    obtain ⟨v30, w31, run32, S33⟩ := S26.buildSlice (P := Tryz.prog) te61 [] (parts := #[]) (cells := []) rfl szs_nil fc_nil ones_nil (Nat.le_of_ble_eq_true rfl)
    have els34 : Els (up wa.heap.size H25) eI 1 [] [] := Els.nil
    refine FL.val rfl rfl rfl (E.buildSlice (B0) run32) ?_
    refine FL.val rfl rfl rfl (E.assign (v := v30) rfl) ?_
    refine FL.nil ?_
    refine FW.ret ?_
    obtain rfl := hp
    exact ⟨.inr rfl, res1 rfl rfl ⟨_, _, _, _, rfl, S33, els34⟩⟩
  ·
    refine FW.condF rfl c29 ?_
    refine FW.seq ?_
    refine FW.region ?_
    refine FL.val rfl rfl rfl (E.fieldAddr tf103_2 rfl) ?_
    refine FL.val rfl rfl rfl (E.load rfl (run_load1 Tryz.isAgg3 (at28.now S26.sl) rfl)) ?_
    refine FL.val rfl rfl rfl (E.eql rfl rfl) ?_
    refine FL.val rfl rfl rfl (E.assign (v := Value.bool (a0.right == (-1))) rfl) ?_
    refine FL.nil ?_
    rcases ifT hp with ⟨c35, hp⟩ | ⟨c35, hp⟩
    ·
      refine FW.condT rfl c35 ?_
      refine FW.seq ?_
      refine FW.region ?_
      refine FL.val rfl rfl rfl (E.fieldAddr tf103_1 rfl) ?_
      refine FL.val rfl rfl rfl (E.load rfl (run_load1 Tryz.isAgg3 (at28.now S26.sl) rfl)) ?_
      obtain ⟨v36, w37, run38, S39⟩ := S26.buildSlice (P := Tryz.prog) te61 [Value.int .i64 a0.left] (parts := #[(0, Value.int .i64 a0.left)]) (cells := [Value.int .i64 a0.left]) rfl (szs_cons rfl szs_nil) (fc_cons rfl fc_nil) (ones_cons rfl ones_nil) (Nat.le_of_ble_eq_true rfl)
      have els40 : Els (up wa.heap.size H25) eI 1 [Value.int .i64 a0.left] [a0.left] := (Els.snoc (H := (up wa.heap.size H25)) (E := eI) (k := 1) (c := [Value.int .i64 a0.left]) (x := a0.left) Els.nil rfl rfl)
      refine FL.val rfl rfl rfl (E.buildSlice (B1 rfl) run38) ?_
      refine FL.val rfl rfl rfl (E.assign (v := v36) rfl) ?_
      refine FL.nil ?_
      refine FW.ret ?_
      obtain rfl := hp
      exact ⟨.inr rfl, res1 rfl rfl ⟨_, _, _, _, rfl, S39, els40⟩⟩
    ·
      refine FW.condF rfl c35 ?_
      refine FW.skip ?_
      refine FW.seq ?_
      refine FW.region ?_
      refine FL.val rfl rfl rfl (E.fieldAddr tf103_1 rfl) ?_
      refine FL.val rfl rfl rfl (E.load rfl (run_load1 Tryz.isAgg3 (at28.now S26.sl) rfl)) ?_
      refine FL.val rfl rfl rfl (E.fieldAddr tf103_2 rfl) ?_
      refine FL.val rfl rfl rfl (E.load rfl (run_load1 Tryz.isAgg3 (at28.now S26.sl) rfl)) ?_
      obtain ⟨v41, w42, run43, S44⟩ := S26.buildSlice (P := Tryz.prog) te61 [Value.int .i64 a0.left, Value.int .i64 a0.right] (parts := #[(0, Value.int .i64 a0.left), (1, Value.int .i64 a0.right)]) (cells := [Value.int .i64 a0.left, Value.int .i64 a0.right]) rfl (szs_cons rfl (szs_cons rfl szs_nil)) (fc_cons rfl (fc_cons rfl fc_nil)) (ones_cons rfl (ones_cons rfl ones_nil)) (Nat.le_of_ble_eq_true rfl)
      have els45 : Els (up wa.heap.size H25) eI 1 [Value.int .i64 a0.left, Value.int .i64 a0.right] [a0.left, a0.right] := (Els.snoc (H := (up wa.heap.size H25)) (E := eI) (k := 1) (c := [Value.int .i64 a0.right]) (x := a0.right) (Els.snoc (H := (up wa.heap.size H25)) (E := eI) (k := 1) (c := [Value.int .i64 a0.left]) (x := a0.left) Els.nil rfl rfl) rfl rfl)
      refine FL.val rfl rfl rfl (E.buildSlice (B2 rfl rfl) run43) ?_
      refine FL.val rfl rfl rfl (E.assign (v := v41) rfl) ?_
      refine FL.nil ?_
      refine FW.ret ?_
      obtain rfl := hp
      exact ⟨.inr rfl, res1 rfl rfl ⟨_, _, _, _, rfl, S44, els45⟩⟩

@[reducible] def p_spec_l7Needed (Ha : GH) (wa : World) (r : (List Bool)) : Ending → World → Prop :=
  fun e w' => ∃ H' : GH, ∃ v0 : Value, ∃ n0 : Nat, ∃ c0 : List Value, e = .returned (v0) ∧ St Ha wa H' w' [.row 4 1 v0 n0 c0] ∧ Els (up wa.heap.size H') eB 1 c0 r
theorem w_spec_l7Needed {Ha : GH} {wa : World} (hs : Sl Ha wa) (v0 : Value) (a0 : List ResStep) (p0 : RSl Ha eResStep 4 v0 a0) {r : (List Bool)} (hp : (PF.spec_l7Needed a0) = some r) :
    Calls Tryz.prog 118 #[v0] wa (p_spec_l7Needed Ha wa r) := by
  unfold PF.spec_l7Needed at hp
  have S0 := St.init hs
  refine calls_go (N := 49) (args := [v0]) Tryz.func118 rfl rfl rfl ?_
  refine FW.seq ?_
  refine FW.region ?_
  refine FL.val rfl rfl rfl (E.assign (v := Value.slice none 0 0) rfl) ?_
  refine FL.nil ?_
  refine FW.seq ?_
  refine FW.region ?_
  refine FL.val rfl rfl rfl (E.move (v := v0) rfl) ?_
  refine FL.val rfl rfl rfl (E.lenP te41 rfl p0) ?_
  obtain ⟨xs21, hm22, hp⟩ := bnd hp
  obtain ⟨v23, w24, n28, cs29, run25, S26, els27, hbl30⟩ := S0.makeEls (P := Tryz.prog) te128 (G := (up wa.heap.size Ha)) (En := eB) (x0 := false) hm22 rfl (ones_cons rfl ones_nil) .i64 .i64
  refine FL.val rfl rfl rfl (E.makeSlice rfl rfl run25) ?_
  refine FL.val rfl rfl rfl (E.assign (v := v23) rfl) ?_
  refine FL.nil ?_
  refine FW.seq ?_
  refine FW.seq ?_
  refine FW.region ?_
  refine FL.val rfl rfl rfl (E.move (v := v0) rfl) ?_
  refine FL.val rfl rfl rfl (E.lenP te41 rfl p0) ?_
  refine FL.val rfl rfl rfl (E.sub rfl rfl) ?_
  refine FL.val rfl rfl rfl (E.assign (v := Value.int .i64 (wr ((len a0) - 1))) rfl) ?_
  refine FL.nil ?_
  obtain ⟨q31, hq, hp⟩ := bndR hp
  refine FW.block ?_
  refine FW.mono (FW.iter (S := ((List Bool) × Int)) (X := Empty) (fun (s31 : ((List Bool) × Int)) f w => ∃ H : GH, ∃ v314 : Value, ∃ n315 : Nat, ∃ cs316 : List Value, St Ha wa H w [.row 4 1 v314 n315 cs316] ∧ Inc Ha H ∧ Els (up wa.heap.size H) eB 1 cs316 s31.1 ∧ f 0 = v0 ∧ f 3 = v314 ∧ f 4 = Value.int .i64 s31.2) (fun (q : Rs ((List Bool) × Int) Empty) e f w => match q with | .go s31 => e = Exit.exit 0 ∧ (∃ H : GH, ∃ v314 : Value, ∃ n315 : Nat, ∃ cs316 : List Value, St Ha wa H w [.row 4 1 v314 n315 cs316] ∧ Inc Ha H ∧ Els (up wa.heap.size H) eB 1 cs316 s31.1 ∧ f 3 = v314) | .rt x => x.elim) hq ⟨_, _, _, _, S26, (Inc.rfl _), els27, rfl, rfl, rfl⟩ ?_) ?_
  ·
    clear hp hq
    rintro s31 f796 w795 ⟨H792, v314, n315, cs316, S793, i794, els317, k797, k798, k799⟩ o1266 hp
    refine FW.seq ?_
    refine FW.seq ?_
    refine FW.region ?_
    refine FL.val rfl rfl rfl (E.move k799) ?_
    refine FL.val rfl rfl rfl (E.geq rfl rfl) ?_
    refine FL.nil ?_
    rcases ifB hp with ⟨c800, hp⟩ | ⟨c800, hp⟩
    ·
      refine FW.condT rfl c800 ?_
      refine FW.skip ?_
      refine FW.seq ?_
      refine FW.block ?_
      refine FW.seq ?_
      refine FW.seq ?_
      refine FW.region ?_
      refine FL.val rfl rfl rfl (E.move k799) ?_
      refine FL.val rfl rfl rfl (E.move k797) ?_
      refine FL.val rfl rfl rfl (E.lenP te41 rfl p0) ?_
      refine FL.val rfl rfl rfl (E.sub rfl rfl) ?_
      refine FL.val rfl rfl rfl (E.eql rfl rfl) ?_
      refine FL.nil ?_
      rcases ifB hp with ⟨c801, hp⟩ | ⟨c801, hp⟩
      ·
        refine FW.condT rfl c801 ?_
        refine FW.region ?_
        refine FL.val rfl rfl rfl (E.move k798) ?_
        refine FL.val rfl rfl rfl (E.move k799) ?_
        obtain ⟨x808, hx809, hp⟩ := bnd hp
        obtain ⟨p802, cs803, pt804, l805, at806, rel807⟩ := S793.row_at (i := 0) rfl els317 (by decide) hx809
        obtain rfl := eB_open rel807
        refine FL.val rfl rfl rfl (E.indexAddr te128 rfl rfl pt804) ?_
        obtain ⟨xs813, hput814, hp⟩ := bnd hp
        obtain ⟨w810, cs816, run811, S812, els815, ce817⟩ := S793.putEls (P := Tryz.prog) (t := 4) (i := 0) rfl els317 hput814 pt804 Tryz.sizeOf4 (u := Value.bool true) (c := [Value.bool true]) rfl rfl (ones_cons rfl ones_nil) rfl
        have S812 : St Ha wa H792 w810 [.row 4 1 v314 n315 cs816] := S812
        refine FL.act rfl rfl (E.store rfl rfl run811) ?_
        refine FL.nil ?_
        refine FW.seq ?_
        refine FW.region ?_
        refine FL.val rfl rfl rfl (E.move k797) ?_
        refine FL.val rfl rfl rfl (E.move k799) ?_
        obtain ⟨x824, hx825, hp⟩ := bnd hp
        obtain ⟨p818, cs819, pt820, l821, at822, rel823⟩ := p0.at hx825
        obtain ⟨v826, rfl, h827⟩ := eResStep_open rel823
        refine FL.val rfl rfl rfl (E.indexAddr te41 rfl rfl pt820) ?_
        refine FL.val rfl rfl rfl (E.load rfl (run_loadA Tryz.isAgg103 Tryz.sizeOf103 ((at822.mono i794).now S812.sl) rfl)) ?_
        refine FL.call rfl rfl rfl (E.call Tryz.call159 (A1 rfl)) (w_spec_l7Uses S812.sl x824 v826 (h827.mono i794)) ?_
        rintro e w829 ⟨H828, v832, n833, cs834, rfl, r831, els835⟩
        refine ⟨_, rfl, ?_⟩
        have els835 := els835.mono (up_le S812.size)
        have S830 := S812.join (l' := [.row 3 1 v832 n833 cs834, .row 4 1 v314 n315 cs816]) r831 rfl
        refine FL.val rfl rfl rfl (E.assign (v := v832) rfl) ?_
        refine FL.nil ?_
        refine FW.seq ?_
        refine FW.region ?_
        refine FL.val rfl rfl rfl (E.assign (v := Value.int .i64 0) rfl) ?_
        refine FL.nil ?_
        obtain ⟨q836, hq, hp⟩ := bndR hp
        refine FW.block ?_
        refine FW.mono (FW.iter (S := ((List Bool) × Int)) (X := Empty) (fun (s836 : ((List Bool) × Int)) f w => ∃ H : GH, ∃ v901 : Value, ∃ n902 : Nat, ∃ cs903 : List Value, St Ha wa H w [.row 3 1 v832 n833 cs834, .row 4 1 v901 n902 cs903] ∧ Inc H828 H ∧ Els (up wa.heap.size H) eB 1 cs903 s836.1 ∧ f 0 = v0 ∧ f 3 = v901 ∧ f 4 = Value.int .i64 s31.2 ∧ f 5 = v832 ∧ f 6 = Value.int .i64 s836.2) (fun (q : Rs ((List Bool) × Int) Empty) e f w => match q with | .go s836 => e = Exit.exit 2 ∧ (∃ H : GH, ∃ v901 : Value, ∃ n902 : Nat, ∃ cs903 : List Value, St Ha wa H w [.row 3 1 v832 n833 cs834, .row 4 1 v901 n902 cs903] ∧ Inc H828 H ∧ Els (up wa.heap.size H) eB 1 cs903 s836.1 ∧ f 0 = v0 ∧ f 3 = v901 ∧ f 4 = Value.int .i64 s31.2) | .rt x => x.elim) hq ⟨_, _, _, _, S830, (Inc.rfl _), (els815.mono (up_mono r831.run.inc)), k797, k798, k799, rfl, rfl⟩ ?_) ?_
        ·
          clear hp hq
          rintro s836 f973 w972 ⟨H969, v901, n902, cs903, S970, i971, els904, k974, k975, k976, k977, k978⟩ o1033 hp
          refine FW.seq ?_
          refine FW.seq ?_
          refine FW.region ?_
          refine FL.val rfl rfl rfl (E.move k978) ?_
          refine FL.val rfl rfl rfl (E.move k977) ?_
          refine FL.val rfl rfl rfl (E.lenO te61 rfl S970 (i := 0) rfl els835 (by decide)) ?_
          refine FL.val rfl rfl rfl (E.lss rfl rfl) ?_
          refine FL.val rfl rfl rfl (E.move (v := Value.bool (decide (s836.2 < (len (PF.spec_l7Uses x824))))) rfl) ?_
          obtain ⟨t987, hqt987, hp⟩ := bnd hp
          refine FL.cut 5 (fun f w => ∃ H : GH, St Ha wa H w [.row 3 1 v832 n833 cs834, .row 4 1 v901 n902 cs903] ∧ Inc H969 H ∧ f 0 = v0 ∧ f 3 = v901 ∧ f 4 = Value.int .i64 s31.2 ∧ f 5 = v832 ∧ f 6 = Value.int .i64 s836.2 ∧ f 39 = Value.bool t987) ?_ ?_
          ·
            clear hp; have hp := hqt987; clear hqt987
            rcases ifB hp with ⟨c993, hp⟩ | ⟨c993, hp⟩
            ·
              refine FL.val (wF_yes rfl rfl rfl c993) rfl rfl (E.move k975) ?_
              refine FL.val (wF_yes rfl rfl rfl c993) rfl rfl (E.move k976) ?_
              obtain ⟨x1000, hx1001, hp⟩ := bnd hp
              obtain ⟨p994, cs995, pt996, l997, at998, rel999⟩ := S970.row_at (i := 1) rfl els904 (by decide) hx1001
              obtain rfl := eB_open rel999
              refine FL.val (wF_yes rfl rfl rfl c993) rfl rfl (E.indexAddr te128 rfl rfl pt996) ?_
              refine FL.val (wF_yes rfl rfl rfl c993) rfl rfl (E.load rfl (run_load0 Tryz.isAgg4 at998 rfl)) ?_
              obtain rfl := Option.some.inj hp
              refine FL.val rfl rfl rfl (E.pickT rfl c993 rfl) ?_
              exact FL.nil ⟨rfl, _, S970, (Inc.rfl _), k974, k975, k976, k977, k978, rfl⟩
            ·
              refine FL.skip (wF_no rfl rfl rfl c993) rfl ?_
              refine FL.skip (wF_no rfl rfl rfl c993) rfl ?_
              refine FL.skip (wF_no rfl rfl rfl c993) rfl ?_
              refine FL.skip (wF_no rfl rfl rfl c993) rfl ?_
              obtain rfl := Option.some.inj hp
              refine FL.val rfl rfl rfl (E.pickF rfl c993 rfl) ?_
              exact FL.nil ⟨rfl, _, S970, (Inc.rfl _), k974, k975, k976, k977, k978, rfl⟩
          rintro f992 w991 ⟨H988, S989, i990, k1002, k1003, k1004, k1005, k1006, k1007⟩
          refine FL.nil ?_
          rcases ifB hp with ⟨c1008, hp⟩ | ⟨c1008, hp⟩
          ·
            refine FW.condT k1007 c1008 ?_
            refine FW.skip ?_
            refine FW.seq ?_
            refine FW.block ?_
            refine FW.region ?_
            refine FL.val rfl rfl rfl (E.move k1003) ?_
            refine FL.val rfl rfl rfl (E.move k1005) ?_
            refine FL.val rfl rfl rfl (E.move k1006) ?_
            obtain ⟨x1015, hx1016, hp⟩ := bnd hp
            obtain ⟨p1009, cs1010, pt1011, l1012, at1013, rel1014⟩ := S989.row_at (i := 0) rfl els835 (by decide) hx1016
            obtain rfl := eI_open rel1014
            refine FL.val rfl rfl rfl (E.indexAddr te61 rfl rfl pt1011) ?_
            refine FL.val rfl rfl rfl (E.load rfl (run_load0 Tryz.isAgg3 at1013 rfl)) ?_
            obtain ⟨x1023, hx1024, hp⟩ := bnd hp
            obtain ⟨p1017, cs1018, pt1019, l1020, at1021, rel1022⟩ := S989.row_at (i := 1) rfl els904 (by decide) hx1024
            obtain rfl := eB_open rel1022
            refine FL.val rfl rfl rfl (E.indexAddr te128 rfl rfl pt1019) ?_
            obtain ⟨xs1028, hput1029, hp⟩ := bnd hp
            obtain ⟨w1025, cs1031, run1026, S1027, els1030, ce1032⟩ := S989.putEls (P := Tryz.prog) (t := 4) (i := 1) rfl (els904.mono (up_mono i990)) hput1029 pt1019 Tryz.sizeOf4 (u := Value.bool true) (c := [Value.bool true]) rfl rfl (ones_cons rfl ones_nil) rfl
            have S1027 : St Ha wa H988 w1025 [.row 3 1 v832 n833 cs834, .row 4 1 v901 n902 cs1031] := S1027
            refine FL.act rfl rfl (E.store rfl rfl run1026) ?_
            refine FL.nil ?_
            refine FW.region ?_
            refine FL.val rfl rfl rfl (E.move k1006) ?_
            refine FL.val rfl rfl rfl (E.add rfl rfl) ?_
            refine FL.val rfl rfl rfl (E.assign (v := Value.int .i64 (wr (s836.2 + 1))) rfl) ?_
            refine FL.nil ?_
            obtain rfl := Option.some.inj hp
            exact ⟨rfl, ⟨_, _, _, _, S1027, (i971.tr i990), els1030, k1002, k1003, k1004, k1005, rfl⟩⟩
          ·
            refine FW.condF k1007 c1008 ?_
            refine FW.exit ?_
            obtain rfl := Option.some.inj hp
            exact ⟨nofun, rfl, ⟨_, _, _, _, S989, (i971.tr i990), (els904.mono (up_mono i990)), k1002, k1003, k1004⟩⟩
        ·
          clear hq
          intro e f1038 w1037 hD
          rcases q836 with s836 | x836
          ·
            obtain ⟨rfl, hD⟩ := hD
            obtain ⟨H1034, v901, n902, cs903, S1035, i1036, els904, k1039, k1040, k1041⟩ := hD
            replace hp := el_go hp
            refine FW.region ?_
            refine FL.val rfl rfl rfl (E.move k1041) ?_
            refine FL.val rfl rfl rfl (E.sub rfl rfl) ?_
            refine FL.val rfl rfl rfl (E.assign (v := Value.int .i64 (wr (s31.2 - 1))) rfl) ?_
            refine FL.nil ?_
            obtain rfl := Option.some.inj hp
            exact ⟨rfl, ⟨_, _, _, _, (S1035.sel [1] (by decide) rfl), ((i794.tr r831.run.inc).tr i1036), els904, k1039, k1040, rfl⟩⟩
          · exact x836.elim
      ·
        refine FW.condF rfl c801 ?_
        refine FW.skip ?_
        refine FW.seq ?_
        refine FW.region ?_
        refine FL.val rfl rfl rfl (E.move k797) ?_
        refine FL.val rfl rfl rfl (E.move k799) ?_
        obtain ⟨x1048, hx1049, hp⟩ := bnd hp
        obtain ⟨p1042, cs1043, pt1044, l1045, at1046, rel1047⟩ := p0.at hx1049
        obtain ⟨v1050, rfl, h1051⟩ := eResStep_open rel1047
        refine FL.val rfl rfl rfl (E.indexAddr te41 rfl rfl pt1044) ?_
        refine FL.val rfl rfl rfl (E.load rfl (run_loadA Tryz.isAgg103 Tryz.sizeOf103 ((at1046.mono i794).now S793.sl) rfl)) ?_
        refine FL.call rfl rfl rfl (E.call Tryz.call159 (A1 rfl)) (w_spec_l7Uses S793.sl x1048 v1050 (h1051.mono i794)) ?_
        rintro e w1053 ⟨H1052, v1056, n1057, cs1058, rfl, r1055, els1059⟩
        refine ⟨_, rfl, ?_⟩
        have els1059 := els1059.mono (up_le S793.size)
        have S1054 := S793.join (l' := [.row 3 1 v1056 n1057 cs1058, .row 4 1 v314 n315 cs316]) r1055 rfl
        refine FL.val rfl rfl rfl (E.assign (v := v1056) rfl) ?_
        refine FL.nil ?_
        refine FW.seq ?_
        refine FW.region ?_
        refine FL.val rfl rfl rfl (E.assign (v := Value.int .i64 0) rfl) ?_
        refine FL.nil ?_
        obtain ⟨q1060, hq, hp⟩ := bndR hp
        refine FW.block ?_
        refine FW.mono (FW.iter (S := ((List Bool) × Int)) (X := Empty) (fun (s1060 : ((List Bool) × Int)) f w => ∃ H : GH, ∃ v1125 : Value, ∃ n1126 : Nat, ∃ cs1127 : List Value, St Ha wa H w [.row 3 1 v1056 n1057 cs1058, .row 4 1 v1125 n1126 cs1127] ∧ Inc H1052 H ∧ Els (up wa.heap.size H) eB 1 cs1127 s1060.1 ∧ f 0 = v0 ∧ f 3 = v1125 ∧ f 4 = Value.int .i64 s31.2 ∧ f 5 = v1056 ∧ f 6 = Value.int .i64 s1060.2) (fun (q : Rs ((List Bool) × Int) Empty) e f w => match q with | .go s1060 => e = Exit.exit 2 ∧ (∃ H : GH, ∃ v1125 : Value, ∃ n1126 : Nat, ∃ cs1127 : List Value, St Ha wa H w [.row 3 1 v1056 n1057 cs1058, .row 4 1 v1125 n1126 cs1127] ∧ Inc H1052 H ∧ Els (up wa.heap.size H) eB 1 cs1127 s1060.1 ∧ f 0 = v0 ∧ f 3 = v1125 ∧ f 4 = Value.int .i64 s31.2) | .rt x => x.elim) hq ⟨_, _, _, _, S1054, (Inc.rfl _), (els317.mono (up_mono r1055.run.inc)), k797, k798, k799, rfl, rfl⟩ ?_) ?_
        ·
          clear hp hq
          rintro s1060 f1197 w1196 ⟨H1193, v1125, n1126, cs1127, S1194, i1195, els1128, k1198, k1199, k1200, k1201, k1202⟩ o1257 hp
          refine FW.seq ?_
          refine FW.seq ?_
          refine FW.region ?_
          refine FL.val rfl rfl rfl (E.move k1202) ?_
          refine FL.val rfl rfl rfl (E.move k1201) ?_
          refine FL.val rfl rfl rfl (E.lenO te61 rfl S1194 (i := 0) rfl els1059 (by decide)) ?_
          refine FL.val rfl rfl rfl (E.lss rfl rfl) ?_
          refine FL.val rfl rfl rfl (E.move (v := Value.bool (decide (s1060.2 < (len (PF.spec_l7Uses x1048))))) rfl) ?_
          obtain ⟨t1211, hqt1211, hp⟩ := bnd hp
          refine FL.cut 5 (fun f w => ∃ H : GH, St Ha wa H w [.row 3 1 v1056 n1057 cs1058, .row 4 1 v1125 n1126 cs1127] ∧ Inc H1193 H ∧ f 0 = v0 ∧ f 3 = v1125 ∧ f 4 = Value.int .i64 s31.2 ∧ f 5 = v1056 ∧ f 6 = Value.int .i64 s1060.2 ∧ f 39 = Value.bool t1211) ?_ ?_
          ·
            clear hp; have hp := hqt1211; clear hqt1211
            rcases ifB hp with ⟨c1217, hp⟩ | ⟨c1217, hp⟩
            ·
              refine FL.val (wF_yes rfl rfl rfl c1217) rfl rfl (E.move k1199) ?_
              refine FL.val (wF_yes rfl rfl rfl c1217) rfl rfl (E.move k1200) ?_
              obtain ⟨x1224, hx1225, hp⟩ := bnd hp
              obtain ⟨p1218, cs1219, pt1220, l1221, at1222, rel1223⟩ := S1194.row_at (i := 1) rfl els1128 (by decide) hx1225
              obtain rfl := eB_open rel1223
              refine FL.val (wF_yes rfl rfl rfl c1217) rfl rfl (E.indexAddr te128 rfl rfl pt1220) ?_
              refine FL.val (wF_yes rfl rfl rfl c1217) rfl rfl (E.load rfl (run_load0 Tryz.isAgg4 at1222 rfl)) ?_
              obtain rfl := Option.some.inj hp
              refine FL.val rfl rfl rfl (E.pickT rfl c1217 rfl) ?_
              exact FL.nil ⟨rfl, _, S1194, (Inc.rfl _), k1198, k1199, k1200, k1201, k1202, rfl⟩
            ·
              refine FL.skip (wF_no rfl rfl rfl c1217) rfl ?_
              refine FL.skip (wF_no rfl rfl rfl c1217) rfl ?_
              refine FL.skip (wF_no rfl rfl rfl c1217) rfl ?_
              refine FL.skip (wF_no rfl rfl rfl c1217) rfl ?_
              obtain rfl := Option.some.inj hp
              refine FL.val rfl rfl rfl (E.pickF rfl c1217 rfl) ?_
              exact FL.nil ⟨rfl, _, S1194, (Inc.rfl _), k1198, k1199, k1200, k1201, k1202, rfl⟩
          rintro f1216 w1215 ⟨H1212, S1213, i1214, k1226, k1227, k1228, k1229, k1230, k1231⟩
          refine FL.nil ?_
          rcases ifB hp with ⟨c1232, hp⟩ | ⟨c1232, hp⟩
          ·
            refine FW.condT k1231 c1232 ?_
            refine FW.skip ?_
            refine FW.seq ?_
            refine FW.block ?_
            refine FW.region ?_
            refine FL.val rfl rfl rfl (E.move k1227) ?_
            refine FL.val rfl rfl rfl (E.move k1229) ?_
            refine FL.val rfl rfl rfl (E.move k1230) ?_
            obtain ⟨x1239, hx1240, hp⟩ := bnd hp
            obtain ⟨p1233, cs1234, pt1235, l1236, at1237, rel1238⟩ := S1213.row_at (i := 0) rfl els1059 (by decide) hx1240
            obtain rfl := eI_open rel1238
            refine FL.val rfl rfl rfl (E.indexAddr te61 rfl rfl pt1235) ?_
            refine FL.val rfl rfl rfl (E.load rfl (run_load0 Tryz.isAgg3 at1237 rfl)) ?_
            obtain ⟨x1247, hx1248, hp⟩ := bnd hp
            obtain ⟨p1241, cs1242, pt1243, l1244, at1245, rel1246⟩ := S1213.row_at (i := 1) rfl els1128 (by decide) hx1248
            obtain rfl := eB_open rel1246
            refine FL.val rfl rfl rfl (E.indexAddr te128 rfl rfl pt1243) ?_
            obtain ⟨xs1252, hput1253, hp⟩ := bnd hp
            obtain ⟨w1249, cs1255, run1250, S1251, els1254, ce1256⟩ := S1213.putEls (P := Tryz.prog) (t := 4) (i := 1) rfl (els1128.mono (up_mono i1214)) hput1253 pt1243 Tryz.sizeOf4 (u := Value.bool true) (c := [Value.bool true]) rfl rfl (ones_cons rfl ones_nil) rfl
            have S1251 : St Ha wa H1212 w1249 [.row 3 1 v1056 n1057 cs1058, .row 4 1 v1125 n1126 cs1255] := S1251
            refine FL.act rfl rfl (E.store rfl rfl run1250) ?_
            refine FL.nil ?_
            refine FW.region ?_
            refine FL.val rfl rfl rfl (E.move k1230) ?_
            refine FL.val rfl rfl rfl (E.add rfl rfl) ?_
            refine FL.val rfl rfl rfl (E.assign (v := Value.int .i64 (wr (s1060.2 + 1))) rfl) ?_
            refine FL.nil ?_
            obtain rfl := Option.some.inj hp
            exact ⟨rfl, ⟨_, _, _, _, S1251, (i1195.tr i1214), els1254, k1226, k1227, k1228, k1229, rfl⟩⟩
          ·
            refine FW.condF k1231 c1232 ?_
            refine FW.exit ?_
            obtain rfl := Option.some.inj hp
            exact ⟨nofun, rfl, ⟨_, _, _, _, S1213, (i1195.tr i1214), (els1128.mono (up_mono i1214)), k1226, k1227, k1228⟩⟩
        ·
          clear hq
          intro e f1262 w1261 hD
          rcases q1060 with s1060 | x1060
          ·
            obtain ⟨rfl, hD⟩ := hD
            obtain ⟨H1258, v1125, n1126, cs1127, S1259, i1260, els1128, k1263, k1264, k1265⟩ := hD
            replace hp := el_go hp
            refine FW.region ?_
            refine FL.val rfl rfl rfl (E.move k1265) ?_
            refine FL.val rfl rfl rfl (E.sub rfl rfl) ?_
            refine FL.val rfl rfl rfl (E.assign (v := Value.int .i64 (wr (s31.2 - 1))) rfl) ?_
            refine FL.nil ?_
            obtain rfl := Option.some.inj hp
            exact ⟨rfl, ⟨_, _, _, _, (S1259.sel [1] (by decide) rfl), ((i794.tr r1055.run.inc).tr i1260), els1128, k1263, k1264, rfl⟩⟩
          · exact x1060.elim
    ·
      refine FW.condF rfl c800 ?_
      refine FW.exit ?_
      obtain rfl := Option.some.inj hp
      exact ⟨nofun, rfl, ⟨_, _, _, _, S793, i794, els317, k798⟩⟩
  ·
    clear hq
    intro e f1271 w1270 hD
    rcases q31 with s31 | x31
    ·
      obtain ⟨rfl, hD⟩ := hD
      obtain ⟨H1267, v314, n315, cs316, S1268, i1269, els317, k1272⟩ := hD
      replace hp := el_go hp
      refine FW.seq ?_
      refine FW.region ?_
      refine FL.val rfl rfl rfl (E.move k1272) ?_
      refine FL.val rfl rfl rfl (E.assign (v := v314) rfl) ?_
      refine FL.nil ?_
      refine FW.ret ?_
      obtain rfl := Option.some.inj hp
      exact ⟨.inr rfl, res1 rfl rfl ⟨_, _, _, _, rfl, S1268, els317⟩⟩
    · exact x31.elim

@[reducible] def p_spec_l7Moved (Ha : GH) (wa : World) (r : ResStep) : Ending → World → Prop :=
  fun e w' => ∃ H' : GH, ∃ v0_0 : Value, e = .returned (Value.agg #[v0_0, Value.int .i64 r.left, Value.int .i64 r.right, Value.int .i64 r.pivot]) ∧ Run wa.heap.size Ha wa H' w' ∧ RSl (up wa.heap.size H') eI 1 v0_0 r.clause
theorem w_spec_l7Moved {Ha : GH} {wa : World} (hs : Sl Ha wa) (a0 : ResStep) (v0_0 : Value) (p0_0 : RSl Ha eI 1 v0_0 a0.clause) (v1 : Value) (a1 : List Int) (p1 : RSl Ha eI 1 v1 a1) {r : ResStep} (hp : (PF.spec_l7Moved a0 a1) = some r) :
    Calls Tryz.prog 165 #[Value.agg #[v0_0, Value.int .i64 a0.left, Value.int .i64 a0.right, Value.int .i64 a0.pivot], v1] wa (p_spec_l7Moved Ha wa r) := by
  unfold PF.spec_l7Moved at hp
  have S0 := St.init hs
  refine calls_go (N := 35) (args := [Value.agg #[v0_0, Value.int .i64 a0.left, Value.int .i64 a0.right, Value.int .i64 a0.pivot], v1]) Tryz.func165 rfl rfl rfl ?_
  refine FW.seq ?_
  refine FW.region ?_
  obtain ⟨b21, w22, run23, S24⟩ := S0.box (P := Tryz.prog) 103 [v0_0, Value.int .i64 a0.left, Value.int .i64 a0.right, Value.int .i64 a0.pivot] (v := Value.agg #[v0_0, Value.int .i64 a0.left, Value.int .i64 a0.right, Value.int .i64 a0.pivot]) rfl (ones_cons p0_0.one (ones_cons rfl (ones_cons rfl (ones_cons rfl ones_nil))))
  refine FL.val rfl rfl rfl (E.box rfl run23) ?_
  obtain ⟨H25, S26, i27, at28⟩ := S24.sealBox (i := 0) (l' := []) rfl rfl
  obtain ⟨b29, w30, run31, S32⟩ := S26.alloc (P := Tryz.prog) 103 [Value.slice none 0 0, Value.int .i64 0, Value.int .i64 0, Value.int .i64 0] Tryz.zeroValue103 rfl (ones_cons rfl (ones_cons rfl (ones_cons rfl (ones_cons rfl ones_nil))))
  refine FL.val rfl rfl rfl (E.alloc run31) ?_
  refine FL.nil ?_
  refine FW.seq ?_
  obtain ⟨r1233, hr1234, hp⟩ := bnd hp
  refine FW.drawA (Sl H25) (fun f w => ∃ H : GH, ∃ b5633 : Nat, ∃ v5634 : Value, St Ha wa H w [.box b29 103 [Value.slice none 0 0, Value.int .i64 0, Value.int .i64 0, Value.int .i64 0], .box b5633 103 [v5634, Value.int .i64 a0.left, Value.int .i64 a0.right, Value.int .i64 a0.pivot]] ∧ Inc H25 H ∧ RSl (up wa.heap.size H) eI 1 v5634 r1233 ∧ f 1 = v1 ∧ f 2 = Value.pointer (some ⟨b21, 0, none⟩) ∧ f 4 = Value.pointer (some (⟨b29, 0, none⟩ : Addr)) ∧ f 5 = Value.pointer (some (⟨b5633, 0, none⟩ : Addr))) (by kernel_rfl) S32.sl ?_ ?_
  ·
    intro w33 r34
    have S35 := S32.call r34
    refine FA.take (i := 0) (l' := #[true, false, false, false, false, false, false, false, false, false, false, false]) rfl (by kernel_rfl) (by kernel_rfl) (by kernel_rfl) (by kernel_rfl) S35.sl rfl rfl rfl (fun w' hw' => (E.fieldAddr tf103_0 rfl)) ?_
    refine FA.take (i := 1) (l' := #[true, true, false, false, false, false, false, false, false, false, false, false]) rfl (by kernel_rfl) (by kernel_rfl) (by kernel_rfl) (by kernel_rfl) S35.sl rfl rfl rfl (fun w' hw' => (E.load rfl (run_load1 Tryz.isAgg61 (at28.now hw') rfl))) ?_
    refine FA.take (i := 3) (l' := #[true, true, false, true, false, false, false, false, false, false, false, false]) rfl (by kernel_rfl) (by kernel_rfl) (by kernel_rfl) (by kernel_rfl) S35.sl rfl rfl rfl (fun w' hw' => (E.fieldAddr tf103_1 rfl)) ?_
    refine FA.take (i := 4) (l' := #[true, true, false, true, true, false, false, false, false, false, false, false]) rfl (by kernel_rfl) (by kernel_rfl) (by kernel_rfl) (by kernel_rfl) S35.sl rfl rfl rfl (fun w' hw' => (E.load rfl (run_load1 Tryz.isAgg3 (at28.now hw') rfl))) ?_
    refine FA.take (i := 5) (l' := #[true, true, false, true, true, true, false, false, false, false, false, false]) rfl (by kernel_rfl) (by kernel_rfl) (by kernel_rfl) (by kernel_rfl) S35.sl rfl rfl rfl (fun w' hw' => (E.fieldAddr tf103_2 rfl)) ?_
    refine FA.take (i := 6) (l' := #[true, true, false, true, true, true, true, false, false, false, false, false]) rfl (by kernel_rfl) (by kernel_rfl) (by kernel_rfl) (by kernel_rfl) S35.sl rfl rfl rfl (fun w' hw' => (E.load rfl (run_load1 Tryz.isAgg3 (at28.now hw') rfl))) ?_
    refine FA.take (i := 7) (l' := #[true, true, false, true, true, true, true, true, false, false, false, false]) rfl (by kernel_rfl) (by kernel_rfl) (by kernel_rfl) (by kernel_rfl) S35.sl rfl rfl rfl (fun w' hw' => (E.fieldAddr tf103_3 rfl)) ?_
    refine FA.take (i := 8) (l' := #[true, true, false, true, true, true, true, true, true, false, false, false]) rfl (by kernel_rfl) (by kernel_rfl) (by kernel_rfl) (by kernel_rfl) S35.sl rfl rfl rfl (fun w' hw' => (E.load rfl (run_load1 Tryz.isAgg3 (at28.now hw') rfl))) ?_
    refine FA.all2 (i := 2) (j := 10) (by kernel_rfl) ?_ ?_
    ·
      refine FO.call (l' := #[true, true, true, true, true, true, true, true, true, false, false, false]) rfl (by kernel_rfl) rfl rfl rfl (E.call Tryz.call83 (A1 rfl)) (w_spec_l1Own S35.sl v0_0 a0.clause (p0_0.mono i27) hr1234) ?_
      rintro e w1236 ⟨H1235, v1239, n1240, cs1241, rfl, r1238, els1242⟩
      refine ⟨_, rfl, ?_⟩
      have els1242 := els1242.mono (up_le S35.size)
      have S1237 := S35.join (l' := [.row 3 1 v1239 n1240 cs1241, .box b29 103 [Value.slice none 0 0, Value.int .i64 0, Value.int .i64 0, Value.int .i64 0]]) r1238 rfl
      refine ⟨(Sl.of_inc r1238.run.inc S1237.sl), ?_⟩
      obtain ⟨H4033, S4034, i4035, h4036, nv4037⟩ := S1237.sealRowU (i := 0) (l' := [.box b29 103 [Value.slice none 0 0, Value.int .i64 0, Value.int .i64 0, Value.int .i64 0]]) rfl els1242 (by decide) rfl
      refine FA.take (i := 9) (l' := #[true, true, true, true, true, true, true, true, true, true, false, false]) rfl (by kernel_rfl) (by kernel_rfl) (by kernel_rfl) (by kernel_rfl) (Sl.of_inc r1238.run.inc S1237.sl) rfl rfl rfl (fun w' hw' => (E.build (B4 rfl rfl rfl rfl) (run_build _ 103 #[(0, v1239), (1, Value.int .i64 a0.left), (2, Value.int .i64 a0.right), (3, Value.int .i64 a0.pivot)] #[v1239, Value.int .i64 a0.left, Value.int .i64 a0.right, Value.int .i64 a0.pivot] (by obtain ⟨_, _, rfl⟩ := RSl.ln (h4036.mono upI); rfl)))) ?_
      refine FA.all1 (i := 10) (by kernel_rfl) ?_
      ·
        obtain ⟨b4433, w4434, run4435, S4436⟩ := S4034.alloc (P := Tryz.prog) 103 [Value.slice none 0 0, Value.int .i64 0, Value.int .i64 0, Value.int .i64 0] Tryz.zeroValue103 rfl (ones_cons rfl (ones_cons rfl (ones_cons rfl (ones_cons rfl ones_nil))))
        refine FO.val (l' := #[true, true, true, true, true, true, true, true, true, true, true, false]) rfl (by kernel_rfl) rfl rfl rfl (E.alloc run4435) ?_
        refine ⟨(Sl.of_inc (r1238.run.inc.tr i4035) S4436.sl), ?_⟩
        refine FA.all1 (i := 11) (by kernel_rfl) ?_
        ·
          obtain ⟨w4833, run4834, S4835⟩ := S4436.store0 (P := Tryz.prog) (t := 103) (i := 0) (cs' := [v1239, Value.int .i64 a0.left, Value.int .i64 a0.right, Value.int .i64 a0.pivot]) (l' := [.box b4433 103 [v1239, Value.int .i64 a0.left, Value.int .i64 a0.right, Value.int .i64 a0.pivot], .box b29 103 [Value.slice none 0 0, Value.int .i64 0, Value.int .i64 0, Value.int .i64 0]]) (v := Value.agg #[v1239, Value.int .i64 a0.left, Value.int .i64 a0.right, Value.int .i64 a0.pivot]) (c := [v1239, Value.int .i64 a0.left, Value.int .i64 a0.right, Value.int .i64 a0.pivot]) rfl Tryz.sizeOf103 rfl rfl (ones_cons h4036.one (ones_cons rfl (ones_cons rfl (ones_cons rfl ones_nil)))) (Nat.le_of_ble_eq_true rfl) rfl rfl
          refine FO.act (l' := #[true, true, true, true, true, true, true, true, true, true, true, true]) rfl (by kernel_rfl) rfl rfl (E.store rfl rfl run4834) ?_
          refine ⟨(Sl.of_inc (r1238.run.inc.tr i4035) S4835.sl), ?_⟩
          exact FA.done (by kernel_rfl) ⟨_, _, _, (S4835.sel [1, 0] (by decide) rfl), (r1238.run.inc.tr i4035), h4036, rfl, rfl, rfl, rfl⟩
    ·
      obtain ⟨b4433, w4434, run4435, S4436⟩ := S35.alloc (P := Tryz.prog) 103 [Value.slice none 0 0, Value.int .i64 0, Value.int .i64 0, Value.int .i64 0] Tryz.zeroValue103 rfl (ones_cons rfl (ones_cons rfl (ones_cons rfl (ones_cons rfl ones_nil))))
      refine FO.val (l' := #[true, true, false, true, true, true, true, true, true, false, true, false]) rfl (by kernel_rfl) rfl rfl rfl (E.alloc run4435) ?_
      refine ⟨S4436.sl, ?_⟩
      refine FA.all1 (i := 2) (by kernel_rfl) ?_
      ·
        refine FO.call (l' := #[true, true, true, true, true, true, true, true, true, false, true, false]) rfl (by kernel_rfl) rfl rfl rfl (E.call Tryz.call83 (A1 rfl)) (w_spec_l1Own S4436.sl v0_0 a0.clause (p0_0.mono i27) hr1234) ?_
        rintro e w1236 ⟨H1235, v1239, n1240, cs1241, rfl, r1238, els1242⟩
        refine ⟨_, rfl, ?_⟩
        have els1242 := els1242.mono (up_le S4436.size)
        have S1237 := S4436.join (l' := [.row 3 1 v1239 n1240 cs1241, .box b4433 103 [Value.slice none 0 0, Value.int .i64 0, Value.int .i64 0, Value.int .i64 0], .box b29 103 [Value.slice none 0 0, Value.int .i64 0, Value.int .i64 0, Value.int .i64 0]]) r1238 rfl
        refine ⟨(Sl.of_inc r1238.run.inc S1237.sl), ?_⟩
        obtain ⟨H4033, S4034, i4035, h4036, nv4037⟩ := S1237.sealRowU (i := 0) (l' := [.box b4433 103 [Value.slice none 0 0, Value.int .i64 0, Value.int .i64 0, Value.int .i64 0], .box b29 103 [Value.slice none 0 0, Value.int .i64 0, Value.int .i64 0, Value.int .i64 0]]) rfl els1242 (by decide) rfl
        refine FA.take (i := 9) (l' := #[true, true, true, true, true, true, true, true, true, true, true, false]) rfl (by kernel_rfl) (by kernel_rfl) (by kernel_rfl) (by kernel_rfl) (Sl.of_inc r1238.run.inc S1237.sl) rfl rfl rfl (fun w' hw' => (E.build (B4 rfl rfl rfl rfl) (run_build _ 103 #[(0, v1239), (1, Value.int .i64 a0.left), (2, Value.int .i64 a0.right), (3, Value.int .i64 a0.pivot)] #[v1239, Value.int .i64 a0.left, Value.int .i64 a0.right, Value.int .i64 a0.pivot] (by obtain ⟨_, _, rfl⟩ := RSl.ln (h4036.mono upI); rfl)))) ?_
        refine FA.all1 (i := 11) (by kernel_rfl) ?_
        ·
          obtain ⟨w4833, run4834, S4835⟩ := S4034.store0 (P := Tryz.prog) (t := 103) (i := 0) (cs' := [v1239, Value.int .i64 a0.left, Value.int .i64 a0.right, Value.int .i64 a0.pivot]) (l' := [.box b4433 103 [v1239, Value.int .i64 a0.left, Value.int .i64 a0.right, Value.int .i64 a0.pivot], .box b29 103 [Value.slice none 0 0, Value.int .i64 0, Value.int .i64 0, Value.int .i64 0]]) (v := Value.agg #[v1239, Value.int .i64 a0.left, Value.int .i64 a0.right, Value.int .i64 a0.pivot]) (c := [v1239, Value.int .i64 a0.left, Value.int .i64 a0.right, Value.int .i64 a0.pivot]) rfl Tryz.sizeOf103 rfl rfl (ones_cons h4036.one (ones_cons rfl (ones_cons rfl (ones_cons rfl ones_nil)))) (Nat.le_of_ble_eq_true rfl) rfl rfl
          refine FO.act (l' := #[true, true, true, true, true, true, true, true, true, true, true, true]) rfl (by kernel_rfl) rfl rfl (E.store rfl rfl run4834) ?_
          refine ⟨(Sl.of_inc (r1238.run.inc.tr i4035) S4835.sl), ?_⟩
          exact FA.done (by kernel_rfl) ⟨_, _, _, (S4835.sel [1, 0] (by decide) rfl), (r1238.run.inc.tr i4035), h4036, rfl, rfl, rfl, rfl⟩
  ·
    rintro f5641 w5640 ⟨H5637, b5633, v5634, S5638, i5639, h5635, k5642, k5643, k5644, k5645⟩
    refine FW.seq ?_
    refine FW.seq ?_
    refine FW.region ?_
    refine FL.val rfl rfl rfl (E.fieldAddr tf103_1 k5643) ?_
    refine FL.val rfl rfl rfl (E.load rfl (run_load1 Tryz.isAgg3 ((at28.mono i5639).now S5638.sl) rfl)) ?_
    refine FL.val rfl rfl rfl (E.geq rfl rfl) ?_
    refine FL.nil ?_
    rcases ifB hp with ⟨c5646, hp⟩ | ⟨c5646, hp⟩
    ·
      refine FW.condT rfl c5646 ?_
      refine FW.seq ?_
      refine FW.region ?_
      refine FL.val rfl rfl rfl (E.move k5642) ?_
      refine FL.val rfl rfl rfl (E.fieldAddr tf103_1 k5643) ?_
      refine FL.val rfl rfl rfl (E.load rfl (run_load1 Tryz.isAgg3 ((at28.mono i5639).now S5638.sl) rfl)) ?_
      obtain ⟨x5653, hx5654, hp⟩ := bnd hp
      obtain ⟨p5647, cs5648, pt5649, l5650, at5651, rel5652⟩ := p1.at hx5654
      obtain rfl := eI_open rel5652
      refine FL.val rfl rfl rfl (E.indexAddr te61 rfl rfl pt5649) ?_
      refine FL.val rfl rfl rfl (E.load rfl (run_load0 Tryz.isAgg3 ((at5651.mono (i27.tr i5639)).now S5638.sl) rfl)) ?_
      refine FL.val rfl rfl rfl (E.fieldAddr tf103_1 k5645) ?_
      obtain ⟨w5655, run5656, S5657⟩ := S5638.store (P := Tryz.prog) (t := 3) (i := 1) (j := 1) (cs' := [v5634, Value.int .i64 x5653, Value.int .i64 a0.right, Value.int .i64 a0.pivot]) (l' := [.box b29 103 [Value.slice none 0 0, Value.int .i64 0, Value.int .i64 0, Value.int .i64 0], .box b5633 103 [v5634, Value.int .i64 x5653, Value.int .i64 a0.right, Value.int .i64 a0.pivot]]) (v := Value.int .i64 x5653) (c := [Value.int .i64 x5653]) rfl Tryz.sizeOf3 rfl rfl (ones_cons rfl ones_nil) (Nat.le_of_ble_eq_true rfl) rfl rfl
      refine FL.act rfl rfl (E.store rfl rfl run5656) ?_
      refine FL.nil ?_
      refine FW.seq ?_
      refine FW.region ?_
      refine FL.val rfl rfl rfl (E.fieldAddr tf103_2 k5643) ?_
      refine FL.val rfl rfl rfl (E.load rfl (run_load1 Tryz.isAgg3 ((at28.mono i5639).now S5657.sl) rfl)) ?_
      refine FL.val rfl rfl rfl (E.geq rfl rfl) ?_
      refine FL.nil ?_
      rcases ifB hp with ⟨c5658, hp⟩ | ⟨c5658, hp⟩
      ·
        refine FW.condT rfl c5658 ?_
        refine FW.region ?_
        refine FL.val rfl rfl rfl (E.move k5642) ?_
        refine FL.val rfl rfl rfl (E.fieldAddr tf103_2 k5643) ?_
        refine FL.val rfl rfl rfl (E.load rfl (run_load1 Tryz.isAgg3 ((at28.mono i5639).now S5657.sl) rfl)) ?_
        obtain ⟨x5665, hx5666, hp⟩ := bnd hp
        obtain ⟨p5659, cs5660, pt5661, l5662, at5663, rel5664⟩ := p1.at hx5666
        obtain rfl := eI_open rel5664
        refine FL.val rfl rfl rfl (E.indexAddr te61 rfl rfl pt5661) ?_
        refine FL.val rfl rfl rfl (E.load rfl (run_load0 Tryz.isAgg3 ((at5663.mono (i27.tr i5639)).now S5657.sl) rfl)) ?_
        refine FL.val rfl rfl rfl (E.fieldAddr tf103_2 k5645) ?_
        obtain ⟨w5667, run5668, S5669⟩ := S5657.store (P := Tryz.prog) (t := 3) (i := 1) (j := 2) (cs' := [v5634, Value.int .i64 x5653, Value.int .i64 x5665, Value.int .i64 a0.pivot]) (l' := [.box b29 103 [Value.slice none 0 0, Value.int .i64 0, Value.int .i64 0, Value.int .i64 0], .box b5633 103 [v5634, Value.int .i64 x5653, Value.int .i64 x5665, Value.int .i64 a0.pivot]]) (v := Value.int .i64 x5665) (c := [Value.int .i64 x5665]) rfl Tryz.sizeOf3 rfl rfl (ones_cons rfl ones_nil) (Nat.le_of_ble_eq_true rfl) rfl rfl
        refine FL.act rfl rfl (E.store rfl rfl run5668) ?_
        obtain ⟨H5670, S5671, i5672, at5673⟩ := S5669.sealBox (i := 1) (l' := [.box b29 103 [Value.slice none 0 0, Value.int .i64 0, Value.int .i64 0, Value.int .i64 0]]) rfl rfl
        refine FL.nil ?_
        refine FW.seq ?_
        refine FW.region ?_
        refine FL.val rfl rfl rfl (E.load k5645 (run_loadA Tryz.isAgg103 Tryz.sizeOf103 (at5673.now S5671.sl) rfl)) ?_
        obtain ⟨w5674, run5675, S5676⟩ := S5671.store0 (P := Tryz.prog) (t := 103) (i := 0) (cs' := [v5634, Value.int .i64 x5653, Value.int .i64 x5665, Value.int .i64 a0.pivot]) (l' := [.box b29 103 [v5634, Value.int .i64 x5653, Value.int .i64 x5665, Value.int .i64 a0.pivot]]) (v := Value.agg #[v5634, Value.int .i64 x5653, Value.int .i64 x5665, Value.int .i64 a0.pivot]) (c := [v5634, Value.int .i64 x5653, Value.int .i64 x5665, Value.int .i64 a0.pivot]) rfl Tryz.sizeOf103 rfl rfl (ones_cons h5635.one (ones_cons rfl (ones_cons rfl (ones_cons rfl ones_nil)))) (Nat.le_of_ble_eq_true rfl) rfl rfl
        refine FL.act rfl rfl (E.store k5644 rfl run5675) ?_
        obtain ⟨H5677, S5678, i5679, at5680⟩ := S5676.sealBox (i := 0) (l' := []) rfl rfl
        refine FL.nil ?_
        refine FW.ret ?_
        obtain rfl := Option.some.inj hp
        exact ⟨.inr rfl, resC rfl k5644 (loadVar_A Tryz.isAgg103 Tryz.sizeOf103 (at5680.now S5678.sl) rfl) ⟨_, _, rfl, S5678.run, (h5635.mono (up_mono (i5672.tr i5679)))⟩⟩
      ·
        refine FW.condF rfl c5658 ?_
        refine FW.skip ?_
        refine FW.seq ?_
        refine FW.region ?_
        refine FL.val rfl rfl rfl (E.load k5645 (run_loadA Tryz.isAgg103 Tryz.sizeOf103 (S5657.box_now (i := 1) rfl) rfl)) ?_
        obtain ⟨w5681, run5682, S5683⟩ := S5657.store0 (P := Tryz.prog) (t := 103) (i := 0) (cs' := [v5634, Value.int .i64 x5653, Value.int .i64 a0.right, Value.int .i64 a0.pivot]) (l' := [.box b29 103 [v5634, Value.int .i64 x5653, Value.int .i64 a0.right, Value.int .i64 a0.pivot], .box b5633 103 [v5634, Value.int .i64 x5653, Value.int .i64 a0.right, Value.int .i64 a0.pivot]]) (v := Value.agg #[v5634, Value.int .i64 x5653, Value.int .i64 a0.right, Value.int .i64 a0.pivot]) (c := [v5634, Value.int .i64 x5653, Value.int .i64 a0.right, Value.int .i64 a0.pivot]) rfl Tryz.sizeOf103 rfl rfl (ones_cons h5635.one (ones_cons rfl (ones_cons rfl (ones_cons rfl ones_nil)))) (Nat.le_of_ble_eq_true rfl) rfl rfl
        refine FL.act rfl rfl (E.store k5644 rfl run5682) ?_
        obtain ⟨H5684, S5685, i5686, at5687⟩ := S5683.sealBox (i := 0) (l' := [.box b5633 103 [v5634, Value.int .i64 x5653, Value.int .i64 a0.right, Value.int .i64 a0.pivot]]) rfl rfl
        refine FL.nil ?_
        refine FW.ret ?_
        obtain rfl := Option.some.inj hp
        exact ⟨.inr rfl, resC rfl k5644 (loadVar_A Tryz.isAgg103 Tryz.sizeOf103 (at5687.now S5685.sl) rfl) ⟨_, _, rfl, S5685.run, (h5635.mono (up_mono i5686))⟩⟩
    ·
      refine FW.condF rfl c5646 ?_
      refine FW.skip ?_
      refine FW.seq ?_
      refine FW.region ?_
      refine FL.val rfl rfl rfl (E.load k5645 (run_loadA Tryz.isAgg103 Tryz.sizeOf103 (S5638.box_now (i := 1) rfl) rfl)) ?_
      obtain ⟨w5688, run5689, S5690⟩ := S5638.store0 (P := Tryz.prog) (t := 103) (i := 0) (cs' := [v5634, Value.int .i64 a0.left, Value.int .i64 a0.right, Value.int .i64 a0.pivot]) (l' := [.box b29 103 [v5634, Value.int .i64 a0.left, Value.int .i64 a0.right, Value.int .i64 a0.pivot], .box b5633 103 [v5634, Value.int .i64 a0.left, Value.int .i64 a0.right, Value.int .i64 a0.pivot]]) (v := Value.agg #[v5634, Value.int .i64 a0.left, Value.int .i64 a0.right, Value.int .i64 a0.pivot]) (c := [v5634, Value.int .i64 a0.left, Value.int .i64 a0.right, Value.int .i64 a0.pivot]) rfl Tryz.sizeOf103 rfl rfl (ones_cons h5635.one (ones_cons rfl (ones_cons rfl (ones_cons rfl ones_nil)))) (Nat.le_of_ble_eq_true rfl) rfl rfl
      refine FL.act rfl rfl (E.store k5644 rfl run5689) ?_
      obtain ⟨H5691, S5692, i5693, at5694⟩ := S5690.sealBox (i := 0) (l' := [.box b5633 103 [v5634, Value.int .i64 a0.left, Value.int .i64 a0.right, Value.int .i64 a0.pivot]]) rfl rfl
      refine FL.nil ?_
      refine FW.ret ?_
      obtain rfl := Option.some.inj hp
      exact ⟨.inr rfl, resC rfl k5644 (loadVar_A Tryz.isAgg103 Tryz.sizeOf103 (at5694.now S5692.sl) rfl) ⟨_, _, rfl, S5692.run, (h5635.mono (up_mono i5693))⟩⟩

@[reducible] def p_spec_l7Trim (Ha : GH) (wa : World) (r : (List ResStep)) : Ending → World → Prop :=
  fun e w' => ∃ H' : GH, ∃ v0 : Value, ∃ n0 : Nat, ∃ c0 : List Value, e = .returned (v0) ∧ St Ha wa H' w' [.row 103 4 v0 n0 c0] ∧ Els (up wa.heap.size H') eResStep 4 c0 r ∧ (bl c0).Nodup
theorem w_spec_l7Trim {Ha : GH} {wa : World} (hs : Sl Ha wa) (v0 : Value) (a0 : List ResStep) (p0 : RSl Ha eResStep 4 v0 a0) {r : (List ResStep)} (hp : (PF.spec_l7Trim a0) = some r) :
    Calls Tryz.prog 116 #[v0] wa (p_spec_l7Trim Ha wa r) := by
  unfold PF.spec_l7Trim at hp
  have S0 := St.init hs
  refine calls_go (N := 38) (args := [v0]) Tryz.func116 rfl rfl rfl ?_
  refine FW.seq ?_
  refine FW.region ?_
  refine FL.val rfl rfl rfl (E.assign (v := Value.slice none 0 0) rfl) ?_
  refine FL.nil ?_
  refine FW.seq ?_
  obtain ⟨r1221, hr1222, hp⟩ := bnd hp
  obtain ⟨xs2421, hm2422, hp⟩ := bnd hp
  refine FW.drawA (Sl Ha) (fun f w => ∃ H : GH, ∃ v4421 : Value, ∃ n4422 : Nat, ∃ cs4423 : List Value, ∃ v4426 : Value, ∃ n4427 : Nat, ∃ cs4428 : List Value, ∃ v4430 : Value, ∃ n4431 : Nat, ∃ cs4432 : List Value, St Ha wa H w [.row 103 4 v4421 n4422 cs4423, .row 4 1 v4426 n4427 cs4428, .row 3 1 v4430 n4431 cs4432] ∧ Inc Ha H ∧ Els (up wa.heap.size H) eResStep 4 cs4423 [] ∧ Els (up wa.heap.size H) eB 1 cs4428 r1221 ∧ Els (up wa.heap.size H) eI 1 cs4432 xs2421 ∧ (bl cs4423).Nodup ∧ f 0 = v0 ∧ f 3 = v4421 ∧ f 4 = v4426 ∧ f 5 = v4430) (by kernel_rfl) S0.sl ?_ ?_
  ·
    intro w21 r22
    have S23 := S0.call r22
    refine FA.take (i := 1) (l' := #[false, true, false, false, false, false, false, false, false]) rfl (by kernel_rfl) (by kernel_rfl) (by kernel_rfl) (by kernel_rfl) S23.sl rfl rfl rfl (fun w' hw' => (E.move (v := v0) rfl)) ?_
    refine FA.take (i := 3) (l' := #[false, true, false, true, false, false, false, false, false]) rfl (by kernel_rfl) (by kernel_rfl) (by kernel_rfl) (by kernel_rfl) S23.sl rfl rfl rfl (fun w' hw' => (E.move (v := v0) rfl)) ?_
    refine FA.take (i := 4) (l' := #[false, true, false, true, true, false, false, false, false]) rfl (by kernel_rfl) (by kernel_rfl) (by kernel_rfl) (by kernel_rfl) S23.sl rfl rfl rfl (fun w' hw' => (E.lenP te41 rfl p0)) ?_
    refine FA.all3 (i := 0) (j := 2) (k := 5) (by kernel_rfl) ?_ ?_ ?_
    ·
      obtain ⟨v421, w422, run423, S424⟩ := S23.buildSlice (P := Tryz.prog) te41 [] (parts := #[]) (cells := []) rfl szs_nil fc_nil ones_nil (Nat.le_of_ble_eq_true rfl)
      have els425 : Els (up wa.heap.size Ha) eResStep 4 [] [] := Els.nil
      refine FO.val (l' := #[true, true, false, true, true, false, false, false, false]) rfl (by kernel_rfl) rfl rfl rfl (E.buildSlice (B0) run423) ?_
      refine ⟨S424.sl, ?_⟩
      refine FA.all2 (i := 2) (j := 5) (by kernel_rfl) ?_ ?_
      ·
        refine FO.call (l' := #[true, true, true, true, true, false, false, false, false]) rfl (by kernel_rfl) rfl rfl rfl (E.call Tryz.call118 (A1 rfl)) (w_spec_l7Needed S424.sl v0 a0 p0 hr1222) ?_
        rintro e w1224 ⟨H1223, v1227, n1228, cs1229, rfl, r1226, els1230⟩
        refine ⟨_, rfl, ?_⟩
        have els1230 := els1230.mono (up_le S424.size)
        have S1225 := S424.join (l' := [.row 4 1 v1227 n1228 cs1229, .row 103 4 v421 0 []]) r1226 rfl
        refine ⟨(Sl.of_inc r1226.run.inc S1225.sl), ?_⟩
        refine FA.take (i := 6) (l' := #[true, true, true, true, true, false, true, false, false]) rfl (by kernel_rfl) (by kernel_rfl) (by kernel_rfl) (by kernel_rfl) (Sl.of_inc r1226.run.inc S1225.sl) rfl rfl rfl (fun w' hw' => (E.assign (v := v421) rfl)) ?_
        refine FA.take (i := 7) (l' := #[true, true, true, true, true, false, true, true, false]) rfl (by kernel_rfl) (by kernel_rfl) (by kernel_rfl) (by kernel_rfl) (Sl.of_inc r1226.run.inc S1225.sl) rfl rfl rfl (fun w' hw' => (E.assign (v := v1227) rfl)) ?_
        refine FA.all1 (i := 5) (by kernel_rfl) ?_
        ·
          obtain ⟨v2423, w2424, n2428, cs2429, run2425, S2426, els2427, hbl2430⟩ := S1225.makeEls (P := Tryz.prog) te61 (G := (up wa.heap.size H1223)) (En := eI) (x0 := 0) hm2422 rfl (ones_cons rfl ones_nil) .i64 .i64
          refine FO.val (l' := #[true, true, true, true, true, true, true, true, false]) rfl (by kernel_rfl) rfl rfl rfl (E.makeSlice rfl rfl run2425) ?_
          refine ⟨(Sl.of_inc r1226.run.inc S2426.sl), ?_⟩
          refine FA.take (i := 8) (l' := #[true, true, true, true, true, true, true, true, true]) rfl (by kernel_rfl) (by kernel_rfl) (by kernel_rfl) (by kernel_rfl) (Sl.of_inc r1226.run.inc S2426.sl) rfl rfl rfl (fun w' hw' => (E.assign (v := v2423) rfl)) ?_
          exact FA.done (by kernel_rfl) ⟨_, _, _, _, _, _, _, _, _, _, (S2426.sel [2, 1, 0] (by decide) rfl), r1226.run.inc, (els425.mono (up_mono r1226.run.inc)), els1230, els2427, (show (bl []).Nodup from List.nodup_nil), rfl, rfl, rfl, rfl⟩
      ·
        obtain ⟨v2423, w2424, n2428, cs2429, run2425, S2426, els2427, hbl2430⟩ := S424.makeEls (P := Tryz.prog) te61 (G := (up wa.heap.size Ha)) (En := eI) (x0 := 0) hm2422 rfl (ones_cons rfl ones_nil) .i64 .i64
        refine FO.val (l' := #[true, true, false, true, true, true, false, false, false]) rfl (by kernel_rfl) rfl rfl rfl (E.makeSlice rfl rfl run2425) ?_
        refine ⟨S2426.sl, ?_⟩
        refine FA.all1 (i := 2) (by kernel_rfl) ?_
        ·
          refine FO.call (l' := #[true, true, true, true, true, true, false, false, false]) rfl (by kernel_rfl) rfl rfl rfl (E.call Tryz.call118 (A1 rfl)) (w_spec_l7Needed S2426.sl v0 a0 p0 hr1222) ?_
          rintro e w1224 ⟨H1223, v1227, n1228, cs1229, rfl, r1226, els1230⟩
          refine ⟨_, rfl, ?_⟩
          have els1230 := els1230.mono (up_le S2426.size)
          have S1225 := S2426.join (l' := [.row 4 1 v1227 n1228 cs1229, .row 3 1 v2423 n2428 cs2429, .row 103 4 v421 0 []]) r1226 rfl
          refine ⟨(Sl.of_inc r1226.run.inc S1225.sl), ?_⟩
          refine FA.take (i := 6) (l' := #[true, true, true, true, true, true, true, false, false]) rfl (by kernel_rfl) (by kernel_rfl) (by kernel_rfl) (by kernel_rfl) (Sl.of_inc r1226.run.inc S1225.sl) rfl rfl rfl (fun w' hw' => (E.assign (v := v421) rfl)) ?_
          refine FA.take (i := 7) (l' := #[true, true, true, true, true, true, true, true, false]) rfl (by kernel_rfl) (by kernel_rfl) (by kernel_rfl) (by kernel_rfl) (Sl.of_inc r1226.run.inc S1225.sl) rfl rfl rfl (fun w' hw' => (E.assign (v := v1227) rfl)) ?_
          refine FA.take (i := 8) (l' := #[true, true, true, true, true, true, true, true, true]) rfl (by kernel_rfl) (by kernel_rfl) (by kernel_rfl) (by kernel_rfl) (Sl.of_inc r1226.run.inc S1225.sl) rfl rfl rfl (fun w' hw' => (E.assign (v := v2423) rfl)) ?_
          exact FA.done (by kernel_rfl) ⟨_, _, _, _, _, _, _, _, _, _, (S1225.sel [2, 0, 1] (by decide) rfl), r1226.run.inc, (els425.mono (up_mono r1226.run.inc)), els1230, (els2427.mono (up_mono r1226.run.inc)), (show (bl []).Nodup from List.nodup_nil), rfl, rfl, rfl, rfl⟩
    ·
      refine FO.call (l' := #[false, true, true, true, true, false, false, false, false]) rfl (by kernel_rfl) rfl rfl rfl (E.call Tryz.call118 (A1 rfl)) (w_spec_l7Needed S23.sl v0 a0 p0 hr1222) ?_
      rintro e w1224 ⟨H1223, v1227, n1228, cs1229, rfl, r1226, els1230⟩
      refine ⟨_, rfl, ?_⟩
      have els1230 := els1230.mono (up_le S23.size)
      have S1225 := S23.join (l' := [.row 4 1 v1227 n1228 cs1229]) r1226 rfl
      refine ⟨(Sl.of_inc r1226.run.inc S1225.sl), ?_⟩
      refine FA.all2 (i := 0) (j := 5) (by kernel_rfl) ?_ ?_
      ·
        obtain ⟨v421, w422, run423, S424⟩ := S1225.buildSlice (P := Tryz.prog) te41 [] (parts := #[]) (cells := []) rfl szs_nil fc_nil ones_nil (Nat.le_of_ble_eq_true rfl)
        have els425 : Els (up wa.heap.size H1223) eResStep 4 [] [] := Els.nil
        refine FO.val (l' := #[true, true, true, true, true, false, false, false, false]) rfl (by kernel_rfl) rfl rfl rfl (E.buildSlice (B0) run423) ?_
        refine ⟨(Sl.of_inc r1226.run.inc S424.sl), ?_⟩
        refine FA.take (i := 6) (l' := #[true, true, true, true, true, false, true, false, false]) rfl (by kernel_rfl) (by kernel_rfl) (by kernel_rfl) (by kernel_rfl) (Sl.of_inc r1226.run.inc S424.sl) rfl rfl rfl (fun w' hw' => (E.assign (v := v421) rfl)) ?_
        refine FA.take (i := 7) (l' := #[true, true, true, true, true, false, true, true, false]) rfl (by kernel_rfl) (by kernel_rfl) (by kernel_rfl) (by kernel_rfl) (Sl.of_inc r1226.run.inc S424.sl) rfl rfl rfl (fun w' hw' => (E.assign (v := v1227) rfl)) ?_
        refine FA.all1 (i := 5) (by kernel_rfl) ?_
        ·
          obtain ⟨v2423, w2424, n2428, cs2429, run2425, S2426, els2427, hbl2430⟩ := S424.makeEls (P := Tryz.prog) te61 (G := (up wa.heap.size H1223)) (En := eI) (x0 := 0) hm2422 rfl (ones_cons rfl ones_nil) .i64 .i64
          refine FO.val (l' := #[true, true, true, true, true, true, true, true, false]) rfl (by kernel_rfl) rfl rfl rfl (E.makeSlice rfl rfl run2425) ?_
          refine ⟨(Sl.of_inc r1226.run.inc S2426.sl), ?_⟩
          refine FA.take (i := 8) (l' := #[true, true, true, true, true, true, true, true, true]) rfl (by kernel_rfl) (by kernel_rfl) (by kernel_rfl) (by kernel_rfl) (Sl.of_inc r1226.run.inc S2426.sl) rfl rfl rfl (fun w' hw' => (E.assign (v := v2423) rfl)) ?_
          exact FA.done (by kernel_rfl) ⟨_, _, _, _, _, _, _, _, _, _, (S2426.sel [1, 2, 0] (by decide) rfl), r1226.run.inc, els425, els1230, els2427, (show (bl []).Nodup from List.nodup_nil), rfl, rfl, rfl, rfl⟩
      ·
        obtain ⟨v2423, w2424, n2428, cs2429, run2425, S2426, els2427, hbl2430⟩ := S1225.makeEls (P := Tryz.prog) te61 (G := (up wa.heap.size H1223)) (En := eI) (x0 := 0) hm2422 rfl (ones_cons rfl ones_nil) .i64 .i64
        refine FO.val (l' := #[false, true, true, true, true, true, false, false, false]) rfl (by kernel_rfl) rfl rfl rfl (E.makeSlice rfl rfl run2425) ?_
        refine ⟨(Sl.of_inc r1226.run.inc S2426.sl), ?_⟩
        refine FA.all1 (i := 0) (by kernel_rfl) ?_
        ·
          obtain ⟨v421, w422, run423, S424⟩ := S2426.buildSlice (P := Tryz.prog) te41 [] (parts := #[]) (cells := []) rfl szs_nil fc_nil ones_nil (Nat.le_of_ble_eq_true rfl)
          have els425 : Els (up wa.heap.size H1223) eResStep 4 [] [] := Els.nil
          refine FO.val (l' := #[true, true, true, true, true, true, false, false, false]) rfl (by kernel_rfl) rfl rfl rfl (E.buildSlice (B0) run423) ?_
          refine ⟨(Sl.of_inc r1226.run.inc S424.sl), ?_⟩
          refine FA.take (i := 6) (l' := #[true, true, true, true, true, true, true, false, false]) rfl (by kernel_rfl) (by kernel_rfl) (by kernel_rfl) (by kernel_rfl) (Sl.of_inc r1226.run.inc S424.sl) rfl rfl rfl (fun w' hw' => (E.assign (v := v421) rfl)) ?_
          refine FA.take (i := 7) (l' := #[true, true, true, true, true, true, true, true, false]) rfl (by kernel_rfl) (by kernel_rfl) (by kernel_rfl) (by kernel_rfl) (Sl.of_inc r1226.run.inc S424.sl) rfl rfl rfl (fun w' hw' => (E.assign (v := v1227) rfl)) ?_
          refine FA.take (i := 8) (l' := #[true, true, true, true, true, true, true, true, true]) rfl (by kernel_rfl) (by kernel_rfl) (by kernel_rfl) (by kernel_rfl) (Sl.of_inc r1226.run.inc S424.sl) rfl rfl rfl (fun w' hw' => (E.assign (v := v2423) rfl)) ?_
          exact FA.done (by kernel_rfl) ⟨_, _, _, _, _, _, _, _, _, _, (S424.sel [0, 2, 1] (by decide) rfl), r1226.run.inc, els425, els1230, els2427, (show (bl []).Nodup from List.nodup_nil), rfl, rfl, rfl, rfl⟩
    ·
      obtain ⟨v2423, w2424, n2428, cs2429, run2425, S2426, els2427, hbl2430⟩ := S23.makeEls (P := Tryz.prog) te61 (G := (up wa.heap.size Ha)) (En := eI) (x0 := 0) hm2422 rfl (ones_cons rfl ones_nil) .i64 .i64
      refine FO.val (l' := #[false, true, false, true, true, true, false, false, false]) rfl (by kernel_rfl) rfl rfl rfl (E.makeSlice rfl rfl run2425) ?_
      refine ⟨S2426.sl, ?_⟩
      refine FA.all2 (i := 0) (j := 2) (by kernel_rfl) ?_ ?_
      ·
        obtain ⟨v421, w422, run423, S424⟩ := S2426.buildSlice (P := Tryz.prog) te41 [] (parts := #[]) (cells := []) rfl szs_nil fc_nil ones_nil (Nat.le_of_ble_eq_true rfl)
        have els425 : Els (up wa.heap.size Ha) eResStep 4 [] [] := Els.nil
        refine FO.val (l' := #[true, true, false, true, true, true, false, false, false]) rfl (by kernel_rfl) rfl rfl rfl (E.buildSlice (B0) run423) ?_
        refine ⟨S424.sl, ?_⟩
        refine FA.all1 (i := 2) (by kernel_rfl) ?_
        ·
          refine FO.call (l' := #[true, true, true, true, true, true, false, false, false]) rfl (by kernel_rfl) rfl rfl rfl (E.call Tryz.call118 (A1 rfl)) (w_spec_l7Needed S424.sl v0 a0 p0 hr1222) ?_
          rintro e w1224 ⟨H1223, v1227, n1228, cs1229, rfl, r1226, els1230⟩
          refine ⟨_, rfl, ?_⟩
          have els1230 := els1230.mono (up_le S424.size)
          have S1225 := S424.join (l' := [.row 4 1 v1227 n1228 cs1229, .row 103 4 v421 0 [], .row 3 1 v2423 n2428 cs2429]) r1226 rfl
          refine ⟨(Sl.of_inc r1226.run.inc S1225.sl), ?_⟩
          refine FA.take (i := 6) (l' := #[true, true, true, true, true, true, true, false, false]) rfl (by kernel_rfl) (by kernel_rfl) (by kernel_rfl) (by kernel_rfl) (Sl.of_inc r1226.run.inc S1225.sl) rfl rfl rfl (fun w' hw' => (E.assign (v := v421) rfl)) ?_
          refine FA.take (i := 7) (l' := #[true, true, true, true, true, true, true, true, false]) rfl (by kernel_rfl) (by kernel_rfl) (by kernel_rfl) (by kernel_rfl) (Sl.of_inc r1226.run.inc S1225.sl) rfl rfl rfl (fun w' hw' => (E.assign (v := v1227) rfl)) ?_
          refine FA.take (i := 8) (l' := #[true, true, true, true, true, true, true, true, true]) rfl (by kernel_rfl) (by kernel_rfl) (by kernel_rfl) (by kernel_rfl) (Sl.of_inc r1226.run.inc S1225.sl) rfl rfl rfl (fun w' hw' => (E.assign (v := v2423) rfl)) ?_
          exact FA.done (by kernel_rfl) ⟨_, _, _, _, _, _, _, _, _, _, (S1225.sel [1, 0, 2] (by decide) rfl), r1226.run.inc, (els425.mono (up_mono r1226.run.inc)), els1230, (els2427.mono (up_mono r1226.run.inc)), (show (bl []).Nodup from List.nodup_nil), rfl, rfl, rfl, rfl⟩
      ·
        refine FO.call (l' := #[false, true, true, true, true, true, false, false, false]) rfl (by kernel_rfl) rfl rfl rfl (E.call Tryz.call118 (A1 rfl)) (w_spec_l7Needed S2426.sl v0 a0 p0 hr1222) ?_
        rintro e w1224 ⟨H1223, v1227, n1228, cs1229, rfl, r1226, els1230⟩
        refine ⟨_, rfl, ?_⟩
        have els1230 := els1230.mono (up_le S2426.size)
        have S1225 := S2426.join (l' := [.row 4 1 v1227 n1228 cs1229, .row 3 1 v2423 n2428 cs2429]) r1226 rfl
        refine ⟨(Sl.of_inc r1226.run.inc S1225.sl), ?_⟩
        refine FA.all1 (i := 0) (by kernel_rfl) ?_
        ·
          obtain ⟨v421, w422, run423, S424⟩ := S1225.buildSlice (P := Tryz.prog) te41 [] (parts := #[]) (cells := []) rfl szs_nil fc_nil ones_nil (Nat.le_of_ble_eq_true rfl)
          have els425 : Els (up wa.heap.size H1223) eResStep 4 [] [] := Els.nil
          refine FO.val (l' := #[true, true, true, true, true, true, false, false, false]) rfl (by kernel_rfl) rfl rfl rfl (E.buildSlice (B0) run423) ?_
          refine ⟨(Sl.of_inc r1226.run.inc S424.sl), ?_⟩
          refine FA.take (i := 6) (l' := #[true, true, true, true, true, true, true, false, false]) rfl (by kernel_rfl) (by kernel_rfl) (by kernel_rfl) (by kernel_rfl) (Sl.of_inc r1226.run.inc S424.sl) rfl rfl rfl (fun w' hw' => (E.assign (v := v421) rfl)) ?_
          refine FA.take (i := 7) (l' := #[true, true, true, true, true, true, true, true, false]) rfl (by kernel_rfl) (by kernel_rfl) (by kernel_rfl) (by kernel_rfl) (Sl.of_inc r1226.run.inc S424.sl) rfl rfl rfl (fun w' hw' => (E.assign (v := v1227) rfl)) ?_
          refine FA.take (i := 8) (l' := #[true, true, true, true, true, true, true, true, true]) rfl (by kernel_rfl) (by kernel_rfl) (by kernel_rfl) (by kernel_rfl) (Sl.of_inc r1226.run.inc S424.sl) rfl rfl rfl (fun w' hw' => (E.assign (v := v2423) rfl)) ?_
          exact FA.done (by kernel_rfl) ⟨_, _, _, _, _, _, _, _, _, _, S424, r1226.run.inc, els425, els1230, (els2427.mono (up_mono r1226.run.inc)), (show (bl []).Nodup from List.nodup_nil), rfl, rfl, rfl, rfl⟩
  ·
    rintro f4439 w4438 ⟨H4435, v4421, n4422, cs4423, v4426, n4427, cs4428, v4430, n4431, cs4432, S4436, i4437, els4424, els4429, els4433, nd4425, k4440, k4441, k4442, k4443⟩
    refine FW.seq ?_
    refine FW.seq ?_
    refine FW.region ?_
    refine FL.val rfl rfl rfl (E.assign (v := Value.int .i64 0) rfl) ?_
    refine FL.nil ?_
    obtain ⟨q4445, hq, hp⟩ := bndR hp
    refine FW.block ?_
    refine FW.mono (FW.forL (S := ((List ResStep) × (List Int))) (X := Empty) (fun (i4445 : Nat) (s4445 : ((List ResStep) × (List Int))) f w => ∃ H : GH, ∃ v4528 : Value, ∃ n4529 : Nat, ∃ cs4530 : List Value, ∃ v4533 : Value, ∃ n4534 : Nat, ∃ cs4535 : List Value, St Ha wa H w [.row 103 4 v4528 n4529 cs4530, .row 4 1 v4426 n4427 cs4428, .row 3 1 v4533 n4534 cs4535] ∧ Inc H4435 H ∧ Els (up wa.heap.size H) eResStep 4 cs4530 s4445.1 ∧ Els (up wa.heap.size H) eI 1 cs4535 s4445.2 ∧ (bl cs4530).Nodup ∧ f 6 = Value.int .i64 ((i4445 : Nat) : Int) ∧ f 0 = v0 ∧ f 3 = v4528 ∧ f 4 = v4426 ∧ f 5 = v4533) (fun (q : Rs ((List ResStep) × (List Int)) Empty) e f w => match q with | .go s4445 => e = Exit.exit 0 ∧ (∃ H : GH, ∃ v4528 : Value, ∃ n4529 : Nat, ∃ cs4530 : List Value, ∃ v4533 : Value, ∃ n4534 : Nat, ∃ cs4535 : List Value, St Ha wa H w [.row 103 4 v4528 n4529 cs4530, .row 4 1 v4426 n4427 cs4428, .row 3 1 v4533 n4534 cs4535] ∧ Inc H4435 H ∧ Els (up wa.heap.size H) eResStep 4 cs4530 s4445.1 ∧ Els (up wa.heap.size H) eI 1 cs4535 s4445.2 ∧ (bl cs4530).Nodup ∧ f 3 = v4528) | .rt x => x.elim) hq ⟨_, _, _, _, _, _, _, S4436, (Inc.rfl _), els4424, els4433, nd4425, rfl, k4440, k4441, k4442, k4443⟩ ?_ ?_) ?_
    ·
      clear hp hq
      rintro i4445 y4444 s4445 f4618 w4617 ⟨H4614, v4528, n4529, cs4530, v4533, n4534, cs4535, S4615, i4616, els4531, els4536, nd4532, k4619, k4620, k4621, k4622, k4623⟩ hx4445 o4691 hp
      refine FW.seq ?_
      refine FW.seq ?_
      refine FW.region ?_
      refine FL.val rfl rfl rfl (E.move k4619) ?_
      refine FL.val rfl rfl rfl (E.move k4620) ?_
      refine FL.val rfl rfl rfl (E.lenP te41 rfl p0) ?_
      refine FL.val rfl rfl rfl (E.lssT rfl rfl (lss_len hx4445)) ?_
      refine FL.nil ?_
      refine FW.condT rfl rfl ?_
      refine FW.skip ?_
      refine FW.seq ?_
      refine FW.block ?_
      refine FW.seq ?_
      refine FW.region ?_
      refine FL.val rfl rfl rfl (E.move k4622) ?_
      refine FL.val rfl rfl rfl (E.move k4619) ?_
      obtain ⟨x4630, hx4631, hp⟩ := bnd hp
      obtain ⟨p4624, cs4625, pt4626, l4627, at4628, rel4629⟩ := S4615.row_at (i := 1) rfl els4429 (by decide) hx4631
      obtain rfl := eB_open rel4629
      refine FL.val rfl rfl rfl (E.indexAddr te128 rfl rfl pt4626) ?_
      refine FL.val rfl rfl rfl (E.load rfl (run_load0 Tryz.isAgg4 at4628 rfl)) ?_
      refine FL.nil ?_
      rcases ifB hp with ⟨c4632, hp⟩ | ⟨c4632, hp⟩
      ·
        refine FW.condT rfl c4632 ?_
        refine FW.seq ?_
        refine FW.region ?_
        refine FL.val rfl rfl rfl (E.move k4623) ?_
        refine FL.val rfl rfl rfl (E.move k4619) ?_
        refine FL.val rfl rfl rfl (E.move k4621) ?_
        refine FL.val rfl rfl rfl (E.lenO te41 rfl S4615 (i := 0) rfl els4531 (by decide)) ?_
        obtain ⟨x4639, hx4640, hp⟩ := bnd hp
        obtain ⟨p4633, cs4634, pt4635, l4636, at4637, rel4638⟩ := S4615.row_at (i := 2) rfl els4536 (by decide) hx4640
        obtain rfl := eI_open rel4638
        refine FL.val rfl rfl rfl (E.indexAddr te61 rfl rfl pt4635) ?_
        obtain ⟨xs4644, hput4645, hp⟩ := bnd hp
        obtain ⟨w4641, cs4647, run4642, S4643, els4646, ce4648⟩ := S4615.putEls (P := Tryz.prog) (t := 3) (i := 2) rfl els4536 hput4645 pt4635 Tryz.sizeOf3 (u := Value.int .i64 (len s4445.1)) (c := [Value.int .i64 (len s4445.1)]) rfl rfl (ones_cons rfl ones_nil) rfl
        have S4643 : St Ha wa H4614 w4641 [.row 103 4 v4528 n4529 cs4530, .row 4 1 v4426 n4427 cs4428, .row 3 1 v4533 n4534 cs4647] := S4643
        refine FL.act rfl rfl (E.store rfl rfl run4642) ?_
        refine FL.nil ?_
        refine FW.region ?_
        refine FL.val rfl rfl rfl (E.move k4621) ?_
        refine FL.val rfl rfl rfl (E.move k4620) ?_
        refine FL.val rfl rfl rfl (E.move k4619) ?_
        obtain ⟨p4649, cs4650, pt4651, l4652, at4653, rel4654⟩ := p0.at (ix_nat hx4445)
        obtain ⟨v4655, rfl, h4656⟩ := eResStep_open rel4654
        refine FL.val rfl rfl rfl (E.indexAddr te41 rfl rfl pt4651) ?_
        refine FL.val rfl rfl rfl (E.load rfl (run_loadA Tryz.isAgg103 Tryz.sizeOf103 ((at4653.mono (i4437.tr i4616)).now S4643.sl) rfl)) ?_
        refine FL.val rfl rfl rfl (E.move k4623) ?_
        obtain ⟨H4657, S4658, i4659, h4660, nv4661⟩ := S4643.sealRowU (i := 2) (l' := [.row 103 4 v4528 n4529 cs4530, .row 4 1 v4426 n4427 cs4428]) rfl els4646 (by decide) rfl
        obtain ⟨r4662, hr4663, hp⟩ := bnd hp
        refine FL.call rfl rfl rfl (E.call Tryz.call165 (A2 rfl rfl)) (w_spec_l7Moved S4658.sl y4444 v4655 (h4656.mono ((i4437.tr i4616).tr i4659)) v4533 xs4644 (h4660.mono upI) hr4663) ?_
        rintro e w4665 ⟨H4664, v4670, rfl, r4667, h4671⟩
        refine ⟨_, rfl, ?_⟩
        obtain ⟨H4668, r4667, hU4669⟩ := Run.lendX i4659 S4643.sl r4667
        have nv4672 : New H4614 [v4670] := New.of_up S4643.sl h4671.dom
        have h4671 := h4671.mono (hU4669.tr (up_le S4643.size))
        have S4666 := S4643.call r4667
        obtain ⟨v4673, w4674, run4675, S4676⟩ := S4666.buildSlice (P := Tryz.prog) te41 [Value.agg #[v4670, Value.int .i64 r4662.left, Value.int .i64 r4662.right, Value.int .i64 r4662.pivot]] (parts := #[(0, Value.agg #[v4670, Value.int .i64 r4662.left, Value.int .i64 r4662.right, Value.int .i64 r4662.pivot])]) (cells := [v4670, Value.int .i64 r4662.left, Value.int .i64 r4662.right, Value.int .i64 r4662.pivot]) rfl (szs_cons rfl szs_nil) (fc_cons rfl fc_nil) (ones_cons h4671.one (ones_cons rfl (ones_cons rfl (ones_cons rfl ones_nil)))) (Nat.le_of_ble_eq_true rfl)
        have els4677 : Els (up wa.heap.size H4668) eResStep 4 [v4670, Value.int .i64 r4662.left, Value.int .i64 r4662.right, Value.int .i64 r4662.pivot] [r4662] := (Els.snoc (H := (up wa.heap.size H4668)) (E := eResStep) (k := 4) (c := [v4670, Value.int .i64 r4662.left, Value.int .i64 r4662.right, Value.int .i64 r4662.pivot]) (x := r4662) Els.nil rfl ⟨_, rfl, h4671⟩)
        have nd4678 : (bl [v4670, Value.int .i64 r4662.left, Value.int .i64 r4662.right, Value.int .i64 r4662.pivot]).Nodup := by exact nd_one v4670
        refine FL.val rfl rfl rfl (E.buildSlice (B1 rfl) run4675) ?_
        obtain ⟨xs4679, hz4680, hp⟩ := bnd hp
        obtain ⟨v4681, w4684, n4682, cs4683, run4685, S4686, els4687, ce4688⟩ := S4676.appendO (P := Tryz.prog) te41 (i := 1) (j := 0) rfl (els4531.mono (up_mono r4667.inc)) rfl els4677 hz4680
        have S4686 : St Ha wa H4668 w4684 [.row 103 4 v4673 1 [v4670, Value.int .i64 r4662.left, Value.int .i64 r4662.right, Value.int .i64 r4662.pivot], .row 103 4 v4681 n4682 cs4683, .row 4 1 v4426 n4427 cs4428, .row 3 1 v4533 n4534 cs4647] := S4686
        have nd4689 : (bl cs4683).Nodup := by rw [ce4688]; exact nd_app nd4532 nd4678 (Els.dom (els4531.mono (upI.tr (Inc.rfl _)))) (by exact nv4672)
        have S4690 : St Ha wa H4668 w4684 [.row 103 4 v4681 n4682 cs4683, .row 4 1 v4426 n4427 cs4428, .row 3 1 v4533 n4534 cs4647] := S4686.drop 0
        refine FL.val rfl rfl rfl (E.append rfl rfl run4685) ?_
        refine FL.val rfl rfl rfl (E.assign (v := v4681) rfl) ?_
        refine FL.nil ?_
        refine FW.region ?_
        refine FL.val rfl rfl rfl (E.move k4619) ?_
        refine FL.val rfl rfl rfl (E.add rfl rfl) ?_
        refine FL.val rfl rfl rfl (E.assign (v := Value.int .i64 (wr (((i4445 : Nat) : Int) + 1))) rfl) ?_
        refine FL.nil ?_
        obtain rfl := Option.some.inj hp
        exact ⟨rfl, ⟨_, _, _, _, _, _, _, S4690, (i4616.tr r4667.inc), els4687, (els4646.mono (up_mono r4667.inc)), nd4689, (nat_succ rfl (lt_of_get hx4445) (p0.mono ((i4437.tr i4616).tr r4667.inc)).le), k4620, rfl, k4622, k4623⟩⟩
      ·
        refine FW.condF rfl c4632 ?_
        refine FW.skip ?_
        refine FW.region ?_
        refine FL.val rfl rfl rfl (E.move k4619) ?_
        refine FL.val rfl rfl rfl (E.add rfl rfl) ?_
        refine FL.val rfl rfl rfl (E.assign (v := Value.int .i64 (wr (((i4445 : Nat) : Int) + 1))) rfl) ?_
        refine FL.nil ?_
        obtain rfl := Option.some.inj hp
        exact ⟨rfl, ⟨_, _, _, _, _, _, _, S4615, i4616, els4531, els4536, nd4532, (nat_succ rfl (lt_of_get hx4445) (p0.mono (i4437.tr i4616)).le), k4620, k4621, k4622, k4623⟩⟩
    ·
      clear hp hq
      rintro s4445 f4702 w4701 ⟨H4698, v4528, n4529, cs4530, v4533, n4534, cs4535, S4699, i4700, els4531, els4536, nd4532, k4703, k4704, k4705, k4706, k4707⟩
      refine FW.seq ?_
      refine FW.seq ?_
      refine FW.region ?_
      refine FL.val rfl rfl rfl (E.move k4703) ?_
      refine FL.val rfl rfl rfl (E.move k4704) ?_
      refine FL.val rfl rfl rfl (E.lenP te41 rfl p0) ?_
      refine FL.val rfl rfl rfl (E.lss rfl rfl) ?_
      refine FL.nil ?_
      refine FW.condF rfl dlt_len ?_
      refine FW.exit ?_
      exact ⟨nofun, rfl, ⟨_, _, _, _, _, _, _, S4699, i4700, els4531, els4536, nd4532, k4705⟩⟩
    ·
      clear hq
      intro e f4696 w4695 hD
      rcases q4445 with s4445 | x4445
      ·
        obtain ⟨rfl, hD⟩ := hD
        obtain ⟨H4692, v4528, n4529, cs4530, v4533, n4534, cs4535, S4693, i4694, els4531, els4536, nd4532, k4697⟩ := hD
        replace hp := el_go hp
        refine FW.seq ?_
        refine FW.region ?_
        refine FL.val rfl rfl rfl (E.move k4697) ?_
        refine FL.val rfl rfl rfl (E.assign (v := v4528) rfl) ?_
        refine FL.nil ?_
        refine FW.ret ?_
        obtain rfl := Option.some.inj hp
        exact ⟨.inr rfl, res1 rfl rfl ⟨_, _, _, _, rfl, (S4693.sel [0] (by decide) rfl), els4531, nd4532⟩⟩
      · exact x4445.elim

@[reducible] def p_spec_TrimSteps (Ha : GH) (wa : World) (r : ((List ResStep) × Bool)) : Ending → World → Prop :=
  fun e w' => ∃ H' : GH, ∃ v0 : Value, ∃ n0 : Nat, ∃ c0 : List Value, e = .returned (Value.tuple #[v0, Value.bool r.2]) ∧ St Ha wa H' w' [.row 103 4 v0 n0 c0] ∧ Els (up wa.heap.size H') eResStep 4 c0 r.1 ∧ (bl c0).Nodup
theorem w_spec_TrimSteps {Ha : GH} {wa : World} (hs : Sl Ha wa) (a0 : Cnf) (v0_1 : Value) (p0_1 : RSl Ha (eL eI 1) 1 v0_1 a0.clauses) (v1 : Value) (a1 : List ResStep) (p1 : RSl Ha eResStep 4 v1 a1) {r : ((List ResStep) × Bool)} (hp : (PF.spec_TrimSteps a0 a1) = some r) :
    Calls Tryz.prog 54 #[Value.agg #[Value.int .i64 a0.vars, v0_1], v1] wa (p_spec_TrimSteps Ha wa r) := by
  unfold PF.spec_TrimSteps at hp
  have S0 := St.init hs
  refine calls_go (N := 13) (args := [Value.agg #[Value.int .i64 a0.vars, v0_1], v1]) Tryz.func54 rfl rfl rfl ?_
  refine FW.seq ?_
  refine FW.region ?_
  obtain ⟨b21, w22, run23, S24⟩ := S0.box (P := Tryz.prog) 30 [Value.int .i64 a0.vars, v0_1] (v := Value.agg #[Value.int .i64 a0.vars, v0_1]) rfl (ones_cons rfl (ones_cons p0_1.one ones_nil))
  refine FL.val rfl rfl rfl (E.box rfl run23) ?_
  obtain ⟨H25, S26, i27, at28⟩ := S24.sealBox (i := 0) (l' := []) rfl rfl
  refine FL.val rfl rfl rfl (E.assign (v := Value.slice none 0 0) rfl) ?_
  refine FL.val rfl rfl rfl (E.assign (v := Value.bool false) rfl) ?_
  refine FL.nil ?_
  refine FW.seq ?_
  refine FW.seq ?_
  refine FW.region ?_
  refine FL.val rfl rfl rfl (E.load rfl (run_loadA Tryz.isAgg30 Tryz.sizeOf30 (at28.now S26.sl) rfl)) ?_
  refine FL.val rfl rfl rfl (E.move (v := v1) rfl) ?_
  obtain ⟨r29, hr30, hp⟩ := bnd hp
  refine FL.call rfl rfl rfl (E.call Tryz.call115 (A2 rfl rfl)) (w_spec_l7Good S26.sl a0 v0_1 (p0_1.mono i27) v1 a1 (p1.mono i27) hr30) ?_
  rintro e w31 ⟨rfl, r32⟩
  refine ⟨_, rfl, ?_⟩
  have S33 := S26.call r32
  refine FL.val rfl rfl rfl (E.not rfl) ?_
  refine FL.nil ?_
  rcases ifB hp with ⟨c34, hp⟩ | ⟨c34, hp⟩
  ·
    refine FW.condT rfl c34 ?_
    refine FW.seq ?_
    refine FW.region ?_
    obtain ⟨v35, w36, run37, S38⟩ := S33.buildSlice (P := Tryz.prog) te41 [] (parts := #[]) (cells := []) rfl szs_nil fc_nil ones_nil (Nat.le_of_ble_eq_true rfl)
    have els39 : Els (up wa.heap.size H25) eResStep 4 [] [] := Els.nil
    refine FL.val rfl rfl rfl (E.buildSlice (B0) run37) ?_
    refine FL.val rfl rfl rfl (E.assign (v := v35) rfl) ?_
    refine FL.val rfl rfl rfl (E.assign (v := Value.bool false) rfl) ?_
    refine FL.nil ?_
    refine FW.ret ?_
    obtain rfl := Option.some.inj hp
    exact ⟨.inr rfl, res2 rfl rfl rfl ⟨_, _, _, _, rfl, S38, els39, (show (bl []).Nodup from List.nodup_nil)⟩⟩
  ·
    refine FW.condF rfl c34 ?_
    refine FW.skip ?_
    refine FW.seq ?_
    refine FW.region ?_
    refine FL.val rfl rfl rfl (E.move (v := v1) rfl) ?_
    obtain ⟨r40, hr41, hp⟩ := bnd hp
    refine FL.call rfl rfl rfl (E.call Tryz.call116 (A1 rfl)) (w_spec_l7Trim S33.sl v1 a1 (p1.mono i27) hr41) ?_
    rintro e w43 ⟨H42, v46, n47, cs48, rfl, r45, els49, nd50⟩
    refine ⟨_, rfl, ?_⟩
    have nv51 : New H25 cs48 := New.of_up S33.sl els49.dom
    have els49 := els49.mono (up_le S33.size)
    have S44 := S33.join (l' := [.row 103 4 v46 n47 cs48]) r45 rfl
    refine FL.val rfl rfl rfl (E.assign (v := v46) rfl) ?_
    refine FL.val rfl rfl rfl (E.assign (v := Value.bool true) rfl) ?_
    refine FL.nil ?_
    refine FW.ret ?_
    obtain rfl := Option.some.inj hp
    exact ⟨.inr rfl, res2 rfl rfl rfl ⟨_, _, _, _, rfl, S44, els49, nd50⟩⟩

theorem w_impl_within {Ha : GH} {wa : World} (hs : Sl Ha wa) (a0 : Int) (a1 : Int) (a2 : Int) :
    Calls Tryz.prog 111 #[Value.int .i64 a0, Value.int .i64 a1, Value.int .i64 a2] wa (Sc Ha wa (Value.bool (PF.impl_within a0 a1 a2))) := by
  obtain ⟨r, hp⟩ : ∃ r, (PF.impl_within a0 a1 a2) = r := ⟨_, rfl⟩
  rw [hp]
  unfold PF.impl_within at hp
  have S0 := St.init hs
  refine calls_go (N := 15) (args := [Value.int .i64 a0, Value.int .i64 a1, Value.int .i64 a2]) Tryz.func111 rfl rfl rfl ?_
  refine FW.seq ?_
  refine FW.region ?_
  refine FL.val rfl rfl rfl (E.assign (v := Value.bool false) rfl) ?_
  refine FL.nil ?_
  refine FW.seq ?_
  refine FW.region ?_
  refine FL.val rfl rfl rfl (E.move (v := Value.int .i64 a0) rfl) ?_
  refine FL.val rfl rfl rfl (E.move (v := Value.int .i64 a1) rfl) ?_
  refine FL.val rfl rfl rfl (E.geq rfl rfl) ?_
  refine FL.val rfl rfl rfl (E.move (v := Value.bool (decide (a1 ≤ a0))) rfl) ?_
  refine FL.cut 4 (fun f w => ∃ H : GH, St Ha wa H w [] ∧ Inc Ha H ∧ f 14 = Value.bool (bif (decide (a1 ≤ a0)) then (decide (a0 ≤ a2)) else false)) ?_ ?_
  ·
    rcases bcase (decide (a1 ≤ a0)) with c27 | c27
    ·
      refine FL.val (wF_yes rfl rfl rfl c27) rfl rfl (E.move (v := Value.int .i64 a0) rfl) ?_
      refine FL.val (wF_yes rfl rfl rfl c27) rfl rfl (E.move (v := Value.int .i64 a2) rfl) ?_
      refine FL.val (wF_yes rfl rfl rfl c27) rfl rfl (E.leq rfl rfl) ?_
      refine FL.val rfl rfl rfl (E.pickT rfl c27 rfl) ?_
      exact FL.nil ⟨rfl, _, S0, (Inc.rfl _), (congrArg Value.bool (bifT c27).symm)⟩
    ·
      refine FL.skip (wF_no rfl rfl rfl c27) rfl ?_
      refine FL.skip (wF_no rfl rfl rfl c27) rfl ?_
      refine FL.skip (wF_no rfl rfl rfl c27) rfl ?_
      refine FL.val rfl rfl rfl (E.pickF rfl c27 rfl) ?_
      exact FL.nil ⟨rfl, _, S0, (Inc.rfl _), (congrArg Value.bool (bifF c27).symm)⟩
  rintro f26 w25 ⟨H22, S23, i24, k28⟩
  refine FL.val rfl rfl rfl (E.assign k28) ?_
  refine FL.nil ?_
  refine FW.ret ?_
  obtain rfl := hp
  exact ⟨.inr rfl, res1 rfl rfl ⟨rfl, S23.back⟩⟩

theorem w_impl_isLiteral {Ha : GH} {wa : World} (hs : Sl Ha wa) (a0 : Int) (a1 : Int) :
    Calls Tryz.prog 210 #[Value.int .i64 a0, Value.int .i64 a1] wa (Sc Ha wa (Value.bool (PF.impl_isLiteral a0 a1))) := by
  obtain ⟨r, hp⟩ : ∃ r, (PF.impl_isLiteral a0 a1) = r := ⟨_, rfl⟩
  rw [hp]
  unfold PF.impl_isLiteral at hp
  have S0 := St.init hs
  refine calls_go (N := 14) (args := [Value.int .i64 a0, Value.int .i64 a1]) Tryz.func210 rfl rfl rfl ?_
  refine FW.seq ?_
  refine FW.region ?_
  refine FL.val rfl rfl rfl (E.assign (v := Value.bool false) rfl) ?_
  refine FL.nil ?_
  refine FW.seq ?_
  refine FW.region ?_
  refine FL.val rfl rfl rfl (E.move (v := Value.int .i64 a1) rfl) ?_
  refine FL.val rfl rfl rfl (E.neq rfl rfl) ?_
  refine FL.val rfl rfl rfl (E.move (v := Value.bool (!(a1 == 0))) rfl) ?_
  refine FL.cut 6 (fun f w => ∃ H : GH, St Ha wa H w [] ∧ Inc Ha H ∧ f 13 = Value.bool (bif (!(a1 == 0)) then (PF.impl_within a1 (wr (-a0)) a0) else false)) ?_ ?_
  ·
    rcases bcase (!(a1 == 0)) with c30 | c30
    ·
      refine FL.val (wF_yes rfl rfl rfl c30) rfl rfl (E.move (v := Value.int .i64 a1) rfl) ?_
      refine FL.val (wF_yes rfl rfl rfl c30) rfl rfl (E.move (v := Value.int .i64 a0) rfl) ?_
      refine FL.val (wF_yes rfl rfl rfl c30) rfl rfl (E.neg rfl) ?_
      refine FL.val (wF_yes rfl rfl rfl c30) rfl rfl (E.move (v := Value.int .i64 a0) rfl) ?_
      refine FL.call (wF_yes rfl rfl rfl c30) rfl rfl (E.call Tryz.call111 (A3 rfl rfl rfl)) (w_impl_within S0.sl a1 (wr (-a0)) a0) ?_
      rintro e w31 ⟨rfl, r32⟩
      refine ⟨_, rfl, ?_⟩
      have S33 := S0.call r32
      refine FL.val rfl rfl rfl (E.pickT rfl c30 rfl) ?_
      exact FL.nil ⟨rfl, _, S33, (Inc.rfl _), (congrArg Value.bool (bifT c30).symm)⟩
    ·
      refine FL.skip (wF_no rfl rfl rfl c30) rfl ?_
      refine FL.skip (wF_no rfl rfl rfl c30) rfl ?_
      refine FL.skip (wF_no rfl rfl rfl c30) rfl ?_
      refine FL.skip (wF_no rfl rfl rfl c30) rfl ?_
      refine FL.skip (wF_no rfl rfl rfl c30) rfl ?_
      refine FL.val rfl rfl rfl (E.pickF rfl c30 rfl) ?_
      exact FL.nil ⟨rfl, _, S0, (Inc.rfl _), (congrArg Value.bool (bifF c30).symm)⟩
  rintro f29 w28 ⟨H25, S26, i27, k34⟩
  refine FL.val rfl rfl rfl (E.assign k34) ?_
  refine FL.nil ?_
  refine FW.ret ?_
  obtain rfl := hp
  exact ⟨.inr rfl, res1 rfl rfl ⟨rfl, S26.back⟩⟩

theorem w_impl_abs {Ha : GH} {wa : World} (hs : Sl Ha wa) (a0 : Int) :
    Calls Tryz.prog 190 #[Value.int .i64 a0] wa (Sc Ha wa (Value.int .i64 (PF.impl_abs a0))) := by
  obtain ⟨r, hp⟩ : ∃ r, (PF.impl_abs a0) = r := ⟨_, rfl⟩
  rw [hp]
  unfold PF.impl_abs at hp
  have S0 := St.init hs
  refine calls_go (N := 7) (args := [Value.int .i64 a0]) Tryz.func190 rfl rfl rfl ?_
  refine FW.seq ?_
  refine FW.region ?_
  refine FL.val rfl rfl rfl (E.assign (v := Value.int .i64 0) rfl) ?_
  refine FL.nil ?_
  refine FW.seq ?_
  refine FW.region ?_
  refine FL.val rfl rfl rfl (E.move (v := Value.int .i64 a0) rfl) ?_
  refine FL.val rfl rfl rfl (E.move (v := Value.int .i64 a0) rfl) ?_
  refine FL.val rfl rfl rfl (E.neg rfl) ?_
  refine FL.val rfl rfl rfl (E.max2 rfl rfl) ?_
  refine FL.val rfl rfl rfl (E.assign (v := Value.int .i64 (mx a0 (wr (-a0)))) rfl) ?_
  refine FL.nil ?_
  refine FW.ret ?_
  obtain rfl := hp
  exact ⟨.inr rfl, res1 rfl rfl ⟨rfl, S0.back⟩⟩

theorem w_impl_varsOk {Ha : GH} {wa : World} (hs : Sl Ha wa) (a0 : Int) :
    Calls Tryz.prog 150 #[Value.int .i64 a0] wa (Sc Ha wa (Value.bool (PF.impl_varsOk a0))) := by
  obtain ⟨r, hp⟩ : ∃ r, (PF.impl_varsOk a0) = r := ⟨_, rfl⟩
  rw [hp]
  unfold PF.impl_varsOk at hp
  have S0 := St.init hs
  refine calls_go (N := 5) (args := [Value.int .i64 a0]) Tryz.func150 rfl rfl rfl ?_
  refine FW.seq ?_
  refine FW.region ?_
  refine FL.val rfl rfl rfl (E.assign (v := Value.bool false) rfl) ?_
  refine FL.nil ?_
  refine FW.seq ?_
  refine FW.region ?_
  refine FL.val rfl rfl rfl (E.move (v := Value.int .i64 a0) rfl) ?_
  refine FL.call rfl rfl rfl (E.call Tryz.call111 (A3 rfl rfl rfl)) (w_impl_within S0.sl a0 0 12) ?_
  rintro e w21 ⟨rfl, r22⟩
  refine ⟨_, rfl, ?_⟩
  have S23 := S0.call r22
  refine FL.val rfl rfl rfl (E.assign (v := Value.bool (PF.impl_within a0 0 12)) rfl) ?_
  refine FL.nil ?_
  refine FW.ret ?_
  obtain rfl := hp
  exact ⟨.inr rfl, res1 rfl rfl ⟨rfl, S23.back⟩⟩

end Go.Proofs
