/- Part of the walks and plain laws behind the claim: it proves helpers, under no condition beyond their own. -/
import Derived.Test.YtmpfnnkmplkfoaaGreatMr16
import Derived.Test.YtmpfnnkmplkfoaaGreatMr14
import Derived.Test.YtmpfnnkmplkfoaaGreatMr19
import Derived.Test.YtmpfnnkmplkfoaaGreatMr20
import Derived.Test.YtmpfnnkmplkfoaaGreatMr21
import Derived.Test.YtmpfnnkmplkfoaaGreatMr22
import Derived.Test.YtmpfnnkmplkfoaaGreatMr23
import Derived.Test.YtmpfnnkmplkfoaaGreatMr24
import Derived.Test.YtmpfnnkmplkfoaaGreatMr25
import Derived.Test.YtmpfnnkmplkfoaaGreatMr26
import Derived.Test.YtmpfnnkmplkfoaaGreatMr27
import Derived.Test.YtmpfnnkmplkfoaaGreatMr29
import Derived.Test.YtmpfnnkmplkfoaaGreatMr31
import Derived.Test.YtmpfnnkmplkfoaaGreatTcSh
import Derived.Test.YtmpfnnkmplkfoaaGreatTcPf
import Derived.Test.YtmpfnnkmplkfoaaGreatProg
set_option linter.unusedVariables false
set_option maxRecDepth 100000
namespace Go.Proofs
open Go.Mr Go.Pu Go.PF Go.RowKit

def eCnf : Enc Cnf := ⟨fun H cs s => ∃ v0, cs = [Value.int .i64 s.vars, v0] ∧ RSl H (eL eI 1) 1 v0 s.clauses, fun hi ⟨v0, h, h0⟩ => ⟨_, h, h0.mono hi⟩, by rintro H cs s ⟨v0, rfl, h0⟩; exact (ones_cons rfl (ones_cons h0.one ones_nil)), by rintro H cs s ⟨v0, rfl, h0⟩ b hb; obtain ⟨u, hu, hn⟩ := mem_bl hb; simp only [List.mem_cons, List.not_mem_nil, or_false] at hu; rcases hu with rfl | rfl <;> first | (cases hn; done) | exact h0.dom b (mem_bl1 hn)⟩
theorem eCnf_open {H : GH} {cs : List Value} {s : Cnf} (h : eCnf.rel H cs s) : ∃ v0, cs = [Value.int .i64 s.vars, v0] ∧ RSl H (eL eI 1) 1 v0 s.clauses := h

def eResStep : Enc ResStep := ⟨fun H cs s => ∃ v0, cs = [v0, Value.int .i64 s.left, Value.int .i64 s.right, Value.int .i64 s.pivot] ∧ RSl H eI 1 v0 s.clause, fun hi ⟨v0, h, h0⟩ => ⟨_, h, h0.mono hi⟩, by rintro H cs s ⟨v0, rfl, h0⟩; exact (ones_cons h0.one (ones_cons rfl (ones_cons rfl (ones_cons rfl ones_nil)))), by rintro H cs s ⟨v0, rfl, h0⟩ b hb; obtain ⟨u, hu, hn⟩ := mem_bl hb; simp only [List.mem_cons, List.not_mem_nil, or_false] at hu; rcases hu with rfl | rfl | rfl | rfl <;> first | (cases hn; done) | exact h0.dom b (mem_bl1 hn)⟩
theorem eResStep_open {H : GH} {cs : List Value} {s : ResStep} (h : eResStep.rel H cs s) : ∃ v0, cs = [v0, Value.int .i64 s.left, Value.int .i64 s.right, Value.int .i64 s.pivot] ∧ RSl H eI 1 v0 s.clause := h

theorem eResStep_loc : LocE eResStep := by rintro H H' cs x ⟨v0, rfl, h0⟩ hb; exact ⟨_, rfl, h0.only eI_flat.rel (fun b q => hb b (bl_get (i := 0) rfl b q))⟩

def eBench : Enc Bench := ⟨fun H cs s => ∃ v0 v1, cs = [Value.int .i64 s.stage, Value.int .i64 s.formula.vars, v0, v1, Value.int .i64 s.wide, Value.int .i64 s.count] ∧ RSl H (eL eI 1) 1 v0 s.formula.clauses ∧ RSl H eResStep 4 v1 s.steps, fun hi ⟨v0, v1, h, h0, h1⟩ => ⟨_, _, h, h0.mono hi, h1.mono hi⟩, by rintro H cs s ⟨v0, v1, rfl, h0, h1⟩; exact (ones_cons rfl (ones_cons rfl (ones_cons h0.one (ones_cons h1.one (ones_cons rfl (ones_cons rfl ones_nil)))))), by rintro H cs s ⟨v0, v1, rfl, h0, h1⟩ b hb; obtain ⟨u, hu, hn⟩ := mem_bl hb; simp only [List.mem_cons, List.not_mem_nil, or_false] at hu; rcases hu with rfl | rfl | rfl | rfl | rfl | rfl <;> first | (cases hn; done) | exact h0.dom b (mem_bl1 hn) | exact h1.dom b (mem_bl1 hn)⟩
theorem eBench_open {H : GH} {cs : List Value} {s : Bench} (h : eBench.rel H cs s) : ∃ v0 v1, cs = [Value.int .i64 s.stage, Value.int .i64 s.formula.vars, v0, v1, Value.int .i64 s.wide, Value.int .i64 s.count] ∧ RSl H (eL eI 1) 1 v0 s.formula.clauses ∧ RSl H eResStep 4 v1 s.steps := h

def el15Work : Enc l15Work := ⟨fun H cs s => ∃ v0 v1, cs = [v0, Value.int .i64 s.most, v1, Value.bool s.ok] ∧ RSl H (eL eI 1) 1 v0 s.now ∧ RSl H (eL eI 1) 1 v1 s.all, fun hi ⟨v0, v1, h, h0, h1⟩ => ⟨_, _, h, h0.mono hi, h1.mono hi⟩, by rintro H cs s ⟨v0, v1, rfl, h0, h1⟩; exact (ones_cons h0.one (ones_cons rfl (ones_cons h1.one (ones_cons rfl ones_nil)))), by rintro H cs s ⟨v0, v1, rfl, h0, h1⟩ b hb; obtain ⟨u, hu, hn⟩ := mem_bl hb; simp only [List.mem_cons, List.not_mem_nil, or_false] at hu; rcases hu with rfl | rfl | rfl | rfl <;> first | (cases hn; done) | exact h0.dom b (mem_bl1 hn) | exact h1.dom b (mem_bl1 hn)⟩
theorem el15Work_open {H : GH} {cs : List Value} {s : l15Work} (h : el15Work.rel H cs s) : ∃ v0 v1, cs = [v0, Value.int .i64 s.most, v1, Value.bool s.ok] ∧ RSl H (eL eI 1) 1 v0 s.now ∧ RSl H (eL eI 1) 1 v1 s.all := h

def eSpaceStep : Enc SpaceStep := ⟨fun H cs s => cs = [Value.int .i64 s.kind, Value.int .i64 s.a, Value.int .i64 s.b, Value.int .i64 s.pivot], fun _ h => h, by rintro H cs s rfl; exact (ones_cons rfl (ones_cons rfl (ones_cons rfl (ones_cons rfl ones_nil)))), by rintro H cs s rfl b hb; obtain ⟨u, hu, hn⟩ := mem_bl hb; simp only [List.mem_cons, List.not_mem_nil, or_false] at hu; rcases hu with rfl | rfl | rfl | rfl <;> cases hn⟩
theorem eSpaceStep_open {H : GH} {cs : List Value} {s : SpaceStep} (h : eSpaceStep.rel H cs s) : cs = [Value.int .i64 s.kind, Value.int .i64 s.a, Value.int .i64 s.b, Value.int .i64 s.pivot] := h

theorem eSpaceStep_flat : FlatE eSpaceStep := by rintro H H' cs x rfl; exact ⟨rfl, rfl⟩

def eTreeNode : Enc TreeNode := ⟨fun H cs s => cs = [Value.int .i64 s.var, Value.int .i64 s.low, Value.int .i64 s.high, Value.int .i64 s.clause], fun _ h => h, by rintro H cs s rfl; exact (ones_cons rfl (ones_cons rfl (ones_cons rfl (ones_cons rfl ones_nil)))), by rintro H cs s rfl b hb; obtain ⟨u, hu, hn⟩ := mem_bl hb; simp only [List.mem_cons, List.not_mem_nil, or_false] at hu; rcases hu with rfl | rfl | rfl | rfl <;> cases hn⟩
theorem eTreeNode_open {H : GH} {cs : List Value} {s : TreeNode} (h : eTreeNode.rel H cs s) : cs = [Value.int .i64 s.var, Value.int .i64 s.low, Value.int .i64 s.high, Value.int .i64 s.clause] := h

theorem eTreeNode_flat : FlatE eTreeNode := by rintro H H' cs x rfl; exact ⟨rfl, rfl⟩

def eweaver : Enc weaver := ⟨fun H cs s => ∃ v0 v1, cs = [v0, v1] ∧ RSl H eResStep 4 v0 s.steps ∧ RSl H eI 1 v1 s.became, fun hi ⟨v0, v1, h, h0, h1⟩ => ⟨_, _, h, h0.mono hi, h1.mono hi⟩, by rintro H cs s ⟨v0, v1, rfl, h0, h1⟩; exact (ones_cons h0.one (ones_cons h1.one ones_nil)), by rintro H cs s ⟨v0, v1, rfl, h0, h1⟩ b hb; obtain ⟨u, hu, hn⟩ := mem_bl hb; simp only [List.mem_cons, List.not_mem_nil, or_false] at hu; rcases hu with rfl | rfl <;> first | (cases hn; done) | exact h0.dom b (mem_bl1 hn) | exact h1.dom b (mem_bl1 hn)⟩
theorem eweaver_open {H : GH} {cs : List Value} {s : weaver} (h : eweaver.rel H cs s) : ∃ v0 v1, cs = [v0, v1] ∧ RSl H eResStep 4 v0 s.steps ∧ RSl H eI 1 v1 s.became := h

def ering : Enc ring := ⟨fun H cs s => cs = [Value.int .i64 s.p, Value.int .i64 s.vars], fun _ h => h, by rintro H cs s rfl; exact (ones_cons rfl (ones_cons rfl ones_nil)), by rintro H cs s rfl b hb; obtain ⟨u, hu, hn⟩ := mem_bl hb; simp only [List.mem_cons, List.not_mem_nil, or_false] at hu; rcases hu with rfl | rfl <;> cases hn⟩
theorem ering_open {H : GH} {cs : List Value} {s : ring} (h : ering.rel H cs s) : cs = [Value.int .i64 s.p, Value.int .i64 s.vars] := h

theorem ering_flat : FlatE ering := by rintro H H' cs x rfl; exact ⟨rfl, rfl⟩

def ealgebra : Enc algebra := ⟨fun H cs s => ∃ v0 v1, cs = [Value.int .i64 s.ring.p, Value.int .i64 s.ring.vars, Value.int .i64 s.f.vars, v0, v1] ∧ RSl H (eL eI 1) 1 v0 s.f.clauses ∧ RSl H (eL eI 1) 1 v1 s.q, fun hi ⟨v0, v1, h, h0, h1⟩ => ⟨_, _, h, h0.mono hi, h1.mono hi⟩, by rintro H cs s ⟨v0, v1, rfl, h0, h1⟩; exact (ones_cons rfl (ones_cons rfl (ones_cons rfl (ones_cons h0.one (ones_cons h1.one ones_nil))))), by rintro H cs s ⟨v0, v1, rfl, h0, h1⟩ b hb; obtain ⟨u, hu, hn⟩ := mem_bl hb; simp only [List.mem_cons, List.not_mem_nil, or_false] at hu; rcases hu with rfl | rfl | rfl | rfl | rfl <;> first | (cases hn; done) | exact h0.dom b (mem_bl1 hn) | exact h1.dom b (mem_bl1 hn)⟩
theorem ealgebra_open {H : GH} {cs : List Value} {s : algebra} (h : ealgebra.rel H cs s) : ∃ v0 v1, cs = [Value.int .i64 s.ring.p, Value.int .i64 s.ring.vars, Value.int .i64 s.f.vars, v0, v1] ∧ RSl H (eL eI 1) 1 v0 s.f.clauses ∧ RSl H (eL eI 1) 1 v1 s.q := h

def eTerm : Enc Term := ⟨fun H cs s => cs = [Value.int .i64 s.mono, Value.int .i64 s.coeff], fun _ h => h, by rintro H cs s rfl; exact (ones_cons rfl (ones_cons rfl ones_nil)), by rintro H cs s rfl b hb; obtain ⟨u, hu, hn⟩ := mem_bl hb; simp only [List.mem_cons, List.not_mem_nil, or_false] at hu; rcases hu with rfl | rfl <;> cases hn⟩
theorem eTerm_open {H : GH} {cs : List Value} {s : Term} (h : eTerm.rel H cs s) : cs = [Value.int .i64 s.mono, Value.int .i64 s.coeff] := h

theorem eTerm_flat : FlatE eTerm := by rintro H H' cs x rfl; exact ⟨rfl, rfl⟩

def eechelon : Enc echelon := ⟨fun H cs s => ∃ v0 v1, cs = [Value.int .i64 s.ring.p, Value.int .i64 s.ring.vars, v0, v1, Value.int .i64 s.many] ∧ RSl H (eL eI 1) 1 v0 s.rows ∧ RSl H (eL eI 1) 1 v1 s.made, fun hi ⟨v0, v1, h, h0, h1⟩ => ⟨_, _, h, h0.mono hi, h1.mono hi⟩, by rintro H cs s ⟨v0, v1, rfl, h0, h1⟩; exact (ones_cons rfl (ones_cons rfl (ones_cons h0.one (ones_cons h1.one (ones_cons rfl ones_nil))))), by rintro H cs s ⟨v0, v1, rfl, h0, h1⟩ b hb; obtain ⟨u, hu, hn⟩ := mem_bl hb; simp only [List.mem_cons, List.not_mem_nil, or_false] at hu; rcases hu with rfl | rfl | rfl | rfl | rfl <;> first | (cases hn; done) | exact h0.dom b (mem_bl1 hn) | exact h1.dom b (mem_bl1 hn)⟩
theorem eechelon_open {H : GH} {cs : List Value} {s : echelon} (h : eechelon.rel H cs s) : ∃ v0 v1, cs = [Value.int .i64 s.ring.p, Value.int .i64 s.ring.vars, v0, v1, Value.int .i64 s.many] ∧ RSl H (eL eI 1) 1 v0 s.rows ∧ RSl H (eL eI 1) 1 v1 s.made := h

def Fn_I_to_B (P : Program) (H : GH) (v : Value) (p : Int → Option Bool) : Prop :=
 ∀ (H' : GH) (w' : World), Inc H H' → Sl H' w' → ∀ (x0 : Int) (r : Bool), p x0 = some r →
  ∃ (fid : Nat) (cs : Array Value), v = Value.func (.func fid) #[] cs ∧ (∀ args w, (callFunc fid args).run P w = .ok (.enter fid args) w) ∧ Calls P fid (#[Value.int .i64 x0] ++ cs) w' (Sc H' w' (Value.bool r))
theorem Fn_I_to_B.mono {P : Program} {H H' : GH} {v : Value} {p : Int → Option Bool} (h : Fn_I_to_B P H v p) (hi : Inc H H') : Fn_I_to_B P H' v p :=
 fun H2 w2 h2 => h H2 w2 (hi.tr h2)

def Fn_I_I_to_I (P : Program) (H : GH) (v : Value) (p : Int → Int → Option Int) : Prop :=
 ∀ (H' : GH) (w' : World), Inc H H' → Sl H' w' → ∀ (x0 : Int) (x1 : Int) (r : Int), p x0 x1 = some r →
  ∃ (fid : Nat) (cs : Array Value), v = Value.func (.func fid) #[] cs ∧ (∀ args w, (callFunc fid args).run P w = .ok (.enter fid args) w) ∧ Calls P fid (#[Value.int .i64 x0, Value.int .i64 x1] ++ cs) w' (Sc H' w' (Value.int .i64 r))
theorem Fn_I_I_to_I.mono {P : Program} {H H' : GH} {v : Value} {p : Int → Int → Option Int} (h : Fn_I_I_to_I P H v p) (hi : Inc H H') : Fn_I_I_to_I P H' v p :=
 fun H2 w2 h2 => h H2 w2 (hi.tr h2)

theorem te22 : TE Tryz.prog 22 84 1 (.slice none 0 0) := ⟨Tryz.underlying22, ⟨Tryz.t84, Tryz.type84, rfl, rfl, by decide⟩, rfl, by decide⟩
theorem te247 : TE Tryz.prog 247 4 1 (.bool false) := ⟨Tryz.underlying247, ⟨Tryz.t4, Tryz.type4, rfl, rfl, by decide⟩, rfl, by decide⟩
theorem te46 : TE Tryz.prog 46 94 4 (.agg #[(.slice none 0 0), (.int .i64 0), (.int .i64 0), (.int .i64 0)]) := ⟨Tryz.underlying46, ⟨Tryz.t94, Tryz.type94, rfl, rfl, by decide⟩, rfl, by decide⟩
theorem te53 : TE Tryz.prog 53 100 4 (.agg #[(.int .i64 0), (.int .i64 0), (.int .i64 0), (.int .i64 0)]) := ⟨Tryz.underlying53, ⟨Tryz.t100, Tryz.type100, rfl, rfl, by decide⟩, rfl, by decide⟩
theorem te56 : TE Tryz.prog 56 98 4 (.agg #[(.int .i64 0), (.int .i64 0), (.int .i64 0), (.int .i64 0)]) := ⟨Tryz.underlying56, ⟨Tryz.t98, Tryz.type98, rfl, rfl, by decide⟩, rfl, by decide⟩
theorem te84 : TE Tryz.prog 84 3 1 (.int .i64 0) := ⟨Tryz.underlying84, ⟨Tryz.t3, Tryz.type3, rfl, rfl, by decide⟩, rfl, by decide⟩
theorem tf100_0 : TF Tryz.prog 100 0 0 := ⟨_, _, _, Tryz.underlying100, rfl, rfl, Tryz.sizeOf3, by decide⟩
theorem tf100_1 : TF Tryz.prog 100 1 1 := ⟨_, _, _, Tryz.underlying100, rfl, rfl, Tryz.sizeOf3, by decide⟩
theorem tf100_2 : TF Tryz.prog 100 2 2 := ⟨_, _, _, Tryz.underlying100, rfl, rfl, Tryz.sizeOf3, by decide⟩
theorem tf100_3 : TF Tryz.prog 100 3 3 := ⟨_, _, _, Tryz.underlying100, rfl, rfl, Tryz.sizeOf3, by decide⟩
theorem tf105_0 : TF Tryz.prog 105 0 0 := ⟨_, _, _, Tryz.underlying105, rfl, rfl, Tryz.sizeOf46, by decide⟩
theorem tf105_1 : TF Tryz.prog 105 1 1 := ⟨_, _, _, Tryz.underlying105, rfl, rfl, Tryz.sizeOf84, by decide⟩
theorem tf24_0 : TF Tryz.prog 24 0 0 := ⟨_, _, _, Tryz.underlying24, rfl, rfl, Tryz.sizeOf3, by decide⟩
theorem tf24_1 : TF Tryz.prog 24 1 1 := ⟨_, _, _, Tryz.underlying24, rfl, rfl, Tryz.sizeOf22, by decide⟩
theorem tf30_0 : TF Tryz.prog 30 0 0 := ⟨_, _, _, Tryz.underlying30, rfl, rfl, Tryz.sizeOf3, by decide⟩
theorem tf30_1 : TF Tryz.prog 30 1 1 := ⟨_, _, _, Tryz.underlying30, rfl, rfl, Tryz.sizeOf22, by decide⟩
theorem tf94_0 : TF Tryz.prog 94 0 0 := ⟨_, _, _, Tryz.underlying94, rfl, rfl, Tryz.sizeOf84, by decide⟩
theorem tf98_0 : TF Tryz.prog 98 0 0 := ⟨_, _, _, Tryz.underlying98, rfl, rfl, Tryz.sizeOf3, by decide⟩
theorem tf98_1 : TF Tryz.prog 98 1 1 := ⟨_, _, _, Tryz.underlying98, rfl, rfl, Tryz.sizeOf3, by decide⟩
theorem tf98_2 : TF Tryz.prog 98 2 2 := ⟨_, _, _, Tryz.underlying98, rfl, rfl, Tryz.sizeOf3, by decide⟩
theorem tf98_3 : TF Tryz.prog 98 3 3 := ⟨_, _, _, Tryz.underlying98, rfl, rfl, Tryz.sizeOf3, by decide⟩
theorem w_laws_szIntS {Ha : GH} {wa : World} (hs : Sl Ha wa) (v0 : Value) (a0 : List Int) (p0 : RSl Ha eI 1 v0 a0) (a1 : Int) :
  Calls Tryz.prog 89 #[v0, Value.int .i64 a1] wa (Sc Ha wa (Value.int .i64 (PF.laws_szIntS a0 a1))) := by
 obtain ⟨r, hp⟩ : ∃ r, (PF.laws_szIntS a0 a1) = r := ⟨_, rfl⟩
 rw [hp]
 unfold PF.laws_szIntS at hp
 have S0 := St.init hs
 refine calls_go (N := 12) (args := [v0, Value.int .i64 a1]) Tryz.func89 rfl rfl rfl ?_
 refine FW.seq (FW.region ?_)
 refine FL.v (E.assign (v := Value.int .i64 0) rfl) ?_
 refine FL.nil (FW.seq (FW.region ?_))
 refine FL.v (E.move (v := Value.int .i64 a1) rfl) ?_
 refine FL.v (E.move (v := v0) rfl) ?_
 refine FL.v (E.lenP te84 rfl p0) ?_
 refine FL.v (E.sub rfl rfl) ?_
 refine FL.v (E.assign (v := Value.int .i64 (wr (a1 - (len a0)))) rfl) ?_
 refine FL.nil (FW.seq (FW.seq (FW.region ?_)))
 refine FL.v (E.move (v := Value.int .i64 (wr (a1 - (len a0)))) rfl) ?_
 refine FL.v (E.lss rfl rfl) ?_
 refine FL.nil ?_
 rcases ifT hp with ⟨c21, hp⟩ | ⟨c21, hp⟩
 ·
  refine FW.condT rfl c21 ?_
  refine FW.seq (FW.region ?_)
  refine FL.v (E.assign (v := Value.int .i64 (-1)) rfl) ?_
  refine FL.nil ?_
  refine FW.ret ?_
  obtain rfl := hp
  exact ⟨.inr rfl, res1 rfl rfl ⟨rfl, S0.back⟩⟩
 ·
  refine FW.condF rfl c21 ?_
  refine FW.skip (FW.seq (FW.region ?_))
  refine FL.v (E.move (v := Value.int .i64 (wr (a1 - (len a0)))) rfl) ?_
  refine FL.v (E.assign (v := Value.int .i64 (wr (a1 - (len a0)))) rfl) ?_
  refine FL.nil ?_
  refine FW.ret ?_
  obtain rfl := hp
  exact ⟨.inr rfl, res1 rfl rfl ⟨rfl, S0.back⟩⟩

theorem w_laws_szIntSS {Ha : GH} {wa : World} (hs : Sl Ha wa) (v0 : Value) (a0 : List (List Int)) (p0 : RSl Ha (eL eI 1) 1 v0 a0) (a1 : Int) {r : Int} (hp : (PF.laws_szIntSS a0 a1) = some r) :
  Calls Tryz.prog 42 #[v0, Value.int .i64 a1] wa (Sc Ha wa (Value.int .i64 r)) := by
 unfold PF.laws_szIntSS at hp
 have S0 := St.init hs
 refine calls_go (N := 27) (args := [v0, Value.int .i64 a1]) Tryz.func42 rfl rfl rfl ?_
 refine FW.seq (FW.region ?_)
 refine FL.v (E.assign (v := Value.int .i64 0) rfl) ?_
 refine FL.nil (FW.seq (FW.region ?_))
 refine FL.v (E.move (v := Value.int .i64 a1) rfl) ?_
 refine FL.v (E.move (v := v0) rfl) ?_
 refine FL.v (E.lenP te22 rfl p0) ?_
 refine FL.v (E.sub rfl rfl) ?_
 refine FL.v (E.assign (v := Value.int .i64 (wr (a1 - (len a0)))) rfl) ?_
 refine FL.nil (FW.seq (FW.seq (FW.region ?_)))
 refine FL.v (E.move (v := Value.int .i64 (wr (a1 - (len a0)))) rfl) ?_
 refine FL.v (E.lss rfl rfl) ?_
 refine FL.nil ?_
 rcases ifB hp with ⟨c21, hp⟩ | ⟨c21, hp⟩
 ·
  refine FW.condT rfl c21 ?_
  refine FW.seq (FW.region ?_)
  refine FL.v (E.assign (v := Value.int .i64 (-1)) rfl) ?_
  refine FL.nil ?_
  refine FW.ret ?_
  obtain rfl := Option.some.inj hp
  exact ⟨.inr rfl, res1 rfl rfl ⟨rfl, S0.back⟩⟩
 ·
  refine FW.condF rfl c21 ?_
  refine FW.skip (FW.seq (FW.seq (FW.region ?_)))
  refine FL.v (E.assign (v := Value.int .i64 0) rfl) ?_
  refine FL.nil ?_
  obtain ⟨q23, hq, hp⟩ := bndR hp
  refine FW.block ?_
  refine FW.mono (FW.forL (S := Int) (X := Int) (fun (i23 : Nat) (s23 : Int) f w => ∃ H : GH, St Ha wa H w [] ∧ Inc Ha H ∧ f 5 = Value.int .i64 ((i23 : Nat) : Int) ∧ f 0 = v0 ∧ f 1 = Value.int .i64 s23) (fun q e f w => match q with | .go s23 => e = Exit.exit 0 ∧ (∃ H : GH, St Ha wa H w [] ∧ Inc Ha H ∧ f 1 = Value.int .i64 s23) | .rt x => ((e = Exit.ret) ∧ (fun e f w => (e = Exit.normal ∨ e = Exit.ret) ∧ ∀ a, Fr (δ := []) 27 a f → ∃ v, (results Tryz.f42 a.tmps).run Tryz.prog w = .ok v w ∧ (Sc Ha wa (Value.int .i64 x)) (.returned v) w) e f w)) hq ⟨_, S0, (Inc.rfl _), rfl, rfl, rfl⟩ ?_ ?_) ?_
  ·
   clear hp hq
   rintro i23 y22 s23 f48 w47 ⟨H44, S45, i46, k49, k50, k51⟩ hx23 o64 hp
   refine FW.seq (FW.seq (FW.region ?_))
   refine FL.v (E.move k49) ?_
   refine FL.v (E.move k50) ?_
   refine FL.v (E.lenP te22 rfl p0) ?_
   refine FL.v (E.lssT rfl rfl (lss_len hx23)) ?_
   refine FL.nil ?_
   refine FW.condT rfl rfl ?_
   refine FW.skip (FW.seq (FW.block (FW.seq (FW.region ?_))))
   refine FL.v (E.move k50) ?_
   refine FL.v (E.move k49) ?_
   obtain ⟨p52, cs53, pt54, l55, at56, rel57⟩ := p0.at (ix_nat hx23)
   obtain ⟨v58, rfl, h59⟩ := eL_open rel57
   refine FL.v (E.indexAddr te22 rfl rfl pt54) ?_
   refine FL.v (E.load rfl (run_load0 Tryz.isAgg84 ((at56.mono i46).now S45.sl) rfl)) ?_
   refine FL.v (E.move k51) ?_
   refine FL.call rfl rfl rfl (E.call Tryz.call89 (A2 rfl rfl)) (w_laws_szIntS S45.sl v58 y22 (h59.mono i46) s23) ?_
   rintro e w60 ⟨rfl, r61⟩
   refine ⟨_, rfl, ?_⟩
   have S62 := S45.call r61
   refine FL.v (E.assign (v := Value.int .i64 (PF.laws_szIntS y22 s23)) rfl) ?_
   refine FL.nil (FW.seq (FW.region ?_))
   refine FL.v (E.move (v := Value.int .i64 (PF.laws_szIntS y22 s23)) rfl) ?_
   refine FL.v (E.lss rfl rfl) ?_
   refine FL.nil ?_
   rcases ifB hp with ⟨c63, hp⟩ | ⟨c63, hp⟩
   ·
    refine FW.condT rfl c63 ?_
    refine FW.seq (FW.region ?_)
    refine FL.v (E.assign (v := Value.int .i64 (-1)) rfl) ?_
    refine FL.nil ?_
    refine FW.ret ?_
    obtain rfl := Option.some.inj hp
    exact ⟨nofun, rfl, ⟨.inr rfl, res1 rfl rfl ⟨rfl, S62.back⟩⟩⟩
   ·
    refine FW.condF rfl c63 ?_
    refine FW.skip (FW.region ?_)
    refine FL.v (E.move k49) ?_
    refine FL.v (E.add rfl rfl) ?_
    refine FL.v (E.assign (v := Value.int .i64 (wr (((i23 : Nat) : Int) + 1))) rfl) ?_
    refine FL.nil ?_
    obtain rfl := Option.some.inj hp
    exact ⟨rfl, ⟨_, S62, i46, (nat_succ rfl (lt_of_get hx23) (p0.mono i46).le), k50, rfl⟩⟩
  ·
   clear hp hq
   rintro s23 f75 w74 ⟨H71, S72, i73, k76, k77, k78⟩
   refine FW.seq (FW.seq (FW.region ?_))
   refine FL.v (E.move k76) ?_
   refine FL.v (E.move k77) ?_
   refine FL.v (E.lenP te22 rfl p0) ?_
   refine FL.v (E.lss rfl rfl) ?_
   refine FL.nil ?_
   refine FW.condF rfl dlt_len ?_
   refine FW.exit ?_
   exact ⟨nofun, rfl, ⟨_, S72, i73, k78⟩⟩
  ·
   clear hq
   intro e f69 w68 hD
   rcases q23 with s23 | x23
   ·
    obtain ⟨rfl, hD⟩ := hD
    obtain ⟨H65, S66, i67, k70⟩ := hD
    replace hp := el_go hp
    refine FW.seq (FW.region ?_)
    refine FL.v (E.move k70) ?_
    refine FL.v (E.assign (v := Value.int .i64 s23) rfl) ?_
    refine FL.nil ?_
    refine FW.ret ?_
    obtain rfl := Option.some.inj hp
    exact ⟨.inr rfl, res1 rfl rfl ⟨rfl, S66.back⟩⟩
   ·
    obtain ⟨he, hL⟩ := hD
    replace hp := el_rt hp
    obtain rfl := Option.some.inj hp
    subst he
    exact hL

theorem w_laws_szCnf {Ha : GH} {wa : World} (hs : Sl Ha wa) (a0 : Cnf) (v0_1 : Value) (p0_1 : RSl Ha (eL eI 1) 1 v0_1 a0.clauses) (a1 : Int) {r : Int} (hp : (PF.laws_szCnf a0 a1) = some r) :
  Calls Tryz.prog 8 #[Value.agg #[Value.int .i64 a0.vars, v0_1], Value.int .i64 a1] wa (Sc Ha wa (Value.int .i64 r)) := by
 unfold PF.laws_szCnf at hp
 have S0 := St.init hs
 refine calls_go (N := 12) (args := [Value.agg #[Value.int .i64 a0.vars, v0_1], Value.int .i64 a1]) Tryz.func8 rfl rfl rfl ?_
 refine FW.seq (FW.region ?_)
 obtain ⟨b21, w22, run23, S24⟩ := S0.box (P := Tryz.prog) 24 [Value.int .i64 a0.vars, v0_1] (v := Value.agg #[Value.int .i64 a0.vars, v0_1]) rfl (ones_cons rfl (ones_cons p0_1.one ones_nil))
 refine FL.v (E.box rfl run23) ?_
 obtain ⟨H25, S26, i27, at28⟩ := S24.sealBox (i := 0) (l' := []) rfl rfl
 refine FL.v (E.assign (v := Value.int .i64 0) rfl) ?_
 refine FL.nil (FW.seq (FW.region ?_))
 refine FL.v (E.fieldAddr tf24_1 rfl) ?_
 refine FL.v (E.load rfl (run_load1 Tryz.isAgg22 (at28.now S26.sl) rfl)) ?_
 refine FL.v (E.move (v := Value.int .i64 a1) rfl) ?_
 obtain ⟨r29, hr30, hp⟩ := bnd hp
 refine FL.call rfl rfl rfl (E.call Tryz.call42 (A2 rfl rfl)) (w_laws_szIntSS S26.sl v0_1 a0.clauses (p0_1.mono i27) a1 hr30) ?_
 rintro e w31 ⟨rfl, r32⟩
 refine ⟨_, rfl, ?_⟩
 have S33 := S26.call r32
 refine FL.v (E.assign (v := Value.int .i64 r29) rfl) ?_
 refine FL.nil (FW.seq (FW.seq (FW.region ?_)))
 refine FL.v (E.move (v := Value.int .i64 r29) rfl) ?_
 refine FL.v (E.lss rfl rfl) ?_
 refine FL.nil ?_
 rcases ifB hp with ⟨c34, hp⟩ | ⟨c34, hp⟩
 ·
  refine FW.condT rfl c34 ?_
  refine FW.seq (FW.region ?_)
  refine FL.v (E.assign (v := Value.int .i64 (-1)) rfl) ?_
  refine FL.nil ?_
  refine FW.ret ?_
  obtain rfl := Option.some.inj hp
  exact ⟨.inr rfl, res1 rfl rfl ⟨rfl, S33.back⟩⟩
 ·
  refine FW.condF rfl c34 ?_
  refine FW.skip (FW.seq (FW.region ?_))
  refine FL.v (E.move (v := Value.int .i64 r29) rfl) ?_
  refine FL.v (E.assign (v := Value.int .i64 r29) rfl) ?_
  refine FL.nil ?_
  refine FW.ret ?_
  obtain rfl := Option.some.inj hp
  exact ⟨.inr rfl, res1 rfl rfl ⟨rfl, S33.back⟩⟩

theorem w_laws_szTreeNodeS {Ha : GH} {wa : World} (hs : Sl Ha wa) (v0 : Value) (a0 : List TreeNode) (p0 : RSl Ha eTreeNode 4 v0 a0) (a1 : Int) :
  Calls Tryz.prog 27 #[v0, Value.int .i64 a1] wa (Sc Ha wa (Value.int .i64 (PF.laws_szTreeNodeS a0 a1))) := by
 obtain ⟨r, hp⟩ : ∃ r, (PF.laws_szTreeNodeS a0 a1) = r := ⟨_, rfl⟩
 rw [hp]
 unfold PF.laws_szTreeNodeS at hp
 have S0 := St.init hs
 refine calls_go (N := 12) (args := [v0, Value.int .i64 a1]) Tryz.func27 rfl rfl rfl ?_
 refine FW.seq (FW.region ?_)
 refine FL.v (E.assign (v := Value.int .i64 0) rfl) ?_
 refine FL.nil (FW.seq (FW.region ?_))
 refine FL.v (E.move (v := Value.int .i64 a1) rfl) ?_
 refine FL.v (E.move (v := v0) rfl) ?_
 refine FL.v (E.lenP te53 rfl p0) ?_
 refine FL.v (E.sub rfl rfl) ?_
 refine FL.v (E.assign (v := Value.int .i64 (wr (a1 - (len a0)))) rfl) ?_
 refine FL.nil (FW.seq (FW.seq (FW.region ?_)))
 refine FL.v (E.move (v := Value.int .i64 (wr (a1 - (len a0)))) rfl) ?_
 refine FL.v (E.lss rfl rfl) ?_
 refine FL.nil ?_
 rcases ifT hp with ⟨c21, hp⟩ | ⟨c21, hp⟩
 ·
  refine FW.condT rfl c21 ?_
  refine FW.seq (FW.region ?_)
  refine FL.v (E.assign (v := Value.int .i64 (-1)) rfl) ?_
  refine FL.nil ?_
  refine FW.ret ?_
  obtain rfl := hp
  exact ⟨.inr rfl, res1 rfl rfl ⟨rfl, S0.back⟩⟩
 ·
  refine FW.condF rfl c21 ?_
  refine FW.skip (FW.seq (FW.region ?_))
  refine FL.v (E.move (v := Value.int .i64 (wr (a1 - (len a0)))) rfl) ?_
  refine FL.v (E.assign (v := Value.int .i64 (wr (a1 - (len a0)))) rfl) ?_
  refine FL.nil ?_
  refine FW.ret ?_
  obtain rfl := hp
  exact ⟨.inr rfl, res1 rfl rfl ⟨rfl, S0.back⟩⟩

@[reducible] def p_laws_toIntS (Ha : GH) (wa : World) (r : (List Int)) : Ending → World → Prop :=
  fun e w' => ∃ H' : GH, ∃ v0 : Value, ∃ n0 : Nat, ∃ c0 : List Value, e = .returned (v0) ∧ St Ha wa H' w' [.row 3 1 v0 n0 c0] ∧ Els (up wa.heap.size H') eI 1 c0 r
theorem w_laws_toIntS {Ha : GH} {wa : World} (hs : Sl Ha wa) (v0 : Value) (a0 : List Int) (p0 : RSl Ha eI 1 v0 a0) {r : (List Int)} (hp : (PF.laws_toIntS a0) = some r) :
    Calls Tryz.prog 94 #[v0] wa (p_laws_toIntS Ha wa r) := by
  unfold PF.laws_toIntS at hp
  have S0 := St.init hs
  refine calls_go (N := 22) (args := [v0]) Tryz.func94 rfl rfl rfl ?_
  refine FW.seq (FW.region ?_)
  refine FL.v (E.assign (v := Value.slice none 0 0) rfl) ?_
  refine FL.nil (FW.seq (FW.region ?_))
  refine FL.v (E.move (v := v0) rfl) ?_
  refine FL.v (E.lenP te84 rfl p0) ?_
  obtain ⟨xs21, hm22, hp⟩ := bnd hp
  obtain ⟨v23, w24, n28, cs29, run25, S26, els27, hbl30⟩ := S0.makeEls (P := Tryz.prog) te84 (G := (up wa.heap.size Ha)) (En := eI) (x0 := (0 : Int)) hm22 rfl (ones_cons rfl ones_nil) .i64 .i64
  refine FL.v (E.makeSlice rfl rfl run25) ?_
  refine FL.v (E.assign (v := v23) rfl) ?_
  refine FL.nil (FW.seq (FW.seq (FW.region ?_)))
  refine FL.v (E.assign (v := Value.int .i64 0) rfl) ?_
  refine FL.nil ?_
  obtain ⟨q32, hq, hp⟩ := bndR hp
  refine FW.block ?_
  refine FW.mono (FW.forL (S := (List Int)) (X := Empty) (fun (i32 : Nat) (s32 : (List Int)) f w => ∃ H : GH, ∃ v63 : Value, ∃ n64 : Nat, ∃ cs65 : List Value, St Ha wa H w [.row 3 1 v63 n64 cs65] ∧ Inc Ha H ∧ Els (up wa.heap.size H) eI 1 cs65 s32 ∧ f 4 = Value.int .i64 ((i32 : Nat) : Int) ∧ f 0 = v0 ∧ f 3 = v63) (fun (q : Rs (List Int) Empty) e f w => match q with | .go s32 => e = Exit.exit 0 ∧ (∃ H : GH, ∃ v63 : Value, ∃ n64 : Nat, ∃ cs65 : List Value, St Ha wa H w [.row 3 1 v63 n64 cs65] ∧ Inc Ha H ∧ Els (up wa.heap.size H) eI 1 cs65 s32 ∧ f 3 = v63) | .rt x => x.elim) hq ⟨_, _, _, _, S26, (Inc.rfl _), els27, rfl, rfl, rfl⟩ ?_ ?_) ?_
  ·
    clear hp hq
    rintro i32 y31 s32 f101 w100 ⟨H97, v63, n64, cs65, S98, i99, els66, k102, k103, k104⟩ hx32 o127 hp
    refine FW.seq (FW.seq (FW.region ?_))
    refine FL.v (E.move k102) ?_
    refine FL.v (E.move k103) ?_
    refine FL.v (E.lenP te84 rfl p0) ?_
    refine FL.v (E.lssT rfl rfl (lss_len hx32)) ?_
    refine FL.nil ?_
    refine FW.condT rfl rfl ?_
    refine FW.skip (FW.seq (FW.block (FW.region ?_)))
    refine FL.v (E.move k104) ?_
    refine FL.v (E.move k102) ?_
    refine FL.v (E.move k103) ?_
    refine FL.v (E.move k102) ?_
    obtain ⟨p105, cs106, pt107, l108, at109, rel110⟩ := p0.at (ix_nat hx32)
    obtain rfl := eI_open rel110
    refine FL.v (E.indexAddr te84 rfl rfl pt107) ?_
    refine FL.v (E.load rfl (run_load0 Tryz.isAgg3 ((at109.mono i99).now S98.sl) rfl)) ?_
    obtain ⟨x117, hx118, hp⟩ := bnd hp
    obtain ⟨p111, cs112, pt113, l114, at115, rel116⟩ := S98.row_at (i := 0) rfl els66 (by decide) hx118
    obtain rfl := eI_open rel116
    refine FL.v (E.indexAddr te84 rfl rfl pt113) ?_
    obtain ⟨xs122, hput123, hp⟩ := bnd hp
    obtain ⟨w119, cs125, run120, S121, els124, ce126⟩ := S98.putEls (P := Tryz.prog) (t := 3) (i := 0) rfl els66 hput123 pt113 Tryz.sizeOf3 (u := Value.int .i64 y31) (c := [Value.int .i64 y31]) rfl rfl (ones_cons rfl ones_nil) rfl
    have S121 : St Ha wa H97 w119 [.row 3 1 v63 n64 cs125] := S121
    refine FL.act rfl rfl (E.store rfl rfl run120) ?_
    refine FL.nil (FW.region ?_)
    refine FL.v (E.move k102) ?_
    refine FL.v (E.add rfl rfl) ?_
    refine FL.v (E.assign (v := Value.int .i64 (wr (((i32 : Nat) : Int) + 1))) rfl) ?_
    refine FL.nil ?_
    obtain rfl := Option.some.inj hp
    exact ⟨rfl, ⟨_, _, _, _, S121, i99, els124, (nat_succ rfl (lt_of_get hx32) (p0.mono i99).le), k103, k104⟩⟩
  ·
    clear hp hq
    rintro s32 f138 w137 ⟨H134, v63, n64, cs65, S135, i136, els66, k139, k140, k141⟩
    refine FW.seq (FW.seq (FW.region ?_))
    refine FL.v (E.move k139) ?_
    refine FL.v (E.move k140) ?_
    refine FL.v (E.lenP te84 rfl p0) ?_
    refine FL.v (E.lss rfl rfl) ?_
    refine FL.nil ?_
    refine FW.condF rfl dlt_len ?_
    refine FW.exit ?_
    exact ⟨nofun, rfl, ⟨_, _, _, _, S135, i136, els66, k141⟩⟩
  ·
    clear hq
    intro e f132 w131 hD
    rcases q32 with s32 | x32
    ·
      obtain ⟨rfl, hD⟩ := hD
      obtain ⟨H128, v63, n64, cs65, S129, i130, els66, k133⟩ := hD
      replace hp := el_go hp
      refine FW.seq (FW.region ?_)
      refine FL.v (E.move k133) ?_
      refine FL.v (E.assign (v := v63) rfl) ?_
      refine FL.nil ?_
      refine FW.ret ?_
      obtain rfl := Option.some.inj hp
      exact ⟨.inr rfl, res1 rfl rfl ⟨_, _, _, _, rfl, S129, els66⟩⟩
    · exact x32.elim

@[reducible] def p_laws_toIntSS (Ha : GH) (wa : World) (r : (List (List Int))) : Ending → World → Prop :=
  fun e w' => ∃ H' : GH, ∃ v0 : Value, ∃ n0 : Nat, ∃ c0 : List Value, e = .returned (v0) ∧ St Ha wa H' w' [.row 84 1 v0 n0 c0] ∧ Els (up wa.heap.size H') (eL eI 1) 1 c0 r ∧ (bl c0).Nodup
theorem w_laws_toIntSS {Ha : GH} {wa : World} (hs : Sl Ha wa) (v0 : Value) (a0 : List (List Int)) (p0 : RSl Ha (eL eI 1) 1 v0 a0) {r : (List (List Int))} (hp : (PF.laws_toIntSS a0) = some r) :
    Calls Tryz.prog 46 #[v0] wa (p_laws_toIntSS Ha wa r) := by
  unfold PF.laws_toIntSS at hp
  have S0 := St.init hs
  refine calls_go (N := 23) (args := [v0]) Tryz.func46 rfl rfl rfl ?_
  refine FW.seq (FW.region ?_)
  refine FL.v (E.assign (v := Value.slice none 0 0) rfl) ?_
  refine FL.nil (FW.seq (FW.region ?_))
  refine FL.v (E.move (v := v0) rfl) ?_
  refine FL.v (E.lenP te22 rfl p0) ?_
  obtain ⟨xs21, hm22, hp⟩ := bnd hp
  obtain ⟨v23, w24, n28, cs29, run25, S26, els27, hbl30⟩ := S0.makeEls (P := Tryz.prog) te22 (G := (up wa.heap.size Ha)) (En := (eL eI 1)) (x0 := ([] : List Int)) hm22 ⟨_, rfl, RSl.nil _ _ _⟩ (ones_cons rfl ones_nil) .i64 .i64
  have nd31 : (bl cs29).Nodup := by rw [hbl30 (by simp [Value.cells, neb])]; exact List.nodup_nil
  refine FL.v (E.makeSlice rfl rfl run25) ?_
  refine FL.v (E.assign (v := v23) rfl) ?_
  refine FL.nil (FW.seq (FW.seq (FW.region ?_)))
  refine FL.v (E.assign (v := Value.int .i64 0) rfl) ?_
  refine FL.nil ?_
  obtain ⟨q33, hq, hp⟩ := bndR hp
  refine FW.block ?_
  refine FW.mono (FW.forL (S := (List (List Int))) (X := Empty) (fun (i33 : Nat) (s33 : (List (List Int))) f w => ∃ H : GH, ∃ v84 : Value, ∃ n85 : Nat, ∃ cs86 : List Value, St Ha wa H w [.row 84 1 v84 n85 cs86] ∧ Inc Ha H ∧ Els (up wa.heap.size H) (eL eI 1) 1 cs86 s33 ∧ (bl cs86).Nodup ∧ f 4 = Value.int .i64 ((i33 : Nat) : Int) ∧ f 0 = v0 ∧ f 3 = v84) (fun (q : Rs (List (List Int)) Empty) e f w => match q with | .go s33 => e = Exit.exit 0 ∧ (∃ H : GH, ∃ v84 : Value, ∃ n85 : Nat, ∃ cs86 : List Value, St Ha wa H w [.row 84 1 v84 n85 cs86] ∧ Inc Ha H ∧ Els (up wa.heap.size H) (eL eI 1) 1 cs86 s33 ∧ (bl cs86).Nodup ∧ f 3 = v84) | .rt x => x.elim) hq ⟨_, _, _, _, S26, (Inc.rfl _), els27, nd31, rfl, rfl, rfl⟩ ?_ ?_) ?_
  ·
    clear hp hq
    rintro i33 y32 s33 f143 w142 ⟨H139, v84, n85, cs86, S140, i141, els87, nd88, k144, k145, k146⟩ hx33 o189 hp
    refine FW.seq (FW.seq (FW.region ?_))
    refine FL.v (E.move k144) ?_
    refine FL.v (E.move k145) ?_
    refine FL.v (E.lenP te22 rfl p0) ?_
    refine FL.v (E.lssT rfl rfl (lss_len hx33)) ?_
    refine FL.nil ?_
    refine FW.condT rfl rfl ?_
    refine FW.skip (FW.seq (FW.block (FW.region ?_)))
    refine FL.v (E.move k146) ?_
    refine FL.v (E.move k144) ?_
    refine FL.v (E.move k145) ?_
    refine FL.v (E.move k144) ?_
    obtain ⟨p147, cs148, pt149, l150, at151, rel152⟩ := p0.at (ix_nat hx33)
    obtain ⟨v153, rfl, h154⟩ := eL_open rel152
    refine FL.v (E.indexAddr te22 rfl rfl pt149) ?_
    refine FL.v (E.load rfl (run_load0 Tryz.isAgg84 ((at151.mono i141).now S140.sl) rfl)) ?_
    obtain ⟨r155, hr156, hp⟩ := bnd hp
    refine FL.call rfl rfl rfl (E.call Tryz.call94 (A1 rfl)) (w_laws_toIntS S140.sl v153 y32 (h154.mono i141) hr156) ?_
    rintro e w158 ⟨H157, v161, n162, cs163, rfl, r160, els164⟩
    refine ⟨_, rfl, ?_⟩
    have els164 := els164.mono (up_le S140.size)
    have S159 := S140.join (l' := [.row 3 1 v161 n162 cs163, .row 84 1 v84 n85 cs86]) r160 rfl
    obtain ⟨x171, hx172, hp⟩ := bnd hp
    obtain ⟨p165, cs166, pt167, l168, at169, rel170⟩ := S159.row_at (i := 1) rfl els87 (by decide) hx172
    obtain ⟨v173, rfl, h174⟩ := eL_open rel170
    refine FL.v (E.indexAddr te22 rfl rfl pt167) ?_
    obtain ⟨H175, S176, i177, h178, nv179⟩ := S159.sealRowU (i := 0) (l' := [.row 84 1 v84 n85 cs86]) rfl els164 (by decide) rfl
    obtain ⟨xs183, hput184, hp⟩ := bnd hp
    obtain ⟨w180, cs186, run181, S182, els185, ce187⟩ := S176.putEls (P := Tryz.prog) (t := 84) (i := 0) rfl (els87.mono (up_mono (r160.run.inc.tr i177))) hput184 pt167 Tryz.sizeOf84 (u := v161) (c := [v161]) h178.cells rfl (ones_cons h178.one ones_nil) ⟨_, rfl, h178⟩
    have S182 : St Ha wa H175 w180 [.row 84 1 v84 n85 cs186] := S182
    have nd188 : (bl cs186).Nodup := by rw [ce187]; exact nd_put (Nat.le_add_right _ _) nd88 (by exact nd_one v161) (Els.dom (els87.mono (upI.tr r160.run.inc))) (by exact nv179)
    refine FL.act rfl rfl (E.store rfl rfl run181) ?_
    refine FL.nil (FW.region ?_)
    refine FL.v (E.move k144) ?_
    refine FL.v (E.add rfl rfl) ?_
    refine FL.v (E.assign (v := Value.int .i64 (wr (((i33 : Nat) : Int) + 1))) rfl) ?_
    refine FL.nil ?_
    obtain rfl := Option.some.inj hp
    exact ⟨rfl, ⟨_, _, _, _, S182, ((i141.tr r160.run.inc).tr i177), els185, nd188, (nat_succ rfl (lt_of_get hx33) (p0.mono ((i141.tr r160.run.inc).tr i177)).le), k145, k146⟩⟩
  ·
    clear hp hq
    rintro s33 f200 w199 ⟨H196, v84, n85, cs86, S197, i198, els87, nd88, k201, k202, k203⟩
    refine FW.seq (FW.seq (FW.region ?_))
    refine FL.v (E.move k201) ?_
    refine FL.v (E.move k202) ?_
    refine FL.v (E.lenP te22 rfl p0) ?_
    refine FL.v (E.lss rfl rfl) ?_
    refine FL.nil ?_
    refine FW.condF rfl dlt_len ?_
    refine FW.exit ?_
    exact ⟨nofun, rfl, ⟨_, _, _, _, S197, i198, els87, nd88, k203⟩⟩
  ·
    clear hq
    intro e f194 w193 hD
    rcases q33 with s33 | x33
    ·
      obtain ⟨rfl, hD⟩ := hD
      obtain ⟨H190, v84, n85, cs86, S191, i192, els87, nd88, k195⟩ := hD
      replace hp := el_go hp
      refine FW.seq (FW.region ?_)
      refine FL.v (E.move k195) ?_
      refine FL.v (E.assign (v := v84) rfl) ?_
      refine FL.nil ?_
      refine FW.ret ?_
      obtain rfl := Option.some.inj hp
      exact ⟨.inr rfl, res1 rfl rfl ⟨_, _, _, _, rfl, S191, els87, nd88⟩⟩
    · exact x33.elim

@[reducible] def p_laws_toCnf (Ha : GH) (wa : World) (r : Cnf) : Ending → World → Prop :=
 fun e w' => ∃ H' : GH, ∃ v0_1 : Value, e = .returned (Value.agg #[Value.int .i64 r.vars, v0_1]) ∧ Run wa.heap.size Ha wa H' w' ∧ (∃ c, Nest (up wa.heap.size H') (eL eI 1) 1 v0_1 r.clauses c)
theorem w_laws_toCnf {Ha : GH} {wa : World} (hs : Sl Ha wa) (a0 : Cnf) (v0_1 : Value) (p0_1 : RSl Ha (eL eI 1) 1 v0_1 a0.clauses) {r : Cnf} (hp : (PF.laws_toCnf a0) = some r) :
  Calls Tryz.prog 11 #[Value.agg #[Value.int .i64 a0.vars, v0_1]] wa (p_laws_toCnf Ha wa r) := by
 unfold PF.laws_toCnf at hp
 have S0 := St.init hs
 refine calls_go (N := 12) (args := [Value.agg #[Value.int .i64 a0.vars, v0_1]]) Tryz.func11 rfl rfl rfl ?_
 refine FW.seq (FW.region ?_)
 obtain ⟨b21, w22, run23, S24⟩ := S0.box (P := Tryz.prog) 24 [Value.int .i64 a0.vars, v0_1] (v := Value.agg #[Value.int .i64 a0.vars, v0_1]) rfl (ones_cons rfl (ones_cons p0_1.one ones_nil))
 refine FL.v (E.box rfl run23) ?_
 obtain ⟨H25, S26, i27, at28⟩ := S24.sealBox (i := 0) (l' := []) rfl rfl
 obtain ⟨b29, w30, run31, S32⟩ := S26.alloc (P := Tryz.prog) 30 [Value.int .i64 0, Value.slice none 0 0] Tryz.zeroValue30 rfl (ones_cons rfl (ones_cons rfl ones_nil))
 refine FL.v (E.alloc run31) ?_
 refine FL.nil (FW.seq (FW.region ?_))
 obtain ⟨b33, w34, run35, S36⟩ := S32.alloc (P := Tryz.prog) 30 [Value.int .i64 0, Value.slice none 0 0] Tryz.zeroValue30 rfl (ones_cons rfl (ones_cons rfl ones_nil))
 refine FL.v (E.alloc run35) ?_
 refine FL.nil (FW.seq (FW.region ?_))
 refine FL.v (E.fieldAddr tf24_0 rfl) ?_
 refine FL.v (E.load rfl (run_load1 Tryz.isAgg3 (at28.now S36.sl) rfl)) ?_
 refine FL.v (E.fieldAddr tf30_0 rfl) ?_
 obtain ⟨w37, run38, S39⟩ := S36.store (P := Tryz.prog) (t := 3) (i := 0) (j := 0) (cs' := [Value.int .i64 a0.vars, Value.slice none 0 0]) (l' := [.box b33 30 [Value.int .i64 a0.vars, Value.slice none 0 0], .box b29 30 [Value.int .i64 0, Value.slice none 0 0]]) (v := Value.int .i64 a0.vars) (c := [Value.int .i64 a0.vars]) rfl Tryz.sizeOf3 rfl rfl (ones_cons rfl ones_nil) (Nat.le_of_ble_eq_true rfl) rfl rfl
 refine FL.act rfl rfl (E.store rfl rfl run38) ?_
 refine FL.nil (FW.seq (FW.region ?_))
 refine FL.v (E.fieldAddr tf24_1 rfl) ?_
 refine FL.v (E.load rfl (run_load1 Tryz.isAgg22 (at28.now S39.sl) rfl)) ?_
 obtain ⟨r40, hr41, hp⟩ := bnd hp
 refine FL.call rfl rfl rfl (E.call Tryz.call46 (A1 rfl)) (w_laws_toIntSS S39.sl v0_1 a0.clauses (p0_1.mono i27) hr41) ?_
 rintro e w43 ⟨H42, v46, n47, cs48, rfl, r45, els49, nd50⟩
 refine ⟨_, rfl, ?_⟩
 have nv51 : New H25 cs48 := New.of_up S39.sl els49.dom
 have els49 := els49.mono (up_le S39.size)
 have S44 := S39.join (l' := [.row 84 1 v46 n47 cs48, .box b33 30 [Value.int .i64 a0.vars, Value.slice none 0 0], .box b29 30 [Value.int .i64 0, Value.slice none 0 0]]) r45 rfl
 refine FL.v (E.fieldAddr tf30_1 rfl) ?_
 obtain ⟨w52, run53, S54⟩ := S44.store (P := Tryz.prog) (t := 22) (i := 1) (j := 1) (cs' := [Value.int .i64 a0.vars, v46]) (l' := [.row 84 1 v46 n47 cs48, .box b33 30 [Value.int .i64 a0.vars, v46], .box b29 30 [Value.int .i64 0, Value.slice none 0 0]]) (v := v46) (c := [v46]) rfl Tryz.sizeOf22 (Ln.cells (S44.row_ln (i := 0) rfl)) rfl (ones_cons (Ln.one (S44.row_ln (i := 0) rfl)) ones_nil) (Nat.le_of_ble_eq_true rfl) rfl rfl
 refine FL.act rfl rfl (E.store rfl rfl run53) ?_
 obtain ⟨H55, S56, i57, ns60, nv59⟩ := S54.sealRowN (i := 0) (l' := [.box b33 30 [Value.int .i64 a0.vars, v46], .box b29 30 [Value.int .i64 0, Value.slice none 0 0]]) rfl els49 nd50 (by decide) rfl
 have h58 := ns60.rsl
 obtain ⟨H61, S62, i63, at64⟩ := S56.sealBox (i := 0) (l' := [.box b29 30 [Value.int .i64 0, Value.slice none 0 0]]) rfl rfl
 refine FL.nil (FW.seq (FW.region ?_))
 refine FL.v (E.load rfl (run_loadA Tryz.isAgg30 Tryz.sizeOf30 (at64.now S62.sl) rfl)) ?_
 obtain ⟨w65, run66, S67⟩ := S62.store0 (P := Tryz.prog) (t := 30) (i := 0) (cs' := [Value.int .i64 a0.vars, v46]) (l' := [.box b29 30 [Value.int .i64 a0.vars, v46]]) (v := Value.agg #[Value.int .i64 a0.vars, v46]) (c := [Value.int .i64 a0.vars, v46]) rfl Tryz.sizeOf30 rfl rfl (ones_cons rfl (ones_cons h58.one ones_nil)) (Nat.le_of_ble_eq_true rfl) rfl rfl
 refine FL.act rfl rfl (E.store rfl rfl run66) ?_
 obtain ⟨H68, S69, i70, at71⟩ := S67.sealBox (i := 0) (l' := []) rfl rfl
 refine FL.nil ?_
 refine FW.ret ?_
 obtain rfl := Option.some.inj hp
 exact ⟨.inr rfl, resC rfl rfl (loadVar_A Tryz.isAgg30 Tryz.sizeOf30 (at71.now S69.sl) rfl) ⟨_, _, rfl, S69.run, ⟨_, (ns60.mono (up_mono (i63.tr i70)))⟩⟩⟩

theorem w_laws_toTreeNode {Ha : GH} {wa : World} (hs : Sl Ha wa) (a0 : TreeNode) :
  Calls Tryz.prog 65 #[Value.agg #[Value.int .i64 a0.var, Value.int .i64 a0.low, Value.int .i64 a0.high, Value.int .i64 a0.clause]] wa (Sc Ha wa (Value.agg #[Value.int .i64 ((PF.laws_toTreeNode a0).var), Value.int .i64 ((PF.laws_toTreeNode a0).low), Value.int .i64 ((PF.laws_toTreeNode a0).high), Value.int .i64 ((PF.laws_toTreeNode a0).clause)])) := by
 obtain ⟨r, hp⟩ : ∃ r, (PF.laws_toTreeNode a0) = r := ⟨_, rfl⟩
 rw [hp]
 unfold PF.laws_toTreeNode at hp
 have S0 := St.init hs
 refine calls_go (N := 17) (args := [Value.agg #[Value.int .i64 a0.var, Value.int .i64 a0.low, Value.int .i64 a0.high, Value.int .i64 a0.clause]]) Tryz.func65 rfl rfl rfl ?_
 refine FW.seq (FW.region ?_)
 obtain ⟨b21, w22, run23, S24⟩ := S0.box (P := Tryz.prog) 100 [Value.int .i64 a0.var, Value.int .i64 a0.low, Value.int .i64 a0.high, Value.int .i64 a0.clause] (v := Value.agg #[Value.int .i64 a0.var, Value.int .i64 a0.low, Value.int .i64 a0.high, Value.int .i64 a0.clause]) rfl (ones_cons rfl (ones_cons rfl (ones_cons rfl (ones_cons rfl ones_nil))))
 refine FL.v (E.box rfl run23) ?_
 obtain ⟨H25, S26, i27, at28⟩ := S24.sealBox (i := 0) (l' := []) rfl rfl
 obtain ⟨b29, w30, run31, S32⟩ := S26.alloc (P := Tryz.prog) 98 [Value.int .i64 0, Value.int .i64 0, Value.int .i64 0, Value.int .i64 0] Tryz.zeroValue98 rfl (ones_cons rfl (ones_cons rfl (ones_cons rfl (ones_cons rfl ones_nil))))
 refine FL.v (E.alloc run31) ?_
 refine FL.nil (FW.seq (FW.region ?_))
 obtain ⟨b33, w34, run35, S36⟩ := S32.alloc (P := Tryz.prog) 98 [Value.int .i64 0, Value.int .i64 0, Value.int .i64 0, Value.int .i64 0] Tryz.zeroValue98 rfl (ones_cons rfl (ones_cons rfl (ones_cons rfl (ones_cons rfl ones_nil))))
 refine FL.v (E.alloc run35) ?_
 refine FL.nil (FW.seq (FW.region ?_))
 refine FL.v (E.fieldAddr tf100_0 rfl) ?_
 refine FL.v (E.load rfl (run_load1 Tryz.isAgg3 (at28.now S36.sl) rfl)) ?_
 refine FL.v (E.fieldAddr tf98_0 rfl) ?_
 obtain ⟨w37, run38, S39⟩ := S36.store (P := Tryz.prog) (t := 3) (i := 0) (j := 0) (cs' := [Value.int .i64 a0.var, Value.int .i64 0, Value.int .i64 0, Value.int .i64 0]) (l' := [.box b33 98 [Value.int .i64 a0.var, Value.int .i64 0, Value.int .i64 0, Value.int .i64 0], .box b29 98 [Value.int .i64 0, Value.int .i64 0, Value.int .i64 0, Value.int .i64 0]]) (v := Value.int .i64 a0.var) (c := [Value.int .i64 a0.var]) rfl Tryz.sizeOf3 rfl rfl (ones_cons rfl ones_nil) (Nat.le_of_ble_eq_true rfl) rfl rfl
 refine FL.act rfl rfl (E.store rfl rfl run38) ?_
 refine FL.nil (FW.seq (FW.region ?_))
 refine FL.v (E.fieldAddr tf100_1 rfl) ?_
 refine FL.v (E.load rfl (run_load1 Tryz.isAgg3 (at28.now S39.sl) rfl)) ?_
 refine FL.v (E.fieldAddr tf98_1 rfl) ?_
 obtain ⟨w40, run41, S42⟩ := S39.store (P := Tryz.prog) (t := 3) (i := 0) (j := 1) (cs' := [Value.int .i64 a0.var, Value.int .i64 a0.low, Value.int .i64 0, Value.int .i64 0]) (l' := [.box b33 98 [Value.int .i64 a0.var, Value.int .i64 a0.low, Value.int .i64 0, Value.int .i64 0], .box b29 98 [Value.int .i64 0, Value.int .i64 0, Value.int .i64 0, Value.int .i64 0]]) (v := Value.int .i64 a0.low) (c := [Value.int .i64 a0.low]) rfl Tryz.sizeOf3 rfl rfl (ones_cons rfl ones_nil) (Nat.le_of_ble_eq_true rfl) rfl rfl
 refine FL.act rfl rfl (E.store rfl rfl run41) ?_
 refine FL.nil (FW.seq (FW.region ?_))
 refine FL.v (E.fieldAddr tf100_2 rfl) ?_
 refine FL.v (E.load rfl (run_load1 Tryz.isAgg3 (at28.now S42.sl) rfl)) ?_
 refine FL.v (E.fieldAddr tf98_2 rfl) ?_
 obtain ⟨w43, run44, S45⟩ := S42.store (P := Tryz.prog) (t := 3) (i := 0) (j := 2) (cs' := [Value.int .i64 a0.var, Value.int .i64 a0.low, Value.int .i64 a0.high, Value.int .i64 0]) (l' := [.box b33 98 [Value.int .i64 a0.var, Value.int .i64 a0.low, Value.int .i64 a0.high, Value.int .i64 0], .box b29 98 [Value.int .i64 0, Value.int .i64 0, Value.int .i64 0, Value.int .i64 0]]) (v := Value.int .i64 a0.high) (c := [Value.int .i64 a0.high]) rfl Tryz.sizeOf3 rfl rfl (ones_cons rfl ones_nil) (Nat.le_of_ble_eq_true rfl) rfl rfl
 refine FL.act rfl rfl (E.store rfl rfl run44) ?_
 refine FL.nil (FW.seq (FW.region ?_))
 refine FL.v (E.fieldAddr tf100_3 rfl) ?_
 refine FL.v (E.load rfl (run_load1 Tryz.isAgg3 (at28.now S45.sl) rfl)) ?_
 refine FL.v (E.fieldAddr tf98_3 rfl) ?_
 obtain ⟨w46, run47, S48⟩ := S45.store (P := Tryz.prog) (t := 3) (i := 0) (j := 3) (cs' := [Value.int .i64 a0.var, Value.int .i64 a0.low, Value.int .i64 a0.high, Value.int .i64 a0.clause]) (l' := [.box b33 98 [Value.int .i64 a0.var, Value.int .i64 a0.low, Value.int .i64 a0.high, Value.int .i64 a0.clause], .box b29 98 [Value.int .i64 0, Value.int .i64 0, Value.int .i64 0, Value.int .i64 0]]) (v := Value.int .i64 a0.clause) (c := [Value.int .i64 a0.clause]) rfl Tryz.sizeOf3 rfl rfl (ones_cons rfl ones_nil) (Nat.le_of_ble_eq_true rfl) rfl rfl
 refine FL.act rfl rfl (E.store rfl rfl run47) ?_
 obtain ⟨H49, S50, i51, at52⟩ := S48.sealBox (i := 0) (l' := [.box b29 98 [Value.int .i64 0, Value.int .i64 0, Value.int .i64 0, Value.int .i64 0]]) rfl rfl
 refine FL.nil (FW.seq (FW.region ?_))
 refine FL.v (E.load rfl (run_loadA Tryz.isAgg98 Tryz.sizeOf98 (at52.now S50.sl) rfl)) ?_
 obtain ⟨w53, run54, S55⟩ := S50.store0 (P := Tryz.prog) (t := 98) (i := 0) (cs' := [Value.int .i64 a0.var, Value.int .i64 a0.low, Value.int .i64 a0.high, Value.int .i64 a0.clause]) (l' := [.box b29 98 [Value.int .i64 a0.var, Value.int .i64 a0.low, Value.int .i64 a0.high, Value.int .i64 a0.clause]]) (v := Value.agg #[Value.int .i64 a0.var, Value.int .i64 a0.low, Value.int .i64 a0.high, Value.int .i64 a0.clause]) (c := [Value.int .i64 a0.var, Value.int .i64 a0.low, Value.int .i64 a0.high, Value.int .i64 a0.clause]) rfl Tryz.sizeOf98 rfl rfl (ones_cons rfl (ones_cons rfl (ones_cons rfl (ones_cons rfl ones_nil)))) (Nat.le_of_ble_eq_true rfl) rfl rfl
 refine FL.act rfl rfl (E.store rfl rfl run54) ?_
 obtain ⟨H56, S57, i58, at59⟩ := S55.sealBox (i := 0) (l' := []) rfl rfl
 refine FL.nil ?_
 refine FW.ret ?_
 obtain rfl := hp
 exact ⟨.inr rfl, resC rfl rfl (loadVar_A Tryz.isAgg98 Tryz.sizeOf98 (at59.now S57.sl) rfl) ⟨rfl, S57.back⟩⟩

@[reducible] def p_laws_toTreeNodeS (Ha : GH) (wa : World) (r : (List TreeNode)) : Ending → World → Prop :=
  fun e w' => ∃ H' : GH, ∃ v0 : Value, ∃ n0 : Nat, ∃ c0 : List Value, e = .returned (v0) ∧ St Ha wa H' w' [.row 98 4 v0 n0 c0] ∧ Els (up wa.heap.size H') eTreeNode 4 c0 r
theorem w_laws_toTreeNodeS {Ha : GH} {wa : World} (hs : Sl Ha wa) (v0 : Value) (a0 : List TreeNode) (p0 : RSl Ha eTreeNode 4 v0 a0) {r : (List TreeNode)} (hp : (PF.laws_toTreeNodeS a0) = some r) :
    Calls Tryz.prog 29 #[v0] wa (p_laws_toTreeNodeS Ha wa r) := by
  unfold PF.laws_toTreeNodeS at hp
  have S0 := St.init hs
  refine calls_go (N := 23) (args := [v0]) Tryz.func29 rfl rfl rfl ?_
  refine FW.seq (FW.region ?_)
  refine FL.v (E.assign (v := Value.slice none 0 0) rfl) ?_
  refine FL.nil (FW.seq (FW.region ?_))
  refine FL.v (E.move (v := v0) rfl) ?_
  refine FL.v (E.lenP te53 rfl p0) ?_
  obtain ⟨xs21, hm22, hp⟩ := bnd hp
  obtain ⟨v23, w24, n28, cs29, run25, S26, els27, hbl30⟩ := S0.makeEls (P := Tryz.prog) te56 (G := (up wa.heap.size Ha)) (En := eTreeNode) (x0 := ((TreeNode.mk 0 0 0 0) : TreeNode)) hm22 rfl (ones_cons rfl (ones_cons rfl (ones_cons rfl (ones_cons rfl ones_nil)))) .i64 .i64
  refine FL.v (E.makeSlice rfl rfl run25) ?_
  refine FL.v (E.assign (v := v23) rfl) ?_
  refine FL.nil (FW.seq (FW.seq (FW.region ?_)))
  refine FL.v (E.assign (v := Value.int .i64 0) rfl) ?_
  refine FL.nil ?_
  obtain ⟨q32, hq, hp⟩ := bndR hp
  refine FW.block ?_
  refine FW.mono (FW.forL (S := (List TreeNode)) (X := Empty) (fun (i32 : Nat) (s32 : (List TreeNode)) f w => ∃ H : GH, ∃ v66 : Value, ∃ n67 : Nat, ∃ cs68 : List Value, St Ha wa H w [.row 98 4 v66 n67 cs68] ∧ Inc Ha H ∧ Els (up wa.heap.size H) eTreeNode 4 cs68 s32 ∧ f 4 = Value.int .i64 ((i32 : Nat) : Int) ∧ f 0 = v0 ∧ f 3 = v66) (fun (q : Rs (List TreeNode) Empty) e f w => match q with | .go s32 => e = Exit.exit 0 ∧ (∃ H : GH, ∃ v66 : Value, ∃ n67 : Nat, ∃ cs68 : List Value, St Ha wa H w [.row 98 4 v66 n67 cs68] ∧ Inc Ha H ∧ Els (up wa.heap.size H) eTreeNode 4 cs68 s32 ∧ f 3 = v66) | .rt x => x.elim) hq ⟨_, _, _, _, S26, (Inc.rfl _), els27, rfl, rfl, rfl⟩ ?_ ?_) ?_
  ·
    clear hp hq
    rintro i32 y31 s32 f107 w106 ⟨H103, v66, n67, cs68, S104, i105, els69, k108, k109, k110⟩ hx32 o136 hp
    refine FW.seq (FW.seq (FW.region ?_))
    refine FL.v (E.move k108) ?_
    refine FL.v (E.move k109) ?_
    refine FL.v (E.lenP te53 rfl p0) ?_
    refine FL.v (E.lssT rfl rfl (lss_len hx32)) ?_
    refine FL.nil ?_
    refine FW.condT rfl rfl ?_
    refine FW.skip (FW.seq (FW.block (FW.region ?_)))
    refine FL.v (E.move k110) ?_
    refine FL.v (E.move k108) ?_
    refine FL.v (E.move k109) ?_
    refine FL.v (E.move k108) ?_
    obtain ⟨p111, cs112, pt113, l114, at115, rel116⟩ := p0.at (ix_nat hx32)
    obtain rfl := eTreeNode_open rel116
    refine FL.v (E.indexAddr te53 rfl rfl pt113) ?_
    refine FL.v (E.load rfl (run_loadA Tryz.isAgg100 Tryz.sizeOf100 ((at115.mono i105).now S104.sl) rfl)) ?_
    refine FL.call rfl rfl rfl (E.call Tryz.call65 (A1 rfl)) (w_laws_toTreeNode S104.sl y31) ?_
    rintro e w117 ⟨rfl, r118⟩
    refine ⟨_, rfl, ?_⟩
    have S119 := S104.call r118
    obtain ⟨x126, hx127, hp⟩ := bnd hp
    obtain ⟨p120, cs121, pt122, l123, at124, rel125⟩ := S119.row_at (i := 0) rfl els69 (by decide) hx127
    obtain rfl := eTreeNode_open rel125
    refine FL.v (E.indexAddr te56 rfl rfl pt122) ?_
    obtain ⟨xs131, hput132, hp⟩ := bnd hp
    obtain ⟨w128, cs134, run129, S130, els133, ce135⟩ := S119.putEls (P := Tryz.prog) (t := 98) (i := 0) rfl els69 hput132 pt122 Tryz.sizeOf98 (u := Value.agg #[Value.int .i64 ((PF.laws_toTreeNode y31).var), Value.int .i64 ((PF.laws_toTreeNode y31).low), Value.int .i64 ((PF.laws_toTreeNode y31).high), Value.int .i64 ((PF.laws_toTreeNode y31).clause)]) (c := [Value.int .i64 ((PF.laws_toTreeNode y31).var), Value.int .i64 ((PF.laws_toTreeNode y31).low), Value.int .i64 ((PF.laws_toTreeNode y31).high), Value.int .i64 ((PF.laws_toTreeNode y31).clause)]) rfl rfl (ones_cons rfl (ones_cons rfl (ones_cons rfl (ones_cons rfl ones_nil)))) rfl
    have S130 : St Ha wa H103 w128 [.row 98 4 v66 n67 cs134] := S130
    refine FL.act rfl rfl (E.store rfl rfl run129) ?_
    refine FL.nil (FW.region ?_)
    refine FL.v (E.move k108) ?_
    refine FL.v (E.add rfl rfl) ?_
    refine FL.v (E.assign (v := Value.int .i64 (wr (((i32 : Nat) : Int) + 1))) rfl) ?_
    refine FL.nil ?_
    obtain rfl := Option.some.inj hp
    exact ⟨rfl, ⟨_, _, _, _, S130, i105, els133, (nat_succ rfl (lt_of_get hx32) (p0.mono i105).le), k109, k110⟩⟩
  ·
    clear hp hq
    rintro s32 f147 w146 ⟨H143, v66, n67, cs68, S144, i145, els69, k148, k149, k150⟩
    refine FW.seq (FW.seq (FW.region ?_))
    refine FL.v (E.move k148) ?_
    refine FL.v (E.move k149) ?_
    refine FL.v (E.lenP te53 rfl p0) ?_
    refine FL.v (E.lss rfl rfl) ?_
    refine FL.nil ?_
    refine FW.condF rfl dlt_len ?_
    refine FW.exit ?_
    exact ⟨nofun, rfl, ⟨_, _, _, _, S144, i145, els69, k150⟩⟩
  ·
    clear hq
    intro e f141 w140 hD
    rcases q32 with s32 | x32
    ·
      obtain ⟨rfl, hD⟩ := hD
      obtain ⟨H137, v66, n67, cs68, S138, i139, els69, k142⟩ := hD
      replace hp := el_go hp
      refine FW.seq (FW.region ?_)
      refine FL.v (E.move k142) ?_
      refine FL.v (E.assign (v := v66) rfl) ?_
      refine FL.nil ?_
      refine FW.ret ?_
      obtain rfl := Option.some.inj hp
      exact ⟨.inr rfl, res1 rfl rfl ⟨_, _, _, _, rfl, S138, els69⟩⟩
    · exact x32.elim

theorem w_spec_l1In {Ha : GH} {wa : World} (hs : Sl Ha wa) (a0 : Int) (a1 : Int) (a2 : Int) :
  Calls Tryz.prog 104 #[Value.int .i64 a0, Value.int .i64 a1, Value.int .i64 a2] wa (Sc Ha wa (Value.bool (PF.spec_l1In a0 a1 a2))) := by
 obtain ⟨r, hp⟩ : ∃ r, (PF.spec_l1In a0 a1 a2) = r := ⟨_, rfl⟩
 rw [hp]
 unfold PF.spec_l1In at hp
 have S0 := St.init hs
 refine calls_go (N := 15) (args := [Value.int .i64 a0, Value.int .i64 a1, Value.int .i64 a2]) Tryz.func104 rfl rfl rfl ?_
 refine FW.seq (FW.region ?_)
 refine FL.v (E.assign (v := Value.bool false) rfl) ?_
 refine FL.nil (FW.seq (FW.region ?_))
 refine FL.v (E.move (v := Value.int .i64 a0) rfl) ?_
 refine FL.v (E.move (v := Value.int .i64 a1) rfl) ?_
 refine FL.v (E.geq rfl rfl) ?_
 refine FL.v (E.move (v := Value.bool (decide (a1 ≤ a0))) rfl) ?_
 refine FL.cut 4 (fun f w => ∃ H : GH, St Ha wa H w [] ∧ Inc Ha H ∧ f 14 = Value.bool (bif (decide (a1 ≤ a0)) then (decide (a0 ≤ a2)) else false)) ?_ ?_
 ·
  rcases bcase (decide (a1 ≤ a0)) with c27 | c27
  ·
   refine FL.val (wF_yes rfl rfl rfl c27) rfl rfl (E.move (v := Value.int .i64 a0) rfl) ?_
   refine FL.val (wF_yes rfl rfl rfl c27) rfl rfl (E.move (v := Value.int .i64 a2) rfl) ?_
   refine FL.val (wF_yes rfl rfl rfl c27) rfl rfl (E.leq rfl rfl) ?_
   refine FL.v (E.pickT rfl c27 rfl) ?_
   exact FL.nil ⟨rfl, _, S0, (Inc.rfl _), (congrArg Value.bool (bifT c27).symm)⟩
  ·
   refine FL.skip (wF_no rfl rfl rfl c27) rfl ?_
   refine FL.skip (wF_no rfl rfl rfl c27) rfl ?_
   refine FL.skip (wF_no rfl rfl rfl c27) rfl ?_
   refine FL.v (E.pickF rfl c27 rfl) ?_
   exact FL.nil ⟨rfl, _, S0, (Inc.rfl _), (congrArg Value.bool (bifF c27).symm)⟩
 rintro f26 w25 ⟨H22, S23, i24, k28⟩
 refine FL.v (E.assign k28) ?_
 refine FL.nil ?_
 refine FW.ret ?_
 obtain rfl := hp
 exact ⟨.inr rfl, res1 rfl rfl ⟨rfl, S23.back⟩⟩

theorem w_spec_l2Vars {Ha : GH} {wa : World} (hs : Sl Ha wa) (a0 : Int) :
  Calls Tryz.prog 90 #[Value.int .i64 a0] wa (Sc Ha wa (Value.bool (PF.spec_l2Vars a0))) := by
 obtain ⟨r, hp⟩ : ∃ r, (PF.spec_l2Vars a0) = r := ⟨_, rfl⟩
 rw [hp]
 unfold PF.spec_l2Vars at hp
 have S0 := St.init hs
 refine calls_go (N := 5) (args := [Value.int .i64 a0]) Tryz.func90 rfl rfl rfl ?_
 refine FW.seq (FW.region ?_)
 refine FL.v (E.assign (v := Value.bool false) rfl) ?_
 refine FL.nil (FW.seq (FW.region ?_))
 refine FL.v (E.move (v := Value.int .i64 a0) rfl) ?_
 refine FL.call rfl rfl rfl (E.call Tryz.call104 (A3 rfl rfl rfl)) (w_spec_l1In S0.sl a0 0 12) ?_
 rintro e w21 ⟨rfl, r22⟩
 refine ⟨_, rfl, ?_⟩
 have S23 := S0.call r22
 refine FL.v (E.assign (v := Value.bool (PF.spec_l1In a0 0 12)) rfl) ?_
 refine FL.nil ?_
 refine FW.ret ?_
 obtain rfl := hp
 exact ⟨.inr rfl, res1 rfl rfl ⟨rfl, S23.back⟩⟩

theorem w_spec_l2Lit {Ha : GH} {wa : World} (hs : Sl Ha wa) (a0 : Int) (a1 : Int) :
  Calls Tryz.prog 149 #[Value.int .i64 a0, Value.int .i64 a1] wa (Sc Ha wa (Value.bool (PF.spec_l2Lit a0 a1))) := by
 obtain ⟨r, hp⟩ : ∃ r, (PF.spec_l2Lit a0 a1) = r := ⟨_, rfl⟩
 rw [hp]
 unfold PF.spec_l2Lit at hp
 have S0 := St.init hs
 refine calls_go (N := 14) (args := [Value.int .i64 a0, Value.int .i64 a1]) Tryz.func149 rfl rfl rfl ?_
 refine FW.seq (FW.region ?_)
 refine FL.v (E.assign (v := Value.bool false) rfl) ?_
 refine FL.nil (FW.seq (FW.region ?_))
 refine FL.v (E.move (v := Value.int .i64 a1) rfl) ?_
 refine FL.v (E.move (v := Value.int .i64 a0) rfl) ?_
 refine FL.v (E.neg rfl) ?_
 refine FL.v (E.move (v := Value.int .i64 a0) rfl) ?_
 refine FL.call rfl rfl rfl (E.call Tryz.call104 (A3 rfl rfl rfl)) (w_spec_l1In S0.sl a1 (wr (-a0)) a0) ?_
 rintro e w21 ⟨rfl, r22⟩
 refine ⟨_, rfl, ?_⟩
 have S23 := S0.call r22
 refine FL.v (E.move (v := Value.bool (PF.spec_l1In a1 (wr (-a0)) a0)) rfl) ?_
 refine FL.cut 3 (fun f w => ∃ H : GH, St Ha wa H w [] ∧ Inc Ha H ∧ f 13 = Value.bool (bif (PF.spec_l1In a1 (wr (-a0)) a0) then (!(a1 == 0)) else false)) ?_ ?_
 ·
  rcases bcase (PF.spec_l1In a1 (wr (-a0)) a0) with c30 | c30
  ·
   refine FL.val (wF_yes rfl rfl rfl c30) rfl rfl (E.move (v := Value.int .i64 a1) rfl) ?_
   refine FL.val (wF_yes rfl rfl rfl c30) rfl rfl (E.neq rfl rfl) ?_
   refine FL.v (E.pickT rfl c30 rfl) ?_
   exact FL.nil ⟨rfl, _, S23, (Inc.rfl _), (congrArg Value.bool (bifT c30).symm)⟩
  ·
   refine FL.skip (wF_no rfl rfl rfl c30) rfl ?_
   refine FL.skip (wF_no rfl rfl rfl c30) rfl ?_
   refine FL.v (E.pickF rfl c30 rfl) ?_
   exact FL.nil ⟨rfl, _, S23, (Inc.rfl _), (congrArg Value.bool (bifF c30).symm)⟩
 rintro f29 w28 ⟨H25, S26, i27, k31⟩
 refine FL.v (E.assign k31) ?_
 refine FL.nil ?_
 refine FW.ret ?_
 obtain rfl := hp
 exact ⟨.inr rfl, res1 rfl rfl ⟨rfl, S26.back⟩⟩

theorem w_spec_l2Var {Ha : GH} {wa : World} (hs : Sl Ha wa) (a0 : Int) :
  Calls Tryz.prog 138 #[Value.int .i64 a0] wa (Sc Ha wa (Value.int .i64 (PF.spec_l2Var a0))) := by
 obtain ⟨r, hp⟩ : ∃ r, (PF.spec_l2Var a0) = r := ⟨_, rfl⟩
 rw [hp]
 unfold PF.spec_l2Var at hp
 have S0 := St.init hs
 refine calls_go (N := 8) (args := [Value.int .i64 a0]) Tryz.func138 rfl rfl rfl ?_
 refine FW.seq (FW.region ?_)
 refine FL.v (E.assign (v := Value.int .i64 0) rfl) ?_
 refine FL.nil (FW.seq (FW.seq (FW.region ?_)))
 refine FL.v (E.move (v := Value.int .i64 a0) rfl) ?_
 refine FL.v (E.lss rfl rfl) ?_
 refine FL.nil ?_
 rcases ifT hp with ⟨c21, hp⟩ | ⟨c21, hp⟩
 ·
  refine FW.condT rfl c21 ?_
  refine FW.seq (FW.region ?_)
  refine FL.v (E.move (v := Value.int .i64 a0) rfl) ?_
  refine FL.v (E.neg rfl) ?_
  refine FL.v (E.assign (v := Value.int .i64 (wr (-a0))) rfl) ?_
  refine FL.nil ?_
  refine FW.ret ?_
  obtain rfl := hp
  exact ⟨.inr rfl, res1 rfl rfl ⟨rfl, S0.back⟩⟩
 ·
  refine FW.condF rfl c21 ?_
  refine FW.skip (FW.seq (FW.region ?_))
  refine FL.v (E.move (v := Value.int .i64 a0) rfl) ?_
  refine FL.v (E.assign (v := Value.int .i64 a0) rfl) ?_
  refine FL.nil ?_
  refine FW.ret ?_
  obtain rfl := hp
  exact ⟨.inr rfl, res1 rfl rfl ⟨rfl, S0.back⟩⟩

theorem w_spec_l2Clause {Ha : GH} {wa : World} (hs : Sl Ha wa) (a0 : Int) (v1 : Value) (a1 : List Int) (p1 : RSl Ha eI 1 v1 a1) {r : Bool} (hp : (PF.spec_l2Clause a0 a1) = some r) :
  Calls Tryz.prog 91 #[Value.int .i64 a0, v1] wa (Sc Ha wa (Value.bool r)) := by
 unfold PF.spec_l2Clause at hp
 have S0 := St.init hs
 refine calls_go (N := 40) (args := [Value.int .i64 a0, v1]) Tryz.func91 rfl rfl rfl ?_
 refine FW.seq (FW.region ?_)
 refine FL.v (E.assign (v := Value.bool false) rfl) ?_
 refine FL.nil (FW.seq (FW.seq (FW.region ?_)))
 refine FL.v (E.move (v := Value.int .i64 a0) rfl) ?_
 refine FL.call rfl rfl rfl (E.call Tryz.call90 (A1 rfl)) (w_spec_l2Vars S0.sl a0) ?_
 rintro e w21 ⟨rfl, r22⟩
 refine ⟨_, rfl, ?_⟩
 have S23 := S0.call r22
 refine FL.v (E.not rfl) ?_
 refine FL.nil ?_
 rcases ifB hp with ⟨c24, hp⟩ | ⟨c24, hp⟩
 ·
  refine FW.condT rfl c24 ?_
  refine FW.seq (FW.region ?_)
  refine FL.v (E.assign (v := Value.bool false) rfl) ?_
  refine FL.nil ?_
  refine FW.ret ?_
  obtain rfl := Option.some.inj hp
  exact ⟨.inr rfl, res1 rfl rfl ⟨rfl, S23.back⟩⟩
 ·
  refine FW.condF rfl c24 ?_
  refine FW.skip (FW.seq (FW.seq (FW.region ?_)))
  refine FL.v (E.assign (v := Value.int .i64 0) rfl) ?_
  refine FL.nil ?_
  obtain ⟨q26, hq, hp⟩ := bndR hp
  refine FW.block ?_
  refine FW.mono (FW.forL (S := Unit) (X := Bool) (fun (i26 : Nat) (s26 : Unit) f w => ∃ H : GH, St Ha wa H w [] ∧ Inc Ha H ∧ f 5 = Value.int .i64 ((i26 : Nat) : Int) ∧ f 0 = Value.int .i64 a0 ∧ f 1 = v1) (fun q e f w => match q with | .go s26 => e = Exit.exit 0 ∧ (∃ H : GH, St Ha wa H w [] ∧ Inc Ha H) | .rt x => ((e = Exit.ret) ∧ (fun e f w => (e = Exit.normal ∨ e = Exit.ret) ∧ ∀ a, Fr (δ := []) 40 a f → ∃ v, (results Tryz.f91 a.tmps).run Tryz.prog w = .ok v w ∧ (Sc Ha wa (Value.bool x)) (.returned v) w) e f w)) hq ⟨_, S23, (Inc.rfl _), rfl, rfl, rfl⟩ ?_ ?_) ?_
  ·
   clear hp hq
   rintro i26 y25 s26 f141 w140 ⟨H137, S138, i139, k142, k143, k144⟩ hx26 o247 hp
   refine FW.seq (FW.seq (FW.region ?_))
   refine FL.v (E.move k142) ?_
   refine FL.v (E.move k144) ?_
   refine FL.v (E.lenP te84 rfl p1) ?_
   refine FL.v (E.lssT rfl rfl (lss_len hx26)) ?_
   refine FL.nil ?_
   refine FW.condT rfl rfl ?_
   refine FW.skip (FW.seq (FW.block (FW.seq ?_)))
   refine FW.draw (fun w' => Run w140.heap.size H137 w140 H137 w') (by kernel_rfl) (by kernel_rfl) (run_drew S138.sl) ?_
   refine FD.val rfl rfl rfl (fun w' hw' => (E.move k143)) ?_
   refine FD.val rfl rfl rfl (fun w' hw' => (E.move k144)) ?_
   refine FD.val rfl rfl rfl (fun w' hw' => (E.move k142)) ?_
   obtain ⟨p146, cs147, pt148, l149, at150, rel151⟩ := p1.at (ix_nat hx26)
   obtain rfl := eI_open rel151
   refine FD.val rfl rfl rfl (fun w' hw' => (E.indexAddr te84 rfl rfl pt148)) ?_
   refine FD.val rfl rfl rfl (fun w' hw' => (E.load rfl (run_load0 Tryz.isAgg3 ((at150.mono i139).now (S138.call hw').sl) rfl))) ?_
   refine FD.call rfl rfl rfl (fun w' hw' => (E.call Tryz.call149 (A2 rfl rfl))) (fun w' hw' => Calls.cls hw' (w_spec_l2Lit (S138.call hw').sl a0 y25)) ?_
   refine FD.val rfl rfl rfl (fun w' hw' => (E.not rfl)) ?_
   refine FD.val rfl rfl rfl (fun w' hw' => (E.move (v := Value.bool (!(PF.spec_l2Lit a0 y25))) rfl)) ?_
   obtain ⟨t192, hqt192, hp⟩ := bnd hp
   refine FD.cut 17 (fun f => f 0 = Value.int .i64 a0 ∧ f 1 = v1 ∧ f 5 = Value.int .i64 ((i26 : Nat) : Int) ∧ f 39 = Value.bool t192) ?_ ?_
   ·
    clear hp; have hp := hqt192; clear hqt192
    rcases ifB hp with ⟨c198, hp⟩ | ⟨c198, hp⟩
    ·
     refine FD.skip (wF_no rfl rfl rfl c198) rfl ?_
     refine FD.skip (wF_no rfl rfl rfl c198) rfl ?_
     refine FD.skip (wF_no rfl rfl rfl c198) rfl ?_
     refine FD.skip (wF_undef rfl rfl rfl) rfl ?_
     refine FD.skip (wF_undef rfl rfl rfl) rfl ?_
     refine FD.skip (wF_undef rfl rfl rfl) rfl ?_
     refine FD.skip (wF_undef rfl rfl rfl) rfl ?_
     refine FD.skip (wF_undef rfl rfl rfl) rfl ?_
     refine FD.skip (wF_undef rfl rfl rfl) rfl ?_
     refine FD.skip (wF_undef rfl rfl rfl) rfl ?_
     refine FD.skip (wF_undef rfl rfl rfl) rfl ?_
     refine FD.skip (wF_undef rfl rfl rfl) rfl ?_
     refine FD.skip (wF_undef rfl rfl rfl) rfl ?_
     refine FD.skip (wF_undef rfl rfl rfl) rfl ?_
     refine FD.skip (wF_undef rfl rfl rfl) rfl ?_
     refine FD.skip (wF_no rfl rfl rfl c198) rfl ?_
     obtain rfl := Option.some.inj hp
     refine FD.val rfl rfl rfl (fun w' hw' => (E.pickT rfl c198 rfl)) ?_
     exact FD.nil ⟨k143, k144, k142, rfl⟩
    ·
     refine FD.val (wF_yes rfl rfl rfl c198) rfl rfl (fun w' hw' => (E.move k142)) ?_
     refine FD.val (wF_yes rfl rfl rfl c198) rfl rfl (fun w' hw' => (E.gtr rfl rfl)) ?_
     refine FD.val (wF_yes rfl rfl rfl c198) rfl rfl (fun w' hw' => (E.move (v := Value.bool (decide (0 < ((i26 : Nat) : Int)))) rfl)) ?_
     obtain ⟨t213, hqt213, hp⟩ := bnd hp
     refine FD.cut 13 (fun f => f 0 = Value.int .i64 a0 ∧ f 1 = v1 ∧ f 5 = Value.int .i64 ((i26 : Nat) : Int) ∧ f 22 = Value.bool (!(PF.spec_l2Lit a0 y25)) ∧ f 38 = Value.bool t213) ?_ ?_
     ·
      clear hp; have hp := hqt213; clear hqt213
      rcases ifB hp with ⟨c219, hp⟩ | ⟨c219, hp⟩
      ·
       refine FD.val (wF_yes rfl rfl rfl c219) rfl rfl (fun w' hw' => (E.move k144)) ?_
       refine FD.val (wF_yes rfl rfl rfl c219) rfl rfl (fun w' hw' => (E.move k142)) ?_
       refine FD.val (wF_yes rfl rfl rfl c219) rfl rfl (fun w' hw' => (E.sub rfl rfl)) ?_
       obtain ⟨x226, hx227, hp⟩ := bnd hp
       obtain ⟨p220, cs221, pt222, l223, at224, rel225⟩ := p1.at hx227
       obtain rfl := eI_open rel225
       refine FD.val (wF_yes rfl rfl rfl c219) rfl rfl (fun w' hw' => (E.indexAddr te84 rfl rfl pt222)) ?_
       refine FD.val (wF_yes rfl rfl rfl c219) rfl rfl (fun w' hw' => (E.load rfl (run_load0 Tryz.isAgg3 ((at224.mono i139).now (S138.call hw').sl) rfl))) ?_
       refine FD.call (wF_yes rfl rfl rfl c219) rfl rfl (fun w' hw' => (E.call Tryz.call138 (A1 rfl))) (fun w' hw' => Calls.cls hw' (w_spec_l2Var (S138.call hw').sl x226)) ?_
       refine FD.val (wF_yes rfl rfl rfl c219) rfl rfl (fun w' hw' => (E.move k144)) ?_
       refine FD.val (wF_yes rfl rfl rfl c219) rfl rfl (fun w' hw' => (E.move k142)) ?_
       obtain ⟨p228, cs229, pt230, l231, at232, rel233⟩ := p1.at (ix_nat hx26)
       obtain rfl := eI_open rel233
       refine FD.val (wF_yes rfl rfl rfl c219) rfl rfl (fun w' hw' => (E.indexAddr te84 rfl rfl pt230)) ?_
       refine FD.val (wF_yes rfl rfl rfl c219) rfl rfl (fun w' hw' => (E.load rfl (run_load0 Tryz.isAgg3 ((at232.mono i139).now (S138.call hw').sl) rfl))) ?_
       refine FD.call (wF_yes rfl rfl rfl c219) rfl rfl (fun w' hw' => (E.call Tryz.call138 (A1 rfl))) (fun w' hw' => Calls.cls hw' (w_spec_l2Var (S138.call hw').sl y25)) ?_
       refine FD.val (wF_yes rfl rfl rfl c219) rfl rfl (fun w' hw' => (E.geq rfl rfl)) ?_
       obtain rfl := Option.some.inj hp
       refine FD.val (wF_yes rfl rfl rfl c198) rfl rfl (fun w' hw' => (E.pickT rfl c219 rfl)) ?_
       exact FD.nil ⟨k143, k144, k142, rfl, rfl⟩
      ·
       refine FD.skip (wF_no rfl rfl rfl c219) rfl ?_
       refine FD.skip (wF_no rfl rfl rfl c219) rfl ?_
       refine FD.skip (wF_no rfl rfl rfl c219) rfl ?_
       refine FD.skip (wF_no rfl rfl rfl c219) rfl ?_
       refine FD.skip (wF_no rfl rfl rfl c219) rfl ?_
       refine FD.skip (wF_no rfl rfl rfl c219) rfl ?_
       refine FD.skip (wF_no rfl rfl rfl c219) rfl ?_
       refine FD.skip (wF_no rfl rfl rfl c219) rfl ?_
       refine FD.skip (wF_no rfl rfl rfl c219) rfl ?_
       refine FD.skip (wF_no rfl rfl rfl c219) rfl ?_
       refine FD.skip (wF_no rfl rfl rfl c219) rfl ?_
       refine FD.skip (wF_no rfl rfl rfl c219) rfl ?_
       obtain rfl := Option.some.inj hp
       refine FD.val (wF_yes rfl rfl rfl c198) rfl rfl (fun w' hw' => (E.pickF rfl c219 rfl)) ?_
       exact FD.nil ⟨k143, k144, k142, rfl, rfl⟩
     rintro f218 ⟨k234, k235, k236, k237, k238⟩
     obtain rfl := Option.some.inj hp
     refine FD.val rfl rfl rfl (fun w' hw' => (E.pickF k237 c198 k238)) ?_
     exact FD.nil ⟨k234, k235, k236, rfl⟩
   rintro f197 ⟨k239, k240, k241, k242⟩
   refine FD.nil ?_
   intro w243 r245
   have S244 := S138.call r245
   rcases ifB hp with ⟨c246, hp⟩ | ⟨c246, hp⟩
   ·
    refine FW.condT k242 c246 ?_
    refine FW.seq (FW.region ?_)
    refine FL.v (E.assign (v := Value.bool false) rfl) ?_
    refine FL.nil ?_
    refine FW.ret ?_
    obtain rfl := Option.some.inj hp
    exact ⟨nofun, rfl, ⟨.inr rfl, res1 rfl rfl ⟨rfl, S244.back⟩⟩⟩
   ·
    refine FW.condF k242 c246 ?_
    refine FW.skip (FW.region ?_)
    refine FL.v (E.move k241) ?_
    refine FL.v (E.add rfl rfl) ?_
    refine FL.v (E.assign (v := Value.int .i64 (wr (((i26 : Nat) : Int) + 1))) rfl) ?_
    refine FL.nil ?_
    obtain rfl := Option.some.inj hp
    exact ⟨rfl, ⟨_, S244, i139, (nat_succ rfl (lt_of_get hx26) (p1.mono i139).le), k239, k240⟩⟩
  ·
   clear hp hq
   rintro s26 f257 w256 ⟨H253, S254, i255, k258, k259, k260⟩
   refine FW.seq (FW.seq (FW.region ?_))
   refine FL.v (E.move k258) ?_
   refine FL.v (E.move k260) ?_
   refine FL.v (E.lenP te84 rfl p1) ?_
   refine FL.v (E.lss rfl rfl) ?_
   refine FL.nil ?_
   refine FW.condF rfl dlt_len ?_
   refine FW.exit ?_
   exact ⟨nofun, rfl, ⟨_, S254, i255⟩⟩
  ·
   clear hq
   intro e f252 w251 hD
   rcases q26 with s26 | x26
   ·
    obtain ⟨rfl, hD⟩ := hD
    obtain ⟨H248, S249, i250⟩ := hD
    replace hp := el_go hp
    refine FW.seq (FW.region ?_)
    refine FL.v (E.assign (v := Value.bool true) rfl) ?_
    refine FL.nil ?_
    refine FW.ret ?_
    obtain rfl := Option.some.inj hp
    exact ⟨.inr rfl, res1 rfl rfl ⟨rfl, S249.back⟩⟩
   ·
    obtain ⟨he, hL⟩ := hD
    replace hp := el_rt hp
    obtain rfl := Option.some.inj hp
    subst he
    exact hL

theorem w_spec_l2Good {Ha : GH} {wa : World} (hs : Sl Ha wa) (a0 : Cnf) (v0_1 : Value) (p0_1 : RSl Ha (eL eI 1) 1 v0_1 a0.clauses) {r : Bool} (hp : (PF.spec_l2Good a0) = some r) :
  Calls Tryz.prog 43 #[Value.agg #[Value.int .i64 a0.vars, v0_1]] wa (Sc Ha wa (Value.bool r)) := by
 unfold PF.spec_l2Good at hp
 have S0 := St.init hs
 refine calls_go (N := 30) (args := [Value.agg #[Value.int .i64 a0.vars, v0_1]]) Tryz.func43 rfl rfl rfl ?_
 refine FW.seq (FW.region ?_)
 obtain ⟨b21, w22, run23, S24⟩ := S0.box (P := Tryz.prog) 30 [Value.int .i64 a0.vars, v0_1] (v := Value.agg #[Value.int .i64 a0.vars, v0_1]) rfl (ones_cons rfl (ones_cons p0_1.one ones_nil))
 refine FL.v (E.box rfl run23) ?_
 obtain ⟨H25, S26, i27, at28⟩ := S24.sealBox (i := 0) (l' := []) rfl rfl
 refine FL.v (E.assign (v := Value.bool false) rfl) ?_
 refine FL.nil (FW.seq (FW.seq (FW.region ?_)))
 refine FL.v (E.fieldAddr tf30_0 rfl) ?_
 refine FL.v (E.load rfl (run_load1 Tryz.isAgg3 (at28.now S26.sl) rfl)) ?_
 refine FL.call rfl rfl rfl (E.call Tryz.call90 (A1 rfl)) (w_spec_l2Vars S26.sl a0.vars) ?_
 rintro e w29 ⟨rfl, r30⟩
 refine ⟨_, rfl, ?_⟩
 have S31 := S26.call r30
 refine FL.v (E.not rfl) ?_
 refine FL.v (E.move (v := Value.bool (!(PF.spec_l2Vars a0.vars))) rfl) ?_
 refine FL.cut 5 (fun f w => ∃ H : GH, St Ha wa H w [] ∧ Inc H25 H ∧ f 1 = Value.pointer (some ⟨b21, 0, none⟩) ∧ f 13 = Value.bool (bif (!(PF.spec_l2Vars a0.vars)) then true else (decide (60 < (len a0.clauses))))) ?_ ?_
 ·
  rcases bcase (!(PF.spec_l2Vars a0.vars)) with c38 | c38
  ·
   refine FL.skip (wF_no rfl rfl rfl c38) rfl ?_
   refine FL.skip (wF_no rfl rfl rfl c38) rfl ?_
   refine FL.skip (wF_no rfl rfl rfl c38) rfl ?_
   refine FL.skip (wF_no rfl rfl rfl c38) rfl ?_
   refine FL.v (E.pickT rfl c38 rfl) ?_
   exact FL.nil ⟨rfl, _, S31, (Inc.rfl _), rfl, (congrArg Value.bool (bifT c38).symm)⟩
  ·
   refine FL.val (wF_yes rfl rfl rfl c38) rfl rfl (E.fieldAddr tf30_1 rfl) ?_
   refine FL.val (wF_yes rfl rfl rfl c38) rfl rfl (E.load rfl (run_load1 Tryz.isAgg22 (at28.now S31.sl) rfl)) ?_
   refine FL.val (wF_yes rfl rfl rfl c38) rfl rfl (E.lenP te22 rfl p0_1) ?_
   refine FL.val (wF_yes rfl rfl rfl c38) rfl rfl (E.gtr rfl rfl) ?_
   refine FL.v (E.pickF rfl c38 rfl) ?_
   exact FL.nil ⟨rfl, _, S31, (Inc.rfl _), rfl, (congrArg Value.bool (bifF c38).symm)⟩
 rintro f37 w36 ⟨H33, S34, i35, k39, k40⟩
 refine FL.nil ?_
 rcases ifB hp with ⟨c41, hp⟩ | ⟨c41, hp⟩
 ·
  refine FW.condT k40 c41 ?_
  refine FW.seq (FW.region ?_)
  refine FL.v (E.assign (v := Value.bool false) rfl) ?_
  refine FL.nil ?_
  refine FW.ret ?_
  obtain rfl := Option.some.inj hp
  exact ⟨.inr rfl, res1 rfl rfl ⟨rfl, S34.back⟩⟩
 ·
  refine FW.condF k40 c41 ?_
  refine FW.skip (FW.seq (FW.seq (FW.region ?_)))
  refine FL.v (E.assign (v := Value.int .i64 0) rfl) ?_
  refine FL.nil ?_
  obtain ⟨q42, hq, hp⟩ := bndR hp
  refine FW.block ?_
  refine FW.mono (FW.iter (S := Int) (X := Bool) (fun (s42 : Int) f w => ∃ H : GH, St Ha wa H w [] ∧ Inc H33 H ∧ f 1 = Value.pointer (some ⟨b21, 0, none⟩) ∧ f 3 = Value.int .i64 s42) (fun q e f w => match q with | .go s42 => e = Exit.exit 0 ∧ (∃ H : GH, St Ha wa H w [] ∧ Inc H33 H) | .rt x => ((e = Exit.ret) ∧ (fun e f w => (e = Exit.normal ∨ e = Exit.ret) ∧ ∀ a, Fr (δ := []) 30 a f → ∃ v, (results Tryz.f43 a.tmps).run Tryz.prog w = .ok v w ∧ (Sc Ha wa (Value.bool x)) (.returned v) w) e f w)) hq ⟨_, S34, (Inc.rfl _), k39, rfl⟩ ?_) ?_
  ·
   clear hp hq
   rintro s42 f72 w71 ⟨H68, S69, i70, k73, k74⟩ o93 hp
   refine FW.seq (FW.seq (FW.region ?_))
   refine FL.v (E.move k74) ?_
   refine FL.v (E.fieldAddr tf30_1 k73) ?_
   refine FL.v (E.load rfl (run_load1 Tryz.isAgg22 ((at28.mono (i35.tr i70)).now S69.sl) rfl)) ?_
   refine FL.v (E.lenP te22 rfl p0_1) ?_
   refine FL.v (E.lss rfl rfl) ?_
   refine FL.nil ?_
   rcases ifB hp with ⟨c75, hp⟩ | ⟨c75, hp⟩
   ·
    refine FW.condT rfl c75 ?_
    refine FW.skip (FW.seq (FW.block (FW.seq ?_)))
    refine FW.draw (fun w' => Run w71.heap.size H68 w71 H68 w') (by kernel_rfl) (by kernel_rfl) (run_drew S69.sl) ?_
    refine FD.val rfl rfl rfl (fun w' hw' => (E.fieldAddr tf30_0 k73)) ?_
    refine FD.val rfl rfl rfl (fun w' hw' => (E.load rfl (run_load1 Tryz.isAgg3 ((at28.mono (i35.tr i70)).now (S69.call hw').sl) rfl))) ?_
    refine FD.val rfl rfl rfl (fun w' hw' => (E.fieldAddr tf30_1 k73)) ?_
    refine FD.val rfl rfl rfl (fun w' hw' => (E.load rfl (run_load1 Tryz.isAgg22 ((at28.mono (i35.tr i70)).now (S69.call hw').sl) rfl))) ?_
    refine FD.val rfl rfl rfl (fun w' hw' => (E.move k74)) ?_
    obtain ⟨x83, hx84, hp⟩ := bnd hp
    obtain ⟨p77, cs78, pt79, l80, at81, rel82⟩ := p0_1.at hx84
    obtain ⟨v85, rfl, h86⟩ := eL_open rel82
    refine FD.val rfl rfl rfl (fun w' hw' => (E.indexAddr te22 rfl rfl pt79)) ?_
    refine FD.val rfl rfl rfl (fun w' hw' => (E.load rfl (run_load0 Tryz.isAgg84 ((at81.mono ((i27.tr i35).tr i70)).now (S69.call hw').sl) rfl))) ?_
    obtain ⟨r87, hr88, hp⟩ := bnd hp
    refine FD.call rfl rfl rfl (fun w' hw' => (E.call Tryz.call91 (A2 rfl rfl))) (fun w' hw' => Calls.cls hw' (w_spec_l2Clause (S69.call hw').sl a0.vars v85 x83 (h86.mono ((i27.tr i35).tr i70)) hr88)) ?_
    refine FD.val rfl rfl rfl (fun w' hw' => (E.not rfl)) ?_
    refine FD.nil ?_
    intro w89 r91
    have S90 := S69.call r91
    rcases ifB hp with ⟨c92, hp⟩ | ⟨c92, hp⟩
    ·
     refine FW.condT rfl c92 ?_
     refine FW.seq (FW.region ?_)
     refine FL.v (E.assign (v := Value.bool false) rfl) ?_
     refine FL.nil ?_
     refine FW.ret ?_
     obtain rfl := Option.some.inj hp
     exact ⟨nofun, rfl, ⟨.inr rfl, res1 rfl rfl ⟨rfl, S90.back⟩⟩⟩
    ·
     refine FW.condF rfl c92 ?_
     refine FW.skip (FW.region ?_)
     refine FL.v (E.move k74) ?_
     refine FL.v (E.add rfl rfl) ?_
     refine FL.v (E.assign (v := Value.int .i64 (wr (s42 + 1))) rfl) ?_
     refine FL.nil ?_
     obtain rfl := Option.some.inj hp
     exact ⟨rfl, ⟨_, S90, i70, k73, rfl⟩⟩
   ·
    refine FW.condF rfl c75 ?_
    refine FW.exit ?_
    obtain rfl := Option.some.inj hp
    exact ⟨nofun, rfl, ⟨_, S69, i70⟩⟩
  ·
   clear hq
   intro e f98 w97 hD
   rcases q42 with s42 | x42
   ·
    obtain ⟨rfl, hD⟩ := hD
    obtain ⟨H94, S95, i96⟩ := hD
    replace hp := el_go hp
    refine FW.seq (FW.region ?_)
    refine FL.v (E.assign (v := Value.bool true) rfl) ?_
    refine FL.nil ?_
    refine FW.ret ?_
    obtain rfl := Option.some.inj hp
    exact ⟨.inr rfl, res1 rfl rfl ⟨rfl, S95.back⟩⟩
   ·
    obtain ⟨he, hL⟩ := hD
    replace hp := el_rt hp
    obtain rfl := Option.some.inj hp
    subst he
    exact hL

theorem w_spec_l9Leaf {Ha : GH} {wa : World} (hs : Sl Ha wa) (a0 : TreeNode) :
  Calls Tryz.prog 115 #[Value.agg #[Value.int .i64 a0.var, Value.int .i64 a0.low, Value.int .i64 a0.high, Value.int .i64 a0.clause]] wa (Sc Ha wa (Value.bool (PF.spec_l9Leaf a0))) := by
 obtain ⟨r, hp⟩ : ∃ r, (PF.spec_l9Leaf a0) = r := ⟨_, rfl⟩
 rw [hp]
 unfold PF.spec_l9Leaf at hp
 have S0 := St.init hs
 refine calls_go (N := 6) (args := [Value.agg #[Value.int .i64 a0.var, Value.int .i64 a0.low, Value.int .i64 a0.high, Value.int .i64 a0.clause]]) Tryz.func115 rfl rfl rfl ?_
 refine FW.seq (FW.region ?_)
 obtain ⟨b21, w22, run23, S24⟩ := S0.box (P := Tryz.prog) 98 [Value.int .i64 a0.var, Value.int .i64 a0.low, Value.int .i64 a0.high, Value.int .i64 a0.clause] (v := Value.agg #[Value.int .i64 a0.var, Value.int .i64 a0.low, Value.int .i64 a0.high, Value.int .i64 a0.clause]) rfl (ones_cons rfl (ones_cons rfl (ones_cons rfl (ones_cons rfl ones_nil))))
 refine FL.v (E.box rfl run23) ?_
 obtain ⟨H25, S26, i27, at28⟩ := S24.sealBox (i := 0) (l' := []) rfl rfl
 refine FL.v (E.assign (v := Value.bool false) rfl) ?_
 refine FL.nil (FW.seq (FW.region ?_))
 refine FL.v (E.fieldAddr tf98_0 rfl) ?_
 refine FL.v (E.load rfl (run_load1 Tryz.isAgg3 (at28.now S26.sl) rfl)) ?_
 refine FL.v (E.eql rfl rfl) ?_
 refine FL.v (E.assign (v := Value.bool (a0.var == 0)) rfl) ?_
 refine FL.nil ?_
 refine FW.ret ?_
 obtain rfl := hp
 exact ⟨.inr rfl, res1 rfl rfl ⟨rfl, S26.back⟩⟩

theorem w_spec_l9Node {Ha : GH} {wa : World} (hs : Sl Ha wa) (a0 : Cnf) (v0_1 : Value) (p0_1 : RSl Ha (eL eI 1) 1 v0_1 a0.clauses) (a1 : TreeNode) (a2 : Int) :
  Calls Tryz.prog 172 #[Value.agg #[Value.int .i64 a0.vars, v0_1], Value.agg #[Value.int .i64 a1.var, Value.int .i64 a1.low, Value.int .i64 a1.high, Value.int .i64 a1.clause], Value.int .i64 a2] wa (Sc Ha wa (Value.bool (PF.spec_l9Node a0 a1 a2))) := by
 obtain ⟨r, hp⟩ : ∃ r, (PF.spec_l9Node a0 a1 a2) = r := ⟨_, rfl⟩
 rw [hp]
 unfold PF.spec_l9Node at hp
 have S0 := St.init hs
 refine calls_go (N := 57) (args := [Value.agg #[Value.int .i64 a0.vars, v0_1], Value.agg #[Value.int .i64 a1.var, Value.int .i64 a1.low, Value.int .i64 a1.high, Value.int .i64 a1.clause], Value.int .i64 a2]) Tryz.func172 rfl rfl rfl ?_
 refine FW.seq (FW.region ?_)
 obtain ⟨b21, w22, run23, S24⟩ := S0.box (P := Tryz.prog) 30 [Value.int .i64 a0.vars, v0_1] (v := Value.agg #[Value.int .i64 a0.vars, v0_1]) rfl (ones_cons rfl (ones_cons p0_1.one ones_nil))
 refine FL.v (E.box rfl run23) ?_
 obtain ⟨H25, S26, i27, at28⟩ := S24.sealBox (i := 0) (l' := []) rfl rfl
 obtain ⟨b29, w30, run31, S32⟩ := S26.box (P := Tryz.prog) 98 [Value.int .i64 a1.var, Value.int .i64 a1.low, Value.int .i64 a1.high, Value.int .i64 a1.clause] (v := Value.agg #[Value.int .i64 a1.var, Value.int .i64 a1.low, Value.int .i64 a1.high, Value.int .i64 a1.clause]) rfl (ones_cons rfl (ones_cons rfl (ones_cons rfl (ones_cons rfl ones_nil))))
 refine FL.v (E.box rfl run31) ?_
 obtain ⟨H33, S34, i35, at36⟩ := S32.sealBox (i := 0) (l' := []) rfl rfl
 refine FL.v (E.assign (v := Value.bool false) rfl) ?_
 refine FL.nil (FW.seq (FW.seq (FW.region ?_)))
 refine FL.v (E.load rfl (run_loadA Tryz.isAgg98 Tryz.sizeOf98 (at36.now S34.sl) rfl)) ?_
 refine FL.call rfl rfl rfl (E.call Tryz.call115 (A1 rfl)) (w_spec_l9Leaf S34.sl a1) ?_
 rintro e w37 ⟨rfl, r38⟩
 refine ⟨_, rfl, ?_⟩
 have S39 := S34.call r38
 refine FL.nil ?_
 rcases ifT hp with ⟨c40, hp⟩ | ⟨c40, hp⟩
 ·
  refine FW.condT rfl c40 ?_
  refine FW.seq (FW.region ?_)
  refine FL.v (E.fieldAddr tf98_1 rfl) ?_
  refine FL.v (E.load rfl (run_load1 Tryz.isAgg3 (at36.now S39.sl) rfl)) ?_
  refine FL.v (E.eql rfl rfl) ?_
  refine FL.v (E.move (v := Value.bool (a1.low == 0)) rfl) ?_
  refine FL.cut 4 (fun f w => ∃ H : GH, St Ha wa H w [] ∧ Inc H33 H ∧ f 3 = Value.pointer (some ⟨b21, 0, none⟩) ∧ f 4 = Value.pointer (some ⟨b29, 0, none⟩) ∧ f 16 = Value.bool (bif (a1.low == 0) then (a1.high == 0) else false)) ?_ ?_
  ·
   rcases bcase (a1.low == 0) with c47 | c47
   ·
    refine FL.val (wF_yes rfl rfl rfl c47) rfl rfl (E.fieldAddr tf98_2 rfl) ?_
    refine FL.val (wF_yes rfl rfl rfl c47) rfl rfl (E.load rfl (run_load1 Tryz.isAgg3 (at36.now S39.sl) rfl)) ?_
    refine FL.val (wF_yes rfl rfl rfl c47) rfl rfl (E.eql rfl rfl) ?_
    refine FL.v (E.pickT rfl c47 rfl) ?_
    exact FL.nil ⟨rfl, _, S39, (Inc.rfl _), rfl, rfl, (congrArg Value.bool (bifT c47).symm)⟩
   ·
    refine FL.skip (wF_no rfl rfl rfl c47) rfl ?_
    refine FL.skip (wF_no rfl rfl rfl c47) rfl ?_
    refine FL.skip (wF_no rfl rfl rfl c47) rfl ?_
    refine FL.v (E.pickF rfl c47 rfl) ?_
    exact FL.nil ⟨rfl, _, S39, (Inc.rfl _), rfl, rfl, (congrArg Value.bool (bifF c47).symm)⟩
  rintro f46 w45 ⟨H42, S43, i44, k48, k49, k50⟩
  refine FL.v (E.move k50) ?_
  refine FL.cut 8 (fun f w => ∃ H : GH, St Ha wa H w [] ∧ Inc H42 H ∧ f 25 = Value.bool (bif (bif (a1.low == 0) then (a1.high == 0) else false) then (PF.spec_l1In a1.clause 0 (wr ((len a0.clauses) - 1))) else false)) ?_ ?_
  ·
   rcases bcase (bif (a1.low == 0) then (a1.high == 0) else false) with c60 | c60
   ·
    refine FL.val (wF_yes rfl rfl rfl c60) rfl rfl (E.fieldAddr tf98_3 k49) ?_
    refine FL.val (wF_yes rfl rfl rfl c60) rfl rfl (E.load rfl (run_load1 Tryz.isAgg3 ((at36.mono i44).now S43.sl) rfl)) ?_
    refine FL.val (wF_yes rfl rfl rfl c60) rfl rfl (E.fieldAddr tf30_1 k48) ?_
    refine FL.val (wF_yes rfl rfl rfl c60) rfl rfl (E.load rfl (run_load1 Tryz.isAgg22 ((at28.mono (i35.tr i44)).now S43.sl) rfl)) ?_
    refine FL.val (wF_yes rfl rfl rfl c60) rfl rfl (E.lenP te22 rfl p0_1) ?_
    refine FL.val (wF_yes rfl rfl rfl c60) rfl rfl (E.sub rfl rfl) ?_
    refine FL.call (wF_yes rfl rfl rfl c60) rfl rfl (E.call Tryz.call104 (A3 rfl rfl rfl)) (w_spec_l1In S43.sl a1.clause 0 (wr ((len a0.clauses) - 1))) ?_
    rintro e w61 ⟨rfl, r62⟩
    refine ⟨_, rfl, ?_⟩
    have S63 := S43.call r62
    refine FL.v (E.pickT rfl c60 rfl) ?_
    exact FL.nil ⟨rfl, _, S63, (Inc.rfl _), (congrArg Value.bool (bifT c60).symm)⟩
   ·
    refine FL.skip (wF_no rfl rfl rfl c60) rfl ?_
    refine FL.skip (wF_no rfl rfl rfl c60) rfl ?_
    refine FL.skip (wF_no rfl rfl rfl c60) rfl ?_
    refine FL.skip (wF_no rfl rfl rfl c60) rfl ?_
    refine FL.skip (wF_no rfl rfl rfl c60) rfl ?_
    refine FL.skip (wF_no rfl rfl rfl c60) rfl ?_
    refine FL.skip (wF_no rfl rfl rfl c60) rfl ?_
    refine FL.v (E.pickF rfl c60 rfl) ?_
    exact FL.nil ⟨rfl, _, S43, (Inc.rfl _), (congrArg Value.bool (bifF c60).symm)⟩
  rintro f59 w58 ⟨H55, S56, i57, k64⟩
  refine FL.v (E.assign k64) ?_
  refine FL.nil ?_
  refine FW.ret ?_
  obtain rfl := hp
  exact ⟨.inr rfl, res1 rfl rfl ⟨rfl, S56.back⟩⟩
 ·
  refine FW.condF rfl c40 ?_
  refine FW.skip (FW.seq (FW.region ?_))
  refine FL.v (E.fieldAddr tf98_0 rfl) ?_
  refine FL.v (E.load rfl (run_load1 Tryz.isAgg3 (at36.now S39.sl) rfl)) ?_
  refine FL.v (E.fieldAddr tf30_0 rfl) ?_
  refine FL.v (E.load rfl (run_load1 Tryz.isAgg3 ((at28.mono i35).now S39.sl) rfl)) ?_
  refine FL.call rfl rfl rfl (E.call Tryz.call104 (A3 rfl rfl rfl)) (w_spec_l1In S39.sl a1.var 1 a0.vars) ?_
  rintro e w65 ⟨rfl, r66⟩
  refine ⟨_, rfl, ?_⟩
  have S67 := S39.call r66
  refine FL.v (E.move (v := Value.bool (PF.spec_l1In a1.var 1 a0.vars)) rfl) ?_
  refine FL.cut 6 (fun f w => ∃ H : GH, St Ha wa H w [] ∧ Inc H33 H ∧ f 2 = Value.int .i64 a2 ∧ f 4 = Value.pointer (some ⟨b29, 0, none⟩) ∧ f 37 = Value.bool (bif (PF.spec_l1In a1.var 1 a0.vars) then (PF.spec_l1In a1.low 0 (wr (a2 - 1))) else false)) ?_ ?_
  ·
   rcases bcase (PF.spec_l1In a1.var 1 a0.vars) with c77 | c77
   ·
    refine FL.val (wF_yes rfl rfl rfl c77) rfl rfl (E.fieldAddr tf98_1 rfl) ?_
    refine FL.val (wF_yes rfl rfl rfl c77) rfl rfl (E.load rfl (run_load1 Tryz.isAgg3 (at36.now S67.sl) rfl)) ?_
    refine FL.val (wF_yes rfl rfl rfl c77) rfl rfl (E.move (v := Value.int .i64 a2) rfl) ?_
    refine FL.val (wF_yes rfl rfl rfl c77) rfl rfl (E.sub rfl rfl) ?_
    refine FL.call (wF_yes rfl rfl rfl c77) rfl rfl (E.call Tryz.call104 (A3 rfl rfl rfl)) (w_spec_l1In S67.sl a1.low 0 (wr (a2 - 1))) ?_
    rintro e w78 ⟨rfl, r79⟩
    refine ⟨_, rfl, ?_⟩
    have S80 := S67.call r79
    refine FL.v (E.pickT rfl c77 rfl) ?_
    exact FL.nil ⟨rfl, _, S80, (Inc.rfl _), rfl, rfl, (congrArg Value.bool (bifT c77).symm)⟩
   ·
    refine FL.skip (wF_no rfl rfl rfl c77) rfl ?_
    refine FL.skip (wF_no rfl rfl rfl c77) rfl ?_
    refine FL.skip (wF_no rfl rfl rfl c77) rfl ?_
    refine FL.skip (wF_no rfl rfl rfl c77) rfl ?_
    refine FL.skip (wF_no rfl rfl rfl c77) rfl ?_
    refine FL.v (E.pickF rfl c77 rfl) ?_
    exact FL.nil ⟨rfl, _, S67, (Inc.rfl _), rfl, rfl, (congrArg Value.bool (bifF c77).symm)⟩
  rintro f76 w75 ⟨H72, S73, i74, k81, k82, k83⟩
  refine FL.v (E.move k83) ?_
  refine FL.cut 6 (fun f w => ∃ H : GH, St Ha wa H w [] ∧ Inc H72 H ∧ f 4 = Value.pointer (some ⟨b29, 0, none⟩) ∧ f 44 = Value.bool (bif (bif (PF.spec_l1In a1.var 1 a0.vars) then (PF.spec_l1In a1.low 0 (wr (a2 - 1))) else false) then (PF.spec_l1In a1.high 0 (wr (a2 - 1))) else false)) ?_ ?_
  ·
   rcases bcase (bif (PF.spec_l1In a1.var 1 a0.vars) then (PF.spec_l1In a1.low 0 (wr (a2 - 1))) else false) with c93 | c93
   ·
    refine FL.val (wF_yes rfl rfl rfl c93) rfl rfl (E.fieldAddr tf98_2 k82) ?_
    refine FL.val (wF_yes rfl rfl rfl c93) rfl rfl (E.load rfl (run_load1 Tryz.isAgg3 ((at36.mono i74).now S73.sl) rfl)) ?_
    refine FL.val (wF_yes rfl rfl rfl c93) rfl rfl (E.move k81) ?_
    refine FL.val (wF_yes rfl rfl rfl c93) rfl rfl (E.sub rfl rfl) ?_
    refine FL.call (wF_yes rfl rfl rfl c93) rfl rfl (E.call Tryz.call104 (A3 rfl rfl rfl)) (w_spec_l1In S73.sl a1.high 0 (wr (a2 - 1))) ?_
    rintro e w94 ⟨rfl, r95⟩
    refine ⟨_, rfl, ?_⟩
    have S96 := S73.call r95
    refine FL.v (E.pickT rfl c93 rfl) ?_
    exact FL.nil ⟨rfl, _, S96, (Inc.rfl _), k82, (congrArg Value.bool (bifT c93).symm)⟩
   ·
    refine FL.skip (wF_no rfl rfl rfl c93) rfl ?_
    refine FL.skip (wF_no rfl rfl rfl c93) rfl ?_
    refine FL.skip (wF_no rfl rfl rfl c93) rfl ?_
    refine FL.skip (wF_no rfl rfl rfl c93) rfl ?_
    refine FL.skip (wF_no rfl rfl rfl c93) rfl ?_
    refine FL.v (E.pickF rfl c93 rfl) ?_
    exact FL.nil ⟨rfl, _, S73, (Inc.rfl _), k82, (congrArg Value.bool (bifF c93).symm)⟩
  rintro f92 w91 ⟨H88, S89, i90, k97, k98⟩
  refine FL.v (E.move k98) ?_
  refine FL.cut 6 (fun f w => ∃ H : GH, St Ha wa H w [] ∧ Inc H88 H ∧ f 4 = Value.pointer (some ⟨b29, 0, none⟩) ∧ f 51 = Value.bool (bif (bif (bif (PF.spec_l1In a1.var 1 a0.vars) then (PF.spec_l1In a1.low 0 (wr (a2 - 1))) else false) then (PF.spec_l1In a1.high 0 (wr (a2 - 1))) else false) then (!(a1.low == a1.high)) else false)) ?_ ?_
  ·
   rcases bcase (bif (bif (PF.spec_l1In a1.var 1 a0.vars) then (PF.spec_l1In a1.low 0 (wr (a2 - 1))) else false) then (PF.spec_l1In a1.high 0 (wr (a2 - 1))) else false) with c105 | c105
   ·
    refine FL.val (wF_yes rfl rfl rfl c105) rfl rfl (E.fieldAddr tf98_1 k97) ?_
    refine FL.val (wF_yes rfl rfl rfl c105) rfl rfl (E.load rfl (run_load1 Tryz.isAgg3 ((at36.mono (i74.tr i90)).now S89.sl) rfl)) ?_
    refine FL.val (wF_yes rfl rfl rfl c105) rfl rfl (E.fieldAddr tf98_2 k97) ?_
    refine FL.val (wF_yes rfl rfl rfl c105) rfl rfl (E.load rfl (run_load1 Tryz.isAgg3 ((at36.mono (i74.tr i90)).now S89.sl) rfl)) ?_
    refine FL.val (wF_yes rfl rfl rfl c105) rfl rfl (E.neq rfl rfl) ?_
    refine FL.v (E.pickT rfl c105 rfl) ?_
    exact FL.nil ⟨rfl, _, S89, (Inc.rfl _), k97, (congrArg Value.bool (bifT c105).symm)⟩
   ·
    refine FL.skip (wF_no rfl rfl rfl c105) rfl ?_
    refine FL.skip (wF_no rfl rfl rfl c105) rfl ?_
    refine FL.skip (wF_no rfl rfl rfl c105) rfl ?_
    refine FL.skip (wF_no rfl rfl rfl c105) rfl ?_
    refine FL.skip (wF_no rfl rfl rfl c105) rfl ?_
    refine FL.v (E.pickF rfl c105 rfl) ?_
    exact FL.nil ⟨rfl, _, S89, (Inc.rfl _), k97, (congrArg Value.bool (bifF c105).symm)⟩
  rintro f104 w103 ⟨H100, S101, i102, k106, k107⟩
  refine FL.v (E.move k107) ?_
  refine FL.cut 4 (fun f w => ∃ H : GH, St Ha wa H w [] ∧ Inc H100 H ∧ f 56 = Value.bool (bif (bif (bif (bif (PF.spec_l1In a1.var 1 a0.vars) then (PF.spec_l1In a1.low 0 (wr (a2 - 1))) else false) then (PF.spec_l1In a1.high 0 (wr (a2 - 1))) else false) then (!(a1.low == a1.high)) else false) then (a1.clause == 0) else false)) ?_ ?_
  ·
   rcases bcase (bif (bif (bif (PF.spec_l1In a1.var 1 a0.vars) then (PF.spec_l1In a1.low 0 (wr (a2 - 1))) else false) then (PF.spec_l1In a1.high 0 (wr (a2 - 1))) else false) then (!(a1.low == a1.high)) else false) with c114 | c114
   ·
    refine FL.val (wF_yes rfl rfl rfl c114) rfl rfl (E.fieldAddr tf98_3 k106) ?_
    refine FL.val (wF_yes rfl rfl rfl c114) rfl rfl (E.load rfl (run_load1 Tryz.isAgg3 ((at36.mono ((i74.tr i90).tr i102)).now S101.sl) rfl)) ?_
    refine FL.val (wF_yes rfl rfl rfl c114) rfl rfl (E.eql rfl rfl) ?_
    refine FL.v (E.pickT rfl c114 rfl) ?_
    exact FL.nil ⟨rfl, _, S101, (Inc.rfl _), (congrArg Value.bool (bifT c114).symm)⟩
   ·
    refine FL.skip (wF_no rfl rfl rfl c114) rfl ?_
    refine FL.skip (wF_no rfl rfl rfl c114) rfl ?_
    refine FL.skip (wF_no rfl rfl rfl c114) rfl ?_
    refine FL.v (E.pickF rfl c114 rfl) ?_
    exact FL.nil ⟨rfl, _, S101, (Inc.rfl _), (congrArg Value.bool (bifF c114).symm)⟩
  rintro f113 w112 ⟨H109, S110, i111, k115⟩
  refine FL.v (E.assign k115) ?_
  refine FL.nil ?_
  refine FW.ret ?_
  obtain rfl := hp
  exact ⟨.inr rfl, res1 rfl rfl ⟨rfl, S110.back⟩⟩

theorem w_spec_l1Has {Ha : GH} {wa : World} (hs : Sl Ha wa) (v0 : Value) (a0 : List Int) (p0 : RSl Ha eI 1 v0 a0) (a1 : Int) {r : Bool} (hp : (PF.spec_l1Has a0 a1) = some r) :
  Calls Tryz.prog 174 #[v0, Value.int .i64 a1] wa (Sc Ha wa (Value.bool r)) := by
 unfold PF.spec_l1Has at hp
 have S0 := St.init hs
 refine calls_go (N := 18) (args := [v0, Value.int .i64 a1]) Tryz.func174 rfl rfl rfl ?_
 refine FW.seq (FW.region ?_)
 refine FL.v (E.assign (v := Value.bool false) rfl) ?_
 refine FL.nil (FW.seq (FW.seq (FW.region ?_)))
 refine FL.v (E.assign (v := Value.int .i64 0) rfl) ?_
 refine FL.nil ?_
 obtain ⟨q22, hq, hp⟩ := bndR hp
 refine FW.block ?_
 refine FW.mono (FW.forL (S := Unit) (X := Bool) (fun (i22 : Nat) (s22 : Unit) f w => ∃ H : GH, St Ha wa H w [] ∧ Inc Ha H ∧ f 5 = Value.int .i64 ((i22 : Nat) : Int) ∧ f 0 = v0 ∧ f 1 = Value.int .i64 a1) (fun q e f w => match q with | .go s22 => e = Exit.exit 0 ∧ (∃ H : GH, St Ha wa H w [] ∧ Inc Ha H) | .rt x => ((e = Exit.ret) ∧ (fun e f w => (e = Exit.normal ∨ e = Exit.ret) ∧ ∀ a, Fr (δ := []) 18 a f → ∃ v, (results Tryz.f174 a.tmps).run Tryz.prog w = .ok v w ∧ (Sc Ha wa (Value.bool x)) (.returned v) w) e f w)) hq ⟨_, S0, (Inc.rfl _), rfl, rfl, rfl⟩ ?_ ?_) ?_
 ·
  clear hp hq
  rintro i22 y21 s22 f42 w41 ⟨H38, S39, i40, k43, k44, k45⟩ hx22 o53 hp
  refine FW.seq (FW.seq (FW.region ?_))
  refine FL.v (E.move k43) ?_
  refine FL.v (E.move k44) ?_
  refine FL.v (E.lenP te84 rfl p0) ?_
  refine FL.v (E.lssT rfl rfl (lss_len hx22)) ?_
  refine FL.nil ?_
  refine FW.condT rfl rfl ?_
  refine FW.skip (FW.seq (FW.block (FW.seq (FW.region ?_))))
  refine FL.v (E.move k44) ?_
  refine FL.v (E.move k43) ?_
  obtain ⟨p46, cs47, pt48, l49, at50, rel51⟩ := p0.at (ix_nat hx22)
  obtain rfl := eI_open rel51
  refine FL.v (E.indexAddr te84 rfl rfl pt48) ?_
  refine FL.v (E.load rfl (run_load0 Tryz.isAgg3 ((at50.mono i40).now S39.sl) rfl)) ?_
  refine FL.v (E.move k45) ?_
  refine FL.v (E.eql rfl rfl) ?_
  refine FL.nil ?_
  rcases ifB hp with ⟨c52, hp⟩ | ⟨c52, hp⟩
  ·
   refine FW.condT rfl c52 ?_
   refine FW.seq (FW.region ?_)
   refine FL.v (E.assign (v := Value.bool true) rfl) ?_
   refine FL.nil ?_
   refine FW.ret ?_
   obtain rfl := Option.some.inj hp
   exact ⟨nofun, rfl, ⟨.inr rfl, res1 rfl rfl ⟨rfl, S39.back⟩⟩⟩
  ·
   refine FW.condF rfl c52 ?_
   refine FW.skip (FW.region ?_)
   refine FL.v (E.move k43) ?_
   refine FL.v (E.add rfl rfl) ?_
   refine FL.v (E.assign (v := Value.int .i64 (wr (((i22 : Nat) : Int) + 1))) rfl) ?_
   refine FL.nil ?_
   obtain rfl := Option.some.inj hp
   exact ⟨rfl, ⟨_, S39, i40, (nat_succ rfl (lt_of_get hx22) (p0.mono i40).le), k44, k45⟩⟩
 ·
  clear hp hq
  rintro s22 f63 w62 ⟨H59, S60, i61, k64, k65, k66⟩
  refine FW.seq (FW.seq (FW.region ?_))
  refine FL.v (E.move k64) ?_
  refine FL.v (E.move k65) ?_
  refine FL.v (E.lenP te84 rfl p0) ?_
  refine FL.v (E.lss rfl rfl) ?_
  refine FL.nil ?_
  refine FW.condF rfl dlt_len ?_
  refine FW.exit ?_
  exact ⟨nofun, rfl, ⟨_, S60, i61⟩⟩
 ·
  clear hq
  intro e f58 w57 hD
  rcases q22 with s22 | x22
  ·
   obtain ⟨rfl, hD⟩ := hD
   obtain ⟨H54, S55, i56⟩ := hD
   replace hp := el_go hp
   refine FW.seq (FW.region ?_)
   refine FL.v (E.assign (v := Value.bool false) rfl) ?_
   refine FL.nil ?_
   refine FW.ret ?_
   obtain rfl := Option.some.inj hp
   exact ⟨.inr rfl, res1 rfl rfl ⟨rfl, S55.back⟩⟩
  ·
   obtain ⟨he, hL⟩ := hD
   replace hp := el_rt hp
   obtain rfl := Option.some.inj hp
   subst he
   exact hL

theorem w_spec_l2Has {Ha : GH} {wa : World} (hs : Sl Ha wa) (v0 : Value) (a0 : List Int) (p0 : RSl Ha eI 1 v0 a0) (a1 : Int) {r : Bool} (hp : (PF.spec_l2Has a0 a1) = some r) :
  Calls Tryz.prog 116 #[v0, Value.int .i64 a1] wa (Sc Ha wa (Value.bool r)) := by
 unfold PF.spec_l2Has at hp
 have S0 := St.init hs
 refine calls_go (N := 8) (args := [v0, Value.int .i64 a1]) Tryz.func116 rfl rfl rfl ?_
 refine FW.seq (FW.region ?_)
 refine FL.v (E.assign (v := Value.bool false) rfl) ?_
 refine FL.nil (FW.seq (FW.region ?_))
 refine FL.v (E.move (v := v0) rfl) ?_
 refine FL.v (E.move (v := Value.int .i64 a1) rfl) ?_
 obtain ⟨r21, hr22, hp⟩ := bnd hp
 refine FL.call rfl rfl rfl (E.call Tryz.call174 (A2 rfl rfl)) (w_spec_l1Has S0.sl v0 a0 p0 a1 hr22) ?_
 rintro e w23 ⟨rfl, r24⟩
 refine ⟨_, rfl, ?_⟩
 have S25 := S0.call r24
 refine FL.v (E.assign (v := Value.bool r21) rfl) ?_
 refine FL.nil ?_
 refine FW.ret ?_
 obtain rfl := Option.some.inj hp
 exact ⟨.inr rfl, res1 rfl rfl ⟨rfl, S25.back⟩⟩

@[reducible] def p_spec_l1Own (Ha : GH) (wa : World) (r : (List Int)) : Ending → World → Prop :=
 fun e w' => ∃ H' : GH, ∃ v0 : Value, ∃ n0 : Nat, ∃ c0 : List Value, e = .returned (v0) ∧ St Ha wa H' w' [.row 3 1 v0 n0 c0] ∧ Els (up wa.heap.size H') eI 1 c0 r
theorem w_spec_l1Own {Ha : GH} {wa : World} (hs : Sl Ha wa) (v0 : Value) (a0 : List Int) (p0 : RSl Ha eI 1 v0 a0) {r : (List Int)} (hp : (PF.spec_l1Own a0) = some r) :
  Calls Tryz.prog 60 #[v0] wa (p_spec_l1Own Ha wa r) := by
 unfold PF.spec_l1Own at hp
 have S0 := St.init hs
 refine calls_go (N := 6) (args := [v0]) Tryz.func60 rfl rfl rfl ?_
 refine FW.seq (FW.region ?_)
 refine FL.v (E.assign (v := Value.slice none 0 0) rfl) ?_
 refine FL.nil (FW.seq (FW.region ?_))
 obtain ⟨v21, w22, run23, S24⟩ := S0.buildSlice (P := Tryz.prog) te84 [] (parts := #[]) (cells := []) rfl szs_nil fc_nil ones_nil (Nat.le_of_ble_eq_true rfl)
 have els25 : Els (up wa.heap.size Ha) eI 1 [] [] := Els.nil
 refine FL.v (E.buildSlice (B0) run23) ?_
 refine FL.v (E.move (v := v0) rfl) ?_
 obtain ⟨xs26, hz27, hp⟩ := bnd hp
 obtain ⟨v28, w31, n29, cs30, run32, S33, els34⟩ := S24.appendP (P := Tryz.prog) (Inc.rfl _) te84 (i := 0) rfl (els25.mono upI) p0 hz27
 have S33 : St Ha wa Ha w31 [.row 3 1 v28 n29 cs30] := S33
 have els34 : Els (up wa.heap.size Ha) eI 1 cs30 xs26 := els34.any (fun _ _ _ _ h => h)
 refine FL.v (E.append rfl rfl run32) ?_
 refine FL.v (E.assign (v := v28) rfl) ?_
 refine FL.nil ?_
 refine FW.ret ?_
 obtain rfl := Option.some.inj hp
 exact ⟨.inr rfl, res1 rfl rfl ⟨_, _, _, _, rfl, S33, els34⟩⟩

@[reducible] def p_spec_l2Put (Ha : GH) (wa : World) (r : (List Int)) : Ending → World → Prop :=
  fun e w' => ∃ H' : GH, ∃ v0 : Value, ∃ n0 : Nat, ∃ c0 : List Value, e = .returned (v0) ∧ St Ha wa H' w' [.row 3 1 v0 n0 c0] ∧ Els (up wa.heap.size H') eI 1 c0 r
theorem w_spec_l2Put {Ha : GH} {wa : World} (hs : Sl Ha wa) (v0 : Value) (a0 : List Int) (p0 : RSl Ha eI 1 v0 a0) (a1 : Int) {r : (List Int)} (hp : (PF.spec_l2Put a0 a1) = some r) :
    Calls Tryz.prog 124 #[v0, Value.int .i64 a1] wa (p_spec_l2Put Ha wa r) := by
  unfold PF.spec_l2Put at hp
  have S0 := St.init hs
  refine calls_go (N := 33) (args := [v0, Value.int .i64 a1]) Tryz.func124 rfl rfl rfl ?_
  refine FW.seq (FW.region ?_)
  refine FL.v (E.assign (v := Value.slice none 0 0) rfl) ?_
  refine FL.nil (FW.seq (FW.region ?_))
  refine FL.v (E.assign (v := Value.int .i64 0) rfl) ?_
  refine FL.nil (FW.seq ?_)
  obtain ⟨q21, hq, hp⟩ := bndR hp
  refine FW.block ?_
  refine FW.mono (FW.iter (S := Int) (X := Empty) (fun (s21 : Int) f w => ∃ H : GH, St Ha wa H w [] ∧ Inc Ha H ∧ f 0 = v0 ∧ f 1 = Value.int .i64 a1 ∧ f 5 = Value.int .i64 s21) (fun (q : Rs Int Empty) e f w => match q with | .go s21 => e = Exit.exit 0 ∧ (∃ H : GH, St Ha wa H w [] ∧ Inc Ha H ∧ f 0 = v0 ∧ f 1 = Value.int .i64 a1 ∧ f 5 = Value.int .i64 s21) | .rt x => x.elim) hq ⟨_, S0, (Inc.rfl _), rfl, rfl, rfl⟩ ?_) ?_
  ·
    clear hp hq
    rintro s21 f74 w73 ⟨H70, S71, i72, k75, k76, k77⟩ o118 hp
    refine FW.seq (FW.seq (FW.region ?_))
    refine FL.v (E.move k77) ?_
    refine FL.v (E.move k75) ?_
    refine FL.v (E.lenP te84 rfl p0) ?_
    refine FL.v (E.lss rfl rfl) ?_
    refine FL.v (E.move (v := Value.bool (decide (s21 < (len a0)))) rfl) ?_
    obtain ⟨t92, hqt92, hp⟩ := bnd hp
    refine FL.cut 9 (fun f w => ∃ H : GH, St Ha wa H w [] ∧ Inc H70 H ∧ f 0 = v0 ∧ f 1 = Value.int .i64 a1 ∧ f 5 = Value.int .i64 s21 ∧ f 19 = Value.bool t92) ?_ ?_
    ·
      clear hp; have hp := hqt92; clear hqt92
      rcases ifB hp with ⟨c98, hp⟩ | ⟨c98, hp⟩
      ·
        refine FL.val (wF_yes rfl rfl rfl c98) rfl rfl (E.move k75) ?_
        refine FL.val (wF_yes rfl rfl rfl c98) rfl rfl (E.move k77) ?_
        obtain ⟨x105, hx106, hp⟩ := bnd hp
        obtain ⟨p99, cs100, pt101, l102, at103, rel104⟩ := p0.at hx106
        obtain rfl := eI_open rel104
        refine FL.val (wF_yes rfl rfl rfl c98) rfl rfl (E.indexAddr te84 rfl rfl pt101) ?_
        refine FL.val (wF_yes rfl rfl rfl c98) rfl rfl (E.load rfl (run_load0 Tryz.isAgg3 ((at103.mono i72).now S71.sl) rfl)) ?_
        refine FL.call (wF_yes rfl rfl rfl c98) rfl rfl (E.call Tryz.call138 (A1 rfl)) (w_spec_l2Var S71.sl x105) ?_
        rintro e w107 ⟨rfl, r108⟩
        refine ⟨_, rfl, ?_⟩
        have S109 := S71.call r108
        refine FL.val (wF_yes rfl rfl rfl c98) rfl rfl (E.move k76) ?_
        refine FL.call (wF_yes rfl rfl rfl c98) rfl rfl (E.call Tryz.call138 (A1 rfl)) (w_spec_l2Var S109.sl a1) ?_
        rintro e w110 ⟨rfl, r111⟩
        refine ⟨_, rfl, ?_⟩
        have S112 := S109.call r111
        refine FL.val (wF_yes rfl rfl rfl c98) rfl rfl (E.lss rfl rfl) ?_
        obtain rfl := Option.some.inj hp
        refine FL.v (E.pickT rfl c98 rfl) ?_
        exact FL.nil ⟨rfl, _, S112, (Inc.rfl _), k75, k76, k77, rfl⟩
      ·
        refine FL.skip (wF_no rfl rfl rfl c98) rfl ?_
        refine FL.skip (wF_no rfl rfl rfl c98) rfl ?_
        refine FL.skip (wF_no rfl rfl rfl c98) rfl ?_
        refine FL.skip (wF_no rfl rfl rfl c98) rfl ?_
        refine FL.skip (wF_no rfl rfl rfl c98) rfl ?_
        refine FL.skip (wF_no rfl rfl rfl c98) rfl ?_
        refine FL.skip (wF_no rfl rfl rfl c98) rfl ?_
        refine FL.skip (wF_no rfl rfl rfl c98) rfl ?_
        obtain rfl := Option.some.inj hp
        refine FL.v (E.pickF rfl c98 rfl) ?_
        exact FL.nil ⟨rfl, _, S71, (Inc.rfl _), k75, k76, k77, rfl⟩
    rintro f97 w96 ⟨H93, S94, i95, k113, k114, k115, k116⟩
    refine FL.nil ?_
    rcases ifB hp with ⟨c117, hp⟩ | ⟨c117, hp⟩
    ·
      refine FW.condT k116 c117 ?_
      refine FW.skip (FW.block (FW.region ?_))
      refine FL.v (E.move k115) ?_
      refine FL.v (E.add rfl rfl) ?_
      refine FL.v (E.assign (v := Value.int .i64 (wr (s21 + 1))) rfl) ?_
      refine FL.nil ?_
      obtain rfl := Option.some.inj hp
      exact ⟨rfl, ⟨_, S94, (i72.tr i95), k113, k114, rfl⟩⟩
    ·
      refine FW.condF k116 c117 ?_
      refine FW.exit ?_
      obtain rfl := Option.some.inj hp
      exact ⟨nofun, rfl, ⟨_, S94, (i72.tr i95), k113, k114, k115⟩⟩
  ·
    clear hq
    intro e f123 w122 hD
    rcases q21 with s21 | x21
    ·
      obtain ⟨rfl, hD⟩ := hD
      obtain ⟨H119, S120, i121, k124, k125, k126⟩ := hD
      replace hp := el_go hp
      refine FW.seq ?_
      obtain ⟨xs22, hc23, hp⟩ := bnd hp
      obtain ⟨r27, hr28, hp⟩ := bnd hp
      obtain ⟨xs42, hz43, hp⟩ := bnd hp
      obtain ⟨xs53, hc54, hp⟩ := bnd hp
      obtain ⟨xs58, hz59, hp⟩ := bnd hp
      refine FW.drawB (Sl H119) (fun f w => ∃ H : GH, ∃ v67 : Value, ∃ n68 : Nat, ∃ cs69 : List Value, St Ha wa H w [.row 3 1 v67 n68 cs69] ∧ Inc H119 H ∧ Els (up wa.heap.size H) eI 1 cs69 xs58 ∧ f 4 = v67) (by kernel_rfl) S120.sl ?_ ?_
      ·
        intro w127 r128
        have S129 := S120.call r128
        refine FB.t (i := 0) (bs 12 1) rfl (SP.nil S129.sl) rfl (fun w' hw' => (E.move k124)) ?_
        refine FB.t (i := 1) (bs 12 3) rfl (SP.nil S129.sl) rfl (fun w' hw' => (E.move k126)) ?_
        obtain ⟨v24, run25, h26⟩ := p0.cut te84 hc23 (lo := none) (hi := some (Value.int .i64 s21)) (.inl ⟨rfl, rfl⟩) (.inr ⟨_, rfl⟩)
        refine FB.t (i := 2) (bs 12 7) rfl (SP.nil S129.sl) rfl (fun w' hw' => (E.slice te84 rfl rfl (congrArg some rfl) rfl (run25 _))) ?_
        refine FB.t (i := 4) (bs 12 23) rfl (SP.nil S129.sl) rfl (fun w' hw' => (E.move k125)) ?_
        refine FB.t (i := 7) (bs 12 151) rfl (SP.nil S129.sl) rfl (fun w' hw' => (E.move k124)) ?_
        refine FB.t (i := 8) (bs 12 407) rfl (SP.nil S129.sl) rfl (fun w' hw' => (E.move k126)) ?_
        obtain ⟨v55, run56, h57⟩ := p0.cut te84 hc54 (lo := some (Value.int .i64 s21)) (hi := none) (.inr ⟨_, rfl⟩) (.inl ⟨rfl, rfl⟩)
        refine FB.t (i := 9) (bs 12 919) rfl (SP.nil S129.sl) rfl (fun w' hw' => (E.slice te84 rfl (congrArg some rfl) rfl rfl (run56 _))) ?_
        refine FB.all2 (i := 3) (j := 5) (by kernel_rfl) ?_ ?_
        ·
          refine FC.call (l' := (bs 12 927)) rfl (by kernel_rfl) rfl rfl rfl (E.call Tryz.call60 (A1 rfl)) (w_spec_l1Own S129.sl v24 xs22 (h26.mono i121) hr28) ?_
          rintro e w30 ⟨H29, v33, n34, cs35, rfl, r32, els36⟩
          refine ⟨_, rfl, ?_⟩
          have els36 := els36.mono (up_le S129.size)
          have S31 := S129.join (l' := [.row 3 1 v33 n34 cs35]) r32 rfl
          refine ⟨(SP.nil (Sl.of_inc r32.run.inc S31.sl)), ?_⟩
          refine FB.all1 (i := 5) (by kernel_rfl) ?_
          ·
            obtain ⟨v37, w38, run39, S40⟩ := S31.buildSlice (P := Tryz.prog) te84 [Value.int .i64 a1] (parts := #[(0, Value.int .i64 a1)]) (cells := [Value.int .i64 a1]) rfl (szs_cons rfl szs_nil) (fc_cons rfl fc_nil) (ones_cons rfl ones_nil) (Nat.le_of_ble_eq_true rfl)
            have els41 : Els (up wa.heap.size H29) eI 1 [Value.int .i64 a1] [a1] := (Els.snoc (H := (up wa.heap.size H29)) (E := eI) (k := 1) (c := [Value.int .i64 a1]) (x := a1) Els.nil rfl rfl)
            refine FC.val (l' := (bs 12 959)) rfl (by kernel_rfl) rfl rfl rfl (E.buildSlice (B1 rfl) run39) ?_
            refine ⟨(SP.nil (Sl.of_inc r32.run.inc S40.sl)), ?_⟩
            refine FB.all1 (i := 6) (by kernel_rfl) ?_
            ·
              obtain ⟨v44, w47, n45, cs46, run48, S49, els50, ce51⟩ := S40.appendO (P := Tryz.prog) te84 (i := 1) (j := 0) rfl els36 rfl els41 hz43
              have S49 : St Ha wa H29 w47 [.row 3 1 v37 1 [Value.int .i64 a1], .row 3 1 v44 n45 cs46] := S49
              have S52 : St Ha wa H29 w47 [.row 3 1 v44 n45 cs46] := S49.drop 0
              refine FC.val (l' := (bs 12 1023)) rfl (by kernel_rfl) rfl rfl rfl (E.append rfl rfl run48) ?_
              refine ⟨(SP.nil (Sl.of_inc r32.run.inc S52.sl)), ?_⟩
              refine FB.all1 (i := 10) (by kernel_rfl) ?_
              ·
                obtain ⟨v60, w63, n61, cs62, run64, S65, els66⟩ := S52.appendP (P := Tryz.prog) (Inc.rfl _) te84 (i := 0) rfl (els50.mono upI) (h57.mono (i121.tr r32.run.inc)) hz59
                have S65 : St Ha wa H29 w63 [.row 3 1 v60 n61 cs62] := S65
                have els66 : Els (up wa.heap.size H29) eI 1 cs62 xs58 := els66.any (fun _ _ _ _ h => h)
                refine FC.val (l' := (bs 12 2047)) rfl (by kernel_rfl) rfl rfl rfl (E.append rfl rfl run64) ?_
                refine ⟨(SP.nil (Sl.of_inc r32.run.inc S65.sl)), ?_⟩
                refine FB.t (i := 11) (bs 12 4095) rfl (SP.nil (Sl.of_inc r32.run.inc S65.sl)) rfl (fun w' hw' => (E.assign (v := v60) rfl)) ?_
                exact FB.done (by kernel_rfl) ⟨_, _, _, _, S65, r32.run.inc, els66, rfl⟩
        ·
          obtain ⟨v37, w38, run39, S40⟩ := S129.buildSlice (P := Tryz.prog) te84 [Value.int .i64 a1] (parts := #[(0, Value.int .i64 a1)]) (cells := [Value.int .i64 a1]) rfl (szs_cons rfl szs_nil) (fc_cons rfl fc_nil) (ones_cons rfl ones_nil) (Nat.le_of_ble_eq_true rfl)
          have els41 : Els (up wa.heap.size H119) eI 1 [Value.int .i64 a1] [a1] := (Els.snoc (H := (up wa.heap.size H119)) (E := eI) (k := 1) (c := [Value.int .i64 a1]) (x := a1) Els.nil rfl rfl)
          refine FC.val (l' := (bs 12 951)) rfl (by kernel_rfl) rfl rfl rfl (E.buildSlice (B1 rfl) run39) ?_
          refine ⟨(SP.nil S40.sl), ?_⟩
          refine FB.all1 (i := 3) (by kernel_rfl) ?_
          ·
            refine FC.call (l' := (bs 12 959)) rfl (by kernel_rfl) rfl rfl rfl (E.call Tryz.call60 (A1 rfl)) (w_spec_l1Own S40.sl v24 xs22 (h26.mono i121) hr28) ?_
            rintro e w30 ⟨H29, v33, n34, cs35, rfl, r32, els36⟩
            refine ⟨_, rfl, ?_⟩
            have els36 := els36.mono (up_le S40.size)
            have S31 := S40.join (l' := [.row 3 1 v33 n34 cs35, .row 3 1 v37 1 [Value.int .i64 a1]]) r32 rfl
            refine ⟨(SP.nil (Sl.of_inc r32.run.inc S31.sl)), ?_⟩
            refine FB.all1 (i := 6) (by kernel_rfl) ?_
            ·
              obtain ⟨v44, w47, n45, cs46, run48, S49, els50, ce51⟩ := S31.appendO (P := Tryz.prog) te84 (i := 0) (j := 1) rfl els36 rfl (els41.mono (up_mono r32.run.inc)) hz43
              have S49 : St Ha wa H29 w47 [.row 3 1 v44 n45 cs46, .row 3 1 v37 1 [Value.int .i64 a1]] := S49
              have S52 : St Ha wa H29 w47 [.row 3 1 v44 n45 cs46] := S49.drop 1
              refine FC.val (l' := (bs 12 1023)) rfl (by kernel_rfl) rfl rfl rfl (E.append rfl rfl run48) ?_
              refine ⟨(SP.nil (Sl.of_inc r32.run.inc S52.sl)), ?_⟩
              refine FB.all1 (i := 10) (by kernel_rfl) ?_
              ·
                obtain ⟨v60, w63, n61, cs62, run64, S65, els66⟩ := S52.appendP (P := Tryz.prog) (Inc.rfl _) te84 (i := 0) rfl (els50.mono upI) (h57.mono (i121.tr r32.run.inc)) hz59
                have S65 : St Ha wa H29 w63 [.row 3 1 v60 n61 cs62] := S65
                have els66 : Els (up wa.heap.size H29) eI 1 cs62 xs58 := els66.any (fun _ _ _ _ h => h)
                refine FC.val (l' := (bs 12 2047)) rfl (by kernel_rfl) rfl rfl rfl (E.append rfl rfl run64) ?_
                refine ⟨(SP.nil (Sl.of_inc r32.run.inc S65.sl)), ?_⟩
                refine FB.t (i := 11) (bs 12 4095) rfl (SP.nil (Sl.of_inc r32.run.inc S65.sl)) rfl (fun w' hw' => (E.assign (v := v60) rfl)) ?_
                exact FB.done (by kernel_rfl) ⟨_, _, _, _, S65, r32.run.inc, els66, rfl⟩
      ·
        rintro f83 w82 ⟨H79, v67, n68, cs69, S80, i81, els78, k85⟩
        refine FW.ret ?_
        obtain rfl := Option.some.inj hp
        exact ⟨.inr rfl, res1 rfl k85 ⟨_, _, _, _, rfl, S80, els78⟩⟩
    · exact x21.elim

@[reducible] def p_spec_l9Paths (Ha : GH) (wa : World) (r : ((List (List Int)) × Bool)) : Ending → World → Prop :=
 fun e w' => ∃ H' : GH, ∃ v0 : Value, ∃ n0 : Nat, ∃ c0 : List Value, e = .returned (Value.tuple #[v0, Value.bool r.2]) ∧ St Ha wa H' w' [.row 84 1 v0 n0 c0] ∧ Els (up wa.heap.size H') (eL eI 1) 1 c0 r.1 ∧ (bl c0).Nodup
set_option maxHeartbeats 4000000 in
theorem w_spec_l9Paths {Ha : GH} {wa : World} (hs : Sl Ha wa) (a0 : Cnf) (v0_1 : Value) (p0_1 : RSl Ha (eL eI 1) 1 v0_1 a0.clauses) (v1 : Value) (a1 : List TreeNode) (p1 : RSl Ha eTreeNode 4 v1 a1) {r : ((List (List Int)) × Bool)} (hp : (PF.spec_l9Paths a0 a1) = some r) :
  Calls Tryz.prog 113 #[Value.agg #[Value.int .i64 a0.vars, v0_1], v1] wa (p_spec_l9Paths Ha wa r) := by
 unfold PF.spec_l9Paths at hp
 have S0 := St.init hs
 refine calls_go (N := 155) (args := [Value.agg #[Value.int .i64 a0.vars, v0_1], v1]) Tryz.func113 rfl rfl rfl ?_
 refine FW.seq (FW.region ?_)
 obtain ⟨b21, w22, run23, S24⟩ := S0.box (P := Tryz.prog) 30 [Value.int .i64 a0.vars, v0_1] (v := Value.agg #[Value.int .i64 a0.vars, v0_1]) rfl (ones_cons rfl (ones_cons p0_1.one ones_nil))
 refine FL.v (E.box rfl run23) ?_
 obtain ⟨H25, S26, i27, at28⟩ := S24.sealBox (i := 0) (l' := []) rfl rfl
 refine FL.v (E.assign (v := Value.slice none 0 0) rfl) ?_
 refine FL.v (E.assign (v := Value.bool false) rfl) ?_
 refine FL.nil (FW.seq (FW.seq (FW.region ?_)))
 refine FL.v (E.load rfl (run_loadA Tryz.isAgg30 Tryz.sizeOf30 (at28.now S26.sl) rfl)) ?_
 obtain ⟨r29, hr30, hp⟩ := bnd hp
 refine FL.call rfl rfl rfl (E.call Tryz.call43 (A1 rfl)) (w_spec_l2Good S26.sl a0 v0_1 (p0_1.mono i27) hr30) ?_
 rintro e w31 ⟨rfl, r32⟩
 refine ⟨_, rfl, ?_⟩
 have S33 := S26.call r32
 refine FL.v (E.not rfl) ?_
 refine FL.v (E.move (v := Value.bool (!r29)) rfl) ?_
 refine FL.cut 5 (fun f w => ∃ H : GH, St Ha wa H w [] ∧ Inc H25 H ∧ f 1 = v1 ∧ f 2 = Value.pointer (some ⟨b21, 0, none⟩) ∧ f 20 = Value.bool (bif (!r29) then true else (!(PF.spec_l1In (len a1) 1 199)))) ?_ ?_
 ·
  rcases bcase (!r29) with c43 | c43
  ·
   refine FL.skip (wF_no rfl rfl rfl c43) rfl ?_
   refine FL.skip (wF_no rfl rfl rfl c43) rfl ?_
   refine FL.skip (wF_no rfl rfl rfl c43) rfl ?_
   refine FL.skip (wF_no rfl rfl rfl c43) rfl ?_
   refine FL.v (E.pickT rfl c43 rfl) ?_
   exact FL.nil ⟨rfl, _, S33, (Inc.rfl _), rfl, rfl, (congrArg Value.bool (bifT c43).symm)⟩
  ·
   refine FL.val (wF_yes rfl rfl rfl c43) rfl rfl (E.move (v := v1) rfl) ?_
   refine FL.val (wF_yes rfl rfl rfl c43) rfl rfl (E.lenP te56 rfl p1) ?_
   refine FL.call (wF_yes rfl rfl rfl c43) rfl rfl (E.call Tryz.call104 (A3 rfl rfl rfl)) (w_spec_l1In S33.sl (len a1) 1 199) ?_
   rintro e w44 ⟨rfl, r45⟩
   refine ⟨_, rfl, ?_⟩
   have S46 := S33.call r45
   refine FL.val (wF_yes rfl rfl rfl c43) rfl rfl (E.not rfl) ?_
   refine FL.v (E.pickF rfl c43 rfl) ?_
   exact FL.nil ⟨rfl, _, S46, (Inc.rfl _), rfl, rfl, (congrArg Value.bool (bifF c43).symm)⟩
 rintro f42 w41 ⟨H38, S39, i40, k47, k48, k49⟩
 refine FL.nil ?_
 rcases ifB hp with ⟨c50, hp⟩ | ⟨c50, hp⟩
 ·
  refine FW.condT k49 c50 ?_
  refine FW.seq (FW.region ?_)
  obtain ⟨v51, w52, run53, S54⟩ := S39.buildSlice (P := Tryz.prog) te22 [] (parts := #[]) (cells := []) rfl szs_nil fc_nil ones_nil (Nat.le_of_ble_eq_true rfl)
  have els55 : Els (up wa.heap.size H38) (eL eI 1) 1 [] [] := Els.nil
  refine FL.v (E.buildSlice (B0) run53) ?_
  refine FL.v (E.assign (v := v51) rfl) ?_
  refine FL.v (E.assign (v := Value.bool false) rfl) ?_
  refine FL.nil ?_
  refine FW.ret ?_
  obtain rfl := Option.some.inj hp
  exact ⟨.inr rfl, res2 rfl rfl rfl ⟨_, _, _, _, rfl, S54, els55, (show (bl []).Nodup from List.nodup_nil)⟩⟩
 ·
  refine FW.condF k49 c50 ?_
  refine FW.skip (FW.seq (FW.region ?_))
  refine FL.v (E.move k47) ?_
  refine FL.v (E.lenP te56 rfl p1) ?_
  obtain ⟨xs56, hm57, hp⟩ := bnd hp
  obtain ⟨v58, w59, n63, cs64, run60, S61, els62, hbl65⟩ := S39.makeEls (P := Tryz.prog) te84 (G := (up wa.heap.size H38)) (En := eI) (x0 := (0 : Int)) hm57 rfl (ones_cons rfl ones_nil) .i64 .i64
  refine FL.v (E.makeSlice rfl rfl run60) ?_
  refine FL.v (E.assign (v := v58) rfl) ?_
  refine FL.nil (FW.seq (FW.seq (FW.region ?_)))
  refine FL.v (E.assign (v := Value.int .i64 0) rfl) ?_
  refine FL.nil ?_
  obtain ⟨q67, hq, hp⟩ := bndR hp
  refine FW.block ?_
  refine FW.mono (FW.forL (S := (List Int)) (X := ((List (List Int)) × Bool)) (fun (i67 : Nat) (s67 : (List Int)) f w => ∃ H : GH, ∃ v34 : Value, ∃ n35 : Nat, ∃ cs36 : List Value, St Ha wa H w [.row 3 1 v34 n35 cs36] ∧ Inc H38 H ∧ Els (up wa.heap.size H) eI 1 cs36 s67 ∧ f 7 = Value.int .i64 ((i67 : Nat) : Int) ∧ f 1 = v1 ∧ f 2 = Value.pointer (some ⟨b21, 0, none⟩) ∧ f 6 = v34) (fun q e f w => match q with | .go s67 => e = Exit.exit 0 ∧ (∃ H : GH, ∃ v34 : Value, ∃ n35 : Nat, ∃ cs36 : List Value, St Ha wa H w [.row 3 1 v34 n35 cs36] ∧ Inc H38 H ∧ Els (up wa.heap.size H) eI 1 cs36 s67 ∧ f 1 = v1 ∧ f 6 = v34) | .rt x => ((e = Exit.ret) ∧ (fun e f w => (e = Exit.normal ∨ e = Exit.ret) ∧ ∀ a, Fr (δ := []) 155 a f → ∃ v, (results Tryz.f113 a.tmps).run Tryz.prog w = .ok v w ∧ (p_spec_l9Paths Ha wa x) (.returned v) w) e f w)) hq ⟨_, _, _, _, S61, (Inc.rfl _), els62, rfl, k47, k48, rfl⟩ ?_ ?_) ?_
  ·
   clear hp hq
   rintro i67 y66 s67 f72 w71 ⟨H68, v34, n35, cs36, S69, i70, els37, k73, k74, k75, k76⟩ hx67 o212 hp
   refine FW.seq (FW.seq (FW.region ?_))
   refine FL.v (E.move k73) ?_
   refine FL.v (E.move k74) ?_
   refine FL.v (E.lenP te56 rfl p1) ?_
   refine FL.v (E.lssT rfl rfl (lss_len hx67)) ?_
   refine FL.nil ?_
   refine FW.condT rfl rfl ?_
   refine FW.skip (FW.seq (FW.block (FW.seq (FW.seq ?_))))
   refine FW.draw (fun w' => Run w71.heap.size H68 w71 H68 w') (by kernel_rfl) (by kernel_rfl) (run_drew S69.sl) ?_
   refine FD.val rfl rfl rfl (fun w' hw' => (E.load k75 (run_loadA Tryz.isAgg30 Tryz.sizeOf30 ((at28.mono (i40.tr i70)).now (S69.call hw').sl) rfl))) ?_
   refine FD.val rfl rfl rfl (fun w' hw' => (E.move k74)) ?_
   refine FD.val rfl rfl rfl (fun w' hw' => (E.move k73)) ?_
   obtain ⟨p77, cs78, pt79, l80, at81, rel82⟩ := p1.at (ix_nat hx67)
   obtain rfl := eTreeNode_open rel82
   refine FD.val rfl rfl rfl (fun w' hw' => (E.indexAddr te56 rfl rfl pt79)) ?_
   refine FD.val rfl rfl rfl (fun w' hw' => (E.load rfl (run_loadA Tryz.isAgg98 Tryz.sizeOf98 ((at81.mono ((i27.tr i40).tr i70)).now (S69.call hw').sl) rfl))) ?_
   refine FD.val rfl rfl rfl (fun w' hw' => (E.move k73)) ?_
   refine FD.call rfl rfl rfl (fun w' hw' => (E.call Tryz.call172 (A3 rfl rfl rfl))) (fun w' hw' => Calls.cls hw' (w_spec_l9Node (S69.call hw').sl a0 v0_1 (p0_1.mono ((i27.tr i40).tr i70)) y66 ((i67 : Nat) : Int))) ?_
   refine FD.val rfl rfl rfl (fun w' hw' => (E.not rfl)) ?_
   refine FD.nil ?_
   intro w83 r86
   have S85 := S69.call r86
   rcases ifB hp with ⟨c87, hp⟩ | ⟨c87, hp⟩
   ·
    refine FW.condT rfl c87 ?_
    refine FW.seq (FW.region ?_)
    obtain ⟨v88, w89, run90, S91⟩ := S85.buildSlice (P := Tryz.prog) te22 [] (parts := #[]) (cells := []) rfl szs_nil fc_nil ones_nil (Nat.le_of_ble_eq_true rfl)
    have els92 : Els (up wa.heap.size H68) (eL eI 1) 1 [] [] := Els.nil
    refine FL.v (E.buildSlice (B0) run90) ?_
    refine FL.v (E.assign (v := v88) rfl) ?_
    refine FL.v (E.assign (v := Value.bool false) rfl) ?_
    refine FL.nil ?_
    refine FW.ret ?_
    obtain rfl := Option.some.inj hp
    exact ⟨nofun, rfl, ⟨.inr rfl, res2 rfl rfl rfl ⟨_, _, _, _, rfl, (S91.sel [0] (by decide) rfl), els92, (show (bl []).Nodup from List.nodup_nil)⟩⟩⟩
   ·
    refine FW.condF rfl c87 ?_
    refine FW.skip (FW.seq (FW.region ?_))
    refine FL.v (E.move k74) ?_
    refine FL.v (E.move k73) ?_
    obtain ⟨p93, cs94, pt95, l96, at97, rel99⟩ := p1.at (ix_nat hx67)
    obtain rfl := eTreeNode_open rel99
    refine FL.v (E.indexAddr te56 rfl rfl pt95) ?_
    refine FL.v (E.load rfl (run_loadA Tryz.isAgg98 Tryz.sizeOf98 ((at97.mono ((i27.tr i40).tr i70)).now S85.sl) rfl)) ?_
    refine FL.call rfl rfl rfl (E.call Tryz.call115 (A1 rfl)) (w_spec_l9Leaf S85.sl y66) ?_
    rintro e w100 ⟨rfl, r101⟩
    refine ⟨_, rfl, ?_⟩
    have S102 := S85.call r101
    refine FL.v (E.not rfl) ?_
    refine FL.nil ?_
    rcases ifB hp with ⟨c103, hp⟩ | ⟨c103, hp⟩
    ·
     refine FW.condT rfl c103 ?_
     refine FW.seq ?_
     obtain ⟨x125, hx126, hp⟩ := bnd hp
     obtain ⟨x134, hx135, hp⟩ := bnd hp
     obtain ⟨xs140, hput141, hp⟩ := bnd hp
     refine FW.drawB (Sl H68) (fun f w => ∃ H : GH, ∃ v145 : Value, ∃ n146 : Nat, ∃ cs147 : List Value, St Ha wa H w [.row 3 1 v145 n146 cs147] ∧ Inc H68 H ∧ Els (up wa.heap.size H) eI 1 cs147 xs140 ∧ f 1 = v1 ∧ f 2 = Value.pointer (some ⟨b21, 0, none⟩) ∧ f 6 = v145 ∧ f 7 = Value.int .i64 ((i67 : Nat) : Int)) (by kernel_rfl) S102.sl ?_ ?_
     ·
      intro w104 r105
      have S106 := S102.call r105
      refine FB.t (i := 0) (bs 17 1) rfl (SP.nil S106.sl) rfl (fun w' hw' => (E.move k76)) ?_
      refine FB.t (i := 1) (bs 17 3) rfl (SP.nil S106.sl) rfl (fun w' hw' => (E.move k74)) ?_
      refine FB.t (i := 2) (bs 17 7) rfl (SP.nil S106.sl) rfl (fun w' hw' => (E.move k73)) ?_
      obtain ⟨p107, cs108, pt109, l110, at111, rel112⟩ := p1.at (ix_nat hx67)
      obtain rfl := eTreeNode_open rel112
      refine FB.t (i := 3) (bs 17 15) rfl (SP.nil S106.sl) rfl (fun w' hw' => (E.indexAddr te56 rfl rfl pt109)) ?_
      refine FB.t (i := 4) (bs 17 31) rfl (SP.nil S106.sl) rfl (fun w' hw' => (E.fieldAddr tf98_1 rfl)) ?_
      refine FB.t (i := 5) (bs 17 63) rfl (SP.nil S106.sl) rfl (fun w' hw' => (E.load rfl (run_load1 Tryz.isAgg3 ((at111.mono ((i27.tr i40).tr i70)).now hw') rfl))) ?_
      refine FB.t (i := 6) (bs 17 127) rfl (SP.nil S106.sl) rfl (fun w' hw' => (E.move k76)) ?_
      refine FB.t (i := 7) (bs 17 255) rfl (SP.nil S106.sl) rfl (fun w' hw' => (E.move k74)) ?_
      refine FB.t (i := 8) (bs 17 511) rfl (SP.nil S106.sl) rfl (fun w' hw' => (E.move k73)) ?_
      obtain ⟨p113, cs114, pt115, l116, at117, rel118⟩ := p1.at (ix_nat hx67)
      obtain rfl := eTreeNode_open rel118
      refine FB.t (i := 9) (bs 17 1023) rfl (SP.nil S106.sl) rfl (fun w' hw' => (E.indexAddr te56 rfl rfl pt115)) ?_
      refine FB.t (i := 10) (bs 17 2047) rfl (SP.nil S106.sl) rfl (fun w' hw' => (E.fieldAddr tf98_1 rfl)) ?_
      refine FB.t (i := 11) (bs 17 4095) rfl (SP.nil S106.sl) rfl (fun w' hw' => (E.load rfl (run_load1 Tryz.isAgg3 ((at117.mono ((i27.tr i40).tr i70)).now hw') rfl))) ?_
      obtain ⟨p119, cs120, pt121, l122, at123, rel124, hall127⟩ := S106.row_atA (i := 0) rfl els37 (by decide) hx126
      obtain rfl := eI_open rel124
      refine FB.t (i := 12) (bs 17 8191) rfl (SP.nil S106.sl) rfl (fun w' hw' => (E.indexAddr te84 rfl rfl pt121)) ?_
      refine FB.phase [16] (fun w' => WAt w' p119 [Value.int .i64 x125]) ?_
      refine FB.p (i := 13) (bs 17 16383) 0 [14, 15, 16] rfl (SP.on (hall127 _ _ _ 0 S106 rfl) (SP.nil S106.sl)) rfl rfl (fun w' hw' => (E.load rfl (run_load0 Tryz.isAgg3 hw' rfl))) ?_
      refine FB.t (i := 14) (bs 17 32767) rfl (SP.on (hall127 _ _ _ 0 S106 rfl) (SP.nil S106.sl)) rfl (fun w' hw' => (E.add rfl rfl)) ?_
      obtain ⟨p128, cs129, pt130, l131, at132, rel133, hall136⟩ := S106.row_atA (i := 0) rfl els37 (by decide) hx135
      obtain rfl := eI_open rel133
      refine FB.t (i := 15) (bs 17 65535) rfl (SP.on (hall127 _ _ _ 0 S106 rfl) (SP.nil S106.sl)) rfl (fun w' hw' => (E.indexAddr te84 rfl rfl pt130)) ?_
      refine FB.all1 (i := 16) (by kernel_rfl) ?_
      ·
       obtain ⟨w137, cs143, run138, S139, els142, ce144⟩ := S106.putEls (P := Tryz.prog) (t := 3) (i := 0) rfl els37 hput141 pt130 Tryz.sizeOf3 (u := Value.int .i64 (wr (x125 + 1))) (c := [Value.int .i64 (wr (x125 + 1))]) rfl rfl (ones_cons rfl ones_nil) rfl
       have S139 : St Ha wa H68 w137 [.row 3 1 v34 n35 cs143] := S139
       refine FC.act (l' := (bs 17 131071)) rfl (by kernel_rfl) rfl rfl (E.store rfl rfl run138) ?_
       refine ⟨(SP.o (SP.nil S139.sl)), ?_⟩
       exact FB.done (by kernel_rfl) ⟨_, _, _, _, S139, (Inc.rfl _), els142, k74, k75, k76, k73⟩
     ·
      rintro f153 w152 ⟨H149, v145, n146, cs147, S150, i151, els148, k154, k155, k156, k157⟩
      obtain ⟨x179, hx180, hp⟩ := bnd hp
      obtain ⟨x188, hx189, hp⟩ := bnd hp
      obtain ⟨xs194, hput195, hp⟩ := bnd hp
      refine FW.drawB (Sl H149) (fun f w => ∃ H : GH, ∃ v199 : Value, ∃ n200 : Nat, ∃ cs201 : List Value, St Ha wa H w [.row 3 1 v199 n200 cs201] ∧ Inc H149 H ∧ Els (up wa.heap.size H) eI 1 cs201 xs194 ∧ f 1 = v1 ∧ f 2 = Value.pointer (some ⟨b21, 0, none⟩) ∧ f 6 = v199 ∧ f 7 = Value.int .i64 ((i67 : Nat) : Int)) (by kernel_rfl) S150.sl ?_ ?_
      ·
       intro w158 r159
       have S160 := S150.call r159
       refine FB.t (i := 0) (bs 17 1) rfl (SP.nil S160.sl) rfl (fun w' hw' => (E.move k156)) ?_
       refine FB.t (i := 1) (bs 17 3) rfl (SP.nil S160.sl) rfl (fun w' hw' => (E.move k154)) ?_
       refine FB.t (i := 2) (bs 17 7) rfl (SP.nil S160.sl) rfl (fun w' hw' => (E.move k157)) ?_
       obtain ⟨p161, cs162, pt163, l164, at165, rel166⟩ := p1.at (ix_nat hx67)
       obtain rfl := eTreeNode_open rel166
       refine FB.t (i := 3) (bs 17 15) rfl (SP.nil S160.sl) rfl (fun w' hw' => (E.indexAddr te56 rfl rfl pt163)) ?_
       refine FB.t (i := 4) (bs 17 31) rfl (SP.nil S160.sl) rfl (fun w' hw' => (E.fieldAddr tf98_2 rfl)) ?_
       refine FB.t (i := 5) (bs 17 63) rfl (SP.nil S160.sl) rfl (fun w' hw' => (E.load rfl (run_load1 Tryz.isAgg3 ((at165.mono (((i27.tr i40).tr i70).tr i151)).now hw') rfl))) ?_
       refine FB.t (i := 6) (bs 17 127) rfl (SP.nil S160.sl) rfl (fun w' hw' => (E.move k156)) ?_
       refine FB.t (i := 7) (bs 17 255) rfl (SP.nil S160.sl) rfl (fun w' hw' => (E.move k154)) ?_
       refine FB.t (i := 8) (bs 17 511) rfl (SP.nil S160.sl) rfl (fun w' hw' => (E.move k157)) ?_
       obtain ⟨p167, cs168, pt169, l170, at171, rel172⟩ := p1.at (ix_nat hx67)
       obtain rfl := eTreeNode_open rel172
       refine FB.t (i := 9) (bs 17 1023) rfl (SP.nil S160.sl) rfl (fun w' hw' => (E.indexAddr te56 rfl rfl pt169)) ?_
       refine FB.t (i := 10) (bs 17 2047) rfl (SP.nil S160.sl) rfl (fun w' hw' => (E.fieldAddr tf98_2 rfl)) ?_
       refine FB.t (i := 11) (bs 17 4095) rfl (SP.nil S160.sl) rfl (fun w' hw' => (E.load rfl (run_load1 Tryz.isAgg3 ((at171.mono (((i27.tr i40).tr i70).tr i151)).now hw') rfl))) ?_
       obtain ⟨p173, cs174, pt175, l176, at177, rel178, hall181⟩ := S160.row_atA (i := 0) rfl els148 (by decide) hx180
       obtain rfl := eI_open rel178
       refine FB.t (i := 12) (bs 17 8191) rfl (SP.nil S160.sl) rfl (fun w' hw' => (E.indexAddr te84 rfl rfl pt175)) ?_
       refine FB.phase [16] (fun w' => WAt w' p173 [Value.int .i64 x179]) ?_
       refine FB.p (i := 13) (bs 17 16383) 0 [14, 15, 16] rfl (SP.on (hall181 _ _ _ 0 S160 rfl) (SP.nil S160.sl)) rfl rfl (fun w' hw' => (E.load rfl (run_load0 Tryz.isAgg3 hw' rfl))) ?_
       refine FB.t (i := 14) (bs 17 32767) rfl (SP.on (hall181 _ _ _ 0 S160 rfl) (SP.nil S160.sl)) rfl (fun w' hw' => (E.add rfl rfl)) ?_
       obtain ⟨p182, cs183, pt184, l185, at186, rel187, hall190⟩ := S160.row_atA (i := 0) rfl els148 (by decide) hx189
       obtain rfl := eI_open rel187
       refine FB.t (i := 15) (bs 17 65535) rfl (SP.on (hall181 _ _ _ 0 S160 rfl) (SP.nil S160.sl)) rfl (fun w' hw' => (E.indexAddr te84 rfl rfl pt184)) ?_
       refine FB.all1 (i := 16) (by kernel_rfl) ?_
       ·
        obtain ⟨w191, cs197, run192, S193, els196, ce198⟩ := S160.putEls (P := Tryz.prog) (t := 3) (i := 0) rfl els148 hput195 pt184 Tryz.sizeOf3 (u := Value.int .i64 (wr (x179 + 1))) (c := [Value.int .i64 (wr (x179 + 1))]) rfl rfl (ones_cons rfl ones_nil) rfl
        have S193 : St Ha wa H149 w191 [.row 3 1 v145 n146 cs197] := S193
        refine FC.act (l' := (bs 17 131071)) rfl (by kernel_rfl) rfl rfl (E.store rfl rfl run192) ?_
        refine ⟨(SP.o (SP.nil S193.sl)), ?_⟩
        exact FB.done (by kernel_rfl) ⟨_, _, _, _, S193, (Inc.rfl _), els196, k154, k155, k156, k157⟩
      ·
       rintro f207 w206 ⟨H203, v199, n200, cs201, S204, i205, els202, k208, k209, k210, k211⟩
       refine FW.region ?_
       refine FL.v (E.move k211) ?_
       refine FL.v (E.add rfl rfl) ?_
       refine FL.v (E.assign (v := Value.int .i64 (wr (((i67 : Nat) : Int) + 1))) rfl) ?_
       refine FL.nil ?_
       obtain rfl := Option.some.inj hp
       exact ⟨rfl, ⟨_, _, _, _, S204, ((i70.tr i151).tr i205), els202, (nat_succ rfl (lt_of_get hx67) (p1.mono ((((i27.tr i40).tr i70).tr i151).tr i205)).le), k208, k209, k210⟩⟩
    ·
     refine FW.condF rfl c103 ?_
     refine FW.skip (FW.region ?_)
     refine FL.v (E.move k73) ?_
     refine FL.v (E.add rfl rfl) ?_
     refine FL.v (E.assign (v := Value.int .i64 (wr (((i67 : Nat) : Int) + 1))) rfl) ?_
     refine FL.nil ?_
     obtain rfl := Option.some.inj hp
     exact ⟨rfl, ⟨_, _, _, _, S102, i70, els37, (nat_succ rfl (lt_of_get hx67) (p1.mono ((i27.tr i40).tr i70)).le), k74, k75, k76⟩⟩
  ·
   clear hp hq
   rintro s67 f506 w505 ⟨H502, v34, n35, cs36, S503, i504, els37, k507, k508, k509, k510⟩
   refine FW.seq (FW.seq (FW.region ?_))
   refine FL.v (E.move k507) ?_
   refine FL.v (E.move k508) ?_
   refine FL.v (E.lenP te56 rfl p1) ?_
   refine FL.v (E.lss rfl rfl) ?_
   refine FL.nil ?_
   refine FW.condF rfl dlt_len ?_
   refine FW.exit ?_
   exact ⟨nofun, rfl, ⟨_, _, _, _, S503, i504, els37, k508, k510⟩⟩
  ·
   clear hq
   intro e f217 w216 hD
   rcases q67 with s67 | x67
   ·
    obtain ⟨rfl, hD⟩ := hD
    obtain ⟨H213, v34, n35, cs36, S214, i215, els37, k218, k219⟩ := hD
    replace hp := el_go hp
    refine FW.seq (FW.seq (FW.region ?_))
    refine FL.v (E.assign (v := Value.int .i64 0) rfl) ?_
    refine FL.nil ?_
    obtain ⟨q220, hq, hp⟩ := bndR hp
    refine FW.block ?_
    refine FW.mono (FW.iter (S := Int) (X := ((List (List Int)) × Bool)) (fun (s220 : Int) f w => ∃ H : GH, St Ha wa H w [.row 3 1 v34 n35 cs36] ∧ Inc H213 H ∧ f 1 = v1 ∧ f 6 = v34 ∧ f 8 = Value.int .i64 s220) (fun q e f w => match q with | .go s220 => e = Exit.exit 2 ∧ (∃ H : GH, St Ha wa H w [.row 3 1 v34 n35 cs36] ∧ Inc H213 H ∧ f 1 = v1) | .rt x => ((e = Exit.ret) ∧ (fun e f w => (e = Exit.normal ∨ e = Exit.ret) ∧ ∀ a, Fr (δ := []) 155 a f → ∃ v, (results Tryz.f113 a.tmps).run Tryz.prog w = .ok v w ∧ (p_spec_l9Paths Ha wa x) (.returned v) w) e f w)) hq ⟨_, S214, (Inc.rfl _), k218, k219, rfl⟩ ?_) ?_
    ·
     clear hp hq
     rintro s220 f225 w224 ⟨H221, S222, i223, k226, k227, k228⟩ o244 hp
     refine FW.seq (FW.seq (FW.region ?_))
     refine FL.v (E.move k228) ?_
     refine FL.v (E.move k226) ?_
     refine FL.v (E.lenP te56 rfl p1) ?_
     refine FL.v (E.sub rfl rfl) ?_
     refine FL.v (E.lss rfl rfl) ?_
     refine FL.nil ?_
     rcases ifB hp with ⟨c229, hp⟩ | ⟨c229, hp⟩
     ·
      refine FW.condT rfl c229 ?_
      refine FW.skip (FW.seq (FW.block (FW.seq (FW.region ?_))))
      refine FL.v (E.move k227) ?_
      refine FL.v (E.move k228) ?_
      obtain ⟨x236, hx237, hp⟩ := bnd hp
      obtain ⟨p230, cs231, pt232, l233, at234, rel235⟩ := S222.row_at (i := 0) rfl els37 (by decide) hx237
      obtain rfl := eI_open rel235
      refine FL.v (E.indexAddr te84 rfl rfl pt232) ?_
      refine FL.v (E.load rfl (run_load0 Tryz.isAgg3 at234 rfl)) ?_
      refine FL.v (E.neq rfl rfl) ?_
      refine FL.nil ?_
      rcases ifB hp with ⟨c238, hp⟩ | ⟨c238, hp⟩
      ·
       refine FW.condT rfl c238 ?_
       refine FW.seq (FW.region ?_)
       obtain ⟨v239, w240, run241, S242⟩ := S222.buildSlice (P := Tryz.prog) te22 [] (parts := #[]) (cells := []) rfl szs_nil fc_nil ones_nil (Nat.le_of_ble_eq_true rfl)
       have els243 : Els (up wa.heap.size H221) (eL eI 1) 1 [] [] := Els.nil
       refine FL.v (E.buildSlice (B0) run241) ?_
       refine FL.v (E.assign (v := v239) rfl) ?_
       refine FL.v (E.assign (v := Value.bool false) rfl) ?_
       refine FL.nil ?_
       refine FW.ret ?_
       obtain rfl := Option.some.inj hp
       exact ⟨nofun, rfl, ⟨.inr rfl, res2 rfl rfl rfl ⟨_, _, _, _, rfl, (S242.sel [0] (by decide) rfl), els243, (show (bl []).Nodup from List.nodup_nil)⟩⟩⟩
      ·
       refine FW.condF rfl c238 ?_
       refine FW.skip (FW.region ?_)
       refine FL.v (E.move k228) ?_
       refine FL.v (E.add rfl rfl) ?_
       refine FL.v (E.assign (v := Value.int .i64 (wr (s220 + 1))) rfl) ?_
       refine FL.nil ?_
       obtain rfl := Option.some.inj hp
       exact ⟨rfl, ⟨_, S222, i223, k226, k227, rfl⟩⟩
     ·
      refine FW.condF rfl c229 ?_
      refine FW.exit ?_
      obtain rfl := Option.some.inj hp
      exact ⟨nofun, rfl, ⟨_, S222, i223, k226⟩⟩
    ·
     clear hq
     intro e f249 w248 hD
     rcases q220 with s220 | x220
     ·
      obtain ⟨rfl, hD⟩ := hD
      obtain ⟨H245, S246, i247, k250⟩ := hD
      replace hp := el_go hp
      refine FW.seq (FW.region ?_)
      refine FL.v (E.move k250) ?_
      refine FL.v (E.lenP te56 rfl p1) ?_
      obtain ⟨xs251, hm252, hp⟩ := bnd hp
      obtain ⟨v253, w254, n258, cs259, run255, S256, els257, hbl260⟩ := S246.makeEls (P := Tryz.prog) te22 (G := (up wa.heap.size H245)) (En := (eL eI 1)) (x0 := ([] : List Int)) hm252 ⟨_, rfl, RSl.nil _ _ _⟩ (ones_cons rfl ones_nil) .i64 .i64
      have nd261 : (bl cs259).Nodup := by rw [hbl260 (by simp [Value.cells, neb])]; exact List.nodup_nil
      refine FL.v (E.makeSlice rfl rfl run255) ?_
      refine FL.v (E.assign (v := v253) rfl) ?_
      refine FL.nil (FW.seq (FW.region ?_))
      refine FL.v (E.move (v := v253) rfl) ?_
      refine FL.v (E.move k250) ?_
      refine FL.v (E.lenP te56 rfl p1) ?_
      refine FL.v (E.sub rfl rfl) ?_
      obtain ⟨v262, w263, run264, S265⟩ := S256.buildSlice (P := Tryz.prog) te84 [] (parts := #[]) (cells := []) rfl szs_nil fc_nil ones_nil (Nat.le_of_ble_eq_true rfl)
      have els266 : Els (up wa.heap.size H245) eI 1 [] [] := Els.nil
      refine FL.v (E.buildSlice (B0) run264) ?_
      obtain ⟨x273, hx274, hp⟩ := bnd hp
      obtain ⟨p267, cs268, pt269, l270, at271, rel272⟩ := S265.row_at (i := 1) rfl els257 (by decide) hx274
      obtain ⟨v275, rfl, h276⟩ := eL_open rel272
      refine FL.v (E.indexAddr te22 rfl rfl pt269) ?_
      obtain ⟨H277, S278, i279, h280, nv281⟩ := S265.sealRowU (i := 0) (l' := [.row 84 1 v253 n258 cs259, .row 3 1 v34 n35 cs36]) rfl els266 (by decide) rfl
      obtain ⟨xs285, hput286, hp⟩ := bnd hp
      obtain ⟨w282, cs288, run283, S284, els287, ce289⟩ := S278.putEls (P := Tryz.prog) (t := 84) (i := 0) rfl (els257.mono (up_mono i279)) hput286 pt269 Tryz.sizeOf84 (u := v262) (c := [v262]) h280.cells rfl (ones_cons h280.one ones_nil) ⟨_, rfl, h280⟩
      have S284 : St Ha wa H277 w282 [.row 84 1 v253 n258 cs288, .row 3 1 v34 n35 cs36] := S284
      have nd290 : (bl cs288).Nodup := by rw [ce289]; exact nd_put (Nat.le_add_right _ _) nd261 (by exact nd_one v262) (Els.dom (els257.mono (upI.tr (Inc.rfl _)))) (by exact nv281)
      refine FL.act rfl rfl (E.store rfl rfl run283) ?_
      refine FL.nil (FW.seq (FW.seq (FW.region ?_)))
      refine FL.v (E.move k250) ?_
      refine FL.v (E.lenP te56 rfl p1) ?_
      refine FL.v (E.sub rfl rfl) ?_
      refine FL.v (E.assign (v := Value.int .i64 (wr ((len a1) - 1))) rfl) ?_
      refine FL.nil ?_
      obtain ⟨q291, hq, hp⟩ := bndR hp
      refine FW.block ?_
      refine FW.mono (FW.iter (S := ((List (List Int)) × Int)) (X := ((List (List Int)) × Bool)) (fun (s291 : ((List (List Int)) × Int)) f w => ∃ H : GH, ∃ v292 : Value, ∃ n293 : Nat, ∃ cs294 : List Value, St Ha wa H w [.row 84 1 v292 n293 cs294] ∧ Inc H277 H ∧ Els (up wa.heap.size H) (eL eI 1) 1 cs294 s291.1 ∧ (bl cs294).Nodup ∧ f 1 = v1 ∧ f 9 = v292 ∧ f 10 = Value.int .i64 s291.2) (fun q e f w => match q with | .go s291 => e = Exit.exit 4 ∧ (∃ H : GH, ∃ v292 : Value, ∃ n293 : Nat, ∃ cs294 : List Value, St Ha wa H w [.row 84 1 v292 n293 cs294] ∧ Inc H277 H ∧ Els (up wa.heap.size H) (eL eI 1) 1 cs294 s291.1 ∧ (bl cs294).Nodup ∧ f 9 = v292) | .rt x => ((e = Exit.ret) ∧ (fun e f w => (e = Exit.normal ∨ e = Exit.ret) ∧ ∀ a, Fr (δ := []) 155 a f → ∃ v, (results Tryz.f113 a.tmps).run Tryz.prog w = .ok v w ∧ (p_spec_l9Paths Ha wa x) (.returned v) w) e f w)) hq ⟨_, _, _, _, (S284.sel [0] (by decide) rfl), (Inc.rfl _), els287, nd290, k250, rfl, rfl⟩ ?_) ?_
      ·
       clear hp hq
       rintro s291 f301 w300 ⟨H297, v292, n293, cs294, S298, i299, els295, nd296, k302, k303, k304⟩ o495 hp
       refine FW.seq (FW.seq (FW.region ?_))
       refine FL.v (E.move k304) ?_
       refine FL.v (E.geq rfl rfl) ?_
       refine FL.nil ?_
       rcases ifB hp with ⟨c305, hp⟩ | ⟨c305, hp⟩
       ·
        refine FW.condT rfl c305 ?_
        refine FW.skip (FW.seq (FW.block (FW.seq (FW.region ?_))))
        refine FL.v (E.move k302) ?_
        refine FL.v (E.move k304) ?_
        obtain ⟨x312, hx313, hp⟩ := bnd hp
        obtain ⟨p306, cs307, pt308, l309, at310, rel311⟩ := p1.at hx313
        obtain rfl := eTreeNode_open rel311
        refine FL.v (E.indexAddr te56 rfl rfl pt308) ?_
        refine FL.v (E.load rfl (run_loadA Tryz.isAgg98 Tryz.sizeOf98 ((at310.mono (((((i27.tr i40).tr i215).tr i247).tr i279).tr i299)).now S298.sl) rfl)) ?_
        obtain ⟨b314, w315, run316, S317⟩ := S298.alloc (P := Tryz.prog) 98 [Value.int .i64 0, Value.int .i64 0, Value.int .i64 0, Value.int .i64 0] Tryz.zeroValue98 rfl (ones_cons rfl (ones_cons rfl (ones_cons rfl (ones_cons rfl ones_nil))))
        refine FL.v (E.alloc run316) ?_
        obtain ⟨w318, run319, S320⟩ := S317.store0 (P := Tryz.prog) (t := 98) (i := 0) (cs' := [Value.int .i64 x312.var, Value.int .i64 x312.low, Value.int .i64 x312.high, Value.int .i64 x312.clause]) (l' := [.box b314 98 [Value.int .i64 x312.var, Value.int .i64 x312.low, Value.int .i64 x312.high, Value.int .i64 x312.clause], .row 84 1 v292 n293 cs294]) (v := Value.agg #[Value.int .i64 x312.var, Value.int .i64 x312.low, Value.int .i64 x312.high, Value.int .i64 x312.clause]) (c := [Value.int .i64 x312.var, Value.int .i64 x312.low, Value.int .i64 x312.high, Value.int .i64 x312.clause]) rfl Tryz.sizeOf98 rfl rfl (ones_cons rfl (ones_cons rfl (ones_cons rfl (ones_cons rfl ones_nil)))) (Nat.le_of_ble_eq_true rfl) rfl rfl
        refine FL.act rfl rfl (E.store rfl rfl run319) ?_
        obtain ⟨H321, S322, i323, at324⟩ := S320.sealBox (i := 0) (l' := [.row 84 1 v292 n293 cs294]) rfl rfl
        refine FL.nil (FW.seq (FW.seq (FW.region ?_)))
        refine FL.v (E.load rfl (run_loadA Tryz.isAgg98 Tryz.sizeOf98 (at324.now S322.sl) rfl)) ?_
        refine FL.call rfl rfl rfl (E.call Tryz.call115 (A1 rfl)) (w_spec_l9Leaf S322.sl x312) ?_
        rintro e w325 ⟨rfl, r326⟩
        refine ⟨_, rfl, ?_⟩
        have S327 := S322.call r326
        refine FL.nil ?_
        rcases ifB hp with ⟨c328, hp⟩ | ⟨c328, hp⟩
        ·
         refine FW.condT rfl c328 ?_
         refine FW.exit ?_
         refine FW.region ?_
         refine FL.v (E.move k304) ?_
         refine FL.v (E.sub rfl rfl) ?_
         refine FL.v (E.assign (v := Value.int .i64 (wr (s291.2 - 1))) rfl) ?_
         refine FL.nil ?_
         obtain rfl := Option.some.inj hp
         exact ⟨rfl, ⟨_, _, _, _, S327, (i299.tr i323), (els295.mono (up_mono i323)), nd296, k302, k303, rfl⟩⟩
        ·
         refine FW.condF rfl c328 ?_
         refine FW.skip (FW.seq (FW.seq ?_))
         refine FW.draw (fun w' => Run w325.heap.size H321 w325 H321 w') (by kernel_rfl) (by kernel_rfl) (run_drew S327.sl) ?_
         refine FD.val rfl rfl rfl (fun w' hw' => (E.move k303)) ?_
         refine FD.val rfl rfl rfl (fun w' hw' => (E.move k304)) ?_
         obtain ⟨x335, hx336, hp⟩ := bnd hp
         obtain ⟨p329, cs330, pt331, l332, at333, rel334⟩ := S327.row_at (i := 0) rfl els295 (by decide) hx336
         obtain ⟨v337, rfl, h338⟩ := eL_open rel334
         refine FD.val rfl rfl rfl (fun w' hw' => (E.indexAddr te22 rfl rfl pt331)) ?_
         refine FD.val rfl rfl rfl (fun w' hw' => (E.load rfl (run_load0 Tryz.isAgg84 (at333.cls hw') rfl))) ?_
         refine FD.val rfl rfl rfl (fun w' hw' => (E.fieldAddr tf98_0 rfl)) ?_
         refine FD.val rfl rfl rfl (fun w' hw' => (E.load rfl (run_load1 Tryz.isAgg3 (at324.now (S327.call hw').sl) rfl))) ?_
         obtain ⟨r339, hr340, hp⟩ := bnd hp
         refine FD.call rfl rfl rfl (fun w' hw' => (E.call Tryz.call116 (A2 rfl rfl))) (fun w' hw' => Calls.cls hw' (w_spec_l2Has (S327.call hw').sl v337 x335 (h338.mono (upI.tr i323)) x312.var hr340)) ?_
         refine FD.val rfl rfl rfl (fun w' hw' => (E.move (v := Value.bool r339) rfl)) ?_
         obtain ⟨t341, hqt341, hp⟩ := bnd hp
         refine FD.cut 9 (fun f => f 1 = v1 ∧ f 9 = v292 ∧ f 10 = Value.int .i64 s291.2 ∧ f 11 = Value.pointer (some ⟨b314, 0, none⟩) ∧ f 129 = Value.bool t341) ?_ ?_
         ·
          clear hp; have hp := hqt341; clear hqt341
          rcases ifB hp with ⟨c343, hp⟩ | ⟨c343, hp⟩
          ·
           refine FD.skip (wF_no rfl rfl rfl c343) rfl ?_
           refine FD.skip (wF_no rfl rfl rfl c343) rfl ?_
           refine FD.skip (wF_no rfl rfl rfl c343) rfl ?_
           refine FD.skip (wF_no rfl rfl rfl c343) rfl ?_
           refine FD.skip (wF_no rfl rfl rfl c343) rfl ?_
           refine FD.skip (wF_no rfl rfl rfl c343) rfl ?_
           refine FD.skip (wF_no rfl rfl rfl c343) rfl ?_
           refine FD.skip (wF_no rfl rfl rfl c343) rfl ?_
           obtain rfl := Option.some.inj hp
           refine FD.val rfl rfl rfl (fun w' hw' => (E.pickT rfl c343 rfl)) ?_
           exact FD.nil ⟨k302, k303, k304, rfl, rfl⟩
          ·
           refine FD.val (wF_yes rfl rfl rfl c343) rfl rfl (fun w' hw' => (E.move k303)) ?_
           refine FD.val (wF_yes rfl rfl rfl c343) rfl rfl (fun w' hw' => (E.move k304)) ?_
           obtain ⟨x350, hx351, hp⟩ := bnd hp
           obtain ⟨p344, cs345, pt346, l347, at348, rel349⟩ := S327.row_at (i := 0) rfl els295 (by decide) hx351
           obtain ⟨v352, rfl, h353⟩ := eL_open rel349
           refine FD.val (wF_yes rfl rfl rfl c343) rfl rfl (fun w' hw' => (E.indexAddr te22 rfl rfl pt346)) ?_
           refine FD.val (wF_yes rfl rfl rfl c343) rfl rfl (fun w' hw' => (E.load rfl (run_load0 Tryz.isAgg84 (at348.cls hw') rfl))) ?_
           refine FD.val (wF_yes rfl rfl rfl c343) rfl rfl (fun w' hw' => (E.fieldAddr tf98_0 rfl)) ?_
           refine FD.val (wF_yes rfl rfl rfl c343) rfl rfl (fun w' hw' => (E.load rfl (run_load1 Tryz.isAgg3 (at324.now (S327.call hw').sl) rfl))) ?_
           refine FD.val (wF_yes rfl rfl rfl c343) rfl rfl (fun w' hw' => (E.neg rfl)) ?_
           obtain ⟨r354, hr355, hp⟩ := bnd hp
           refine FD.call (wF_yes rfl rfl rfl c343) rfl rfl (fun w' hw' => (E.call Tryz.call116 (A2 rfl rfl))) (fun w' hw' => Calls.cls hw' (w_spec_l2Has (S327.call hw').sl v352 x350 (h353.mono (upI.tr i323)) (wr (-x312.var)) hr355)) ?_
           obtain rfl := Option.some.inj hp
           refine FD.val rfl rfl rfl (fun w' hw' => (E.pickF rfl c343 rfl)) ?_
           exact FD.nil ⟨k302, k303, k304, rfl, rfl⟩
         rintro f342 ⟨k356, k357, k358, k359, k360⟩
         refine FD.nil ?_
         intro w361 r363
         have S362 := S327.call r363
         rcases ifB hp with ⟨c364, hp⟩ | ⟨c364, hp⟩
         ·
          refine FW.condT k360 c364 ?_
          refine FW.seq (FW.region ?_)
          obtain ⟨v365, w366, run367, S368⟩ := S362.buildSlice (P := Tryz.prog) te22 [] (parts := #[]) (cells := []) rfl szs_nil fc_nil ones_nil (Nat.le_of_ble_eq_true rfl)
          have els369 : Els (up wa.heap.size H321) (eL eI 1) 1 [] [] := Els.nil
          refine FL.v (E.buildSlice (B0) run367) ?_
          refine FL.v (E.assign (v := v365) rfl) ?_
          refine FL.v (E.assign (v := Value.bool false) rfl) ?_
          refine FL.nil ?_
          refine FW.ret ?_
          obtain rfl := Option.some.inj hp
          exact ⟨nofun, rfl, ⟨.inr rfl, res2 rfl rfl rfl ⟨_, _, _, _, rfl, (S368.sel [0] (by decide) rfl), els369, (show (bl []).Nodup from List.nodup_nil)⟩⟩⟩
         ·
          refine FW.condF k360 c364 ?_
          refine FW.skip (FW.seq ?_)
          obtain ⟨x379, hx380, hp⟩ := bnd hp
          obtain ⟨r384, hr385, hp⟩ := bnd hp
          obtain ⟨x400, hx401, hp⟩ := bnd hp
          obtain ⟨xs413, hput414, hp⟩ := bnd hp
          refine FW.drawB (Sl H321) (fun f w => ∃ H : GH, ∃ v419 : Value, ∃ n420 : Nat, ∃ cs421 : List Value, St Ha wa H w [.row 84 1 v419 n420 cs421] ∧ Inc H321 H ∧ Els (up wa.heap.size H) (eL eI 1) 1 cs421 xs413 ∧ (bl cs421).Nodup ∧ f 1 = v1 ∧ f 9 = v419 ∧ f 10 = Value.int .i64 s291.2 ∧ f 11 = Value.pointer (some ⟨b314, 0, none⟩)) (by kernel_rfl) S362.sl ?_ ?_
          ·
           intro w370 r371
           have S372 := S362.call r371
           refine FB.t (i := 0) (bs 13 1) rfl (SP.nil S372.sl) rfl (fun w' hw' => (E.move k357)) ?_
           refine FB.t (i := 1) (bs 13 3) rfl (SP.nil S372.sl) rfl (fun w' hw' => (E.fieldAddr tf98_1 k359)) ?_
           refine FB.t (i := 2) (bs 13 7) rfl (SP.nil S372.sl) rfl (fun w' hw' => (E.load rfl (run_load1 Tryz.isAgg3 (at324.now hw') rfl))) ?_
           refine FB.t (i := 3) (bs 13 15) rfl (SP.nil S372.sl) rfl (fun w' hw' => (E.move k357)) ?_
           refine FB.t (i := 4) (bs 13 31) rfl (SP.nil S372.sl) rfl (fun w' hw' => (E.move k358)) ?_
           obtain ⟨p373, cs374, pt375, l376, at377, rel378, hall381⟩ := S372.row_atA (i := 0) rfl els295 (by decide) hx380
           obtain ⟨v382, rfl, h383⟩ := eL_open rel378
           refine FB.t (i := 5) (bs 13 63) rfl (SP.nil S372.sl) rfl (fun w' hw' => (E.indexAddr te22 rfl rfl pt375)) ?_
           refine FB.phase [12] (fun w' => WAt w' p373 [v382]) ?_
           refine FB.p (i := 6) (bs 13 127) 0 [10, 11, 12] rfl (SP.on (hall381 _ _ _ 0 S372 rfl) (SP.nil S372.sl)) rfl rfl (fun w' hw' => (E.load rfl (run_load0 Tryz.isAgg84 hw' rfl))) ?_
           refine FB.t (i := 7) (bs 13 255) rfl (SP.on (hall381 _ _ _ 0 S372 rfl) (SP.nil S372.sl)) rfl (fun w' hw' => (E.fieldAddr tf98_0 k359)) ?_
           refine FB.t (i := 8) (bs 13 511) rfl (SP.on (hall381 _ _ _ 0 S372 rfl) (SP.nil S372.sl)) rfl (fun w' hw' => (E.load rfl (run_load1 Tryz.isAgg3 (at324.now hw') rfl))) ?_
           refine FB.t (i := 9) (bs 13 1023) rfl (SP.on (hall381 _ _ _ 0 S372 rfl) (SP.nil S372.sl)) rfl (fun w' hw' => (E.neg rfl)) ?_
           refine FB.all1 (i := 10) (by kernel_rfl) ?_
           ·
            refine FC.call (l' := (bs 13 2047)) rfl (by kernel_rfl) rfl rfl rfl (E.call Tryz.call124 (A2 rfl rfl)) (w_spec_l2Put S372.sl v382 x379 (h383.mono (upI.tr i323)) (wr (-x312.var)) hr385) ?_
            rintro e w387 ⟨H386, v390, n391, cs392, rfl, r389, els393⟩
            refine ⟨_, rfl, ?_⟩
            have els393 := els393.mono (up_le S372.size)
            have S388 := S372.join (l' := [.row 3 1 v390 n391 cs392, .row 84 1 v292 n293 cs294]) r389 rfl
            refine ⟨(SP.on (hall381 _ _ _ 1 S388 rfl) (SP.nil (Sl.of_inc r389.run.inc S388.sl))), ?_⟩
            obtain ⟨p394, cs395, pt396, l397, at398, rel399, hall402⟩ := S388.row_atA (i := 1) rfl els295 (by decide) hx401
            obtain ⟨v403, rfl, h404⟩ := eL_open rel399
            refine FB.t (i := 11) (bs 13 4095) rfl (SP.on (hall381 _ _ _ 1 S388 rfl) (SP.nil (Sl.of_inc r389.run.inc S388.sl))) rfl (fun w' hw' => (E.indexAddr te22 rfl rfl pt396)) ?_
            refine FB.all1 (i := 12) (by kernel_rfl) ?_
            ·
             obtain ⟨H405, S406, i407, h408, nv409⟩ := S388.sealRowU (i := 0) (l' := [.row 84 1 v292 n293 cs294]) rfl els393 (by decide) rfl
             obtain ⟨w410, cs416, run411, S412, els415, ce417⟩ := S406.putEls (P := Tryz.prog) (t := 84) (i := 0) rfl (els295.mono (up_mono ((i323.tr r389.run.inc).tr i407))) hput414 pt396 Tryz.sizeOf84 (u := v390) (c := [v390]) h408.cells rfl (ones_cons h408.one ones_nil) ⟨_, rfl, h408⟩
             have S412 : St Ha wa H405 w410 [.row 84 1 v292 n293 cs416] := S412
             have nd418 : (bl cs416).Nodup := by rw [ce417]; exact nd_put (Nat.le_add_right _ _) nd296 (by exact nd_one v390) (Els.dom (els295.mono (upI.tr (i323.tr r389.run.inc)))) (by exact nv409)
             refine FC.act (l' := (bs 13 8191)) rfl (by kernel_rfl) rfl rfl (E.store rfl rfl run411) ?_
             refine ⟨(SP.o (SP.nil (Sl.of_inc (r389.run.inc.tr i407) S412.sl))), ?_⟩
             exact FB.done (by kernel_rfl) ⟨_, _, _, _, S412, (r389.run.inc.tr i407), els415, nd418, k356, k357, k358, k359⟩
          ·
           rintro f428 w427 ⟨H424, v419, n420, cs421, S425, i426, els422, nd423, k429, k430, k431, k432⟩
           obtain ⟨x442, hx443, hp⟩ := bnd hp
           obtain ⟨r447, hr448, hp⟩ := bnd hp
           obtain ⟨x463, hx464, hp⟩ := bnd hp
           obtain ⟨xs476, hput477, hp⟩ := bnd hp
           refine FW.drawB (Sl H424) (fun f w => ∃ H : GH, ∃ v482 : Value, ∃ n483 : Nat, ∃ cs484 : List Value, St Ha wa H w [.row 84 1 v482 n483 cs484] ∧ Inc H424 H ∧ Els (up wa.heap.size H) (eL eI 1) 1 cs484 xs476 ∧ (bl cs484).Nodup ∧ f 1 = v1 ∧ f 9 = v482 ∧ f 10 = Value.int .i64 s291.2) (by kernel_rfl) S425.sl ?_ ?_
           ·
            intro w433 r434
            have S435 := S425.call r434
            refine FB.t (i := 0) (bs 12 1) rfl (SP.nil S435.sl) rfl (fun w' hw' => (E.move k430)) ?_
            refine FB.t (i := 1) (bs 12 3) rfl (SP.nil S435.sl) rfl (fun w' hw' => (E.fieldAddr tf98_2 k432)) ?_
            refine FB.t (i := 2) (bs 12 7) rfl (SP.nil S435.sl) rfl (fun w' hw' => (E.load rfl (run_load1 Tryz.isAgg3 ((at324.mono i426).now hw') rfl))) ?_
            refine FB.t (i := 3) (bs 12 15) rfl (SP.nil S435.sl) rfl (fun w' hw' => (E.move k430)) ?_
            refine FB.t (i := 4) (bs 12 31) rfl (SP.nil S435.sl) rfl (fun w' hw' => (E.move k431)) ?_
            obtain ⟨p436, cs437, pt438, l439, at440, rel441, hall444⟩ := S435.row_atA (i := 0) rfl els422 (by decide) hx443
            obtain ⟨v445, rfl, h446⟩ := eL_open rel441
            refine FB.t (i := 5) (bs 12 63) rfl (SP.nil S435.sl) rfl (fun w' hw' => (E.indexAddr te22 rfl rfl pt438)) ?_
            refine FB.phase [11] (fun w' => WAt w' p436 [v445]) ?_
            refine FB.p (i := 6) (bs 12 127) 0 [9, 10, 11] rfl (SP.on (hall444 _ _ _ 0 S435 rfl) (SP.nil S435.sl)) rfl rfl (fun w' hw' => (E.load rfl (run_load0 Tryz.isAgg84 hw' rfl))) ?_
            refine FB.t (i := 7) (bs 12 255) rfl (SP.on (hall444 _ _ _ 0 S435 rfl) (SP.nil S435.sl)) rfl (fun w' hw' => (E.fieldAddr tf98_0 k432)) ?_
            refine FB.t (i := 8) (bs 12 511) rfl (SP.on (hall444 _ _ _ 0 S435 rfl) (SP.nil S435.sl)) rfl (fun w' hw' => (E.load rfl (run_load1 Tryz.isAgg3 ((at324.mono i426).now hw') rfl))) ?_
            refine FB.all1 (i := 9) (by kernel_rfl) ?_
            ·
             refine FC.call (l' := (bs 12 1023)) rfl (by kernel_rfl) rfl rfl rfl (E.call Tryz.call124 (A2 rfl rfl)) (w_spec_l2Put S435.sl v445 x442 (h446.mono upI) x312.var hr448) ?_
             rintro e w450 ⟨H449, v453, n454, cs455, rfl, r452, els456⟩
             refine ⟨_, rfl, ?_⟩
             have els456 := els456.mono (up_le S435.size)
             have S451 := S435.join (l' := [.row 3 1 v453 n454 cs455, .row 84 1 v419 n420 cs421]) r452 rfl
             refine ⟨(SP.on (hall444 _ _ _ 1 S451 rfl) (SP.nil (Sl.of_inc r452.run.inc S451.sl))), ?_⟩
             obtain ⟨p457, cs458, pt459, l460, at461, rel462, hall465⟩ := S451.row_atA (i := 1) rfl els422 (by decide) hx464
             obtain ⟨v466, rfl, h467⟩ := eL_open rel462
             refine FB.t (i := 10) (bs 12 2047) rfl (SP.on (hall444 _ _ _ 1 S451 rfl) (SP.nil (Sl.of_inc r452.run.inc S451.sl))) rfl (fun w' hw' => (E.indexAddr te22 rfl rfl pt459)) ?_
             refine FB.all1 (i := 11) (by kernel_rfl) ?_
             ·
              obtain ⟨H468, S469, i470, h471, nv472⟩ := S451.sealRowU (i := 0) (l' := [.row 84 1 v419 n420 cs421]) rfl els456 (by decide) rfl
              obtain ⟨w473, cs479, run474, S475, els478, ce480⟩ := S469.putEls (P := Tryz.prog) (t := 84) (i := 0) rfl (els422.mono (up_mono (r452.run.inc.tr i470))) hput477 pt459 Tryz.sizeOf84 (u := v453) (c := [v453]) h471.cells rfl (ones_cons h471.one ones_nil) ⟨_, rfl, h471⟩
              have S475 : St Ha wa H468 w473 [.row 84 1 v419 n420 cs479] := S475
              have nd481 : (bl cs479).Nodup := by rw [ce480]; exact nd_put (Nat.le_add_right _ _) nd423 (by exact nd_one v453) (Els.dom (els422.mono (upI.tr r452.run.inc))) (by exact nv472)
              refine FC.act (l' := (bs 12 4095)) rfl (by kernel_rfl) rfl rfl (E.store rfl rfl run474) ?_
              refine ⟨(SP.o (SP.nil (Sl.of_inc (r452.run.inc.tr i470) S475.sl))), ?_⟩
              exact FB.done (by kernel_rfl) ⟨_, _, _, _, S475, (r452.run.inc.tr i470), els478, nd481, k429, k430, k431⟩
           ·
            rintro f491 w490 ⟨H487, v482, n483, cs484, S488, i489, els485, nd486, k492, k493, k494⟩
            refine FW.region ?_
            refine FL.v (E.move k494) ?_
            refine FL.v (E.sub rfl rfl) ?_
            refine FL.v (E.assign (v := Value.int .i64 (wr (s291.2 - 1))) rfl) ?_
            refine FL.nil ?_
            obtain rfl := Option.some.inj hp
            exact ⟨rfl, ⟨_, _, _, _, S488, (((i299.tr i323).tr i426).tr i489), els485, nd486, k492, k493, rfl⟩⟩
       ·
        refine FW.condF rfl c305 ?_
        refine FW.exit ?_
        obtain rfl := Option.some.inj hp
        exact ⟨nofun, rfl, ⟨_, _, _, _, S298, i299, els295, nd296, k303⟩⟩
      ·
       clear hq
       intro e f500 w499 hD
       rcases q291 with s291 | x291
       ·
        obtain ⟨rfl, hD⟩ := hD
        obtain ⟨H496, v292, n293, cs294, S497, i498, els295, nd296, k501⟩ := hD
        replace hp := el_go hp
        refine FW.seq (FW.region ?_)
        refine FL.v (E.move k501) ?_
        refine FL.v (E.assign (v := v292) rfl) ?_
        refine FL.v (E.assign (v := Value.bool true) rfl) ?_
        refine FL.nil ?_
        refine FW.ret ?_
        obtain rfl := Option.some.inj hp
        exact ⟨.inr rfl, res2 rfl rfl rfl ⟨_, _, _, _, rfl, S497, els295, nd296⟩⟩
       ·
        obtain ⟨he, hL⟩ := hD
        replace hp := el_rt hp
        obtain rfl := Option.some.inj hp
        subst he
        exact hL
     ·
      obtain ⟨he, hL⟩ := hD
      replace hp := el_rt hp
      obtain rfl := Option.some.inj hp
      subst he
      exact hL
   ·
    obtain ⟨he, hL⟩ := hD
    replace hp := el_rt hp
    obtain rfl := Option.some.inj hp
    subst he
    exact hL

theorem w_spec_l3Value {Ha : GH} {wa : World} (hs : Sl Ha wa) (v0 : Value) (a0 : List Int) (p0 : RSl Ha eI 1 v0 a0) (v1 : Value) (a1 : List Int) (p1 : RSl Ha eI 1 v1 a1) {r : Int} (hp : (PF.spec_l3Value a0 a1) = some r) :
  Calls Tryz.prog 173 #[v0, v1] wa (Sc Ha wa (Value.int .i64 r)) := by
 unfold PF.spec_l3Value at hp
 have S0 := St.init hs
 refine calls_go (N := 28) (args := [v0, v1]) Tryz.func173 rfl rfl rfl ?_
 refine FW.seq (FW.region ?_)
 refine FL.v (E.assign (v := Value.int .i64 0) rfl) ?_
 refine FL.nil (FW.seq (FW.region ?_))
 refine FL.v (E.assign (v := Value.int .i64 (-1)) rfl) ?_
 refine FL.nil (FW.seq (FW.seq (FW.region ?_)))
 refine FL.v (E.assign (v := Value.int .i64 0) rfl) ?_
 refine FL.nil ?_
 obtain ⟨q22, hq, hp⟩ := bndR hp
 refine FW.block ?_
 refine FW.mono (FW.forL (S := Int) (X := Int) (fun (i22 : Nat) (s22 : Int) f w => ∃ H : GH, St Ha wa H w [] ∧ Inc Ha H ∧ f 6 = Value.int .i64 ((i22 : Nat) : Int) ∧ f 0 = v0 ∧ f 1 = v1 ∧ f 5 = Value.int .i64 s22) (fun q e f w => match q with | .go s22 => e = Exit.exit 0 ∧ (∃ H : GH, St Ha wa H w [] ∧ Inc Ha H ∧ f 5 = Value.int .i64 s22) | .rt x => ((e = Exit.ret) ∧ (fun e f w => (e = Exit.normal ∨ e = Exit.ret) ∧ ∀ a, Fr (δ := []) 28 a f → ∃ v, (results Tryz.f173 a.tmps).run Tryz.prog w = .ok v w ∧ (Sc Ha wa (Value.int .i64 x)) (.returned v) w) e f w)) hq ⟨_, S0, (Inc.rfl _), rfl, rfl, rfl, rfl⟩ ?_ ?_) ?_
 ·
  clear hp hq
  rintro i22 y21 s22 f60 w59 ⟨H56, S57, i58, k61, k62, k63, k64⟩ hx22 o89 hp
  refine FW.seq (FW.seq (FW.region ?_))
  refine FL.v (E.move k61) ?_
  refine FL.v (E.move k62) ?_
  refine FL.v (E.lenP te84 rfl p0) ?_
  refine FL.v (E.lssT rfl rfl (lss_len hx22)) ?_
  refine FL.nil ?_
  refine FW.condT rfl rfl ?_
  refine FW.skip (FW.seq (FW.block (FW.seq (FW.seq (FW.region ?_)))))
  refine FL.v (E.move k63) ?_
  refine FL.v (E.move k62) ?_
  refine FL.v (E.move k61) ?_
  obtain ⟨p65, cs66, pt67, l68, at69, rel70⟩ := p0.at (ix_nat hx22)
  obtain rfl := eI_open rel70
  refine FL.v (E.indexAddr te84 rfl rfl pt67) ?_
  refine FL.v (E.load rfl (run_load0 Tryz.isAgg3 ((at69.mono i58).now S57.sl) rfl)) ?_
  obtain ⟨r71, hr72, hp⟩ := bnd hp
  refine FL.call rfl rfl rfl (E.call Tryz.call116 (A2 rfl rfl)) (w_spec_l2Has S57.sl v1 a1 (p1.mono i58) y21 hr72) ?_
  rintro e w73 ⟨rfl, r74⟩
  refine ⟨_, rfl, ?_⟩
  have S75 := S57.call r74
  refine FL.nil ?_
  rcases ifB hp with ⟨c76, hp⟩ | ⟨c76, hp⟩
  ·
   refine FW.condT rfl c76 ?_
   refine FW.seq (FW.region ?_)
   refine FL.v (E.assign (v := Value.int .i64 1) rfl) ?_
   refine FL.nil ?_
   refine FW.ret ?_
   obtain rfl := Option.some.inj hp
   exact ⟨nofun, rfl, ⟨.inr rfl, res1 rfl rfl ⟨rfl, S75.back⟩⟩⟩
  ·
   refine FW.condF rfl c76 ?_
   refine FW.skip (FW.seq (FW.region ?_))
   refine FL.v (E.move k63) ?_
   refine FL.v (E.move k62) ?_
   refine FL.v (E.move k61) ?_
   obtain ⟨p77, cs78, pt79, l80, at81, rel82⟩ := p0.at (ix_nat hx22)
   obtain rfl := eI_open rel82
   refine FL.v (E.indexAddr te84 rfl rfl pt79) ?_
   refine FL.v (E.load rfl (run_load0 Tryz.isAgg3 ((at81.mono i58).now S75.sl) rfl)) ?_
   refine FL.v (E.neg rfl) ?_
   obtain ⟨r83, hr84, hp⟩ := bnd hp
   refine FL.call rfl rfl rfl (E.call Tryz.call116 (A2 rfl rfl)) (w_spec_l2Has S75.sl v1 a1 (p1.mono i58) (wr (-y21)) hr84) ?_
   rintro e w85 ⟨rfl, r86⟩
   refine ⟨_, rfl, ?_⟩
   have S87 := S75.call r86
   refine FL.v (E.not rfl) ?_
   refine FL.nil ?_
   rcases ifB hp with ⟨c88, hp⟩ | ⟨c88, hp⟩
   ·
    refine FW.condT rfl c88 ?_
    refine FW.region ?_
    refine FL.v (E.assign (v := Value.int .i64 0) rfl) ?_
    refine FL.nil (FW.region ?_)
    refine FL.v (E.move k61) ?_
    refine FL.v (E.add rfl rfl) ?_
    refine FL.v (E.assign (v := Value.int .i64 (wr (((i22 : Nat) : Int) + 1))) rfl) ?_
    refine FL.nil ?_
    obtain rfl := Option.some.inj hp
    exact ⟨rfl, ⟨_, S87, i58, (nat_succ rfl (lt_of_get hx22) (p0.mono i58).le), k62, k63, rfl⟩⟩
   ·
    refine FW.condF rfl c88 ?_
    refine FW.skip (FW.region ?_)
    refine FL.v (E.move k61) ?_
    refine FL.v (E.add rfl rfl) ?_
    refine FL.v (E.assign (v := Value.int .i64 (wr (((i22 : Nat) : Int) + 1))) rfl) ?_
    refine FL.nil ?_
    obtain rfl := Option.some.inj hp
    exact ⟨rfl, ⟨_, S87, i58, (nat_succ rfl (lt_of_get hx22) (p0.mono i58).le), k62, k63, k64⟩⟩
 ·
  clear hp hq
  rintro s22 f100 w99 ⟨H96, S97, i98, k101, k102, k103, k104⟩
  refine FW.seq (FW.seq (FW.region ?_))
  refine FL.v (E.move k101) ?_
  refine FL.v (E.move k102) ?_
  refine FL.v (E.lenP te84 rfl p0) ?_
  refine FL.v (E.lss rfl rfl) ?_
  refine FL.nil ?_
  refine FW.condF rfl dlt_len ?_
  refine FW.exit ?_
  exact ⟨nofun, rfl, ⟨_, S97, i98, k104⟩⟩
 ·
  clear hq
  intro e f94 w93 hD
  rcases q22 with s22 | x22
  ·
   obtain ⟨rfl, hD⟩ := hD
   obtain ⟨H90, S91, i92, k95⟩ := hD
   replace hp := el_go hp
   refine FW.seq (FW.region ?_)
   refine FL.v (E.move k95) ?_
   refine FL.v (E.assign (v := Value.int .i64 s22) rfl) ?_
   refine FL.nil ?_
   refine FW.ret ?_
   obtain rfl := Option.some.inj hp
   exact ⟨.inr rfl, res1 rfl rfl ⟨rfl, S91.back⟩⟩
  ·
   obtain ⟨he, hL⟩ := hD
   replace hp := el_rt hp
   obtain rfl := Option.some.inj hp
   subst he
   exact hL

theorem w_spec_l9Bad {Ha : GH} {wa : World} (hs : Sl Ha wa) (a0 : Cnf) (v0_1 : Value) (p0_1 : RSl Ha (eL eI 1) 1 v0_1 a0.clauses) (v1 : Value) (a1 : List TreeNode) (p1 : RSl Ha eTreeNode 4 v1 a1) (v2 : Value) (a2 : List (List Int)) (p2 : RSl Ha (eL eI 1) 1 v2 a2) {r : Int} (hp : (PF.spec_l9Bad a0 a1 a2) = some r) :
  Calls Tryz.prog 114 #[Value.agg #[Value.int .i64 a0.vars, v0_1], v1, v2] wa (Sc Ha wa (Value.int .i64 r)) := by
 unfold PF.spec_l9Bad at hp
 have S0 := St.init hs
 refine calls_go (N := 37) (args := [Value.agg #[Value.int .i64 a0.vars, v0_1], v1, v2]) Tryz.func114 rfl rfl rfl ?_
 refine FW.seq (FW.region ?_)
 obtain ⟨b21, w22, run23, S24⟩ := S0.box (P := Tryz.prog) 30 [Value.int .i64 a0.vars, v0_1] (v := Value.agg #[Value.int .i64 a0.vars, v0_1]) rfl (ones_cons rfl (ones_cons p0_1.one ones_nil))
 refine FL.v (E.box rfl run23) ?_
 obtain ⟨H25, S26, i27, at28⟩ := S24.sealBox (i := 0) (l' := []) rfl rfl
 refine FL.v (E.assign (v := Value.int .i64 0) rfl) ?_
 refine FL.nil (FW.seq (FW.seq (FW.region ?_)))
 refine FL.v (E.assign (v := Value.int .i64 0) rfl) ?_
 refine FL.nil ?_
 obtain ⟨q30, hq, hp⟩ := bndR hp
 refine FW.block ?_
 refine FW.mono (FW.forL (S := Unit) (X := Int) (fun (i30 : Nat) (s30 : Unit) f w => ∃ H : GH, St Ha wa H w [] ∧ Inc H25 H ∧ f 7 = Value.int .i64 ((i30 : Nat) : Int) ∧ f 1 = v1 ∧ f 2 = v2 ∧ f 3 = Value.pointer (some ⟨b21, 0, none⟩)) (fun q e f w => match q with | .go s30 => e = Exit.exit 0 ∧ (∃ H : GH, St Ha wa H w [] ∧ Inc H25 H) | .rt x => ((e = Exit.ret) ∧ (fun e f w => (e = Exit.normal ∨ e = Exit.ret) ∧ ∀ a, Fr (δ := []) 37 a f → ∃ v, (results Tryz.f114 a.tmps).run Tryz.prog w = .ok v w ∧ (Sc Ha wa (Value.int .i64 x)) (.returned v) w) e f w)) hq ⟨_, S26, (Inc.rfl _), rfl, rfl, rfl, rfl⟩ ?_ ?_) ?_
 ·
  clear hp hq
  rintro i30 y29 s30 f123 w122 ⟨H119, S120, i121, k124, k125, k126, k127⟩ hx30 o207 hp
  refine FW.seq (FW.seq (FW.region ?_))
  refine FL.v (E.move k124) ?_
  refine FL.v (E.move k125) ?_
  refine FL.v (E.lenP te56 rfl p1) ?_
  refine FL.v (E.lssT rfl rfl (lss_len hx30)) ?_
  refine FL.nil ?_
  refine FW.condT rfl rfl ?_
  refine FW.skip (FW.seq (FW.block (FW.seq ?_)))
  refine FW.draw (fun w' => Run w122.heap.size H119 w122 H119 w') (by kernel_rfl) (by kernel_rfl) (run_drew S120.sl) ?_
  refine FD.val rfl rfl rfl (fun w' hw' => (E.move k125)) ?_
  refine FD.val rfl rfl rfl (fun w' hw' => (E.move k124)) ?_
  obtain ⟨p129, cs130, pt131, l132, at133, rel134⟩ := p1.at (ix_nat hx30)
  obtain rfl := eTreeNode_open rel134
  refine FD.val rfl rfl rfl (fun w' hw' => (E.indexAddr te56 rfl rfl pt131)) ?_
  refine FD.val rfl rfl rfl (fun w' hw' => (E.load rfl (run_loadA Tryz.isAgg98 Tryz.sizeOf98 ((at133.mono (i27.tr i121)).now (S120.call hw').sl) rfl))) ?_
  refine FD.call rfl rfl rfl (fun w' hw' => (E.call Tryz.call115 (A1 rfl))) (fun w' hw' => Calls.cls hw' (w_spec_l9Leaf (S120.call hw').sl y29)) ?_
  refine FD.val rfl rfl rfl (fun w' hw' => (E.move (v := Value.bool (PF.spec_l9Leaf y29)) rfl)) ?_
  obtain ⟨t163, hqt163, hp⟩ := bnd hp
  refine FD.cut 16 (fun f => f 1 = v1 ∧ f 2 = v2 ∧ f 3 = Value.pointer (some ⟨b21, 0, none⟩) ∧ f 7 = Value.int .i64 ((i30 : Nat) : Int) ∧ f 35 = Value.bool t163) ?_ ?_
  ·
   clear hp; have hp := hqt163; clear hqt163
   rcases ifB hp with ⟨c169, hp⟩ | ⟨c169, hp⟩
   ·
    refine FD.val (wF_yes rfl rfl rfl c169) rfl rfl (fun w' hw' => (E.fieldAddr tf30_1 k127)) ?_
    refine FD.val (wF_yes rfl rfl rfl c169) rfl rfl (fun w' hw' => (E.load rfl (run_load1 Tryz.isAgg22 ((at28.mono i121).now (S120.call hw').sl) rfl))) ?_
    refine FD.val (wF_yes rfl rfl rfl c169) rfl rfl (fun w' hw' => (E.move k125)) ?_
    refine FD.val (wF_yes rfl rfl rfl c169) rfl rfl (fun w' hw' => (E.move k124)) ?_
    obtain ⟨p170, cs171, pt172, l173, at174, rel175⟩ := p1.at (ix_nat hx30)
    obtain rfl := eTreeNode_open rel175
    refine FD.val (wF_yes rfl rfl rfl c169) rfl rfl (fun w' hw' => (E.indexAddr te56 rfl rfl pt172)) ?_
    refine FD.val (wF_yes rfl rfl rfl c169) rfl rfl (fun w' hw' => (E.fieldAddr tf98_3 rfl)) ?_
    refine FD.val (wF_yes rfl rfl rfl c169) rfl rfl (fun w' hw' => (E.load rfl (run_load1 Tryz.isAgg3 ((at174.mono (i27.tr i121)).now (S120.call hw').sl) rfl))) ?_
    obtain ⟨x182, hx183, hp⟩ := bnd hp
    obtain ⟨p176, cs177, pt178, l179, at180, rel181⟩ := p0_1.at hx183
    obtain ⟨v184, rfl, h185⟩ := eL_open rel181
    refine FD.val (wF_yes rfl rfl rfl c169) rfl rfl (fun w' hw' => (E.indexAddr te22 rfl rfl pt178)) ?_
    refine FD.val (wF_yes rfl rfl rfl c169) rfl rfl (fun w' hw' => (E.load rfl (run_load0 Tryz.isAgg84 ((at180.mono (i27.tr i121)).now (S120.call hw').sl) rfl))) ?_
    refine FD.val (wF_yes rfl rfl rfl c169) rfl rfl (fun w' hw' => (E.move k126)) ?_
    refine FD.val (wF_yes rfl rfl rfl c169) rfl rfl (fun w' hw' => (E.move k124)) ?_
    obtain ⟨x192, hx193, hp⟩ := bnd hp
    obtain ⟨p186, cs187, pt188, l189, at190, rel191⟩ := p2.at hx193
    obtain ⟨v194, rfl, h195⟩ := eL_open rel191
    refine FD.val (wF_yes rfl rfl rfl c169) rfl rfl (fun w' hw' => (E.indexAddr te22 rfl rfl pt188)) ?_
    refine FD.val (wF_yes rfl rfl rfl c169) rfl rfl (fun w' hw' => (E.load rfl (run_load0 Tryz.isAgg84 ((at190.mono (i27.tr i121)).now (S120.call hw').sl) rfl))) ?_
    obtain ⟨r196, hr197, hp⟩ := bnd hp
    refine FD.call (wF_yes rfl rfl rfl c169) rfl rfl (fun w' hw' => (E.call Tryz.call173 (A2 rfl rfl))) (fun w' hw' => Calls.cls hw' (w_spec_l3Value (S120.call hw').sl v184 x182 (h185.mono (i27.tr i121)) v194 x192 (h195.mono (i27.tr i121)) hr197)) ?_
    refine FD.val (wF_yes rfl rfl rfl c169) rfl rfl (fun w' hw' => (E.geq rfl rfl)) ?_
    obtain rfl := Option.some.inj hp
    refine FD.val rfl rfl rfl (fun w' hw' => (E.pickT rfl c169 rfl)) ?_
    exact FD.nil ⟨k125, k126, k127, k124, rfl⟩
   ·
    refine FD.skip (wF_no rfl rfl rfl c169) rfl ?_
    refine FD.skip (wF_no rfl rfl rfl c169) rfl ?_
    refine FD.skip (wF_no rfl rfl rfl c169) rfl ?_
    refine FD.skip (wF_no rfl rfl rfl c169) rfl ?_
    refine FD.skip (wF_no rfl rfl rfl c169) rfl ?_
    refine FD.skip (wF_no rfl rfl rfl c169) rfl ?_
    refine FD.skip (wF_no rfl rfl rfl c169) rfl ?_
    refine FD.skip (wF_no rfl rfl rfl c169) rfl ?_
    refine FD.skip (wF_no rfl rfl rfl c169) rfl ?_
    refine FD.skip (wF_no rfl rfl rfl c169) rfl ?_
    refine FD.skip (wF_no rfl rfl rfl c169) rfl ?_
    refine FD.skip (wF_no rfl rfl rfl c169) rfl ?_
    refine FD.skip (wF_no rfl rfl rfl c169) rfl ?_
    refine FD.skip (wF_no rfl rfl rfl c169) rfl ?_
    refine FD.skip (wF_no rfl rfl rfl c169) rfl ?_
    obtain rfl := Option.some.inj hp
    refine FD.val rfl rfl rfl (fun w' hw' => (E.pickF rfl c169 rfl)) ?_
    exact FD.nil ⟨k125, k126, k127, k124, rfl⟩
  rintro f168 ⟨k198, k199, k200, k201, k202⟩
  refine FD.nil ?_
  intro w203 r205
  have S204 := S120.call r205
  rcases ifB hp with ⟨c206, hp⟩ | ⟨c206, hp⟩
  ·
   refine FW.condT k202 c206 ?_
   refine FW.seq (FW.region ?_)
   refine FL.v (E.move k201) ?_
   refine FL.v (E.assign (v := Value.int .i64 ((i30 : Nat) : Int)) rfl) ?_
   refine FL.nil ?_
   refine FW.ret ?_
   obtain rfl := Option.some.inj hp
   exact ⟨nofun, rfl, ⟨.inr rfl, res1 rfl rfl ⟨rfl, S204.back⟩⟩⟩
  ·
   refine FW.condF k202 c206 ?_
   refine FW.skip (FW.region ?_)
   refine FL.v (E.move k201) ?_
   refine FL.v (E.add rfl rfl) ?_
   refine FL.v (E.assign (v := Value.int .i64 (wr (((i30 : Nat) : Int) + 1))) rfl) ?_
   refine FL.nil ?_
   obtain rfl := Option.some.inj hp
   exact ⟨rfl, ⟨_, S204, i121, (nat_succ rfl (lt_of_get hx30) (p1.mono (i27.tr i121)).le), k198, k199, k200⟩⟩
 ·
  clear hp hq
  rintro s30 f217 w216 ⟨H213, S214, i215, k218, k219, k220, k221⟩
  refine FW.seq (FW.seq (FW.region ?_))
  refine FL.v (E.move k218) ?_
  refine FL.v (E.move k219) ?_
  refine FL.v (E.lenP te56 rfl p1) ?_
  refine FL.v (E.lss rfl rfl) ?_
  refine FL.nil ?_
  refine FW.condF rfl dlt_len ?_
  refine FW.exit ?_
  exact ⟨nofun, rfl, ⟨_, S214, i215⟩⟩
 ·
  clear hq
  intro e f212 w211 hD
  rcases q30 with s30 | x30
  ·
   obtain ⟨rfl, hD⟩ := hD
   obtain ⟨H208, S209, i210⟩ := hD
   replace hp := el_go hp
   refine FW.seq (FW.region ?_)
   refine FL.v (E.assign (v := Value.int .i64 (-1)) rfl) ?_
   refine FL.nil ?_
   refine FW.ret ?_
   obtain rfl := Option.some.inj hp
   exact ⟨.inr rfl, res1 rfl rfl ⟨rfl, S209.back⟩⟩
  ·
   obtain ⟨he, hL⟩ := hD
   replace hp := el_rt hp
   obtain rfl := Option.some.inj hp
   subst he
   exact hL

@[reducible] def p_spec_l9Search (Ha : GH) (wa : World) (r : ((List (List Int)) × Bool)) : Ending → World → Prop :=
 fun e w' => ∃ H' : GH, ∃ v0 : Value, ∃ n0 : Nat, ∃ c0 : List Value, e = .returned (Value.tuple #[v0, Value.bool r.2]) ∧ St Ha wa H' w' [.row 84 1 v0 n0 c0] ∧ Els (up wa.heap.size H') (eL eI 1) 1 c0 r.1 ∧ (bl c0).Nodup
theorem w_spec_l9Search {Ha : GH} {wa : World} (hs : Sl Ha wa) (a0 : Cnf) (v0_1 : Value) (p0_1 : RSl Ha (eL eI 1) 1 v0_1 a0.clauses) (v1 : Value) (a1 : List TreeNode) (p1 : RSl Ha eTreeNode 4 v1 a1) {r : ((List (List Int)) × Bool)} (hp : (PF.spec_l9Search a0 a1) = some r) :
  Calls Tryz.prog 63 #[Value.agg #[Value.int .i64 a0.vars, v0_1], v1] wa (p_spec_l9Search Ha wa r) := by
 unfold PF.spec_l9Search at hp
 have S0 := St.init hs
 refine calls_go (N := 23) (args := [Value.agg #[Value.int .i64 a0.vars, v0_1], v1]) Tryz.func63 rfl rfl rfl ?_
 refine FW.seq (FW.region ?_)
 obtain ⟨b21, w22, run23, S24⟩ := S0.box (P := Tryz.prog) 30 [Value.int .i64 a0.vars, v0_1] (v := Value.agg #[Value.int .i64 a0.vars, v0_1]) rfl (ones_cons rfl (ones_cons p0_1.one ones_nil))
 refine FL.v (E.box rfl run23) ?_
 obtain ⟨H25, S26, i27, at28⟩ := S24.sealBox (i := 0) (l' := []) rfl rfl
 refine FL.v (E.assign (v := Value.slice none 0 0) rfl) ?_
 refine FL.v (E.assign (v := Value.bool false) rfl) ?_
 refine FL.nil (FW.seq (FW.region ?_))
 refine FL.v (E.load rfl (run_loadA Tryz.isAgg30 Tryz.sizeOf30 (at28.now S26.sl) rfl)) ?_
 refine FL.v (E.move (v := v1) rfl) ?_
 obtain ⟨r29, hr30, hp⟩ := bnd hp
 refine FL.call rfl rfl rfl (E.call Tryz.call113 (A2 rfl rfl)) (w_spec_l9Paths S26.sl a0 v0_1 (p0_1.mono i27) v1 a1 (p1.mono i27) hr30) ?_
 rintro e w32 ⟨H31, v35, n36, cs37, rfl, r34, els38, nd39⟩
 refine ⟨_, rfl, ?_⟩
 have nv40 : New H25 cs37 := New.of_up S26.sl els38.dom
 have els38 := els38.mono (up_le S26.size)
 have S33 := S26.join (l' := [.row 84 1 v35 n36 cs37]) r34 rfl
 refine FL.v (E.move (v := Value.tuple #[v35, Value.bool r29.2]) rfl) ?_
 refine FL.v (E.extract (i := 0) rfl rfl) ?_
 refine FL.v (E.extract (i := 1) rfl rfl) ?_
 refine FL.v (E.assign (v := v35) rfl) ?_
 refine FL.v (E.assign (v := Value.bool r29.2) rfl) ?_
 refine FL.nil (FW.seq (FW.region ?_))
 refine FL.v (E.move (v := v35) rfl) ?_
 refine FL.v (E.move (v := Value.bool r29.2) rfl) ?_
 refine FL.v (E.move (v := Value.bool r29.2) rfl) ?_
 obtain ⟨t52, hqt52, hp⟩ := bnd hp
 refine FL.cut 6 (fun f w => ∃ H : GH, St Ha wa H w [.row 84 1 v35 n36 cs37] ∧ Inc H31 H ∧ f 14 = v35 ∧ f 22 = Value.bool t52) ?_ ?_
 ·
  clear hp; have hp := hqt52; clear hqt52
  rcases ifB hp with ⟨c58, hp⟩ | ⟨c58, hp⟩
  ·
   refine FL.val (wF_yes rfl rfl rfl c58) rfl rfl (E.load rfl (run_loadA Tryz.isAgg30 Tryz.sizeOf30 ((at28.mono r34.run.inc).now S33.sl) rfl)) ?_
   refine FL.val (wF_yes rfl rfl rfl c58) rfl rfl (E.move (v := v1) rfl) ?_
   refine FL.val (wF_yes rfl rfl rfl c58) rfl rfl (E.move (v := v35) rfl) ?_
   obtain ⟨H59, S60, i61, ns64, nv63⟩ := S33.sealRowN (i := 0) (l' := []) rfl els38 nd39 (by decide) rfl
   have h62 := ns64.rsl
   obtain ⟨r65, hr66, hp⟩ := bnd hp
   refine FL.call (wF_yes rfl rfl rfl c58) rfl rfl (E.call Tryz.call114 (A3 rfl rfl rfl)) (w_spec_l9Bad S60.sl a0 v0_1 (p0_1.mono ((i27.tr r34.run.inc).tr i61)) v1 a1 (p1.mono ((i27.tr r34.run.inc).tr i61)) v35 r29.1 (h62.mono upI) hr66) ?_
   rintro e w67 ⟨rfl, r68⟩
   refine ⟨_, rfl, ?_⟩
   have r68 := Run.lend i61 S33.sl r68
   have S69 := S33.call r68
   refine FL.val (wF_yes rfl rfl rfl c58) rfl rfl (E.lss rfl rfl) ?_
   obtain rfl := Option.some.inj hp
   refine FL.v (E.pickT rfl c58 rfl) ?_
   exact FL.nil ⟨rfl, _, S69, (Inc.rfl _), rfl, rfl⟩
  ·
   refine FL.skip (wF_no rfl rfl rfl c58) rfl ?_
   refine FL.skip (wF_no rfl rfl rfl c58) rfl ?_
   refine FL.skip (wF_no rfl rfl rfl c58) rfl ?_
   refine FL.skip (wF_no rfl rfl rfl c58) rfl ?_
   refine FL.skip (wF_no rfl rfl rfl c58) rfl ?_
   obtain rfl := Option.some.inj hp
   refine FL.v (E.pickF rfl c58 rfl) ?_
   exact FL.nil ⟨rfl, _, S33, (Inc.rfl _), rfl, rfl⟩
 rintro f57 w56 ⟨H53, S54, i55, k70, k71⟩
 refine FL.v (E.assign k70) ?_
 refine FL.v (E.assign k71) ?_
 refine FL.nil ?_
 refine FW.ret ?_
 obtain rfl := Option.some.inj hp
 exact ⟨.inr rfl, res2 rfl rfl rfl ⟨_, _, _, _, rfl, S54, (els38.mono (up_mono i55)), nd39⟩⟩

@[reducible] def p_spec_l2Without (Ha : GH) (wa : World) (r : (List Int)) : Ending → World → Prop :=
  fun e w' => ∃ H' : GH, ∃ v0 : Value, ∃ n0 : Nat, ∃ c0 : List Value, e = .returned (v0) ∧ St Ha wa H' w' [.row 3 1 v0 n0 c0] ∧ Els (up wa.heap.size H') eI 1 c0 r
theorem w_spec_l2Without {Ha : GH} {wa : World} (hs : Sl Ha wa) (v0 : Value) (a0 : List Int) (p0 : RSl Ha eI 1 v0 a0) (a1 : Int) {r : (List Int)} (hp : (PF.spec_l2Without a0 a1) = some r) :
    Calls Tryz.prog 176 #[v0, Value.int .i64 a1] wa (p_spec_l2Without Ha wa r) := by
  unfold PF.spec_l2Without at hp
  have S0 := St.init hs
  refine calls_go (N := 29) (args := [v0, Value.int .i64 a1]) Tryz.func176 rfl rfl rfl ?_
  refine FW.seq (FW.region ?_)
  refine FL.v (E.assign (v := Value.slice none 0 0) rfl) ?_
  refine FL.nil (FW.seq (FW.region ?_))
  obtain ⟨v21, w22, run23, S24⟩ := S0.buildSlice (P := Tryz.prog) te84 [] (parts := #[]) (cells := []) rfl szs_nil fc_nil ones_nil (Nat.le_of_ble_eq_true rfl)
  have els25 : Els (up wa.heap.size Ha) eI 1 [] [] := Els.nil
  refine FL.v (E.buildSlice (B0) run23) ?_
  refine FL.v (E.assign (v := v21) rfl) ?_
  refine FL.nil (FW.seq (FW.seq (FW.region ?_)))
  refine FL.v (E.assign (v := Value.int .i64 0) rfl) ?_
  refine FL.nil ?_
  obtain ⟨q27, hq, hp⟩ := bndR hp
  refine FW.block ?_
  refine FW.mono (FW.forL (S := (List Int)) (X := Empty) (fun (i27 : Nat) (s27 : (List Int)) f w => ∃ H : GH, ∃ v28 : Value, ∃ n29 : Nat, ∃ cs30 : List Value, St Ha wa H w [.row 3 1 v28 n29 cs30] ∧ Inc Ha H ∧ Els (up wa.heap.size H) eI 1 cs30 s27 ∧ f 6 = Value.int .i64 ((i27 : Nat) : Int) ∧ f 0 = v0 ∧ f 1 = Value.int .i64 a1 ∧ f 5 = v28) (fun (q : Rs (List Int) Empty) e f w => match q with | .go s27 => e = Exit.exit 0 ∧ (∃ H : GH, ∃ v28 : Value, ∃ n29 : Nat, ∃ cs30 : List Value, St Ha wa H w [.row 3 1 v28 n29 cs30] ∧ Inc Ha H ∧ Els (up wa.heap.size H) eI 1 cs30 s27 ∧ f 5 = v28) | .rt x => x.elim) hq ⟨_, _, _, _, S24, (Inc.rfl _), els25, rfl, rfl, rfl, rfl⟩ ?_ ?_) ?_
  ·
    clear hp hq
    rintro i27 y26 s27 f77 w76 ⟨H73, v28, n29, cs30, S74, i75, els31, k78, k79, k80, k81⟩ hx27 o114 hp
    refine FW.seq (FW.seq (FW.region ?_))
    refine FL.v (E.move k78) ?_
    refine FL.v (E.move k79) ?_
    refine FL.v (E.lenP te84 rfl p0) ?_
    refine FL.v (E.lssT rfl rfl (lss_len hx27)) ?_
    refine FL.nil ?_
    refine FW.condT rfl rfl ?_
    refine FW.skip (FW.seq (FW.block (FW.seq (FW.region ?_))))
    refine FL.v (E.move k79) ?_
    refine FL.v (E.move k78) ?_
    obtain ⟨p82, cs83, pt84, l85, at86, rel87⟩ := p0.at (ix_nat hx27)
    obtain rfl := eI_open rel87
    refine FL.v (E.indexAddr te84 rfl rfl pt84) ?_
    refine FL.v (E.load rfl (run_load0 Tryz.isAgg3 ((at86.mono i75).now S74.sl) rfl)) ?_
    refine FL.call rfl rfl rfl (E.call Tryz.call138 (A1 rfl)) (w_spec_l2Var S74.sl y26) ?_
    rintro e w88 ⟨rfl, r89⟩
    refine ⟨_, rfl, ?_⟩
    have S90 := S74.call r89
    refine FL.v (E.move k80) ?_
    refine FL.v (E.neq rfl rfl) ?_
    refine FL.nil ?_
    rcases ifB hp with ⟨c91, hp⟩ | ⟨c91, hp⟩
    ·
      refine FW.condT rfl c91 ?_
      refine FW.region ?_
      refine FL.v (E.move k81) ?_
      refine FL.v (E.move k79) ?_
      refine FL.v (E.move k78) ?_
      obtain ⟨p92, cs93, pt94, l95, at96, rel97⟩ := p0.at (ix_nat hx27)
      obtain rfl := eI_open rel97
      refine FL.v (E.indexAddr te84 rfl rfl pt94) ?_
      refine FL.v (E.load rfl (run_load0 Tryz.isAgg3 ((at96.mono i75).now S90.sl) rfl)) ?_
      obtain ⟨v98, w99, run100, S101⟩ := S90.buildSlice (P := Tryz.prog) te84 [Value.int .i64 y26] (parts := #[(0, Value.int .i64 y26)]) (cells := [Value.int .i64 y26]) rfl (szs_cons rfl szs_nil) (fc_cons rfl fc_nil) (ones_cons rfl ones_nil) (Nat.le_of_ble_eq_true rfl)
      have els102 : Els (up wa.heap.size H73) eI 1 [Value.int .i64 y26] [y26] := (Els.snoc (H := (up wa.heap.size H73)) (E := eI) (k := 1) (c := [Value.int .i64 y26]) (x := y26) Els.nil rfl rfl)
      refine FL.v (E.buildSlice (B1 rfl) run100) ?_
      obtain ⟨xs103, hz104, hp⟩ := bnd hp
      obtain ⟨v105, w108, n106, cs107, run109, S110, els111, ce112⟩ := S101.appendO (P := Tryz.prog) te84 (i := 1) (j := 0) rfl els31 rfl els102 hz104
      have S110 : St Ha wa H73 w108 [.row 3 1 v98 1 [Value.int .i64 y26], .row 3 1 v105 n106 cs107] := S110
      have S113 : St Ha wa H73 w108 [.row 3 1 v105 n106 cs107] := S110.drop 0
      refine FL.v (E.append rfl rfl run109) ?_
      refine FL.v (E.assign (v := v105) rfl) ?_
      refine FL.nil (FW.region ?_)
      refine FL.v (E.move k78) ?_
      refine FL.v (E.add rfl rfl) ?_
      refine FL.v (E.assign (v := Value.int .i64 (wr (((i27 : Nat) : Int) + 1))) rfl) ?_
      refine FL.nil ?_
      obtain rfl := Option.some.inj hp
      exact ⟨rfl, ⟨_, _, _, _, S113, i75, els111, (nat_succ rfl (lt_of_get hx27) (p0.mono i75).le), k79, k80, rfl⟩⟩
    ·
      refine FW.condF rfl c91 ?_
      refine FW.skip (FW.region ?_)
      refine FL.v (E.move k78) ?_
      refine FL.v (E.add rfl rfl) ?_
      refine FL.v (E.assign (v := Value.int .i64 (wr (((i27 : Nat) : Int) + 1))) rfl) ?_
      refine FL.nil ?_
      obtain rfl := Option.some.inj hp
      exact ⟨rfl, ⟨_, _, _, _, S90, i75, els31, (nat_succ rfl (lt_of_get hx27) (p0.mono i75).le), k79, k80, k81⟩⟩
  ·
    clear hp hq
    rintro s27 f125 w124 ⟨H121, v28, n29, cs30, S122, i123, els31, k126, k127, k128, k129⟩
    refine FW.seq (FW.seq (FW.region ?_))
    refine FL.v (E.move k126) ?_
    refine FL.v (E.move k127) ?_
    refine FL.v (E.lenP te84 rfl p0) ?_
    refine FL.v (E.lss rfl rfl) ?_
    refine FL.nil ?_
    refine FW.condF rfl dlt_len ?_
    refine FW.exit ?_
    exact ⟨nofun, rfl, ⟨_, _, _, _, S122, i123, els31, k129⟩⟩
  ·
    clear hq
    intro e f119 w118 hD
    rcases q27 with s27 | x27
    ·
      obtain ⟨rfl, hD⟩ := hD
      obtain ⟨H115, v28, n29, cs30, S116, i117, els31, k120⟩ := hD
      replace hp := el_go hp
      refine FW.seq (FW.region ?_)
      refine FL.v (E.move k120) ?_
      refine FL.v (E.assign (v := v28) rfl) ?_
      refine FL.nil ?_
      refine FW.ret ?_
      obtain rfl := Option.some.inj hp
      exact ⟨.inr rfl, res1 rfl rfl ⟨_, _, _, _, rfl, S116, els31⟩⟩
    · exact x27.elim

@[reducible] def p_spec_l2Join (Ha : GH) (wa : World) (r : ((List Int) × Bool)) : Ending → World → Prop :=
 fun e w' => ∃ H' : GH, ∃ v0 : Value, ∃ n0 : Nat, ∃ c0 : List Value, e = .returned (Value.tuple #[v0, Value.bool r.2]) ∧ St Ha wa H' w' [.row 3 1 v0 n0 c0] ∧ Els (up wa.heap.size H') eI 1 c0 r.1
theorem w_spec_l2Join {Ha : GH} {wa : World} (hs : Sl Ha wa) (v0 : Value) (a0 : List Int) (p0 : RSl Ha eI 1 v0 a0) (v1 : Value) (a1 : List Int) (p1 : RSl Ha eI 1 v1 a1) {r : ((List Int) × Bool)} (hp : (PF.spec_l2Join a0 a1) = some r) :
  Calls Tryz.prog 175 #[v0, v1] wa (p_spec_l2Join Ha wa r) := by
 unfold PF.spec_l2Join at hp
 have S0 := St.init hs
 refine calls_go (N := 38) (args := [v0, v1]) Tryz.func175 rfl rfl rfl ?_
 refine FW.seq (FW.region ?_)
 refine FL.v (E.assign (v := Value.slice none 0 0) rfl) ?_
 refine FL.v (E.assign (v := Value.bool false) rfl) ?_
 refine FL.nil (FW.seq (FW.region ?_))
 refine FL.v (E.move (v := v0) rfl) ?_
 obtain ⟨r21, hr22, hp⟩ := bnd hp
 refine FL.call rfl rfl rfl (E.call Tryz.call60 (A1 rfl)) (w_spec_l1Own S0.sl v0 a0 p0 hr22) ?_
 rintro e w24 ⟨H23, v27, n28, cs29, rfl, r26, els30⟩
 refine ⟨_, rfl, ?_⟩
 have els30 := els30.mono (up_le S0.size)
 have S25 := S0.join (l' := [.row 3 1 v27 n28 cs29]) r26 rfl
 refine FL.v (E.assign (v := v27) rfl) ?_
 refine FL.nil (FW.seq (FW.seq (FW.region ?_)))
 refine FL.v (E.assign (v := Value.int .i64 0) rfl) ?_
 refine FL.nil ?_
 obtain ⟨q32, hq, hp⟩ := bndR hp
 refine FW.block ?_
 refine FW.mono (FW.forL (S := (List Int)) (X := ((List Int) × Bool)) (fun (i32 : Nat) (s32 : (List Int)) f w => ∃ H : GH, ∃ v107 : Value, ∃ n108 : Nat, ∃ cs109 : List Value, St Ha wa H w [.row 3 1 v107 n108 cs109] ∧ Inc H23 H ∧ Els (up wa.heap.size H) eI 1 cs109 s32 ∧ f 7 = Value.int .i64 ((i32 : Nat) : Int) ∧ f 1 = v1 ∧ f 6 = v107) (fun q e f w => match q with | .go s32 => e = Exit.exit 0 ∧ (∃ H : GH, ∃ v107 : Value, ∃ n108 : Nat, ∃ cs109 : List Value, St Ha wa H w [.row 3 1 v107 n108 cs109] ∧ Inc H23 H ∧ Els (up wa.heap.size H) eI 1 cs109 s32 ∧ f 6 = v107) | .rt x => ((e = Exit.ret) ∧ (fun e f w => (e = Exit.normal ∨ e = Exit.ret) ∧ ∀ a, Fr (δ := []) 38 a f → ∃ v, (results Tryz.f175 a.tmps).run Tryz.prog w = .ok v w ∧ (p_spec_l2Join Ha wa x) (.returned v) w) e f w)) hq ⟨_, _, _, _, S25, (Inc.rfl _), els30, rfl, rfl, rfl⟩ ?_ ?_) ?_
 ·
  clear hp hq
  rintro i32 y31 s32 f185 w184 ⟨H181, v107, n108, cs109, S182, i183, els110, k186, k187, k188⟩ hx32 o251 hp
  refine FW.seq (FW.seq (FW.region ?_))
  refine FL.v (E.move k186) ?_
  refine FL.v (E.move k187) ?_
  refine FL.v (E.lenP te84 rfl p1) ?_
  refine FL.v (E.lssT rfl rfl (lss_len hx32)) ?_
  refine FL.nil ?_
  refine FW.condT rfl rfl ?_
  refine FW.skip (FW.seq (FW.block (FW.seq (FW.seq (FW.region ?_)))))
  refine FL.v (E.move k188) ?_
  refine FL.v (E.move k187) ?_
  refine FL.v (E.move k186) ?_
  obtain ⟨p189, cs190, pt191, l192, at193, rel194⟩ := p1.at (ix_nat hx32)
  obtain rfl := eI_open rel194
  refine FL.v (E.indexAddr te84 rfl rfl pt191) ?_
  refine FL.v (E.load rfl (run_load0 Tryz.isAgg3 ((at193.mono (r26.run.inc.tr i183)).now S182.sl) rfl)) ?_
  refine FL.v (E.neg rfl) ?_
  obtain ⟨H195, S196, i197, h198, nv199⟩ := S182.sealRowU (i := 0) (l' := []) rfl els110 (by decide) rfl
  obtain ⟨r200, hr201, hp⟩ := bnd hp
  refine FL.call rfl rfl rfl (E.call Tryz.call116 (A2 rfl rfl)) (w_spec_l2Has S196.sl v107 s32 (h198.mono upI) (wr (-y31)) hr201) ?_
  rintro e w202 ⟨rfl, r203⟩
  refine ⟨_, rfl, ?_⟩
  have r203 := Run.lend i197 S182.sl r203
  have S204 := S182.call r203
  refine FL.nil ?_
  rcases ifB hp with ⟨c205, hp⟩ | ⟨c205, hp⟩
  ·
   refine FW.condT rfl c205 ?_
   refine FW.seq (FW.region ?_)
   obtain ⟨v206, w207, run208, S209⟩ := S204.buildSlice (P := Tryz.prog) te84 [] (parts := #[]) (cells := []) rfl szs_nil fc_nil ones_nil (Nat.le_of_ble_eq_true rfl)
   have els210 : Els (up wa.heap.size H181) eI 1 [] [] := Els.nil
   refine FL.v (E.buildSlice (B0) run208) ?_
   refine FL.v (E.assign (v := v206) rfl) ?_
   refine FL.v (E.assign (v := Value.bool false) rfl) ?_
   refine FL.nil ?_
   refine FW.ret ?_
   obtain rfl := Option.some.inj hp
   exact ⟨nofun, rfl, ⟨.inr rfl, res2 rfl rfl rfl ⟨_, _, _, _, rfl, (S209.sel [0] (by decide) rfl), els210⟩⟩⟩
  ·
   refine FW.condF rfl c205 ?_
   refine FW.skip (FW.seq (FW.region ?_))
   refine FL.v (E.move k188) ?_
   refine FL.v (E.move k187) ?_
   refine FL.v (E.move k186) ?_
   obtain ⟨p211, cs212, pt213, l214, at215, rel216⟩ := p1.at (ix_nat hx32)
   obtain rfl := eI_open rel216
   refine FL.v (E.indexAddr te84 rfl rfl pt213) ?_
   refine FL.v (E.load rfl (run_load0 Tryz.isAgg3 ((at215.mono (r26.run.inc.tr i183)).now S204.sl) rfl)) ?_
   obtain ⟨H217, S218, i219, h220, nv221⟩ := S204.sealRowU (i := 0) (l' := []) rfl els110 (by decide) rfl
   obtain ⟨r222, hr223, hp⟩ := bnd hp
   refine FL.call rfl rfl rfl (E.call Tryz.call116 (A2 rfl rfl)) (w_spec_l2Has S218.sl v107 s32 (h220.mono upI) y31 hr223) ?_
   rintro e w224 ⟨rfl, r225⟩
   refine ⟨_, rfl, ?_⟩
   have r225 := Run.lend i219 S204.sl r225
   have S226 := S204.call r225
   refine FL.v (E.not rfl) ?_
   refine FL.nil ?_
   rcases ifB hp with ⟨c227, hp⟩ | ⟨c227, hp⟩
   ·
    refine FW.condT rfl c227 ?_
    refine FW.region ?_
    refine FL.v (E.move k188) ?_
    refine FL.v (E.move k187) ?_
    refine FL.v (E.move k186) ?_
    obtain ⟨p228, cs229, pt230, l231, at232, rel233⟩ := p1.at (ix_nat hx32)
    obtain rfl := eI_open rel233
    refine FL.v (E.indexAddr te84 rfl rfl pt230) ?_
    refine FL.v (E.load rfl (run_load0 Tryz.isAgg3 ((at232.mono (r26.run.inc.tr i183)).now S226.sl) rfl)) ?_
    obtain ⟨H234, S235, i236, h237, nv238⟩ := S226.sealRowU (i := 0) (l' := []) rfl els110 (by decide) rfl
    obtain ⟨r239, hr240, hp⟩ := bnd hp
    refine FL.call rfl rfl rfl (E.call Tryz.call124 (A2 rfl rfl)) (w_spec_l2Put S235.sl v107 s32 (h237.mono upI) y31 hr240) ?_
    rintro e w242 ⟨H241, v247, n248, cs249, rfl, r244, els250⟩
    refine ⟨_, rfl, ?_⟩
    obtain ⟨H245, r244, hU246⟩ := St.lendX i236 S226.sl r244
    have els250 := els250.mono (hU246.tr (up_le S226.size))
    have S243 := S226.join (l' := [.row 3 1 v247 n248 cs249, .row 3 1 v107 n108 cs109]) r244 rfl
    refine FL.v (E.assign (v := v247) rfl) ?_
    refine FL.nil (FW.region ?_)
    refine FL.v (E.move k186) ?_
    refine FL.v (E.add rfl rfl) ?_
    refine FL.v (E.assign (v := Value.int .i64 (wr (((i32 : Nat) : Int) + 1))) rfl) ?_
    refine FL.nil ?_
    obtain rfl := Option.some.inj hp
    exact ⟨rfl, ⟨_, _, _, _, (S243.sel [0] (by decide) rfl), (i183.tr r244.run.inc), els250, (nat_succ rfl (lt_of_get hx32) (p1.mono ((r26.run.inc.tr i183).tr r244.run.inc)).le), k187, rfl⟩⟩
   ·
    refine FW.condF rfl c227 ?_
    refine FW.skip (FW.region ?_)
    refine FL.v (E.move k186) ?_
    refine FL.v (E.add rfl rfl) ?_
    refine FL.v (E.assign (v := Value.int .i64 (wr (((i32 : Nat) : Int) + 1))) rfl) ?_
    refine FL.nil ?_
    obtain rfl := Option.some.inj hp
    exact ⟨rfl, ⟨_, _, _, _, S226, i183, els110, (nat_succ rfl (lt_of_get hx32) (p1.mono (r26.run.inc.tr i183)).le), k187, k188⟩⟩
 ·
  clear hp hq
  rintro s32 f262 w261 ⟨H258, v107, n108, cs109, S259, i260, els110, k263, k264, k265⟩
  refine FW.seq (FW.seq (FW.region ?_))
  refine FL.v (E.move k263) ?_
  refine FL.v (E.move k264) ?_
  refine FL.v (E.lenP te84 rfl p1) ?_
  refine FL.v (E.lss rfl rfl) ?_
  refine FL.nil ?_
  refine FW.condF rfl dlt_len ?_
  refine FW.exit ?_
  exact ⟨nofun, rfl, ⟨_, _, _, _, S259, i260, els110, k265⟩⟩
 ·
  clear hq
  intro e f256 w255 hD
  rcases q32 with s32 | x32
  ·
   obtain ⟨rfl, hD⟩ := hD
   obtain ⟨H252, v107, n108, cs109, S253, i254, els110, k257⟩ := hD
   replace hp := el_go hp
   refine FW.seq (FW.region ?_)
   refine FL.v (E.move k257) ?_
   refine FL.v (E.assign (v := v107) rfl) ?_
   refine FL.v (E.assign (v := Value.bool true) rfl) ?_
   refine FL.nil ?_
   refine FW.ret ?_
   obtain rfl := Option.some.inj hp
   exact ⟨.inr rfl, res2 rfl rfl rfl ⟨_, _, _, _, rfl, S253, els110⟩⟩
  ·
   obtain ⟨he, hL⟩ := hD
   replace hp := el_rt hp
   obtain rfl := Option.some.inj hp
   subst he
   exact hL

@[reducible] def p_spec_l2Resolve (Ha : GH) (wa : World) (r : ((List Int) × Bool)) : Ending → World → Prop :=
 fun e w' => ∃ H' : GH, ∃ v0 : Value, ∃ n0 : Nat, ∃ c0 : List Value, e = .returned (Value.tuple #[v0, Value.bool r.2]) ∧ St Ha wa H' w' [.row 3 1 v0 n0 c0] ∧ Els (up wa.heap.size H') eI 1 c0 r.1
theorem w_spec_l2Resolve {Ha : GH} {wa : World} (hs : Sl Ha wa) (v0 : Value) (a0 : List Int) (p0 : RSl Ha eI 1 v0 a0) (v1 : Value) (a1 : List Int) (p1 : RSl Ha eI 1 v1 a1) (a2 : Int) {r : ((List Int) × Bool)} (hp : (PF.spec_l2Resolve a0 a1 a2) = some r) :
  Calls Tryz.prog 117 #[v0, v1, Value.int .i64 a2] wa (p_spec_l2Resolve Ha wa r) := by
 unfold PF.spec_l2Resolve at hp
 have S0 := St.init hs
 refine calls_go (N := 29) (args := [v0, v1, Value.int .i64 a2]) Tryz.func117 rfl rfl rfl ?_
 refine FW.seq (FW.region ?_)
 refine FL.v (E.assign (v := Value.slice none 0 0) rfl) ?_
 refine FL.v (E.assign (v := Value.bool false) rfl) ?_
 refine FL.nil (FW.seq (FW.seq (FW.region ?_)))
 refine FL.v (E.move (v := v0) rfl) ?_
 refine FL.v (E.move (v := Value.int .i64 a2) rfl) ?_
 obtain ⟨r21, hr22, hp⟩ := bnd hp
 refine FL.call rfl rfl rfl (E.call Tryz.call116 (A2 rfl rfl)) (w_spec_l2Has S0.sl v0 a0 p0 a2 hr22) ?_
 rintro e w23 ⟨rfl, r24⟩
 refine ⟨_, rfl, ?_⟩
 have S25 := S0.call r24
 refine FL.v (E.not rfl) ?_
 refine FL.v (E.move (v := Value.bool (!r21)) rfl) ?_
 obtain ⟨t31, hqt31, hp⟩ := bnd hp
 refine FL.cut 6 (fun f w => ∃ H : GH, St Ha wa H w [] ∧ Inc Ha H ∧ f 0 = v0 ∧ f 1 = v1 ∧ f 2 = Value.int .i64 a2 ∧ f 18 = Value.bool t31) ?_ ?_
 ·
  clear hp; have hp := hqt31; clear hqt31
  rcases ifB hp with ⟨c37, hp⟩ | ⟨c37, hp⟩
  ·
   refine FL.skip (wF_no rfl rfl rfl c37) rfl ?_
   refine FL.skip (wF_no rfl rfl rfl c37) rfl ?_
   refine FL.skip (wF_no rfl rfl rfl c37) rfl ?_
   refine FL.skip (wF_no rfl rfl rfl c37) rfl ?_
   refine FL.skip (wF_no rfl rfl rfl c37) rfl ?_
   obtain rfl := Option.some.inj hp
   refine FL.v (E.pickT rfl c37 rfl) ?_
   exact FL.nil ⟨rfl, _, S25, (Inc.rfl _), rfl, rfl, rfl, rfl⟩
  ·
   refine FL.val (wF_yes rfl rfl rfl c37) rfl rfl (E.move (v := v1) rfl) ?_
   refine FL.val (wF_yes rfl rfl rfl c37) rfl rfl (E.move (v := Value.int .i64 a2) rfl) ?_
   refine FL.val (wF_yes rfl rfl rfl c37) rfl rfl (E.neg rfl) ?_
   obtain ⟨r38, hr39, hp⟩ := bnd hp
   refine FL.call (wF_yes rfl rfl rfl c37) rfl rfl (E.call Tryz.call116 (A2 rfl rfl)) (w_spec_l2Has S25.sl v1 a1 p1 (wr (-a2)) hr39) ?_
   rintro e w40 ⟨rfl, r41⟩
   refine ⟨_, rfl, ?_⟩
   have S42 := S25.call r41
   refine FL.val (wF_yes rfl rfl rfl c37) rfl rfl (E.not rfl) ?_
   obtain rfl := Option.some.inj hp
   refine FL.v (E.pickF rfl c37 rfl) ?_
   exact FL.nil ⟨rfl, _, S42, (Inc.rfl _), rfl, rfl, rfl, rfl⟩
 rintro f36 w35 ⟨H32, S33, i34, k43, k44, k45, k46⟩
 refine FL.nil ?_
 rcases ifB hp with ⟨c47, hp⟩ | ⟨c47, hp⟩
 ·
  refine FW.condT k46 c47 ?_
  refine FW.seq (FW.region ?_)
  obtain ⟨v48, w49, run50, S51⟩ := S33.buildSlice (P := Tryz.prog) te84 [] (parts := #[]) (cells := []) rfl szs_nil fc_nil ones_nil (Nat.le_of_ble_eq_true rfl)
  have els52 : Els (up wa.heap.size H32) eI 1 [] [] := Els.nil
  refine FL.v (E.buildSlice (B0) run50) ?_
  refine FL.v (E.assign (v := v48) rfl) ?_
  refine FL.v (E.assign (v := Value.bool false) rfl) ?_
  refine FL.nil ?_
  refine FW.ret ?_
  obtain rfl := Option.some.inj hp
  exact ⟨.inr rfl, res2 rfl rfl rfl ⟨_, _, _, _, rfl, S51, els52⟩⟩
 ·
  refine FW.condF k46 c47 ?_
  refine FW.skip (FW.seq (FW.region ?_))
  refine FL.v (E.move k43) ?_
  refine FL.v (E.move k45) ?_
  obtain ⟨r53, hr54, hp⟩ := bnd hp
  refine FL.call rfl rfl rfl (E.call Tryz.call176 (A2 rfl rfl)) (w_spec_l2Without S33.sl v0 a0 (p0.mono i34) a2 hr54) ?_
  rintro e w56 ⟨H55, v59, n60, cs61, rfl, r58, els62⟩
  refine ⟨_, rfl, ?_⟩
  have els62 := els62.mono (up_le S33.size)
  have S57 := S33.join (l' := [.row 3 1 v59 n60 cs61]) r58 rfl
  refine FL.v (E.move k44) ?_
  refine FL.v (E.move k45) ?_
  obtain ⟨r63, hr64, hp⟩ := bnd hp
  refine FL.call rfl rfl rfl (E.call Tryz.call176 (A2 rfl rfl)) (w_spec_l2Without S57.sl v1 a1 (p1.mono (i34.tr r58.run.inc)) a2 hr64) ?_
  rintro e w66 ⟨H65, v69, n70, cs71, rfl, r68, els72⟩
  refine ⟨_, rfl, ?_⟩
  have els72 := els72.mono (up_le S57.size)
  have S67 := S57.join (l' := [.row 3 1 v69 n70 cs71, .row 3 1 v59 n60 cs61]) r68 rfl
  obtain ⟨H73, S74, i75, h76, nv77⟩ := S67.sealRowU (i := 1) (l' := [.row 3 1 v69 n70 cs71]) rfl (els62.mono (up_mono r68.run.inc)) (by decide) rfl
  obtain ⟨H78, S79, i80, h81, nv82⟩ := S74.sealRowU (i := 0) (l' := []) rfl (els72.mono (up_mono i75)) (by decide) rfl
  obtain ⟨r83, hr84, hp⟩ := bnd hp
  refine FL.call rfl rfl rfl (E.call Tryz.call175 (A2 rfl rfl)) (w_spec_l2Join S79.sl v59 r53 (h76.mono (upI.tr i80)) v69 r63 (h81.mono upI) hr84) ?_
  rintro e w86 ⟨H85, v91, n92, cs93, rfl, r88, els94⟩
  refine ⟨_, rfl, ?_⟩
  obtain ⟨H89, r88, hU90⟩ := St.lendX (i75.tr i80) S67.sl r88
  have els94 := els94.mono (hU90.tr (up_le S67.size))
  have S87 := S67.join (l' := [.row 3 1 v91 n92 cs93, .row 3 1 v69 n70 cs71, .row 3 1 v59 n60 cs61]) r88 rfl
  refine FL.v (E.extract (i := 0) rfl rfl) ?_
  refine FL.v (E.extract (i := 1) rfl rfl) ?_
  refine FL.v (E.assign (v := v91) rfl) ?_
  refine FL.v (E.assign (v := Value.bool r83.2) rfl) ?_
  refine FL.nil ?_
  refine FW.ret ?_
  obtain rfl := Option.some.inj hp
  exact ⟨.inr rfl, res2 rfl rfl rfl ⟨_, _, _, _, rfl, (S87.sel [0] (by decide) rfl), els94⟩⟩

@[reducible] def p_spec_l9Steps (Ha : GH) (wa : World) (r : ((List ResStep) × (List Int))) : Ending → World → Prop :=
  fun e w' => ∃ H' : GH, ∃ v0 : Value, ∃ n0 : Nat, ∃ c0 : List Value, ∃ v1 : Value, ∃ n1 : Nat, ∃ c1 : List Value, e = .returned (Value.tuple #[v0, v1]) ∧ St Ha wa H' w' [.row 94 4 v0 n0 c0, .row 3 1 v1 n1 c1] ∧ Els (up wa.heap.size H') eResStep 4 c0 r.1 ∧ (bl c0).Nodup ∧ Els (up wa.heap.size H') eI 1 c1 r.2
set_option maxHeartbeats 4000000 in
theorem w_spec_l9Steps {Ha : GH} {wa : World} (hs : Sl Ha wa) (a0 : Cnf) (v0_1 : Value) (p0_1 : RSl Ha (eL eI 1) 1 v0_1 a0.clauses) (v1 : Value) (a1 : List TreeNode) (p1 : RSl Ha eTreeNode 4 v1 a1) {r : ((List ResStep) × (List Int))} (hp : (PF.spec_l9Steps a0 a1) = some r) :
    Calls Tryz.prog 64 #[Value.agg #[Value.int .i64 a0.vars, v0_1], v1] wa (p_spec_l9Steps Ha wa r) := by
  unfold PF.spec_l9Steps at hp
  have S0 := St.init hs
  refine calls_go (N := 126) (args := [Value.agg #[Value.int .i64 a0.vars, v0_1], v1]) Tryz.func64 rfl rfl rfl ?_
  refine FW.seq (FW.region ?_)
  obtain ⟨b21, w22, run23, S24⟩ := S0.box (P := Tryz.prog) 30 [Value.int .i64 a0.vars, v0_1] (v := Value.agg #[Value.int .i64 a0.vars, v0_1]) rfl (ones_cons rfl (ones_cons p0_1.one ones_nil))
  refine FL.v (E.box rfl run23) ?_
  obtain ⟨H25, S26, i27, at28⟩ := S24.sealBox (i := 0) (l' := []) rfl rfl
  refine FL.v (E.assign (v := Value.slice none 0 0) rfl) ?_
  refine FL.v (E.assign (v := Value.slice none 0 0) rfl) ?_
  refine FL.nil (FW.seq (FW.region ?_))
  obtain ⟨v29, w30, run31, S32⟩ := S26.buildSlice (P := Tryz.prog) te46 [] (parts := #[]) (cells := []) rfl szs_nil fc_nil ones_nil (Nat.le_of_ble_eq_true rfl)
  have els33 : Els (up wa.heap.size H25) eResStep 4 [] [] := Els.nil
  refine FL.v (E.buildSlice (B0) run31) ?_
  obtain ⟨v34, w35, run36, S37⟩ := S32.buildSlice (P := Tryz.prog) te84 [] (parts := #[]) (cells := []) rfl szs_nil fc_nil ones_nil (Nat.le_of_ble_eq_true rfl)
  have els38 : Els (up wa.heap.size H25) eI 1 [] [] := Els.nil
  refine FL.v (E.buildSlice (B0) run36) ?_
  refine FL.v (E.assign (v := v29) rfl) ?_
  refine FL.v (E.assign (v := v34) rfl) ?_
  refine FL.nil (FW.seq (FW.seq (FW.region ?_)))
  refine FL.v (E.assign (v := Value.int .i64 0) rfl) ?_
  refine FL.nil ?_
  obtain ⟨q40, hq, hp⟩ := bndR hp
  refine FW.block ?_
  refine FW.mono (FW.forL (S := ((List Int) × (List ResStep))) (X := Empty) (fun (i40 : Nat) (s40 : ((List Int) × (List ResStep))) f w => ∃ H : GH, ∃ v41 : Value, ∃ n42 : Nat, ∃ cs43 : List Value, ∃ v45 : Value, ∃ n46 : Nat, ∃ cs47 : List Value, St Ha wa H w [.row 3 1 v41 n42 cs43, .row 94 4 v45 n46 cs47] ∧ Inc H25 H ∧ Els (up wa.heap.size H) eI 1 cs43 s40.1 ∧ Els (up wa.heap.size H) eResStep 4 cs47 s40.2 ∧ (bl cs47).Nodup ∧ f 8 = Value.int .i64 ((i40 : Nat) : Int) ∧ f 1 = v1 ∧ f 2 = Value.pointer (some ⟨b21, 0, none⟩) ∧ f 6 = v45 ∧ f 7 = v41) (fun (q : Rs ((List Int) × (List ResStep)) Empty) e f w => match q with | .go s40 => e = Exit.exit 0 ∧ (∃ H : GH, ∃ v41 : Value, ∃ n42 : Nat, ∃ cs43 : List Value, ∃ v45 : Value, ∃ n46 : Nat, ∃ cs47 : List Value, St Ha wa H w [.row 3 1 v41 n42 cs43, .row 94 4 v45 n46 cs47] ∧ Inc H25 H ∧ Els (up wa.heap.size H) eI 1 cs43 s40.1 ∧ Els (up wa.heap.size H) eResStep 4 cs47 s40.2 ∧ (bl cs47).Nodup ∧ f 6 = v45 ∧ f 7 = v41) | .rt x => x.elim) hq ⟨_, _, _, _, _, _, _, S37, (Inc.rfl _), els38, els33, (show (bl []).Nodup from List.nodup_nil), rfl, rfl, rfl, rfl, rfl⟩ ?_ ?_) ?_
  ·
    clear hp hq
    rintro i40 y39 s40 f54 w53 ⟨H50, v41, n42, cs43, v45, n46, cs47, S51, i52, els44, els48, nd49, k55, k57, k58, k59, k60⟩ hx40 o350 hp
    refine FW.seq (FW.seq (FW.region ?_))
    refine FL.v (E.move k55) ?_
    refine FL.v (E.move k57) ?_
    refine FL.v (E.lenP te56 rfl p1) ?_
    refine FL.v (E.lssT rfl rfl (lss_len hx40)) ?_
    refine FL.nil ?_
    refine FW.condT rfl rfl ?_
    refine FW.skip (FW.seq (FW.block (FW.seq (FW.region ?_))))
    refine FL.v (E.move k57) ?_
    refine FL.v (E.move k55) ?_
    obtain ⟨p61, cs62, pt63, l64, at65, rel66⟩ := p1.at (ix_nat hx40)
    obtain rfl := eTreeNode_open rel66
    refine FL.v (E.indexAddr te56 rfl rfl pt63) ?_
    refine FL.v (E.load rfl (run_loadA Tryz.isAgg98 Tryz.sizeOf98 ((at65.mono (i27.tr i52)).now S51.sl) rfl)) ?_
    obtain ⟨b67, w68, run69, S70⟩ := S51.alloc (P := Tryz.prog) 98 [Value.int .i64 0, Value.int .i64 0, Value.int .i64 0, Value.int .i64 0] Tryz.zeroValue98 rfl (ones_cons rfl (ones_cons rfl (ones_cons rfl (ones_cons rfl ones_nil))))
    refine FL.v (E.alloc run69) ?_
    obtain ⟨w71, run72, S73⟩ := S70.store0 (P := Tryz.prog) (t := 98) (i := 0) (cs' := [Value.int .i64 y39.var, Value.int .i64 y39.low, Value.int .i64 y39.high, Value.int .i64 y39.clause]) (l' := [.box b67 98 [Value.int .i64 y39.var, Value.int .i64 y39.low, Value.int .i64 y39.high, Value.int .i64 y39.clause], .row 3 1 v41 n42 cs43, .row 94 4 v45 n46 cs47]) (v := Value.agg #[Value.int .i64 y39.var, Value.int .i64 y39.low, Value.int .i64 y39.high, Value.int .i64 y39.clause]) (c := [Value.int .i64 y39.var, Value.int .i64 y39.low, Value.int .i64 y39.high, Value.int .i64 y39.clause]) rfl Tryz.sizeOf98 rfl rfl (ones_cons rfl (ones_cons rfl (ones_cons rfl (ones_cons rfl ones_nil)))) (Nat.le_of_ble_eq_true rfl) rfl rfl
    refine FL.act rfl rfl (E.store rfl rfl run72) ?_
    obtain ⟨H74, S75, i76, at77⟩ := S73.sealBox (i := 0) (l' := [.row 3 1 v41 n42 cs43, .row 94 4 v45 n46 cs47]) rfl rfl
    refine FL.nil (FW.seq (FW.seq (FW.region ?_)))
    refine FL.v (E.load rfl (run_loadA Tryz.isAgg98 Tryz.sizeOf98 (at77.now S75.sl) rfl)) ?_
    refine FL.call rfl rfl rfl (E.call Tryz.call115 (A1 rfl)) (w_spec_l9Leaf S75.sl y39) ?_
    rintro e w78 ⟨rfl, r79⟩
    refine ⟨_, rfl, ?_⟩
    have S80 := S75.call r79
    refine FL.nil ?_
    rcases ifB hp with ⟨c81, hp⟩ | ⟨c81, hp⟩
    ·
      refine FW.condT rfl c81 ?_
      refine FW.seq (FW.region ?_)
      refine FL.v (E.move k60) ?_
      refine FL.v (E.move k59) ?_
      refine FL.v (E.lenO te46 rfl S80 (i := 1) rfl els48 (by decide)) ?_
      obtain ⟨v82, w83, run85, S86⟩ := S80.buildSlice (P := Tryz.prog) te84 [Value.int .i64 (len s40.2)] (parts := #[(0, Value.int .i64 (len s40.2))]) (cells := [Value.int .i64 (len s40.2)]) rfl (szs_cons rfl szs_nil) (fc_cons rfl fc_nil) (ones_cons rfl ones_nil) (Nat.le_of_ble_eq_true rfl)
      have els87 : Els (up wa.heap.size H74) eI 1 [Value.int .i64 (len s40.2)] [(len s40.2)] := (Els.snoc (H := (up wa.heap.size H74)) (E := eI) (k := 1) (c := [Value.int .i64 (len s40.2)]) (x := (len s40.2)) Els.nil rfl rfl)
      refine FL.v (E.buildSlice (B1 rfl) run85) ?_
      obtain ⟨xs88, hz89, hp⟩ := bnd hp
      obtain ⟨v90, w93, n91, cs92, run95, S96, els97, ce99⟩ := S86.appendO (P := Tryz.prog) te84 (i := 1) (j := 0) rfl (els44.mono (up_mono i76)) rfl els87 hz89
      have S96 : St Ha wa H74 w93 [.row 3 1 v82 1 [Value.int .i64 (len s40.2)], .row 3 1 v90 n91 cs92, .row 94 4 v45 n46 cs47] := S96
      have S100 : St Ha wa H74 w93 [.row 3 1 v90 n91 cs92, .row 94 4 v45 n46 cs47] := S96.drop 0
      refine FL.v (E.append rfl rfl run95) ?_
      refine FL.v (E.assign (v := v90) rfl) ?_
      refine FL.nil (FW.seq ?_)
      obtain ⟨x115, hx116, hp⟩ := bnd hp
      obtain ⟨xs119, hz120, hp⟩ := bnd hp
      obtain ⟨xs139, hz140, hp⟩ := bnd hp
      refine FW.drawB (Sl H74) (fun f w => ∃ H : GH, ∃ v151 : Value, ∃ n152 : Nat, ∃ cs153 : List Value, St Ha wa H w [.row 3 1 v90 n91 cs92, .row 94 4 v151 n152 cs153] ∧ Inc H74 H ∧ Els (up wa.heap.size H) eResStep 4 cs153 xs139 ∧ (bl cs153).Nodup ∧ f 1 = v1 ∧ f 2 = Value.pointer (some ⟨b21, 0, none⟩) ∧ f 6 = v151 ∧ f 7 = v90 ∧ f 8 = Value.int .i64 ((i40 : Nat) : Int)) (by kernel_rfl) S100.sl ?_ ?_
      ·
        intro w101 r102
        have S103 := S100.call r102
        refine FB.t (i := 0) (bs 15 1) rfl (SP.nil S103.sl) rfl (fun w' hw' => (E.move k59)) ?_
        refine FB.t (i := 2) (bs 15 5) rfl (SP.nil S103.sl) rfl (fun w' hw' => (E.fieldAddr tf30_1 k58)) ?_
        refine FB.t (i := 3) (bs 15 13) rfl (SP.nil S103.sl) rfl (fun w' hw' => (E.load rfl (run_load1 Tryz.isAgg22 ((at28.mono (i52.tr i76)).now hw') rfl))) ?_
        refine FB.t (i := 4) (bs 15 29) rfl (SP.nil S103.sl) rfl (fun w' hw' => (E.fieldAddr tf98_3 rfl)) ?_
        refine FB.t (i := 5) (bs 15 61) rfl (SP.nil S103.sl) rfl (fun w' hw' => (E.load rfl (run_load1 Tryz.isAgg3 (at77.now hw') rfl))) ?_
        obtain ⟨p109, cs110, pt111, l112, at113, rel114⟩ := p0_1.at hx116
        obtain ⟨v117, rfl, h118⟩ := eL_open rel114
        refine FB.t (i := 6) (bs 15 125) rfl (SP.nil S103.sl) rfl (fun w' hw' => (E.indexAddr te22 rfl rfl pt111)) ?_
        refine FB.t (i := 7) (bs 15 253) rfl (SP.nil S103.sl) rfl (fun w' hw' => (E.load rfl (run_load0 Tryz.isAgg84 ((at113.mono ((i27.tr i52).tr i76)).now hw') rfl))) ?_
        refine FB.t (i := 9) (bs 15 765) rfl (SP.nil S103.sl) rfl (fun w' hw' => (E.fieldAddr tf98_3 rfl)) ?_
        refine FB.t (i := 10) (bs 15 1789) rfl (SP.nil S103.sl) rfl (fun w' hw' => (E.load rfl (run_load1 Tryz.isAgg3 (at77.now hw') rfl))) ?_
        refine FB.all1 (i := 1) (by kernel_rfl) ?_
        ·
          obtain ⟨v104, w105, run106, S107⟩ := S103.buildSlice (P := Tryz.prog) te84 [] (parts := #[]) (cells := []) rfl szs_nil fc_nil ones_nil (Nat.le_of_ble_eq_true rfl)
          have els108 : Els (up wa.heap.size H74) eI 1 [] [] := Els.nil
          refine FC.val (l' := (bs 15 1791)) rfl (by kernel_rfl) rfl rfl rfl (E.buildSlice (B0) run106) ?_
          refine ⟨(SP.nil S107.sl), ?_⟩
          refine FB.all1 (i := 8) (by kernel_rfl) ?_
          ·
            obtain ⟨v121, w124, n122, cs123, run125, S126, els127⟩ := S107.appendP (P := Tryz.prog) (Inc.rfl _) te84 (i := 0) rfl (els108.mono upI) (h118.mono ((i27.tr i52).tr i76)) hz120
            have S126 : St Ha wa H74 w124 [.row 3 1 v121 n122 cs123, .row 3 1 v90 n91 cs92, .row 94 4 v45 n46 cs47] := S126
            have els127 : Els (up wa.heap.size H74) eI 1 cs123 xs119 := els127.any (fun _ _ _ _ h => h)
            refine FC.val (l' := (bs 15 2047)) rfl (by kernel_rfl) rfl rfl rfl (E.append rfl rfl run125) ?_
            refine ⟨(SP.nil S126.sl), ?_⟩
            obtain ⟨H128, S129, i130, h131, nv132⟩ := S126.sealRowU (i := 0) (l' := [.row 3 1 v90 n91 cs92, .row 94 4 v45 n46 cs47]) rfl els127 (by decide) rfl
            refine FB.t (i := 11) (bs 15 4095) rfl (SP.nil S126.sl) rfl (fun w' hw' => (E.build (B3 rfl rfl rfl) (run_build _ 94 #[(0, v121), (1, Value.int .i64 (-1)), (2, Value.int .i64 y39.clause)] #[v121, Value.int .i64 (-1), Value.int .i64 y39.clause, Value.int .i64 0] (by obtain ⟨_, _, rfl⟩ := RSl.ln (h131.mono upI); rfl)))) ?_
            refine FB.all1 (i := 12) (by kernel_rfl) ?_
            ·
              obtain ⟨v133, w134, run135, S136⟩ := S129.buildSlice (P := Tryz.prog) te46 [Value.agg #[v121, Value.int .i64 (-1), Value.int .i64 y39.clause, Value.int .i64 0]] (parts := #[(0, Value.agg #[v121, Value.int .i64 (-1), Value.int .i64 y39.clause, Value.int .i64 0])]) (cells := [v121, Value.int .i64 (-1), Value.int .i64 y39.clause, Value.int .i64 0]) rfl (szs_cons rfl szs_nil) (fc_cons rfl fc_nil) (ones_cons h131.one (ones_cons rfl (ones_cons rfl (ones_cons rfl ones_nil)))) (Nat.le_of_ble_eq_true rfl)
              have els137 : Els (up wa.heap.size H128) eResStep 4 [v121, Value.int .i64 (-1), Value.int .i64 y39.clause, Value.int .i64 0] [(ResStep.mk xs119 (-1) y39.clause 0)] := (Els.snoc (H := (up wa.heap.size H128)) (E := eResStep) (k := 4) (c := [v121, Value.int .i64 (-1), Value.int .i64 y39.clause, Value.int .i64 0]) (x := (ResStep.mk xs119 (-1) y39.clause 0)) Els.nil rfl ⟨_, rfl, h131⟩)
              have nd138 : (bl [v121, Value.int .i64 (-1), Value.int .i64 y39.clause, Value.int .i64 0]).Nodup := by exact nd_one v121
              refine FC.val (l' := (bs 15 8191)) rfl (by kernel_rfl) rfl rfl rfl (E.buildSlice (B1 rfl) run135) ?_
              refine ⟨(SP.nil (Sl.of_inc i130 S136.sl)), ?_⟩
              refine FB.all1 (i := 13) (by kernel_rfl) ?_
              ·
                obtain ⟨v141, w144, n142, cs143, run145, S146, els147, ce148⟩ := S136.appendO (P := Tryz.prog) te46 (i := 2) (j := 0) rfl (els48.mono (up_mono (i76.tr i130))) rfl els137 hz140
                have S146 : St Ha wa H128 w144 [.row 94 4 v133 1 [v121, Value.int .i64 (-1), Value.int .i64 y39.clause, Value.int .i64 0], .row 3 1 v90 n91 cs92, .row 94 4 v141 n142 cs143] := S146
                have nd149 : (bl cs143).Nodup := by rw [ce148]; exact nd_app nd49 nd138 (Els.dom (els48.mono (upI.tr i76))) (by exact nv132)
                have S150 : St Ha wa H128 w144 [.row 3 1 v90 n91 cs92, .row 94 4 v141 n142 cs143] := S146.drop 0
                refine FC.val (l' := (bs 15 16383)) rfl (by kernel_rfl) rfl rfl rfl (E.append rfl rfl run145) ?_
                refine ⟨(SP.nil (Sl.of_inc i130 S150.sl)), ?_⟩
                refine FB.t (i := 14) (bs 15 32767) rfl (SP.nil (Sl.of_inc i130 S150.sl)) rfl (fun w' hw' => (E.assign (v := v141) rfl)) ?_
                exact FB.done (by kernel_rfl) ⟨_, _, _, _, S150, i130, els147, nd149, k57, k58, rfl, rfl, k55⟩
      ·
        rintro f160 w159 ⟨H156, v151, n152, cs153, S157, i158, els154, nd155, k161, k162, k163, k164, k165⟩
        refine FW.exit ?_
        refine FW.region ?_
        refine FL.v (E.move k165) ?_
        refine FL.v (E.add rfl rfl) ?_
        refine FL.v (E.assign (v := Value.int .i64 (wr (((i40 : Nat) : Int) + 1))) rfl) ?_
        refine FL.nil ?_
        obtain rfl := Option.some.inj hp
        exact ⟨rfl, ⟨_, _, _, _, _, _, _, S157, ((i52.tr i76).tr i158), (els97.mono (up_mono i158)), els154, nd155, (nat_succ rfl (lt_of_get hx40) (p1.mono (((i27.tr i52).tr i76).tr i158)).le), k161, k162, k163, k164⟩⟩
    ·
      refine FW.condF rfl c81 ?_
      refine FW.skip (FW.seq ?_)
      refine FW.draw (fun w' => Run w78.heap.size H74 w78 H74 w') (by kernel_rfl) (by kernel_rfl) (run_drew S80.sl) ?_
      refine FD.val rfl rfl rfl (fun w' hw' => (E.move k59)) ?_
      refine FD.val rfl rfl rfl (fun w' hw' => (E.move k60)) ?_
      refine FD.val rfl rfl rfl (fun w' hw' => (E.fieldAddr tf98_1 rfl)) ?_
      refine FD.val rfl rfl rfl (fun w' hw' => (E.load rfl (run_load1 Tryz.isAgg3 (at77.now (S80.call hw').sl) rfl))) ?_
      obtain ⟨x172, hx173, hp⟩ := bnd hp
      obtain ⟨p166, cs167, pt168, l169, at170, rel171⟩ := S80.row_at (i := 0) rfl els44 (by decide) hx173
      obtain rfl := eI_open rel171
      refine FD.val rfl rfl rfl (fun w' hw' => (E.indexAddr te84 rfl rfl pt168)) ?_
      refine FD.val rfl rfl rfl (fun w' hw' => (E.load rfl (run_load0 Tryz.isAgg3 (at170.cls hw') rfl))) ?_
      obtain ⟨x180, hx181, hp⟩ := bnd hp
      obtain ⟨p174, cs175, pt176, l177, at178, rel179⟩ := S80.row_at (i := 1) rfl els48 (by decide) hx181
      obtain ⟨v182, rfl, h183⟩ := eResStep_open rel179
      refine FD.val rfl rfl rfl (fun w' hw' => (E.indexAddr te46 rfl rfl pt176)) ?_
      refine FD.val rfl rfl rfl (fun w' hw' => (E.fieldAddr tf94_0 rfl)) ?_
      refine FD.val rfl rfl rfl (fun w' hw' => (E.load rfl (run_load1 Tryz.isAgg84 (at178.cls hw') rfl))) ?_
      refine FD.val rfl rfl rfl (fun w' hw' => (E.move k59)) ?_
      refine FD.val rfl rfl rfl (fun w' hw' => (E.move k60)) ?_
      refine FD.val rfl rfl rfl (fun w' hw' => (E.fieldAddr tf98_2 rfl)) ?_
      refine FD.val rfl rfl rfl (fun w' hw' => (E.load rfl (run_load1 Tryz.isAgg3 (at77.now (S80.call hw').sl) rfl))) ?_
      obtain ⟨x190, hx191, hp⟩ := bnd hp
      obtain ⟨p184, cs185, pt186, l187, at188, rel189⟩ := S80.row_at (i := 0) rfl els44 (by decide) hx191
      obtain rfl := eI_open rel189
      refine FD.val rfl rfl rfl (fun w' hw' => (E.indexAddr te84 rfl rfl pt186)) ?_
      refine FD.val rfl rfl rfl (fun w' hw' => (E.load rfl (run_load0 Tryz.isAgg3 (at188.cls hw') rfl))) ?_
      obtain ⟨x198, hx199, hp⟩ := bnd hp
      obtain ⟨p192, cs193, pt194, l195, at196, rel197⟩ := S80.row_at (i := 1) rfl els48 (by decide) hx199
      obtain ⟨v200, rfl, h201⟩ := eResStep_open rel197
      refine FD.val rfl rfl rfl (fun w' hw' => (E.indexAddr te46 rfl rfl pt194)) ?_
      refine FD.val rfl rfl rfl (fun w' hw' => (E.fieldAddr tf94_0 rfl)) ?_
      refine FD.val rfl rfl rfl (fun w' hw' => (E.load rfl (run_load1 Tryz.isAgg84 (at196.cls hw') rfl))) ?_
      refine FD.val rfl rfl rfl (fun w' hw' => (E.assign (v := v182) rfl)) ?_
      refine FD.val rfl rfl rfl (fun w' hw' => (E.assign (v := v200) rfl)) ?_
      refine FD.nil ?_
      intro w202 r204
      have S203 := S80.call r204
      refine FW.block (FW.seq (FW.region ?_))
      refine FL.v (E.move (v := v182) rfl) ?_
      refine FL.v (E.fieldAddr tf98_0 rfl) ?_
      refine FL.v (E.load rfl (run_load1 Tryz.isAgg3 (at77.now S203.sl) rfl)) ?_
      obtain ⟨r205, hr206, hp⟩ := bnd hp
      refine FL.call rfl rfl rfl (E.call Tryz.call116 (A2 rfl rfl)) (w_spec_l2Has S203.sl v182 x180.clause (h183.mono (upI.tr i76)) y39.var hr206) ?_
      rintro e w207 ⟨rfl, r208⟩
      refine ⟨_, rfl, ?_⟩
      have S209 := S203.call r208
      refine FL.v (E.not rfl) ?_
      refine FL.v (E.assign (v := Value.bool (!r205)) rfl) ?_
      refine FL.nil ?_
      rcases ifB hp with ⟨c210, hp⟩ | ⟨c210, hp⟩
      ·
        refine FW.condT rfl c210 ?_
        refine FW.region ?_
        refine FL.v (E.move k60) ?_
        refine FL.v (E.move k60) ?_
        refine FL.v (E.fieldAddr tf98_1 rfl) ?_
        refine FL.v (E.load rfl (run_load1 Tryz.isAgg3 (at77.now S209.sl) rfl)) ?_
        obtain ⟨x217, hx218, hp⟩ := bnd hp
        obtain ⟨p211, cs212, pt213, l214, at215, rel216⟩ := S209.row_at (i := 0) rfl els44 (by decide) hx218
        obtain rfl := eI_open rel216
        refine FL.v (E.indexAddr te84 rfl rfl pt213) ?_
        refine FL.v (E.load rfl (run_load0 Tryz.isAgg3 at215 rfl)) ?_
        obtain ⟨v219, w220, run221, S222⟩ := S209.buildSlice (P := Tryz.prog) te84 [Value.int .i64 x217] (parts := #[(0, Value.int .i64 x217)]) (cells := [Value.int .i64 x217]) rfl (szs_cons rfl szs_nil) (fc_cons rfl fc_nil) (ones_cons rfl ones_nil) (Nat.le_of_ble_eq_true rfl)
        have els223 : Els (up wa.heap.size H74) eI 1 [Value.int .i64 x217] [x217] := (Els.snoc (H := (up wa.heap.size H74)) (E := eI) (k := 1) (c := [Value.int .i64 x217]) (x := x217) Els.nil rfl rfl)
        refine FL.v (E.buildSlice (B1 rfl) run221) ?_
        obtain ⟨xs224, hz225, hp⟩ := bnd hp
        obtain ⟨v226, w229, n227, cs228, run230, S231, els232, ce233⟩ := S222.appendO (P := Tryz.prog) te84 (i := 1) (j := 0) rfl (els44.mono (up_mono i76)) rfl els223 hz225
        have S231 : St Ha wa H74 w229 [.row 3 1 v219 1 [Value.int .i64 x217], .row 3 1 v226 n227 cs228, .row 94 4 v45 n46 cs47] := S231
        have S234 : St Ha wa H74 w229 [.row 3 1 v226 n227 cs228, .row 94 4 v45 n46 cs47] := S231.drop 0
        refine FL.v (E.append rfl rfl run230) ?_
        refine FL.v (E.assign (v := v226) rfl) ?_
        refine FL.nil (FW.region ?_)
        refine FL.v (E.move k55) ?_
        refine FL.v (E.add rfl rfl) ?_
        refine FL.v (E.assign (v := Value.int .i64 (wr (((i40 : Nat) : Int) + 1))) rfl) ?_
        refine FL.nil ?_
        obtain rfl := Option.some.inj hp
        exact ⟨rfl, ⟨_, _, _, _, _, _, _, S234, (i52.tr i76), els232, (els48.mono (up_mono i76)), nd49, (nat_succ rfl (lt_of_get hx40) (p1.mono ((i27.tr i52).tr i76)).le), k57, k58, k59, rfl⟩⟩
      ·
        refine FW.condF rfl c210 ?_
        refine FW.seq (FW.region ?_)
        refine FL.v (E.move (v := v200) rfl) ?_
        refine FL.v (E.fieldAddr tf98_0 rfl) ?_
        refine FL.v (E.load rfl (run_load1 Tryz.isAgg3 (at77.now S209.sl) rfl)) ?_
        refine FL.v (E.neg rfl) ?_
        obtain ⟨r235, hr236, hp⟩ := bnd hp
        refine FL.call rfl rfl rfl (E.call Tryz.call116 (A2 rfl rfl)) (w_spec_l2Has S209.sl v200 x198.clause (h201.mono (upI.tr i76)) (wr (-y39.var)) hr236) ?_
        rintro e w237 ⟨rfl, r238⟩
        refine ⟨_, rfl, ?_⟩
        have S239 := S209.call r238
        refine FL.v (E.not rfl) ?_
        refine FL.v (E.assign (v := Value.bool (!r235)) rfl) ?_
        refine FL.nil ?_
        rcases ifB hp with ⟨c240, hp⟩ | ⟨c240, hp⟩
        ·
          refine FW.condT rfl c240 ?_
          refine FW.region ?_
          refine FL.v (E.move k60) ?_
          refine FL.v (E.move k60) ?_
          refine FL.v (E.fieldAddr tf98_2 rfl) ?_
          refine FL.v (E.load rfl (run_load1 Tryz.isAgg3 (at77.now S239.sl) rfl)) ?_
          obtain ⟨x247, hx248, hp⟩ := bnd hp
          obtain ⟨p241, cs242, pt243, l244, at245, rel246⟩ := S239.row_at (i := 0) rfl els44 (by decide) hx248
          obtain rfl := eI_open rel246
          refine FL.v (E.indexAddr te84 rfl rfl pt243) ?_
          refine FL.v (E.load rfl (run_load0 Tryz.isAgg3 at245 rfl)) ?_
          obtain ⟨v249, w250, run251, S252⟩ := S239.buildSlice (P := Tryz.prog) te84 [Value.int .i64 x247] (parts := #[(0, Value.int .i64 x247)]) (cells := [Value.int .i64 x247]) rfl (szs_cons rfl szs_nil) (fc_cons rfl fc_nil) (ones_cons rfl ones_nil) (Nat.le_of_ble_eq_true rfl)
          have els253 : Els (up wa.heap.size H74) eI 1 [Value.int .i64 x247] [x247] := (Els.snoc (H := (up wa.heap.size H74)) (E := eI) (k := 1) (c := [Value.int .i64 x247]) (x := x247) Els.nil rfl rfl)
          refine FL.v (E.buildSlice (B1 rfl) run251) ?_
          obtain ⟨xs254, hz255, hp⟩ := bnd hp
          obtain ⟨v256, w259, n257, cs258, run260, S261, els262, ce263⟩ := S252.appendO (P := Tryz.prog) te84 (i := 1) (j := 0) rfl (els44.mono (up_mono i76)) rfl els253 hz255
          have S261 : St Ha wa H74 w259 [.row 3 1 v249 1 [Value.int .i64 x247], .row 3 1 v256 n257 cs258, .row 94 4 v45 n46 cs47] := S261
          have S264 : St Ha wa H74 w259 [.row 3 1 v256 n257 cs258, .row 94 4 v45 n46 cs47] := S261.drop 0
          refine FL.v (E.append rfl rfl run260) ?_
          refine FL.v (E.assign (v := v256) rfl) ?_
          refine FL.nil (FW.region ?_)
          refine FL.v (E.move k55) ?_
          refine FL.v (E.add rfl rfl) ?_
          refine FL.v (E.assign (v := Value.int .i64 (wr (((i40 : Nat) : Int) + 1))) rfl) ?_
          refine FL.nil ?_
          obtain rfl := Option.some.inj hp
          exact ⟨rfl, ⟨_, _, _, _, _, _, _, S264, (i52.tr i76), els262, (els48.mono (up_mono i76)), nd49, (nat_succ rfl (lt_of_get hx40) (p1.mono ((i27.tr i52).tr i76)).le), k57, k58, k59, rfl⟩⟩
        ·
          refine FW.condF rfl c240 ?_
          refine FW.seq (FW.region ?_)
          refine FL.v (E.move (v := v182) rfl) ?_
          refine FL.v (E.move (v := v200) rfl) ?_
          refine FL.v (E.fieldAddr tf98_0 rfl) ?_
          refine FL.v (E.load rfl (run_load1 Tryz.isAgg3 (at77.now S239.sl) rfl)) ?_
          obtain ⟨r265, hr266, hp⟩ := bnd hp
          refine FL.call rfl rfl rfl (E.call Tryz.call117 (A3 rfl rfl rfl)) (w_spec_l2Resolve S239.sl v182 x180.clause (h183.mono (upI.tr i76)) v200 x198.clause (h201.mono (upI.tr i76)) y39.var hr266) ?_
          rintro e w268 ⟨H267, v271, n272, cs273, rfl, r270, els274⟩
          refine ⟨_, rfl, ?_⟩
          have els274 := els274.mono (up_le S239.size)
          have S269 := S239.join (l' := [.row 3 1 v271 n272 cs273, .row 3 1 v41 n42 cs43, .row 94 4 v45 n46 cs47]) r270 rfl
          refine FL.v (E.move (v := Value.tuple #[v271, Value.bool r265.2]) rfl) ?_
          refine FL.v (E.extract (i := 0) rfl rfl) ?_
          refine FL.v (E.extract (i := 1) rfl rfl) ?_
          refine FL.v (E.assign (v := v271) rfl) ?_
          refine FL.v (E.assign (v := Value.bool r265.2) rfl) ?_
          refine FL.nil (FW.seq (FW.region ?_))
          refine FL.v (E.move k60) ?_
          refine FL.v (E.move k59) ?_
          refine FL.v (E.lenO te46 rfl S269 (i := 2) rfl els48 (by decide)) ?_
          obtain ⟨v275, w276, run277, S278⟩ := S269.buildSlice (P := Tryz.prog) te84 [Value.int .i64 (len s40.2)] (parts := #[(0, Value.int .i64 (len s40.2))]) (cells := [Value.int .i64 (len s40.2)]) rfl (szs_cons rfl szs_nil) (fc_cons rfl fc_nil) (ones_cons rfl ones_nil) (Nat.le_of_ble_eq_true rfl)
          have els279 : Els (up wa.heap.size H267) eI 1 [Value.int .i64 (len s40.2)] [(len s40.2)] := (Els.snoc (H := (up wa.heap.size H267)) (E := eI) (k := 1) (c := [Value.int .i64 (len s40.2)]) (x := (len s40.2)) Els.nil rfl rfl)
          refine FL.v (E.buildSlice (B1 rfl) run277) ?_
          obtain ⟨xs280, hz281, hp⟩ := bnd hp
          obtain ⟨v282, w285, n283, cs284, run286, S287, els288, ce289⟩ := S278.appendO (P := Tryz.prog) te84 (i := 2) (j := 0) rfl (els44.mono (up_mono (i76.tr r270.run.inc))) rfl els279 hz281
          have S287 : St Ha wa H267 w285 [.row 3 1 v275 1 [Value.int .i64 (len s40.2)], .row 3 1 v271 n272 cs273, .row 3 1 v282 n283 cs284, .row 94 4 v45 n46 cs47] := S287
          have S290 : St Ha wa H267 w285 [.row 3 1 v271 n272 cs273, .row 3 1 v282 n283 cs284, .row 94 4 v45 n46 cs47] := S287.drop 0
          refine FL.v (E.append rfl rfl run286) ?_
          refine FL.v (E.assign (v := v282) rfl) ?_
          refine FL.nil ?_
          obtain ⟨x300, hx301, hp⟩ := bnd hp
          obtain ⟨x309, hx310, hp⟩ := bnd hp
          obtain ⟨xs323, hz324, hp⟩ := bnd hp
          refine FW.drawB (SX Ha wa H267 [.row 3 1 v282 n283 cs284]) (fun f w => ∃ H : GH, ∃ v335 : Value, ∃ n336 : Nat, ∃ cs337 : List Value, St Ha wa H w [.row 3 1 v282 n283 cs284, .row 94 4 v335 n336 cs337] ∧ Inc H267 H ∧ Els (up wa.heap.size H) eResStep 4 cs337 xs323 ∧ (bl cs337).Nodup ∧ f 1 = v1 ∧ f 2 = Value.pointer (some ⟨b21, 0, none⟩) ∧ f 6 = v335 ∧ f 7 = v282 ∧ f 8 = Value.int .i64 ((i40 : Nat) : Int)) (by kernel_rfl) S290.sl ?_ ?_
          ·
            intro w291 r292
            have S293 := S290.call r292
            refine FB.t (i := 0) (bs 18 1) rfl (SP.nil ⟨_, (S293.sel [1] (by decide) rfl), (Inc.rfl _)⟩) rfl (fun w' hw' => (E.move k59)) ?_
            refine FB.t (i := 1) (bs 18 3) rfl (SP.nil ⟨_, (S293.sel [1] (by decide) rfl), (Inc.rfl _)⟩) rfl (fun w' hw' => (E.move (v := v271) rfl)) ?_
            refine FB.t (i := 2) (bs 18 7) rfl (SP.nil ⟨_, (S293.sel [1] (by decide) rfl), (Inc.rfl _)⟩) rfl (fun w' hw' => (E.move (v := v282) rfl)) ?_
            refine FB.t (i := 3) (bs 18 15) rfl (SP.nil ⟨_, (S293.sel [1] (by decide) rfl), (Inc.rfl _)⟩) rfl (fun w' hw' => (E.fieldAddr tf98_1 rfl)) ?_
            refine FB.t (i := 4) (bs 18 31) rfl (SP.nil ⟨_, (S293.sel [1] (by decide) rfl), (Inc.rfl _)⟩) rfl (fun w' hw' => (E.load rfl (run_load1 Tryz.isAgg3 ((at77.mono r270.run.inc).now hw'.sl) rfl))) ?_
            obtain ⟨p294, cs295, pt296, l297, at298, rel299, hall302⟩ := S293.row_atA (i := 1) rfl els288 (by decide) hx301
            obtain rfl := eI_open rel299
            refine FB.t (i := 5) (bs 18 63) rfl (SP.nil ⟨_, (S293.sel [1] (by decide) rfl), (Inc.rfl _)⟩) rfl (fun w' hw' => (E.indexAddr te84 rfl rfl pt296)) ?_
            refine FB.t (i := 6) (bs 18 127) rfl (SP.nil ⟨_, (S293.sel [1] (by decide) rfl), (Inc.rfl _)⟩) rfl (fun w' hw' => (E.load rfl (run_load0 Tryz.isAgg3 (hw'.use fun _ st => hall302 _ _ _ 0 st rfl) rfl))) ?_
            refine FB.t (i := 7) (bs 18 255) rfl (SP.nil ⟨_, (S293.sel [1] (by decide) rfl), (Inc.rfl _)⟩) rfl (fun w' hw' => (E.move (v := v282) rfl)) ?_
            refine FB.t (i := 8) (bs 18 511) rfl (SP.nil ⟨_, (S293.sel [1] (by decide) rfl), (Inc.rfl _)⟩) rfl (fun w' hw' => (E.fieldAddr tf98_2 rfl)) ?_
            refine FB.t (i := 9) (bs 18 1023) rfl (SP.nil ⟨_, (S293.sel [1] (by decide) rfl), (Inc.rfl _)⟩) rfl (fun w' hw' => (E.load rfl (run_load1 Tryz.isAgg3 ((at77.mono r270.run.inc).now hw'.sl) rfl))) ?_
            obtain ⟨p303, cs304, pt305, l306, at307, rel308, hall311⟩ := S293.row_atA (i := 1) rfl els288 (by decide) hx310
            obtain rfl := eI_open rel308
            refine FB.t (i := 10) (bs 18 2047) rfl (SP.nil ⟨_, (S293.sel [1] (by decide) rfl), (Inc.rfl _)⟩) rfl (fun w' hw' => (E.indexAddr te84 rfl rfl pt305)) ?_
            refine FB.t (i := 11) (bs 18 4095) rfl (SP.nil ⟨_, (S293.sel [1] (by decide) rfl), (Inc.rfl _)⟩) rfl (fun w' hw' => (E.load rfl (run_load0 Tryz.isAgg3 (hw'.use fun _ st => hall311 _ _ _ 0 st rfl) rfl))) ?_
            refine FB.t (i := 12) (bs 18 8191) rfl (SP.nil ⟨_, (S293.sel [1] (by decide) rfl), (Inc.rfl _)⟩) rfl (fun w' hw' => (E.fieldAddr tf98_0 rfl)) ?_
            refine FB.t (i := 13) (bs 18 16383) rfl (SP.nil ⟨_, (S293.sel [1] (by decide) rfl), (Inc.rfl _)⟩) rfl (fun w' hw' => (E.load rfl (run_load1 Tryz.isAgg3 ((at77.mono r270.run.inc).now hw'.sl) rfl))) ?_
            obtain ⟨H312, S313, i314, h315, nv316⟩ := S293.sealRowU (i := 0) (l' := [.row 3 1 v282 n283 cs284, .row 94 4 v45 n46 cs47]) rfl els274 (by decide) rfl
            refine FB.t (i := 14) (bs 18 32767) rfl (SP.nil ⟨_, (S293.sel [1] (by decide) rfl), (Inc.rfl _)⟩) rfl (fun w' hw' => (E.build (B4 rfl rfl rfl rfl) (run_build _ 94 #[(0, v271), (1, Value.int .i64 x300), (2, Value.int .i64 x309), (3, Value.int .i64 y39.var)] #[v271, Value.int .i64 x300, Value.int .i64 x309, Value.int .i64 y39.var] (by obtain ⟨_, _, rfl⟩ := RSl.ln (h315.mono upI); rfl)))) ?_
            refine FB.all1 (i := 15) (by kernel_rfl) ?_
            ·
              obtain ⟨v317, w318, run319, S320⟩ := S313.buildSlice (P := Tryz.prog) te46 [Value.agg #[v271, Value.int .i64 x300, Value.int .i64 x309, Value.int .i64 y39.var]] (parts := #[(0, Value.agg #[v271, Value.int .i64 x300, Value.int .i64 x309, Value.int .i64 y39.var])]) (cells := [v271, Value.int .i64 x300, Value.int .i64 x309, Value.int .i64 y39.var]) rfl (szs_cons rfl szs_nil) (fc_cons rfl fc_nil) (ones_cons h315.one (ones_cons rfl (ones_cons rfl (ones_cons rfl ones_nil)))) (Nat.le_of_ble_eq_true rfl)
              have els321 : Els (up wa.heap.size H312) eResStep 4 [v271, Value.int .i64 x300, Value.int .i64 x309, Value.int .i64 y39.var] [(ResStep.mk r265.1 x300 x309 y39.var)] := (Els.snoc (H := (up wa.heap.size H312)) (E := eResStep) (k := 4) (c := [v271, Value.int .i64 x300, Value.int .i64 x309, Value.int .i64 y39.var]) (x := (ResStep.mk r265.1 x300 x309 y39.var)) Els.nil rfl ⟨_, rfl, h315⟩)
              have nd322 : (bl [v271, Value.int .i64 x300, Value.int .i64 x309, Value.int .i64 y39.var]).Nodup := by exact nd_one v271
              refine FC.val (l' := (bs 18 65535)) rfl (by kernel_rfl) rfl rfl rfl (E.buildSlice (B1 rfl) run319) ?_
              refine ⟨(SP.nil ⟨_, (S320.sel [1] (by decide) rfl), i314⟩), ?_⟩
              refine FB.all1 (i := 16) (by kernel_rfl) ?_
              ·
                obtain ⟨v325, w328, n326, cs327, run329, S330, els331, ce332⟩ := S320.appendO (P := Tryz.prog) te46 (i := 2) (j := 0) rfl (els48.mono (up_mono ((i76.tr r270.run.inc).tr i314))) rfl els321 hz324
                have S330 : St Ha wa H312 w328 [.row 94 4 v317 1 [v271, Value.int .i64 x300, Value.int .i64 x309, Value.int .i64 y39.var], .row 3 1 v282 n283 cs284, .row 94 4 v325 n326 cs327] := S330
                have nd333 : (bl cs327).Nodup := by rw [ce332]; exact nd_app nd49 nd322 (Els.dom (els48.mono (upI.tr (i76.tr r270.run.inc)))) (by exact nv316)
                have S334 : St Ha wa H312 w328 [.row 3 1 v282 n283 cs284, .row 94 4 v325 n326 cs327] := S330.drop 0
                refine FC.val (l' := (bs 18 131071)) rfl (by kernel_rfl) rfl rfl rfl (E.append rfl rfl run329) ?_
                refine ⟨(SP.nil ⟨_, (S334.sel [0] (by decide) rfl), i314⟩), ?_⟩
                refine FB.t (i := 17) (bs 18 262143) rfl (SP.nil ⟨_, (S334.sel [0] (by decide) rfl), i314⟩) rfl (fun w' hw' => (E.assign (v := v325) rfl)) ?_
                exact FB.done (by kernel_rfl) ⟨_, _, _, _, S334, i314, els331, nd333, k57, k58, rfl, rfl, k55⟩
          ·
            rintro f344 w343 ⟨H340, v335, n336, cs337, S341, i342, els338, nd339, k345, k346, k347, k348, k349⟩
            refine FW.region ?_
            refine FL.v (E.move k349) ?_
            refine FL.v (E.add rfl rfl) ?_
            refine FL.v (E.assign (v := Value.int .i64 (wr (((i40 : Nat) : Int) + 1))) rfl) ?_
            refine FL.nil ?_
            obtain rfl := Option.some.inj hp
            exact ⟨rfl, ⟨_, _, _, _, _, _, _, S341, (((i52.tr i76).tr r270.run.inc).tr i342), (els288.mono (up_mono i342)), els338, nd339, (nat_succ rfl (lt_of_get hx40) (p1.mono ((((i27.tr i52).tr i76).tr r270.run.inc).tr i342)).le), k345, k346, k347, k348⟩⟩
  ·
    clear hp hq
    rintro s40 f362 w361 ⟨H358, v41, n42, cs43, v45, n46, cs47, S359, i360, els44, els48, nd49, k363, k364, k365, k366, k367⟩
    refine FW.seq (FW.seq (FW.region ?_))
    refine FL.v (E.move k363) ?_
    refine FL.v (E.move k364) ?_
    refine FL.v (E.lenP te56 rfl p1) ?_
    refine FL.v (E.lss rfl rfl) ?_
    refine FL.nil ?_
    refine FW.condF rfl dlt_len ?_
    refine FW.exit ?_
    exact ⟨nofun, rfl, ⟨_, _, _, _, _, _, _, S359, i360, els44, els48, nd49, k366, k367⟩⟩
  ·
    clear hq
    intro e f355 w354 hD
    rcases q40 with s40 | x40
    ·
      obtain ⟨rfl, hD⟩ := hD
      obtain ⟨H351, v41, n42, cs43, v45, n46, cs47, S352, i353, els44, els48, nd49, k356, k357⟩ := hD
      replace hp := el_go hp
      refine FW.seq (FW.region ?_)
      refine FL.v (E.move k356) ?_
      refine FL.v (E.move k357) ?_
      refine FL.v (E.assign (v := v45) rfl) ?_
      refine FL.v (E.assign (v := v41) rfl) ?_
      refine FL.nil ?_
      refine FW.ret ?_
      obtain rfl := Option.some.inj hp
      exact ⟨.inr rfl, res2 rfl rfl rfl ⟨_, _, _, _, _, _, _, rfl, (S352.sel [1, 0] (by decide) rfl), els48, nd49, els44⟩⟩
    · exact x40.elim

@[reducible] def p_spec_TreeClauses (Ha : GH) (wa : World) (r : ((List (List Int)) × Bool)) : Ending → World → Prop :=
  fun e w' => ∃ H' : GH, ∃ v0 : Value, ∃ n0 : Nat, ∃ c0 : List Value, e = .returned (Value.tuple #[v0, Value.bool r.2]) ∧ St Ha wa H' w' [.row 84 1 v0 n0 c0] ∧ Els (up wa.heap.size H') (eL eI 1) 1 c0 r.1 ∧ (bl c0).Nodup
theorem w_spec_TreeClauses {Ha : GH} {wa : World} (hs : Sl Ha wa) (a0 : Cnf) (v0_1 : Value) (p0_1 : RSl Ha (eL eI 1) 1 v0_1 a0.clauses) (v1 : Value) (a1 : List TreeNode) (p1 : RSl Ha eTreeNode 4 v1 a1) {r : ((List (List Int)) × Bool)} (hp : (PF.spec_TreeClauses a0 a1) = some r) :
    Calls Tryz.prog 28 #[Value.agg #[Value.int .i64 a0.vars, v0_1], v1] wa (p_spec_TreeClauses Ha wa r) := by
  unfold PF.spec_TreeClauses at hp
  have S0 := St.init hs
  refine calls_go (N := 48) (args := [Value.agg #[Value.int .i64 a0.vars, v0_1], v1]) Tryz.func28 rfl rfl rfl ?_
  refine FW.seq (FW.region ?_)
  obtain ⟨b21, w22, run23, S24⟩ := S0.box (P := Tryz.prog) 30 [Value.int .i64 a0.vars, v0_1] (v := Value.agg #[Value.int .i64 a0.vars, v0_1]) rfl (ones_cons rfl (ones_cons p0_1.one ones_nil))
  refine FL.v (E.box rfl run23) ?_
  obtain ⟨H25, S26, i27, at28⟩ := S24.sealBox (i := 0) (l' := []) rfl rfl
  refine FL.v (E.assign (v := Value.slice none 0 0) rfl) ?_
  refine FL.v (E.assign (v := Value.bool false) rfl) ?_
  refine FL.nil (FW.seq (FW.region ?_))
  obtain ⟨v29, w30, run31, S32⟩ := S26.buildSlice (P := Tryz.prog) te22 [] (parts := #[]) (cells := []) rfl szs_nil fc_nil ones_nil (Nat.le_of_ble_eq_true rfl)
  have els33 : Els (up wa.heap.size H25) (eL eI 1) 1 [] [] := Els.nil
  refine FL.v (E.buildSlice (B0) run31) ?_
  refine FL.v (E.assign (v := v29) rfl) ?_
  refine FL.nil (FW.seq (FW.seq (FW.region ?_)))
  refine FL.v (E.load rfl (run_loadA Tryz.isAgg30 Tryz.sizeOf30 (at28.now S32.sl) rfl)) ?_
  refine FL.v (E.move (v := v1) rfl) ?_
  obtain ⟨r34, hr35, hp⟩ := bnd hp
  refine FL.call rfl rfl rfl (E.call Tryz.call63 (A2 rfl rfl)) (w_spec_l9Search S32.sl a0 v0_1 (p0_1.mono i27) v1 a1 (p1.mono i27) hr35) ?_
  rintro e w37 ⟨H36, v40, n41, cs42, rfl, r39, els43, nd44⟩
  refine ⟨_, rfl, ?_⟩
  have nv45 : New H25 cs42 := New.of_up S32.sl els43.dom
  have els43 := els43.mono (up_le S32.size)
  have S38 := S32.join (l' := [.row 84 1 v40 n41 cs42, .row 84 1 v29 0 []]) r39 rfl
  refine FL.v (E.move (v := Value.tuple #[v40, Value.bool r34.2]) rfl) ?_
  refine FL.v (E.extract (i := 0) rfl rfl) ?_
  refine FL.v (E.extract (i := 1) rfl rfl) ?_
  refine FL.v (E.assign (v := v40) rfl) ?_
  refine FL.v (E.assign (v := Value.bool r34.2) rfl) ?_
  refine FL.nil (FW.seq (FW.region ?_))
  refine FL.v (E.move (v := Value.bool r34.2) rfl) ?_
  refine FL.v (E.not rfl) ?_
  refine FL.nil ?_
  rcases ifB hp with ⟨c46, hp⟩ | ⟨c46, hp⟩
  ·
    refine FW.condT rfl c46 ?_
    refine FW.seq (FW.region ?_)
    refine FL.v (E.move (v := v29) rfl) ?_
    refine FL.v (E.assign (v := v29) rfl) ?_
    refine FL.v (E.assign (v := Value.bool false) rfl) ?_
    refine FL.nil ?_
    refine FW.ret ?_
    obtain rfl := Option.some.inj hp
    exact ⟨.inr rfl, res2 rfl rfl rfl ⟨_, _, _, _, rfl, (S38.sel [1] (by decide) rfl), (els33.mono (up_mono r39.run.inc)), (show (bl []).Nodup from List.nodup_nil)⟩⟩
  ·
    refine FW.condF rfl c46 ?_
    refine FW.skip (FW.seq (FW.region ?_))
    refine FL.v (E.load rfl (run_loadA Tryz.isAgg30 Tryz.sizeOf30 ((at28.mono r39.run.inc).now S38.sl) rfl)) ?_
    refine FL.v (E.move (v := v1) rfl) ?_
    obtain ⟨r47, hr48, hp⟩ := bnd hp
    refine FL.call rfl rfl rfl (E.call Tryz.call64 (A2 rfl rfl)) (w_spec_l9Steps S38.sl a0 v0_1 (p0_1.mono (i27.tr r39.run.inc)) v1 a1 (p1.mono (i27.tr r39.run.inc)) hr48) ?_
    rintro e w50 ⟨H49, v53, n54, cs55, v59, n60, cs61, rfl, r52, els56, nd57, els62⟩
    refine ⟨_, rfl, ?_⟩
    have nv58 : New H36 cs55 := New.of_up S38.sl els56.dom
    have els56 := els56.mono (up_le S38.size)
    have els62 := els62.mono (up_le S38.size)
    have S51 := S38.join (l' := [.row 94 4 v53 n54 cs55, .row 3 1 v59 n60 cs61, .row 84 1 v40 n41 cs42, .row 84 1 v29 0 []]) r52 rfl
    refine FL.v (E.move (v := Value.tuple #[v53, v59]) rfl) ?_
    refine FL.v (E.extract (i := 0) rfl rfl) ?_
    refine FL.v (E.extract (i := 1) rfl rfl) ?_
    refine FL.v (E.assign (v := v53) rfl) ?_
    refine FL.v (E.assign (v := v59) rfl) ?_
    refine FL.nil (FW.seq (FW.seq (FW.region ?_)))
    refine FL.v (E.assign (v := Value.int .i64 0) rfl) ?_
    refine FL.nil ?_
    obtain ⟨q64, hq, hp⟩ := bndR hp
    refine FW.block ?_
    refine FW.mono (FW.forL (S := (List (List Int))) (X := Empty) (fun (i64 : Nat) (s64 : (List (List Int))) f w => ∃ H : GH, ∃ v65 : Value, ∃ n66 : Nat, ∃ cs67 : List Value, St Ha wa H w [.row 94 4 v53 n54 cs55, .row 3 1 v59 n60 cs61, .row 84 1 v65 n66 cs67] ∧ Inc H49 H ∧ Els (up wa.heap.size H) (eL eI 1) 1 cs67 s64 ∧ (bl cs67).Nodup ∧ f 11 = Value.int .i64 ((i64 : Nat) : Int) ∧ f 1 = v1 ∧ f 6 = v65 ∧ f 9 = v53 ∧ f 10 = v59) (fun (q : Rs (List (List Int)) Empty) e f w => match q with | .go s64 => e = Exit.exit 0 ∧ (∃ H : GH, ∃ v65 : Value, ∃ n66 : Nat, ∃ cs67 : List Value, St Ha wa H w [.row 94 4 v53 n54 cs55, .row 3 1 v59 n60 cs61, .row 84 1 v65 n66 cs67] ∧ Inc H49 H ∧ Els (up wa.heap.size H) (eL eI 1) 1 cs67 s64 ∧ (bl cs67).Nodup ∧ f 6 = v65) | .rt x => x.elim) hq ⟨_, _, _, _, (S51.sel [0, 1, 3] (by decide) rfl), (Inc.rfl _), (els33.mono (up_mono (r39.run.inc.tr r52.run.inc))), (show (bl []).Nodup from List.nodup_nil), rfl, rfl, rfl, rfl, rfl⟩ ?_ ?_) ?_
    ·
      clear hp hq
      rintro i64 y63 s64 f140 w139 ⟨H136, v65, n66, cs67, S137, i138, els68, nd69, k141, k142, k143, k144, k145⟩ hx64 o202 hp
      refine FW.seq (FW.seq (FW.region ?_))
      refine FL.v (E.move k141) ?_
      refine FL.v (E.move k142) ?_
      refine FL.v (E.lenP te56 rfl p1) ?_
      refine FL.v (E.lssT rfl rfl (lss_len hx64)) ?_
      refine FL.nil ?_
      refine FW.condT rfl rfl ?_
      refine FW.skip (FW.seq (FW.block (FW.region ?_)))
      refine FL.v (E.move k143) ?_
      obtain ⟨v146, w147, run148, S149⟩ := S137.buildSlice (P := Tryz.prog) te84 [] (parts := #[]) (cells := []) rfl szs_nil fc_nil ones_nil (Nat.le_of_ble_eq_true rfl)
      have els150 : Els (up wa.heap.size H136) eI 1 [] [] := Els.nil
      refine FL.v (E.buildSlice (B0) run148) ?_
      refine FL.v (E.move k144) ?_
      refine FL.v (E.move k145) ?_
      refine FL.v (E.move k141) ?_
      obtain ⟨x157, hx158, hp⟩ := bnd hp
      obtain ⟨p151, cs152, pt153, l154, at155, rel156⟩ := S149.row_at (i := 2) rfl els62 (by decide) hx158
      obtain rfl := eI_open rel156
      refine FL.v (E.indexAddr te84 rfl rfl pt153) ?_
      refine FL.v (E.load rfl (run_load0 Tryz.isAgg3 at155 rfl)) ?_
      obtain ⟨x165, hx166, hp⟩ := bnd hp
      obtain ⟨p159, cs160, pt161, l162, at163, rel164⟩ := S149.row_at (i := 1) rfl els56 (by decide) hx166
      obtain ⟨v167, rfl, h168⟩ := eResStep_open rel164
      refine FL.v (E.indexAddr te46 rfl rfl pt161) ?_
      refine FL.v (E.fieldAddr tf94_0 rfl) ?_
      refine FL.v (E.load rfl (run_load1 Tryz.isAgg84 at163 rfl)) ?_
      obtain ⟨xs169, hz170, hp⟩ := bnd hp
      obtain ⟨v171, w174, n172, cs173, run175, S176, els177⟩ := S149.appendP (P := Tryz.prog) upI te84 (i := 0) rfl els150 (h168.mono (up_mono i138)) hz170
      have S176 : St Ha wa H136 w174 [.row 3 1 v171 n172 cs173, .row 94 4 v53 n54 cs55, .row 3 1 v59 n60 cs61, .row 84 1 v65 n66 cs67] := S176
      refine FL.v (E.append rfl rfl run175) ?_
      obtain ⟨H179, S180, i181, h182, nv183⟩ := S176.sealRowU (i := 0) (l' := [.row 94 4 v53 n54 cs55, .row 3 1 v59 n60 cs61, .row 84 1 v65 n66 cs67]) rfl els177 (by decide) rfl
      obtain ⟨v184, w185, run186, S187⟩ := S180.buildSlice (P := Tryz.prog) te22 [v171] (parts := #[(0, v171)]) (cells := [v171]) rfl (szs_cons (cells_size h182.cells) szs_nil) (fc_cons h182.cells fc_nil) (ones_cons h182.one ones_nil) (Nat.le_of_ble_eq_true rfl)
      have els188 : Els (up wa.heap.size H179) (eL eI 1) 1 [v171] [xs169] := (Els.snoc (H := (up wa.heap.size H179)) (E := (eL eI 1)) (k := 1) (c := [v171]) (x := xs169) Els.nil rfl ⟨_, rfl, h182⟩)
      have nd189 : (bl [v171]).Nodup := by exact nd_one v171
      refine FL.v (E.buildSlice (B1 rfl) run186) ?_
      obtain ⟨xs190, hz191, hp⟩ := bnd hp
      obtain ⟨v192, w195, n193, cs194, run196, S197, els198, ce199⟩ := S187.appendO (P := Tryz.prog) te22 (i := 3) (j := 0) rfl (els68.mono (up_mono i181)) rfl els188 hz191
      have S197 : St Ha wa H179 w195 [.row 84 1 v184 1 [v171], .row 94 4 v53 n54 cs55, .row 3 1 v59 n60 cs61, .row 84 1 v192 n193 cs194] := S197
      have nd200 : (bl cs194).Nodup := by rw [ce199]; exact nd_app nd69 nd189 (Els.dom (els68.mono (upI.tr (Inc.rfl _)))) (by exact nv183)
      have S201 : St Ha wa H179 w195 [.row 94 4 v53 n54 cs55, .row 3 1 v59 n60 cs61, .row 84 1 v192 n193 cs194] := S197.drop 0
      refine FL.v (E.append rfl rfl run196) ?_
      refine FL.v (E.assign (v := v192) rfl) ?_
      refine FL.nil (FW.region ?_)
      refine FL.v (E.move k141) ?_
      refine FL.v (E.add rfl rfl) ?_
      refine FL.v (E.assign (v := Value.int .i64 (wr (((i64 : Nat) : Int) + 1))) rfl) ?_
      refine FL.nil ?_
      obtain rfl := Option.some.inj hp
      exact ⟨rfl, ⟨_, _, _, _, S201, (i138.tr i181), els198, nd200, (nat_succ rfl (lt_of_get hx64) (p1.mono ((((i27.tr r39.run.inc).tr r52.run.inc).tr i138).tr i181)).le), k142, rfl, k144, k145⟩⟩
    ·
      clear hp hq
      rintro s64 f213 w212 ⟨H209, v65, n66, cs67, S210, i211, els68, nd69, k214, k215, k216, k217, k218⟩
      refine FW.seq (FW.seq (FW.region ?_))
      refine FL.v (E.move k214) ?_
      refine FL.v (E.move k215) ?_
      refine FL.v (E.lenP te56 rfl p1) ?_
      refine FL.v (E.lss rfl rfl) ?_
      refine FL.nil ?_
      refine FW.condF rfl dlt_len ?_
      refine FW.exit ?_
      exact ⟨nofun, rfl, ⟨_, _, _, _, S210, i211, els68, nd69, k216⟩⟩
    ·
      clear hq
      intro e f207 w206 hD
      rcases q64 with s64 | x64
      ·
        obtain ⟨rfl, hD⟩ := hD
        obtain ⟨H203, v65, n66, cs67, S204, i205, els68, nd69, k208⟩ := hD
        replace hp := el_go hp
        refine FW.seq (FW.region ?_)
        refine FL.v (E.move k208) ?_
        refine FL.v (E.assign (v := v65) rfl) ?_
        refine FL.v (E.assign (v := Value.bool true) rfl) ?_
        refine FL.nil ?_
        refine FW.ret ?_
        obtain rfl := Option.some.inj hp
        exact ⟨.inr rfl, res2 rfl rfl rfl ⟨_, _, _, _, rfl, (S204.sel [2] (by decide) rfl), els68, nd69⟩⟩
      · exact x64.elim

theorem w_impl_within {Ha : GH} {wa : World} (hs : Sl Ha wa) (a0 : Int) (a1 : Int) (a2 : Int) :
  Calls Tryz.prog 108 #[Value.int .i64 a0, Value.int .i64 a1, Value.int .i64 a2] wa (Sc Ha wa (Value.bool (PF.impl_within a0 a1 a2))) := by
 obtain ⟨r, hp⟩ : ∃ r, (PF.impl_within a0 a1 a2) = r := ⟨_, rfl⟩
 rw [hp]
 unfold PF.impl_within at hp
 have S0 := St.init hs
 refine calls_go (N := 15) (args := [Value.int .i64 a0, Value.int .i64 a1, Value.int .i64 a2]) Tryz.func108 rfl rfl rfl ?_
 refine FW.seq (FW.region ?_)
 refine FL.v (E.assign (v := Value.bool false) rfl) ?_
 refine FL.nil (FW.seq (FW.region ?_))
 refine FL.v (E.move (v := Value.int .i64 a0) rfl) ?_
 refine FL.v (E.move (v := Value.int .i64 a1) rfl) ?_
 refine FL.v (E.geq rfl rfl) ?_
 refine FL.v (E.move (v := Value.bool (decide (a1 ≤ a0))) rfl) ?_
 refine FL.cut 4 (fun f w => ∃ H : GH, St Ha wa H w [] ∧ Inc Ha H ∧ f 14 = Value.bool (bif (decide (a1 ≤ a0)) then (decide (a0 ≤ a2)) else false)) ?_ ?_
 ·
  rcases bcase (decide (a1 ≤ a0)) with c27 | c27
  ·
   refine FL.val (wF_yes rfl rfl rfl c27) rfl rfl (E.move (v := Value.int .i64 a0) rfl) ?_
   refine FL.val (wF_yes rfl rfl rfl c27) rfl rfl (E.move (v := Value.int .i64 a2) rfl) ?_
   refine FL.val (wF_yes rfl rfl rfl c27) rfl rfl (E.leq rfl rfl) ?_
   refine FL.v (E.pickT rfl c27 rfl) ?_
   exact FL.nil ⟨rfl, _, S0, (Inc.rfl _), (congrArg Value.bool (bifT c27).symm)⟩
  ·
   refine FL.skip (wF_no rfl rfl rfl c27) rfl ?_
   refine FL.skip (wF_no rfl rfl rfl c27) rfl ?_
   refine FL.skip (wF_no rfl rfl rfl c27) rfl ?_
   refine FL.v (E.pickF rfl c27 rfl) ?_
   exact FL.nil ⟨rfl, _, S0, (Inc.rfl _), (congrArg Value.bool (bifF c27).symm)⟩
 rintro f26 w25 ⟨H22, S23, i24, k28⟩
 refine FL.v (E.assign k28) ?_
 refine FL.nil ?_
 refine FW.ret ?_
 obtain rfl := hp
 exact ⟨.inr rfl, res1 rfl rfl ⟨rfl, S23.back⟩⟩

theorem w_impl_isLiteral {Ha : GH} {wa : World} (hs : Sl Ha wa) (a0 : Int) (a1 : Int) :
  Calls Tryz.prog 199 #[Value.int .i64 a0, Value.int .i64 a1] wa (Sc Ha wa (Value.bool (PF.impl_isLiteral a0 a1))) := by
 obtain ⟨r, hp⟩ : ∃ r, (PF.impl_isLiteral a0 a1) = r := ⟨_, rfl⟩
 rw [hp]
 unfold PF.impl_isLiteral at hp
 have S0 := St.init hs
 refine calls_go (N := 14) (args := [Value.int .i64 a0, Value.int .i64 a1]) Tryz.func199 rfl rfl rfl ?_
 refine FW.seq (FW.region ?_)
 refine FL.v (E.assign (v := Value.bool false) rfl) ?_
 refine FL.nil (FW.seq (FW.region ?_))
 refine FL.v (E.move (v := Value.int .i64 a1) rfl) ?_
 refine FL.v (E.neq rfl rfl) ?_
 refine FL.v (E.move (v := Value.bool (!(a1 == 0))) rfl) ?_
 refine FL.cut 6 (fun f w => ∃ H : GH, St Ha wa H w [] ∧ Inc Ha H ∧ f 13 = Value.bool (bif (!(a1 == 0)) then (PF.impl_within a1 (wr (-a0)) a0) else false)) ?_ ?_
 ·
  rcases bcase (!(a1 == 0)) with c30 | c30
  ·
   refine FL.val (wF_yes rfl rfl rfl c30) rfl rfl (E.move (v := Value.int .i64 a1) rfl) ?_
   refine FL.val (wF_yes rfl rfl rfl c30) rfl rfl (E.move (v := Value.int .i64 a0) rfl) ?_
   refine FL.val (wF_yes rfl rfl rfl c30) rfl rfl (E.neg rfl) ?_
   refine FL.val (wF_yes rfl rfl rfl c30) rfl rfl (E.move (v := Value.int .i64 a0) rfl) ?_
   refine FL.call (wF_yes rfl rfl rfl c30) rfl rfl (E.call Tryz.call108 (A3 rfl rfl rfl)) (w_impl_within S0.sl a1 (wr (-a0)) a0) ?_
   rintro e w31 ⟨rfl, r32⟩
   refine ⟨_, rfl, ?_⟩
   have S33 := S0.call r32
   refine FL.v (E.pickT rfl c30 rfl) ?_
   exact FL.nil ⟨rfl, _, S33, (Inc.rfl _), (congrArg Value.bool (bifT c30).symm)⟩
  ·
   refine FL.skip (wF_no rfl rfl rfl c30) rfl ?_
   refine FL.skip (wF_no rfl rfl rfl c30) rfl ?_
   refine FL.skip (wF_no rfl rfl rfl c30) rfl ?_
   refine FL.skip (wF_no rfl rfl rfl c30) rfl ?_
   refine FL.skip (wF_no rfl rfl rfl c30) rfl ?_
   refine FL.v (E.pickF rfl c30 rfl) ?_
   exact FL.nil ⟨rfl, _, S0, (Inc.rfl _), (congrArg Value.bool (bifF c30).symm)⟩
 rintro f29 w28 ⟨H25, S26, i27, k34⟩
 refine FL.v (E.assign k34) ?_
 refine FL.nil ?_
 refine FW.ret ?_
 obtain rfl := hp
 exact ⟨.inr rfl, res1 rfl rfl ⟨rfl, S26.back⟩⟩

theorem w_impl_abs {Ha : GH} {wa : World} (hs : Sl Ha wa) (a0 : Int) :
  Calls Tryz.prog 166 #[Value.int .i64 a0] wa (Sc Ha wa (Value.int .i64 (PF.impl_abs a0))) := by
 obtain ⟨r, hp⟩ : ∃ r, (PF.impl_abs a0) = r := ⟨_, rfl⟩
 rw [hp]
 unfold PF.impl_abs at hp
 have S0 := St.init hs
 refine calls_go (N := 7) (args := [Value.int .i64 a0]) Tryz.func166 rfl rfl rfl ?_
 refine FW.seq (FW.region ?_)
 refine FL.v (E.assign (v := Value.int .i64 0) rfl) ?_
 refine FL.nil (FW.seq (FW.region ?_))
 refine FL.v (E.move (v := Value.int .i64 a0) rfl) ?_
 refine FL.v (E.move (v := Value.int .i64 a0) rfl) ?_
 refine FL.v (E.neg rfl) ?_
 refine FL.v (E.max2 rfl rfl) ?_
 refine FL.v (E.assign (v := Value.int .i64 (mx a0 (wr (-a0)))) rfl) ?_
 refine FL.nil ?_
 refine FW.ret ?_
 obtain rfl := hp
 exact ⟨.inr rfl, res1 rfl rfl ⟨rfl, S0.back⟩⟩

theorem w_impl_varsOk {Ha : GH} {wa : World} (hs : Sl Ha wa) (a0 : Int) :
  Calls Tryz.prog 109 #[Value.int .i64 a0] wa (Sc Ha wa (Value.bool (PF.impl_varsOk a0))) := by
 obtain ⟨r, hp⟩ : ∃ r, (PF.impl_varsOk a0) = r := ⟨_, rfl⟩
 rw [hp]
 unfold PF.impl_varsOk at hp
 have S0 := St.init hs
 refine calls_go (N := 5) (args := [Value.int .i64 a0]) Tryz.func109 rfl rfl rfl ?_
 refine FW.seq (FW.region ?_)
 refine FL.v (E.assign (v := Value.bool false) rfl) ?_
 refine FL.nil (FW.seq (FW.region ?_))
 refine FL.v (E.move (v := Value.int .i64 a0) rfl) ?_
 refine FL.call rfl rfl rfl (E.call Tryz.call108 (A3 rfl rfl rfl)) (w_impl_within S0.sl a0 0 12) ?_
 rintro e w21 ⟨rfl, r22⟩
 refine ⟨_, rfl, ?_⟩
 have S23 := S0.call r22
 refine FL.v (E.assign (v := Value.bool (PF.impl_within a0 0 12)) rfl) ?_
 refine FL.nil ?_
 refine FW.ret ?_
 obtain rfl := hp
 exact ⟨.inr rfl, res1 rfl rfl ⟨rfl, S23.back⟩⟩

theorem w_impl_IsClause {Ha : GH} {wa : World} (hs : Sl Ha wa) (a0 : Int) (v1 : Value) (a1 : List Int) (p1 : RSl Ha eI 1 v1 a1) {r : Bool} (hp : (PF.impl_IsClause a0 a1) = some r) :
  Calls Tryz.prog 151 #[Value.int .i64 a0, v1] wa (Sc Ha wa (Value.bool r)) := by
 unfold PF.impl_IsClause at hp
 have S0 := St.init hs
 refine calls_go (N := 36) (args := [Value.int .i64 a0, v1]) Tryz.func151 rfl rfl rfl ?_
 refine FW.seq (FW.region ?_)
 refine FL.v (E.assign (v := Value.bool false) rfl) ?_
 refine FL.nil (FW.seq (FW.seq (FW.region ?_)))
 refine FL.v (E.move (v := v1) rfl) ?_
 refine FL.v (E.lenP te84 rfl p1) ?_
 refine FL.v (E.move (v := Value.int .i64 0) rfl) ?_
 refine FL.nil ?_
 obtain ⟨q22, hq, hp⟩ := bndR hp
 refine FW.block ?_
 refine FW.mono (FW.forL (S := Unit) (X := Bool) (fun (i22 : Nat) (s22 : Unit) f w => ∃ H : GH, St Ha wa H w [] ∧ Inc Ha H ∧ f 9 = Value.int .i64 ((i22 : Nat) : Int) ∧ f 0 = Value.int .i64 a0 ∧ f 1 = v1 ∧ f 7 = v1 ∧ f 8 = Value.int .i64 (len a1)) (fun q e f w => match q with | .go s22 => e = Exit.exit 0 ∧ (∃ H : GH, St Ha wa H w [] ∧ Inc Ha H ∧ f 0 = Value.int .i64 a0) | .rt x => ((e = Exit.ret) ∧ (fun e f w => (e = Exit.normal ∨ e = Exit.ret) ∧ ∀ a, Fr (δ := []) 36 a f → ∃ v, (results Tryz.f151 a.tmps).run Tryz.prog w = .ok v w ∧ (Sc Ha wa (Value.bool x)) (.returned v) w) e f w)) hq ⟨_, S0, (Inc.rfl _), rfl, rfl, rfl, rfl, rfl⟩ ?_ ?_) ?_
 ·
  clear hp hq
  rintro i22 y21 s22 f121 w120 ⟨H117, S118, i119, k122, k123, k124, k125, k126⟩ hx22 o211 hp
  refine FW.seq (FW.region ?_)
  refine FL.v (E.lssT k122 k126 (lss_len hx22)) ?_
  refine FL.nil (FW.seq ?_)
  refine FW.condT rfl rfl ?_
  refine FW.skip (FW.seq (FW.block (FW.seq (FW.region ?_))))
  refine FL.v (E.move k122) ?_
  obtain ⟨p127, cs128, pt129, l130, at131, rel132⟩ := p1.at (ix_nat hx22)
  obtain rfl := eI_open rel132
  refine FL.v (E.indexAddr te84 k125 k122 pt129) ?_
  refine FL.v (E.load rfl (run_load0 Tryz.isAgg3 ((at131.mono i119).now S118.sl) rfl)) ?_
  refine FL.v (E.assign (v := Value.int .i64 ((i22 : Nat) : Int)) rfl) ?_
  refine FL.v (E.assign (v := Value.int .i64 y21) rfl) ?_
  refine FL.nil (FW.seq ?_)
  refine FW.draw (fun w' => Run w120.heap.size H117 w120 H117 w') (by kernel_rfl) (by kernel_rfl) (run_drew S118.sl) ?_
  refine FD.val rfl rfl rfl (fun w' hw' => (E.move k123)) ?_
  refine FD.val rfl rfl rfl (fun w' hw' => (E.move (v := Value.int .i64 y21) rfl)) ?_
  refine FD.call rfl rfl rfl (fun w' hw' => (E.call Tryz.call199 (A2 rfl rfl))) (fun w' hw' => Calls.cls hw' (w_impl_isLiteral (S118.call hw').sl a0 y21)) ?_
  refine FD.val rfl rfl rfl (fun w' hw' => (E.not rfl)) ?_
  refine FD.val rfl rfl rfl (fun w' hw' => (E.move (v := Value.bool (!(PF.impl_isLiteral a0 y21))) rfl)) ?_
  obtain ⟨t164, hqt164, hp⟩ := bnd hp
  refine FD.cut 14 (fun f => f 0 = Value.int .i64 a0 ∧ f 1 = v1 ∧ f 7 = v1 ∧ f 8 = Value.int .i64 (len a1) ∧ f 9 = Value.int .i64 ((i22 : Nat) : Int) ∧ f 32 = Value.bool t164) ?_ ?_
  ·
   clear hp; have hp := hqt164; clear hqt164
   rcases ifB hp with ⟨c170, hp⟩ | ⟨c170, hp⟩
   ·
    refine FD.skip (wF_no rfl rfl rfl c170) rfl ?_
    refine FD.skip (wF_no rfl rfl rfl c170) rfl ?_
    refine FD.skip (wF_no rfl rfl rfl c170) rfl ?_
    refine FD.skip (wF_undef rfl rfl rfl) rfl ?_
    refine FD.skip (wF_undef rfl rfl rfl) rfl ?_
    refine FD.skip (wF_undef rfl rfl rfl) rfl ?_
    refine FD.skip (wF_undef rfl rfl rfl) rfl ?_
    refine FD.skip (wF_undef rfl rfl rfl) rfl ?_
    refine FD.skip (wF_undef rfl rfl rfl) rfl ?_
    refine FD.skip (wF_undef rfl rfl rfl) rfl ?_
    refine FD.skip (wF_undef rfl rfl rfl) rfl ?_
    refine FD.skip (wF_undef rfl rfl rfl) rfl ?_
    refine FD.skip (wF_no rfl rfl rfl c170) rfl ?_
    obtain rfl := Option.some.inj hp
    refine FD.val rfl rfl rfl (fun w' hw' => (E.pickT rfl c170 rfl)) ?_
    exact FD.nil ⟨k123, k124, k125, k126, k122, rfl⟩
   ·
    refine FD.val (wF_yes rfl rfl rfl c170) rfl rfl (fun w' hw' => (E.move (v := Value.int .i64 ((i22 : Nat) : Int)) rfl)) ?_
    refine FD.val (wF_yes rfl rfl rfl c170) rfl rfl (fun w' hw' => (E.gtr rfl rfl)) ?_
    refine FD.val (wF_yes rfl rfl rfl c170) rfl rfl (fun w' hw' => (E.move (v := Value.bool (decide (0 < ((i22 : Nat) : Int)))) rfl)) ?_
    obtain ⟨t179, hqt179, hp⟩ := bnd hp
    refine FD.cut 10 (fun f => f 0 = Value.int .i64 a0 ∧ f 1 = v1 ∧ f 7 = v1 ∧ f 8 = Value.int .i64 (len a1) ∧ f 9 = Value.int .i64 ((i22 : Nat) : Int) ∧ f 18 = Value.bool (!(PF.impl_isLiteral a0 y21)) ∧ f 31 = Value.bool t179) ?_ ?_
    ·
     clear hp; have hp := hqt179; clear hqt179
     rcases ifB hp with ⟨c185, hp⟩ | ⟨c185, hp⟩
     ·
      refine FD.val (wF_yes rfl rfl rfl c185) rfl rfl (fun w' hw' => (E.move (v := Value.int .i64 y21) rfl)) ?_
      refine FD.call (wF_yes rfl rfl rfl c185) rfl rfl (fun w' hw' => (E.call Tryz.call166 (A1 rfl))) (fun w' hw' => Calls.cls hw' (w_impl_abs (S118.call hw').sl y21)) ?_
      refine FD.val (wF_yes rfl rfl rfl c185) rfl rfl (fun w' hw' => (E.move k124)) ?_
      refine FD.val (wF_yes rfl rfl rfl c185) rfl rfl (fun w' hw' => (E.move (v := Value.int .i64 ((i22 : Nat) : Int)) rfl)) ?_
      refine FD.val (wF_yes rfl rfl rfl c185) rfl rfl (fun w' hw' => (E.sub rfl rfl)) ?_
      obtain ⟨x192, hx193, hp⟩ := bnd hp
      obtain ⟨p186, cs187, pt188, l189, at190, rel191⟩ := p1.at hx193
      obtain rfl := eI_open rel191
      refine FD.val (wF_yes rfl rfl rfl c185) rfl rfl (fun w' hw' => (E.indexAddr te84 rfl rfl pt188)) ?_
      refine FD.val (wF_yes rfl rfl rfl c185) rfl rfl (fun w' hw' => (E.load rfl (run_load0 Tryz.isAgg3 ((at190.mono i119).now (S118.call hw').sl) rfl))) ?_
      refine FD.call (wF_yes rfl rfl rfl c185) rfl rfl (fun w' hw' => (E.call Tryz.call166 (A1 rfl))) (fun w' hw' => Calls.cls hw' (w_impl_abs (S118.call hw').sl x192)) ?_
      refine FD.val (wF_yes rfl rfl rfl c185) rfl rfl (fun w' hw' => (E.leq rfl rfl)) ?_
      obtain rfl := Option.some.inj hp
      refine FD.val (wF_yes rfl rfl rfl c170) rfl rfl (fun w' hw' => (E.pickT rfl c185 rfl)) ?_
      exact FD.nil ⟨k123, k124, k125, k126, k122, rfl, rfl⟩
     ·
      refine FD.skip (wF_no rfl rfl rfl c185) rfl ?_
      refine FD.skip (wF_no rfl rfl rfl c185) rfl ?_
      refine FD.skip (wF_no rfl rfl rfl c185) rfl ?_
      refine FD.skip (wF_no rfl rfl rfl c185) rfl ?_
      refine FD.skip (wF_no rfl rfl rfl c185) rfl ?_
      refine FD.skip (wF_no rfl rfl rfl c185) rfl ?_
      refine FD.skip (wF_no rfl rfl rfl c185) rfl ?_
      refine FD.skip (wF_no rfl rfl rfl c185) rfl ?_
      refine FD.skip (wF_no rfl rfl rfl c185) rfl ?_
      obtain rfl := Option.some.inj hp
      refine FD.val (wF_yes rfl rfl rfl c170) rfl rfl (fun w' hw' => (E.pickF rfl c185 rfl)) ?_
      exact FD.nil ⟨k123, k124, k125, k126, k122, rfl, rfl⟩
    rintro f184 ⟨k194, k195, k196, k197, k198, k199, k200⟩
    obtain rfl := Option.some.inj hp
    refine FD.val rfl rfl rfl (fun w' hw' => (E.pickF k199 c170 k200)) ?_
    exact FD.nil ⟨k194, k195, k196, k197, k198, rfl⟩
  rintro f169 ⟨k201, k202, k203, k204, k205, k206⟩
  refine FD.nil ?_
  intro w207 r209
  have S208 := S118.call r209
  rcases ifB hp with ⟨c210, hp⟩ | ⟨c210, hp⟩
  ·
   refine FW.condT k206 c210 ?_
   refine FW.seq (FW.region ?_)
   refine FL.v (E.assign (v := Value.bool false) rfl) ?_
   refine FL.nil ?_
   refine FW.ret ?_
   obtain rfl := Option.some.inj hp
   exact ⟨nofun, rfl, ⟨.inr rfl, res1 rfl rfl ⟨rfl, S208.back⟩⟩⟩
  ·
   refine FW.condF k206 c210 ?_
   refine FW.skip (FW.region ?_)
   refine FL.v (E.add k205 rfl) ?_
   refine FL.v (E.move (v := Value.int .i64 (wr (((i22 : Nat) : Int) + 1))) rfl) ?_
   refine FL.nil ?_
   obtain rfl := Option.some.inj hp
   exact ⟨rfl, ⟨_, S208, i119, (nat_succ rfl (lt_of_get hx22) (p1.mono i119).le), k201, k202, k203, k204⟩⟩
 ·
  clear hp hq
  rintro s22 f225 w224 ⟨H221, S222, i223, k226, k227, k228, k229, k230⟩
  refine FW.seq (FW.region ?_)
  refine FL.v (E.lss k226 k230) ?_
  refine FL.nil (FW.seq ?_)
  refine FW.condF rfl dlt_len ?_
  refine FW.exit ?_
  exact ⟨nofun, rfl, ⟨_, S222, i223, k227⟩⟩
 ·
  clear hq
  intro e f216 w215 hD
  rcases q22 with s22 | x22
  ·
   obtain ⟨rfl, hD⟩ := hD
   obtain ⟨H212, S213, i214, k217⟩ := hD
   replace hp := el_go hp
   refine FW.seq (FW.region ?_)
   refine FL.v (E.move k217) ?_
   refine FL.call rfl rfl rfl (E.call Tryz.call109 (A1 rfl)) (w_impl_varsOk S213.sl a0) ?_
   rintro e w218 ⟨rfl, r219⟩
   refine ⟨_, rfl, ?_⟩
   have S220 := S213.call r219
   refine FL.v (E.assign (v := Value.bool (PF.impl_varsOk a0)) rfl) ?_
   refine FL.nil ?_
   refine FW.ret ?_
   obtain rfl := Option.some.inj hp
   exact ⟨.inr rfl, res1 rfl rfl ⟨rfl, S220.back⟩⟩
  ·
   obtain ⟨he, hL⟩ := hD
   replace hp := el_rt hp
   obtain rfl := Option.some.inj hp
   subst he
   exact hL

theorem w_impl_IsCnf {Ha : GH} {wa : World} (hs : Sl Ha wa) (a0 : Cnf) (v0_1 : Value) (p0_1 : RSl Ha (eL eI 1) 1 v0_1 a0.clauses) {r : Bool} (hp : (PF.impl_IsCnf a0) = some r) :
  Calls Tryz.prog 95 #[Value.agg #[Value.int .i64 a0.vars, v0_1]] wa (Sc Ha wa (Value.bool r)) := by
 unfold PF.impl_IsCnf at hp
 have S0 := St.init hs
 refine calls_go (N := 27) (args := [Value.agg #[Value.int .i64 a0.vars, v0_1]]) Tryz.func95 rfl rfl rfl ?_
 refine FW.seq (FW.region ?_)
 obtain ⟨b21, w22, run23, S24⟩ := S0.box (P := Tryz.prog) 30 [Value.int .i64 a0.vars, v0_1] (v := Value.agg #[Value.int .i64 a0.vars, v0_1]) rfl (ones_cons rfl (ones_cons p0_1.one ones_nil))
 refine FL.v (E.box rfl run23) ?_
 obtain ⟨H25, S26, i27, at28⟩ := S24.sealBox (i := 0) (l' := []) rfl rfl
 refine FL.v (E.assign (v := Value.bool false) rfl) ?_
 refine FL.nil (FW.seq (FW.seq (FW.region ?_)))
 refine FL.v (E.fieldAddr tf30_1 rfl) ?_
 refine FL.v (E.load rfl (run_load1 Tryz.isAgg22 (at28.now S26.sl) rfl)) ?_
 refine FL.v (E.lenP te22 rfl p0_1) ?_
 refine FL.v (E.move (v := Value.int .i64 0) rfl) ?_
 refine FL.nil ?_
 obtain ⟨q30, hq, hp⟩ := bndR hp
 refine FW.block ?_
 refine FW.mono (FW.forL (S := Unit) (X := Bool) (fun (i30 : Nat) (s30 : Unit) f w => ∃ H : GH, St Ha wa H w [] ∧ Inc H25 H ∧ f 8 = Value.int .i64 ((i30 : Nat) : Int) ∧ f 1 = Value.pointer (some ⟨b21, 0, none⟩) ∧ f 6 = v0_1 ∧ f 7 = Value.int .i64 (len a0.clauses)) (fun q e f w => match q with | .go s30 => e = Exit.exit 0 ∧ (∃ H : GH, St Ha wa H w [] ∧ Inc H25 H ∧ f 1 = Value.pointer (some ⟨b21, 0, none⟩)) | .rt x => ((e = Exit.ret) ∧ (fun e f w => (e = Exit.normal ∨ e = Exit.ret) ∧ ∀ a, Fr (δ := []) 27 a f → ∃ v, (results Tryz.f95 a.tmps).run Tryz.prog w = .ok v w ∧ (Sc Ha wa (Value.bool x)) (.returned v) w) e f w)) hq ⟨_, S26, (Inc.rfl _), rfl, rfl, rfl, rfl⟩ ?_ ?_) ?_
 ·
  clear hp hq
  rintro i30 y29 s30 f58 w57 ⟨H54, S55, i56, k59, k60, k61, k62⟩ hx30 o77 hp
  refine FW.seq (FW.region ?_)
  refine FL.v (E.lssT k59 k62 (lss_len hx30)) ?_
  refine FL.nil (FW.seq ?_)
  refine FW.condT rfl rfl ?_
  refine FW.skip (FW.seq (FW.block (FW.seq (FW.region ?_))))
  obtain ⟨p63, cs64, pt65, l66, at67, rel68⟩ := p0_1.at (ix_nat hx30)
  obtain ⟨v69, rfl, h70⟩ := eL_open rel68
  refine FL.v (E.indexAddr te22 k61 k59 pt65) ?_
  refine FL.v (E.load rfl (run_load0 Tryz.isAgg84 ((at67.mono (i27.tr i56)).now S55.sl) rfl)) ?_
  refine FL.v (E.assign (v := v69) rfl) ?_
  refine FL.nil (FW.seq (FW.region ?_))
  refine FL.v (E.fieldAddr tf30_0 k60) ?_
  refine FL.v (E.load rfl (run_load1 Tryz.isAgg3 ((at28.mono i56).now S55.sl) rfl)) ?_
  refine FL.v (E.move (v := v69) rfl) ?_
  obtain ⟨r71, hr72, hp⟩ := bnd hp
  refine FL.call rfl rfl rfl (E.call Tryz.call151 (A2 rfl rfl)) (w_impl_IsClause S55.sl a0.vars v69 y29 (h70.mono (i27.tr i56)) hr72) ?_
  rintro e w73 ⟨rfl, r74⟩
  refine ⟨_, rfl, ?_⟩
  have S75 := S55.call r74
  refine FL.v (E.not rfl) ?_
  refine FL.nil ?_
  rcases ifB hp with ⟨c76, hp⟩ | ⟨c76, hp⟩
  ·
   refine FW.condT rfl c76 ?_
   refine FW.seq (FW.region ?_)
   refine FL.v (E.assign (v := Value.bool false) rfl) ?_
   refine FL.nil ?_
   refine FW.ret ?_
   obtain rfl := Option.some.inj hp
   exact ⟨nofun, rfl, ⟨.inr rfl, res1 rfl rfl ⟨rfl, S75.back⟩⟩⟩
  ·
   refine FW.condF rfl c76 ?_
   refine FW.skip (FW.region ?_)
   refine FL.v (E.add k59 rfl) ?_
   refine FL.v (E.move (v := Value.int .i64 (wr (((i30 : Nat) : Int) + 1))) rfl) ?_
   refine FL.nil ?_
   obtain rfl := Option.some.inj hp
   exact ⟨rfl, ⟨_, S75, i56, (nat_succ rfl (lt_of_get hx30) (p0_1.mono (i27.tr i56)).le), k60, k61, k62⟩⟩
 ·
  clear hp hq
  rintro s30 f99 w98 ⟨H95, S96, i97, k100, k101, k102, k103⟩
  refine FW.seq (FW.region ?_)
  refine FL.v (E.lss k100 k103) ?_
  refine FL.nil (FW.seq ?_)
  refine FW.condF rfl dlt_len ?_
  refine FW.exit ?_
  exact ⟨nofun, rfl, ⟨_, S96, i97, k101⟩⟩
 ·
  clear hq
  intro e f82 w81 hD
  rcases q30 with s30 | x30
  ·
   obtain ⟨rfl, hD⟩ := hD
   obtain ⟨H78, S79, i80, k83⟩ := hD
   replace hp := el_go hp
   refine FW.seq (FW.region ?_)
   refine FL.v (E.fieldAddr tf30_0 k83) ?_
   refine FL.v (E.load rfl (run_load1 Tryz.isAgg3 ((at28.mono i80).now S79.sl) rfl)) ?_
   refine FL.call rfl rfl rfl (E.call Tryz.call109 (A1 rfl)) (w_impl_varsOk S79.sl a0.vars) ?_
   rintro e w84 ⟨rfl, r85⟩
   refine ⟨_, rfl, ?_⟩
   have S86 := S79.call r85
   refine FL.v (E.move (v := Value.bool (PF.impl_varsOk a0.vars)) rfl) ?_
   refine FL.cut 5 (fun f w => ∃ H : GH, St Ha wa H w [] ∧ Inc H78 H ∧ f 26 = Value.bool (bif (PF.impl_varsOk a0.vars) then (decide ((len a0.clauses) ≤ 60)) else false)) ?_ ?_
   ·
    rcases bcase (PF.impl_varsOk a0.vars) with c93 | c93
    ·
     refine FL.val (wF_yes rfl rfl rfl c93) rfl rfl (E.fieldAddr tf30_1 k83) ?_
     refine FL.val (wF_yes rfl rfl rfl c93) rfl rfl (E.load rfl (run_load1 Tryz.isAgg22 ((at28.mono i80).now S86.sl) rfl)) ?_
     refine FL.val (wF_yes rfl rfl rfl c93) rfl rfl (E.lenP te22 rfl p0_1) ?_
     refine FL.val (wF_yes rfl rfl rfl c93) rfl rfl (E.leq rfl rfl) ?_
     refine FL.v (E.pickT rfl c93 rfl) ?_
     exact FL.nil ⟨rfl, _, S86, (Inc.rfl _), (congrArg Value.bool (bifT c93).symm)⟩
    ·
     refine FL.skip (wF_no rfl rfl rfl c93) rfl ?_
     refine FL.skip (wF_no rfl rfl rfl c93) rfl ?_
     refine FL.skip (wF_no rfl rfl rfl c93) rfl ?_
     refine FL.skip (wF_no rfl rfl rfl c93) rfl ?_
     refine FL.v (E.pickF rfl c93 rfl) ?_
     exact FL.nil ⟨rfl, _, S86, (Inc.rfl _), (congrArg Value.bool (bifF c93).symm)⟩
   rintro f92 w91 ⟨H88, S89, i90, k94⟩
   refine FL.v (E.assign k94) ?_
   refine FL.nil ?_
   refine FW.ret ?_
   obtain rfl := Option.some.inj hp
   exact ⟨.inr rfl, res1 rfl rfl ⟨rfl, S89.back⟩⟩
  ·
   obtain ⟨he, hL⟩ := hD
   replace hp := el_rt hp
   obtain rfl := Option.some.inj hp
   subst he
   exact hL

theorem w_impl_isVar {Ha : GH} {wa : World} (hs : Sl Ha wa) (a0 : Int) (a1 : Int) :
  Calls Tryz.prog 202 #[Value.int .i64 a0, Value.int .i64 a1] wa (Sc Ha wa (Value.bool (PF.impl_isVar a0 a1))) := by
 obtain ⟨r, hp⟩ : ∃ r, (PF.impl_isVar a0 a1) = r := ⟨_, rfl⟩
 rw [hp]
 unfold PF.impl_isVar at hp
 have S0 := St.init hs
 refine calls_go (N := 8) (args := [Value.int .i64 a0, Value.int .i64 a1]) Tryz.func202 rfl rfl rfl ?_
 refine FW.seq (FW.region ?_)
 refine FL.v (E.assign (v := Value.bool false) rfl) ?_
 refine FL.nil (FW.seq (FW.region ?_))
 refine FL.v (E.move (v := Value.int .i64 a1) rfl) ?_
 refine FL.v (E.move (v := Value.int .i64 a0) rfl) ?_
 refine FL.call rfl rfl rfl (E.call Tryz.call108 (A3 rfl rfl rfl)) (w_impl_within S0.sl a1 1 a0) ?_
 rintro e w21 ⟨rfl, r22⟩
 refine ⟨_, rfl, ?_⟩
 have S23 := S0.call r22
 refine FL.v (E.assign (v := Value.bool (PF.impl_within a1 1 a0)) rfl) ?_
 refine FL.nil ?_
 refine FW.ret ?_
 obtain rfl := hp
 exact ⟨.inr rfl, res1 rfl rfl ⟨rfl, S23.back⟩⟩

theorem w_impl_nodeOk {Ha : GH} {wa : World} (hs : Sl Ha wa) (a0 : Cnf) (v0_1 : Value) (p0_1 : RSl Ha (eL eI 1) 1 v0_1 a0.clauses) (a1 : Int) (a2 : TreeNode) :
  Calls Tryz.prog 214 #[Value.agg #[Value.int .i64 a0.vars, v0_1], Value.int .i64 a1, Value.agg #[Value.int .i64 a2.var, Value.int .i64 a2.low, Value.int .i64 a2.high, Value.int .i64 a2.clause]] wa (Sc Ha wa (Value.bool (PF.impl_nodeOk a0 a1 a2))) := by
 obtain ⟨r, hp⟩ : ∃ r, (PF.impl_nodeOk a0 a1 a2) = r := ⟨_, rfl⟩
 rw [hp]
 unfold PF.impl_nodeOk at hp
 have S0 := St.init hs
 refine calls_go (N := 58) (args := [Value.agg #[Value.int .i64 a0.vars, v0_1], Value.int .i64 a1, Value.agg #[Value.int .i64 a2.var, Value.int .i64 a2.low, Value.int .i64 a2.high, Value.int .i64 a2.clause]]) Tryz.func214 rfl rfl rfl ?_
 refine FW.seq (FW.region ?_)
 obtain ⟨b21, w22, run23, S24⟩ := S0.box (P := Tryz.prog) 30 [Value.int .i64 a0.vars, v0_1] (v := Value.agg #[Value.int .i64 a0.vars, v0_1]) rfl (ones_cons rfl (ones_cons p0_1.one ones_nil))
 refine FL.v (E.box rfl run23) ?_
 obtain ⟨H25, S26, i27, at28⟩ := S24.sealBox (i := 0) (l' := []) rfl rfl
 obtain ⟨b29, w30, run31, S32⟩ := S26.box (P := Tryz.prog) 98 [Value.int .i64 a2.var, Value.int .i64 a2.low, Value.int .i64 a2.high, Value.int .i64 a2.clause] (v := Value.agg #[Value.int .i64 a2.var, Value.int .i64 a2.low, Value.int .i64 a2.high, Value.int .i64 a2.clause]) rfl (ones_cons rfl (ones_cons rfl (ones_cons rfl (ones_cons rfl ones_nil))))
 refine FL.v (E.box rfl run31) ?_
 obtain ⟨H33, S34, i35, at36⟩ := S32.sealBox (i := 0) (l' := []) rfl rfl
 refine FL.v (E.assign (v := Value.bool false) rfl) ?_
 refine FL.nil (FW.seq (FW.seq (FW.region ?_)))
 refine FL.v (E.fieldAddr tf98_0 rfl) ?_
 refine FL.v (E.load rfl (run_load1 Tryz.isAgg3 (at36.now S34.sl) rfl)) ?_
 refine FL.v (E.eql rfl rfl) ?_
 refine FL.nil ?_
 rcases ifT hp with ⟨c37, hp⟩ | ⟨c37, hp⟩
 ·
  refine FW.condT rfl c37 ?_
  refine FW.seq (FW.region ?_)
  refine FL.v (E.fieldAddr tf98_1 rfl) ?_
  refine FL.v (E.load rfl (run_load1 Tryz.isAgg3 (at36.now S34.sl) rfl)) ?_
  refine FL.v (E.eql rfl rfl) ?_
  refine FL.v (E.move (v := Value.bool (a2.low == 0)) rfl) ?_
  refine FL.cut 4 (fun f w => ∃ H : GH, St Ha wa H w [] ∧ Inc H33 H ∧ f 3 = Value.pointer (some ⟨b21, 0, none⟩) ∧ f 5 = Value.pointer (some ⟨b29, 0, none⟩) ∧ f 17 = Value.bool (bif (a2.low == 0) then (a2.high == 0) else false)) ?_ ?_
  ·
   rcases bcase (a2.low == 0) with c44 | c44
   ·
    refine FL.val (wF_yes rfl rfl rfl c44) rfl rfl (E.fieldAddr tf98_2 rfl) ?_
    refine FL.val (wF_yes rfl rfl rfl c44) rfl rfl (E.load rfl (run_load1 Tryz.isAgg3 (at36.now S34.sl) rfl)) ?_
    refine FL.val (wF_yes rfl rfl rfl c44) rfl rfl (E.eql rfl rfl) ?_
    refine FL.v (E.pickT rfl c44 rfl) ?_
    exact FL.nil ⟨rfl, _, S34, (Inc.rfl _), rfl, rfl, (congrArg Value.bool (bifT c44).symm)⟩
   ·
    refine FL.skip (wF_no rfl rfl rfl c44) rfl ?_
    refine FL.skip (wF_no rfl rfl rfl c44) rfl ?_
    refine FL.skip (wF_no rfl rfl rfl c44) rfl ?_
    refine FL.v (E.pickF rfl c44 rfl) ?_
    exact FL.nil ⟨rfl, _, S34, (Inc.rfl _), rfl, rfl, (congrArg Value.bool (bifF c44).symm)⟩
  rintro f43 w42 ⟨H39, S40, i41, k45, k46, k47⟩
  refine FL.v (E.move k47) ?_
  refine FL.cut 8 (fun f w => ∃ H : GH, St Ha wa H w [] ∧ Inc H39 H ∧ f 26 = Value.bool (bif (bif (a2.low == 0) then (a2.high == 0) else false) then (PF.impl_within a2.clause 0 (wr ((len a0.clauses) - 1))) else false)) ?_ ?_
  ·
   rcases bcase (bif (a2.low == 0) then (a2.high == 0) else false) with c57 | c57
   ·
    refine FL.val (wF_yes rfl rfl rfl c57) rfl rfl (E.fieldAddr tf98_3 k46) ?_
    refine FL.val (wF_yes rfl rfl rfl c57) rfl rfl (E.load rfl (run_load1 Tryz.isAgg3 ((at36.mono i41).now S40.sl) rfl)) ?_
    refine FL.val (wF_yes rfl rfl rfl c57) rfl rfl (E.fieldAddr tf30_1 k45) ?_
    refine FL.val (wF_yes rfl rfl rfl c57) rfl rfl (E.load rfl (run_load1 Tryz.isAgg22 ((at28.mono (i35.tr i41)).now S40.sl) rfl)) ?_
    refine FL.val (wF_yes rfl rfl rfl c57) rfl rfl (E.lenP te22 rfl p0_1) ?_
    refine FL.val (wF_yes rfl rfl rfl c57) rfl rfl (E.sub rfl rfl) ?_
    refine FL.call (wF_yes rfl rfl rfl c57) rfl rfl (E.call Tryz.call108 (A3 rfl rfl rfl)) (w_impl_within S40.sl a2.clause 0 (wr ((len a0.clauses) - 1))) ?_
    rintro e w58 ⟨rfl, r59⟩
    refine ⟨_, rfl, ?_⟩
    have S60 := S40.call r59
    refine FL.v (E.pickT rfl c57 rfl) ?_
    exact FL.nil ⟨rfl, _, S60, (Inc.rfl _), (congrArg Value.bool (bifT c57).symm)⟩
   ·
    refine FL.skip (wF_no rfl rfl rfl c57) rfl ?_
    refine FL.skip (wF_no rfl rfl rfl c57) rfl ?_
    refine FL.skip (wF_no rfl rfl rfl c57) rfl ?_
    refine FL.skip (wF_no rfl rfl rfl c57) rfl ?_
    refine FL.skip (wF_no rfl rfl rfl c57) rfl ?_
    refine FL.skip (wF_no rfl rfl rfl c57) rfl ?_
    refine FL.skip (wF_no rfl rfl rfl c57) rfl ?_
    refine FL.v (E.pickF rfl c57 rfl) ?_
    exact FL.nil ⟨rfl, _, S40, (Inc.rfl _), (congrArg Value.bool (bifF c57).symm)⟩
  rintro f56 w55 ⟨H52, S53, i54, k61⟩
  refine FL.v (E.assign k61) ?_
  refine FL.nil ?_
  refine FW.ret ?_
  obtain rfl := hp
  exact ⟨.inr rfl, res1 rfl rfl ⟨rfl, S53.back⟩⟩
 ·
  refine FW.condF rfl c37 ?_
  refine FW.skip (FW.seq (FW.region ?_))
  refine FL.v (E.fieldAddr tf30_0 rfl) ?_
  refine FL.v (E.load rfl (run_load1 Tryz.isAgg3 ((at28.mono i35).now S34.sl) rfl)) ?_
  refine FL.v (E.fieldAddr tf98_0 rfl) ?_
  refine FL.v (E.load rfl (run_load1 Tryz.isAgg3 (at36.now S34.sl) rfl)) ?_
  refine FL.call rfl rfl rfl (E.call Tryz.call202 (A2 rfl rfl)) (w_impl_isVar S34.sl a0.vars a2.var) ?_
  rintro e w62 ⟨rfl, r63⟩
  refine ⟨_, rfl, ?_⟩
  have S64 := S34.call r63
  refine FL.v (E.move (v := Value.bool (PF.impl_isVar a0.vars a2.var)) rfl) ?_
  refine FL.cut 6 (fun f w => ∃ H : GH, St Ha wa H w [] ∧ Inc H33 H ∧ f 1 = Value.int .i64 a1 ∧ f 5 = Value.pointer (some ⟨b29, 0, none⟩) ∧ f 38 = Value.bool (bif (PF.impl_isVar a0.vars a2.var) then (!(a2.low == a2.high)) else false)) ?_ ?_
  ·
   rcases bcase (PF.impl_isVar a0.vars a2.var) with c71 | c71
   ·
    refine FL.val (wF_yes rfl rfl rfl c71) rfl rfl (E.fieldAddr tf98_1 rfl) ?_
    refine FL.val (wF_yes rfl rfl rfl c71) rfl rfl (E.load rfl (run_load1 Tryz.isAgg3 (at36.now S64.sl) rfl)) ?_
    refine FL.val (wF_yes rfl rfl rfl c71) rfl rfl (E.fieldAddr tf98_2 rfl) ?_
    refine FL.val (wF_yes rfl rfl rfl c71) rfl rfl (E.load rfl (run_load1 Tryz.isAgg3 (at36.now S64.sl) rfl)) ?_
    refine FL.val (wF_yes rfl rfl rfl c71) rfl rfl (E.neq rfl rfl) ?_
    refine FL.v (E.pickT rfl c71 rfl) ?_
    exact FL.nil ⟨rfl, _, S64, (Inc.rfl _), rfl, rfl, (congrArg Value.bool (bifT c71).symm)⟩
   ·
    refine FL.skip (wF_no rfl rfl rfl c71) rfl ?_
    refine FL.skip (wF_no rfl rfl rfl c71) rfl ?_
    refine FL.skip (wF_no rfl rfl rfl c71) rfl ?_
    refine FL.skip (wF_no rfl rfl rfl c71) rfl ?_
    refine FL.skip (wF_no rfl rfl rfl c71) rfl ?_
    refine FL.v (E.pickF rfl c71 rfl) ?_
    exact FL.nil ⟨rfl, _, S64, (Inc.rfl _), rfl, rfl, (congrArg Value.bool (bifF c71).symm)⟩
  rintro f70 w69 ⟨H66, S67, i68, k72, k73, k74⟩
  refine FL.v (E.move k74) ?_
  refine FL.cut 6 (fun f w => ∃ H : GH, St Ha wa H w [] ∧ Inc H66 H ∧ f 1 = Value.int .i64 a1 ∧ f 5 = Value.pointer (some ⟨b29, 0, none⟩) ∧ f 45 = Value.bool (bif (bif (PF.impl_isVar a0.vars a2.var) then (!(a2.low == a2.high)) else false) then (PF.impl_within a2.low 0 (wr (a1 - 1))) else false)) ?_ ?_
  ·
   rcases bcase (bif (PF.impl_isVar a0.vars a2.var) then (!(a2.low == a2.high)) else false) with c84 | c84
   ·
    refine FL.val (wF_yes rfl rfl rfl c84) rfl rfl (E.fieldAddr tf98_1 k73) ?_
    refine FL.val (wF_yes rfl rfl rfl c84) rfl rfl (E.load rfl (run_load1 Tryz.isAgg3 ((at36.mono i68).now S67.sl) rfl)) ?_
    refine FL.val (wF_yes rfl rfl rfl c84) rfl rfl (E.move k72) ?_
    refine FL.val (wF_yes rfl rfl rfl c84) rfl rfl (E.sub rfl rfl) ?_
    refine FL.call (wF_yes rfl rfl rfl c84) rfl rfl (E.call Tryz.call108 (A3 rfl rfl rfl)) (w_impl_within S67.sl a2.low 0 (wr (a1 - 1))) ?_
    rintro e w85 ⟨rfl, r86⟩
    refine ⟨_, rfl, ?_⟩
    have S87 := S67.call r86
    refine FL.v (E.pickT rfl c84 rfl) ?_
    exact FL.nil ⟨rfl, _, S87, (Inc.rfl _), k72, k73, (congrArg Value.bool (bifT c84).symm)⟩
   ·
    refine FL.skip (wF_no rfl rfl rfl c84) rfl ?_
    refine FL.skip (wF_no rfl rfl rfl c84) rfl ?_
    refine FL.skip (wF_no rfl rfl rfl c84) rfl ?_
    refine FL.skip (wF_no rfl rfl rfl c84) rfl ?_
    refine FL.skip (wF_no rfl rfl rfl c84) rfl ?_
    refine FL.v (E.pickF rfl c84 rfl) ?_
    exact FL.nil ⟨rfl, _, S67, (Inc.rfl _), k72, k73, (congrArg Value.bool (bifF c84).symm)⟩
  rintro f83 w82 ⟨H79, S80, i81, k88, k89, k90⟩
  refine FL.v (E.move k90) ?_
  refine FL.cut 6 (fun f w => ∃ H : GH, St Ha wa H w [] ∧ Inc H79 H ∧ f 5 = Value.pointer (some ⟨b29, 0, none⟩) ∧ f 52 = Value.bool (bif (bif (bif (PF.impl_isVar a0.vars a2.var) then (!(a2.low == a2.high)) else false) then (PF.impl_within a2.low 0 (wr (a1 - 1))) else false) then (PF.impl_within a2.high 0 (wr (a1 - 1))) else false)) ?_ ?_
  ·
   rcases bcase (bif (bif (PF.impl_isVar a0.vars a2.var) then (!(a2.low == a2.high)) else false) then (PF.impl_within a2.low 0 (wr (a1 - 1))) else false) with c100 | c100
   ·
    refine FL.val (wF_yes rfl rfl rfl c100) rfl rfl (E.fieldAddr tf98_2 k89) ?_
    refine FL.val (wF_yes rfl rfl rfl c100) rfl rfl (E.load rfl (run_load1 Tryz.isAgg3 ((at36.mono (i68.tr i81)).now S80.sl) rfl)) ?_
    refine FL.val (wF_yes rfl rfl rfl c100) rfl rfl (E.move k88) ?_
    refine FL.val (wF_yes rfl rfl rfl c100) rfl rfl (E.sub rfl rfl) ?_
    refine FL.call (wF_yes rfl rfl rfl c100) rfl rfl (E.call Tryz.call108 (A3 rfl rfl rfl)) (w_impl_within S80.sl a2.high 0 (wr (a1 - 1))) ?_
    rintro e w101 ⟨rfl, r102⟩
    refine ⟨_, rfl, ?_⟩
    have S103 := S80.call r102
    refine FL.v (E.pickT rfl c100 rfl) ?_
    exact FL.nil ⟨rfl, _, S103, (Inc.rfl _), k89, (congrArg Value.bool (bifT c100).symm)⟩
   ·
    refine FL.skip (wF_no rfl rfl rfl c100) rfl ?_
    refine FL.skip (wF_no rfl rfl rfl c100) rfl ?_
    refine FL.skip (wF_no rfl rfl rfl c100) rfl ?_
    refine FL.skip (wF_no rfl rfl rfl c100) rfl ?_
    refine FL.skip (wF_no rfl rfl rfl c100) rfl ?_
    refine FL.v (E.pickF rfl c100 rfl) ?_
    exact FL.nil ⟨rfl, _, S80, (Inc.rfl _), k89, (congrArg Value.bool (bifF c100).symm)⟩
  rintro f99 w98 ⟨H95, S96, i97, k104, k105⟩
  refine FL.v (E.move k105) ?_
  refine FL.cut 4 (fun f w => ∃ H : GH, St Ha wa H w [] ∧ Inc H95 H ∧ f 57 = Value.bool (bif (bif (bif (bif (PF.impl_isVar a0.vars a2.var) then (!(a2.low == a2.high)) else false) then (PF.impl_within a2.low 0 (wr (a1 - 1))) else false) then (PF.impl_within a2.high 0 (wr (a1 - 1))) else false) then (a2.clause == 0) else false)) ?_ ?_
  ·
   rcases bcase (bif (bif (bif (PF.impl_isVar a0.vars a2.var) then (!(a2.low == a2.high)) else false) then (PF.impl_within a2.low 0 (wr (a1 - 1))) else false) then (PF.impl_within a2.high 0 (wr (a1 - 1))) else false) with c112 | c112
   ·
    refine FL.val (wF_yes rfl rfl rfl c112) rfl rfl (E.fieldAddr tf98_3 k104) ?_
    refine FL.val (wF_yes rfl rfl rfl c112) rfl rfl (E.load rfl (run_load1 Tryz.isAgg3 ((at36.mono ((i68.tr i81).tr i97)).now S96.sl) rfl)) ?_
    refine FL.val (wF_yes rfl rfl rfl c112) rfl rfl (E.eql rfl rfl) ?_
    refine FL.v (E.pickT rfl c112 rfl) ?_
    exact FL.nil ⟨rfl, _, S96, (Inc.rfl _), (congrArg Value.bool (bifT c112).symm)⟩
   ·
    refine FL.skip (wF_no rfl rfl rfl c112) rfl ?_
    refine FL.skip (wF_no rfl rfl rfl c112) rfl ?_
    refine FL.skip (wF_no rfl rfl rfl c112) rfl ?_
    refine FL.v (E.pickF rfl c112 rfl) ?_
    exact FL.nil ⟨rfl, _, S96, (Inc.rfl _), (congrArg Value.bool (bifF c112).symm)⟩
  rintro f111 w110 ⟨H107, S108, i109, k113⟩
  refine FL.v (E.assign k113) ?_
  refine FL.nil ?_
  refine FW.ret ?_
  obtain rfl := hp
  exact ⟨.inr rfl, res1 rfl rfl ⟨rfl, S108.back⟩⟩

@[reducible] def p_back233 (Ha : GH) (wa : World) (v : Value) : Ending → World → Prop :=
  fun e w' => ∃ H' b, e = .returned (.func (.func 252) #[] #[.pointer (some ⟨b, 0, none⟩)]) ∧ Run wa.heap.size Ha wa H' w' ∧ CAt H' ⟨b, 0, none⟩ [v]
theorem w_back233 {Ha : GH} {wa : World} (hs : Sl Ha wa) (v : Value) (xs : List TreeNode) (p : RSl Ha eTreeNode 4 v xs) :
    Calls Tryz.prog 233 #[v] wa (p_back233 Ha wa v) := by
  have S0 := St.init hs
  refine calls_go (N := 4) (args := [v]) Tryz.func233 rfl rfl rfl ?_
  refine FW.seq (FW.region ?_)
  obtain ⟨b, w1, run, S1⟩ := S0.box (P := Tryz.prog) 56 [v] (v := v) p.cells (ones_cons p.one ones_nil)
  refine FL.v (E.box rfl run) ?_
  refine FL.v (E.assign rfl) ?_
  refine FL.nil (FW.seq (FW.region ?_))
  refine FL.v (E.makeFunc A0 (A1 rfl)) ?_
  refine FL.v (E.assign rfl) ?_
  refine FL.nil ?_
  refine FW.ret ?_
  obtain ⟨H1, S2, i1, at1⟩ := S1.sealBox (i := 0) (l' := []) rfl rfl
  exact ⟨.inr rfl, res1 rfl rfl ⟨H1, b, rfl, S2.run, at1⟩⟩
theorem w_iter252 {Hs : GH} {b : Addr} {v : Value} {xs : List TreeNode} (hb : CAt Hs b [v]) (hv : RSl Hs eTreeNode 4 v xs) (L : List (Value × TreeNode × Nat)) (hn : L.map Prod.snd = xs.zipIdx.reverse)
    (hA : ∀ j a, L[j]? = some a → a.2.2 + j + 1 = xs.length ∧ ∃ p cs, PtrOf 4 v (a.2.2 : Int) p ∧ cs.length = 4 ∧ CAt Hs p cs ∧ eTreeNode.rel Hs cs a.2.1 ∧ a.1 = (fun cs => Value.agg cs.toArray) cs) :
    IterOk Tryz.prog Hs 252 #[.pointer (some b)] (fun a => [Value.int .i64 (a.2.2 : Int), a.1]) L := by
  have hL : L.length = xs.length := by simpa using congrArg List.length hn
  have hle := hv.le
  intro l K Kx W hsl hy h0
  refine calls_go (N := 19) (args := [Value.func (.yield l) #[] #[], Value.pointer (some b)]) Tryz.func252 rfl rfl rfl ?_
  refine FW.seq (FW.region ?_)
  refine FL.v (E.load rfl (run_load0 Tryz.isAgg56 (hb.now (hsl 0 W h0)) rfl)) ?_
  refine FL.v (E.lenP te56 rfl hv) ?_
  refine FL.v (E.sub rfl rfl) ?_
  refine FL.v (E.assign rfl) ?_
  refine FL.nil (FW.block ?_)
  refine FW.loopG (fun m f w => ∃ j, j ≤ xs.length ∧ m = xs.length - j ∧ K j w ∧ f 0 = Value.func (.yield l) #[] #[] ∧ f 1 = Value.pointer (some b) ∧ f 3 = Value.int .i64 ((xs.length : Int) - 1 - j)) ?_ (m := xs.length) ⟨0, Nat.zero_le _, rfl, h0, rfl, rfl, congrArg (Value.int .i64) (by
    rw [wr_of] <;> simp only [len, maxLen] at * <;> omega)⟩
  rintro m f w ⟨j, hj, rfl, hk, k0, k1, k3⟩
  refine FW.seq (FW.seq (FW.region ?_))
  refine FL.v (E.move k3) ?_
  refine FL.v (E.geq rfl rfl) ?_
  refine FL.nil ?_
  by_cases hlt : j < xs.length
  · refine FW.condT rfl (decide_eq_true (by omega)) ?_
    refine FW.skip (FW.seq (FW.block (FW.seq (FW.region ?_))))
    obtain ⟨a, ha⟩ : ∃ a, L[j]? = some a := ⟨_, List.getElem?_eq_getElem (by omega)⟩
    obtain ⟨hlen, p, cs, hp, hl, hc, hr, hu⟩ := hA j a ha
    have k3' : f 3 = Value.int .i64 ((a.2.2 : Nat) : Int) := by rw [k3]; exact congrArg _ (by omega)
    refine FL.v (E.move k0) ?_
    refine FL.v (E.move k3') ?_
    refine FL.v (E.load k1 (run_load0 Tryz.isAgg56 (hb.now (hsl j w hk)) rfl)) ?_
    refine FL.v (E.move k3') ?_
    refine FL.v (E.indexAddr te56 rfl rfl hp) ?_
    refine FL.v (E.load (v := Value.agg cs.toArray) rfl (run_loadA Tryz.isAgg98 Tryz.sizeOf98 (hc.now (hsl j w hk)) hl)) ?_
    refine FL.yield rfl rfl rfl (E.yield (args := #[Value.int .i64 ((a.2.2 : Nat) : Int), Value.agg cs.toArray]) rfl (A2 rfl rfl)) (args := [Value.int .i64 ((a.2.2 : Nat) : Int), Value.agg cs.toArray]) (fun n => by have h := hy j a w ha hk n; have e : a.1 = Value.agg cs.toArray := hu; rw [← e]; exact h) ?_
    rintro e w' (⟨rfl, hk'⟩ | ⟨rfl, hk'⟩)
    · refine ⟨_, rfl, ?_⟩
      refine FL.v (E.not rfl) ?_
      refine FL.nil ?_
      refine FW.condF rfl rfl ?_
      refine FW.skip (FW.region ?_)
      refine FL.v (E.move k3) ?_
      refine FL.v (E.sub rfl rfl) ?_
      refine FL.v (E.assign rfl) ?_
      refine FL.nil ?_
      refine ⟨xs.length - (j + 1), by omega, j + 1, hlt, rfl, hk', k0, k1, congrArg (Value.int .i64) ?_⟩
      simp only [maxLen] at *
      rw [wr_of] <;> omega
    · refine ⟨_, rfl, ?_⟩
      refine FL.v (E.not rfl) ?_
      refine FL.nil ?_
      refine FW.condT rfl rfl ?_
      refine FW.ret ?_
      exact ⟨.inr rfl, res0 rfl ⟨⟨_, rfl⟩, .inr hk'⟩⟩
  · refine FW.condF rfl (decide_eq_false (by omega)) ?_
    refine FW.exit ?_
    have e : j = L.length := by omega
    exact ⟨.inl rfl, res0 rfl ⟨⟨_, rfl⟩, .inl (e ▸ hk)⟩⟩

end Go.Proofs
