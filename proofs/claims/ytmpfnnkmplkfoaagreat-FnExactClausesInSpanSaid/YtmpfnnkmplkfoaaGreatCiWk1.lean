/- Part of the walks and plain laws behind the claim: it proves helpers, under no condition beyond their own. -/
import Derived.Test.YtmpfnnkmplkfoaaGreatMr16
import Derived.Test.YtmpfnnkmplkfoaaGreatMr14
import Derived.Test.YtmpfnnkmplkfoaaGreatMr19
import Derived.Test.YtmpfnnkmplkfoaaGreatMr20
import Derived.Test.YtmpfnnkmplkfoaaGreatMr21
import Derived.Test.YtmpfnnkmplkfoaaGreatMr22
import Derived.Test.YtmpfnnkmplkfoaaGreatMr23
import Derived.Test.YtmpfnnkmplkfoaaGreatMr24
import Derived.Test.YtmpfnnkmplkfoaaGreatMr25
import Derived.Test.YtmpfnnkmplkfoaaGreatMr26
import Derived.Test.YtmpfnnkmplkfoaaGreatMr27
import Derived.Test.YtmpfnnkmplkfoaaGreatMr33
import Derived.Test.YtmpfnnkmplkfoaaGreatCiSh
import Derived.Test.YtmpfnnkmplkfoaaGreatCiPf
import Derived.Test.YtmpfnnkmplkfoaaGreatProg
set_option linter.unusedVariables false
set_option maxRecDepth 100000
namespace Go.Proofs
open Go.Mr Go.Pu Go.PF Go.RowKit

def eCnf : Enc Cnf := ⟨fun H cs s => ∃ v0, cs = [Value.int .i64 s.vars, v0] ∧ RSl H (eL eI 1) 1 v0 s.clauses, fun hi ⟨v0, h, h0⟩ => ⟨_, h, h0.mono hi⟩, by rintro H cs s ⟨v0, rfl, h0⟩; exact (ones_cons rfl (ones_cons h0.one ones_nil)), by rintro H cs s ⟨v0, rfl, h0⟩ b hb; obtain ⟨u, hu, hn⟩ := mem_bl hb; simp only [List.mem_cons, List.not_mem_nil, or_false] at hu; rcases hu with rfl | rfl <;> first | (cases hn; done) | exact h0.dom b (mem_bl1 hn)⟩
theorem eCnf_open {H : GH} {cs : List Value} {s : Cnf} (h : eCnf.rel H cs s) : ∃ v0, cs = [Value.int .i64 s.vars, v0] ∧ RSl H (eL eI 1) 1 v0 s.clauses := h

def eResStep : Enc ResStep := ⟨fun H cs s => ∃ v0, cs = [v0, Value.int .i64 s.left, Value.int .i64 s.right, Value.int .i64 s.pivot] ∧ RSl H eI 1 v0 s.clause, fun hi ⟨v0, h, h0⟩ => ⟨_, h, h0.mono hi⟩, by rintro H cs s ⟨v0, rfl, h0⟩; exact (ones_cons h0.one (ones_cons rfl (ones_cons rfl (ones_cons rfl ones_nil)))), by rintro H cs s ⟨v0, rfl, h0⟩ b hb; obtain ⟨u, hu, hn⟩ := mem_bl hb; simp only [List.mem_cons, List.not_mem_nil, or_false] at hu; rcases hu with rfl | rfl | rfl | rfl <;> first | (cases hn; done) | exact h0.dom b (mem_bl1 hn)⟩
theorem eResStep_open {H : GH} {cs : List Value} {s : ResStep} (h : eResStep.rel H cs s) : ∃ v0, cs = [v0, Value.int .i64 s.left, Value.int .i64 s.right, Value.int .i64 s.pivot] ∧ RSl H eI 1 v0 s.clause := h

theorem eResStep_loc : LocE eResStep := by rintro H H' cs x ⟨v0, rfl, h0⟩ hb; exact ⟨_, rfl, h0.only eI_flat.rel (fun b q => hb b (bl_get (i := 0) rfl b q))⟩

def eBench : Enc Bench := ⟨fun H cs s => ∃ v0 v1, cs = [Value.int .i64 s.stage, Value.int .i64 s.formula.vars, v0, v1, Value.int .i64 s.wide, Value.int .i64 s.count] ∧ RSl H (eL eI 1) 1 v0 s.formula.clauses ∧ RSl H eResStep 4 v1 s.steps, fun hi ⟨v0, v1, h, h0, h1⟩ => ⟨_, _, h, h0.mono hi, h1.mono hi⟩, by rintro H cs s ⟨v0, v1, rfl, h0, h1⟩; exact (ones_cons rfl (ones_cons rfl (ones_cons h0.one (ones_cons h1.one (ones_cons rfl (ones_cons rfl ones_nil)))))), by rintro H cs s ⟨v0, v1, rfl, h0, h1⟩ b hb; obtain ⟨u, hu, hn⟩ := mem_bl hb; simp only [List.mem_cons, List.not_mem_nil, or_false] at hu; rcases hu with rfl | rfl | rfl | rfl | rfl | rfl <;> first | (cases hn; done) | exact h0.dom b (mem_bl1 hn) | exact h1.dom b (mem_bl1 hn)⟩
theorem eBench_open {H : GH} {cs : List Value} {s : Bench} (h : eBench.rel H cs s) : ∃ v0 v1, cs = [Value.int .i64 s.stage, Value.int .i64 s.formula.vars, v0, v1, Value.int .i64 s.wide, Value.int .i64 s.count] ∧ RSl H (eL eI 1) 1 v0 s.formula.clauses ∧ RSl H eResStep 4 v1 s.steps := h

def el15Work : Enc l15Work := ⟨fun H cs s => ∃ v0 v1, cs = [v0, Value.int .i64 s.most, v1, Value.bool s.ok] ∧ RSl H (eL eI 1) 1 v0 s.now ∧ RSl H (eL eI 1) 1 v1 s.all, fun hi ⟨v0, v1, h, h0, h1⟩ => ⟨_, _, h, h0.mono hi, h1.mono hi⟩, by rintro H cs s ⟨v0, v1, rfl, h0, h1⟩; exact (ones_cons h0.one (ones_cons rfl (ones_cons h1.one (ones_cons rfl ones_nil)))), by rintro H cs s ⟨v0, v1, rfl, h0, h1⟩ b hb; obtain ⟨u, hu, hn⟩ := mem_bl hb; simp only [List.mem_cons, List.not_mem_nil, or_false] at hu; rcases hu with rfl | rfl | rfl | rfl <;> first | (cases hn; done) | exact h0.dom b (mem_bl1 hn) | exact h1.dom b (mem_bl1 hn)⟩
theorem el15Work_open {H : GH} {cs : List Value} {s : l15Work} (h : el15Work.rel H cs s) : ∃ v0 v1, cs = [v0, Value.int .i64 s.most, v1, Value.bool s.ok] ∧ RSl H (eL eI 1) 1 v0 s.now ∧ RSl H (eL eI 1) 1 v1 s.all := h

def eSpaceStep : Enc SpaceStep := ⟨fun H cs s => cs = [Value.int .i64 s.kind, Value.int .i64 s.a, Value.int .i64 s.b, Value.int .i64 s.pivot], fun _ h => h, by rintro H cs s rfl; exact (ones_cons rfl (ones_cons rfl (ones_cons rfl (ones_cons rfl ones_nil)))), by rintro H cs s rfl b hb; obtain ⟨u, hu, hn⟩ := mem_bl hb; simp only [List.mem_cons, List.not_mem_nil, or_false] at hu; rcases hu with rfl | rfl | rfl | rfl <;> cases hn⟩
theorem eSpaceStep_open {H : GH} {cs : List Value} {s : SpaceStep} (h : eSpaceStep.rel H cs s) : cs = [Value.int .i64 s.kind, Value.int .i64 s.a, Value.int .i64 s.b, Value.int .i64 s.pivot] := h

theorem eSpaceStep_flat : FlatE eSpaceStep := by rintro H H' cs x rfl; exact ⟨rfl, rfl⟩

def eTreeNode : Enc TreeNode := ⟨fun H cs s => cs = [Value.int .i64 s.var, Value.int .i64 s.low, Value.int .i64 s.high, Value.int .i64 s.clause], fun _ h => h, by rintro H cs s rfl; exact (ones_cons rfl (ones_cons rfl (ones_cons rfl (ones_cons rfl ones_nil)))), by rintro H cs s rfl b hb; obtain ⟨u, hu, hn⟩ := mem_bl hb; simp only [List.mem_cons, List.not_mem_nil, or_false] at hu; rcases hu with rfl | rfl | rfl | rfl <;> cases hn⟩
theorem eTreeNode_open {H : GH} {cs : List Value} {s : TreeNode} (h : eTreeNode.rel H cs s) : cs = [Value.int .i64 s.var, Value.int .i64 s.low, Value.int .i64 s.high, Value.int .i64 s.clause] := h

theorem eTreeNode_flat : FlatE eTreeNode := by rintro H H' cs x rfl; exact ⟨rfl, rfl⟩

def eweaver : Enc weaver := ⟨fun H cs s => ∃ v0 v1, cs = [v0, v1] ∧ RSl H eResStep 4 v0 s.steps ∧ RSl H eI 1 v1 s.became, fun hi ⟨v0, v1, h, h0, h1⟩ => ⟨_, _, h, h0.mono hi, h1.mono hi⟩, by rintro H cs s ⟨v0, v1, rfl, h0, h1⟩; exact (ones_cons h0.one (ones_cons h1.one ones_nil)), by rintro H cs s ⟨v0, v1, rfl, h0, h1⟩ b hb; obtain ⟨u, hu, hn⟩ := mem_bl hb; simp only [List.mem_cons, List.not_mem_nil, or_false] at hu; rcases hu with rfl | rfl <;> first | (cases hn; done) | exact h0.dom b (mem_bl1 hn) | exact h1.dom b (mem_bl1 hn)⟩
theorem eweaver_open {H : GH} {cs : List Value} {s : weaver} (h : eweaver.rel H cs s) : ∃ v0 v1, cs = [v0, v1] ∧ RSl H eResStep 4 v0 s.steps ∧ RSl H eI 1 v1 s.became := h

def ering : Enc ring := ⟨fun H cs s => cs = [Value.int .i64 s.p, Value.int .i64 s.vars], fun _ h => h, by rintro H cs s rfl; exact (ones_cons rfl (ones_cons rfl ones_nil)), by rintro H cs s rfl b hb; obtain ⟨u, hu, hn⟩ := mem_bl hb; simp only [List.mem_cons, List.not_mem_nil, or_false] at hu; rcases hu with rfl | rfl <;> cases hn⟩
theorem ering_open {H : GH} {cs : List Value} {s : ring} (h : ering.rel H cs s) : cs = [Value.int .i64 s.p, Value.int .i64 s.vars] := h

theorem ering_flat : FlatE ering := by rintro H H' cs x rfl; exact ⟨rfl, rfl⟩

def ealgebra : Enc algebra := ⟨fun H cs s => ∃ v0 v1, cs = [Value.int .i64 s.ring.p, Value.int .i64 s.ring.vars, Value.int .i64 s.f.vars, v0, v1] ∧ RSl H (eL eI 1) 1 v0 s.f.clauses ∧ RSl H (eL eI 1) 1 v1 s.q, fun hi ⟨v0, v1, h, h0, h1⟩ => ⟨_, _, h, h0.mono hi, h1.mono hi⟩, by rintro H cs s ⟨v0, v1, rfl, h0, h1⟩; exact (ones_cons rfl (ones_cons rfl (ones_cons rfl (ones_cons h0.one (ones_cons h1.one ones_nil))))), by rintro H cs s ⟨v0, v1, rfl, h0, h1⟩ b hb; obtain ⟨u, hu, hn⟩ := mem_bl hb; simp only [List.mem_cons, List.not_mem_nil, or_false] at hu; rcases hu with rfl | rfl | rfl | rfl | rfl <;> first | (cases hn; done) | exact h0.dom b (mem_bl1 hn) | exact h1.dom b (mem_bl1 hn)⟩
theorem ealgebra_open {H : GH} {cs : List Value} {s : algebra} (h : ealgebra.rel H cs s) : ∃ v0 v1, cs = [Value.int .i64 s.ring.p, Value.int .i64 s.ring.vars, Value.int .i64 s.f.vars, v0, v1] ∧ RSl H (eL eI 1) 1 v0 s.f.clauses ∧ RSl H (eL eI 1) 1 v1 s.q := h

def eTerm : Enc Term := ⟨fun H cs s => cs = [Value.int .i64 s.mono, Value.int .i64 s.coeff], fun _ h => h, by rintro H cs s rfl; exact (ones_cons rfl (ones_cons rfl ones_nil)), by rintro H cs s rfl b hb; obtain ⟨u, hu, hn⟩ := mem_bl hb; simp only [List.mem_cons, List.not_mem_nil, or_false] at hu; rcases hu with rfl | rfl <;> cases hn⟩
theorem eTerm_open {H : GH} {cs : List Value} {s : Term} (h : eTerm.rel H cs s) : cs = [Value.int .i64 s.mono, Value.int .i64 s.coeff] := h

theorem eTerm_flat : FlatE eTerm := by rintro H H' cs x rfl; exact ⟨rfl, rfl⟩

def eechelon : Enc echelon := ⟨fun H cs s => ∃ v0 v1, cs = [Value.int .i64 s.ring.p, Value.int .i64 s.ring.vars, v0, v1, Value.int .i64 s.many] ∧ RSl H (eL eI 1) 1 v0 s.rows ∧ RSl H (eL eI 1) 1 v1 s.made, fun hi ⟨v0, v1, h, h0, h1⟩ => ⟨_, _, h, h0.mono hi, h1.mono hi⟩, by rintro H cs s ⟨v0, v1, rfl, h0, h1⟩; exact (ones_cons rfl (ones_cons rfl (ones_cons h0.one (ones_cons h1.one (ones_cons rfl ones_nil))))), by rintro H cs s ⟨v0, v1, rfl, h0, h1⟩ b hb; obtain ⟨u, hu, hn⟩ := mem_bl hb; simp only [List.mem_cons, List.not_mem_nil, or_false] at hu; rcases hu with rfl | rfl | rfl | rfl | rfl <;> first | (cases hn; done) | exact h0.dom b (mem_bl1 hn) | exact h1.dom b (mem_bl1 hn)⟩
theorem eechelon_open {H : GH} {cs : List Value} {s : echelon} (h : eechelon.rel H cs s) : ∃ v0 v1, cs = [Value.int .i64 s.ring.p, Value.int .i64 s.ring.vars, v0, v1, Value.int .i64 s.many] ∧ RSl H (eL eI 1) 1 v0 s.rows ∧ RSl H (eL eI 1) 1 v1 s.made := h

def Fn_List_Int_List_Int_to_I (P : Program) (H : GH) (v : Value) (p : (List Int) → (List Int) → Option Int) : Prop :=
 ∀ (H' : GH) (w' : World), Inc H H' → Sl H' w' → ∀ (x0 : List Int) (y0_0 : Value) (_z0_0 : RSl H' eI 1 y0_0 x0) (x1 : List Int) (y1_0 : Value) (_z1_0 : RSl H' eI 1 y1_0 x1) (r : Int), p x0 x1 = some r →
  ∃ (fid : Nat) (cs : Array Value), v = Value.func (.func fid) #[] cs ∧ (∀ args w, (callFunc fid args).run P w = .ok (.enter fid args) w) ∧ Calls P fid (#[y0_0, y1_0] ++ cs) w' (Sc H' w' (Value.int .i64 r))
theorem Fn_List_Int_List_Int_to_I.mono {P : Program} {H H' : GH} {v : Value} {p : (List Int) → (List Int) → Option Int} (h : Fn_List_Int_List_Int_to_I P H v p) (hi : Inc H H') : Fn_List_Int_List_Int_to_I P H' v p :=
 fun H2 w2 h2 => h H2 w2 (hi.tr h2)

def Fn_I_I_to_I (P : Program) (H : GH) (v : Value) (p : Int → Int → Option Int) : Prop :=
 ∀ (H' : GH) (w' : World), Inc H H' → Sl H' w' → ∀ (x0 : Int) (x1 : Int) (r : Int), p x0 x1 = some r →
  ∃ (fid : Nat) (cs : Array Value), v = Value.func (.func fid) #[] cs ∧ (∀ args w, (callFunc fid args).run P w = .ok (.enter fid args) w) ∧ Calls P fid (#[Value.int .i64 x0, Value.int .i64 x1] ++ cs) w' (Sc H' w' (Value.int .i64 r))
theorem Fn_I_I_to_I.mono {P : Program} {H H' : GH} {v : Value} {p : Int → Int → Option Int} (h : Fn_I_I_to_I P H v p) (hi : Inc H H') : Fn_I_I_to_I P H' v p :=
 fun H2 w2 h2 => h H2 w2 (hi.tr h2)

theorem te121 : TE Tryz.prog 121 124 1 (.slice none 0 0) := ⟨Tryz.underlying121, ⟨Tryz.t124, Tryz.type124, rfl, rfl, by decide⟩, rfl, by decide⟩
theorem te124 : TE Tryz.prog 124 179 2 (.agg #[(.int .i64 0), (.int .i64 0)]) := ⟨Tryz.underlying124, ⟨Tryz.t179, Tryz.type179, rfl, rfl, by decide⟩, rfl, by decide⟩
theorem te132 : TE Tryz.prog 132 3 1 (.int .i64 0) := ⟨Tryz.underlying132, ⟨Tryz.t3, Tryz.type3, rfl, rfl, by decide⟩, rfl, by decide⟩
theorem te138 : TE Tryz.prog 138 132 1 (.slice none 0 0) := ⟨Tryz.underlying138, ⟨Tryz.t132, Tryz.type132, rfl, rfl, by decide⟩, rfl, by decide⟩
theorem te22 : TE Tryz.prog 22 84 1 (.slice none 0 0) := ⟨Tryz.underlying22, ⟨Tryz.t84, Tryz.type84, rfl, rfl, by decide⟩, rfl, by decide⟩
theorem te84 : TE Tryz.prog 84 3 1 (.int .i64 0) := ⟨Tryz.underlying84, ⟨Tryz.t3, Tryz.type3, rfl, rfl, by decide⟩, rfl, by decide⟩
theorem tf137_0 : TF Tryz.prog 137 0 0 := ⟨_, _, _, Tryz.underlying137, rfl, rfl, Tryz.sizeOf3, by decide⟩
theorem tf137_1 : TF Tryz.prog 137 1 1 := ⟨_, _, _, Tryz.underlying137, rfl, rfl, Tryz.sizeOf3, by decide⟩
theorem tf140_0 : TF Tryz.prog 140 0 0 := ⟨_, _, _, Tryz.underlying140, rfl, rfl, Tryz.sizeOf137, by decide⟩
theorem tf140_1 : TF Tryz.prog 140 1 2 := ⟨_, _, _, Tryz.underlying140, rfl, rfl, Tryz.sizeOf30, by decide⟩
theorem tf140_2 : TF Tryz.prog 140 2 4 := ⟨_, _, _, Tryz.underlying140, rfl, rfl, Tryz.sizeOf138, by decide⟩
theorem tf179_0 : TF Tryz.prog 179 0 0 := ⟨_, _, _, Tryz.underlying179, rfl, rfl, Tryz.sizeOf3, by decide⟩
theorem tf179_1 : TF Tryz.prog 179 1 1 := ⟨_, _, _, Tryz.underlying179, rfl, rfl, Tryz.sizeOf3, by decide⟩
theorem tf185_0 : TF Tryz.prog 185 0 0 := ⟨_, _, _, Tryz.underlying185, rfl, rfl, Tryz.sizeOf137, by decide⟩
theorem tf185_1 : TF Tryz.prog 185 1 2 := ⟨_, _, _, Tryz.underlying185, rfl, rfl, Tryz.sizeOf138, by decide⟩
theorem tf185_2 : TF Tryz.prog 185 2 3 := ⟨_, _, _, Tryz.underlying185, rfl, rfl, Tryz.sizeOf138, by decide⟩
theorem tf185_3 : TF Tryz.prog 185 3 4 := ⟨_, _, _, Tryz.underlying185, rfl, rfl, Tryz.sizeOf3, by decide⟩
theorem tf24_0 : TF Tryz.prog 24 0 0 := ⟨_, _, _, Tryz.underlying24, rfl, rfl, Tryz.sizeOf3, by decide⟩
theorem tf24_1 : TF Tryz.prog 24 1 1 := ⟨_, _, _, Tryz.underlying24, rfl, rfl, Tryz.sizeOf22, by decide⟩
theorem tf30_0 : TF Tryz.prog 30 0 0 := ⟨_, _, _, Tryz.underlying30, rfl, rfl, Tryz.sizeOf3, by decide⟩
theorem tf30_1 : TF Tryz.prog 30 1 1 := ⟨_, _, _, Tryz.underlying30, rfl, rfl, Tryz.sizeOf22, by decide⟩
theorem w_laws_szIntS {Ha : GH} {wa : World} (hs : Sl Ha wa) (v0 : Value) (a0 : List Int) (p0 : RSl Ha eI 1 v0 a0) (a1 : Int) :
  Calls Tryz.prog 89 #[v0, Value.int .i64 a1] wa (Sc Ha wa (Value.int .i64 (PF.laws_szIntS a0 a1))) := by
 obtain ⟨r, hp⟩ : ∃ r, (PF.laws_szIntS a0 a1) = r := ⟨_, rfl⟩
 rw [hp]
 unfold PF.laws_szIntS at hp
 have S0 := St.init hs
 refine calls_go (N := 12) (args := [v0, Value.int .i64 a1]) Tryz.func89 rfl rfl rfl ?_
 refine FW.seq (FW.region ?_)
 refine FL.v (E.assign (v := Value.int .i64 0) rfl) ?_
 refine FL.nil (FW.seq (FW.region ?_))
 refine FL.v (E.move (v := Value.int .i64 a1) rfl) ?_
 refine FL.v (E.move (v := v0) rfl) ?_
 refine FL.v (E.lenP te84 rfl p0) ?_
 refine FL.v (E.sub rfl rfl) ?_
 refine FL.v (E.assign (v := Value.int .i64 (wr (a1 - (len a0)))) rfl) ?_
 refine FL.nil (FW.seq (FW.seq (FW.region ?_)))
 refine FL.v (E.move (v := Value.int .i64 (wr (a1 - (len a0)))) rfl) ?_
 refine FL.v (E.lss rfl rfl) ?_
 refine FL.nil ?_
 rcases ifT hp with ⟨c21, hp⟩ | ⟨c21, hp⟩
 ·
  refine FW.condT rfl c21 ?_
  refine FW.seq (FW.region ?_)
  refine FL.v (E.assign (v := Value.int .i64 (-1)) rfl) ?_
  refine FL.nil ?_
  refine FW.ret ?_
  obtain rfl := hp
  exact ⟨.inr rfl, res1 rfl rfl ⟨rfl, S0.back⟩⟩
 ·
  refine FW.condF rfl c21 ?_
  refine FW.skip (FW.seq (FW.region ?_))
  refine FL.v (E.move (v := Value.int .i64 (wr (a1 - (len a0)))) rfl) ?_
  refine FL.v (E.assign (v := Value.int .i64 (wr (a1 - (len a0)))) rfl) ?_
  refine FL.nil ?_
  refine FW.ret ?_
  obtain rfl := hp
  exact ⟨.inr rfl, res1 rfl rfl ⟨rfl, S0.back⟩⟩

theorem w_laws_szIntSS {Ha : GH} {wa : World} (hs : Sl Ha wa) (v0 : Value) (a0 : List (List Int)) (p0 : RSl Ha (eL eI 1) 1 v0 a0) (a1 : Int) {r : Int} (hp : (PF.laws_szIntSS a0 a1) = some r) :
  Calls Tryz.prog 42 #[v0, Value.int .i64 a1] wa (Sc Ha wa (Value.int .i64 r)) := by
 unfold PF.laws_szIntSS at hp
 have S0 := St.init hs
 refine calls_go (N := 27) (args := [v0, Value.int .i64 a1]) Tryz.func42 rfl rfl rfl ?_
 refine FW.seq (FW.region ?_)
 refine FL.v (E.assign (v := Value.int .i64 0) rfl) ?_
 refine FL.nil (FW.seq (FW.region ?_))
 refine FL.v (E.move (v := Value.int .i64 a1) rfl) ?_
 refine FL.v (E.move (v := v0) rfl) ?_
 refine FL.v (E.lenP te22 rfl p0) ?_
 refine FL.v (E.sub rfl rfl) ?_
 refine FL.v (E.assign (v := Value.int .i64 (wr (a1 - (len a0)))) rfl) ?_
 refine FL.nil (FW.seq (FW.seq (FW.region ?_)))
 refine FL.v (E.move (v := Value.int .i64 (wr (a1 - (len a0)))) rfl) ?_
 refine FL.v (E.lss rfl rfl) ?_
 refine FL.nil ?_
 rcases ifB hp with ⟨c21, hp⟩ | ⟨c21, hp⟩
 ·
  refine FW.condT rfl c21 ?_
  refine FW.seq (FW.region ?_)
  refine FL.v (E.assign (v := Value.int .i64 (-1)) rfl) ?_
  refine FL.nil ?_
  refine FW.ret ?_
  obtain rfl := Option.some.inj hp
  exact ⟨.inr rfl, res1 rfl rfl ⟨rfl, S0.back⟩⟩
 ·
  refine FW.condF rfl c21 ?_
  refine FW.skip (FW.seq (FW.seq (FW.region ?_)))
  refine FL.v (E.assign (v := Value.int .i64 0) rfl) ?_
  refine FL.nil ?_
  obtain ⟨q23, hq, hp⟩ := bndR hp
  refine FW.block ?_
  refine FW.mono (FW.forL (S := Int) (X := Int) (fun (i23 : Nat) (s23 : Int) f w => ∃ H : GH, St Ha wa H w [] ∧ Inc Ha H ∧ f 5 = Value.int .i64 ((i23 : Nat) : Int) ∧ f 0 = v0 ∧ f 1 = Value.int .i64 s23) (fun q e f w => match q with | .go s23 => e = Exit.exit 0 ∧ (∃ H : GH, St Ha wa H w [] ∧ Inc Ha H ∧ f 1 = Value.int .i64 s23) | .rt x => ((e = Exit.ret) ∧ (fun e f w => (e = Exit.normal ∨ e = Exit.ret) ∧ ∀ a, Fr (δ := []) 27 a f → ∃ v, (results Tryz.f42 a.tmps).run Tryz.prog w = .ok v w ∧ (Sc Ha wa (Value.int .i64 x)) (.returned v) w) e f w)) hq ⟨_, S0, (Inc.rfl _), rfl, rfl, rfl⟩ ?_ ?_) ?_
  ·
   clear hp hq
   rintro i23 y22 s23 f48 w47 ⟨H44, S45, i46, k49, k50, k51⟩ hx23 o64 hp
   refine FW.seq (FW.seq (FW.region ?_))
   refine FL.v (E.move k49) ?_
   refine FL.v (E.move k50) ?_
   refine FL.v (E.lenP te22 rfl p0) ?_
   refine FL.v (E.lssT rfl rfl (lss_len hx23)) ?_
   refine FL.nil ?_
   refine FW.condT rfl rfl ?_
   refine FW.skip (FW.seq (FW.block (FW.seq (FW.region ?_))))
   refine FL.v (E.move k50) ?_
   refine FL.v (E.move k49) ?_
   obtain ⟨p52, cs53, pt54, l55, at56, rel57⟩ := p0.at (ix_nat hx23)
   obtain ⟨v58, rfl, h59⟩ := eL_open rel57
   refine FL.v (E.indexAddr te22 rfl rfl pt54) ?_
   refine FL.v (E.load rfl (run_load0 Tryz.isAgg84 ((at56.mono i46).now S45.sl) rfl)) ?_
   refine FL.v (E.move k51) ?_
   refine FL.call rfl rfl rfl (E.call Tryz.call89 (A2 rfl rfl)) (w_laws_szIntS S45.sl v58 y22 (h59.mono i46) s23) ?_
   rintro e w60 ⟨rfl, r61⟩
   refine ⟨_, rfl, ?_⟩
   have S62 := S45.call r61
   refine FL.v (E.assign (v := Value.int .i64 (PF.laws_szIntS y22 s23)) rfl) ?_
   refine FL.nil (FW.seq (FW.region ?_))
   refine FL.v (E.move (v := Value.int .i64 (PF.laws_szIntS y22 s23)) rfl) ?_
   refine FL.v (E.lss rfl rfl) ?_
   refine FL.nil ?_
   rcases ifB hp with ⟨c63, hp⟩ | ⟨c63, hp⟩
   ·
    refine FW.condT rfl c63 ?_
    refine FW.seq (FW.region ?_)
    refine FL.v (E.assign (v := Value.int .i64 (-1)) rfl) ?_
    refine FL.nil ?_
    refine FW.ret ?_
    obtain rfl := Option.some.inj hp
    exact ⟨nofun, rfl, ⟨.inr rfl, res1 rfl rfl ⟨rfl, S62.back⟩⟩⟩
   ·
    refine FW.condF rfl c63 ?_
    refine FW.skip (FW.region ?_)
    refine FL.v (E.move k49) ?_
    refine FL.v (E.add rfl rfl) ?_
    refine FL.v (E.assign (v := Value.int .i64 (wr (((i23 : Nat) : Int) + 1))) rfl) ?_
    refine FL.nil ?_
    obtain rfl := Option.some.inj hp
    exact ⟨rfl, ⟨_, S62, i46, (nat_succ rfl (lt_of_get hx23) (p0.mono i46).le), k50, rfl⟩⟩
  ·
   clear hp hq
   rintro s23 f75 w74 ⟨H71, S72, i73, k76, k77, k78⟩
   refine FW.seq (FW.seq (FW.region ?_))
   refine FL.v (E.move k76) ?_
   refine FL.v (E.move k77) ?_
   refine FL.v (E.lenP te22 rfl p0) ?_
   refine FL.v (E.lss rfl rfl) ?_
   refine FL.nil ?_
   refine FW.condF rfl dlt_len ?_
   refine FW.exit ?_
   exact ⟨nofun, rfl, ⟨_, S72, i73, k78⟩⟩
  ·
   clear hq
   intro e f69 w68 hD
   rcases q23 with s23 | x23
   ·
    obtain ⟨rfl, hD⟩ := hD
    obtain ⟨H65, S66, i67, k70⟩ := hD
    replace hp := el_go hp
    refine FW.seq (FW.region ?_)
    refine FL.v (E.move k70) ?_
    refine FL.v (E.assign (v := Value.int .i64 s23) rfl) ?_
    refine FL.nil ?_
    refine FW.ret ?_
    obtain rfl := Option.some.inj hp
    exact ⟨.inr rfl, res1 rfl rfl ⟨rfl, S66.back⟩⟩
   ·
    obtain ⟨he, hL⟩ := hD
    replace hp := el_rt hp
    obtain rfl := Option.some.inj hp
    subst he
    exact hL

theorem w_laws_szCnf {Ha : GH} {wa : World} (hs : Sl Ha wa) (a0 : Cnf) (v0_1 : Value) (p0_1 : RSl Ha (eL eI 1) 1 v0_1 a0.clauses) (a1 : Int) {r : Int} (hp : (PF.laws_szCnf a0 a1) = some r) :
  Calls Tryz.prog 8 #[Value.agg #[Value.int .i64 a0.vars, v0_1], Value.int .i64 a1] wa (Sc Ha wa (Value.int .i64 r)) := by
 unfold PF.laws_szCnf at hp
 have S0 := St.init hs
 refine calls_go (N := 12) (args := [Value.agg #[Value.int .i64 a0.vars, v0_1], Value.int .i64 a1]) Tryz.func8 rfl rfl rfl ?_
 refine FW.seq (FW.region ?_)
 obtain ⟨b21, w22, run23, S24⟩ := S0.box (P := Tryz.prog) 24 [Value.int .i64 a0.vars, v0_1] (v := Value.agg #[Value.int .i64 a0.vars, v0_1]) rfl (ones_cons rfl (ones_cons p0_1.one ones_nil))
 refine FL.v (E.box rfl run23) ?_
 obtain ⟨H25, S26, i27, at28⟩ := S24.sealBox (i := 0) (l' := []) rfl rfl
 refine FL.v (E.assign (v := Value.int .i64 0) rfl) ?_
 refine FL.nil (FW.seq (FW.region ?_))
 refine FL.v (E.fieldAddr tf24_1 rfl) ?_
 refine FL.v (E.load rfl (run_load1 Tryz.isAgg22 (at28.now S26.sl) rfl)) ?_
 refine FL.v (E.move (v := Value.int .i64 a1) rfl) ?_
 obtain ⟨r29, hr30, hp⟩ := bnd hp
 refine FL.call rfl rfl rfl (E.call Tryz.call42 (A2 rfl rfl)) (w_laws_szIntSS S26.sl v0_1 a0.clauses (p0_1.mono i27) a1 hr30) ?_
 rintro e w31 ⟨rfl, r32⟩
 refine ⟨_, rfl, ?_⟩
 have S33 := S26.call r32
 refine FL.v (E.assign (v := Value.int .i64 r29) rfl) ?_
 refine FL.nil (FW.seq (FW.seq (FW.region ?_)))
 refine FL.v (E.move (v := Value.int .i64 r29) rfl) ?_
 refine FL.v (E.lss rfl rfl) ?_
 refine FL.nil ?_
 rcases ifB hp with ⟨c34, hp⟩ | ⟨c34, hp⟩
 ·
  refine FW.condT rfl c34 ?_
  refine FW.seq (FW.region ?_)
  refine FL.v (E.assign (v := Value.int .i64 (-1)) rfl) ?_
  refine FL.nil ?_
  refine FW.ret ?_
  obtain rfl := Option.some.inj hp
  exact ⟨.inr rfl, res1 rfl rfl ⟨rfl, S33.back⟩⟩
 ·
  refine FW.condF rfl c34 ?_
  refine FW.skip (FW.seq (FW.region ?_))
  refine FL.v (E.move (v := Value.int .i64 r29) rfl) ?_
  refine FL.v (E.assign (v := Value.int .i64 r29) rfl) ?_
  refine FL.nil ?_
  refine FW.ret ?_
  obtain rfl := Option.some.inj hp
  exact ⟨.inr rfl, res1 rfl rfl ⟨rfl, S33.back⟩⟩

@[reducible] def p_laws_toIntS (Ha : GH) (wa : World) (r : (List Int)) : Ending → World → Prop :=
  fun e w' => ∃ H' : GH, ∃ v0 : Value, ∃ n0 : Nat, ∃ c0 : List Value, e = .returned (v0) ∧ St Ha wa H' w' [.row 3 1 v0 n0 c0] ∧ Els (up wa.heap.size H') eI 1 c0 r
theorem w_laws_toIntS {Ha : GH} {wa : World} (hs : Sl Ha wa) (v0 : Value) (a0 : List Int) (p0 : RSl Ha eI 1 v0 a0) {r : (List Int)} (hp : (PF.laws_toIntS a0) = some r) :
    Calls Tryz.prog 94 #[v0] wa (p_laws_toIntS Ha wa r) := by
  unfold PF.laws_toIntS at hp
  have S0 := St.init hs
  refine calls_go (N := 22) (args := [v0]) Tryz.func94 rfl rfl rfl ?_
  refine FW.seq (FW.region ?_)
  refine FL.v (E.assign (v := Value.slice none 0 0) rfl) ?_
  refine FL.nil (FW.seq (FW.region ?_))
  refine FL.v (E.move (v := v0) rfl) ?_
  refine FL.v (E.lenP te84 rfl p0) ?_
  obtain ⟨xs21, hm22, hp⟩ := bnd hp
  obtain ⟨v23, w24, n28, cs29, run25, S26, els27, hbl30⟩ := S0.makeEls (P := Tryz.prog) te84 (G := (up wa.heap.size Ha)) (En := eI) (x0 := (0 : Int)) hm22 rfl (ones_cons rfl ones_nil) .i64 .i64
  refine FL.v (E.makeSlice rfl rfl run25) ?_
  refine FL.v (E.assign (v := v23) rfl) ?_
  refine FL.nil (FW.seq (FW.seq (FW.region ?_)))
  refine FL.v (E.assign (v := Value.int .i64 0) rfl) ?_
  refine FL.nil ?_
  obtain ⟨q32, hq, hp⟩ := bndR hp
  refine FW.block ?_
  refine FW.mono (FW.forL (S := (List Int)) (X := Empty) (fun (i32 : Nat) (s32 : (List Int)) f w => ∃ H : GH, ∃ v63 : Value, ∃ n64 : Nat, ∃ cs65 : List Value, St Ha wa H w [.row 3 1 v63 n64 cs65] ∧ Inc Ha H ∧ Els (up wa.heap.size H) eI 1 cs65 s32 ∧ f 4 = Value.int .i64 ((i32 : Nat) : Int) ∧ f 0 = v0 ∧ f 3 = v63) (fun (q : Rs (List Int) Empty) e f w => match q with | .go s32 => e = Exit.exit 0 ∧ (∃ H : GH, ∃ v63 : Value, ∃ n64 : Nat, ∃ cs65 : List Value, St Ha wa H w [.row 3 1 v63 n64 cs65] ∧ Inc Ha H ∧ Els (up wa.heap.size H) eI 1 cs65 s32 ∧ f 3 = v63) | .rt x => x.elim) hq ⟨_, _, _, _, S26, (Inc.rfl _), els27, rfl, rfl, rfl⟩ ?_ ?_) ?_
  ·
    clear hp hq
    rintro i32 y31 s32 f101 w100 ⟨H97, v63, n64, cs65, S98, i99, els66, k102, k103, k104⟩ hx32 o127 hp
    refine FW.seq (FW.seq (FW.region ?_))
    refine FL.v (E.move k102) ?_
    refine FL.v (E.move k103) ?_
    refine FL.v (E.lenP te84 rfl p0) ?_
    refine FL.v (E.lssT rfl rfl (lss_len hx32)) ?_
    refine FL.nil ?_
    refine FW.condT rfl rfl ?_
    refine FW.skip (FW.seq (FW.block (FW.region ?_)))
    refine FL.v (E.move k104) ?_
    refine FL.v (E.move k102) ?_
    refine FL.v (E.move k103) ?_
    refine FL.v (E.move k102) ?_
    obtain ⟨p105, cs106, pt107, l108, at109, rel110⟩ := p0.at (ix_nat hx32)
    obtain rfl := eI_open rel110
    refine FL.v (E.indexAddr te84 rfl rfl pt107) ?_
    refine FL.v (E.load rfl (run_load0 Tryz.isAgg3 ((at109.mono i99).now S98.sl) rfl)) ?_
    obtain ⟨x117, hx118, hp⟩ := bnd hp
    obtain ⟨p111, cs112, pt113, l114, at115, rel116⟩ := S98.row_at (i := 0) rfl els66 (by decide) hx118
    obtain rfl := eI_open rel116
    refine FL.v (E.indexAddr te84 rfl rfl pt113) ?_
    obtain ⟨xs122, hput123, hp⟩ := bnd hp
    obtain ⟨w119, cs125, run120, S121, els124, ce126⟩ := S98.putEls (P := Tryz.prog) (t := 3) (i := 0) rfl els66 hput123 pt113 Tryz.sizeOf3 (u := Value.int .i64 y31) (c := [Value.int .i64 y31]) rfl rfl (ones_cons rfl ones_nil) rfl
    have S121 : St Ha wa H97 w119 [.row 3 1 v63 n64 cs125] := S121
    refine FL.act rfl rfl (E.store rfl rfl run120) ?_
    refine FL.nil (FW.region ?_)
    refine FL.v (E.move k102) ?_
    refine FL.v (E.add rfl rfl) ?_
    refine FL.v (E.assign (v := Value.int .i64 (wr (((i32 : Nat) : Int) + 1))) rfl) ?_
    refine FL.nil ?_
    obtain rfl := Option.some.inj hp
    exact ⟨rfl, ⟨_, _, _, _, S121, i99, els124, (nat_succ rfl (lt_of_get hx32) (p0.mono i99).le), k103, k104⟩⟩
  ·
    clear hp hq
    rintro s32 f138 w137 ⟨H134, v63, n64, cs65, S135, i136, els66, k139, k140, k141⟩
    refine FW.seq (FW.seq (FW.region ?_))
    refine FL.v (E.move k139) ?_
    refine FL.v (E.move k140) ?_
    refine FL.v (E.lenP te84 rfl p0) ?_
    refine FL.v (E.lss rfl rfl) ?_
    refine FL.nil ?_
    refine FW.condF rfl dlt_len ?_
    refine FW.exit ?_
    exact ⟨nofun, rfl, ⟨_, _, _, _, S135, i136, els66, k141⟩⟩
  ·
    clear hq
    intro e f132 w131 hD
    rcases q32 with s32 | x32
    ·
      obtain ⟨rfl, hD⟩ := hD
      obtain ⟨H128, v63, n64, cs65, S129, i130, els66, k133⟩ := hD
      replace hp := el_go hp
      refine FW.seq (FW.region ?_)
      refine FL.v (E.move k133) ?_
      refine FL.v (E.assign (v := v63) rfl) ?_
      refine FL.nil ?_
      refine FW.ret ?_
      obtain rfl := Option.some.inj hp
      exact ⟨.inr rfl, res1 rfl rfl ⟨_, _, _, _, rfl, S129, els66⟩⟩
    · exact x32.elim

@[reducible] def p_laws_toIntSS (Ha : GH) (wa : World) (r : (List (List Int))) : Ending → World → Prop :=
  fun e w' => ∃ H' : GH, ∃ v0 : Value, ∃ n0 : Nat, ∃ c0 : List Value, e = .returned (v0) ∧ St Ha wa H' w' [.row 84 1 v0 n0 c0] ∧ Els (up wa.heap.size H') (eL eI 1) 1 c0 r ∧ (bl c0).Nodup
theorem w_laws_toIntSS {Ha : GH} {wa : World} (hs : Sl Ha wa) (v0 : Value) (a0 : List (List Int)) (p0 : RSl Ha (eL eI 1) 1 v0 a0) {r : (List (List Int))} (hp : (PF.laws_toIntSS a0) = some r) :
    Calls Tryz.prog 46 #[v0] wa (p_laws_toIntSS Ha wa r) := by
  unfold PF.laws_toIntSS at hp
  have S0 := St.init hs
  refine calls_go (N := 23) (args := [v0]) Tryz.func46 rfl rfl rfl ?_
  refine FW.seq (FW.region ?_)
  refine FL.v (E.assign (v := Value.slice none 0 0) rfl) ?_
  refine FL.nil (FW.seq (FW.region ?_))
  refine FL.v (E.move (v := v0) rfl) ?_
  refine FL.v (E.lenP te22 rfl p0) ?_
  obtain ⟨xs21, hm22, hp⟩ := bnd hp
  obtain ⟨v23, w24, n28, cs29, run25, S26, els27, hbl30⟩ := S0.makeEls (P := Tryz.prog) te22 (G := (up wa.heap.size Ha)) (En := (eL eI 1)) (x0 := ([] : List Int)) hm22 ⟨_, rfl, RSl.nil _ _ _⟩ (ones_cons rfl ones_nil) .i64 .i64
  have nd31 : (bl cs29).Nodup := by rw [hbl30 (by simp [Value.cells, neb])]; exact List.nodup_nil
  refine FL.v (E.makeSlice rfl rfl run25) ?_
  refine FL.v (E.assign (v := v23) rfl) ?_
  refine FL.nil (FW.seq (FW.seq (FW.region ?_)))
  refine FL.v (E.assign (v := Value.int .i64 0) rfl) ?_
  refine FL.nil ?_
  obtain ⟨q33, hq, hp⟩ := bndR hp
  refine FW.block ?_
  refine FW.mono (FW.forL (S := (List (List Int))) (X := Empty) (fun (i33 : Nat) (s33 : (List (List Int))) f w => ∃ H : GH, ∃ v84 : Value, ∃ n85 : Nat, ∃ cs86 : List Value, St Ha wa H w [.row 84 1 v84 n85 cs86] ∧ Inc Ha H ∧ Els (up wa.heap.size H) (eL eI 1) 1 cs86 s33 ∧ (bl cs86).Nodup ∧ f 4 = Value.int .i64 ((i33 : Nat) : Int) ∧ f 0 = v0 ∧ f 3 = v84) (fun (q : Rs (List (List Int)) Empty) e f w => match q with | .go s33 => e = Exit.exit 0 ∧ (∃ H : GH, ∃ v84 : Value, ∃ n85 : Nat, ∃ cs86 : List Value, St Ha wa H w [.row 84 1 v84 n85 cs86] ∧ Inc Ha H ∧ Els (up wa.heap.size H) (eL eI 1) 1 cs86 s33 ∧ (bl cs86).Nodup ∧ f 3 = v84) | .rt x => x.elim) hq ⟨_, _, _, _, S26, (Inc.rfl _), els27, nd31, rfl, rfl, rfl⟩ ?_ ?_) ?_
  ·
    clear hp hq
    rintro i33 y32 s33 f143 w142 ⟨H139, v84, n85, cs86, S140, i141, els87, nd88, k144, k145, k146⟩ hx33 o189 hp
    refine FW.seq (FW.seq (FW.region ?_))
    refine FL.v (E.move k144) ?_
    refine FL.v (E.move k145) ?_
    refine FL.v (E.lenP te22 rfl p0) ?_
    refine FL.v (E.lssT rfl rfl (lss_len hx33)) ?_
    refine FL.nil ?_
    refine FW.condT rfl rfl ?_
    refine FW.skip (FW.seq (FW.block (FW.region ?_)))
    refine FL.v (E.move k146) ?_
    refine FL.v (E.move k144) ?_
    refine FL.v (E.move k145) ?_
    refine FL.v (E.move k144) ?_
    obtain ⟨p147, cs148, pt149, l150, at151, rel152⟩ := p0.at (ix_nat hx33)
    obtain ⟨v153, rfl, h154⟩ := eL_open rel152
    refine FL.v (E.indexAddr te22 rfl rfl pt149) ?_
    refine FL.v (E.load rfl (run_load0 Tryz.isAgg84 ((at151.mono i141).now S140.sl) rfl)) ?_
    obtain ⟨r155, hr156, hp⟩ := bnd hp
    refine FL.call rfl rfl rfl (E.call Tryz.call94 (A1 rfl)) (w_laws_toIntS S140.sl v153 y32 (h154.mono i141) hr156) ?_
    rintro e w158 ⟨H157, v161, n162, cs163, rfl, r160, els164⟩
    refine ⟨_, rfl, ?_⟩
    have els164 := els164.mono (up_le S140.size)
    have S159 := S140.join (l' := [.row 3 1 v161 n162 cs163, .row 84 1 v84 n85 cs86]) r160 rfl
    obtain ⟨x171, hx172, hp⟩ := bnd hp
    obtain ⟨p165, cs166, pt167, l168, at169, rel170⟩ := S159.row_at (i := 1) rfl els87 (by decide) hx172
    obtain ⟨v173, rfl, h174⟩ := eL_open rel170
    refine FL.v (E.indexAddr te22 rfl rfl pt167) ?_
    obtain ⟨H175, S176, i177, h178, nv179⟩ := S159.sealRowU (i := 0) (l' := [.row 84 1 v84 n85 cs86]) rfl els164 (by decide) rfl
    obtain ⟨xs183, hput184, hp⟩ := bnd hp
    obtain ⟨w180, cs186, run181, S182, els185, ce187⟩ := S176.putEls (P := Tryz.prog) (t := 84) (i := 0) rfl (els87.mono (up_mono (r160.run.inc.tr i177))) hput184 pt167 Tryz.sizeOf84 (u := v161) (c := [v161]) h178.cells rfl (ones_cons h178.one ones_nil) ⟨_, rfl, h178⟩
    have S182 : St Ha wa H175 w180 [.row 84 1 v84 n85 cs186] := S182
    have nd188 : (bl cs186).Nodup := by rw [ce187]; exact nd_put (Nat.le_add_right _ _) nd88 (by exact nd_one v161) (Els.dom (els87.mono (upI.tr r160.run.inc))) (by exact nv179)
    refine FL.act rfl rfl (E.store rfl rfl run181) ?_
    refine FL.nil (FW.region ?_)
    refine FL.v (E.move k144) ?_
    refine FL.v (E.add rfl rfl) ?_
    refine FL.v (E.assign (v := Value.int .i64 (wr (((i33 : Nat) : Int) + 1))) rfl) ?_
    refine FL.nil ?_
    obtain rfl := Option.some.inj hp
    exact ⟨rfl, ⟨_, _, _, _, S182, ((i141.tr r160.run.inc).tr i177), els185, nd188, (nat_succ rfl (lt_of_get hx33) (p0.mono ((i141.tr r160.run.inc).tr i177)).le), k145, k146⟩⟩
  ·
    clear hp hq
    rintro s33 f200 w199 ⟨H196, v84, n85, cs86, S197, i198, els87, nd88, k201, k202, k203⟩
    refine FW.seq (FW.seq (FW.region ?_))
    refine FL.v (E.move k201) ?_
    refine FL.v (E.move k202) ?_
    refine FL.v (E.lenP te22 rfl p0) ?_
    refine FL.v (E.lss rfl rfl) ?_
    refine FL.nil ?_
    refine FW.condF rfl dlt_len ?_
    refine FW.exit ?_
    exact ⟨nofun, rfl, ⟨_, _, _, _, S197, i198, els87, nd88, k203⟩⟩
  ·
    clear hq
    intro e f194 w193 hD
    rcases q33 with s33 | x33
    ·
      obtain ⟨rfl, hD⟩ := hD
      obtain ⟨H190, v84, n85, cs86, S191, i192, els87, nd88, k195⟩ := hD
      replace hp := el_go hp
      refine FW.seq (FW.region ?_)
      refine FL.v (E.move k195) ?_
      refine FL.v (E.assign (v := v84) rfl) ?_
      refine FL.nil ?_
      refine FW.ret ?_
      obtain rfl := Option.some.inj hp
      exact ⟨.inr rfl, res1 rfl rfl ⟨_, _, _, _, rfl, S191, els87, nd88⟩⟩
    · exact x33.elim

@[reducible] def p_laws_toCnf (Ha : GH) (wa : World) (r : Cnf) : Ending → World → Prop :=
 fun e w' => ∃ H' : GH, ∃ v0_1 : Value, e = .returned (Value.agg #[Value.int .i64 r.vars, v0_1]) ∧ Run wa.heap.size Ha wa H' w' ∧ (∃ c, Nest (up wa.heap.size H') (eL eI 1) 1 v0_1 r.clauses c)
theorem w_laws_toCnf {Ha : GH} {wa : World} (hs : Sl Ha wa) (a0 : Cnf) (v0_1 : Value) (p0_1 : RSl Ha (eL eI 1) 1 v0_1 a0.clauses) {r : Cnf} (hp : (PF.laws_toCnf a0) = some r) :
  Calls Tryz.prog 11 #[Value.agg #[Value.int .i64 a0.vars, v0_1]] wa (p_laws_toCnf Ha wa r) := by
 unfold PF.laws_toCnf at hp
 have S0 := St.init hs
 refine calls_go (N := 12) (args := [Value.agg #[Value.int .i64 a0.vars, v0_1]]) Tryz.func11 rfl rfl rfl ?_
 refine FW.seq (FW.region ?_)
 obtain ⟨b21, w22, run23, S24⟩ := S0.box (P := Tryz.prog) 24 [Value.int .i64 a0.vars, v0_1] (v := Value.agg #[Value.int .i64 a0.vars, v0_1]) rfl (ones_cons rfl (ones_cons p0_1.one ones_nil))
 refine FL.v (E.box rfl run23) ?_
 obtain ⟨H25, S26, i27, at28⟩ := S24.sealBox (i := 0) (l' := []) rfl rfl
 obtain ⟨b29, w30, run31, S32⟩ := S26.alloc (P := Tryz.prog) 30 [Value.int .i64 0, Value.slice none 0 0] Tryz.zeroValue30 rfl (ones_cons rfl (ones_cons rfl ones_nil))
 refine FL.v (E.alloc run31) ?_
 refine FL.nil (FW.seq (FW.region ?_))
 obtain ⟨b33, w34, run35, S36⟩ := S32.alloc (P := Tryz.prog) 30 [Value.int .i64 0, Value.slice none 0 0] Tryz.zeroValue30 rfl (ones_cons rfl (ones_cons rfl ones_nil))
 refine FL.v (E.alloc run35) ?_
 refine FL.nil (FW.seq (FW.region ?_))
 refine FL.v (E.fieldAddr tf24_0 rfl) ?_
 refine FL.v (E.load rfl (run_load1 Tryz.isAgg3 (at28.now S36.sl) rfl)) ?_
 refine FL.v (E.fieldAddr tf30_0 rfl) ?_
 obtain ⟨w37, run38, S39⟩ := S36.store (P := Tryz.prog) (t := 3) (i := 0) (j := 0) (cs' := [Value.int .i64 a0.vars, Value.slice none 0 0]) (l' := [.box b33 30 [Value.int .i64 a0.vars, Value.slice none 0 0], .box b29 30 [Value.int .i64 0, Value.slice none 0 0]]) (v := Value.int .i64 a0.vars) (c := [Value.int .i64 a0.vars]) rfl Tryz.sizeOf3 rfl rfl (ones_cons rfl ones_nil) (Nat.le_of_ble_eq_true rfl) rfl rfl
 refine FL.act rfl rfl (E.store rfl rfl run38) ?_
 refine FL.nil (FW.seq (FW.region ?_))
 refine FL.v (E.fieldAddr tf24_1 rfl) ?_
 refine FL.v (E.load rfl (run_load1 Tryz.isAgg22 (at28.now S39.sl) rfl)) ?_
 obtain ⟨r40, hr41, hp⟩ := bnd hp
 refine FL.call rfl rfl rfl (E.call Tryz.call46 (A1 rfl)) (w_laws_toIntSS S39.sl v0_1 a0.clauses (p0_1.mono i27) hr41) ?_
 rintro e w43 ⟨H42, v46, n47, cs48, rfl, r45, els49, nd50⟩
 refine ⟨_, rfl, ?_⟩
 have nv51 : New H25 cs48 := New.of_up S39.sl els49.dom
 have els49 := els49.mono (up_le S39.size)
 have S44 := S39.join (l' := [.row 84 1 v46 n47 cs48, .box b33 30 [Value.int .i64 a0.vars, Value.slice none 0 0], .box b29 30 [Value.int .i64 0, Value.slice none 0 0]]) r45 rfl
 refine FL.v (E.fieldAddr tf30_1 rfl) ?_
 obtain ⟨w52, run53, S54⟩ := S44.store (P := Tryz.prog) (t := 22) (i := 1) (j := 1) (cs' := [Value.int .i64 a0.vars, v46]) (l' := [.row 84 1 v46 n47 cs48, .box b33 30 [Value.int .i64 a0.vars, v46], .box b29 30 [Value.int .i64 0, Value.slice none 0 0]]) (v := v46) (c := [v46]) rfl Tryz.sizeOf22 (Ln.cells (S44.row_ln (i := 0) rfl)) rfl (ones_cons (Ln.one (S44.row_ln (i := 0) rfl)) ones_nil) (Nat.le_of_ble_eq_true rfl) rfl rfl
 refine FL.act rfl rfl (E.store rfl rfl run53) ?_
 obtain ⟨H55, S56, i57, ns60, nv59⟩ := S54.sealRowN (i := 0) (l' := [.box b33 30 [Value.int .i64 a0.vars, v46], .box b29 30 [Value.int .i64 0, Value.slice none 0 0]]) rfl els49 nd50 (by decide) rfl
 have h58 := ns60.rsl
 obtain ⟨H61, S62, i63, at64⟩ := S56.sealBox (i := 0) (l' := [.box b29 30 [Value.int .i64 0, Value.slice none 0 0]]) rfl rfl
 refine FL.nil (FW.seq (FW.region ?_))
 refine FL.v (E.load rfl (run_loadA Tryz.isAgg30 Tryz.sizeOf30 (at64.now S62.sl) rfl)) ?_
 obtain ⟨w65, run66, S67⟩ := S62.store0 (P := Tryz.prog) (t := 30) (i := 0) (cs' := [Value.int .i64 a0.vars, v46]) (l' := [.box b29 30 [Value.int .i64 a0.vars, v46]]) (v := Value.agg #[Value.int .i64 a0.vars, v46]) (c := [Value.int .i64 a0.vars, v46]) rfl Tryz.sizeOf30 rfl rfl (ones_cons rfl (ones_cons h58.one ones_nil)) (Nat.le_of_ble_eq_true rfl) rfl rfl
 refine FL.act rfl rfl (E.store rfl rfl run66) ?_
 obtain ⟨H68, S69, i70, at71⟩ := S67.sealBox (i := 0) (l' := []) rfl rfl
 refine FL.nil ?_
 refine FW.ret ?_
 obtain rfl := Option.some.inj hp
 exact ⟨.inr rfl, resC rfl rfl (loadVar_A Tryz.isAgg30 Tryz.sizeOf30 (at71.now S69.sl) rfl) ⟨_, _, rfl, S69.run, ⟨_, (ns60.mono (up_mono (i63.tr i70)))⟩⟩⟩

theorem w_spec_l1In {Ha : GH} {wa : World} (hs : Sl Ha wa) (a0 : Int) (a1 : Int) (a2 : Int) :
  Calls Tryz.prog 104 #[Value.int .i64 a0, Value.int .i64 a1, Value.int .i64 a2] wa (Sc Ha wa (Value.bool (PF.spec_l1In a0 a1 a2))) := by
 obtain ⟨r, hp⟩ : ∃ r, (PF.spec_l1In a0 a1 a2) = r := ⟨_, rfl⟩
 rw [hp]
 unfold PF.spec_l1In at hp
 have S0 := St.init hs
 refine calls_go (N := 15) (args := [Value.int .i64 a0, Value.int .i64 a1, Value.int .i64 a2]) Tryz.func104 rfl rfl rfl ?_
 refine FW.seq (FW.region ?_)
 refine FL.v (E.assign (v := Value.bool false) rfl) ?_
 refine FL.nil (FW.seq (FW.region ?_))
 refine FL.v (E.move (v := Value.int .i64 a0) rfl) ?_
 refine FL.v (E.move (v := Value.int .i64 a1) rfl) ?_
 refine FL.v (E.geq rfl rfl) ?_
 refine FL.v (E.move (v := Value.bool (decide (a1 ≤ a0))) rfl) ?_
 refine FL.cut 4 (fun f w => ∃ H : GH, St Ha wa H w [] ∧ Inc Ha H ∧ f 14 = Value.bool (bif (decide (a1 ≤ a0)) then (decide (a0 ≤ a2)) else false)) ?_ ?_
 ·
  rcases bcase (decide (a1 ≤ a0)) with c27 | c27
  ·
   refine FL.val (wF_yes rfl rfl rfl c27) rfl rfl (E.move (v := Value.int .i64 a0) rfl) ?_
   refine FL.val (wF_yes rfl rfl rfl c27) rfl rfl (E.move (v := Value.int .i64 a2) rfl) ?_
   refine FL.val (wF_yes rfl rfl rfl c27) rfl rfl (E.leq rfl rfl) ?_
   refine FL.v (E.pickT rfl c27 rfl) ?_
   exact FL.nil ⟨rfl, _, S0, (Inc.rfl _), (congrArg Value.bool (bifT c27).symm)⟩
  ·
   refine FL.skip (wF_no rfl rfl rfl c27) rfl ?_
   refine FL.skip (wF_no rfl rfl rfl c27) rfl ?_
   refine FL.skip (wF_no rfl rfl rfl c27) rfl ?_
   refine FL.v (E.pickF rfl c27 rfl) ?_
   exact FL.nil ⟨rfl, _, S0, (Inc.rfl _), (congrArg Value.bool (bifF c27).symm)⟩
 rintro f26 w25 ⟨H22, S23, i24, k28⟩
 refine FL.v (E.assign k28) ?_
 refine FL.nil ?_
 refine FW.ret ?_
 obtain rfl := hp
 exact ⟨.inr rfl, res1 rfl rfl ⟨rfl, S23.back⟩⟩

theorem w_spec_l18Prime {Ha : GH} {wa : World} (hs : Sl Ha wa) (a0 : Int) (a1 : Int) :
  Calls Tryz.prog 131 #[Value.int .i64 a0, Value.int .i64 a1] wa (Sc Ha wa (Value.bool (PF.spec_l18Prime a0 a1))) := by
 obtain ⟨r, hp⟩ : ∃ r, (PF.spec_l18Prime a0 a1) = r := ⟨_, rfl⟩
 rw [hp]
 unfold PF.spec_l18Prime at hp
 have S0 := St.init hs
 refine calls_go (N := 19) (args := [Value.int .i64 a0, Value.int .i64 a1]) Tryz.func131 rfl rfl rfl ?_
 refine FW.seq (FW.region ?_)
 refine FL.v (E.assign (v := Value.bool false) rfl) ?_
 refine FL.nil (FW.seq (FW.region ?_))
 refine FL.v (E.move (v := Value.int .i64 a0) rfl) ?_
 refine FL.v (E.eql rfl rfl) ?_
 refine FL.v (E.move (v := Value.bool (a0 == 2)) rfl) ?_
 refine FL.cut 3 (fun f w => ∃ H : GH, St Ha wa H w [] ∧ Inc Ha H ∧ f 0 = Value.int .i64 a0 ∧ f 1 = Value.int .i64 a1 ∧ f 10 = Value.bool (bif (a0 == 2) then true else (a0 == 3))) ?_ ?_
 ·
  rcases bcase (a0 == 2) with c27 | c27
  ·
   refine FL.skip (wF_no rfl rfl rfl c27) rfl ?_
   refine FL.skip (wF_no rfl rfl rfl c27) rfl ?_
   refine FL.v (E.pickT rfl c27 rfl) ?_
   exact FL.nil ⟨rfl, _, S0, (Inc.rfl _), rfl, rfl, (congrArg Value.bool (bifT c27).symm)⟩
  ·
   refine FL.val (wF_yes rfl rfl rfl c27) rfl rfl (E.move (v := Value.int .i64 a0) rfl) ?_
   refine FL.val (wF_yes rfl rfl rfl c27) rfl rfl (E.eql rfl rfl) ?_
   refine FL.v (E.pickF rfl c27 rfl) ?_
   exact FL.nil ⟨rfl, _, S0, (Inc.rfl _), rfl, rfl, (congrArg Value.bool (bifF c27).symm)⟩
 rintro f26 w25 ⟨H22, S23, i24, k28, k29, k30⟩
 refine FL.v (E.move k30) ?_
 refine FL.cut 3 (fun f w => ∃ H : GH, St Ha wa H w [] ∧ Inc H22 H ∧ f 1 = Value.int .i64 a1 ∧ f 14 = Value.bool (bif (bif (a0 == 2) then true else (a0 == 3)) then true else (a0 == 5))) ?_ ?_
 ·
  rcases bcase (bif (a0 == 2) then true else (a0 == 3)) with c37 | c37
  ·
   refine FL.skip (wF_no rfl rfl rfl c37) rfl ?_
   refine FL.skip (wF_no rfl rfl rfl c37) rfl ?_
   refine FL.v (E.pickT rfl c37 rfl) ?_
   exact FL.nil ⟨rfl, _, S23, (Inc.rfl _), k29, (congrArg Value.bool (bifT c37).symm)⟩
  ·
   refine FL.val (wF_yes rfl rfl rfl c37) rfl rfl (E.move k28) ?_
   refine FL.val (wF_yes rfl rfl rfl c37) rfl rfl (E.eql rfl rfl) ?_
   refine FL.v (E.pickF rfl c37 rfl) ?_
   exact FL.nil ⟨rfl, _, S23, (Inc.rfl _), k29, (congrArg Value.bool (bifF c37).symm)⟩
 rintro f36 w35 ⟨H32, S33, i34, k38, k39⟩
 refine FL.v (E.move k39) ?_
 refine FL.cut 3 (fun f w => ∃ H : GH, St Ha wa H w [] ∧ Inc H32 H ∧ f 18 = Value.bool (bif (bif (bif (a0 == 2) then true else (a0 == 3)) then true else (a0 == 5)) then (PF.spec_l1In a1 0 6) else false)) ?_ ?_
 ·
  rcases bcase (bif (bif (a0 == 2) then true else (a0 == 3)) then true else (a0 == 5)) with c49 | c49
  ·
   refine FL.val (wF_yes rfl rfl rfl c49) rfl rfl (E.move k38) ?_
   refine FL.call (wF_yes rfl rfl rfl c49) rfl rfl (E.call Tryz.call104 (A3 rfl rfl rfl)) (w_spec_l1In S33.sl a1 0 6) ?_
   rintro e w50 ⟨rfl, r51⟩
   refine ⟨_, rfl, ?_⟩
   have S52 := S33.call r51
   refine FL.v (E.pickT rfl c49 rfl) ?_
   exact FL.nil ⟨rfl, _, S52, (Inc.rfl _), (congrArg Value.bool (bifT c49).symm)⟩
  ·
   refine FL.skip (wF_no rfl rfl rfl c49) rfl ?_
   refine FL.skip (wF_no rfl rfl rfl c49) rfl ?_
   refine FL.v (E.pickF rfl c49 rfl) ?_
   exact FL.nil ⟨rfl, _, S33, (Inc.rfl _), (congrArg Value.bool (bifF c49).symm)⟩
 rintro f48 w47 ⟨H44, S45, i46, k53⟩
 refine FL.v (E.assign k53) ?_
 refine FL.nil ?_
 refine FW.ret ?_
 obtain rfl := hp
 exact ⟨.inr rfl, res1 rfl rfl ⟨rfl, S45.back⟩⟩

theorem w_spec_l2Vars {Ha : GH} {wa : World} (hs : Sl Ha wa) (a0 : Int) :
  Calls Tryz.prog 90 #[Value.int .i64 a0] wa (Sc Ha wa (Value.bool (PF.spec_l2Vars a0))) := by
 obtain ⟨r, hp⟩ : ∃ r, (PF.spec_l2Vars a0) = r := ⟨_, rfl⟩
 rw [hp]
 unfold PF.spec_l2Vars at hp
 have S0 := St.init hs
 refine calls_go (N := 5) (args := [Value.int .i64 a0]) Tryz.func90 rfl rfl rfl ?_
 refine FW.seq (FW.region ?_)
 refine FL.v (E.assign (v := Value.bool false) rfl) ?_
 refine FL.nil (FW.seq (FW.region ?_))
 refine FL.v (E.move (v := Value.int .i64 a0) rfl) ?_
 refine FL.call rfl rfl rfl (E.call Tryz.call104 (A3 rfl rfl rfl)) (w_spec_l1In S0.sl a0 0 12) ?_
 rintro e w21 ⟨rfl, r22⟩
 refine ⟨_, rfl, ?_⟩
 have S23 := S0.call r22
 refine FL.v (E.assign (v := Value.bool (PF.spec_l1In a0 0 12)) rfl) ?_
 refine FL.nil ?_
 refine FW.ret ?_
 obtain rfl := hp
 exact ⟨.inr rfl, res1 rfl rfl ⟨rfl, S23.back⟩⟩

theorem w_spec_l2Lit {Ha : GH} {wa : World} (hs : Sl Ha wa) (a0 : Int) (a1 : Int) :
  Calls Tryz.prog 149 #[Value.int .i64 a0, Value.int .i64 a1] wa (Sc Ha wa (Value.bool (PF.spec_l2Lit a0 a1))) := by
 obtain ⟨r, hp⟩ : ∃ r, (PF.spec_l2Lit a0 a1) = r := ⟨_, rfl⟩
 rw [hp]
 unfold PF.spec_l2Lit at hp
 have S0 := St.init hs
 refine calls_go (N := 14) (args := [Value.int .i64 a0, Value.int .i64 a1]) Tryz.func149 rfl rfl rfl ?_
 refine FW.seq (FW.region ?_)
 refine FL.v (E.assign (v := Value.bool false) rfl) ?_
 refine FL.nil (FW.seq (FW.region ?_))
 refine FL.v (E.move (v := Value.int .i64 a1) rfl) ?_
 refine FL.v (E.move (v := Value.int .i64 a0) rfl) ?_
 refine FL.v (E.neg rfl) ?_
 refine FL.v (E.move (v := Value.int .i64 a0) rfl) ?_
 refine FL.call rfl rfl rfl (E.call Tryz.call104 (A3 rfl rfl rfl)) (w_spec_l1In S0.sl a1 (wr (-a0)) a0) ?_
 rintro e w21 ⟨rfl, r22⟩
 refine ⟨_, rfl, ?_⟩
 have S23 := S0.call r22
 refine FL.v (E.move (v := Value.bool (PF.spec_l1In a1 (wr (-a0)) a0)) rfl) ?_
 refine FL.cut 3 (fun f w => ∃ H : GH, St Ha wa H w [] ∧ Inc Ha H ∧ f 13 = Value.bool (bif (PF.spec_l1In a1 (wr (-a0)) a0) then (!(a1 == 0)) else false)) ?_ ?_
 ·
  rcases bcase (PF.spec_l1In a1 (wr (-a0)) a0) with c30 | c30
  ·
   refine FL.val (wF_yes rfl rfl rfl c30) rfl rfl (E.move (v := Value.int .i64 a1) rfl) ?_
   refine FL.val (wF_yes rfl rfl rfl c30) rfl rfl (E.neq rfl rfl) ?_
   refine FL.v (E.pickT rfl c30 rfl) ?_
   exact FL.nil ⟨rfl, _, S23, (Inc.rfl _), (congrArg Value.bool (bifT c30).symm)⟩
  ·
   refine FL.skip (wF_no rfl rfl rfl c30) rfl ?_
   refine FL.skip (wF_no rfl rfl rfl c30) rfl ?_
   refine FL.v (E.pickF rfl c30 rfl) ?_
   exact FL.nil ⟨rfl, _, S23, (Inc.rfl _), (congrArg Value.bool (bifF c30).symm)⟩
 rintro f29 w28 ⟨H25, S26, i27, k31⟩
 refine FL.v (E.assign k31) ?_
 refine FL.nil ?_
 refine FW.ret ?_
 obtain rfl := hp
 exact ⟨.inr rfl, res1 rfl rfl ⟨rfl, S26.back⟩⟩

theorem w_spec_l2Var {Ha : GH} {wa : World} (hs : Sl Ha wa) (a0 : Int) :
  Calls Tryz.prog 138 #[Value.int .i64 a0] wa (Sc Ha wa (Value.int .i64 (PF.spec_l2Var a0))) := by
 obtain ⟨r, hp⟩ : ∃ r, (PF.spec_l2Var a0) = r := ⟨_, rfl⟩
 rw [hp]
 unfold PF.spec_l2Var at hp
 have S0 := St.init hs
 refine calls_go (N := 8) (args := [Value.int .i64 a0]) Tryz.func138 rfl rfl rfl ?_
 refine FW.seq (FW.region ?_)
 refine FL.v (E.assign (v := Value.int .i64 0) rfl) ?_
 refine FL.nil (FW.seq (FW.seq (FW.region ?_)))
 refine FL.v (E.move (v := Value.int .i64 a0) rfl) ?_
 refine FL.v (E.lss rfl rfl) ?_
 refine FL.nil ?_
 rcases ifT hp with ⟨c21, hp⟩ | ⟨c21, hp⟩
 ·
  refine FW.condT rfl c21 ?_
  refine FW.seq (FW.region ?_)
  refine FL.v (E.move (v := Value.int .i64 a0) rfl) ?_
  refine FL.v (E.neg rfl) ?_
  refine FL.v (E.assign (v := Value.int .i64 (wr (-a0))) rfl) ?_
  refine FL.nil ?_
  refine FW.ret ?_
  obtain rfl := hp
  exact ⟨.inr rfl, res1 rfl rfl ⟨rfl, S0.back⟩⟩
 ·
  refine FW.condF rfl c21 ?_
  refine FW.skip (FW.seq (FW.region ?_))
  refine FL.v (E.move (v := Value.int .i64 a0) rfl) ?_
  refine FL.v (E.assign (v := Value.int .i64 a0) rfl) ?_
  refine FL.nil ?_
  refine FW.ret ?_
  obtain rfl := hp
  exact ⟨.inr rfl, res1 rfl rfl ⟨rfl, S0.back⟩⟩

theorem w_spec_l2Clause {Ha : GH} {wa : World} (hs : Sl Ha wa) (a0 : Int) (v1 : Value) (a1 : List Int) (p1 : RSl Ha eI 1 v1 a1) {r : Bool} (hp : (PF.spec_l2Clause a0 a1) = some r) :
  Calls Tryz.prog 91 #[Value.int .i64 a0, v1] wa (Sc Ha wa (Value.bool r)) := by
 unfold PF.spec_l2Clause at hp
 have S0 := St.init hs
 refine calls_go (N := 40) (args := [Value.int .i64 a0, v1]) Tryz.func91 rfl rfl rfl ?_
 refine FW.seq (FW.region ?_)
 refine FL.v (E.assign (v := Value.bool false) rfl) ?_
 refine FL.nil (FW.seq (FW.seq (FW.region ?_)))
 refine FL.v (E.move (v := Value.int .i64 a0) rfl) ?_
 refine FL.call rfl rfl rfl (E.call Tryz.call90 (A1 rfl)) (w_spec_l2Vars S0.sl a0) ?_
 rintro e w21 ⟨rfl, r22⟩
 refine ⟨_, rfl, ?_⟩
 have S23 := S0.call r22
 refine FL.v (E.not rfl) ?_
 refine FL.nil ?_
 rcases ifB hp with ⟨c24, hp⟩ | ⟨c24, hp⟩
 ·
  refine FW.condT rfl c24 ?_
  refine FW.seq (FW.region ?_)
  refine FL.v (E.assign (v := Value.bool false) rfl) ?_
  refine FL.nil ?_
  refine FW.ret ?_
  obtain rfl := Option.some.inj hp
  exact ⟨.inr rfl, res1 rfl rfl ⟨rfl, S23.back⟩⟩
 ·
  refine FW.condF rfl c24 ?_
  refine FW.skip (FW.seq (FW.seq (FW.region ?_)))
  refine FL.v (E.assign (v := Value.int .i64 0) rfl) ?_
  refine FL.nil ?_
  obtain ⟨q26, hq, hp⟩ := bndR hp
  refine FW.block ?_
  refine FW.mono (FW.forL (S := Unit) (X := Bool) (fun (i26 : Nat) (s26 : Unit) f w => ∃ H : GH, St Ha wa H w [] ∧ Inc Ha H ∧ f 5 = Value.int .i64 ((i26 : Nat) : Int) ∧ f 0 = Value.int .i64 a0 ∧ f 1 = v1) (fun q e f w => match q with | .go s26 => e = Exit.exit 0 ∧ (∃ H : GH, St Ha wa H w [] ∧ Inc Ha H) | .rt x => ((e = Exit.ret) ∧ (fun e f w => (e = Exit.normal ∨ e = Exit.ret) ∧ ∀ a, Fr (δ := []) 40 a f → ∃ v, (results Tryz.f91 a.tmps).run Tryz.prog w = .ok v w ∧ (Sc Ha wa (Value.bool x)) (.returned v) w) e f w)) hq ⟨_, S23, (Inc.rfl _), rfl, rfl, rfl⟩ ?_ ?_) ?_
  ·
   clear hp hq
   rintro i26 y25 s26 f141 w140 ⟨H137, S138, i139, k142, k143, k144⟩ hx26 o247 hp
   refine FW.seq (FW.seq (FW.region ?_))
   refine FL.v (E.move k142) ?_
   refine FL.v (E.move k144) ?_
   refine FL.v (E.lenP te84 rfl p1) ?_
   refine FL.v (E.lssT rfl rfl (lss_len hx26)) ?_
   refine FL.nil ?_
   refine FW.condT rfl rfl ?_
   refine FW.skip (FW.seq (FW.block (FW.seq ?_)))
   refine FW.draw (fun w' => Run w140.heap.size H137 w140 H137 w') (by kernel_rfl) (by kernel_rfl) (run_drew S138.sl) ?_
   refine FD.val rfl rfl rfl (fun w' hw' => (E.move k143)) ?_
   refine FD.val rfl rfl rfl (fun w' hw' => (E.move k144)) ?_
   refine FD.val rfl rfl rfl (fun w' hw' => (E.move k142)) ?_
   obtain ⟨p146, cs147, pt148, l149, at150, rel151⟩ := p1.at (ix_nat hx26)
   obtain rfl := eI_open rel151
   refine FD.val rfl rfl rfl (fun w' hw' => (E.indexAddr te84 rfl rfl pt148)) ?_
   refine FD.val rfl rfl rfl (fun w' hw' => (E.load rfl (run_load0 Tryz.isAgg3 ((at150.mono i139).now (S138.call hw').sl) rfl))) ?_
   refine FD.call rfl rfl rfl (fun w' hw' => (E.call Tryz.call149 (A2 rfl rfl))) (fun w' hw' => Calls.cls hw' (w_spec_l2Lit (S138.call hw').sl a0 y25)) ?_
   refine FD.val rfl rfl rfl (fun w' hw' => (E.not rfl)) ?_
   refine FD.val rfl rfl rfl (fun w' hw' => (E.move (v := Value.bool (!(PF.spec_l2Lit a0 y25))) rfl)) ?_
   obtain ⟨t192, hqt192, hp⟩ := bnd hp
   refine FD.cut 17 (fun f => f 0 = Value.int .i64 a0 ∧ f 1 = v1 ∧ f 5 = Value.int .i64 ((i26 : Nat) : Int) ∧ f 39 = Value.bool t192) ?_ ?_
   ·
    clear hp; have hp := hqt192; clear hqt192
    rcases ifB hp with ⟨c198, hp⟩ | ⟨c198, hp⟩
    ·
     refine FD.skip (wF_no rfl rfl rfl c198) rfl ?_
     refine FD.skip (wF_no rfl rfl rfl c198) rfl ?_
     refine FD.skip (wF_no rfl rfl rfl c198) rfl ?_
     refine FD.skip (wF_undef rfl rfl rfl) rfl ?_
     refine FD.skip (wF_undef rfl rfl rfl) rfl ?_
     refine FD.skip (wF_undef rfl rfl rfl) rfl ?_
     refine FD.skip (wF_undef rfl rfl rfl) rfl ?_
     refine FD.skip (wF_undef rfl rfl rfl) rfl ?_
     refine FD.skip (wF_undef rfl rfl rfl) rfl ?_
     refine FD.skip (wF_undef rfl rfl rfl) rfl ?_
     refine FD.skip (wF_undef rfl rfl rfl) rfl ?_
     refine FD.skip (wF_undef rfl rfl rfl) rfl ?_
     refine FD.skip (wF_undef rfl rfl rfl) rfl ?_
     refine FD.skip (wF_undef rfl rfl rfl) rfl ?_
     refine FD.skip (wF_undef rfl rfl rfl) rfl ?_
     refine FD.skip (wF_no rfl rfl rfl c198) rfl ?_
     obtain rfl := Option.some.inj hp
     refine FD.val rfl rfl rfl (fun w' hw' => (E.pickT rfl c198 rfl)) ?_
     exact FD.nil ⟨k143, k144, k142, rfl⟩
    ·
     refine FD.val (wF_yes rfl rfl rfl c198) rfl rfl (fun w' hw' => (E.move k142)) ?_
     refine FD.val (wF_yes rfl rfl rfl c198) rfl rfl (fun w' hw' => (E.gtr rfl rfl)) ?_
     refine FD.val (wF_yes rfl rfl rfl c198) rfl rfl (fun w' hw' => (E.move (v := Value.bool (decide (0 < ((i26 : Nat) : Int)))) rfl)) ?_
     obtain ⟨t213, hqt213, hp⟩ := bnd hp
     refine FD.cut 13 (fun f => f 0 = Value.int .i64 a0 ∧ f 1 = v1 ∧ f 5 = Value.int .i64 ((i26 : Nat) : Int) ∧ f 22 = Value.bool (!(PF.spec_l2Lit a0 y25)) ∧ f 38 = Value.bool t213) ?_ ?_
     ·
      clear hp; have hp := hqt213; clear hqt213
      rcases ifB hp with ⟨c219, hp⟩ | ⟨c219, hp⟩
      ·
       refine FD.val (wF_yes rfl rfl rfl c219) rfl rfl (fun w' hw' => (E.move k144)) ?_
       refine FD.val (wF_yes rfl rfl rfl c219) rfl rfl (fun w' hw' => (E.move k142)) ?_
       refine FD.val (wF_yes rfl rfl rfl c219) rfl rfl (fun w' hw' => (E.sub rfl rfl)) ?_
       obtain ⟨x226, hx227, hp⟩ := bnd hp
       obtain ⟨p220, cs221, pt222, l223, at224, rel225⟩ := p1.at hx227
       obtain rfl := eI_open rel225
       refine FD.val (wF_yes rfl rfl rfl c219) rfl rfl (fun w' hw' => (E.indexAddr te84 rfl rfl pt222)) ?_
       refine FD.val (wF_yes rfl rfl rfl c219) rfl rfl (fun w' hw' => (E.load rfl (run_load0 Tryz.isAgg3 ((at224.mono i139).now (S138.call hw').sl) rfl))) ?_
       refine FD.call (wF_yes rfl rfl rfl c219) rfl rfl (fun w' hw' => (E.call Tryz.call138 (A1 rfl))) (fun w' hw' => Calls.cls hw' (w_spec_l2Var (S138.call hw').sl x226)) ?_
       refine FD.val (wF_yes rfl rfl rfl c219) rfl rfl (fun w' hw' => (E.move k144)) ?_
       refine FD.val (wF_yes rfl rfl rfl c219) rfl rfl (fun w' hw' => (E.move k142)) ?_
       obtain ⟨p228, cs229, pt230, l231, at232, rel233⟩ := p1.at (ix_nat hx26)
       obtain rfl := eI_open rel233
       refine FD.val (wF_yes rfl rfl rfl c219) rfl rfl (fun w' hw' => (E.indexAddr te84 rfl rfl pt230)) ?_
       refine FD.val (wF_yes rfl rfl rfl c219) rfl rfl (fun w' hw' => (E.load rfl (run_load0 Tryz.isAgg3 ((at232.mono i139).now (S138.call hw').sl) rfl))) ?_
       refine FD.call (wF_yes rfl rfl rfl c219) rfl rfl (fun w' hw' => (E.call Tryz.call138 (A1 rfl))) (fun w' hw' => Calls.cls hw' (w_spec_l2Var (S138.call hw').sl y25)) ?_
       refine FD.val (wF_yes rfl rfl rfl c219) rfl rfl (fun w' hw' => (E.geq rfl rfl)) ?_
       obtain rfl := Option.some.inj hp
       refine FD.val (wF_yes rfl rfl rfl c198) rfl rfl (fun w' hw' => (E.pickT rfl c219 rfl)) ?_
       exact FD.nil ⟨k143, k144, k142, rfl, rfl⟩
      ·
       refine FD.skip (wF_no rfl rfl rfl c219) rfl ?_
       refine FD.skip (wF_no rfl rfl rfl c219) rfl ?_
       refine FD.skip (wF_no rfl rfl rfl c219) rfl ?_
       refine FD.skip (wF_no rfl rfl rfl c219) rfl ?_
       refine FD.skip (wF_no rfl rfl rfl c219) rfl ?_
       refine FD.skip (wF_no rfl rfl rfl c219) rfl ?_
       refine FD.skip (wF_no rfl rfl rfl c219) rfl ?_
       refine FD.skip (wF_no rfl rfl rfl c219) rfl ?_
       refine FD.skip (wF_no rfl rfl rfl c219) rfl ?_
       refine FD.skip (wF_no rfl rfl rfl c219) rfl ?_
       refine FD.skip (wF_no rfl rfl rfl c219) rfl ?_
       refine FD.skip (wF_no rfl rfl rfl c219) rfl ?_
       obtain rfl := Option.some.inj hp
       refine FD.val (wF_yes rfl rfl rfl c198) rfl rfl (fun w' hw' => (E.pickF rfl c219 rfl)) ?_
       exact FD.nil ⟨k143, k144, k142, rfl, rfl⟩
     rintro f218 ⟨k234, k235, k236, k237, k238⟩
     obtain rfl := Option.some.inj hp
     refine FD.val rfl rfl rfl (fun w' hw' => (E.pickF k237 c198 k238)) ?_
     exact FD.nil ⟨k234, k235, k236, rfl⟩
   rintro f197 ⟨k239, k240, k241, k242⟩
   refine FD.nil ?_
   intro w243 r245
   have S244 := S138.call r245
   rcases ifB hp with ⟨c246, hp⟩ | ⟨c246, hp⟩
   ·
    refine FW.condT k242 c246 ?_
    refine FW.seq (FW.region ?_)
    refine FL.v (E.assign (v := Value.bool false) rfl) ?_
    refine FL.nil ?_
    refine FW.ret ?_
    obtain rfl := Option.some.inj hp
    exact ⟨nofun, rfl, ⟨.inr rfl, res1 rfl rfl ⟨rfl, S244.back⟩⟩⟩
   ·
    refine FW.condF k242 c246 ?_
    refine FW.skip (FW.region ?_)
    refine FL.v (E.move k241) ?_
    refine FL.v (E.add rfl rfl) ?_
    refine FL.v (E.assign (v := Value.int .i64 (wr (((i26 : Nat) : Int) + 1))) rfl) ?_
    refine FL.nil ?_
    obtain rfl := Option.some.inj hp
    exact ⟨rfl, ⟨_, S244, i139, (nat_succ rfl (lt_of_get hx26) (p1.mono i139).le), k239, k240⟩⟩
  ·
   clear hp hq
   rintro s26 f257 w256 ⟨H253, S254, i255, k258, k259, k260⟩
   refine FW.seq (FW.seq (FW.region ?_))
   refine FL.v (E.move k258) ?_
   refine FL.v (E.move k260) ?_
   refine FL.v (E.lenP te84 rfl p1) ?_
   refine FL.v (E.lss rfl rfl) ?_
   refine FL.nil ?_
   refine FW.condF rfl dlt_len ?_
   refine FW.exit ?_
   exact ⟨nofun, rfl, ⟨_, S254, i255⟩⟩
  ·
   clear hq
   intro e f252 w251 hD
   rcases q26 with s26 | x26
   ·
    obtain ⟨rfl, hD⟩ := hD
    obtain ⟨H248, S249, i250⟩ := hD
    replace hp := el_go hp
    refine FW.seq (FW.region ?_)
    refine FL.v (E.assign (v := Value.bool true) rfl) ?_
    refine FL.nil ?_
    refine FW.ret ?_
    obtain rfl := Option.some.inj hp
    exact ⟨.inr rfl, res1 rfl rfl ⟨rfl, S249.back⟩⟩
   ·
    obtain ⟨he, hL⟩ := hD
    replace hp := el_rt hp
    obtain rfl := Option.some.inj hp
    subst he
    exact hL

theorem w_spec_l2Good {Ha : GH} {wa : World} (hs : Sl Ha wa) (a0 : Cnf) (v0_1 : Value) (p0_1 : RSl Ha (eL eI 1) 1 v0_1 a0.clauses) {r : Bool} (hp : (PF.spec_l2Good a0) = some r) :
  Calls Tryz.prog 43 #[Value.agg #[Value.int .i64 a0.vars, v0_1]] wa (Sc Ha wa (Value.bool r)) := by
 unfold PF.spec_l2Good at hp
 have S0 := St.init hs
 refine calls_go (N := 30) (args := [Value.agg #[Value.int .i64 a0.vars, v0_1]]) Tryz.func43 rfl rfl rfl ?_
 refine FW.seq (FW.region ?_)
 obtain ⟨b21, w22, run23, S24⟩ := S0.box (P := Tryz.prog) 30 [Value.int .i64 a0.vars, v0_1] (v := Value.agg #[Value.int .i64 a0.vars, v0_1]) rfl (ones_cons rfl (ones_cons p0_1.one ones_nil))
 refine FL.v (E.box rfl run23) ?_
 obtain ⟨H25, S26, i27, at28⟩ := S24.sealBox (i := 0) (l' := []) rfl rfl
 refine FL.v (E.assign (v := Value.bool false) rfl) ?_
 refine FL.nil (FW.seq (FW.seq (FW.region ?_)))
 refine FL.v (E.fieldAddr tf30_0 rfl) ?_
 refine FL.v (E.load rfl (run_load1 Tryz.isAgg3 (at28.now S26.sl) rfl)) ?_
 refine FL.call rfl rfl rfl (E.call Tryz.call90 (A1 rfl)) (w_spec_l2Vars S26.sl a0.vars) ?_
 rintro e w29 ⟨rfl, r30⟩
 refine ⟨_, rfl, ?_⟩
 have S31 := S26.call r30
 refine FL.v (E.not rfl) ?_
 refine FL.v (E.move (v := Value.bool (!(PF.spec_l2Vars a0.vars))) rfl) ?_
 refine FL.cut 5 (fun f w => ∃ H : GH, St Ha wa H w [] ∧ Inc H25 H ∧ f 1 = Value.pointer (some ⟨b21, 0, none⟩) ∧ f 13 = Value.bool (bif (!(PF.spec_l2Vars a0.vars)) then true else (decide (60 < (len a0.clauses))))) ?_ ?_
 ·
  rcases bcase (!(PF.spec_l2Vars a0.vars)) with c38 | c38
  ·
   refine FL.skip (wF_no rfl rfl rfl c38) rfl ?_
   refine FL.skip (wF_no rfl rfl rfl c38) rfl ?_
   refine FL.skip (wF_no rfl rfl rfl c38) rfl ?_
   refine FL.skip (wF_no rfl rfl rfl c38) rfl ?_
   refine FL.v (E.pickT rfl c38 rfl) ?_
   exact FL.nil ⟨rfl, _, S31, (Inc.rfl _), rfl, (congrArg Value.bool (bifT c38).symm)⟩
  ·
   refine FL.val (wF_yes rfl rfl rfl c38) rfl rfl (E.fieldAddr tf30_1 rfl) ?_
   refine FL.val (wF_yes rfl rfl rfl c38) rfl rfl (E.load rfl (run_load1 Tryz.isAgg22 (at28.now S31.sl) rfl)) ?_
   refine FL.val (wF_yes rfl rfl rfl c38) rfl rfl (E.lenP te22 rfl p0_1) ?_
   refine FL.val (wF_yes rfl rfl rfl c38) rfl rfl (E.gtr rfl rfl) ?_
   refine FL.v (E.pickF rfl c38 rfl) ?_
   exact FL.nil ⟨rfl, _, S31, (Inc.rfl _), rfl, (congrArg Value.bool (bifF c38).symm)⟩
 rintro f37 w36 ⟨H33, S34, i35, k39, k40⟩
 refine FL.nil ?_
 rcases ifB hp with ⟨c41, hp⟩ | ⟨c41, hp⟩
 ·
  refine FW.condT k40 c41 ?_
  refine FW.seq (FW.region ?_)
  refine FL.v (E.assign (v := Value.bool false) rfl) ?_
  refine FL.nil ?_
  refine FW.ret ?_
  obtain rfl := Option.some.inj hp
  exact ⟨.inr rfl, res1 rfl rfl ⟨rfl, S34.back⟩⟩
 ·
  refine FW.condF k40 c41 ?_
  refine FW.skip (FW.seq (FW.seq (FW.region ?_)))
  refine FL.v (E.assign (v := Value.int .i64 0) rfl) ?_
  refine FL.nil ?_
  obtain ⟨q42, hq, hp⟩ := bndR hp
  refine FW.block ?_
  refine FW.mono (FW.iter (S := Int) (X := Bool) (fun (s42 : Int) f w => ∃ H : GH, St Ha wa H w [] ∧ Inc H33 H ∧ f 1 = Value.pointer (some ⟨b21, 0, none⟩) ∧ f 3 = Value.int .i64 s42) (fun q e f w => match q with | .go s42 => e = Exit.exit 0 ∧ (∃ H : GH, St Ha wa H w [] ∧ Inc H33 H) | .rt x => ((e = Exit.ret) ∧ (fun e f w => (e = Exit.normal ∨ e = Exit.ret) ∧ ∀ a, Fr (δ := []) 30 a f → ∃ v, (results Tryz.f43 a.tmps).run Tryz.prog w = .ok v w ∧ (Sc Ha wa (Value.bool x)) (.returned v) w) e f w)) hq ⟨_, S34, (Inc.rfl _), k39, rfl⟩ ?_) ?_
  ·
   clear hp hq
   rintro s42 f72 w71 ⟨H68, S69, i70, k73, k74⟩ o93 hp
   refine FW.seq (FW.seq (FW.region ?_))
   refine FL.v (E.move k74) ?_
   refine FL.v (E.fieldAddr tf30_1 k73) ?_
   refine FL.v (E.load rfl (run_load1 Tryz.isAgg22 ((at28.mono (i35.tr i70)).now S69.sl) rfl)) ?_
   refine FL.v (E.lenP te22 rfl p0_1) ?_
   refine FL.v (E.lss rfl rfl) ?_
   refine FL.nil ?_
   rcases ifB hp with ⟨c75, hp⟩ | ⟨c75, hp⟩
   ·
    refine FW.condT rfl c75 ?_
    refine FW.skip (FW.seq (FW.block (FW.seq ?_)))
    refine FW.draw (fun w' => Run w71.heap.size H68 w71 H68 w') (by kernel_rfl) (by kernel_rfl) (run_drew S69.sl) ?_
    refine FD.val rfl rfl rfl (fun w' hw' => (E.fieldAddr tf30_0 k73)) ?_
    refine FD.val rfl rfl rfl (fun w' hw' => (E.load rfl (run_load1 Tryz.isAgg3 ((at28.mono (i35.tr i70)).now (S69.call hw').sl) rfl))) ?_
    refine FD.val rfl rfl rfl (fun w' hw' => (E.fieldAddr tf30_1 k73)) ?_
    refine FD.val rfl rfl rfl (fun w' hw' => (E.load rfl (run_load1 Tryz.isAgg22 ((at28.mono (i35.tr i70)).now (S69.call hw').sl) rfl))) ?_
    refine FD.val rfl rfl rfl (fun w' hw' => (E.move k74)) ?_
    obtain ⟨x83, hx84, hp⟩ := bnd hp
    obtain ⟨p77, cs78, pt79, l80, at81, rel82⟩ := p0_1.at hx84
    obtain ⟨v85, rfl, h86⟩ := eL_open rel82
    refine FD.val rfl rfl rfl (fun w' hw' => (E.indexAddr te22 rfl rfl pt79)) ?_
    refine FD.val rfl rfl rfl (fun w' hw' => (E.load rfl (run_load0 Tryz.isAgg84 ((at81.mono ((i27.tr i35).tr i70)).now (S69.call hw').sl) rfl))) ?_
    obtain ⟨r87, hr88, hp⟩ := bnd hp
    refine FD.call rfl rfl rfl (fun w' hw' => (E.call Tryz.call91 (A2 rfl rfl))) (fun w' hw' => Calls.cls hw' (w_spec_l2Clause (S69.call hw').sl a0.vars v85 x83 (h86.mono ((i27.tr i35).tr i70)) hr88)) ?_
    refine FD.val rfl rfl rfl (fun w' hw' => (E.not rfl)) ?_
    refine FD.nil ?_
    intro w89 r91
    have S90 := S69.call r91
    rcases ifB hp with ⟨c92, hp⟩ | ⟨c92, hp⟩
    ·
     refine FW.condT rfl c92 ?_
     refine FW.seq (FW.region ?_)
     refine FL.v (E.assign (v := Value.bool false) rfl) ?_
     refine FL.nil ?_
     refine FW.ret ?_
     obtain rfl := Option.some.inj hp
     exact ⟨nofun, rfl, ⟨.inr rfl, res1 rfl rfl ⟨rfl, S90.back⟩⟩⟩
    ·
     refine FW.condF rfl c92 ?_
     refine FW.skip (FW.region ?_)
     refine FL.v (E.move k74) ?_
     refine FL.v (E.add rfl rfl) ?_
     refine FL.v (E.assign (v := Value.int .i64 (wr (s42 + 1))) rfl) ?_
     refine FL.nil ?_
     obtain rfl := Option.some.inj hp
     exact ⟨rfl, ⟨_, S90, i70, k73, rfl⟩⟩
   ·
    refine FW.condF rfl c75 ?_
    refine FW.exit ?_
    obtain rfl := Option.some.inj hp
    exact ⟨nofun, rfl, ⟨_, S69, i70⟩⟩
  ·
   clear hq
   intro e f98 w97 hD
   rcases q42 with s42 | x42
   ·
    obtain ⟨rfl, hD⟩ := hD
    obtain ⟨H94, S95, i96⟩ := hD
    replace hp := el_go hp
    refine FW.seq (FW.region ?_)
    refine FL.v (E.assign (v := Value.bool true) rfl) ?_
    refine FL.nil ?_
    refine FW.ret ?_
    obtain rfl := Option.some.inj hp
    exact ⟨.inr rfl, res1 rfl rfl ⟨rfl, S95.back⟩⟩
   ·
    obtain ⟨he, hL⟩ := hD
    replace hp := el_rt hp
    obtain rfl := Option.some.inj hp
    subst he
    exact hL

theorem w_spec_l20Asked {Ha : GH} {wa : World} (hs : Sl Ha wa) (a0 : Int) (a1 : Cnf) (v1_1 : Value) (p1_1 : RSl Ha (eL eI 1) 1 v1_1 a1.clauses) {r : Bool} (hp : (PF.spec_l20Asked a0 a1) = some r) :
  Calls Tryz.prog 77 #[Value.int .i64 a0, Value.agg #[Value.int .i64 a1.vars, v1_1]] wa (Sc Ha wa (Value.bool r)) := by
 unfold PF.spec_l20Asked at hp
 have S0 := St.init hs
 refine calls_go (N := 13) (args := [Value.int .i64 a0, Value.agg #[Value.int .i64 a1.vars, v1_1]]) Tryz.func77 rfl rfl rfl ?_
 refine FW.seq (FW.region ?_)
 obtain ⟨b21, w22, run23, S24⟩ := S0.box (P := Tryz.prog) 30 [Value.int .i64 a1.vars, v1_1] (v := Value.agg #[Value.int .i64 a1.vars, v1_1]) rfl (ones_cons rfl (ones_cons p1_1.one ones_nil))
 refine FL.v (E.box rfl run23) ?_
 obtain ⟨H25, S26, i27, at28⟩ := S24.sealBox (i := 0) (l' := []) rfl rfl
 refine FL.v (E.assign (v := Value.bool false) rfl) ?_
 refine FL.nil (FW.seq (FW.region ?_))
 refine FL.v (E.move (v := Value.int .i64 a0) rfl) ?_
 refine FL.v (E.fieldAddr tf30_0 rfl) ?_
 refine FL.v (E.load rfl (run_load1 Tryz.isAgg3 (at28.now S26.sl) rfl)) ?_
 refine FL.call rfl rfl rfl (E.call Tryz.call131 (A2 rfl rfl)) (w_spec_l18Prime S26.sl a0 a1.vars) ?_
 rintro e w29 ⟨rfl, r30⟩
 refine ⟨_, rfl, ?_⟩
 have S31 := S26.call r30
 refine FL.v (E.move (v := Value.bool (PF.spec_l18Prime a0 a1.vars)) rfl) ?_
 obtain ⟨t37, hqt37, hp⟩ := bnd hp
 refine FL.cut 3 (fun f w => ∃ H : GH, St Ha wa H w [] ∧ Inc H25 H ∧ f 12 = Value.bool t37) ?_ ?_
 ·
  clear hp; have hp := hqt37; clear hqt37
  rcases ifB hp with ⟨c43, hp⟩ | ⟨c43, hp⟩
  ·
   refine FL.val (wF_yes rfl rfl rfl c43) rfl rfl (E.load rfl (run_loadA Tryz.isAgg30 Tryz.sizeOf30 (at28.now S31.sl) rfl)) ?_
   obtain ⟨r44, hr45, hp⟩ := bnd hp
   refine FL.call (wF_yes rfl rfl rfl c43) rfl rfl (E.call Tryz.call43 (A1 rfl)) (w_spec_l2Good S31.sl a1 v1_1 (p1_1.mono i27) hr45) ?_
   rintro e w46 ⟨rfl, r47⟩
   refine ⟨_, rfl, ?_⟩
   have S48 := S31.call r47
   obtain rfl := Option.some.inj hp
   refine FL.v (E.pickT rfl c43 rfl) ?_
   exact FL.nil ⟨rfl, _, S48, (Inc.rfl _), rfl⟩
  ·
   refine FL.skip (wF_no rfl rfl rfl c43) rfl ?_
   refine FL.skip (wF_no rfl rfl rfl c43) rfl ?_
   obtain rfl := Option.some.inj hp
   refine FL.v (E.pickF rfl c43 rfl) ?_
   exact FL.nil ⟨rfl, _, S31, (Inc.rfl _), rfl⟩
 rintro f42 w41 ⟨H38, S39, i40, k49⟩
 refine FL.v (E.assign k49) ?_
 refine FL.nil ?_
 refine FW.ret ?_
 obtain rfl := Option.some.inj hp
 exact ⟨.inr rfl, res1 rfl rfl ⟨rfl, S39.back⟩⟩

theorem w_spec_l20Degree {Ha : GH} {wa : World} (hs : Sl Ha wa) (a0 : Int) :
  Calls Tryz.prog 78 #[Value.int .i64 a0] wa (Sc Ha wa (Value.bool (PF.spec_l20Degree a0))) := by
 obtain ⟨r, hp⟩ : ∃ r, (PF.spec_l20Degree a0) = r := ⟨_, rfl⟩
 rw [hp]
 unfold PF.spec_l20Degree at hp
 have S0 := St.init hs
 refine calls_go (N := 5) (args := [Value.int .i64 a0]) Tryz.func78 rfl rfl rfl ?_
 refine FW.seq (FW.region ?_)
 refine FL.v (E.assign (v := Value.bool false) rfl) ?_
 refine FL.nil (FW.seq (FW.region ?_))
 refine FL.v (E.move (v := Value.int .i64 a0) rfl) ?_
 refine FL.call rfl rfl rfl (E.call Tryz.call104 (A3 rfl rfl rfl)) (w_spec_l1In S0.sl a0 0 6) ?_
 rintro e w21 ⟨rfl, r22⟩
 refine ⟨_, rfl, ?_⟩
 have S23 := S0.call r22
 refine FL.v (E.assign (v := Value.bool (PF.spec_l1In a0 0 6)) rfl) ?_
 refine FL.nil ?_
 refine FW.ret ?_
 obtain rfl := hp
 exact ⟨.inr rfl, res1 rfl rfl ⟨rfl, S23.back⟩⟩

@[reducible] def p_spec_l18Sparse (Ha : GH) (wa : World) (r : (List Term)) : Ending → World → Prop :=
  fun e w' => ∃ H' : GH, ∃ v0 : Value, ∃ n0 : Nat, ∃ c0 : List Value, e = .returned (v0) ∧ St Ha wa H' w' [.row 179 2 v0 n0 c0] ∧ Els (up wa.heap.size H') eTerm 2 c0 r
theorem w_spec_l18Sparse {Ha : GH} {wa : World} (hs : Sl Ha wa) (a0 : Int) (v1 : Value) (a1 : List Int) (p1 : RSl Ha eI 1 v1 a1) {r : (List Term)} (hp : (PF.spec_l18Sparse a0 a1) = some r) :
    Calls Tryz.prog 187 #[Value.int .i64 a0, v1] wa (p_spec_l18Sparse Ha wa r) := by
  unfold PF.spec_l18Sparse at hp
  have S0 := St.init hs
  refine calls_go (N := 30) (args := [Value.int .i64 a0, v1]) Tryz.func187 rfl rfl rfl ?_
  refine FW.seq (FW.region ?_)
  refine FL.v (E.assign (v := Value.slice none 0 0) rfl) ?_
  refine FL.nil (FW.seq (FW.region ?_))
  obtain ⟨v21, w22, run23, S24⟩ := S0.buildSlice (P := Tryz.prog) te124 [] (parts := #[]) (cells := []) rfl szs_nil fc_nil ones_nil (Nat.le_of_ble_eq_true rfl)
  have els25 : Els (up wa.heap.size Ha) eTerm 2 [] [] := Els.nil
  refine FL.v (E.buildSlice (B0) run23) ?_
  refine FL.v (E.assign (v := v21) rfl) ?_
  refine FL.nil (FW.seq (FW.seq (FW.region ?_)))
  refine FL.v (E.assign (v := Value.int .i64 0) rfl) ?_
  refine FL.nil ?_
  obtain ⟨q27, hq, hp⟩ := bndR hp
  refine FW.block ?_
  refine FW.mono (FW.forL (S := (List Term)) (X := Empty) (fun (i27 : Nat) (s27 : (List Term)) f w => ∃ H : GH, ∃ v28 : Value, ∃ n29 : Nat, ∃ cs30 : List Value, St Ha wa H w [.row 179 2 v28 n29 cs30] ∧ Inc Ha H ∧ Els (up wa.heap.size H) eTerm 2 cs30 s27 ∧ f 6 = Value.int .i64 ((i27 : Nat) : Int) ∧ f 0 = Value.int .i64 a0 ∧ f 1 = v1 ∧ f 5 = v28) (fun (q : Rs (List Term) Empty) e f w => match q with | .go s27 => e = Exit.exit 0 ∧ (∃ H : GH, ∃ v28 : Value, ∃ n29 : Nat, ∃ cs30 : List Value, St Ha wa H w [.row 179 2 v28 n29 cs30] ∧ Inc Ha H ∧ Els (up wa.heap.size H) eTerm 2 cs30 s27 ∧ f 5 = v28) | .rt x => x.elim) hq ⟨_, _, _, _, S24, (Inc.rfl _), els25, rfl, rfl, rfl, rfl⟩ ?_ ?_) ?_
  ·
    clear hp hq
    rintro i27 y26 s27 f70 w69 ⟨H66, v28, n29, cs30, S67, i68, els31, k71, k72, k73, k74⟩ hx27 o100 hp
    refine FW.seq (FW.seq (FW.region ?_))
    refine FL.v (E.move k71) ?_
    refine FL.v (E.move k73) ?_
    refine FL.v (E.lenP te84 rfl p1) ?_
    refine FL.v (E.lssT rfl rfl (lss_len hx27)) ?_
    refine FL.nil ?_
    refine FW.condT rfl rfl ?_
    refine FW.skip (FW.seq (FW.block (FW.seq (FW.region ?_))))
    refine FL.v (E.move k73) ?_
    refine FL.v (E.move k71) ?_
    obtain ⟨p75, cs76, pt77, l78, at79, rel80⟩ := p1.at (ix_nat hx27)
    obtain rfl := eI_open rel80
    refine FL.v (E.indexAddr te84 rfl rfl pt77) ?_
    refine FL.v (E.load rfl (run_load0 Tryz.isAgg3 ((at79.mono i68).now S67.sl) rfl)) ?_
    refine FL.v (E.move k72) ?_
    obtain ⟨u82, z81, hp⟩ := bnd hp
    refine FL.v (E.rem rfl rfl (nz_ne z81)) ?_
    refine FL.v (E.assign (v := Value.int .i64 (y26.tmod a0)) rfl) ?_
    refine FL.nil (FW.seq (FW.region ?_))
    refine FL.v (E.move (v := Value.int .i64 (y26.tmod a0)) rfl) ?_
    refine FL.v (E.neq rfl rfl) ?_
    refine FL.nil ?_
    rcases ifB hp with ⟨c83, hp⟩ | ⟨c83, hp⟩
    ·
      refine FW.condT rfl c83 ?_
      refine FW.region ?_
      refine FL.v (E.move k74) ?_
      refine FL.v (E.move k71) ?_
      refine FL.v (E.move (v := Value.int .i64 (y26.tmod a0)) rfl) ?_
      refine FL.v (E.build (B2 rfl rfl) (run_build _ 179 #[(0, Value.int .i64 ((i27 : Nat) : Int)), (1, Value.int .i64 (y26.tmod a0))] #[Value.int .i64 ((i27 : Nat) : Int), Value.int .i64 (y26.tmod a0)] (by rfl))) ?_
      obtain ⟨v84, w85, run86, S87⟩ := S67.buildSlice (P := Tryz.prog) te124 [Value.agg #[Value.int .i64 ((i27 : Nat) : Int), Value.int .i64 (y26.tmod a0)]] (parts := #[(0, Value.agg #[Value.int .i64 ((i27 : Nat) : Int), Value.int .i64 (y26.tmod a0)])]) (cells := [Value.int .i64 ((i27 : Nat) : Int), Value.int .i64 (y26.tmod a0)]) rfl (szs_cons rfl szs_nil) (fc_cons rfl fc_nil) (ones_cons rfl (ones_cons rfl ones_nil)) (Nat.le_of_ble_eq_true rfl)
      have els88 : Els (up wa.heap.size H66) eTerm 2 [Value.int .i64 ((i27 : Nat) : Int), Value.int .i64 (y26.tmod a0)] [(Term.mk ((i27 : Nat) : Int) (y26.tmod a0))] := (Els.snoc (H := (up wa.heap.size H66)) (E := eTerm) (k := 2) (c := [Value.int .i64 ((i27 : Nat) : Int), Value.int .i64 (y26.tmod a0)]) (x := (Term.mk ((i27 : Nat) : Int) (y26.tmod a0))) Els.nil rfl rfl)
      refine FL.v (E.buildSlice (B1 rfl) run86) ?_
      obtain ⟨xs89, hz90, hp⟩ := bnd hp
      obtain ⟨v91, w94, n92, cs93, run95, S96, els97, ce98⟩ := S87.appendO (P := Tryz.prog) te124 (i := 1) (j := 0) rfl els31 rfl els88 hz90
      have S96 : St Ha wa H66 w94 [.row 179 2 v84 1 [Value.int .i64 ((i27 : Nat) : Int), Value.int .i64 (y26.tmod a0)], .row 179 2 v91 n92 cs93] := S96
      have S99 : St Ha wa H66 w94 [.row 179 2 v91 n92 cs93] := S96.drop 0
      refine FL.v (E.append rfl rfl run95) ?_
      refine FL.v (E.assign (v := v91) rfl) ?_
      refine FL.nil (FW.region ?_)
      refine FL.v (E.move k71) ?_
      refine FL.v (E.add rfl rfl) ?_
      refine FL.v (E.assign (v := Value.int .i64 (wr (((i27 : Nat) : Int) + 1))) rfl) ?_
      refine FL.nil ?_
      obtain rfl := Option.some.inj hp
      exact ⟨rfl, ⟨_, _, _, _, S99, i68, els97, (nat_succ rfl (lt_of_get hx27) (p1.mono i68).le), k72, k73, rfl⟩⟩
    ·
      refine FW.condF rfl c83 ?_
      refine FW.skip (FW.region ?_)
      refine FL.v (E.move k71) ?_
      refine FL.v (E.add rfl rfl) ?_
      refine FL.v (E.assign (v := Value.int .i64 (wr (((i27 : Nat) : Int) + 1))) rfl) ?_
      refine FL.nil ?_
      obtain rfl := Option.some.inj hp
      exact ⟨rfl, ⟨_, _, _, _, S67, i68, els31, (nat_succ rfl (lt_of_get hx27) (p1.mono i68).le), k72, k73, k74⟩⟩
  ·
    clear hp hq
    rintro s27 f111 w110 ⟨H107, v28, n29, cs30, S108, i109, els31, k112, k113, k114, k115⟩
    refine FW.seq (FW.seq (FW.region ?_))
    refine FL.v (E.move k112) ?_
    refine FL.v (E.move k114) ?_
    refine FL.v (E.lenP te84 rfl p1) ?_
    refine FL.v (E.lss rfl rfl) ?_
    refine FL.nil ?_
    refine FW.condF rfl dlt_len ?_
    refine FW.exit ?_
    exact ⟨nofun, rfl, ⟨_, _, _, _, S108, i109, els31, k115⟩⟩
  ·
    clear hq
    intro e f105 w104 hD
    rcases q27 with s27 | x27
    ·
      obtain ⟨rfl, hD⟩ := hD
      obtain ⟨H101, v28, n29, cs30, S102, i103, els31, k106⟩ := hD
      replace hp := el_go hp
      refine FW.seq (FW.region ?_)
      refine FL.v (E.move k106) ?_
      refine FL.v (E.assign (v := v28) rfl) ?_
      refine FL.nil ?_
      refine FW.ret ?_
      obtain rfl := Option.some.inj hp
      exact ⟨.inr rfl, res1 rfl rfl ⟨_, _, _, _, rfl, S102, els31⟩⟩
    · exact x27.elim

@[reducible] def p_spec_l18Mul (Ha : GH) (wa : World) (r : (List Term)) : Ending → World → Prop :=
  fun e w' => ∃ H' : GH, ∃ v0 : Value, ∃ n0 : Nat, ∃ c0 : List Value, e = .returned (v0) ∧ St Ha wa H' w' [.row 179 2 v0 n0 c0] ∧ Els (up wa.heap.size H') eTerm 2 c0 r
theorem w_spec_l18Mul {Ha : GH} {wa : World} (hs : Sl Ha wa) (a0 : Int) (a1 : Int) (v2 : Value) (a2 : List Term) (p2 : RSl Ha eTerm 2 v2 a2) (v3 : Value) (a3 : List Term) (p3 : RSl Ha eTerm 2 v3 a3) {r : (List Term)} (hp : (PF.spec_l18Mul a0 a1 a2 a3) = some r) :
    Calls Tryz.prog 139 #[Value.int .i64 a0, Value.int .i64 a1, v2, v3] wa (p_spec_l18Mul Ha wa r) := by
  unfold PF.spec_l18Mul at hp
  have S0 := St.init hs
  refine calls_go (N := 63) (args := [Value.int .i64 a0, Value.int .i64 a1, v2, v3]) Tryz.func139 rfl rfl rfl ?_
  refine FW.seq (FW.region ?_)
  refine FL.v (E.assign (v := Value.slice none 0 0) rfl) ?_
  refine FL.nil (FW.seq (FW.region ?_))
  refine FL.v (E.move (v := Value.int .i64 a1) rfl) ?_
  obtain ⟨u22, z21, hp⟩ := bnd hp
  refine FL.v (E.shl rfl rfl (nn_ge z21)) ?_
  obtain ⟨xs23, hm24, hp⟩ := bnd hp
  obtain ⟨v25, w26, n30, cs31, run27, S28, els29, hbl32⟩ := S0.makeEls (P := Tryz.prog) te84 (G := (up wa.heap.size Ha)) (En := eI) (x0 := (0 : Int)) hm24 rfl (ones_cons rfl ones_nil) .i64 .i64
  refine FL.v (E.makeSlice rfl rfl run27) ?_
  refine FL.v (E.assign (v := v25) rfl) ?_
  refine FL.nil (FW.seq (FW.seq (FW.region ?_)))
  refine FL.v (E.assign (v := Value.int .i64 0) rfl) ?_
  refine FL.nil ?_
  obtain ⟨q34, hq, hp⟩ := bndR hp
  refine FW.block ?_
  refine FW.mono (FW.forL (S := (List Int)) (X := Empty) (fun (i34 : Nat) (s34 : (List Int)) f w => ∃ H : GH, ∃ v35 : Value, ∃ n36 : Nat, ∃ cs37 : List Value, St Ha wa H w [.row 3 1 v35 n36 cs37] ∧ Inc Ha H ∧ Els (up wa.heap.size H) eI 1 cs37 s34 ∧ f 10 = Value.int .i64 ((i34 : Nat) : Int) ∧ f 0 = Value.int .i64 a0 ∧ f 2 = v2 ∧ f 3 = v3 ∧ f 9 = v35) (fun (q : Rs (List Int) Empty) e f w => match q with | .go s34 => e = Exit.exit 0 ∧ (∃ H : GH, ∃ v35 : Value, ∃ n36 : Nat, ∃ cs37 : List Value, St Ha wa H w [.row 3 1 v35 n36 cs37] ∧ Inc Ha H ∧ Els (up wa.heap.size H) eI 1 cs37 s34 ∧ f 0 = Value.int .i64 a0 ∧ f 9 = v35) | .rt x => x.elim) hq ⟨_, _, _, _, S28, (Inc.rfl _), els29, rfl, rfl, rfl, rfl, rfl⟩ ?_ ?_) ?_
  ·
    clear hp hq
    rintro i34 y33 s34 f43 w42 ⟨H39, v35, n36, cs37, S40, i41, els38, k44, k45, k46, k47, k48⟩ hx34 o163 hp
    refine FW.seq (FW.seq (FW.region ?_))
    refine FL.v (E.move k44) ?_
    refine FL.v (E.move k46) ?_
    refine FL.v (E.lenP te124 rfl p2) ?_
    refine FL.v (E.lssT rfl rfl (lss_len hx34)) ?_
    refine FL.nil ?_
    refine FW.condT rfl rfl ?_
    refine FW.skip (FW.seq (FW.block (FW.seq (FW.region ?_))))
    refine FL.v (E.assign (v := Value.int .i64 0) rfl) ?_
    refine FL.nil ?_
    obtain ⟨q50, hq, hp⟩ := bndR hp
    refine FW.block ?_
    refine FW.mono (FW.forL (S := (List Int)) (X := Empty) (fun (i50 : Nat) (s50 : (List Int)) f w => ∃ H : GH, ∃ v51 : Value, ∃ n52 : Nat, ∃ cs53 : List Value, St Ha wa H w [.row 3 1 v51 n52 cs53] ∧ Inc H39 H ∧ Els (up wa.heap.size H) eI 1 cs53 s50 ∧ f 11 = Value.int .i64 ((i50 : Nat) : Int) ∧ f 0 = Value.int .i64 a0 ∧ f 2 = v2 ∧ f 3 = v3 ∧ f 9 = v51 ∧ f 10 = Value.int .i64 ((i34 : Nat) : Int)) (fun (q : Rs (List Int) Empty) e f w => match q with | .go s50 => e = Exit.exit 2 ∧ (∃ H : GH, ∃ v51 : Value, ∃ n52 : Nat, ∃ cs53 : List Value, St Ha wa H w [.row 3 1 v51 n52 cs53] ∧ Inc H39 H ∧ Els (up wa.heap.size H) eI 1 cs53 s50 ∧ f 0 = Value.int .i64 a0 ∧ f 2 = v2 ∧ f 3 = v3 ∧ f 9 = v51 ∧ f 10 = Value.int .i64 ((i34 : Nat) : Int)) | .rt x => x.elim) hq ⟨_, _, _, _, S40, (Inc.rfl _), els38, rfl, k45, k46, k47, k48, k44⟩ ?_ ?_) ?_
    ·
      clear hp hq
      rintro i50 y49 s50 f59 w58 ⟨H55, v51, n52, cs53, S56, i57, els54, k60, k61, k62, k63, k64, k65⟩ hx50 o141 hp
      refine FW.seq (FW.seq (FW.region ?_))
      refine FL.v (E.move k60) ?_
      refine FL.v (E.move k63) ?_
      refine FL.v (E.lenP te124 rfl p3) ?_
      refine FL.v (E.lssT rfl rfl (lss_len hx50)) ?_
      refine FL.nil ?_
      refine FW.condT rfl rfl ?_
      refine FW.skip (FW.seq (FW.block (FW.seq ?_)))
      refine FW.draw (fun w' => Run w58.heap.size H55 w58 H55 w') (by kernel_rfl) (by kernel_rfl) (run_drew S56.sl) ?_
      refine FD.val rfl rfl rfl (fun w' hw' => (E.move k62)) ?_
      refine FD.val rfl rfl rfl (fun w' hw' => (E.move k65)) ?_
      obtain ⟨p66, cs67, pt68, l69, at70, rel71⟩ := p2.at (ix_nat hx34)
      obtain rfl := eTerm_open rel71
      refine FD.val rfl rfl rfl (fun w' hw' => (E.indexAddr te124 rfl rfl pt68)) ?_
      refine FD.val rfl rfl rfl (fun w' hw' => (E.fieldAddr tf179_0 rfl)) ?_
      refine FD.val rfl rfl rfl (fun w' hw' => (E.load rfl (run_load1 Tryz.isAgg3 ((at70.mono (i41.tr i57)).now (S56.call hw').sl) rfl))) ?_
      refine FD.val rfl rfl rfl (fun w' hw' => (E.move k63)) ?_
      refine FD.val rfl rfl rfl (fun w' hw' => (E.move k60)) ?_
      obtain ⟨p72, cs73, pt74, l75, at76, rel77⟩ := p3.at (ix_nat hx50)
      obtain rfl := eTerm_open rel77
      refine FD.val rfl rfl rfl (fun w' hw' => (E.indexAddr te124 rfl rfl pt74)) ?_
      refine FD.val rfl rfl rfl (fun w' hw' => (E.fieldAddr tf179_0 rfl)) ?_
      refine FD.val rfl rfl rfl (fun w' hw' => (E.load rfl (run_load1 Tryz.isAgg3 ((at76.mono (i41.tr i57)).now (S56.call hw').sl) rfl))) ?_
      refine FD.val rfl rfl rfl (fun w' hw' => (E.or rfl rfl)) ?_
      refine FD.val rfl rfl rfl (fun w' hw' => (E.assign (v := Value.int .i64 (orK true 64 y33.mono y49.mono)) rfl)) ?_
      refine FD.nil ?_
      intro w78 r80
      have S79 := S56.call r80
      obtain ⟨x91, hx92, hp⟩ := bnd hp
      obtain ⟨u107, z106, hp⟩ := bnd hp
      obtain ⟨x114, hx115, hp⟩ := bnd hp
      obtain ⟨xs120, hput121, hp⟩ := bnd hp
      refine FW.drawB (Sl H55) (fun f w => ∃ H : GH, ∃ v126 : Value, ∃ n127 : Nat, ∃ cs128 : List Value, St Ha wa H w [.row 3 1 v126 n127 cs128] ∧ Inc H55 H ∧ Els (up wa.heap.size H) eI 1 cs128 xs120 ∧ f 0 = Value.int .i64 a0 ∧ f 2 = v2 ∧ f 3 = v3 ∧ f 9 = v126 ∧ f 10 = Value.int .i64 ((i34 : Nat) : Int) ∧ f 11 = Value.int .i64 ((i50 : Nat) : Int)) (by kernel_rfl) S79.sl ?_ ?_
      ·
        intro w81 r82
        have S83 := S79.call r82
        refine FB.t (i := 0) (bs 22 1) rfl (SP.nil S83.sl) rfl (fun w' hw' => (E.move k64)) ?_
        refine FB.t (i := 1) (bs 22 3) rfl (SP.nil S83.sl) rfl (fun w' hw' => (E.move (v := Value.int .i64 (orK true 64 y33.mono y49.mono)) rfl)) ?_
        refine FB.t (i := 2) (bs 22 7) rfl (SP.nil S83.sl) rfl (fun w' hw' => (E.move k64)) ?_
        refine FB.t (i := 3) (bs 22 15) rfl (SP.nil S83.sl) rfl (fun w' hw' => (E.move (v := Value.int .i64 (orK true 64 y33.mono y49.mono)) rfl)) ?_
        obtain ⟨p85, cs86, pt87, l88, at89, rel90, hall93⟩ := S83.row_atA (i := 0) rfl els54 (by decide) hx92
        obtain rfl := eI_open rel90
        refine FB.t (i := 4) (bs 22 31) rfl (SP.nil S83.sl) rfl (fun w' hw' => (E.indexAddr te84 rfl rfl pt87)) ?_
        refine FB.phase [21] (fun w' => WAt w' p85 [Value.int .i64 x91]) ?_
        refine FB.p (i := 5) (bs 22 63) 0 [17, 19, 20, 21] rfl (SP.on (hall93 _ _ _ 0 S83 rfl) (SP.nil S83.sl)) rfl rfl (fun w' hw' => (E.load rfl (run_load0 Tryz.isAgg3 hw' rfl))) ?_
        refine FB.t (i := 6) (bs 22 127) rfl (SP.on (hall93 _ _ _ 0 S83 rfl) (SP.nil S83.sl)) rfl (fun w' hw' => (E.move k62)) ?_
        refine FB.t (i := 7) (bs 22 255) rfl (SP.on (hall93 _ _ _ 0 S83 rfl) (SP.nil S83.sl)) rfl (fun w' hw' => (E.move k65)) ?_
        obtain ⟨p94, cs95, pt96, l97, at98, rel99⟩ := p2.at (ix_nat hx34)
        obtain rfl := eTerm_open rel99
        refine FB.t (i := 8) (bs 22 511) rfl (SP.on (hall93 _ _ _ 0 S83 rfl) (SP.nil S83.sl)) rfl (fun w' hw' => (E.indexAddr te124 rfl rfl pt96)) ?_
        refine FB.t (i := 9) (bs 22 1023) rfl (SP.on (hall93 _ _ _ 0 S83 rfl) (SP.nil S83.sl)) rfl (fun w' hw' => (E.fieldAddr tf179_1 rfl)) ?_
        refine FB.t (i := 10) (bs 22 2047) rfl (SP.on (hall93 _ _ _ 0 S83 rfl) (SP.nil S83.sl)) rfl (fun w' hw' => (E.load rfl (run_load1 Tryz.isAgg3 ((at98.mono (i41.tr i57)).now hw') rfl))) ?_
        refine FB.t (i := 11) (bs 22 4095) rfl (SP.on (hall93 _ _ _ 0 S83 rfl) (SP.nil S83.sl)) rfl (fun w' hw' => (E.move k63)) ?_
        refine FB.t (i := 12) (bs 22 8191) rfl (SP.on (hall93 _ _ _ 0 S83 rfl) (SP.nil S83.sl)) rfl (fun w' hw' => (E.move k60)) ?_
        obtain ⟨p100, cs101, pt102, l103, at104, rel105⟩ := p3.at (ix_nat hx50)
        obtain rfl := eTerm_open rel105
        refine FB.t (i := 13) (bs 22 16383) rfl (SP.on (hall93 _ _ _ 0 S83 rfl) (SP.nil S83.sl)) rfl (fun w' hw' => (E.indexAddr te124 rfl rfl pt102)) ?_
        refine FB.t (i := 14) (bs 22 32767) rfl (SP.on (hall93 _ _ _ 0 S83 rfl) (SP.nil S83.sl)) rfl (fun w' hw' => (E.fieldAddr tf179_1 rfl)) ?_
        refine FB.t (i := 15) (bs 22 65535) rfl (SP.on (hall93 _ _ _ 0 S83 rfl) (SP.nil S83.sl)) rfl (fun w' hw' => (E.load rfl (run_load1 Tryz.isAgg3 ((at104.mono (i41.tr i57)).now hw') rfl))) ?_
        refine FB.t (i := 16) (bs 22 131071) rfl (SP.on (hall93 _ _ _ 0 S83 rfl) (SP.nil S83.sl)) rfl (fun w' hw' => (E.mul rfl rfl)) ?_
        refine FB.t (i := 17) (bs 22 262143) rfl (SP.on (hall93 _ _ _ 0 S83 rfl) (SP.nil S83.sl)) rfl (fun w' hw' => (E.add rfl rfl)) ?_
        refine FB.t (i := 18) (bs 22 524287) rfl (SP.on (hall93 _ _ _ 0 S83 rfl) (SP.nil S83.sl)) rfl (fun w' hw' => (E.move k61)) ?_
        refine FB.t (i := 19) (bs 22 1048575) rfl (SP.on (hall93 _ _ _ 0 S83 rfl) (SP.nil S83.sl)) rfl (fun w' hw' => (E.rem rfl rfl (nz_ne z106))) ?_
        obtain ⟨p108, cs109, pt110, l111, at112, rel113, hall116⟩ := S83.row_atA (i := 0) rfl els54 (by decide) hx115
        obtain rfl := eI_open rel113
        refine FB.t (i := 20) (bs 22 2097151) rfl (SP.on (hall93 _ _ _ 0 S83 rfl) (SP.nil S83.sl)) rfl (fun w' hw' => (E.indexAddr te84 rfl rfl pt110)) ?_
        refine FB.all1 (i := 21) (by kernel_rfl) ?_
        ·
          obtain ⟨w117, cs123, run118, S119, els122, ce125⟩ := S83.putEls (P := Tryz.prog) (t := 3) (i := 0) rfl els54 hput121 pt110 Tryz.sizeOf3 (u := Value.int .i64 ((wr (x91 + (wr (y33.coeff * y49.coeff)))).tmod a0)) (c := [Value.int .i64 ((wr (x91 + (wr (y33.coeff * y49.coeff)))).tmod a0)]) rfl rfl (ones_cons rfl ones_nil) rfl
          have S119 : St Ha wa H55 w117 [.row 3 1 v51 n52 cs123] := S119
          refine FC.act (l' := (bs 22 4194303)) rfl (by kernel_rfl) rfl rfl (E.store rfl rfl run118) ?_
          refine ⟨(SP.o (SP.nil S119.sl)), ?_⟩
          exact FB.done (by kernel_rfl) ⟨_, _, _, _, S119, (Inc.rfl _), els122, k61, k62, k63, k64, k65, k60⟩
      ·
        rintro f134 w133 ⟨H130, v126, n127, cs128, S131, i132, els129, k135, k136, k137, k138, k139, k140⟩
        refine FW.region ?_
        refine FL.v (E.move k140) ?_
        refine FL.v (E.add rfl rfl) ?_
        refine FL.v (E.assign (v := Value.int .i64 (wr (((i50 : Nat) : Int) + 1))) rfl) ?_
        refine FL.nil ?_
        obtain rfl := Option.some.inj hp
        exact ⟨rfl, ⟨_, _, _, _, S131, (i57.tr i132), els129, (nat_succ rfl (lt_of_get hx50) (p3.mono ((i41.tr i57).tr i132)).le), k135, k136, k137, k138, k139⟩⟩
    ·
      clear hp hq
      rintro s50 f156 w155 ⟨H152, v51, n52, cs53, S153, i154, els54, k157, k158, k159, k160, k161, k162⟩
      refine FW.seq (FW.seq (FW.region ?_))
      refine FL.v (E.move k157) ?_
      refine FL.v (E.move k160) ?_
      refine FL.v (E.lenP te124 rfl p3) ?_
      refine FL.v (E.lss rfl rfl) ?_
      refine FL.nil ?_
      refine FW.condF rfl dlt_len ?_
      refine FW.exit ?_
      exact ⟨nofun, rfl, ⟨_, _, _, _, S153, i154, els54, k158, k159, k160, k161, k162⟩⟩
    ·
      clear hq
      intro e f146 w145 hD
      rcases q50 with s50 | x50
      ·
        obtain ⟨rfl, hD⟩ := hD
        obtain ⟨H142, v51, n52, cs53, S143, i144, els54, k147, k148, k149, k150, k151⟩ := hD
        replace hp := el_go hp
        refine FW.region ?_
        refine FL.v (E.move k151) ?_
        refine FL.v (E.add rfl rfl) ?_
        refine FL.v (E.assign (v := Value.int .i64 (wr (((i34 : Nat) : Int) + 1))) rfl) ?_
        refine FL.nil ?_
        obtain rfl := Option.some.inj hp
        exact ⟨rfl, ⟨_, _, _, _, S143, (i41.tr i144), els54, (nat_succ rfl (lt_of_get hx34) (p2.mono (i41.tr i144)).le), k147, k148, k149, k150⟩⟩
      · exact x50.elim
  ·
    clear hp hq
    rintro s34 f193 w192 ⟨H189, v35, n36, cs37, S190, i191, els38, k194, k195, k196, k197, k198⟩
    refine FW.seq (FW.seq (FW.region ?_))
    refine FL.v (E.move k194) ?_
    refine FL.v (E.move k196) ?_
    refine FL.v (E.lenP te124 rfl p2) ?_
    refine FL.v (E.lss rfl rfl) ?_
    refine FL.nil ?_
    refine FW.condF rfl dlt_len ?_
    refine FW.exit ?_
    exact ⟨nofun, rfl, ⟨_, _, _, _, S190, i191, els38, k195, k198⟩⟩
  ·
    clear hq
    intro e f168 w167 hD
    rcases q34 with s34 | x34
    ·
      obtain ⟨rfl, hD⟩ := hD
      obtain ⟨H164, v35, n36, cs37, S165, i166, els38, k169, k170⟩ := hD
      replace hp := el_go hp
      refine FW.seq (FW.region ?_)
      refine FL.v (E.move k169) ?_
      refine FL.v (E.move k170) ?_
      obtain ⟨H171, S172, i173, h174, nv175⟩ := S165.sealRowU (i := 0) (l' := []) rfl els38 (by decide) rfl
      obtain ⟨r176, hr177, hp⟩ := bnd hp
      refine FL.call rfl rfl rfl (E.call Tryz.call187 (A2 rfl rfl)) (w_spec_l18Sparse S172.sl a0 v35 s34 (h174.mono upI) hr177) ?_
      rintro e w180 ⟨H178, v185, n186, cs187, rfl, r182, els188⟩
      refine ⟨_, rfl, ?_⟩
      obtain ⟨H183, r182, hU184⟩ := St.lendX i173 S165.sl r182
      have els188 := els188.mono (hU184.tr (up_le S165.size))
      have S181 := S165.join (l' := [.row 179 2 v185 n186 cs187, .row 3 1 v35 n36 cs37]) r182 rfl
      refine FL.v (E.assign (v := v185) rfl) ?_
      refine FL.nil ?_
      refine FW.ret ?_
      obtain rfl := Option.some.inj hp
      exact ⟨.inr rfl, res1 rfl rfl ⟨_, _, _, _, rfl, (S181.sel [0] (by decide) rfl), els188⟩⟩
    · exact x34.elim

@[reducible] def p_spec_l18Clause (Ha : GH) (wa : World) (r : (List Term)) : Ending → World → Prop :=
  fun e w' => ∃ H' : GH, ∃ v0 : Value, ∃ n0 : Nat, ∃ c0 : List Value, e = .returned (v0) ∧ St Ha wa H' w' [.row 179 2 v0 n0 c0] ∧ Els (up wa.heap.size H') eTerm 2 c0 r
theorem w_spec_l18Clause {Ha : GH} {wa : World} (hs : Sl Ha wa) (a0 : Int) (a1 : Int) (v2 : Value) (a2 : List Int) (p2 : RSl Ha eI 1 v2 a2) {r : (List Term)} (hp : (PF.spec_l18Clause a0 a1 a2) = some r) :
    Calls Tryz.prog 82 #[Value.int .i64 a0, Value.int .i64 a1, v2] wa (p_spec_l18Clause Ha wa r) := by
  unfold PF.spec_l18Clause at hp
  have S0 := St.init hs
  refine calls_go (N := 49) (args := [Value.int .i64 a0, Value.int .i64 a1, v2]) Tryz.func82 rfl rfl rfl ?_
  refine FW.seq (FW.region ?_)
  refine FL.v (E.assign (v := Value.slice none 0 0) rfl) ?_
  refine FL.nil (FW.seq (FW.region ?_))
  refine FL.v (E.build (B2 rfl rfl) (run_build _ 179 #[(0, Value.int .i64 0), (1, Value.int .i64 1)] #[Value.int .i64 0, Value.int .i64 1] (by rfl))) ?_
  obtain ⟨v21, w22, run23, S24⟩ := S0.buildSlice (P := Tryz.prog) te124 [Value.agg #[Value.int .i64 0, Value.int .i64 1]] (parts := #[(0, Value.agg #[Value.int .i64 0, Value.int .i64 1])]) (cells := [Value.int .i64 0, Value.int .i64 1]) rfl (szs_cons rfl szs_nil) (fc_cons rfl fc_nil) (ones_cons rfl (ones_cons rfl ones_nil)) (Nat.le_of_ble_eq_true rfl)
  have els25 : Els (up wa.heap.size Ha) eTerm 2 [Value.int .i64 0, Value.int .i64 1] [(Term.mk 0 1)] := (Els.snoc (H := (up wa.heap.size Ha)) (E := eTerm) (k := 2) (c := [Value.int .i64 0, Value.int .i64 1]) (x := (Term.mk 0 1)) Els.nil rfl rfl)
  refine FL.v (E.buildSlice (B1 rfl) run23) ?_
  refine FL.v (E.assign (v := v21) rfl) ?_
  refine FL.nil (FW.seq (FW.seq (FW.region ?_)))
  refine FL.v (E.assign (v := Value.int .i64 0) rfl) ?_
  refine FL.nil ?_
  obtain ⟨q27, hq, hp⟩ := bndR hp
  refine FW.block ?_
  refine FW.mono (FW.forL (S := (List Term)) (X := Empty) (fun (i27 : Nat) (s27 : (List Term)) f w => ∃ H : GH, ∃ v125 : Value, ∃ n126 : Nat, ∃ cs127 : List Value, St Ha wa H w [.row 179 2 v125 n126 cs127] ∧ Inc Ha H ∧ Els (up wa.heap.size H) eTerm 2 cs127 s27 ∧ f 8 = Value.int .i64 ((i27 : Nat) : Int) ∧ f 0 = Value.int .i64 a0 ∧ f 1 = Value.int .i64 a1 ∧ f 2 = v2 ∧ f 7 = v125) (fun (q : Rs (List Term) Empty) e f w => match q with | .go s27 => e = Exit.exit 0 ∧ (∃ H : GH, ∃ v125 : Value, ∃ n126 : Nat, ∃ cs127 : List Value, St Ha wa H w [.row 179 2 v125 n126 cs127] ∧ Inc Ha H ∧ Els (up wa.heap.size H) eTerm 2 cs127 s27 ∧ f 7 = v125) | .rt x => x.elim) hq ⟨_, _, _, _, S24, (Inc.rfl _), els25, rfl, rfl, rfl, rfl, rfl⟩ ?_ ?_) ?_
  ·
    clear hp hq
    rintro i27 y26 s27 f226 w225 ⟨H222, v125, n126, cs127, S223, i224, els128, k227, k228, k229, k230, k231⟩ hx27 o315 hp
    refine FW.seq (FW.seq (FW.region ?_))
    refine FL.v (E.move k227) ?_
    refine FL.v (E.move k230) ?_
    refine FL.v (E.lenP te84 rfl p2) ?_
    refine FL.v (E.lssT rfl rfl (lss_len hx27)) ?_
    refine FL.nil ?_
    refine FW.condT rfl rfl ?_
    refine FW.skip (FW.seq (FW.block (FW.seq (FW.region ?_))))
    refine FL.v (E.move k230) ?_
    refine FL.v (E.move k227) ?_
    obtain ⟨p232, cs233, pt234, l235, at236, rel237⟩ := p2.at (ix_nat hx27)
    obtain rfl := eI_open rel237
    refine FL.v (E.indexAddr te84 rfl rfl pt234) ?_
    refine FL.v (E.load rfl (run_load0 Tryz.isAgg3 ((at236.mono i224).now S223.sl) rfl)) ?_
    refine FL.call rfl rfl rfl (E.call Tryz.call138 (A1 rfl)) (w_spec_l2Var S223.sl y26) ?_
    rintro e w238 ⟨rfl, r239⟩
    refine ⟨_, rfl, ?_⟩
    have S240 := S223.call r239
    refine FL.v (E.sub rfl rfl) ?_
    obtain ⟨u242, z241, hp⟩ := bnd hp
    refine FL.v (E.shl rfl rfl (nn_ge z241)) ?_
    refine FL.v (E.build (B2 rfl rfl) (run_build _ 179 #[(0, Value.int .i64 (shlK true 64 1 (wr ((PF.spec_l2Var y26) - 1)))), (1, Value.int .i64 1)] #[Value.int .i64 (shlK true 64 1 (wr ((PF.spec_l2Var y26) - 1))), Value.int .i64 1] (by rfl))) ?_
    obtain ⟨b243, w244, run245, S246⟩ := S240.alloc (P := Tryz.prog) 179 [Value.int .i64 0, Value.int .i64 0] Tryz.zeroValue179 rfl (ones_cons rfl (ones_cons rfl ones_nil))
    refine FL.v (E.alloc run245) ?_
    obtain ⟨w247, run248, S249⟩ := S246.store0 (P := Tryz.prog) (t := 179) (i := 0) (cs' := [Value.int .i64 (shlK true 64 1 (wr ((PF.spec_l2Var y26) - 1))), Value.int .i64 1]) (l' := [.box b243 179 [Value.int .i64 (shlK true 64 1 (wr ((PF.spec_l2Var y26) - 1))), Value.int .i64 1], .row 179 2 v125 n126 cs127]) (v := Value.agg #[Value.int .i64 (shlK true 64 1 (wr ((PF.spec_l2Var y26) - 1))), Value.int .i64 1]) (c := [Value.int .i64 (shlK true 64 1 (wr ((PF.spec_l2Var y26) - 1))), Value.int .i64 1]) rfl Tryz.sizeOf179 rfl rfl (ones_cons rfl (ones_cons rfl ones_nil)) (Nat.le_of_ble_eq_true rfl) rfl rfl
    refine FL.act rfl rfl (E.store rfl rfl run248) ?_
    obtain ⟨H250, S251, i252, at253⟩ := S249.sealBox (i := 0) (l' := [.row 179 2 v125 n126 cs127]) rfl rfl
    refine FL.nil (FW.seq (FW.region ?_))
    refine FL.v (E.move k230) ?_
    refine FL.v (E.move k227) ?_
    obtain ⟨p254, cs255, pt256, l257, at258, rel259⟩ := p2.at (ix_nat hx27)
    obtain rfl := eI_open rel259
    refine FL.v (E.indexAddr te84 rfl rfl pt256) ?_
    refine FL.v (E.load rfl (run_load0 Tryz.isAgg3 ((at258.mono (i224.tr i252)).now S251.sl) rfl)) ?_
    refine FL.v (E.lss rfl rfl) ?_
    refine FL.nil ?_
    rcases ifB hp with ⟨c260, hp⟩ | ⟨c260, hp⟩
    ·
      refine FW.condT rfl c260 ?_
      refine FW.region ?_
      refine FL.v (E.move k228) ?_
      refine FL.v (E.move k229) ?_
      refine FL.v (E.move k231) ?_
      refine FL.v (E.load rfl (run_loadA Tryz.isAgg179 Tryz.sizeOf179 (at253.now S251.sl) rfl)) ?_
      obtain ⟨v261, w262, run263, S264⟩ := S251.buildSlice (P := Tryz.prog) te124 [Value.agg #[Value.int .i64 (shlK true 64 1 (wr ((PF.spec_l2Var y26) - 1))), Value.int .i64 1]] (parts := #[(0, Value.agg #[Value.int .i64 (shlK true 64 1 (wr ((PF.spec_l2Var y26) - 1))), Value.int .i64 1])]) (cells := [Value.int .i64 (shlK true 64 1 (wr ((PF.spec_l2Var y26) - 1))), Value.int .i64 1]) rfl (szs_cons rfl szs_nil) (fc_cons rfl fc_nil) (ones_cons rfl (ones_cons rfl ones_nil)) (Nat.le_of_ble_eq_true rfl)
      have els265 : Els (up wa.heap.size H250) eTerm 2 [Value.int .i64 (shlK true 64 1 (wr ((PF.spec_l2Var y26) - 1))), Value.int .i64 1] [(Term.mk (shlK true 64 1 (wr ((PF.spec_l2Var y26) - 1))) 1)] := (Els.snoc (H := (up wa.heap.size H250)) (E := eTerm) (k := 2) (c := [Value.int .i64 (shlK true 64 1 (wr ((PF.spec_l2Var y26) - 1))), Value.int .i64 1]) (x := (Term.mk (shlK true 64 1 (wr ((PF.spec_l2Var y26) - 1))) 1)) Els.nil rfl rfl)
      refine FL.v (E.buildSlice (B1 rfl) run263) ?_
      obtain ⟨H266, S267, i268, h269, nv270⟩ := S264.sealRowU (i := 1) (l' := [.row 179 2 v261 1 [Value.int .i64 (shlK true 64 1 (wr ((PF.spec_l2Var y26) - 1))), Value.int .i64 1]]) rfl (els128.mono (up_mono i252)) (by decide) rfl
      obtain ⟨H271, S272, i273, h274, nv275⟩ := S267.sealRowU (i := 0) (l' := []) rfl (els265.mono (up_mono i268)) (by decide) rfl
      obtain ⟨r276, hr277, hp⟩ := bnd hp
      refine FL.call rfl rfl rfl (E.call Tryz.call139 (A4 rfl rfl rfl rfl)) (w_spec_l18Mul S272.sl a0 a1 v125 s27 (h269.mono (upI.tr i273)) v261 [(Term.mk (shlK true 64 1 (wr ((PF.spec_l2Var y26) - 1))) 1)] (h274.mono upI) hr277) ?_
      rintro e w279 ⟨H278, v284, n285, cs286, rfl, r281, els287⟩
      refine ⟨_, rfl, ?_⟩
      obtain ⟨H282, r281, hU283⟩ := St.lendX (i268.tr i273) S264.sl r281
      have els287 := els287.mono (hU283.tr (up_le S264.size))
      have S280 := S264.join (l' := [.row 179 2 v284 n285 cs286, .row 179 2 v261 1 [Value.int .i64 (shlK true 64 1 (wr ((PF.spec_l2Var y26) - 1))), Value.int .i64 1], .row 179 2 v125 n126 cs127]) r281 rfl
      refine FL.v (E.assign (v := v284) rfl) ?_
      refine FL.nil (FW.region ?_)
      refine FL.v (E.move k227) ?_
      refine FL.v (E.add rfl rfl) ?_
      refine FL.v (E.assign (v := Value.int .i64 (wr (((i27 : Nat) : Int) + 1))) rfl) ?_
      refine FL.nil ?_
      obtain rfl := Option.some.inj hp
      exact ⟨rfl, ⟨_, _, _, _, (S280.sel [0] (by decide) rfl), ((i224.tr i252).tr r281.run.inc), els287, (nat_succ rfl (lt_of_get hx27) (p2.mono ((i224.tr i252).tr r281.run.inc)).le), k228, k229, k230, rfl⟩⟩
    ·
      refine FW.condF rfl c260 ?_
      refine FW.region ?_
      refine FL.v (E.move k228) ?_
      refine FL.v (E.move k229) ?_
      refine FL.v (E.move k231) ?_
      refine FL.v (E.build (B2 rfl rfl) (run_build _ 179 #[(0, Value.int .i64 0), (1, Value.int .i64 1)] #[Value.int .i64 0, Value.int .i64 1] (by rfl))) ?_
      refine FL.v (E.fieldAddr tf179_0 rfl) ?_
      refine FL.v (E.load rfl (run_load1 Tryz.isAgg3 (at253.now S251.sl) rfl)) ?_
      refine FL.v (E.move k228) ?_
      refine FL.v (E.sub rfl rfl) ?_
      refine FL.v (E.build (B2 rfl rfl) (run_build _ 179 #[(0, Value.int .i64 (shlK true 64 1 (wr ((PF.spec_l2Var y26) - 1)))), (1, Value.int .i64 (wr (a0 - 1)))] #[Value.int .i64 (shlK true 64 1 (wr ((PF.spec_l2Var y26) - 1))), Value.int .i64 (wr (a0 - 1))] (by rfl))) ?_
      obtain ⟨v288, w289, run290, S291⟩ := S251.buildSlice (P := Tryz.prog) te124 [Value.agg #[Value.int .i64 0, Value.int .i64 1], Value.agg #[Value.int .i64 (shlK true 64 1 (wr ((PF.spec_l2Var y26) - 1))), Value.int .i64 (wr (a0 - 1))]] (parts := #[(0, Value.agg #[Value.int .i64 0, Value.int .i64 1]), (1, Value.agg #[Value.int .i64 (shlK true 64 1 (wr ((PF.spec_l2Var y26) - 1))), Value.int .i64 (wr (a0 - 1))])]) (cells := [Value.int .i64 0, Value.int .i64 1, Value.int .i64 (shlK true 64 1 (wr ((PF.spec_l2Var y26) - 1))), Value.int .i64 (wr (a0 - 1))]) rfl (szs_cons rfl (szs_cons rfl szs_nil)) (fc_cons rfl (fc_cons rfl fc_nil)) (ones_cons rfl (ones_cons rfl (ones_cons rfl (ones_cons rfl ones_nil)))) (Nat.le_of_ble_eq_true rfl)
      have els292 : Els (up wa.heap.size H250) eTerm 2 [Value.int .i64 0, Value.int .i64 1, Value.int .i64 (shlK true 64 1 (wr ((PF.spec_l2Var y26) - 1))), Value.int .i64 (wr (a0 - 1))] [(Term.mk 0 1), (Term.mk (shlK true 64 1 (wr ((PF.spec_l2Var y26) - 1))) (wr (a0 - 1)))] := (Els.snoc (H := (up wa.heap.size H250)) (E := eTerm) (k := 2) (c := [Value.int .i64 (shlK true 64 1 (wr ((PF.spec_l2Var y26) - 1))), Value.int .i64 (wr (a0 - 1))]) (x := (Term.mk (shlK true 64 1 (wr ((PF.spec_l2Var y26) - 1))) (wr (a0 - 1)))) (Els.snoc (H := (up wa.heap.size H250)) (E := eTerm) (k := 2) (c := [Value.int .i64 0, Value.int .i64 1]) (x := (Term.mk 0 1)) Els.nil rfl rfl) rfl rfl)
      refine FL.v (E.buildSlice (B2 rfl rfl) run290) ?_
      obtain ⟨H293, S294, i295, h296, nv297⟩ := S291.sealRowU (i := 1) (l' := [.row 179 2 v288 2 [Value.int .i64 0, Value.int .i64 1, Value.int .i64 (shlK true 64 1 (wr ((PF.spec_l2Var y26) - 1))), Value.int .i64 (wr (a0 - 1))]]) rfl (els128.mono (up_mono i252)) (by decide) rfl
      obtain ⟨H298, S299, i300, h301, nv302⟩ := S294.sealRowU (i := 0) (l' := []) rfl (els292.mono (up_mono i295)) (by decide) rfl
      obtain ⟨r303, hr304, hp⟩ := bnd hp
      refine FL.call rfl rfl rfl (E.call Tryz.call139 (A4 rfl rfl rfl rfl)) (w_spec_l18Mul S299.sl a0 a1 v125 s27 (h296.mono (upI.tr i300)) v288 [(Term.mk 0 1), (Term.mk (shlK true 64 1 (wr ((PF.spec_l2Var y26) - 1))) (wr (a0 - 1)))] (h301.mono upI) hr304) ?_
      rintro e w306 ⟨H305, v311, n312, cs313, rfl, r308, els314⟩
      refine ⟨_, rfl, ?_⟩
      obtain ⟨H309, r308, hU310⟩ := St.lendX (i295.tr i300) S291.sl r308
      have els314 := els314.mono (hU310.tr (up_le S291.size))
      have S307 := S291.join (l' := [.row 179 2 v311 n312 cs313, .row 179 2 v288 2 [Value.int .i64 0, Value.int .i64 1, Value.int .i64 (shlK true 64 1 (wr ((PF.spec_l2Var y26) - 1))), Value.int .i64 (wr (a0 - 1))], .row 179 2 v125 n126 cs127]) r308 rfl
      refine FL.v (E.assign (v := v311) rfl) ?_
      refine FL.nil (FW.region ?_)
      refine FL.v (E.move k227) ?_
      refine FL.v (E.add rfl rfl) ?_
      refine FL.v (E.assign (v := Value.int .i64 (wr (((i27 : Nat) : Int) + 1))) rfl) ?_
      refine FL.nil ?_
      obtain rfl := Option.some.inj hp
      exact ⟨rfl, ⟨_, _, _, _, (S307.sel [0] (by decide) rfl), ((i224.tr i252).tr r308.run.inc), els314, (nat_succ rfl (lt_of_get hx27) (p2.mono ((i224.tr i252).tr r308.run.inc)).le), k228, k229, k230, rfl⟩⟩
  ·
    clear hp hq
    rintro s27 f326 w325 ⟨H322, v125, n126, cs127, S323, i324, els128, k327, k328, k329, k330, k331⟩
    refine FW.seq (FW.seq (FW.region ?_))
    refine FL.v (E.move k327) ?_
    refine FL.v (E.move k330) ?_
    refine FL.v (E.lenP te84 rfl p2) ?_
    refine FL.v (E.lss rfl rfl) ?_
    refine FL.nil ?_
    refine FW.condF rfl dlt_len ?_
    refine FW.exit ?_
    exact ⟨nofun, rfl, ⟨_, _, _, _, S323, i324, els128, k331⟩⟩
  ·
    clear hq
    intro e f320 w319 hD
    rcases q27 with s27 | x27
    ·
      obtain ⟨rfl, hD⟩ := hD
      obtain ⟨H316, v125, n126, cs127, S317, i318, els128, k321⟩ := hD
      replace hp := el_go hp
      refine FW.seq (FW.region ?_)
      refine FL.v (E.move k321) ?_
      refine FL.v (E.assign (v := v125) rfl) ?_
      refine FL.nil ?_
      refine FW.ret ?_
      obtain rfl := Option.some.inj hp
      exact ⟨.inr rfl, res1 rfl rfl ⟨_, _, _, _, rfl, S317, els128⟩⟩
    · exact x27.elim

theorem w_spec_l14Count {Ha : GH} {wa : World} (hs : Sl Ha wa) (a0 : Int) {r : Int} (hp : (PF.spec_l14Count a0) = some r) :
    Calls Tryz.prog 185 #[Value.int .i64 a0] wa (Sc Ha wa (Value.int .i64 r)) := by
  unfold PF.spec_l14Count at hp
  have S0 := St.init hs
  refine calls_go (N := 13) (args := [Value.int .i64 a0]) Tryz.func185 rfl rfl rfl ?_
  refine FW.seq (FW.region ?_)
  refine FL.v (E.assign (v := Value.int .i64 0) rfl) ?_
  refine FL.nil (FW.seq (FW.region ?_))
  refine FL.v (E.assign (v := Value.int .i64 0) rfl) ?_
  refine FL.nil (FW.seq ?_)
  obtain ⟨q21, hq, hp⟩ := bndR hp
  refine FW.block ?_
  refine FW.mono (FW.iter (S := (Int × Int)) (X := Empty) (fun (s21 : (Int × Int)) f w => ∃ H : GH, St Ha wa H w [] ∧ Inc Ha H ∧ f 0 = Value.int .i64 s21.1 ∧ f 3 = Value.int .i64 s21.2) (fun (q : Rs (Int × Int) Empty) e f w => match q with | .go s21 => e = Exit.exit 0 ∧ (∃ H : GH, St Ha wa H w [] ∧ Inc Ha H ∧ f 3 = Value.int .i64 s21.2) | .rt x => x.elim) hq ⟨_, S0, (Inc.rfl _), rfl, rfl⟩ ?_) ?_
  ·
    clear hp hq
    rintro s21 f34 w33 ⟨H30, S31, i32, k35, k36⟩ o38 hp
    refine FW.seq (FW.seq (FW.region ?_))
    refine FL.v (E.move k35) ?_
    refine FL.v (E.gtr rfl rfl) ?_
    refine FL.nil ?_
    rcases ifB hp with ⟨c37, hp⟩ | ⟨c37, hp⟩
    ·
      refine FW.condT rfl c37 ?_
      refine FW.skip (FW.seq (FW.block (FW.region ?_)))
      refine FL.v (E.move k36) ?_
      refine FL.v (E.move k35) ?_
      refine FL.v (E.rem rfl rfl (by decide)) ?_
      refine FL.v (E.add rfl rfl) ?_
      refine FL.v (E.assign (v := Value.int .i64 (wr (s21.2 + (s21.1.tmod 2)))) rfl) ?_
      refine FL.nil (FW.region ?_)
      refine FL.v (E.move k35) ?_
      refine FL.v (E.quo rfl rfl (by decide)) ?_
      refine FL.v (E.assign (v := Value.int .i64 (wr (s21.1.tdiv 2))) rfl) ?_
      refine FL.nil ?_
      obtain rfl := Option.some.inj hp
      exact ⟨rfl, ⟨_, S31, i32, rfl, rfl⟩⟩
    ·
      refine FW.condF rfl c37 ?_
      refine FW.exit ?_
      obtain rfl := Option.some.inj hp
      exact ⟨nofun, rfl, ⟨_, S31, i32, k36⟩⟩
  ·
    clear hq
    intro e f43 w42 hD
    rcases q21 with s21 | x21
    ·
      obtain ⟨rfl, hD⟩ := hD
      obtain ⟨H39, S40, i41, k44⟩ := hD
      replace hp := el_go hp
      refine FW.seq (FW.region ?_)
      refine FL.v (E.move k44) ?_
      refine FL.v (E.assign (v := Value.int .i64 s21.2) rfl) ?_
      refine FL.nil ?_
      refine FW.ret ?_
      obtain rfl := Option.some.inj hp
      exact ⟨.inr rfl, res1 rfl rfl ⟨rfl, S40.back⟩⟩
    · exact x21.elim

theorem w_spec_l20Before {Ha : GH} {wa : World} (hs : Sl Ha wa) (a0 : Int) (a1 : Int) {r : Bool} (hp : (PF.spec_l20Before a0 a1) = some r) :
  Calls Tryz.prog 184 #[Value.int .i64 a0, Value.int .i64 a1] wa (Sc Ha wa (Value.bool r)) := by
 unfold PF.spec_l20Before at hp
 have S0 := St.init hs
 refine calls_go (N := 18) (args := [Value.int .i64 a0, Value.int .i64 a1]) Tryz.func184 rfl rfl rfl ?_
 refine FW.seq (FW.region ?_)
 refine FL.v (E.assign (v := Value.bool false) rfl) ?_
 refine FL.nil (FW.seq (FW.seq (FW.region ?_)))
 refine FL.v (E.move (v := Value.int .i64 a0) rfl) ?_
 obtain ⟨r21, hr22, hp⟩ := bnd hp
 refine FL.call rfl rfl rfl (E.call Tryz.call185 (A1 rfl)) (w_spec_l14Count S0.sl a0 hr22) ?_
 rintro e w23 ⟨rfl, r24⟩
 refine ⟨_, rfl, ?_⟩
 have S25 := S0.call r24
 refine FL.v (E.move (v := Value.int .i64 a1) rfl) ?_
 obtain ⟨r26, hr27, hp⟩ := bnd hp
 refine FL.call rfl rfl rfl (E.call Tryz.call185 (A1 rfl)) (w_spec_l14Count S25.sl a1 hr27) ?_
 rintro e w28 ⟨rfl, r29⟩
 refine ⟨_, rfl, ?_⟩
 have S30 := S25.call r29
 refine FL.v (E.neq rfl rfl) ?_
 refine FL.nil ?_
 rcases ifB hp with ⟨c31, hp⟩ | ⟨c31, hp⟩
 ·
  refine FW.condT rfl c31 ?_
  refine FW.seq (FW.region ?_)
  refine FL.v (E.move (v := Value.int .i64 a0) rfl) ?_
  obtain ⟨r32, hr33, hp⟩ := bnd hp
  refine FL.call rfl rfl rfl (E.call Tryz.call185 (A1 rfl)) (w_spec_l14Count S30.sl a0 hr33) ?_
  rintro e w34 ⟨rfl, r35⟩
  refine ⟨_, rfl, ?_⟩
  have S36 := S30.call r35
  refine FL.v (E.move (v := Value.int .i64 a1) rfl) ?_
  obtain ⟨r37, hr38, hp⟩ := bnd hp
  refine FL.call rfl rfl rfl (E.call Tryz.call185 (A1 rfl)) (w_spec_l14Count S36.sl a1 hr38) ?_
  rintro e w39 ⟨rfl, r40⟩
  refine ⟨_, rfl, ?_⟩
  have S41 := S36.call r40
  refine FL.v (E.lss rfl rfl) ?_
  refine FL.v (E.assign (v := Value.bool (decide (r32 < r37))) rfl) ?_
  refine FL.nil ?_
  refine FW.ret ?_
  obtain rfl := Option.some.inj hp
  exact ⟨.inr rfl, res1 rfl rfl ⟨rfl, S41.back⟩⟩
 ·
  refine FW.condF rfl c31 ?_
  refine FW.skip (FW.seq (FW.region ?_))
  refine FL.v (E.move (v := Value.int .i64 a0) rfl) ?_
  refine FL.v (E.move (v := Value.int .i64 a1) rfl) ?_
  refine FL.v (E.lss rfl rfl) ?_
  refine FL.v (E.assign (v := Value.bool (decide (a0 < a1))) rfl) ?_
  refine FL.nil ?_
  refine FW.ret ?_
  obtain rfl := Option.some.inj hp
  exact ⟨.inr rfl, res1 rfl rfl ⟨rfl, S30.back⟩⟩

theorem w_spec_l20Lead {Ha : GH} {wa : World} (hs : Sl Ha wa) (v0 : Value) (a0 : List Term) (p0 : RSl Ha eTerm 2 v0 a0) {r : Int} (hp : (PF.spec_l20Lead a0) = some r) :
    Calls Tryz.prog 136 #[v0] wa (Sc Ha wa (Value.int .i64 r)) := by
  unfold PF.spec_l20Lead at hp
  have S0 := St.init hs
  refine calls_go (N := 28) (args := [v0]) Tryz.func136 rfl rfl rfl ?_
  refine FW.seq (FW.region ?_)
  refine FL.v (E.assign (v := Value.int .i64 0) rfl) ?_
  refine FL.nil (FW.seq (FW.region ?_))
  refine FL.v (E.move (v := v0) rfl) ?_
  obtain ⟨x27, hx28, hp⟩ := bnd hp
  obtain ⟨p21, cs22, pt23, l24, at25, rel26⟩ := p0.at hx28
  obtain rfl := eTerm_open rel26
  refine FL.v (E.indexAddr te124 rfl rfl pt23) ?_
  refine FL.v (E.fieldAddr tf179_0 rfl) ?_
  refine FL.v (E.load rfl (run_load1 Tryz.isAgg3 (at25.now S0.sl) rfl)) ?_
  refine FL.v (E.assign (v := Value.int .i64 x27.mono) rfl) ?_
  refine FL.nil (FW.seq (FW.seq (FW.region ?_)))
  refine FL.v (E.assign (v := Value.int .i64 1) rfl) ?_
  refine FL.nil ?_
  obtain ⟨q29, hq, hp⟩ := bndR hp
  refine FW.block ?_
  refine FW.mono (FW.forR (S := Int) (X := Empty) (fun (i29 : Nat) (s29 : Int) f w => ∃ H : GH, St Ha wa H w [] ∧ Inc Ha H ∧ f 4 = Value.int .i64 ((i29 : Nat) : Int) ∧ f 0 = v0 ∧ f 3 = Value.int .i64 s29) (fun (q : Rs Int Empty) e f w => match q with | .go s29 => e = Exit.exit 0 ∧ (∃ H : GH, St Ha wa H w [] ∧ Inc Ha H ∧ f 3 = Value.int .i64 s29) | .rt x => x.elim) hq ⟨_, S0, (Inc.rfl _), rfl, rfl, rfl⟩ ?_ ?_) ?_
  ·
    clear hp hq
    rintro i29 s29 f64 w63 ⟨H60, S61, i62, k65, k66, k67⟩ hi29 hj29 o90 hp
    refine FW.seq (FW.seq (FW.region ?_))
    refine FL.v (E.move k65) ?_
    refine FL.v (E.move k66) ?_
    refine FL.v (E.lenP te124 rfl p0) ?_
    refine FL.v (E.lssT rfl rfl (lss_natlen hj29)) ?_
    refine FL.nil ?_
    refine FW.condT rfl rfl ?_
    refine FW.skip (FW.seq (FW.block (FW.seq (FW.region ?_))))
    refine FL.v (E.move k67) ?_
    refine FL.v (E.move k66) ?_
    refine FL.v (E.move k65) ?_
    obtain ⟨x74, hx75, hp⟩ := bnd hp
    obtain ⟨p68, cs69, pt70, l71, at72, rel73⟩ := p0.at hx75
    obtain rfl := eTerm_open rel73
    refine FL.v (E.indexAddr te124 rfl rfl pt70) ?_
    refine FL.v (E.fieldAddr tf179_0 rfl) ?_
    refine FL.v (E.load rfl (run_load1 Tryz.isAgg3 ((at72.mono i62).now S61.sl) rfl)) ?_
    obtain ⟨r76, hr77, hp⟩ := bnd hp
    refine FL.call rfl rfl rfl (E.call Tryz.call184 (A2 rfl rfl)) (w_spec_l20Before S61.sl s29 x74.mono hr77) ?_
    rintro e w78 ⟨rfl, r79⟩
    refine ⟨_, rfl, ?_⟩
    have S80 := S61.call r79
    refine FL.nil ?_
    rcases ifB hp with ⟨c81, hp⟩ | ⟨c81, hp⟩
    ·
      refine FW.condT rfl c81 ?_
      refine FW.region ?_
      refine FL.v (E.move k66) ?_
      refine FL.v (E.move k65) ?_
      obtain ⟨x88, hx89, hp⟩ := bnd hp
      obtain ⟨p82, cs83, pt84, l85, at86, rel87⟩ := p0.at hx89
      obtain rfl := eTerm_open rel87
      refine FL.v (E.indexAddr te124 rfl rfl pt84) ?_
      refine FL.v (E.fieldAddr tf179_0 rfl) ?_
      refine FL.v (E.load rfl (run_load1 Tryz.isAgg3 ((at86.mono i62).now S80.sl) rfl)) ?_
      refine FL.v (E.assign (v := Value.int .i64 x88.mono) rfl) ?_
      refine FL.nil (FW.region ?_)
      refine FL.v (E.move k65) ?_
      refine FL.v (E.add rfl rfl) ?_
      refine FL.v (E.assign (v := Value.int .i64 (wr (((i29 : Nat) : Int) + 1))) rfl) ?_
      refine FL.nil ?_
      obtain rfl := Option.some.inj hp
      exact ⟨rfl, ⟨_, S80, i62, (nat_succ rfl hj29 (p0.mono i62).le), k66, rfl⟩⟩
    ·
      refine FW.condF rfl c81 ?_
      refine FW.skip (FW.region ?_)
      refine FL.v (E.move k65) ?_
      refine FL.v (E.add rfl rfl) ?_
      refine FL.v (E.assign (v := Value.int .i64 (wr (((i29 : Nat) : Int) + 1))) rfl) ?_
      refine FL.nil ?_
      obtain rfl := Option.some.inj hp
      exact ⟨rfl, ⟨_, S80, i62, (nat_succ rfl hj29 (p0.mono i62).le), k66, k67⟩⟩
  ·
    clear hp hq
    rintro s29 f101 w100 ⟨H97, S98, i99, k102, k103, k104⟩
    refine FW.seq (FW.seq (FW.region ?_))
    refine FL.v (E.move k102) ?_
    refine FL.v (E.move k103) ?_
    refine FL.v (E.lenP te124 rfl p0) ?_
    refine FL.v (E.lss rfl rfl) ?_
    refine FL.nil ?_
    refine FW.condF rfl dlt_maxlen ?_
    refine FW.exit ?_
    exact ⟨nofun, rfl, ⟨_, S98, i99, k104⟩⟩
  ·
    clear hq
    intro e f95 w94 hD
    rcases q29 with s29 | x29
    ·
      obtain ⟨rfl, hD⟩ := hD
      obtain ⟨H91, S92, i93, k96⟩ := hD
      replace hp := el_go hp
      refine FW.seq (FW.region ?_)
      refine FL.v (E.move k96) ?_
      refine FL.v (E.assign (v := Value.int .i64 s29) rfl) ?_
      refine FL.nil ?_
      refine FW.ret ?_
      obtain rfl := Option.some.inj hp
      exact ⟨.inr rfl, res1 rfl rfl ⟨rfl, S92.back⟩⟩
    · exact x29.elim

theorem w_spec_l20Coeff {Ha : GH} {wa : World} (hs : Sl Ha wa) (v0 : Value) (a0 : List Term) (p0 : RSl Ha eTerm 2 v0 a0) (a1 : Int) {r : Int} (hp : (PF.spec_l20Coeff a0 a1) = some r) :
  Calls Tryz.prog 135 #[v0, Value.int .i64 a1] wa (Sc Ha wa (Value.int .i64 r)) := by
 unfold PF.spec_l20Coeff at hp
 have S0 := St.init hs
 refine calls_go (N := 24) (args := [v0, Value.int .i64 a1]) Tryz.func135 rfl rfl rfl ?_
 refine FW.seq (FW.region ?_)
 refine FL.v (E.assign (v := Value.int .i64 0) rfl) ?_
 refine FL.nil (FW.seq (FW.seq (FW.region ?_)))
 refine FL.v (E.assign (v := Value.int .i64 0) rfl) ?_
 refine FL.nil ?_
 obtain ⟨q22, hq, hp⟩ := bndR hp
 refine FW.block ?_
 refine FW.mono (FW.forL (S := Unit) (X := Int) (fun (i22 : Nat) (s22 : Unit) f w => ∃ H : GH, St Ha wa H w [] ∧ Inc Ha H ∧ f 5 = Value.int .i64 ((i22 : Nat) : Int) ∧ f 0 = v0 ∧ f 1 = Value.int .i64 a1) (fun q e f w => match q with | .go s22 => e = Exit.exit 0 ∧ (∃ H : GH, St Ha wa H w [] ∧ Inc Ha H) | .rt x => ((e = Exit.ret) ∧ (fun e f w => (e = Exit.normal ∨ e = Exit.ret) ∧ ∀ a, Fr (δ := []) 24 a f → ∃ v, (results Tryz.f135 a.tmps).run Tryz.prog w = .ok v w ∧ (Sc Ha wa (Value.int .i64 x)) (.returned v) w) e f w)) hq ⟨_, S0, (Inc.rfl _), rfl, rfl, rfl⟩ ?_ ?_) ?_
 ·
  clear hp hq
  rintro i22 y21 s22 f48 w47 ⟨H44, S45, i46, k49, k50, k51⟩ hx22 o65 hp
  refine FW.seq (FW.seq (FW.region ?_))
  refine FL.v (E.move k49) ?_
  refine FL.v (E.move k50) ?_
  refine FL.v (E.lenP te124 rfl p0) ?_
  refine FL.v (E.lssT rfl rfl (lss_len hx22)) ?_
  refine FL.nil ?_
  refine FW.condT rfl rfl ?_
  refine FW.skip (FW.seq (FW.block (FW.seq (FW.region ?_))))
  refine FL.v (E.move k50) ?_
  refine FL.v (E.move k49) ?_
  obtain ⟨p52, cs53, pt54, l55, at56, rel57⟩ := p0.at (ix_nat hx22)
  obtain rfl := eTerm_open rel57
  refine FL.v (E.indexAddr te124 rfl rfl pt54) ?_
  refine FL.v (E.fieldAddr tf179_0 rfl) ?_
  refine FL.v (E.load rfl (run_load1 Tryz.isAgg3 ((at56.mono i46).now S45.sl) rfl)) ?_
  refine FL.v (E.move k51) ?_
  refine FL.v (E.eql rfl rfl) ?_
  refine FL.nil ?_
  rcases ifB hp with ⟨c58, hp⟩ | ⟨c58, hp⟩
  ·
   refine FW.condT rfl c58 ?_
   refine FW.seq (FW.region ?_)
   refine FL.v (E.move k50) ?_
   refine FL.v (E.move k49) ?_
   obtain ⟨p59, cs60, pt61, l62, at63, rel64⟩ := p0.at (ix_nat hx22)
   obtain rfl := eTerm_open rel64
   refine FL.v (E.indexAddr te124 rfl rfl pt61) ?_
   refine FL.v (E.fieldAddr tf179_1 rfl) ?_
   refine FL.v (E.load rfl (run_load1 Tryz.isAgg3 ((at63.mono i46).now S45.sl) rfl)) ?_
   refine FL.v (E.assign (v := Value.int .i64 y21.coeff) rfl) ?_
   refine FL.nil ?_
   refine FW.ret ?_
   obtain rfl := Option.some.inj hp
   exact ⟨nofun, rfl, ⟨.inr rfl, res1 rfl rfl ⟨rfl, S45.back⟩⟩⟩
  ·
   refine FW.condF rfl c58 ?_
   refine FW.skip (FW.region ?_)
   refine FL.v (E.move k49) ?_
   refine FL.v (E.add rfl rfl) ?_
   refine FL.v (E.assign (v := Value.int .i64 (wr (((i22 : Nat) : Int) + 1))) rfl) ?_
   refine FL.nil ?_
   obtain rfl := Option.some.inj hp
   exact ⟨rfl, ⟨_, S45, i46, (nat_succ rfl (lt_of_get hx22) (p0.mono i46).le), k50, k51⟩⟩
 ·
  clear hp hq
  rintro s22 f75 w74 ⟨H71, S72, i73, k76, k77, k78⟩
  refine FW.seq (FW.seq (FW.region ?_))
  refine FL.v (E.move k76) ?_
  refine FL.v (E.move k77) ?_
  refine FL.v (E.lenP te124 rfl p0) ?_
  refine FL.v (E.lss rfl rfl) ?_
  refine FL.nil ?_
  refine FW.condF rfl dlt_len ?_
  refine FW.exit ?_
  exact ⟨nofun, rfl, ⟨_, S72, i73⟩⟩
 ·
  clear hq
  intro e f70 w69 hD
  rcases q22 with s22 | x22
  ·
   obtain ⟨rfl, hD⟩ := hD
   obtain ⟨H66, S67, i68⟩ := hD
   replace hp := el_go hp
   refine FW.seq (FW.region ?_)
   refine FL.v (E.assign (v := Value.int .i64 0) rfl) ?_
   refine FL.nil ?_
   refine FW.ret ?_
   obtain rfl := Option.some.inj hp
   exact ⟨.inr rfl, res1 rfl rfl ⟨rfl, S67.back⟩⟩
  ·
   obtain ⟨he, hL⟩ := hD
   replace hp := el_rt hp
   obtain rfl := Option.some.inj hp
   subst he
   exact hL

@[reducible] def p_spec_l18Dense (Ha : GH) (wa : World) (r : (List Int)) : Ending → World → Prop :=
  fun e w' => ∃ H' : GH, ∃ v0 : Value, ∃ n0 : Nat, ∃ c0 : List Value, e = .returned (v0) ∧ St Ha wa H' w' [.row 3 1 v0 n0 c0] ∧ Els (up wa.heap.size H') eI 1 c0 r
theorem w_spec_l18Dense {Ha : GH} {wa : World} (hs : Sl Ha wa) (a0 : Int) (v1 : Value) (a1 : List Term) (p1 : RSl Ha eTerm 2 v1 a1) {r : (List Int)} (hp : (PF.spec_l18Dense a0 a1) = some r) :
    Calls Tryz.prog 186 #[Value.int .i64 a0, v1] wa (p_spec_l18Dense Ha wa r) := by
  unfold PF.spec_l18Dense at hp
  have S0 := St.init hs
  refine calls_go (N := 29) (args := [Value.int .i64 a0, v1]) Tryz.func186 rfl rfl rfl ?_
  refine FW.seq (FW.region ?_)
  refine FL.v (E.assign (v := Value.slice none 0 0) rfl) ?_
  refine FL.nil (FW.seq (FW.region ?_))
  refine FL.v (E.move (v := Value.int .i64 a0) rfl) ?_
  obtain ⟨u22, z21, hp⟩ := bnd hp
  refine FL.v (E.shl rfl rfl (nn_ge z21)) ?_
  obtain ⟨xs23, hm24, hp⟩ := bnd hp
  obtain ⟨v25, w26, n30, cs31, run27, S28, els29, hbl32⟩ := S0.makeEls (P := Tryz.prog) te84 (G := (up wa.heap.size Ha)) (En := eI) (x0 := (0 : Int)) hm24 rfl (ones_cons rfl ones_nil) .i64 .i64
  refine FL.v (E.makeSlice rfl rfl run27) ?_
  refine FL.v (E.assign (v := v25) rfl) ?_
  refine FL.nil (FW.seq (FW.seq (FW.region ?_)))
  refine FL.v (E.assign (v := Value.int .i64 0) rfl) ?_
  refine FL.nil ?_
  obtain ⟨q34, hq, hp⟩ := bndR hp
  refine FW.block ?_
  refine FW.mono (FW.forL (S := (List Int)) (X := Empty) (fun (i34 : Nat) (s34 : (List Int)) f w => ∃ H : GH, ∃ v35 : Value, ∃ n36 : Nat, ∃ cs37 : List Value, St Ha wa H w [.row 3 1 v35 n36 cs37] ∧ Inc Ha H ∧ Els (up wa.heap.size H) eI 1 cs37 s34 ∧ f 6 = Value.int .i64 ((i34 : Nat) : Int) ∧ f 1 = v1 ∧ f 5 = v35) (fun (q : Rs (List Int) Empty) e f w => match q with | .go s34 => e = Exit.exit 0 ∧ (∃ H : GH, ∃ v35 : Value, ∃ n36 : Nat, ∃ cs37 : List Value, St Ha wa H w [.row 3 1 v35 n36 cs37] ∧ Inc Ha H ∧ Els (up wa.heap.size H) eI 1 cs37 s34 ∧ f 5 = v35) | .rt x => x.elim) hq ⟨_, _, _, _, S28, (Inc.rfl _), els29, rfl, rfl, rfl⟩ ?_ ?_) ?_
  ·
    clear hp hq
    rintro i34 y33 s34 f43 w42 ⟨H39, v35, n36, cs37, S40, i41, els38, k44, k45, k46⟩ hx34 o92 hp
    refine FW.seq (FW.seq (FW.region ?_))
    refine FL.v (E.move k44) ?_
    refine FL.v (E.move k45) ?_
    refine FL.v (E.lenP te124 rfl p1) ?_
    refine FL.v (E.lssT rfl rfl (lss_len hx34)) ?_
    refine FL.nil ?_
    refine FW.condT rfl rfl ?_
    refine FW.skip (FW.seq (FW.block ?_))
    obtain ⟨x68, hx69, hp⟩ := bnd hp
    obtain ⟨xs74, hput75, hp⟩ := bnd hp
    refine FW.drawB (Sl H39) (fun f w => ∃ H : GH, ∃ v79 : Value, ∃ n80 : Nat, ∃ cs81 : List Value, St Ha wa H w [.row 3 1 v79 n80 cs81] ∧ Inc H39 H ∧ Els (up wa.heap.size H) eI 1 cs81 xs74 ∧ f 1 = v1 ∧ f 5 = v79 ∧ f 6 = Value.int .i64 ((i34 : Nat) : Int)) (by kernel_rfl) S40.sl ?_ ?_
    ·
      intro w47 r48
      have S49 := S40.call r48
      refine FB.t (i := 0) (bs 13 1) rfl (SP.nil S49.sl) rfl (fun w' hw' => (E.move k46)) ?_
      refine FB.t (i := 1) (bs 13 3) rfl (SP.nil S49.sl) rfl (fun w' hw' => (E.move k45)) ?_
      refine FB.t (i := 2) (bs 13 7) rfl (SP.nil S49.sl) rfl (fun w' hw' => (E.move k44)) ?_
      obtain ⟨p50, cs51, pt52, l53, at54, rel55⟩ := p1.at (ix_nat hx34)
      obtain rfl := eTerm_open rel55
      refine FB.t (i := 3) (bs 13 15) rfl (SP.nil S49.sl) rfl (fun w' hw' => (E.indexAddr te124 rfl rfl pt52)) ?_
      refine FB.t (i := 4) (bs 13 31) rfl (SP.nil S49.sl) rfl (fun w' hw' => (E.fieldAddr tf179_0 rfl)) ?_
      refine FB.t (i := 5) (bs 13 63) rfl (SP.nil S49.sl) rfl (fun w' hw' => (E.load rfl (run_load1 Tryz.isAgg3 ((at54.mono i41).now hw') rfl))) ?_
      refine FB.t (i := 6) (bs 13 127) rfl (SP.nil S49.sl) rfl (fun w' hw' => (E.move k45)) ?_
      refine FB.t (i := 7) (bs 13 255) rfl (SP.nil S49.sl) rfl (fun w' hw' => (E.move k44)) ?_
      obtain ⟨p56, cs57, pt58, l59, at60, rel61⟩ := p1.at (ix_nat hx34)
      obtain rfl := eTerm_open rel61
      refine FB.t (i := 8) (bs 13 511) rfl (SP.nil S49.sl) rfl (fun w' hw' => (E.indexAddr te124 rfl rfl pt58)) ?_
      refine FB.t (i := 9) (bs 13 1023) rfl (SP.nil S49.sl) rfl (fun w' hw' => (E.fieldAddr tf179_1 rfl)) ?_
      refine FB.t (i := 10) (bs 13 2047) rfl (SP.nil S49.sl) rfl (fun w' hw' => (E.load rfl (run_load1 Tryz.isAgg3 ((at60.mono i41).now hw') rfl))) ?_
      obtain ⟨p62, cs63, pt64, l65, at66, rel67, hall70⟩ := S49.row_atA (i := 0) rfl els38 (by decide) hx69
      obtain rfl := eI_open rel67
      refine FB.t (i := 11) (bs 13 4095) rfl (SP.nil S49.sl) rfl (fun w' hw' => (E.indexAddr te84 rfl rfl pt64)) ?_
      refine FB.all1 (i := 12) (by kernel_rfl) ?_
      ·
        obtain ⟨w71, cs77, run72, S73, els76, ce78⟩ := S49.putEls (P := Tryz.prog) (t := 3) (i := 0) rfl els38 hput75 pt64 Tryz.sizeOf3 (u := Value.int .i64 y33.coeff) (c := [Value.int .i64 y33.coeff]) rfl rfl (ones_cons rfl ones_nil) rfl
        have S73 : St Ha wa H39 w71 [.row 3 1 v35 n36 cs77] := S73
        refine FC.act (l' := (bs 13 8191)) rfl (by kernel_rfl) rfl rfl (E.store rfl rfl run72) ?_
        refine ⟨(SP.nil S73.sl), ?_⟩
        exact FB.done (by kernel_rfl) ⟨_, _, _, _, S73, (Inc.rfl _), els76, k45, k46, k44⟩
    ·
      rintro f88 w87 ⟨H83, v79, n80, cs81, S85, i86, els82, k89, k90, k91⟩
      refine FW.region ?_
      refine FL.v (E.move k91) ?_
      refine FL.v (E.add rfl rfl) ?_
      refine FL.v (E.assign (v := Value.int .i64 (wr (((i34 : Nat) : Int) + 1))) rfl) ?_
      refine FL.nil ?_
      obtain rfl := Option.some.inj hp
      exact ⟨rfl, ⟨_, _, _, _, S85, (i41.tr i86), els82, (nat_succ rfl (lt_of_get hx34) (p1.mono (i41.tr i86)).le), k89, k90⟩⟩
  ·
    clear hp hq
    rintro s34 f103 w102 ⟨H99, v35, n36, cs37, S100, i101, els38, k104, k105, k106⟩
    refine FW.seq (FW.seq (FW.region ?_))
    refine FL.v (E.move k104) ?_
    refine FL.v (E.move k105) ?_
    refine FL.v (E.lenP te124 rfl p1) ?_
    refine FL.v (E.lss rfl rfl) ?_
    refine FL.nil ?_
    refine FW.condF rfl dlt_len ?_
    refine FW.exit ?_
    exact ⟨nofun, rfl, ⟨_, _, _, _, S100, i101, els38, k106⟩⟩
  ·
    clear hq
    intro e f97 w96 hD
    rcases q34 with s34 | x34
    ·
      obtain ⟨rfl, hD⟩ := hD
      obtain ⟨H93, v35, n36, cs37, S94, i95, els38, k98⟩ := hD
      replace hp := el_go hp
      refine FW.seq (FW.region ?_)
      refine FL.v (E.move k98) ?_
      refine FL.v (E.assign (v := v35) rfl) ?_
      refine FL.nil ?_
      refine FW.ret ?_
      obtain rfl := Option.some.inj hp
      exact ⟨.inr rfl, res1 rfl rfl ⟨_, _, _, _, rfl, S94, els38⟩⟩
    · exact x34.elim

@[reducible] def p_spec_l18Add (Ha : GH) (wa : World) (r : (List Term)) : Ending → World → Prop :=
  fun e w' => ∃ H' : GH, ∃ v0 : Value, ∃ n0 : Nat, ∃ c0 : List Value, e = .returned (v0) ∧ St Ha wa H' w' [.row 179 2 v0 n0 c0] ∧ Els (up wa.heap.size H') eTerm 2 c0 r
theorem w_spec_l18Add {Ha : GH} {wa : World} (hs : Sl Ha wa) (a0 : Int) (a1 : Int) (v2 : Value) (a2 : List Term) (p2 : RSl Ha eTerm 2 v2 a2) (v3 : Value) (a3 : List Term) (p3 : RSl Ha eTerm 2 v3 a3) (a4 : Int) {r : (List Term)} (hp : (PF.spec_l18Add a0 a1 a2 a3 a4) = some r) :
    Calls Tryz.prog 137 #[Value.int .i64 a0, Value.int .i64 a1, v2, v3, Value.int .i64 a4] wa (p_spec_l18Add Ha wa r) := by
  unfold PF.spec_l18Add at hp
  have S0 := St.init hs
  refine calls_go (N := 43) (args := [Value.int .i64 a0, Value.int .i64 a1, v2, v3, Value.int .i64 a4]) Tryz.func137 rfl rfl rfl ?_
  refine FW.seq (FW.region ?_)
  refine FL.v (E.assign (v := Value.slice none 0 0) rfl) ?_
  refine FL.nil (FW.seq (FW.region ?_))
  refine FL.v (E.move (v := Value.int .i64 a1) rfl) ?_
  refine FL.v (E.move (v := v2) rfl) ?_
  obtain ⟨r21, hr22, hp⟩ := bnd hp
  refine FL.call rfl rfl rfl (E.call Tryz.call186 (A2 rfl rfl)) (w_spec_l18Dense S0.sl a1 v2 a2 p2 hr22) ?_
  rintro e w24 ⟨H23, v27, n28, cs29, rfl, r26, els30⟩
  refine ⟨_, rfl, ?_⟩
  have els30 := els30.mono (up_le S0.size)
  have S25 := S0.join (l' := [.row 3 1 v27 n28 cs29]) r26 rfl
  refine FL.v (E.move (v := Value.int .i64 a1) rfl) ?_
  refine FL.v (E.move (v := v3) rfl) ?_
  obtain ⟨r31, hr32, hp⟩ := bnd hp
  refine FL.call rfl rfl rfl (E.call Tryz.call186 (A2 rfl rfl)) (w_spec_l18Dense S25.sl a1 v3 a3 (p3.mono r26.run.inc) hr32) ?_
  rintro e w34 ⟨H33, v37, n38, cs39, rfl, r36, els40⟩
  refine ⟨_, rfl, ?_⟩
  have els40 := els40.mono (up_le S25.size)
  have S35 := S25.join (l' := [.row 3 1 v37 n38 cs39, .row 3 1 v27 n28 cs29]) r36 rfl
  refine FL.v (E.assign (v := v27) rfl) ?_
  refine FL.v (E.assign (v := v37) rfl) ?_
  refine FL.nil (FW.seq (FW.seq (FW.region ?_)))
  refine FL.v (E.assign (v := Value.int .i64 0) rfl) ?_
  refine FL.nil ?_
  obtain ⟨q41, hq, hp⟩ := bndR hp
  refine FW.block ?_
  refine FW.mono (FW.iter (S := ((List Int) × Int)) (X := Empty) (fun (s41 : ((List Int) × Int)) f w => ∃ H : GH, ∃ v42 : Value, ∃ n43 : Nat, ∃ cs44 : List Value, St Ha wa H w [.row 3 1 v37 n38 cs39, .row 3 1 v42 n43 cs44] ∧ Inc H33 H ∧ Els (up wa.heap.size H) eI 1 cs44 s41.1 ∧ f 0 = Value.int .i64 a0 ∧ f 4 = Value.int .i64 a4 ∧ f 11 = v42 ∧ f 12 = v37 ∧ f 13 = Value.int .i64 s41.2) (fun (q : Rs ((List Int) × Int) Empty) e f w => match q with | .go s41 => e = Exit.exit 0 ∧ (∃ H : GH, ∃ v42 : Value, ∃ n43 : Nat, ∃ cs44 : List Value, St Ha wa H w [.row 3 1 v37 n38 cs39, .row 3 1 v42 n43 cs44] ∧ Inc H33 H ∧ Els (up wa.heap.size H) eI 1 cs44 s41.1 ∧ f 0 = Value.int .i64 a0 ∧ f 11 = v42) | .rt x => x.elim) hq ⟨_, _, _, _, S35, (Inc.rfl _), (els30.mono (up_mono r36.run.inc)), rfl, rfl, rfl, rfl, rfl⟩ ?_) ?_
  ·
    clear hp hq
    rintro s41 f50 w49 ⟨H46, v42, n43, cs44, S47, i48, els45, k51, k52, k53, k54, k55⟩ o110 hp
    refine FW.seq (FW.seq (FW.region ?_))
    refine FL.v (E.move k55) ?_
    refine FL.v (E.move k53) ?_
    refine FL.v (E.lenO te84 rfl S47 (i := 1) rfl els45 (by decide)) ?_
    refine FL.v (E.lss rfl rfl) ?_
    refine FL.nil ?_
    rcases ifB hp with ⟨c56, hp⟩ | ⟨c56, hp⟩
    ·
      refine FW.condT rfl c56 ?_
      refine FW.skip (FW.seq (FW.block ?_))
      obtain ⟨x66, hx67, hp⟩ := bnd hp
      obtain ⟨x75, hx76, hp⟩ := bnd hp
      obtain ⟨x85, hx86, hp⟩ := bnd hp
      obtain ⟨xs91, hput92, hp⟩ := bnd hp
      refine FW.drawB (SX Ha wa H46 [.row 3 1 v37 n38 cs39]) (fun f w => ∃ H : GH, ∃ v96 : Value, ∃ n97 : Nat, ∃ cs98 : List Value, St Ha wa H w [.row 3 1 v37 n38 cs39, .row 3 1 v96 n97 cs98] ∧ Inc H46 H ∧ Els (up wa.heap.size H) eI 1 cs98 xs91 ∧ f 0 = Value.int .i64 a0 ∧ f 4 = Value.int .i64 a4 ∧ f 11 = v96 ∧ f 12 = v37 ∧ f 13 = Value.int .i64 s41.2) (by kernel_rfl) S47.sl ?_ ?_
      ·
        intro w57 r58
        have S59 := S47.call r58
        refine FB.t (i := 0) (bs 15 1) rfl (SP.nil ⟨_, (S59.sel [0] (by decide) rfl), (Inc.rfl _)⟩) rfl (fun w' hw' => (E.move k53)) ?_
        refine FB.t (i := 1) (bs 15 3) rfl (SP.nil ⟨_, (S59.sel [0] (by decide) rfl), (Inc.rfl _)⟩) rfl (fun w' hw' => (E.move k55)) ?_
        refine FB.t (i := 2) (bs 15 7) rfl (SP.nil ⟨_, (S59.sel [0] (by decide) rfl), (Inc.rfl _)⟩) rfl (fun w' hw' => (E.move k53)) ?_
        refine FB.t (i := 3) (bs 15 15) rfl (SP.nil ⟨_, (S59.sel [0] (by decide) rfl), (Inc.rfl _)⟩) rfl (fun w' hw' => (E.move k55)) ?_
        obtain ⟨p60, cs61, pt62, l63, at64, rel65, hall68⟩ := S59.row_atA (i := 1) rfl els45 (by decide) hx67
        obtain rfl := eI_open rel65
        refine FB.t (i := 4) (bs 15 31) rfl (SP.nil ⟨_, (S59.sel [0] (by decide) rfl), (Inc.rfl _)⟩) rfl (fun w' hw' => (E.indexAddr te84 rfl rfl pt62)) ?_
        refine FB.phase [14] (fun w' => WAt w' p60 [Value.int .i64 x66]) ?_
        refine FB.p (i := 5) (bs 15 63) 0 [12, 13, 14] rfl (SP.on (hall68 _ _ _ 1 S59 rfl) (SP.nil ⟨_, (S59.sel [0] (by decide) rfl), (Inc.rfl _)⟩)) rfl rfl (fun w' hw' => (E.load rfl (run_load0 Tryz.isAgg3 hw' rfl))) ?_
        refine FB.t (i := 6) (bs 15 127) rfl (SP.on (hall68 _ _ _ 1 S59 rfl) (SP.nil ⟨_, (S59.sel [0] (by decide) rfl), (Inc.rfl _)⟩)) rfl (fun w' hw' => (E.move k52)) ?_
        refine FB.t (i := 7) (bs 15 255) rfl (SP.on (hall68 _ _ _ 1 S59 rfl) (SP.nil ⟨_, (S59.sel [0] (by decide) rfl), (Inc.rfl _)⟩)) rfl (fun w' hw' => (E.move k54)) ?_
        refine FB.t (i := 8) (bs 15 511) rfl (SP.on (hall68 _ _ _ 1 S59 rfl) (SP.nil ⟨_, (S59.sel [0] (by decide) rfl), (Inc.rfl _)⟩)) rfl (fun w' hw' => (E.move k55)) ?_
        obtain ⟨p69, cs70, pt71, l72, at73, rel74, hall77⟩ := S59.row_atA (i := 0) rfl els40 (by decide) hx76
        obtain rfl := eI_open rel74
        refine FB.t (i := 9) (bs 15 1023) rfl (SP.on (hall68 _ _ _ 1 S59 rfl) (SP.nil ⟨_, (S59.sel [0] (by decide) rfl), (Inc.rfl _)⟩)) rfl (fun w' hw' => (E.indexAddr te84 rfl rfl pt71)) ?_
        refine FB.t (i := 10) (bs 15 2047) rfl (SP.on (hall68 _ _ _ 1 S59 rfl) (SP.nil ⟨_, (S59.sel [0] (by decide) rfl), (Inc.rfl _)⟩)) rfl (fun w' hw' => (E.load rfl (run_load0 Tryz.isAgg3 (hw'.use fun _ st => hall77 _ _ _ 0 st rfl) rfl))) ?_
        refine FB.t (i := 11) (bs 15 4095) rfl (SP.on (hall68 _ _ _ 1 S59 rfl) (SP.nil ⟨_, (S59.sel [0] (by decide) rfl), (Inc.rfl _)⟩)) rfl (fun w' hw' => (E.mul rfl rfl)) ?_
        refine FB.t (i := 12) (bs 15 8191) rfl (SP.on (hall68 _ _ _ 1 S59 rfl) (SP.nil ⟨_, (S59.sel [0] (by decide) rfl), (Inc.rfl _)⟩)) rfl (fun w' hw' => (E.add rfl rfl)) ?_
        obtain ⟨p78, cs79, pt80, l81, at82, rel83, hall87⟩ := S59.row_atA (i := 1) rfl els45 (by decide) hx86
        obtain rfl := eI_open rel83
        refine FB.t (i := 13) (bs 15 16383) rfl (SP.on (hall68 _ _ _ 1 S59 rfl) (SP.nil ⟨_, (S59.sel [0] (by decide) rfl), (Inc.rfl _)⟩)) rfl (fun w' hw' => (E.indexAddr te84 rfl rfl pt80)) ?_
        refine FB.all1 (i := 14) (by kernel_rfl) ?_
        ·
          obtain ⟨w88, cs94, run89, S90, els93, ce95⟩ := S59.putEls (P := Tryz.prog) (t := 3) (i := 1) rfl els45 hput92 pt80 Tryz.sizeOf3 (u := Value.int .i64 (wr (x66 + (wr (a4 * x75))))) (c := [Value.int .i64 (wr (x66 + (wr (a4 * x75))))]) rfl rfl (ones_cons rfl ones_nil) rfl
          have S90 : St Ha wa H46 w88 [.row 3 1 v37 n38 cs39, .row 3 1 v42 n43 cs94] := S90
          refine FC.act (l' := (bs 15 32767)) rfl (by kernel_rfl) rfl rfl (E.store rfl rfl run89) ?_
          refine ⟨(SP.o (SP.nil ⟨_, (S90.sel [0] (by decide) rfl), (Inc.rfl _)⟩)), ?_⟩
          exact FB.done (by kernel_rfl) ⟨_, _, _, _, S90, (Inc.rfl _), els93, k51, k52, k53, k54, k55⟩
      ·
        rintro f104 w103 ⟨H100, v96, n97, cs98, S101, i102, els99, k105, k106, k107, k108, k109⟩
        refine FW.region ?_
        refine FL.v (E.move k109) ?_
        refine FL.v (E.add rfl rfl) ?_
        refine FL.v (E.assign (v := Value.int .i64 (wr (s41.2 + 1))) rfl) ?_
        refine FL.nil ?_
        obtain rfl := Option.some.inj hp
        exact ⟨rfl, ⟨_, _, _, _, S101, (i48.tr i102), els99, k105, k106, k107, k108, rfl⟩⟩
    ·
      refine FW.condF rfl c56 ?_
      refine FW.exit ?_
      obtain rfl := Option.some.inj hp
      exact ⟨nofun, rfl, ⟨_, _, _, _, S47, i48, els45, k51, k53⟩⟩
  ·
    clear hq
    intro e f115 w114 hD
    rcases q41 with s41 | x41
    ·
      obtain ⟨rfl, hD⟩ := hD
      obtain ⟨H111, v42, n43, cs44, S112, i113, els45, k116, k117⟩ := hD
      replace hp := el_go hp
      refine FW.seq (FW.region ?_)
      refine FL.v (E.move k116) ?_
      refine FL.v (E.move k117) ?_
      obtain ⟨H118, S119, i120, h121, nv122⟩ := S112.sealRowU (i := 1) (l' := [.row 3 1 v37 n38 cs39]) rfl els45 (by decide) rfl
      obtain ⟨r123, hr124, hp⟩ := bnd hp
      refine FL.call rfl rfl rfl (E.call Tryz.call187 (A2 rfl rfl)) (w_spec_l18Sparse S119.sl a0 v42 s41.1 (h121.mono upI) hr124) ?_
      rintro e w126 ⟨H125, v131, n132, cs133, rfl, r128, els134⟩
      refine ⟨_, rfl, ?_⟩
      obtain ⟨H129, r128, hU130⟩ := St.lendX i120 S112.sl r128
      have els134 := els134.mono (hU130.tr (up_le S112.size))
      have S127 := S112.join (l' := [.row 179 2 v131 n132 cs133, .row 3 1 v37 n38 cs39, .row 3 1 v42 n43 cs44]) r128 rfl
      refine FL.v (E.assign (v := v131) rfl) ?_
      refine FL.nil ?_
      refine FW.ret ?_
      obtain rfl := Option.some.inj hp
      exact ⟨.inr rfl, res1 rfl rfl ⟨_, _, _, _, rfl, (S127.sel [0] (by decide) rfl), els134⟩⟩
    · exact x41.elim

@[reducible] def p_spec_l20Rest (Ha : GH) (wa : World) (r : (List Term)) : Ending → World → Prop :=
  fun e w' => ∃ H' : GH, ∃ v0 : Value, e = .returned (v0) ∧ Run wa.heap.size Ha wa H' w' ∧ RSl H' eTerm 2 v0 r
theorem w_spec_l20Rest {Ha : GH} {wa : World} (hs : Sl Ha wa) (a0 : Int) (a1 : Int) (v2 : Value) (a2 : List (List Term)) (p2 : RSl Ha (eL eTerm 2) 1 v2 a2) (v3 : Value) (a3 : List Term) (p3 : RSl Ha eTerm 2 v3 a3) {r : (List Term)} (hp : (PF.spec_l20Rest a0 a1 a2 a3) = some r) :
    Calls Tryz.prog 81 #[Value.int .i64 a0, Value.int .i64 a1, v2, v3] wa (p_spec_l20Rest Ha wa r) := by
  unfold PF.spec_l20Rest at hp
  have S0 := St.init hs
  refine calls_go (N := 39) (args := [Value.int .i64 a0, Value.int .i64 a1, v2, v3]) Tryz.func81 rfl rfl rfl ?_
  refine FW.seq (FW.region ?_)
  refine FL.v (E.assign (v := Value.slice none 0 0) rfl) ?_
  refine FL.nil (FW.seq (FW.seq (FW.region ?_)))
  refine FL.v (E.move (v := v2) rfl) ?_
  refine FL.v (E.lenP te121 rfl p2) ?_
  refine FL.v (E.sub rfl rfl) ?_
  refine FL.v (E.assign (v := Value.int .i64 (wr ((len a2) - 1))) rfl) ?_
  refine FL.nil ?_
  obtain ⟨q21, hq, hp⟩ := bndR hp
  refine FW.block ?_
  refine FW.mono (FW.iter (S := ((List Term) × Int)) (X := Empty) (fun (s21 : ((List Term) × Int)) f w => ∃ H : GH, ∃ v22 : Value, St Ha wa H w [] ∧ Inc Ha H ∧ RSl H eTerm 2 v22 s21.1 ∧ f 0 = Value.int .i64 a0 ∧ f 1 = Value.int .i64 a1 ∧ f 2 = v2 ∧ f 3 = v22 ∧ f 9 = Value.int .i64 s21.2) (fun (q : Rs ((List Term) × Int) Empty) e f w => match q with | .go s21 => e = Exit.exit 0 ∧ (∃ H : GH, ∃ v22 : Value, St Ha wa H w [] ∧ Inc Ha H ∧ RSl H eTerm 2 v22 s21.1 ∧ f 3 = v22) | .rt x => x.elim) hq ⟨_, _, S0, (Inc.rfl _), p3, rfl, rfl, rfl, rfl, rfl⟩ ?_) ?_
  ·
    clear hp hq
    rintro s21 f85 w84 ⟨H81, v22, S82, i83, h23, k86, k87, k88, k89, k90⟩ o138 hp
    refine FW.seq (FW.seq (FW.region ?_))
    refine FL.v (E.move k90) ?_
    refine FL.v (E.geq rfl rfl) ?_
    refine FL.nil ?_
    rcases ifB hp with ⟨c91, hp⟩ | ⟨c91, hp⟩
    ·
      refine FW.condT rfl c91 ?_
      refine FW.skip (FW.seq (FW.block (FW.seq (FW.region ?_))))
      refine FL.v (E.move k89) ?_
      refine FL.v (E.move k88) ?_
      refine FL.v (E.move k90) ?_
      obtain ⟨x98, hx99, hp⟩ := bnd hp
      obtain ⟨p92, cs93, pt94, l95, at96, rel97⟩ := p2.at hx99
      obtain ⟨v100, rfl, h101⟩ := eL_open rel97
      refine FL.v (E.indexAddr te121 rfl rfl pt94) ?_
      refine FL.v (E.load rfl (run_load0 Tryz.isAgg124 ((at96.mono i83).now S82.sl) rfl)) ?_
      obtain ⟨r102, hr103, hp⟩ := bnd hp
      refine FL.call rfl rfl rfl (E.call Tryz.call136 (A1 rfl)) (w_spec_l20Lead S82.sl v100 x98 (h101.mono i83) hr103) ?_
      rintro e w104 ⟨rfl, r105⟩
      refine ⟨_, rfl, ?_⟩
      have S106 := S82.call r105
      obtain ⟨r107, hr108, hp⟩ := bnd hp
      refine FL.call rfl rfl rfl (E.call Tryz.call135 (A2 rfl rfl)) (w_spec_l20Coeff S106.sl v22 s21.1 h23 r102 hr108) ?_
      rintro e w109 ⟨rfl, r110⟩
      refine ⟨_, rfl, ?_⟩
      have S111 := S106.call r110
      refine FL.v (E.assign (v := Value.int .i64 r107) rfl) ?_
      refine FL.nil (FW.seq (FW.region ?_))
      refine FL.v (E.move (v := Value.int .i64 r107) rfl) ?_
      refine FL.v (E.neq rfl rfl) ?_
      refine FL.nil ?_
      rcases ifB hp with ⟨c112, hp⟩ | ⟨c112, hp⟩
      ·
        refine FW.condT rfl c112 ?_
        refine FW.region ?_
        refine FL.v (E.move k86) ?_
        refine FL.v (E.move k87) ?_
        refine FL.v (E.move k89) ?_
        refine FL.v (E.move k88) ?_
        refine FL.v (E.move k90) ?_
        obtain ⟨x119, hx120, hp⟩ := bnd hp
        obtain ⟨p113, cs114, pt115, l116, at117, rel118⟩ := p2.at hx120
        obtain ⟨v121, rfl, h122⟩ := eL_open rel118
        refine FL.v (E.indexAddr te121 rfl rfl pt115) ?_
        refine FL.v (E.load rfl (run_load0 Tryz.isAgg124 ((at117.mono i83).now S111.sl) rfl)) ?_
        refine FL.v (E.move k86) ?_
        refine FL.v (E.move (v := Value.int .i64 r107) rfl) ?_
        refine FL.v (E.sub rfl rfl) ?_
        obtain ⟨r123, hr124, hp⟩ := bnd hp
        refine FL.call rfl rfl rfl (E.call Tryz.call137 (A5 rfl rfl rfl rfl rfl)) (w_spec_l18Add S111.sl a0 a1 v22 s21.1 h23 v121 x119 (h122.mono i83) (wr (a0 - r107)) hr124) ?_
        rintro e w126 ⟨H125, v129, n130, cs131, rfl, r128, els132⟩
        refine ⟨_, rfl, ?_⟩
        have els132 := els132.mono (up_le S111.size)
        have S127 := S111.join (l' := [.row 179 2 v129 n130 cs131]) r128 rfl
        refine FL.v (E.assign (v := v129) rfl) ?_
        refine FL.nil (FW.region ?_)
        refine FL.v (E.move k90) ?_
        refine FL.v (E.sub rfl rfl) ?_
        refine FL.v (E.assign (v := Value.int .i64 (wr (s21.2 - 1))) rfl) ?_
        refine FL.nil ?_
        obtain ⟨H133, S134, i135, h136, nv137⟩ := S127.sealRowU (i := 0) (l' := []) rfl els132 (by decide) rfl
        obtain rfl := Option.some.inj hp
        exact ⟨rfl, ⟨_, _, S134, ((i83.tr r128.run.inc).tr i135), (h136.mono upI), k86, k87, k88, rfl, rfl⟩⟩
      ·
        refine FW.condF rfl c112 ?_
        refine FW.skip (FW.region ?_)
        refine FL.v (E.move k90) ?_
        refine FL.v (E.sub rfl rfl) ?_
        refine FL.v (E.assign (v := Value.int .i64 (wr (s21.2 - 1))) rfl) ?_
        refine FL.nil ?_
        obtain rfl := Option.some.inj hp
        exact ⟨rfl, ⟨_, _, S111, i83, h23, k86, k87, k88, k89, rfl⟩⟩
    ·
      refine FW.condF rfl c91 ?_
      refine FW.exit ?_
      obtain rfl := Option.some.inj hp
      exact ⟨nofun, rfl, ⟨_, _, S82, i83, h23, k89⟩⟩
  ·
    clear hq
    intro e f143 w142 hD
    rcases q21 with s21 | x21
    ·
      obtain ⟨rfl, hD⟩ := hD
      obtain ⟨H139, v22, S140, i141, h23, k144⟩ := hD
      replace hp := el_go hp
      refine FW.seq (FW.region ?_)
      refine FL.v (E.move k144) ?_
      refine FL.v (E.assign (v := v22) rfl) ?_
      refine FL.nil ?_
      refine FW.ret ?_
      obtain rfl := Option.some.inj hp
      exact ⟨.inr rfl, res1 rfl rfl ⟨_, _, rfl, S140.run, h23⟩⟩
    · exact x21.elim

theorem w_spec_l20Inverse {Ha : GH} {wa : World} (hs : Sl Ha wa) (a0 : Int) (a1 : Int) {r : Int} (hp : (PF.spec_l20Inverse a0 a1) = some r) :
    Calls Tryz.prog 183 #[Value.int .i64 a0, Value.int .i64 a1] wa (Sc Ha wa (Value.int .i64 r)) := by
  unfold PF.spec_l20Inverse at hp
  have S0 := St.init hs
  refine calls_go (N := 15) (args := [Value.int .i64 a0, Value.int .i64 a1]) Tryz.func183 rfl rfl rfl ?_
  refine FW.seq (FW.region ?_)
  refine FL.v (E.assign (v := Value.int .i64 0) rfl) ?_
  refine FL.nil (FW.seq (FW.region ?_))
  refine FL.v (E.assign (v := Value.int .i64 1) rfl) ?_
  refine FL.nil (FW.seq ?_)
  obtain ⟨q21, hq, hp⟩ := bndR hp
  refine FW.block ?_
  refine FW.mono (FW.iter (S := Int) (X := Empty) (fun (s21 : Int) f w => ∃ H : GH, St Ha wa H w [] ∧ Inc Ha H ∧ f 0 = Value.int .i64 a0 ∧ f 1 = Value.int .i64 a1 ∧ f 5 = Value.int .i64 s21) (fun (q : Rs Int Empty) e f w => match q with | .go s21 => e = Exit.exit 0 ∧ (∃ H : GH, St Ha wa H w [] ∧ Inc Ha H ∧ f 5 = Value.int .i64 s21) | .rt x => x.elim) hq ⟨_, S0, (Inc.rfl _), rfl, rfl, rfl⟩ ?_) ?_
  ·
    clear hp hq
    rintro s21 f37 w36 ⟨H33, S34, i35, k38, k39, k40⟩ o44 hp
    refine FW.seq (FW.seq (FW.region ?_))
    refine FL.v (E.move k39) ?_
    refine FL.v (E.move k40) ?_
    refine FL.v (E.mul rfl rfl) ?_
    refine FL.v (E.move k38) ?_
    obtain ⟨u42, z41, hp⟩ := bnd hp
    refine FL.v (E.rem rfl rfl (nz_ne z41)) ?_
    refine FL.v (E.neq rfl rfl) ?_
    refine FL.nil ?_
    rcases ifB hp with ⟨c43, hp⟩ | ⟨c43, hp⟩
    ·
      refine FW.condT rfl c43 ?_
      refine FW.skip (FW.block (FW.region ?_))
      refine FL.v (E.move k40) ?_
      refine FL.v (E.add rfl rfl) ?_
      refine FL.v (E.assign (v := Value.int .i64 (wr (s21 + 1))) rfl) ?_
      refine FL.nil ?_
      obtain rfl := Option.some.inj hp
      exact ⟨rfl, ⟨_, S34, i35, k38, k39, rfl⟩⟩
    ·
      refine FW.condF rfl c43 ?_
      refine FW.exit ?_
      obtain rfl := Option.some.inj hp
      exact ⟨nofun, rfl, ⟨_, S34, i35, k40⟩⟩
  ·
    clear hq
    intro e f49 w48 hD
    rcases q21 with s21 | x21
    ·
      obtain ⟨rfl, hD⟩ := hD
      obtain ⟨H45, S46, i47, k50⟩ := hD
      replace hp := el_go hp
      refine FW.seq (FW.region ?_)
      refine FL.v (E.move k50) ?_
      refine FL.v (E.assign (v := Value.int .i64 s21) rfl) ?_
      refine FL.nil ?_
      refine FW.ret ?_
      obtain rfl := Option.some.inj hp
      exact ⟨.inr rfl, res1 rfl rfl ⟨rfl, S46.back⟩⟩
    · exact x21.elim

@[reducible] def p_spec_l20Put (Ha : GH) (wa : World) (r : ((List (List Term)) × Bool)) : Ending → World → Prop :=
  fun e w' => ∃ H' : GH, ∃ v0 : Value, e = .returned (Value.tuple #[v0, Value.bool r.2]) ∧ Run wa.heap.size Ha wa H' w' ∧ RSl H' (eL eTerm 2) 1 v0 r.1
set_option maxHeartbeats 4000000 in
theorem w_spec_l20Put {Ha : GH} {wa : World} (hs : Sl Ha wa) (a0 : Int) (a1 : Int) (v2 : Value) (a2 : List (List Term)) (p2 : RSl Ha (eL eTerm 2) 1 v2 a2) (v3 : Value) (a3 : List Term) (p3 : RSl Ha eTerm 2 v3 a3) {r : ((List (List Term)) × Bool)} (hp : (PF.spec_l20Put a0 a1 a2 a3) = some r) :
    Calls Tryz.prog 132 #[Value.int .i64 a0, Value.int .i64 a1, v2, v3] wa (p_spec_l20Put Ha wa r) := by
  unfold PF.spec_l20Put at hp
  have S0 := St.init hs
  refine calls_go (N := 88) (args := [Value.int .i64 a0, Value.int .i64 a1, v2, v3]) Tryz.func132 rfl rfl rfl ?_
  refine FW.seq (FW.region ?_)
  refine FL.v (E.assign (v := Value.slice none 0 0) rfl) ?_
  refine FL.v (E.assign (v := Value.bool false) rfl) ?_
  refine FL.nil (FW.seq (FW.region ?_))
  refine FL.v (E.move (v := Value.int .i64 a0) rfl) ?_
  refine FL.v (E.move (v := Value.int .i64 a1) rfl) ?_
  refine FL.v (E.move (v := v2) rfl) ?_
  refine FL.v (E.move (v := v3) rfl) ?_
  obtain ⟨r21, hr22, hp⟩ := bnd hp
  refine FL.call rfl rfl rfl (E.call Tryz.call81 (A4 rfl rfl rfl rfl)) (w_spec_l20Rest S0.sl a0 a1 v2 a2 p2 v3 a3 p3 hr22) ?_
  rintro e w24 ⟨H23, v27, rfl, r26, h28⟩
  refine ⟨_, rfl, ?_⟩
  have S25 := S0.call r26
  refine FL.v (E.assign (v := v27) rfl) ?_
  refine FL.nil (FW.seq (FW.seq (FW.region ?_)))
  refine FL.v (E.move (v := v27) rfl) ?_
  refine FL.v (E.lenP te124 rfl h28) ?_
  refine FL.v (E.eql rfl rfl) ?_
  refine FL.nil ?_
  rcases ifB hp with ⟨c29, hp⟩ | ⟨c29, hp⟩
  ·
    refine FW.condT rfl c29 ?_
    refine FW.seq (FW.region ?_)
    refine FL.v (E.move (v := v2) rfl) ?_
    refine FL.v (E.assign (v := v2) rfl) ?_
    refine FL.v (E.assign (v := Value.bool false) rfl) ?_
    refine FL.nil ?_
    refine FW.ret ?_
    obtain rfl := Option.some.inj hp
    exact ⟨.inr rfl, res2 rfl rfl rfl ⟨_, _, rfl, S25.run, (p2.mono r26.inc)⟩⟩
  ·
    refine FW.condF rfl c29 ?_
    refine FW.skip (FW.seq (FW.region ?_))
    refine FL.v (E.move (v := v27) rfl) ?_
    obtain ⟨r30, hr31, hp⟩ := bnd hp
    refine FL.call rfl rfl rfl (E.call Tryz.call136 (A1 rfl)) (w_spec_l20Lead S25.sl v27 r21 h28 hr31) ?_
    rintro e w32 ⟨rfl, r33⟩
    refine ⟨_, rfl, ?_⟩
    have S34 := S25.call r33
    refine FL.v (E.assign (v := Value.int .i64 r30) rfl) ?_
    refine FL.nil (FW.seq (FW.region ?_))
    refine FL.v (E.move (v := Value.int .i64 a0) rfl) ?_
    refine FL.v (E.move (v := Value.int .i64 a1) rfl) ?_
    obtain ⟨v35, w36, run37, S38⟩ := S34.buildSlice (P := Tryz.prog) te124 [] (parts := #[]) (cells := []) rfl szs_nil fc_nil ones_nil (Nat.le_of_ble_eq_true rfl)
    have els39 : Els (up wa.heap.size H23) eTerm 2 [] [] := Els.nil
    refine FL.v (E.buildSlice (B0) run37) ?_
    refine FL.v (E.move (v := v27) rfl) ?_
    refine FL.v (E.move (v := Value.int .i64 a0) rfl) ?_
    refine FL.v (E.move (v := v27) rfl) ?_
    refine FL.v (E.move (v := Value.int .i64 r30) rfl) ?_
    obtain ⟨r40, hr41, hp⟩ := bnd hp
    refine FL.call rfl rfl rfl (E.call Tryz.call135 (A2 rfl rfl)) (w_spec_l20Coeff S38.sl v27 r21 h28 r30 hr41) ?_
    rintro e w42 ⟨rfl, r43⟩
    refine ⟨_, rfl, ?_⟩
    have S44 := S38.call r43
    obtain ⟨r45, hr46, hp⟩ := bnd hp
    refine FL.call rfl rfl rfl (E.call Tryz.call183 (A2 rfl rfl)) (w_spec_l20Inverse S44.sl a0 r40 hr46) ?_
    rintro e w47 ⟨rfl, r48⟩
    refine ⟨_, rfl, ?_⟩
    have S49 := S44.call r48
    obtain ⟨H50, S51, i52, h53, nv54⟩ := S49.sealRowU (i := 0) (l' := []) rfl els39 (by decide) rfl
    obtain ⟨r55, hr56, hp⟩ := bnd hp
    refine FL.call rfl rfl rfl (E.call Tryz.call137 (A5 rfl rfl rfl rfl rfl)) (w_spec_l18Add S51.sl a0 a1 v35 [] (h53.mono upI) v27 r21 (h28.mono i52) r45 hr56) ?_
    rintro e w58 ⟨H57, v63, n64, cs65, rfl, r60, els66⟩
    refine ⟨_, rfl, ?_⟩
    obtain ⟨H61, r60, hU62⟩ := St.lendX i52 S49.sl r60
    have els66 := els66.mono (hU62.tr (up_le S49.size))
    have S59 := S49.join (l' := [.row 179 2 v63 n64 cs65, .row 179 2 v35 0 []]) r60 rfl
    refine FL.v (E.assign (v := v63) rfl) ?_
    refine FL.nil (FW.seq (FW.region ?_))
    obtain ⟨v67, w68, run69, S70⟩ := S59.buildSlice (P := Tryz.prog) te121 [] (parts := #[]) (cells := []) rfl szs_nil fc_nil ones_nil (Nat.le_of_ble_eq_true rfl)
    have els71 : Els (up wa.heap.size H61) (eL eTerm 2) 1 [] [] := Els.nil
    refine FL.v (E.buildSlice (B0) run69) ?_
    refine FL.v (E.assign (v := v67) rfl) ?_
    refine FL.v (E.assign (v := Value.bool false) rfl) ?_
    refine FL.nil (FW.seq (FW.seq (FW.region ?_)))
    refine FL.v (E.assign (v := Value.int .i64 0) rfl) ?_
    refine FL.nil ?_
    obtain ⟨H73, S74, i75, h76, nv77⟩ := S70.sealRowU (i := 1) (l' := [.row 124 1 v67 0 [], .row 179 2 v35 0 []]) rfl els66 (by decide) rfl
    obtain ⟨q78, hq, hp⟩ := bndR hp
    refine FW.block ?_
    refine FW.mono (FW.forL (S := ((List (List Term)) × Bool)) (X := Empty) (fun (i78 : Nat) (s78 : ((List (List Term)) × Bool)) f w => ∃ H : GH, ∃ v79 : Value, ∃ n80 : Nat, ∃ cs81 : List Value, St Ha wa H w [.row 124 1 v79 n80 cs81] ∧ Inc H73 H ∧ Els H (eL eTerm 2) 1 cs81 s78.1 ∧ f 14 = Value.int .i64 ((i78 : Nat) : Int) ∧ f 0 = Value.int .i64 a0 ∧ f 1 = Value.int .i64 a1 ∧ f 2 = v2 ∧ f 10 = v63 ∧ f 11 = Value.int .i64 r30 ∧ f 12 = v79 ∧ f 13 = Value.bool s78.2) (fun (q : Rs ((List (List Term)) × Bool) Empty) e f w => match q with | .go s78 => e = Exit.exit 0 ∧ (∃ H : GH, ∃ v79 : Value, ∃ n80 : Nat, ∃ cs81 : List Value, St Ha wa H w [.row 124 1 v79 n80 cs81] ∧ Inc H73 H ∧ Els H (eL eTerm 2) 1 cs81 s78.1 ∧ f 10 = v63 ∧ f 12 = v79 ∧ f 13 = Value.bool s78.2) | .rt x => x.elim) hq ⟨_, _, _, _, (S74.sel [0] (by decide) rfl), (Inc.rfl _), (els71.mono (upI.tr i75)), rfl, rfl, rfl, rfl, rfl, rfl, rfl, rfl⟩ ?_ ?_) ?_
    ·
      clear hp hq
      rintro i78 y72 s78 f252 w251 ⟨H248, v79, n80, cs81, S249, i250, els82, k253, k254, k255, k256, k257, k258, k259, k260⟩ hx78 o455 hp
      refine FW.seq (FW.seq (FW.region ?_))
      refine FL.v (E.move k253) ?_
      refine FL.v (E.move k256) ?_
      refine FL.v (E.lenP te121 rfl p2) ?_
      refine FL.v (E.lssT rfl rfl (lss_len hx78)) ?_
      refine FL.nil ?_
      refine FW.condT rfl rfl ?_
      refine FW.skip (FW.seq (FW.block (FW.seq (FW.seq (FW.region ?_)))))
      refine FL.v (E.move k260) ?_
      refine FL.v (E.not rfl) ?_
      refine FL.v (E.move (v := Value.bool (!s78.2)) rfl) ?_
      obtain ⟨t279, hqt279, hp⟩ := bnd hp
      refine FL.cut 8 (fun f w => ∃ H : GH, St Ha wa H w [.row 124 1 v79 n80 cs81] ∧ Inc H248 H ∧ f 0 = Value.int .i64 a0 ∧ f 1 = Value.int .i64 a1 ∧ f 2 = v2 ∧ f 10 = v63 ∧ f 11 = Value.int .i64 r30 ∧ f 12 = v79 ∧ f 13 = Value.bool s78.2 ∧ f 14 = Value.int .i64 ((i78 : Nat) : Int) ∧ f 55 = Value.bool t279) ?_ ?_
      ·
        clear hp; have hp := hqt279; clear hqt279
        rcases ifB hp with ⟨c285, hp⟩ | ⟨c285, hp⟩
        ·
          refine FL.val (wF_yes rfl rfl rfl c285) rfl rfl (E.move k258) ?_
          refine FL.val (wF_yes rfl rfl rfl c285) rfl rfl (E.move k256) ?_
          refine FL.val (wF_yes rfl rfl rfl c285) rfl rfl (E.move k253) ?_
          obtain ⟨p286, cs287, pt288, l289, at290, rel291⟩ := p2.at (ix_nat hx78)
          obtain ⟨v292, rfl, h293⟩ := eL_open rel291
          refine FL.val (wF_yes rfl rfl rfl c285) rfl rfl (E.indexAddr te121 rfl rfl pt288) ?_
          refine FL.val (wF_yes rfl rfl rfl c285) rfl rfl (E.load rfl (run_load0 Tryz.isAgg124 ((at290.mono (((r26.inc.tr r60.run.inc).tr i75).tr i250)).now S249.sl) rfl)) ?_
          obtain ⟨r294, hr295, hp⟩ := bnd hp
          refine FL.call (wF_yes rfl rfl rfl c285) rfl rfl (E.call Tryz.call136 (A1 rfl)) (w_spec_l20Lead S249.sl v292 y72 (h293.mono (((r26.inc.tr r60.run.inc).tr i75).tr i250)) hr295) ?_
          rintro e w296 ⟨rfl, r297⟩
          refine ⟨_, rfl, ?_⟩
          have S298 := S249.call r297
          obtain ⟨r299, hr300, hp⟩ := bnd hp
          refine FL.call (wF_yes rfl rfl rfl c285) rfl rfl (E.call Tryz.call184 (A2 rfl rfl)) (w_spec_l20Before S298.sl r30 r294 hr300) ?_
          rintro e w301 ⟨rfl, r302⟩
          refine ⟨_, rfl, ?_⟩
          have S303 := S298.call r302
          obtain rfl := Option.some.inj hp
          refine FL.v (E.pickT rfl c285 rfl) ?_
          exact FL.nil ⟨rfl, _, S303, (Inc.rfl _), k254, k255, k256, k257, k258, k259, k260, k253, rfl⟩
        ·
          refine FL.skip (wF_no rfl rfl rfl c285) rfl ?_
          refine FL.skip (wF_no rfl rfl rfl c285) rfl ?_
          refine FL.skip (wF_no rfl rfl rfl c285) rfl ?_
          refine FL.skip (wF_no rfl rfl rfl c285) rfl ?_
          refine FL.skip (wF_no rfl rfl rfl c285) rfl ?_
          refine FL.skip (wF_no rfl rfl rfl c285) rfl ?_
          refine FL.skip (wF_no rfl rfl rfl c285) rfl ?_
          obtain rfl := Option.some.inj hp
          refine FL.v (E.pickF rfl c285 rfl) ?_
          exact FL.nil ⟨rfl, _, S249, (Inc.rfl _), k254, k255, k256, k257, k258, k259, k260, k253, rfl⟩
      rintro f284 w283 ⟨H280, S281, i282, k304, k305, k306, k307, k308, k309, k310, k311, k312⟩
      refine FL.nil ?_
      rcases ifB hp with ⟨c313, hp⟩ | ⟨c313, hp⟩
      ·
        refine FW.condT k312 c313 ?_
        refine FW.seq (FW.region ?_)
        refine FL.v (E.move k309) ?_
        refine FL.v (E.move k307) ?_
        obtain ⟨v314, w315, run316, S317⟩ := S281.buildSlice (P := Tryz.prog) te121 [v63] (parts := #[(0, v63)]) (cells := [v63]) rfl (szs_cons (cells_size h76.cells) szs_nil) (fc_cons h76.cells fc_nil) (ones_cons h76.one ones_nil) (Nat.le_of_ble_eq_true rfl)
        have els318 : Els (up wa.heap.size H280) (eL eTerm 2) 1 [v63] [r55] := (Els.snoc (H := (up wa.heap.size H280)) (E := (eL eTerm 2)) (k := 1) (c := [v63]) (x := r55) Els.nil rfl ⟨_, rfl, (h76.mono (up_mono (i250.tr i282)))⟩)
        have nd319 : (bl [v63]).Nodup := by exact nd_one v63
        refine FL.v (E.buildSlice (B1 rfl) run316) ?_
        obtain ⟨xs320, hz321, hp⟩ := bnd hp
        obtain ⟨v322, w325, n323, cs324, run326, S327, els328, ce329⟩ := S317.appendO (P := Tryz.prog) te121 (i := 1) (j := 0) rfl (els82.mono i282) rfl (els318.mono upI) hz321
        have S327 : St Ha wa H280 w325 [.row 124 1 v314 1 [v63], .row 124 1 v322 n323 cs324] := S327
        have S330 : St Ha wa H280 w325 [.row 124 1 v322 n323 cs324] := S327.drop 0
        refine FL.v (E.append rfl rfl run326) ?_
        refine FL.v (E.assign (v := v322) rfl) ?_
        refine FL.nil (FW.region ?_)
        refine FL.v (E.assign (v := Value.bool true) rfl) ?_
        refine FL.nil (FW.seq (FW.region ?_))
        refine FL.v (E.move k306) ?_
        refine FL.v (E.move k311) ?_
        obtain ⟨p331, cs332, pt333, l334, at335, rel336⟩ := p2.at (ix_nat hx78)
        obtain ⟨v337, rfl, h338⟩ := eL_open rel336
        refine FL.v (E.indexAddr te121 rfl rfl pt333) ?_
        refine FL.v (E.load rfl (run_load0 Tryz.isAgg124 ((at335.mono ((((r26.inc.tr r60.run.inc).tr i75).tr i250).tr i282)).now S330.sl) rfl)) ?_
        refine FL.v (E.assign (v := v337) rfl) ?_
        refine FL.nil (FW.seq (FW.seq (FW.region ?_)))
        refine FL.v (E.move (v := v337) rfl) ?_
        refine FL.v (E.move k308) ?_
        obtain ⟨r339, hr340, hp⟩ := bnd hp
        refine FL.call rfl rfl rfl (E.call Tryz.call135 (A2 rfl rfl)) (w_spec_l20Coeff S330.sl v337 y72 (h338.mono ((((r26.inc.tr r60.run.inc).tr i75).tr i250).tr i282)) r30 hr340) ?_
        rintro e w341 ⟨rfl, r342⟩
        refine ⟨_, rfl, ?_⟩
        have S343 := S330.call r342
        refine FL.v (E.assign (v := Value.int .i64 r339) rfl) ?_
        refine FL.nil (FW.seq (FW.region ?_))
        refine FL.v (E.move (v := Value.int .i64 r339) rfl) ?_
        refine FL.v (E.neq rfl rfl) ?_
        refine FL.nil ?_
        rcases ifB hp with ⟨c344, hp⟩ | ⟨c344, hp⟩
        ·
          refine FW.condT rfl c344 ?_
          refine FW.region ?_
          refine FL.v (E.move k304) ?_
          refine FL.v (E.move k305) ?_
          refine FL.v (E.move (v := v337) rfl) ?_
          refine FL.v (E.move k307) ?_
          refine FL.v (E.move k304) ?_
          refine FL.v (E.move (v := Value.int .i64 r339) rfl) ?_
          refine FL.v (E.sub rfl rfl) ?_
          obtain ⟨r345, hr346, hp⟩ := bnd hp
          refine FL.call rfl rfl rfl (E.call Tryz.call137 (A5 rfl rfl rfl rfl rfl)) (w_spec_l18Add S343.sl a0 a1 v337 y72 (h338.mono ((((r26.inc.tr r60.run.inc).tr i75).tr i250).tr i282)) v63 r55 (h76.mono (upI.tr (i250.tr i282))) (wr (a0 - r339)) hr346) ?_
          rintro e w348 ⟨H347, v351, n352, cs353, rfl, r350, els354⟩
          refine ⟨_, rfl, ?_⟩
          have els354 := els354.mono (up_le S343.size)
          have S349 := S343.join (l' := [.row 179 2 v351 n352 cs353, .row 124 1 v322 n323 cs324]) r350 rfl
          refine FL.v (E.assign (v := v351) rfl) ?_
          refine FL.nil (FW.region ?_)
          refine FL.v (E.move (v := v322) rfl) ?_
          refine FL.v (E.move (v := v351) rfl) ?_
          obtain ⟨H355, S356, i357, h358, nv359⟩ := S349.sealRowU (i := 0) (l' := [.row 124 1 v322 n323 cs324]) rfl els354 (by decide) rfl
          obtain ⟨v360, w361, run362, S363⟩ := S356.buildSlice (P := Tryz.prog) te121 [v351] (parts := #[(0, v351)]) (cells := [v351]) rfl (szs_cons (cells_size h358.cells) szs_nil) (fc_cons h358.cells fc_nil) (ones_cons h358.one ones_nil) (Nat.le_of_ble_eq_true rfl)
          have els364 : Els (up wa.heap.size H355) (eL eTerm 2) 1 [v351] [r345] := (Els.snoc (H := (up wa.heap.size H355)) (E := (eL eTerm 2)) (k := 1) (c := [v351]) (x := r345) Els.nil rfl ⟨_, rfl, h358⟩)
          have nd365 : (bl [v351]).Nodup := by exact nd_one v351
          refine FL.v (E.buildSlice (B1 rfl) run362) ?_
          obtain ⟨xs366, hz367, hp⟩ := bnd hp
          obtain ⟨v368, w371, n369, cs370, run372, S373, els374, ce375⟩ := S363.appendO (P := Tryz.prog) te121 (i := 1) (j := 0) rfl (els328.mono (r350.run.inc.tr i357)) rfl (els364.mono upI) hz367
          have S373 : St Ha wa H355 w371 [.row 124 1 v360 1 [v351], .row 124 1 v368 n369 cs370] := S373
          have S376 : St Ha wa H355 w371 [.row 124 1 v368 n369 cs370] := S373.drop 0
          refine FL.v (E.append rfl rfl run372) ?_
          refine FL.v (E.assign (v := v368) rfl) ?_
          refine FL.nil (FW.region ?_)
          refine FL.v (E.move k311) ?_
          refine FL.v (E.add rfl rfl) ?_
          refine FL.v (E.assign (v := Value.int .i64 (wr (((i78 : Nat) : Int) + 1))) rfl) ?_
          refine FL.nil ?_
          obtain rfl := Option.some.inj hp
          exact ⟨rfl, ⟨_, _, _, _, S376, (((i250.tr i282).tr r350.run.inc).tr i357), els374, (nat_succ rfl (lt_of_get hx78) (p2.mono ((((((r26.inc.tr r60.run.inc).tr i75).tr i250).tr i282).tr r350.run.inc).tr i357)).le), k304, k305, k306, k307, k308, rfl, rfl⟩⟩
        ·
          refine FW.condF rfl c344 ?_
          refine FW.skip (FW.region ?_)
          refine FL.v (E.move (v := v322) rfl) ?_
          refine FL.v (E.move (v := v337) rfl) ?_
          obtain ⟨v377, w378, run379, S380⟩ := S343.buildSlice (P := Tryz.prog) te121 [v337] (parts := #[(0, v337)]) (cells := [v337]) rfl (szs_cons (cells_size h338.cells) szs_nil) (fc_cons h338.cells fc_nil) (ones_cons h338.one ones_nil) (Nat.le_of_ble_eq_true rfl)
          have els381 : Els H280 (eL eTerm 2) 1 [v337] [y72] := (Els.snoc (H := H280) (E := (eL eTerm 2)) (k := 1) (c := [v337]) (x := y72) Els.nil rfl ⟨_, rfl, (h338.mono ((((r26.inc.tr r60.run.inc).tr i75).tr i250).tr i282))⟩)
          refine FL.v (E.buildSlice (B1 rfl) run379) ?_
          obtain ⟨xs382, hz383, hp⟩ := bnd hp
          obtain ⟨v384, w387, n385, cs386, run388, S389, els390, ce391⟩ := S380.appendO (P := Tryz.prog) te121 (i := 1) (j := 0) rfl els328 rfl els381 hz383
          have S389 : St Ha wa H280 w387 [.row 124 1 v377 1 [v337], .row 124 1 v384 n385 cs386] := S389
          have S392 : St Ha wa H280 w387 [.row 124 1 v384 n385 cs386] := S389.drop 0
          refine FL.v (E.append rfl rfl run388) ?_
          refine FL.v (E.assign (v := v384) rfl) ?_
          refine FL.nil (FW.region ?_)
          refine FL.v (E.move k311) ?_
          refine FL.v (E.add rfl rfl) ?_
          refine FL.v (E.assign (v := Value.int .i64 (wr (((i78 : Nat) : Int) + 1))) rfl) ?_
          refine FL.nil ?_
          obtain rfl := Option.some.inj hp
          exact ⟨rfl, ⟨_, _, _, _, S392, (i250.tr i282), els390, (nat_succ rfl (lt_of_get hx78) (p2.mono ((((r26.inc.tr r60.run.inc).tr i75).tr i250).tr i282)).le), k304, k305, k306, k307, k308, rfl, rfl⟩⟩
      ·
        refine FW.condF k312 c313 ?_
        refine FW.skip (FW.seq (FW.region ?_))
        refine FL.v (E.move k306) ?_
        refine FL.v (E.move k311) ?_
        obtain ⟨p393, cs394, pt395, l396, at397, rel398⟩ := p2.at (ix_nat hx78)
        obtain ⟨v399, rfl, h400⟩ := eL_open rel398
        refine FL.v (E.indexAddr te121 rfl rfl pt395) ?_
        refine FL.v (E.load rfl (run_load0 Tryz.isAgg124 ((at397.mono ((((r26.inc.tr r60.run.inc).tr i75).tr i250).tr i282)).now S281.sl) rfl)) ?_
        refine FL.v (E.assign (v := v399) rfl) ?_
        refine FL.nil (FW.seq (FW.seq (FW.region ?_)))
        refine FL.v (E.move (v := v399) rfl) ?_
        refine FL.v (E.move k308) ?_
        obtain ⟨r401, hr402, hp⟩ := bnd hp
        refine FL.call rfl rfl rfl (E.call Tryz.call135 (A2 rfl rfl)) (w_spec_l20Coeff S281.sl v399 y72 (h400.mono ((((r26.inc.tr r60.run.inc).tr i75).tr i250).tr i282)) r30 hr402) ?_
        rintro e w403 ⟨rfl, r404⟩
        refine ⟨_, rfl, ?_⟩
        have S405 := S281.call r404
        refine FL.v (E.assign (v := Value.int .i64 r401) rfl) ?_
        refine FL.nil (FW.seq (FW.region ?_))
        refine FL.v (E.move (v := Value.int .i64 r401) rfl) ?_
        refine FL.v (E.neq rfl rfl) ?_
        refine FL.nil ?_
        rcases ifB hp with ⟨c406, hp⟩ | ⟨c406, hp⟩
        ·
          refine FW.condT rfl c406 ?_
          refine FW.region ?_
          refine FL.v (E.move k304) ?_
          refine FL.v (E.move k305) ?_
          refine FL.v (E.move (v := v399) rfl) ?_
          refine FL.v (E.move k307) ?_
          refine FL.v (E.move k304) ?_
          refine FL.v (E.move (v := Value.int .i64 r401) rfl) ?_
          refine FL.v (E.sub rfl rfl) ?_
          obtain ⟨r407, hr408, hp⟩ := bnd hp
          refine FL.call rfl rfl rfl (E.call Tryz.call137 (A5 rfl rfl rfl rfl rfl)) (w_spec_l18Add S405.sl a0 a1 v399 y72 (h400.mono ((((r26.inc.tr r60.run.inc).tr i75).tr i250).tr i282)) v63 r55 (h76.mono (upI.tr (i250.tr i282))) (wr (a0 - r401)) hr408) ?_
          rintro e w410 ⟨H409, v413, n414, cs415, rfl, r412, els416⟩
          refine ⟨_, rfl, ?_⟩
          have els416 := els416.mono (up_le S405.size)
          have S411 := S405.join (l' := [.row 179 2 v413 n414 cs415, .row 124 1 v79 n80 cs81]) r412 rfl
          refine FL.v (E.assign (v := v413) rfl) ?_
          refine FL.nil (FW.region ?_)
          refine FL.v (E.move k309) ?_
          refine FL.v (E.move (v := v413) rfl) ?_
          obtain ⟨H417, S418, i419, h420, nv421⟩ := S411.sealRowU (i := 0) (l' := [.row 124 1 v79 n80 cs81]) rfl els416 (by decide) rfl
          obtain ⟨v422, w423, run424, S425⟩ := S418.buildSlice (P := Tryz.prog) te121 [v413] (parts := #[(0, v413)]) (cells := [v413]) rfl (szs_cons (cells_size h420.cells) szs_nil) (fc_cons h420.cells fc_nil) (ones_cons h420.one ones_nil) (Nat.le_of_ble_eq_true rfl)
          have els426 : Els (up wa.heap.size H417) (eL eTerm 2) 1 [v413] [r407] := (Els.snoc (H := (up wa.heap.size H417)) (E := (eL eTerm 2)) (k := 1) (c := [v413]) (x := r407) Els.nil rfl ⟨_, rfl, h420⟩)
          have nd427 : (bl [v413]).Nodup := by exact nd_one v413
          refine FL.v (E.buildSlice (B1 rfl) run424) ?_
          obtain ⟨xs428, hz429, hp⟩ := bnd hp
          obtain ⟨v430, w433, n431, cs432, run434, S435, els436, ce437⟩ := S425.appendO (P := Tryz.prog) te121 (i := 1) (j := 0) rfl (els82.mono ((i282.tr r412.run.inc).tr i419)) rfl (els426.mono upI) hz429
          have S435 : St Ha wa H417 w433 [.row 124 1 v422 1 [v413], .row 124 1 v430 n431 cs432] := S435
          have S438 : St Ha wa H417 w433 [.row 124 1 v430 n431 cs432] := S435.drop 0
          refine FL.v (E.append rfl rfl run434) ?_
          refine FL.v (E.assign (v := v430) rfl) ?_
          refine FL.nil (FW.region ?_)
          refine FL.v (E.move k311) ?_
          refine FL.v (E.add rfl rfl) ?_
          refine FL.v (E.assign (v := Value.int .i64 (wr (((i78 : Nat) : Int) + 1))) rfl) ?_
          refine FL.nil ?_
          obtain rfl := Option.some.inj hp
          exact ⟨rfl, ⟨_, _, _, _, S438, (((i250.tr i282).tr r412.run.inc).tr i419), els436, (nat_succ rfl (lt_of_get hx78) (p2.mono ((((((r26.inc.tr r60.run.inc).tr i75).tr i250).tr i282).tr r412.run.inc).tr i419)).le), k304, k305, k306, k307, k308, rfl, k310⟩⟩
        ·
          refine FW.condF rfl c406 ?_
          refine FW.skip (FW.region ?_)
          refine FL.v (E.move k309) ?_
          refine FL.v (E.move (v := v399) rfl) ?_
          obtain ⟨v439, w440, run441, S442⟩ := S405.buildSlice (P := Tryz.prog) te121 [v399] (parts := #[(0, v399)]) (cells := [v399]) rfl (szs_cons (cells_size h400.cells) szs_nil) (fc_cons h400.cells fc_nil) (ones_cons h400.one ones_nil) (Nat.le_of_ble_eq_true rfl)
          have els443 : Els H280 (eL eTerm 2) 1 [v399] [y72] := (Els.snoc (H := H280) (E := (eL eTerm 2)) (k := 1) (c := [v399]) (x := y72) Els.nil rfl ⟨_, rfl, (h400.mono ((((r26.inc.tr r60.run.inc).tr i75).tr i250).tr i282))⟩)
          refine FL.v (E.buildSlice (B1 rfl) run441) ?_
          obtain ⟨xs444, hz445, hp⟩ := bnd hp
          obtain ⟨v446, w449, n447, cs448, run450, S451, els452, ce453⟩ := S442.appendO (P := Tryz.prog) te121 (i := 1) (j := 0) rfl (els82.mono i282) rfl els443 hz445
          have S451 : St Ha wa H280 w449 [.row 124 1 v439 1 [v399], .row 124 1 v446 n447 cs448] := S451
          have S454 : St Ha wa H280 w449 [.row 124 1 v446 n447 cs448] := S451.drop 0
          refine FL.v (E.append rfl rfl run450) ?_
          refine FL.v (E.assign (v := v446) rfl) ?_
          refine FL.nil (FW.region ?_)
          refine FL.v (E.move k311) ?_
          refine FL.v (E.add rfl rfl) ?_
          refine FL.v (E.assign (v := Value.int .i64 (wr (((i78 : Nat) : Int) + 1))) rfl) ?_
          refine FL.nil ?_
          obtain rfl := Option.some.inj hp
          exact ⟨rfl, ⟨_, _, _, _, S454, (i250.tr i282), els452, (nat_succ rfl (lt_of_get hx78) (p2.mono ((((r26.inc.tr r60.run.inc).tr i75).tr i250).tr i282)).le), k304, k305, k306, k307, k308, rfl, k310⟩⟩
    ·
      clear hp hq
      rintro s78 f496 w495 ⟨H492, v79, n80, cs81, S493, i494, els82, k497, k498, k499, k500, k501, k502, k503, k504⟩
      refine FW.seq (FW.seq (FW.region ?_))
      refine FL.v (E.move k497) ?_
      refine FL.v (E.move k500) ?_
      refine FL.v (E.lenP te121 rfl p2) ?_
      refine FL.v (E.lss rfl rfl) ?_
      refine FL.nil ?_
      refine FW.condF rfl dlt_len ?_
      refine FW.exit ?_
      exact ⟨nofun, rfl, ⟨_, _, _, _, S493, i494, els82, k501, k503, k504⟩⟩
    ·
      clear hq
      intro e f460 w459 hD
      rcases q78 with s78 | x78
      ·
        obtain ⟨rfl, hD⟩ := hD
        obtain ⟨H456, v79, n80, cs81, S457, i458, els82, k461, k462, k463⟩ := hD
        replace hp := el_go hp
        refine FW.seq (FW.seq (FW.region ?_))
        refine FL.v (E.move k463) ?_
        refine FL.v (E.not rfl) ?_
        refine FL.nil ?_
        rcases ifB hp with ⟨c464, hp⟩ | ⟨c464, hp⟩
        ·
          refine FW.condT rfl c464 ?_
          refine FW.region ?_
          refine FL.v (E.move k462) ?_
          refine FL.v (E.move k461) ?_
          obtain ⟨v465, w466, run467, S468⟩ := S457.buildSlice (P := Tryz.prog) te121 [v63] (parts := #[(0, v63)]) (cells := [v63]) rfl (szs_cons (cells_size h76.cells) szs_nil) (fc_cons h76.cells fc_nil) (ones_cons h76.one ones_nil) (Nat.le_of_ble_eq_true rfl)
          have els469 : Els (up wa.heap.size H456) (eL eTerm 2) 1 [v63] [r55] := (Els.snoc (H := (up wa.heap.size H456)) (E := (eL eTerm 2)) (k := 1) (c := [v63]) (x := r55) Els.nil rfl ⟨_, rfl, (h76.mono (up_mono i458))⟩)
          have nd470 : (bl [v63]).Nodup := by exact nd_one v63
          refine FL.v (E.buildSlice (B1 rfl) run467) ?_
          obtain ⟨xs471, hz472, hp⟩ := bnd hp
          obtain ⟨v473, w476, n474, cs475, run477, S478, els479, ce480⟩ := S468.appendO (P := Tryz.prog) te121 (i := 1) (j := 0) rfl els82 rfl (els469.mono upI) hz472
          have S478 : St Ha wa H456 w476 [.row 124 1 v465 1 [v63], .row 124 1 v473 n474 cs475] := S478
          have S481 : St Ha wa H456 w476 [.row 124 1 v473 n474 cs475] := S478.drop 0
          refine FL.v (E.append rfl rfl run477) ?_
          refine FL.v (E.assign (v := v473) rfl) ?_
          refine FL.nil (FW.seq (FW.region ?_))
          refine FL.v (E.move (v := v473) rfl) ?_
          refine FL.v (E.assign (v := v473) rfl) ?_
          refine FL.v (E.assign (v := Value.bool true) rfl) ?_
          refine FL.nil ?_
          refine FW.ret ?_
          obtain ⟨H482, S483, i484, h485⟩ := S481.sealRow (i := 0) (l' := []) rfl els479 (by decide) rfl
          obtain rfl := Option.some.inj hp
          exact ⟨.inr rfl, res2 rfl rfl rfl ⟨_, _, rfl, S483.run, h485⟩⟩
        ·
          refine FW.condF rfl c464 ?_
          refine FW.skip (FW.seq (FW.region ?_))
          refine FL.v (E.move k462) ?_
          refine FL.v (E.assign (v := v79) rfl) ?_
          refine FL.v (E.assign (v := Value.bool true) rfl) ?_
          refine FL.nil ?_
          refine FW.ret ?_
          obtain ⟨H487, S488, i489, h490⟩ := S457.sealRow (i := 0) (l' := []) rfl els82 (by decide) rfl
          obtain rfl := Option.some.inj hp
          exact ⟨.inr rfl, res2 rfl rfl rfl ⟨_, _, rfl, S488.run, h490⟩⟩
      · exact x78.elim

theorem w_spec_l1Most {Ha : GH} {wa : World} (hs : Sl Ha wa) (a0 : Int) (a1 : Int) :
  Calls Tryz.prog 93 #[Value.int .i64 a0, Value.int .i64 a1] wa (Sc Ha wa (Value.int .i64 (PF.spec_l1Most a0 a1))) := by
 obtain ⟨r, hp⟩ : ∃ r, (PF.spec_l1Most a0 a1) = r := ⟨_, rfl⟩
 rw [hp]
 unfold PF.spec_l1Most at hp
 have S0 := St.init hs
 refine calls_go (N := 10) (args := [Value.int .i64 a0, Value.int .i64 a1]) Tryz.func93 rfl rfl rfl ?_
 refine FW.seq (FW.region ?_)
 refine FL.v (E.assign (v := Value.int .i64 0) rfl) ?_
 refine FL.nil (FW.seq (FW.seq (FW.region ?_)))
 refine FL.v (E.move (v := Value.int .i64 a0) rfl) ?_
 refine FL.v (E.move (v := Value.int .i64 a1) rfl) ?_
 refine FL.v (E.gtr rfl rfl) ?_
 refine FL.nil ?_
 rcases ifT hp with ⟨c21, hp⟩ | ⟨c21, hp⟩
 ·
  refine FW.condT rfl c21 ?_
  refine FW.seq (FW.region ?_)
  refine FL.v (E.move (v := Value.int .i64 a0) rfl) ?_
  refine FL.v (E.assign (v := Value.int .i64 a0) rfl) ?_
  refine FL.nil ?_
  refine FW.ret ?_
  obtain rfl := hp
  exact ⟨.inr rfl, res1 rfl rfl ⟨rfl, S0.back⟩⟩
 ·
  refine FW.condF rfl c21 ?_
  refine FW.skip (FW.seq (FW.region ?_))
  refine FL.v (E.move (v := Value.int .i64 a1) rfl) ?_
  refine FL.v (E.assign (v := Value.int .i64 a1) rfl) ?_
  refine FL.nil ?_
  refine FW.ret ?_
  obtain rfl := hp
  exact ⟨.inr rfl, res1 rfl rfl ⟨rfl, S0.back⟩⟩

theorem w_spec_l18Degree {Ha : GH} {wa : World} (hs : Sl Ha wa) (v0 : Value) (a0 : List Term) (p0 : RSl Ha eTerm 2 v0 a0) {r : Int} (hp : (PF.spec_l18Degree a0) = some r) :
    Calls Tryz.prog 133 #[v0] wa (Sc Ha wa (Value.int .i64 r)) := by
  unfold PF.spec_l18Degree at hp
  have S0 := St.init hs
  refine calls_go (N := 20) (args := [v0]) Tryz.func133 rfl rfl rfl ?_
  refine FW.seq (FW.region ?_)
  refine FL.v (E.assign (v := Value.int .i64 0) rfl) ?_
  refine FL.nil (FW.seq (FW.region ?_))
  refine FL.v (E.assign (v := Value.int .i64 (-1)) rfl) ?_
  refine FL.nil (FW.seq (FW.seq (FW.region ?_)))
  refine FL.v (E.assign (v := Value.int .i64 0) rfl) ?_
  refine FL.nil ?_
  obtain ⟨q22, hq, hp⟩ := bndR hp
  refine FW.block ?_
  refine FW.mono (FW.forL (S := Int) (X := Empty) (fun (i22 : Nat) (s22 : Int) f w => ∃ H : GH, St Ha wa H w [] ∧ Inc Ha H ∧ f 4 = Value.int .i64 ((i22 : Nat) : Int) ∧ f 0 = v0 ∧ f 3 = Value.int .i64 s22) (fun (q : Rs Int Empty) e f w => match q with | .go s22 => e = Exit.exit 0 ∧ (∃ H : GH, St Ha wa H w [] ∧ Inc Ha H ∧ f 3 = Value.int .i64 s22) | .rt x => x.elim) hq ⟨_, S0, (Inc.rfl _), rfl, rfl, rfl⟩ ?_ ?_) ?_
  ·
    clear hp hq
    rintro i22 y21 s22 f49 w48 ⟨H45, S46, i47, k50, k51, k52⟩ hx22 o67 hp
    refine FW.seq (FW.seq (FW.region ?_))
    refine FL.v (E.move k50) ?_
    refine FL.v (E.move k51) ?_
    refine FL.v (E.lenP te124 rfl p0) ?_
    refine FL.v (E.lssT rfl rfl (lss_len hx22)) ?_
    refine FL.nil ?_
    refine FW.condT rfl rfl ?_
    refine FW.skip (FW.seq (FW.block (FW.region ?_)))
    refine FL.v (E.move k52) ?_
    refine FL.v (E.move k51) ?_
    refine FL.v (E.move k50) ?_
    obtain ⟨p53, cs54, pt55, l56, at57, rel58⟩ := p0.at (ix_nat hx22)
    obtain rfl := eTerm_open rel58
    refine FL.v (E.indexAddr te124 rfl rfl pt55) ?_
    refine FL.v (E.fieldAddr tf179_0 rfl) ?_
    refine FL.v (E.load rfl (run_load1 Tryz.isAgg3 ((at57.mono i47).now S46.sl) rfl)) ?_
    obtain ⟨r59, hr60, hp⟩ := bnd hp
    refine FL.call rfl rfl rfl (E.call Tryz.call185 (A1 rfl)) (w_spec_l14Count S46.sl y21.mono hr60) ?_
    rintro e w61 ⟨rfl, r62⟩
    refine ⟨_, rfl, ?_⟩
    have S63 := S46.call r62
    refine FL.call rfl rfl rfl (E.call Tryz.call93 (A2 rfl rfl)) (w_spec_l1Most S63.sl s22 r59) ?_
    rintro e w64 ⟨rfl, r65⟩
    refine ⟨_, rfl, ?_⟩
    have S66 := S63.call r65
    refine FL.v (E.assign (v := Value.int .i64 (PF.spec_l1Most s22 r59)) rfl) ?_
    refine FL.nil (FW.region ?_)
    refine FL.v (E.move k50) ?_
    refine FL.v (E.add rfl rfl) ?_
    refine FL.v (E.assign (v := Value.int .i64 (wr (((i22 : Nat) : Int) + 1))) rfl) ?_
    refine FL.nil ?_
    obtain rfl := Option.some.inj hp
    exact ⟨rfl, ⟨_, S66, i47, (nat_succ rfl (lt_of_get hx22) (p0.mono i47).le), k51, rfl⟩⟩
  ·
    clear hp hq
    rintro s22 f78 w77 ⟨H74, S75, i76, k79, k80, k81⟩
    refine FW.seq (FW.seq (FW.region ?_))
    refine FL.v (E.move k79) ?_
    refine FL.v (E.move k80) ?_
    refine FL.v (E.lenP te124 rfl p0) ?_
    refine FL.v (E.lss rfl rfl) ?_
    refine FL.nil ?_
    refine FW.condF rfl dlt_len ?_
    refine FW.exit ?_
    exact ⟨nofun, rfl, ⟨_, S75, i76, k81⟩⟩
  ·
    clear hq
    intro e f72 w71 hD
    rcases q22 with s22 | x22
    ·
      obtain ⟨rfl, hD⟩ := hD
      obtain ⟨H68, S69, i70, k73⟩ := hD
      replace hp := el_go hp
      refine FW.seq (FW.region ?_)
      refine FL.v (E.move k73) ?_
      refine FL.v (E.assign (v := Value.int .i64 s22) rfl) ?_
      refine FL.nil ?_
      refine FW.ret ?_
      obtain rfl := Option.some.inj hp
      exact ⟨.inr rfl, res1 rfl rfl ⟨rfl, S69.back⟩⟩
    · exact x22.elim

@[reducible] def p_spec_l20Times (Ha : GH) (wa : World) (r : (List Term)) : Ending → World → Prop :=
 fun e w' => ∃ H' : GH, ∃ v0 : Value, ∃ n0 : Nat, ∃ c0 : List Value, e = .returned (v0) ∧ St Ha wa H' w' [.row 179 2 v0 n0 c0] ∧ Els (up wa.heap.size H') eTerm 2 c0 r
theorem w_spec_l20Times {Ha : GH} {wa : World} (hs : Sl Ha wa) (a0 : Int) (a1 : Int) (v2 : Value) (a2 : List Term) (p2 : RSl Ha eTerm 2 v2 a2) (a3 : Int) {r : (List Term)} (hp : (PF.spec_l20Times a0 a1 a2 a3) = some r) :
  Calls Tryz.prog 134 #[Value.int .i64 a0, Value.int .i64 a1, v2, Value.int .i64 a3] wa (p_spec_l20Times Ha wa r) := by
 unfold PF.spec_l20Times at hp
 have S0 := St.init hs
 refine calls_go (N := 18) (args := [Value.int .i64 a0, Value.int .i64 a1, v2, Value.int .i64 a3]) Tryz.func134 rfl rfl rfl ?_
 refine FW.seq (FW.region ?_)
 refine FL.v (E.assign (v := Value.slice none 0 0) rfl) ?_
 refine FL.nil (FW.seq (FW.region ?_))
 refine FL.v (E.move (v := Value.int .i64 a0) rfl) ?_
 refine FL.v (E.move (v := Value.int .i64 a1) rfl) ?_
 refine FL.v (E.move (v := v2) rfl) ?_
 refine FL.v (E.move (v := Value.int .i64 a3) rfl) ?_
 refine FL.v (E.sub rfl rfl) ?_
 obtain ⟨u22, z21, hp⟩ := bnd hp
 refine FL.v (E.shl rfl rfl (nn_ge z21)) ?_
 refine FL.v (E.build (B2 rfl rfl) (run_build _ 179 #[(0, Value.int .i64 (shlK true 64 1 (wr (a3 - 1)))), (1, Value.int .i64 1)] #[Value.int .i64 (shlK true 64 1 (wr (a3 - 1))), Value.int .i64 1] (by rfl))) ?_
 obtain ⟨v23, w24, run25, S26⟩ := S0.buildSlice (P := Tryz.prog) te124 [Value.agg #[Value.int .i64 (shlK true 64 1 (wr (a3 - 1))), Value.int .i64 1]] (parts := #[(0, Value.agg #[Value.int .i64 (shlK true 64 1 (wr (a3 - 1))), Value.int .i64 1])]) (cells := [Value.int .i64 (shlK true 64 1 (wr (a3 - 1))), Value.int .i64 1]) rfl (szs_cons rfl szs_nil) (fc_cons rfl fc_nil) (ones_cons rfl (ones_cons rfl ones_nil)) (Nat.le_of_ble_eq_true rfl)
 have els27 : Els (up wa.heap.size Ha) eTerm 2 [Value.int .i64 (shlK true 64 1 (wr (a3 - 1))), Value.int .i64 1] [(Term.mk (shlK true 64 1 (wr (a3 - 1))) 1)] := (Els.snoc (H := (up wa.heap.size Ha)) (E := eTerm) (k := 2) (c := [Value.int .i64 (shlK true 64 1 (wr (a3 - 1))), Value.int .i64 1]) (x := (Term.mk (shlK true 64 1 (wr (a3 - 1))) 1)) Els.nil rfl rfl)
 refine FL.v (E.buildSlice (B1 rfl) run25) ?_
 obtain ⟨H28, S29, i30, h31, nv32⟩ := S26.sealRowU (i := 0) (l' := []) rfl els27 (by decide) rfl
 obtain ⟨r33, hr34, hp⟩ := bnd hp
 refine FL.call rfl rfl rfl (E.call Tryz.call139 (A4 rfl rfl rfl rfl)) (w_spec_l18Mul S29.sl a0 a1 v2 a2 (p2.mono i30) v23 [(Term.mk (shlK true 64 1 (wr (a3 - 1))) 1)] (h31.mono upI) hr34) ?_
 rintro e w36 ⟨H35, v41, n42, cs43, rfl, r38, els44⟩
 refine ⟨_, rfl, ?_⟩
 obtain ⟨H39, r38, hU40⟩ := St.lendX i30 S26.sl r38
 have els44 := els44.mono (hU40.tr (up_le S26.size))
 have S37 := S26.join (l' := [.row 179 2 v41 n42 cs43, .row 179 2 v23 1 [Value.int .i64 (shlK true 64 1 (wr (a3 - 1))), Value.int .i64 1]]) r38 rfl
 refine FL.v (E.assign (v := v41) rfl) ?_
 refine FL.nil ?_
 refine FW.ret ?_
 obtain rfl := Option.some.inj hp
 exact ⟨.inr rfl, res1 rfl rfl ⟨_, _, _, _, rfl, (S37.sel [0] (by decide) rfl), els44⟩⟩

@[reducible] def p_spec_l20Basis (Ha : GH) (wa : World) (r : (List (List Term))) : Ending → World → Prop :=
  fun e w' => ∃ H' : GH, ∃ v0 : Value, e = .returned (v0) ∧ Run wa.heap.size Ha wa H' w' ∧ RSl H' (eL eTerm 2) 1 v0 r
set_option maxHeartbeats 4000000 in
theorem w_spec_l20Basis {Ha : GH} {wa : World} (hs : Sl Ha wa) (a0 : Int) (a1 : Cnf) (v1_1 : Value) (p1_1 : RSl Ha (eL eI 1) 1 v1_1 a1.clauses) (a2 : Int) {r : (List (List Term))} (hp : (PF.spec_l20Basis a0 a1 a2) = some r) :
    Calls Tryz.prog 79 #[Value.int .i64 a0, Value.agg #[Value.int .i64 a1.vars, v1_1], Value.int .i64 a2] wa (p_spec_l20Basis Ha wa r) := by
  unfold PF.spec_l20Basis at hp
  have S0 := St.init hs
  refine calls_go (N := 96) (args := [Value.int .i64 a0, Value.agg #[Value.int .i64 a1.vars, v1_1], Value.int .i64 a2]) Tryz.func79 rfl rfl rfl ?_
  refine FW.seq (FW.region ?_)
  obtain ⟨b21, w22, run23, S24⟩ := S0.box (P := Tryz.prog) 30 [Value.int .i64 a1.vars, v1_1] (v := Value.agg #[Value.int .i64 a1.vars, v1_1]) rfl (ones_cons rfl (ones_cons p1_1.one ones_nil))
  refine FL.v (E.box rfl run23) ?_
  obtain ⟨H25, S26, i27, at28⟩ := S24.sealBox (i := 0) (l' := []) rfl rfl
  refine FL.v (E.assign (v := Value.slice none 0 0) rfl) ?_
  refine FL.nil (FW.seq (FW.region ?_))
  obtain ⟨v29, w30, run31, S32⟩ := S26.buildSlice (P := Tryz.prog) te121 [] (parts := #[]) (cells := []) rfl szs_nil fc_nil ones_nil (Nat.le_of_ble_eq_true rfl)
  have els33 : Els (up wa.heap.size H25) (eL eTerm 2) 1 [] [] := Els.nil
  refine FL.v (E.buildSlice (B0) run31) ?_
  refine FL.v (E.assign (v := v29) rfl) ?_
  refine FL.nil (FW.seq (FW.seq (FW.region ?_)))
  refine FL.v (E.assign (v := Value.int .i64 0) rfl) ?_
  refine FL.nil ?_
  obtain ⟨H34, S35, i36, ns39, nv38⟩ := S32.sealRowN (i := 0) (l' := []) rfl els33 (show (bl []).Nodup from List.nodup_nil) (by decide) rfl
  have h37 := ns39.rsl
  obtain ⟨q40, hq, hp⟩ := bndR hp
  refine FW.block ?_
  refine FW.mono (FW.iter (S := ((List (List Term)) × Int)) (X := Empty) (fun (s40 : ((List (List Term)) × Int)) f w => ∃ H : GH, ∃ v41 : Value, St Ha wa H w [] ∧ Inc H34 H ∧ RSl H (eL eTerm 2) 1 v41 s40.1 ∧ f 0 = Value.int .i64 a0 ∧ f 2 = Value.int .i64 a2 ∧ f 4 = Value.pointer (some ⟨b21, 0, none⟩) ∧ f 7 = v41 ∧ f 8 = Value.int .i64 s40.2) (fun (q : Rs ((List (List Term)) × Int) Empty) e f w => match q with | .go s40 => e = Exit.exit 0 ∧ (∃ H : GH, ∃ v41 : Value, St Ha wa H w [] ∧ Inc H34 H ∧ RSl H (eL eTerm 2) 1 v41 s40.1 ∧ f 0 = Value.int .i64 a0 ∧ f 2 = Value.int .i64 a2 ∧ f 4 = Value.pointer (some ⟨b21, 0, none⟩) ∧ f 7 = v41) | .rt x => x.elim) hq ⟨_, _, S35, (Inc.rfl _), (h37.mono upI), rfl, rfl, rfl, rfl, rfl⟩ ?_) ?_
  ·
    clear hp hq
    rintro s40 f47 w46 ⟨H43, v41, S44, i45, h42, k48, k49, k50, k51, k52⟩ o114 hp
    refine FW.seq (FW.seq (FW.region ?_))
    refine FL.v (E.move k52) ?_
    refine FL.v (E.fieldAddr tf30_1 k50) ?_
    refine FL.v (E.load rfl (run_load1 Tryz.isAgg22 ((at28.mono (i36.tr i45)).now S44.sl) rfl)) ?_
    refine FL.v (E.lenP te22 rfl p1_1) ?_
    refine FL.v (E.lss rfl rfl) ?_
    refine FL.nil ?_
    rcases ifB hp with ⟨c53, hp⟩ | ⟨c53, hp⟩
    ·
      refine FW.condT rfl c53 ?_
      refine FW.skip (FW.seq (FW.block (FW.seq (FW.region ?_))))
      refine FL.v (E.fieldAddr tf30_1 k50) ?_
      refine FL.v (E.load rfl (run_load1 Tryz.isAgg22 ((at28.mono (i36.tr i45)).now S44.sl) rfl)) ?_
      refine FL.v (E.move k52) ?_
      obtain ⟨x60, hx61, hp⟩ := bnd hp
      obtain ⟨p54, cs55, pt56, l57, at58, rel59⟩ := p1_1.at hx61
      obtain ⟨v62, rfl, h63⟩ := eL_open rel59
      refine FL.v (E.indexAddr te22 rfl rfl pt56) ?_
      refine FL.v (E.load rfl (run_load0 Tryz.isAgg84 ((at58.mono ((i27.tr i36).tr i45)).now S44.sl) rfl)) ?_
      refine FL.v (E.lenP te84 rfl h63) ?_
      refine FL.v (E.move k49) ?_
      refine FL.v (E.leq rfl rfl) ?_
      refine FL.nil ?_
      rcases ifB hp with ⟨c64, hp⟩ | ⟨c64, hp⟩
      ·
        refine FW.condT rfl c64 ?_
        obtain ⟨x74, hx75, hp⟩ := bnd hp
        obtain ⟨r78, hr79, hp⟩ := bnd hp
        obtain ⟨r94, hr95, hp⟩ := bnd hp
        refine FW.drawB (Sl H43) (fun f w => ∃ H : GH, ∃ v102 : Value, St Ha wa H w [] ∧ Inc H43 H ∧ RSl H (eL eTerm 2) 1 v102 r94.1 ∧ f 0 = Value.int .i64 a0 ∧ f 2 = Value.int .i64 a2 ∧ f 4 = Value.pointer (some ⟨b21, 0, none⟩) ∧ f 7 = v102 ∧ f 8 = Value.int .i64 s40.2) (by kernel_rfl) S44.sl ?_ ?_
        ·
          intro w65 r66
          have S67 := S44.call r66
          refine FB.t (i := 0) (bs 18 1) rfl (SP.nil S67.sl) rfl (fun w' hw' => (E.move k48)) ?_
          refine FB.t (i := 1) (bs 18 3) rfl (SP.nil S67.sl) rfl (fun w' hw' => (E.fieldAddr tf30_0 k50)) ?_
          refine FB.t (i := 2) (bs 18 7) rfl (SP.nil S67.sl) rfl (fun w' hw' => (E.load rfl (run_load1 Tryz.isAgg3 ((at28.mono (i36.tr i45)).now hw') rfl))) ?_
          refine FB.t (i := 3) (bs 18 15) rfl (SP.nil S67.sl) rfl (fun w' hw' => (E.move k51)) ?_
          refine FB.t (i := 4) (bs 18 31) rfl (SP.nil S67.sl) rfl (fun w' hw' => (E.move k48)) ?_
          refine FB.t (i := 5) (bs 18 63) rfl (SP.nil S67.sl) rfl (fun w' hw' => (E.fieldAddr tf30_0 k50)) ?_
          refine FB.t (i := 6) (bs 18 127) rfl (SP.nil S67.sl) rfl (fun w' hw' => (E.load rfl (run_load1 Tryz.isAgg3 ((at28.mono (i36.tr i45)).now hw') rfl))) ?_
          refine FB.t (i := 7) (bs 18 255) rfl (SP.nil S67.sl) rfl (fun w' hw' => (E.fieldAddr tf30_1 k50)) ?_
          refine FB.t (i := 8) (bs 18 511) rfl (SP.nil S67.sl) rfl (fun w' hw' => (E.load rfl (run_load1 Tryz.isAgg22 ((at28.mono (i36.tr i45)).now hw') rfl))) ?_
          refine FB.t (i := 9) (bs 18 1023) rfl (SP.nil S67.sl) rfl (fun w' hw' => (E.move k52)) ?_
          obtain ⟨p68, cs69, pt70, l71, at72, rel73⟩ := p1_1.at hx75
          obtain ⟨v76, rfl, h77⟩ := eL_open rel73
          refine FB.t (i := 10) (bs 18 2047) rfl (SP.nil S67.sl) rfl (fun w' hw' => (E.indexAddr te22 rfl rfl pt70)) ?_
          refine FB.t (i := 11) (bs 18 4095) rfl (SP.nil S67.sl) rfl (fun w' hw' => (E.load rfl (run_load0 Tryz.isAgg84 ((at72.mono ((i27.tr i36).tr i45)).now hw') rfl))) ?_
          refine FB.all1 (i := 12) (by kernel_rfl) ?_
          ·
            refine FC.call (l' := (bs 18 8191)) rfl (by kernel_rfl) rfl rfl rfl (E.call Tryz.call82 (A3 rfl rfl rfl)) (w_spec_l18Clause S67.sl a0 a1.vars v76 x74 (h77.mono ((i27.tr i36).tr i45)) hr79) ?_
            rintro e w81 ⟨H80, v85, n86, cs87, rfl, r83, els88⟩
            refine ⟨_, rfl, ?_⟩
            have els88 := els88.mono (up_le S67.size)
            have S82 := S67.join (l' := [.row 179 2 v85 n86 cs87]) r83 rfl
            refine ⟨(SP.nil (Sl.of_inc r83.run.inc S82.sl)), ?_⟩
            refine FB.all1 (i := 13) (by kernel_rfl) ?_
            ·
              obtain ⟨H89, S90, i91, h92, nv93⟩ := S82.sealRowU (i := 0) (l' := []) rfl els88 (by decide) rfl
              refine FC.call (l' := (bs 18 16383)) rfl (by kernel_rfl) rfl rfl rfl (E.call Tryz.call132 (A4 rfl rfl rfl rfl)) (w_spec_l20Put S90.sl a0 a1.vars v41 s40.1 (h42.mono (r83.run.inc.tr i91)) v85 r78 (h92.mono upI) hr95) ?_
              rintro e w97 ⟨H96, v100, rfl, r99, h101⟩
              refine ⟨_, rfl, ?_⟩
              have S98 := S90.call r99
              refine ⟨(SP.nil (Sl.of_inc ((r83.run.inc.tr i91).tr r99.inc) S98.sl)), ?_⟩
              refine FB.t (i := 14) (bs 18 32767) rfl (SP.nil (Sl.of_inc ((r83.run.inc.tr i91).tr r99.inc) S98.sl)) rfl (fun w' hw' => (E.move (v := Value.tuple #[v100, Value.bool r94.2]) rfl)) ?_
              refine FB.t (i := 15) (bs 18 65535) rfl (SP.nil (Sl.of_inc ((r83.run.inc.tr i91).tr r99.inc) S98.sl)) rfl (fun w' hw' => (E.extract (i := 0) rfl rfl)) ?_
              refine FB.t (i := 16) (bs 18 131071) rfl (SP.nil (Sl.of_inc ((r83.run.inc.tr i91).tr r99.inc) S98.sl)) rfl (fun w' hw' => (E.extract (i := 1) rfl rfl)) ?_
              refine FB.t (i := 17) (bs 18 262143) rfl (SP.nil (Sl.of_inc ((r83.run.inc.tr i91).tr r99.inc) S98.sl)) rfl (fun w' hw' => (E.assign (v := v100) rfl)) ?_
              exact FB.done (by kernel_rfl) ⟨_, _, S98, ((r83.run.inc.tr i91).tr r99.inc), h101, k48, k49, k50, rfl, k52⟩
        ·
          rintro f108 w107 ⟨H104, v102, S105, i106, h103, k109, k110, k111, k112, k113⟩
          refine FW.region ?_
          refine FL.v (E.move k113) ?_
          refine FL.v (E.add rfl rfl) ?_
          refine FL.v (E.assign (v := Value.int .i64 (wr (s40.2 + 1))) rfl) ?_
          refine FL.nil ?_
          obtain rfl := Option.some.inj hp
          exact ⟨rfl, ⟨_, _, S105, (i45.tr i106), h103, k109, k110, k111, k112, rfl⟩⟩
      ·
        refine FW.condF rfl c64 ?_
        refine FW.skip (FW.region ?_)
        refine FL.v (E.move k52) ?_
        refine FL.v (E.add rfl rfl) ?_
        refine FL.v (E.assign (v := Value.int .i64 (wr (s40.2 + 1))) rfl) ?_
        refine FL.nil ?_
        obtain rfl := Option.some.inj hp
        exact ⟨rfl, ⟨_, _, S44, i45, h42, k48, k49, k50, k51, rfl⟩⟩
    ·
      refine FW.condF rfl c53 ?_
      refine FW.exit ?_
      obtain rfl := Option.some.inj hp
      exact ⟨nofun, rfl, ⟨_, _, S44, i45, h42, k48, k49, k50, k51⟩⟩
  ·
    clear hq
    intro e f119 w118 hD
    rcases q40 with s40 | x40
    ·
      obtain ⟨rfl, hD⟩ := hD
      obtain ⟨H115, v41, S116, i117, h42, k120, k122, k123, k124⟩ := hD
      replace hp := el_go hp
      refine FW.seq (FW.seq (FW.region ?_))
      refine FL.v (E.assign (v := Value.bool true) rfl) ?_
      refine FL.nil ?_
      obtain ⟨q125, hq, hp⟩ := bndR hp
      refine FW.block ?_
      refine FW.mono (FW.iter (S := ((List (List Term)) × Bool)) (X := Empty) (fun (s125 : ((List (List Term)) × Bool)) f w => ∃ H : GH, ∃ v126 : Value, St Ha wa H w [] ∧ Inc H115 H ∧ RSl H (eL eTerm 2) 1 v126 s125.1 ∧ f 0 = Value.int .i64 a0 ∧ f 2 = Value.int .i64 a2 ∧ f 4 = Value.pointer (some ⟨b21, 0, none⟩) ∧ f 7 = v126 ∧ f 9 = Value.bool s125.2) (fun (q : Rs ((List (List Term)) × Bool) Empty) e f w => match q with | .go s125 => e = Exit.exit 2 ∧ (∃ H : GH, ∃ v126 : Value, St Ha wa H w [] ∧ Inc H115 H ∧ RSl H (eL eTerm 2) 1 v126 s125.1 ∧ f 7 = v126) | .rt x => x.elim) hq ⟨_, _, S116, (Inc.rfl _), h42, k120, k122, k123, k124, rfl⟩ ?_) ?_
      ·
        clear hp hq
        rintro s125 f132 w131 ⟨H128, v126, S129, i130, h127, k133, k134, k135, k136, k137⟩ o308 hp
        refine FW.seq (FW.seq (FW.region ?_))
        refine FL.v (E.move k137) ?_
        refine FL.nil ?_
        rcases ifB hp with ⟨c138, hp⟩ | ⟨c138, hp⟩
        ·
          refine FW.condT rfl c138 ?_
          refine FW.skip (FW.block (FW.seq (FW.region ?_)))
          refine FL.v (E.assign (v := Value.bool false) rfl) ?_
          refine FL.nil (FW.seq (FW.region ?_))
          obtain ⟨v139, w140, run141, S142⟩ := S129.buildSlice (P := Tryz.prog) te121 [] (parts := #[]) (cells := []) rfl szs_nil fc_nil ones_nil (Nat.le_of_ble_eq_true rfl)
          have els143 : Els (up wa.heap.size H128) (eL eTerm 2) 1 [] [] := Els.nil
          refine FL.v (E.buildSlice (B0) run141) ?_
          refine FL.v (E.move k136) ?_
          obtain ⟨xs144, hz145, hp⟩ := bnd hp
          obtain ⟨v146, w149, n147, cs148, run150, S151, els152⟩ := S142.appendP (P := Tryz.prog) (Inc.rfl _) te121 (i := 0) rfl (els143.mono upI) h127 hz145
          have S151 : St Ha wa H128 w149 [.row 124 1 v146 n147 cs148] := S151
          refine FL.v (E.append rfl rfl run150) ?_
          refine FL.v (E.assign (v := v146) rfl) ?_
          refine FL.nil (FW.seq (FW.region ?_))
          refine FL.v (E.assign (v := Value.int .i64 0) rfl) ?_
          refine FL.nil ?_
          obtain ⟨q153, hq, hp⟩ := bndR hp
          refine FW.block ?_
          refine FW.mono (FW.iter (S := ((List (List Term)) × Bool × Int)) (X := Empty) (fun (s153 : ((List (List Term)) × Bool × Int)) f w => ∃ H : GH, ∃ v154 : Value, St Ha wa H w [.row 124 1 v146 n147 cs148] ∧ Inc H128 H ∧ RSl H (eL eTerm 2) 1 v154 s153.1 ∧ f 0 = Value.int .i64 a0 ∧ f 2 = Value.int .i64 a2 ∧ f 4 = Value.pointer (some ⟨b21, 0, none⟩) ∧ f 7 = v154 ∧ f 9 = Value.bool s153.2.1 ∧ f 10 = v146 ∧ f 11 = Value.int .i64 s153.2.2) (fun (q : Rs ((List (List Term)) × Bool × Int) Empty) e f w => match q with | .go s153 => e = Exit.exit 4 ∧ (∃ H : GH, ∃ v154 : Value, St Ha wa H w [.row 124 1 v146 n147 cs148] ∧ Inc H128 H ∧ RSl H (eL eTerm 2) 1 v154 s153.1 ∧ f 0 = Value.int .i64 a0 ∧ f 2 = Value.int .i64 a2 ∧ f 4 = Value.pointer (some ⟨b21, 0, none⟩) ∧ f 7 = v154 ∧ f 9 = Value.bool s153.2.1) | .rt x => x.elim) hq ⟨_, _, S151, (Inc.rfl _), h127, k133, k134, k135, k136, rfl, rfl, rfl⟩ ?_) ?_
          ·
            clear hp hq
            rintro s153 f160 w159 ⟨H156, v154, S157, i158, h155, k161, k162, k163, k164, k165, k166, k167⟩ o297 hp
            refine FW.seq (FW.seq (FW.region ?_))
            refine FL.v (E.move k167) ?_
            refine FL.v (E.move k166) ?_
            refine FL.v (E.lenO te121 rfl S157 (i := 0) rfl els152 (by decide)) ?_
            refine FL.v (E.lss rfl rfl) ?_
            refine FL.nil ?_
            rcases ifB hp with ⟨c168, hp⟩ | ⟨c168, hp⟩
            ·
              refine FW.condT rfl c168 ?_
              refine FW.skip (FW.seq (FW.block (FW.seq (FW.region ?_))))
              refine FL.v (E.assign (v := Value.int .i64 1) rfl) ?_
              refine FL.nil ?_
              obtain ⟨q169, hq, hp⟩ := bndR hp
              refine FW.block ?_
              refine FW.mono (FW.iter (S := ((List (List Term)) × Bool × Int)) (X := Empty) (fun (s169 : ((List (List Term)) × Bool × Int)) f w => ∃ H : GH, ∃ v170 : Value, St Ha wa H w [.row 124 1 v146 n147 cs148] ∧ Inc H156 H ∧ RSl H (eL eTerm 2) 1 v170 s169.1 ∧ f 0 = Value.int .i64 a0 ∧ f 2 = Value.int .i64 a2 ∧ f 4 = Value.pointer (some ⟨b21, 0, none⟩) ∧ f 7 = v170 ∧ f 9 = Value.bool s169.2.1 ∧ f 10 = v146 ∧ f 11 = Value.int .i64 s153.2.2 ∧ f 12 = Value.int .i64 s169.2.2) (fun (q : Rs ((List (List Term)) × Bool × Int) Empty) e f w => match q with | .go s169 => e = Exit.exit 6 ∧ (∃ H : GH, ∃ v170 : Value, St Ha wa H w [.row 124 1 v146 n147 cs148] ∧ Inc H156 H ∧ RSl H (eL eTerm 2) 1 v170 s169.1 ∧ f 0 = Value.int .i64 a0 ∧ f 2 = Value.int .i64 a2 ∧ f 4 = Value.pointer (some ⟨b21, 0, none⟩) ∧ f 7 = v170 ∧ f 9 = Value.bool s169.2.1 ∧ f 10 = v146 ∧ f 11 = Value.int .i64 s153.2.2) | .rt x => x.elim) hq ⟨_, _, S157, (Inc.rfl _), h155, k161, k162, k163, k164, k165, k166, k167, rfl⟩ ?_) ?_
              ·
                clear hp hq
                rintro s169 f176 w175 ⟨H172, v170, S173, i174, h171, k177, k178, k179, k180, k181, k182, k183, k184⟩ o284 hp
                refine FW.seq (FW.seq (FW.region ?_))
                refine FL.v (E.move k184) ?_
                refine FL.v (E.fieldAddr tf30_0 k179) ?_
                refine FL.v (E.load rfl (run_load1 Tryz.isAgg3 ((at28.mono ((((i36.tr i117).tr i130).tr i158).tr i174)).now S173.sl) rfl)) ?_
                refine FL.v (E.leq rfl rfl) ?_
                refine FL.v (E.move (v := Value.bool (decide (s169.2.2 ≤ a1.vars))) rfl) ?_
                obtain ⟨t185, hqt185, hp⟩ := bnd hp
                refine FL.cut 8 (fun f w => ∃ H : GH, St Ha wa H w [.row 124 1 v146 n147 cs148] ∧ Inc H172 H ∧ f 0 = Value.int .i64 a0 ∧ f 2 = Value.int .i64 a2 ∧ f 4 = Value.pointer (some ⟨b21, 0, none⟩) ∧ f 7 = v170 ∧ f 9 = Value.bool s169.2.1 ∧ f 10 = v146 ∧ f 11 = Value.int .i64 s153.2.2 ∧ f 12 = Value.int .i64 s169.2.2 ∧ f 70 = Value.bool t185) ?_ ?_
                ·
                  clear hp; have hp := hqt185; clear hqt185
                  rcases ifB hp with ⟨c191, hp⟩ | ⟨c191, hp⟩
                  ·
                    refine FL.val (wF_yes rfl rfl rfl c191) rfl rfl (E.move k182) ?_
                    refine FL.val (wF_yes rfl rfl rfl c191) rfl rfl (E.move k183) ?_
                    obtain ⟨x198, hx199, hp⟩ := bnd hp
                    obtain ⟨p192, cs193, pt194, l195, at196, rel197⟩ := S173.row_at (i := 0) rfl els152 (by decide) hx199
                    obtain ⟨v200, rfl, h201⟩ := eL_open rel197
                    refine FL.val (wF_yes rfl rfl rfl c191) rfl rfl (E.indexAddr te121 rfl rfl pt194) ?_
                    refine FL.val (wF_yes rfl rfl rfl c191) rfl rfl (E.load rfl (run_load0 Tryz.isAgg124 at196 rfl)) ?_
                    obtain ⟨r202, hr203, hp⟩ := bnd hp
                    refine FL.call (wF_yes rfl rfl rfl c191) rfl rfl (E.call Tryz.call133 (A1 rfl)) (w_spec_l18Degree S173.sl v200 x198 (h201.mono (i158.tr i174)) hr203) ?_
                    rintro e w204 ⟨rfl, r205⟩
                    refine ⟨_, rfl, ?_⟩
                    have S206 := S173.call r205
                    refine FL.val (wF_yes rfl rfl rfl c191) rfl rfl (E.move k178) ?_
                    refine FL.val (wF_yes rfl rfl rfl c191) rfl rfl (E.lss rfl rfl) ?_
                    obtain rfl := Option.some.inj hp
                    refine FL.v (E.pickT rfl c191 rfl) ?_
                    exact FL.nil ⟨rfl, _, S206, (Inc.rfl _), k177, k178, k179, k180, k181, k182, k183, k184, rfl⟩
                  ·
                    refine FL.skip (wF_no rfl rfl rfl c191) rfl ?_
                    refine FL.skip (wF_no rfl rfl rfl c191) rfl ?_
                    refine FL.skip (wF_no rfl rfl rfl c191) rfl ?_
                    refine FL.skip (wF_no rfl rfl rfl c191) rfl ?_
                    refine FL.skip (wF_no rfl rfl rfl c191) rfl ?_
                    refine FL.skip (wF_no rfl rfl rfl c191) rfl ?_
                    refine FL.skip (wF_no rfl rfl rfl c191) rfl ?_
                    obtain rfl := Option.some.inj hp
                    refine FL.v (E.pickF rfl c191 rfl) ?_
                    exact FL.nil ⟨rfl, _, S173, (Inc.rfl _), k177, k178, k179, k180, k181, k182, k183, k184, rfl⟩
                rintro f190 w189 ⟨H186, S187, i188, k207, k208, k209, k210, k211, k212, k213, k214, k215⟩
                refine FL.nil ?_
                rcases ifB hp with ⟨c216, hp⟩ | ⟨c216, hp⟩
                ·
                  refine FW.condT k215 c216 ?_
                  refine FW.skip (FW.seq (FW.block (FW.seq ?_)))
                  obtain ⟨x226, hx227, hp⟩ := bnd hp
                  obtain ⟨r231, hr232, hp⟩ := bnd hp
                  obtain ⟨r246, hr247, hp⟩ := bnd hp
                  refine FW.drawB (SX Ha wa H186 [.row 124 1 v146 n147 cs148]) (fun f w => ∃ H : GH, ∃ v254 : Value, St Ha wa H w [.row 124 1 v146 n147 cs148] ∧ Inc H186 H ∧ RSl H (eL eTerm 2) 1 v254 r246.1 ∧ f 0 = Value.int .i64 a0 ∧ f 2 = Value.int .i64 a2 ∧ f 4 = Value.pointer (some ⟨b21, 0, none⟩) ∧ f 9 = Value.bool s169.2.1 ∧ f 10 = v146 ∧ f 11 = Value.int .i64 s153.2.2 ∧ f 12 = Value.int .i64 s169.2.2 ∧ f 13 = v254 ∧ f 14 = Value.bool r246.2) (by kernel_rfl) S187.sl ?_ ?_
                  ·
                    intro w217 r218
                    have S219 := S187.call r218
                    refine FB.t (i := 0) (bs 19 1) rfl (SP.nil ⟨_, S219, (Inc.rfl _)⟩) rfl (fun w' hw' => (E.move k207)) ?_
                    refine FB.t (i := 1) (bs 19 3) rfl (SP.nil ⟨_, S219, (Inc.rfl _)⟩) rfl (fun w' hw' => (E.fieldAddr tf30_0 k209)) ?_
                    refine FB.t (i := 2) (bs 19 7) rfl (SP.nil ⟨_, S219, (Inc.rfl _)⟩) rfl (fun w' hw' => (E.load rfl (run_load1 Tryz.isAgg3 ((at28.mono (((((i36.tr i117).tr i130).tr i158).tr i174).tr i188)).now hw'.sl) rfl))) ?_
                    refine FB.t (i := 3) (bs 19 15) rfl (SP.nil ⟨_, S219, (Inc.rfl _)⟩) rfl (fun w' hw' => (E.move k210)) ?_
                    refine FB.t (i := 4) (bs 19 31) rfl (SP.nil ⟨_, S219, (Inc.rfl _)⟩) rfl (fun w' hw' => (E.move k207)) ?_
                    refine FB.t (i := 5) (bs 19 63) rfl (SP.nil ⟨_, S219, (Inc.rfl _)⟩) rfl (fun w' hw' => (E.fieldAddr tf30_0 k209)) ?_
                    refine FB.t (i := 6) (bs 19 127) rfl (SP.nil ⟨_, S219, (Inc.rfl _)⟩) rfl (fun w' hw' => (E.load rfl (run_load1 Tryz.isAgg3 ((at28.mono (((((i36.tr i117).tr i130).tr i158).tr i174).tr i188)).now hw'.sl) rfl))) ?_
                    refine FB.t (i := 7) (bs 19 255) rfl (SP.nil ⟨_, S219, (Inc.rfl _)⟩) rfl (fun w' hw' => (E.move k212)) ?_
                    refine FB.t (i := 8) (bs 19 511) rfl (SP.nil ⟨_, S219, (Inc.rfl _)⟩) rfl (fun w' hw' => (E.move k213)) ?_
                    obtain ⟨p220, cs221, pt222, l223, at224, rel225, hall228⟩ := S219.row_atA (i := 0) rfl els152 (by decide) hx227
                    obtain ⟨v229, rfl, h230⟩ := eL_open rel225
                    refine FB.t (i := 9) (bs 19 1023) rfl (SP.nil ⟨_, S219, (Inc.rfl _)⟩) rfl (fun w' hw' => (E.indexAddr te121 rfl rfl pt222)) ?_
                    refine FB.t (i := 10) (bs 19 2047) rfl (SP.nil ⟨_, S219, (Inc.rfl _)⟩) rfl (fun w' hw' => (E.load rfl (run_load0 Tryz.isAgg124 (hw'.use fun _ st => hall228 _ _ _ 0 st rfl) rfl))) ?_
                    refine FB.t (i := 11) (bs 19 4095) rfl (SP.nil ⟨_, S219, (Inc.rfl _)⟩) rfl (fun w' hw' => (E.move k214)) ?_
                    refine FB.all1 (i := 12) (by kernel_rfl) ?_
                    ·
                      refine FC.call (l' := (bs 19 8191)) rfl (by kernel_rfl) rfl rfl rfl (E.call Tryz.call134 (A4 rfl rfl rfl rfl)) (w_spec_l20Times S219.sl a0 a1.vars v229 x226 (h230.mono ((i158.tr i174).tr i188)) s169.2.2 hr232) ?_
                      rintro e w234 ⟨H233, v237, n238, cs239, rfl, r236, els240⟩
                      refine ⟨_, rfl, ?_⟩
                      have els240 := els240.mono (up_le S219.size)
                      have S235 := S219.join (l' := [.row 179 2 v237 n238 cs239, .row 124 1 v146 n147 cs148]) r236 rfl
                      refine ⟨(SP.nil ⟨_, (S235.sel [1] (by decide) rfl), r236.run.inc⟩), ?_⟩
                      refine FB.all1 (i := 13) (by kernel_rfl) ?_
                      ·
                        obtain ⟨H241, S242, i243, h244, nv245⟩ := S235.sealRowU (i := 0) (l' := [.row 124 1 v146 n147 cs148]) rfl els240 (by decide) rfl
                        refine FC.call (l' := (bs 19 16383)) rfl (by kernel_rfl) rfl rfl rfl (E.call Tryz.call132 (A4 rfl rfl rfl rfl)) (w_spec_l20Put S242.sl a0 a1.vars v170 s169.1 (h171.mono ((i188.tr r236.run.inc).tr i243)) v237 r231 (h244.mono upI) hr247) ?_
                        rintro e w249 ⟨H248, v252, rfl, r251, h253⟩
                        refine ⟨_, rfl, ?_⟩
                        have S250 := S242.call r251
                        refine ⟨(SP.nil ⟨_, S250, ((r236.run.inc.tr i243).tr r251.inc)⟩), ?_⟩
                        refine FB.t (i := 14) (bs 19 32767) rfl (SP.nil ⟨_, S250, ((r236.run.inc.tr i243).tr r251.inc)⟩) rfl (fun w' hw' => (E.move (v := Value.tuple #[v252, Value.bool r246.2]) rfl)) ?_
                        refine FB.t (i := 15) (bs 19 65535) rfl (SP.nil ⟨_, S250, ((r236.run.inc.tr i243).tr r251.inc)⟩) rfl (fun w' hw' => (E.extract (i := 0) rfl rfl)) ?_
                        refine FB.t (i := 16) (bs 19 131071) rfl (SP.nil ⟨_, S250, ((r236.run.inc.tr i243).tr r251.inc)⟩) rfl (fun w' hw' => (E.extract (i := 1) rfl rfl)) ?_
                        refine FB.t (i := 17) (bs 19 262143) rfl (SP.nil ⟨_, S250, ((r236.run.inc.tr i243).tr r251.inc)⟩) rfl (fun w' hw' => (E.assign (v := v252) rfl)) ?_
                        refine FB.t (i := 18) (bs 19 524287) rfl (SP.nil ⟨_, S250, ((r236.run.inc.tr i243).tr r251.inc)⟩) rfl (fun w' hw' => (E.assign (v := Value.bool r246.2) rfl)) ?_
                        exact FB.done (by kernel_rfl) ⟨_, _, S250, ((r236.run.inc.tr i243).tr r251.inc), h253, k207, k208, k209, k211, k212, k213, k214, rfl, rfl⟩
                  ·
                    rintro f260 w259 ⟨H256, v254, S257, i258, h255, k261, k262, k263, k264, k265, k266, k267, k268, k269⟩
                    refine FW.seq (FW.region ?_)
                    refine FL.v (E.move k268) ?_
                    refine FL.v (E.assign (v := v254) rfl) ?_
                    refine FL.nil (FW.region ?_)
                    refine FL.v (E.move k264) ?_
                    refine FL.v (E.move (v := Value.bool s169.2.1) rfl) ?_
                    refine FL.cut 2 (fun f w => ∃ H : GH, St Ha wa H w [.row 124 1 v146 n147 cs148] ∧ Inc H256 H ∧ f 0 = Value.int .i64 a0 ∧ f 2 = Value.int .i64 a2 ∧ f 4 = Value.pointer (some ⟨b21, 0, none⟩) ∧ f 7 = v254 ∧ f 10 = v146 ∧ f 11 = Value.int .i64 s153.2.2 ∧ f 12 = Value.int .i64 s169.2.2 ∧ f 94 = Value.bool (bif s169.2.1 then true else r246.2)) ?_ ?_
                    ·
                      rcases bcase s169.2.1 with c275 | c275
                      ·
                        refine FL.skip (wF_no rfl rfl rfl c275) rfl ?_
                        refine FL.v (E.pickT rfl c275 rfl) ?_
                        exact FL.nil ⟨rfl, _, S257, (Inc.rfl _), k261, k262, k263, rfl, k265, k266, k267, (congrArg Value.bool (bifT c275).symm)⟩
                      ·
                        refine FL.val (wF_yes rfl rfl rfl c275) rfl rfl (E.move k269) ?_
                        refine FL.v (E.pickF rfl c275 rfl) ?_
                        exact FL.nil ⟨rfl, _, S257, (Inc.rfl _), k261, k262, k263, rfl, k265, k266, k267, (congrArg Value.bool (bifF c275).symm)⟩
                    rintro f274 w273 ⟨H270, S271, i272, k276, k277, k278, k279, k280, k281, k282, k283⟩
                    refine FL.v (E.assign k283) ?_
                    refine FL.nil (FW.region ?_)
                    refine FL.v (E.move k282) ?_
                    refine FL.v (E.add rfl rfl) ?_
                    refine FL.v (E.assign (v := Value.int .i64 (wr (s169.2.2 + 1))) rfl) ?_
                    refine FL.nil ?_
                    obtain rfl := Option.some.inj hp
                    exact ⟨rfl, ⟨_, _, S271, (((i174.tr i188).tr i258).tr i272), (h255.mono i272), k276, k277, k278, k279, rfl, k280, k281, rfl⟩⟩
                ·
                  refine FW.condF k215 c216 ?_
                  refine FW.exit ?_
                  obtain rfl := Option.some.inj hp
                  exact ⟨nofun, rfl, ⟨_, _, S187, (i174.tr i188), (h171.mono i188), k207, k208, k209, k210, k211, k212, k213⟩⟩
              ·
                clear hq
                intro e f289 w288 hD
                rcases q169 with s169 | x169
                ·
                  obtain ⟨rfl, hD⟩ := hD
                  obtain ⟨H285, v170, S286, i287, h171, k290, k291, k292, k293, k294, k295, k296⟩ := hD
                  replace hp := el_go hp
                  refine FW.region ?_
                  refine FL.v (E.move k296) ?_
                  refine FL.v (E.add rfl rfl) ?_
                  refine FL.v (E.assign (v := Value.int .i64 (wr (s153.2.2 + 1))) rfl) ?_
                  refine FL.nil ?_
                  obtain rfl := Option.some.inj hp
                  exact ⟨rfl, ⟨_, _, S286, (i158.tr i287), h171, k290, k291, k292, k293, k294, k295, rfl⟩⟩
                · exact x169.elim
            ·
              refine FW.condF rfl c168 ?_
              refine FW.exit ?_
              obtain rfl := Option.some.inj hp
              exact ⟨nofun, rfl, ⟨_, _, S157, i158, h155, k161, k162, k163, k164, k165⟩⟩
          ·
            clear hq
            intro e f302 w301 hD
            rcases q153 with s153 | x153
            ·
              obtain ⟨rfl, hD⟩ := hD
              obtain ⟨H298, v154, S299, i300, h155, k303, k304, k305, k306, k307⟩ := hD
              replace hp := el_go hp
              obtain rfl := Option.some.inj hp
              exact ⟨rfl, ⟨_, _, (S299.sel [] (by decide) rfl), (i130.tr i300), h155, k303, k304, k305, k306, k307⟩⟩
            · exact x153.elim
        ·
          refine FW.condF rfl c138 ?_
          refine FW.exit ?_
          obtain rfl := Option.some.inj hp
          exact ⟨nofun, rfl, ⟨_, _, S129, i130, h127, k136⟩⟩
      ·
        clear hq
        intro e f313 w312 hD
        rcases q125 with s125 | x125
        ·
          obtain ⟨rfl, hD⟩ := hD
          obtain ⟨H309, v126, S310, i311, h127, k314⟩ := hD
          replace hp := el_go hp
          refine FW.seq (FW.region ?_)
          refine FL.v (E.move k314) ?_
          refine FL.v (E.assign (v := v126) rfl) ?_
          refine FL.nil ?_
          refine FW.ret ?_
          obtain rfl := Option.some.inj hp
          exact ⟨.inr rfl, res1 rfl rfl ⟨_, _, rfl, S310.run, h127⟩⟩
        · exact x125.elim
    · exact x40.elim

theorem w_spec_l21Power {Ha : GH} {wa : World} (hs : Sl Ha wa) (a0 : Int) {r : Int} (hp : (PF.spec_l21Power a0) = some r) :
    Calls Tryz.prog 80 #[Value.int .i64 a0] wa (Sc Ha wa (Value.int .i64 r)) := by
  unfold PF.spec_l21Power at hp
  have S0 := St.init hs
  refine calls_go (N := 11) (args := [Value.int .i64 a0]) Tryz.func80 rfl rfl rfl ?_
  refine FW.seq (FW.region ?_)
  refine FL.v (E.assign (v := Value.int .i64 0) rfl) ?_
  refine FL.nil (FW.seq (FW.region ?_))
  refine FL.v (E.assign (v := Value.int .i64 1) rfl) ?_
  refine FL.nil (FW.seq ?_)
  obtain ⟨q21, hq, hp⟩ := bndR hp
  refine FW.block ?_
  refine FW.mono (FW.iter (S := (Int × Int)) (X := Empty) (fun (s21 : (Int × Int)) f w => ∃ H : GH, St Ha wa H w [] ∧ Inc Ha H ∧ f 0 = Value.int .i64 s21.1 ∧ f 3 = Value.int .i64 s21.2) (fun (q : Rs (Int × Int) Empty) e f w => match q with | .go s21 => e = Exit.exit 0 ∧ (∃ H : GH, St Ha wa H w [] ∧ Inc Ha H ∧ f 3 = Value.int .i64 s21.2) | .rt x => x.elim) hq ⟨_, S0, (Inc.rfl _), rfl, rfl⟩ ?_) ?_
  ·
    clear hp hq
    rintro s21 f34 w33 ⟨H30, S31, i32, k35, k36⟩ o38 hp
    refine FW.seq (FW.seq (FW.region ?_))
    refine FL.v (E.move k35) ?_
    refine FL.v (E.gtr rfl rfl) ?_
    refine FL.nil ?_
    rcases ifB hp with ⟨c37, hp⟩ | ⟨c37, hp⟩
    ·
      refine FW.condT rfl c37 ?_
      refine FW.skip (FW.seq (FW.block (FW.region ?_)))
      refine FL.v (E.move k36) ?_
      refine FL.v (E.mul rfl rfl) ?_
      refine FL.v (E.assign (v := Value.int .i64 (wr (s21.2 * 3))) rfl) ?_
      refine FL.nil (FW.region ?_)
      refine FL.v (E.move k35) ?_
      refine FL.v (E.sub rfl rfl) ?_
      refine FL.v (E.assign (v := Value.int .i64 (wr (s21.1 - 1))) rfl) ?_
      refine FL.nil ?_
      obtain rfl := Option.some.inj hp
      exact ⟨rfl, ⟨_, S31, i32, rfl, rfl⟩⟩
    ·
      refine FW.condF rfl c37 ?_
      refine FW.exit ?_
      obtain rfl := Option.some.inj hp
      exact ⟨nofun, rfl, ⟨_, S31, i32, k36⟩⟩
  ·
    clear hq
    intro e f43 w42 hD
    rcases q21 with s21 | x21
    ·
      obtain ⟨rfl, hD⟩ := hD
      obtain ⟨H39, S40, i41, k44⟩ := hD
      replace hp := el_go hp
      refine FW.seq (FW.region ?_)
      refine FL.v (E.move k44) ?_
      refine FL.v (E.assign (v := Value.int .i64 s21.2) rfl) ?_
      refine FL.nil ?_
      refine FW.ret ?_
      obtain rfl := Option.some.inj hp
      exact ⟨.inr rfl, res1 rfl rfl ⟨rfl, S40.back⟩⟩
    · exact x21.elim

theorem w_spec_l2Key {Ha : GH} {wa : World} (hs : Sl Ha wa) (a0 : Int) :
  Calls Tryz.prog 212 #[Value.int .i64 a0] wa (Sc Ha wa (Value.int .i64 (PF.spec_l2Key a0))) := by
 obtain ⟨r, hp⟩ : ∃ r, (PF.spec_l2Key a0) = r := ⟨_, rfl⟩
 rw [hp]
 unfold PF.spec_l2Key at hp
 have S0 := St.init hs
 refine calls_go (N := 10) (args := [Value.int .i64 a0]) Tryz.func212 rfl rfl rfl ?_
 refine FW.seq (FW.region ?_)
 refine FL.v (E.assign (v := Value.int .i64 0) rfl) ?_
 refine FL.nil (FW.seq (FW.seq (FW.region ?_)))
 refine FL.v (E.move (v := Value.int .i64 a0) rfl) ?_
 refine FL.v (E.lss rfl rfl) ?_
 refine FL.nil ?_
 rcases ifT hp with ⟨c21, hp⟩ | ⟨c21, hp⟩
 ·
  refine FW.condT rfl c21 ?_
  refine FW.seq (FW.region ?_)
  refine FL.v (E.move (v := Value.int .i64 a0) rfl) ?_
  refine FL.v (E.mul rfl rfl) ?_
  refine FL.v (E.add rfl rfl) ?_
  refine FL.v (E.assign (v := Value.int .i64 (wr ((wr ((-2) * a0)) + 1))) rfl) ?_
  refine FL.nil ?_
  refine FW.ret ?_
  obtain rfl := hp
  exact ⟨.inr rfl, res1 rfl rfl ⟨rfl, S0.back⟩⟩
 ·
  refine FW.condF rfl c21 ?_
  refine FW.skip (FW.seq (FW.region ?_))
  refine FL.v (E.move (v := Value.int .i64 a0) rfl) ?_
  refine FL.v (E.mul rfl rfl) ?_
  refine FL.v (E.assign (v := Value.int .i64 (wr (2 * a0))) rfl) ?_
  refine FL.nil ?_
  refine FW.ret ?_
  obtain rfl := hp
  exact ⟨.inr rfl, res1 rfl rfl ⟨rfl, S0.back⟩⟩

theorem w_spec_l2Before {Ha : GH} {wa : World} (hs : Sl Ha wa) (v0 : Value) (a0 : List Int) (p0 : RSl Ha eI 1 v0 a0) (v1 : Value) (a1 : List Int) (p1 : RSl Ha eI 1 v1 a1) {r : Bool} (hp : (PF.spec_l2Before a0 a1) = some r) :
  Calls Tryz.prog 169 #[v0, v1] wa (Sc Ha wa (Value.bool r)) := by
 unfold PF.spec_l2Before at hp
 have S0 := St.init hs
 refine calls_go (N := 42) (args := [v0, v1]) Tryz.func169 rfl rfl rfl ?_
 refine FW.seq (FW.region ?_)
 refine FL.v (E.assign (v := Value.bool false) rfl) ?_
 refine FL.nil (FW.seq (FW.seq (FW.region ?_)))
 refine FL.v (E.move (v := v0) rfl) ?_
 refine FL.v (E.lenP te84 rfl p0) ?_
 refine FL.v (E.move (v := v1) rfl) ?_
 refine FL.v (E.lenP te84 rfl p1) ?_
 refine FL.v (E.neq rfl rfl) ?_
 refine FL.nil ?_
 rcases ifB hp with ⟨c21, hp⟩ | ⟨c21, hp⟩
 ·
  refine FW.condT rfl c21 ?_
  refine FW.seq (FW.region ?_)
  refine FL.v (E.move (v := v0) rfl) ?_
  refine FL.v (E.lenP te84 rfl p0) ?_
  refine FL.v (E.move (v := v1) rfl) ?_
  refine FL.v (E.lenP te84 rfl p1) ?_
  refine FL.v (E.lss rfl rfl) ?_
  refine FL.v (E.assign (v := Value.bool (decide ((len a0) < (len a1)))) rfl) ?_
  refine FL.nil ?_
  refine FW.ret ?_
  obtain rfl := Option.some.inj hp
  exact ⟨.inr rfl, res1 rfl rfl ⟨rfl, S0.back⟩⟩
 ·
  refine FW.condF rfl c21 ?_
  refine FW.skip (FW.seq (FW.seq (FW.region ?_)))
  refine FL.v (E.assign (v := Value.int .i64 0) rfl) ?_
  refine FL.nil ?_
  obtain ⟨q23, hq, hp⟩ := bndR hp
  refine FW.block ?_
  refine FW.mono (FW.forL (S := Unit) (X := Bool) (fun (i23 : Nat) (s23 : Unit) f w => ∃ H : GH, St Ha wa H w [] ∧ Inc Ha H ∧ f 5 = Value.int .i64 ((i23 : Nat) : Int) ∧ f 0 = v0 ∧ f 1 = v1) (fun q e f w => match q with | .go s23 => e = Exit.exit 0 ∧ (∃ H : GH, St Ha wa H w [] ∧ Inc Ha H) | .rt x => ((e = Exit.ret) ∧ (fun e f w => (e = Exit.normal ∨ e = Exit.ret) ∧ ∀ a, Fr (δ := []) 42 a f → ∃ v, (results Tryz.f169 a.tmps).run Tryz.prog w = .ok v w ∧ (Sc Ha wa (Value.bool x)) (.returned v) w) e f w)) hq ⟨_, S0, (Inc.rfl _), rfl, rfl, rfl⟩ ?_ ?_) ?_
  ·
   clear hp hq
   rintro i23 y22 s23 f73 w72 ⟨H69, S70, i71, k74, k75, k76⟩ hx23 o114 hp
   refine FW.seq (FW.seq (FW.region ?_))
   refine FL.v (E.move k74) ?_
   refine FL.v (E.move k75) ?_
   refine FL.v (E.lenP te84 rfl p0) ?_
   refine FL.v (E.lssT rfl rfl (lss_len hx23)) ?_
   refine FL.nil ?_
   refine FW.condT rfl rfl ?_
   refine FW.skip (FW.seq (FW.block (FW.seq ?_)))
   refine FW.draw (fun w' => Run w72.heap.size H69 w72 H69 w') (by kernel_rfl) (by kernel_rfl) (run_drew S70.sl) ?_
   refine FD.val rfl rfl rfl (fun w' hw' => (E.move k75)) ?_
   refine FD.val rfl rfl rfl (fun w' hw' => (E.move k74)) ?_
   obtain ⟨p78, cs79, pt80, l81, at82, rel83⟩ := p0.at (ix_nat hx23)
   obtain rfl := eI_open rel83
   refine FD.val rfl rfl rfl (fun w' hw' => (E.indexAddr te84 rfl rfl pt80)) ?_
   refine FD.val rfl rfl rfl (fun w' hw' => (E.load rfl (run_load0 Tryz.isAgg3 ((at82.mono i71).now (S70.call hw').sl) rfl))) ?_
   refine FD.val rfl rfl rfl (fun w' hw' => (E.move k76)) ?_
   refine FD.val rfl rfl rfl (fun w' hw' => (E.move k74)) ?_
   obtain ⟨x90, hx91, hp⟩ := bnd hp
   obtain ⟨p84, cs85, pt86, l87, at88, rel89⟩ := p1.at hx91
   obtain rfl := eI_open rel89
   refine FD.val rfl rfl rfl (fun w' hw' => (E.indexAddr te84 rfl rfl pt86)) ?_
   refine FD.val rfl rfl rfl (fun w' hw' => (E.load rfl (run_load0 Tryz.isAgg3 ((at88.mono i71).now (S70.call hw').sl) rfl))) ?_
   refine FD.val rfl rfl rfl (fun w' hw' => (E.neq rfl rfl)) ?_
   refine FD.nil ?_
   intro w92 r94
   have S93 := S70.call r94
   rcases ifB hp with ⟨c95, hp⟩ | ⟨c95, hp⟩
   ·
    refine FW.condT rfl c95 ?_
    refine FW.seq ?_
    refine FW.draw (fun w' => Run w92.heap.size H69 w92 H69 w') (by kernel_rfl) (by kernel_rfl) (run_drew S93.sl) ?_
    refine FD.val rfl rfl rfl (fun w' hw' => (E.move k75)) ?_
    refine FD.val rfl rfl rfl (fun w' hw' => (E.move k74)) ?_
    obtain ⟨p97, cs98, pt99, l100, at101, rel102⟩ := p0.at (ix_nat hx23)
    obtain rfl := eI_open rel102
    refine FD.val rfl rfl rfl (fun w' hw' => (E.indexAddr te84 rfl rfl pt99)) ?_
    refine FD.val rfl rfl rfl (fun w' hw' => (E.load rfl (run_load0 Tryz.isAgg3 ((at101.mono i71).now (S93.call hw').sl) rfl))) ?_
    refine FD.call rfl rfl rfl (fun w' hw' => (E.call Tryz.call212 (A1 rfl))) (fun w' hw' => Calls.cls hw' (w_spec_l2Key (S93.call hw').sl y22)) ?_
    refine FD.val rfl rfl rfl (fun w' hw' => (E.move k76)) ?_
    refine FD.val rfl rfl rfl (fun w' hw' => (E.move k74)) ?_
    obtain ⟨x109, hx110, hp⟩ := bnd hp
    obtain ⟨p103, cs104, pt105, l106, at107, rel108⟩ := p1.at hx110
    obtain rfl := eI_open rel108
    refine FD.val rfl rfl rfl (fun w' hw' => (E.indexAddr te84 rfl rfl pt105)) ?_
    refine FD.val rfl rfl rfl (fun w' hw' => (E.load rfl (run_load0 Tryz.isAgg3 ((at107.mono i71).now (S93.call hw').sl) rfl))) ?_
    refine FD.call rfl rfl rfl (fun w' hw' => (E.call Tryz.call212 (A1 rfl))) (fun w' hw' => Calls.cls hw' (w_spec_l2Key (S93.call hw').sl x109)) ?_
    refine FD.val rfl rfl rfl (fun w' hw' => (E.lss rfl rfl)) ?_
    refine FD.val rfl rfl rfl (fun w' hw' => (E.assign (v := Value.bool (decide ((PF.spec_l2Key y22) < (PF.spec_l2Key x109)))) rfl)) ?_
    refine FD.nil ?_
    intro w111 r113
    have S112 := S93.call r113
    refine FW.ret ?_
    obtain rfl := Option.some.inj hp
    exact ⟨nofun, rfl, ⟨.inr rfl, res1 rfl rfl ⟨rfl, S112.back⟩⟩⟩
   ·
    refine FW.condF rfl c95 ?_
    refine FW.skip (FW.region ?_)
    refine FL.v (E.move k74) ?_
    refine FL.v (E.add rfl rfl) ?_
    refine FL.v (E.assign (v := Value.int .i64 (wr (((i23 : Nat) : Int) + 1))) rfl) ?_
    refine FL.nil ?_
    obtain rfl := Option.some.inj hp
    exact ⟨rfl, ⟨_, S93, i71, (nat_succ rfl (lt_of_get hx23) (p0.mono i71).le), k75, k76⟩⟩
  ·
   clear hp hq
   rintro s23 f124 w123 ⟨H120, S121, i122, k125, k126, k127⟩
   refine FW.seq (FW.seq (FW.region ?_))
   refine FL.v (E.move k125) ?_
   refine FL.v (E.move k126) ?_
   refine FL.v (E.lenP te84 rfl p0) ?_
   refine FL.v (E.lss rfl rfl) ?_
   refine FL.nil ?_
   refine FW.condF rfl dlt_len ?_
   refine FW.exit ?_
   exact ⟨nofun, rfl, ⟨_, S121, i122⟩⟩
  ·
   clear hq
   intro e f119 w118 hD
   rcases q23 with s23 | x23
   ·
    obtain ⟨rfl, hD⟩ := hD
    obtain ⟨H115, S116, i117⟩ := hD
    replace hp := el_go hp
    refine FW.seq (FW.region ?_)
    refine FL.v (E.assign (v := Value.bool false) rfl) ?_
    refine FL.nil ?_
    refine FW.ret ?_
    obtain rfl := Option.some.inj hp
    exact ⟨.inr rfl, res1 rfl rfl ⟨rfl, S116.back⟩⟩
   ·
    obtain ⟨he, hL⟩ := hD
    replace hp := el_rt hp
    obtain rfl := Option.some.inj hp
    subst he
    exact hL

theorem w_spec_l2Place {Ha : GH} {wa : World} (hs : Sl Ha wa) (v0 : Value) (a0 : List (List Int)) (p0 : RSl Ha (eL eI 1) 1 v0 a0) (v1 : Value) (a1 : List Int) (p1 : RSl Ha eI 1 v1 a1) {r : Int} (hp : (PF.spec_l2Place a0 a1) = some r) :
    Calls Tryz.prog 106 #[v0, v1] wa (Sc Ha wa (Value.int .i64 r)) := by
  unfold PF.spec_l2Place at hp
  have S0 := St.init hs
  refine calls_go (N := 27) (args := [v0, v1]) Tryz.func106 rfl rfl rfl ?_
  refine FW.seq (FW.region ?_)
  refine FL.v (E.assign (v := Value.int .i64 0) rfl) ?_
  refine FL.nil (FW.seq (FW.region ?_))
  refine FL.v (E.move (v := v0) rfl) ?_
  refine FL.v (E.lenP te22 rfl p0) ?_
  refine FL.v (E.assign (v := Value.int .i64 0) rfl) ?_
  refine FL.v (E.assign (v := Value.int .i64 (len a0)) rfl) ?_
  refine FL.nil (FW.seq ?_)
  obtain ⟨q21, hq, hp⟩ := bndR hp
  refine FW.block ?_
  refine FW.mono (FW.iter (S := (Int × Int)) (X := Empty) (fun (s21 : (Int × Int)) f w => ∃ H : GH, St Ha wa H w [] ∧ Inc Ha H ∧ f 0 = v0 ∧ f 1 = v1 ∧ f 5 = Value.int .i64 s21.1 ∧ f 6 = Value.int .i64 s21.2) (fun (q : Rs (Int × Int) Empty) e f w => match q with | .go s21 => e = Exit.exit 0 ∧ (∃ H : GH, St Ha wa H w [] ∧ Inc Ha H ∧ f 5 = Value.int .i64 s21.1) | .rt x => x.elim) hq ⟨_, S0, (Inc.rfl _), rfl, rfl, rfl, rfl⟩ ?_) ?_
  ·
    clear hp hq
    rintro s21 f52 w51 ⟨H48, S49, i50, k53, k54, k55, k56⟩ o74 hp
    refine FW.seq (FW.seq (FW.region ?_))
    refine FL.v (E.move k55) ?_
    refine FL.v (E.move k56) ?_
    refine FL.v (E.lss rfl rfl) ?_
    refine FL.nil ?_
    rcases ifB hp with ⟨c57, hp⟩ | ⟨c57, hp⟩
    ·
      refine FW.condT rfl c57 ?_
      refine FW.skip (FW.block (FW.seq (FW.region ?_)))
      refine FL.v (E.move k55) ?_
      refine FL.v (E.move k56) ?_
      refine FL.v (E.add rfl rfl) ?_
      refine FL.v (E.quo rfl rfl (by decide)) ?_
      refine FL.v (E.assign (v := Value.int .i64 (wr ((wr (s21.1 + s21.2)).tdiv 2))) rfl) ?_
      refine FL.nil (FW.seq (FW.region ?_))
      refine FL.v (E.move k53) ?_
      refine FL.v (E.move (v := Value.int .i64 (wr ((wr (s21.1 + s21.2)).tdiv 2))) rfl) ?_
      obtain ⟨x64, hx65, hp⟩ := bnd hp
      obtain ⟨p58, cs59, pt60, l61, at62, rel63⟩ := p0.at hx65
      obtain ⟨v66, rfl, h67⟩ := eL_open rel63
      refine FL.v (E.indexAddr te22 rfl rfl pt60) ?_
      refine FL.v (E.load rfl (run_load0 Tryz.isAgg84 ((at62.mono i50).now S49.sl) rfl)) ?_
      refine FL.v (E.move k54) ?_
      obtain ⟨r68, hr69, hp⟩ := bnd hp
      refine FL.call rfl rfl rfl (E.call Tryz.call169 (A2 rfl rfl)) (w_spec_l2Before S49.sl v66 x64 (h67.mono i50) v1 a1 (p1.mono i50) hr69) ?_
      rintro e w70 ⟨rfl, r71⟩
      refine ⟨_, rfl, ?_⟩
      have S72 := S49.call r71
      refine FL.nil ?_
      rcases ifB hp with ⟨c73, hp⟩ | ⟨c73, hp⟩
      ·
        refine FW.condT rfl c73 ?_
        refine FW.region ?_
        refine FL.v (E.move (v := Value.int .i64 (wr ((wr (s21.1 + s21.2)).tdiv 2))) rfl) ?_
        refine FL.v (E.add rfl rfl) ?_
        refine FL.v (E.assign (v := Value.int .i64 (wr ((wr ((wr (s21.1 + s21.2)).tdiv 2)) + 1))) rfl) ?_
        refine FL.nil ?_
        obtain rfl := Option.some.inj hp
        exact ⟨rfl, ⟨_, S72, i50, k53, k54, rfl, k56⟩⟩
      ·
        refine FW.condF rfl c73 ?_
        refine FW.region ?_
        refine FL.v (E.move (v := Value.int .i64 (wr ((wr (s21.1 + s21.2)).tdiv 2))) rfl) ?_
        refine FL.v (E.assign (v := Value.int .i64 (wr ((wr (s21.1 + s21.2)).tdiv 2))) rfl) ?_
        refine FL.nil ?_
        obtain rfl := Option.some.inj hp
        exact ⟨rfl, ⟨_, S72, i50, k53, k54, k55, rfl⟩⟩
    ·
      refine FW.condF rfl c57 ?_
      refine FW.exit ?_
      obtain rfl := Option.some.inj hp
      exact ⟨nofun, rfl, ⟨_, S49, i50, k55⟩⟩
  ·
    clear hq
    intro e f79 w78 hD
    rcases q21 with s21 | x21
    ·
      obtain ⟨rfl, hD⟩ := hD
      obtain ⟨H75, S76, i77, k80⟩ := hD
      replace hp := el_go hp
      refine FW.seq (FW.region ?_)
      refine FL.v (E.move k80) ?_
      refine FL.v (E.assign (v := Value.int .i64 s21.1) rfl) ?_
      refine FL.nil ?_
      refine FW.ret ?_
      obtain rfl := Option.some.inj hp
      exact ⟨.inr rfl, res1 rfl rfl ⟨rfl, S76.back⟩⟩
    · exact x21.elim

theorem w_spec_l1Same {Ha : GH} {wa : World} (hs : Sl Ha wa) (v0 : Value) (a0 : List Int) (p0 : RSl Ha eI 1 v0 a0) (v1 : Value) (a1 : List Int) (p1 : RSl Ha eI 1 v1 a1) {r : Bool} (hp : (PF.spec_l1Same a0 a1) = some r) :
  Calls Tryz.prog 107 #[v0, v1] wa (Sc Ha wa (Value.bool r)) := by
 unfold PF.spec_l1Same at hp
 have S0 := St.init hs
 refine calls_go (N := 26) (args := [v0, v1]) Tryz.func107 rfl rfl rfl ?_
 refine FW.seq (FW.region ?_)
 refine FL.v (E.assign (v := Value.bool false) rfl) ?_
 refine FL.nil (FW.seq (FW.seq (FW.region ?_)))
 refine FL.v (E.move (v := v0) rfl) ?_
 refine FL.v (E.lenP te84 rfl p0) ?_
 refine FL.v (E.move (v := v1) rfl) ?_
 refine FL.v (E.lenP te84 rfl p1) ?_
 refine FL.v (E.neq rfl rfl) ?_
 refine FL.nil ?_
 rcases ifB hp with ⟨c21, hp⟩ | ⟨c21, hp⟩
 ·
  refine FW.condT rfl c21 ?_
  refine FW.seq (FW.region ?_)
  refine FL.v (E.assign (v := Value.bool false) rfl) ?_
  refine FL.nil ?_
  refine FW.ret ?_
  obtain rfl := Option.some.inj hp
  exact ⟨.inr rfl, res1 rfl rfl ⟨rfl, S0.back⟩⟩
 ·
  refine FW.condF rfl c21 ?_
  refine FW.skip (FW.seq (FW.seq (FW.region ?_)))
  refine FL.v (E.assign (v := Value.int .i64 0) rfl) ?_
  refine FL.nil ?_
  obtain ⟨q23, hq, hp⟩ := bndR hp
  refine FW.block ?_
  refine FW.mono (FW.forL (S := Unit) (X := Bool) (fun (i23 : Nat) (s23 : Unit) f w => ∃ H : GH, St Ha wa H w [] ∧ Inc Ha H ∧ f 5 = Value.int .i64 ((i23 : Nat) : Int) ∧ f 0 = v0 ∧ f 1 = v1) (fun q e f w => match q with | .go s23 => e = Exit.exit 0 ∧ (∃ H : GH, St Ha wa H w [] ∧ Inc Ha H) | .rt x => ((e = Exit.ret) ∧ (fun e f w => (e = Exit.normal ∨ e = Exit.ret) ∧ ∀ a, Fr (δ := []) 26 a f → ∃ v, (results Tryz.f107 a.tmps).run Tryz.prog w = .ok v w ∧ (Sc Ha wa (Value.bool x)) (.returned v) w) e f w)) hq ⟨_, S0, (Inc.rfl _), rfl, rfl, rfl⟩ ?_ ?_) ?_
  ·
   clear hp hq
   rintro i23 y22 s23 f55 w54 ⟨H51, S52, i53, k56, k57, k58⟩ hx23 o78 hp
   refine FW.seq (FW.seq (FW.region ?_))
   refine FL.v (E.move k56) ?_
   refine FL.v (E.move k57) ?_
   refine FL.v (E.lenP te84 rfl p0) ?_
   refine FL.v (E.lssT rfl rfl (lss_len hx23)) ?_
   refine FL.nil ?_
   refine FW.condT rfl rfl ?_
   refine FW.skip (FW.seq (FW.block (FW.seq ?_)))
   refine FW.draw (fun w' => Run w54.heap.size H51 w54 H51 w') (by kernel_rfl) (by kernel_rfl) (run_drew S52.sl) ?_
   refine FD.val rfl rfl rfl (fun w' hw' => (E.move k57)) ?_
   refine FD.val rfl rfl rfl (fun w' hw' => (E.move k56)) ?_
   obtain ⟨p60, cs61, pt62, l63, at64, rel65⟩ := p0.at (ix_nat hx23)
   obtain rfl := eI_open rel65
   refine FD.val rfl rfl rfl (fun w' hw' => (E.indexAddr te84 rfl rfl pt62)) ?_
   refine FD.val rfl rfl rfl (fun w' hw' => (E.load rfl (run_load0 Tryz.isAgg3 ((at64.mono i53).now (S52.call hw').sl) rfl))) ?_
   refine FD.val rfl rfl rfl (fun w' hw' => (E.move k58)) ?_
   refine FD.val rfl rfl rfl (fun w' hw' => (E.move k56)) ?_
   obtain ⟨x72, hx73, hp⟩ := bnd hp
   obtain ⟨p66, cs67, pt68, l69, at70, rel71⟩ := p1.at hx73
   obtain rfl := eI_open rel71
   refine FD.val rfl rfl rfl (fun w' hw' => (E.indexAddr te84 rfl rfl pt68)) ?_
   refine FD.val rfl rfl rfl (fun w' hw' => (E.load rfl (run_load0 Tryz.isAgg3 ((at70.mono i53).now (S52.call hw').sl) rfl))) ?_
   refine FD.val rfl rfl rfl (fun w' hw' => (E.neq rfl rfl)) ?_
   refine FD.nil ?_
   intro w74 r76
   have S75 := S52.call r76
   rcases ifB hp with ⟨c77, hp⟩ | ⟨c77, hp⟩
   ·
    refine FW.condT rfl c77 ?_
    refine FW.seq (FW.region ?_)
    refine FL.v (E.assign (v := Value.bool false) rfl) ?_
    refine FL.nil ?_
    refine FW.ret ?_
    obtain rfl := Option.some.inj hp
    exact ⟨nofun, rfl, ⟨.inr rfl, res1 rfl rfl ⟨rfl, S75.back⟩⟩⟩
   ·
    refine FW.condF rfl c77 ?_
    refine FW.skip (FW.region ?_)
    refine FL.v (E.move k56) ?_
    refine FL.v (E.add rfl rfl) ?_
    refine FL.v (E.assign (v := Value.int .i64 (wr (((i23 : Nat) : Int) + 1))) rfl) ?_
    refine FL.nil ?_
    obtain rfl := Option.some.inj hp
    exact ⟨rfl, ⟨_, S75, i53, (nat_succ rfl (lt_of_get hx23) (p0.mono i53).le), k57, k58⟩⟩
  ·
   clear hp hq
   rintro s23 f88 w87 ⟨H84, S85, i86, k89, k90, k91⟩
   refine FW.seq (FW.seq (FW.region ?_))
   refine FL.v (E.move k89) ?_
   refine FL.v (E.move k90) ?_
   refine FL.v (E.lenP te84 rfl p0) ?_
   refine FL.v (E.lss rfl rfl) ?_
   refine FL.nil ?_
   refine FW.condF rfl dlt_len ?_
   refine FW.exit ?_
   exact ⟨nofun, rfl, ⟨_, S85, i86⟩⟩
  ·
   clear hq
   intro e f83 w82 hD
   rcases q23 with s23 | x23
   ·
    obtain ⟨rfl, hD⟩ := hD
    obtain ⟨H79, S80, i81⟩ := hD
    replace hp := el_go hp
    refine FW.seq (FW.region ?_)
    refine FL.v (E.assign (v := Value.bool true) rfl) ?_
    refine FL.nil ?_
    refine FW.ret ?_
    obtain rfl := Option.some.inj hp
    exact ⟨.inr rfl, res1 rfl rfl ⟨rfl, S80.back⟩⟩
   ·
    obtain ⟨he, hL⟩ := hD
    replace hp := el_rt hp
    obtain rfl := Option.some.inj hp
    subst he
    exact hL

@[reducible] def p_spec_l2Insert (Ha : GH) (wa : World) (r : (List (List Int))) : Ending → World → Prop :=
 fun e w' => ∃ H' : GH, ∃ v0 : Value, e = .returned (v0) ∧ Run wa.heap.size Ha wa H' w' ∧ RSl H' (eL eI 1) 1 v0 r
theorem w_spec_l2Insert {Ha : GH} {wa : World} (hs : Sl Ha wa) (v0 : Value) (a0 : List (List Int)) (p0 : RSl Ha (eL eI 1) 1 v0 a0) (v1 : Value) (a1 : List Int) (p1 : RSl Ha eI 1 v1 a1) {r : (List (List Int))} (hp : (PF.spec_l2Insert a0 a1) = some r) :
  Calls Tryz.prog 59 #[v0, v1] wa (p_spec_l2Insert Ha wa r) := by
 unfold PF.spec_l2Insert at hp
 have S0 := St.init hs
 refine calls_go (N := 34) (args := [v0, v1]) Tryz.func59 rfl rfl rfl ?_
 refine FW.seq (FW.region ?_)
 refine FL.v (E.assign (v := Value.slice none 0 0) rfl) ?_
 refine FL.nil (FW.seq (FW.region ?_))
 refine FL.v (E.move (v := v0) rfl) ?_
 refine FL.v (E.move (v := v1) rfl) ?_
 obtain ⟨r21, hr22, hp⟩ := bnd hp
 refine FL.call rfl rfl rfl (E.call Tryz.call106 (A2 rfl rfl)) (w_spec_l2Place S0.sl v0 a0 p0 v1 a1 p1 hr22) ?_
 rintro e w23 ⟨rfl, r24⟩
 refine ⟨_, rfl, ?_⟩
 have S25 := S0.call r24
 refine FL.v (E.assign (v := Value.int .i64 r21) rfl) ?_
 refine FL.nil (FW.seq (FW.seq (FW.region ?_)))
 refine FL.v (E.move (v := Value.int .i64 r21) rfl) ?_
 refine FL.v (E.move (v := v0) rfl) ?_
 refine FL.v (E.lenP te22 rfl p0) ?_
 refine FL.v (E.lss rfl rfl) ?_
 refine FL.v (E.move (v := Value.bool (decide (r21 < (len a0)))) rfl) ?_
 obtain ⟨t41, hqt41, hp⟩ := bnd hp
 refine FL.cut 7 (fun f w => ∃ H : GH, St Ha wa H w [] ∧ Inc Ha H ∧ f 0 = v0 ∧ f 1 = v1 ∧ f 5 = Value.int .i64 r21 ∧ f 20 = Value.bool t41) ?_ ?_
 ·
  clear hp; have hp := hqt41; clear hqt41
  rcases ifB hp with ⟨c47, hp⟩ | ⟨c47, hp⟩
  ·
   refine FL.val (wF_yes rfl rfl rfl c47) rfl rfl (E.move (v := v0) rfl) ?_
   refine FL.val (wF_yes rfl rfl rfl c47) rfl rfl (E.move (v := Value.int .i64 r21) rfl) ?_
   obtain ⟨x54, hx55, hp⟩ := bnd hp
   obtain ⟨p48, cs49, pt50, l51, at52, rel53⟩ := p0.at hx55
   obtain ⟨v56, rfl, h57⟩ := eL_open rel53
   refine FL.val (wF_yes rfl rfl rfl c47) rfl rfl (E.indexAddr te22 rfl rfl pt50) ?_
   refine FL.val (wF_yes rfl rfl rfl c47) rfl rfl (E.load rfl (run_load0 Tryz.isAgg84 (at52.now S25.sl) rfl)) ?_
   refine FL.val (wF_yes rfl rfl rfl c47) rfl rfl (E.move (v := v1) rfl) ?_
   obtain ⟨r58, hr59, hp⟩ := bnd hp
   refine FL.call (wF_yes rfl rfl rfl c47) rfl rfl (E.call Tryz.call107 (A2 rfl rfl)) (w_spec_l1Same S25.sl v56 x54 h57 v1 a1 p1 hr59) ?_
   rintro e w60 ⟨rfl, r61⟩
   refine ⟨_, rfl, ?_⟩
   have S62 := S25.call r61
   obtain rfl := Option.some.inj hp
   refine FL.v (E.pickT rfl c47 rfl) ?_
   exact FL.nil ⟨rfl, _, S62, (Inc.rfl _), rfl, rfl, rfl, rfl⟩
  ·
   refine FL.skip (wF_no rfl rfl rfl c47) rfl ?_
   refine FL.skip (wF_no rfl rfl rfl c47) rfl ?_
   refine FL.skip (wF_no rfl rfl rfl c47) rfl ?_
   refine FL.skip (wF_no rfl rfl rfl c47) rfl ?_
   refine FL.skip (wF_no rfl rfl rfl c47) rfl ?_
   refine FL.skip (wF_no rfl rfl rfl c47) rfl ?_
   obtain rfl := Option.some.inj hp
   refine FL.v (E.pickF rfl c47 rfl) ?_
   exact FL.nil ⟨rfl, _, S25, (Inc.rfl _), rfl, rfl, rfl, rfl⟩
 rintro f46 w45 ⟨H42, S43, i44, k63, k64, k65, k66⟩
 refine FL.nil ?_
 rcases ifB hp with ⟨c67, hp⟩ | ⟨c67, hp⟩
 ·
  refine FW.condT k66 c67 ?_
  refine FW.seq (FW.region ?_)
  refine FL.v (E.move k63) ?_
  refine FL.v (E.assign (v := v0) rfl) ?_
  refine FL.nil ?_
  refine FW.ret ?_
  obtain rfl := Option.some.inj hp
  exact ⟨.inr rfl, res1 rfl rfl ⟨_, _, rfl, S43.run, (p0.mono i44)⟩⟩
 ·
  refine FW.condF k66 c67 ?_
  refine FW.skip (FW.seq ?_)
  obtain ⟨xs31, hc32, hp⟩ := bnd hp
  obtain ⟨xs36, hz37, hp⟩ := bnd hp
  obtain ⟨xs80, hz81, hp⟩ := bnd hp
  obtain ⟨xs91, hc92, hp⟩ := bnd hp
  obtain ⟨xs96, hz97, hp⟩ := bnd hp
  refine FW.drawB (Sl H42) (fun f w => ∃ H : GH, ∃ v105 : Value, ∃ n106 : Nat, ∃ cs107 : List Value, St Ha wa H w [.row 84 1 v105 n106 cs107] ∧ Inc H42 H ∧ Els H (eL eI 1) 1 cs107 xs96 ∧ f 4 = v105) (by kernel_rfl) S43.sl ?_ ?_
  ·
   intro w68 r69
   have S70 := S43.call r69
   refine FB.t (i := 1) (bs 13 2) rfl (SP.nil S70.sl) rfl (fun w' hw' => (E.move k63)) ?_
   refine FB.t (i := 2) (bs 13 6) rfl (SP.nil S70.sl) rfl (fun w' hw' => (E.move k65)) ?_
   obtain ⟨v33, run34, h35⟩ := p0.cut te22 hc32 (lo := none) (hi := some (Value.int .i64 r21)) (.inl ⟨rfl, rfl⟩) (.inr ⟨_, rfl⟩)
   refine FB.t (i := 3) (bs 13 14) rfl (SP.nil S70.sl) rfl (fun w' hw' => (E.slice te22 rfl rfl (congrArg some rfl) rfl (run34 _))) ?_
   refine FB.t (i := 5) (bs 13 46) rfl (SP.nil S70.sl) rfl (fun w' hw' => (E.move k64)) ?_
   refine FB.t (i := 8) (bs 13 302) rfl (SP.nil S70.sl) rfl (fun w' hw' => (E.move k63)) ?_
   refine FB.t (i := 9) (bs 13 814) rfl (SP.nil S70.sl) rfl (fun w' hw' => (E.move k65)) ?_
   obtain ⟨v93, run94, h95⟩ := p0.cut te22 hc92 (lo := some (Value.int .i64 r21)) (hi := none) (.inr ⟨_, rfl⟩) (.inl ⟨rfl, rfl⟩)
   refine FB.t (i := 10) (bs 13 1838) rfl (SP.nil S70.sl) rfl (fun w' hw' => (E.slice te22 rfl (congrArg some rfl) rfl rfl (run94 _))) ?_
   refine FB.all2 (i := 0) (j := 6) (by kernel_rfl) ?_ ?_
   ·
    obtain ⟨v26, w27, run28, S29⟩ := S70.buildSlice (P := Tryz.prog) te22 [] (parts := #[]) (cells := []) rfl szs_nil fc_nil ones_nil (Nat.le_of_ble_eq_true rfl)
    have els30 : Els (up wa.heap.size H42) (eL eI 1) 1 [] [] := Els.nil
    refine FC.val (l' := (bs 13 1839)) rfl (by kernel_rfl) rfl rfl rfl (E.buildSlice (B0) run28) ?_
    refine ⟨(SP.nil S29.sl), ?_⟩
    refine FB.all2 (i := 4) (j := 6) (by kernel_rfl) ?_ ?_
    ·
     obtain ⟨v38, w71, n39, cs40, run72, S73, els74⟩ := S29.appendP (P := Tryz.prog) (Inc.rfl _) te22 (i := 0) rfl (els30.mono upI) (h35.mono i44) hz37
     have S73 : St Ha wa H42 w71 [.row 84 1 v38 n39 cs40] := S73
     refine FC.val (l' := (bs 13 1855)) rfl (by kernel_rfl) rfl rfl rfl (E.append rfl rfl run72) ?_
     refine ⟨(SP.nil S73.sl), ?_⟩
     refine FB.all1 (i := 6) (by kernel_rfl) ?_
     ·
      obtain ⟨v75, w76, run77, S78⟩ := S73.buildSlice (P := Tryz.prog) te22 [v1] (parts := #[(0, v1)]) (cells := [v1]) rfl (szs_cons (cells_size p1.cells) szs_nil) (fc_cons p1.cells fc_nil) (ones_cons p1.one ones_nil) (Nat.le_of_ble_eq_true rfl)
      have els79 : Els H42 (eL eI 1) 1 [v1] [a1] := (Els.snoc (H := H42) (E := (eL eI 1)) (k := 1) (c := [v1]) (x := a1) Els.nil rfl ⟨_, rfl, (p1.mono i44)⟩)
      refine FC.val (l' := (bs 13 1919)) rfl (by kernel_rfl) rfl rfl rfl (E.buildSlice (B1 rfl) run77) ?_
      refine ⟨(SP.nil S78.sl), ?_⟩
      refine FB.all1 (i := 7) (by kernel_rfl) ?_
      ·
       obtain ⟨v82, w85, n83, cs84, run86, S87, els88, ce89⟩ := S78.appendO (P := Tryz.prog) te22 (i := 1) (j := 0) rfl els74 rfl els79 hz81
       have S87 : St Ha wa H42 w85 [.row 84 1 v75 1 [v1], .row 84 1 v82 n83 cs84] := S87
       have S90 : St Ha wa H42 w85 [.row 84 1 v82 n83 cs84] := S87.drop 0
       refine FC.val (l' := (bs 13 2047)) rfl (by kernel_rfl) rfl rfl rfl (E.append rfl rfl run86) ?_
       refine ⟨(SP.nil S90.sl), ?_⟩
       refine FB.all1 (i := 11) (by kernel_rfl) ?_
       ·
        obtain ⟨v98, w101, n99, cs100, run102, S103, els104⟩ := S90.appendP (P := Tryz.prog) (Inc.rfl _) te22 (i := 0) rfl els88 (h95.mono i44) hz97
        have S103 : St Ha wa H42 w101 [.row 84 1 v98 n99 cs100] := S103
        refine FC.val (l' := (bs 13 4095)) rfl (by kernel_rfl) rfl rfl rfl (E.append rfl rfl run102) ?_
        refine ⟨(SP.nil S103.sl), ?_⟩
        refine FB.t (i := 12) (bs 13 8191) rfl (SP.nil S103.sl) rfl (fun w' hw' => (E.assign (v := v98) rfl)) ?_
        exact FB.done (by kernel_rfl) ⟨_, _, _, _, S103, (Inc.rfl _), els104, rfl⟩
    ·
     obtain ⟨v75, w76, run77, S78⟩ := S29.buildSlice (P := Tryz.prog) te22 [v1] (parts := #[(0, v1)]) (cells := [v1]) rfl (szs_cons (cells_size p1.cells) szs_nil) (fc_cons p1.cells fc_nil) (ones_cons p1.one ones_nil) (Nat.le_of_ble_eq_true rfl)
     have els79 : Els H42 (eL eI 1) 1 [v1] [a1] := (Els.snoc (H := H42) (E := (eL eI 1)) (k := 1) (c := [v1]) (x := a1) Els.nil rfl ⟨_, rfl, (p1.mono i44)⟩)
     refine FC.val (l' := (bs 13 1903)) rfl (by kernel_rfl) rfl rfl rfl (E.buildSlice (B1 rfl) run77) ?_
     refine ⟨(SP.nil S78.sl), ?_⟩
     refine FB.all1 (i := 4) (by kernel_rfl) ?_
     ·
      obtain ⟨v38, w71, n39, cs40, run72, S73, els74⟩ := S78.appendP (P := Tryz.prog) (Inc.rfl _) te22 (i := 1) rfl (els30.mono upI) (h35.mono i44) hz37
      have S73 : St Ha wa H42 w71 [.row 84 1 v75 1 [v1], .row 84 1 v38 n39 cs40] := S73
      refine FC.val (l' := (bs 13 1919)) rfl (by kernel_rfl) rfl rfl rfl (E.append rfl rfl run72) ?_
      refine ⟨(SP.nil S73.sl), ?_⟩
      refine FB.all1 (i := 7) (by kernel_rfl) ?_
      ·
       obtain ⟨v82, w85, n83, cs84, run86, S87, els88, ce89⟩ := S73.appendO (P := Tryz.prog) te22 (i := 1) (j := 0) rfl els74 rfl els79 hz81
       have S87 : St Ha wa H42 w85 [.row 84 1 v75 1 [v1], .row 84 1 v82 n83 cs84] := S87
       have S90 : St Ha wa H42 w85 [.row 84 1 v82 n83 cs84] := S87.drop 0
       refine FC.val (l' := (bs 13 2047)) rfl (by kernel_rfl) rfl rfl rfl (E.append rfl rfl run86) ?_
       refine ⟨(SP.nil S90.sl), ?_⟩
       refine FB.all1 (i := 11) (by kernel_rfl) ?_
       ·
        obtain ⟨v98, w101, n99, cs100, run102, S103, els104⟩ := S90.appendP (P := Tryz.prog) (Inc.rfl _) te22 (i := 0) rfl els88 (h95.mono i44) hz97
        have S103 : St Ha wa H42 w101 [.row 84 1 v98 n99 cs100] := S103
        refine FC.val (l' := (bs 13 4095)) rfl (by kernel_rfl) rfl rfl rfl (E.append rfl rfl run102) ?_
        refine ⟨(SP.nil S103.sl), ?_⟩
        refine FB.t (i := 12) (bs 13 8191) rfl (SP.nil S103.sl) rfl (fun w' hw' => (E.assign (v := v98) rfl)) ?_
        exact FB.done (by kernel_rfl) ⟨_, _, _, _, S103, (Inc.rfl _), els104, rfl⟩
   ·
    obtain ⟨v75, w76, run77, S78⟩ := S70.buildSlice (P := Tryz.prog) te22 [v1] (parts := #[(0, v1)]) (cells := [v1]) rfl (szs_cons (cells_size p1.cells) szs_nil) (fc_cons p1.cells fc_nil) (ones_cons p1.one ones_nil) (Nat.le_of_ble_eq_true rfl)
    have els79 : Els H42 (eL eI 1) 1 [v1] [a1] := (Els.snoc (H := H42) (E := (eL eI 1)) (k := 1) (c := [v1]) (x := a1) Els.nil rfl ⟨_, rfl, (p1.mono i44)⟩)
    refine FC.val (l' := (bs 13 1902)) rfl (by kernel_rfl) rfl rfl rfl (E.buildSlice (B1 rfl) run77) ?_
    refine ⟨(SP.nil S78.sl), ?_⟩
    refine FB.all1 (i := 0) (by kernel_rfl) ?_
    ·
     obtain ⟨v26, w27, run28, S29⟩ := S78.buildSlice (P := Tryz.prog) te22 [] (parts := #[]) (cells := []) rfl szs_nil fc_nil ones_nil (Nat.le_of_ble_eq_true rfl)
     have els30 : Els (up wa.heap.size H42) (eL eI 1) 1 [] [] := Els.nil
     refine FC.val (l' := (bs 13 1903)) rfl (by kernel_rfl) rfl rfl rfl (E.buildSlice (B0) run28) ?_
     refine ⟨(SP.nil S29.sl), ?_⟩
     refine FB.all1 (i := 4) (by kernel_rfl) ?_
     ·
      obtain ⟨v38, w71, n39, cs40, run72, S73, els74⟩ := S29.appendP (P := Tryz.prog) (Inc.rfl _) te22 (i := 0) rfl (els30.mono upI) (h35.mono i44) hz37
      have S73 : St Ha wa H42 w71 [.row 84 1 v38 n39 cs40, .row 84 1 v75 1 [v1]] := S73
      refine FC.val (l' := (bs 13 1919)) rfl (by kernel_rfl) rfl rfl rfl (E.append rfl rfl run72) ?_
      refine ⟨(SP.nil S73.sl), ?_⟩
      refine FB.all1 (i := 7) (by kernel_rfl) ?_
      ·
       obtain ⟨v82, w85, n83, cs84, run86, S87, els88, ce89⟩ := S73.appendO (P := Tryz.prog) te22 (i := 0) (j := 1) rfl els74 rfl els79 hz81
       have S87 : St Ha wa H42 w85 [.row 84 1 v82 n83 cs84, .row 84 1 v75 1 [v1]] := S87
       have S90 : St Ha wa H42 w85 [.row 84 1 v82 n83 cs84] := S87.drop 1
       refine FC.val (l' := (bs 13 2047)) rfl (by kernel_rfl) rfl rfl rfl (E.append rfl rfl run86) ?_
       refine ⟨(SP.nil S90.sl), ?_⟩
       refine FB.all1 (i := 11) (by kernel_rfl) ?_
       ·
        obtain ⟨v98, w101, n99, cs100, run102, S103, els104⟩ := S90.appendP (P := Tryz.prog) (Inc.rfl _) te22 (i := 0) rfl els88 (h95.mono i44) hz97
        have S103 : St Ha wa H42 w101 [.row 84 1 v98 n99 cs100] := S103
        refine FC.val (l' := (bs 13 4095)) rfl (by kernel_rfl) rfl rfl rfl (E.append rfl rfl run102) ?_
        refine ⟨(SP.nil S103.sl), ?_⟩
        refine FB.t (i := 12) (bs 13 8191) rfl (SP.nil S103.sl) rfl (fun w' hw' => (E.assign (v := v98) rfl)) ?_
        exact FB.done (by kernel_rfl) ⟨_, _, _, _, S103, (Inc.rfl _), els104, rfl⟩
  ·
   rintro f113 w112 ⟨H109, v105, n106, cs107, S110, i111, els108, k114⟩
   refine FW.ret ?_
   obtain ⟨H115, S116, i117, h118⟩ := S110.sealRow (i := 0) (l' := []) rfl els108 (by decide) rfl
   obtain rfl := Option.some.inj hp
   exact ⟨.inr rfl, res1 rfl k114 ⟨_, _, rfl, S116.run, h118⟩⟩

@[reducible] def p_spec_ClausesInSpan (Ha : GH) (wa : World) (r : ((List (List Int)) × Bool)) : Ending → World → Prop :=
  fun e w' => ∃ H' : GH, ∃ v0 : Value, e = .returned (Value.tuple #[v0, Value.bool r.2]) ∧ Run wa.heap.size Ha wa H' w' ∧ RSl H' (eL eI 1) 1 v0 r.1
set_option maxHeartbeats 4000000 in
theorem w_spec_ClausesInSpan {Ha : GH} {wa : World} (hs : Sl Ha wa) (a0 : Int) (a1 : Cnf) (v1_1 : Value) (p1_1 : RSl Ha (eL eI 1) 1 v1_1 a1.clauses) (a2 : Int) {r : ((List (List Int)) × Bool)} (hp : (PF.spec_ClausesInSpan a0 a1 a2) = some r) :
    Calls Tryz.prog 40 #[Value.int .i64 a0, Value.agg #[Value.int .i64 a1.vars, v1_1], Value.int .i64 a2] wa (p_spec_ClausesInSpan Ha wa r) := by
  unfold PF.spec_ClausesInSpan at hp
  have S0 := St.init hs
  refine calls_go (N := 85) (args := [Value.int .i64 a0, Value.agg #[Value.int .i64 a1.vars, v1_1], Value.int .i64 a2]) Tryz.func40 rfl rfl rfl ?_
  refine FW.seq (FW.region ?_)
  obtain ⟨b21, w22, run23, S24⟩ := S0.box (P := Tryz.prog) 30 [Value.int .i64 a1.vars, v1_1] (v := Value.agg #[Value.int .i64 a1.vars, v1_1]) rfl (ones_cons rfl (ones_cons p1_1.one ones_nil))
  refine FL.v (E.box rfl run23) ?_
  obtain ⟨H25, S26, i27, at28⟩ := S24.sealBox (i := 0) (l' := []) rfl rfl
  refine FL.v (E.assign (v := Value.slice none 0 0) rfl) ?_
  refine FL.v (E.assign (v := Value.bool false) rfl) ?_
  refine FL.nil (FW.seq (FW.region ?_))
  obtain ⟨v29, w30, run31, S32⟩ := S26.buildSlice (P := Tryz.prog) te22 [] (parts := #[]) (cells := []) rfl szs_nil fc_nil ones_nil (Nat.le_of_ble_eq_true rfl)
  have els33 : Els (up wa.heap.size H25) (eL eI 1) 1 [] [] := Els.nil
  refine FL.v (E.buildSlice (B0) run31) ?_
  refine FL.v (E.assign (v := v29) rfl) ?_
  refine FL.nil (FW.seq (FW.seq (FW.region ?_)))
  refine FL.v (E.move (v := Value.int .i64 a0) rfl) ?_
  refine FL.v (E.load rfl (run_loadA Tryz.isAgg30 Tryz.sizeOf30 (at28.now S32.sl) rfl)) ?_
  obtain ⟨r34, hr35, hp⟩ := bnd hp
  refine FL.call rfl rfl rfl (E.call Tryz.call77 (A2 rfl rfl)) (w_spec_l20Asked S32.sl a0 a1 v1_1 (p1_1.mono i27) hr35) ?_
  rintro e w36 ⟨rfl, r37⟩
  refine ⟨_, rfl, ?_⟩
  have S38 := S32.call r37
  refine FL.v (E.not rfl) ?_
  refine FL.v (E.move (v := Value.bool (!r34)) rfl) ?_
  refine FL.cut 4 (fun f w => ∃ H : GH, St Ha wa H w [.row 84 1 v29 0 []] ∧ Inc H25 H ∧ f 0 = Value.int .i64 a0 ∧ f 2 = Value.int .i64 a2 ∧ f 4 = Value.pointer (some ⟨b21, 0, none⟩) ∧ f 8 = v29 ∧ f 23 = Value.bool (bif (!r34) then true else (!(PF.spec_l20Degree a2)))) ?_ ?_
  ·
    rcases bcase (!r34) with c48 | c48
    ·
      refine FL.skip (wF_no rfl rfl rfl c48) rfl ?_
      refine FL.skip (wF_no rfl rfl rfl c48) rfl ?_
      refine FL.skip (wF_no rfl rfl rfl c48) rfl ?_
      refine FL.v (E.pickT rfl c48 rfl) ?_
      exact FL.nil ⟨rfl, _, S38, (Inc.rfl _), rfl, rfl, rfl, rfl, (congrArg Value.bool (bifT c48).symm)⟩
    ·
      refine FL.val (wF_yes rfl rfl rfl c48) rfl rfl (E.move (v := Value.int .i64 a2) rfl) ?_
      refine FL.call (wF_yes rfl rfl rfl c48) rfl rfl (E.call Tryz.call78 (A1 rfl)) (w_spec_l20Degree S38.sl a2) ?_
      rintro e w49 ⟨rfl, r50⟩
      refine ⟨_, rfl, ?_⟩
      have S51 := S38.call r50
      refine FL.val (wF_yes rfl rfl rfl c48) rfl rfl (E.not rfl) ?_
      refine FL.v (E.pickF rfl c48 rfl) ?_
      exact FL.nil ⟨rfl, _, S51, (Inc.rfl _), rfl, rfl, rfl, rfl, (congrArg Value.bool (bifF c48).symm)⟩
  rintro f47 w46 ⟨H43, S44, i45, k52, k53, k54, k55, k56⟩
  refine FL.v (E.move k56) ?_
  refine FL.cut 4 (fun f w => ∃ H : GH, St Ha wa H w [.row 84 1 v29 0 []] ∧ Inc H43 H ∧ f 0 = Value.int .i64 a0 ∧ f 2 = Value.int .i64 a2 ∧ f 4 = Value.pointer (some ⟨b21, 0, none⟩) ∧ f 8 = v29 ∧ f 28 = Value.bool (bif (bif (!r34) then true else (!(PF.spec_l20Degree a2))) then true else (decide (5 < a1.vars)))) ?_ ?_
  ·
    rcases bcase (bif (!r34) then true else (!(PF.spec_l20Degree a2))) with c63 | c63
    ·
      refine FL.skip (wF_no rfl rfl rfl c63) rfl ?_
      refine FL.skip (wF_no rfl rfl rfl c63) rfl ?_
      refine FL.skip (wF_no rfl rfl rfl c63) rfl ?_
      refine FL.v (E.pickT rfl c63 rfl) ?_
      exact FL.nil ⟨rfl, _, S44, (Inc.rfl _), k52, k53, k54, k55, (congrArg Value.bool (bifT c63).symm)⟩
    ·
      refine FL.val (wF_yes rfl rfl rfl c63) rfl rfl (E.fieldAddr tf30_0 k54) ?_
      refine FL.val (wF_yes rfl rfl rfl c63) rfl rfl (E.load rfl (run_load1 Tryz.isAgg3 ((at28.mono i45).now S44.sl) rfl)) ?_
      refine FL.val (wF_yes rfl rfl rfl c63) rfl rfl (E.gtr rfl rfl) ?_
      refine FL.v (E.pickF rfl c63 rfl) ?_
      exact FL.nil ⟨rfl, _, S44, (Inc.rfl _), k52, k53, k54, k55, (congrArg Value.bool (bifF c63).symm)⟩
  rintro f62 w61 ⟨H58, S59, i60, k64, k65, k66, k67, k68⟩
  refine FL.nil ?_
  rcases ifB hp with ⟨c69, hp⟩ | ⟨c69, hp⟩
  ·
    refine FW.condT k68 c69 ?_
    refine FW.seq (FW.region ?_)
    refine FL.v (E.move k67) ?_
    refine FL.v (E.assign (v := v29) rfl) ?_
    refine FL.v (E.assign (v := Value.bool false) rfl) ?_
    refine FL.nil ?_
    refine FW.ret ?_
    obtain ⟨H70, S71, i72, ns75, nv74⟩ := S59.sealRowN (i := 0) (l' := []) rfl (els33.mono (up_mono (i45.tr i60))) (show (bl []).Nodup from List.nodup_nil) (by decide) rfl
    have h73 := ns75.rsl
    obtain rfl := Option.some.inj hp
    exact ⟨.inr rfl, res2 rfl rfl rfl ⟨_, _, rfl, S71.run, (h73.mono upI)⟩⟩
  ·
    refine FW.condF k68 c69 ?_
    refine FW.skip (FW.seq (FW.region ?_))
    refine FL.v (E.move k64) ?_
    refine FL.v (E.load k66 (run_loadA Tryz.isAgg30 Tryz.sizeOf30 ((at28.mono (i45.tr i60)).now S59.sl) rfl)) ?_
    refine FL.v (E.move k65) ?_
    obtain ⟨r76, hr77, hp⟩ := bnd hp
    refine FL.call rfl rfl rfl (E.call Tryz.call79 (A3 rfl rfl rfl)) (w_spec_l20Basis S59.sl a0 a1 v1_1 (p1_1.mono ((i27.tr i45).tr i60)) a2 hr77) ?_
    rintro e w79 ⟨H78, v82, rfl, r81, h83⟩
    refine ⟨_, rfl, ?_⟩
    have S80 := S59.call r81
    refine FL.v (E.assign (v := v82) rfl) ?_
    refine FL.nil (FW.seq (FW.seq (FW.region ?_)))
    refine FL.v (E.assign (v := Value.int .i64 0) rfl) ?_
    refine FL.nil ?_
    obtain ⟨H84, S85, i86, ns89, nv88⟩ := S80.sealRowN (i := 0) (l' := []) rfl (els33.mono (up_mono ((i45.tr i60).tr r81.inc))) (show (bl []).Nodup from List.nodup_nil) (by decide) rfl
    have h87 := ns89.rsl
    obtain ⟨q90, hq, hp⟩ := bndR hp
    refine FW.block ?_
    refine FW.mono (FW.iter (S := ((List (List Int)) × Int)) (X := Empty) (fun (s90 : ((List (List Int)) × Int)) f w => ∃ H : GH, ∃ v91 : Value, St Ha wa H w [] ∧ Inc H84 H ∧ RSl H (eL eI 1) 1 v91 s90.1 ∧ f 0 = Value.int .i64 a0 ∧ f 2 = Value.int .i64 a2 ∧ f 4 = Value.pointer (some ⟨b21, 0, none⟩) ∧ f 8 = v91 ∧ f 9 = v82 ∧ f 10 = Value.int .i64 s90.2) (fun (q : Rs ((List (List Int)) × Int) Empty) e f w => match q with | .go s90 => e = Exit.exit 0 ∧ (∃ H : GH, ∃ v91 : Value, St Ha wa H w [] ∧ Inc H84 H ∧ RSl H (eL eI 1) 1 v91 s90.1 ∧ f 8 = v91) | .rt x => x.elim) hq ⟨_, _, S85, (Inc.rfl _), (h87.mono upI), k64, k65, k66, k67, rfl, rfl⟩ ?_) ?_
    ·
      clear hp hq
      rintro s90 f57 w42 ⟨H39, v91, S40, i41, h92, k93, k94, k95, k96, k97, k98⟩ o221 hp
      refine FW.seq (FW.seq (FW.region ?_))
      refine FL.v (E.move k98) ?_
      refine FL.v (E.fieldAddr tf30_0 k95) ?_
      refine FL.v (E.load rfl (run_load1 Tryz.isAgg3 ((at28.mono ((((i45.tr i60).tr r81.inc).tr i86).tr i41)).now S40.sl) rfl)) ?_
      obtain ⟨r99, hr100, hp⟩ := bnd hp
      refine FL.call rfl rfl rfl (E.call Tryz.call80 (A1 rfl)) (w_spec_l21Power S40.sl a1.vars hr100) ?_
      rintro e w101 ⟨rfl, r102⟩
      refine ⟨_, rfl, ?_⟩
      have S103 := S40.call r102
      refine FL.v (E.lss rfl rfl) ?_
      refine FL.nil ?_
      rcases ifB hp with ⟨c104, hp⟩ | ⟨c104, hp⟩
      ·
        refine FW.condT rfl c104 ?_
        refine FW.skip (FW.seq (FW.block (FW.seq (FW.region ?_))))
        obtain ⟨v105, w106, run107, S108⟩ := S103.buildSlice (P := Tryz.prog) te84 [] (parts := #[]) (cells := []) rfl szs_nil fc_nil ones_nil (Nat.le_of_ble_eq_true rfl)
        have els109 : Els (up wa.heap.size H39) eI 1 [] [] := Els.nil
        refine FL.v (E.buildSlice (B0) run107) ?_
        refine FL.v (E.move k98) ?_
        refine FL.v (E.assign (v := v105) rfl) ?_
        refine FL.v (E.assign (v := Value.int .i64 s90.2) rfl) ?_
        refine FL.nil (FW.seq (FW.seq (FW.region ?_)))
        refine FL.v (E.assign (v := Value.int .i64 1) rfl) ?_
        refine FL.nil ?_
        obtain ⟨q110, hq, hp⟩ := bndR hp
        refine FW.block ?_
        refine FW.mono (FW.iter (S := ((List Int) × Int × Int)) (X := Empty) (fun (s110 : ((List Int) × Int × Int)) f w => ∃ H : GH, ∃ v111 : Value, ∃ n112 : Nat, ∃ cs113 : List Value, St Ha wa H w [.row 3 1 v111 n112 cs113] ∧ Inc H39 H ∧ Els (up wa.heap.size H) eI 1 cs113 s110.1 ∧ f 0 = Value.int .i64 a0 ∧ f 2 = Value.int .i64 a2 ∧ f 4 = Value.pointer (some ⟨b21, 0, none⟩) ∧ f 8 = v91 ∧ f 9 = v82 ∧ f 10 = Value.int .i64 s90.2 ∧ f 11 = v111 ∧ f 12 = Value.int .i64 s110.2.1 ∧ f 13 = Value.int .i64 s110.2.2) (fun (q : Rs ((List Int) × Int × Int) Empty) e f w => match q with | .go s110 => e = Exit.exit 2 ∧ (∃ H : GH, ∃ v111 : Value, ∃ n112 : Nat, ∃ cs113 : List Value, St Ha wa H w [.row 3 1 v111 n112 cs113] ∧ Inc H39 H ∧ Els (up wa.heap.size H) eI 1 cs113 s110.1 ∧ f 0 = Value.int .i64 a0 ∧ f 2 = Value.int .i64 a2 ∧ f 4 = Value.pointer (some ⟨b21, 0, none⟩) ∧ f 8 = v91 ∧ f 9 = v82 ∧ f 10 = Value.int .i64 s90.2 ∧ f 11 = v111) | .rt x => x.elim) hq ⟨_, _, _, _, S108, (Inc.rfl _), els109, k93, k94, k95, k96, k97, k98, rfl, rfl, rfl⟩ ?_) ?_
        ·
          clear hp hq
          rintro s110 f119 w118 ⟨H115, v111, n112, cs113, S116, i117, els114, k120, k121, k122, k123, k125, k126, k127, k128, k129⟩ o148 hp
          refine FW.seq (FW.seq (FW.region ?_))
          refine FL.v (E.move k129) ?_
          refine FL.v (E.fieldAddr tf30_0 k122) ?_
          refine FL.v (E.load rfl (run_load1 Tryz.isAgg3 ((at28.mono (((((i45.tr i60).tr r81.inc).tr i86).tr i41).tr i117)).now S116.sl) rfl)) ?_
          refine FL.v (E.leq rfl rfl) ?_
          refine FL.nil ?_
          rcases ifB hp with ⟨c130, hp⟩ | ⟨c130, hp⟩
          ·
            refine FW.condT rfl c130 ?_
            refine FW.skip (FW.seq (FW.block (FW.seq (FW.seq (FW.region ?_)))))
            refine FL.v (E.move k128) ?_
            refine FL.v (E.rem rfl rfl (by decide)) ?_
            refine FL.v (E.gtr rfl rfl) ?_
            refine FL.nil ?_
            rcases ifB hp with ⟨c131, hp⟩ | ⟨c131, hp⟩
            ·
              refine FW.condT rfl c131 ?_
              refine FW.region ?_
              refine FL.v (E.move k127) ?_
              refine FL.v (E.move k129) ?_
              refine FL.v (E.move k128) ?_
              refine FL.v (E.rem rfl rfl (by decide)) ?_
              refine FL.v (E.mul rfl rfl) ?_
              refine FL.v (E.sub rfl rfl) ?_
              refine FL.v (E.mul rfl rfl) ?_
              obtain ⟨v132, w133, run134, S135⟩ := S116.buildSlice (P := Tryz.prog) te84 [Value.int .i64 (wr (s110.2.2 * (wr (3 - (wr (2 * (s110.2.1.tmod 3)))))))] (parts := #[(0, Value.int .i64 (wr (s110.2.2 * (wr (3 - (wr (2 * (s110.2.1.tmod 3))))))))]) (cells := [Value.int .i64 (wr (s110.2.2 * (wr (3 - (wr (2 * (s110.2.1.tmod 3)))))))]) rfl (szs_cons rfl szs_nil) (fc_cons rfl fc_nil) (ones_cons rfl ones_nil) (Nat.le_of_ble_eq_true rfl)
              have els136 : Els (up wa.heap.size H115) eI 1 [Value.int .i64 (wr (s110.2.2 * (wr (3 - (wr (2 * (s110.2.1.tmod 3)))))))] [(wr (s110.2.2 * (wr (3 - (wr (2 * (s110.2.1.tmod 3)))))))] := (Els.snoc (H := (up wa.heap.size H115)) (E := eI) (k := 1) (c := [Value.int .i64 (wr (s110.2.2 * (wr (3 - (wr (2 * (s110.2.1.tmod 3)))))))]) (x := (wr (s110.2.2 * (wr (3 - (wr (2 * (s110.2.1.tmod 3)))))))) Els.nil rfl rfl)
              refine FL.v (E.buildSlice (B1 rfl) run134) ?_
              obtain ⟨xs137, hz138, hp⟩ := bnd hp
              obtain ⟨v139, w142, n140, cs141, run143, S144, els145, ce146⟩ := S135.appendO (P := Tryz.prog) te84 (i := 1) (j := 0) rfl els114 rfl els136 hz138
              have S144 : St Ha wa H115 w142 [.row 3 1 v132 1 [Value.int .i64 (wr (s110.2.2 * (wr (3 - (wr (2 * (s110.2.1.tmod 3)))))))], .row 3 1 v139 n140 cs141] := S144
              have S147 : St Ha wa H115 w142 [.row 3 1 v139 n140 cs141] := S144.drop 0
              refine FL.v (E.append rfl rfl run143) ?_
              refine FL.v (E.assign (v := v139) rfl) ?_
              refine FL.nil (FW.region ?_)
              refine FL.v (E.move k128) ?_
              refine FL.v (E.quo rfl rfl (by decide)) ?_
              refine FL.v (E.assign (v := Value.int .i64 (wr (s110.2.1.tdiv 3))) rfl) ?_
              refine FL.nil (FW.region ?_)
              refine FL.v (E.move k129) ?_
              refine FL.v (E.add rfl rfl) ?_
              refine FL.v (E.assign (v := Value.int .i64 (wr (s110.2.2 + 1))) rfl) ?_
              refine FL.nil ?_
              obtain rfl := Option.some.inj hp
              exact ⟨rfl, ⟨_, _, _, _, S147, i117, els145, k120, k121, k122, k123, k125, k126, rfl, rfl, rfl⟩⟩
            ·
              refine FW.condF rfl c131 ?_
              refine FW.skip (FW.region ?_)
              refine FL.v (E.move k128) ?_
              refine FL.v (E.quo rfl rfl (by decide)) ?_
              refine FL.v (E.assign (v := Value.int .i64 (wr (s110.2.1.tdiv 3))) rfl) ?_
              refine FL.nil (FW.region ?_)
              refine FL.v (E.move k129) ?_
              refine FL.v (E.add rfl rfl) ?_
              refine FL.v (E.assign (v := Value.int .i64 (wr (s110.2.2 + 1))) rfl) ?_
              refine FL.nil ?_
              obtain rfl := Option.some.inj hp
              exact ⟨rfl, ⟨_, _, _, _, S116, i117, els114, k120, k121, k122, k123, k125, k126, k127, rfl, rfl⟩⟩
          ·
            refine FW.condF rfl c130 ?_
            refine FW.exit ?_
            obtain rfl := Option.some.inj hp
            exact ⟨nofun, rfl, ⟨_, _, _, _, S116, i117, els114, k120, k121, k122, k123, k125, k126, k127⟩⟩
        ·
          clear hq
          intro e f153 w152 hD
          rcases q110 with s110 | x110
          ·
            obtain ⟨rfl, hD⟩ := hD
            obtain ⟨H149, v111, n112, cs113, S150, i151, els114, k154, k155, k156, k157, k158, k159, k160⟩ := hD
            replace hp := el_go hp
            refine FW.seq ?_
            obtain ⟨t160_17, hqt160_17, hp⟩ := bnd hp
            refine FW.drawB (Sl H149) (fun f w => ∃ H : GH, St Ha wa H w [.row 3 1 v111 n112 cs113] ∧ Inc H149 H ∧ f 0 = Value.int .i64 a0 ∧ f 2 = Value.int .i64 a2 ∧ f 4 = Value.pointer (some ⟨b21, 0, none⟩) ∧ f 8 = v91 ∧ f 9 = v82 ∧ f 10 = Value.int .i64 s90.2 ∧ f 11 = v111 ∧ f 80 = Value.bool t160_17) (by kernel_rfl) S150.sl ?_ ?_
            ·
              intro w161 r162
              have S163 := S150.call r162
              refine FB.t (i := 0) (bs 18 1) rfl (SP.nil S163.sl) rfl (fun w' hw' => (E.move k160)) ?_
              refine FB.t (i := 1) (bs 18 3) rfl (SP.nil S163.sl) rfl (fun w' hw' => (E.lenOW te84 rfl S163 (i := 0) rfl els114 (by decide))) ?_
              refine FB.t (i := 2) (bs 18 7) rfl (SP.nil S163.sl) rfl (fun w' hw' => (E.move k155)) ?_
              refine FB.t (i := 3) (bs 18 15) rfl (SP.nil S163.sl) rfl (fun w' hw' => (E.leq rfl rfl)) ?_
              refine FB.t (i := 4) (bs 18 31) rfl (SP.nil S163.sl) rfl (fun w' hw' => (E.move (v := Value.bool (decide ((len s110.1) ≤ a2))) rfl)) ?_
              rcases ifB hqt160_17 with ⟨hc160_4, hqt160_17⟩ | ⟨hc160_4, hqt160_17⟩
              ·
                obtain ⟨r169, hr170, hqt160_17⟩ := bnd hqt160_17
                obtain ⟨r186, hr187, hqt160_17⟩ := bnd hqt160_17
                refine FB.t (i := 5) (bs 18 63) rfl (SP.nil S163.sl) (wF_yes rfl rfl rfl hc160_4) (fun w' hw' => (E.move k154)) ?_
                refine FB.t (i := 6) (bs 18 127) rfl (SP.nil S163.sl) (wF_yes rfl rfl rfl hc160_4) (fun w' hw' => (E.fieldAddr tf30_0 k156)) ?_
                refine FB.t (i := 7) (bs 18 255) rfl (SP.nil S163.sl) (wF_yes rfl rfl rfl hc160_4) (fun w' hw' => (E.load rfl (run_load1 Tryz.isAgg3 ((at28.mono (((((i45.tr i60).tr r81.inc).tr i86).tr i41).tr i151)).now hw') rfl))) ?_
                refine FB.t (i := 8) (bs 18 511) rfl (SP.nil S163.sl) (wF_yes rfl rfl rfl hc160_4) (fun w' hw' => (E.move k158)) ?_
                refine FB.t (i := 9) (bs 18 1023) rfl (SP.nil S163.sl) (wF_yes rfl rfl rfl hc160_4) (fun w' hw' => (E.move k154)) ?_
                refine FB.t (i := 10) (bs 18 2047) rfl (SP.nil S163.sl) (wF_yes rfl rfl rfl hc160_4) (fun w' hw' => (E.fieldAddr tf30_0 k156)) ?_
                refine FB.t (i := 11) (bs 18 4095) rfl (SP.nil S163.sl) (wF_yes rfl rfl rfl hc160_4) (fun w' hw' => (E.load rfl (run_load1 Tryz.isAgg3 ((at28.mono (((((i45.tr i60).tr r81.inc).tr i86).tr i41).tr i151)).now hw') rfl))) ?_
                refine FB.t (i := 12) (bs 18 8191) rfl (SP.nil S163.sl) (wF_yes rfl rfl rfl hc160_4) (fun w' hw' => (E.move k160)) ?_
                refine FB.all1 (i := 13) (by kernel_rfl) ?_
                ·
                  obtain ⟨H164, S165, i166, h167, nv168⟩ := S163.sealRowU (i := 0) (l' := []) rfl els114 (by decide) rfl
                  refine FC.call (l' := (bs 18 16383)) rfl (by kernel_rfl) (wF_yes rfl rfl rfl hc160_4) rfl rfl (E.call Tryz.call82 (A3 rfl rfl rfl)) (w_spec_l18Clause S165.sl a0 a1.vars v111 s110.1 (h167.mono upI) hr170) ?_
                  rintro e w172 ⟨H171, v177, n178, cs179, rfl, r174, els180⟩
                  refine ⟨_, rfl, ?_⟩
                  obtain ⟨H175, r174, hU176⟩ := St.lendX i166 S163.sl r174
                  have els180 := els180.mono (hU176.tr (up_le S163.size))
                  have S173 := S163.join (l' := [.row 179 2 v177 n178 cs179, .row 3 1 v111 n112 cs113]) r174 rfl
                  refine ⟨(SP.nil (Sl.of_inc r174.run.inc S173.sl)), ?_⟩
                  refine FB.all1 (i := 14) (by kernel_rfl) ?_
                  ·
                    obtain ⟨H181, S182, i183, h184, nv185⟩ := S173.sealRowU (i := 0) (l' := [.row 3 1 v111 n112 cs113]) rfl els180 (by decide) rfl
                    refine FC.call (l' := (bs 18 32767)) rfl (by kernel_rfl) (wF_yes rfl rfl rfl hc160_4) rfl rfl (E.call Tryz.call81 (A4 rfl rfl rfl rfl)) (w_spec_l20Rest S182.sl a0 a1.vars v82 r76 (h83.mono ((((i86.tr i41).tr i151).tr r174.run.inc).tr i183)) v177 r169 (h184.mono upI) hr187) ?_
                    rintro e w189 ⟨H188, v192, rfl, r191, h193⟩
                    refine ⟨_, rfl, ?_⟩
                    have S190 := S182.call r191
                    refine ⟨(SP.nil (Sl.of_inc ((r174.run.inc.tr i183).tr r191.inc) S190.sl)), ?_⟩
                    refine FB.t (i := 15) (bs 18 65535) rfl (SP.nil (Sl.of_inc ((r174.run.inc.tr i183).tr r191.inc) S190.sl)) (wF_yes rfl rfl rfl hc160_4) (fun w' hw' => (E.lenP te124 rfl h193)) ?_
                    refine FB.t (i := 16) (bs 18 131071) rfl (SP.nil (Sl.of_inc ((r174.run.inc.tr i183).tr r191.inc) S190.sl)) (wF_yes rfl rfl rfl hc160_4) (fun w' hw' => (E.eql rfl rfl)) ?_
                    refine FB.t (i := 17) (bs 18 262143) rfl (SP.nil (Sl.of_inc ((r174.run.inc.tr i183).tr r191.inc) S190.sl)) rfl (fun w' hw' => (E.asB (E.pickT rfl hc160_4 rfl) (Option.some.inj hqt160_17))) ?_
                    exact FB.done (by kernel_rfl) ⟨_, S190, ((r174.run.inc.tr i183).tr r191.inc), k154, k155, k156, k157, k158, k159, k160, rfl⟩
              ·
                refine FB.skip (i := 5) (l' := (bs 18 63)) rfl (by kernel_rfl) (by kernel_rfl) (by kernel_rfl) (by kernel_rfl) (by kernel_rfl) (SP.nil S163.sl) (wF_no rfl rfl rfl hc160_4) rfl rfl ?_
                refine FB.skip (i := 6) (l' := (bs 18 127)) rfl (by kernel_rfl) (by kernel_rfl) (by kernel_rfl) (by kernel_rfl) (by kernel_rfl) (SP.nil S163.sl) (wF_no rfl rfl rfl hc160_4) rfl rfl ?_
                refine FB.skip (i := 7) (l' := (bs 18 255)) rfl (by kernel_rfl) (by kernel_rfl) (by kernel_rfl) (by kernel_rfl) (by kernel_rfl) (SP.nil S163.sl) (wF_no rfl rfl rfl hc160_4) rfl rfl ?_
                refine FB.skip (i := 8) (l' := (bs 18 511)) rfl (by kernel_rfl) (by kernel_rfl) (by kernel_rfl) (by kernel_rfl) (by kernel_rfl) (SP.nil S163.sl) (wF_no rfl rfl rfl hc160_4) rfl rfl ?_
                refine FB.skip (i := 9) (l' := (bs 18 1023)) rfl (by kernel_rfl) (by kernel_rfl) (by kernel_rfl) (by kernel_rfl) (by kernel_rfl) (SP.nil S163.sl) (wF_no rfl rfl rfl hc160_4) rfl rfl ?_
                refine FB.skip (i := 10) (l' := (bs 18 2047)) rfl (by kernel_rfl) (by kernel_rfl) (by kernel_rfl) (by kernel_rfl) (by kernel_rfl) (SP.nil S163.sl) (wF_no rfl rfl rfl hc160_4) rfl rfl ?_
                refine FB.skip (i := 11) (l' := (bs 18 4095)) rfl (by kernel_rfl) (by kernel_rfl) (by kernel_rfl) (by kernel_rfl) (by kernel_rfl) (SP.nil S163.sl) (wF_no rfl rfl rfl hc160_4) rfl rfl ?_
                refine FB.skip (i := 12) (l' := (bs 18 8191)) rfl (by kernel_rfl) (by kernel_rfl) (by kernel_rfl) (by kernel_rfl) (by kernel_rfl) (SP.nil S163.sl) (wF_no rfl rfl rfl hc160_4) rfl rfl ?_
                refine FB.skip (i := 13) (l' := (bs 18 16383)) rfl (by kernel_rfl) (by kernel_rfl) (by kernel_rfl) (by kernel_rfl) (by kernel_rfl) (SP.nil S163.sl) (wF_no rfl rfl rfl hc160_4) rfl rfl ?_
                refine FB.skip (i := 14) (l' := (bs 18 32767)) rfl (by kernel_rfl) (by kernel_rfl) (by kernel_rfl) (by kernel_rfl) (by kernel_rfl) (SP.nil S163.sl) (wF_no rfl rfl rfl hc160_4) rfl rfl ?_
                refine FB.skip (i := 15) (l' := (bs 18 65535)) rfl (by kernel_rfl) (by kernel_rfl) (by kernel_rfl) (by kernel_rfl) (by kernel_rfl) (SP.nil S163.sl) (wF_no rfl rfl rfl hc160_4) rfl rfl ?_
                refine FB.skip (i := 16) (l' := (bs 18 131071)) rfl (by kernel_rfl) (by kernel_rfl) (by kernel_rfl) (by kernel_rfl) (by kernel_rfl) (SP.nil S163.sl) (wF_no rfl rfl rfl hc160_4) rfl rfl ?_
                refine FB.t (i := 17) (bs 18 262143) rfl (SP.nil S163.sl) rfl (fun w' hw' => (E.asB (E.pickF rfl hc160_4 rfl) (Option.some.inj hqt160_17))) ?_
                exact FB.done (by kernel_rfl) ⟨_, S163, (Inc.rfl _), k154, k155, k156, k157, k158, k159, k160, rfl⟩
            ·
              rintro f198 w197 ⟨H194, S195, i196, k199, k200, k201, k202, k203, k204, k205, k206⟩
              rcases ifB hp with ⟨c207, hp⟩ | ⟨c207, hp⟩
              ·
                refine FW.condT k206 c207 ?_
                refine FW.region ?_
                refine FL.v (E.move k202) ?_
                refine FL.v (E.move k205) ?_
                obtain ⟨H208, S209, i210, h211, nv212⟩ := S195.sealRowU (i := 0) (l' := []) rfl (els114.mono (up_mono i196)) (by decide) rfl
                obtain ⟨r213, hr214, hp⟩ := bnd hp
                refine FL.call rfl rfl rfl (E.call Tryz.call59 (A2 rfl rfl)) (w_spec_l2Insert S209.sl v91 s90.1 (h92.mono ((i151.tr i196).tr i210)) v111 s110.1 (h211.mono upI) hr214) ?_
                rintro e w216 ⟨H215, v219, rfl, r218, h220⟩
                refine ⟨_, rfl, ?_⟩
                have S217 := S209.call r218
                refine FL.v (E.assign (v := v219) rfl) ?_
                refine FL.nil (FW.region ?_)
                refine FL.v (E.move k204) ?_
                refine FL.v (E.add rfl rfl) ?_
                refine FL.v (E.assign (v := Value.int .i64 (wr (s90.2 + 1))) rfl) ?_
                refine FL.nil ?_
                obtain rfl := Option.some.inj hp
                exact ⟨rfl, ⟨_, _, S217, ((((i41.tr i151).tr i196).tr i210).tr r218.inc), h220, k199, k200, k201, rfl, k203, rfl⟩⟩
              ·
                refine FW.condF k206 c207 ?_
                refine FW.skip (FW.region ?_)
                refine FL.v (E.move k204) ?_
                refine FL.v (E.add rfl rfl) ?_
                refine FL.v (E.assign (v := Value.int .i64 (wr (s90.2 + 1))) rfl) ?_
                refine FL.nil ?_
                obtain rfl := Option.some.inj hp
                exact ⟨rfl, ⟨_, _, (S195.sel [] (by decide) rfl), ((i41.tr i151).tr i196), (h92.mono (i151.tr i196)), k199, k200, k201, k202, k203, rfl⟩⟩
          · exact x110.elim
      ·
        refine FW.condF rfl c104 ?_
        refine FW.exit ?_
        obtain rfl := Option.some.inj hp
        exact ⟨nofun, rfl, ⟨_, _, S103, i41, h92, k96⟩⟩
    ·
      clear hq
      intro e f226 w225 hD
      rcases q90 with s90 | x90
      ·
        obtain ⟨rfl, hD⟩ := hD
        obtain ⟨H222, v91, S223, i224, h92, k227⟩ := hD
        replace hp := el_go hp
        refine FW.seq (FW.region ?_)
        refine FL.v (E.move k227) ?_
        refine FL.v (E.assign (v := v91) rfl) ?_
        refine FL.v (E.assign (v := Value.bool true) rfl) ?_
        refine FL.nil ?_
        refine FW.ret ?_
        obtain rfl := Option.some.inj hp
        exact ⟨.inr rfl, res2 rfl rfl rfl ⟨_, _, rfl, S223.run, h92⟩⟩
      · exact x90.elim

theorem w_impl_within {Ha : GH} {wa : World} (hs : Sl Ha wa) (a0 : Int) (a1 : Int) (a2 : Int) :
  Calls Tryz.prog 108 #[Value.int .i64 a0, Value.int .i64 a1, Value.int .i64 a2] wa (Sc Ha wa (Value.bool (PF.impl_within a0 a1 a2))) := by
 obtain ⟨r, hp⟩ : ∃ r, (PF.impl_within a0 a1 a2) = r := ⟨_, rfl⟩
 rw [hp]
 unfold PF.impl_within at hp
 have S0 := St.init hs
 refine calls_go (N := 15) (args := [Value.int .i64 a0, Value.int .i64 a1, Value.int .i64 a2]) Tryz.func108 rfl rfl rfl ?_
 refine FW.seq (FW.region ?_)
 refine FL.v (E.assign (v := Value.bool false) rfl) ?_
 refine FL.nil (FW.seq (FW.region ?_))
 refine FL.v (E.move (v := Value.int .i64 a0) rfl) ?_
 refine FL.v (E.move (v := Value.int .i64 a1) rfl) ?_
 refine FL.v (E.geq rfl rfl) ?_
 refine FL.v (E.move (v := Value.bool (decide (a1 ≤ a0))) rfl) ?_
 refine FL.cut 4 (fun f w => ∃ H : GH, St Ha wa H w [] ∧ Inc Ha H ∧ f 14 = Value.bool (bif (decide (a1 ≤ a0)) then (decide (a0 ≤ a2)) else false)) ?_ ?_
 ·
  rcases bcase (decide (a1 ≤ a0)) with c27 | c27
  ·
   refine FL.val (wF_yes rfl rfl rfl c27) rfl rfl (E.move (v := Value.int .i64 a0) rfl) ?_
   refine FL.val (wF_yes rfl rfl rfl c27) rfl rfl (E.move (v := Value.int .i64 a2) rfl) ?_
   refine FL.val (wF_yes rfl rfl rfl c27) rfl rfl (E.leq rfl rfl) ?_
   refine FL.v (E.pickT rfl c27 rfl) ?_
   exact FL.nil ⟨rfl, _, S0, (Inc.rfl _), (congrArg Value.bool (bifT c27).symm)⟩
  ·
   refine FL.skip (wF_no rfl rfl rfl c27) rfl ?_
   refine FL.skip (wF_no rfl rfl rfl c27) rfl ?_
   refine FL.skip (wF_no rfl rfl rfl c27) rfl ?_
   refine FL.v (E.pickF rfl c27 rfl) ?_
   exact FL.nil ⟨rfl, _, S0, (Inc.rfl _), (congrArg Value.bool (bifF c27).symm)⟩
 rintro f26 w25 ⟨H22, S23, i24, k28⟩
 refine FL.v (E.assign k28) ?_
 refine FL.nil ?_
 refine FW.ret ?_
 obtain rfl := hp
 exact ⟨.inr rfl, res1 rfl rfl ⟨rfl, S23.back⟩⟩

theorem w_impl_ringOf {Ha : GH} {wa : World} (hs : Sl Ha wa) (a0 : Int) (a1 : Int) :
  Calls Tryz.prog 188 #[Value.int .i64 a0, Value.int .i64 a1] wa (Sc Ha wa (Value.tuple #[Value.agg #[Value.int .i64 (((PF.impl_ringOf a0 a1).1).p), Value.int .i64 (((PF.impl_ringOf a0 a1).1).vars)], Value.bool ((PF.impl_ringOf a0 a1).2)])) := by
 obtain ⟨r, hp⟩ : ∃ r, (PF.impl_ringOf a0 a1) = r := ⟨_, rfl⟩
 rw [hp]
 unfold PF.impl_ringOf at hp
 have S0 := St.init hs
 refine calls_go (N := 23) (args := [Value.int .i64 a0, Value.int .i64 a1]) Tryz.func188 rfl rfl rfl ?_
 refine FW.seq (FW.region ?_)
 obtain ⟨b21, w22, run23, S24⟩ := S0.alloc (P := Tryz.prog) 137 [Value.int .i64 0, Value.int .i64 0] Tryz.zeroValue137 rfl (ones_cons rfl (ones_cons rfl ones_nil))
 refine FL.v (E.alloc run23) ?_
 refine FL.v (E.assign (v := Value.bool false) rfl) ?_
 refine FL.nil (FW.seq (FW.region ?_))
 refine FL.v (E.move (v := Value.int .i64 a0) rfl) ?_
 refine FL.v (E.move (v := Value.int .i64 a1) rfl) ?_
 refine FL.v (E.build (B2 rfl rfl) (run_build _ 137 #[(0, Value.int .i64 a0), (1, Value.int .i64 a1)] #[Value.int .i64 a0, Value.int .i64 a1] (by rfl))) ?_
 refine FL.v (E.move (v := Value.int .i64 a0) rfl) ?_
 refine FL.v (E.eql rfl rfl) ?_
 refine FL.v (E.move (v := Value.bool (a0 == 2)) rfl) ?_
 refine FL.cut 3 (fun f w => ∃ H : GH, St Ha wa H w [.box b21 137 [Value.int .i64 0, Value.int .i64 0]] ∧ Inc Ha H ∧ f 0 = Value.int .i64 a0 ∧ f 1 = Value.int .i64 a1 ∧ f 4 = Value.pointer (some (⟨b21, 0, none⟩ : Addr)) ∧ f 8 = Value.agg #[Value.int .i64 a0, Value.int .i64 a1] ∧ f 14 = Value.bool (bif (a0 == 2) then true else (a0 == 3))) ?_ ?_
 ·
  rcases bcase (a0 == 2) with c31 | c31
  ·
   refine FL.skip (wF_no rfl rfl rfl c31) rfl ?_
   refine FL.skip (wF_no rfl rfl rfl c31) rfl ?_
   refine FL.v (E.pickT rfl c31 rfl) ?_
   exact FL.nil ⟨rfl, _, S24, (Inc.rfl _), rfl, rfl, rfl, rfl, (congrArg Value.bool (bifT c31).symm)⟩
  ·
   refine FL.val (wF_yes rfl rfl rfl c31) rfl rfl (E.move (v := Value.int .i64 a0) rfl) ?_
   refine FL.val (wF_yes rfl rfl rfl c31) rfl rfl (E.eql rfl rfl) ?_
   refine FL.v (E.pickF rfl c31 rfl) ?_
   exact FL.nil ⟨rfl, _, S24, (Inc.rfl _), rfl, rfl, rfl, rfl, (congrArg Value.bool (bifF c31).symm)⟩
 rintro f30 w29 ⟨H26, S27, i28, k32, k33, k34, k35, k36⟩
 refine FL.v (E.move k36) ?_
 refine FL.cut 3 (fun f w => ∃ H : GH, St Ha wa H w [.box b21 137 [Value.int .i64 0, Value.int .i64 0]] ∧ Inc H26 H ∧ f 1 = Value.int .i64 a1 ∧ f 4 = Value.pointer (some (⟨b21, 0, none⟩ : Addr)) ∧ f 8 = Value.agg #[Value.int .i64 a0, Value.int .i64 a1] ∧ f 18 = Value.bool (bif (bif (a0 == 2) then true else (a0 == 3)) then true else (a0 == 5))) ?_ ?_
 ·
  rcases bcase (bif (a0 == 2) then true else (a0 == 3)) with c43 | c43
  ·
   refine FL.skip (wF_no rfl rfl rfl c43) rfl ?_
   refine FL.skip (wF_no rfl rfl rfl c43) rfl ?_
   refine FL.v (E.pickT rfl c43 rfl) ?_
   exact FL.nil ⟨rfl, _, S27, (Inc.rfl _), k33, k34, k35, (congrArg Value.bool (bifT c43).symm)⟩
  ·
   refine FL.val (wF_yes rfl rfl rfl c43) rfl rfl (E.move k32) ?_
   refine FL.val (wF_yes rfl rfl rfl c43) rfl rfl (E.eql rfl rfl) ?_
   refine FL.v (E.pickF rfl c43 rfl) ?_
   exact FL.nil ⟨rfl, _, S27, (Inc.rfl _), k33, k34, k35, (congrArg Value.bool (bifF c43).symm)⟩
 rintro f42 w41 ⟨H38, S39, i40, k44, k45, k46, k47⟩
 refine FL.v (E.move k47) ?_
 refine FL.cut 3 (fun f w => ∃ H : GH, St Ha wa H w [.box b21 137 [Value.int .i64 0, Value.int .i64 0]] ∧ Inc H38 H ∧ f 4 = Value.pointer (some (⟨b21, 0, none⟩ : Addr)) ∧ f 8 = Value.agg #[Value.int .i64 a0, Value.int .i64 a1] ∧ f 22 = Value.bool (bif (bif (bif (a0 == 2) then true else (a0 == 3)) then true else (a0 == 5)) then (PF.impl_within a1 0 6) else false)) ?_ ?_
 ·
  rcases bcase (bif (bif (a0 == 2) then true else (a0 == 3)) then true else (a0 == 5)) with c57 | c57
  ·
   refine FL.val (wF_yes rfl rfl rfl c57) rfl rfl (E.move k44) ?_
   refine FL.call (wF_yes rfl rfl rfl c57) rfl rfl (E.call Tryz.call108 (A3 rfl rfl rfl)) (w_impl_within S39.sl a1 0 6) ?_
   rintro e w58 ⟨rfl, r59⟩
   refine ⟨_, rfl, ?_⟩
   have S60 := S39.call r59
   refine FL.v (E.pickT rfl c57 rfl) ?_
   exact FL.nil ⟨rfl, _, S60, (Inc.rfl _), k45, k46, (congrArg Value.bool (bifT c57).symm)⟩
  ·
   refine FL.skip (wF_no rfl rfl rfl c57) rfl ?_
   refine FL.skip (wF_no rfl rfl rfl c57) rfl ?_
   refine FL.v (E.pickF rfl c57 rfl) ?_
   exact FL.nil ⟨rfl, _, S39, (Inc.rfl _), k45, k46, (congrArg Value.bool (bifF c57).symm)⟩
 rintro f56 w55 ⟨H52, S53, i54, k61, k62, k63⟩
 obtain ⟨w64, run65, S66⟩ := S53.store0 (P := Tryz.prog) (t := 137) (i := 0) (cs' := [Value.int .i64 a0, Value.int .i64 a1]) (l' := [.box b21 137 [Value.int .i64 a0, Value.int .i64 a1]]) (v := Value.agg #[Value.int .i64 a0, Value.int .i64 a1]) (c := [Value.int .i64 a0, Value.int .i64 a1]) rfl Tryz.sizeOf137 rfl rfl (ones_cons rfl (ones_cons rfl ones_nil)) (Nat.le_of_ble_eq_true rfl) rfl rfl
 refine FL.act rfl rfl (E.store k61 k62 run65) ?_
 obtain ⟨H67, S68, i69, at70⟩ := S66.sealBox (i := 0) (l' := []) rfl rfl
 refine FL.v (E.assign k63) ?_
 refine FL.nil ?_
 refine FW.ret ?_
 obtain rfl := hp
 exact ⟨.inr rfl, resC2 rfl k61 (loadVar_A Tryz.isAgg137 Tryz.sizeOf137 (at70.now S68.sl) rfl) rfl ⟨rfl, S68.back⟩⟩

end Go.Proofs
