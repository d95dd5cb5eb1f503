/- Part of the walks and plain laws behind the claim: it proves helpers, under no condition beyond their own. -/
import Derived.Test.YtmpfnnkmplkfoaaGreatMr16
import Derived.Test.YtmpfnnkmplkfoaaGreatMr14
import Derived.Test.YtmpfnnkmplkfoaaGreatMr19
import Derived.Test.YtmpfnnkmplkfoaaGreatMr20
import Derived.Test.YtmpfnnkmplkfoaaGreatMr21
import Derived.Test.YtmpfnnkmplkfoaaGreatMr22
import Derived.Test.YtmpfnnkmplkfoaaGreatMr23
import Derived.Test.YtmpfnnkmplkfoaaGreatMr24
import Derived.Test.YtmpfnnkmplkfoaaGreatMr25
import Derived.Test.YtmpfnnkmplkfoaaGreatMr26
import Derived.Test.YtmpfnnkmplkfoaaGreatMr27
import Derived.Test.YtmpfnnkmplkfoaaGreatMr33
import Derived.Test.YtmpfnnkmplkfoaaGreatCrSh
import Derived.Test.YtmpfnnkmplkfoaaGreatCrPf
import Derived.Test.YtmpfnnkmplkfoaaGreatProg
set_option linter.unusedVariables false
set_option maxRecDepth 100000
namespace Go.Proofs
open Go.Mr Go.Pu Go.PF Go.RowKit

def eCnf : Enc Cnf := ⟨fun H cs s => ∃ v0, cs = [Value.int .i64 s.vars, v0] ∧ RSl H (eL eI 1) 1 v0 s.clauses, fun hi ⟨v0, h, h0⟩ => ⟨_, h, h0.mono hi⟩, by rintro H cs s ⟨v0, rfl, h0⟩; exact (ones_cons rfl (ones_cons h0.one ones_nil)), by rintro H cs s ⟨v0, rfl, h0⟩ b hb; obtain ⟨u, hu, hn⟩ := mem_bl hb; simp only [List.mem_cons, List.not_mem_nil, or_false] at hu; rcases hu with rfl | rfl <;> first | (cases hn; done) | exact h0.dom b (mem_bl1 hn)⟩
theorem eCnf_open {H : GH} {cs : List Value} {s : Cnf} (h : eCnf.rel H cs s) : ∃ v0, cs = [Value.int .i64 s.vars, v0] ∧ RSl H (eL eI 1) 1 v0 s.clauses := h

def eResStep : Enc ResStep := ⟨fun H cs s => ∃ v0, cs = [v0, Value.int .i64 s.left, Value.int .i64 s.right, Value.int .i64 s.pivot] ∧ RSl H eI 1 v0 s.clause, fun hi ⟨v0, h, h0⟩ => ⟨_, h, h0.mono hi⟩, by rintro H cs s ⟨v0, rfl, h0⟩; exact (ones_cons h0.one (ones_cons rfl (ones_cons rfl (ones_cons rfl ones_nil)))), by rintro H cs s ⟨v0, rfl, h0⟩ b hb; obtain ⟨u, hu, hn⟩ := mem_bl hb; simp only [List.mem_cons, List.not_mem_nil, or_false] at hu; rcases hu with rfl | rfl | rfl | rfl <;> first | (cases hn; done) | exact h0.dom b (mem_bl1 hn)⟩
theorem eResStep_open {H : GH} {cs : List Value} {s : ResStep} (h : eResStep.rel H cs s) : ∃ v0, cs = [v0, Value.int .i64 s.left, Value.int .i64 s.right, Value.int .i64 s.pivot] ∧ RSl H eI 1 v0 s.clause := h

theorem eResStep_loc : LocE eResStep := by rintro H H' cs x ⟨v0, rfl, h0⟩ hb; exact ⟨_, rfl, h0.only eI_flat.rel (fun b q => hb b (bl_get (i := 0) rfl b q))⟩

def eBench : Enc Bench := ⟨fun H cs s => ∃ v0 v1, cs = [Value.int .i64 s.stage, Value.int .i64 s.formula.vars, v0, v1, Value.int .i64 s.wide, Value.int .i64 s.count] ∧ RSl H (eL eI 1) 1 v0 s.formula.clauses ∧ RSl H eResStep 4 v1 s.steps, fun hi ⟨v0, v1, h, h0, h1⟩ => ⟨_, _, h, h0.mono hi, h1.mono hi⟩, by rintro H cs s ⟨v0, v1, rfl, h0, h1⟩; exact (ones_cons rfl (ones_cons rfl (ones_cons h0.one (ones_cons h1.one (ones_cons rfl (ones_cons rfl ones_nil)))))), by rintro H cs s ⟨v0, v1, rfl, h0, h1⟩ b hb; obtain ⟨u, hu, hn⟩ := mem_bl hb; simp only [List.mem_cons, List.not_mem_nil, or_false] at hu; rcases hu with rfl | rfl | rfl | rfl | rfl | rfl <;> first | (cases hn; done) | exact h0.dom b (mem_bl1 hn) | exact h1.dom b (mem_bl1 hn)⟩
theorem eBench_open {H : GH} {cs : List Value} {s : Bench} (h : eBench.rel H cs s) : ∃ v0 v1, cs = [Value.int .i64 s.stage, Value.int .i64 s.formula.vars, v0, v1, Value.int .i64 s.wide, Value.int .i64 s.count] ∧ RSl H (eL eI 1) 1 v0 s.formula.clauses ∧ RSl H eResStep 4 v1 s.steps := h

def el15Work : Enc l15Work := ⟨fun H cs s => ∃ v0 v1, cs = [v0, Value.int .i64 s.most, v1, Value.bool s.ok] ∧ RSl H (eL eI 1) 1 v0 s.now ∧ RSl H (eL eI 1) 1 v1 s.all, fun hi ⟨v0, v1, h, h0, h1⟩ => ⟨_, _, h, h0.mono hi, h1.mono hi⟩, by rintro H cs s ⟨v0, v1, rfl, h0, h1⟩; exact (ones_cons h0.one (ones_cons rfl (ones_cons h1.one (ones_cons rfl ones_nil)))), by rintro H cs s ⟨v0, v1, rfl, h0, h1⟩ b hb; obtain ⟨u, hu, hn⟩ := mem_bl hb; simp only [List.mem_cons, List.not_mem_nil, or_false] at hu; rcases hu with rfl | rfl | rfl | rfl <;> first | (cases hn; done) | exact h0.dom b (mem_bl1 hn) | exact h1.dom b (mem_bl1 hn)⟩
theorem el15Work_open {H : GH} {cs : List Value} {s : l15Work} (h : el15Work.rel H cs s) : ∃ v0 v1, cs = [v0, Value.int .i64 s.most, v1, Value.bool s.ok] ∧ RSl H (eL eI 1) 1 v0 s.now ∧ RSl H (eL eI 1) 1 v1 s.all := h

def eSpaceStep : Enc SpaceStep := ⟨fun H cs s => cs = [Value.int .i64 s.kind, Value.int .i64 s.a, Value.int .i64 s.b, Value.int .i64 s.pivot], fun _ h => h, by rintro H cs s rfl; exact (ones_cons rfl (ones_cons rfl (ones_cons rfl (ones_cons rfl ones_nil)))), by rintro H cs s rfl b hb; obtain ⟨u, hu, hn⟩ := mem_bl hb; simp only [List.mem_cons, List.not_mem_nil, or_false] at hu; rcases hu with rfl | rfl | rfl | rfl <;> cases hn⟩
theorem eSpaceStep_open {H : GH} {cs : List Value} {s : SpaceStep} (h : eSpaceStep.rel H cs s) : cs = [Value.int .i64 s.kind, Value.int .i64 s.a, Value.int .i64 s.b, Value.int .i64 s.pivot] := h

theorem eSpaceStep_flat : FlatE eSpaceStep := by rintro H H' cs x rfl; exact ⟨rfl, rfl⟩

def eTreeNode : Enc TreeNode := ⟨fun H cs s => cs = [Value.int .i64 s.var, Value.int .i64 s.low, Value.int .i64 s.high, Value.int .i64 s.clause], fun _ h => h, by rintro H cs s rfl; exact (ones_cons rfl (ones_cons rfl (ones_cons rfl (ones_cons rfl ones_nil)))), by rintro H cs s rfl b hb; obtain ⟨u, hu, hn⟩ := mem_bl hb; simp only [List.mem_cons, List.not_mem_nil, or_false] at hu; rcases hu with rfl | rfl | rfl | rfl <;> cases hn⟩
theorem eTreeNode_open {H : GH} {cs : List Value} {s : TreeNode} (h : eTreeNode.rel H cs s) : cs = [Value.int .i64 s.var, Value.int .i64 s.low, Value.int .i64 s.high, Value.int .i64 s.clause] := h

theorem eTreeNode_flat : FlatE eTreeNode := by rintro H H' cs x rfl; exact ⟨rfl, rfl⟩

def eweaver : Enc weaver := ⟨fun H cs s => ∃ v0 v1, cs = [v0, v1] ∧ RSl H eResStep 4 v0 s.steps ∧ RSl H eI 1 v1 s.became, fun hi ⟨v0, v1, h, h0, h1⟩ => ⟨_, _, h, h0.mono hi, h1.mono hi⟩, by rintro H cs s ⟨v0, v1, rfl, h0, h1⟩; exact (ones_cons h0.one (ones_cons h1.one ones_nil)), by rintro H cs s ⟨v0, v1, rfl, h0, h1⟩ b hb; obtain ⟨u, hu, hn⟩ := mem_bl hb; simp only [List.mem_cons, List.not_mem_nil, or_false] at hu; rcases hu with rfl | rfl <;> first | (cases hn; done) | exact h0.dom b (mem_bl1 hn) | exact h1.dom b (mem_bl1 hn)⟩
theorem eweaver_open {H : GH} {cs : List Value} {s : weaver} (h : eweaver.rel H cs s) : ∃ v0 v1, cs = [v0, v1] ∧ RSl H eResStep 4 v0 s.steps ∧ RSl H eI 1 v1 s.became := h

def ering : Enc ring := ⟨fun H cs s => cs = [Value.int .i64 s.p, Value.int .i64 s.vars], fun _ h => h, by rintro H cs s rfl; exact (ones_cons rfl (ones_cons rfl ones_nil)), by rintro H cs s rfl b hb; obtain ⟨u, hu, hn⟩ := mem_bl hb; simp only [List.mem_cons, List.not_mem_nil, or_false] at hu; rcases hu with rfl | rfl <;> cases hn⟩
theorem ering_open {H : GH} {cs : List Value} {s : ring} (h : ering.rel H cs s) : cs = [Value.int .i64 s.p, Value.int .i64 s.vars] := h

theorem ering_flat : FlatE ering := by rintro H H' cs x rfl; exact ⟨rfl, rfl⟩

def ealgebra : Enc algebra := ⟨fun H cs s => ∃ v0 v1, cs = [Value.int .i64 s.ring.p, Value.int .i64 s.ring.vars, Value.int .i64 s.f.vars, v0, v1] ∧ RSl H (eL eI 1) 1 v0 s.f.clauses ∧ RSl H (eL eI 1) 1 v1 s.q, fun hi ⟨v0, v1, h, h0, h1⟩ => ⟨_, _, h, h0.mono hi, h1.mono hi⟩, by rintro H cs s ⟨v0, v1, rfl, h0, h1⟩; exact (ones_cons rfl (ones_cons rfl (ones_cons rfl (ones_cons h0.one (ones_cons h1.one ones_nil))))), by rintro H cs s ⟨v0, v1, rfl, h0, h1⟩ b hb; obtain ⟨u, hu, hn⟩ := mem_bl hb; simp only [List.mem_cons, List.not_mem_nil, or_false] at hu; rcases hu with rfl | rfl | rfl | rfl | rfl <;> first | (cases hn; done) | exact h0.dom b (mem_bl1 hn) | exact h1.dom b (mem_bl1 hn)⟩
theorem ealgebra_open {H : GH} {cs : List Value} {s : algebra} (h : ealgebra.rel H cs s) : ∃ v0 v1, cs = [Value.int .i64 s.ring.p, Value.int .i64 s.ring.vars, Value.int .i64 s.f.vars, v0, v1] ∧ RSl H (eL eI 1) 1 v0 s.f.clauses ∧ RSl H (eL eI 1) 1 v1 s.q := h

def eTerm : Enc Term := ⟨fun H cs s => cs = [Value.int .i64 s.mono, Value.int .i64 s.coeff], fun _ h => h, by rintro H cs s rfl; exact (ones_cons rfl (ones_cons rfl ones_nil)), by rintro H cs s rfl b hb; obtain ⟨u, hu, hn⟩ := mem_bl hb; simp only [List.mem_cons, List.not_mem_nil, or_false] at hu; rcases hu with rfl | rfl <;> cases hn⟩
theorem eTerm_open {H : GH} {cs : List Value} {s : Term} (h : eTerm.rel H cs s) : cs = [Value.int .i64 s.mono, Value.int .i64 s.coeff] := h

theorem eTerm_flat : FlatE eTerm := by rintro H H' cs x rfl; exact ⟨rfl, rfl⟩

def eechelon : Enc echelon := ⟨fun H cs s => ∃ v0 v1, cs = [Value.int .i64 s.ring.p, Value.int .i64 s.ring.vars, v0, v1, Value.int .i64 s.many] ∧ RSl H (eL eI 1) 1 v0 s.rows ∧ RSl H (eL eI 1) 1 v1 s.made, fun hi ⟨v0, v1, h, h0, h1⟩ => ⟨_, _, h, h0.mono hi, h1.mono hi⟩, by rintro H cs s ⟨v0, v1, rfl, h0, h1⟩; exact (ones_cons rfl (ones_cons rfl (ones_cons h0.one (ones_cons h1.one (ones_cons rfl ones_nil))))), by rintro H cs s ⟨v0, v1, rfl, h0, h1⟩ b hb; obtain ⟨u, hu, hn⟩ := mem_bl hb; simp only [List.mem_cons, List.not_mem_nil, or_false] at hu; rcases hu with rfl | rfl | rfl | rfl | rfl <;> first | (cases hn; done) | exact h0.dom b (mem_bl1 hn) | exact h1.dom b (mem_bl1 hn)⟩
theorem eechelon_open {H : GH} {cs : List Value} {s : echelon} (h : eechelon.rel H cs s) : ∃ v0 v1, cs = [Value.int .i64 s.ring.p, Value.int .i64 s.ring.vars, v0, v1, Value.int .i64 s.many] ∧ RSl H (eL eI 1) 1 v0 s.rows ∧ RSl H (eL eI 1) 1 v1 s.made := h

def Fn_I_to_B (P : Program) (H : GH) (v : Value) (p : Int → Option Bool) : Prop :=
 ∀ (H' : GH) (w' : World), Inc H H' → Sl H' w' → ∀ (x0 : Int) (r : Bool), p x0 = some r →
  ∃ (fid : Nat) (cs : Array Value), v = Value.func (.func fid) #[] cs ∧ (∀ args w, (callFunc fid args).run P w = .ok (.enter fid args) w) ∧ Calls P fid (#[Value.int .i64 x0] ++ cs) w' (Sc H' w' (Value.bool r))
theorem Fn_I_to_B.mono {P : Program} {H H' : GH} {v : Value} {p : Int → Option Bool} (h : Fn_I_to_B P H v p) (hi : Inc H H') : Fn_I_to_B P H' v p :=
 fun H2 w2 h2 => h H2 w2 (hi.tr h2)

def Fn_I_I_to_I (P : Program) (H : GH) (v : Value) (p : Int → Int → Option Int) : Prop :=
 ∀ (H' : GH) (w' : World), Inc H H' → Sl H' w' → ∀ (x0 : Int) (x1 : Int) (r : Int), p x0 x1 = some r →
  ∃ (fid : Nat) (cs : Array Value), v = Value.func (.func fid) #[] cs ∧ (∀ args w, (callFunc fid args).run P w = .ok (.enter fid args) w) ∧ Calls P fid (#[Value.int .i64 x0, Value.int .i64 x1] ++ cs) w' (Sc H' w' (Value.int .i64 r))
theorem Fn_I_I_to_I.mono {P : Program} {H H' : GH} {v : Value} {p : Int → Int → Option Int} (h : Fn_I_I_to_I P H v p) (hi : Inc H H') : Fn_I_I_to_I P H' v p :=
 fun H2 w2 h2 => h H2 w2 (hi.tr h2)

def Fn_List_Int_to_B (P : Program) (H : GH) (v : Value) (p : (List Int) → Option Bool) : Prop :=
 ∀ (H' : GH) (w' : World), Inc H H' → Sl H' w' → ∀ (x0 : List Int) (y0_0 : Value) (_z0_0 : RSl H' eI 1 y0_0 x0) (r : Bool), p x0 = some r →
  ∃ (fid : Nat) (cs : Array Value), v = Value.func (.func fid) #[] cs ∧ (∀ args w, (callFunc fid args).run P w = .ok (.enter fid args) w) ∧ Calls P fid (#[y0_0] ++ cs) w' (Sc H' w' (Value.bool r))
theorem Fn_List_Int_to_B.mono {P : Program} {H H' : GH} {v : Value} {p : (List Int) → Option Bool} (h : Fn_List_Int_to_B P H v p) (hi : Inc H H') : Fn_List_Int_to_B P H' v p :=
 fun H2 w2 h2 => h H2 w2 (hi.tr h2)

def Fn_List_Int_List_Int_to_I (P : Program) (H : GH) (v : Value) (p : (List Int) → (List Int) → Option Int) : Prop :=
 ∀ (H' : GH) (w' : World), Inc H H' → Sl H' w' → ∀ (x0 : List Int) (y0_0 : Value) (_z0_0 : RSl H' eI 1 y0_0 x0) (x1 : List Int) (y1_0 : Value) (_z1_0 : RSl H' eI 1 y1_0 x1) (r : Int), p x0 x1 = some r →
  ∃ (fid : Nat) (cs : Array Value), v = Value.func (.func fid) #[] cs ∧ (∀ args w, (callFunc fid args).run P w = .ok (.enter fid args) w) ∧ Calls P fid (#[y0_0, y1_0] ++ cs) w' (Sc H' w' (Value.int .i64 r))
theorem Fn_List_Int_List_Int_to_I.mono {P : Program} {H H' : GH} {v : Value} {p : (List Int) → (List Int) → Option Int} (h : Fn_List_Int_List_Int_to_I P H v p) (hi : Inc H H') : Fn_List_Int_List_Int_to_I P H' v p :=
 fun H2 w2 h2 => h H2 w2 (hi.tr h2)

def Fn_List_Int_List_Int_to_B (P : Program) (H : GH) (v : Value) (p : (List Int) → (List Int) → Option Bool) : Prop :=
 ∀ (H' : GH) (w' : World), Inc H H' → Sl H' w' → ∀ (x0 : List Int) (y0_0 : Value) (_z0_0 : RSl H' eI 1 y0_0 x0) (x1 : List Int) (y1_0 : Value) (_z1_0 : RSl H' eI 1 y1_0 x1) (r : Bool), p x0 x1 = some r →
  ∃ (fid : Nat) (cs : Array Value), v = Value.func (.func fid) #[] cs ∧ (∀ args w, (callFunc fid args).run P w = .ok (.enter fid args) w) ∧ Calls P fid (#[y0_0, y1_0] ++ cs) w' (Sc H' w' (Value.bool r))
theorem Fn_List_Int_List_Int_to_B.mono {P : Program} {H H' : GH} {v : Value} {p : (List Int) → (List Int) → Option Bool} (h : Fn_List_Int_List_Int_to_B P H v p) (hi : Inc H H') : Fn_List_Int_List_Int_to_B P H' v p :=
 fun H2 w2 h2 => h H2 w2 (hi.tr h2)

theorem te22 : TE Tryz.prog 22 84 1 (.slice none 0 0) := ⟨Tryz.underlying22, ⟨Tryz.t84, Tryz.type84, rfl, rfl, by decide⟩, rfl, by decide⟩
theorem te25 : TE Tryz.prog 25 78 4 (.agg #[(.int .i64 0), (.int .i64 0), (.int .i64 0), (.int .i64 0)]) := ⟨Tryz.underlying25, ⟨Tryz.t78, Tryz.type78, rfl, rfl, by decide⟩, rfl, by decide⟩
theorem te32 : TE Tryz.prog 32 76 4 (.agg #[(.int .i64 0), (.int .i64 0), (.int .i64 0), (.int .i64 0)]) := ⟨Tryz.underlying32, ⟨Tryz.t76, Tryz.type76, rfl, rfl, by decide⟩, rfl, by decide⟩
theorem te79 : TE Tryz.prog 79 82 1 (.slice none 0 0) := ⟨Tryz.underlying79, ⟨Tryz.t82, Tryz.type82, rfl, rfl, by decide⟩, rfl, by decide⟩
theorem te82 : TE Tryz.prog 82 84 1 (.slice none 0 0) := ⟨Tryz.underlying82, ⟨Tryz.t84, Tryz.type84, rfl, rfl, by decide⟩, rfl, by decide⟩
theorem te84 : TE Tryz.prog 84 3 1 (.int .i64 0) := ⟨Tryz.underlying84, ⟨Tryz.t3, Tryz.type3, rfl, rfl, by decide⟩, rfl, by decide⟩
theorem tf24_0 : TF Tryz.prog 24 0 0 := ⟨_, _, _, Tryz.underlying24, rfl, rfl, Tryz.sizeOf3, by decide⟩
theorem tf24_1 : TF Tryz.prog 24 1 1 := ⟨_, _, _, Tryz.underlying24, rfl, rfl, Tryz.sizeOf22, by decide⟩
theorem tf30_0 : TF Tryz.prog 30 0 0 := ⟨_, _, _, Tryz.underlying30, rfl, rfl, Tryz.sizeOf3, by decide⟩
theorem tf30_1 : TF Tryz.prog 30 1 1 := ⟨_, _, _, Tryz.underlying30, rfl, rfl, Tryz.sizeOf22, by decide⟩
theorem tf72_0 : TF Tryz.prog 72 0 0 := ⟨_, _, _, Tryz.underlying72, rfl, rfl, Tryz.sizeOf22, by decide⟩
theorem tf72_1 : TF Tryz.prog 72 1 1 := ⟨_, _, _, Tryz.underlying72, rfl, rfl, Tryz.sizeOf3, by decide⟩
theorem tf72_2 : TF Tryz.prog 72 2 2 := ⟨_, _, _, Tryz.underlying72, rfl, rfl, Tryz.sizeOf22, by decide⟩
theorem tf72_3 : TF Tryz.prog 72 3 3 := ⟨_, _, _, Tryz.underlying72, rfl, rfl, Tryz.sizeOf4, by decide⟩
theorem tf76_0 : TF Tryz.prog 76 0 0 := ⟨_, _, _, Tryz.underlying76, rfl, rfl, Tryz.sizeOf3, by decide⟩
theorem tf76_1 : TF Tryz.prog 76 1 1 := ⟨_, _, _, Tryz.underlying76, rfl, rfl, Tryz.sizeOf3, by decide⟩
theorem tf76_2 : TF Tryz.prog 76 2 2 := ⟨_, _, _, Tryz.underlying76, rfl, rfl, Tryz.sizeOf3, by decide⟩
theorem tf76_3 : TF Tryz.prog 76 3 3 := ⟨_, _, _, Tryz.underlying76, rfl, rfl, Tryz.sizeOf3, by decide⟩
theorem tf78_0 : TF Tryz.prog 78 0 0 := ⟨_, _, _, Tryz.underlying78, rfl, rfl, Tryz.sizeOf3, by decide⟩
theorem tf78_1 : TF Tryz.prog 78 1 1 := ⟨_, _, _, Tryz.underlying78, rfl, rfl, Tryz.sizeOf3, by decide⟩
theorem tf78_2 : TF Tryz.prog 78 2 2 := ⟨_, _, _, Tryz.underlying78, rfl, rfl, Tryz.sizeOf3, by decide⟩
theorem tf78_3 : TF Tryz.prog 78 3 3 := ⟨_, _, _, Tryz.underlying78, rfl, rfl, Tryz.sizeOf3, by decide⟩
theorem w_laws_szIntS {Ha : GH} {wa : World} (hs : Sl Ha wa) (v0 : Value) (a0 : List Int) (p0 : RSl Ha eI 1 v0 a0) (a1 : Int) :
  Calls Tryz.prog 89 #[v0, Value.int .i64 a1] wa (Sc Ha wa (Value.int .i64 (PF.laws_szIntS a0 a1))) := by
 obtain ⟨r, hp⟩ : ∃ r, (PF.laws_szIntS a0 a1) = r := ⟨_, rfl⟩
 rw [hp]
 unfold PF.laws_szIntS at hp
 have S0 := St.init hs
 refine calls_go (N := 12) (args := [v0, Value.int .i64 a1]) Tryz.func89 rfl rfl rfl ?_
 refine FW.seq (FW.region ?_)
 refine FL.v (E.assign (v := Value.int .i64 0) rfl) ?_
 refine FL.nil (FW.seq (FW.region ?_))
 refine FL.v (E.move (v := Value.int .i64 a1) rfl) ?_
 refine FL.v (E.move (v := v0) rfl) ?_
 refine FL.v (E.lenP te84 rfl p0) ?_
 refine FL.v (E.sub rfl rfl) ?_
 refine FL.v (E.assign (v := Value.int .i64 (wr (a1 - (len a0)))) rfl) ?_
 refine FL.nil (FW.seq (FW.seq (FW.region ?_)))
 refine FL.v (E.move (v := Value.int .i64 (wr (a1 - (len a0)))) rfl) ?_
 refine FL.v (E.lss rfl rfl) ?_
 refine FL.nil ?_
 rcases ifT hp with ⟨c21, hp⟩ | ⟨c21, hp⟩
 ·
  refine FW.condT rfl c21 ?_
  refine FW.seq (FW.region ?_)
  refine FL.v (E.assign (v := Value.int .i64 (-1)) rfl) ?_
  refine FL.nil ?_
  refine FW.ret ?_
  obtain rfl := hp
  exact ⟨.inr rfl, res1 rfl rfl ⟨rfl, S0.back⟩⟩
 ·
  refine FW.condF rfl c21 ?_
  refine FW.skip (FW.seq (FW.region ?_))
  refine FL.v (E.move (v := Value.int .i64 (wr (a1 - (len a0)))) rfl) ?_
  refine FL.v (E.assign (v := Value.int .i64 (wr (a1 - (len a0)))) rfl) ?_
  refine FL.nil ?_
  refine FW.ret ?_
  obtain rfl := hp
  exact ⟨.inr rfl, res1 rfl rfl ⟨rfl, S0.back⟩⟩

theorem w_laws_szIntSS {Ha : GH} {wa : World} (hs : Sl Ha wa) (v0 : Value) (a0 : List (List Int)) (p0 : RSl Ha (eL eI 1) 1 v0 a0) (a1 : Int) {r : Int} (hp : (PF.laws_szIntSS a0 a1) = some r) :
  Calls Tryz.prog 42 #[v0, Value.int .i64 a1] wa (Sc Ha wa (Value.int .i64 r)) := by
 unfold PF.laws_szIntSS at hp
 have S0 := St.init hs
 refine calls_go (N := 27) (args := [v0, Value.int .i64 a1]) Tryz.func42 rfl rfl rfl ?_
 refine FW.seq (FW.region ?_)
 refine FL.v (E.assign (v := Value.int .i64 0) rfl) ?_
 refine FL.nil (FW.seq (FW.region ?_))
 refine FL.v (E.move (v := Value.int .i64 a1) rfl) ?_
 refine FL.v (E.move (v := v0) rfl) ?_
 refine FL.v (E.lenP te22 rfl p0) ?_
 refine FL.v (E.sub rfl rfl) ?_
 refine FL.v (E.assign (v := Value.int .i64 (wr (a1 - (len a0)))) rfl) ?_
 refine FL.nil (FW.seq (FW.seq (FW.region ?_)))
 refine FL.v (E.move (v := Value.int .i64 (wr (a1 - (len a0)))) rfl) ?_
 refine FL.v (E.lss rfl rfl) ?_
 refine FL.nil ?_
 rcases ifB hp with ⟨c21, hp⟩ | ⟨c21, hp⟩
 ·
  refine FW.condT rfl c21 ?_
  refine FW.seq (FW.region ?_)
  refine FL.v (E.assign (v := Value.int .i64 (-1)) rfl) ?_
  refine FL.nil ?_
  refine FW.ret ?_
  obtain rfl := Option.some.inj hp
  exact ⟨.inr rfl, res1 rfl rfl ⟨rfl, S0.back⟩⟩
 ·
  refine FW.condF rfl c21 ?_
  refine FW.skip (FW.seq (FW.seq (FW.region ?_)))
  refine FL.v (E.assign (v := Value.int .i64 0) rfl) ?_
  refine FL.nil ?_
  obtain ⟨q23, hq, hp⟩ := bndR hp
  refine FW.block ?_
  refine FW.mono (FW.forL (S := Int) (X := Int) (fun (i23 : Nat) (s23 : Int) f w => ∃ H : GH, St Ha wa H w [] ∧ Inc Ha H ∧ f 5 = Value.int .i64 ((i23 : Nat) : Int) ∧ f 0 = v0 ∧ f 1 = Value.int .i64 s23) (fun q e f w => match q with | .go s23 => e = Exit.exit 0 ∧ (∃ H : GH, St Ha wa H w [] ∧ Inc Ha H ∧ f 1 = Value.int .i64 s23) | .rt x => ((e = Exit.ret) ∧ (fun e f w => (e = Exit.normal ∨ e = Exit.ret) ∧ ∀ a, Fr (δ := []) 27 a f → ∃ v, (results Tryz.f42 a.tmps).run Tryz.prog w = .ok v w ∧ (Sc Ha wa (Value.int .i64 x)) (.returned v) w) e f w)) hq ⟨_, S0, (Inc.rfl _), rfl, rfl, rfl⟩ ?_ ?_) ?_
  ·
   clear hp hq
   rintro i23 y22 s23 f48 w47 ⟨H44, S45, i46, k49, k50, k51⟩ hx23 o64 hp
   refine FW.seq (FW.seq (FW.region ?_))
   refine FL.v (E.move k49) ?_
   refine FL.v (E.move k50) ?_
   refine FL.v (E.lenP te22 rfl p0) ?_
   refine FL.v (E.lssT rfl rfl (lss_len hx23)) ?_
   refine FL.nil ?_
   refine FW.condT rfl rfl ?_
   refine FW.skip (FW.seq (FW.block (FW.seq (FW.region ?_))))
   refine FL.v (E.move k50) ?_
   refine FL.v (E.move k49) ?_
   obtain ⟨p52, cs53, pt54, l55, at56, rel57⟩ := p0.at (ix_nat hx23)
   obtain ⟨v58, rfl, h59⟩ := eL_open rel57
   refine FL.v (E.indexAddr te22 rfl rfl pt54) ?_
   refine FL.v (E.load rfl (run_load0 Tryz.isAgg84 ((at56.mono i46).now S45.sl) rfl)) ?_
   refine FL.v (E.move k51) ?_
   refine FL.call rfl rfl rfl (E.call Tryz.call89 (A2 rfl rfl)) (w_laws_szIntS S45.sl v58 y22 (h59.mono i46) s23) ?_
   rintro e w60 ⟨rfl, r61⟩
   refine ⟨_, rfl, ?_⟩
   have S62 := S45.call r61
   refine FL.v (E.assign (v := Value.int .i64 (PF.laws_szIntS y22 s23)) rfl) ?_
   refine FL.nil (FW.seq (FW.region ?_))
   refine FL.v (E.move (v := Value.int .i64 (PF.laws_szIntS y22 s23)) rfl) ?_
   refine FL.v (E.lss rfl rfl) ?_
   refine FL.nil ?_
   rcases ifB hp with ⟨c63, hp⟩ | ⟨c63, hp⟩
   ·
    refine FW.condT rfl c63 ?_
    refine FW.seq (FW.region ?_)
    refine FL.v (E.assign (v := Value.int .i64 (-1)) rfl) ?_
    refine FL.nil ?_
    refine FW.ret ?_
    obtain rfl := Option.some.inj hp
    exact ⟨nofun, rfl, ⟨.inr rfl, res1 rfl rfl ⟨rfl, S62.back⟩⟩⟩
   ·
    refine FW.condF rfl c63 ?_
    refine FW.skip (FW.region ?_)
    refine FL.v (E.move k49) ?_
    refine FL.v (E.add rfl rfl) ?_
    refine FL.v (E.assign (v := Value.int .i64 (wr (((i23 : Nat) : Int) + 1))) rfl) ?_
    refine FL.nil ?_
    obtain rfl := Option.some.inj hp
    exact ⟨rfl, ⟨_, S62, i46, (nat_succ rfl (lt_of_get hx23) (p0.mono i46).le), k50, rfl⟩⟩
  ·
   clear hp hq
   rintro s23 f75 w74 ⟨H71, S72, i73, k76, k77, k78⟩
   refine FW.seq (FW.seq (FW.region ?_))
   refine FL.v (E.move k76) ?_
   refine FL.v (E.move k77) ?_
   refine FL.v (E.lenP te22 rfl p0) ?_
   refine FL.v (E.lss rfl rfl) ?_
   refine FL.nil ?_
   refine FW.condF rfl dlt_len ?_
   refine FW.exit ?_
   exact ⟨nofun, rfl, ⟨_, S72, i73, k78⟩⟩
  ·
   clear hq
   intro e f69 w68 hD
   rcases q23 with s23 | x23
   ·
    obtain ⟨rfl, hD⟩ := hD
    obtain ⟨H65, S66, i67, k70⟩ := hD
    replace hp := el_go hp
    refine FW.seq (FW.region ?_)
    refine FL.v (E.move k70) ?_
    refine FL.v (E.assign (v := Value.int .i64 s23) rfl) ?_
    refine FL.nil ?_
    refine FW.ret ?_
    obtain rfl := Option.some.inj hp
    exact ⟨.inr rfl, res1 rfl rfl ⟨rfl, S66.back⟩⟩
   ·
    obtain ⟨he, hL⟩ := hD
    replace hp := el_rt hp
    obtain rfl := Option.some.inj hp
    subst he
    exact hL

theorem w_laws_szCnf {Ha : GH} {wa : World} (hs : Sl Ha wa) (a0 : Cnf) (v0_1 : Value) (p0_1 : RSl Ha (eL eI 1) 1 v0_1 a0.clauses) (a1 : Int) {r : Int} (hp : (PF.laws_szCnf a0 a1) = some r) :
  Calls Tryz.prog 8 #[Value.agg #[Value.int .i64 a0.vars, v0_1], Value.int .i64 a1] wa (Sc Ha wa (Value.int .i64 r)) := by
 unfold PF.laws_szCnf at hp
 have S0 := St.init hs
 refine calls_go (N := 12) (args := [Value.agg #[Value.int .i64 a0.vars, v0_1], Value.int .i64 a1]) Tryz.func8 rfl rfl rfl ?_
 refine FW.seq (FW.region ?_)
 obtain ⟨b21, w22, run23, S24⟩ := S0.box (P := Tryz.prog) 24 [Value.int .i64 a0.vars, v0_1] (v := Value.agg #[Value.int .i64 a0.vars, v0_1]) rfl (ones_cons rfl (ones_cons p0_1.one ones_nil))
 refine FL.v (E.box rfl run23) ?_
 obtain ⟨H25, S26, i27, at28⟩ := S24.sealBox (i := 0) (l' := []) rfl rfl
 refine FL.v (E.assign (v := Value.int .i64 0) rfl) ?_
 refine FL.nil (FW.seq (FW.region ?_))
 refine FL.v (E.fieldAddr tf24_1 rfl) ?_
 refine FL.v (E.load rfl (run_load1 Tryz.isAgg22 (at28.now S26.sl) rfl)) ?_
 refine FL.v (E.move (v := Value.int .i64 a1) rfl) ?_
 obtain ⟨r29, hr30, hp⟩ := bnd hp
 refine FL.call rfl rfl rfl (E.call Tryz.call42 (A2 rfl rfl)) (w_laws_szIntSS S26.sl v0_1 a0.clauses (p0_1.mono i27) a1 hr30) ?_
 rintro e w31 ⟨rfl, r32⟩
 refine ⟨_, rfl, ?_⟩
 have S33 := S26.call r32
 refine FL.v (E.assign (v := Value.int .i64 r29) rfl) ?_
 refine FL.nil (FW.seq (FW.seq (FW.region ?_)))
 refine FL.v (E.move (v := Value.int .i64 r29) rfl) ?_
 refine FL.v (E.lss rfl rfl) ?_
 refine FL.nil ?_
 rcases ifB hp with ⟨c34, hp⟩ | ⟨c34, hp⟩
 ·
  refine FW.condT rfl c34 ?_
  refine FW.seq (FW.region ?_)
  refine FL.v (E.assign (v := Value.int .i64 (-1)) rfl) ?_
  refine FL.nil ?_
  refine FW.ret ?_
  obtain rfl := Option.some.inj hp
  exact ⟨.inr rfl, res1 rfl rfl ⟨rfl, S33.back⟩⟩
 ·
  refine FW.condF rfl c34 ?_
  refine FW.skip (FW.seq (FW.region ?_))
  refine FL.v (E.move (v := Value.int .i64 r29) rfl) ?_
  refine FL.v (E.assign (v := Value.int .i64 r29) rfl) ?_
  refine FL.nil ?_
  refine FW.ret ?_
  obtain rfl := Option.some.inj hp
  exact ⟨.inr rfl, res1 rfl rfl ⟨rfl, S33.back⟩⟩

theorem w_laws_szSpaceStepS {Ha : GH} {wa : World} (hs : Sl Ha wa) (v0 : Value) (a0 : List SpaceStep) (p0 : RSl Ha eSpaceStep 4 v0 a0) (a1 : Int) :
  Calls Tryz.prog 9 #[v0, Value.int .i64 a1] wa (Sc Ha wa (Value.int .i64 (PF.laws_szSpaceStepS a0 a1))) := by
 obtain ⟨r, hp⟩ : ∃ r, (PF.laws_szSpaceStepS a0 a1) = r := ⟨_, rfl⟩
 rw [hp]
 unfold PF.laws_szSpaceStepS at hp
 have S0 := St.init hs
 refine calls_go (N := 12) (args := [v0, Value.int .i64 a1]) Tryz.func9 rfl rfl rfl ?_
 refine FW.seq (FW.region ?_)
 refine FL.v (E.assign (v := Value.int .i64 0) rfl) ?_
 refine FL.nil (FW.seq (FW.region ?_))
 refine FL.v (E.move (v := Value.int .i64 a1) rfl) ?_
 refine FL.v (E.move (v := v0) rfl) ?_
 refine FL.v (E.lenP te25 rfl p0) ?_
 refine FL.v (E.sub rfl rfl) ?_
 refine FL.v (E.assign (v := Value.int .i64 (wr (a1 - (len a0)))) rfl) ?_
 refine FL.nil (FW.seq (FW.seq (FW.region ?_)))
 refine FL.v (E.move (v := Value.int .i64 (wr (a1 - (len a0)))) rfl) ?_
 refine FL.v (E.lss rfl rfl) ?_
 refine FL.nil ?_
 rcases ifT hp with ⟨c21, hp⟩ | ⟨c21, hp⟩
 ·
  refine FW.condT rfl c21 ?_
  refine FW.seq (FW.region ?_)
  refine FL.v (E.assign (v := Value.int .i64 (-1)) rfl) ?_
  refine FL.nil ?_
  refine FW.ret ?_
  obtain rfl := hp
  exact ⟨.inr rfl, res1 rfl rfl ⟨rfl, S0.back⟩⟩
 ·
  refine FW.condF rfl c21 ?_
  refine FW.skip (FW.seq (FW.region ?_))
  refine FL.v (E.move (v := Value.int .i64 (wr (a1 - (len a0)))) rfl) ?_
  refine FL.v (E.assign (v := Value.int .i64 (wr (a1 - (len a0)))) rfl) ?_
  refine FL.nil ?_
  refine FW.ret ?_
  obtain rfl := hp
  exact ⟨.inr rfl, res1 rfl rfl ⟨rfl, S0.back⟩⟩

@[reducible] def p_laws_toIntS (Ha : GH) (wa : World) (r : (List Int)) : Ending → World → Prop :=
  fun e w' => ∃ H' : GH, ∃ v0 : Value, ∃ n0 : Nat, ∃ c0 : List Value, e = .returned (v0) ∧ St Ha wa H' w' [.row 3 1 v0 n0 c0] ∧ Els (up wa.heap.size H') eI 1 c0 r
theorem w_laws_toIntS {Ha : GH} {wa : World} (hs : Sl Ha wa) (v0 : Value) (a0 : List Int) (p0 : RSl Ha eI 1 v0 a0) {r : (List Int)} (hp : (PF.laws_toIntS a0) = some r) :
    Calls Tryz.prog 94 #[v0] wa (p_laws_toIntS Ha wa r) := by
  unfold PF.laws_toIntS at hp
  have S0 := St.init hs
  refine calls_go (N := 22) (args := [v0]) Tryz.func94 rfl rfl rfl ?_
  refine FW.seq (FW.region ?_)
  refine FL.v (E.assign (v := Value.slice none 0 0) rfl) ?_
  refine FL.nil (FW.seq (FW.region ?_))
  refine FL.v (E.move (v := v0) rfl) ?_
  refine FL.v (E.lenP te84 rfl p0) ?_
  obtain ⟨xs21, hm22, hp⟩ := bnd hp
  obtain ⟨v23, w24, n28, cs29, run25, S26, els27, hbl30⟩ := S0.makeEls (P := Tryz.prog) te84 (G := (up wa.heap.size Ha)) (En := eI) (x0 := (0 : Int)) hm22 rfl (ones_cons rfl ones_nil) .i64 .i64
  refine FL.v (E.makeSlice rfl rfl run25) ?_
  refine FL.v (E.assign (v := v23) rfl) ?_
  refine FL.nil (FW.seq (FW.seq (FW.region ?_)))
  refine FL.v (E.assign (v := Value.int .i64 0) rfl) ?_
  refine FL.nil ?_
  obtain ⟨q32, hq, hp⟩ := bndR hp
  refine FW.block ?_
  refine FW.mono (FW.forL (S := (List Int)) (X := Empty) (fun (i32 : Nat) (s32 : (List Int)) f w => ∃ H : GH, ∃ v63 : Value, ∃ n64 : Nat, ∃ cs65 : List Value, St Ha wa H w [.row 3 1 v63 n64 cs65] ∧ Inc Ha H ∧ Els (up wa.heap.size H) eI 1 cs65 s32 ∧ f 4 = Value.int .i64 ((i32 : Nat) : Int) ∧ f 0 = v0 ∧ f 3 = v63) (fun (q : Rs (List Int) Empty) e f w => match q with | .go s32 => e = Exit.exit 0 ∧ (∃ H : GH, ∃ v63 : Value, ∃ n64 : Nat, ∃ cs65 : List Value, St Ha wa H w [.row 3 1 v63 n64 cs65] ∧ Inc Ha H ∧ Els (up wa.heap.size H) eI 1 cs65 s32 ∧ f 3 = v63) | .rt x => x.elim) hq ⟨_, _, _, _, S26, (Inc.rfl _), els27, rfl, rfl, rfl⟩ ?_ ?_) ?_
  ·
    clear hp hq
    rintro i32 y31 s32 f101 w100 ⟨H97, v63, n64, cs65, S98, i99, els66, k102, k103, k104⟩ hx32 o127 hp
    refine FW.seq (FW.seq (FW.region ?_))
    refine FL.v (E.move k102) ?_
    refine FL.v (E.move k103) ?_
    refine FL.v (E.lenP te84 rfl p0) ?_
    refine FL.v (E.lssT rfl rfl (lss_len hx32)) ?_
    refine FL.nil ?_
    refine FW.condT rfl rfl ?_
    refine FW.skip (FW.seq (FW.block (FW.region ?_)))
    refine FL.v (E.move k104) ?_
    refine FL.v (E.move k102) ?_
    refine FL.v (E.move k103) ?_
    refine FL.v (E.move k102) ?_
    obtain ⟨p105, cs106, pt107, l108, at109, rel110⟩ := p0.at (ix_nat hx32)
    obtain rfl := eI_open rel110
    refine FL.v (E.indexAddr te84 rfl rfl pt107) ?_
    refine FL.v (E.load rfl (run_load0 Tryz.isAgg3 ((at109.mono i99).now S98.sl) rfl)) ?_
    obtain ⟨x117, hx118, hp⟩ := bnd hp
    obtain ⟨p111, cs112, pt113, l114, at115, rel116⟩ := S98.row_at (i := 0) rfl els66 (by decide) hx118
    obtain rfl := eI_open rel116
    refine FL.v (E.indexAddr te84 rfl rfl pt113) ?_
    obtain ⟨xs122, hput123, hp⟩ := bnd hp
    obtain ⟨w119, cs125, run120, S121, els124, ce126⟩ := S98.putEls (P := Tryz.prog) (t := 3) (i := 0) rfl els66 hput123 pt113 Tryz.sizeOf3 (u := Value.int .i64 y31) (c := [Value.int .i64 y31]) rfl rfl (ones_cons rfl ones_nil) rfl
    have S121 : St Ha wa H97 w119 [.row 3 1 v63 n64 cs125] := S121
    refine FL.act rfl rfl (E.store rfl rfl run120) ?_
    refine FL.nil (FW.region ?_)
    refine FL.v (E.move k102) ?_
    refine FL.v (E.add rfl rfl) ?_
    refine FL.v (E.assign (v := Value.int .i64 (wr (((i32 : Nat) : Int) + 1))) rfl) ?_
    refine FL.nil ?_
    obtain rfl := Option.some.inj hp
    exact ⟨rfl, ⟨_, _, _, _, S121, i99, els124, (nat_succ rfl (lt_of_get hx32) (p0.mono i99).le), k103, k104⟩⟩
  ·
    clear hp hq
    rintro s32 f138 w137 ⟨H134, v63, n64, cs65, S135, i136, els66, k139, k140, k141⟩
    refine FW.seq (FW.seq (FW.region ?_))
    refine FL.v (E.move k139) ?_
    refine FL.v (E.move k140) ?_
    refine FL.v (E.lenP te84 rfl p0) ?_
    refine FL.v (E.lss rfl rfl) ?_
    refine FL.nil ?_
    refine FW.condF rfl dlt_len ?_
    refine FW.exit ?_
    exact ⟨nofun, rfl, ⟨_, _, _, _, S135, i136, els66, k141⟩⟩
  ·
    clear hq
    intro e f132 w131 hD
    rcases q32 with s32 | x32
    ·
      obtain ⟨rfl, hD⟩ := hD
      obtain ⟨H128, v63, n64, cs65, S129, i130, els66, k133⟩ := hD
      replace hp := el_go hp
      refine FW.seq (FW.region ?_)
      refine FL.v (E.move k133) ?_
      refine FL.v (E.assign (v := v63) rfl) ?_
      refine FL.nil ?_
      refine FW.ret ?_
      obtain rfl := Option.some.inj hp
      exact ⟨.inr rfl, res1 rfl rfl ⟨_, _, _, _, rfl, S129, els66⟩⟩
    · exact x32.elim

@[reducible] def p_laws_toIntSS (Ha : GH) (wa : World) (r : (List (List Int))) : Ending → World → Prop :=
  fun e w' => ∃ H' : GH, ∃ v0 : Value, ∃ n0 : Nat, ∃ c0 : List Value, e = .returned (v0) ∧ St Ha wa H' w' [.row 84 1 v0 n0 c0] ∧ Els (up wa.heap.size H') (eL eI 1) 1 c0 r ∧ (bl c0).Nodup
theorem w_laws_toIntSS {Ha : GH} {wa : World} (hs : Sl Ha wa) (v0 : Value) (a0 : List (List Int)) (p0 : RSl Ha (eL eI 1) 1 v0 a0) {r : (List (List Int))} (hp : (PF.laws_toIntSS a0) = some r) :
    Calls Tryz.prog 46 #[v0] wa (p_laws_toIntSS Ha wa r) := by
  unfold PF.laws_toIntSS at hp
  have S0 := St.init hs
  refine calls_go (N := 23) (args := [v0]) Tryz.func46 rfl rfl rfl ?_
  refine FW.seq (FW.region ?_)
  refine FL.v (E.assign (v := Value.slice none 0 0) rfl) ?_
  refine FL.nil (FW.seq (FW.region ?_))
  refine FL.v (E.move (v := v0) rfl) ?_
  refine FL.v (E.lenP te22 rfl p0) ?_
  obtain ⟨xs21, hm22, hp⟩ := bnd hp
  obtain ⟨v23, w24, n28, cs29, run25, S26, els27, hbl30⟩ := S0.makeEls (P := Tryz.prog) te22 (G := (up wa.heap.size Ha)) (En := (eL eI 1)) (x0 := ([] : List Int)) hm22 ⟨_, rfl, RSl.nil _ _ _⟩ (ones_cons rfl ones_nil) .i64 .i64
  have nd31 : (bl cs29).Nodup := by rw [hbl30 (by simp [Value.cells, neb])]; exact List.nodup_nil
  refine FL.v (E.makeSlice rfl rfl run25) ?_
  refine FL.v (E.assign (v := v23) rfl) ?_
  refine FL.nil (FW.seq (FW.seq (FW.region ?_)))
  refine FL.v (E.assign (v := Value.int .i64 0) rfl) ?_
  refine FL.nil ?_
  obtain ⟨q33, hq, hp⟩ := bndR hp
  refine FW.block ?_
  refine FW.mono (FW.forL (S := (List (List Int))) (X := Empty) (fun (i33 : Nat) (s33 : (List (List Int))) f w => ∃ H : GH, ∃ v84 : Value, ∃ n85 : Nat, ∃ cs86 : List Value, St Ha wa H w [.row 84 1 v84 n85 cs86] ∧ Inc Ha H ∧ Els (up wa.heap.size H) (eL eI 1) 1 cs86 s33 ∧ (bl cs86).Nodup ∧ f 4 = Value.int .i64 ((i33 : Nat) : Int) ∧ f 0 = v0 ∧ f 3 = v84) (fun (q : Rs (List (List Int)) Empty) e f w => match q with | .go s33 => e = Exit.exit 0 ∧ (∃ H : GH, ∃ v84 : Value, ∃ n85 : Nat, ∃ cs86 : List Value, St Ha wa H w [.row 84 1 v84 n85 cs86] ∧ Inc Ha H ∧ Els (up wa.heap.size H) (eL eI 1) 1 cs86 s33 ∧ (bl cs86).Nodup ∧ f 3 = v84) | .rt x => x.elim) hq ⟨_, _, _, _, S26, (Inc.rfl _), els27, nd31, rfl, rfl, rfl⟩ ?_ ?_) ?_
  ·
    clear hp hq
    rintro i33 y32 s33 f143 w142 ⟨H139, v84, n85, cs86, S140, i141, els87, nd88, k144, k145, k146⟩ hx33 o189 hp
    refine FW.seq (FW.seq (FW.region ?_))
    refine FL.v (E.move k144) ?_
    refine FL.v (E.move k145) ?_
    refine FL.v (E.lenP te22 rfl p0) ?_
    refine FL.v (E.lssT rfl rfl (lss_len hx33)) ?_
    refine FL.nil ?_
    refine FW.condT rfl rfl ?_
    refine FW.skip (FW.seq (FW.block (FW.region ?_)))
    refine FL.v (E.move k146) ?_
    refine FL.v (E.move k144) ?_
    refine FL.v (E.move k145) ?_
    refine FL.v (E.move k144) ?_
    obtain ⟨p147, cs148, pt149, l150, at151, rel152⟩ := p0.at (ix_nat hx33)
    obtain ⟨v153, rfl, h154⟩ := eL_open rel152
    refine FL.v (E.indexAddr te22 rfl rfl pt149) ?_
    refine FL.v (E.load rfl (run_load0 Tryz.isAgg84 ((at151.mono i141).now S140.sl) rfl)) ?_
    obtain ⟨r155, hr156, hp⟩ := bnd hp
    refine FL.call rfl rfl rfl (E.call Tryz.call94 (A1 rfl)) (w_laws_toIntS S140.sl v153 y32 (h154.mono i141) hr156) ?_
    rintro e w158 ⟨H157, v161, n162, cs163, rfl, r160, els164⟩
    refine ⟨_, rfl, ?_⟩
    have els164 := els164.mono (up_le S140.size)
    have S159 := S140.join (l' := [.row 3 1 v161 n162 cs163, .row 84 1 v84 n85 cs86]) r160 rfl
    obtain ⟨x171, hx172, hp⟩ := bnd hp
    obtain ⟨p165, cs166, pt167, l168, at169, rel170⟩ := S159.row_at (i := 1) rfl els87 (by decide) hx172
    obtain ⟨v173, rfl, h174⟩ := eL_open rel170
    refine FL.v (E.indexAddr te22 rfl rfl pt167) ?_
    obtain ⟨H175, S176, i177, h178, nv179⟩ := S159.sealRowU (i := 0) (l' := [.row 84 1 v84 n85 cs86]) rfl els164 (by decide) rfl
    obtain ⟨xs183, hput184, hp⟩ := bnd hp
    obtain ⟨w180, cs186, run181, S182, els185, ce187⟩ := S176.putEls (P := Tryz.prog) (t := 84) (i := 0) rfl (els87.mono (up_mono (r160.run.inc.tr i177))) hput184 pt167 Tryz.sizeOf84 (u := v161) (c := [v161]) h178.cells rfl (ones_cons h178.one ones_nil) ⟨_, rfl, h178⟩
    have S182 : St Ha wa H175 w180 [.row 84 1 v84 n85 cs186] := S182
    have nd188 : (bl cs186).Nodup := by rw [ce187]; exact nd_put (Nat.le_add_right _ _) nd88 (by exact nd_one v161) (Els.dom (els87.mono (upI.tr r160.run.inc))) (by exact nv179)
    refine FL.act rfl rfl (E.store rfl rfl run181) ?_
    refine FL.nil (FW.region ?_)
    refine FL.v (E.move k144) ?_
    refine FL.v (E.add rfl rfl) ?_
    refine FL.v (E.assign (v := Value.int .i64 (wr (((i33 : Nat) : Int) + 1))) rfl) ?_
    refine FL.nil ?_
    obtain rfl := Option.some.inj hp
    exact ⟨rfl, ⟨_, _, _, _, S182, ((i141.tr r160.run.inc).tr i177), els185, nd188, (nat_succ rfl (lt_of_get hx33) (p0.mono ((i141.tr r160.run.inc).tr i177)).le), k145, k146⟩⟩
  ·
    clear hp hq
    rintro s33 f200 w199 ⟨H196, v84, n85, cs86, S197, i198, els87, nd88, k201, k202, k203⟩
    refine FW.seq (FW.seq (FW.region ?_))
    refine FL.v (E.move k201) ?_
    refine FL.v (E.move k202) ?_
    refine FL.v (E.lenP te22 rfl p0) ?_
    refine FL.v (E.lss rfl rfl) ?_
    refine FL.nil ?_
    refine FW.condF rfl dlt_len ?_
    refine FW.exit ?_
    exact ⟨nofun, rfl, ⟨_, _, _, _, S197, i198, els87, nd88, k203⟩⟩
  ·
    clear hq
    intro e f194 w193 hD
    rcases q33 with s33 | x33
    ·
      obtain ⟨rfl, hD⟩ := hD
      obtain ⟨H190, v84, n85, cs86, S191, i192, els87, nd88, k195⟩ := hD
      replace hp := el_go hp
      refine FW.seq (FW.region ?_)
      refine FL.v (E.move k195) ?_
      refine FL.v (E.assign (v := v84) rfl) ?_
      refine FL.nil ?_
      refine FW.ret ?_
      obtain rfl := Option.some.inj hp
      exact ⟨.inr rfl, res1 rfl rfl ⟨_, _, _, _, rfl, S191, els87, nd88⟩⟩
    · exact x33.elim

@[reducible] def p_laws_toCnf (Ha : GH) (wa : World) (r : Cnf) : Ending → World → Prop :=
 fun e w' => ∃ H' : GH, ∃ v0_1 : Value, e = .returned (Value.agg #[Value.int .i64 r.vars, v0_1]) ∧ Run wa.heap.size Ha wa H' w' ∧ (∃ c, Nest (up wa.heap.size H') (eL eI 1) 1 v0_1 r.clauses c)
theorem w_laws_toCnf {Ha : GH} {wa : World} (hs : Sl Ha wa) (a0 : Cnf) (v0_1 : Value) (p0_1 : RSl Ha (eL eI 1) 1 v0_1 a0.clauses) {r : Cnf} (hp : (PF.laws_toCnf a0) = some r) :
  Calls Tryz.prog 11 #[Value.agg #[Value.int .i64 a0.vars, v0_1]] wa (p_laws_toCnf Ha wa r) := by
 unfold PF.laws_toCnf at hp
 have S0 := St.init hs
 refine calls_go (N := 12) (args := [Value.agg #[Value.int .i64 a0.vars, v0_1]]) Tryz.func11 rfl rfl rfl ?_
 refine FW.seq (FW.region ?_)
 obtain ⟨b21, w22, run23, S24⟩ := S0.box (P := Tryz.prog) 24 [Value.int .i64 a0.vars, v0_1] (v := Value.agg #[Value.int .i64 a0.vars, v0_1]) rfl (ones_cons rfl (ones_cons p0_1.one ones_nil))
 refine FL.v (E.box rfl run23) ?_
 obtain ⟨H25, S26, i27, at28⟩ := S24.sealBox (i := 0) (l' := []) rfl rfl
 obtain ⟨b29, w30, run31, S32⟩ := S26.alloc (P := Tryz.prog) 30 [Value.int .i64 0, Value.slice none 0 0] Tryz.zeroValue30 rfl (ones_cons rfl (ones_cons rfl ones_nil))
 refine FL.v (E.alloc run31) ?_
 refine FL.nil (FW.seq (FW.region ?_))
 obtain ⟨b33, w34, run35, S36⟩ := S32.alloc (P := Tryz.prog) 30 [Value.int .i64 0, Value.slice none 0 0] Tryz.zeroValue30 rfl (ones_cons rfl (ones_cons rfl ones_nil))
 refine FL.v (E.alloc run35) ?_
 refine FL.nil (FW.seq (FW.region ?_))
 refine FL.v (E.fieldAddr tf24_0 rfl) ?_
 refine FL.v (E.load rfl (run_load1 Tryz.isAgg3 (at28.now S36.sl) rfl)) ?_
 refine FL.v (E.fieldAddr tf30_0 rfl) ?_
 obtain ⟨w37, run38, S39⟩ := S36.store (P := Tryz.prog) (t := 3) (i := 0) (j := 0) (cs' := [Value.int .i64 a0.vars, Value.slice none 0 0]) (l' := [.box b33 30 [Value.int .i64 a0.vars, Value.slice none 0 0], .box b29 30 [Value.int .i64 0, Value.slice none 0 0]]) (v := Value.int .i64 a0.vars) (c := [Value.int .i64 a0.vars]) rfl Tryz.sizeOf3 rfl rfl (ones_cons rfl ones_nil) (Nat.le_of_ble_eq_true rfl) rfl rfl
 refine FL.act rfl rfl (E.store rfl rfl run38) ?_
 refine FL.nil (FW.seq (FW.region ?_))
 refine FL.v (E.fieldAddr tf24_1 rfl) ?_
 refine FL.v (E.load rfl (run_load1 Tryz.isAgg22 (at28.now S39.sl) rfl)) ?_
 obtain ⟨r40, hr41, hp⟩ := bnd hp
 refine FL.call rfl rfl rfl (E.call Tryz.call46 (A1 rfl)) (w_laws_toIntSS S39.sl v0_1 a0.clauses (p0_1.mono i27) hr41) ?_
 rintro e w43 ⟨H42, v46, n47, cs48, rfl, r45, els49, nd50⟩
 refine ⟨_, rfl, ?_⟩
 have nv51 : New H25 cs48 := New.of_up S39.sl els49.dom
 have els49 := els49.mono (up_le S39.size)
 have S44 := S39.join (l' := [.row 84 1 v46 n47 cs48, .box b33 30 [Value.int .i64 a0.vars, Value.slice none 0 0], .box b29 30 [Value.int .i64 0, Value.slice none 0 0]]) r45 rfl
 refine FL.v (E.fieldAddr tf30_1 rfl) ?_
 obtain ⟨w52, run53, S54⟩ := S44.store (P := Tryz.prog) (t := 22) (i := 1) (j := 1) (cs' := [Value.int .i64 a0.vars, v46]) (l' := [.row 84 1 v46 n47 cs48, .box b33 30 [Value.int .i64 a0.vars, v46], .box b29 30 [Value.int .i64 0, Value.slice none 0 0]]) (v := v46) (c := [v46]) rfl Tryz.sizeOf22 (Ln.cells (S44.row_ln (i := 0) rfl)) rfl (ones_cons (Ln.one (S44.row_ln (i := 0) rfl)) ones_nil) (Nat.le_of_ble_eq_true rfl) rfl rfl
 refine FL.act rfl rfl (E.store rfl rfl run53) ?_
 obtain ⟨H55, S56, i57, ns60, nv59⟩ := S54.sealRowN (i := 0) (l' := [.box b33 30 [Value.int .i64 a0.vars, v46], .box b29 30 [Value.int .i64 0, Value.slice none 0 0]]) rfl els49 nd50 (by decide) rfl
 have h58 := ns60.rsl
 obtain ⟨H61, S62, i63, at64⟩ := S56.sealBox (i := 0) (l' := [.box b29 30 [Value.int .i64 0, Value.slice none 0 0]]) rfl rfl
 refine FL.nil (FW.seq (FW.region ?_))
 refine FL.v (E.load rfl (run_loadA Tryz.isAgg30 Tryz.sizeOf30 (at64.now S62.sl) rfl)) ?_
 obtain ⟨w65, run66, S67⟩ := S62.store0 (P := Tryz.prog) (t := 30) (i := 0) (cs' := [Value.int .i64 a0.vars, v46]) (l' := [.box b29 30 [Value.int .i64 a0.vars, v46]]) (v := Value.agg #[Value.int .i64 a0.vars, v46]) (c := [Value.int .i64 a0.vars, v46]) rfl Tryz.sizeOf30 rfl rfl (ones_cons rfl (ones_cons h58.one ones_nil)) (Nat.le_of_ble_eq_true rfl) rfl rfl
 refine FL.act rfl rfl (E.store rfl rfl run66) ?_
 obtain ⟨H68, S69, i70, at71⟩ := S67.sealBox (i := 0) (l' := []) rfl rfl
 refine FL.nil ?_
 refine FW.ret ?_
 obtain rfl := Option.some.inj hp
 exact ⟨.inr rfl, resC rfl rfl (loadVar_A Tryz.isAgg30 Tryz.sizeOf30 (at71.now S69.sl) rfl) ⟨_, _, rfl, S69.run, ⟨_, (ns60.mono (up_mono (i63.tr i70)))⟩⟩⟩

theorem w_laws_toSpaceStep {Ha : GH} {wa : World} (hs : Sl Ha wa) (a0 : SpaceStep) :
  Calls Tryz.prog 47 #[Value.agg #[Value.int .i64 a0.kind, Value.int .i64 a0.a, Value.int .i64 a0.b, Value.int .i64 a0.pivot]] wa (Sc Ha wa (Value.agg #[Value.int .i64 ((PF.laws_toSpaceStep a0).kind), Value.int .i64 ((PF.laws_toSpaceStep a0).a), Value.int .i64 ((PF.laws_toSpaceStep a0).b), Value.int .i64 ((PF.laws_toSpaceStep a0).pivot)])) := by
 obtain ⟨r, hp⟩ : ∃ r, (PF.laws_toSpaceStep a0) = r := ⟨_, rfl⟩
 rw [hp]
 unfold PF.laws_toSpaceStep at hp
 have S0 := St.init hs
 refine calls_go (N := 17) (args := [Value.agg #[Value.int .i64 a0.kind, Value.int .i64 a0.a, Value.int .i64 a0.b, Value.int .i64 a0.pivot]]) Tryz.func47 rfl rfl rfl ?_
 refine FW.seq (FW.region ?_)
 obtain ⟨b21, w22, run23, S24⟩ := S0.box (P := Tryz.prog) 78 [Value.int .i64 a0.kind, Value.int .i64 a0.a, Value.int .i64 a0.b, Value.int .i64 a0.pivot] (v := Value.agg #[Value.int .i64 a0.kind, Value.int .i64 a0.a, Value.int .i64 a0.b, Value.int .i64 a0.pivot]) rfl (ones_cons rfl (ones_cons rfl (ones_cons rfl (ones_cons rfl ones_nil))))
 refine FL.v (E.box rfl run23) ?_
 obtain ⟨H25, S26, i27, at28⟩ := S24.sealBox (i := 0) (l' := []) rfl rfl
 obtain ⟨b29, w30, run31, S32⟩ := S26.alloc (P := Tryz.prog) 76 [Value.int .i64 0, Value.int .i64 0, Value.int .i64 0, Value.int .i64 0] Tryz.zeroValue76 rfl (ones_cons rfl (ones_cons rfl (ones_cons rfl (ones_cons rfl ones_nil))))
 refine FL.v (E.alloc run31) ?_
 refine FL.nil (FW.seq (FW.region ?_))
 obtain ⟨b33, w34, run35, S36⟩ := S32.alloc (P := Tryz.prog) 76 [Value.int .i64 0, Value.int .i64 0, Value.int .i64 0, Value.int .i64 0] Tryz.zeroValue76 rfl (ones_cons rfl (ones_cons rfl (ones_cons rfl (ones_cons rfl ones_nil))))
 refine FL.v (E.alloc run35) ?_
 refine FL.nil (FW.seq (FW.region ?_))
 refine FL.v (E.fieldAddr tf78_0 rfl) ?_
 refine FL.v (E.load rfl (run_load1 Tryz.isAgg3 (at28.now S36.sl) rfl)) ?_
 refine FL.v (E.fieldAddr tf76_0 rfl) ?_
 obtain ⟨w37, run38, S39⟩ := S36.store (P := Tryz.prog) (t := 3) (i := 0) (j := 0) (cs' := [Value.int .i64 a0.kind, Value.int .i64 0, Value.int .i64 0, Value.int .i64 0]) (l' := [.box b33 76 [Value.int .i64 a0.kind, Value.int .i64 0, Value.int .i64 0, Value.int .i64 0], .box b29 76 [Value.int .i64 0, Value.int .i64 0, Value.int .i64 0, Value.int .i64 0]]) (v := Value.int .i64 a0.kind) (c := [Value.int .i64 a0.kind]) rfl Tryz.sizeOf3 rfl rfl (ones_cons rfl ones_nil) (Nat.le_of_ble_eq_true rfl) rfl rfl
 refine FL.act rfl rfl (E.store rfl rfl run38) ?_
 refine FL.nil (FW.seq (FW.region ?_))
 refine FL.v (E.fieldAddr tf78_1 rfl) ?_
 refine FL.v (E.load rfl (run_load1 Tryz.isAgg3 (at28.now S39.sl) rfl)) ?_
 refine FL.v (E.fieldAddr tf76_1 rfl) ?_
 obtain ⟨w40, run41, S42⟩ := S39.store (P := Tryz.prog) (t := 3) (i := 0) (j := 1) (cs' := [Value.int .i64 a0.kind, Value.int .i64 a0.a, Value.int .i64 0, Value.int .i64 0]) (l' := [.box b33 76 [Value.int .i64 a0.kind, Value.int .i64 a0.a, Value.int .i64 0, Value.int .i64 0], .box b29 76 [Value.int .i64 0, Value.int .i64 0, Value.int .i64 0, Value.int .i64 0]]) (v := Value.int .i64 a0.a) (c := [Value.int .i64 a0.a]) rfl Tryz.sizeOf3 rfl rfl (ones_cons rfl ones_nil) (Nat.le_of_ble_eq_true rfl) rfl rfl
 refine FL.act rfl rfl (E.store rfl rfl run41) ?_
 refine FL.nil (FW.seq (FW.region ?_))
 refine FL.v (E.fieldAddr tf78_2 rfl) ?_
 refine FL.v (E.load rfl (run_load1 Tryz.isAgg3 (at28.now S42.sl) rfl)) ?_
 refine FL.v (E.fieldAddr tf76_2 rfl) ?_
 obtain ⟨w43, run44, S45⟩ := S42.store (P := Tryz.prog) (t := 3) (i := 0) (j := 2) (cs' := [Value.int .i64 a0.kind, Value.int .i64 a0.a, Value.int .i64 a0.b, Value.int .i64 0]) (l' := [.box b33 76 [Value.int .i64 a0.kind, Value.int .i64 a0.a, Value.int .i64 a0.b, Value.int .i64 0], .box b29 76 [Value.int .i64 0, Value.int .i64 0, Value.int .i64 0, Value.int .i64 0]]) (v := Value.int .i64 a0.b) (c := [Value.int .i64 a0.b]) rfl Tryz.sizeOf3 rfl rfl (ones_cons rfl ones_nil) (Nat.le_of_ble_eq_true rfl) rfl rfl
 refine FL.act rfl rfl (E.store rfl rfl run44) ?_
 refine FL.nil (FW.seq (FW.region ?_))
 refine FL.v (E.fieldAddr tf78_3 rfl) ?_
 refine FL.v (E.load rfl (run_load1 Tryz.isAgg3 (at28.now S45.sl) rfl)) ?_
 refine FL.v (E.fieldAddr tf76_3 rfl) ?_
 obtain ⟨w46, run47, S48⟩ := S45.store (P := Tryz.prog) (t := 3) (i := 0) (j := 3) (cs' := [Value.int .i64 a0.kind, Value.int .i64 a0.a, Value.int .i64 a0.b, Value.int .i64 a0.pivot]) (l' := [.box b33 76 [Value.int .i64 a0.kind, Value.int .i64 a0.a, Value.int .i64 a0.b, Value.int .i64 a0.pivot], .box b29 76 [Value.int .i64 0, Value.int .i64 0, Value.int .i64 0, Value.int .i64 0]]) (v := Value.int .i64 a0.pivot) (c := [Value.int .i64 a0.pivot]) rfl Tryz.sizeOf3 rfl rfl (ones_cons rfl ones_nil) (Nat.le_of_ble_eq_true rfl) rfl rfl
 refine FL.act rfl rfl (E.store rfl rfl run47) ?_
 obtain ⟨H49, S50, i51, at52⟩ := S48.sealBox (i := 0) (l' := [.box b29 76 [Value.int .i64 0, Value.int .i64 0, Value.int .i64 0, Value.int .i64 0]]) rfl rfl
 refine FL.nil (FW.seq (FW.region ?_))
 refine FL.v (E.load rfl (run_loadA Tryz.isAgg76 Tryz.sizeOf76 (at52.now S50.sl) rfl)) ?_
 obtain ⟨w53, run54, S55⟩ := S50.store0 (P := Tryz.prog) (t := 76) (i := 0) (cs' := [Value.int .i64 a0.kind, Value.int .i64 a0.a, Value.int .i64 a0.b, Value.int .i64 a0.pivot]) (l' := [.box b29 76 [Value.int .i64 a0.kind, Value.int .i64 a0.a, Value.int .i64 a0.b, Value.int .i64 a0.pivot]]) (v := Value.agg #[Value.int .i64 a0.kind, Value.int .i64 a0.a, Value.int .i64 a0.b, Value.int .i64 a0.pivot]) (c := [Value.int .i64 a0.kind, Value.int .i64 a0.a, Value.int .i64 a0.b, Value.int .i64 a0.pivot]) rfl Tryz.sizeOf76 rfl rfl (ones_cons rfl (ones_cons rfl (ones_cons rfl (ones_cons rfl ones_nil)))) (Nat.le_of_ble_eq_true rfl) rfl rfl
 refine FL.act rfl rfl (E.store rfl rfl run54) ?_
 obtain ⟨H56, S57, i58, at59⟩ := S55.sealBox (i := 0) (l' := []) rfl rfl
 refine FL.nil ?_
 refine FW.ret ?_
 obtain rfl := hp
 exact ⟨.inr rfl, resC rfl rfl (loadVar_A Tryz.isAgg76 Tryz.sizeOf76 (at59.now S57.sl) rfl) ⟨rfl, S57.back⟩⟩

@[reducible] def p_laws_toSpaceStepS (Ha : GH) (wa : World) (r : (List SpaceStep)) : Ending → World → Prop :=
  fun e w' => ∃ H' : GH, ∃ v0 : Value, ∃ n0 : Nat, ∃ c0 : List Value, e = .returned (v0) ∧ St Ha wa H' w' [.row 76 4 v0 n0 c0] ∧ Els (up wa.heap.size H') eSpaceStep 4 c0 r
theorem w_laws_toSpaceStepS {Ha : GH} {wa : World} (hs : Sl Ha wa) (v0 : Value) (a0 : List SpaceStep) (p0 : RSl Ha eSpaceStep 4 v0 a0) {r : (List SpaceStep)} (hp : (PF.laws_toSpaceStepS a0) = some r) :
    Calls Tryz.prog 12 #[v0] wa (p_laws_toSpaceStepS Ha wa r) := by
  unfold PF.laws_toSpaceStepS at hp
  have S0 := St.init hs
  refine calls_go (N := 23) (args := [v0]) Tryz.func12 rfl rfl rfl ?_
  refine FW.seq (FW.region ?_)
  refine FL.v (E.assign (v := Value.slice none 0 0) rfl) ?_
  refine FL.nil (FW.seq (FW.region ?_))
  refine FL.v (E.move (v := v0) rfl) ?_
  refine FL.v (E.lenP te25 rfl p0) ?_
  obtain ⟨xs21, hm22, hp⟩ := bnd hp
  obtain ⟨v23, w24, n28, cs29, run25, S26, els27, hbl30⟩ := S0.makeEls (P := Tryz.prog) te32 (G := (up wa.heap.size Ha)) (En := eSpaceStep) (x0 := ((SpaceStep.mk 0 0 0 0) : SpaceStep)) hm22 rfl (ones_cons rfl (ones_cons rfl (ones_cons rfl (ones_cons rfl ones_nil)))) .i64 .i64
  refine FL.v (E.makeSlice rfl rfl run25) ?_
  refine FL.v (E.assign (v := v23) rfl) ?_
  refine FL.nil (FW.seq (FW.seq (FW.region ?_)))
  refine FL.v (E.assign (v := Value.int .i64 0) rfl) ?_
  refine FL.nil ?_
  obtain ⟨q32, hq, hp⟩ := bndR hp
  refine FW.block ?_
  refine FW.mono (FW.forL (S := (List SpaceStep)) (X := Empty) (fun (i32 : Nat) (s32 : (List SpaceStep)) f w => ∃ H : GH, ∃ v66 : Value, ∃ n67 : Nat, ∃ cs68 : List Value, St Ha wa H w [.row 76 4 v66 n67 cs68] ∧ Inc Ha H ∧ Els (up wa.heap.size H) eSpaceStep 4 cs68 s32 ∧ f 4 = Value.int .i64 ((i32 : Nat) : Int) ∧ f 0 = v0 ∧ f 3 = v66) (fun (q : Rs (List SpaceStep) Empty) e f w => match q with | .go s32 => e = Exit.exit 0 ∧ (∃ H : GH, ∃ v66 : Value, ∃ n67 : Nat, ∃ cs68 : List Value, St Ha wa H w [.row 76 4 v66 n67 cs68] ∧ Inc Ha H ∧ Els (up wa.heap.size H) eSpaceStep 4 cs68 s32 ∧ f 3 = v66) | .rt x => x.elim) hq ⟨_, _, _, _, S26, (Inc.rfl _), els27, rfl, rfl, rfl⟩ ?_ ?_) ?_
  ·
    clear hp hq
    rintro i32 y31 s32 f107 w106 ⟨H103, v66, n67, cs68, S104, i105, els69, k108, k109, k110⟩ hx32 o136 hp
    refine FW.seq (FW.seq (FW.region ?_))
    refine FL.v (E.move k108) ?_
    refine FL.v (E.move k109) ?_
    refine FL.v (E.lenP te25 rfl p0) ?_
    refine FL.v (E.lssT rfl rfl (lss_len hx32)) ?_
    refine FL.nil ?_
    refine FW.condT rfl rfl ?_
    refine FW.skip (FW.seq (FW.block (FW.region ?_)))
    refine FL.v (E.move k110) ?_
    refine FL.v (E.move k108) ?_
    refine FL.v (E.move k109) ?_
    refine FL.v (E.move k108) ?_
    obtain ⟨p111, cs112, pt113, l114, at115, rel116⟩ := p0.at (ix_nat hx32)
    obtain rfl := eSpaceStep_open rel116
    refine FL.v (E.indexAddr te25 rfl rfl pt113) ?_
    refine FL.v (E.load rfl (run_loadA Tryz.isAgg78 Tryz.sizeOf78 ((at115.mono i105).now S104.sl) rfl)) ?_
    refine FL.call rfl rfl rfl (E.call Tryz.call47 (A1 rfl)) (w_laws_toSpaceStep S104.sl y31) ?_
    rintro e w117 ⟨rfl, r118⟩
    refine ⟨_, rfl, ?_⟩
    have S119 := S104.call r118
    obtain ⟨x126, hx127, hp⟩ := bnd hp
    obtain ⟨p120, cs121, pt122, l123, at124, rel125⟩ := S119.row_at (i := 0) rfl els69 (by decide) hx127
    obtain rfl := eSpaceStep_open rel125
    refine FL.v (E.indexAddr te32 rfl rfl pt122) ?_
    obtain ⟨xs131, hput132, hp⟩ := bnd hp
    obtain ⟨w128, cs134, run129, S130, els133, ce135⟩ := S119.putEls (P := Tryz.prog) (t := 76) (i := 0) rfl els69 hput132 pt122 Tryz.sizeOf76 (u := Value.agg #[Value.int .i64 ((PF.laws_toSpaceStep y31).kind), Value.int .i64 ((PF.laws_toSpaceStep y31).a), Value.int .i64 ((PF.laws_toSpaceStep y31).b), Value.int .i64 ((PF.laws_toSpaceStep y31).pivot)]) (c := [Value.int .i64 ((PF.laws_toSpaceStep y31).kind), Value.int .i64 ((PF.laws_toSpaceStep y31).a), Value.int .i64 ((PF.laws_toSpaceStep y31).b), Value.int .i64 ((PF.laws_toSpaceStep y31).pivot)]) rfl rfl (ones_cons rfl (ones_cons rfl (ones_cons rfl (ones_cons rfl ones_nil)))) rfl
    have S130 : St Ha wa H103 w128 [.row 76 4 v66 n67 cs134] := S130
    refine FL.act rfl rfl (E.store rfl rfl run129) ?_
    refine FL.nil (FW.region ?_)
    refine FL.v (E.move k108) ?_
    refine FL.v (E.add rfl rfl) ?_
    refine FL.v (E.assign (v := Value.int .i64 (wr (((i32 : Nat) : Int) + 1))) rfl) ?_
    refine FL.nil ?_
    obtain rfl := Option.some.inj hp
    exact ⟨rfl, ⟨_, _, _, _, S130, i105, els133, (nat_succ rfl (lt_of_get hx32) (p0.mono i105).le), k109, k110⟩⟩
  ·
    clear hp hq
    rintro s32 f147 w146 ⟨H143, v66, n67, cs68, S144, i145, els69, k148, k149, k150⟩
    refine FW.seq (FW.seq (FW.region ?_))
    refine FL.v (E.move k148) ?_
    refine FL.v (E.move k149) ?_
    refine FL.v (E.lenP te25 rfl p0) ?_
    refine FL.v (E.lss rfl rfl) ?_
    refine FL.nil ?_
    refine FW.condF rfl dlt_len ?_
    refine FW.exit ?_
    exact ⟨nofun, rfl, ⟨_, _, _, _, S144, i145, els69, k150⟩⟩
  ·
    clear hq
    intro e f141 w140 hD
    rcases q32 with s32 | x32
    ·
      obtain ⟨rfl, hD⟩ := hD
      obtain ⟨H137, v66, n67, cs68, S138, i139, els69, k142⟩ := hD
      replace hp := el_go hp
      refine FW.seq (FW.region ?_)
      refine FL.v (E.move k142) ?_
      refine FL.v (E.assign (v := v66) rfl) ?_
      refine FL.nil ?_
      refine FW.ret ?_
      obtain rfl := Option.some.inj hp
      exact ⟨.inr rfl, res1 rfl rfl ⟨_, _, _, _, rfl, S138, els69⟩⟩
    · exact x32.elim

theorem w_spec_l1In {Ha : GH} {wa : World} (hs : Sl Ha wa) (a0 : Int) (a1 : Int) (a2 : Int) :
  Calls Tryz.prog 104 #[Value.int .i64 a0, Value.int .i64 a1, Value.int .i64 a2] wa (Sc Ha wa (Value.bool (PF.spec_l1In a0 a1 a2))) := by
 obtain ⟨r, hp⟩ : ∃ r, (PF.spec_l1In a0 a1 a2) = r := ⟨_, rfl⟩
 rw [hp]
 unfold PF.spec_l1In at hp
 have S0 := St.init hs
 refine calls_go (N := 15) (args := [Value.int .i64 a0, Value.int .i64 a1, Value.int .i64 a2]) Tryz.func104 rfl rfl rfl ?_
 refine FW.seq (FW.region ?_)
 refine FL.v (E.assign (v := Value.bool false) rfl) ?_
 refine FL.nil (FW.seq (FW.region ?_))
 refine FL.v (E.move (v := Value.int .i64 a0) rfl) ?_
 refine FL.v (E.move (v := Value.int .i64 a1) rfl) ?_
 refine FL.v (E.geq rfl rfl) ?_
 refine FL.v (E.move (v := Value.bool (decide (a1 ≤ a0))) rfl) ?_
 refine FL.cut 4 (fun f w => ∃ H : GH, St Ha wa H w [] ∧ Inc Ha H ∧ f 14 = Value.bool (bif (decide (a1 ≤ a0)) then (decide (a0 ≤ a2)) else false)) ?_ ?_
 ·
  rcases bcase (decide (a1 ≤ a0)) with c27 | c27
  ·
   refine FL.val (wF_yes rfl rfl rfl c27) rfl rfl (E.move (v := Value.int .i64 a0) rfl) ?_
   refine FL.val (wF_yes rfl rfl rfl c27) rfl rfl (E.move (v := Value.int .i64 a2) rfl) ?_
   refine FL.val (wF_yes rfl rfl rfl c27) rfl rfl (E.leq rfl rfl) ?_
   refine FL.v (E.pickT rfl c27 rfl) ?_
   exact FL.nil ⟨rfl, _, S0, (Inc.rfl _), (congrArg Value.bool (bifT c27).symm)⟩
  ·
   refine FL.skip (wF_no rfl rfl rfl c27) rfl ?_
   refine FL.skip (wF_no rfl rfl rfl c27) rfl ?_
   refine FL.skip (wF_no rfl rfl rfl c27) rfl ?_
   refine FL.v (E.pickF rfl c27 rfl) ?_
   exact FL.nil ⟨rfl, _, S0, (Inc.rfl _), (congrArg Value.bool (bifF c27).symm)⟩
 rintro f26 w25 ⟨H22, S23, i24, k28⟩
 refine FL.v (E.assign k28) ?_
 refine FL.nil ?_
 refine FW.ret ?_
 obtain rfl := hp
 exact ⟨.inr rfl, res1 rfl rfl ⟨rfl, S23.back⟩⟩

theorem w_spec_l2Vars {Ha : GH} {wa : World} (hs : Sl Ha wa) (a0 : Int) :
  Calls Tryz.prog 90 #[Value.int .i64 a0] wa (Sc Ha wa (Value.bool (PF.spec_l2Vars a0))) := by
 obtain ⟨r, hp⟩ : ∃ r, (PF.spec_l2Vars a0) = r := ⟨_, rfl⟩
 rw [hp]
 unfold PF.spec_l2Vars at hp
 have S0 := St.init hs
 refine calls_go (N := 5) (args := [Value.int .i64 a0]) Tryz.func90 rfl rfl rfl ?_
 refine FW.seq (FW.region ?_)
 refine FL.v (E.assign (v := Value.bool false) rfl) ?_
 refine FL.nil (FW.seq (FW.region ?_))
 refine FL.v (E.move (v := Value.int .i64 a0) rfl) ?_
 refine FL.call rfl rfl rfl (E.call Tryz.call104 (A3 rfl rfl rfl)) (w_spec_l1In S0.sl a0 0 12) ?_
 rintro e w21 ⟨rfl, r22⟩
 refine ⟨_, rfl, ?_⟩
 have S23 := S0.call r22
 refine FL.v (E.assign (v := Value.bool (PF.spec_l1In a0 0 12)) rfl) ?_
 refine FL.nil ?_
 refine FW.ret ?_
 obtain rfl := hp
 exact ⟨.inr rfl, res1 rfl rfl ⟨rfl, S23.back⟩⟩

theorem w_spec_l2Lit {Ha : GH} {wa : World} (hs : Sl Ha wa) (a0 : Int) (a1 : Int) :
  Calls Tryz.prog 149 #[Value.int .i64 a0, Value.int .i64 a1] wa (Sc Ha wa (Value.bool (PF.spec_l2Lit a0 a1))) := by
 obtain ⟨r, hp⟩ : ∃ r, (PF.spec_l2Lit a0 a1) = r := ⟨_, rfl⟩
 rw [hp]
 unfold PF.spec_l2Lit at hp
 have S0 := St.init hs
 refine calls_go (N := 14) (args := [Value.int .i64 a0, Value.int .i64 a1]) Tryz.func149 rfl rfl rfl ?_
 refine FW.seq (FW.region ?_)
 refine FL.v (E.assign (v := Value.bool false) rfl) ?_
 refine FL.nil (FW.seq (FW.region ?_))
 refine FL.v (E.move (v := Value.int .i64 a1) rfl) ?_
 refine FL.v (E.move (v := Value.int .i64 a0) rfl) ?_
 refine FL.v (E.neg rfl) ?_
 refine FL.v (E.move (v := Value.int .i64 a0) rfl) ?_
 refine FL.call rfl rfl rfl (E.call Tryz.call104 (A3 rfl rfl rfl)) (w_spec_l1In S0.sl a1 (wr (-a0)) a0) ?_
 rintro e w21 ⟨rfl, r22⟩
 refine ⟨_, rfl, ?_⟩
 have S23 := S0.call r22
 refine FL.v (E.move (v := Value.bool (PF.spec_l1In a1 (wr (-a0)) a0)) rfl) ?_
 refine FL.cut 3 (fun f w => ∃ H : GH, St Ha wa H w [] ∧ Inc Ha H ∧ f 13 = Value.bool (bif (PF.spec_l1In a1 (wr (-a0)) a0) then (!(a1 == 0)) else false)) ?_ ?_
 ·
  rcases bcase (PF.spec_l1In a1 (wr (-a0)) a0) with c30 | c30
  ·
   refine FL.val (wF_yes rfl rfl rfl c30) rfl rfl (E.move (v := Value.int .i64 a1) rfl) ?_
   refine FL.val (wF_yes rfl rfl rfl c30) rfl rfl (E.neq rfl rfl) ?_
   refine FL.v (E.pickT rfl c30 rfl) ?_
   exact FL.nil ⟨rfl, _, S23, (Inc.rfl _), (congrArg Value.bool (bifT c30).symm)⟩
  ·
   refine FL.skip (wF_no rfl rfl rfl c30) rfl ?_
   refine FL.skip (wF_no rfl rfl rfl c30) rfl ?_
   refine FL.v (E.pickF rfl c30 rfl) ?_
   exact FL.nil ⟨rfl, _, S23, (Inc.rfl _), (congrArg Value.bool (bifF c30).symm)⟩
 rintro f29 w28 ⟨H25, S26, i27, k31⟩
 refine FL.v (E.assign k31) ?_
 refine FL.nil ?_
 refine FW.ret ?_
 obtain rfl := hp
 exact ⟨.inr rfl, res1 rfl rfl ⟨rfl, S26.back⟩⟩

theorem w_spec_l2Var {Ha : GH} {wa : World} (hs : Sl Ha wa) (a0 : Int) :
  Calls Tryz.prog 138 #[Value.int .i64 a0] wa (Sc Ha wa (Value.int .i64 (PF.spec_l2Var a0))) := by
 obtain ⟨r, hp⟩ : ∃ r, (PF.spec_l2Var a0) = r := ⟨_, rfl⟩
 rw [hp]
 unfold PF.spec_l2Var at hp
 have S0 := St.init hs
 refine calls_go (N := 8) (args := [Value.int .i64 a0]) Tryz.func138 rfl rfl rfl ?_
 refine FW.seq (FW.region ?_)
 refine FL.v (E.assign (v := Value.int .i64 0) rfl) ?_
 refine FL.nil (FW.seq (FW.seq (FW.region ?_)))
 refine FL.v (E.move (v := Value.int .i64 a0) rfl) ?_
 refine FL.v (E.lss rfl rfl) ?_
 refine FL.nil ?_
 rcases ifT hp with ⟨c21, hp⟩ | ⟨c21, hp⟩
 ·
  refine FW.condT rfl c21 ?_
  refine FW.seq (FW.region ?_)
  refine FL.v (E.move (v := Value.int .i64 a0) rfl) ?_
  refine FL.v (E.neg rfl) ?_
  refine FL.v (E.assign (v := Value.int .i64 (wr (-a0))) rfl) ?_
  refine FL.nil ?_
  refine FW.ret ?_
  obtain rfl := hp
  exact ⟨.inr rfl, res1 rfl rfl ⟨rfl, S0.back⟩⟩
 ·
  refine FW.condF rfl c21 ?_
  refine FW.skip (FW.seq (FW.region ?_))
  refine FL.v (E.move (v := Value.int .i64 a0) rfl) ?_
  refine FL.v (E.assign (v := Value.int .i64 a0) rfl) ?_
  refine FL.nil ?_
  refine FW.ret ?_
  obtain rfl := hp
  exact ⟨.inr rfl, res1 rfl rfl ⟨rfl, S0.back⟩⟩

theorem w_spec_l2Clause {Ha : GH} {wa : World} (hs : Sl Ha wa) (a0 : Int) (v1 : Value) (a1 : List Int) (p1 : RSl Ha eI 1 v1 a1) {r : Bool} (hp : (PF.spec_l2Clause a0 a1) = some r) :
  Calls Tryz.prog 91 #[Value.int .i64 a0, v1] wa (Sc Ha wa (Value.bool r)) := by
 unfold PF.spec_l2Clause at hp
 have S0 := St.init hs
 refine calls_go (N := 40) (args := [Value.int .i64 a0, v1]) Tryz.func91 rfl rfl rfl ?_
 refine FW.seq (FW.region ?_)
 refine FL.v (E.assign (v := Value.bool false) rfl) ?_
 refine FL.nil (FW.seq (FW.seq (FW.region ?_)))
 refine FL.v (E.move (v := Value.int .i64 a0) rfl) ?_
 refine FL.call rfl rfl rfl (E.call Tryz.call90 (A1 rfl)) (w_spec_l2Vars S0.sl a0) ?_
 rintro e w21 ⟨rfl, r22⟩
 refine ⟨_, rfl, ?_⟩
 have S23 := S0.call r22
 refine FL.v (E.not rfl) ?_
 refine FL.nil ?_
 rcases ifB hp with ⟨c24, hp⟩ | ⟨c24, hp⟩
 ·
  refine FW.condT rfl c24 ?_
  refine FW.seq (FW.region ?_)
  refine FL.v (E.assign (v := Value.bool false) rfl) ?_
  refine FL.nil ?_
  refine FW.ret ?_
  obtain rfl := Option.some.inj hp
  exact ⟨.inr rfl, res1 rfl rfl ⟨rfl, S23.back⟩⟩
 ·
  refine FW.condF rfl c24 ?_
  refine FW.skip (FW.seq (FW.seq (FW.region ?_)))
  refine FL.v (E.assign (v := Value.int .i64 0) rfl) ?_
  refine FL.nil ?_
  obtain ⟨q26, hq, hp⟩ := bndR hp
  refine FW.block ?_
  refine FW.mono (FW.forL (S := Unit) (X := Bool) (fun (i26 : Nat) (s26 : Unit) f w => ∃ H : GH, St Ha wa H w [] ∧ Inc Ha H ∧ f 5 = Value.int .i64 ((i26 : Nat) : Int) ∧ f 0 = Value.int .i64 a0 ∧ f 1 = v1) (fun q e f w => match q with | .go s26 => e = Exit.exit 0 ∧ (∃ H : GH, St Ha wa H w [] ∧ Inc Ha H) | .rt x => ((e = Exit.ret) ∧ (fun e f w => (e = Exit.normal ∨ e = Exit.ret) ∧ ∀ a, Fr (δ := []) 40 a f → ∃ v, (results Tryz.f91 a.tmps).run Tryz.prog w = .ok v w ∧ (Sc Ha wa (Value.bool x)) (.returned v) w) e f w)) hq ⟨_, S23, (Inc.rfl _), rfl, rfl, rfl⟩ ?_ ?_) ?_
  ·
   clear hp hq
   rintro i26 y25 s26 f141 w140 ⟨H137, S138, i139, k142, k143, k144⟩ hx26 o247 hp
   refine FW.seq (FW.seq (FW.region ?_))
   refine FL.v (E.move k142) ?_
   refine FL.v (E.move k144) ?_
   refine FL.v (E.lenP te84 rfl p1) ?_
   refine FL.v (E.lssT rfl rfl (lss_len hx26)) ?_
   refine FL.nil ?_
   refine FW.condT rfl rfl ?_
   refine FW.skip (FW.seq (FW.block (FW.seq ?_)))
   refine FW.draw (fun w' => Run w140.heap.size H137 w140 H137 w') (by kernel_rfl) (by kernel_rfl) (run_drew S138.sl) ?_
   refine FD.val rfl rfl rfl (fun w' hw' => (E.move k143)) ?_
   refine FD.val rfl rfl rfl (fun w' hw' => (E.move k144)) ?_
   refine FD.val rfl rfl rfl (fun w' hw' => (E.move k142)) ?_
   obtain ⟨p146, cs147, pt148, l149, at150, rel151⟩ := p1.at (ix_nat hx26)
   obtain rfl := eI_open rel151
   refine FD.val rfl rfl rfl (fun w' hw' => (E.indexAddr te84 rfl rfl pt148)) ?_
   refine FD.val rfl rfl rfl (fun w' hw' => (E.load rfl (run_load0 Tryz.isAgg3 ((at150.mono i139).now (S138.call hw').sl) rfl))) ?_
   refine FD.call rfl rfl rfl (fun w' hw' => (E.call Tryz.call149 (A2 rfl rfl))) (fun w' hw' => Calls.cls hw' (w_spec_l2Lit (S138.call hw').sl a0 y25)) ?_
   refine FD.val rfl rfl rfl (fun w' hw' => (E.not rfl)) ?_
   refine FD.val rfl rfl rfl (fun w' hw' => (E.move (v := Value.bool (!(PF.spec_l2Lit a0 y25))) rfl)) ?_
   obtain ⟨t192, hqt192, hp⟩ := bnd hp
   refine FD.cut 17 (fun f => f 0 = Value.int .i64 a0 ∧ f 1 = v1 ∧ f 5 = Value.int .i64 ((i26 : Nat) : Int) ∧ f 39 = Value.bool t192) ?_ ?_
   ·
    clear hp; have hp := hqt192; clear hqt192
    rcases ifB hp with ⟨c198, hp⟩ | ⟨c198, hp⟩
    ·
     refine FD.skip (wF_no rfl rfl rfl c198) rfl ?_
     refine FD.skip (wF_no rfl rfl rfl c198) rfl ?_
     refine FD.skip (wF_no rfl rfl rfl c198) rfl ?_
     refine FD.skip (wF_undef rfl rfl rfl) rfl ?_
     refine FD.skip (wF_undef rfl rfl rfl) rfl ?_
     refine FD.skip (wF_undef rfl rfl rfl) rfl ?_
     refine FD.skip (wF_undef rfl rfl rfl) rfl ?_
     refine FD.skip (wF_undef rfl rfl rfl) rfl ?_
     refine FD.skip (wF_undef rfl rfl rfl) rfl ?_
     refine FD.skip (wF_undef rfl rfl rfl) rfl ?_
     refine FD.skip (wF_undef rfl rfl rfl) rfl ?_
     refine FD.skip (wF_undef rfl rfl rfl) rfl ?_
     refine FD.skip (wF_undef rfl rfl rfl) rfl ?_
     refine FD.skip (wF_undef rfl rfl rfl) rfl ?_
     refine FD.skip (wF_undef rfl rfl rfl) rfl ?_
     refine FD.skip (wF_no rfl rfl rfl c198) rfl ?_
     obtain rfl := Option.some.inj hp
     refine FD.val rfl rfl rfl (fun w' hw' => (E.pickT rfl c198 rfl)) ?_
     exact FD.nil ⟨k143, k144, k142, rfl⟩
    ·
     refine FD.val (wF_yes rfl rfl rfl c198) rfl rfl (fun w' hw' => (E.move k142)) ?_
     refine FD.val (wF_yes rfl rfl rfl c198) rfl rfl (fun w' hw' => (E.gtr rfl rfl)) ?_
     refine FD.val (wF_yes rfl rfl rfl c198) rfl rfl (fun w' hw' => (E.move (v := Value.bool (decide (0 < ((i26 : Nat) : Int)))) rfl)) ?_
     obtain ⟨t213, hqt213, hp⟩ := bnd hp
     refine FD.cut 13 (fun f => f 0 = Value.int .i64 a0 ∧ f 1 = v1 ∧ f 5 = Value.int .i64 ((i26 : Nat) : Int) ∧ f 22 = Value.bool (!(PF.spec_l2Lit a0 y25)) ∧ f 38 = Value.bool t213) ?_ ?_
     ·
      clear hp; have hp := hqt213; clear hqt213
      rcases ifB hp with ⟨c219, hp⟩ | ⟨c219, hp⟩
      ·
       refine FD.val (wF_yes rfl rfl rfl c219) rfl rfl (fun w' hw' => (E.move k144)) ?_
       refine FD.val (wF_yes rfl rfl rfl c219) rfl rfl (fun w' hw' => (E.move k142)) ?_
       refine FD.val (wF_yes rfl rfl rfl c219) rfl rfl (fun w' hw' => (E.sub rfl rfl)) ?_
       obtain ⟨x226, hx227, hp⟩ := bnd hp
       obtain ⟨p220, cs221, pt222, l223, at224, rel225⟩ := p1.at hx227
       obtain rfl := eI_open rel225
       refine FD.val (wF_yes rfl rfl rfl c219) rfl rfl (fun w' hw' => (E.indexAddr te84 rfl rfl pt222)) ?_
       refine FD.val (wF_yes rfl rfl rfl c219) rfl rfl (fun w' hw' => (E.load rfl (run_load0 Tryz.isAgg3 ((at224.mono i139).now (S138.call hw').sl) rfl))) ?_
       refine FD.call (wF_yes rfl rfl rfl c219) rfl rfl (fun w' hw' => (E.call Tryz.call138 (A1 rfl))) (fun w' hw' => Calls.cls hw' (w_spec_l2Var (S138.call hw').sl x226)) ?_
       refine FD.val (wF_yes rfl rfl rfl c219) rfl rfl (fun w' hw' => (E.move k144)) ?_
       refine FD.val (wF_yes rfl rfl rfl c219) rfl rfl (fun w' hw' => (E.move k142)) ?_
       obtain ⟨p228, cs229, pt230, l231, at232, rel233⟩ := p1.at (ix_nat hx26)
       obtain rfl := eI_open rel233
       refine FD.val (wF_yes rfl rfl rfl c219) rfl rfl (fun w' hw' => (E.indexAddr te84 rfl rfl pt230)) ?_
       refine FD.val (wF_yes rfl rfl rfl c219) rfl rfl (fun w' hw' => (E.load rfl (run_load0 Tryz.isAgg3 ((at232.mono i139).now (S138.call hw').sl) rfl))) ?_
       refine FD.call (wF_yes rfl rfl rfl c219) rfl rfl (fun w' hw' => (E.call Tryz.call138 (A1 rfl))) (fun w' hw' => Calls.cls hw' (w_spec_l2Var (S138.call hw').sl y25)) ?_
       refine FD.val (wF_yes rfl rfl rfl c219) rfl rfl (fun w' hw' => (E.geq rfl rfl)) ?_
       obtain rfl := Option.some.inj hp
       refine FD.val (wF_yes rfl rfl rfl c198) rfl rfl (fun w' hw' => (E.pickT rfl c219 rfl)) ?_
       exact FD.nil ⟨k143, k144, k142, rfl, rfl⟩
      ·
       refine FD.skip (wF_no rfl rfl rfl c219) rfl ?_
       refine FD.skip (wF_no rfl rfl rfl c219) rfl ?_
       refine FD.skip (wF_no rfl rfl rfl c219) rfl ?_
       refine FD.skip (wF_no rfl rfl rfl c219) rfl ?_
       refine FD.skip (wF_no rfl rfl rfl c219) rfl ?_
       refine FD.skip (wF_no rfl rfl rfl c219) rfl ?_
       refine FD.skip (wF_no rfl rfl rfl c219) rfl ?_
       refine FD.skip (wF_no rfl rfl rfl c219) rfl ?_
       refine FD.skip (wF_no rfl rfl rfl c219) rfl ?_
       refine FD.skip (wF_no rfl rfl rfl c219) rfl ?_
       refine FD.skip (wF_no rfl rfl rfl c219) rfl ?_
       refine FD.skip (wF_no rfl rfl rfl c219) rfl ?_
       obtain rfl := Option.some.inj hp
       refine FD.val (wF_yes rfl rfl rfl c198) rfl rfl (fun w' hw' => (E.pickF rfl c219 rfl)) ?_
       exact FD.nil ⟨k143, k144, k142, rfl, rfl⟩
     rintro f218 ⟨k234, k235, k236, k237, k238⟩
     obtain rfl := Option.some.inj hp
     refine FD.val rfl rfl rfl (fun w' hw' => (E.pickF k237 c198 k238)) ?_
     exact FD.nil ⟨k234, k235, k236, rfl⟩
   rintro f197 ⟨k239, k240, k241, k242⟩
   refine FD.nil ?_
   intro w243 r245
   have S244 := S138.call r245
   rcases ifB hp with ⟨c246, hp⟩ | ⟨c246, hp⟩
   ·
    refine FW.condT k242 c246 ?_
    refine FW.seq (FW.region ?_)
    refine FL.v (E.assign (v := Value.bool false) rfl) ?_
    refine FL.nil ?_
    refine FW.ret ?_
    obtain rfl := Option.some.inj hp
    exact ⟨nofun, rfl, ⟨.inr rfl, res1 rfl rfl ⟨rfl, S244.back⟩⟩⟩
   ·
    refine FW.condF k242 c246 ?_
    refine FW.skip (FW.region ?_)
    refine FL.v (E.move k241) ?_
    refine FL.v (E.add rfl rfl) ?_
    refine FL.v (E.assign (v := Value.int .i64 (wr (((i26 : Nat) : Int) + 1))) rfl) ?_
    refine FL.nil ?_
    obtain rfl := Option.some.inj hp
    exact ⟨rfl, ⟨_, S244, i139, (nat_succ rfl (lt_of_get hx26) (p1.mono i139).le), k239, k240⟩⟩
  ·
   clear hp hq
   rintro s26 f257 w256 ⟨H253, S254, i255, k258, k259, k260⟩
   refine FW.seq (FW.seq (FW.region ?_))
   refine FL.v (E.move k258) ?_
   refine FL.v (E.move k260) ?_
   refine FL.v (E.lenP te84 rfl p1) ?_
   refine FL.v (E.lss rfl rfl) ?_
   refine FL.nil ?_
   refine FW.condF rfl dlt_len ?_
   refine FW.exit ?_
   exact ⟨nofun, rfl, ⟨_, S254, i255⟩⟩
  ·
   clear hq
   intro e f252 w251 hD
   rcases q26 with s26 | x26
   ·
    obtain ⟨rfl, hD⟩ := hD
    obtain ⟨H248, S249, i250⟩ := hD
    replace hp := el_go hp
    refine FW.seq (FW.region ?_)
    refine FL.v (E.assign (v := Value.bool true) rfl) ?_
    refine FL.nil ?_
    refine FW.ret ?_
    obtain rfl := Option.some.inj hp
    exact ⟨.inr rfl, res1 rfl rfl ⟨rfl, S249.back⟩⟩
   ·
    obtain ⟨he, hL⟩ := hD
    replace hp := el_rt hp
    obtain rfl := Option.some.inj hp
    subst he
    exact hL

theorem w_spec_l2Good {Ha : GH} {wa : World} (hs : Sl Ha wa) (a0 : Cnf) (v0_1 : Value) (p0_1 : RSl Ha (eL eI 1) 1 v0_1 a0.clauses) {r : Bool} (hp : (PF.spec_l2Good a0) = some r) :
  Calls Tryz.prog 43 #[Value.agg #[Value.int .i64 a0.vars, v0_1]] wa (Sc Ha wa (Value.bool r)) := by
 unfold PF.spec_l2Good at hp
 have S0 := St.init hs
 refine calls_go (N := 30) (args := [Value.agg #[Value.int .i64 a0.vars, v0_1]]) Tryz.func43 rfl rfl rfl ?_
 refine FW.seq (FW.region ?_)
 obtain ⟨b21, w22, run23, S24⟩ := S0.box (P := Tryz.prog) 30 [Value.int .i64 a0.vars, v0_1] (v := Value.agg #[Value.int .i64 a0.vars, v0_1]) rfl (ones_cons rfl (ones_cons p0_1.one ones_nil))
 refine FL.v (E.box rfl run23) ?_
 obtain ⟨H25, S26, i27, at28⟩ := S24.sealBox (i := 0) (l' := []) rfl rfl
 refine FL.v (E.assign (v := Value.bool false) rfl) ?_
 refine FL.nil (FW.seq (FW.seq (FW.region ?_)))
 refine FL.v (E.fieldAddr tf30_0 rfl) ?_
 refine FL.v (E.load rfl (run_load1 Tryz.isAgg3 (at28.now S26.sl) rfl)) ?_
 refine FL.call rfl rfl rfl (E.call Tryz.call90 (A1 rfl)) (w_spec_l2Vars S26.sl a0.vars) ?_
 rintro e w29 ⟨rfl, r30⟩
 refine ⟨_, rfl, ?_⟩
 have S31 := S26.call r30
 refine FL.v (E.not rfl) ?_
 refine FL.v (E.move (v := Value.bool (!(PF.spec_l2Vars a0.vars))) rfl) ?_
 refine FL.cut 5 (fun f w => ∃ H : GH, St Ha wa H w [] ∧ Inc H25 H ∧ f 1 = Value.pointer (some ⟨b21, 0, none⟩) ∧ f 13 = Value.bool (bif (!(PF.spec_l2Vars a0.vars)) then true else (decide (60 < (len a0.clauses))))) ?_ ?_
 ·
  rcases bcase (!(PF.spec_l2Vars a0.vars)) with c38 | c38
  ·
   refine FL.skip (wF_no rfl rfl rfl c38) rfl ?_
   refine FL.skip (wF_no rfl rfl rfl c38) rfl ?_
   refine FL.skip (wF_no rfl rfl rfl c38) rfl ?_
   refine FL.skip (wF_no rfl rfl rfl c38) rfl ?_
   refine FL.v (E.pickT rfl c38 rfl) ?_
   exact FL.nil ⟨rfl, _, S31, (Inc.rfl _), rfl, (congrArg Value.bool (bifT c38).symm)⟩
  ·
   refine FL.val (wF_yes rfl rfl rfl c38) rfl rfl (E.fieldAddr tf30_1 rfl) ?_
   refine FL.val (wF_yes rfl rfl rfl c38) rfl rfl (E.load rfl (run_load1 Tryz.isAgg22 (at28.now S31.sl) rfl)) ?_
   refine FL.val (wF_yes rfl rfl rfl c38) rfl rfl (E.lenP te22 rfl p0_1) ?_
   refine FL.val (wF_yes rfl rfl rfl c38) rfl rfl (E.gtr rfl rfl) ?_
   refine FL.v (E.pickF rfl c38 rfl) ?_
   exact FL.nil ⟨rfl, _, S31, (Inc.rfl _), rfl, (congrArg Value.bool (bifF c38).symm)⟩
 rintro f37 w36 ⟨H33, S34, i35, k39, k40⟩
 refine FL.nil ?_
 rcases ifB hp with ⟨c41, hp⟩ | ⟨c41, hp⟩
 ·
  refine FW.condT k40 c41 ?_
  refine FW.seq (FW.region ?_)
  refine FL.v (E.assign (v := Value.bool false) rfl) ?_
  refine FL.nil ?_
  refine FW.ret ?_
  obtain rfl := Option.some.inj hp
  exact ⟨.inr rfl, res1 rfl rfl ⟨rfl, S34.back⟩⟩
 ·
  refine FW.condF k40 c41 ?_
  refine FW.skip (FW.seq (FW.seq (FW.region ?_)))
  refine FL.v (E.assign (v := Value.int .i64 0) rfl) ?_
  refine FL.nil ?_
  obtain ⟨q42, hq, hp⟩ := bndR hp
  refine FW.block ?_
  refine FW.mono (FW.iter (S := Int) (X := Bool) (fun (s42 : Int) f w => ∃ H : GH, St Ha wa H w [] ∧ Inc H33 H ∧ f 1 = Value.pointer (some ⟨b21, 0, none⟩) ∧ f 3 = Value.int .i64 s42) (fun q e f w => match q with | .go s42 => e = Exit.exit 0 ∧ (∃ H : GH, St Ha wa H w [] ∧ Inc H33 H) | .rt x => ((e = Exit.ret) ∧ (fun e f w => (e = Exit.normal ∨ e = Exit.ret) ∧ ∀ a, Fr (δ := []) 30 a f → ∃ v, (results Tryz.f43 a.tmps).run Tryz.prog w = .ok v w ∧ (Sc Ha wa (Value.bool x)) (.returned v) w) e f w)) hq ⟨_, S34, (Inc.rfl _), k39, rfl⟩ ?_) ?_
  ·
   clear hp hq
   rintro s42 f72 w71 ⟨H68, S69, i70, k73, k74⟩ o93 hp
   refine FW.seq (FW.seq (FW.region ?_))
   refine FL.v (E.move k74) ?_
   refine FL.v (E.fieldAddr tf30_1 k73) ?_
   refine FL.v (E.load rfl (run_load1 Tryz.isAgg22 ((at28.mono (i35.tr i70)).now S69.sl) rfl)) ?_
   refine FL.v (E.lenP te22 rfl p0_1) ?_
   refine FL.v (E.lss rfl rfl) ?_
   refine FL.nil ?_
   rcases ifB hp with ⟨c75, hp⟩ | ⟨c75, hp⟩
   ·
    refine FW.condT rfl c75 ?_
    refine FW.skip (FW.seq (FW.block (FW.seq ?_)))
    refine FW.draw (fun w' => Run w71.heap.size H68 w71 H68 w') (by kernel_rfl) (by kernel_rfl) (run_drew S69.sl) ?_
    refine FD.val rfl rfl rfl (fun w' hw' => (E.fieldAddr tf30_0 k73)) ?_
    refine FD.val rfl rfl rfl (fun w' hw' => (E.load rfl (run_load1 Tryz.isAgg3 ((at28.mono (i35.tr i70)).now (S69.call hw').sl) rfl))) ?_
    refine FD.val rfl rfl rfl (fun w' hw' => (E.fieldAddr tf30_1 k73)) ?_
    refine FD.val rfl rfl rfl (fun w' hw' => (E.load rfl (run_load1 Tryz.isAgg22 ((at28.mono (i35.tr i70)).now (S69.call hw').sl) rfl))) ?_
    refine FD.val rfl rfl rfl (fun w' hw' => (E.move k74)) ?_
    obtain ⟨x83, hx84, hp⟩ := bnd hp
    obtain ⟨p77, cs78, pt79, l80, at81, rel82⟩ := p0_1.at hx84
    obtain ⟨v85, rfl, h86⟩ := eL_open rel82
    refine FD.val rfl rfl rfl (fun w' hw' => (E.indexAddr te22 rfl rfl pt79)) ?_
    refine FD.val rfl rfl rfl (fun w' hw' => (E.load rfl (run_load0 Tryz.isAgg84 ((at81.mono ((i27.tr i35).tr i70)).now (S69.call hw').sl) rfl))) ?_
    obtain ⟨r87, hr88, hp⟩ := bnd hp
    refine FD.call rfl rfl rfl (fun w' hw' => (E.call Tryz.call91 (A2 rfl rfl))) (fun w' hw' => Calls.cls hw' (w_spec_l2Clause (S69.call hw').sl a0.vars v85 x83 (h86.mono ((i27.tr i35).tr i70)) hr88)) ?_
    refine FD.val rfl rfl rfl (fun w' hw' => (E.not rfl)) ?_
    refine FD.nil ?_
    intro w89 r91
    have S90 := S69.call r91
    rcases ifB hp with ⟨c92, hp⟩ | ⟨c92, hp⟩
    ·
     refine FW.condT rfl c92 ?_
     refine FW.seq (FW.region ?_)
     refine FL.v (E.assign (v := Value.bool false) rfl) ?_
     refine FL.nil ?_
     refine FW.ret ?_
     obtain rfl := Option.some.inj hp
     exact ⟨nofun, rfl, ⟨.inr rfl, res1 rfl rfl ⟨rfl, S90.back⟩⟩⟩
    ·
     refine FW.condF rfl c92 ?_
     refine FW.skip (FW.region ?_)
     refine FL.v (E.move k74) ?_
     refine FL.v (E.add rfl rfl) ?_
     refine FL.v (E.assign (v := Value.int .i64 (wr (s42 + 1))) rfl) ?_
     refine FL.nil ?_
     obtain rfl := Option.some.inj hp
     exact ⟨rfl, ⟨_, S90, i70, k73, rfl⟩⟩
   ·
    refine FW.condF rfl c75 ?_
    refine FW.exit ?_
    obtain rfl := Option.some.inj hp
    exact ⟨nofun, rfl, ⟨_, S69, i70⟩⟩
  ·
   clear hq
   intro e f98 w97 hD
   rcases q42 with s42 | x42
   ·
    obtain ⟨rfl, hD⟩ := hD
    obtain ⟨H94, S95, i96⟩ := hD
    replace hp := el_go hp
    refine FW.seq (FW.region ?_)
    refine FL.v (E.assign (v := Value.bool true) rfl) ?_
    refine FL.nil ?_
    refine FW.ret ?_
    obtain rfl := Option.some.inj hp
    exact ⟨.inr rfl, res1 rfl rfl ⟨rfl, S95.back⟩⟩
   ·
    obtain ⟨he, hL⟩ := hD
    replace hp := el_rt hp
    obtain rfl := Option.some.inj hp
    subst he
    exact hL

theorem w_spec_l2Key {Ha : GH} {wa : World} (hs : Sl Ha wa) (a0 : Int) :
  Calls Tryz.prog 212 #[Value.int .i64 a0] wa (Sc Ha wa (Value.int .i64 (PF.spec_l2Key a0))) := by
 obtain ⟨r, hp⟩ : ∃ r, (PF.spec_l2Key a0) = r := ⟨_, rfl⟩
 rw [hp]
 unfold PF.spec_l2Key at hp
 have S0 := St.init hs
 refine calls_go (N := 10) (args := [Value.int .i64 a0]) Tryz.func212 rfl rfl rfl ?_
 refine FW.seq (FW.region ?_)
 refine FL.v (E.assign (v := Value.int .i64 0) rfl) ?_
 refine FL.nil (FW.seq (FW.seq (FW.region ?_)))
 refine FL.v (E.move (v := Value.int .i64 a0) rfl) ?_
 refine FL.v (E.lss rfl rfl) ?_
 refine FL.nil ?_
 rcases ifT hp with ⟨c21, hp⟩ | ⟨c21, hp⟩
 ·
  refine FW.condT rfl c21 ?_
  refine FW.seq (FW.region ?_)
  refine FL.v (E.move (v := Value.int .i64 a0) rfl) ?_
  refine FL.v (E.mul rfl rfl) ?_
  refine FL.v (E.add rfl rfl) ?_
  refine FL.v (E.assign (v := Value.int .i64 (wr ((wr ((-2) * a0)) + 1))) rfl) ?_
  refine FL.nil ?_
  refine FW.ret ?_
  obtain rfl := hp
  exact ⟨.inr rfl, res1 rfl rfl ⟨rfl, S0.back⟩⟩
 ·
  refine FW.condF rfl c21 ?_
  refine FW.skip (FW.seq (FW.region ?_))
  refine FL.v (E.move (v := Value.int .i64 a0) rfl) ?_
  refine FL.v (E.mul rfl rfl) ?_
  refine FL.v (E.assign (v := Value.int .i64 (wr (2 * a0))) rfl) ?_
  refine FL.nil ?_
  refine FW.ret ?_
  obtain rfl := hp
  exact ⟨.inr rfl, res1 rfl rfl ⟨rfl, S0.back⟩⟩

theorem w_spec_l2Before {Ha : GH} {wa : World} (hs : Sl Ha wa) (v0 : Value) (a0 : List Int) (p0 : RSl Ha eI 1 v0 a0) (v1 : Value) (a1 : List Int) (p1 : RSl Ha eI 1 v1 a1) {r : Bool} (hp : (PF.spec_l2Before a0 a1) = some r) :
  Calls Tryz.prog 169 #[v0, v1] wa (Sc Ha wa (Value.bool r)) := by
 unfold PF.spec_l2Before at hp
 have S0 := St.init hs
 refine calls_go (N := 42) (args := [v0, v1]) Tryz.func169 rfl rfl rfl ?_
 refine FW.seq (FW.region ?_)
 refine FL.v (E.assign (v := Value.bool false) rfl) ?_
 refine FL.nil (FW.seq (FW.seq (FW.region ?_)))
 refine FL.v (E.move (v := v0) rfl) ?_
 refine FL.v (E.lenP te84 rfl p0) ?_
 refine FL.v (E.move (v := v1) rfl) ?_
 refine FL.v (E.lenP te84 rfl p1) ?_
 refine FL.v (E.neq rfl rfl) ?_
 refine FL.nil ?_
 rcases ifB hp with ⟨c21, hp⟩ | ⟨c21, hp⟩
 ·
  refine FW.condT rfl c21 ?_
  refine FW.seq (FW.region ?_)
  refine FL.v (E.move (v := v0) rfl) ?_
  refine FL.v (E.lenP te84 rfl p0) ?_
  refine FL.v (E.move (v := v1) rfl) ?_
  refine FL.v (E.lenP te84 rfl p1) ?_
  refine FL.v (E.lss rfl rfl) ?_
  refine FL.v (E.assign (v := Value.bool (decide ((len a0) < (len a1)))) rfl) ?_
  refine FL.nil ?_
  refine FW.ret ?_
  obtain rfl := Option.some.inj hp
  exact ⟨.inr rfl, res1 rfl rfl ⟨rfl, S0.back⟩⟩
 ·
  refine FW.condF rfl c21 ?_
  refine FW.skip (FW.seq (FW.seq (FW.region ?_)))
  refine FL.v (E.assign (v := Value.int .i64 0) rfl) ?_
  refine FL.nil ?_
  obtain ⟨q23, hq, hp⟩ := bndR hp
  refine FW.block ?_
  refine FW.mono (FW.forL (S := Unit) (X := Bool) (fun (i23 : Nat) (s23 : Unit) f w => ∃ H : GH, St Ha wa H w [] ∧ Inc Ha H ∧ f 5 = Value.int .i64 ((i23 : Nat) : Int) ∧ f 0 = v0 ∧ f 1 = v1) (fun q e f w => match q with | .go s23 => e = Exit.exit 0 ∧ (∃ H : GH, St Ha wa H w [] ∧ Inc Ha H) | .rt x => ((e = Exit.ret) ∧ (fun e f w => (e = Exit.normal ∨ e = Exit.ret) ∧ ∀ a, Fr (δ := []) 42 a f → ∃ v, (results Tryz.f169 a.tmps).run Tryz.prog w = .ok v w ∧ (Sc Ha wa (Value.bool x)) (.returned v) w) e f w)) hq ⟨_, S0, (Inc.rfl _), rfl, rfl, rfl⟩ ?_ ?_) ?_
  ·
   clear hp hq
   rintro i23 y22 s23 f73 w72 ⟨H69, S70, i71, k74, k75, k76⟩ hx23 o114 hp
   refine FW.seq (FW.seq (FW.region ?_))
   refine FL.v (E.move k74) ?_
   refine FL.v (E.move k75) ?_
   refine FL.v (E.lenP te84 rfl p0) ?_
   refine FL.v (E.lssT rfl rfl (lss_len hx23)) ?_
   refine FL.nil ?_
   refine FW.condT rfl rfl ?_
   refine FW.skip (FW.seq (FW.block (FW.seq ?_)))
   refine FW.draw (fun w' => Run w72.heap.size H69 w72 H69 w') (by kernel_rfl) (by kernel_rfl) (run_drew S70.sl) ?_
   refine FD.val rfl rfl rfl (fun w' hw' => (E.move k75)) ?_
   refine FD.val rfl rfl rfl (fun w' hw' => (E.move k74)) ?_
   obtain ⟨p78, cs79, pt80, l81, at82, rel83⟩ := p0.at (ix_nat hx23)
   obtain rfl := eI_open rel83
   refine FD.val rfl rfl rfl (fun w' hw' => (E.indexAddr te84 rfl rfl pt80)) ?_
   refine FD.val rfl rfl rfl (fun w' hw' => (E.load rfl (run_load0 Tryz.isAgg3 ((at82.mono i71).now (S70.call hw').sl) rfl))) ?_
   refine FD.val rfl rfl rfl (fun w' hw' => (E.move k76)) ?_
   refine FD.val rfl rfl rfl (fun w' hw' => (E.move k74)) ?_
   obtain ⟨x90, hx91, hp⟩ := bnd hp
   obtain ⟨p84, cs85, pt86, l87, at88, rel89⟩ := p1.at hx91
   obtain rfl := eI_open rel89
   refine FD.val rfl rfl rfl (fun w' hw' => (E.indexAddr te84 rfl rfl pt86)) ?_
   refine FD.val rfl rfl rfl (fun w' hw' => (E.load rfl (run_load0 Tryz.isAgg3 ((at88.mono i71).now (S70.call hw').sl) rfl))) ?_
   refine FD.val rfl rfl rfl (fun w' hw' => (E.neq rfl rfl)) ?_
   refine FD.nil ?_
   intro w92 r94
   have S93 := S70.call r94
   rcases ifB hp with ⟨c95, hp⟩ | ⟨c95, hp⟩
   ·
    refine FW.condT rfl c95 ?_
    refine FW.seq ?_
    refine FW.draw (fun w' => Run w92.heap.size H69 w92 H69 w') (by kernel_rfl) (by kernel_rfl) (run_drew S93.sl) ?_
    refine FD.val rfl rfl rfl (fun w' hw' => (E.move k75)) ?_
    refine FD.val rfl rfl rfl (fun w' hw' => (E.move k74)) ?_
    obtain ⟨p97, cs98, pt99, l100, at101, rel102⟩ := p0.at (ix_nat hx23)
    obtain rfl := eI_open rel102
    refine FD.val rfl rfl rfl (fun w' hw' => (E.indexAddr te84 rfl rfl pt99)) ?_
    refine FD.val rfl rfl rfl (fun w' hw' => (E.load rfl (run_load0 Tryz.isAgg3 ((at101.mono i71).now (S93.call hw').sl) rfl))) ?_
    refine FD.call rfl rfl rfl (fun w' hw' => (E.call Tryz.call212 (A1 rfl))) (fun w' hw' => Calls.cls hw' (w_spec_l2Key (S93.call hw').sl y22)) ?_
    refine FD.val rfl rfl rfl (fun w' hw' => (E.move k76)) ?_
    refine FD.val rfl rfl rfl (fun w' hw' => (E.move k74)) ?_
    obtain ⟨x109, hx110, hp⟩ := bnd hp
    obtain ⟨p103, cs104, pt105, l106, at107, rel108⟩ := p1.at hx110
    obtain rfl := eI_open rel108
    refine FD.val rfl rfl rfl (fun w' hw' => (E.indexAddr te84 rfl rfl pt105)) ?_
    refine FD.val rfl rfl rfl (fun w' hw' => (E.load rfl (run_load0 Tryz.isAgg3 ((at107.mono i71).now (S93.call hw').sl) rfl))) ?_
    refine FD.call rfl rfl rfl (fun w' hw' => (E.call Tryz.call212 (A1 rfl))) (fun w' hw' => Calls.cls hw' (w_spec_l2Key (S93.call hw').sl x109)) ?_
    refine FD.val rfl rfl rfl (fun w' hw' => (E.lss rfl rfl)) ?_
    refine FD.val rfl rfl rfl (fun w' hw' => (E.assign (v := Value.bool (decide ((PF.spec_l2Key y22) < (PF.spec_l2Key x109)))) rfl)) ?_
    refine FD.nil ?_
    intro w111 r113
    have S112 := S93.call r113
    refine FW.ret ?_
    obtain rfl := Option.some.inj hp
    exact ⟨nofun, rfl, ⟨.inr rfl, res1 rfl rfl ⟨rfl, S112.back⟩⟩⟩
   ·
    refine FW.condF rfl c95 ?_
    refine FW.skip (FW.region ?_)
    refine FL.v (E.move k74) ?_
    refine FL.v (E.add rfl rfl) ?_
    refine FL.v (E.assign (v := Value.int .i64 (wr (((i23 : Nat) : Int) + 1))) rfl) ?_
    refine FL.nil ?_
    obtain rfl := Option.some.inj hp
    exact ⟨rfl, ⟨_, S93, i71, (nat_succ rfl (lt_of_get hx23) (p0.mono i71).le), k75, k76⟩⟩
  ·
   clear hp hq
   rintro s23 f124 w123 ⟨H120, S121, i122, k125, k126, k127⟩
   refine FW.seq (FW.seq (FW.region ?_))
   refine FL.v (E.move k125) ?_
   refine FL.v (E.move k126) ?_
   refine FL.v (E.lenP te84 rfl p0) ?_
   refine FL.v (E.lss rfl rfl) ?_
   refine FL.nil ?_
   refine FW.condF rfl dlt_len ?_
   refine FW.exit ?_
   exact ⟨nofun, rfl, ⟨_, S121, i122⟩⟩
  ·
   clear hq
   intro e f119 w118 hD
   rcases q23 with s23 | x23
   ·
    obtain ⟨rfl, hD⟩ := hD
    obtain ⟨H115, S116, i117⟩ := hD
    replace hp := el_go hp
    refine FW.seq (FW.region ?_)
    refine FL.v (E.assign (v := Value.bool false) rfl) ?_
    refine FL.nil ?_
    refine FW.ret ?_
    obtain rfl := Option.some.inj hp
    exact ⟨.inr rfl, res1 rfl rfl ⟨rfl, S116.back⟩⟩
   ·
    obtain ⟨he, hL⟩ := hD
    replace hp := el_rt hp
    obtain rfl := Option.some.inj hp
    subst he
    exact hL

theorem w_spec_l2Place {Ha : GH} {wa : World} (hs : Sl Ha wa) (v0 : Value) (a0 : List (List Int)) (p0 : RSl Ha (eL eI 1) 1 v0 a0) (v1 : Value) (a1 : List Int) (p1 : RSl Ha eI 1 v1 a1) {r : Int} (hp : (PF.spec_l2Place a0 a1) = some r) :
    Calls Tryz.prog 106 #[v0, v1] wa (Sc Ha wa (Value.int .i64 r)) := by
  unfold PF.spec_l2Place at hp
  have S0 := St.init hs
  refine calls_go (N := 27) (args := [v0, v1]) Tryz.func106 rfl rfl rfl ?_
  refine FW.seq (FW.region ?_)
  refine FL.v (E.assign (v := Value.int .i64 0) rfl) ?_
  refine FL.nil (FW.seq (FW.region ?_))
  refine FL.v (E.move (v := v0) rfl) ?_
  refine FL.v (E.lenP te22 rfl p0) ?_
  refine FL.v (E.assign (v := Value.int .i64 0) rfl) ?_
  refine FL.v (E.assign (v := Value.int .i64 (len a0)) rfl) ?_
  refine FL.nil (FW.seq ?_)
  obtain ⟨q21, hq, hp⟩ := bndR hp
  refine FW.block ?_
  refine FW.mono (FW.iter (S := (Int × Int)) (X := Empty) (fun (s21 : (Int × Int)) f w => ∃ H : GH, St Ha wa H w [] ∧ Inc Ha H ∧ f 0 = v0 ∧ f 1 = v1 ∧ f 5 = Value.int .i64 s21.1 ∧ f 6 = Value.int .i64 s21.2) (fun (q : Rs (Int × Int) Empty) e f w => match q with | .go s21 => e = Exit.exit 0 ∧ (∃ H : GH, St Ha wa H w [] ∧ Inc Ha H ∧ f 5 = Value.int .i64 s21.1) | .rt x => x.elim) hq ⟨_, S0, (Inc.rfl _), rfl, rfl, rfl, rfl⟩ ?_) ?_
  ·
    clear hp hq
    rintro s21 f52 w51 ⟨H48, S49, i50, k53, k54, k55, k56⟩ o74 hp
    refine FW.seq (FW.seq (FW.region ?_))
    refine FL.v (E.move k55) ?_
    refine FL.v (E.move k56) ?_
    refine FL.v (E.lss rfl rfl) ?_
    refine FL.nil ?_
    rcases ifB hp with ⟨c57, hp⟩ | ⟨c57, hp⟩
    ·
      refine FW.condT rfl c57 ?_
      refine FW.skip (FW.block (FW.seq (FW.region ?_)))
      refine FL.v (E.move k55) ?_
      refine FL.v (E.move k56) ?_
      refine FL.v (E.add rfl rfl) ?_
      refine FL.v (E.quo rfl rfl (by decide)) ?_
      refine FL.v (E.assign (v := Value.int .i64 (wr ((wr (s21.1 + s21.2)).tdiv 2))) rfl) ?_
      refine FL.nil (FW.seq (FW.region ?_))
      refine FL.v (E.move k53) ?_
      refine FL.v (E.move (v := Value.int .i64 (wr ((wr (s21.1 + s21.2)).tdiv 2))) rfl) ?_
      obtain ⟨x64, hx65, hp⟩ := bnd hp
      obtain ⟨p58, cs59, pt60, l61, at62, rel63⟩ := p0.at hx65
      obtain ⟨v66, rfl, h67⟩ := eL_open rel63
      refine FL.v (E.indexAddr te22 rfl rfl pt60) ?_
      refine FL.v (E.load rfl (run_load0 Tryz.isAgg84 ((at62.mono i50).now S49.sl) rfl)) ?_
      refine FL.v (E.move k54) ?_
      obtain ⟨r68, hr69, hp⟩ := bnd hp
      refine FL.call rfl rfl rfl (E.call Tryz.call169 (A2 rfl rfl)) (w_spec_l2Before S49.sl v66 x64 (h67.mono i50) v1 a1 (p1.mono i50) hr69) ?_
      rintro e w70 ⟨rfl, r71⟩
      refine ⟨_, rfl, ?_⟩
      have S72 := S49.call r71
      refine FL.nil ?_
      rcases ifB hp with ⟨c73, hp⟩ | ⟨c73, hp⟩
      ·
        refine FW.condT rfl c73 ?_
        refine FW.region ?_
        refine FL.v (E.move (v := Value.int .i64 (wr ((wr (s21.1 + s21.2)).tdiv 2))) rfl) ?_
        refine FL.v (E.add rfl rfl) ?_
        refine FL.v (E.assign (v := Value.int .i64 (wr ((wr ((wr (s21.1 + s21.2)).tdiv 2)) + 1))) rfl) ?_
        refine FL.nil ?_
        obtain rfl := Option.some.inj hp
        exact ⟨rfl, ⟨_, S72, i50, k53, k54, rfl, k56⟩⟩
      ·
        refine FW.condF rfl c73 ?_
        refine FW.region ?_
        refine FL.v (E.move (v := Value.int .i64 (wr ((wr (s21.1 + s21.2)).tdiv 2))) rfl) ?_
        refine FL.v (E.assign (v := Value.int .i64 (wr ((wr (s21.1 + s21.2)).tdiv 2))) rfl) ?_
        refine FL.nil ?_
        obtain rfl := Option.some.inj hp
        exact ⟨rfl, ⟨_, S72, i50, k53, k54, k55, rfl⟩⟩
    ·
      refine FW.condF rfl c57 ?_
      refine FW.exit ?_
      obtain rfl := Option.some.inj hp
      exact ⟨nofun, rfl, ⟨_, S49, i50, k55⟩⟩
  ·
    clear hq
    intro e f79 w78 hD
    rcases q21 with s21 | x21
    ·
      obtain ⟨rfl, hD⟩ := hD
      obtain ⟨H75, S76, i77, k80⟩ := hD
      replace hp := el_go hp
      refine FW.seq (FW.region ?_)
      refine FL.v (E.move k80) ?_
      refine FL.v (E.assign (v := Value.int .i64 s21.1) rfl) ?_
      refine FL.nil ?_
      refine FW.ret ?_
      obtain rfl := Option.some.inj hp
      exact ⟨.inr rfl, res1 rfl rfl ⟨rfl, S76.back⟩⟩
    · exact x21.elim

theorem w_spec_l1Same {Ha : GH} {wa : World} (hs : Sl Ha wa) (v0 : Value) (a0 : List Int) (p0 : RSl Ha eI 1 v0 a0) (v1 : Value) (a1 : List Int) (p1 : RSl Ha eI 1 v1 a1) {r : Bool} (hp : (PF.spec_l1Same a0 a1) = some r) :
  Calls Tryz.prog 107 #[v0, v1] wa (Sc Ha wa (Value.bool r)) := by
 unfold PF.spec_l1Same at hp
 have S0 := St.init hs
 refine calls_go (N := 26) (args := [v0, v1]) Tryz.func107 rfl rfl rfl ?_
 refine FW.seq (FW.region ?_)
 refine FL.v (E.assign (v := Value.bool false) rfl) ?_
 refine FL.nil (FW.seq (FW.seq (FW.region ?_)))
 refine FL.v (E.move (v := v0) rfl) ?_
 refine FL.v (E.lenP te84 rfl p0) ?_
 refine FL.v (E.move (v := v1) rfl) ?_
 refine FL.v (E.lenP te84 rfl p1) ?_
 refine FL.v (E.neq rfl rfl) ?_
 refine FL.nil ?_
 rcases ifB hp with ⟨c21, hp⟩ | ⟨c21, hp⟩
 ·
  refine FW.condT rfl c21 ?_
  refine FW.seq (FW.region ?_)
  refine FL.v (E.assign (v := Value.bool false) rfl) ?_
  refine FL.nil ?_
  refine FW.ret ?_
  obtain rfl := Option.some.inj hp
  exact ⟨.inr rfl, res1 rfl rfl ⟨rfl, S0.back⟩⟩
 ·
  refine FW.condF rfl c21 ?_
  refine FW.skip (FW.seq (FW.seq (FW.region ?_)))
  refine FL.v (E.assign (v := Value.int .i64 0) rfl) ?_
  refine FL.nil ?_
  obtain ⟨q23, hq, hp⟩ := bndR hp
  refine FW.block ?_
  refine FW.mono (FW.forL (S := Unit) (X := Bool) (fun (i23 : Nat) (s23 : Unit) f w => ∃ H : GH, St Ha wa H w [] ∧ Inc Ha H ∧ f 5 = Value.int .i64 ((i23 : Nat) : Int) ∧ f 0 = v0 ∧ f 1 = v1) (fun q e f w => match q with | .go s23 => e = Exit.exit 0 ∧ (∃ H : GH, St Ha wa H w [] ∧ Inc Ha H) | .rt x => ((e = Exit.ret) ∧ (fun e f w => (e = Exit.normal ∨ e = Exit.ret) ∧ ∀ a, Fr (δ := []) 26 a f → ∃ v, (results Tryz.f107 a.tmps).run Tryz.prog w = .ok v w ∧ (Sc Ha wa (Value.bool x)) (.returned v) w) e f w)) hq ⟨_, S0, (Inc.rfl _), rfl, rfl, rfl⟩ ?_ ?_) ?_
  ·
   clear hp hq
   rintro i23 y22 s23 f55 w54 ⟨H51, S52, i53, k56, k57, k58⟩ hx23 o78 hp
   refine FW.seq (FW.seq (FW.region ?_))
   refine FL.v (E.move k56) ?_
   refine FL.v (E.move k57) ?_
   refine FL.v (E.lenP te84 rfl p0) ?_
   refine FL.v (E.lssT rfl rfl (lss_len hx23)) ?_
   refine FL.nil ?_
   refine FW.condT rfl rfl ?_
   refine FW.skip (FW.seq (FW.block (FW.seq ?_)))
   refine FW.draw (fun w' => Run w54.heap.size H51 w54 H51 w') (by kernel_rfl) (by kernel_rfl) (run_drew S52.sl) ?_
   refine FD.val rfl rfl rfl (fun w' hw' => (E.move k57)) ?_
   refine FD.val rfl rfl rfl (fun w' hw' => (E.move k56)) ?_
   obtain ⟨p60, cs61, pt62, l63, at64, rel65⟩ := p0.at (ix_nat hx23)
   obtain rfl := eI_open rel65
   refine FD.val rfl rfl rfl (fun w' hw' => (E.indexAddr te84 rfl rfl pt62)) ?_
   refine FD.val rfl rfl rfl (fun w' hw' => (E.load rfl (run_load0 Tryz.isAgg3 ((at64.mono i53).now (S52.call hw').sl) rfl))) ?_
   refine FD.val rfl rfl rfl (fun w' hw' => (E.move k58)) ?_
   refine FD.val rfl rfl rfl (fun w' hw' => (E.move k56)) ?_
   obtain ⟨x72, hx73, hp⟩ := bnd hp
   obtain ⟨p66, cs67, pt68, l69, at70, rel71⟩ := p1.at hx73
   obtain rfl := eI_open rel71
   refine FD.val rfl rfl rfl (fun w' hw' => (E.indexAddr te84 rfl rfl pt68)) ?_
   refine FD.val rfl rfl rfl (fun w' hw' => (E.load rfl (run_load0 Tryz.isAgg3 ((at70.mono i53).now (S52.call hw').sl) rfl))) ?_
   refine FD.val rfl rfl rfl (fun w' hw' => (E.neq rfl rfl)) ?_
   refine FD.nil ?_
   intro w74 r76
   have S75 := S52.call r76
   rcases ifB hp with ⟨c77, hp⟩ | ⟨c77, hp⟩
   ·
    refine FW.condT rfl c77 ?_
    refine FW.seq (FW.region ?_)
    refine FL.v (E.assign (v := Value.bool false) rfl) ?_
    refine FL.nil ?_
    refine FW.ret ?_
    obtain rfl := Option.some.inj hp
    exact ⟨nofun, rfl, ⟨.inr rfl, res1 rfl rfl ⟨rfl, S75.back⟩⟩⟩
   ·
    refine FW.condF rfl c77 ?_
    refine FW.skip (FW.region ?_)
    refine FL.v (E.move k56) ?_
    refine FL.v (E.add rfl rfl) ?_
    refine FL.v (E.assign (v := Value.int .i64 (wr (((i23 : Nat) : Int) + 1))) rfl) ?_
    refine FL.nil ?_
    obtain rfl := Option.some.inj hp
    exact ⟨rfl, ⟨_, S75, i53, (nat_succ rfl (lt_of_get hx23) (p0.mono i53).le), k57, k58⟩⟩
  ·
   clear hp hq
   rintro s23 f88 w87 ⟨H84, S85, i86, k89, k90, k91⟩
   refine FW.seq (FW.seq (FW.region ?_))
   refine FL.v (E.move k89) ?_
   refine FL.v (E.move k90) ?_
   refine FL.v (E.lenP te84 rfl p0) ?_
   refine FL.v (E.lss rfl rfl) ?_
   refine FL.nil ?_
   refine FW.condF rfl dlt_len ?_
   refine FW.exit ?_
   exact ⟨nofun, rfl, ⟨_, S85, i86⟩⟩
  ·
   clear hq
   intro e f83 w82 hD
   rcases q23 with s23 | x23
   ·
    obtain ⟨rfl, hD⟩ := hD
    obtain ⟨H79, S80, i81⟩ := hD
    replace hp := el_go hp
    refine FW.seq (FW.region ?_)
    refine FL.v (E.assign (v := Value.bool true) rfl) ?_
    refine FL.nil ?_
    refine FW.ret ?_
    obtain rfl := Option.some.inj hp
    exact ⟨.inr rfl, res1 rfl rfl ⟨rfl, S80.back⟩⟩
   ·
    obtain ⟨he, hL⟩ := hD
    replace hp := el_rt hp
    obtain rfl := Option.some.inj hp
    subst he
    exact hL

theorem w_spec_l2At {Ha : GH} {wa : World} (hs : Sl Ha wa) (v0 : Value) (a0 : List (List Int)) (p0 : RSl Ha (eL eI 1) 1 v0 a0) (v1 : Value) (a1 : List Int) (p1 : RSl Ha eI 1 v1 a1) {r : Int} (hp : (PF.spec_l2At a0 a1) = some r) :
  Calls Tryz.prog 150 #[v0, v1] wa (Sc Ha wa (Value.int .i64 r)) := by
 unfold PF.spec_l2At at hp
 have S0 := St.init hs
 refine calls_go (N := 22) (args := [v0, v1]) Tryz.func150 rfl rfl rfl ?_
 refine FW.seq (FW.region ?_)
 refine FL.v (E.assign (v := Value.int .i64 0) rfl) ?_
 refine FL.nil (FW.seq (FW.region ?_))
 refine FL.v (E.move (v := v0) rfl) ?_
 refine FL.v (E.move (v := v1) rfl) ?_
 obtain ⟨r21, hr22, hp⟩ := bnd hp
 refine FL.call rfl rfl rfl (E.call Tryz.call106 (A2 rfl rfl)) (w_spec_l2Place S0.sl v0 a0 p0 v1 a1 p1 hr22) ?_
 rintro e w23 ⟨rfl, r24⟩
 refine ⟨_, rfl, ?_⟩
 have S25 := S0.call r24
 refine FL.v (E.assign (v := Value.int .i64 r21) rfl) ?_
 refine FL.nil (FW.seq (FW.seq (FW.region ?_)))
 refine FL.v (E.move (v := Value.int .i64 r21) rfl) ?_
 refine FL.v (E.move (v := v0) rfl) ?_
 refine FL.v (E.lenP te22 rfl p0) ?_
 refine FL.v (E.lss rfl rfl) ?_
 refine FL.v (E.move (v := Value.bool (decide (r21 < (len a0)))) rfl) ?_
 obtain ⟨t41, hqt41, hp⟩ := bnd hp
 refine FL.cut 7 (fun f w => ∃ H : GH, St Ha wa H w [] ∧ Inc Ha H ∧ f 5 = Value.int .i64 r21 ∧ f 20 = Value.bool t41) ?_ ?_
 ·
  clear hp; have hp := hqt41; clear hqt41
  rcases ifB hp with ⟨c47, hp⟩ | ⟨c47, hp⟩
  ·
   refine FL.val (wF_yes rfl rfl rfl c47) rfl rfl (E.move (v := v0) rfl) ?_
   refine FL.val (wF_yes rfl rfl rfl c47) rfl rfl (E.move (v := Value.int .i64 r21) rfl) ?_
   obtain ⟨x54, hx55, hp⟩ := bnd hp
   obtain ⟨p48, cs49, pt50, l51, at52, rel53⟩ := p0.at hx55
   obtain ⟨v56, rfl, h57⟩ := eL_open rel53
   refine FL.val (wF_yes rfl rfl rfl c47) rfl rfl (E.indexAddr te22 rfl rfl pt50) ?_
   refine FL.val (wF_yes rfl rfl rfl c47) rfl rfl (E.load rfl (run_load0 Tryz.isAgg84 (at52.now S25.sl) rfl)) ?_
   refine FL.val (wF_yes rfl rfl rfl c47) rfl rfl (E.move (v := v1) rfl) ?_
   obtain ⟨r58, hr59, hp⟩ := bnd hp
   refine FL.call (wF_yes rfl rfl rfl c47) rfl rfl (E.call Tryz.call107 (A2 rfl rfl)) (w_spec_l1Same S25.sl v56 x54 h57 v1 a1 p1 hr59) ?_
   rintro e w60 ⟨rfl, r61⟩
   refine ⟨_, rfl, ?_⟩
   have S62 := S25.call r61
   obtain rfl := Option.some.inj hp
   refine FL.v (E.pickT rfl c47 rfl) ?_
   exact FL.nil ⟨rfl, _, S62, (Inc.rfl _), rfl, rfl⟩
  ·
   refine FL.skip (wF_no rfl rfl rfl c47) rfl ?_
   refine FL.skip (wF_no rfl rfl rfl c47) rfl ?_
   refine FL.skip (wF_no rfl rfl rfl c47) rfl ?_
   refine FL.skip (wF_no rfl rfl rfl c47) rfl ?_
   refine FL.skip (wF_no rfl rfl rfl c47) rfl ?_
   refine FL.skip (wF_no rfl rfl rfl c47) rfl ?_
   obtain rfl := Option.some.inj hp
   refine FL.v (E.pickF rfl c47 rfl) ?_
   exact FL.nil ⟨rfl, _, S25, (Inc.rfl _), rfl, rfl⟩
 rintro f46 w45 ⟨H42, S43, i44, k63, k64⟩
 refine FL.nil ?_
 rcases ifB hp with ⟨c65, hp⟩ | ⟨c65, hp⟩
 ·
  refine FW.condT k64 c65 ?_
  refine FW.seq (FW.region ?_)
  refine FL.v (E.move k63) ?_
  refine FL.v (E.assign (v := Value.int .i64 r21) rfl) ?_
  refine FL.nil ?_
  refine FW.ret ?_
  obtain rfl := Option.some.inj hp
  exact ⟨.inr rfl, res1 rfl rfl ⟨rfl, S43.back⟩⟩
 ·
  refine FW.condF k64 c65 ?_
  refine FW.skip (FW.seq (FW.region ?_))
  refine FL.v (E.assign (v := Value.int .i64 (-1)) rfl) ?_
  refine FL.nil ?_
  refine FW.ret ?_
  obtain rfl := Option.some.inj hp
  exact ⟨.inr rfl, res1 rfl rfl ⟨rfl, S43.back⟩⟩

@[reducible] def p_spec_l2Insert (Ha : GH) (wa : World) (r : (List (List Int))) : Ending → World → Prop :=
 fun e w' => ∃ H' : GH, ∃ v0 : Value, e = .returned (v0) ∧ Run wa.heap.size Ha wa H' w' ∧ RSl H' (eL eI 1) 1 v0 r
theorem w_spec_l2Insert {Ha : GH} {wa : World} (hs : Sl Ha wa) (v0 : Value) (a0 : List (List Int)) (p0 : RSl Ha (eL eI 1) 1 v0 a0) (v1 : Value) (a1 : List Int) (p1 : RSl Ha eI 1 v1 a1) {r : (List (List Int))} (hp : (PF.spec_l2Insert a0 a1) = some r) :
  Calls Tryz.prog 59 #[v0, v1] wa (p_spec_l2Insert Ha wa r) := by
 unfold PF.spec_l2Insert at hp
 have S0 := St.init hs
 refine calls_go (N := 34) (args := [v0, v1]) Tryz.func59 rfl rfl rfl ?_
 refine FW.seq (FW.region ?_)
 refine FL.v (E.assign (v := Value.slice none 0 0) rfl) ?_
 refine FL.nil (FW.seq (FW.region ?_))
 refine FL.v (E.move (v := v0) rfl) ?_
 refine FL.v (E.move (v := v1) rfl) ?_
 obtain ⟨r21, hr22, hp⟩ := bnd hp
 refine FL.call rfl rfl rfl (E.call Tryz.call106 (A2 rfl rfl)) (w_spec_l2Place S0.sl v0 a0 p0 v1 a1 p1 hr22) ?_
 rintro e w23 ⟨rfl, r24⟩
 refine ⟨_, rfl, ?_⟩
 have S25 := S0.call r24
 refine FL.v (E.assign (v := Value.int .i64 r21) rfl) ?_
 refine FL.nil (FW.seq (FW.seq (FW.region ?_)))
 refine FL.v (E.move (v := Value.int .i64 r21) rfl) ?_
 refine FL.v (E.move (v := v0) rfl) ?_
 refine FL.v (E.lenP te22 rfl p0) ?_
 refine FL.v (E.lss rfl rfl) ?_
 refine FL.v (E.move (v := Value.bool (decide (r21 < (len a0)))) rfl) ?_
 obtain ⟨t41, hqt41, hp⟩ := bnd hp
 refine FL.cut 7 (fun f w => ∃ H : GH, St Ha wa H w [] ∧ Inc Ha H ∧ f 0 = v0 ∧ f 1 = v1 ∧ f 5 = Value.int .i64 r21 ∧ f 20 = Value.bool t41) ?_ ?_
 ·
  clear hp; have hp := hqt41; clear hqt41
  rcases ifB hp with ⟨c47, hp⟩ | ⟨c47, hp⟩
  ·
   refine FL.val (wF_yes rfl rfl rfl c47) rfl rfl (E.move (v := v0) rfl) ?_
   refine FL.val (wF_yes rfl rfl rfl c47) rfl rfl (E.move (v := Value.int .i64 r21) rfl) ?_
   obtain ⟨x54, hx55, hp⟩ := bnd hp
   obtain ⟨p48, cs49, pt50, l51, at52, rel53⟩ := p0.at hx55
   obtain ⟨v56, rfl, h57⟩ := eL_open rel53
   refine FL.val (wF_yes rfl rfl rfl c47) rfl rfl (E.indexAddr te22 rfl rfl pt50) ?_
   refine FL.val (wF_yes rfl rfl rfl c47) rfl rfl (E.load rfl (run_load0 Tryz.isAgg84 (at52.now S25.sl) rfl)) ?_
   refine FL.val (wF_yes rfl rfl rfl c47) rfl rfl (E.move (v := v1) rfl) ?_
   obtain ⟨r58, hr59, hp⟩ := bnd hp
   refine FL.call (wF_yes rfl rfl rfl c47) rfl rfl (E.call Tryz.call107 (A2 rfl rfl)) (w_spec_l1Same S25.sl v56 x54 h57 v1 a1 p1 hr59) ?_
   rintro e w60 ⟨rfl, r61⟩
   refine ⟨_, rfl, ?_⟩
   have S62 := S25.call r61
   obtain rfl := Option.some.inj hp
   refine FL.v (E.pickT rfl c47 rfl) ?_
   exact FL.nil ⟨rfl, _, S62, (Inc.rfl _), rfl, rfl, rfl, rfl⟩
  ·
   refine FL.skip (wF_no rfl rfl rfl c47) rfl ?_
   refine FL.skip (wF_no rfl rfl rfl c47) rfl ?_
   refine FL.skip (wF_no rfl rfl rfl c47) rfl ?_
   refine FL.skip (wF_no rfl rfl rfl c47) rfl ?_
   refine FL.skip (wF_no rfl rfl rfl c47) rfl ?_
   refine FL.skip (wF_no rfl rfl rfl c47) rfl ?_
   obtain rfl := Option.some.inj hp
   refine FL.v (E.pickF rfl c47 rfl) ?_
   exact FL.nil ⟨rfl, _, S25, (Inc.rfl _), rfl, rfl, rfl, rfl⟩
 rintro f46 w45 ⟨H42, S43, i44, k63, k64, k65, k66⟩
 refine FL.nil ?_
 rcases ifB hp with ⟨c67, hp⟩ | ⟨c67, hp⟩
 ·
  refine FW.condT k66 c67 ?_
  refine FW.seq (FW.region ?_)
  refine FL.v (E.move k63) ?_
  refine FL.v (E.assign (v := v0) rfl) ?_
  refine FL.nil ?_
  refine FW.ret ?_
  obtain rfl := Option.some.inj hp
  exact ⟨.inr rfl, res1 rfl rfl ⟨_, _, rfl, S43.run, (p0.mono i44)⟩⟩
 ·
  refine FW.condF k66 c67 ?_
  refine FW.skip (FW.seq ?_)
  obtain ⟨xs31, hc32, hp⟩ := bnd hp
  obtain ⟨xs36, hz37, hp⟩ := bnd hp
  obtain ⟨xs80, hz81, hp⟩ := bnd hp
  obtain ⟨xs91, hc92, hp⟩ := bnd hp
  obtain ⟨xs96, hz97, hp⟩ := bnd hp
  refine FW.drawB (Sl H42) (fun f w => ∃ H : GH, ∃ v105 : Value, ∃ n106 : Nat, ∃ cs107 : List Value, St Ha wa H w [.row 84 1 v105 n106 cs107] ∧ Inc H42 H ∧ Els H (eL eI 1) 1 cs107 xs96 ∧ f 4 = v105) (by kernel_rfl) S43.sl ?_ ?_
  ·
   intro w68 r69
   have S70 := S43.call r69
   refine FB.t (i := 1) (bs 13 2) rfl (SP.nil S70.sl) rfl (fun w' hw' => (E.move k63)) ?_
   refine FB.t (i := 2) (bs 13 6) rfl (SP.nil S70.sl) rfl (fun w' hw' => (E.move k65)) ?_
   obtain ⟨v33, run34, h35⟩ := p0.cut te22 hc32 (lo := none) (hi := some (Value.int .i64 r21)) (.inl ⟨rfl, rfl⟩) (.inr ⟨_, rfl⟩)
   refine FB.t (i := 3) (bs 13 14) rfl (SP.nil S70.sl) rfl (fun w' hw' => (E.slice te22 rfl rfl (congrArg some rfl) rfl (run34 _))) ?_
   refine FB.t (i := 5) (bs 13 46) rfl (SP.nil S70.sl) rfl (fun w' hw' => (E.move k64)) ?_
   refine FB.t (i := 8) (bs 13 302) rfl (SP.nil S70.sl) rfl (fun w' hw' => (E.move k63)) ?_
   refine FB.t (i := 9) (bs 13 814) rfl (SP.nil S70.sl) rfl (fun w' hw' => (E.move k65)) ?_
   obtain ⟨v93, run94, h95⟩ := p0.cut te22 hc92 (lo := some (Value.int .i64 r21)) (hi := none) (.inr ⟨_, rfl⟩) (.inl ⟨rfl, rfl⟩)
   refine FB.t (i := 10) (bs 13 1838) rfl (SP.nil S70.sl) rfl (fun w' hw' => (E.slice te22 rfl (congrArg some rfl) rfl rfl (run94 _))) ?_
   refine FB.all2 (i := 0) (j := 6) (by kernel_rfl) ?_ ?_
   ·
    obtain ⟨v26, w27, run28, S29⟩ := S70.buildSlice (P := Tryz.prog) te22 [] (parts := #[]) (cells := []) rfl szs_nil fc_nil ones_nil (Nat.le_of_ble_eq_true rfl)
    have els30 : Els (up wa.heap.size H42) (eL eI 1) 1 [] [] := Els.nil
    refine FC.val (l' := (bs 13 1839)) rfl (by kernel_rfl) rfl rfl rfl (E.buildSlice (B0) run28) ?_
    refine ⟨(SP.nil S29.sl), ?_⟩
    refine FB.all2 (i := 4) (j := 6) (by kernel_rfl) ?_ ?_
    ·
     obtain ⟨v38, w71, n39, cs40, run72, S73, els74⟩ := S29.appendP (P := Tryz.prog) (Inc.rfl _) te22 (i := 0) rfl (els30.mono upI) (h35.mono i44) hz37
     have S73 : St Ha wa H42 w71 [.row 84 1 v38 n39 cs40] := S73
     refine FC.val (l' := (bs 13 1855)) rfl (by kernel_rfl) rfl rfl rfl (E.append rfl rfl run72) ?_
     refine ⟨(SP.nil S73.sl), ?_⟩
     refine FB.all1 (i := 6) (by kernel_rfl) ?_
     ·
      obtain ⟨v75, w76, run77, S78⟩ := S73.buildSlice (P := Tryz.prog) te22 [v1] (parts := #[(0, v1)]) (cells := [v1]) rfl (szs_cons (cells_size p1.cells) szs_nil) (fc_cons p1.cells fc_nil) (ones_cons p1.one ones_nil) (Nat.le_of_ble_eq_true rfl)
      have els79 : Els H42 (eL eI 1) 1 [v1] [a1] := (Els.snoc (H := H42) (E := (eL eI 1)) (k := 1) (c := [v1]) (x := a1) Els.nil rfl ⟨_, rfl, (p1.mono i44)⟩)
      refine FC.val (l' := (bs 13 1919)) rfl (by kernel_rfl) rfl rfl rfl (E.buildSlice (B1 rfl) run77) ?_
      refine ⟨(SP.nil S78.sl), ?_⟩
      refine FB.all1 (i := 7) (by kernel_rfl) ?_
      ·
       obtain ⟨v82, w85, n83, cs84, run86, S87, els88, ce89⟩ := S78.appendO (P := Tryz.prog) te22 (i := 1) (j := 0) rfl els74 rfl els79 hz81
       have S87 : St Ha wa H42 w85 [.row 84 1 v75 1 [v1], .row 84 1 v82 n83 cs84] := S87
       have S90 : St Ha wa H42 w85 [.row 84 1 v82 n83 cs84] := S87.drop 0
       refine FC.val (l' := (bs 13 2047)) rfl (by kernel_rfl) rfl rfl rfl (E.append rfl rfl run86) ?_
       refine ⟨(SP.nil S90.sl), ?_⟩
       refine FB.all1 (i := 11) (by kernel_rfl) ?_
       ·
        obtain ⟨v98, w101, n99, cs100, run102, S103, els104⟩ := S90.appendP (P := Tryz.prog) (Inc.rfl _) te22 (i := 0) rfl els88 (h95.mono i44) hz97
        have S103 : St Ha wa H42 w101 [.row 84 1 v98 n99 cs100] := S103
        refine FC.val (l' := (bs 13 4095)) rfl (by kernel_rfl) rfl rfl rfl (E.append rfl rfl run102) ?_
        refine ⟨(SP.nil S103.sl), ?_⟩
        refine FB.t (i := 12) (bs 13 8191) rfl (SP.nil S103.sl) rfl (fun w' hw' => (E.assign (v := v98) rfl)) ?_
        exact FB.done (by kernel_rfl) ⟨_, _, _, _, S103, (Inc.rfl _), els104, rfl⟩
    ·
     obtain ⟨v75, w76, run77, S78⟩ := S29.buildSlice (P := Tryz.prog) te22 [v1] (parts := #[(0, v1)]) (cells := [v1]) rfl (szs_cons (cells_size p1.cells) szs_nil) (fc_cons p1.cells fc_nil) (ones_cons p1.one ones_nil) (Nat.le_of_ble_eq_true rfl)
     have els79 : Els H42 (eL eI 1) 1 [v1] [a1] := (Els.snoc (H := H42) (E := (eL eI 1)) (k := 1) (c := [v1]) (x := a1) Els.nil rfl ⟨_, rfl, (p1.mono i44)⟩)
     refine FC.val (l' := (bs 13 1903)) rfl (by kernel_rfl) rfl rfl rfl (E.buildSlice (B1 rfl) run77) ?_
     refine ⟨(SP.nil S78.sl), ?_⟩
     refine FB.all1 (i := 4) (by kernel_rfl) ?_
     ·
      obtain ⟨v38, w71, n39, cs40, run72, S73, els74⟩ := S78.appendP (P := Tryz.prog) (Inc.rfl _) te22 (i := 1) rfl (els30.mono upI) (h35.mono i44) hz37
      have S73 : St Ha wa H42 w71 [.row 84 1 v75 1 [v1], .row 84 1 v38 n39 cs40] := S73
      refine FC.val (l' := (bs 13 1919)) rfl (by kernel_rfl) rfl rfl rfl (E.append rfl rfl run72) ?_
      refine ⟨(SP.nil S73.sl), ?_⟩
      refine FB.all1 (i := 7) (by kernel_rfl) ?_
      ·
       obtain ⟨v82, w85, n83, cs84, run86, S87, els88, ce89⟩ := S73.appendO (P := Tryz.prog) te22 (i := 1) (j := 0) rfl els74 rfl els79 hz81
       have S87 : St Ha wa H42 w85 [.row 84 1 v75 1 [v1], .row 84 1 v82 n83 cs84] := S87
       have S90 : St Ha wa H42 w85 [.row 84 1 v82 n83 cs84] := S87.drop 0
       refine FC.val (l' := (bs 13 2047)) rfl (by kernel_rfl) rfl rfl rfl (E.append rfl rfl run86) ?_
       refine ⟨(SP.nil S90.sl), ?_⟩
       refine FB.all1 (i := 11) (by kernel_rfl) ?_
       ·
        obtain ⟨v98, w101, n99, cs100, run102, S103, els104⟩ := S90.appendP (P := Tryz.prog) (Inc.rfl _) te22 (i := 0) rfl els88 (h95.mono i44) hz97
        have S103 : St Ha wa H42 w101 [.row 84 1 v98 n99 cs100] := S103
        refine FC.val (l' := (bs 13 4095)) rfl (by kernel_rfl) rfl rfl rfl (E.append rfl rfl run102) ?_
        refine ⟨(SP.nil S103.sl), ?_⟩
        refine FB.t (i := 12) (bs 13 8191) rfl (SP.nil S103.sl) rfl (fun w' hw' => (E.assign (v := v98) rfl)) ?_
        exact FB.done (by kernel_rfl) ⟨_, _, _, _, S103, (Inc.rfl _), els104, rfl⟩
   ·
    obtain ⟨v75, w76, run77, S78⟩ := S70.buildSlice (P := Tryz.prog) te22 [v1] (parts := #[(0, v1)]) (cells := [v1]) rfl (szs_cons (cells_size p1.cells) szs_nil) (fc_cons p1.cells fc_nil) (ones_cons p1.one ones_nil) (Nat.le_of_ble_eq_true rfl)
    have els79 : Els H42 (eL eI 1) 1 [v1] [a1] := (Els.snoc (H := H42) (E := (eL eI 1)) (k := 1) (c := [v1]) (x := a1) Els.nil rfl ⟨_, rfl, (p1.mono i44)⟩)
    refine FC.val (l' := (bs 13 1902)) rfl (by kernel_rfl) rfl rfl rfl (E.buildSlice (B1 rfl) run77) ?_
    refine ⟨(SP.nil S78.sl), ?_⟩
    refine FB.all1 (i := 0) (by kernel_rfl) ?_
    ·
     obtain ⟨v26, w27, run28, S29⟩ := S78.buildSlice (P := Tryz.prog) te22 [] (parts := #[]) (cells := []) rfl szs_nil fc_nil ones_nil (Nat.le_of_ble_eq_true rfl)
     have els30 : Els (up wa.heap.size H42) (eL eI 1) 1 [] [] := Els.nil
     refine FC.val (l' := (bs 13 1903)) rfl (by kernel_rfl) rfl rfl rfl (E.buildSlice (B0) run28) ?_
     refine ⟨(SP.nil S29.sl), ?_⟩
     refine FB.all1 (i := 4) (by kernel_rfl) ?_
     ·
      obtain ⟨v38, w71, n39, cs40, run72, S73, els74⟩ := S29.appendP (P := Tryz.prog) (Inc.rfl _) te22 (i := 0) rfl (els30.mono upI) (h35.mono i44) hz37
      have S73 : St Ha wa H42 w71 [.row 84 1 v38 n39 cs40, .row 84 1 v75 1 [v1]] := S73
      refine FC.val (l' := (bs 13 1919)) rfl (by kernel_rfl) rfl rfl rfl (E.append rfl rfl run72) ?_
      refine ⟨(SP.nil S73.sl), ?_⟩
      refine FB.all1 (i := 7) (by kernel_rfl) ?_
      ·
       obtain ⟨v82, w85, n83, cs84, run86, S87, els88, ce89⟩ := S73.appendO (P := Tryz.prog) te22 (i := 0) (j := 1) rfl els74 rfl els79 hz81
       have S87 : St Ha wa H42 w85 [.row 84 1 v82 n83 cs84, .row 84 1 v75 1 [v1]] := S87
       have S90 : St Ha wa H42 w85 [.row 84 1 v82 n83 cs84] := S87.drop 1
       refine FC.val (l' := (bs 13 2047)) rfl (by kernel_rfl) rfl rfl rfl (E.append rfl rfl run86) ?_
       refine ⟨(SP.nil S90.sl), ?_⟩
       refine FB.all1 (i := 11) (by kernel_rfl) ?_
       ·
        obtain ⟨v98, w101, n99, cs100, run102, S103, els104⟩ := S90.appendP (P := Tryz.prog) (Inc.rfl _) te22 (i := 0) rfl els88 (h95.mono i44) hz97
        have S103 : St Ha wa H42 w101 [.row 84 1 v98 n99 cs100] := S103
        refine FC.val (l' := (bs 13 4095)) rfl (by kernel_rfl) rfl rfl rfl (E.append rfl rfl run102) ?_
        refine ⟨(SP.nil S103.sl), ?_⟩
        refine FB.t (i := 12) (bs 13 8191) rfl (SP.nil S103.sl) rfl (fun w' hw' => (E.assign (v := v98) rfl)) ?_
        exact FB.done (by kernel_rfl) ⟨_, _, _, _, S103, (Inc.rfl _), els104, rfl⟩
  ·
   rintro f113 w112 ⟨H109, v105, n106, cs107, S110, i111, els108, k114⟩
   refine FW.ret ?_
   obtain ⟨H115, S116, i117, h118⟩ := S110.sealRow (i := 0) (l' := []) rfl els108 (by decide) rfl
   obtain rfl := Option.some.inj hp
   exact ⟨.inr rfl, res1 rfl k114 ⟨_, _, rfl, S116.run, h118⟩⟩

theorem w_spec_l1Has {Ha : GH} {wa : World} (hs : Sl Ha wa) (v0 : Value) (a0 : List Int) (p0 : RSl Ha eI 1 v0 a0) (a1 : Int) {r : Bool} (hp : (PF.spec_l1Has a0 a1) = some r) :
  Calls Tryz.prog 174 #[v0, Value.int .i64 a1] wa (Sc Ha wa (Value.bool r)) := by
 unfold PF.spec_l1Has at hp
 have S0 := St.init hs
 refine calls_go (N := 18) (args := [v0, Value.int .i64 a1]) Tryz.func174 rfl rfl rfl ?_
 refine FW.seq (FW.region ?_)
 refine FL.v (E.assign (v := Value.bool false) rfl) ?_
 refine FL.nil (FW.seq (FW.seq (FW.region ?_)))
 refine FL.v (E.assign (v := Value.int .i64 0) rfl) ?_
 refine FL.nil ?_
 obtain ⟨q22, hq, hp⟩ := bndR hp
 refine FW.block ?_
 refine FW.mono (FW.forL (S := Unit) (X := Bool) (fun (i22 : Nat) (s22 : Unit) f w => ∃ H : GH, St Ha wa H w [] ∧ Inc Ha H ∧ f 5 = Value.int .i64 ((i22 : Nat) : Int) ∧ f 0 = v0 ∧ f 1 = Value.int .i64 a1) (fun q e f w => match q with | .go s22 => e = Exit.exit 0 ∧ (∃ H : GH, St Ha wa H w [] ∧ Inc Ha H) | .rt x => ((e = Exit.ret) ∧ (fun e f w => (e = Exit.normal ∨ e = Exit.ret) ∧ ∀ a, Fr (δ := []) 18 a f → ∃ v, (results Tryz.f174 a.tmps).run Tryz.prog w = .ok v w ∧ (Sc Ha wa (Value.bool x)) (.returned v) w) e f w)) hq ⟨_, S0, (Inc.rfl _), rfl, rfl, rfl⟩ ?_ ?_) ?_
 ·
  clear hp hq
  rintro i22 y21 s22 f42 w41 ⟨H38, S39, i40, k43, k44, k45⟩ hx22 o53 hp
  refine FW.seq (FW.seq (FW.region ?_))
  refine FL.v (E.move k43) ?_
  refine FL.v (E.move k44) ?_
  refine FL.v (E.lenP te84 rfl p0) ?_
  refine FL.v (E.lssT rfl rfl (lss_len hx22)) ?_
  refine FL.nil ?_
  refine FW.condT rfl rfl ?_
  refine FW.skip (FW.seq (FW.block (FW.seq (FW.region ?_))))
  refine FL.v (E.move k44) ?_
  refine FL.v (E.move k43) ?_
  obtain ⟨p46, cs47, pt48, l49, at50, rel51⟩ := p0.at (ix_nat hx22)
  obtain rfl := eI_open rel51
  refine FL.v (E.indexAddr te84 rfl rfl pt48) ?_
  refine FL.v (E.load rfl (run_load0 Tryz.isAgg3 ((at50.mono i40).now S39.sl) rfl)) ?_
  refine FL.v (E.move k45) ?_
  refine FL.v (E.eql rfl rfl) ?_
  refine FL.nil ?_
  rcases ifB hp with ⟨c52, hp⟩ | ⟨c52, hp⟩
  ·
   refine FW.condT rfl c52 ?_
   refine FW.seq (FW.region ?_)
   refine FL.v (E.assign (v := Value.bool true) rfl) ?_
   refine FL.nil ?_
   refine FW.ret ?_
   obtain rfl := Option.some.inj hp
   exact ⟨nofun, rfl, ⟨.inr rfl, res1 rfl rfl ⟨rfl, S39.back⟩⟩⟩
  ·
   refine FW.condF rfl c52 ?_
   refine FW.skip (FW.region ?_)
   refine FL.v (E.move k43) ?_
   refine FL.v (E.add rfl rfl) ?_
   refine FL.v (E.assign (v := Value.int .i64 (wr (((i22 : Nat) : Int) + 1))) rfl) ?_
   refine FL.nil ?_
   obtain rfl := Option.some.inj hp
   exact ⟨rfl, ⟨_, S39, i40, (nat_succ rfl (lt_of_get hx22) (p0.mono i40).le), k44, k45⟩⟩
 ·
  clear hp hq
  rintro s22 f63 w62 ⟨H59, S60, i61, k64, k65, k66⟩
  refine FW.seq (FW.seq (FW.region ?_))
  refine FL.v (E.move k64) ?_
  refine FL.v (E.move k65) ?_
  refine FL.v (E.lenP te84 rfl p0) ?_
  refine FL.v (E.lss rfl rfl) ?_
  refine FL.nil ?_
  refine FW.condF rfl dlt_len ?_
  refine FW.exit ?_
  exact ⟨nofun, rfl, ⟨_, S60, i61⟩⟩
 ·
  clear hq
  intro e f58 w57 hD
  rcases q22 with s22 | x22
  ·
   obtain ⟨rfl, hD⟩ := hD
   obtain ⟨H54, S55, i56⟩ := hD
   replace hp := el_go hp
   refine FW.seq (FW.region ?_)
   refine FL.v (E.assign (v := Value.bool false) rfl) ?_
   refine FL.nil ?_
   refine FW.ret ?_
   obtain rfl := Option.some.inj hp
   exact ⟨.inr rfl, res1 rfl rfl ⟨rfl, S55.back⟩⟩
  ·
   obtain ⟨he, hL⟩ := hD
   replace hp := el_rt hp
   obtain rfl := Option.some.inj hp
   subst he
   exact hL

theorem w_spec_l2Has {Ha : GH} {wa : World} (hs : Sl Ha wa) (v0 : Value) (a0 : List Int) (p0 : RSl Ha eI 1 v0 a0) (a1 : Int) {r : Bool} (hp : (PF.spec_l2Has a0 a1) = some r) :
  Calls Tryz.prog 116 #[v0, Value.int .i64 a1] wa (Sc Ha wa (Value.bool r)) := by
 unfold PF.spec_l2Has at hp
 have S0 := St.init hs
 refine calls_go (N := 8) (args := [v0, Value.int .i64 a1]) Tryz.func116 rfl rfl rfl ?_
 refine FW.seq (FW.region ?_)
 refine FL.v (E.assign (v := Value.bool false) rfl) ?_
 refine FL.nil (FW.seq (FW.region ?_))
 refine FL.v (E.move (v := v0) rfl) ?_
 refine FL.v (E.move (v := Value.int .i64 a1) rfl) ?_
 obtain ⟨r21, hr22, hp⟩ := bnd hp
 refine FL.call rfl rfl rfl (E.call Tryz.call174 (A2 rfl rfl)) (w_spec_l1Has S0.sl v0 a0 p0 a1 hr22) ?_
 rintro e w23 ⟨rfl, r24⟩
 refine ⟨_, rfl, ?_⟩
 have S25 := S0.call r24
 refine FL.v (E.assign (v := Value.bool r21) rfl) ?_
 refine FL.nil ?_
 refine FW.ret ?_
 obtain rfl := Option.some.inj hp
 exact ⟨.inr rfl, res1 rfl rfl ⟨rfl, S25.back⟩⟩

@[reducible] def p_spec_l2Without (Ha : GH) (wa : World) (r : (List Int)) : Ending → World → Prop :=
  fun e w' => ∃ H' : GH, ∃ v0 : Value, ∃ n0 : Nat, ∃ c0 : List Value, e = .returned (v0) ∧ St Ha wa H' w' [.row 3 1 v0 n0 c0] ∧ Els (up wa.heap.size H') eI 1 c0 r
theorem w_spec_l2Without {Ha : GH} {wa : World} (hs : Sl Ha wa) (v0 : Value) (a0 : List Int) (p0 : RSl Ha eI 1 v0 a0) (a1 : Int) {r : (List Int)} (hp : (PF.spec_l2Without a0 a1) = some r) :
    Calls Tryz.prog 176 #[v0, Value.int .i64 a1] wa (p_spec_l2Without Ha wa r) := by
  unfold PF.spec_l2Without at hp
  have S0 := St.init hs
  refine calls_go (N := 29) (args := [v0, Value.int .i64 a1]) Tryz.func176 rfl rfl rfl ?_
  refine FW.seq (FW.region ?_)
  refine FL.v (E.assign (v := Value.slice none 0 0) rfl) ?_
  refine FL.nil (FW.seq (FW.region ?_))
  obtain ⟨v21, w22, run23, S24⟩ := S0.buildSlice (P := Tryz.prog) te84 [] (parts := #[]) (cells := []) rfl szs_nil fc_nil ones_nil (Nat.le_of_ble_eq_true rfl)
  have els25 : Els (up wa.heap.size Ha) eI 1 [] [] := Els.nil
  refine FL.v (E.buildSlice (B0) run23) ?_
  refine FL.v (E.assign (v := v21) rfl) ?_
  refine FL.nil (FW.seq (FW.seq (FW.region ?_)))
  refine FL.v (E.assign (v := Value.int .i64 0) rfl) ?_
  refine FL.nil ?_
  obtain ⟨q27, hq, hp⟩ := bndR hp
  refine FW.block ?_
  refine FW.mono (FW.forL (S := (List Int)) (X := Empty) (fun (i27 : Nat) (s27 : (List Int)) f w => ∃ H : GH, ∃ v28 : Value, ∃ n29 : Nat, ∃ cs30 : List Value, St Ha wa H w [.row 3 1 v28 n29 cs30] ∧ Inc Ha H ∧ Els (up wa.heap.size H) eI 1 cs30 s27 ∧ f 6 = Value.int .i64 ((i27 : Nat) : Int) ∧ f 0 = v0 ∧ f 1 = Value.int .i64 a1 ∧ f 5 = v28) (fun (q : Rs (List Int) Empty) e f w => match q with | .go s27 => e = Exit.exit 0 ∧ (∃ H : GH, ∃ v28 : Value, ∃ n29 : Nat, ∃ cs30 : List Value, St Ha wa H w [.row 3 1 v28 n29 cs30] ∧ Inc Ha H ∧ Els (up wa.heap.size H) eI 1 cs30 s27 ∧ f 5 = v28) | .rt x => x.elim) hq ⟨_, _, _, _, S24, (Inc.rfl _), els25, rfl, rfl, rfl, rfl⟩ ?_ ?_) ?_
  ·
    clear hp hq
    rintro i27 y26 s27 f77 w76 ⟨H73, v28, n29, cs30, S74, i75, els31, k78, k79, k80, k81⟩ hx27 o114 hp
    refine FW.seq (FW.seq (FW.region ?_))
    refine FL.v (E.move k78) ?_
    refine FL.v (E.move k79) ?_
    refine FL.v (E.lenP te84 rfl p0) ?_
    refine FL.v (E.lssT rfl rfl (lss_len hx27)) ?_
    refine FL.nil ?_
    refine FW.condT rfl rfl ?_
    refine FW.skip (FW.seq (FW.block (FW.seq (FW.region ?_))))
    refine FL.v (E.move k79) ?_
    refine FL.v (E.move k78) ?_
    obtain ⟨p82, cs83, pt84, l85, at86, rel87⟩ := p0.at (ix_nat hx27)
    obtain rfl := eI_open rel87
    refine FL.v (E.indexAddr te84 rfl rfl pt84) ?_
    refine FL.v (E.load rfl (run_load0 Tryz.isAgg3 ((at86.mono i75).now S74.sl) rfl)) ?_
    refine FL.call rfl rfl rfl (E.call Tryz.call138 (A1 rfl)) (w_spec_l2Var S74.sl y26) ?_
    rintro e w88 ⟨rfl, r89⟩
    refine ⟨_, rfl, ?_⟩
    have S90 := S74.call r89
    refine FL.v (E.move k80) ?_
    refine FL.v (E.neq rfl rfl) ?_
    refine FL.nil ?_
    rcases ifB hp with ⟨c91, hp⟩ | ⟨c91, hp⟩
    ·
      refine FW.condT rfl c91 ?_
      refine FW.region ?_
      refine FL.v (E.move k81) ?_
      refine FL.v (E.move k79) ?_
      refine FL.v (E.move k78) ?_
      obtain ⟨p92, cs93, pt94, l95, at96, rel97⟩ := p0.at (ix_nat hx27)
      obtain rfl := eI_open rel97
      refine FL.v (E.indexAddr te84 rfl rfl pt94) ?_
      refine FL.v (E.load rfl (run_load0 Tryz.isAgg3 ((at96.mono i75).now S90.sl) rfl)) ?_
      obtain ⟨v98, w99, run100, S101⟩ := S90.buildSlice (P := Tryz.prog) te84 [Value.int .i64 y26] (parts := #[(0, Value.int .i64 y26)]) (cells := [Value.int .i64 y26]) rfl (szs_cons rfl szs_nil) (fc_cons rfl fc_nil) (ones_cons rfl ones_nil) (Nat.le_of_ble_eq_true rfl)
      have els102 : Els (up wa.heap.size H73) eI 1 [Value.int .i64 y26] [y26] := (Els.snoc (H := (up wa.heap.size H73)) (E := eI) (k := 1) (c := [Value.int .i64 y26]) (x := y26) Els.nil rfl rfl)
      refine FL.v (E.buildSlice (B1 rfl) run100) ?_
      obtain ⟨xs103, hz104, hp⟩ := bnd hp
      obtain ⟨v105, w108, n106, cs107, run109, S110, els111, ce112⟩ := S101.appendO (P := Tryz.prog) te84 (i := 1) (j := 0) rfl els31 rfl els102 hz104
      have S110 : St Ha wa H73 w108 [.row 3 1 v98 1 [Value.int .i64 y26], .row 3 1 v105 n106 cs107] := S110
      have S113 : St Ha wa H73 w108 [.row 3 1 v105 n106 cs107] := S110.drop 0
      refine FL.v (E.append rfl rfl run109) ?_
      refine FL.v (E.assign (v := v105) rfl) ?_
      refine FL.nil (FW.region ?_)
      refine FL.v (E.move k78) ?_
      refine FL.v (E.add rfl rfl) ?_
      refine FL.v (E.assign (v := Value.int .i64 (wr (((i27 : Nat) : Int) + 1))) rfl) ?_
      refine FL.nil ?_
      obtain rfl := Option.some.inj hp
      exact ⟨rfl, ⟨_, _, _, _, S113, i75, els111, (nat_succ rfl (lt_of_get hx27) (p0.mono i75).le), k79, k80, rfl⟩⟩
    ·
      refine FW.condF rfl c91 ?_
      refine FW.skip (FW.region ?_)
      refine FL.v (E.move k78) ?_
      refine FL.v (E.add rfl rfl) ?_
      refine FL.v (E.assign (v := Value.int .i64 (wr (((i27 : Nat) : Int) + 1))) rfl) ?_
      refine FL.nil ?_
      obtain rfl := Option.some.inj hp
      exact ⟨rfl, ⟨_, _, _, _, S90, i75, els31, (nat_succ rfl (lt_of_get hx27) (p0.mono i75).le), k79, k80, k81⟩⟩
  ·
    clear hp hq
    rintro s27 f125 w124 ⟨H121, v28, n29, cs30, S122, i123, els31, k126, k127, k128, k129⟩
    refine FW.seq (FW.seq (FW.region ?_))
    refine FL.v (E.move k126) ?_
    refine FL.v (E.move k127) ?_
    refine FL.v (E.lenP te84 rfl p0) ?_
    refine FL.v (E.lss rfl rfl) ?_
    refine FL.nil ?_
    refine FW.condF rfl dlt_len ?_
    refine FW.exit ?_
    exact ⟨nofun, rfl, ⟨_, _, _, _, S122, i123, els31, k129⟩⟩
  ·
    clear hq
    intro e f119 w118 hD
    rcases q27 with s27 | x27
    ·
      obtain ⟨rfl, hD⟩ := hD
      obtain ⟨H115, v28, n29, cs30, S116, i117, els31, k120⟩ := hD
      replace hp := el_go hp
      refine FW.seq (FW.region ?_)
      refine FL.v (E.move k120) ?_
      refine FL.v (E.assign (v := v28) rfl) ?_
      refine FL.nil ?_
      refine FW.ret ?_
      obtain rfl := Option.some.inj hp
      exact ⟨.inr rfl, res1 rfl rfl ⟨_, _, _, _, rfl, S116, els31⟩⟩
    · exact x27.elim

@[reducible] def p_spec_l1Own (Ha : GH) (wa : World) (r : (List Int)) : Ending → World → Prop :=
 fun e w' => ∃ H' : GH, ∃ v0 : Value, ∃ n0 : Nat, ∃ c0 : List Value, e = .returned (v0) ∧ St Ha wa H' w' [.row 3 1 v0 n0 c0] ∧ Els (up wa.heap.size H') eI 1 c0 r
theorem w_spec_l1Own {Ha : GH} {wa : World} (hs : Sl Ha wa) (v0 : Value) (a0 : List Int) (p0 : RSl Ha eI 1 v0 a0) {r : (List Int)} (hp : (PF.spec_l1Own a0) = some r) :
  Calls Tryz.prog 60 #[v0] wa (p_spec_l1Own Ha wa r) := by
 unfold PF.spec_l1Own at hp
 have S0 := St.init hs
 refine calls_go (N := 6) (args := [v0]) Tryz.func60 rfl rfl rfl ?_
 refine FW.seq (FW.region ?_)
 refine FL.v (E.assign (v := Value.slice none 0 0) rfl) ?_
 refine FL.nil (FW.seq (FW.region ?_))
 obtain ⟨v21, w22, run23, S24⟩ := S0.buildSlice (P := Tryz.prog) te84 [] (parts := #[]) (cells := []) rfl szs_nil fc_nil ones_nil (Nat.le_of_ble_eq_true rfl)
 have els25 : Els (up wa.heap.size Ha) eI 1 [] [] := Els.nil
 refine FL.v (E.buildSlice (B0) run23) ?_
 refine FL.v (E.move (v := v0) rfl) ?_
 obtain ⟨xs26, hz27, hp⟩ := bnd hp
 obtain ⟨v28, w31, n29, cs30, run32, S33, els34⟩ := S24.appendP (P := Tryz.prog) (Inc.rfl _) te84 (i := 0) rfl (els25.mono upI) p0 hz27
 have S33 : St Ha wa Ha w31 [.row 3 1 v28 n29 cs30] := S33
 have els34 : Els (up wa.heap.size Ha) eI 1 cs30 xs26 := els34.any (fun _ _ _ _ h => h)
 refine FL.v (E.append rfl rfl run32) ?_
 refine FL.v (E.assign (v := v28) rfl) ?_
 refine FL.nil ?_
 refine FW.ret ?_
 obtain rfl := Option.some.inj hp
 exact ⟨.inr rfl, res1 rfl rfl ⟨_, _, _, _, rfl, S33, els34⟩⟩

@[reducible] def p_spec_l2Put (Ha : GH) (wa : World) (r : (List Int)) : Ending → World → Prop :=
  fun e w' => ∃ H' : GH, ∃ v0 : Value, ∃ n0 : Nat, ∃ c0 : List Value, e = .returned (v0) ∧ St Ha wa H' w' [.row 3 1 v0 n0 c0] ∧ Els (up wa.heap.size H') eI 1 c0 r
theorem w_spec_l2Put {Ha : GH} {wa : World} (hs : Sl Ha wa) (v0 : Value) (a0 : List Int) (p0 : RSl Ha eI 1 v0 a0) (a1 : Int) {r : (List Int)} (hp : (PF.spec_l2Put a0 a1) = some r) :
    Calls Tryz.prog 124 #[v0, Value.int .i64 a1] wa (p_spec_l2Put Ha wa r) := by
  unfold PF.spec_l2Put at hp
  have S0 := St.init hs
  refine calls_go (N := 33) (args := [v0, Value.int .i64 a1]) Tryz.func124 rfl rfl rfl ?_
  refine FW.seq (FW.region ?_)
  refine FL.v (E.assign (v := Value.slice none 0 0) rfl) ?_
  refine FL.nil (FW.seq (FW.region ?_))
  refine FL.v (E.assign (v := Value.int .i64 0) rfl) ?_
  refine FL.nil (FW.seq ?_)
  obtain ⟨q21, hq, hp⟩ := bndR hp
  refine FW.block ?_
  refine FW.mono (FW.iter (S := Int) (X := Empty) (fun (s21 : Int) f w => ∃ H : GH, St Ha wa H w [] ∧ Inc Ha H ∧ f 0 = v0 ∧ f 1 = Value.int .i64 a1 ∧ f 5 = Value.int .i64 s21) (fun (q : Rs Int Empty) e f w => match q with | .go s21 => e = Exit.exit 0 ∧ (∃ H : GH, St Ha wa H w [] ∧ Inc Ha H ∧ f 0 = v0 ∧ f 1 = Value.int .i64 a1 ∧ f 5 = Value.int .i64 s21) | .rt x => x.elim) hq ⟨_, S0, (Inc.rfl _), rfl, rfl, rfl⟩ ?_) ?_
  ·
    clear hp hq
    rintro s21 f74 w73 ⟨H70, S71, i72, k75, k76, k77⟩ o118 hp
    refine FW.seq (FW.seq (FW.region ?_))
    refine FL.v (E.move k77) ?_
    refine FL.v (E.move k75) ?_
    refine FL.v (E.lenP te84 rfl p0) ?_
    refine FL.v (E.lss rfl rfl) ?_
    refine FL.v (E.move (v := Value.bool (decide (s21 < (len a0)))) rfl) ?_
    obtain ⟨t92, hqt92, hp⟩ := bnd hp
    refine FL.cut 9 (fun f w => ∃ H : GH, St Ha wa H w [] ∧ Inc H70 H ∧ f 0 = v0 ∧ f 1 = Value.int .i64 a1 ∧ f 5 = Value.int .i64 s21 ∧ f 19 = Value.bool t92) ?_ ?_
    ·
      clear hp; have hp := hqt92; clear hqt92
      rcases ifB hp with ⟨c98, hp⟩ | ⟨c98, hp⟩
      ·
        refine FL.val (wF_yes rfl rfl rfl c98) rfl rfl (E.move k75) ?_
        refine FL.val (wF_yes rfl rfl rfl c98) rfl rfl (E.move k77) ?_
        obtain ⟨x105, hx106, hp⟩ := bnd hp
        obtain ⟨p99, cs100, pt101, l102, at103, rel104⟩ := p0.at hx106
        obtain rfl := eI_open rel104
        refine FL.val (wF_yes rfl rfl rfl c98) rfl rfl (E.indexAddr te84 rfl rfl pt101) ?_
        refine FL.val (wF_yes rfl rfl rfl c98) rfl rfl (E.load rfl (run_load0 Tryz.isAgg3 ((at103.mono i72).now S71.sl) rfl)) ?_
        refine FL.call (wF_yes rfl rfl rfl c98) rfl rfl (E.call Tryz.call138 (A1 rfl)) (w_spec_l2Var S71.sl x105) ?_
        rintro e w107 ⟨rfl, r108⟩
        refine ⟨_, rfl, ?_⟩
        have S109 := S71.call r108
        refine FL.val (wF_yes rfl rfl rfl c98) rfl rfl (E.move k76) ?_
        refine FL.call (wF_yes rfl rfl rfl c98) rfl rfl (E.call Tryz.call138 (A1 rfl)) (w_spec_l2Var S109.sl a1) ?_
        rintro e w110 ⟨rfl, r111⟩
        refine ⟨_, rfl, ?_⟩
        have S112 := S109.call r111
        refine FL.val (wF_yes rfl rfl rfl c98) rfl rfl (E.lss rfl rfl) ?_
        obtain rfl := Option.some.inj hp
        refine FL.v (E.pickT rfl c98 rfl) ?_
        exact FL.nil ⟨rfl, _, S112, (Inc.rfl _), k75, k76, k77, rfl⟩
      ·
        refine FL.skip (wF_no rfl rfl rfl c98) rfl ?_
        refine FL.skip (wF_no rfl rfl rfl c98) rfl ?_
        refine FL.skip (wF_no rfl rfl rfl c98) rfl ?_
        refine FL.skip (wF_no rfl rfl rfl c98) rfl ?_
        refine FL.skip (wF_no rfl rfl rfl c98) rfl ?_
        refine FL.skip (wF_no rfl rfl rfl c98) rfl ?_
        refine FL.skip (wF_no rfl rfl rfl c98) rfl ?_
        refine FL.skip (wF_no rfl rfl rfl c98) rfl ?_
        obtain rfl := Option.some.inj hp
        refine FL.v (E.pickF rfl c98 rfl) ?_
        exact FL.nil ⟨rfl, _, S71, (Inc.rfl _), k75, k76, k77, rfl⟩
    rintro f97 w96 ⟨H93, S94, i95, k113, k114, k115, k116⟩
    refine FL.nil ?_
    rcases ifB hp with ⟨c117, hp⟩ | ⟨c117, hp⟩
    ·
      refine FW.condT k116 c117 ?_
      refine FW.skip (FW.block (FW.region ?_))
      refine FL.v (E.move k115) ?_
      refine FL.v (E.add rfl rfl) ?_
      refine FL.v (E.assign (v := Value.int .i64 (wr (s21 + 1))) rfl) ?_
      refine FL.nil ?_
      obtain rfl := Option.some.inj hp
      exact ⟨rfl, ⟨_, S94, (i72.tr i95), k113, k114, rfl⟩⟩
    ·
      refine FW.condF k116 c117 ?_
      refine FW.exit ?_
      obtain rfl := Option.some.inj hp
      exact ⟨nofun, rfl, ⟨_, S94, (i72.tr i95), k113, k114, k115⟩⟩
  ·
    clear hq
    intro e f123 w122 hD
    rcases q21 with s21 | x21
    ·
      obtain ⟨rfl, hD⟩ := hD
      obtain ⟨H119, S120, i121, k124, k125, k126⟩ := hD
      replace hp := el_go hp
      refine FW.seq ?_
      obtain ⟨xs22, hc23, hp⟩ := bnd hp
      obtain ⟨r27, hr28, hp⟩ := bnd hp
      obtain ⟨xs42, hz43, hp⟩ := bnd hp
      obtain ⟨xs53, hc54, hp⟩ := bnd hp
      obtain ⟨xs58, hz59, hp⟩ := bnd hp
      refine FW.drawB (Sl H119) (fun f w => ∃ H : GH, ∃ v67 : Value, ∃ n68 : Nat, ∃ cs69 : List Value, St Ha wa H w [.row 3 1 v67 n68 cs69] ∧ Inc H119 H ∧ Els (up wa.heap.size H) eI 1 cs69 xs58 ∧ f 4 = v67) (by kernel_rfl) S120.sl ?_ ?_
      ·
        intro w127 r128
        have S129 := S120.call r128
        refine FB.t (i := 0) (bs 12 1) rfl (SP.nil S129.sl) rfl (fun w' hw' => (E.move k124)) ?_
        refine FB.t (i := 1) (bs 12 3) rfl (SP.nil S129.sl) rfl (fun w' hw' => (E.move k126)) ?_
        obtain ⟨v24, run25, h26⟩ := p0.cut te84 hc23 (lo := none) (hi := some (Value.int .i64 s21)) (.inl ⟨rfl, rfl⟩) (.inr ⟨_, rfl⟩)
        refine FB.t (i := 2) (bs 12 7) rfl (SP.nil S129.sl) rfl (fun w' hw' => (E.slice te84 rfl rfl (congrArg some rfl) rfl (run25 _))) ?_
        refine FB.t (i := 4) (bs 12 23) rfl (SP.nil S129.sl) rfl (fun w' hw' => (E.move k125)) ?_
        refine FB.t (i := 7) (bs 12 151) rfl (SP.nil S129.sl) rfl (fun w' hw' => (E.move k124)) ?_
        refine FB.t (i := 8) (bs 12 407) rfl (SP.nil S129.sl) rfl (fun w' hw' => (E.move k126)) ?_
        obtain ⟨v55, run56, h57⟩ := p0.cut te84 hc54 (lo := some (Value.int .i64 s21)) (hi := none) (.inr ⟨_, rfl⟩) (.inl ⟨rfl, rfl⟩)
        refine FB.t (i := 9) (bs 12 919) rfl (SP.nil S129.sl) rfl (fun w' hw' => (E.slice te84 rfl (congrArg some rfl) rfl rfl (run56 _))) ?_
        refine FB.all2 (i := 3) (j := 5) (by kernel_rfl) ?_ ?_
        ·
          refine FC.call (l' := (bs 12 927)) rfl (by kernel_rfl) rfl rfl rfl (E.call Tryz.call60 (A1 rfl)) (w_spec_l1Own S129.sl v24 xs22 (h26.mono i121) hr28) ?_
          rintro e w30 ⟨H29, v33, n34, cs35, rfl, r32, els36⟩
          refine ⟨_, rfl, ?_⟩
          have els36 := els36.mono (up_le S129.size)
          have S31 := S129.join (l' := [.row 3 1 v33 n34 cs35]) r32 rfl
          refine ⟨(SP.nil (Sl.of_inc r32.run.inc S31.sl)), ?_⟩
          refine FB.all1 (i := 5) (by kernel_rfl) ?_
          ·
            obtain ⟨v37, w38, run39, S40⟩ := S31.buildSlice (P := Tryz.prog) te84 [Value.int .i64 a1] (parts := #[(0, Value.int .i64 a1)]) (cells := [Value.int .i64 a1]) rfl (szs_cons rfl szs_nil) (fc_cons rfl fc_nil) (ones_cons rfl ones_nil) (Nat.le_of_ble_eq_true rfl)
            have els41 : Els (up wa.heap.size H29) eI 1 [Value.int .i64 a1] [a1] := (Els.snoc (H := (up wa.heap.size H29)) (E := eI) (k := 1) (c := [Value.int .i64 a1]) (x := a1) Els.nil rfl rfl)
            refine FC.val (l' := (bs 12 959)) rfl (by kernel_rfl) rfl rfl rfl (E.buildSlice (B1 rfl) run39) ?_
            refine ⟨(SP.nil (Sl.of_inc r32.run.inc S40.sl)), ?_⟩
            refine FB.all1 (i := 6) (by kernel_rfl) ?_
            ·
              obtain ⟨v44, w47, n45, cs46, run48, S49, els50, ce51⟩ := S40.appendO (P := Tryz.prog) te84 (i := 1) (j := 0) rfl els36 rfl els41 hz43
              have S49 : St Ha wa H29 w47 [.row 3 1 v37 1 [Value.int .i64 a1], .row 3 1 v44 n45 cs46] := S49
              have S52 : St Ha wa H29 w47 [.row 3 1 v44 n45 cs46] := S49.drop 0
              refine FC.val (l' := (bs 12 1023)) rfl (by kernel_rfl) rfl rfl rfl (E.append rfl rfl run48) ?_
              refine ⟨(SP.nil (Sl.of_inc r32.run.inc S52.sl)), ?_⟩
              refine FB.all1 (i := 10) (by kernel_rfl) ?_
              ·
                obtain ⟨v60, w63, n61, cs62, run64, S65, els66⟩ := S52.appendP (P := Tryz.prog) (Inc.rfl _) te84 (i := 0) rfl (els50.mono upI) (h57.mono (i121.tr r32.run.inc)) hz59
                have S65 : St Ha wa H29 w63 [.row 3 1 v60 n61 cs62] := S65
                have els66 : Els (up wa.heap.size H29) eI 1 cs62 xs58 := els66.any (fun _ _ _ _ h => h)
                refine FC.val (l' := (bs 12 2047)) rfl (by kernel_rfl) rfl rfl rfl (E.append rfl rfl run64) ?_
                refine ⟨(SP.nil (Sl.of_inc r32.run.inc S65.sl)), ?_⟩
                refine FB.t (i := 11) (bs 12 4095) rfl (SP.nil (Sl.of_inc r32.run.inc S65.sl)) rfl (fun w' hw' => (E.assign (v := v60) rfl)) ?_
                exact FB.done (by kernel_rfl) ⟨_, _, _, _, S65, r32.run.inc, els66, rfl⟩
        ·
          obtain ⟨v37, w38, run39, S40⟩ := S129.buildSlice (P := Tryz.prog) te84 [Value.int .i64 a1] (parts := #[(0, Value.int .i64 a1)]) (cells := [Value.int .i64 a1]) rfl (szs_cons rfl szs_nil) (fc_cons rfl fc_nil) (ones_cons rfl ones_nil) (Nat.le_of_ble_eq_true rfl)
          have els41 : Els (up wa.heap.size H119) eI 1 [Value.int .i64 a1] [a1] := (Els.snoc (H := (up wa.heap.size H119)) (E := eI) (k := 1) (c := [Value.int .i64 a1]) (x := a1) Els.nil rfl rfl)
          refine FC.val (l' := (bs 12 951)) rfl (by kernel_rfl) rfl rfl rfl (E.buildSlice (B1 rfl) run39) ?_
          refine ⟨(SP.nil S40.sl), ?_⟩
          refine FB.all1 (i := 3) (by kernel_rfl) ?_
          ·
            refine FC.call (l' := (bs 12 959)) rfl (by kernel_rfl) rfl rfl rfl (E.call Tryz.call60 (A1 rfl)) (w_spec_l1Own S40.sl v24 xs22 (h26.mono i121) hr28) ?_
            rintro e w30 ⟨H29, v33, n34, cs35, rfl, r32, els36⟩
            refine ⟨_, rfl, ?_⟩
            have els36 := els36.mono (up_le S40.size)
            have S31 := S40.join (l' := [.row 3 1 v33 n34 cs35, .row 3 1 v37 1 [Value.int .i64 a1]]) r32 rfl
            refine ⟨(SP.nil (Sl.of_inc r32.run.inc S31.sl)), ?_⟩
            refine FB.all1 (i := 6) (by kernel_rfl) ?_
            ·
              obtain ⟨v44, w47, n45, cs46, run48, S49, els50, ce51⟩ := S31.appendO (P := Tryz.prog) te84 (i := 0) (j := 1) rfl els36 rfl (els41.mono (up_mono r32.run.inc)) hz43
              have S49 : St Ha wa H29 w47 [.row 3 1 v44 n45 cs46, .row 3 1 v37 1 [Value.int .i64 a1]] := S49
              have S52 : St Ha wa H29 w47 [.row 3 1 v44 n45 cs46] := S49.drop 1
              refine FC.val (l' := (bs 12 1023)) rfl (by kernel_rfl) rfl rfl rfl (E.append rfl rfl run48) ?_
              refine ⟨(SP.nil (Sl.of_inc r32.run.inc S52.sl)), ?_⟩
              refine FB.all1 (i := 10) (by kernel_rfl) ?_
              ·
                obtain ⟨v60, w63, n61, cs62, run64, S65, els66⟩ := S52.appendP (P := Tryz.prog) (Inc.rfl _) te84 (i := 0) rfl (els50.mono upI) (h57.mono (i121.tr r32.run.inc)) hz59
                have S65 : St Ha wa H29 w63 [.row 3 1 v60 n61 cs62] := S65
                have els66 : Els (up wa.heap.size H29) eI 1 cs62 xs58 := els66.any (fun _ _ _ _ h => h)
                refine FC.val (l' := (bs 12 2047)) rfl (by kernel_rfl) rfl rfl rfl (E.append rfl rfl run64) ?_
                refine ⟨(SP.nil (Sl.of_inc r32.run.inc S65.sl)), ?_⟩
                refine FB.t (i := 11) (bs 12 4095) rfl (SP.nil (Sl.of_inc r32.run.inc S65.sl)) rfl (fun w' hw' => (E.assign (v := v60) rfl)) ?_
                exact FB.done (by kernel_rfl) ⟨_, _, _, _, S65, r32.run.inc, els66, rfl⟩
      ·
        rintro f83 w82 ⟨H79, v67, n68, cs69, S80, i81, els78, k85⟩
        refine FW.ret ?_
        obtain rfl := Option.some.inj hp
        exact ⟨.inr rfl, res1 rfl k85 ⟨_, _, _, _, rfl, S80, els78⟩⟩
    · exact x21.elim

@[reducible] def p_spec_l2Join (Ha : GH) (wa : World) (r : ((List Int) × Bool)) : Ending → World → Prop :=
 fun e w' => ∃ H' : GH, ∃ v0 : Value, ∃ n0 : Nat, ∃ c0 : List Value, e = .returned (Value.tuple #[v0, Value.bool r.2]) ∧ St Ha wa H' w' [.row 3 1 v0 n0 c0] ∧ Els (up wa.heap.size H') eI 1 c0 r.1
theorem w_spec_l2Join {Ha : GH} {wa : World} (hs : Sl Ha wa) (v0 : Value) (a0 : List Int) (p0 : RSl Ha eI 1 v0 a0) (v1 : Value) (a1 : List Int) (p1 : RSl Ha eI 1 v1 a1) {r : ((List Int) × Bool)} (hp : (PF.spec_l2Join a0 a1) = some r) :
  Calls Tryz.prog 175 #[v0, v1] wa (p_spec_l2Join Ha wa r) := by
 unfold PF.spec_l2Join at hp
 have S0 := St.init hs
 refine calls_go (N := 38) (args := [v0, v1]) Tryz.func175 rfl rfl rfl ?_
 refine FW.seq (FW.region ?_)
 refine FL.v (E.assign (v := Value.slice none 0 0) rfl) ?_
 refine FL.v (E.assign (v := Value.bool false) rfl) ?_
 refine FL.nil (FW.seq (FW.region ?_))
 refine FL.v (E.move (v := v0) rfl) ?_
 obtain ⟨r21, hr22, hp⟩ := bnd hp
 refine FL.call rfl rfl rfl (E.call Tryz.call60 (A1 rfl)) (w_spec_l1Own S0.sl v0 a0 p0 hr22) ?_
 rintro e w24 ⟨H23, v27, n28, cs29, rfl, r26, els30⟩
 refine ⟨_, rfl, ?_⟩
 have els30 := els30.mono (up_le S0.size)
 have S25 := S0.join (l' := [.row 3 1 v27 n28 cs29]) r26 rfl
 refine FL.v (E.assign (v := v27) rfl) ?_
 refine FL.nil (FW.seq (FW.seq (FW.region ?_)))
 refine FL.v (E.assign (v := Value.int .i64 0) rfl) ?_
 refine FL.nil ?_
 obtain ⟨q32, hq, hp⟩ := bndR hp
 refine FW.block ?_
 refine FW.mono (FW.forL (S := (List Int)) (X := ((List Int) × Bool)) (fun (i32 : Nat) (s32 : (List Int)) f w => ∃ H : GH, ∃ v107 : Value, ∃ n108 : Nat, ∃ cs109 : List Value, St Ha wa H w [.row 3 1 v107 n108 cs109] ∧ Inc H23 H ∧ Els (up wa.heap.size H) eI 1 cs109 s32 ∧ f 7 = Value.int .i64 ((i32 : Nat) : Int) ∧ f 1 = v1 ∧ f 6 = v107) (fun q e f w => match q with | .go s32 => e = Exit.exit 0 ∧ (∃ H : GH, ∃ v107 : Value, ∃ n108 : Nat, ∃ cs109 : List Value, St Ha wa H w [.row 3 1 v107 n108 cs109] ∧ Inc H23 H ∧ Els (up wa.heap.size H) eI 1 cs109 s32 ∧ f 6 = v107) | .rt x => ((e = Exit.ret) ∧ (fun e f w => (e = Exit.normal ∨ e = Exit.ret) ∧ ∀ a, Fr (δ := []) 38 a f → ∃ v, (results Tryz.f175 a.tmps).run Tryz.prog w = .ok v w ∧ (p_spec_l2Join Ha wa x) (.returned v) w) e f w)) hq ⟨_, _, _, _, S25, (Inc.rfl _), els30, rfl, rfl, rfl⟩ ?_ ?_) ?_
 ·
  clear hp hq
  rintro i32 y31 s32 f185 w184 ⟨H181, v107, n108, cs109, S182, i183, els110, k186, k187, k188⟩ hx32 o251 hp
  refine FW.seq (FW.seq (FW.region ?_))
  refine FL.v (E.move k186) ?_
  refine FL.v (E.move k187) ?_
  refine FL.v (E.lenP te84 rfl p1) ?_
  refine FL.v (E.lssT rfl rfl (lss_len hx32)) ?_
  refine FL.nil ?_
  refine FW.condT rfl rfl ?_
  refine FW.skip (FW.seq (FW.block (FW.seq (FW.seq (FW.region ?_)))))
  refine FL.v (E.move k188) ?_
  refine FL.v (E.move k187) ?_
  refine FL.v (E.move k186) ?_
  obtain ⟨p189, cs190, pt191, l192, at193, rel194⟩ := p1.at (ix_nat hx32)
  obtain rfl := eI_open rel194
  refine FL.v (E.indexAddr te84 rfl rfl pt191) ?_
  refine FL.v (E.load rfl (run_load0 Tryz.isAgg3 ((at193.mono (r26.run.inc.tr i183)).now S182.sl) rfl)) ?_
  refine FL.v (E.neg rfl) ?_
  obtain ⟨H195, S196, i197, h198, nv199⟩ := S182.sealRowU (i := 0) (l' := []) rfl els110 (by decide) rfl
  obtain ⟨r200, hr201, hp⟩ := bnd hp
  refine FL.call rfl rfl rfl (E.call Tryz.call116 (A2 rfl rfl)) (w_spec_l2Has S196.sl v107 s32 (h198.mono upI) (wr (-y31)) hr201) ?_
  rintro e w202 ⟨rfl, r203⟩
  refine ⟨_, rfl, ?_⟩
  have r203 := Run.lend i197 S182.sl r203
  have S204 := S182.call r203
  refine FL.nil ?_
  rcases ifB hp with ⟨c205, hp⟩ | ⟨c205, hp⟩
  ·
   refine FW.condT rfl c205 ?_
   refine FW.seq (FW.region ?_)
   obtain ⟨v206, w207, run208, S209⟩ := S204.buildSlice (P := Tryz.prog) te84 [] (parts := #[]) (cells := []) rfl szs_nil fc_nil ones_nil (Nat.le_of_ble_eq_true rfl)
   have els210 : Els (up wa.heap.size H181) eI 1 [] [] := Els.nil
   refine FL.v (E.buildSlice (B0) run208) ?_
   refine FL.v (E.assign (v := v206) rfl) ?_
   refine FL.v (E.assign (v := Value.bool false) rfl) ?_
   refine FL.nil ?_
   refine FW.ret ?_
   obtain rfl := Option.some.inj hp
   exact ⟨nofun, rfl, ⟨.inr rfl, res2 rfl rfl rfl ⟨_, _, _, _, rfl, (S209.sel [0] (by decide) rfl), els210⟩⟩⟩
  ·
   refine FW.condF rfl c205 ?_
   refine FW.skip (FW.seq (FW.region ?_))
   refine FL.v (E.move k188) ?_
   refine FL.v (E.move k187) ?_
   refine FL.v (E.move k186) ?_
   obtain ⟨p211, cs212, pt213, l214, at215, rel216⟩ := p1.at (ix_nat hx32)
   obtain rfl := eI_open rel216
   refine FL.v (E.indexAddr te84 rfl rfl pt213) ?_
   refine FL.v (E.load rfl (run_load0 Tryz.isAgg3 ((at215.mono (r26.run.inc.tr i183)).now S204.sl) rfl)) ?_
   obtain ⟨H217, S218, i219, h220, nv221⟩ := S204.sealRowU (i := 0) (l' := []) rfl els110 (by decide) rfl
   obtain ⟨r222, hr223, hp⟩ := bnd hp
   refine FL.call rfl rfl rfl (E.call Tryz.call116 (A2 rfl rfl)) (w_spec_l2Has S218.sl v107 s32 (h220.mono upI) y31 hr223) ?_
   rintro e w224 ⟨rfl, r225⟩
   refine ⟨_, rfl, ?_⟩
   have r225 := Run.lend i219 S204.sl r225
   have S226 := S204.call r225
   refine FL.v (E.not rfl) ?_
   refine FL.nil ?_
   rcases ifB hp with ⟨c227, hp⟩ | ⟨c227, hp⟩
   ·
    refine FW.condT rfl c227 ?_
    refine FW.region ?_
    refine FL.v (E.move k188) ?_
    refine FL.v (E.move k187) ?_
    refine FL.v (E.move k186) ?_
    obtain ⟨p228, cs229, pt230, l231, at232, rel233⟩ := p1.at (ix_nat hx32)
    obtain rfl := eI_open rel233
    refine FL.v (E.indexAddr te84 rfl rfl pt230) ?_
    refine FL.v (E.load rfl (run_load0 Tryz.isAgg3 ((at232.mono (r26.run.inc.tr i183)).now S226.sl) rfl)) ?_
    obtain ⟨H234, S235, i236, h237, nv238⟩ := S226.sealRowU (i := 0) (l' := []) rfl els110 (by decide) rfl
    obtain ⟨r239, hr240, hp⟩ := bnd hp
    refine FL.call rfl rfl rfl (E.call Tryz.call124 (A2 rfl rfl)) (w_spec_l2Put S235.sl v107 s32 (h237.mono upI) y31 hr240) ?_
    rintro e w242 ⟨H241, v247, n248, cs249, rfl, r244, els250⟩
    refine ⟨_, rfl, ?_⟩
    obtain ⟨H245, r244, hU246⟩ := St.lendX i236 S226.sl r244
    have els250 := els250.mono (hU246.tr (up_le S226.size))
    have S243 := S226.join (l' := [.row 3 1 v247 n248 cs249, .row 3 1 v107 n108 cs109]) r244 rfl
    refine FL.v (E.assign (v := v247) rfl) ?_
    refine FL.nil (FW.region ?_)
    refine FL.v (E.move k186) ?_
    refine FL.v (E.add rfl rfl) ?_
    refine FL.v (E.assign (v := Value.int .i64 (wr (((i32 : Nat) : Int) + 1))) rfl) ?_
    refine FL.nil ?_
    obtain rfl := Option.some.inj hp
    exact ⟨rfl, ⟨_, _, _, _, (S243.sel [0] (by decide) rfl), (i183.tr r244.run.inc), els250, (nat_succ rfl (lt_of_get hx32) (p1.mono ((r26.run.inc.tr i183).tr r244.run.inc)).le), k187, rfl⟩⟩
   ·
    refine FW.condF rfl c227 ?_
    refine FW.skip (FW.region ?_)
    refine FL.v (E.move k186) ?_
    refine FL.v (E.add rfl rfl) ?_
    refine FL.v (E.assign (v := Value.int .i64 (wr (((i32 : Nat) : Int) + 1))) rfl) ?_
    refine FL.nil ?_
    obtain rfl := Option.some.inj hp
    exact ⟨rfl, ⟨_, _, _, _, S226, i183, els110, (nat_succ rfl (lt_of_get hx32) (p1.mono (r26.run.inc.tr i183)).le), k187, k188⟩⟩
 ·
  clear hp hq
  rintro s32 f262 w261 ⟨H258, v107, n108, cs109, S259, i260, els110, k263, k264, k265⟩
  refine FW.seq (FW.seq (FW.region ?_))
  refine FL.v (E.move k263) ?_
  refine FL.v (E.move k264) ?_
  refine FL.v (E.lenP te84 rfl p1) ?_
  refine FL.v (E.lss rfl rfl) ?_
  refine FL.nil ?_
  refine FW.condF rfl dlt_len ?_
  refine FW.exit ?_
  exact ⟨nofun, rfl, ⟨_, _, _, _, S259, i260, els110, k265⟩⟩
 ·
  clear hq
  intro e f256 w255 hD
  rcases q32 with s32 | x32
  ·
   obtain ⟨rfl, hD⟩ := hD
   obtain ⟨H252, v107, n108, cs109, S253, i254, els110, k257⟩ := hD
   replace hp := el_go hp
   refine FW.seq (FW.region ?_)
   refine FL.v (E.move k257) ?_
   refine FL.v (E.assign (v := v107) rfl) ?_
   refine FL.v (E.assign (v := Value.bool true) rfl) ?_
   refine FL.nil ?_
   refine FW.ret ?_
   obtain rfl := Option.some.inj hp
   exact ⟨.inr rfl, res2 rfl rfl rfl ⟨_, _, _, _, rfl, S253, els110⟩⟩
  ·
   obtain ⟨he, hL⟩ := hD
   replace hp := el_rt hp
   obtain rfl := Option.some.inj hp
   subst he
   exact hL

@[reducible] def p_spec_l2Resolve (Ha : GH) (wa : World) (r : ((List Int) × Bool)) : Ending → World → Prop :=
 fun e w' => ∃ H' : GH, ∃ v0 : Value, ∃ n0 : Nat, ∃ c0 : List Value, e = .returned (Value.tuple #[v0, Value.bool r.2]) ∧ St Ha wa H' w' [.row 3 1 v0 n0 c0] ∧ Els (up wa.heap.size H') eI 1 c0 r.1
theorem w_spec_l2Resolve {Ha : GH} {wa : World} (hs : Sl Ha wa) (v0 : Value) (a0 : List Int) (p0 : RSl Ha eI 1 v0 a0) (v1 : Value) (a1 : List Int) (p1 : RSl Ha eI 1 v1 a1) (a2 : Int) {r : ((List Int) × Bool)} (hp : (PF.spec_l2Resolve a0 a1 a2) = some r) :
  Calls Tryz.prog 117 #[v0, v1, Value.int .i64 a2] wa (p_spec_l2Resolve Ha wa r) := by
 unfold PF.spec_l2Resolve at hp
 have S0 := St.init hs
 refine calls_go (N := 29) (args := [v0, v1, Value.int .i64 a2]) Tryz.func117 rfl rfl rfl ?_
 refine FW.seq (FW.region ?_)
 refine FL.v (E.assign (v := Value.slice none 0 0) rfl) ?_
 refine FL.v (E.assign (v := Value.bool false) rfl) ?_
 refine FL.nil (FW.seq (FW.seq (FW.region ?_)))
 refine FL.v (E.move (v := v0) rfl) ?_
 refine FL.v (E.move (v := Value.int .i64 a2) rfl) ?_
 obtain ⟨r21, hr22, hp⟩ := bnd hp
 refine FL.call rfl rfl rfl (E.call Tryz.call116 (A2 rfl rfl)) (w_spec_l2Has S0.sl v0 a0 p0 a2 hr22) ?_
 rintro e w23 ⟨rfl, r24⟩
 refine ⟨_, rfl, ?_⟩
 have S25 := S0.call r24
 refine FL.v (E.not rfl) ?_
 refine FL.v (E.move (v := Value.bool (!r21)) rfl) ?_
 obtain ⟨t31, hqt31, hp⟩ := bnd hp
 refine FL.cut 6 (fun f w => ∃ H : GH, St Ha wa H w [] ∧ Inc Ha H ∧ f 0 = v0 ∧ f 1 = v1 ∧ f 2 = Value.int .i64 a2 ∧ f 18 = Value.bool t31) ?_ ?_
 ·
  clear hp; have hp := hqt31; clear hqt31
  rcases ifB hp with ⟨c37, hp⟩ | ⟨c37, hp⟩
  ·
   refine FL.skip (wF_no rfl rfl rfl c37) rfl ?_
   refine FL.skip (wF_no rfl rfl rfl c37) rfl ?_
   refine FL.skip (wF_no rfl rfl rfl c37) rfl ?_
   refine FL.skip (wF_no rfl rfl rfl c37) rfl ?_
   refine FL.skip (wF_no rfl rfl rfl c37) rfl ?_
   obtain rfl := Option.some.inj hp
   refine FL.v (E.pickT rfl c37 rfl) ?_
   exact FL.nil ⟨rfl, _, S25, (Inc.rfl _), rfl, rfl, rfl, rfl⟩
  ·
   refine FL.val (wF_yes rfl rfl rfl c37) rfl rfl (E.move (v := v1) rfl) ?_
   refine FL.val (wF_yes rfl rfl rfl c37) rfl rfl (E.move (v := Value.int .i64 a2) rfl) ?_
   refine FL.val (wF_yes rfl rfl rfl c37) rfl rfl (E.neg rfl) ?_
   obtain ⟨r38, hr39, hp⟩ := bnd hp
   refine FL.call (wF_yes rfl rfl rfl c37) rfl rfl (E.call Tryz.call116 (A2 rfl rfl)) (w_spec_l2Has S25.sl v1 a1 p1 (wr (-a2)) hr39) ?_
   rintro e w40 ⟨rfl, r41⟩
   refine ⟨_, rfl, ?_⟩
   have S42 := S25.call r41
   refine FL.val (wF_yes rfl rfl rfl c37) rfl rfl (E.not rfl) ?_
   obtain rfl := Option.some.inj hp
   refine FL.v (E.pickF rfl c37 rfl) ?_
   exact FL.nil ⟨rfl, _, S42, (Inc.rfl _), rfl, rfl, rfl, rfl⟩
 rintro f36 w35 ⟨H32, S33, i34, k43, k44, k45, k46⟩
 refine FL.nil ?_
 rcases ifB hp with ⟨c47, hp⟩ | ⟨c47, hp⟩
 ·
  refine FW.condT k46 c47 ?_
  refine FW.seq (FW.region ?_)
  obtain ⟨v48, w49, run50, S51⟩ := S33.buildSlice (P := Tryz.prog) te84 [] (parts := #[]) (cells := []) rfl szs_nil fc_nil ones_nil (Nat.le_of_ble_eq_true rfl)
  have els52 : Els (up wa.heap.size H32) eI 1 [] [] := Els.nil
  refine FL.v (E.buildSlice (B0) run50) ?_
  refine FL.v (E.assign (v := v48) rfl) ?_
  refine FL.v (E.assign (v := Value.bool false) rfl) ?_
  refine FL.nil ?_
  refine FW.ret ?_
  obtain rfl := Option.some.inj hp
  exact ⟨.inr rfl, res2 rfl rfl rfl ⟨_, _, _, _, rfl, S51, els52⟩⟩
 ·
  refine FW.condF k46 c47 ?_
  refine FW.skip (FW.seq (FW.region ?_))
  refine FL.v (E.move k43) ?_
  refine FL.v (E.move k45) ?_
  obtain ⟨r53, hr54, hp⟩ := bnd hp
  refine FL.call rfl rfl rfl (E.call Tryz.call176 (A2 rfl rfl)) (w_spec_l2Without S33.sl v0 a0 (p0.mono i34) a2 hr54) ?_
  rintro e w56 ⟨H55, v59, n60, cs61, rfl, r58, els62⟩
  refine ⟨_, rfl, ?_⟩
  have els62 := els62.mono (up_le S33.size)
  have S57 := S33.join (l' := [.row 3 1 v59 n60 cs61]) r58 rfl
  refine FL.v (E.move k44) ?_
  refine FL.v (E.move k45) ?_
  obtain ⟨r63, hr64, hp⟩ := bnd hp
  refine FL.call rfl rfl rfl (E.call Tryz.call176 (A2 rfl rfl)) (w_spec_l2Without S57.sl v1 a1 (p1.mono (i34.tr r58.run.inc)) a2 hr64) ?_
  rintro e w66 ⟨H65, v69, n70, cs71, rfl, r68, els72⟩
  refine ⟨_, rfl, ?_⟩
  have els72 := els72.mono (up_le S57.size)
  have S67 := S57.join (l' := [.row 3 1 v69 n70 cs71, .row 3 1 v59 n60 cs61]) r68 rfl
  obtain ⟨H73, S74, i75, h76, nv77⟩ := S67.sealRowU (i := 1) (l' := [.row 3 1 v69 n70 cs71]) rfl (els62.mono (up_mono r68.run.inc)) (by decide) rfl
  obtain ⟨H78, S79, i80, h81, nv82⟩ := S74.sealRowU (i := 0) (l' := []) rfl (els72.mono (up_mono i75)) (by decide) rfl
  obtain ⟨r83, hr84, hp⟩ := bnd hp
  refine FL.call rfl rfl rfl (E.call Tryz.call175 (A2 rfl rfl)) (w_spec_l2Join S79.sl v59 r53 (h76.mono (upI.tr i80)) v69 r63 (h81.mono upI) hr84) ?_
  rintro e w86 ⟨H85, v91, n92, cs93, rfl, r88, els94⟩
  refine ⟨_, rfl, ?_⟩
  obtain ⟨H89, r88, hU90⟩ := St.lendX (i75.tr i80) S67.sl r88
  have els94 := els94.mono (hU90.tr (up_le S67.size))
  have S87 := S67.join (l' := [.row 3 1 v91 n92 cs93, .row 3 1 v69 n70 cs71, .row 3 1 v59 n60 cs61]) r88 rfl
  refine FL.v (E.extract (i := 0) rfl rfl) ?_
  refine FL.v (E.extract (i := 1) rfl rfl) ?_
  refine FL.v (E.assign (v := v91) rfl) ?_
  refine FL.v (E.assign (v := Value.bool r83.2) rfl) ?_
  refine FL.nil ?_
  refine FW.ret ?_
  obtain rfl := Option.some.inj hp
  exact ⟨.inr rfl, res2 rfl rfl rfl ⟨_, _, _, _, rfl, (S87.sel [0] (by decide) rfl), els94⟩⟩

@[reducible] def p_spec_l15Step (Ha : GH) (wa : World) (r : ((List (List Int)) × (List Int) × Bool)) : Ending → World → Prop :=
 fun e w' => ∃ H' : GH, ∃ v0 : Value, ∃ v1 : Value, e = .returned (Value.tuple #[v0, v1, Value.bool r.2.2]) ∧ Run wa.heap.size Ha wa H' w' ∧ RSl H' (eL eI 1) 1 v0 r.1 ∧ RSl H' eI 1 v1 r.2.1
set_option maxHeartbeats 4000000 in
theorem w_spec_l15Step {Ha : GH} {wa : World} (hs : Sl Ha wa) (a0 : Cnf) (v0_1 : Value) (p0_1 : RSl Ha (eL eI 1) 1 v0_1 a0.clauses) (v1 : Value) (a1 : List (List Int)) (p1 : RSl Ha (eL eI 1) 1 v1 a1) (a2 : SpaceStep) {r : ((List (List Int)) × (List Int) × Bool)} (hp : (PF.spec_l15Step a0 a1 a2) = some r) :
  Calls Tryz.prog 92 #[Value.agg #[Value.int .i64 a0.vars, v0_1], v1, Value.agg #[Value.int .i64 a2.kind, Value.int .i64 a2.a, Value.int .i64 a2.b, Value.int .i64 a2.pivot]] wa (p_spec_l15Step Ha wa r) := by
 unfold PF.spec_l15Step at hp
 have S0 := St.init hs
 refine calls_go (N := 146) (args := [Value.agg #[Value.int .i64 a0.vars, v0_1], v1, Value.agg #[Value.int .i64 a2.kind, Value.int .i64 a2.a, Value.int .i64 a2.b, Value.int .i64 a2.pivot]]) Tryz.func92 rfl rfl rfl ?_
 refine FW.seq (FW.region ?_)
 obtain ⟨b21, w22, run23, S24⟩ := S0.box (P := Tryz.prog) 30 [Value.int .i64 a0.vars, v0_1] (v := Value.agg #[Value.int .i64 a0.vars, v0_1]) rfl (ones_cons rfl (ones_cons p0_1.one ones_nil))
 refine FL.v (E.box rfl run23) ?_
 obtain ⟨H25, S26, i27, at28⟩ := S24.sealBox (i := 0) (l' := []) rfl rfl
 obtain ⟨b29, w30, run31, S32⟩ := S26.box (P := Tryz.prog) 76 [Value.int .i64 a2.kind, Value.int .i64 a2.a, Value.int .i64 a2.b, Value.int .i64 a2.pivot] (v := Value.agg #[Value.int .i64 a2.kind, Value.int .i64 a2.a, Value.int .i64 a2.b, Value.int .i64 a2.pivot]) rfl (ones_cons rfl (ones_cons rfl (ones_cons rfl (ones_cons rfl ones_nil))))
 refine FL.v (E.box rfl run31) ?_
 obtain ⟨H33, S34, i35, at36⟩ := S32.sealBox (i := 0) (l' := []) rfl rfl
 refine FL.v (E.assign (v := Value.slice none 0 0) rfl) ?_
 refine FL.v (E.assign (v := Value.slice none 0 0) rfl) ?_
 refine FL.v (E.assign (v := Value.bool false) rfl) ?_
 refine FL.nil (FW.seq (FW.seq (FW.region ?_)))
 refine FL.v (E.fieldAddr tf76_0 rfl) ?_
 refine FL.v (E.load rfl (run_load1 Tryz.isAgg3 (at36.now S34.sl) rfl)) ?_
 refine FL.v (E.eql rfl rfl) ?_
 refine FL.nil ?_
 rcases ifB hp with ⟨c37, hp⟩ | ⟨c37, hp⟩
 ·
  refine FW.condT rfl c37 ?_
  refine FW.seq (FW.seq (FW.region ?_))
  refine FL.v (E.fieldAddr tf76_1 rfl) ?_
  refine FL.v (E.load rfl (run_load1 Tryz.isAgg3 (at36.now S34.sl) rfl)) ?_
  refine FL.v (E.fieldAddr tf30_1 rfl) ?_
  refine FL.v (E.load rfl (run_load1 Tryz.isAgg22 ((at28.mono i35).now S34.sl) rfl)) ?_
  refine FL.v (E.lenP te22 rfl p0_1) ?_
  refine FL.v (E.sub rfl rfl) ?_
  refine FL.call rfl rfl rfl (E.call Tryz.call104 (A3 rfl rfl rfl)) (w_spec_l1In S34.sl a2.a 0 (wr ((len a0.clauses) - 1))) ?_
  rintro e w38 ⟨rfl, r39⟩
  refine ⟨_, rfl, ?_⟩
  have S40 := S34.call r39
  refine FL.v (E.not rfl) ?_
  refine FL.v (E.move (v := Value.bool (!(PF.spec_l1In a2.a 0 (wr ((len a0.clauses) - 1))))) rfl) ?_
  refine FL.cut 4 (fun f w => ∃ H : GH, St Ha wa H w [] ∧ Inc H33 H ∧ f 1 = v1 ∧ f 3 = Value.pointer (some ⟨b21, 0, none⟩) ∧ f 5 = Value.pointer (some ⟨b29, 0, none⟩) ∧ f 27 = Value.bool (bif (!(PF.spec_l1In a2.a 0 (wr ((len a0.clauses) - 1)))) then true else (!(a2.b == 0)))) ?_ ?_
  ·
   rcases bcase (!(PF.spec_l1In a2.a 0 (wr ((len a0.clauses) - 1)))) with c47 | c47
   ·
    refine FL.skip (wF_no rfl rfl rfl c47) rfl ?_
    refine FL.skip (wF_no rfl rfl rfl c47) rfl ?_
    refine FL.skip (wF_no rfl rfl rfl c47) rfl ?_
    refine FL.v (E.pickT rfl c47 rfl) ?_
    exact FL.nil ⟨rfl, _, S40, (Inc.rfl _), rfl, rfl, rfl, (congrArg Value.bool (bifT c47).symm)⟩
   ·
    refine FL.val (wF_yes rfl rfl rfl c47) rfl rfl (E.fieldAddr tf76_2 rfl) ?_
    refine FL.val (wF_yes rfl rfl rfl c47) rfl rfl (E.load rfl (run_load1 Tryz.isAgg3 (at36.now S40.sl) rfl)) ?_
    refine FL.val (wF_yes rfl rfl rfl c47) rfl rfl (E.neq rfl rfl) ?_
    refine FL.v (E.pickF rfl c47 rfl) ?_
    exact FL.nil ⟨rfl, _, S40, (Inc.rfl _), rfl, rfl, rfl, (congrArg Value.bool (bifF c47).symm)⟩
  rintro f46 w45 ⟨H42, S43, i44, k48, k49, k50, k51⟩
  refine FL.v (E.move k51) ?_
  refine FL.cut 4 (fun f w => ∃ H : GH, St Ha wa H w [] ∧ Inc H42 H ∧ f 1 = v1 ∧ f 3 = Value.pointer (some ⟨b21, 0, none⟩) ∧ f 5 = Value.pointer (some ⟨b29, 0, none⟩) ∧ f 32 = Value.bool (bif (bif (!(PF.spec_l1In a2.a 0 (wr ((len a0.clauses) - 1)))) then true else (!(a2.b == 0))) then true else (!(a2.pivot == 0)))) ?_ ?_
  ·
   rcases bcase (bif (!(PF.spec_l1In a2.a 0 (wr ((len a0.clauses) - 1)))) then true else (!(a2.b == 0))) with c58 | c58
   ·
    refine FL.skip (wF_no rfl rfl rfl c58) rfl ?_
    refine FL.skip (wF_no rfl rfl rfl c58) rfl ?_
    refine FL.skip (wF_no rfl rfl rfl c58) rfl ?_
    refine FL.v (E.pickT rfl c58 rfl) ?_
    exact FL.nil ⟨rfl, _, S43, (Inc.rfl _), k48, k49, k50, (congrArg Value.bool (bifT c58).symm)⟩
   ·
    refine FL.val (wF_yes rfl rfl rfl c58) rfl rfl (E.fieldAddr tf76_3 k50) ?_
    refine FL.val (wF_yes rfl rfl rfl c58) rfl rfl (E.load rfl (run_load1 Tryz.isAgg3 ((at36.mono i44).now S43.sl) rfl)) ?_
    refine FL.val (wF_yes rfl rfl rfl c58) rfl rfl (E.neq rfl rfl) ?_
    refine FL.v (E.pickF rfl c58 rfl) ?_
    exact FL.nil ⟨rfl, _, S43, (Inc.rfl _), k48, k49, k50, (congrArg Value.bool (bifF c58).symm)⟩
  rintro f57 w56 ⟨H53, S54, i55, k59, k60, k61, k62⟩
  refine FL.v (E.move k62) ?_
  obtain ⟨t78, hqt78, hp⟩ := bnd hp
  refine FL.cut 10 (fun f w => ∃ H : GH, St Ha wa H w [] ∧ Inc H53 H ∧ f 1 = v1 ∧ f 3 = Value.pointer (some ⟨b21, 0, none⟩) ∧ f 5 = Value.pointer (some ⟨b29, 0, none⟩) ∧ f 43 = Value.bool t78) ?_ ?_
  ·
   clear hp; have hp := hqt78; clear hqt78
   rcases ifB hp with ⟨c84, hp⟩ | ⟨c84, hp⟩
   ·
    refine FL.skip (wF_no rfl rfl rfl c84) rfl ?_
    refine FL.skip (wF_no rfl rfl rfl c84) rfl ?_
    refine FL.skip (wF_no rfl rfl rfl c84) rfl ?_
    refine FL.skip (wF_no rfl rfl rfl c84) rfl ?_
    refine FL.skip (wF_no rfl rfl rfl c84) rfl ?_
    refine FL.skip (wF_no rfl rfl rfl c84) rfl ?_
    refine FL.skip (wF_no rfl rfl rfl c84) rfl ?_
    refine FL.skip (wF_no rfl rfl rfl c84) rfl ?_
    refine FL.skip (wF_no rfl rfl rfl c84) rfl ?_
    obtain rfl := Option.some.inj hp
    refine FL.v (E.pickT rfl c84 rfl) ?_
    exact FL.nil ⟨rfl, _, S54, (Inc.rfl _), k59, k60, k61, rfl⟩
   ·
    refine FL.val (wF_yes rfl rfl rfl c84) rfl rfl (E.move k59) ?_
    refine FL.val (wF_yes rfl rfl rfl c84) rfl rfl (E.fieldAddr tf30_1 k60) ?_
    refine FL.val (wF_yes rfl rfl rfl c84) rfl rfl (E.load rfl (run_load1 Tryz.isAgg22 ((at28.mono ((i35.tr i44).tr i55)).now S54.sl) rfl)) ?_
    refine FL.val (wF_yes rfl rfl rfl c84) rfl rfl (E.fieldAddr tf76_1 k61) ?_
    refine FL.val (wF_yes rfl rfl rfl c84) rfl rfl (E.load rfl (run_load1 Tryz.isAgg3 ((at36.mono (i44.tr i55)).now S54.sl) rfl)) ?_
    obtain ⟨x91, hx92, hp⟩ := bnd hp
    obtain ⟨p85, cs86, pt87, l88, at89, rel90⟩ := p0_1.at hx92
    obtain ⟨v93, rfl, h94⟩ := eL_open rel90
    refine FL.val (wF_yes rfl rfl rfl c84) rfl rfl (E.indexAddr te22 rfl rfl pt87) ?_
    refine FL.val (wF_yes rfl rfl rfl c84) rfl rfl (E.load rfl (run_load0 Tryz.isAgg84 ((at89.mono (((i27.tr i35).tr i44).tr i55)).now S54.sl) rfl)) ?_
    obtain ⟨r95, hr96, hp⟩ := bnd hp
    refine FL.call (wF_yes rfl rfl rfl c84) rfl rfl (E.call Tryz.call150 (A2 rfl rfl)) (w_spec_l2At S54.sl v1 a1 (p1.mono (((i27.tr i35).tr i44).tr i55)) v93 x91 (h94.mono (((i27.tr i35).tr i44).tr i55)) hr96) ?_
    rintro e w97 ⟨rfl, r98⟩
    refine ⟨_, rfl, ?_⟩
    have S99 := S54.call r98
    refine FL.val (wF_yes rfl rfl rfl c84) rfl rfl (E.geq rfl rfl) ?_
    obtain rfl := Option.some.inj hp
    refine FL.v (E.pickF rfl c84 rfl) ?_
    exact FL.nil ⟨rfl, _, S99, (Inc.rfl _), k59, k60, k61, rfl⟩
  rintro f83 w82 ⟨H79, S80, i81, k100, k101, k102, k103⟩
  refine FL.nil ?_
  rcases ifB hp with ⟨c104, hp⟩ | ⟨c104, hp⟩
  ·
   refine FW.condT k103 c104 ?_
   refine FW.seq (FW.region ?_)
   obtain ⟨v105, w106, run107, S108⟩ := S80.buildSlice (P := Tryz.prog) te22 [] (parts := #[]) (cells := []) rfl szs_nil fc_nil ones_nil (Nat.le_of_ble_eq_true rfl)
   have els109 : Els (up wa.heap.size H79) (eL eI 1) 1 [] [] := Els.nil
   refine FL.v (E.buildSlice (B0) run107) ?_
   obtain ⟨v110, w111, run112, S113⟩ := S108.buildSlice (P := Tryz.prog) te84 [] (parts := #[]) (cells := []) rfl szs_nil fc_nil ones_nil (Nat.le_of_ble_eq_true rfl)
   have els114 : Els (up wa.heap.size H79) eI 1 [] [] := Els.nil
   refine FL.v (E.buildSlice (B0) run112) ?_
   refine FL.v (E.assign (v := v105) rfl) ?_
   refine FL.v (E.assign (v := v110) rfl) ?_
   refine FL.v (E.assign (v := Value.bool false) rfl) ?_
   refine FL.nil ?_
   refine FW.ret ?_
   obtain ⟨H115, S116, i117, ns120, nv119⟩ := S113.sealRowN (i := 1) (l' := [.row 3 1 v110 0 []]) rfl els109 (show (bl []).Nodup from List.nodup_nil) (by decide) rfl
   have h118 := ns120.rsl
   obtain ⟨H121, S122, i123, h124, nv125⟩ := S116.sealRowU (i := 0) (l' := []) rfl (els114.mono (up_mono i117)) (by decide) rfl
   obtain rfl := Option.some.inj hp
   exact ⟨.inr rfl, res3 rfl rfl rfl rfl ⟨_, _, _, rfl, S122.run, (h118.mono (upI.tr i123)), (h124.mono upI)⟩⟩
  ·
   refine FW.condF k103 c104 ?_
   refine FW.skip (FW.seq ?_)
   obtain ⟨x67, hx68, hp⟩ := bnd hp
   obtain ⟨r71, hr72, hp⟩ := bnd hp
   obtain ⟨x137, hx138, hp⟩ := bnd hp
   refine FW.drawB (Sl H79) (fun f w => ∃ H : GH, ∃ v141 : Value, ∃ v143 : Value, St Ha wa H w [] ∧ Inc H79 H ∧ RSl H (eL eI 1) 1 v141 r71 ∧ RSl H eI 1 v143 x137 ∧ f 6 = v141 ∧ f 7 = v143 ∧ f 8 = Value.bool true) (by kernel_rfl) S80.sl ?_ ?_
   ·
    intro w126 r127
    have S128 := S80.call r127
    refine FB.t (i := 0) (bs 17 1) rfl (SP.nil S128.sl) rfl (fun w' hw' => (E.move k100)) ?_
    refine FB.t (i := 1) (bs 17 3) rfl (SP.nil S128.sl) rfl (fun w' hw' => (E.fieldAddr tf30_1 k101)) ?_
    refine FB.t (i := 2) (bs 17 7) rfl (SP.nil S128.sl) rfl (fun w' hw' => (E.load rfl (run_load1 Tryz.isAgg22 ((at28.mono (((i35.tr i44).tr i55).tr i81)).now hw') rfl))) ?_
    refine FB.t (i := 3) (bs 17 15) rfl (SP.nil S128.sl) rfl (fun w' hw' => (E.fieldAddr tf76_1 k102)) ?_
    refine FB.t (i := 4) (bs 17 31) rfl (SP.nil S128.sl) rfl (fun w' hw' => (E.load rfl (run_load1 Tryz.isAgg3 ((at36.mono ((i44.tr i55).tr i81)).now hw') rfl))) ?_
    obtain ⟨p41, cs52, pt63, l64, at65, rel66⟩ := p0_1.at hx68
    obtain ⟨v69, rfl, h70⟩ := eL_open rel66
    refine FB.t (i := 5) (bs 17 63) rfl (SP.nil S128.sl) rfl (fun w' hw' => (E.indexAddr te22 rfl rfl pt63)) ?_
    refine FB.t (i := 6) (bs 17 127) rfl (SP.nil S128.sl) rfl (fun w' hw' => (E.load rfl (run_load0 Tryz.isAgg84 ((at65.mono ((((i27.tr i35).tr i44).tr i55).tr i81)).now hw') rfl))) ?_
    refine FB.t (i := 8) (bs 17 383) rfl (SP.nil S128.sl) rfl (fun w' hw' => (E.fieldAddr tf30_1 k101)) ?_
    refine FB.t (i := 9) (bs 17 895) rfl (SP.nil S128.sl) rfl (fun w' hw' => (E.load rfl (run_load1 Tryz.isAgg22 ((at28.mono (((i35.tr i44).tr i55).tr i81)).now hw') rfl))) ?_
    refine FB.t (i := 10) (bs 17 1919) rfl (SP.nil S128.sl) rfl (fun w' hw' => (E.fieldAddr tf76_1 k102)) ?_
    refine FB.t (i := 11) (bs 17 3967) rfl (SP.nil S128.sl) rfl (fun w' hw' => (E.load rfl (run_load1 Tryz.isAgg3 ((at36.mono ((i44.tr i55).tr i81)).now hw') rfl))) ?_
    obtain ⟨p131, cs132, pt133, l134, at135, rel136⟩ := p0_1.at hx138
    obtain ⟨v139, rfl, h140⟩ := eL_open rel136
    refine FB.t (i := 12) (bs 17 8063) rfl (SP.nil S128.sl) rfl (fun w' hw' => (E.indexAddr te22 rfl rfl pt133)) ?_
    refine FB.t (i := 13) (bs 17 16255) rfl (SP.nil S128.sl) rfl (fun w' hw' => (E.load rfl (run_load0 Tryz.isAgg84 ((at135.mono ((((i27.tr i35).tr i44).tr i55).tr i81)).now hw') rfl))) ?_
    refine FB.all1 (i := 7) (by kernel_rfl) ?_
    ·
     refine FC.call (l' := (bs 17 16383)) rfl (by kernel_rfl) rfl rfl rfl (E.call Tryz.call59 (A2 rfl rfl)) (w_spec_l2Insert S128.sl v1 a1 (p1.mono ((((i27.tr i35).tr i44).tr i55).tr i81)) v69 x67 (h70.mono ((((i27.tr i35).tr i44).tr i55).tr i81)) hr72) ?_
     rintro e w74 ⟨H73, v129, rfl, r77, h130⟩
     refine ⟨_, rfl, ?_⟩
     have S75 := S128.call r77
     refine ⟨(SP.nil (Sl.of_inc r77.inc S75.sl)), ?_⟩
     refine FB.t (i := 14) (bs 17 32767) rfl (SP.nil (Sl.of_inc r77.inc S75.sl)) rfl (fun w' hw' => (E.assign (v := v129) rfl)) ?_
     refine FB.t (i := 15) (bs 17 65535) rfl (SP.nil (Sl.of_inc r77.inc S75.sl)) rfl (fun w' hw' => (E.assign (v := v139) rfl)) ?_
     refine FB.t (i := 16) (bs 17 131071) rfl (SP.nil (Sl.of_inc r77.inc S75.sl)) rfl (fun w' hw' => (E.assign (v := Value.bool true) rfl)) ?_
     exact FB.done (by kernel_rfl) ⟨_, _, _, S75, r77.inc, h130, (h140.mono (((((i27.tr i35).tr i44).tr i55).tr i81).tr r77.inc)), rfl, rfl, rfl⟩
   ·
    rintro f149 w148 ⟨H145, v141, v143, S146, i147, h142, h144, k150, k151, k152⟩
    refine FW.ret ?_
    obtain rfl := Option.some.inj hp
    exact ⟨.inr rfl, res3 rfl k150 k151 k152 ⟨_, _, _, rfl, S146.run, h142, h144⟩⟩
 ·
  refine FW.condF rfl c37 ?_
  refine FW.skip (FW.seq (FW.seq (FW.region ?_)))
  refine FL.v (E.fieldAddr tf76_1 rfl) ?_
  refine FL.v (E.load rfl (run_load1 Tryz.isAgg3 (at36.now S34.sl) rfl)) ?_
  refine FL.v (E.move (v := v1) rfl) ?_
  refine FL.v (E.lenP te22 rfl p1) ?_
  refine FL.v (E.sub rfl rfl) ?_
  refine FL.call rfl rfl rfl (E.call Tryz.call104 (A3 rfl rfl rfl)) (w_spec_l1In S34.sl a2.a 0 (wr ((len a1) - 1))) ?_
  rintro e w153 ⟨rfl, r154⟩
  refine ⟨_, rfl, ?_⟩
  have S155 := S34.call r154
  refine FL.v (E.not rfl) ?_
  refine FL.nil ?_
  rcases ifB hp with ⟨c156, hp⟩ | ⟨c156, hp⟩
  ·
   refine FW.condT rfl c156 ?_
   refine FW.seq (FW.region ?_)
   obtain ⟨v157, w158, run159, S160⟩ := S155.buildSlice (P := Tryz.prog) te22 [] (parts := #[]) (cells := []) rfl szs_nil fc_nil ones_nil (Nat.le_of_ble_eq_true rfl)
   have els161 : Els (up wa.heap.size H33) (eL eI 1) 1 [] [] := Els.nil
   refine FL.v (E.buildSlice (B0) run159) ?_
   obtain ⟨v162, w163, run164, S165⟩ := S160.buildSlice (P := Tryz.prog) te84 [] (parts := #[]) (cells := []) rfl szs_nil fc_nil ones_nil (Nat.le_of_ble_eq_true rfl)
   have els166 : Els (up wa.heap.size H33) eI 1 [] [] := Els.nil
   refine FL.v (E.buildSlice (B0) run164) ?_
   refine FL.v (E.assign (v := v157) rfl) ?_
   refine FL.v (E.assign (v := v162) rfl) ?_
   refine FL.v (E.assign (v := Value.bool false) rfl) ?_
   refine FL.nil ?_
   refine FW.ret ?_
   obtain ⟨H167, S168, i169, ns172, nv171⟩ := S165.sealRowN (i := 1) (l' := [.row 3 1 v162 0 []]) rfl els161 (show (bl []).Nodup from List.nodup_nil) (by decide) rfl
   have h170 := ns172.rsl
   obtain ⟨H173, S174, i175, h176, nv177⟩ := S168.sealRowU (i := 0) (l' := []) rfl (els166.mono (up_mono i169)) (by decide) rfl
   obtain rfl := Option.some.inj hp
   exact ⟨.inr rfl, res3 rfl rfl rfl rfl ⟨_, _, _, rfl, S174.run, (h170.mono (upI.tr i175)), (h176.mono upI)⟩⟩
  ·
   refine FW.condF rfl c156 ?_
   refine FW.skip (FW.seq (FW.seq (FW.region ?_)))
   refine FL.v (E.fieldAddr tf76_0 rfl) ?_
   refine FL.v (E.load rfl (run_load1 Tryz.isAgg3 (at36.now S155.sl) rfl)) ?_
   refine FL.v (E.eql rfl rfl) ?_
   refine FL.nil ?_
   rcases ifB hp with ⟨c178, hp⟩ | ⟨c178, hp⟩
   ·
    refine FW.condT rfl c178 ?_
    refine FW.seq ?_
    obtain ⟨xs187, hc188, hp⟩ := bnd hp
    obtain ⟨xs192, hz193, hp⟩ := bnd hp
    obtain ⟨xs201, hc202, hp⟩ := bnd hp
    obtain ⟨xs206, hz207, hp⟩ := bnd hp
    refine FW.drawB (Sl H33) (fun f w => ∃ H : GH, ∃ v215 : Value, ∃ n216 : Nat, ∃ cs217 : List Value, St Ha wa H w [.row 84 1 v215 n216 cs217] ∧ Inc H33 H ∧ Els H (eL eI 1) 1 cs217 xs206 ∧ f 5 = Value.pointer (some ⟨b29, 0, none⟩) ∧ f 9 = v215) (by kernel_rfl) S155.sl ?_ ?_
    ·
     intro w179 r180
     have S181 := S155.call r180
     refine FB.t (i := 1) (bs 13 2) rfl (SP.nil S181.sl) rfl (fun w' hw' => (E.move (v := v1) rfl)) ?_
     refine FB.t (i := 2) (bs 13 6) rfl (SP.nil S181.sl) rfl (fun w' hw' => (E.fieldAddr tf76_1 rfl)) ?_
     refine FB.t (i := 3) (bs 13 14) rfl (SP.nil S181.sl) rfl (fun w' hw' => (E.load rfl (run_load1 Tryz.isAgg3 (at36.now hw') rfl))) ?_
     obtain ⟨v189, run190, h191⟩ := p1.cut te22 hc188 (lo := none) (hi := some (Value.int .i64 a2.a)) (.inl ⟨rfl, rfl⟩) (.inr ⟨_, rfl⟩)
     refine FB.t (i := 4) (bs 13 30) rfl (SP.nil S181.sl) rfl (fun w' hw' => (E.slice te22 rfl rfl (congrArg some rfl) rfl (run190 _))) ?_
     refine FB.t (i := 6) (bs 13 94) rfl (SP.nil S181.sl) rfl (fun w' hw' => (E.move (v := v1) rfl)) ?_
     refine FB.t (i := 7) (bs 13 222) rfl (SP.nil S181.sl) rfl (fun w' hw' => (E.fieldAddr tf76_1 rfl)) ?_
     refine FB.t (i := 8) (bs 13 478) rfl (SP.nil S181.sl) rfl (fun w' hw' => (E.load rfl (run_load1 Tryz.isAgg3 (at36.now hw') rfl))) ?_
     refine FB.t (i := 9) (bs 13 990) rfl (SP.nil S181.sl) rfl (fun w' hw' => (E.add rfl rfl)) ?_
     obtain ⟨v203, run204, h205⟩ := p1.cut te22 hc202 (lo := some (Value.int .i64 (wr (a2.a + 1)))) (hi := none) (.inr ⟨_, rfl⟩) (.inl ⟨rfl, rfl⟩)
     refine FB.t (i := 10) (bs 13 2014) rfl (SP.nil S181.sl) rfl (fun w' hw' => (E.slice te22 rfl (congrArg some rfl) rfl rfl (run204 _))) ?_
     refine FB.all1 (i := 0) (by kernel_rfl) ?_
     ·
      obtain ⟨v182, w183, run184, S185⟩ := S181.buildSlice (P := Tryz.prog) te22 [] (parts := #[]) (cells := []) rfl szs_nil fc_nil ones_nil (Nat.le_of_ble_eq_true rfl)
      have els186 : Els (up wa.heap.size H33) (eL eI 1) 1 [] [] := Els.nil
      refine FC.val (l' := (bs 13 2015)) rfl (by kernel_rfl) rfl rfl rfl (E.buildSlice (B0) run184) ?_
      refine ⟨(SP.nil S185.sl), ?_⟩
      refine FB.all1 (i := 5) (by kernel_rfl) ?_
      ·
       obtain ⟨v194, w197, n195, cs196, run198, S199, els200⟩ := S185.appendP (P := Tryz.prog) (Inc.rfl _) te22 (i := 0) rfl (els186.mono upI) (h191.mono (i27.tr i35)) hz193
       have S199 : St Ha wa H33 w197 [.row 84 1 v194 n195 cs196] := S199
       refine FC.val (l' := (bs 13 2047)) rfl (by kernel_rfl) rfl rfl rfl (E.append rfl rfl run198) ?_
       refine ⟨(SP.nil S199.sl), ?_⟩
       refine FB.all1 (i := 11) (by kernel_rfl) ?_
       ·
        obtain ⟨v208, w211, n209, cs210, run212, S213, els214⟩ := S199.appendP (P := Tryz.prog) (Inc.rfl _) te22 (i := 0) rfl els200 (h205.mono (i27.tr i35)) hz207
        have S213 : St Ha wa H33 w211 [.row 84 1 v208 n209 cs210] := S213
        refine FC.val (l' := (bs 13 4095)) rfl (by kernel_rfl) rfl rfl rfl (E.append rfl rfl run212) ?_
        refine ⟨(SP.nil S213.sl), ?_⟩
        refine FB.t (i := 12) (bs 13 8191) rfl (SP.nil S213.sl) rfl (fun w' hw' => (E.assign (v := v208) rfl)) ?_
        exact FB.done (by kernel_rfl) ⟨_, _, _, _, S213, (Inc.rfl _), els214, rfl, rfl⟩
    ·
     rintro f223 w222 ⟨H219, v215, n216, cs217, S220, i221, els218, k224, k225⟩
     refine FW.seq ?_
     refine FW.drawB (Sl H219) (fun f w => ∃ H : GH, ∃ v234 : Value, ∃ n235 : Nat, ∃ cs236 : List Value, St Ha wa H w [.row 84 1 v215 n216 cs217, .row 3 1 v234 n235 cs236] ∧ Inc H219 H ∧ Els (up wa.heap.size H) eI 1 cs236 [] ∧ f 6 = v215 ∧ f 7 = v234 ∧ f 8 = Value.bool (bif (a2.b == 0) then (a2.pivot == 0) else false)) (by kernel_rfl) S220.sl ?_ ?_
     ·
      intro w226 r227
      have S228 := S220.call r227
      refine FB.t (i := 0) (bs 13 1) rfl (SP.nil S228.sl) rfl (fun w' hw' => (E.move k225)) ?_
      refine FB.t (i := 2) (bs 13 5) rfl (SP.nil S228.sl) rfl (fun w' hw' => (E.fieldAddr tf76_2 k224)) ?_
      refine FB.t (i := 3) (bs 13 13) rfl (SP.nil S228.sl) rfl (fun w' hw' => (E.load rfl (run_load1 Tryz.isAgg3 ((at36.mono i221).now hw') rfl))) ?_
      refine FB.t (i := 4) (bs 13 29) rfl (SP.nil S228.sl) rfl (fun w' hw' => (E.eql rfl rfl)) ?_
      refine FB.t (i := 5) (bs 13 61) rfl (SP.nil S228.sl) rfl (fun w' hw' => (E.move (v := Value.bool (a2.b == 0)) rfl)) ?_
      rcases bcase (a2.b == 0) with hc225_5 | hc225_5
      ·
       refine FB.t (i := 6) (bs 13 125) rfl (SP.nil S228.sl) (wF_yes rfl rfl rfl hc225_5) (fun w' hw' => (E.fieldAddr tf76_3 k224)) ?_
       refine FB.t (i := 7) (bs 13 253) rfl (SP.nil S228.sl) (wF_yes rfl rfl rfl hc225_5) (fun w' hw' => (E.load rfl (run_load1 Tryz.isAgg3 ((at36.mono i221).now hw') rfl))) ?_
       refine FB.t (i := 8) (bs 13 509) rfl (SP.nil S228.sl) (wF_yes rfl rfl rfl hc225_5) (fun w' hw' => (E.eql rfl rfl)) ?_
       refine FB.t (i := 9) (bs 13 1021) rfl (SP.nil S228.sl) rfl (fun w' hw' => (E.asB (b := (bif (a2.b == 0) then (a2.pivot == 0) else false)) (E.pickT rfl hc225_5 rfl) (bifT hc225_5).symm)) ?_
       refine FB.t (i := 10) (bs 13 2045) rfl (SP.nil S228.sl) rfl (fun w' hw' => (E.assign (v := v215) rfl)) ?_
       refine FB.all1 (i := 1) (by kernel_rfl) ?_
       ·
        obtain ⟨v229, w230, run231, S232⟩ := S228.buildSlice (P := Tryz.prog) te84 [] (parts := #[]) (cells := []) rfl szs_nil fc_nil ones_nil (Nat.le_of_ble_eq_true rfl)
        have els233 : Els (up wa.heap.size H219) eI 1 [] [] := Els.nil
        refine FC.val (l' := (bs 13 2047)) rfl (by kernel_rfl) rfl rfl rfl (E.buildSlice (B0) run231) ?_
        refine ⟨(SP.nil S232.sl), ?_⟩
        refine FB.t (i := 11) (bs 13 4095) rfl (SP.nil S232.sl) rfl (fun w' hw' => (E.assign (v := v229) rfl)) ?_
        refine FB.t (i := 12) (bs 13 8191) rfl (SP.nil S232.sl) rfl (fun w' hw' => (E.assign (v := Value.bool (bif (a2.b == 0) then (a2.pivot == 0) else false)) rfl)) ?_
        exact FB.done (by kernel_rfl) ⟨_, _, _, _, (S232.sel [1, 0] (by decide) rfl), (Inc.rfl _), els233, rfl, rfl, rfl⟩
      ·
       refine FB.skip (i := 6) (l' := (bs 13 125)) rfl (by kernel_rfl) (by kernel_rfl) (by kernel_rfl) (by kernel_rfl) (by kernel_rfl) (SP.nil S228.sl) (wF_no rfl rfl rfl hc225_5) rfl rfl ?_
       refine FB.skip (i := 7) (l' := (bs 13 253)) rfl (by kernel_rfl) (by kernel_rfl) (by kernel_rfl) (by kernel_rfl) (by kernel_rfl) (SP.nil S228.sl) (wF_no rfl rfl rfl hc225_5) rfl rfl ?_
       refine FB.skip (i := 8) (l' := (bs 13 509)) rfl (by kernel_rfl) (by kernel_rfl) (by kernel_rfl) (by kernel_rfl) (by kernel_rfl) (SP.nil S228.sl) (wF_no rfl rfl rfl hc225_5) rfl rfl ?_
       refine FB.t (i := 9) (bs 13 1021) rfl (SP.nil S228.sl) rfl (fun w' hw' => (E.asB (b := (bif (a2.b == 0) then (a2.pivot == 0) else false)) (E.pickF rfl hc225_5 rfl) (bifF hc225_5).symm)) ?_
       refine FB.t (i := 10) (bs 13 2045) rfl (SP.nil S228.sl) rfl (fun w' hw' => (E.assign (v := v215) rfl)) ?_
       refine FB.all1 (i := 1) (by kernel_rfl) ?_
       ·
        obtain ⟨v229, w230, run231, S232⟩ := S228.buildSlice (P := Tryz.prog) te84 [] (parts := #[]) (cells := []) rfl szs_nil fc_nil ones_nil (Nat.le_of_ble_eq_true rfl)
        have els233 : Els (up wa.heap.size H219) eI 1 [] [] := Els.nil
        refine FC.val (l' := (bs 13 2047)) rfl (by kernel_rfl) rfl rfl rfl (E.buildSlice (B0) run231) ?_
        refine ⟨(SP.nil S232.sl), ?_⟩
        refine FB.t (i := 11) (bs 13 4095) rfl (SP.nil S232.sl) rfl (fun w' hw' => (E.assign (v := v229) rfl)) ?_
        refine FB.t (i := 12) (bs 13 8191) rfl (SP.nil S232.sl) rfl (fun w' hw' => (E.assign (v := Value.bool (bif (a2.b == 0) then (a2.pivot == 0) else false)) rfl)) ?_
        exact FB.done (by kernel_rfl) ⟨_, _, _, _, (S232.sel [1, 0] (by decide) rfl), (Inc.rfl _), els233, rfl, rfl, rfl⟩
     ·
      rintro f242 w241 ⟨H238, v234, n235, cs236, S239, i240, els237, k243, k244, k245⟩
      refine FW.ret ?_
      obtain ⟨H246, S247, i248, h249⟩ := S239.sealRow (i := 0) (l' := [.row 3 1 v234 n235 cs236]) rfl (els218.mono i240) (by decide) rfl
      obtain ⟨H250, S251, i252, h253, nv254⟩ := S247.sealRowU (i := 0) (l' := []) rfl (els237.mono (up_mono i248)) (by decide) rfl
      obtain rfl := Option.some.inj hp
      exact ⟨.inr rfl, res3 rfl k243 k244 k245 ⟨_, _, _, rfl, S251.run, (h249.mono i252), (h253.mono upI)⟩⟩
   ·
    refine FW.condF rfl c178 ?_
    refine FW.skip (FW.seq (FW.seq (FW.region ?_)))
    refine FL.v (E.fieldAddr tf76_0 rfl) ?_
    refine FL.v (E.load rfl (run_load1 Tryz.isAgg3 (at36.now S155.sl) rfl)) ?_
    refine FL.v (E.neq rfl rfl) ?_
    refine FL.v (E.move (v := Value.bool (!(a2.kind == 2))) rfl) ?_
    refine FL.cut 8 (fun f w => ∃ H : GH, St Ha wa H w [] ∧ Inc H33 H ∧ f 1 = v1 ∧ f 3 = Value.pointer (some ⟨b21, 0, none⟩) ∧ f 5 = Value.pointer (some ⟨b29, 0, none⟩) ∧ f 105 = Value.bool (bif (!(a2.kind == 2)) then true else (!(PF.spec_l1In a2.b 0 (wr ((len a1) - 1)))))) ?_ ?_
    ·
     rcases bcase (!(a2.kind == 2)) with c260 | c260
     ·
      refine FL.skip (wF_no rfl rfl rfl c260) rfl ?_
      refine FL.skip (wF_no rfl rfl rfl c260) rfl ?_
      refine FL.skip (wF_no rfl rfl rfl c260) rfl ?_
      refine FL.skip (wF_no rfl rfl rfl c260) rfl ?_
      refine FL.skip (wF_no rfl rfl rfl c260) rfl ?_
      refine FL.skip (wF_no rfl rfl rfl c260) rfl ?_
      refine FL.skip (wF_no rfl rfl rfl c260) rfl ?_
      refine FL.v (E.pickT rfl c260 rfl) ?_
      exact FL.nil ⟨rfl, _, S155, (Inc.rfl _), rfl, rfl, rfl, (congrArg Value.bool (bifT c260).symm)⟩
     ·
      refine FL.val (wF_yes rfl rfl rfl c260) rfl rfl (E.fieldAddr tf76_2 rfl) ?_
      refine FL.val (wF_yes rfl rfl rfl c260) rfl rfl (E.load rfl (run_load1 Tryz.isAgg3 (at36.now S155.sl) rfl)) ?_
      refine FL.val (wF_yes rfl rfl rfl c260) rfl rfl (E.move (v := v1) rfl) ?_
      refine FL.val (wF_yes rfl rfl rfl c260) rfl rfl (E.lenP te22 rfl p1) ?_
      refine FL.val (wF_yes rfl rfl rfl c260) rfl rfl (E.sub rfl rfl) ?_
      refine FL.call (wF_yes rfl rfl rfl c260) rfl rfl (E.call Tryz.call104 (A3 rfl rfl rfl)) (w_spec_l1In S155.sl a2.b 0 (wr ((len a1) - 1))) ?_
      rintro e w261 ⟨rfl, r262⟩
      refine ⟨_, rfl, ?_⟩
      have S263 := S155.call r262
      refine FL.val (wF_yes rfl rfl rfl c260) rfl rfl (E.not rfl) ?_
      refine FL.v (E.pickF rfl c260 rfl) ?_
      exact FL.nil ⟨rfl, _, S263, (Inc.rfl _), rfl, rfl, rfl, (congrArg Value.bool (bifF c260).symm)⟩
    rintro f259 w258 ⟨H255, S256, i257, k264, k265, k266, k267⟩
    refine FL.v (E.move k267) ?_
    refine FL.cut 7 (fun f w => ∃ H : GH, St Ha wa H w [] ∧ Inc H255 H ∧ f 1 = v1 ∧ f 5 = Value.pointer (some ⟨b29, 0, none⟩) ∧ f 113 = Value.bool (bif (bif (!(a2.kind == 2)) then true else (!(PF.spec_l1In a2.b 0 (wr ((len a1) - 1))))) then true else (!(PF.spec_l1In a2.pivot 1 a0.vars)))) ?_ ?_
    ·
     rcases bcase (bif (!(a2.kind == 2)) then true else (!(PF.spec_l1In a2.b 0 (wr ((len a1) - 1))))) with c273 | c273
     ·
      refine FL.skip (wF_no rfl rfl rfl c273) rfl ?_
      refine FL.skip (wF_no rfl rfl rfl c273) rfl ?_
      refine FL.skip (wF_no rfl rfl rfl c273) rfl ?_
      refine FL.skip (wF_no rfl rfl rfl c273) rfl ?_
      refine FL.skip (wF_no rfl rfl rfl c273) rfl ?_
      refine FL.skip (wF_no rfl rfl rfl c273) rfl ?_
      refine FL.v (E.pickT rfl c273 rfl) ?_
      exact FL.nil ⟨rfl, _, S256, (Inc.rfl _), k264, k266, (congrArg Value.bool (bifT c273).symm)⟩
     ·
      refine FL.val (wF_yes rfl rfl rfl c273) rfl rfl (E.fieldAddr tf76_3 k266) ?_
      refine FL.val (wF_yes rfl rfl rfl c273) rfl rfl (E.load rfl (run_load1 Tryz.isAgg3 ((at36.mono i257).now S256.sl) rfl)) ?_
      refine FL.val (wF_yes rfl rfl rfl c273) rfl rfl (E.fieldAddr tf30_0 k265) ?_
      refine FL.val (wF_yes rfl rfl rfl c273) rfl rfl (E.load rfl (run_load1 Tryz.isAgg3 ((at28.mono (i35.tr i257)).now S256.sl) rfl)) ?_
      refine FL.call (wF_yes rfl rfl rfl c273) rfl rfl (E.call Tryz.call104 (A3 rfl rfl rfl)) (w_spec_l1In S256.sl a2.pivot 1 a0.vars) ?_
      rintro e w274 ⟨rfl, r275⟩
      refine ⟨_, rfl, ?_⟩
      have S276 := S256.call r275
      refine FL.val (wF_yes rfl rfl rfl c273) rfl rfl (E.not rfl) ?_
      refine FL.v (E.pickF rfl c273 rfl) ?_
      exact FL.nil ⟨rfl, _, S276, (Inc.rfl _), k264, k266, (congrArg Value.bool (bifF c273).symm)⟩
    rintro f272 w271 ⟨H268, S269, i270, k277, k278, k279⟩
    refine FL.nil ?_
    rcases ifB hp with ⟨c280, hp⟩ | ⟨c280, hp⟩
    ·
     refine FW.condT k279 c280 ?_
     refine FW.seq (FW.region ?_)
     obtain ⟨v281, w282, run283, S284⟩ := S269.buildSlice (P := Tryz.prog) te22 [] (parts := #[]) (cells := []) rfl szs_nil fc_nil ones_nil (Nat.le_of_ble_eq_true rfl)
     have els285 : Els (up wa.heap.size H268) (eL eI 1) 1 [] [] := Els.nil
     refine FL.v (E.buildSlice (B0) run283) ?_
     obtain ⟨v286, w287, run288, S289⟩ := S284.buildSlice (P := Tryz.prog) te84 [] (parts := #[]) (cells := []) rfl szs_nil fc_nil ones_nil (Nat.le_of_ble_eq_true rfl)
     have els290 : Els (up wa.heap.size H268) eI 1 [] [] := Els.nil
     refine FL.v (E.buildSlice (B0) run288) ?_
     refine FL.v (E.assign (v := v281) rfl) ?_
     refine FL.v (E.assign (v := v286) rfl) ?_
     refine FL.v (E.assign (v := Value.bool false) rfl) ?_
     refine FL.nil ?_
     refine FW.ret ?_
     obtain ⟨H291, S292, i293, ns296, nv295⟩ := S289.sealRowN (i := 1) (l' := [.row 3 1 v286 0 []]) rfl els285 (show (bl []).Nodup from List.nodup_nil) (by decide) rfl
     have h294 := ns296.rsl
     obtain ⟨H297, S298, i299, h300, nv301⟩ := S292.sealRowU (i := 0) (l' := []) rfl (els290.mono (up_mono i293)) (by decide) rfl
     obtain rfl := Option.some.inj hp
     exact ⟨.inr rfl, res3 rfl rfl rfl rfl ⟨_, _, _, rfl, S298.run, (h294.mono (upI.tr i299)), (h300.mono upI)⟩⟩
    ·
     refine FW.condF k279 c280 ?_
     refine FW.skip (FW.seq ?_)
     obtain ⟨x311, hx312, hp⟩ := bnd hp
     obtain ⟨x321, hx322, hp⟩ := bnd hp
     obtain ⟨r325, hr326, hp⟩ := bnd hp
     refine FW.drawB (Sl H268) (fun f w => ∃ H : GH, ∃ v335 : Value, ∃ n336 : Nat, ∃ cs337 : List Value, St Ha wa H w [.row 3 1 v335 n336 cs337] ∧ Inc H268 H ∧ Els (up wa.heap.size H) eI 1 cs337 r325.1 ∧ f 1 = v1 ∧ f 10 = v335 ∧ f 11 = Value.bool r325.2) (by kernel_rfl) S269.sl ?_ ?_
     ·
      intro w302 r303
      have S304 := S269.call r303
      refine FB.t (i := 0) (bs 18 1) rfl (SP.nil S304.sl) rfl (fun w' hw' => (E.move k277)) ?_
      refine FB.t (i := 1) (bs 18 3) rfl (SP.nil S304.sl) rfl (fun w' hw' => (E.fieldAddr tf76_1 k278)) ?_
      refine FB.t (i := 2) (bs 18 7) rfl (SP.nil S304.sl) rfl (fun w' hw' => (E.load rfl (run_load1 Tryz.isAgg3 ((at36.mono (i257.tr i270)).now hw') rfl))) ?_
      obtain ⟨p305, cs306, pt307, l308, at309, rel310⟩ := p1.at hx312
      obtain ⟨v313, rfl, h314⟩ := eL_open rel310
      refine FB.t (i := 3) (bs 18 15) rfl (SP.nil S304.sl) rfl (fun w' hw' => (E.indexAddr te22 rfl rfl pt307)) ?_
      refine FB.t (i := 4) (bs 18 31) rfl (SP.nil S304.sl) rfl (fun w' hw' => (E.load rfl (run_load0 Tryz.isAgg84 ((at309.mono (((i27.tr i35).tr i257).tr i270)).now hw') rfl))) ?_
      refine FB.t (i := 5) (bs 18 63) rfl (SP.nil S304.sl) rfl (fun w' hw' => (E.move k277)) ?_
      refine FB.t (i := 6) (bs 18 127) rfl (SP.nil S304.sl) rfl (fun w' hw' => (E.fieldAddr tf76_2 k278)) ?_
      refine FB.t (i := 7) (bs 18 255) rfl (SP.nil S304.sl) rfl (fun w' hw' => (E.load rfl (run_load1 Tryz.isAgg3 ((at36.mono (i257.tr i270)).now hw') rfl))) ?_
      obtain ⟨p315, cs316, pt317, l318, at319, rel320⟩ := p1.at hx322
      obtain ⟨v323, rfl, h324⟩ := eL_open rel320
      refine FB.t (i := 8) (bs 18 511) rfl (SP.nil S304.sl) rfl (fun w' hw' => (E.indexAddr te22 rfl rfl pt317)) ?_
      refine FB.t (i := 9) (bs 18 1023) rfl (SP.nil S304.sl) rfl (fun w' hw' => (E.load rfl (run_load0 Tryz.isAgg84 ((at319.mono (((i27.tr i35).tr i257).tr i270)).now hw') rfl))) ?_
      refine FB.t (i := 10) (bs 18 2047) rfl (SP.nil S304.sl) rfl (fun w' hw' => (E.fieldAddr tf76_3 k278)) ?_
      refine FB.t (i := 11) (bs 18 4095) rfl (SP.nil S304.sl) rfl (fun w' hw' => (E.load rfl (run_load1 Tryz.isAgg3 ((at36.mono (i257.tr i270)).now hw') rfl))) ?_
      refine FB.all1 (i := 12) (by kernel_rfl) ?_
      ·
       refine FC.call (l' := (bs 18 8191)) rfl (by kernel_rfl) rfl rfl rfl (E.call Tryz.call117 (A3 rfl rfl rfl)) (w_spec_l2Resolve S304.sl v313 x311 (h314.mono (((i27.tr i35).tr i257).tr i270)) v323 x321 (h324.mono (((i27.tr i35).tr i257).tr i270)) a2.pivot hr326) ?_
       rintro e w328 ⟨H327, v331, n332, cs333, rfl, r330, els334⟩
       refine ⟨_, rfl, ?_⟩
       have els334 := els334.mono (up_le S304.size)
       have S329 := S304.join (l' := [.row 3 1 v331 n332 cs333]) r330 rfl
       refine ⟨(SP.nil (Sl.of_inc r330.run.inc S329.sl)), ?_⟩
       refine FB.t (i := 13) (bs 18 16383) rfl (SP.nil (Sl.of_inc r330.run.inc S329.sl)) rfl (fun w' hw' => (E.move (v := Value.tuple #[v331, Value.bool r325.2]) rfl)) ?_
       refine FB.t (i := 14) (bs 18 32767) rfl (SP.nil (Sl.of_inc r330.run.inc S329.sl)) rfl (fun w' hw' => (E.extract (i := 0) rfl rfl)) ?_
       refine FB.t (i := 15) (bs 18 65535) rfl (SP.nil (Sl.of_inc r330.run.inc S329.sl)) rfl (fun w' hw' => (E.extract (i := 1) rfl rfl)) ?_
       refine FB.t (i := 16) (bs 18 131071) rfl (SP.nil (Sl.of_inc r330.run.inc S329.sl)) rfl (fun w' hw' => (E.assign (v := v331) rfl)) ?_
       refine FB.t (i := 17) (bs 18 262143) rfl (SP.nil (Sl.of_inc r330.run.inc S329.sl)) rfl (fun w' hw' => (E.assign (v := Value.bool r325.2) rfl)) ?_
       exact FB.done (by kernel_rfl) ⟨_, _, _, _, S329, r330.run.inc, els334, k277, rfl, rfl⟩
     ·
      rintro f343 w342 ⟨H339, v335, n336, cs337, S340, i341, els338, k344, k345, k346⟩
      refine FW.seq (FW.seq (FW.region ?_))
      refine FL.v (E.move k346) ?_
      refine FL.v (E.not rfl) ?_
      refine FL.v (E.move (v := Value.bool (!r325.2)) rfl) ?_
      obtain ⟨t347, hqt347, hp⟩ := bnd hp
      refine FL.cut 5 (fun f w => ∃ H : GH, St Ha wa H w [.row 3 1 v335 n336 cs337] ∧ Inc H339 H ∧ f 1 = v1 ∧ f 10 = v335 ∧ f 139 = Value.bool t347) ?_ ?_
      ·
       clear hp; have hp := hqt347; clear hqt347
       rcases ifB hp with ⟨c353, hp⟩ | ⟨c353, hp⟩
       ·
        refine FL.skip (wF_no rfl rfl rfl c353) rfl ?_
        refine FL.skip (wF_no rfl rfl rfl c353) rfl ?_
        refine FL.skip (wF_no rfl rfl rfl c353) rfl ?_
        refine FL.skip (wF_no rfl rfl rfl c353) rfl ?_
        obtain rfl := Option.some.inj hp
        refine FL.v (E.pickT rfl c353 rfl) ?_
        exact FL.nil ⟨rfl, _, S340, (Inc.rfl _), k344, k345, rfl⟩
       ·
        refine FL.val (wF_yes rfl rfl rfl c353) rfl rfl (E.move k344) ?_
        refine FL.val (wF_yes rfl rfl rfl c353) rfl rfl (E.move k345) ?_
        obtain ⟨H354, S355, i356, h357, nv358⟩ := S340.sealRowU (i := 0) (l' := []) rfl els338 (by decide) rfl
        obtain ⟨r359, hr360, hp⟩ := bnd hp
        refine FL.call (wF_yes rfl rfl rfl c353) rfl rfl (E.call Tryz.call150 (A2 rfl rfl)) (w_spec_l2At S355.sl v1 a1 (p1.mono (((((i27.tr i35).tr i257).tr i270).tr i341).tr i356)) v335 r325.1 (h357.mono upI) hr360) ?_
        rintro e w361 ⟨rfl, r362⟩
        refine ⟨_, rfl, ?_⟩
        have r362 := Run.lend i356 S340.sl r362
        have S363 := S340.call r362
        refine FL.val (wF_yes rfl rfl rfl c353) rfl rfl (E.geq rfl rfl) ?_
        obtain rfl := Option.some.inj hp
        refine FL.v (E.pickF rfl c353 rfl) ?_
        exact FL.nil ⟨rfl, _, S363, (Inc.rfl _), k344, k345, rfl⟩
      rintro f352 w351 ⟨H348, S349, i350, k364, k365, k366⟩
      refine FL.nil ?_
      rcases ifB hp with ⟨c367, hp⟩ | ⟨c367, hp⟩
      ·
       refine FW.condT k366 c367 ?_
       refine FW.seq (FW.region ?_)
       obtain ⟨v368, w369, run370, S371⟩ := S349.buildSlice (P := Tryz.prog) te22 [] (parts := #[]) (cells := []) rfl szs_nil fc_nil ones_nil (Nat.le_of_ble_eq_true rfl)
       have els372 : Els (up wa.heap.size H348) (eL eI 1) 1 [] [] := Els.nil
       refine FL.v (E.buildSlice (B0) run370) ?_
       obtain ⟨v373, w374, run375, S376⟩ := S371.buildSlice (P := Tryz.prog) te84 [] (parts := #[]) (cells := []) rfl szs_nil fc_nil ones_nil (Nat.le_of_ble_eq_true rfl)
       have els377 : Els (up wa.heap.size H348) eI 1 [] [] := Els.nil
       refine FL.v (E.buildSlice (B0) run375) ?_
       refine FL.v (E.assign (v := v368) rfl) ?_
       refine FL.v (E.assign (v := v373) rfl) ?_
       refine FL.v (E.assign (v := Value.bool false) rfl) ?_
       refine FL.nil ?_
       refine FW.ret ?_
       obtain ⟨H378, S379, i380, ns383, nv382⟩ := S376.sealRowN (i := 1) (l' := [.row 3 1 v373 0 [], .row 3 1 v335 n336 cs337]) rfl els372 (show (bl []).Nodup from List.nodup_nil) (by decide) rfl
       have h381 := ns383.rsl
       obtain ⟨H384, S385, i386, h387, nv388⟩ := S379.sealRowU (i := 0) (l' := [.row 3 1 v335 n336 cs337]) rfl (els377.mono (up_mono i380)) (by decide) rfl
       obtain rfl := Option.some.inj hp
       exact ⟨.inr rfl, res3 rfl rfl rfl rfl ⟨_, _, _, rfl, S385.run, (h381.mono (upI.tr i386)), (h387.mono upI)⟩⟩
      ·
       refine FW.condF k366 c367 ?_
       refine FW.skip (FW.seq (FW.region ?_))
       refine FL.v (E.move k364) ?_
       refine FL.v (E.move k365) ?_
       obtain ⟨H389, S390, i391, h392, nv393⟩ := S349.sealRowU (i := 0) (l' := []) rfl (els338.mono (up_mono i350)) (by decide) rfl
       obtain ⟨r394, hr395, hp⟩ := bnd hp
       refine FL.call rfl rfl rfl (E.call Tryz.call59 (A2 rfl rfl)) (w_spec_l2Insert S390.sl v1 a1 (p1.mono ((((((i27.tr i35).tr i257).tr i270).tr i341).tr i350).tr i391)) v335 r325.1 (h392.mono upI) hr395) ?_
       rintro e w397 ⟨H396, v400, rfl, r399, h401⟩
       refine ⟨_, rfl, ?_⟩
       have S398 := S390.call r399
       refine FL.v (E.move k365) ?_
       refine FL.v (E.assign (v := v400) rfl) ?_
       refine FL.v (E.assign (v := v335) rfl) ?_
       refine FL.v (E.assign (v := Value.bool true) rfl) ?_
       refine FL.nil ?_
       refine FW.ret ?_
       obtain rfl := Option.some.inj hp
       exact ⟨.inr rfl, res3 rfl rfl rfl rfl ⟨_, _, _, rfl, S398.run, h401, (h392.mono (upI.tr r399.inc))⟩⟩

theorem w_spec_l1Most {Ha : GH} {wa : World} (hs : Sl Ha wa) (a0 : Int) (a1 : Int) :
  Calls Tryz.prog 93 #[Value.int .i64 a0, Value.int .i64 a1] wa (Sc Ha wa (Value.int .i64 (PF.spec_l1Most a0 a1))) := by
 obtain ⟨r, hp⟩ : ∃ r, (PF.spec_l1Most a0 a1) = r := ⟨_, rfl⟩
 rw [hp]
 unfold PF.spec_l1Most at hp
 have S0 := St.init hs
 refine calls_go (N := 10) (args := [Value.int .i64 a0, Value.int .i64 a1]) Tryz.func93 rfl rfl rfl ?_
 refine FW.seq (FW.region ?_)
 refine FL.v (E.assign (v := Value.int .i64 0) rfl) ?_
 refine FL.nil (FW.seq (FW.seq (FW.region ?_)))
 refine FL.v (E.move (v := Value.int .i64 a0) rfl) ?_
 refine FL.v (E.move (v := Value.int .i64 a1) rfl) ?_
 refine FL.v (E.gtr rfl rfl) ?_
 refine FL.nil ?_
 rcases ifT hp with ⟨c21, hp⟩ | ⟨c21, hp⟩
 ·
  refine FW.condT rfl c21 ?_
  refine FW.seq (FW.region ?_)
  refine FL.v (E.move (v := Value.int .i64 a0) rfl) ?_
  refine FL.v (E.assign (v := Value.int .i64 a0) rfl) ?_
  refine FL.nil ?_
  refine FW.ret ?_
  obtain rfl := hp
  exact ⟨.inr rfl, res1 rfl rfl ⟨rfl, S0.back⟩⟩
 ·
  refine FW.condF rfl c21 ?_
  refine FW.skip (FW.seq (FW.region ?_))
  refine FL.v (E.move (v := Value.int .i64 a1) rfl) ?_
  refine FL.v (E.assign (v := Value.int .i64 a1) rfl) ?_
  refine FL.nil ?_
  refine FW.ret ?_
  obtain rfl := hp
  exact ⟨.inr rfl, res1 rfl rfl ⟨rfl, S0.back⟩⟩

@[reducible] def p_spec_l15Run (Ha : GH) (wa : World) (r : l15Work) : Ending → World → Prop :=
  fun e w' => ∃ H' : GH, ∃ v0_0 : Value, ∃ v0_2 : Value, e = .returned (Value.agg #[v0_0, Value.int .i64 r.most, v0_2, Value.bool r.ok]) ∧ Run wa.heap.size Ha wa H' w' ∧ RSl H' (eL eI 1) 1 v0_0 r.now ∧ RSl H' (eL eI 1) 1 v0_2 r.all
theorem w_spec_l15Run {Ha : GH} {wa : World} (hs : Sl Ha wa) (a0 : Cnf) (v0_1 : Value) (p0_1 : RSl Ha (eL eI 1) 1 v0_1 a0.clauses) (v1 : Value) (a1 : List SpaceStep) (p1 : RSl Ha eSpaceStep 4 v1 a1) {r : l15Work} (hp : (PF.spec_l15Run a0 a1) = some r) :
    Calls Tryz.prog 44 #[Value.agg #[Value.int .i64 a0.vars, v0_1], v1] wa (p_spec_l15Run Ha wa r) := by
  unfold PF.spec_l15Run at hp
  have S0 := St.init hs
  refine calls_go (N := 63) (args := [Value.agg #[Value.int .i64 a0.vars, v0_1], v1]) Tryz.func44 rfl rfl rfl ?_
  refine FW.seq (FW.region ?_)
  obtain ⟨b21, w22, run23, S24⟩ := S0.box (P := Tryz.prog) 30 [Value.int .i64 a0.vars, v0_1] (v := Value.agg #[Value.int .i64 a0.vars, v0_1]) rfl (ones_cons rfl (ones_cons p0_1.one ones_nil))
  refine FL.v (E.box rfl run23) ?_
  obtain ⟨H25, S26, i27, at28⟩ := S24.sealBox (i := 0) (l' := []) rfl rfl
  obtain ⟨b29, w30, run31, S32⟩ := S26.alloc (P := Tryz.prog) 72 [Value.slice none 0 0, Value.int .i64 0, Value.slice none 0 0, Value.bool false] Tryz.zeroValue72 rfl (ones_cons rfl (ones_cons rfl (ones_cons rfl (ones_cons rfl ones_nil))))
  refine FL.v (E.alloc run31) ?_
  refine FL.nil (FW.seq (FW.region ?_))
  obtain ⟨v33, w34, run35, S36⟩ := S32.buildSlice (P := Tryz.prog) te22 [] (parts := #[]) (cells := []) rfl szs_nil fc_nil ones_nil (Nat.le_of_ble_eq_true rfl)
  have els37 : Els (up wa.heap.size H25) (eL eI 1) 1 [] [] := Els.nil
  refine FL.v (E.buildSlice (B0) run35) ?_
  obtain ⟨v38, w39, run40, S41⟩ := S36.buildSlice (P := Tryz.prog) te22 [] (parts := #[]) (cells := []) rfl szs_nil fc_nil ones_nil (Nat.le_of_ble_eq_true rfl)
  have els42 : Els (up wa.heap.size H25) (eL eI 1) 1 [] [] := Els.nil
  refine FL.v (E.buildSlice (B0) run40) ?_
  refine FL.v (E.move (v := v1) rfl) ?_
  refine FL.v (E.lenP te32 rfl p1) ?_
  refine FL.v (E.leq rfl rfl) ?_
  refine FL.v (E.build (B3 rfl rfl rfl) (run_build _ 72 #[(0, v33), (2, v38), (3, Value.bool (decide ((len a1) ≤ 300)))] #[v33, Value.int .i64 0, v38, Value.bool (decide ((len a1) ≤ 300))] (by obtain ⟨_, _, rfl⟩ := S41.row_ln (i := 1) rfl; obtain ⟨_, _, rfl⟩ := S41.row_ln (i := 0) rfl; rfl))) ?_
  obtain ⟨b43, w44, run45, S46⟩ := S41.alloc (P := Tryz.prog) 72 [Value.slice none 0 0, Value.int .i64 0, Value.slice none 0 0, Value.bool false] Tryz.zeroValue72 rfl (ones_cons rfl (ones_cons rfl (ones_cons rfl (ones_cons rfl ones_nil))))
  refine FL.v (E.alloc run45) ?_
  obtain ⟨w47, run48, S49⟩ := S46.store0 (P := Tryz.prog) (t := 72) (i := 0) (cs' := [v33, Value.int .i64 0, v38, Value.bool (decide ((len a1) ≤ 300))]) (l' := [.box b43 72 [v33, Value.int .i64 0, v38, Value.bool (decide ((len a1) ≤ 300))], .row 84 1 v38 0 [], .row 84 1 v33 0 [], .box b29 72 [Value.slice none 0 0, Value.int .i64 0, Value.slice none 0 0, Value.bool false]]) (v := Value.agg #[v33, Value.int .i64 0, v38, Value.bool (decide ((len a1) ≤ 300))]) (c := [v33, Value.int .i64 0, v38, Value.bool (decide ((len a1) ≤ 300))]) rfl Tryz.sizeOf72 rfl rfl (ones_cons (Ln.one (S46.row_ln (i := 2) rfl)) (ones_cons rfl (ones_cons (Ln.one (S46.row_ln (i := 1) rfl)) (ones_cons rfl ones_nil)))) (Nat.le_of_ble_eq_true rfl) rfl rfl
  refine FL.act rfl rfl (E.store rfl rfl run48) ?_
  refine FL.nil (FW.seq (FW.seq (FW.region ?_)))
  refine FL.v (E.assign (v := Value.int .i64 0) rfl) ?_
  refine FL.nil ?_
  obtain ⟨H50, S51, i52, ns55, nv54⟩ := S49.sealRowN (i := 2) (l' := [.box b43 72 [v33, Value.int .i64 0, v38, Value.bool (decide ((len a1) ≤ 300))], .row 84 1 v38 0 [], .box b29 72 [Value.slice none 0 0, Value.int .i64 0, Value.slice none 0 0, Value.bool false]]) rfl els37 (show (bl []).Nodup from List.nodup_nil) (by decide) rfl
  have h53 := ns55.rsl
  obtain ⟨H56, S57, i58, ns61, nv60⟩ := S51.sealRowN (i := 1) (l' := [.box b43 72 [v33, Value.int .i64 0, v38, Value.bool (decide ((len a1) ≤ 300))], .box b29 72 [Value.slice none 0 0, Value.int .i64 0, Value.slice none 0 0, Value.bool false]]) rfl (els42.mono (up_mono i52)) (show (bl []).Nodup from List.nodup_nil) (by decide) rfl
  have h59 := ns61.rsl
  obtain ⟨q62, hq, hp⟩ := bndR hp
  refine FW.block ?_
  refine FW.mono (FW.iter (S := ((List (List Int)) × Int × (List (List Int)) × Bool × Int)) (X := Empty) (fun (s62 : ((List (List Int)) × Int × (List (List Int)) × Bool × Int)) f w => ∃ H : GH, ∃ v63 : Value, ∃ v65 : Value, St Ha wa H w [.box b43 72 [v63, Value.int .i64 s62.2.1, v65, Value.bool s62.2.2.2.1], .box b29 72 [Value.slice none 0 0, Value.int .i64 0, Value.slice none 0 0, Value.bool false]] ∧ Inc H56 H ∧ RSl H (eL eI 1) 1 v63 s62.1 ∧ RSl H (eL eI 1) 1 v65 s62.2.2.1 ∧ f 1 = v1 ∧ f 2 = Value.pointer (some ⟨b21, 0, none⟩) ∧ f 4 = Value.pointer (some (⟨b29, 0, none⟩ : Addr)) ∧ f 5 = Value.pointer (some (⟨b43, 0, none⟩ : Addr)) ∧ f 6 = Value.int .i64 s62.2.2.2.2) (fun (q : Rs ((List (List Int)) × Int × (List (List Int)) × Bool × Int) Empty) e f w => match q with | .go s62 => e = Exit.exit 0 ∧ (∃ H : GH, ∃ v63 : Value, ∃ v65 : Value, St Ha wa H w [.box b43 72 [v63, Value.int .i64 s62.2.1, v65, Value.bool s62.2.2.2.1], .box b29 72 [Value.slice none 0 0, Value.int .i64 0, Value.slice none 0 0, Value.bool false]] ∧ Inc H56 H ∧ RSl H (eL eI 1) 1 v63 s62.1 ∧ RSl H (eL eI 1) 1 v65 s62.2.2.1 ∧ f 4 = Value.pointer (some (⟨b29, 0, none⟩ : Addr)) ∧ f 5 = Value.pointer (some (⟨b43, 0, none⟩ : Addr))) | .rt x => x.elim) hq ⟨_, _, _, S57, (Inc.rfl _), (h53.mono (upI.tr i58)), (h59.mono upI), rfl, rfl, rfl, rfl, rfl⟩ ?_) ?_
  ·
    clear hp hq
    rintro s62 f71 w70 ⟨H67, v63, v65, S68, i69, h64, h66, k73, k74, k75, k77, k78⟩ o176 hp
    refine FW.seq (FW.seq (FW.region ?_))
    refine FL.v (E.move k78) ?_
    refine FL.v (E.move k73) ?_
    refine FL.v (E.lenP te32 rfl p1) ?_
    refine FL.v (E.lss rfl rfl) ?_
    refine FL.v (E.move (v := Value.bool (decide (s62.2.2.2.2 < (len a1)))) rfl) ?_
    refine FL.cut 3 (fun f w => ∃ H : GH, St Ha wa H w [.box b43 72 [v63, Value.int .i64 s62.2.1, v65, Value.bool s62.2.2.2.1], .box b29 72 [Value.slice none 0 0, Value.int .i64 0, Value.slice none 0 0, Value.bool false]] ∧ Inc H67 H ∧ f 1 = v1 ∧ f 2 = Value.pointer (some ⟨b21, 0, none⟩) ∧ f 4 = Value.pointer (some (⟨b29, 0, none⟩ : Addr)) ∧ f 5 = Value.pointer (some (⟨b43, 0, none⟩ : Addr)) ∧ f 6 = Value.int .i64 s62.2.2.2.2 ∧ f 23 = Value.bool (bif (decide (s62.2.2.2.2 < (len a1))) then s62.2.2.2.1 else false)) ?_ ?_
    ·
      rcases bcase (decide (s62.2.2.2.2 < (len a1))) with c84 | c84
      ·
        refine FL.val (wF_yes rfl rfl rfl c84) rfl rfl (E.fieldAddr tf72_3 k77) ?_
        refine FL.val (wF_yes rfl rfl rfl c84) rfl rfl (E.load rfl (run_load1 Tryz.isAgg4 (S68.box_now (i := 0) rfl) rfl)) ?_
        refine FL.v (E.pickT rfl c84 rfl) ?_
        exact FL.nil ⟨rfl, _, S68, (Inc.rfl _), k73, k74, k75, k77, k78, (congrArg Value.bool (bifT c84).symm)⟩
      ·
        refine FL.skip (wF_no rfl rfl rfl c84) rfl ?_
        refine FL.skip (wF_no rfl rfl rfl c84) rfl ?_
        refine FL.v (E.pickF rfl c84 rfl) ?_
        exact FL.nil ⟨rfl, _, S68, (Inc.rfl _), k73, k74, k75, k77, k78, (congrArg Value.bool (bifF c84).symm)⟩
    rintro f83 w82 ⟨H79, S80, i81, k85, k86, k87, k88, k89, k90⟩
    refine FL.nil ?_
    rcases ifB hp with ⟨c91, hp⟩ | ⟨c91, hp⟩
    ·
      refine FW.condT k90 c91 ?_
      refine FW.skip (FW.seq (FW.block (FW.seq ?_)))
      obtain ⟨x101, hx102, hp⟩ := bnd hp
      obtain ⟨r103, hr104, hp⟩ := bnd hp
      refine FW.drawB (SX Ha wa H79 [.box b43 72 [v63, Value.int .i64 s62.2.1, v65, Value.bool s62.2.2.2.1]]) (fun f w => ∃ H : GH, ∃ v113 : Value, ∃ v115 : Value, St Ha wa H w [.box b43 72 [v63, Value.int .i64 s62.2.1, v65, Value.bool s62.2.2.2.1], .box b29 72 [Value.slice none 0 0, Value.int .i64 0, Value.slice none 0 0, Value.bool false]] ∧ Inc H79 H ∧ RSl H (eL eI 1) 1 v113 r103.1 ∧ RSl H eI 1 v115 r103.2.1 ∧ f 1 = v1 ∧ f 2 = Value.pointer (some ⟨b21, 0, none⟩) ∧ f 4 = Value.pointer (some (⟨b29, 0, none⟩ : Addr)) ∧ f 5 = Value.pointer (some (⟨b43, 0, none⟩ : Addr)) ∧ f 6 = Value.int .i64 s62.2.2.2.2 ∧ f 7 = v113 ∧ f 8 = v115 ∧ f 9 = Value.bool r103.2.2) (by kernel_rfl) S80.sl ?_ ?_
      ·
        intro w92 r93
        have S94 := S80.call r93
        refine FB.t (i := 0) (bs 15 1) rfl (SP.nil ⟨_, (S94.sel [0] (by decide) rfl), (Inc.rfl _)⟩) rfl (fun w' hw' => (E.load k86 (run_loadA Tryz.isAgg30 Tryz.sizeOf30 ((at28.mono (((i52.tr i58).tr i69).tr i81)).now hw'.sl) rfl))) ?_
        refine FB.t (i := 1) (bs 15 3) rfl (SP.nil ⟨_, (S94.sel [0] (by decide) rfl), (Inc.rfl _)⟩) rfl (fun w' hw' => (E.fieldAddr tf72_0 k88)) ?_
        refine FB.t (i := 2) (bs 15 7) rfl (SP.nil ⟨_, (S94.sel [0] (by decide) rfl), (Inc.rfl _)⟩) rfl (fun w' hw' => (E.load rfl (run_load1 Tryz.isAgg22 (SX.box_now hw' (i := 0) rfl) rfl))) ?_
        refine FB.t (i := 3) (bs 15 15) rfl (SP.nil ⟨_, (S94.sel [0] (by decide) rfl), (Inc.rfl _)⟩) rfl (fun w' hw' => (E.move k85)) ?_
        refine FB.t (i := 4) (bs 15 31) rfl (SP.nil ⟨_, (S94.sel [0] (by decide) rfl), (Inc.rfl _)⟩) rfl (fun w' hw' => (E.move k89)) ?_
        obtain ⟨p95, cs96, pt97, l98, at99, rel100⟩ := p1.at hx102
        obtain rfl := eSpaceStep_open rel100
        refine FB.t (i := 5) (bs 15 63) rfl (SP.nil ⟨_, (S94.sel [0] (by decide) rfl), (Inc.rfl _)⟩) rfl (fun w' hw' => (E.indexAddr te32 rfl rfl pt97)) ?_
        refine FB.t (i := 6) (bs 15 127) rfl (SP.nil ⟨_, (S94.sel [0] (by decide) rfl), (Inc.rfl _)⟩) rfl (fun w' hw' => (E.load rfl (run_loadA Tryz.isAgg76 Tryz.sizeOf76 ((at99.mono ((((i27.tr i52).tr i58).tr i69).tr i81)).now hw'.sl) rfl))) ?_
        refine FB.all1 (i := 7) (by kernel_rfl) ?_
        ·
          refine FC.call (l' := (bs 15 255)) rfl (by kernel_rfl) rfl rfl rfl (E.call Tryz.call92 (A3 rfl rfl rfl)) (w_spec_l15Step S94.sl a0 v0_1 (p0_1.mono ((((i27.tr i52).tr i58).tr i69).tr i81)) v63 s62.1 (h64.mono i81) x101 hr104) ?_
          rintro e w106 ⟨H105, v109, v111, rfl, r108, h110, h112⟩
          refine ⟨_, rfl, ?_⟩
          have S107 := S94.call r108
          refine ⟨(SP.nil ⟨_, (S107.sel [0] (by decide) rfl), r108.inc⟩), ?_⟩
          refine FB.t (i := 8) (bs 15 511) rfl (SP.nil ⟨_, (S107.sel [0] (by decide) rfl), r108.inc⟩) rfl (fun w' hw' => (E.move (v := Value.tuple #[v109, v111, Value.bool r103.2.2]) rfl)) ?_
          refine FB.t (i := 9) (bs 15 1023) rfl (SP.nil ⟨_, (S107.sel [0] (by decide) rfl), r108.inc⟩) rfl (fun w' hw' => (E.extract (i := 0) rfl rfl)) ?_
          refine FB.t (i := 10) (bs 15 2047) rfl (SP.nil ⟨_, (S107.sel [0] (by decide) rfl), r108.inc⟩) rfl (fun w' hw' => (E.extract (i := 1) rfl rfl)) ?_
          refine FB.t (i := 11) (bs 15 4095) rfl (SP.nil ⟨_, (S107.sel [0] (by decide) rfl), r108.inc⟩) rfl (fun w' hw' => (E.extract (i := 2) rfl rfl)) ?_
          refine FB.t (i := 12) (bs 15 8191) rfl (SP.nil ⟨_, (S107.sel [0] (by decide) rfl), r108.inc⟩) rfl (fun w' hw' => (E.assign (v := v109) rfl)) ?_
          refine FB.t (i := 13) (bs 15 16383) rfl (SP.nil ⟨_, (S107.sel [0] (by decide) rfl), r108.inc⟩) rfl (fun w' hw' => (E.assign (v := v111) rfl)) ?_
          refine FB.t (i := 14) (bs 15 32767) rfl (SP.nil ⟨_, (S107.sel [0] (by decide) rfl), r108.inc⟩) rfl (fun w' hw' => (E.assign (v := Value.bool r103.2.2) rfl)) ?_
          exact FB.done (by kernel_rfl) ⟨_, _, _, S107, r108.inc, h110, h112, k85, k86, k87, k88, k89, rfl, rfl, rfl⟩
      ·
        rintro f121 w120 ⟨H117, v113, v115, S118, i119, h114, h116, k122, k123, k124, k125, k126, k127, k128, k129⟩
        refine FW.seq (FW.region ?_)
        refine FL.v (E.move k129) ?_
        refine FL.v (E.fieldAddr tf72_3 k125) ?_
        obtain ⟨w130, run131, S132⟩ := S118.store (P := Tryz.prog) (t := 4) (i := 0) (j := 3) (cs' := [v63, Value.int .i64 s62.2.1, v65, Value.bool r103.2.2]) (l' := [.box b43 72 [v63, Value.int .i64 s62.2.1, v65, Value.bool r103.2.2], .box b29 72 [Value.slice none 0 0, Value.int .i64 0, Value.slice none 0 0, Value.bool false]]) (v := Value.bool r103.2.2) (c := [Value.bool r103.2.2]) rfl Tryz.sizeOf4 rfl rfl (ones_cons rfl ones_nil) (Nat.le_of_ble_eq_true rfl) rfl rfl
        refine FL.act rfl rfl (E.store rfl rfl run131) ?_
        refine FL.nil (FW.seq (FW.region ?_))
        refine FL.v (E.move k127) ?_
        refine FL.v (E.fieldAddr tf72_0 k125) ?_
        obtain ⟨w133, run134, S135⟩ := S132.store (P := Tryz.prog) (t := 22) (i := 0) (j := 0) (cs' := [v113, Value.int .i64 s62.2.1, v65, Value.bool r103.2.2]) (l' := [.box b43 72 [v113, Value.int .i64 s62.2.1, v65, Value.bool r103.2.2], .box b29 72 [Value.slice none 0 0, Value.int .i64 0, Value.slice none 0 0, Value.bool false]]) (v := v113) (c := [v113]) rfl Tryz.sizeOf22 h114.cells rfl (ones_cons h114.one ones_nil) (Nat.le_of_ble_eq_true rfl) rfl rfl
        refine FL.act rfl rfl (E.store rfl rfl run134) ?_
        refine FL.nil (FW.seq (FW.region ?_))
        refine FL.v (E.fieldAddr tf72_1 k125) ?_
        refine FL.v (E.load rfl (run_load1 Tryz.isAgg3 (S135.box_now (i := 0) rfl) rfl)) ?_
        refine FL.v (E.move k127) ?_
        refine FL.v (E.lenP te22 rfl h114) ?_
        refine FL.call rfl rfl rfl (E.call Tryz.call93 (A2 rfl rfl)) (w_spec_l1Most S135.sl s62.2.1 (len r103.1)) ?_
        rintro e w136 ⟨rfl, r137⟩
        refine ⟨_, rfl, ?_⟩
        have S138 := S135.call r137
        refine FL.v (E.fieldAddr tf72_1 k125) ?_
        obtain ⟨w139, run140, S141⟩ := S138.store (P := Tryz.prog) (t := 3) (i := 0) (j := 1) (cs' := [v113, Value.int .i64 (PF.spec_l1Most s62.2.1 (len r103.1)), v65, Value.bool r103.2.2]) (l' := [.box b43 72 [v113, Value.int .i64 (PF.spec_l1Most s62.2.1 (len r103.1)), v65, Value.bool r103.2.2], .box b29 72 [Value.slice none 0 0, Value.int .i64 0, Value.slice none 0 0, Value.bool false]]) (v := Value.int .i64 (PF.spec_l1Most s62.2.1 (len r103.1))) (c := [Value.int .i64 (PF.spec_l1Most s62.2.1 (len r103.1))]) rfl Tryz.sizeOf3 rfl rfl (ones_cons rfl ones_nil) (Nat.le_of_ble_eq_true rfl) rfl rfl
        refine FL.act rfl rfl (E.store rfl rfl run140) ?_
        refine FL.nil (FW.seq (FW.region ?_))
        refine FL.v (E.move k129) ?_
        refine FL.v (E.move (v := Value.bool r103.2.2) rfl) ?_
        obtain ⟨t142, hqt142, hp⟩ := bnd hp
        refine FL.cut 7 (fun f w => ∃ H : GH, St Ha wa H w [.box b43 72 [v113, Value.int .i64 (PF.spec_l1Most s62.2.1 (len r103.1)), v65, Value.bool r103.2.2], .box b29 72 [Value.slice none 0 0, Value.int .i64 0, Value.slice none 0 0, Value.bool false]] ∧ Inc H117 H ∧ f 1 = v1 ∧ f 2 = Value.pointer (some ⟨b21, 0, none⟩) ∧ f 4 = Value.pointer (some (⟨b29, 0, none⟩ : Addr)) ∧ f 5 = Value.pointer (some (⟨b43, 0, none⟩ : Addr)) ∧ f 6 = Value.int .i64 s62.2.2.2.2 ∧ f 8 = v115 ∧ f 56 = Value.bool t142) ?_ ?_
        ·
          clear hp; have hp := hqt142; clear hqt142
          rcases ifB hp with ⟨c148, hp⟩ | ⟨c148, hp⟩
          ·
            refine FL.val (wF_yes rfl rfl rfl c148) rfl rfl (E.move k122) ?_
            refine FL.val (wF_yes rfl rfl rfl c148) rfl rfl (E.move k126) ?_
            obtain ⟨x155, hx156, hp⟩ := bnd hp
            obtain ⟨p149, cs150, pt151, l152, at153, rel154⟩ := p1.at hx156
            obtain rfl := eSpaceStep_open rel154
            refine FL.val (wF_yes rfl rfl rfl c148) rfl rfl (E.indexAddr te32 rfl rfl pt151) ?_
            refine FL.val (wF_yes rfl rfl rfl c148) rfl rfl (E.fieldAddr tf76_0 rfl) ?_
            refine FL.val (wF_yes rfl rfl rfl c148) rfl rfl (E.load rfl (run_load1 Tryz.isAgg3 ((at153.mono (((((i27.tr i52).tr i58).tr i69).tr i81).tr i119)).now S141.sl) rfl)) ?_
            refine FL.val (wF_yes rfl rfl rfl c148) rfl rfl (E.neq rfl rfl) ?_
            obtain rfl := Option.some.inj hp
            refine FL.v (E.pickT rfl c148 rfl) ?_
            exact FL.nil ⟨rfl, _, S141, (Inc.rfl _), k122, k123, k124, k125, k126, k128, rfl⟩
          ·
            refine FL.skip (wF_no rfl rfl rfl c148) rfl ?_
            refine FL.skip (wF_no rfl rfl rfl c148) rfl ?_
            refine FL.skip (wF_no rfl rfl rfl c148) rfl ?_
            refine FL.skip (wF_no rfl rfl rfl c148) rfl ?_
            refine FL.skip (wF_no rfl rfl rfl c148) rfl ?_
            refine FL.skip (wF_no rfl rfl rfl c148) rfl ?_
            obtain rfl := Option.some.inj hp
            refine FL.v (E.pickF rfl c148 rfl) ?_
            exact FL.nil ⟨rfl, _, S141, (Inc.rfl _), k122, k123, k124, k125, k126, k128, rfl⟩
        rintro f147 w146 ⟨H143, S144, i145, k157, k158, k159, k160, k161, k162, k163⟩
        refine FL.nil ?_
        rcases ifB hp with ⟨c164, hp⟩ | ⟨c164, hp⟩
        ·
          refine FW.condT k163 c164 ?_
          refine FW.region ?_
          refine FL.v (E.fieldAddr tf72_2 k160) ?_
          refine FL.v (E.load rfl (run_load1 Tryz.isAgg22 (S144.box_now (i := 0) rfl) rfl)) ?_
          refine FL.v (E.move k162) ?_
          obtain ⟨r165, hr166, hp⟩ := bnd hp
          refine FL.call rfl rfl rfl (E.call Tryz.call59 (A2 rfl rfl)) (w_spec_l2Insert S144.sl v65 s62.2.2.1 (h66.mono ((i81.tr i119).tr i145)) v115 r103.2.1 (h116.mono i145) hr166) ?_
          rintro e w168 ⟨H167, v171, rfl, r170, h172⟩
          refine ⟨_, rfl, ?_⟩
          have S169 := S144.call r170
          refine FL.v (E.fieldAddr tf72_2 k160) ?_
          obtain ⟨w173, run174, S175⟩ := S169.store (P := Tryz.prog) (t := 22) (i := 0) (j := 2) (cs' := [v113, Value.int .i64 (PF.spec_l1Most s62.2.1 (len r103.1)), v171, Value.bool r103.2.2]) (l' := [.box b43 72 [v113, Value.int .i64 (PF.spec_l1Most s62.2.1 (len r103.1)), v171, Value.bool r103.2.2], .box b29 72 [Value.slice none 0 0, Value.int .i64 0, Value.slice none 0 0, Value.bool false]]) (v := v171) (c := [v171]) rfl Tryz.sizeOf22 h172.cells rfl (ones_cons h172.one ones_nil) (Nat.le_of_ble_eq_true rfl) rfl rfl
          refine FL.act rfl rfl (E.store rfl rfl run174) ?_
          refine FL.nil (FW.region ?_)
          refine FL.v (E.move k161) ?_
          refine FL.v (E.add rfl rfl) ?_
          refine FL.v (E.assign (v := Value.int .i64 (wr (s62.2.2.2.2 + 1))) rfl) ?_
          refine FL.nil ?_
          obtain rfl := Option.some.inj hp
          exact ⟨rfl, ⟨_, _, _, S175, ((((i69.tr i81).tr i119).tr i145).tr r170.inc), (h114.mono (i145.tr r170.inc)), h172, k157, k158, k159, k160, rfl⟩⟩
        ·
          refine FW.condF k163 c164 ?_
          refine FW.skip (FW.region ?_)
          refine FL.v (E.move k161) ?_
          refine FL.v (E.add rfl rfl) ?_
          refine FL.v (E.assign (v := Value.int .i64 (wr (s62.2.2.2.2 + 1))) rfl) ?_
          refine FL.nil ?_
          obtain rfl := Option.some.inj hp
          exact ⟨rfl, ⟨_, _, _, S144, (((i69.tr i81).tr i119).tr i145), (h114.mono i145), (h66.mono ((i81.tr i119).tr i145)), k157, k158, k159, k160, rfl⟩⟩
    ·
      refine FW.condF k90 c91 ?_
      refine FW.exit ?_
      obtain rfl := Option.some.inj hp
      exact ⟨nofun, rfl, ⟨_, _, _, S80, (i69.tr i81), (h64.mono i81), (h66.mono i81), k87, k88⟩⟩
  ·
    clear hq
    intro e f181 w180 hD
    rcases q62 with s62 | x62
    ·
      obtain ⟨rfl, hD⟩ := hD
      obtain ⟨H177, v63, v65, S178, i179, h64, h66, k182, k183⟩ := hD
      replace hp := el_go hp
      refine FW.seq (FW.region ?_)
      refine FL.v (E.load k183 (run_loadA Tryz.isAgg72 Tryz.sizeOf72 (S178.box_now (i := 0) rfl) rfl)) ?_
      obtain ⟨w184, run185, S186⟩ := S178.store0 (P := Tryz.prog) (t := 72) (i := 1) (cs' := [v63, Value.int .i64 s62.2.1, v65, Value.bool s62.2.2.2.1]) (l' := [.box b43 72 [v63, Value.int .i64 s62.2.1, v65, Value.bool s62.2.2.2.1], .box b29 72 [v63, Value.int .i64 s62.2.1, v65, Value.bool s62.2.2.2.1]]) (v := Value.agg #[v63, Value.int .i64 s62.2.1, v65, Value.bool s62.2.2.2.1]) (c := [v63, Value.int .i64 s62.2.1, v65, Value.bool s62.2.2.2.1]) rfl Tryz.sizeOf72 rfl rfl (ones_cons h64.one (ones_cons rfl (ones_cons h66.one (ones_cons rfl ones_nil)))) (Nat.le_of_ble_eq_true rfl) rfl rfl
      refine FL.act rfl rfl (E.store k182 rfl run185) ?_
      obtain ⟨H187, S188, i189, at190⟩ := S186.sealBox (i := 1) (l' := [.box b43 72 [v63, Value.int .i64 s62.2.1, v65, Value.bool s62.2.2.2.1]]) rfl rfl
      refine FL.nil ?_
      refine FW.ret ?_
      obtain rfl := Option.some.inj hp
      exact ⟨.inr rfl, resC rfl k182 (loadVar_A Tryz.isAgg72 Tryz.sizeOf72 (at190.now S188.sl) rfl) ⟨_, _, _, rfl, S188.run, (h64.mono i189), (h66.mono i189)⟩⟩
    · exact x62.elim

@[reducible] def p_spec_l10Copy (Ha : GH) (wa : World) (r : (List (List Int))) : Ending → World → Prop :=
  fun e w' => ∃ H' : GH, ∃ v0 : Value, ∃ n0 : Nat, ∃ c0 : List Value, e = .returned (v0) ∧ St Ha wa H' w' [.row 84 1 v0 n0 c0] ∧ Els (up wa.heap.size H') (eL eI 1) 1 c0 r ∧ (bl c0).Nodup
theorem w_spec_l10Copy {Ha : GH} {wa : World} (hs : Sl Ha wa) (v0 : Value) (a0 : List (List Int)) (p0 : RSl Ha (eL eI 1) 1 v0 a0) {r : (List (List Int))} (hp : (PF.spec_l10Copy a0) = some r) :
    Calls Tryz.prog 45 #[v0] wa (p_spec_l10Copy Ha wa r) := by
  unfold PF.spec_l10Copy at hp
  have S0 := St.init hs
  refine calls_go (N := 21) (args := [v0]) Tryz.func45 rfl rfl rfl ?_
  refine FW.seq (FW.region ?_)
  refine FL.v (E.assign (v := Value.slice none 0 0) rfl) ?_
  refine FL.nil (FW.seq (FW.region ?_))
  obtain ⟨v21, w22, run23, S24⟩ := S0.buildSlice (P := Tryz.prog) te22 [] (parts := #[]) (cells := []) rfl szs_nil fc_nil ones_nil (Nat.le_of_ble_eq_true rfl)
  have els25 : Els (up wa.heap.size Ha) (eL eI 1) 1 [] [] := Els.nil
  refine FL.v (E.buildSlice (B0) run23) ?_
  refine FL.v (E.assign (v := v21) rfl) ?_
  refine FL.nil (FW.seq (FW.seq (FW.region ?_)))
  refine FL.v (E.assign (v := Value.int .i64 0) rfl) ?_
  refine FL.nil ?_
  obtain ⟨q27, hq, hp⟩ := bndR hp
  refine FW.block ?_
  refine FW.mono (FW.forL (S := (List (List Int))) (X := Empty) (fun (i27 : Nat) (s27 : (List (List Int))) f w => ∃ H : GH, ∃ v28 : Value, ∃ n29 : Nat, ∃ cs30 : List Value, St Ha wa H w [.row 84 1 v28 n29 cs30] ∧ Inc Ha H ∧ Els (up wa.heap.size H) (eL eI 1) 1 cs30 s27 ∧ (bl cs30).Nodup ∧ f 4 = Value.int .i64 ((i27 : Nat) : Int) ∧ f 0 = v0 ∧ f 3 = v28) (fun (q : Rs (List (List Int)) Empty) e f w => match q with | .go s27 => e = Exit.exit 0 ∧ (∃ H : GH, ∃ v28 : Value, ∃ n29 : Nat, ∃ cs30 : List Value, St Ha wa H w [.row 84 1 v28 n29 cs30] ∧ Inc Ha H ∧ Els (up wa.heap.size H) (eL eI 1) 1 cs30 s27 ∧ (bl cs30).Nodup ∧ f 3 = v28) | .rt x => x.elim) hq ⟨_, _, _, _, S24, (Inc.rfl _), els25, (show (bl []).Nodup from List.nodup_nil), rfl, rfl, rfl⟩ ?_ ?_) ?_
  ·
    clear hp hq
    rintro i27 y26 s27 f86 w85 ⟨H82, v28, n29, cs30, S83, i84, els31, nd32, k87, k88, k89⟩ hx27 o131 hp
    refine FW.seq (FW.seq (FW.region ?_))
    refine FL.v (E.move k87) ?_
    refine FL.v (E.move k88) ?_
    refine FL.v (E.lenP te22 rfl p0) ?_
    refine FL.v (E.lssT rfl rfl (lss_len hx27)) ?_
    refine FL.nil ?_
    refine FW.condT rfl rfl ?_
    refine FW.skip (FW.seq (FW.block (FW.region ?_)))
    refine FL.v (E.move k89) ?_
    refine FL.v (E.move k88) ?_
    refine FL.v (E.move k87) ?_
    obtain ⟨p90, cs91, pt92, l93, at94, rel95⟩ := p0.at (ix_nat hx27)
    obtain ⟨v96, rfl, h97⟩ := eL_open rel95
    refine FL.v (E.indexAddr te22 rfl rfl pt92) ?_
    refine FL.v (E.load rfl (run_load0 Tryz.isAgg84 ((at94.mono i84).now S83.sl) rfl)) ?_
    obtain ⟨r98, hr99, hp⟩ := bnd hp
    refine FL.call rfl rfl rfl (E.call Tryz.call60 (A1 rfl)) (w_spec_l1Own S83.sl v96 y26 (h97.mono i84) hr99) ?_
    rintro e w101 ⟨H100, v104, n105, cs106, rfl, r103, els107⟩
    refine ⟨_, rfl, ?_⟩
    have els107 := els107.mono (up_le S83.size)
    have S102 := S83.join (l' := [.row 3 1 v104 n105 cs106, .row 84 1 v28 n29 cs30]) r103 rfl
    obtain ⟨H108, S109, i110, h111, nv112⟩ := S102.sealRowU (i := 0) (l' := [.row 84 1 v28 n29 cs30]) rfl els107 (by decide) rfl
    obtain ⟨v113, w114, run115, S116⟩ := S109.buildSlice (P := Tryz.prog) te22 [v104] (parts := #[(0, v104)]) (cells := [v104]) rfl (szs_cons (cells_size h111.cells) szs_nil) (fc_cons h111.cells fc_nil) (ones_cons h111.one ones_nil) (Nat.le_of_ble_eq_true rfl)
    have els117 : Els (up wa.heap.size H108) (eL eI 1) 1 [v104] [r98] := (Els.snoc (H := (up wa.heap.size H108)) (E := (eL eI 1)) (k := 1) (c := [v104]) (x := r98) Els.nil rfl ⟨_, rfl, h111⟩)
    have nd118 : (bl [v104]).Nodup := by exact nd_one v104
    refine FL.v (E.buildSlice (B1 rfl) run115) ?_
    obtain ⟨xs119, hz120, hp⟩ := bnd hp
    obtain ⟨v121, w124, n122, cs123, run125, S126, els127, ce128⟩ := S116.appendO (P := Tryz.prog) te22 (i := 1) (j := 0) rfl (els31.mono (up_mono (r103.run.inc.tr i110))) rfl els117 hz120
    have S126 : St Ha wa H108 w124 [.row 84 1 v113 1 [v104], .row 84 1 v121 n122 cs123] := S126
    have nd129 : (bl cs123).Nodup := by rw [ce128]; exact nd_app nd32 nd118 (Els.dom (els31.mono (upI.tr r103.run.inc))) (by exact nv112)
    have S130 : St Ha wa H108 w124 [.row 84 1 v121 n122 cs123] := S126.drop 0
    refine FL.v (E.append rfl rfl run125) ?_
    refine FL.v (E.assign (v := v121) rfl) ?_
    refine FL.nil (FW.region ?_)
    refine FL.v (E.move k87) ?_
    refine FL.v (E.add rfl rfl) ?_
    refine FL.v (E.assign (v := Value.int .i64 (wr (((i27 : Nat) : Int) + 1))) rfl) ?_
    refine FL.nil ?_
    obtain rfl := Option.some.inj hp
    exact ⟨rfl, ⟨_, _, _, _, S130, ((i84.tr r103.run.inc).tr i110), els127, nd129, (nat_succ rfl (lt_of_get hx27) (p0.mono ((i84.tr r103.run.inc).tr i110)).le), k88, rfl⟩⟩
  ·
    clear hp hq
    rintro s27 f142 w141 ⟨H138, v28, n29, cs30, S139, i140, els31, nd32, k143, k144, k145⟩
    refine FW.seq (FW.seq (FW.region ?_))
    refine FL.v (E.move k143) ?_
    refine FL.v (E.move k144) ?_
    refine FL.v (E.lenP te22 rfl p0) ?_
    refine FL.v (E.lss rfl rfl) ?_
    refine FL.nil ?_
    refine FW.condF rfl dlt_len ?_
    refine FW.exit ?_
    exact ⟨nofun, rfl, ⟨_, _, _, _, S139, i140, els31, nd32, k145⟩⟩
  ·
    clear hq
    intro e f136 w135 hD
    rcases q27 with s27 | x27
    ·
      obtain ⟨rfl, hD⟩ := hD
      obtain ⟨H132, v28, n29, cs30, S133, i134, els31, nd32, k137⟩ := hD
      replace hp := el_go hp
      refine FW.seq (FW.region ?_)
      refine FL.v (E.move k137) ?_
      refine FL.v (E.assign (v := v28) rfl) ?_
      refine FL.nil ?_
      refine FW.ret ?_
      obtain rfl := Option.some.inj hp
      exact ⟨.inr rfl, res1 rfl rfl ⟨_, _, _, _, rfl, S133, els31, nd32⟩⟩
    · exact x27.elim

@[reducible] def p_spec_ClausesOfRun (Ha : GH) (wa : World) (r : ((List (List Int)) × Bool)) : Ending → World → Prop :=
 fun e w' => ∃ H' : GH, ∃ v0 : Value, ∃ n0 : Nat, ∃ c0 : List Value, e = .returned (Value.tuple #[v0, Value.bool r.2]) ∧ St Ha wa H' w' [.row 84 1 v0 n0 c0] ∧ Els (up wa.heap.size H') (eL eI 1) 1 c0 r.1 ∧ (bl c0).Nodup
theorem w_spec_ClausesOfRun {Ha : GH} {wa : World} (hs : Sl Ha wa) (a0 : Cnf) (v0_1 : Value) (p0_1 : RSl Ha (eL eI 1) 1 v0_1 a0.clauses) (v1 : Value) (a1 : List SpaceStep) (p1 : RSl Ha eSpaceStep 4 v1 a1) {r : ((List (List Int)) × Bool)} (hp : (PF.spec_ClausesOfRun a0 a1) = some r) :
  Calls Tryz.prog 10 #[Value.agg #[Value.int .i64 a0.vars, v0_1], v1] wa (p_spec_ClausesOfRun Ha wa r) := by
 unfold PF.spec_ClausesOfRun at hp
 have S0 := St.init hs
 refine calls_go (N := 21) (args := [Value.agg #[Value.int .i64 a0.vars, v0_1], v1]) Tryz.func10 rfl rfl rfl ?_
 refine FW.seq (FW.region ?_)
 obtain ⟨b21, w22, run23, S24⟩ := S0.box (P := Tryz.prog) 30 [Value.int .i64 a0.vars, v0_1] (v := Value.agg #[Value.int .i64 a0.vars, v0_1]) rfl (ones_cons rfl (ones_cons p0_1.one ones_nil))
 refine FL.v (E.box rfl run23) ?_
 obtain ⟨H25, S26, i27, at28⟩ := S24.sealBox (i := 0) (l' := []) rfl rfl
 refine FL.v (E.assign (v := Value.slice none 0 0) rfl) ?_
 refine FL.v (E.assign (v := Value.bool false) rfl) ?_
 refine FL.nil (FW.seq (FW.seq (FW.region ?_)))
 refine FL.v (E.load rfl (run_loadA Tryz.isAgg30 Tryz.sizeOf30 (at28.now S26.sl) rfl)) ?_
 obtain ⟨r29, hr30, hp⟩ := bnd hp
 refine FL.call rfl rfl rfl (E.call Tryz.call43 (A1 rfl)) (w_spec_l2Good S26.sl a0 v0_1 (p0_1.mono i27) hr30) ?_
 rintro e w31 ⟨rfl, r32⟩
 refine ⟨_, rfl, ?_⟩
 have S33 := S26.call r32
 refine FL.v (E.not rfl) ?_
 refine FL.nil ?_
 rcases ifB hp with ⟨c34, hp⟩ | ⟨c34, hp⟩
 ·
  refine FW.condT rfl c34 ?_
  refine FW.seq (FW.region ?_)
  obtain ⟨v35, w36, run37, S38⟩ := S33.buildSlice (P := Tryz.prog) te22 [] (parts := #[]) (cells := []) rfl szs_nil fc_nil ones_nil (Nat.le_of_ble_eq_true rfl)
  have els39 : Els (up wa.heap.size H25) (eL eI 1) 1 [] [] := Els.nil
  refine FL.v (E.buildSlice (B0) run37) ?_
  refine FL.v (E.assign (v := v35) rfl) ?_
  refine FL.v (E.assign (v := Value.bool false) rfl) ?_
  refine FL.nil ?_
  refine FW.ret ?_
  obtain rfl := Option.some.inj hp
  exact ⟨.inr rfl, res2 rfl rfl rfl ⟨_, _, _, _, rfl, S38, els39, (show (bl []).Nodup from List.nodup_nil)⟩⟩
 ·
  refine FW.condF rfl c34 ?_
  refine FW.skip (FW.seq (FW.region ?_))
  refine FL.v (E.load rfl (run_loadA Tryz.isAgg30 Tryz.sizeOf30 (at28.now S33.sl) rfl)) ?_
  refine FL.v (E.move (v := v1) rfl) ?_
  obtain ⟨r40, hr41, hp⟩ := bnd hp
  refine FL.call rfl rfl rfl (E.call Tryz.call44 (A2 rfl rfl)) (w_spec_l15Run S33.sl a0 v0_1 (p0_1.mono i27) v1 a1 (p1.mono i27) hr41) ?_
  rintro e w43 ⟨H42, v46, v48, rfl, r45, h47, h49⟩
  refine ⟨_, rfl, ?_⟩
  have S44 := S33.call r45
  obtain ⟨b50, w51, run52, S53⟩ := S44.alloc (P := Tryz.prog) 72 [Value.slice none 0 0, Value.int .i64 0, Value.slice none 0 0, Value.bool false] Tryz.zeroValue72 rfl (ones_cons rfl (ones_cons rfl (ones_cons rfl (ones_cons rfl ones_nil))))
  refine FL.v (E.alloc run52) ?_
  obtain ⟨w54, run55, S56⟩ := S53.store0 (P := Tryz.prog) (t := 72) (i := 0) (cs' := [v46, Value.int .i64 r40.most, v48, Value.bool r40.ok]) (l' := [.box b50 72 [v46, Value.int .i64 r40.most, v48, Value.bool r40.ok]]) (v := Value.agg #[v46, Value.int .i64 r40.most, v48, Value.bool r40.ok]) (c := [v46, Value.int .i64 r40.most, v48, Value.bool r40.ok]) rfl Tryz.sizeOf72 rfl rfl (ones_cons h47.one (ones_cons rfl (ones_cons h49.one (ones_cons rfl ones_nil)))) (Nat.le_of_ble_eq_true rfl) rfl rfl
  refine FL.act rfl rfl (E.store rfl rfl run55) ?_
  obtain ⟨H57, S58, i59, at60⟩ := S56.sealBox (i := 0) (l' := []) rfl rfl
  refine FL.nil (FW.seq (FW.seq (FW.region ?_)))
  refine FL.v (E.fieldAddr tf72_3 rfl) ?_
  refine FL.v (E.load rfl (run_load1 Tryz.isAgg4 (at60.now S58.sl) rfl)) ?_
  refine FL.v (E.not rfl) ?_
  refine FL.nil ?_
  rcases ifB hp with ⟨c61, hp⟩ | ⟨c61, hp⟩
  ·
   refine FW.condT rfl c61 ?_
   refine FW.seq (FW.region ?_)
   obtain ⟨v62, w63, run64, S65⟩ := S58.buildSlice (P := Tryz.prog) te22 [] (parts := #[]) (cells := []) rfl szs_nil fc_nil ones_nil (Nat.le_of_ble_eq_true rfl)
   have els66 : Els (up wa.heap.size H57) (eL eI 1) 1 [] [] := Els.nil
   refine FL.v (E.buildSlice (B0) run64) ?_
   refine FL.v (E.assign (v := v62) rfl) ?_
   refine FL.v (E.assign (v := Value.bool false) rfl) ?_
   refine FL.nil ?_
   refine FW.ret ?_
   obtain rfl := Option.some.inj hp
   exact ⟨.inr rfl, res2 rfl rfl rfl ⟨_, _, _, _, rfl, S65, els66, (show (bl []).Nodup from List.nodup_nil)⟩⟩
  ·
   refine FW.condF rfl c61 ?_
   refine FW.skip (FW.seq (FW.region ?_))
   refine FL.v (E.fieldAddr tf72_2 rfl) ?_
   refine FL.v (E.load rfl (run_load1 Tryz.isAgg22 (at60.now S58.sl) rfl)) ?_
   obtain ⟨r67, hr68, hp⟩ := bnd hp
   refine FL.call rfl rfl rfl (E.call Tryz.call45 (A1 rfl)) (w_spec_l10Copy S58.sl v48 r40.all (h49.mono i59) hr68) ?_
   rintro e w70 ⟨H69, v73, n74, cs75, rfl, r72, els76, nd77⟩
   refine ⟨_, rfl, ?_⟩
   have nv78 : New H57 cs75 := New.of_up S58.sl els76.dom
   have els76 := els76.mono (up_le S58.size)
   have S71 := S58.join (l' := [.row 84 1 v73 n74 cs75]) r72 rfl
   refine FL.v (E.assign (v := v73) rfl) ?_
   refine FL.v (E.assign (v := Value.bool true) rfl) ?_
   refine FL.nil ?_
   refine FW.ret ?_
   obtain rfl := Option.some.inj hp
   exact ⟨.inr rfl, res2 rfl rfl rfl ⟨_, _, _, _, rfl, S71, els76, nd77⟩⟩

theorem w_impl_within {Ha : GH} {wa : World} (hs : Sl Ha wa) (a0 : Int) (a1 : Int) (a2 : Int) :
  Calls Tryz.prog 108 #[Value.int .i64 a0, Value.int .i64 a1, Value.int .i64 a2] wa (Sc Ha wa (Value.bool (PF.impl_within a0 a1 a2))) := by
 obtain ⟨r, hp⟩ : ∃ r, (PF.impl_within a0 a1 a2) = r := ⟨_, rfl⟩
 rw [hp]
 unfold PF.impl_within at hp
 have S0 := St.init hs
 refine calls_go (N := 15) (args := [Value.int .i64 a0, Value.int .i64 a1, Value.int .i64 a2]) Tryz.func108 rfl rfl rfl ?_
 refine FW.seq (FW.region ?_)
 refine FL.v (E.assign (v := Value.bool false) rfl) ?_
 refine FL.nil (FW.seq (FW.region ?_))
 refine FL.v (E.move (v := Value.int .i64 a0) rfl) ?_
 refine FL.v (E.move (v := Value.int .i64 a1) rfl) ?_
 refine FL.v (E.geq rfl rfl) ?_
 refine FL.v (E.move (v := Value.bool (decide (a1 ≤ a0))) rfl) ?_
 refine FL.cut 4 (fun f w => ∃ H : GH, St Ha wa H w [] ∧ Inc Ha H ∧ f 14 = Value.bool (bif (decide (a1 ≤ a0)) then (decide (a0 ≤ a2)) else false)) ?_ ?_
 ·
  rcases bcase (decide (a1 ≤ a0)) with c27 | c27
  ·
   refine FL.val (wF_yes rfl rfl rfl c27) rfl rfl (E.move (v := Value.int .i64 a0) rfl) ?_
   refine FL.val (wF_yes rfl rfl rfl c27) rfl rfl (E.move (v := Value.int .i64 a2) rfl) ?_
   refine FL.val (wF_yes rfl rfl rfl c27) rfl rfl (E.leq rfl rfl) ?_
   refine FL.v (E.pickT rfl c27 rfl) ?_
   exact FL.nil ⟨rfl, _, S0, (Inc.rfl _), (congrArg Value.bool (bifT c27).symm)⟩
  ·
   refine FL.skip (wF_no rfl rfl rfl c27) rfl ?_
   refine FL.skip (wF_no rfl rfl rfl c27) rfl ?_
   refine FL.skip (wF_no rfl rfl rfl c27) rfl ?_
   refine FL.v (E.pickF rfl c27 rfl) ?_
   exact FL.nil ⟨rfl, _, S0, (Inc.rfl _), (congrArg Value.bool (bifF c27).symm)⟩
 rintro f26 w25 ⟨H22, S23, i24, k28⟩
 refine FL.v (E.assign k28) ?_
 refine FL.nil ?_
 refine FW.ret ?_
 obtain rfl := hp
 exact ⟨.inr rfl, res1 rfl rfl ⟨rfl, S23.back⟩⟩

theorem w_impl_isLiteral {Ha : GH} {wa : World} (hs : Sl Ha wa) (a0 : Int) (a1 : Int) :
  Calls Tryz.prog 199 #[Value.int .i64 a0, Value.int .i64 a1] wa (Sc Ha wa (Value.bool (PF.impl_isLiteral a0 a1))) := by
 obtain ⟨r, hp⟩ : ∃ r, (PF.impl_isLiteral a0 a1) = r := ⟨_, rfl⟩
 rw [hp]
 unfold PF.impl_isLiteral at hp
 have S0 := St.init hs
 refine calls_go (N := 14) (args := [Value.int .i64 a0, Value.int .i64 a1]) Tryz.func199 rfl rfl rfl ?_
 refine FW.seq (FW.region ?_)
 refine FL.v (E.assign (v := Value.bool false) rfl) ?_
 refine FL.nil (FW.seq (FW.region ?_))
 refine FL.v (E.move (v := Value.int .i64 a1) rfl) ?_
 refine FL.v (E.neq rfl rfl) ?_
 refine FL.v (E.move (v := Value.bool (!(a1 == 0))) rfl) ?_
 refine FL.cut 6 (fun f w => ∃ H : GH, St Ha wa H w [] ∧ Inc Ha H ∧ f 13 = Value.bool (bif (!(a1 == 0)) then (PF.impl_within a1 (wr (-a0)) a0) else false)) ?_ ?_
 ·
  rcases bcase (!(a1 == 0)) with c30 | c30
  ·
   refine FL.val (wF_yes rfl rfl rfl c30) rfl rfl (E.move (v := Value.int .i64 a1) rfl) ?_
   refine FL.val (wF_yes rfl rfl rfl c30) rfl rfl (E.move (v := Value.int .i64 a0) rfl) ?_
   refine FL.val (wF_yes rfl rfl rfl c30) rfl rfl (E.neg rfl) ?_
   refine FL.val (wF_yes rfl rfl rfl c30) rfl rfl (E.move (v := Value.int .i64 a0) rfl) ?_
   refine FL.call (wF_yes rfl rfl rfl c30) rfl rfl (E.call Tryz.call108 (A3 rfl rfl rfl)) (w_impl_within S0.sl a1 (wr (-a0)) a0) ?_
   rintro e w31 ⟨rfl, r32⟩
   refine ⟨_, rfl, ?_⟩
   have S33 := S0.call r32
   refine FL.v (E.pickT rfl c30 rfl) ?_
   exact FL.nil ⟨rfl, _, S33, (Inc.rfl _), (congrArg Value.bool (bifT c30).symm)⟩
  ·
   refine FL.skip (wF_no rfl rfl rfl c30) rfl ?_
   refine FL.skip (wF_no rfl rfl rfl c30) rfl ?_
   refine FL.skip (wF_no rfl rfl rfl c30) rfl ?_
   refine FL.skip (wF_no rfl rfl rfl c30) rfl ?_
   refine FL.skip (wF_no rfl rfl rfl c30) rfl ?_
   refine FL.v (E.pickF rfl c30 rfl) ?_
   exact FL.nil ⟨rfl, _, S0, (Inc.rfl _), (congrArg Value.bool (bifF c30).symm)⟩
 rintro f29 w28 ⟨H25, S26, i27, k34⟩
 refine FL.v (E.assign k34) ?_
 refine FL.nil ?_
 refine FW.ret ?_
 obtain rfl := hp
 exact ⟨.inr rfl, res1 rfl rfl ⟨rfl, S26.back⟩⟩

theorem w_impl_abs {Ha : GH} {wa : World} (hs : Sl Ha wa) (a0 : Int) :
  Calls Tryz.prog 166 #[Value.int .i64 a0] wa (Sc Ha wa (Value.int .i64 (PF.impl_abs a0))) := by
 obtain ⟨r, hp⟩ : ∃ r, (PF.impl_abs a0) = r := ⟨_, rfl⟩
 rw [hp]
 unfold PF.impl_abs at hp
 have S0 := St.init hs
 refine calls_go (N := 7) (args := [Value.int .i64 a0]) Tryz.func166 rfl rfl rfl ?_
 refine FW.seq (FW.region ?_)
 refine FL.v (E.assign (v := Value.int .i64 0) rfl) ?_
 refine FL.nil (FW.seq (FW.region ?_))
 refine FL.v (E.move (v := Value.int .i64 a0) rfl) ?_
 refine FL.v (E.move (v := Value.int .i64 a0) rfl) ?_
 refine FL.v (E.neg rfl) ?_
 refine FL.v (E.max2 rfl rfl) ?_
 refine FL.v (E.assign (v := Value.int .i64 (mx a0 (wr (-a0)))) rfl) ?_
 refine FL.nil ?_
 refine FW.ret ?_
 obtain rfl := hp
 exact ⟨.inr rfl, res1 rfl rfl ⟨rfl, S0.back⟩⟩

theorem w_impl_varsOk {Ha : GH} {wa : World} (hs : Sl Ha wa) (a0 : Int) :
  Calls Tryz.prog 109 #[Value.int .i64 a0] wa (Sc Ha wa (Value.bool (PF.impl_varsOk a0))) := by
 obtain ⟨r, hp⟩ : ∃ r, (PF.impl_varsOk a0) = r := ⟨_, rfl⟩
 rw [hp]
 unfold PF.impl_varsOk at hp
 have S0 := St.init hs
 refine calls_go (N := 5) (args := [Value.int .i64 a0]) Tryz.func109 rfl rfl rfl ?_
 refine FW.seq (FW.region ?_)
 refine FL.v (E.assign (v := Value.bool false) rfl) ?_
 refine FL.nil (FW.seq (FW.region ?_))
 refine FL.v (E.move (v := Value.int .i64 a0) rfl) ?_
 refine FL.call rfl rfl rfl (E.call Tryz.call108 (A3 rfl rfl rfl)) (w_impl_within S0.sl a0 0 12) ?_
 rintro e w21 ⟨rfl, r22⟩
 refine ⟨_, rfl, ?_⟩
 have S23 := S0.call r22
 refine FL.v (E.assign (v := Value.bool (PF.impl_within a0 0 12)) rfl) ?_
 refine FL.nil ?_
 refine FW.ret ?_
 obtain rfl := hp
 exact ⟨.inr rfl, res1 rfl rfl ⟨rfl, S23.back⟩⟩

theorem w_impl_IsClause {Ha : GH} {wa : World} (hs : Sl Ha wa) (a0 : Int) (v1 : Value) (a1 : List Int) (p1 : RSl Ha eI 1 v1 a1) {r : Bool} (hp : (PF.impl_IsClause a0 a1) = some r) :
  Calls Tryz.prog 151 #[Value.int .i64 a0, v1] wa (Sc Ha wa (Value.bool r)) := by
 unfold PF.impl_IsClause at hp
 have S0 := St.init hs
 refine calls_go (N := 36) (args := [Value.int .i64 a0, v1]) Tryz.func151 rfl rfl rfl ?_
 refine FW.seq (FW.region ?_)
 refine FL.v (E.assign (v := Value.bool false) rfl) ?_
 refine FL.nil (FW.seq (FW.seq (FW.region ?_)))
 refine FL.v (E.move (v := v1) rfl) ?_
 refine FL.v (E.lenP te84 rfl p1) ?_
 refine FL.v (E.move (v := Value.int .i64 0) rfl) ?_
 refine FL.nil ?_
 obtain ⟨q22, hq, hp⟩ := bndR hp
 refine FW.block ?_
 refine FW.mono (FW.forL (S := Unit) (X := Bool) (fun (i22 : Nat) (s22 : Unit) f w => ∃ H : GH, St Ha wa H w [] ∧ Inc Ha H ∧ f 9 = Value.int .i64 ((i22 : Nat) : Int) ∧ f 0 = Value.int .i64 a0 ∧ f 1 = v1 ∧ f 7 = v1 ∧ f 8 = Value.int .i64 (len a1)) (fun q e f w => match q with | .go s22 => e = Exit.exit 0 ∧ (∃ H : GH, St Ha wa H w [] ∧ Inc Ha H ∧ f 0 = Value.int .i64 a0) | .rt x => ((e = Exit.ret) ∧ (fun e f w => (e = Exit.normal ∨ e = Exit.ret) ∧ ∀ a, Fr (δ := []) 36 a f → ∃ v, (results Tryz.f151 a.tmps).run Tryz.prog w = .ok v w ∧ (Sc Ha wa (Value.bool x)) (.returned v) w) e f w)) hq ⟨_, S0, (Inc.rfl _), rfl, rfl, rfl, rfl, rfl⟩ ?_ ?_) ?_
 ·
  clear hp hq
  rintro i22 y21 s22 f121 w120 ⟨H117, S118, i119, k122, k123, k124, k125, k126⟩ hx22 o211 hp
  refine FW.seq (FW.region ?_)
  refine FL.v (E.lssT k122 k126 (lss_len hx22)) ?_
  refine FL.nil (FW.seq ?_)
  refine FW.condT rfl rfl ?_
  refine FW.skip (FW.seq (FW.block (FW.seq (FW.region ?_))))
  refine FL.v (E.move k122) ?_
  obtain ⟨p127, cs128, pt129, l130, at131, rel132⟩ := p1.at (ix_nat hx22)
  obtain rfl := eI_open rel132
  refine FL.v (E.indexAddr te84 k125 k122 pt129) ?_
  refine FL.v (E.load rfl (run_load0 Tryz.isAgg3 ((at131.mono i119).now S118.sl) rfl)) ?_
  refine FL.v (E.assign (v := Value.int .i64 ((i22 : Nat) : Int)) rfl) ?_
  refine FL.v (E.assign (v := Value.int .i64 y21) rfl) ?_
  refine FL.nil (FW.seq ?_)
  refine FW.draw (fun w' => Run w120.heap.size H117 w120 H117 w') (by kernel_rfl) (by kernel_rfl) (run_drew S118.sl) ?_
  refine FD.val rfl rfl rfl (fun w' hw' => (E.move k123)) ?_
  refine FD.val rfl rfl rfl (fun w' hw' => (E.move (v := Value.int .i64 y21) rfl)) ?_
  refine FD.call rfl rfl rfl (fun w' hw' => (E.call Tryz.call199 (A2 rfl rfl))) (fun w' hw' => Calls.cls hw' (w_impl_isLiteral (S118.call hw').sl a0 y21)) ?_
  refine FD.val rfl rfl rfl (fun w' hw' => (E.not rfl)) ?_
  refine FD.val rfl rfl rfl (fun w' hw' => (E.move (v := Value.bool (!(PF.impl_isLiteral a0 y21))) rfl)) ?_
  obtain ⟨t164, hqt164, hp⟩ := bnd hp
  refine FD.cut 14 (fun f => f 0 = Value.int .i64 a0 ∧ f 1 = v1 ∧ f 7 = v1 ∧ f 8 = Value.int .i64 (len a1) ∧ f 9 = Value.int .i64 ((i22 : Nat) : Int) ∧ f 32 = Value.bool t164) ?_ ?_
  ·
   clear hp; have hp := hqt164; clear hqt164
   rcases ifB hp with ⟨c170, hp⟩ | ⟨c170, hp⟩
   ·
    refine FD.skip (wF_no rfl rfl rfl c170) rfl ?_
    refine FD.skip (wF_no rfl rfl rfl c170) rfl ?_
    refine FD.skip (wF_no rfl rfl rfl c170) rfl ?_
    refine FD.skip (wF_undef rfl rfl rfl) rfl ?_
    refine FD.skip (wF_undef rfl rfl rfl) rfl ?_
    refine FD.skip (wF_undef rfl rfl rfl) rfl ?_
    refine FD.skip (wF_undef rfl rfl rfl) rfl ?_
    refine FD.skip (wF_undef rfl rfl rfl) rfl ?_
    refine FD.skip (wF_undef rfl rfl rfl) rfl ?_
    refine FD.skip (wF_undef rfl rfl rfl) rfl ?_
    refine FD.skip (wF_undef rfl rfl rfl) rfl ?_
    refine FD.skip (wF_undef rfl rfl rfl) rfl ?_
    refine FD.skip (wF_no rfl rfl rfl c170) rfl ?_
    obtain rfl := Option.some.inj hp
    refine FD.val rfl rfl rfl (fun w' hw' => (E.pickT rfl c170 rfl)) ?_
    exact FD.nil ⟨k123, k124, k125, k126, k122, rfl⟩
   ·
    refine FD.val (wF_yes rfl rfl rfl c170) rfl rfl (fun w' hw' => (E.move (v := Value.int .i64 ((i22 : Nat) : Int)) rfl)) ?_
    refine FD.val (wF_yes rfl rfl rfl c170) rfl rfl (fun w' hw' => (E.gtr rfl rfl)) ?_
    refine FD.val (wF_yes rfl rfl rfl c170) rfl rfl (fun w' hw' => (E.move (v := Value.bool (decide (0 < ((i22 : Nat) : Int)))) rfl)) ?_
    obtain ⟨t179, hqt179, hp⟩ := bnd hp
    refine FD.cut 10 (fun f => f 0 = Value.int .i64 a0 ∧ f 1 = v1 ∧ f 7 = v1 ∧ f 8 = Value.int .i64 (len a1) ∧ f 9 = Value.int .i64 ((i22 : Nat) : Int) ∧ f 18 = Value.bool (!(PF.impl_isLiteral a0 y21)) ∧ f 31 = Value.bool t179) ?_ ?_
    ·
     clear hp; have hp := hqt179; clear hqt179
     rcases ifB hp with ⟨c185, hp⟩ | ⟨c185, hp⟩
     ·
      refine FD.val (wF_yes rfl rfl rfl c185) rfl rfl (fun w' hw' => (E.move (v := Value.int .i64 y21) rfl)) ?_
      refine FD.call (wF_yes rfl rfl rfl c185) rfl rfl (fun w' hw' => (E.call Tryz.call166 (A1 rfl))) (fun w' hw' => Calls.cls hw' (w_impl_abs (S118.call hw').sl y21)) ?_
      refine FD.val (wF_yes rfl rfl rfl c185) rfl rfl (fun w' hw' => (E.move k124)) ?_
      refine FD.val (wF_yes rfl rfl rfl c185) rfl rfl (fun w' hw' => (E.move (v := Value.int .i64 ((i22 : Nat) : Int)) rfl)) ?_
      refine FD.val (wF_yes rfl rfl rfl c185) rfl rfl (fun w' hw' => (E.sub rfl rfl)) ?_
      obtain ⟨x192, hx193, hp⟩ := bnd hp
      obtain ⟨p186, cs187, pt188, l189, at190, rel191⟩ := p1.at hx193
      obtain rfl := eI_open rel191
      refine FD.val (wF_yes rfl rfl rfl c185) rfl rfl (fun w' hw' => (E.indexAddr te84 rfl rfl pt188)) ?_
      refine FD.val (wF_yes rfl rfl rfl c185) rfl rfl (fun w' hw' => (E.load rfl (run_load0 Tryz.isAgg3 ((at190.mono i119).now (S118.call hw').sl) rfl))) ?_
      refine FD.call (wF_yes rfl rfl rfl c185) rfl rfl (fun w' hw' => (E.call Tryz.call166 (A1 rfl))) (fun w' hw' => Calls.cls hw' (w_impl_abs (S118.call hw').sl x192)) ?_
      refine FD.val (wF_yes rfl rfl rfl c185) rfl rfl (fun w' hw' => (E.leq rfl rfl)) ?_
      obtain rfl := Option.some.inj hp
      refine FD.val (wF_yes rfl rfl rfl c170) rfl rfl (fun w' hw' => (E.pickT rfl c185 rfl)) ?_
      exact FD.nil ⟨k123, k124, k125, k126, k122, rfl, rfl⟩
     ·
      refine FD.skip (wF_no rfl rfl rfl c185) rfl ?_
      refine FD.skip (wF_no rfl rfl rfl c185) rfl ?_
      refine FD.skip (wF_no rfl rfl rfl c185) rfl ?_
      refine FD.skip (wF_no rfl rfl rfl c185) rfl ?_
      refine FD.skip (wF_no rfl rfl rfl c185) rfl ?_
      refine FD.skip (wF_no rfl rfl rfl c185) rfl ?_
      refine FD.skip (wF_no rfl rfl rfl c185) rfl ?_
      refine FD.skip (wF_no rfl rfl rfl c185) rfl ?_
      refine FD.skip (wF_no rfl rfl rfl c185) rfl ?_
      obtain rfl := Option.some.inj hp
      refine FD.val (wF_yes rfl rfl rfl c170) rfl rfl (fun w' hw' => (E.pickF rfl c185 rfl)) ?_
      exact FD.nil ⟨k123, k124, k125, k126, k122, rfl, rfl⟩
    rintro f184 ⟨k194, k195, k196, k197, k198, k199, k200⟩
    obtain rfl := Option.some.inj hp
    refine FD.val rfl rfl rfl (fun w' hw' => (E.pickF k199 c170 k200)) ?_
    exact FD.nil ⟨k194, k195, k196, k197, k198, rfl⟩
  rintro f169 ⟨k201, k202, k203, k204, k205, k206⟩
  refine FD.nil ?_
  intro w207 r209
  have S208 := S118.call r209
  rcases ifB hp with ⟨c210, hp⟩ | ⟨c210, hp⟩
  ·
   refine FW.condT k206 c210 ?_
   refine FW.seq (FW.region ?_)
   refine FL.v (E.assign (v := Value.bool false) rfl) ?_
   refine FL.nil ?_
   refine FW.ret ?_
   obtain rfl := Option.some.inj hp
   exact ⟨nofun, rfl, ⟨.inr rfl, res1 rfl rfl ⟨rfl, S208.back⟩⟩⟩
  ·
   refine FW.condF k206 c210 ?_
   refine FW.skip (FW.region ?_)
   refine FL.v (E.add k205 rfl) ?_
   refine FL.v (E.move (v := Value.int .i64 (wr (((i22 : Nat) : Int) + 1))) rfl) ?_
   refine FL.nil ?_
   obtain rfl := Option.some.inj hp
   exact ⟨rfl, ⟨_, S208, i119, (nat_succ rfl (lt_of_get hx22) (p1.mono i119).le), k201, k202, k203, k204⟩⟩
 ·
  clear hp hq
  rintro s22 f225 w224 ⟨H221, S222, i223, k226, k227, k228, k229, k230⟩
  refine FW.seq (FW.region ?_)
  refine FL.v (E.lss k226 k230) ?_
  refine FL.nil (FW.seq ?_)
  refine FW.condF rfl dlt_len ?_
  refine FW.exit ?_
  exact ⟨nofun, rfl, ⟨_, S222, i223, k227⟩⟩
 ·
  clear hq
  intro e f216 w215 hD
  rcases q22 with s22 | x22
  ·
   obtain ⟨rfl, hD⟩ := hD
   obtain ⟨H212, S213, i214, k217⟩ := hD
   replace hp := el_go hp
   refine FW.seq (FW.region ?_)
   refine FL.v (E.move k217) ?_
   refine FL.call rfl rfl rfl (E.call Tryz.call109 (A1 rfl)) (w_impl_varsOk S213.sl a0) ?_
   rintro e w218 ⟨rfl, r219⟩
   refine ⟨_, rfl, ?_⟩
   have S220 := S213.call r219
   refine FL.v (E.assign (v := Value.bool (PF.impl_varsOk a0)) rfl) ?_
   refine FL.nil ?_
   refine FW.ret ?_
   obtain rfl := Option.some.inj hp
   exact ⟨.inr rfl, res1 rfl rfl ⟨rfl, S220.back⟩⟩
  ·
   obtain ⟨he, hL⟩ := hD
   replace hp := el_rt hp
   obtain rfl := Option.some.inj hp
   subst he
   exact hL

theorem w_impl_IsCnf {Ha : GH} {wa : World} (hs : Sl Ha wa) (a0 : Cnf) (v0_1 : Value) (p0_1 : RSl Ha (eL eI 1) 1 v0_1 a0.clauses) {r : Bool} (hp : (PF.impl_IsCnf a0) = some r) :
  Calls Tryz.prog 95 #[Value.agg #[Value.int .i64 a0.vars, v0_1]] wa (Sc Ha wa (Value.bool r)) := by
 unfold PF.impl_IsCnf at hp
 have S0 := St.init hs
 refine calls_go (N := 27) (args := [Value.agg #[Value.int .i64 a0.vars, v0_1]]) Tryz.func95 rfl rfl rfl ?_
 refine FW.seq (FW.region ?_)
 obtain ⟨b21, w22, run23, S24⟩ := S0.box (P := Tryz.prog) 30 [Value.int .i64 a0.vars, v0_1] (v := Value.agg #[Value.int .i64 a0.vars, v0_1]) rfl (ones_cons rfl (ones_cons p0_1.one ones_nil))
 refine FL.v (E.box rfl run23) ?_
 obtain ⟨H25, S26, i27, at28⟩ := S24.sealBox (i := 0) (l' := []) rfl rfl
 refine FL.v (E.assign (v := Value.bool false) rfl) ?_
 refine FL.nil (FW.seq (FW.seq (FW.region ?_)))
 refine FL.v (E.fieldAddr tf30_1 rfl) ?_
 refine FL.v (E.load rfl (run_load1 Tryz.isAgg22 (at28.now S26.sl) rfl)) ?_
 refine FL.v (E.lenP te22 rfl p0_1) ?_
 refine FL.v (E.move (v := Value.int .i64 0) rfl) ?_
 refine FL.nil ?_
 obtain ⟨q30, hq, hp⟩ := bndR hp
 refine FW.block ?_
 refine FW.mono (FW.forL (S := Unit) (X := Bool) (fun (i30 : Nat) (s30 : Unit) f w => ∃ H : GH, St Ha wa H w [] ∧ Inc H25 H ∧ f 8 = Value.int .i64 ((i30 : Nat) : Int) ∧ f 1 = Value.pointer (some ⟨b21, 0, none⟩) ∧ f 6 = v0_1 ∧ f 7 = Value.int .i64 (len a0.clauses)) (fun q e f w => match q with | .go s30 => e = Exit.exit 0 ∧ (∃ H : GH, St Ha wa H w [] ∧ Inc H25 H ∧ f 1 = Value.pointer (some ⟨b21, 0, none⟩)) | .rt x => ((e = Exit.ret) ∧ (fun e f w => (e = Exit.normal ∨ e = Exit.ret) ∧ ∀ a, Fr (δ := []) 27 a f → ∃ v, (results Tryz.f95 a.tmps).run Tryz.prog w = .ok v w ∧ (Sc Ha wa (Value.bool x)) (.returned v) w) e f w)) hq ⟨_, S26, (Inc.rfl _), rfl, rfl, rfl, rfl⟩ ?_ ?_) ?_
 ·
  clear hp hq
  rintro i30 y29 s30 f58 w57 ⟨H54, S55, i56, k59, k60, k61, k62⟩ hx30 o77 hp
  refine FW.seq (FW.region ?_)
  refine FL.v (E.lssT k59 k62 (lss_len hx30)) ?_
  refine FL.nil (FW.seq ?_)
  refine FW.condT rfl rfl ?_
  refine FW.skip (FW.seq (FW.block (FW.seq (FW.region ?_))))
  obtain ⟨p63, cs64, pt65, l66, at67, rel68⟩ := p0_1.at (ix_nat hx30)
  obtain ⟨v69, rfl, h70⟩ := eL_open rel68
  refine FL.v (E.indexAddr te22 k61 k59 pt65) ?_
  refine FL.v (E.load rfl (run_load0 Tryz.isAgg84 ((at67.mono (i27.tr i56)).now S55.sl) rfl)) ?_
  refine FL.v (E.assign (v := v69) rfl) ?_
  refine FL.nil (FW.seq (FW.region ?_))
  refine FL.v (E.fieldAddr tf30_0 k60) ?_
  refine FL.v (E.load rfl (run_load1 Tryz.isAgg3 ((at28.mono i56).now S55.sl) rfl)) ?_
  refine FL.v (E.move (v := v69) rfl) ?_
  obtain ⟨r71, hr72, hp⟩ := bnd hp
  refine FL.call rfl rfl rfl (E.call Tryz.call151 (A2 rfl rfl)) (w_impl_IsClause S55.sl a0.vars v69 y29 (h70.mono (i27.tr i56)) hr72) ?_
  rintro e w73 ⟨rfl, r74⟩
  refine ⟨_, rfl, ?_⟩
  have S75 := S55.call r74
  refine FL.v (E.not rfl) ?_
  refine FL.nil ?_
  rcases ifB hp with ⟨c76, hp⟩ | ⟨c76, hp⟩
  ·
   refine FW.condT rfl c76 ?_
   refine FW.seq (FW.region ?_)
   refine FL.v (E.assign (v := Value.bool false) rfl) ?_
   refine FL.nil ?_
   refine FW.ret ?_
   obtain rfl := Option.some.inj hp
   exact ⟨nofun, rfl, ⟨.inr rfl, res1 rfl rfl ⟨rfl, S75.back⟩⟩⟩
  ·
   refine FW.condF rfl c76 ?_
   refine FW.skip (FW.region ?_)
   refine FL.v (E.add k59 rfl) ?_
   refine FL.v (E.move (v := Value.int .i64 (wr (((i30 : Nat) : Int) + 1))) rfl) ?_
   refine FL.nil ?_
   obtain rfl := Option.some.inj hp
   exact ⟨rfl, ⟨_, S75, i56, (nat_succ rfl (lt_of_get hx30) (p0_1.mono (i27.tr i56)).le), k60, k61, k62⟩⟩
 ·
  clear hp hq
  rintro s30 f99 w98 ⟨H95, S96, i97, k100, k101, k102, k103⟩
  refine FW.seq (FW.region ?_)
  refine FL.v (E.lss k100 k103) ?_
  refine FL.nil (FW.seq ?_)
  refine FW.condF rfl dlt_len ?_
  refine FW.exit ?_
  exact ⟨nofun, rfl, ⟨_, S96, i97, k101⟩⟩
 ·
  clear hq
  intro e f82 w81 hD
  rcases q30 with s30 | x30
  ·
   obtain ⟨rfl, hD⟩ := hD
   obtain ⟨H78, S79, i80, k83⟩ := hD
   replace hp := el_go hp
   refine FW.seq (FW.region ?_)
   refine FL.v (E.fieldAddr tf30_0 k83) ?_
   refine FL.v (E.load rfl (run_load1 Tryz.isAgg3 ((at28.mono i80).now S79.sl) rfl)) ?_
   refine FL.call rfl rfl rfl (E.call Tryz.call109 (A1 rfl)) (w_impl_varsOk S79.sl a0.vars) ?_
   rintro e w84 ⟨rfl, r85⟩
   refine ⟨_, rfl, ?_⟩
   have S86 := S79.call r85
   refine FL.v (E.move (v := Value.bool (PF.impl_varsOk a0.vars)) rfl) ?_
   refine FL.cut 5 (fun f w => ∃ H : GH, St Ha wa H w [] ∧ Inc H78 H ∧ f 26 = Value.bool (bif (PF.impl_varsOk a0.vars) then (decide ((len a0.clauses) ≤ 60)) else false)) ?_ ?_
   ·
    rcases bcase (PF.impl_varsOk a0.vars) with c93 | c93
    ·
     refine FL.val (wF_yes rfl rfl rfl c93) rfl rfl (E.fieldAddr tf30_1 k83) ?_
     refine FL.val (wF_yes rfl rfl rfl c93) rfl rfl (E.load rfl (run_load1 Tryz.isAgg22 ((at28.mono i80).now S86.sl) rfl)) ?_
     refine FL.val (wF_yes rfl rfl rfl c93) rfl rfl (E.lenP te22 rfl p0_1) ?_
     refine FL.val (wF_yes rfl rfl rfl c93) rfl rfl (E.leq rfl rfl) ?_
     refine FL.v (E.pickT rfl c93 rfl) ?_
     exact FL.nil ⟨rfl, _, S86, (Inc.rfl _), (congrArg Value.bool (bifT c93).symm)⟩
    ·
     refine FL.skip (wF_no rfl rfl rfl c93) rfl ?_
     refine FL.skip (wF_no rfl rfl rfl c93) rfl ?_
     refine FL.skip (wF_no rfl rfl rfl c93) rfl ?_
     refine FL.skip (wF_no rfl rfl rfl c93) rfl ?_
     refine FL.v (E.pickF rfl c93 rfl) ?_
     exact FL.nil ⟨rfl, _, S86, (Inc.rfl _), (congrArg Value.bool (bifF c93).symm)⟩
   rintro f92 w91 ⟨H88, S89, i90, k94⟩
   refine FL.v (E.assign k94) ?_
   refine FL.nil ?_
   refine FW.ret ?_
   obtain rfl := Option.some.inj hp
   exact ⟨.inr rfl, res1 rfl rfl ⟨rfl, S89.back⟩⟩
  ·
   obtain ⟨he, hL⟩ := hD
   replace hp := el_rt hp
   obtain rfl := Option.some.inj hp
   subst he
   exact hL

@[reducible] def p_impl_last_impl_config (Ha : GH) (wa : World) (r : (List (List Int))) : Ending → World → Prop :=
 fun e w' => ∃ H' : GH, ∃ v0 : Value, e = .returned (v0) ∧ Run wa.heap.size Ha wa H' w' ∧ RSl H' (eL eI 1) 1 v0 r
theorem w_impl_last_impl_config {Ha : GH} {wa : World} (hs : Sl Ha wa) (v0 : Value) (a0 : List (List (List Int))) (p0 : RSl Ha (eL (eL eI 1) 1) 1 v0 a0) {r : (List (List Int))} (hp : (PF.impl_last_impl_config a0) = some r) :
  Calls Tryz.prog 96 #[v0] wa (p_impl_last_impl_config Ha wa r) := by
 unfold PF.impl_last_impl_config at hp
 have S0 := St.init hs
 refine calls_go (N := 9) (args := [v0]) Tryz.func96 rfl rfl rfl ?_
 refine FW.seq (FW.region ?_)
 refine FL.v (E.assign (v := Value.slice none 0 0) rfl) ?_
 refine FL.nil (FW.seq (FW.region ?_))
 refine FL.v (E.move (v := v0) rfl) ?_
 refine FL.v (E.move (v := v0) rfl) ?_
 refine FL.v (E.lenP te79 rfl p0) ?_
 refine FL.v (E.sub rfl rfl) ?_
 obtain ⟨x27, hx28, hp⟩ := bnd hp
 obtain ⟨p21, cs22, pt23, l24, at25, rel26⟩ := p0.at hx28
 obtain ⟨v29, rfl, h30⟩ := eL_open rel26
 refine FL.v (E.indexAddr te79 rfl rfl pt23) ?_
 refine FL.v (E.load rfl (run_load0 Tryz.isAgg82 (at25.now S0.sl) rfl)) ?_
 refine FL.v (E.assign (v := v29) rfl) ?_
 refine FL.nil ?_
 refine FW.ret ?_
 obtain rfl := Option.some.inj hp
 exact ⟨.inr rfl, res1 rfl rfl ⟨_, _, rfl, S0.run, h30⟩⟩

@[reducible] def p_slices_Clone_LLint_Lint (Ha : GH) (wa : World) (r : (List (List Int))) : Ending → World → Prop :=
 fun e w' => ∃ H' : GH, ∃ v0 : Value, ∃ n0 : Nat, ∃ c0 : List Value, e = .returned (v0) ∧ St Ha wa H' w' [.row 84 1 v0 n0 c0] ∧ Els H' (eL eI 1) 1 c0 r
theorem w_slices_Clone_LLint_Lint {Ha : GH} {wa : World} (hs : Sl Ha wa) (v0 : Value) (a0 : List (List Int)) (p0 : RSl Ha (eL eI 1) 1 v0 a0) {r : (List (List Int))} (hp : (PF.slices_Clone_LLint_Lint a0) = some r) :
  Calls Tryz.prog 201 #[v0] wa (p_slices_Clone_LLint_Lint Ha wa r) := by
 unfold PF.slices_Clone_LLint_Lint at hp
 have S0 := St.init hs
 refine calls_go (N := 8) (args := [v0]) Tryz.func201 rfl rfl rfl ?_
 refine FW.seq (FW.region ?_)
 refine FL.v (E.assign (v := Value.slice none 0 0) rfl) ?_
 refine FL.nil (FW.seq (FW.seq (FW.region ?_)))
 refine FL.v (E.move (v := v0) rfl) ?_
 obtain ⟨nb21, run22, hn23⟩ := RSl.nilTest te22 p0
 refine FL.v (run22 _ _ _ _ _ _ _ _ _ _ _ _ rfl rfl) ?_
 refine FL.nil ?_
 rcases bcase nb21 with c24 | c24
 ·
  refine FW.condT (b := nb21) rfl c24 ?_
  rw [hn23 c24, app_nil2] at hp
  refine FW.seq (FW.region ?_)
  refine FL.v (E.assign (v := Value.slice none 0 0) rfl) ?_
  refine FL.nil ?_
  refine FW.ret ?_
  obtain rfl := Option.some.inj hp
  exact ⟨.inr rfl, res1 rfl rfl ⟨_, _, _, _, rfl, (S0.nil 84 1), Els.nil⟩⟩
 ·
  refine FW.condF (b := nb21) rfl c24 ?_
  refine FW.skip (FW.seq (FW.region ?_))
  obtain ⟨v25, w26, run27, S28⟩ := S0.buildSlice (P := Tryz.prog) te22 [] (parts := #[]) (cells := []) rfl szs_nil fc_nil ones_nil (Nat.le_of_ble_eq_true rfl)
  have els29 : Els (up wa.heap.size Ha) (eL eI 1) 1 [] [] := Els.nil
  refine FL.v (E.buildSlice (B0) run27) ?_
  refine FL.v (E.move (v := v0) rfl) ?_
  obtain ⟨xs30, hz31, hp⟩ := bnd hp
  obtain ⟨v32, w35, n33, cs34, run36, S37, els38⟩ := S28.appendP (P := Tryz.prog) (Inc.rfl _) te22 (i := 0) rfl (els29.mono upI) p0 hz31
  have S37 : St Ha wa Ha w35 [.row 84 1 v32 n33 cs34] := S37
  refine FL.v (E.append rfl rfl run36) ?_
  refine FL.v (E.assign (v := v32) rfl) ?_
  refine FL.nil ?_
  refine FW.ret ?_
  obtain rfl := Option.some.inj hp
  exact ⟨.inr rfl, res1 rfl rfl ⟨_, _, _, _, rfl, S37, els38⟩⟩

@[reducible] def p_slices_Delete_LLint_Lint (H0 : GH) (w0 : World) (Ha : GH) (L : List MO) (r : (List (List Int))) : Ending → World → Prop :=
 fun e w' => ∃ H' : GH, ∃ v0r : Value, ∃ n0r : Nat, ∃ c0r : List Value, e = .returned (v0r) ∧ (St H0 w0 H' w' (.row 84 1 v0r n0r c0r :: L) ∧ Inc Ha H') ∧ Els H' (eL eI 1) 1 c0r r
theorem w_slices_Delete_LLint_Lint {H0 Ha : GH} {w0 wa : World} {L : List MO} {v0 : Value} {n0 : Nat} {k0 : List Value} (S0 : St H0 w0 Ha wa (.row 84 1 v0 n0 k0 :: L)) (a0 : List (List Int)) (p0 : Els Ha (eL eI 1) 1 k0 a0) (a1 : Int) (a2 : Int) {r : (List (List Int))} (hp : (PF.slices_Delete_LLint_Lint a0 a1 a2) = some r) :
  Calls Tryz.prog 200 #[v0, Value.int .i64 a1, Value.int .i64 a2] wa (p_slices_Delete_LLint_Lint H0 w0 Ha L r) := by
 refine (St.deleteF (l := .row 84 1 v0 n0 k0 :: L) (i := 0) S0 rfl p0 ⟨_, rfl⟩ hp (fun blk off cap i j d w hH hc hm hij hj => AnyE.slices_Delete Tryz.del200 (fun x : OC => x.1) (fun x => x.2) ⟨_, rfl⟩ (fun w => Tryz.zeroValue84 w) Tryz.t84 Tryz.type84 rfl blk off cap i j d w hH hc hm hij hj)).mono ?_
 rintro e w' ⟨v', n', c', rfl, h1, h2⟩
 exact ⟨_, _, _, _, rfl, ⟨h1, Inc.rfl _⟩, h2⟩

@[reducible] def p_impl_without_int (Ha : GH) (wa : World) (r : (List (List Int))) : Ending → World → Prop :=
 fun e w' => ∃ H' : GH, ∃ v0 : Value, ∃ n0 : Nat, ∃ c0 : List Value, e = .returned (v0) ∧ St Ha wa H' w' [.row 84 1 v0 n0 c0] ∧ Els H' (eL eI 1) 1 c0 r
theorem w_impl_without_int {Ha : GH} {wa : World} (hs : Sl Ha wa) (v0 : Value) (a0 : List (List Int)) (p0 : RSl Ha (eL eI 1) 1 v0 a0) (a1 : Int) {r : (List (List Int))} (hp : (PF.impl_without_int a0 a1) = some r) :
  Calls Tryz.prog 152 #[v0, Value.int .i64 a1] wa (p_impl_without_int Ha wa r) := by
 unfold PF.impl_without_int at hp
 have S0 := St.init hs
 refine calls_go (N := 11) (args := [v0, Value.int .i64 a1]) Tryz.func152 rfl rfl rfl ?_
 refine FW.seq (FW.region ?_)
 refine FL.v (E.assign (v := Value.slice none 0 0) rfl) ?_
 refine FL.nil (FW.seq (FW.region ?_))
 refine FL.v (E.move (v := v0) rfl) ?_
 obtain ⟨r21, hr22, hp⟩ := bnd hp
 refine FL.call rfl rfl rfl (E.call Tryz.call201 (A1 rfl)) (w_slices_Clone_LLint_Lint S0.sl v0 a0 p0 hr22) ?_
 rintro e w24 ⟨H23, v27, n28, cs29, rfl, r26, els30⟩
 refine ⟨_, rfl, ?_⟩
 have S25 := S0.join (l' := [.row 84 1 v27 n28 cs29]) r26 rfl
 refine FL.v (E.move (v := Value.int .i64 a1) rfl) ?_
 refine FL.v (E.move (v := Value.int .i64 a1) rfl) ?_
 refine FL.v (E.add rfl rfl) ?_
 obtain ⟨r31, hr32, hp⟩ := bnd hp
 refine FL.call rfl rfl rfl (E.call Tryz.call200 (A3 rfl rfl rfl)) (w_slices_Delete_LLint_Lint (L := []) S25 r21 els30 a1 (wr (a1 + 1)) hr32) ?_
 rintro e w34 ⟨H33, v37, n38, cs39, rfl, ⟨S35, i36⟩, els40⟩
 refine ⟨_, rfl, ?_⟩
 have S35 : St Ha wa H33 w34 [.row 84 1 v37 n38 cs39] := S35
 refine FL.v (E.assign (v := v37) rfl) ?_
 refine FL.nil ?_
 refine FW.ret ?_
 obtain rfl := Option.some.inj hp
 exact ⟨.inr rfl, res1 rfl rfl ⟨_, _, _, _, rfl, S35, els40⟩⟩

theorem w_impl_isVar {Ha : GH} {wa : World} (hs : Sl Ha wa) (a0 : Int) (a1 : Int) :
  Calls Tryz.prog 202 #[Value.int .i64 a0, Value.int .i64 a1] wa (Sc Ha wa (Value.bool (PF.impl_isVar a0 a1))) := by
 obtain ⟨r, hp⟩ : ∃ r, (PF.impl_isVar a0 a1) = r := ⟨_, rfl⟩
 rw [hp]
 unfold PF.impl_isVar at hp
 have S0 := St.init hs
 refine calls_go (N := 8) (args := [Value.int .i64 a0, Value.int .i64 a1]) Tryz.func202 rfl rfl rfl ?_
 refine FW.seq (FW.region ?_)
 refine FL.v (E.assign (v := Value.bool false) rfl) ?_
 refine FL.nil (FW.seq (FW.region ?_))
 refine FL.v (E.move (v := Value.int .i64 a1) rfl) ?_
 refine FL.v (E.move (v := Value.int .i64 a0) rfl) ?_
 refine FL.call rfl rfl rfl (E.call Tryz.call108 (A3 rfl rfl rfl)) (w_impl_within S0.sl a1 1 a0) ?_
 rintro e w21 ⟨rfl, r22⟩
 refine ⟨_, rfl, ?_⟩
 have S23 := S0.call r22
 refine FL.v (E.assign (v := Value.bool (PF.impl_within a1 1 a0)) rfl) ?_
 refine FL.nil ?_
 refine FW.ret ?_
 obtain rfl := hp
 exact ⟨.inr rfl, res1 rfl rfl ⟨rfl, S23.back⟩⟩

theorem w_slices_Index_int_int {Ha : GH} {wa : World} (hs : Sl Ha wa) (v0 : Value) (a0 : List Int) (p0 : RSl Ha eI 1 v0 a0) (a1 : Int) {r : Int} (hp : (PF.slices_Index_int_int a0 a1) = some r) :
  Calls Tryz.prog 180 #[v0, Value.int .i64 a1] wa (Sc Ha wa (Value.int .i64 r)) := by
 unfold PF.slices_Index_int_int at hp
 have S0 := St.init hs
 refine calls_go (N := 19) (args := [v0, Value.int .i64 a1]) Tryz.func180 rfl rfl rfl ?_
 refine FW.seq (FW.region ?_)
 refine FL.v (E.assign (v := Value.int .i64 0) rfl) ?_
 refine FL.nil (FW.seq (FW.seq (FW.region ?_)))
 refine FL.v (E.move (v := v0) rfl) ?_
 refine FL.v (E.lenP te84 rfl p0) ?_
 refine FL.v (E.move (v := Value.int .i64 0) rfl) ?_
 refine FL.nil ?_
 obtain ⟨q22, hq, hp⟩ := bndR hp
 refine FW.block ?_
 refine FW.mono (FW.forL (S := Unit) (X := Int) (fun (i22 : Nat) (s22 : Unit) f w => ∃ H : GH, St Ha wa H w [] ∧ Inc Ha H ∧ f 8 = Value.int .i64 ((i22 : Nat) : Int) ∧ f 0 = v0 ∧ f 1 = Value.int .i64 a1 ∧ f 7 = Value.int .i64 (len a0)) (fun q e f w => match q with | .go s22 => e = Exit.exit 0 ∧ (∃ H : GH, St Ha wa H w [] ∧ Inc Ha H) | .rt x => ((e = Exit.ret) ∧ (fun e f w => (e = Exit.normal ∨ e = Exit.ret) ∧ ∀ a, Fr (δ := []) 19 a f → ∃ v, (results Tryz.f180 a.tmps).run Tryz.prog w = .ok v w ∧ (Sc Ha wa (Value.int .i64 x)) (.returned v) w) e f w)) hq ⟨_, S0, (Inc.rfl _), rfl, rfl, rfl, rfl⟩ ?_ ?_) ?_
 ·
  clear hp hq
  rintro i22 y21 s22 f43 w42 ⟨H39, S40, i41, k44, k45, k46, k47⟩ hx22 o55 hp
  refine FW.seq (FW.region ?_)
  refine FL.v (E.lssT k44 k47 (lss_len hx22)) ?_
  refine FL.nil (FW.seq ?_)
  refine FW.condT rfl rfl ?_
  refine FW.skip (FW.seq (FW.block (FW.seq (FW.region ?_))))
  refine FL.v (E.move k44) ?_
  refine FL.v (E.assign (v := Value.int .i64 ((i22 : Nat) : Int)) rfl) ?_
  refine FL.nil (FW.seq (FW.region ?_))
  refine FL.v (E.move k46) ?_
  refine FL.v (E.move k45) ?_
  refine FL.v (E.move (v := Value.int .i64 ((i22 : Nat) : Int)) rfl) ?_
  obtain ⟨p48, cs49, pt50, l51, at52, rel53⟩ := p0.at (ix_nat hx22)
  obtain rfl := eI_open rel53
  refine FL.v (E.indexAddr te84 rfl rfl pt50) ?_
  refine FL.v (E.load rfl (run_load0 Tryz.isAgg3 ((at52.mono i41).now S40.sl) rfl)) ?_
  refine FL.v (E.eql rfl rfl) ?_
  refine FL.nil ?_
  rcases ifB hp with ⟨c54, hp⟩ | ⟨c54, hp⟩
  ·
   refine FW.condT rfl c54 ?_
   refine FW.seq (FW.region ?_)
   refine FL.v (E.move (v := Value.int .i64 ((i22 : Nat) : Int)) rfl) ?_
   refine FL.v (E.assign (v := Value.int .i64 ((i22 : Nat) : Int)) rfl) ?_
   refine FL.nil ?_
   refine FW.ret ?_
   obtain rfl := Option.some.inj hp
   exact ⟨nofun, rfl, ⟨.inr rfl, res1 rfl rfl ⟨rfl, S40.back⟩⟩⟩
  ·
   refine FW.condF rfl c54 ?_
   refine FW.skip (FW.region ?_)
   refine FL.v (E.add k44 rfl) ?_
   refine FL.v (E.move (v := Value.int .i64 (wr (((i22 : Nat) : Int) + 1))) rfl) ?_
   refine FL.nil ?_
   obtain rfl := Option.some.inj hp
   exact ⟨rfl, ⟨_, S40, i41, (nat_succ rfl (lt_of_get hx22) (p0.mono i41).le), k45, k46, k47⟩⟩
 ·
  clear hp hq
  rintro s22 f65 w64 ⟨H61, S62, i63, k66, k67, k68, k69⟩
  refine FW.seq (FW.region ?_)
  refine FL.v (E.lss k66 k69) ?_
  refine FL.nil (FW.seq ?_)
  refine FW.condF rfl dlt_len ?_
  refine FW.exit ?_
  exact ⟨nofun, rfl, ⟨_, S62, i63⟩⟩
 ·
  clear hq
  intro e f60 w59 hD
  rcases q22 with s22 | x22
  ·
   obtain ⟨rfl, hD⟩ := hD
   obtain ⟨H56, S57, i58⟩ := hD
   replace hp := el_go hp
   refine FW.seq (FW.region ?_)
   refine FL.v (E.assign (v := Value.int .i64 (-1)) rfl) ?_
   refine FL.nil ?_
   refine FW.ret ?_
   obtain rfl := Option.some.inj hp
   exact ⟨.inr rfl, res1 rfl rfl ⟨rfl, S57.back⟩⟩
  ·
   obtain ⟨he, hL⟩ := hD
   replace hp := el_rt hp
   obtain rfl := Option.some.inj hp
   subst he
   exact hL

theorem w_slices_Contains_int_int {Ha : GH} {wa : World} (hs : Sl Ha wa) (v0 : Value) (a0 : List Int) (p0 : RSl Ha eI 1 v0 a0) (a1 : Int) {r : Bool} (hp : (PF.slices_Contains_int_int a0 a1) = some r) :
  Calls Tryz.prog 129 #[v0, Value.int .i64 a1] wa (Sc Ha wa (Value.bool r)) := by
 unfold PF.slices_Contains_int_int at hp
 have S0 := St.init hs
 refine calls_go (N := 9) (args := [v0, Value.int .i64 a1]) Tryz.func129 rfl rfl rfl ?_
 refine FW.seq (FW.region ?_)
 refine FL.v (E.assign (v := Value.bool false) rfl) ?_
 refine FL.nil (FW.seq (FW.region ?_))
 refine FL.v (E.move (v := v0) rfl) ?_
 refine FL.v (E.move (v := Value.int .i64 a1) rfl) ?_
 obtain ⟨r21, hr22, hp⟩ := bnd hp
 refine FL.call rfl rfl rfl (E.call Tryz.call180 (A2 rfl rfl)) (w_slices_Index_int_int S0.sl v0 a0 p0 a1 hr22) ?_
 rintro e w23 ⟨rfl, r24⟩
 refine ⟨_, rfl, ?_⟩
 have S25 := S0.call r24
 refine FL.v (E.geq rfl rfl) ?_
 refine FL.v (E.assign (v := Value.bool (decide (0 ≤ r21))) rfl) ?_
 refine FL.nil ?_
 refine FW.ret ?_
 obtain rfl := Option.some.inj hp
 exact ⟨.inr rfl, res1 rfl rfl ⟨rfl, S25.back⟩⟩

@[reducible] def p_slices_Clone_int_int (Ha : GH) (wa : World) (r : (List Int)) : Ending → World → Prop :=
 fun e w' => ∃ H' : GH, ∃ v0 : Value, ∃ n0 : Nat, ∃ c0 : List Value, e = .returned (v0) ∧ St Ha wa H' w' [.row 3 1 v0 n0 c0] ∧ Els (up wa.heap.size H') eI 1 c0 r
theorem w_slices_Clone_int_int {Ha : GH} {wa : World} (hs : Sl Ha wa) (v0 : Value) (a0 : List Int) (p0 : RSl Ha eI 1 v0 a0) {r : (List Int)} (hp : (PF.slices_Clone_int_int a0) = some r) :
  Calls Tryz.prog 62 #[v0] wa (p_slices_Clone_int_int Ha wa r) := by
 unfold PF.slices_Clone_int_int at hp
 have S0 := St.init hs
 refine calls_go (N := 8) (args := [v0]) Tryz.func62 rfl rfl rfl ?_
 refine FW.seq (FW.region ?_)
 refine FL.v (E.assign (v := Value.slice none 0 0) rfl) ?_
 refine FL.nil (FW.seq (FW.seq (FW.region ?_)))
 refine FL.v (E.move (v := v0) rfl) ?_
 obtain ⟨nb21, run22, hn23⟩ := RSl.nilTest te84 p0
 refine FL.v (run22 _ _ _ _ _ _ _ _ _ _ _ _ rfl rfl) ?_
 refine FL.nil ?_
 rcases bcase nb21 with c24 | c24
 ·
  refine FW.condT (b := nb21) rfl c24 ?_
  rw [hn23 c24, app_nil2] at hp
  refine FW.seq (FW.region ?_)
  refine FL.v (E.assign (v := Value.slice none 0 0) rfl) ?_
  refine FL.nil ?_
  refine FW.ret ?_
  obtain rfl := Option.some.inj hp
  exact ⟨.inr rfl, res1 rfl rfl ⟨_, _, _, _, rfl, (S0.nil 3 1), Els.nil⟩⟩
 ·
  refine FW.condF (b := nb21) rfl c24 ?_
  refine FW.skip (FW.seq (FW.region ?_))
  obtain ⟨v25, w26, run27, S28⟩ := S0.buildSlice (P := Tryz.prog) te84 [] (parts := #[]) (cells := []) rfl szs_nil fc_nil ones_nil (Nat.le_of_ble_eq_true rfl)
  have els29 : Els (up wa.heap.size Ha) eI 1 [] [] := Els.nil
  refine FL.v (E.buildSlice (B0) run27) ?_
  refine FL.v (E.move (v := v0) rfl) ?_
  obtain ⟨xs30, hz31, hp⟩ := bnd hp
  obtain ⟨v32, w35, n33, cs34, run36, S37, els38⟩ := S28.appendP (P := Tryz.prog) (Inc.rfl _) te84 (i := 0) rfl (els29.mono upI) p0 hz31
  have S37 : St Ha wa Ha w35 [.row 3 1 v32 n33 cs34] := S37
  have els38 : Els (up wa.heap.size Ha) eI 1 cs34 xs30 := els38.any (fun _ _ _ _ h => h)
  refine FL.v (E.append rfl rfl run36) ?_
  refine FL.v (E.assign (v := v32) rfl) ?_
  refine FL.nil ?_
  refine FW.ret ?_
  obtain rfl := Option.some.inj hp
  exact ⟨.inr rfl, res1 rfl rfl ⟨_, _, _, _, rfl, S37, els38⟩⟩

theorem w_slices_IndexFunc_int_int {Ha : GH} {wa : World} (hs : Sl Ha wa) (v0 : Value) (a0 : List Int) (p0 : RSl Ha eI 1 v0 a0) (v1 : Value) (a1 : Int → Option Bool) (p1 : Fn_I_to_B Tryz.prog Ha v1 a1) {r : Int} (hp : (PF.slices_IndexFunc_int_int a0 a1) = some r) :
  Calls Tryz.prog 216 #[v0, v1] wa (Sc Ha wa (Value.int .i64 r)) := by
 unfold PF.slices_IndexFunc_int_int at hp
 have S0 := St.init hs
 refine calls_go (N := 19) (args := [v0, v1]) Tryz.func216 rfl rfl rfl ?_
 refine FW.seq (FW.region ?_)
 refine FL.v (E.assign (v := Value.int .i64 0) rfl) ?_
 refine FL.nil (FW.seq (FW.seq (FW.region ?_)))
 refine FL.v (E.move (v := v0) rfl) ?_
 refine FL.v (E.lenP te84 rfl p0) ?_
 refine FL.v (E.move (v := Value.int .i64 0) rfl) ?_
 refine FL.nil ?_
 obtain ⟨q22, hq, hp⟩ := bndR hp
 refine FW.block ?_
 refine FW.mono (FW.forL (S := Unit) (X := Int) (fun (i22 : Nat) (s22 : Unit) f w => ∃ H : GH, St Ha wa H w [] ∧ Inc Ha H ∧ f 8 = Value.int .i64 ((i22 : Nat) : Int) ∧ f 0 = v0 ∧ f 1 = v1 ∧ f 7 = Value.int .i64 (len a0)) (fun q e f w => match q with | .go s22 => e = Exit.exit 0 ∧ (∃ H : GH, St Ha wa H w [] ∧ Inc Ha H) | .rt x => ((e = Exit.ret) ∧ (fun e f w => (e = Exit.normal ∨ e = Exit.ret) ∧ ∀ a, Fr (δ := []) 19 a f → ∃ v, (results Tryz.f216 a.tmps).run Tryz.prog w = .ok v w ∧ (Sc Ha wa (Value.int .i64 x)) (.returned v) w) e f w)) hq ⟨_, S0, (Inc.rfl _), rfl, rfl, rfl, rfl⟩ ?_ ?_) ?_
 ·
  clear hp hq
  rintro i22 y21 s22 f53 w52 ⟨H49, S50, i51, k54, k55, k56, k57⟩ hx22 o75 hp
  refine FW.seq (FW.region ?_)
  refine FL.v (E.lssT k54 k57 (lss_len hx22)) ?_
  refine FL.nil (FW.seq ?_)
  refine FW.condT rfl rfl ?_
  refine FW.skip (FW.seq (FW.block (FW.seq (FW.region ?_))))
  refine FL.v (E.move k54) ?_
  refine FL.v (E.assign (v := Value.int .i64 ((i22 : Nat) : Int)) rfl) ?_
  refine FL.nil (FW.seq (FW.region ?_))
  refine FL.v (E.move k56) ?_
  refine FL.v (E.move k55) ?_
  refine FL.v (E.move (v := Value.int .i64 ((i22 : Nat) : Int)) rfl) ?_
  obtain ⟨p58, cs59, pt60, l61, at62, rel63⟩ := p0.at (ix_nat hx22)
  obtain rfl := eI_open rel63
  refine FL.v (E.indexAddr te84 rfl rfl pt60) ?_
  refine FL.v (E.load rfl (run_load0 Tryz.isAgg3 ((at62.mono i51).now S50.sl) rfl)) ?_
  obtain ⟨r64, hr65, hp⟩ := bnd hp
  obtain ⟨fi69, cs70, hv71, he72, hc73⟩ := (p1.mono i51) H49 w52 (Inc.rfl _) S50.sl y21 r64 hr65
  refine FL.call rfl rfl rfl (E.callV he72 (Eq.trans rfl hv71) (appA (A1 rfl) cs70)) hc73 ?_
  rintro e w66 ⟨rfl, r67⟩
  refine ⟨_, rfl, ?_⟩
  have S68 := S50.call r67
  refine FL.nil ?_
  rcases ifB hp with ⟨c74, hp⟩ | ⟨c74, hp⟩
  ·
   refine FW.condT rfl c74 ?_
   refine FW.seq (FW.region ?_)
   refine FL.v (E.move (v := Value.int .i64 ((i22 : Nat) : Int)) rfl) ?_
   refine FL.v (E.assign (v := Value.int .i64 ((i22 : Nat) : Int)) rfl) ?_
   refine FL.nil ?_
   refine FW.ret ?_
   obtain rfl := Option.some.inj hp
   exact ⟨nofun, rfl, ⟨.inr rfl, res1 rfl rfl ⟨rfl, S68.back⟩⟩⟩
  ·
   refine FW.condF rfl c74 ?_
   refine FW.skip (FW.region ?_)
   refine FL.v (E.add k54 rfl) ?_
   refine FL.v (E.move (v := Value.int .i64 (wr (((i22 : Nat) : Int) + 1))) rfl) ?_
   refine FL.nil ?_
   obtain rfl := Option.some.inj hp
   exact ⟨rfl, ⟨_, S68, i51, (nat_succ rfl (lt_of_get hx22) (p0.mono i51).le), k55, k56, k57⟩⟩
 ·
  clear hp hq
  rintro s22 f85 w84 ⟨H81, S82, i83, k86, k87, k88, k89⟩
  refine FW.seq (FW.region ?_)
  refine FL.v (E.lss k86 k89) ?_
  refine FL.nil (FW.seq ?_)
  refine FW.condF rfl dlt_len ?_
  refine FW.exit ?_
  exact ⟨nofun, rfl, ⟨_, S82, i83⟩⟩
 ·
  clear hq
  intro e f80 w79 hD
  rcases q22 with s22 | x22
  ·
   obtain ⟨rfl, hD⟩ := hD
   obtain ⟨H76, S77, i78⟩ := hD
   replace hp := el_go hp
   refine FW.seq (FW.region ?_)
   refine FL.v (E.assign (v := Value.int .i64 (-1)) rfl) ?_
   refine FL.nil ?_
   refine FW.ret ?_
   obtain rfl := Option.some.inj hp
   exact ⟨.inr rfl, res1 rfl rfl ⟨rfl, S77.back⟩⟩
  ·
   obtain ⟨he, hL⟩ := hD
   replace hp := el_rt hp
   obtain rfl := Option.some.inj hp
   subst he
   exact hL

@[reducible] def p_slices_DeleteFunc_int_int (H0 : GH) (w0 : World) (Ha : GH) (L : List MO) (r : (List Int)) : Ending → World → Prop :=
  fun e w' => ∃ H' : GH, ∃ v0r : Value, ∃ n0r : Nat, ∃ c0r : List Value, e = .returned (v0r) ∧ (St H0 w0 H' w' (.row 3 1 v0r n0r c0r :: L) ∧ Inc Ha H') ∧ Els (up w0.heap.size H') eI 1 c0r r
theorem w_slices_DeleteFunc_int_int {H0 Ha : GH} {w0 wa : World} {L : List MO} {v0 : Value} {n0 : Nat} {k0 : List Value} (S0 : St H0 w0 Ha wa (.row 3 1 v0 n0 k0 :: L)) (a0 : List Int) (p0 : Els (up w0.heap.size Ha) eI 1 k0 a0) (v1 : Value) (a1 : Int → Option Bool) (p1 : Fn_I_to_B Tryz.prog Ha v1 a1) {r : (List Int)} (hp : (PF.slices_DeleteFunc_int_int a0 a1) = some r) :
    Calls Tryz.prog 222 #[v0, v1] wa (p_slices_DeleteFunc_int_int H0 w0 Ha L r) := by
  unfold PF.slices_DeleteFunc_int_int at hp
  refine calls_go (N := 42) (args := [v0, v1]) Tryz.func222 rfl rfl rfl ?_
  refine FW.seq (FW.region ?_)
  refine FL.v (E.assign (v := Value.slice none 0 0) rfl) ?_
  refine FL.nil (FW.seq (FW.region ?_))
  refine FL.v (E.move (v := v0) rfl) ?_
  refine FL.v (E.move (v := v1) rfl) ?_
  obtain ⟨H21, S22, i23, h24, nv25⟩ := S0.sealRowU (i := 0) (l' := L) rfl p0 (by decide) rfl
  obtain ⟨r26, hr27, hp⟩ := bnd hp
  refine FL.call rfl rfl rfl (E.call Tryz.call216 (A2 rfl rfl)) (w_slices_IndexFunc_int_int S22.sl v0 a0 (h24.mono upI) v1 a1 (p1.mono i23) hr27) ?_
  rintro e w28 ⟨rfl, r29⟩
  refine ⟨_, rfl, ?_⟩
  have r29 := Run.lend i23 S0.sl r29
  have S30 := S0.call r29
  refine FL.v (E.assign (v := Value.int .i64 r26) rfl) ?_
  refine FL.nil (FW.seq (FW.seq (FW.region ?_)))
  refine FL.v (E.move (v := Value.int .i64 r26) rfl) ?_
  refine FL.v (E.eql rfl rfl) ?_
  refine FL.nil ?_
  rcases ifB hp with ⟨c31, hp⟩ | ⟨c31, hp⟩
  ·
    refine FW.condT rfl c31 ?_
    refine FW.seq (FW.region ?_)
    refine FL.v (E.move (v := v0) rfl) ?_
    refine FL.v (E.assign (v := v0) rfl) ?_
    refine FL.nil ?_
    refine FW.ret ?_
    obtain rfl := Option.some.inj hp
    exact ⟨.inr rfl, res1 rfl rfl ⟨_, _, _, _, rfl, ⟨S30, (Inc.rfl _)⟩, p0⟩⟩
  ·
    refine FW.condF rfl c31 ?_
    refine FW.skip (FW.seq (FW.seq (FW.region ?_)))
    refine FL.v (E.move (v := Value.int .i64 r26) rfl) ?_
    refine FL.v (E.add rfl rfl) ?_
    refine FL.v (E.assign (v := Value.int .i64 (wr (r26 + 1))) rfl) ?_
    refine FL.nil ?_
    obtain ⟨q32, hq, hp⟩ := bndR hp
    refine FW.block ?_
    refine FW.mono (FW.iter (S := ((List Int) × Int × Int)) (X := Empty) (fun (s32 : ((List Int) × Int × Int)) f w => ∃ H : GH, ∃ cs78 : List Value, St H0 w0 H w (.row 3 1 v0 n0 cs78 :: L) ∧ Inc Ha H ∧ Els (up w0.heap.size H) eI 1 cs78 s32.1 ∧ f 0 = v0 ∧ f 1 = v1 ∧ f 5 = Value.int .i64 s32.2.1 ∧ f 6 = Value.int .i64 s32.2.2) (fun (q : Rs ((List Int) × Int × Int) Empty) e f w => match q with | .go s32 => e = Exit.exit 0 ∧ (∃ H : GH, ∃ cs78 : List Value, St H0 w0 H w (.row 3 1 v0 n0 cs78 :: L) ∧ Inc Ha H ∧ Els (up w0.heap.size H) eI 1 cs78 s32.1 ∧ f 0 = v0 ∧ f 5 = Value.int .i64 s32.2.1) | .rt x => x.elim) hq ⟨_, _, S30, (Inc.rfl _), p0, rfl, rfl, rfl, rfl⟩ ?_) ?_
    ·
      clear hp hq
      rintro s32 f129 w128 ⟨H125, cs78, S126, i127, els79, k130, k131, k132, k133⟩ o170 hp
      refine FW.seq (FW.seq (FW.region ?_))
      refine FL.v (E.move k133) ?_
      refine FL.v (E.move k130) ?_
      refine FL.v (E.lenO te84 rfl S126 (i := 0) rfl els79 (by decide)) ?_
      refine FL.v (E.lss rfl rfl) ?_
      refine FL.nil ?_
      rcases ifB hp with ⟨c134, hp⟩ | ⟨c134, hp⟩
      ·
        refine FW.condT rfl c134 ?_
        refine FW.skip (FW.seq (FW.block (FW.seq (FW.region ?_))))
        refine FL.v (E.move k130) ?_
        refine FL.v (E.move k133) ?_
        obtain ⟨x141, hx142, hp⟩ := bnd hp
        obtain ⟨p135, cs136, pt137, l138, at139, rel140⟩ := S126.row_at (i := 0) rfl els79 (by decide) hx142
        obtain rfl := eI_open rel140
        refine FL.v (E.indexAddr te84 rfl rfl pt137) ?_
        refine FL.v (E.load rfl (run_load0 Tryz.isAgg3 at139 rfl)) ?_
        refine FL.v (E.assign (v := Value.int .i64 x141) rfl) ?_
        refine FL.nil (FW.seq (FW.region ?_))
        refine FL.v (E.move k131) ?_
        refine FL.v (E.move (v := Value.int .i64 x141) rfl) ?_
        obtain ⟨r143, hr144, hp⟩ := bnd hp
        obtain ⟨fi148, cs149, hv150, he151, hc152⟩ := (p1.mono i127) H125 w128 (Inc.rfl _) S126.sl x141 r143 hr144
        refine FL.call rfl rfl rfl (E.callV he151 (Eq.trans rfl hv150) (appA (A1 rfl) cs149)) hc152 ?_
        rintro e w145 ⟨rfl, r146⟩
        refine ⟨_, rfl, ?_⟩
        have S147 := S126.call r146
        refine FL.v (E.not rfl) ?_
        refine FL.nil ?_
        rcases ifB hp with ⟨c153, hp⟩ | ⟨c153, hp⟩
        ·
          refine FW.condT rfl c153 ?_
          refine FW.seq (FW.region ?_)
          refine FL.v (E.move k130) ?_
          refine FL.v (E.move k132) ?_
          refine FL.v (E.move (v := Value.int .i64 x141) rfl) ?_
          obtain ⟨x160, hx161, hp⟩ := bnd hp
          obtain ⟨p154, cs155, pt156, l157, at158, rel159⟩ := S147.row_at (i := 0) rfl els79 (by decide) hx161
          obtain rfl := eI_open rel159
          refine FL.v (E.indexAddr te84 rfl rfl pt156) ?_
          obtain ⟨xs165, hput166, hp⟩ := bnd hp
          obtain ⟨w162, cs168, run163, S164, els167, ce169⟩ := S147.putEls (P := Tryz.prog) (t := 3) (i := 0) rfl els79 hput166 pt156 Tryz.sizeOf3 (u := Value.int .i64 x141) (c := [Value.int .i64 x141]) rfl rfl (ones_cons rfl ones_nil) rfl
          have S164 : St H0 w0 H125 w162 (.row 3 1 v0 n0 cs168 :: L) := S164
          refine FL.act rfl rfl (E.store rfl rfl run163) ?_
          refine FL.nil (FW.region ?_)
          refine FL.v (E.move k132) ?_
          refine FL.v (E.add rfl rfl) ?_
          refine FL.v (E.assign (v := Value.int .i64 (wr (s32.2.1 + 1))) rfl) ?_
          refine FL.nil (FW.region ?_)
          refine FL.v (E.move k133) ?_
          refine FL.v (E.add rfl rfl) ?_
          refine FL.v (E.assign (v := Value.int .i64 (wr (s32.2.2 + 1))) rfl) ?_
          refine FL.nil ?_
          obtain rfl := Option.some.inj hp
          exact ⟨rfl, ⟨_, _, S164, i127, els167, k130, k131, rfl, rfl⟩⟩
        ·
          refine FW.condF rfl c153 ?_
          refine FW.skip (FW.region ?_)
          refine FL.v (E.move k133) ?_
          refine FL.v (E.add rfl rfl) ?_
          refine FL.v (E.assign (v := Value.int .i64 (wr (s32.2.2 + 1))) rfl) ?_
          refine FL.nil ?_
          obtain rfl := Option.some.inj hp
          exact ⟨rfl, ⟨_, _, S147, i127, els79, k130, k131, k132, rfl⟩⟩
      ·
        refine FW.condF rfl c134 ?_
        refine FW.exit ?_
        obtain rfl := Option.some.inj hp
        exact ⟨nofun, rfl, ⟨_, _, S126, i127, els79, k130, k132⟩⟩
    ·
      clear hq
      intro e f175 w174 hD
      rcases q32 with s32 | x32
      ·
        obtain ⟨rfl, hD⟩ := hD
        obtain ⟨H171, cs78, S172, i173, els79, k176, k177⟩ := hD
        replace hp := el_go hp
        refine FW.seq (FW.region ?_)
        refine FL.v (E.move k176) ?_
        refine FL.v (E.move k177) ?_
        obtain ⟨xs178, hc179, hp⟩ := bnd hp
        obtain ⟨v180, run181, h182⟩ := S172.tail te84 (kk := .i64) (i := 0) rfl els79 hc179
        refine FL.v (E.slice te84 rfl (congrArg some rfl) rfl rfl (run181 _)) ?_
        obtain ⟨w183, cs184, run185, S186, els187⟩ := S172.clearTail (P := Tryz.prog) te84 (i := 0) rfl els79 h182 rfl (ones_cons rfl ones_nil)
        have S186 : St H0 w0 H171 w183 (.row 3 1 v0 n0 cs184 :: L) := S186
        refine FL.val0 rfl rfl (E.clear rfl run185) ?_
        refine FL.nil (FW.seq (FW.region ?_))
        refine FL.v (E.move k176) ?_
        refine FL.v (E.move k177) ?_
        obtain ⟨xs188, hc189, hp⟩ := bnd hp
        obtain ⟨v190, n191, cs192, run193, S194, els195, nd196⟩ := S186.cutRow te84 (kk := .i64) (i := 0) rfl els187 hc189
        have S194 : St H0 w0 H171 w183 (.row 3 1 v190 n191 cs192 :: L) := S194
        refine FL.v (E.slice te84 rfl rfl (congrArg some rfl) rfl (run193 _)) ?_
        refine FL.v (E.assign (v := v190) rfl) ?_
        refine FL.nil ?_
        refine FW.ret ?_
        obtain rfl := Option.some.inj hp
        exact ⟨.inr rfl, res1 rfl rfl ⟨_, _, _, _, rfl, ⟨S194, i173⟩, els195⟩⟩
      · exact x32.elim

theorem w_impl_withoutVar_1 {Ha : GH} {wa : World} (hs : Sl Ha wa) (a0 : Int) (q0 : Addr) (b0 : Int) (c0 : CAt Ha q0 [Value.int .i64 b0]) :
  Calls Tryz.prog 223 #[Value.int .i64 a0, Value.pointer (some q0)] wa (Sc Ha wa (Value.bool (PF.impl_withoutVar_1 a0 b0))) := by
 obtain ⟨r, hp⟩ : ∃ r, (PF.impl_withoutVar_1 a0 b0) = r := ⟨_, rfl⟩
 rw [hp]
 unfold PF.impl_withoutVar_1 at hp
 have S0 := St.init hs
 refine calls_go (N := 8) (args := [Value.int .i64 a0, Value.pointer (some q0)]) Tryz.func223 rfl rfl rfl ?_
 refine FW.seq (FW.region ?_)
 refine FL.v (E.assign (v := Value.bool false) rfl) ?_
 refine FL.nil (FW.seq ?_)
 refine FW.draw (fun w' => Run wa.heap.size Ha wa Ha w') (by kernel_rfl) (by kernel_rfl) (run_drew S0.sl) ?_
 refine FD.val rfl rfl rfl (fun w' hw' => (E.move (v := Value.int .i64 a0) rfl)) ?_
 refine FD.call rfl rfl rfl (fun w' hw' => (E.call Tryz.call166 (A1 rfl))) (fun w' hw' => Calls.cls hw' (w_impl_abs (S0.call hw').sl a0)) ?_
 refine FD.val rfl rfl rfl (fun w' hw' => (E.load rfl (run_load0 Tryz.isAgg3 (c0.now (S0.call hw').sl) rfl))) ?_
 refine FD.val rfl rfl rfl (fun w' hw' => (E.eql rfl rfl)) ?_
 refine FD.val rfl rfl rfl (fun w' hw' => (E.assign (v := Value.bool ((PF.impl_abs a0) == b0)) rfl)) ?_
 refine FD.nil ?_
 intro w22 r24
 have S23 := S0.call r24
 refine FW.ret ?_
 obtain rfl := hp
 exact ⟨.inr rfl, res1 rfl rfl ⟨rfl, S23.back⟩⟩

end Go.Proofs
