/- Part of the walks and plain laws behind the claim: it proves helpers, under no condition beyond their own. -/
import Derived.Test.YtmpfnnkmplkfoaaGreatMr16
import Derived.Test.YtmpfnnkmplkfoaaGreatMr14
import Derived.Test.YtmpfnnkmplkfoaaGreatMr19
import Derived.Test.YtmpfnnkmplkfoaaGreatMr20
import Derived.Test.YtmpfnnkmplkfoaaGreatMr21
import Derived.Test.YtmpfnnkmplkfoaaGreatMr22
import Derived.Test.YtmpfnnkmplkfoaaGreatMr23
import Derived.Test.YtmpfnnkmplkfoaaGreatMr24
import Derived.Test.YtmpfnnkmplkfoaaGreatMr25
import Derived.Test.YtmpfnnkmplkfoaaGreatMr26
import Derived.Test.YtmpfnnkmplkfoaaGreatMr27
import Derived.Test.YtmpfnnkmplkfoaaGreatMr32
import Derived.Test.YtmpfnnkmplkfoaaGreatMr33
import Derived.Test.YtmpfnnkmplkfoaaGreatBcSh
import Derived.Test.YtmpfnnkmplkfoaaGreatBcPf
import Derived.Test.YtmpfnnkmplkfoaaGreatProg
set_option linter.unusedVariables false
set_option maxRecDepth 100000
namespace Go.Proofs
open Go.Mr Go.Pu Go.PF Go.RowKit

def eCnf : Enc Cnf := ⟨fun H cs s => ∃ v0, cs = [Value.int .i64 s.vars, v0] ∧ RSl H (eL eI 1) 1 v0 s.clauses, fun hi ⟨v0, h, h0⟩ => ⟨_, h, h0.mono hi⟩, by rintro H cs s ⟨v0, rfl, h0⟩; exact (ones_cons rfl (ones_cons h0.one ones_nil)), by rintro H cs s ⟨v0, rfl, h0⟩ b hb; obtain ⟨u, hu, hn⟩ := mem_bl hb; simp only [List.mem_cons, List.not_mem_nil, or_false] at hu; rcases hu with rfl | rfl <;> first | (cases hn; done) | exact h0.dom b (mem_bl1 hn)⟩
theorem eCnf_open {H : GH} {cs : List Value} {s : Cnf} (h : eCnf.rel H cs s) : ∃ v0, cs = [Value.int .i64 s.vars, v0] ∧ RSl H (eL eI 1) 1 v0 s.clauses := h

def eResStep : Enc ResStep := ⟨fun H cs s => ∃ v0, cs = [v0, Value.int .i64 s.left, Value.int .i64 s.right, Value.int .i64 s.pivot] ∧ RSl H eI 1 v0 s.clause, fun hi ⟨v0, h, h0⟩ => ⟨_, h, h0.mono hi⟩, by rintro H cs s ⟨v0, rfl, h0⟩; exact (ones_cons h0.one (ones_cons rfl (ones_cons rfl (ones_cons rfl ones_nil)))), by rintro H cs s ⟨v0, rfl, h0⟩ b hb; obtain ⟨u, hu, hn⟩ := mem_bl hb; simp only [List.mem_cons, List.not_mem_nil, or_false] at hu; rcases hu with rfl | rfl | rfl | rfl <;> first | (cases hn; done) | exact h0.dom b (mem_bl1 hn)⟩
theorem eResStep_open {H : GH} {cs : List Value} {s : ResStep} (h : eResStep.rel H cs s) : ∃ v0, cs = [v0, Value.int .i64 s.left, Value.int .i64 s.right, Value.int .i64 s.pivot] ∧ RSl H eI 1 v0 s.clause := h

theorem eResStep_loc : LocE eResStep := by rintro H H' cs x ⟨v0, rfl, h0⟩ hb; exact ⟨_, rfl, h0.only eI_flat.rel (fun b q => hb b (bl_get (i := 0) rfl b q))⟩

def eBench : Enc Bench := ⟨fun H cs s => ∃ v0 v1, cs = [Value.int .i64 s.stage, Value.int .i64 s.formula.vars, v0, v1, Value.int .i64 s.wide, Value.int .i64 s.count] ∧ RSl H (eL eI 1) 1 v0 s.formula.clauses ∧ RSl H eResStep 4 v1 s.steps, fun hi ⟨v0, v1, h, h0, h1⟩ => ⟨_, _, h, h0.mono hi, h1.mono hi⟩, by rintro H cs s ⟨v0, v1, rfl, h0, h1⟩; exact (ones_cons rfl (ones_cons rfl (ones_cons h0.one (ones_cons h1.one (ones_cons rfl (ones_cons rfl ones_nil)))))), by rintro H cs s ⟨v0, v1, rfl, h0, h1⟩ b hb; obtain ⟨u, hu, hn⟩ := mem_bl hb; simp only [List.mem_cons, List.not_mem_nil, or_false] at hu; rcases hu with rfl | rfl | rfl | rfl | rfl | rfl <;> first | (cases hn; done) | exact h0.dom b (mem_bl1 hn) | exact h1.dom b (mem_bl1 hn)⟩
theorem eBench_open {H : GH} {cs : List Value} {s : Bench} (h : eBench.rel H cs s) : ∃ v0 v1, cs = [Value.int .i64 s.stage, Value.int .i64 s.formula.vars, v0, v1, Value.int .i64 s.wide, Value.int .i64 s.count] ∧ RSl H (eL eI 1) 1 v0 s.formula.clauses ∧ RSl H eResStep 4 v1 s.steps := h

def el15Work : Enc l15Work := ⟨fun H cs s => ∃ v0 v1, cs = [v0, Value.int .i64 s.most, v1, Value.bool s.ok] ∧ RSl H (eL eI 1) 1 v0 s.now ∧ RSl H (eL eI 1) 1 v1 s.all, fun hi ⟨v0, v1, h, h0, h1⟩ => ⟨_, _, h, h0.mono hi, h1.mono hi⟩, by rintro H cs s ⟨v0, v1, rfl, h0, h1⟩; exact (ones_cons h0.one (ones_cons rfl (ones_cons h1.one (ones_cons rfl ones_nil)))), by rintro H cs s ⟨v0, v1, rfl, h0, h1⟩ b hb; obtain ⟨u, hu, hn⟩ := mem_bl hb; simp only [List.mem_cons, List.not_mem_nil, or_false] at hu; rcases hu with rfl | rfl | rfl | rfl <;> first | (cases hn; done) | exact h0.dom b (mem_bl1 hn) | exact h1.dom b (mem_bl1 hn)⟩
theorem el15Work_open {H : GH} {cs : List Value} {s : l15Work} (h : el15Work.rel H cs s) : ∃ v0 v1, cs = [v0, Value.int .i64 s.most, v1, Value.bool s.ok] ∧ RSl H (eL eI 1) 1 v0 s.now ∧ RSl H (eL eI 1) 1 v1 s.all := h

def eSpaceStep : Enc SpaceStep := ⟨fun H cs s => cs = [Value.int .i64 s.kind, Value.int .i64 s.a, Value.int .i64 s.b, Value.int .i64 s.pivot], fun _ h => h, by rintro H cs s rfl; exact (ones_cons rfl (ones_cons rfl (ones_cons rfl (ones_cons rfl ones_nil)))), by rintro H cs s rfl b hb; obtain ⟨u, hu, hn⟩ := mem_bl hb; simp only [List.mem_cons, List.not_mem_nil, or_false] at hu; rcases hu with rfl | rfl | rfl | rfl <;> cases hn⟩
theorem eSpaceStep_open {H : GH} {cs : List Value} {s : SpaceStep} (h : eSpaceStep.rel H cs s) : cs = [Value.int .i64 s.kind, Value.int .i64 s.a, Value.int .i64 s.b, Value.int .i64 s.pivot] := h

theorem eSpaceStep_flat : FlatE eSpaceStep := by rintro H H' cs x rfl; exact ⟨rfl, rfl⟩

def eTreeNode : Enc TreeNode := ⟨fun H cs s => cs = [Value.int .i64 s.var, Value.int .i64 s.low, Value.int .i64 s.high, Value.int .i64 s.clause], fun _ h => h, by rintro H cs s rfl; exact (ones_cons rfl (ones_cons rfl (ones_cons rfl (ones_cons rfl ones_nil)))), by rintro H cs s rfl b hb; obtain ⟨u, hu, hn⟩ := mem_bl hb; simp only [List.mem_cons, List.not_mem_nil, or_false] at hu; rcases hu with rfl | rfl | rfl | rfl <;> cases hn⟩
theorem eTreeNode_open {H : GH} {cs : List Value} {s : TreeNode} (h : eTreeNode.rel H cs s) : cs = [Value.int .i64 s.var, Value.int .i64 s.low, Value.int .i64 s.high, Value.int .i64 s.clause] := h

theorem eTreeNode_flat : FlatE eTreeNode := by rintro H H' cs x rfl; exact ⟨rfl, rfl⟩

def eweaver : Enc weaver := ⟨fun H cs s => ∃ v0 v1, cs = [v0, v1] ∧ RSl H eResStep 4 v0 s.steps ∧ RSl H eI 1 v1 s.became, fun hi ⟨v0, v1, h, h0, h1⟩ => ⟨_, _, h, h0.mono hi, h1.mono hi⟩, by rintro H cs s ⟨v0, v1, rfl, h0, h1⟩; exact (ones_cons h0.one (ones_cons h1.one ones_nil)), by rintro H cs s ⟨v0, v1, rfl, h0, h1⟩ b hb; obtain ⟨u, hu, hn⟩ := mem_bl hb; simp only [List.mem_cons, List.not_mem_nil, or_false] at hu; rcases hu with rfl | rfl <;> first | (cases hn; done) | exact h0.dom b (mem_bl1 hn) | exact h1.dom b (mem_bl1 hn)⟩
theorem eweaver_open {H : GH} {cs : List Value} {s : weaver} (h : eweaver.rel H cs s) : ∃ v0 v1, cs = [v0, v1] ∧ RSl H eResStep 4 v0 s.steps ∧ RSl H eI 1 v1 s.became := h

def ering : Enc ring := ⟨fun H cs s => cs = [Value.int .i64 s.p, Value.int .i64 s.vars], fun _ h => h, by rintro H cs s rfl; exact (ones_cons rfl (ones_cons rfl ones_nil)), by rintro H cs s rfl b hb; obtain ⟨u, hu, hn⟩ := mem_bl hb; simp only [List.mem_cons, List.not_mem_nil, or_false] at hu; rcases hu with rfl | rfl <;> cases hn⟩
theorem ering_open {H : GH} {cs : List Value} {s : ring} (h : ering.rel H cs s) : cs = [Value.int .i64 s.p, Value.int .i64 s.vars] := h

theorem ering_flat : FlatE ering := by rintro H H' cs x rfl; exact ⟨rfl, rfl⟩

def ealgebra : Enc algebra := ⟨fun H cs s => ∃ v0 v1, cs = [Value.int .i64 s.ring.p, Value.int .i64 s.ring.vars, Value.int .i64 s.f.vars, v0, v1] ∧ RSl H (eL eI 1) 1 v0 s.f.clauses ∧ RSl H (eL eI 1) 1 v1 s.q, fun hi ⟨v0, v1, h, h0, h1⟩ => ⟨_, _, h, h0.mono hi, h1.mono hi⟩, by rintro H cs s ⟨v0, v1, rfl, h0, h1⟩; exact (ones_cons rfl (ones_cons rfl (ones_cons rfl (ones_cons h0.one (ones_cons h1.one ones_nil))))), by rintro H cs s ⟨v0, v1, rfl, h0, h1⟩ b hb; obtain ⟨u, hu, hn⟩ := mem_bl hb; simp only [List.mem_cons, List.not_mem_nil, or_false] at hu; rcases hu with rfl | rfl | rfl | rfl | rfl <;> first | (cases hn; done) | exact h0.dom b (mem_bl1 hn) | exact h1.dom b (mem_bl1 hn)⟩
theorem ealgebra_open {H : GH} {cs : List Value} {s : algebra} (h : ealgebra.rel H cs s) : ∃ v0 v1, cs = [Value.int .i64 s.ring.p, Value.int .i64 s.ring.vars, Value.int .i64 s.f.vars, v0, v1] ∧ RSl H (eL eI 1) 1 v0 s.f.clauses ∧ RSl H (eL eI 1) 1 v1 s.q := h

def eTerm : Enc Term := ⟨fun H cs s => cs = [Value.int .i64 s.mono, Value.int .i64 s.coeff], fun _ h => h, by rintro H cs s rfl; exact (ones_cons rfl (ones_cons rfl ones_nil)), by rintro H cs s rfl b hb; obtain ⟨u, hu, hn⟩ := mem_bl hb; simp only [List.mem_cons, List.not_mem_nil, or_false] at hu; rcases hu with rfl | rfl <;> cases hn⟩
theorem eTerm_open {H : GH} {cs : List Value} {s : Term} (h : eTerm.rel H cs s) : cs = [Value.int .i64 s.mono, Value.int .i64 s.coeff] := h

theorem eTerm_flat : FlatE eTerm := by rintro H H' cs x rfl; exact ⟨rfl, rfl⟩

def eechelon : Enc echelon := ⟨fun H cs s => ∃ v0 v1, cs = [Value.int .i64 s.ring.p, Value.int .i64 s.ring.vars, v0, v1, Value.int .i64 s.many] ∧ RSl H (eL eI 1) 1 v0 s.rows ∧ RSl H (eL eI 1) 1 v1 s.made, fun hi ⟨v0, v1, h, h0, h1⟩ => ⟨_, _, h, h0.mono hi, h1.mono hi⟩, by rintro H cs s ⟨v0, v1, rfl, h0, h1⟩; exact (ones_cons rfl (ones_cons rfl (ones_cons h0.one (ones_cons h1.one (ones_cons rfl ones_nil))))), by rintro H cs s ⟨v0, v1, rfl, h0, h1⟩ b hb; obtain ⟨u, hu, hn⟩ := mem_bl hb; simp only [List.mem_cons, List.not_mem_nil, or_false] at hu; rcases hu with rfl | rfl | rfl | rfl | rfl <;> first | (cases hn; done) | exact h0.dom b (mem_bl1 hn) | exact h1.dom b (mem_bl1 hn)⟩
theorem eechelon_open {H : GH} {cs : List Value} {s : echelon} (h : eechelon.rel H cs s) : ∃ v0 v1, cs = [Value.int .i64 s.ring.p, Value.int .i64 s.ring.vars, v0, v1, Value.int .i64 s.many] ∧ RSl H (eL eI 1) 1 v0 s.rows ∧ RSl H (eL eI 1) 1 v1 s.made := h

def Fn_I_to_B (P : Program) (H : GH) (v : Value) (p : Int → Option Bool) : Prop :=
 ∀ (H' : GH) (w' : World), Inc H H' → Sl H' w' → ∀ (x0 : Int) (r : Bool), p x0 = some r →
  ∃ (fid : Nat) (cs : Array Value), v = Value.func (.func fid) #[] cs ∧ (∀ args w, (callFunc fid args).run P w = .ok (.enter fid args) w) ∧ Calls P fid (#[Value.int .i64 x0] ++ cs) w' (Sc H' w' (Value.bool r))
theorem Fn_I_to_B.mono {P : Program} {H H' : GH} {v : Value} {p : Int → Option Bool} (h : Fn_I_to_B P H v p) (hi : Inc H H') : Fn_I_to_B P H' v p :=
 fun H2 w2 h2 => h H2 w2 (hi.tr h2)

def Fn_I_I_to_I (P : Program) (H : GH) (v : Value) (p : Int → Int → Option Int) : Prop :=
 ∀ (H' : GH) (w' : World), Inc H H' → Sl H' w' → ∀ (x0 : Int) (x1 : Int) (r : Int), p x0 x1 = some r →
  ∃ (fid : Nat) (cs : Array Value), v = Value.func (.func fid) #[] cs ∧ (∀ args w, (callFunc fid args).run P w = .ok (.enter fid args) w) ∧ Calls P fid (#[Value.int .i64 x0, Value.int .i64 x1] ++ cs) w' (Sc H' w' (Value.int .i64 r))
theorem Fn_I_I_to_I.mono {P : Program} {H H' : GH} {v : Value} {p : Int → Int → Option Int} (h : Fn_I_I_to_I P H v p) (hi : Inc H H') : Fn_I_I_to_I P H' v p :=
 fun H2 w2 h2 => h H2 w2 (hi.tr h2)

def Fn_ResStep_to_B (P : Program) (H : GH) (v : Value) (p : ResStep → Option Bool) : Prop :=
 ∀ (H' : GH) (w' : World), Inc H H' → Sl H' w' → ∀ (x0 : ResStep) (y0_0 : Value) (_z0_0 : RSl H' eI 1 y0_0 x0.clause) (r : Bool), p x0 = some r →
  ∃ (fid : Nat) (cs : Array Value), v = Value.func (.func fid) #[] cs ∧ (∀ args w, (callFunc fid args).run P w = .ok (.enter fid args) w) ∧ Calls P fid (#[Value.agg #[y0_0, Value.int .i64 x0.left, Value.int .i64 x0.right, Value.int .i64 x0.pivot]] ++ cs) w' (Sc H' w' (Value.bool r))
theorem Fn_ResStep_to_B.mono {P : Program} {H H' : GH} {v : Value} {p : ResStep → Option Bool} (h : Fn_ResStep_to_B P H v p) (hi : Inc H H') : Fn_ResStep_to_B P H' v p :=
 fun H2 w2 h2 => h H2 w2 (hi.tr h2)

def Fn_List_Int_List_Int_to_I (P : Program) (H : GH) (v : Value) (p : (List Int) → (List Int) → Option Int) : Prop :=
 ∀ (H' : GH) (w' : World), Inc H H' → Sl H' w' → ∀ (x0 : List Int) (y0_0 : Value) (_z0_0 : RSl H' eI 1 y0_0 x0) (x1 : List Int) (y1_0 : Value) (_z1_0 : RSl H' eI 1 y1_0 x1) (r : Int), p x0 x1 = some r →
  ∃ (fid : Nat) (cs : Array Value), v = Value.func (.func fid) #[] cs ∧ (∀ args w, (callFunc fid args).run P w = .ok (.enter fid args) w) ∧ Calls P fid (#[y0_0, y1_0] ++ cs) w' (Sc H' w' (Value.int .i64 r))
theorem Fn_List_Int_List_Int_to_I.mono {P : Program} {H H' : GH} {v : Value} {p : (List Int) → (List Int) → Option Int} (h : Fn_List_Int_List_Int_to_I P H v p) (hi : Inc H H') : Fn_List_Int_List_Int_to_I P H' v p :=
 fun H2 w2 h2 => h H2 w2 (hi.tr h2)

def Fn_List_Int_List_Int_to_B (P : Program) (H : GH) (v : Value) (p : (List Int) → (List Int) → Option Bool) : Prop :=
 ∀ (H' : GH) (w' : World), Inc H H' → Sl H' w' → ∀ (x0 : List Int) (y0_0 : Value) (_z0_0 : RSl H' eI 1 y0_0 x0) (x1 : List Int) (y1_0 : Value) (_z1_0 : RSl H' eI 1 y1_0 x1) (r : Bool), p x0 x1 = some r →
  ∃ (fid : Nat) (cs : Array Value), v = Value.func (.func fid) #[] cs ∧ (∀ args w, (callFunc fid args).run P w = .ok (.enter fid args) w) ∧ Calls P fid (#[y0_0, y1_0] ++ cs) w' (Sc H' w' (Value.bool r))
theorem Fn_List_Int_List_Int_to_B.mono {P : Program} {H H' : GH} {v : Value} {p : (List Int) → (List Int) → Option Bool} (h : Fn_List_Int_List_Int_to_B P H v p) (hi : Inc H H') : Fn_List_Int_List_Int_to_B P H' v p :=
 fun H2 w2 h2 => h H2 w2 (hi.tr h2)

theorem fd94_0 {cs : List Value} {c : Value} (h : cs[0]? = some c) : ∃ fields fd, Tryz.prog.underlying 94 = some (.struct fields) ∧ fields[0]? = some fd ∧ (∀ w, (isAgg fd.type).run Tryz.prog w = .ok false w) ∧ cs[fd.offset]? = some c := ⟨_, _, Tryz.underlying94, rfl, Tryz.isAgg84, h⟩
theorem te22 : TE Tryz.prog 22 84 1 (.slice none 0 0) := ⟨Tryz.underlying22, ⟨Tryz.t84, Tryz.type84, rfl, rfl, by decide⟩, rfl, by decide⟩
theorem te41 : TE Tryz.prog 41 108 4 (.agg #[(.slice none 0 0), (.int .i64 0), (.int .i64 0), (.int .i64 0)]) := ⟨Tryz.underlying41, ⟨Tryz.t108, Tryz.type108, rfl, rfl, by decide⟩, rfl, by decide⟩
theorem te46 : TE Tryz.prog 46 94 4 (.agg #[(.slice none 0 0), (.int .i64 0), (.int .i64 0), (.int .i64 0)]) := ⟨Tryz.underlying46, ⟨Tryz.t94, Tryz.type94, rfl, rfl, by decide⟩, rfl, by decide⟩
theorem te84 : TE Tryz.prog 84 3 1 (.int .i64 0) := ⟨Tryz.underlying84, ⟨Tryz.t3, Tryz.type3, rfl, rfl, by decide⟩, rfl, by decide⟩
theorem tf108_0 : TF Tryz.prog 108 0 0 := ⟨_, _, _, Tryz.underlying108, rfl, rfl, Tryz.sizeOf84, by decide⟩
theorem tf108_1 : TF Tryz.prog 108 1 1 := ⟨_, _, _, Tryz.underlying108, rfl, rfl, Tryz.sizeOf3, by decide⟩
theorem tf108_2 : TF Tryz.prog 108 2 2 := ⟨_, _, _, Tryz.underlying108, rfl, rfl, Tryz.sizeOf3, by decide⟩
theorem tf108_3 : TF Tryz.prog 108 3 3 := ⟨_, _, _, Tryz.underlying108, rfl, rfl, Tryz.sizeOf3, by decide⟩
theorem tf24_0 : TF Tryz.prog 24 0 0 := ⟨_, _, _, Tryz.underlying24, rfl, rfl, Tryz.sizeOf3, by decide⟩
theorem tf24_1 : TF Tryz.prog 24 1 1 := ⟨_, _, _, Tryz.underlying24, rfl, rfl, Tryz.sizeOf22, by decide⟩
theorem tf30_0 : TF Tryz.prog 30 0 0 := ⟨_, _, _, Tryz.underlying30, rfl, rfl, Tryz.sizeOf3, by decide⟩
theorem tf30_1 : TF Tryz.prog 30 1 1 := ⟨_, _, _, Tryz.underlying30, rfl, rfl, Tryz.sizeOf22, by decide⟩
theorem tf43_0 : TF Tryz.prog 43 0 0 := ⟨_, _, _, Tryz.underlying43, rfl, rfl, Tryz.sizeOf3, by decide⟩
theorem tf43_1 : TF Tryz.prog 43 1 1 := ⟨_, _, _, Tryz.underlying43, rfl, rfl, Tryz.sizeOf24, by decide⟩
theorem tf43_2 : TF Tryz.prog 43 2 3 := ⟨_, _, _, Tryz.underlying43, rfl, rfl, Tryz.sizeOf41, by decide⟩
theorem tf43_3 : TF Tryz.prog 43 3 4 := ⟨_, _, _, Tryz.underlying43, rfl, rfl, Tryz.sizeOf3, by decide⟩
theorem tf43_4 : TF Tryz.prog 43 4 5 := ⟨_, _, _, Tryz.underlying43, rfl, rfl, Tryz.sizeOf3, by decide⟩
theorem tf48_0 : TF Tryz.prog 48 0 0 := ⟨_, _, _, Tryz.underlying48, rfl, rfl, Tryz.sizeOf3, by decide⟩
theorem tf48_1 : TF Tryz.prog 48 1 1 := ⟨_, _, _, Tryz.underlying48, rfl, rfl, Tryz.sizeOf30, by decide⟩
theorem tf48_2 : TF Tryz.prog 48 2 3 := ⟨_, _, _, Tryz.underlying48, rfl, rfl, Tryz.sizeOf46, by decide⟩
theorem tf48_3 : TF Tryz.prog 48 3 4 := ⟨_, _, _, Tryz.underlying48, rfl, rfl, Tryz.sizeOf3, by decide⟩
theorem tf48_4 : TF Tryz.prog 48 4 5 := ⟨_, _, _, Tryz.underlying48, rfl, rfl, Tryz.sizeOf3, by decide⟩
theorem tf94_0 : TF Tryz.prog 94 0 0 := ⟨_, _, _, Tryz.underlying94, rfl, rfl, Tryz.sizeOf84, by decide⟩
theorem tf94_1 : TF Tryz.prog 94 1 1 := ⟨_, _, _, Tryz.underlying94, rfl, rfl, Tryz.sizeOf3, by decide⟩
theorem tf94_2 : TF Tryz.prog 94 2 2 := ⟨_, _, _, Tryz.underlying94, rfl, rfl, Tryz.sizeOf3, by decide⟩
theorem tf94_3 : TF Tryz.prog 94 3 3 := ⟨_, _, _, Tryz.underlying94, rfl, rfl, Tryz.sizeOf3, by decide⟩
theorem w_laws_szIntS {Ha : GH} {wa : World} (hs : Sl Ha wa) (v0 : Value) (a0 : List Int) (p0 : RSl Ha eI 1 v0 a0) (a1 : Int) :
  Calls Tryz.prog 89 #[v0, Value.int .i64 a1] wa (Sc Ha wa (Value.int .i64 (PF.laws_szIntS a0 a1))) := by
 obtain ⟨r, hp⟩ : ∃ r, (PF.laws_szIntS a0 a1) = r := ⟨_, rfl⟩
 rw [hp]
 unfold PF.laws_szIntS at hp
 have S0 := St.init hs
 refine calls_go (N := 12) (args := [v0, Value.int .i64 a1]) Tryz.func89 rfl rfl rfl ?_
 refine FW.seq (FW.region ?_)
 refine FL.v (E.assign (v := Value.int .i64 0) rfl) ?_
 refine FL.nil (FW.seq (FW.region ?_))
 refine FL.v (E.move (v := Value.int .i64 a1) rfl) ?_
 refine FL.v (E.move (v := v0) rfl) ?_
 refine FL.v (E.lenP te84 rfl p0) ?_
 refine FL.v (E.sub rfl rfl) ?_
 refine FL.v (E.assign (v := Value.int .i64 (wr (a1 - (len a0)))) rfl) ?_
 refine FL.nil (FW.seq (FW.seq (FW.region ?_)))
 refine FL.v (E.move (v := Value.int .i64 (wr (a1 - (len a0)))) rfl) ?_
 refine FL.v (E.lss rfl rfl) ?_
 refine FL.nil ?_
 rcases ifT hp with ⟨c21, hp⟩ | ⟨c21, hp⟩
 ·
  refine FW.condT rfl c21 ?_
  refine FW.seq (FW.region ?_)
  refine FL.v (E.assign (v := Value.int .i64 (-1)) rfl) ?_
  refine FL.nil ?_
  refine FW.ret ?_
  obtain rfl := hp
  exact ⟨.inr rfl, res1 rfl rfl ⟨rfl, S0.back⟩⟩
 ·
  refine FW.condF rfl c21 ?_
  refine FW.skip (FW.seq (FW.region ?_))
  refine FL.v (E.move (v := Value.int .i64 (wr (a1 - (len a0)))) rfl) ?_
  refine FL.v (E.assign (v := Value.int .i64 (wr (a1 - (len a0)))) rfl) ?_
  refine FL.nil ?_
  refine FW.ret ?_
  obtain rfl := hp
  exact ⟨.inr rfl, res1 rfl rfl ⟨rfl, S0.back⟩⟩

theorem w_laws_szIntSS {Ha : GH} {wa : World} (hs : Sl Ha wa) (v0 : Value) (a0 : List (List Int)) (p0 : RSl Ha (eL eI 1) 1 v0 a0) (a1 : Int) {r : Int} (hp : (PF.laws_szIntSS a0 a1) = some r) :
  Calls Tryz.prog 42 #[v0, Value.int .i64 a1] wa (Sc Ha wa (Value.int .i64 r)) := by
 unfold PF.laws_szIntSS at hp
 have S0 := St.init hs
 refine calls_go (N := 27) (args := [v0, Value.int .i64 a1]) Tryz.func42 rfl rfl rfl ?_
 refine FW.seq (FW.region ?_)
 refine FL.v (E.assign (v := Value.int .i64 0) rfl) ?_
 refine FL.nil (FW.seq (FW.region ?_))
 refine FL.v (E.move (v := Value.int .i64 a1) rfl) ?_
 refine FL.v (E.move (v := v0) rfl) ?_
 refine FL.v (E.lenP te22 rfl p0) ?_
 refine FL.v (E.sub rfl rfl) ?_
 refine FL.v (E.assign (v := Value.int .i64 (wr (a1 - (len a0)))) rfl) ?_
 refine FL.nil (FW.seq (FW.seq (FW.region ?_)))
 refine FL.v (E.move (v := Value.int .i64 (wr (a1 - (len a0)))) rfl) ?_
 refine FL.v (E.lss rfl rfl) ?_
 refine FL.nil ?_
 rcases ifB hp with ⟨c21, hp⟩ | ⟨c21, hp⟩
 ·
  refine FW.condT rfl c21 ?_
  refine FW.seq (FW.region ?_)
  refine FL.v (E.assign (v := Value.int .i64 (-1)) rfl) ?_
  refine FL.nil ?_
  refine FW.ret ?_
  obtain rfl := Option.some.inj hp
  exact ⟨.inr rfl, res1 rfl rfl ⟨rfl, S0.back⟩⟩
 ·
  refine FW.condF rfl c21 ?_
  refine FW.skip (FW.seq (FW.seq (FW.region ?_)))
  refine FL.v (E.assign (v := Value.int .i64 0) rfl) ?_
  refine FL.nil ?_
  obtain ⟨q23, hq, hp⟩ := bndR hp
  refine FW.block ?_
  refine FW.mono (FW.forL (S := Int) (X := Int) (fun (i23 : Nat) (s23 : Int) f w => ∃ H : GH, St Ha wa H w [] ∧ Inc Ha H ∧ f 5 = Value.int .i64 ((i23 : Nat) : Int) ∧ f 0 = v0 ∧ f 1 = Value.int .i64 s23) (fun q e f w => match q with | .go s23 => e = Exit.exit 0 ∧ (∃ H : GH, St Ha wa H w [] ∧ Inc Ha H ∧ f 1 = Value.int .i64 s23) | .rt x => ((e = Exit.ret) ∧ (fun e f w => (e = Exit.normal ∨ e = Exit.ret) ∧ ∀ a, Fr (δ := []) 27 a f → ∃ v, (results Tryz.f42 a.tmps).run Tryz.prog w = .ok v w ∧ (Sc Ha wa (Value.int .i64 x)) (.returned v) w) e f w)) hq ⟨_, S0, (Inc.rfl _), rfl, rfl, rfl⟩ ?_ ?_) ?_
  ·
   clear hp hq
   rintro i23 y22 s23 f48 w47 ⟨H44, S45, i46, k49, k50, k51⟩ hx23 o64 hp
   refine FW.seq (FW.seq (FW.region ?_))
   refine FL.v (E.move k49) ?_
   refine FL.v (E.move k50) ?_
   refine FL.v (E.lenP te22 rfl p0) ?_
   refine FL.v (E.lssT rfl rfl (lss_len hx23)) ?_
   refine FL.nil ?_
   refine FW.condT rfl rfl ?_
   refine FW.skip (FW.seq (FW.block (FW.seq (FW.region ?_))))
   refine FL.v (E.move k50) ?_
   refine FL.v (E.move k49) ?_
   obtain ⟨p52, cs53, pt54, l55, at56, rel57⟩ := p0.at (ix_nat hx23)
   obtain ⟨v58, rfl, h59⟩ := eL_open rel57
   refine FL.v (E.indexAddr te22 rfl rfl pt54) ?_
   refine FL.v (E.load rfl (run_load0 Tryz.isAgg84 ((at56.mono i46).now S45.sl) rfl)) ?_
   refine FL.v (E.move k51) ?_
   refine FL.call rfl rfl rfl (E.call Tryz.call89 (A2 rfl rfl)) (w_laws_szIntS S45.sl v58 y22 (h59.mono i46) s23) ?_
   rintro e w60 ⟨rfl, r61⟩
   refine ⟨_, rfl, ?_⟩
   have S62 := S45.call r61
   refine FL.v (E.assign (v := Value.int .i64 (PF.laws_szIntS y22 s23)) rfl) ?_
   refine FL.nil (FW.seq (FW.region ?_))
   refine FL.v (E.move (v := Value.int .i64 (PF.laws_szIntS y22 s23)) rfl) ?_
   refine FL.v (E.lss rfl rfl) ?_
   refine FL.nil ?_
   rcases ifB hp with ⟨c63, hp⟩ | ⟨c63, hp⟩
   ·
    refine FW.condT rfl c63 ?_
    refine FW.seq (FW.region ?_)
    refine FL.v (E.assign (v := Value.int .i64 (-1)) rfl) ?_
    refine FL.nil ?_
    refine FW.ret ?_
    obtain rfl := Option.some.inj hp
    exact ⟨nofun, rfl, ⟨.inr rfl, res1 rfl rfl ⟨rfl, S62.back⟩⟩⟩
   ·
    refine FW.condF rfl c63 ?_
    refine FW.skip (FW.region ?_)
    refine FL.v (E.move k49) ?_
    refine FL.v (E.add rfl rfl) ?_
    refine FL.v (E.assign (v := Value.int .i64 (wr (((i23 : Nat) : Int) + 1))) rfl) ?_
    refine FL.nil ?_
    obtain rfl := Option.some.inj hp
    exact ⟨rfl, ⟨_, S62, i46, (nat_succ rfl (lt_of_get hx23) (p0.mono i46).le), k50, rfl⟩⟩
  ·
   clear hp hq
   rintro s23 f75 w74 ⟨H71, S72, i73, k76, k77, k78⟩
   refine FW.seq (FW.seq (FW.region ?_))
   refine FL.v (E.move k76) ?_
   refine FL.v (E.move k77) ?_
   refine FL.v (E.lenP te22 rfl p0) ?_
   refine FL.v (E.lss rfl rfl) ?_
   refine FL.nil ?_
   refine FW.condF rfl dlt_len ?_
   refine FW.exit ?_
   exact ⟨nofun, rfl, ⟨_, S72, i73, k78⟩⟩
  ·
   clear hq
   intro e f69 w68 hD
   rcases q23 with s23 | x23
   ·
    obtain ⟨rfl, hD⟩ := hD
    obtain ⟨H65, S66, i67, k70⟩ := hD
    replace hp := el_go hp
    refine FW.seq (FW.region ?_)
    refine FL.v (E.move k70) ?_
    refine FL.v (E.assign (v := Value.int .i64 s23) rfl) ?_
    refine FL.nil ?_
    refine FW.ret ?_
    obtain rfl := Option.some.inj hp
    exact ⟨.inr rfl, res1 rfl rfl ⟨rfl, S66.back⟩⟩
   ·
    obtain ⟨he, hL⟩ := hD
    replace hp := el_rt hp
    obtain rfl := Option.some.inj hp
    subst he
    exact hL

theorem w_laws_szCnf {Ha : GH} {wa : World} (hs : Sl Ha wa) (a0 : Cnf) (v0_1 : Value) (p0_1 : RSl Ha (eL eI 1) 1 v0_1 a0.clauses) (a1 : Int) {r : Int} (hp : (PF.laws_szCnf a0 a1) = some r) :
  Calls Tryz.prog 8 #[Value.agg #[Value.int .i64 a0.vars, v0_1], Value.int .i64 a1] wa (Sc Ha wa (Value.int .i64 r)) := by
 unfold PF.laws_szCnf at hp
 have S0 := St.init hs
 refine calls_go (N := 12) (args := [Value.agg #[Value.int .i64 a0.vars, v0_1], Value.int .i64 a1]) Tryz.func8 rfl rfl rfl ?_
 refine FW.seq (FW.region ?_)
 obtain ⟨b21, w22, run23, S24⟩ := S0.box (P := Tryz.prog) 24 [Value.int .i64 a0.vars, v0_1] (v := Value.agg #[Value.int .i64 a0.vars, v0_1]) rfl (ones_cons rfl (ones_cons p0_1.one ones_nil))
 refine FL.v (E.box rfl run23) ?_
 obtain ⟨H25, S26, i27, at28⟩ := S24.sealBox (i := 0) (l' := []) rfl rfl
 refine FL.v (E.assign (v := Value.int .i64 0) rfl) ?_
 refine FL.nil (FW.seq (FW.region ?_))
 refine FL.v (E.fieldAddr tf24_1 rfl) ?_
 refine FL.v (E.load rfl (run_load1 Tryz.isAgg22 (at28.now S26.sl) rfl)) ?_
 refine FL.v (E.move (v := Value.int .i64 a1) rfl) ?_
 obtain ⟨r29, hr30, hp⟩ := bnd hp
 refine FL.call rfl rfl rfl (E.call Tryz.call42 (A2 rfl rfl)) (w_laws_szIntSS S26.sl v0_1 a0.clauses (p0_1.mono i27) a1 hr30) ?_
 rintro e w31 ⟨rfl, r32⟩
 refine ⟨_, rfl, ?_⟩
 have S33 := S26.call r32
 refine FL.v (E.assign (v := Value.int .i64 r29) rfl) ?_
 refine FL.nil (FW.seq (FW.seq (FW.region ?_)))
 refine FL.v (E.move (v := Value.int .i64 r29) rfl) ?_
 refine FL.v (E.lss rfl rfl) ?_
 refine FL.nil ?_
 rcases ifB hp with ⟨c34, hp⟩ | ⟨c34, hp⟩
 ·
  refine FW.condT rfl c34 ?_
  refine FW.seq (FW.region ?_)
  refine FL.v (E.assign (v := Value.int .i64 (-1)) rfl) ?_
  refine FL.nil ?_
  refine FW.ret ?_
  obtain rfl := Option.some.inj hp
  exact ⟨.inr rfl, res1 rfl rfl ⟨rfl, S33.back⟩⟩
 ·
  refine FW.condF rfl c34 ?_
  refine FW.skip (FW.seq (FW.region ?_))
  refine FL.v (E.move (v := Value.int .i64 r29) rfl) ?_
  refine FL.v (E.assign (v := Value.int .i64 r29) rfl) ?_
  refine FL.nil ?_
  refine FW.ret ?_
  obtain rfl := Option.some.inj hp
  exact ⟨.inr rfl, res1 rfl rfl ⟨rfl, S33.back⟩⟩

theorem w_laws_szResStep {Ha : GH} {wa : World} (hs : Sl Ha wa) (a0 : ResStep) (v0_0 : Value) (p0_0 : RSl Ha eI 1 v0_0 a0.clause) (a1 : Int) :
  Calls Tryz.prog 69 #[Value.agg #[v0_0, Value.int .i64 a0.left, Value.int .i64 a0.right, Value.int .i64 a0.pivot], Value.int .i64 a1] wa (Sc Ha wa (Value.int .i64 (PF.laws_szResStep a0 a1))) := by
 obtain ⟨r, hp⟩ : ∃ r, (PF.laws_szResStep a0 a1) = r := ⟨_, rfl⟩
 rw [hp]
 unfold PF.laws_szResStep at hp
 have S0 := St.init hs
 refine calls_go (N := 12) (args := [Value.agg #[v0_0, Value.int .i64 a0.left, Value.int .i64 a0.right, Value.int .i64 a0.pivot], Value.int .i64 a1]) Tryz.func69 rfl rfl rfl ?_
 refine FW.seq (FW.region ?_)
 obtain ⟨b21, w22, run23, S24⟩ := S0.box (P := Tryz.prog) 108 [v0_0, Value.int .i64 a0.left, Value.int .i64 a0.right, Value.int .i64 a0.pivot] (v := Value.agg #[v0_0, Value.int .i64 a0.left, Value.int .i64 a0.right, Value.int .i64 a0.pivot]) rfl (ones_cons p0_0.one (ones_cons rfl (ones_cons rfl (ones_cons rfl ones_nil))))
 refine FL.v (E.box rfl run23) ?_
 obtain ⟨H25, S26, i27, at28⟩ := S24.sealBox (i := 0) (l' := []) rfl rfl
 refine FL.v (E.assign (v := Value.int .i64 0) rfl) ?_
 refine FL.nil (FW.seq (FW.region ?_))
 refine FL.v (E.fieldAddr tf108_0 rfl) ?_
 refine FL.v (E.load rfl (run_load1 Tryz.isAgg84 (at28.now S26.sl) rfl)) ?_
 refine FL.v (E.move (v := Value.int .i64 a1) rfl) ?_
 refine FL.call rfl rfl rfl (E.call Tryz.call89 (A2 rfl rfl)) (w_laws_szIntS S26.sl v0_0 a0.clause (p0_0.mono i27) a1) ?_
 rintro e w29 ⟨rfl, r30⟩
 refine ⟨_, rfl, ?_⟩
 have S31 := S26.call r30
 refine FL.v (E.assign (v := Value.int .i64 (PF.laws_szIntS a0.clause a1)) rfl) ?_
 refine FL.nil (FW.seq (FW.seq (FW.region ?_)))
 refine FL.v (E.move (v := Value.int .i64 (PF.laws_szIntS a0.clause a1)) rfl) ?_
 refine FL.v (E.lss rfl rfl) ?_
 refine FL.nil ?_
 rcases ifT hp with ⟨c32, hp⟩ | ⟨c32, hp⟩
 ·
  refine FW.condT rfl c32 ?_
  refine FW.seq (FW.region ?_)
  refine FL.v (E.assign (v := Value.int .i64 (-1)) rfl) ?_
  refine FL.nil ?_
  refine FW.ret ?_
  obtain rfl := hp
  exact ⟨.inr rfl, res1 rfl rfl ⟨rfl, S31.back⟩⟩
 ·
  refine FW.condF rfl c32 ?_
  refine FW.skip (FW.seq (FW.region ?_))
  refine FL.v (E.move (v := Value.int .i64 (PF.laws_szIntS a0.clause a1)) rfl) ?_
  refine FL.v (E.assign (v := Value.int .i64 (PF.laws_szIntS a0.clause a1)) rfl) ?_
  refine FL.nil ?_
  refine FW.ret ?_
  obtain rfl := hp
  exact ⟨.inr rfl, res1 rfl rfl ⟨rfl, S31.back⟩⟩

theorem w_laws_szResStepS {Ha : GH} {wa : World} (hs : Sl Ha wa) (v0 : Value) (a0 : List ResStep) (p0 : RSl Ha eResStep 4 v0 a0) (a1 : Int) {r : Int} (hp : (PF.laws_szResStepS a0 a1) = some r) :
  Calls Tryz.prog 33 #[v0, Value.int .i64 a1] wa (Sc Ha wa (Value.int .i64 r)) := by
 unfold PF.laws_szResStepS at hp
 have S0 := St.init hs
 refine calls_go (N := 27) (args := [v0, Value.int .i64 a1]) Tryz.func33 rfl rfl rfl ?_
 refine FW.seq (FW.region ?_)
 refine FL.v (E.assign (v := Value.int .i64 0) rfl) ?_
 refine FL.nil (FW.seq (FW.region ?_))
 refine FL.v (E.move (v := Value.int .i64 a1) rfl) ?_
 refine FL.v (E.move (v := v0) rfl) ?_
 refine FL.v (E.lenP te41 rfl p0) ?_
 refine FL.v (E.sub rfl rfl) ?_
 refine FL.v (E.assign (v := Value.int .i64 (wr (a1 - (len a0)))) rfl) ?_
 refine FL.nil (FW.seq (FW.seq (FW.region ?_)))
 refine FL.v (E.move (v := Value.int .i64 (wr (a1 - (len a0)))) rfl) ?_
 refine FL.v (E.lss rfl rfl) ?_
 refine FL.nil ?_
 rcases ifB hp with ⟨c21, hp⟩ | ⟨c21, hp⟩
 ·
  refine FW.condT rfl c21 ?_
  refine FW.seq (FW.region ?_)
  refine FL.v (E.assign (v := Value.int .i64 (-1)) rfl) ?_
  refine FL.nil ?_
  refine FW.ret ?_
  obtain rfl := Option.some.inj hp
  exact ⟨.inr rfl, res1 rfl rfl ⟨rfl, S0.back⟩⟩
 ·
  refine FW.condF rfl c21 ?_
  refine FW.skip (FW.seq (FW.seq (FW.region ?_)))
  refine FL.v (E.assign (v := Value.int .i64 0) rfl) ?_
  refine FL.nil ?_
  obtain ⟨q23, hq, hp⟩ := bndR hp
  refine FW.block ?_
  refine FW.mono (FW.forL (S := Int) (X := Int) (fun (i23 : Nat) (s23 : Int) f w => ∃ H : GH, St Ha wa H w [] ∧ Inc Ha H ∧ f 5 = Value.int .i64 ((i23 : Nat) : Int) ∧ f 0 = v0 ∧ f 1 = Value.int .i64 s23) (fun q e f w => match q with | .go s23 => e = Exit.exit 0 ∧ (∃ H : GH, St Ha wa H w [] ∧ Inc Ha H ∧ f 1 = Value.int .i64 s23) | .rt x => ((e = Exit.ret) ∧ (fun e f w => (e = Exit.normal ∨ e = Exit.ret) ∧ ∀ a, Fr (δ := []) 27 a f → ∃ v, (results Tryz.f33 a.tmps).run Tryz.prog w = .ok v w ∧ (Sc Ha wa (Value.int .i64 x)) (.returned v) w) e f w)) hq ⟨_, S0, (Inc.rfl _), rfl, rfl, rfl⟩ ?_ ?_) ?_
  ·
   clear hp hq
   rintro i23 y22 s23 f48 w47 ⟨H44, S45, i46, k49, k50, k51⟩ hx23 o64 hp
   refine FW.seq (FW.seq (FW.region ?_))
   refine FL.v (E.move k49) ?_
   refine FL.v (E.move k50) ?_
   refine FL.v (E.lenP te41 rfl p0) ?_
   refine FL.v (E.lssT rfl rfl (lss_len hx23)) ?_
   refine FL.nil ?_
   refine FW.condT rfl rfl ?_
   refine FW.skip (FW.seq (FW.block (FW.seq (FW.region ?_))))
   refine FL.v (E.move k50) ?_
   refine FL.v (E.move k49) ?_
   obtain ⟨p52, cs53, pt54, l55, at56, rel57⟩ := p0.at (ix_nat hx23)
   obtain ⟨v58, rfl, h59⟩ := eResStep_open rel57
   refine FL.v (E.indexAddr te41 rfl rfl pt54) ?_
   refine FL.v (E.load rfl (run_loadA Tryz.isAgg108 Tryz.sizeOf108 ((at56.mono i46).now S45.sl) rfl)) ?_
   refine FL.v (E.move k51) ?_
   refine FL.call rfl rfl rfl (E.call Tryz.call69 (A2 rfl rfl)) (w_laws_szResStep S45.sl y22 v58 (h59.mono i46) s23) ?_
   rintro e w60 ⟨rfl, r61⟩
   refine ⟨_, rfl, ?_⟩
   have S62 := S45.call r61
   refine FL.v (E.assign (v := Value.int .i64 (PF.laws_szResStep y22 s23)) rfl) ?_
   refine FL.nil (FW.seq (FW.region ?_))
   refine FL.v (E.move (v := Value.int .i64 (PF.laws_szResStep y22 s23)) rfl) ?_
   refine FL.v (E.lss rfl rfl) ?_
   refine FL.nil ?_
   rcases ifB hp with ⟨c63, hp⟩ | ⟨c63, hp⟩
   ·
    refine FW.condT rfl c63 ?_
    refine FW.seq (FW.region ?_)
    refine FL.v (E.assign (v := Value.int .i64 (-1)) rfl) ?_
    refine FL.nil ?_
    refine FW.ret ?_
    obtain rfl := Option.some.inj hp
    exact ⟨nofun, rfl, ⟨.inr rfl, res1 rfl rfl ⟨rfl, S62.back⟩⟩⟩
   ·
    refine FW.condF rfl c63 ?_
    refine FW.skip (FW.region ?_)
    refine FL.v (E.move k49) ?_
    refine FL.v (E.add rfl rfl) ?_
    refine FL.v (E.assign (v := Value.int .i64 (wr (((i23 : Nat) : Int) + 1))) rfl) ?_
    refine FL.nil ?_
    obtain rfl := Option.some.inj hp
    exact ⟨rfl, ⟨_, S62, i46, (nat_succ rfl (lt_of_get hx23) (p0.mono i46).le), k50, rfl⟩⟩
  ·
   clear hp hq
   rintro s23 f75 w74 ⟨H71, S72, i73, k76, k77, k78⟩
   refine FW.seq (FW.seq (FW.region ?_))
   refine FL.v (E.move k76) ?_
   refine FL.v (E.move k77) ?_
   refine FL.v (E.lenP te41 rfl p0) ?_
   refine FL.v (E.lss rfl rfl) ?_
   refine FL.nil ?_
   refine FW.condF rfl dlt_len ?_
   refine FW.exit ?_
   exact ⟨nofun, rfl, ⟨_, S72, i73, k78⟩⟩
  ·
   clear hq
   intro e f69 w68 hD
   rcases q23 with s23 | x23
   ·
    obtain ⟨rfl, hD⟩ := hD
    obtain ⟨H65, S66, i67, k70⟩ := hD
    replace hp := el_go hp
    refine FW.seq (FW.region ?_)
    refine FL.v (E.move k70) ?_
    refine FL.v (E.assign (v := Value.int .i64 s23) rfl) ?_
    refine FL.nil ?_
    refine FW.ret ?_
    obtain rfl := Option.some.inj hp
    exact ⟨.inr rfl, res1 rfl rfl ⟨rfl, S66.back⟩⟩
   ·
    obtain ⟨he, hL⟩ := hD
    replace hp := el_rt hp
    obtain rfl := Option.some.inj hp
    subst he
    exact hL

theorem w_laws_szBench {Ha : GH} {wa : World} (hs : Sl Ha wa) (a0 : Bench) (v0_2 : Value) (p0_2 : RSl Ha (eL eI 1) 1 v0_2 a0.formula.clauses) (v0_3 : Value) (p0_3 : RSl Ha eResStep 4 v0_3 a0.steps) (a1 : Int) {r : Int} (hp : (PF.laws_szBench a0 a1) = some r) :
  Calls Tryz.prog 21 #[Value.agg #[Value.int .i64 a0.stage, Value.int .i64 a0.formula.vars, v0_2, v0_3, Value.int .i64 a0.wide, Value.int .i64 a0.count], Value.int .i64 a1] wa (Sc Ha wa (Value.int .i64 r)) := by
 unfold PF.laws_szBench at hp
 have S0 := St.init hs
 refine calls_go (N := 18) (args := [Value.agg #[Value.int .i64 a0.stage, Value.int .i64 a0.formula.vars, v0_2, v0_3, Value.int .i64 a0.wide, Value.int .i64 a0.count], Value.int .i64 a1]) Tryz.func21 rfl rfl rfl ?_
 refine FW.seq (FW.region ?_)
 obtain ⟨b21, w22, run23, S24⟩ := S0.box (P := Tryz.prog) 43 [Value.int .i64 a0.stage, Value.int .i64 a0.formula.vars, v0_2, v0_3, Value.int .i64 a0.wide, Value.int .i64 a0.count] (v := Value.agg #[Value.int .i64 a0.stage, Value.int .i64 a0.formula.vars, v0_2, v0_3, Value.int .i64 a0.wide, Value.int .i64 a0.count]) rfl (ones_cons rfl (ones_cons rfl (ones_cons p0_2.one (ones_cons p0_3.one (ones_cons rfl (ones_cons rfl ones_nil))))))
 refine FL.v (E.box rfl run23) ?_
 obtain ⟨H25, S26, i27, at28⟩ := S24.sealBox (i := 0) (l' := []) rfl rfl
 refine FL.v (E.assign (v := Value.int .i64 0) rfl) ?_
 refine FL.nil (FW.seq (FW.region ?_))
 refine FL.v (E.fieldAddr tf43_1 rfl) ?_
 refine FL.v (E.load rfl (run_loadA Tryz.isAgg24 Tryz.sizeOf24 ((at28.now S26.sl).sub (j := 1) (n := 2) (c := [Value.int .i64 a0.formula.vars, v0_2]) rfl) rfl)) ?_
 refine FL.v (E.move (v := Value.int .i64 a1) rfl) ?_
 obtain ⟨r29, hr30, hp⟩ := bnd hp
 refine FL.call rfl rfl rfl (E.call Tryz.call8 (A2 rfl rfl)) (w_laws_szCnf S26.sl a0.formula v0_2 (p0_2.mono i27) a1 hr30) ?_
 rintro e w31 ⟨rfl, r32⟩
 refine ⟨_, rfl, ?_⟩
 have S33 := S26.call r32
 refine FL.v (E.assign (v := Value.int .i64 r29) rfl) ?_
 refine FL.nil (FW.seq (FW.seq (FW.region ?_)))
 refine FL.v (E.move (v := Value.int .i64 r29) rfl) ?_
 refine FL.v (E.lss rfl rfl) ?_
 refine FL.nil ?_
 rcases ifB hp with ⟨c34, hp⟩ | ⟨c34, hp⟩
 ·
  refine FW.condT rfl c34 ?_
  refine FW.seq (FW.region ?_)
  refine FL.v (E.assign (v := Value.int .i64 (-1)) rfl) ?_
  refine FL.nil ?_
  refine FW.ret ?_
  obtain rfl := Option.some.inj hp
  exact ⟨.inr rfl, res1 rfl rfl ⟨rfl, S33.back⟩⟩
 ·
  refine FW.condF rfl c34 ?_
  refine FW.skip (FW.seq (FW.region ?_))
  refine FL.v (E.fieldAddr tf43_2 rfl) ?_
  refine FL.v (E.load rfl (run_load1 Tryz.isAgg41 (at28.now S33.sl) rfl)) ?_
  refine FL.v (E.move (v := Value.int .i64 r29) rfl) ?_
  obtain ⟨r35, hr36, hp⟩ := bnd hp
  refine FL.call rfl rfl rfl (E.call Tryz.call33 (A2 rfl rfl)) (w_laws_szResStepS S33.sl v0_3 a0.steps (p0_3.mono i27) r29 hr36) ?_
  rintro e w37 ⟨rfl, r38⟩
  refine ⟨_, rfl, ?_⟩
  have S39 := S33.call r38
  refine FL.v (E.assign (v := Value.int .i64 r35) rfl) ?_
  refine FL.nil (FW.seq (FW.seq (FW.region ?_)))
  refine FL.v (E.move (v := Value.int .i64 r35) rfl) ?_
  refine FL.v (E.lss rfl rfl) ?_
  refine FL.nil ?_
  rcases ifB hp with ⟨c40, hp⟩ | ⟨c40, hp⟩
  ·
   refine FW.condT rfl c40 ?_
   refine FW.seq (FW.region ?_)
   refine FL.v (E.assign (v := Value.int .i64 (-1)) rfl) ?_
   refine FL.nil ?_
   refine FW.ret ?_
   obtain rfl := Option.some.inj hp
   exact ⟨.inr rfl, res1 rfl rfl ⟨rfl, S39.back⟩⟩
  ·
   refine FW.condF rfl c40 ?_
   refine FW.skip (FW.seq (FW.region ?_))
   refine FL.v (E.move (v := Value.int .i64 r35) rfl) ?_
   refine FL.v (E.assign (v := Value.int .i64 r35) rfl) ?_
   refine FL.nil ?_
   refine FW.ret ?_
   obtain rfl := Option.some.inj hp
   exact ⟨.inr rfl, res1 rfl rfl ⟨rfl, S39.back⟩⟩

@[reducible] def p_laws_toIntS (Ha : GH) (wa : World) (r : (List Int)) : Ending → World → Prop :=
  fun e w' => ∃ H' : GH, ∃ v0 : Value, ∃ n0 : Nat, ∃ c0 : List Value, e = .returned (v0) ∧ St Ha wa H' w' [.row 3 1 v0 n0 c0] ∧ Els (up wa.heap.size H') eI 1 c0 r
theorem w_laws_toIntS {Ha : GH} {wa : World} (hs : Sl Ha wa) (v0 : Value) (a0 : List Int) (p0 : RSl Ha eI 1 v0 a0) {r : (List Int)} (hp : (PF.laws_toIntS a0) = some r) :
    Calls Tryz.prog 94 #[v0] wa (p_laws_toIntS Ha wa r) := by
  unfold PF.laws_toIntS at hp
  have S0 := St.init hs
  refine calls_go (N := 22) (args := [v0]) Tryz.func94 rfl rfl rfl ?_
  refine FW.seq (FW.region ?_)
  refine FL.v (E.assign (v := Value.slice none 0 0) rfl) ?_
  refine FL.nil (FW.seq (FW.region ?_))
  refine FL.v (E.move (v := v0) rfl) ?_
  refine FL.v (E.lenP te84 rfl p0) ?_
  obtain ⟨xs21, hm22, hp⟩ := bnd hp
  obtain ⟨v23, w24, n28, cs29, run25, S26, els27, hbl30⟩ := S0.makeEls (P := Tryz.prog) te84 (G := (up wa.heap.size Ha)) (En := eI) (x0 := (0 : Int)) hm22 rfl (ones_cons rfl ones_nil) .i64 .i64
  refine FL.v (E.makeSlice rfl rfl run25) ?_
  refine FL.v (E.assign (v := v23) rfl) ?_
  refine FL.nil (FW.seq (FW.seq (FW.region ?_)))
  refine FL.v (E.assign (v := Value.int .i64 0) rfl) ?_
  refine FL.nil ?_
  obtain ⟨q32, hq, hp⟩ := bndR hp
  refine FW.block ?_
  refine FW.mono (FW.forL (S := (List Int)) (X := Empty) (fun (i32 : Nat) (s32 : (List Int)) f w => ∃ H : GH, ∃ v63 : Value, ∃ n64 : Nat, ∃ cs65 : List Value, St Ha wa H w [.row 3 1 v63 n64 cs65] ∧ Inc Ha H ∧ Els (up wa.heap.size H) eI 1 cs65 s32 ∧ f 4 = Value.int .i64 ((i32 : Nat) : Int) ∧ f 0 = v0 ∧ f 3 = v63) (fun (q : Rs (List Int) Empty) e f w => match q with | .go s32 => e = Exit.exit 0 ∧ (∃ H : GH, ∃ v63 : Value, ∃ n64 : Nat, ∃ cs65 : List Value, St Ha wa H w [.row 3 1 v63 n64 cs65] ∧ Inc Ha H ∧ Els (up wa.heap.size H) eI 1 cs65 s32 ∧ f 3 = v63) | .rt x => x.elim) hq ⟨_, _, _, _, S26, (Inc.rfl _), els27, rfl, rfl, rfl⟩ ?_ ?_) ?_
  ·
    clear hp hq
    rintro i32 y31 s32 f101 w100 ⟨H97, v63, n64, cs65, S98, i99, els66, k102, k103, k104⟩ hx32 o127 hp
    refine FW.seq (FW.seq (FW.region ?_))
    refine FL.v (E.move k102) ?_
    refine FL.v (E.move k103) ?_
    refine FL.v (E.lenP te84 rfl p0) ?_
    refine FL.v (E.lssT rfl rfl (lss_len hx32)) ?_
    refine FL.nil ?_
    refine FW.condT rfl rfl ?_
    refine FW.skip (FW.seq (FW.block (FW.region ?_)))
    refine FL.v (E.move k104) ?_
    refine FL.v (E.move k102) ?_
    refine FL.v (E.move k103) ?_
    refine FL.v (E.move k102) ?_
    obtain ⟨p105, cs106, pt107, l108, at109, rel110⟩ := p0.at (ix_nat hx32)
    obtain rfl := eI_open rel110
    refine FL.v (E.indexAddr te84 rfl rfl pt107) ?_
    refine FL.v (E.load rfl (run_load0 Tryz.isAgg3 ((at109.mono i99).now S98.sl) rfl)) ?_
    obtain ⟨x117, hx118, hp⟩ := bnd hp
    obtain ⟨p111, cs112, pt113, l114, at115, rel116⟩ := S98.row_at (i := 0) rfl els66 (by decide) hx118
    obtain rfl := eI_open rel116
    refine FL.v (E.indexAddr te84 rfl rfl pt113) ?_
    obtain ⟨xs122, hput123, hp⟩ := bnd hp
    obtain ⟨w119, cs125, run120, S121, els124, ce126⟩ := S98.putEls (P := Tryz.prog) (t := 3) (i := 0) rfl els66 hput123 pt113 Tryz.sizeOf3 (u := Value.int .i64 y31) (c := [Value.int .i64 y31]) rfl rfl (ones_cons rfl ones_nil) rfl
    have S121 : St Ha wa H97 w119 [.row 3 1 v63 n64 cs125] := S121
    refine FL.act rfl rfl (E.store rfl rfl run120) ?_
    refine FL.nil (FW.region ?_)
    refine FL.v (E.move k102) ?_
    refine FL.v (E.add rfl rfl) ?_
    refine FL.v (E.assign (v := Value.int .i64 (wr (((i32 : Nat) : Int) + 1))) rfl) ?_
    refine FL.nil ?_
    obtain rfl := Option.some.inj hp
    exact ⟨rfl, ⟨_, _, _, _, S121, i99, els124, (nat_succ rfl (lt_of_get hx32) (p0.mono i99).le), k103, k104⟩⟩
  ·
    clear hp hq
    rintro s32 f138 w137 ⟨H134, v63, n64, cs65, S135, i136, els66, k139, k140, k141⟩
    refine FW.seq (FW.seq (FW.region ?_))
    refine FL.v (E.move k139) ?_
    refine FL.v (E.move k140) ?_
    refine FL.v (E.lenP te84 rfl p0) ?_
    refine FL.v (E.lss rfl rfl) ?_
    refine FL.nil ?_
    refine FW.condF rfl dlt_len ?_
    refine FW.exit ?_
    exact ⟨nofun, rfl, ⟨_, _, _, _, S135, i136, els66, k141⟩⟩
  ·
    clear hq
    intro e f132 w131 hD
    rcases q32 with s32 | x32
    ·
      obtain ⟨rfl, hD⟩ := hD
      obtain ⟨H128, v63, n64, cs65, S129, i130, els66, k133⟩ := hD
      replace hp := el_go hp
      refine FW.seq (FW.region ?_)
      refine FL.v (E.move k133) ?_
      refine FL.v (E.assign (v := v63) rfl) ?_
      refine FL.nil ?_
      refine FW.ret ?_
      obtain rfl := Option.some.inj hp
      exact ⟨.inr rfl, res1 rfl rfl ⟨_, _, _, _, rfl, S129, els66⟩⟩
    · exact x32.elim

@[reducible] def p_laws_toIntSS (Ha : GH) (wa : World) (r : (List (List Int))) : Ending → World → Prop :=
  fun e w' => ∃ H' : GH, ∃ v0 : Value, ∃ n0 : Nat, ∃ c0 : List Value, e = .returned (v0) ∧ St Ha wa H' w' [.row 84 1 v0 n0 c0] ∧ Els (up wa.heap.size H') (eL eI 1) 1 c0 r ∧ (bl c0).Nodup
theorem w_laws_toIntSS {Ha : GH} {wa : World} (hs : Sl Ha wa) (v0 : Value) (a0 : List (List Int)) (p0 : RSl Ha (eL eI 1) 1 v0 a0) {r : (List (List Int))} (hp : (PF.laws_toIntSS a0) = some r) :
    Calls Tryz.prog 46 #[v0] wa (p_laws_toIntSS Ha wa r) := by
  unfold PF.laws_toIntSS at hp
  have S0 := St.init hs
  refine calls_go (N := 23) (args := [v0]) Tryz.func46 rfl rfl rfl ?_
  refine FW.seq (FW.region ?_)
  refine FL.v (E.assign (v := Value.slice none 0 0) rfl) ?_
  refine FL.nil (FW.seq (FW.region ?_))
  refine FL.v (E.move (v := v0) rfl) ?_
  refine FL.v (E.lenP te22 rfl p0) ?_
  obtain ⟨xs21, hm22, hp⟩ := bnd hp
  obtain ⟨v23, w24, n28, cs29, run25, S26, els27, hbl30⟩ := S0.makeEls (P := Tryz.prog) te22 (G := (up wa.heap.size Ha)) (En := (eL eI 1)) (x0 := ([] : List Int)) hm22 ⟨_, rfl, RSl.nil _ _ _⟩ (ones_cons rfl ones_nil) .i64 .i64
  have nd31 : (bl cs29).Nodup := by rw [hbl30 (by simp [Value.cells, neb])]; exact List.nodup_nil
  refine FL.v (E.makeSlice rfl rfl run25) ?_
  refine FL.v (E.assign (v := v23) rfl) ?_
  refine FL.nil (FW.seq (FW.seq (FW.region ?_)))
  refine FL.v (E.assign (v := Value.int .i64 0) rfl) ?_
  refine FL.nil ?_
  obtain ⟨q33, hq, hp⟩ := bndR hp
  refine FW.block ?_
  refine FW.mono (FW.forL (S := (List (List Int))) (X := Empty) (fun (i33 : Nat) (s33 : (List (List Int))) f w => ∃ H : GH, ∃ v84 : Value, ∃ n85 : Nat, ∃ cs86 : List Value, St Ha wa H w [.row 84 1 v84 n85 cs86] ∧ Inc Ha H ∧ Els (up wa.heap.size H) (eL eI 1) 1 cs86 s33 ∧ (bl cs86).Nodup ∧ f 4 = Value.int .i64 ((i33 : Nat) : Int) ∧ f 0 = v0 ∧ f 3 = v84) (fun (q : Rs (List (List Int)) Empty) e f w => match q with | .go s33 => e = Exit.exit 0 ∧ (∃ H : GH, ∃ v84 : Value, ∃ n85 : Nat, ∃ cs86 : List Value, St Ha wa H w [.row 84 1 v84 n85 cs86] ∧ Inc Ha H ∧ Els (up wa.heap.size H) (eL eI 1) 1 cs86 s33 ∧ (bl cs86).Nodup ∧ f 3 = v84) | .rt x => x.elim) hq ⟨_, _, _, _, S26, (Inc.rfl _), els27, nd31, rfl, rfl, rfl⟩ ?_ ?_) ?_
  ·
    clear hp hq
    rintro i33 y32 s33 f143 w142 ⟨H139, v84, n85, cs86, S140, i141, els87, nd88, k144, k145, k146⟩ hx33 o189 hp
    refine FW.seq (FW.seq (FW.region ?_))
    refine FL.v (E.move k144) ?_
    refine FL.v (E.move k145) ?_
    refine FL.v (E.lenP te22 rfl p0) ?_
    refine FL.v (E.lssT rfl rfl (lss_len hx33)) ?_
    refine FL.nil ?_
    refine FW.condT rfl rfl ?_
    refine FW.skip (FW.seq (FW.block (FW.region ?_)))
    refine FL.v (E.move k146) ?_
    refine FL.v (E.move k144) ?_
    refine FL.v (E.move k145) ?_
    refine FL.v (E.move k144) ?_
    obtain ⟨p147, cs148, pt149, l150, at151, rel152⟩ := p0.at (ix_nat hx33)
    obtain ⟨v153, rfl, h154⟩ := eL_open rel152
    refine FL.v (E.indexAddr te22 rfl rfl pt149) ?_
    refine FL.v (E.load rfl (run_load0 Tryz.isAgg84 ((at151.mono i141).now S140.sl) rfl)) ?_
    obtain ⟨r155, hr156, hp⟩ := bnd hp
    refine FL.call rfl rfl rfl (E.call Tryz.call94 (A1 rfl)) (w_laws_toIntS S140.sl v153 y32 (h154.mono i141) hr156) ?_
    rintro e w158 ⟨H157, v161, n162, cs163, rfl, r160, els164⟩
    refine ⟨_, rfl, ?_⟩
    have els164 := els164.mono (up_le S140.size)
    have S159 := S140.join (l' := [.row 3 1 v161 n162 cs163, .row 84 1 v84 n85 cs86]) r160 rfl
    obtain ⟨x171, hx172, hp⟩ := bnd hp
    obtain ⟨p165, cs166, pt167, l168, at169, rel170⟩ := S159.row_at (i := 1) rfl els87 (by decide) hx172
    obtain ⟨v173, rfl, h174⟩ := eL_open rel170
    refine FL.v (E.indexAddr te22 rfl rfl pt167) ?_
    obtain ⟨H175, S176, i177, h178, nv179⟩ := S159.sealRowU (i := 0) (l' := [.row 84 1 v84 n85 cs86]) rfl els164 (by decide) rfl
    obtain ⟨xs183, hput184, hp⟩ := bnd hp
    obtain ⟨w180, cs186, run181, S182, els185, ce187⟩ := S176.putEls (P := Tryz.prog) (t := 84) (i := 0) rfl (els87.mono (up_mono (r160.run.inc.tr i177))) hput184 pt167 Tryz.sizeOf84 (u := v161) (c := [v161]) h178.cells rfl (ones_cons h178.one ones_nil) ⟨_, rfl, h178⟩
    have S182 : St Ha wa H175 w180 [.row 84 1 v84 n85 cs186] := S182
    have nd188 : (bl cs186).Nodup := by rw [ce187]; exact nd_put (Nat.le_add_right _ _) nd88 (by exact nd_one v161) (Els.dom (els87.mono (upI.tr r160.run.inc))) (by exact nv179)
    refine FL.act rfl rfl (E.store rfl rfl run181) ?_
    refine FL.nil (FW.region ?_)
    refine FL.v (E.move k144) ?_
    refine FL.v (E.add rfl rfl) ?_
    refine FL.v (E.assign (v := Value.int .i64 (wr (((i33 : Nat) : Int) + 1))) rfl) ?_
    refine FL.nil ?_
    obtain rfl := Option.some.inj hp
    exact ⟨rfl, ⟨_, _, _, _, S182, ((i141.tr r160.run.inc).tr i177), els185, nd188, (nat_succ rfl (lt_of_get hx33) (p0.mono ((i141.tr r160.run.inc).tr i177)).le), k145, k146⟩⟩
  ·
    clear hp hq
    rintro s33 f200 w199 ⟨H196, v84, n85, cs86, S197, i198, els87, nd88, k201, k202, k203⟩
    refine FW.seq (FW.seq (FW.region ?_))
    refine FL.v (E.move k201) ?_
    refine FL.v (E.move k202) ?_
    refine FL.v (E.lenP te22 rfl p0) ?_
    refine FL.v (E.lss rfl rfl) ?_
    refine FL.nil ?_
    refine FW.condF rfl dlt_len ?_
    refine FW.exit ?_
    exact ⟨nofun, rfl, ⟨_, _, _, _, S197, i198, els87, nd88, k203⟩⟩
  ·
    clear hq
    intro e f194 w193 hD
    rcases q33 with s33 | x33
    ·
      obtain ⟨rfl, hD⟩ := hD
      obtain ⟨H190, v84, n85, cs86, S191, i192, els87, nd88, k195⟩ := hD
      replace hp := el_go hp
      refine FW.seq (FW.region ?_)
      refine FL.v (E.move k195) ?_
      refine FL.v (E.assign (v := v84) rfl) ?_
      refine FL.nil ?_
      refine FW.ret ?_
      obtain rfl := Option.some.inj hp
      exact ⟨.inr rfl, res1 rfl rfl ⟨_, _, _, _, rfl, S191, els87, nd88⟩⟩
    · exact x33.elim

@[reducible] def p_laws_toCnf (Ha : GH) (wa : World) (r : Cnf) : Ending → World → Prop :=
 fun e w' => ∃ H' : GH, ∃ v0_1 : Value, e = .returned (Value.agg #[Value.int .i64 r.vars, v0_1]) ∧ Run wa.heap.size Ha wa H' w' ∧ (∃ c, Nest (up wa.heap.size H') (eL eI 1) 1 v0_1 r.clauses c)
theorem w_laws_toCnf {Ha : GH} {wa : World} (hs : Sl Ha wa) (a0 : Cnf) (v0_1 : Value) (p0_1 : RSl Ha (eL eI 1) 1 v0_1 a0.clauses) {r : Cnf} (hp : (PF.laws_toCnf a0) = some r) :
  Calls Tryz.prog 11 #[Value.agg #[Value.int .i64 a0.vars, v0_1]] wa (p_laws_toCnf Ha wa r) := by
 unfold PF.laws_toCnf at hp
 have S0 := St.init hs
 refine calls_go (N := 12) (args := [Value.agg #[Value.int .i64 a0.vars, v0_1]]) Tryz.func11 rfl rfl rfl ?_
 refine FW.seq (FW.region ?_)
 obtain ⟨b21, w22, run23, S24⟩ := S0.box (P := Tryz.prog) 24 [Value.int .i64 a0.vars, v0_1] (v := Value.agg #[Value.int .i64 a0.vars, v0_1]) rfl (ones_cons rfl (ones_cons p0_1.one ones_nil))
 refine FL.v (E.box rfl run23) ?_
 obtain ⟨H25, S26, i27, at28⟩ := S24.sealBox (i := 0) (l' := []) rfl rfl
 obtain ⟨b29, w30, run31, S32⟩ := S26.alloc (P := Tryz.prog) 30 [Value.int .i64 0, Value.slice none 0 0] Tryz.zeroValue30 rfl (ones_cons rfl (ones_cons rfl ones_nil))
 refine FL.v (E.alloc run31) ?_
 refine FL.nil (FW.seq (FW.region ?_))
 obtain ⟨b33, w34, run35, S36⟩ := S32.alloc (P := Tryz.prog) 30 [Value.int .i64 0, Value.slice none 0 0] Tryz.zeroValue30 rfl (ones_cons rfl (ones_cons rfl ones_nil))
 refine FL.v (E.alloc run35) ?_
 refine FL.nil (FW.seq (FW.region ?_))
 refine FL.v (E.fieldAddr tf24_0 rfl) ?_
 refine FL.v (E.load rfl (run_load1 Tryz.isAgg3 (at28.now S36.sl) rfl)) ?_
 refine FL.v (E.fieldAddr tf30_0 rfl) ?_
 obtain ⟨w37, run38, S39⟩ := S36.store (P := Tryz.prog) (t := 3) (i := 0) (j := 0) (cs' := [Value.int .i64 a0.vars, Value.slice none 0 0]) (l' := [.box b33 30 [Value.int .i64 a0.vars, Value.slice none 0 0], .box b29 30 [Value.int .i64 0, Value.slice none 0 0]]) (v := Value.int .i64 a0.vars) (c := [Value.int .i64 a0.vars]) rfl Tryz.sizeOf3 rfl rfl (ones_cons rfl ones_nil) (Nat.le_of_ble_eq_true rfl) rfl rfl
 refine FL.act rfl rfl (E.store rfl rfl run38) ?_
 refine FL.nil (FW.seq (FW.region ?_))
 refine FL.v (E.fieldAddr tf24_1 rfl) ?_
 refine FL.v (E.load rfl (run_load1 Tryz.isAgg22 (at28.now S39.sl) rfl)) ?_
 obtain ⟨r40, hr41, hp⟩ := bnd hp
 refine FL.call rfl rfl rfl (E.call Tryz.call46 (A1 rfl)) (w_laws_toIntSS S39.sl v0_1 a0.clauses (p0_1.mono i27) hr41) ?_
 rintro e w43 ⟨H42, v46, n47, cs48, rfl, r45, els49, nd50⟩
 refine ⟨_, rfl, ?_⟩
 have nv51 : New H25 cs48 := New.of_up S39.sl els49.dom
 have els49 := els49.mono (up_le S39.size)
 have S44 := S39.join (l' := [.row 84 1 v46 n47 cs48, .box b33 30 [Value.int .i64 a0.vars, Value.slice none 0 0], .box b29 30 [Value.int .i64 0, Value.slice none 0 0]]) r45 rfl
 refine FL.v (E.fieldAddr tf30_1 rfl) ?_
 obtain ⟨w52, run53, S54⟩ := S44.store (P := Tryz.prog) (t := 22) (i := 1) (j := 1) (cs' := [Value.int .i64 a0.vars, v46]) (l' := [.row 84 1 v46 n47 cs48, .box b33 30 [Value.int .i64 a0.vars, v46], .box b29 30 [Value.int .i64 0, Value.slice none 0 0]]) (v := v46) (c := [v46]) rfl Tryz.sizeOf22 (Ln.cells (S44.row_ln (i := 0) rfl)) rfl (ones_cons (Ln.one (S44.row_ln (i := 0) rfl)) ones_nil) (Nat.le_of_ble_eq_true rfl) rfl rfl
 refine FL.act rfl rfl (E.store rfl rfl run53) ?_
 obtain ⟨H55, S56, i57, ns60, nv59⟩ := S54.sealRowN (i := 0) (l' := [.box b33 30 [Value.int .i64 a0.vars, v46], .box b29 30 [Value.int .i64 0, Value.slice none 0 0]]) rfl els49 nd50 (by decide) rfl
 have h58 := ns60.rsl
 obtain ⟨H61, S62, i63, at64⟩ := S56.sealBox (i := 0) (l' := [.box b29 30 [Value.int .i64 0, Value.slice none 0 0]]) rfl rfl
 refine FL.nil (FW.seq (FW.region ?_))
 refine FL.v (E.load rfl (run_loadA Tryz.isAgg30 Tryz.sizeOf30 (at64.now S62.sl) rfl)) ?_
 obtain ⟨w65, run66, S67⟩ := S62.store0 (P := Tryz.prog) (t := 30) (i := 0) (cs' := [Value.int .i64 a0.vars, v46]) (l' := [.box b29 30 [Value.int .i64 a0.vars, v46]]) (v := Value.agg #[Value.int .i64 a0.vars, v46]) (c := [Value.int .i64 a0.vars, v46]) rfl Tryz.sizeOf30 rfl rfl (ones_cons rfl (ones_cons h58.one ones_nil)) (Nat.le_of_ble_eq_true rfl) rfl rfl
 refine FL.act rfl rfl (E.store rfl rfl run66) ?_
 obtain ⟨H68, S69, i70, at71⟩ := S67.sealBox (i := 0) (l' := []) rfl rfl
 refine FL.nil ?_
 refine FW.ret ?_
 obtain rfl := Option.some.inj hp
 exact ⟨.inr rfl, resC rfl rfl (loadVar_A Tryz.isAgg30 Tryz.sizeOf30 (at71.now S69.sl) rfl) ⟨_, _, rfl, S69.run, ⟨_, (ns60.mono (up_mono (i63.tr i70)))⟩⟩⟩

@[reducible] def p_laws_toResStep (Ha : GH) (wa : World) (r : ResStep) : Ending → World → Prop :=
 fun e w' => ∃ H' : GH, ∃ v0_0 : Value, e = .returned (Value.agg #[v0_0, Value.int .i64 r.left, Value.int .i64 r.right, Value.int .i64 r.pivot]) ∧ Run wa.heap.size Ha wa H' w' ∧ RSl (up wa.heap.size H') eI 1 v0_0 r.clause
theorem w_laws_toResStep {Ha : GH} {wa : World} (hs : Sl Ha wa) (a0 : ResStep) (v0_0 : Value) (p0_0 : RSl Ha eI 1 v0_0 a0.clause) {r : ResStep} (hp : (PF.laws_toResStep a0) = some r) :
  Calls Tryz.prog 73 #[Value.agg #[v0_0, Value.int .i64 a0.left, Value.int .i64 a0.right, Value.int .i64 a0.pivot]] wa (p_laws_toResStep Ha wa r) := by
 unfold PF.laws_toResStep at hp
 have S0 := St.init hs
 refine calls_go (N := 18) (args := [Value.agg #[v0_0, Value.int .i64 a0.left, Value.int .i64 a0.right, Value.int .i64 a0.pivot]]) Tryz.func73 rfl rfl rfl ?_
 refine FW.seq (FW.region ?_)
 obtain ⟨b21, w22, run23, S24⟩ := S0.box (P := Tryz.prog) 108 [v0_0, Value.int .i64 a0.left, Value.int .i64 a0.right, Value.int .i64 a0.pivot] (v := Value.agg #[v0_0, Value.int .i64 a0.left, Value.int .i64 a0.right, Value.int .i64 a0.pivot]) rfl (ones_cons p0_0.one (ones_cons rfl (ones_cons rfl (ones_cons rfl ones_nil))))
 refine FL.v (E.box rfl run23) ?_
 obtain ⟨H25, S26, i27, at28⟩ := S24.sealBox (i := 0) (l' := []) rfl rfl
 obtain ⟨b29, w30, run31, S32⟩ := S26.alloc (P := Tryz.prog) 94 [Value.slice none 0 0, Value.int .i64 0, Value.int .i64 0, Value.int .i64 0] Tryz.zeroValue94 rfl (ones_cons rfl (ones_cons rfl (ones_cons rfl (ones_cons rfl ones_nil))))
 refine FL.v (E.alloc run31) ?_
 refine FL.nil (FW.seq (FW.region ?_))
 obtain ⟨b33, w34, run35, S36⟩ := S32.alloc (P := Tryz.prog) 94 [Value.slice none 0 0, Value.int .i64 0, Value.int .i64 0, Value.int .i64 0] Tryz.zeroValue94 rfl (ones_cons rfl (ones_cons rfl (ones_cons rfl (ones_cons rfl ones_nil))))
 refine FL.v (E.alloc run35) ?_
 refine FL.nil (FW.seq (FW.region ?_))
 refine FL.v (E.fieldAddr tf108_0 rfl) ?_
 refine FL.v (E.load rfl (run_load1 Tryz.isAgg84 (at28.now S36.sl) rfl)) ?_
 obtain ⟨r37, hr38, hp⟩ := bnd hp
 refine FL.call rfl rfl rfl (E.call Tryz.call94 (A1 rfl)) (w_laws_toIntS S36.sl v0_0 a0.clause (p0_0.mono i27) hr38) ?_
 rintro e w40 ⟨H39, v43, n44, cs45, rfl, r42, els46⟩
 refine ⟨_, rfl, ?_⟩
 have els46 := els46.mono (up_le S36.size)
 have S41 := S36.join (l' := [.row 3 1 v43 n44 cs45, .box b33 94 [Value.slice none 0 0, Value.int .i64 0, Value.int .i64 0, Value.int .i64 0], .box b29 94 [Value.slice none 0 0, Value.int .i64 0, Value.int .i64 0, Value.int .i64 0]]) r42 rfl
 refine FL.v (E.fieldAddr tf94_0 rfl) ?_
 obtain ⟨w47, run48, S49⟩ := S41.store (P := Tryz.prog) (t := 84) (i := 1) (j := 0) (cs' := [v43, Value.int .i64 0, Value.int .i64 0, Value.int .i64 0]) (l' := [.row 3 1 v43 n44 cs45, .box b33 94 [v43, Value.int .i64 0, Value.int .i64 0, Value.int .i64 0], .box b29 94 [Value.slice none 0 0, Value.int .i64 0, Value.int .i64 0, Value.int .i64 0]]) (v := v43) (c := [v43]) rfl Tryz.sizeOf84 (Ln.cells (S41.row_ln (i := 0) rfl)) rfl (ones_cons (Ln.one (S41.row_ln (i := 0) rfl)) ones_nil) (Nat.le_of_ble_eq_true rfl) rfl rfl
 refine FL.act rfl rfl (E.store rfl rfl run48) ?_
 refine FL.nil (FW.seq (FW.region ?_))
 refine FL.v (E.fieldAddr tf108_1 rfl) ?_
 refine FL.v (E.load rfl (run_load1 Tryz.isAgg3 ((at28.mono r42.run.inc).now S49.sl) rfl)) ?_
 refine FL.v (E.fieldAddr tf94_1 rfl) ?_
 obtain ⟨w50, run51, S52⟩ := S49.store (P := Tryz.prog) (t := 3) (i := 1) (j := 1) (cs' := [v43, Value.int .i64 a0.left, Value.int .i64 0, Value.int .i64 0]) (l' := [.row 3 1 v43 n44 cs45, .box b33 94 [v43, Value.int .i64 a0.left, Value.int .i64 0, Value.int .i64 0], .box b29 94 [Value.slice none 0 0, Value.int .i64 0, Value.int .i64 0, Value.int .i64 0]]) (v := Value.int .i64 a0.left) (c := [Value.int .i64 a0.left]) rfl Tryz.sizeOf3 rfl rfl (ones_cons rfl ones_nil) (Nat.le_of_ble_eq_true rfl) rfl rfl
 refine FL.act rfl rfl (E.store rfl rfl run51) ?_
 refine FL.nil (FW.seq (FW.region ?_))
 refine FL.v (E.fieldAddr tf108_2 rfl) ?_
 refine FL.v (E.load rfl (run_load1 Tryz.isAgg3 ((at28.mono r42.run.inc).now S52.sl) rfl)) ?_
 refine FL.v (E.fieldAddr tf94_2 rfl) ?_
 obtain ⟨w53, run54, S55⟩ := S52.store (P := Tryz.prog) (t := 3) (i := 1) (j := 2) (cs' := [v43, Value.int .i64 a0.left, Value.int .i64 a0.right, Value.int .i64 0]) (l' := [.row 3 1 v43 n44 cs45, .box b33 94 [v43, Value.int .i64 a0.left, Value.int .i64 a0.right, Value.int .i64 0], .box b29 94 [Value.slice none 0 0, Value.int .i64 0, Value.int .i64 0, Value.int .i64 0]]) (v := Value.int .i64 a0.right) (c := [Value.int .i64 a0.right]) rfl Tryz.sizeOf3 rfl rfl (ones_cons rfl ones_nil) (Nat.le_of_ble_eq_true rfl) rfl rfl
 refine FL.act rfl rfl (E.store rfl rfl run54) ?_
 refine FL.nil (FW.seq (FW.region ?_))
 refine FL.v (E.fieldAddr tf108_3 rfl) ?_
 refine FL.v (E.load rfl (run_load1 Tryz.isAgg3 ((at28.mono r42.run.inc).now S55.sl) rfl)) ?_
 refine FL.v (E.fieldAddr tf94_3 rfl) ?_
 obtain ⟨w56, run57, S58⟩ := S55.store (P := Tryz.prog) (t := 3) (i := 1) (j := 3) (cs' := [v43, Value.int .i64 a0.left, Value.int .i64 a0.right, Value.int .i64 a0.pivot]) (l' := [.row 3 1 v43 n44 cs45, .box b33 94 [v43, Value.int .i64 a0.left, Value.int .i64 a0.right, Value.int .i64 a0.pivot], .box b29 94 [Value.slice none 0 0, Value.int .i64 0, Value.int .i64 0, Value.int .i64 0]]) (v := Value.int .i64 a0.pivot) (c := [Value.int .i64 a0.pivot]) rfl Tryz.sizeOf3 rfl rfl (ones_cons rfl ones_nil) (Nat.le_of_ble_eq_true rfl) rfl rfl
 refine FL.act rfl rfl (E.store rfl rfl run57) ?_
 obtain ⟨H59, S60, i61, h62, nv63⟩ := S58.sealRowU (i := 0) (l' := [.box b33 94 [v43, Value.int .i64 a0.left, Value.int .i64 a0.right, Value.int .i64 a0.pivot], .box b29 94 [Value.slice none 0 0, Value.int .i64 0, Value.int .i64 0, Value.int .i64 0]]) rfl els46 (by decide) rfl
 obtain ⟨H64, S65, i66, at67⟩ := S60.sealBox (i := 0) (l' := [.box b29 94 [Value.slice none 0 0, Value.int .i64 0, Value.int .i64 0, Value.int .i64 0]]) rfl rfl
 refine FL.nil (FW.seq (FW.region ?_))
 refine FL.v (E.load rfl (run_loadA Tryz.isAgg94 Tryz.sizeOf94 (at67.now S65.sl) rfl)) ?_
 obtain ⟨w68, run69, S70⟩ := S65.store0 (P := Tryz.prog) (t := 94) (i := 0) (cs' := [v43, Value.int .i64 a0.left, Value.int .i64 a0.right, Value.int .i64 a0.pivot]) (l' := [.box b29 94 [v43, Value.int .i64 a0.left, Value.int .i64 a0.right, Value.int .i64 a0.pivot]]) (v := Value.agg #[v43, Value.int .i64 a0.left, Value.int .i64 a0.right, Value.int .i64 a0.pivot]) (c := [v43, Value.int .i64 a0.left, Value.int .i64 a0.right, Value.int .i64 a0.pivot]) rfl Tryz.sizeOf94 rfl rfl (ones_cons h62.one (ones_cons rfl (ones_cons rfl (ones_cons rfl ones_nil)))) (Nat.le_of_ble_eq_true rfl) rfl rfl
 refine FL.act rfl rfl (E.store rfl rfl run69) ?_
 obtain ⟨H71, S72, i73, at74⟩ := S70.sealBox (i := 0) (l' := []) rfl rfl
 refine FL.nil ?_
 refine FW.ret ?_
 obtain rfl := Option.some.inj hp
 exact ⟨.inr rfl, resC rfl rfl (loadVar_A Tryz.isAgg94 Tryz.sizeOf94 (at74.now S72.sl) rfl) ⟨_, _, rfl, S72.run, (h62.mono (up_mono (i66.tr i73)))⟩⟩

@[reducible] def p_laws_toResStepS (Ha : GH) (wa : World) (r : (List ResStep)) : Ending → World → Prop :=
  fun e w' => ∃ H' : GH, ∃ v0 : Value, ∃ n0 : Nat, ∃ c0 : List Value, e = .returned (v0) ∧ St Ha wa H' w' [.row 94 4 v0 n0 c0] ∧ Els (up wa.heap.size H') eResStep 4 c0 r ∧ (bl c0).Nodup
theorem w_laws_toResStepS {Ha : GH} {wa : World} (hs : Sl Ha wa) (v0 : Value) (a0 : List ResStep) (p0 : RSl Ha eResStep 4 v0 a0) {r : (List ResStep)} (hp : (PF.laws_toResStepS a0) = some r) :
    Calls Tryz.prog 35 #[v0] wa (p_laws_toResStepS Ha wa r) := by
  unfold PF.laws_toResStepS at hp
  have S0 := St.init hs
  refine calls_go (N := 23) (args := [v0]) Tryz.func35 rfl rfl rfl ?_
  refine FW.seq (FW.region ?_)
  refine FL.v (E.assign (v := Value.slice none 0 0) rfl) ?_
  refine FL.nil (FW.seq (FW.region ?_))
  refine FL.v (E.move (v := v0) rfl) ?_
  refine FL.v (E.lenP te41 rfl p0) ?_
  obtain ⟨xs21, hm22, hp⟩ := bnd hp
  obtain ⟨v23, w24, n28, cs29, run25, S26, els27, hbl30⟩ := S0.makeEls (P := Tryz.prog) te46 (G := (up wa.heap.size Ha)) (En := eResStep) (x0 := ((ResStep.mk [] 0 0 0) : ResStep)) hm22 ⟨_, rfl, (RSl.nil _ _ _)⟩ (ones_cons rfl (ones_cons rfl (ones_cons rfl (ones_cons rfl ones_nil)))) .i64 .i64
  have nd31 : (bl cs29).Nodup := by rw [hbl30 (by simp [Value.cells, neb])]; exact List.nodup_nil
  refine FL.v (E.makeSlice rfl rfl run25) ?_
  refine FL.v (E.assign (v := v23) rfl) ?_
  refine FL.nil (FW.seq (FW.seq (FW.region ?_)))
  refine FL.v (E.assign (v := Value.int .i64 0) rfl) ?_
  refine FL.nil ?_
  obtain ⟨q33, hq, hp⟩ := bndR hp
  refine FW.block ?_
  refine FW.mono (FW.forL (S := (List ResStep)) (X := Empty) (fun (i33 : Nat) (s33 : (List ResStep)) f w => ∃ H : GH, ∃ v78 : Value, ∃ n79 : Nat, ∃ cs80 : List Value, St Ha wa H w [.row 94 4 v78 n79 cs80] ∧ Inc Ha H ∧ Els (up wa.heap.size H) eResStep 4 cs80 s33 ∧ (bl cs80).Nodup ∧ f 4 = Value.int .i64 ((i33 : Nat) : Int) ∧ f 0 = v0 ∧ f 3 = v78) (fun (q : Rs (List ResStep) Empty) e f w => match q with | .go s33 => e = Exit.exit 0 ∧ (∃ H : GH, ∃ v78 : Value, ∃ n79 : Nat, ∃ cs80 : List Value, St Ha wa H w [.row 94 4 v78 n79 cs80] ∧ Inc Ha H ∧ Els (up wa.heap.size H) eResStep 4 cs80 s33 ∧ (bl cs80).Nodup ∧ f 3 = v78) | .rt x => x.elim) hq ⟨_, _, _, _, S26, (Inc.rfl _), els27, nd31, rfl, rfl, rfl⟩ ?_ ?_) ?_
  ·
    clear hp hq
    rintro i33 y32 s33 f131 w130 ⟨H127, v78, n79, cs80, S128, i129, els81, nd82, k132, k133, k134⟩ hx33 o171 hp
    refine FW.seq (FW.seq (FW.region ?_))
    refine FL.v (E.move k132) ?_
    refine FL.v (E.move k133) ?_
    refine FL.v (E.lenP te41 rfl p0) ?_
    refine FL.v (E.lssT rfl rfl (lss_len hx33)) ?_
    refine FL.nil ?_
    refine FW.condT rfl rfl ?_
    refine FW.skip (FW.seq (FW.block (FW.region ?_)))
    refine FL.v (E.move k134) ?_
    refine FL.v (E.move k132) ?_
    refine FL.v (E.move k133) ?_
    refine FL.v (E.move k132) ?_
    obtain ⟨p135, cs136, pt137, l138, at139, rel140⟩ := p0.at (ix_nat hx33)
    obtain ⟨v141, rfl, h142⟩ := eResStep_open rel140
    refine FL.v (E.indexAddr te41 rfl rfl pt137) ?_
    refine FL.v (E.load rfl (run_loadA Tryz.isAgg108 Tryz.sizeOf108 ((at139.mono i129).now S128.sl) rfl)) ?_
    obtain ⟨r143, hr144, hp⟩ := bnd hp
    refine FL.call rfl rfl rfl (E.call Tryz.call73 (A1 rfl)) (w_laws_toResStep S128.sl y32 v141 (h142.mono i129) hr144) ?_
    rintro e w146 ⟨H145, v149, rfl, r148, h150⟩
    refine ⟨_, rfl, ?_⟩
    have nv151 : New H127 [v149] := New.of_up S128.sl h150.dom
    have h150 := h150.mono (up_le S128.size)
    have S147 := S128.call r148
    obtain ⟨x158, hx159, hp⟩ := bnd hp
    obtain ⟨p152, cs153, pt154, l155, at156, rel157⟩ := S147.row_at (i := 0) rfl els81 (by decide) hx159
    obtain ⟨v160, rfl, h161⟩ := eResStep_open rel157
    refine FL.v (E.indexAddr te46 rfl rfl pt154) ?_
    obtain ⟨xs165, hput166, hp⟩ := bnd hp
    obtain ⟨w162, cs168, run163, S164, els167, ce169⟩ := S147.putEls (P := Tryz.prog) (t := 94) (i := 0) rfl (els81.mono (up_mono r148.inc)) hput166 pt154 Tryz.sizeOf94 (u := Value.agg #[v149, Value.int .i64 r143.left, Value.int .i64 r143.right, Value.int .i64 r143.pivot]) (c := [v149, Value.int .i64 r143.left, Value.int .i64 r143.right, Value.int .i64 r143.pivot]) rfl rfl (ones_cons h150.one (ones_cons rfl (ones_cons rfl (ones_cons rfl ones_nil)))) ⟨_, rfl, h150⟩
    have S164 : St Ha wa H145 w162 [.row 94 4 v78 n79 cs168] := S164
    have nd170 : (bl cs168).Nodup := by rw [ce169]; exact nd_put (Nat.le_add_right _ _) nd82 (by exact nd_one v149) (Els.dom (els81.mono (upI.tr (Inc.rfl _)))) (by exact nv151)
    refine FL.act rfl rfl (E.store rfl rfl run163) ?_
    refine FL.nil (FW.region ?_)
    refine FL.v (E.move k132) ?_
    refine FL.v (E.add rfl rfl) ?_
    refine FL.v (E.assign (v := Value.int .i64 (wr (((i33 : Nat) : Int) + 1))) rfl) ?_
    refine FL.nil ?_
    obtain rfl := Option.some.inj hp
    exact ⟨rfl, ⟨_, _, _, _, S164, (i129.tr r148.inc), els167, nd170, (nat_succ rfl (lt_of_get hx33) (p0.mono (i129.tr r148.inc)).le), k133, k134⟩⟩
  ·
    clear hp hq
    rintro s33 f182 w181 ⟨H178, v78, n79, cs80, S179, i180, els81, nd82, k183, k184, k185⟩
    refine FW.seq (FW.seq (FW.region ?_))
    refine FL.v (E.move k183) ?_
    refine FL.v (E.move k184) ?_
    refine FL.v (E.lenP te41 rfl p0) ?_
    refine FL.v (E.lss rfl rfl) ?_
    refine FL.nil ?_
    refine FW.condF rfl dlt_len ?_
    refine FW.exit ?_
    exact ⟨nofun, rfl, ⟨_, _, _, _, S179, i180, els81, nd82, k185⟩⟩
  ·
    clear hq
    intro e f176 w175 hD
    rcases q33 with s33 | x33
    ·
      obtain ⟨rfl, hD⟩ := hD
      obtain ⟨H172, v78, n79, cs80, S173, i174, els81, nd82, k177⟩ := hD
      replace hp := el_go hp
      refine FW.seq (FW.region ?_)
      refine FL.v (E.move k177) ?_
      refine FL.v (E.assign (v := v78) rfl) ?_
      refine FL.nil ?_
      refine FW.ret ?_
      obtain rfl := Option.some.inj hp
      exact ⟨.inr rfl, res1 rfl rfl ⟨_, _, _, _, rfl, S173, els81, nd82⟩⟩
    · exact x33.elim

@[reducible] def p_laws_toBench (Ha : GH) (wa : World) (r : Bench) : Ending → World → Prop :=
 fun e w' => ∃ H' : GH, ∃ v0_2 : Value, ∃ v0_3 : Value, e = .returned (Value.agg #[Value.int .i64 r.stage, Value.int .i64 r.formula.vars, v0_2, v0_3, Value.int .i64 r.wide, Value.int .i64 r.count]) ∧ Run wa.heap.size Ha wa H' w' ∧ (∃ c0 c1, Nest (up wa.heap.size H') (eL eI 1) 1 v0_2 r.formula.clauses c0 ∧ Nest (up wa.heap.size H') eResStep 4 v0_3 r.steps c1 ∧ Ap v0_2 c0 v0_3 c1)
theorem w_laws_toBench {Ha : GH} {wa : World} (hs : Sl Ha wa) (a0 : Bench) (v0_2 : Value) (p0_2 : RSl Ha (eL eI 1) 1 v0_2 a0.formula.clauses) (v0_3 : Value) (p0_3 : RSl Ha eResStep 4 v0_3 a0.steps) {r : Bench} (hp : (PF.laws_toBench a0) = some r) :
  Calls Tryz.prog 23 #[Value.agg #[Value.int .i64 a0.stage, Value.int .i64 a0.formula.vars, v0_2, v0_3, Value.int .i64 a0.wide, Value.int .i64 a0.count]] wa (p_laws_toBench Ha wa r) := by
 unfold PF.laws_toBench at hp
 have S0 := St.init hs
 refine calls_go (N := 22) (args := [Value.agg #[Value.int .i64 a0.stage, Value.int .i64 a0.formula.vars, v0_2, v0_3, Value.int .i64 a0.wide, Value.int .i64 a0.count]]) Tryz.func23 rfl rfl rfl ?_
 refine FW.seq (FW.region ?_)
 obtain ⟨b21, w22, run23, S24⟩ := S0.box (P := Tryz.prog) 43 [Value.int .i64 a0.stage, Value.int .i64 a0.formula.vars, v0_2, v0_3, Value.int .i64 a0.wide, Value.int .i64 a0.count] (v := Value.agg #[Value.int .i64 a0.stage, Value.int .i64 a0.formula.vars, v0_2, v0_3, Value.int .i64 a0.wide, Value.int .i64 a0.count]) rfl (ones_cons rfl (ones_cons rfl (ones_cons p0_2.one (ones_cons p0_3.one (ones_cons rfl (ones_cons rfl ones_nil))))))
 refine FL.v (E.box rfl run23) ?_
 obtain ⟨H25, S26, i27, at28⟩ := S24.sealBox (i := 0) (l' := []) rfl rfl
 obtain ⟨b29, w30, run31, S32⟩ := S26.alloc (P := Tryz.prog) 48 [Value.int .i64 0, Value.int .i64 0, Value.slice none 0 0, Value.slice none 0 0, Value.int .i64 0, Value.int .i64 0] Tryz.zeroValue48 rfl (ones_cons rfl (ones_cons rfl (ones_cons rfl (ones_cons rfl (ones_cons rfl (ones_cons rfl ones_nil))))))
 refine FL.v (E.alloc run31) ?_
 refine FL.nil (FW.seq (FW.region ?_))
 obtain ⟨b33, w34, run35, S36⟩ := S32.alloc (P := Tryz.prog) 48 [Value.int .i64 0, Value.int .i64 0, Value.slice none 0 0, Value.slice none 0 0, Value.int .i64 0, Value.int .i64 0] Tryz.zeroValue48 rfl (ones_cons rfl (ones_cons rfl (ones_cons rfl (ones_cons rfl (ones_cons rfl (ones_cons rfl ones_nil))))))
 refine FL.v (E.alloc run35) ?_
 refine FL.nil (FW.seq (FW.region ?_))
 refine FL.v (E.fieldAddr tf43_0 rfl) ?_
 refine FL.v (E.load rfl (run_load1 Tryz.isAgg3 (at28.now S36.sl) rfl)) ?_
 refine FL.v (E.fieldAddr tf48_0 rfl) ?_
 obtain ⟨w37, run38, S39⟩ := S36.store (P := Tryz.prog) (t := 3) (i := 0) (j := 0) (cs' := [Value.int .i64 a0.stage, Value.int .i64 0, Value.slice none 0 0, Value.slice none 0 0, Value.int .i64 0, Value.int .i64 0]) (l' := [.box b33 48 [Value.int .i64 a0.stage, Value.int .i64 0, Value.slice none 0 0, Value.slice none 0 0, Value.int .i64 0, Value.int .i64 0], .box b29 48 [Value.int .i64 0, Value.int .i64 0, Value.slice none 0 0, Value.slice none 0 0, Value.int .i64 0, Value.int .i64 0]]) (v := Value.int .i64 a0.stage) (c := [Value.int .i64 a0.stage]) rfl Tryz.sizeOf3 rfl rfl (ones_cons rfl ones_nil) (Nat.le_of_ble_eq_true rfl) rfl rfl
 refine FL.act rfl rfl (E.store rfl rfl run38) ?_
 refine FL.nil (FW.seq (FW.region ?_))
 refine FL.v (E.fieldAddr tf43_1 rfl) ?_
 refine FL.v (E.load rfl (run_loadA Tryz.isAgg24 Tryz.sizeOf24 ((at28.now S39.sl).sub (j := 1) (n := 2) (c := [Value.int .i64 a0.formula.vars, v0_2]) rfl) rfl)) ?_
 obtain ⟨r40, hr41, hp⟩ := bnd hp
 refine FL.call rfl rfl rfl (E.call Tryz.call11 (A1 rfl)) (w_laws_toCnf S39.sl a0.formula v0_2 (p0_2.mono i27) hr41) ?_
 rintro e w43 ⟨H42, v46, rfl, r45, ⟨c49, ns48⟩⟩
 refine ⟨_, rfl, ?_⟩
 have h47 := ns48.rsl
 have nv50 : New H25 c49 := New.of_up S39.sl (fun b hb => ns48.dom b (.inr hb))
 have nv51 : New H25 [v46] := New.of_up S39.sl h47.dom
 have h47 := h47.mono (up_le S39.size)
 have ns48 := ns48.mono (up_le S39.size)
 have S44 := S39.call r45
 refine FL.v (E.fieldAddr tf48_1 rfl) ?_
 obtain ⟨w52, run53, S54⟩ := S44.store (P := Tryz.prog) (t := 30) (i := 0) (j := 1) (cs' := [Value.int .i64 a0.stage, Value.int .i64 r40.vars, v46, Value.slice none 0 0, Value.int .i64 0, Value.int .i64 0]) (l' := [.box b33 48 [Value.int .i64 a0.stage, Value.int .i64 r40.vars, v46, Value.slice none 0 0, Value.int .i64 0, Value.int .i64 0], .box b29 48 [Value.int .i64 0, Value.int .i64 0, Value.slice none 0 0, Value.slice none 0 0, Value.int .i64 0, Value.int .i64 0]]) (v := Value.agg #[Value.int .i64 r40.vars, v46]) (c := [Value.int .i64 r40.vars, v46]) rfl Tryz.sizeOf30 rfl rfl (ones_cons rfl (ones_cons h47.one ones_nil)) (Nat.le_of_ble_eq_true rfl) rfl rfl
 refine FL.act rfl rfl (E.store rfl rfl run53) ?_
 refine FL.nil (FW.seq (FW.region ?_))
 refine FL.v (E.fieldAddr tf43_2 rfl) ?_
 refine FL.v (E.load rfl (run_load1 Tryz.isAgg41 ((at28.mono r45.inc).now S54.sl) rfl)) ?_
 obtain ⟨r55, hr56, hp⟩ := bnd hp
 refine FL.call rfl rfl rfl (E.call Tryz.call35 (A1 rfl)) (w_laws_toResStepS S54.sl v0_3 a0.steps (p0_3.mono (i27.tr r45.inc)) hr56) ?_
 rintro e w58 ⟨H57, v61, n62, cs63, rfl, r60, els64, nd65⟩
 refine ⟨_, rfl, ?_⟩
 have nv66 : New H42 cs63 := New.of_up S54.sl els64.dom
 have els64 := els64.mono (up_le S54.size)
 have S59 := S54.join (l' := [.row 94 4 v61 n62 cs63, .box b33 48 [Value.int .i64 a0.stage, Value.int .i64 r40.vars, v46, Value.slice none 0 0, Value.int .i64 0, Value.int .i64 0], .box b29 48 [Value.int .i64 0, Value.int .i64 0, Value.slice none 0 0, Value.slice none 0 0, Value.int .i64 0, Value.int .i64 0]]) r60 rfl
 refine FL.v (E.fieldAddr tf48_2 rfl) ?_
 obtain ⟨w67, run68, S69⟩ := S59.store (P := Tryz.prog) (t := 46) (i := 1) (j := 3) (cs' := [Value.int .i64 a0.stage, Value.int .i64 r40.vars, v46, v61, Value.int .i64 0, Value.int .i64 0]) (l' := [.row 94 4 v61 n62 cs63, .box b33 48 [Value.int .i64 a0.stage, Value.int .i64 r40.vars, v46, v61, Value.int .i64 0, Value.int .i64 0], .box b29 48 [Value.int .i64 0, Value.int .i64 0, Value.slice none 0 0, Value.slice none 0 0, Value.int .i64 0, Value.int .i64 0]]) (v := v61) (c := [v61]) rfl Tryz.sizeOf46 (Ln.cells (S59.row_ln (i := 0) rfl)) rfl (ones_cons (Ln.one (S59.row_ln (i := 0) rfl)) ones_nil) (Nat.le_of_ble_eq_true rfl) rfl rfl
 refine FL.act rfl rfl (E.store rfl rfl run68) ?_
 refine FL.nil (FW.seq (FW.region ?_))
 refine FL.v (E.fieldAddr tf43_3 rfl) ?_
 refine FL.v (E.load rfl (run_load1 Tryz.isAgg3 ((at28.mono (r45.inc.tr r60.run.inc)).now S69.sl) rfl)) ?_
 refine FL.v (E.fieldAddr tf48_3 rfl) ?_
 obtain ⟨w70, run71, S72⟩ := S69.store (P := Tryz.prog) (t := 3) (i := 1) (j := 4) (cs' := [Value.int .i64 a0.stage, Value.int .i64 r40.vars, v46, v61, Value.int .i64 a0.wide, Value.int .i64 0]) (l' := [.row 94 4 v61 n62 cs63, .box b33 48 [Value.int .i64 a0.stage, Value.int .i64 r40.vars, v46, v61, Value.int .i64 a0.wide, Value.int .i64 0], .box b29 48 [Value.int .i64 0, Value.int .i64 0, Value.slice none 0 0, Value.slice none 0 0, Value.int .i64 0, Value.int .i64 0]]) (v := Value.int .i64 a0.wide) (c := [Value.int .i64 a0.wide]) rfl Tryz.sizeOf3 rfl rfl (ones_cons rfl ones_nil) (Nat.le_of_ble_eq_true rfl) rfl rfl
 refine FL.act rfl rfl (E.store rfl rfl run71) ?_
 refine FL.nil (FW.seq (FW.region ?_))
 refine FL.v (E.fieldAddr tf43_4 rfl) ?_
 refine FL.v (E.load rfl (run_load1 Tryz.isAgg3 ((at28.mono (r45.inc.tr r60.run.inc)).now S72.sl) rfl)) ?_
 refine FL.v (E.fieldAddr tf48_4 rfl) ?_
 obtain ⟨w73, run74, S75⟩ := S72.store (P := Tryz.prog) (t := 3) (i := 1) (j := 5) (cs' := [Value.int .i64 a0.stage, Value.int .i64 r40.vars, v46, v61, Value.int .i64 a0.wide, Value.int .i64 a0.count]) (l' := [.row 94 4 v61 n62 cs63, .box b33 48 [Value.int .i64 a0.stage, Value.int .i64 r40.vars, v46, v61, Value.int .i64 a0.wide, Value.int .i64 a0.count], .box b29 48 [Value.int .i64 0, Value.int .i64 0, Value.slice none 0 0, Value.slice none 0 0, Value.int .i64 0, Value.int .i64 0]]) (v := Value.int .i64 a0.count) (c := [Value.int .i64 a0.count]) rfl Tryz.sizeOf3 rfl rfl (ones_cons rfl ones_nil) (Nat.le_of_ble_eq_true rfl) rfl rfl
 refine FL.act rfl rfl (E.store rfl rfl run74) ?_
 obtain ⟨H76, S77, i78, ns81, nv80⟩ := S75.sealRowN (i := 0) (l' := [.box b33 48 [Value.int .i64 a0.stage, Value.int .i64 r40.vars, v46, v61, Value.int .i64 a0.wide, Value.int .i64 a0.count], .box b29 48 [Value.int .i64 0, Value.int .i64 0, Value.slice none 0 0, Value.slice none 0 0, Value.int .i64 0, Value.int .i64 0]]) rfl els64 nd65 (by decide) rfl
 have h79 := ns81.rsl
 obtain ⟨H82, S83, i84, at85⟩ := S77.sealBox (i := 0) (l' := [.box b29 48 [Value.int .i64 0, Value.int .i64 0, Value.slice none 0 0, Value.slice none 0 0, Value.int .i64 0, Value.int .i64 0]]) rfl rfl
 refine FL.nil (FW.seq (FW.region ?_))
 refine FL.v (E.load rfl (run_loadA Tryz.isAgg48 Tryz.sizeOf48 (at85.now S83.sl) rfl)) ?_
 obtain ⟨w86, run87, S88⟩ := S83.store0 (P := Tryz.prog) (t := 48) (i := 0) (cs' := [Value.int .i64 a0.stage, Value.int .i64 r40.vars, v46, v61, Value.int .i64 a0.wide, Value.int .i64 a0.count]) (l' := [.box b29 48 [Value.int .i64 a0.stage, Value.int .i64 r40.vars, v46, v61, Value.int .i64 a0.wide, Value.int .i64 a0.count]]) (v := Value.agg #[Value.int .i64 a0.stage, Value.int .i64 r40.vars, v46, v61, Value.int .i64 a0.wide, Value.int .i64 a0.count]) (c := [Value.int .i64 a0.stage, Value.int .i64 r40.vars, v46, v61, Value.int .i64 a0.wide, Value.int .i64 a0.count]) rfl Tryz.sizeOf48 rfl rfl (ones_cons rfl (ones_cons rfl (ones_cons h47.one (ones_cons h79.one (ones_cons rfl (ones_cons rfl ones_nil)))))) (Nat.le_of_ble_eq_true rfl) rfl rfl
 refine FL.act rfl rfl (E.store rfl rfl run87) ?_
 obtain ⟨H89, S90, i91, at92⟩ := S88.sealBox (i := 0) (l' := []) rfl rfl
 refine FL.nil ?_
 refine FW.ret ?_
 obtain rfl := Option.some.inj hp
 exact ⟨.inr rfl, resC rfl rfl (loadVar_A Tryz.isAgg48 Tryz.sizeOf48 (at92.now S90.sl) rfl) ⟨_, _, _, rfl, S90.run, ⟨_, _, (ns48.mono (up_mono (((r60.run.inc.tr i78).tr i84).tr i91))), (ns81.mono (up_mono (i84.tr i91))), (Ap.of (ns48.mono upI) r60.run.inc (Inc.rfl _) nv80 nv66)⟩⟩⟩

theorem w_spec_l1In {Ha : GH} {wa : World} (hs : Sl Ha wa) (a0 : Int) (a1 : Int) (a2 : Int) :
  Calls Tryz.prog 104 #[Value.int .i64 a0, Value.int .i64 a1, Value.int .i64 a2] wa (Sc Ha wa (Value.bool (PF.spec_l1In a0 a1 a2))) := by
 obtain ⟨r, hp⟩ : ∃ r, (PF.spec_l1In a0 a1 a2) = r := ⟨_, rfl⟩
 rw [hp]
 unfold PF.spec_l1In at hp
 have S0 := St.init hs
 refine calls_go (N := 15) (args := [Value.int .i64 a0, Value.int .i64 a1, Value.int .i64 a2]) Tryz.func104 rfl rfl rfl ?_
 refine FW.seq (FW.region ?_)
 refine FL.v (E.assign (v := Value.bool false) rfl) ?_
 refine FL.nil (FW.seq (FW.region ?_))
 refine FL.v (E.move (v := Value.int .i64 a0) rfl) ?_
 refine FL.v (E.move (v := Value.int .i64 a1) rfl) ?_
 refine FL.v (E.geq rfl rfl) ?_
 refine FL.v (E.move (v := Value.bool (decide (a1 ≤ a0))) rfl) ?_
 refine FL.cut 4 (fun f w => ∃ H : GH, St Ha wa H w [] ∧ Inc Ha H ∧ f 14 = Value.bool (bif (decide (a1 ≤ a0)) then (decide (a0 ≤ a2)) else false)) ?_ ?_
 ·
  rcases bcase (decide (a1 ≤ a0)) with c27 | c27
  ·
   refine FL.val (wF_yes rfl rfl rfl c27) rfl rfl (E.move (v := Value.int .i64 a0) rfl) ?_
   refine FL.val (wF_yes rfl rfl rfl c27) rfl rfl (E.move (v := Value.int .i64 a2) rfl) ?_
   refine FL.val (wF_yes rfl rfl rfl c27) rfl rfl (E.leq rfl rfl) ?_
   refine FL.v (E.pickT rfl c27 rfl) ?_
   exact FL.nil ⟨rfl, _, S0, (Inc.rfl _), (congrArg Value.bool (bifT c27).symm)⟩
  ·
   refine FL.skip (wF_no rfl rfl rfl c27) rfl ?_
   refine FL.skip (wF_no rfl rfl rfl c27) rfl ?_
   refine FL.skip (wF_no rfl rfl rfl c27) rfl ?_
   refine FL.v (E.pickF rfl c27 rfl) ?_
   exact FL.nil ⟨rfl, _, S0, (Inc.rfl _), (congrArg Value.bool (bifF c27).symm)⟩
 rintro f26 w25 ⟨H22, S23, i24, k28⟩
 refine FL.v (E.assign k28) ?_
 refine FL.nil ?_
 refine FW.ret ?_
 obtain rfl := hp
 exact ⟨.inr rfl, res1 rfl rfl ⟨rfl, S23.back⟩⟩

theorem w_spec_l2Vars {Ha : GH} {wa : World} (hs : Sl Ha wa) (a0 : Int) :
  Calls Tryz.prog 90 #[Value.int .i64 a0] wa (Sc Ha wa (Value.bool (PF.spec_l2Vars a0))) := by
 obtain ⟨r, hp⟩ : ∃ r, (PF.spec_l2Vars a0) = r := ⟨_, rfl⟩
 rw [hp]
 unfold PF.spec_l2Vars at hp
 have S0 := St.init hs
 refine calls_go (N := 5) (args := [Value.int .i64 a0]) Tryz.func90 rfl rfl rfl ?_
 refine FW.seq (FW.region ?_)
 refine FL.v (E.assign (v := Value.bool false) rfl) ?_
 refine FL.nil (FW.seq (FW.region ?_))
 refine FL.v (E.move (v := Value.int .i64 a0) rfl) ?_
 refine FL.call rfl rfl rfl (E.call Tryz.call104 (A3 rfl rfl rfl)) (w_spec_l1In S0.sl a0 0 12) ?_
 rintro e w21 ⟨rfl, r22⟩
 refine ⟨_, rfl, ?_⟩
 have S23 := S0.call r22
 refine FL.v (E.assign (v := Value.bool (PF.spec_l1In a0 0 12)) rfl) ?_
 refine FL.nil ?_
 refine FW.ret ?_
 obtain rfl := hp
 exact ⟨.inr rfl, res1 rfl rfl ⟨rfl, S23.back⟩⟩

theorem w_spec_l2Lit {Ha : GH} {wa : World} (hs : Sl Ha wa) (a0 : Int) (a1 : Int) :
  Calls Tryz.prog 149 #[Value.int .i64 a0, Value.int .i64 a1] wa (Sc Ha wa (Value.bool (PF.spec_l2Lit a0 a1))) := by
 obtain ⟨r, hp⟩ : ∃ r, (PF.spec_l2Lit a0 a1) = r := ⟨_, rfl⟩
 rw [hp]
 unfold PF.spec_l2Lit at hp
 have S0 := St.init hs
 refine calls_go (N := 14) (args := [Value.int .i64 a0, Value.int .i64 a1]) Tryz.func149 rfl rfl rfl ?_
 refine FW.seq (FW.region ?_)
 refine FL.v (E.assign (v := Value.bool false) rfl) ?_
 refine FL.nil (FW.seq (FW.region ?_))
 refine FL.v (E.move (v := Value.int .i64 a1) rfl) ?_
 refine FL.v (E.move (v := Value.int .i64 a0) rfl) ?_
 refine FL.v (E.neg rfl) ?_
 refine FL.v (E.move (v := Value.int .i64 a0) rfl) ?_
 refine FL.call rfl rfl rfl (E.call Tryz.call104 (A3 rfl rfl rfl)) (w_spec_l1In S0.sl a1 (wr (-a0)) a0) ?_
 rintro e w21 ⟨rfl, r22⟩
 refine ⟨_, rfl, ?_⟩
 have S23 := S0.call r22
 refine FL.v (E.move (v := Value.bool (PF.spec_l1In a1 (wr (-a0)) a0)) rfl) ?_
 refine FL.cut 3 (fun f w => ∃ H : GH, St Ha wa H w [] ∧ Inc Ha H ∧ f 13 = Value.bool (bif (PF.spec_l1In a1 (wr (-a0)) a0) then (!(a1 == 0)) else false)) ?_ ?_
 ·
  rcases bcase (PF.spec_l1In a1 (wr (-a0)) a0) with c30 | c30
  ·
   refine FL.val (wF_yes rfl rfl rfl c30) rfl rfl (E.move (v := Value.int .i64 a1) rfl) ?_
   refine FL.val (wF_yes rfl rfl rfl c30) rfl rfl (E.neq rfl rfl) ?_
   refine FL.v (E.pickT rfl c30 rfl) ?_
   exact FL.nil ⟨rfl, _, S23, (Inc.rfl _), (congrArg Value.bool (bifT c30).symm)⟩
  ·
   refine FL.skip (wF_no rfl rfl rfl c30) rfl ?_
   refine FL.skip (wF_no rfl rfl rfl c30) rfl ?_
   refine FL.v (E.pickF rfl c30 rfl) ?_
   exact FL.nil ⟨rfl, _, S23, (Inc.rfl _), (congrArg Value.bool (bifF c30).symm)⟩
 rintro f29 w28 ⟨H25, S26, i27, k31⟩
 refine FL.v (E.assign k31) ?_
 refine FL.nil ?_
 refine FW.ret ?_
 obtain rfl := hp
 exact ⟨.inr rfl, res1 rfl rfl ⟨rfl, S26.back⟩⟩

theorem w_spec_l2Var {Ha : GH} {wa : World} (hs : Sl Ha wa) (a0 : Int) :
  Calls Tryz.prog 138 #[Value.int .i64 a0] wa (Sc Ha wa (Value.int .i64 (PF.spec_l2Var a0))) := by
 obtain ⟨r, hp⟩ : ∃ r, (PF.spec_l2Var a0) = r := ⟨_, rfl⟩
 rw [hp]
 unfold PF.spec_l2Var at hp
 have S0 := St.init hs
 refine calls_go (N := 8) (args := [Value.int .i64 a0]) Tryz.func138 rfl rfl rfl ?_
 refine FW.seq (FW.region ?_)
 refine FL.v (E.assign (v := Value.int .i64 0) rfl) ?_
 refine FL.nil (FW.seq (FW.seq (FW.region ?_)))
 refine FL.v (E.move (v := Value.int .i64 a0) rfl) ?_
 refine FL.v (E.lss rfl rfl) ?_
 refine FL.nil ?_
 rcases ifT hp with ⟨c21, hp⟩ | ⟨c21, hp⟩
 ·
  refine FW.condT rfl c21 ?_
  refine FW.seq (FW.region ?_)
  refine FL.v (E.move (v := Value.int .i64 a0) rfl) ?_
  refine FL.v (E.neg rfl) ?_
  refine FL.v (E.assign (v := Value.int .i64 (wr (-a0))) rfl) ?_
  refine FL.nil ?_
  refine FW.ret ?_
  obtain rfl := hp
  exact ⟨.inr rfl, res1 rfl rfl ⟨rfl, S0.back⟩⟩
 ·
  refine FW.condF rfl c21 ?_
  refine FW.skip (FW.seq (FW.region ?_))
  refine FL.v (E.move (v := Value.int .i64 a0) rfl) ?_
  refine FL.v (E.assign (v := Value.int .i64 a0) rfl) ?_
  refine FL.nil ?_
  refine FW.ret ?_
  obtain rfl := hp
  exact ⟨.inr rfl, res1 rfl rfl ⟨rfl, S0.back⟩⟩

theorem w_spec_l2Clause {Ha : GH} {wa : World} (hs : Sl Ha wa) (a0 : Int) (v1 : Value) (a1 : List Int) (p1 : RSl Ha eI 1 v1 a1) {r : Bool} (hp : (PF.spec_l2Clause a0 a1) = some r) :
  Calls Tryz.prog 91 #[Value.int .i64 a0, v1] wa (Sc Ha wa (Value.bool r)) := by
 unfold PF.spec_l2Clause at hp
 have S0 := St.init hs
 refine calls_go (N := 40) (args := [Value.int .i64 a0, v1]) Tryz.func91 rfl rfl rfl ?_
 refine FW.seq (FW.region ?_)
 refine FL.v (E.assign (v := Value.bool false) rfl) ?_
 refine FL.nil (FW.seq (FW.seq (FW.region ?_)))
 refine FL.v (E.move (v := Value.int .i64 a0) rfl) ?_
 refine FL.call rfl rfl rfl (E.call Tryz.call90 (A1 rfl)) (w_spec_l2Vars S0.sl a0) ?_
 rintro e w21 ⟨rfl, r22⟩
 refine ⟨_, rfl, ?_⟩
 have S23 := S0.call r22
 refine FL.v (E.not rfl) ?_
 refine FL.nil ?_
 rcases ifB hp with ⟨c24, hp⟩ | ⟨c24, hp⟩
 ·
  refine FW.condT rfl c24 ?_
  refine FW.seq (FW.region ?_)
  refine FL.v (E.assign (v := Value.bool false) rfl) ?_
  refine FL.nil ?_
  refine FW.ret ?_
  obtain rfl := Option.some.inj hp
  exact ⟨.inr rfl, res1 rfl rfl ⟨rfl, S23.back⟩⟩
 ·
  refine FW.condF rfl c24 ?_
  refine FW.skip (FW.seq (FW.seq (FW.region ?_)))
  refine FL.v (E.assign (v := Value.int .i64 0) rfl) ?_
  refine FL.nil ?_
  obtain ⟨q26, hq, hp⟩ := bndR hp
  refine FW.block ?_
  refine FW.mono (FW.forL (S := Unit) (X := Bool) (fun (i26 : Nat) (s26 : Unit) f w => ∃ H : GH, St Ha wa H w [] ∧ Inc Ha H ∧ f 5 = Value.int .i64 ((i26 : Nat) : Int) ∧ f 0 = Value.int .i64 a0 ∧ f 1 = v1) (fun q e f w => match q with | .go s26 => e = Exit.exit 0 ∧ (∃ H : GH, St Ha wa H w [] ∧ Inc Ha H) | .rt x => ((e = Exit.ret) ∧ (fun e f w => (e = Exit.normal ∨ e = Exit.ret) ∧ ∀ a, Fr (δ := []) 40 a f → ∃ v, (results Tryz.f91 a.tmps).run Tryz.prog w = .ok v w ∧ (Sc Ha wa (Value.bool x)) (.returned v) w) e f w)) hq ⟨_, S23, (Inc.rfl _), rfl, rfl, rfl⟩ ?_ ?_) ?_
  ·
   clear hp hq
   rintro i26 y25 s26 f141 w140 ⟨H137, S138, i139, k142, k143, k144⟩ hx26 o247 hp
   refine FW.seq (FW.seq (FW.region ?_))
   refine FL.v (E.move k142) ?_
   refine FL.v (E.move k144) ?_
   refine FL.v (E.lenP te84 rfl p1) ?_
   refine FL.v (E.lssT rfl rfl (lss_len hx26)) ?_
   refine FL.nil ?_
   refine FW.condT rfl rfl ?_
   refine FW.skip (FW.seq (FW.block (FW.seq ?_)))
   refine FW.draw (fun w' => Run w140.heap.size H137 w140 H137 w') (by kernel_rfl) (by kernel_rfl) (run_drew S138.sl) ?_
   refine FD.val rfl rfl rfl (fun w' hw' => (E.move k143)) ?_
   refine FD.val rfl rfl rfl (fun w' hw' => (E.move k144)) ?_
   refine FD.val rfl rfl rfl (fun w' hw' => (E.move k142)) ?_
   obtain ⟨p146, cs147, pt148, l149, at150, rel151⟩ := p1.at (ix_nat hx26)
   obtain rfl := eI_open rel151
   refine FD.val rfl rfl rfl (fun w' hw' => (E.indexAddr te84 rfl rfl pt148)) ?_
   refine FD.val rfl rfl rfl (fun w' hw' => (E.load rfl (run_load0 Tryz.isAgg3 ((at150.mono i139).now (S138.call hw').sl) rfl))) ?_
   refine FD.call rfl rfl rfl (fun w' hw' => (E.call Tryz.call149 (A2 rfl rfl))) (fun w' hw' => Calls.cls hw' (w_spec_l2Lit (S138.call hw').sl a0 y25)) ?_
   refine FD.val rfl rfl rfl (fun w' hw' => (E.not rfl)) ?_
   refine FD.val rfl rfl rfl (fun w' hw' => (E.move (v := Value.bool (!(PF.spec_l2Lit a0 y25))) rfl)) ?_
   obtain ⟨t192, hqt192, hp⟩ := bnd hp
   refine FD.cut 17 (fun f => f 0 = Value.int .i64 a0 ∧ f 1 = v1 ∧ f 5 = Value.int .i64 ((i26 : Nat) : Int) ∧ f 39 = Value.bool t192) ?_ ?_
   ·
    clear hp; have hp := hqt192; clear hqt192
    rcases ifB hp with ⟨c198, hp⟩ | ⟨c198, hp⟩
    ·
     refine FD.skip (wF_no rfl rfl rfl c198) rfl ?_
     refine FD.skip (wF_no rfl rfl rfl c198) rfl ?_
     refine FD.skip (wF_no rfl rfl rfl c198) rfl ?_
     refine FD.skip (wF_undef rfl rfl rfl) rfl ?_
     refine FD.skip (wF_undef rfl rfl rfl) rfl ?_
     refine FD.skip (wF_undef rfl rfl rfl) rfl ?_
     refine FD.skip (wF_undef rfl rfl rfl) rfl ?_
     refine FD.skip (wF_undef rfl rfl rfl) rfl ?_
     refine FD.skip (wF_undef rfl rfl rfl) rfl ?_
     refine FD.skip (wF_undef rfl rfl rfl) rfl ?_
     refine FD.skip (wF_undef rfl rfl rfl) rfl ?_
     refine FD.skip (wF_undef rfl rfl rfl) rfl ?_
     refine FD.skip (wF_undef rfl rfl rfl) rfl ?_
     refine FD.skip (wF_undef rfl rfl rfl) rfl ?_
     refine FD.skip (wF_undef rfl rfl rfl) rfl ?_
     refine FD.skip (wF_no rfl rfl rfl c198) rfl ?_
     obtain rfl := Option.some.inj hp
     refine FD.val rfl rfl rfl (fun w' hw' => (E.pickT rfl c198 rfl)) ?_
     exact FD.nil ⟨k143, k144, k142, rfl⟩
    ·
     refine FD.val (wF_yes rfl rfl rfl c198) rfl rfl (fun w' hw' => (E.move k142)) ?_
     refine FD.val (wF_yes rfl rfl rfl c198) rfl rfl (fun w' hw' => (E.gtr rfl rfl)) ?_
     refine FD.val (wF_yes rfl rfl rfl c198) rfl rfl (fun w' hw' => (E.move (v := Value.bool (decide (0 < ((i26 : Nat) : Int)))) rfl)) ?_
     obtain ⟨t213, hqt213, hp⟩ := bnd hp
     refine FD.cut 13 (fun f => f 0 = Value.int .i64 a0 ∧ f 1 = v1 ∧ f 5 = Value.int .i64 ((i26 : Nat) : Int) ∧ f 22 = Value.bool (!(PF.spec_l2Lit a0 y25)) ∧ f 38 = Value.bool t213) ?_ ?_
     ·
      clear hp; have hp := hqt213; clear hqt213
      rcases ifB hp with ⟨c219, hp⟩ | ⟨c219, hp⟩
      ·
       refine FD.val (wF_yes rfl rfl rfl c219) rfl rfl (fun w' hw' => (E.move k144)) ?_
       refine FD.val (wF_yes rfl rfl rfl c219) rfl rfl (fun w' hw' => (E.move k142)) ?_
       refine FD.val (wF_yes rfl rfl rfl c219) rfl rfl (fun w' hw' => (E.sub rfl rfl)) ?_
       obtain ⟨x226, hx227, hp⟩ := bnd hp
       obtain ⟨p220, cs221, pt222, l223, at224, rel225⟩ := p1.at hx227
       obtain rfl := eI_open rel225
       refine FD.val (wF_yes rfl rfl rfl c219) rfl rfl (fun w' hw' => (E.indexAddr te84 rfl rfl pt222)) ?_
       refine FD.val (wF_yes rfl rfl rfl c219) rfl rfl (fun w' hw' => (E.load rfl (run_load0 Tryz.isAgg3 ((at224.mono i139).now (S138.call hw').sl) rfl))) ?_
       refine FD.call (wF_yes rfl rfl rfl c219) rfl rfl (fun w' hw' => (E.call Tryz.call138 (A1 rfl))) (fun w' hw' => Calls.cls hw' (w_spec_l2Var (S138.call hw').sl x226)) ?_
       refine FD.val (wF_yes rfl rfl rfl c219) rfl rfl (fun w' hw' => (E.move k144)) ?_
       refine FD.val (wF_yes rfl rfl rfl c219) rfl rfl (fun w' hw' => (E.move k142)) ?_
       obtain ⟨p228, cs229, pt230, l231, at232, rel233⟩ := p1.at (ix_nat hx26)
       obtain rfl := eI_open rel233
       refine FD.val (wF_yes rfl rfl rfl c219) rfl rfl (fun w' hw' => (E.indexAddr te84 rfl rfl pt230)) ?_
       refine FD.val (wF_yes rfl rfl rfl c219) rfl rfl (fun w' hw' => (E.load rfl (run_load0 Tryz.isAgg3 ((at232.mono i139).now (S138.call hw').sl) rfl))) ?_
       refine FD.call (wF_yes rfl rfl rfl c219) rfl rfl (fun w' hw' => (E.call Tryz.call138 (A1 rfl))) (fun w' hw' => Calls.cls hw' (w_spec_l2Var (S138.call hw').sl y25)) ?_
       refine FD.val (wF_yes rfl rfl rfl c219) rfl rfl (fun w' hw' => (E.geq rfl rfl)) ?_
       obtain rfl := Option.some.inj hp
       refine FD.val (wF_yes rfl rfl rfl c198) rfl rfl (fun w' hw' => (E.pickT rfl c219 rfl)) ?_
       exact FD.nil ⟨k143, k144, k142, rfl, rfl⟩
      ·
       refine FD.skip (wF_no rfl rfl rfl c219) rfl ?_
       refine FD.skip (wF_no rfl rfl rfl c219) rfl ?_
       refine FD.skip (wF_no rfl rfl rfl c219) rfl ?_
       refine FD.skip (wF_no rfl rfl rfl c219) rfl ?_
       refine FD.skip (wF_no rfl rfl rfl c219) rfl ?_
       refine FD.skip (wF_no rfl rfl rfl c219) rfl ?_
       refine FD.skip (wF_no rfl rfl rfl c219) rfl ?_
       refine FD.skip (wF_no rfl rfl rfl c219) rfl ?_
       refine FD.skip (wF_no rfl rfl rfl c219) rfl ?_
       refine FD.skip (wF_no rfl rfl rfl c219) rfl ?_
       refine FD.skip (wF_no rfl rfl rfl c219) rfl ?_
       refine FD.skip (wF_no rfl rfl rfl c219) rfl ?_
       obtain rfl := Option.some.inj hp
       refine FD.val (wF_yes rfl rfl rfl c198) rfl rfl (fun w' hw' => (E.pickF rfl c219 rfl)) ?_
       exact FD.nil ⟨k143, k144, k142, rfl, rfl⟩
     rintro f218 ⟨k234, k235, k236, k237, k238⟩
     obtain rfl := Option.some.inj hp
     refine FD.val rfl rfl rfl (fun w' hw' => (E.pickF k237 c198 k238)) ?_
     exact FD.nil ⟨k234, k235, k236, rfl⟩
   rintro f197 ⟨k239, k240, k241, k242⟩
   refine FD.nil ?_
   intro w243 r245
   have S244 := S138.call r245
   rcases ifB hp with ⟨c246, hp⟩ | ⟨c246, hp⟩
   ·
    refine FW.condT k242 c246 ?_
    refine FW.seq (FW.region ?_)
    refine FL.v (E.assign (v := Value.bool false) rfl) ?_
    refine FL.nil ?_
    refine FW.ret ?_
    obtain rfl := Option.some.inj hp
    exact ⟨nofun, rfl, ⟨.inr rfl, res1 rfl rfl ⟨rfl, S244.back⟩⟩⟩
   ·
    refine FW.condF k242 c246 ?_
    refine FW.skip (FW.region ?_)
    refine FL.v (E.move k241) ?_
    refine FL.v (E.add rfl rfl) ?_
    refine FL.v (E.assign (v := Value.int .i64 (wr (((i26 : Nat) : Int) + 1))) rfl) ?_
    refine FL.nil ?_
    obtain rfl := Option.some.inj hp
    exact ⟨rfl, ⟨_, S244, i139, (nat_succ rfl (lt_of_get hx26) (p1.mono i139).le), k239, k240⟩⟩
  ·
   clear hp hq
   rintro s26 f257 w256 ⟨H253, S254, i255, k258, k259, k260⟩
   refine FW.seq (FW.seq (FW.region ?_))
   refine FL.v (E.move k258) ?_
   refine FL.v (E.move k260) ?_
   refine FL.v (E.lenP te84 rfl p1) ?_
   refine FL.v (E.lss rfl rfl) ?_
   refine FL.nil ?_
   refine FW.condF rfl dlt_len ?_
   refine FW.exit ?_
   exact ⟨nofun, rfl, ⟨_, S254, i255⟩⟩
  ·
   clear hq
   intro e f252 w251 hD
   rcases q26 with s26 | x26
   ·
    obtain ⟨rfl, hD⟩ := hD
    obtain ⟨H248, S249, i250⟩ := hD
    replace hp := el_go hp
    refine FW.seq (FW.region ?_)
    refine FL.v (E.assign (v := Value.bool true) rfl) ?_
    refine FL.nil ?_
    refine FW.ret ?_
    obtain rfl := Option.some.inj hp
    exact ⟨.inr rfl, res1 rfl rfl ⟨rfl, S249.back⟩⟩
   ·
    obtain ⟨he, hL⟩ := hD
    replace hp := el_rt hp
    obtain rfl := Option.some.inj hp
    subst he
    exact hL

theorem w_spec_l2Good {Ha : GH} {wa : World} (hs : Sl Ha wa) (a0 : Cnf) (v0_1 : Value) (p0_1 : RSl Ha (eL eI 1) 1 v0_1 a0.clauses) {r : Bool} (hp : (PF.spec_l2Good a0) = some r) :
  Calls Tryz.prog 43 #[Value.agg #[Value.int .i64 a0.vars, v0_1]] wa (Sc Ha wa (Value.bool r)) := by
 unfold PF.spec_l2Good at hp
 have S0 := St.init hs
 refine calls_go (N := 30) (args := [Value.agg #[Value.int .i64 a0.vars, v0_1]]) Tryz.func43 rfl rfl rfl ?_
 refine FW.seq (FW.region ?_)
 obtain ⟨b21, w22, run23, S24⟩ := S0.box (P := Tryz.prog) 30 [Value.int .i64 a0.vars, v0_1] (v := Value.agg #[Value.int .i64 a0.vars, v0_1]) rfl (ones_cons rfl (ones_cons p0_1.one ones_nil))
 refine FL.v (E.box rfl run23) ?_
 obtain ⟨H25, S26, i27, at28⟩ := S24.sealBox (i := 0) (l' := []) rfl rfl
 refine FL.v (E.assign (v := Value.bool false) rfl) ?_
 refine FL.nil (FW.seq (FW.seq (FW.region ?_)))
 refine FL.v (E.fieldAddr tf30_0 rfl) ?_
 refine FL.v (E.load rfl (run_load1 Tryz.isAgg3 (at28.now S26.sl) rfl)) ?_
 refine FL.call rfl rfl rfl (E.call Tryz.call90 (A1 rfl)) (w_spec_l2Vars S26.sl a0.vars) ?_
 rintro e w29 ⟨rfl, r30⟩
 refine ⟨_, rfl, ?_⟩
 have S31 := S26.call r30
 refine FL.v (E.not rfl) ?_
 refine FL.v (E.move (v := Value.bool (!(PF.spec_l2Vars a0.vars))) rfl) ?_
 refine FL.cut 5 (fun f w => ∃ H : GH, St Ha wa H w [] ∧ Inc H25 H ∧ f 1 = Value.pointer (some ⟨b21, 0, none⟩) ∧ f 13 = Value.bool (bif (!(PF.spec_l2Vars a0.vars)) then true else (decide (60 < (len a0.clauses))))) ?_ ?_
 ·
  rcases bcase (!(PF.spec_l2Vars a0.vars)) with c38 | c38
  ·
   refine FL.skip (wF_no rfl rfl rfl c38) rfl ?_
   refine FL.skip (wF_no rfl rfl rfl c38) rfl ?_
   refine FL.skip (wF_no rfl rfl rfl c38) rfl ?_
   refine FL.skip (wF_no rfl rfl rfl c38) rfl ?_
   refine FL.v (E.pickT rfl c38 rfl) ?_
   exact FL.nil ⟨rfl, _, S31, (Inc.rfl _), rfl, (congrArg Value.bool (bifT c38).symm)⟩
  ·
   refine FL.val (wF_yes rfl rfl rfl c38) rfl rfl (E.fieldAddr tf30_1 rfl) ?_
   refine FL.val (wF_yes rfl rfl rfl c38) rfl rfl (E.load rfl (run_load1 Tryz.isAgg22 (at28.now S31.sl) rfl)) ?_
   refine FL.val (wF_yes rfl rfl rfl c38) rfl rfl (E.lenP te22 rfl p0_1) ?_
   refine FL.val (wF_yes rfl rfl rfl c38) rfl rfl (E.gtr rfl rfl) ?_
   refine FL.v (E.pickF rfl c38 rfl) ?_
   exact FL.nil ⟨rfl, _, S31, (Inc.rfl _), rfl, (congrArg Value.bool (bifF c38).symm)⟩
 rintro f37 w36 ⟨H33, S34, i35, k39, k40⟩
 refine FL.nil ?_
 rcases ifB hp with ⟨c41, hp⟩ | ⟨c41, hp⟩
 ·
  refine FW.condT k40 c41 ?_
  refine FW.seq (FW.region ?_)
  refine FL.v (E.assign (v := Value.bool false) rfl) ?_
  refine FL.nil ?_
  refine FW.ret ?_
  obtain rfl := Option.some.inj hp
  exact ⟨.inr rfl, res1 rfl rfl ⟨rfl, S34.back⟩⟩
 ·
  refine FW.condF k40 c41 ?_
  refine FW.skip (FW.seq (FW.seq (FW.region ?_)))
  refine FL.v (E.assign (v := Value.int .i64 0) rfl) ?_
  refine FL.nil ?_
  obtain ⟨q42, hq, hp⟩ := bndR hp
  refine FW.block ?_
  refine FW.mono (FW.iter (S := Int) (X := Bool) (fun (s42 : Int) f w => ∃ H : GH, St Ha wa H w [] ∧ Inc H33 H ∧ f 1 = Value.pointer (some ⟨b21, 0, none⟩) ∧ f 3 = Value.int .i64 s42) (fun q e f w => match q with | .go s42 => e = Exit.exit 0 ∧ (∃ H : GH, St Ha wa H w [] ∧ Inc H33 H) | .rt x => ((e = Exit.ret) ∧ (fun e f w => (e = Exit.normal ∨ e = Exit.ret) ∧ ∀ a, Fr (δ := []) 30 a f → ∃ v, (results Tryz.f43 a.tmps).run Tryz.prog w = .ok v w ∧ (Sc Ha wa (Value.bool x)) (.returned v) w) e f w)) hq ⟨_, S34, (Inc.rfl _), k39, rfl⟩ ?_) ?_
  ·
   clear hp hq
   rintro s42 f72 w71 ⟨H68, S69, i70, k73, k74⟩ o93 hp
   refine FW.seq (FW.seq (FW.region ?_))
   refine FL.v (E.move k74) ?_
   refine FL.v (E.fieldAddr tf30_1 k73) ?_
   refine FL.v (E.load rfl (run_load1 Tryz.isAgg22 ((at28.mono (i35.tr i70)).now S69.sl) rfl)) ?_
   refine FL.v (E.lenP te22 rfl p0_1) ?_
   refine FL.v (E.lss rfl rfl) ?_
   refine FL.nil ?_
   rcases ifB hp with ⟨c75, hp⟩ | ⟨c75, hp⟩
   ·
    refine FW.condT rfl c75 ?_
    refine FW.skip (FW.seq (FW.block (FW.seq ?_)))
    refine FW.draw (fun w' => Run w71.heap.size H68 w71 H68 w') (by kernel_rfl) (by kernel_rfl) (run_drew S69.sl) ?_
    refine FD.val rfl rfl rfl (fun w' hw' => (E.fieldAddr tf30_0 k73)) ?_
    refine FD.val rfl rfl rfl (fun w' hw' => (E.load rfl (run_load1 Tryz.isAgg3 ((at28.mono (i35.tr i70)).now (S69.call hw').sl) rfl))) ?_
    refine FD.val rfl rfl rfl (fun w' hw' => (E.fieldAddr tf30_1 k73)) ?_
    refine FD.val rfl rfl rfl (fun w' hw' => (E.load rfl (run_load1 Tryz.isAgg22 ((at28.mono (i35.tr i70)).now (S69.call hw').sl) rfl))) ?_
    refine FD.val rfl rfl rfl (fun w' hw' => (E.move k74)) ?_
    obtain ⟨x83, hx84, hp⟩ := bnd hp
    obtain ⟨p77, cs78, pt79, l80, at81, rel82⟩ := p0_1.at hx84
    obtain ⟨v85, rfl, h86⟩ := eL_open rel82
    refine FD.val rfl rfl rfl (fun w' hw' => (E.indexAddr te22 rfl rfl pt79)) ?_
    refine FD.val rfl rfl rfl (fun w' hw' => (E.load rfl (run_load0 Tryz.isAgg84 ((at81.mono ((i27.tr i35).tr i70)).now (S69.call hw').sl) rfl))) ?_
    obtain ⟨r87, hr88, hp⟩ := bnd hp
    refine FD.call rfl rfl rfl (fun w' hw' => (E.call Tryz.call91 (A2 rfl rfl))) (fun w' hw' => Calls.cls hw' (w_spec_l2Clause (S69.call hw').sl a0.vars v85 x83 (h86.mono ((i27.tr i35).tr i70)) hr88)) ?_
    refine FD.val rfl rfl rfl (fun w' hw' => (E.not rfl)) ?_
    refine FD.nil ?_
    intro w89 r91
    have S90 := S69.call r91
    rcases ifB hp with ⟨c92, hp⟩ | ⟨c92, hp⟩
    ·
     refine FW.condT rfl c92 ?_
     refine FW.seq (FW.region ?_)
     refine FL.v (E.assign (v := Value.bool false) rfl) ?_
     refine FL.nil ?_
     refine FW.ret ?_
     obtain rfl := Option.some.inj hp
     exact ⟨nofun, rfl, ⟨.inr rfl, res1 rfl rfl ⟨rfl, S90.back⟩⟩⟩
    ·
     refine FW.condF rfl c92 ?_
     refine FW.skip (FW.region ?_)
     refine FL.v (E.move k74) ?_
     refine FL.v (E.add rfl rfl) ?_
     refine FL.v (E.assign (v := Value.int .i64 (wr (s42 + 1))) rfl) ?_
     refine FL.nil ?_
     obtain rfl := Option.some.inj hp
     exact ⟨rfl, ⟨_, S90, i70, k73, rfl⟩⟩
   ·
    refine FW.condF rfl c75 ?_
    refine FW.exit ?_
    obtain rfl := Option.some.inj hp
    exact ⟨nofun, rfl, ⟨_, S69, i70⟩⟩
  ·
   clear hq
   intro e f98 w97 hD
   rcases q42 with s42 | x42
   ·
    obtain ⟨rfl, hD⟩ := hD
    obtain ⟨H94, S95, i96⟩ := hD
    replace hp := el_go hp
    refine FW.seq (FW.region ?_)
    refine FL.v (E.assign (v := Value.bool true) rfl) ?_
    refine FL.nil ?_
    refine FW.ret ?_
    obtain rfl := Option.some.inj hp
    exact ⟨.inr rfl, res1 rfl rfl ⟨rfl, S95.back⟩⟩
   ·
    obtain ⟨he, hL⟩ := hD
    replace hp := el_rt hp
    obtain rfl := Option.some.inj hp
    subst he
    exact hL

theorem w_spec_l7Asked {Ha : GH} {wa : World} (hs : Sl Ha wa) (a0 : Cnf) (v0_1 : Value) (p0_1 : RSl Ha (eL eI 1) 1 v0_1 a0.clauses) (v1 : Value) (a1 : List ResStep) (p1 : RSl Ha eResStep 4 v1 a1) {r : Bool} (hp : (PF.spec_l7Asked a0 a1) = some r) :
  Calls Tryz.prog 167 #[Value.agg #[Value.int .i64 a0.vars, v0_1], v1] wa (Sc Ha wa (Value.bool r)) := by
 unfold PF.spec_l7Asked at hp
 have S0 := St.init hs
 refine calls_go (N := 12) (args := [Value.agg #[Value.int .i64 a0.vars, v0_1], v1]) Tryz.func167 rfl rfl rfl ?_
 refine FW.seq (FW.region ?_)
 obtain ⟨b21, w22, run23, S24⟩ := S0.box (P := Tryz.prog) 30 [Value.int .i64 a0.vars, v0_1] (v := Value.agg #[Value.int .i64 a0.vars, v0_1]) rfl (ones_cons rfl (ones_cons p0_1.one ones_nil))
 refine FL.v (E.box rfl run23) ?_
 obtain ⟨H25, S26, i27, at28⟩ := S24.sealBox (i := 0) (l' := []) rfl rfl
 refine FL.v (E.assign (v := Value.bool false) rfl) ?_
 refine FL.nil (FW.seq (FW.region ?_))
 refine FL.v (E.move (v := v1) rfl) ?_
 refine FL.v (E.lenP te46 rfl p1) ?_
 refine FL.v (E.leq rfl rfl) ?_
 refine FL.v (E.move (v := Value.bool (decide ((len a1) ≤ 200))) rfl) ?_
 obtain ⟨t34, hqt34, hp⟩ := bnd hp
 refine FL.cut 3 (fun f w => ∃ H : GH, St Ha wa H w [] ∧ Inc H25 H ∧ f 11 = Value.bool t34) ?_ ?_
 ·
  clear hp; have hp := hqt34; clear hqt34
  rcases ifB hp with ⟨c40, hp⟩ | ⟨c40, hp⟩
  ·
   refine FL.val (wF_yes rfl rfl rfl c40) rfl rfl (E.load rfl (run_loadA Tryz.isAgg30 Tryz.sizeOf30 (at28.now S26.sl) rfl)) ?_
   obtain ⟨r41, hr42, hp⟩ := bnd hp
   refine FL.call (wF_yes rfl rfl rfl c40) rfl rfl (E.call Tryz.call43 (A1 rfl)) (w_spec_l2Good S26.sl a0 v0_1 (p0_1.mono i27) hr42) ?_
   rintro e w43 ⟨rfl, r44⟩
   refine ⟨_, rfl, ?_⟩
   have S45 := S26.call r44
   obtain rfl := Option.some.inj hp
   refine FL.v (E.pickT rfl c40 rfl) ?_
   exact FL.nil ⟨rfl, _, S45, (Inc.rfl _), rfl⟩
  ·
   refine FL.skip (wF_no rfl rfl rfl c40) rfl ?_
   refine FL.skip (wF_no rfl rfl rfl c40) rfl ?_
   obtain rfl := Option.some.inj hp
   refine FL.v (E.pickF rfl c40 rfl) ?_
   exact FL.nil ⟨rfl, _, S26, (Inc.rfl _), rfl⟩
 rintro f39 w38 ⟨H35, S36, i37, k46⟩
 refine FL.v (E.assign k46) ?_
 refine FL.nil ?_
 refine FW.ret ?_
 obtain rfl := Option.some.inj hp
 exact ⟨.inr rfl, res1 rfl rfl ⟨rfl, S36.back⟩⟩

theorem w_spec_l1Same {Ha : GH} {wa : World} (hs : Sl Ha wa) (v0 : Value) (a0 : List Int) (p0 : RSl Ha eI 1 v0 a0) (v1 : Value) (a1 : List Int) (p1 : RSl Ha eI 1 v1 a1) {r : Bool} (hp : (PF.spec_l1Same a0 a1) = some r) :
  Calls Tryz.prog 107 #[v0, v1] wa (Sc Ha wa (Value.bool r)) := by
 unfold PF.spec_l1Same at hp
 have S0 := St.init hs
 refine calls_go (N := 26) (args := [v0, v1]) Tryz.func107 rfl rfl rfl ?_
 refine FW.seq (FW.region ?_)
 refine FL.v (E.assign (v := Value.bool false) rfl) ?_
 refine FL.nil (FW.seq (FW.seq (FW.region ?_)))
 refine FL.v (E.move (v := v0) rfl) ?_
 refine FL.v (E.lenP te84 rfl p0) ?_
 refine FL.v (E.move (v := v1) rfl) ?_
 refine FL.v (E.lenP te84 rfl p1) ?_
 refine FL.v (E.neq rfl rfl) ?_
 refine FL.nil ?_
 rcases ifB hp with ⟨c21, hp⟩ | ⟨c21, hp⟩
 ·
  refine FW.condT rfl c21 ?_
  refine FW.seq (FW.region ?_)
  refine FL.v (E.assign (v := Value.bool false) rfl) ?_
  refine FL.nil ?_
  refine FW.ret ?_
  obtain rfl := Option.some.inj hp
  exact ⟨.inr rfl, res1 rfl rfl ⟨rfl, S0.back⟩⟩
 ·
  refine FW.condF rfl c21 ?_
  refine FW.skip (FW.seq (FW.seq (FW.region ?_)))
  refine FL.v (E.assign (v := Value.int .i64 0) rfl) ?_
  refine FL.nil ?_
  obtain ⟨q23, hq, hp⟩ := bndR hp
  refine FW.block ?_
  refine FW.mono (FW.forL (S := Unit) (X := Bool) (fun (i23 : Nat) (s23 : Unit) f w => ∃ H : GH, St Ha wa H w [] ∧ Inc Ha H ∧ f 5 = Value.int .i64 ((i23 : Nat) : Int) ∧ f 0 = v0 ∧ f 1 = v1) (fun q e f w => match q with | .go s23 => e = Exit.exit 0 ∧ (∃ H : GH, St Ha wa H w [] ∧ Inc Ha H) | .rt x => ((e = Exit.ret) ∧ (fun e f w => (e = Exit.normal ∨ e = Exit.ret) ∧ ∀ a, Fr (δ := []) 26 a f → ∃ v, (results Tryz.f107 a.tmps).run Tryz.prog w = .ok v w ∧ (Sc Ha wa (Value.bool x)) (.returned v) w) e f w)) hq ⟨_, S0, (Inc.rfl _), rfl, rfl, rfl⟩ ?_ ?_) ?_
  ·
   clear hp hq
   rintro i23 y22 s23 f55 w54 ⟨H51, S52, i53, k56, k57, k58⟩ hx23 o78 hp
   refine FW.seq (FW.seq (FW.region ?_))
   refine FL.v (E.move k56) ?_
   refine FL.v (E.move k57) ?_
   refine FL.v (E.lenP te84 rfl p0) ?_
   refine FL.v (E.lssT rfl rfl (lss_len hx23)) ?_
   refine FL.nil ?_
   refine FW.condT rfl rfl ?_
   refine FW.skip (FW.seq (FW.block (FW.seq ?_)))
   refine FW.draw (fun w' => Run w54.heap.size H51 w54 H51 w') (by kernel_rfl) (by kernel_rfl) (run_drew S52.sl) ?_
   refine FD.val rfl rfl rfl (fun w' hw' => (E.move k57)) ?_
   refine FD.val rfl rfl rfl (fun w' hw' => (E.move k56)) ?_
   obtain ⟨p60, cs61, pt62, l63, at64, rel65⟩ := p0.at (ix_nat hx23)
   obtain rfl := eI_open rel65
   refine FD.val rfl rfl rfl (fun w' hw' => (E.indexAddr te84 rfl rfl pt62)) ?_
   refine FD.val rfl rfl rfl (fun w' hw' => (E.load rfl (run_load0 Tryz.isAgg3 ((at64.mono i53).now (S52.call hw').sl) rfl))) ?_
   refine FD.val rfl rfl rfl (fun w' hw' => (E.move k58)) ?_
   refine FD.val rfl rfl rfl (fun w' hw' => (E.move k56)) ?_
   obtain ⟨x72, hx73, hp⟩ := bnd hp
   obtain ⟨p66, cs67, pt68, l69, at70, rel71⟩ := p1.at hx73
   obtain rfl := eI_open rel71
   refine FD.val rfl rfl rfl (fun w' hw' => (E.indexAddr te84 rfl rfl pt68)) ?_
   refine FD.val rfl rfl rfl (fun w' hw' => (E.load rfl (run_load0 Tryz.isAgg3 ((at70.mono i53).now (S52.call hw').sl) rfl))) ?_
   refine FD.val rfl rfl rfl (fun w' hw' => (E.neq rfl rfl)) ?_
   refine FD.nil ?_
   intro w74 r76
   have S75 := S52.call r76
   rcases ifB hp with ⟨c77, hp⟩ | ⟨c77, hp⟩
   ·
    refine FW.condT rfl c77 ?_
    refine FW.seq (FW.region ?_)
    refine FL.v (E.assign (v := Value.bool false) rfl) ?_
    refine FL.nil ?_
    refine FW.ret ?_
    obtain rfl := Option.some.inj hp
    exact ⟨nofun, rfl, ⟨.inr rfl, res1 rfl rfl ⟨rfl, S75.back⟩⟩⟩
   ·
    refine FW.condF rfl c77 ?_
    refine FW.skip (FW.region ?_)
    refine FL.v (E.move k56) ?_
    refine FL.v (E.add rfl rfl) ?_
    refine FL.v (E.assign (v := Value.int .i64 (wr (((i23 : Nat) : Int) + 1))) rfl) ?_
    refine FL.nil ?_
    obtain rfl := Option.some.inj hp
    exact ⟨rfl, ⟨_, S75, i53, (nat_succ rfl (lt_of_get hx23) (p0.mono i53).le), k57, k58⟩⟩
  ·
   clear hp hq
   rintro s23 f88 w87 ⟨H84, S85, i86, k89, k90, k91⟩
   refine FW.seq (FW.seq (FW.region ?_))
   refine FL.v (E.move k89) ?_
   refine FL.v (E.move k90) ?_
   refine FL.v (E.lenP te84 rfl p0) ?_
   refine FL.v (E.lss rfl rfl) ?_
   refine FL.nil ?_
   refine FW.condF rfl dlt_len ?_
   refine FW.exit ?_
   exact ⟨nofun, rfl, ⟨_, S85, i86⟩⟩
  ·
   clear hq
   intro e f83 w82 hD
   rcases q23 with s23 | x23
   ·
    obtain ⟨rfl, hD⟩ := hD
    obtain ⟨H79, S80, i81⟩ := hD
    replace hp := el_go hp
    refine FW.seq (FW.region ?_)
    refine FL.v (E.assign (v := Value.bool true) rfl) ?_
    refine FL.nil ?_
    refine FW.ret ?_
    obtain rfl := Option.some.inj hp
    exact ⟨.inr rfl, res1 rfl rfl ⟨rfl, S80.back⟩⟩
   ·
    obtain ⟨he, hL⟩ := hD
    replace hp := el_rt hp
    obtain rfl := Option.some.inj hp
    subst he
    exact hL

theorem w_spec_l7Clause {Ha : GH} {wa : World} (hs : Sl Ha wa) (a0 : Cnf) (v0_1 : Value) (p0_1 : RSl Ha (eL eI 1) 1 v0_1 a0.clauses) (v1 : Value) (a1 : List ResStep) (p1 : RSl Ha eResStep 4 v1 a1) (a2 : Int) (a3 : Int) {r : Bool} (hp : (PF.spec_l7Clause a0 a1 a2 a3) = some r) :
  Calls Tryz.prog 229 #[Value.agg #[Value.int .i64 a0.vars, v0_1], v1, Value.int .i64 a2, Value.int .i64 a3] wa (Sc Ha wa (Value.bool r)) := by
 unfold PF.spec_l7Clause at hp
 have S0 := St.init hs
 refine calls_go (N := 23) (args := [Value.agg #[Value.int .i64 a0.vars, v0_1], v1, Value.int .i64 a2, Value.int .i64 a3]) Tryz.func229 rfl rfl rfl ?_
 refine FW.seq (FW.region ?_)
 obtain ⟨b21, w22, run23, S24⟩ := S0.box (P := Tryz.prog) 30 [Value.int .i64 a0.vars, v0_1] (v := Value.agg #[Value.int .i64 a0.vars, v0_1]) rfl (ones_cons rfl (ones_cons p0_1.one ones_nil))
 refine FL.v (E.box rfl run23) ?_
 obtain ⟨H25, S26, i27, at28⟩ := S24.sealBox (i := 0) (l' := []) rfl rfl
 refine FL.v (E.assign (v := Value.bool false) rfl) ?_
 refine FL.nil (FW.seq ?_)
 refine FW.draw (fun w' => Run w22.heap.size H25 w22 H25 w') (by kernel_rfl) (by kernel_rfl) (run_drew S26.sl) ?_
 refine FD.val rfl rfl rfl (fun w' hw' => (E.move (v := Value.int .i64 a3) rfl)) ?_
 refine FD.val rfl rfl rfl (fun w' hw' => (E.move (v := Value.int .i64 a2) rfl)) ?_
 refine FD.val rfl rfl rfl (fun w' hw' => (E.sub rfl rfl)) ?_
 refine FD.call rfl rfl rfl (fun w' hw' => (E.call Tryz.call104 (A3 rfl rfl rfl))) (fun w' hw' => Calls.cls hw' (w_spec_l1In (S26.call hw').sl a3 0 (wr (a2 - 1)))) ?_
 refine FD.val rfl rfl rfl (fun w' hw' => (E.move (v := Value.bool (PF.spec_l1In a3 0 (wr (a2 - 1)))) rfl)) ?_
 obtain ⟨t42, hqt42, hp⟩ := bnd hp
 refine FD.cut 9 (fun f => f 22 = Value.bool t42) ?_ ?_
 ·
  clear hp; have hp := hqt42; clear hqt42
  rcases ifB hp with ⟨c48, hp⟩ | ⟨c48, hp⟩
  ·
   refine FD.val (wF_yes rfl rfl rfl c48) rfl rfl (fun w' hw' => (E.fieldAddr tf30_0 rfl)) ?_
   refine FD.val (wF_yes rfl rfl rfl c48) rfl rfl (fun w' hw' => (E.load rfl (run_load1 Tryz.isAgg3 (at28.now (S26.call hw').sl) rfl))) ?_
   refine FD.val (wF_yes rfl rfl rfl c48) rfl rfl (fun w' hw' => (E.move (v := v1) rfl)) ?_
   refine FD.val (wF_yes rfl rfl rfl c48) rfl rfl (fun w' hw' => (E.move (v := Value.int .i64 a3) rfl)) ?_
   obtain ⟨x55, hx56, hp⟩ := bnd hp
   obtain ⟨p49, cs50, pt51, l52, at53, rel54⟩ := p1.at hx56
   obtain ⟨v57, rfl, h58⟩ := eResStep_open rel54
   refine FD.val (wF_yes rfl rfl rfl c48) rfl rfl (fun w' hw' => (E.indexAddr te46 rfl rfl pt51)) ?_
   refine FD.val (wF_yes rfl rfl rfl c48) rfl rfl (fun w' hw' => (E.fieldAddr tf94_0 rfl)) ?_
   refine FD.val (wF_yes rfl rfl rfl c48) rfl rfl (fun w' hw' => (E.load rfl (run_load1 Tryz.isAgg84 ((at53.mono i27).now (S26.call hw').sl) rfl))) ?_
   obtain ⟨r59, hr60, hp⟩ := bnd hp
   refine FD.call (wF_yes rfl rfl rfl c48) rfl rfl (fun w' hw' => (E.call Tryz.call91 (A2 rfl rfl))) (fun w' hw' => Calls.cls hw' (w_spec_l2Clause (S26.call hw').sl a0.vars v57 x55.clause (h58.mono i27) hr60)) ?_
   obtain rfl := Option.some.inj hp
   refine FD.val rfl rfl rfl (fun w' hw' => (E.pickT rfl c48 rfl)) ?_
   exact FD.nil rfl
  ·
   refine FD.skip (wF_no rfl rfl rfl c48) rfl ?_
   refine FD.skip (wF_no rfl rfl rfl c48) rfl ?_
   refine FD.skip (wF_no rfl rfl rfl c48) rfl ?_
   refine FD.skip (wF_no rfl rfl rfl c48) rfl ?_
   refine FD.skip (wF_no rfl rfl rfl c48) rfl ?_
   refine FD.skip (wF_no rfl rfl rfl c48) rfl ?_
   refine FD.skip (wF_no rfl rfl rfl c48) rfl ?_
   refine FD.skip (wF_no rfl rfl rfl c48) rfl ?_
   obtain rfl := Option.some.inj hp
   refine FD.val rfl rfl rfl (fun w' hw' => (E.pickF rfl c48 rfl)) ?_
   exact FD.nil rfl
 intro f47 k61
 refine FD.val rfl rfl rfl (fun w' hw' => (E.assign k61)) ?_
 refine FD.nil ?_
 intro w62 r64
 have S63 := S26.call r64
 refine FW.ret ?_
 obtain rfl := Option.some.inj hp
 exact ⟨.inr rfl, res1 rfl rfl ⟨rfl, S63.back⟩⟩

theorem w_spec_l1Has {Ha : GH} {wa : World} (hs : Sl Ha wa) (v0 : Value) (a0 : List Int) (p0 : RSl Ha eI 1 v0 a0) (a1 : Int) {r : Bool} (hp : (PF.spec_l1Has a0 a1) = some r) :
  Calls Tryz.prog 174 #[v0, Value.int .i64 a1] wa (Sc Ha wa (Value.bool r)) := by
 unfold PF.spec_l1Has at hp
 have S0 := St.init hs
 refine calls_go (N := 18) (args := [v0, Value.int .i64 a1]) Tryz.func174 rfl rfl rfl ?_
 refine FW.seq (FW.region ?_)
 refine FL.v (E.assign (v := Value.bool false) rfl) ?_
 refine FL.nil (FW.seq (FW.seq (FW.region ?_)))
 refine FL.v (E.assign (v := Value.int .i64 0) rfl) ?_
 refine FL.nil ?_
 obtain ⟨q22, hq, hp⟩ := bndR hp
 refine FW.block ?_
 refine FW.mono (FW.forL (S := Unit) (X := Bool) (fun (i22 : Nat) (s22 : Unit) f w => ∃ H : GH, St Ha wa H w [] ∧ Inc Ha H ∧ f 5 = Value.int .i64 ((i22 : Nat) : Int) ∧ f 0 = v0 ∧ f 1 = Value.int .i64 a1) (fun q e f w => match q with | .go s22 => e = Exit.exit 0 ∧ (∃ H : GH, St Ha wa H w [] ∧ Inc Ha H) | .rt x => ((e = Exit.ret) ∧ (fun e f w => (e = Exit.normal ∨ e = Exit.ret) ∧ ∀ a, Fr (δ := []) 18 a f → ∃ v, (results Tryz.f174 a.tmps).run Tryz.prog w = .ok v w ∧ (Sc Ha wa (Value.bool x)) (.returned v) w) e f w)) hq ⟨_, S0, (Inc.rfl _), rfl, rfl, rfl⟩ ?_ ?_) ?_
 ·
  clear hp hq
  rintro i22 y21 s22 f42 w41 ⟨H38, S39, i40, k43, k44, k45⟩ hx22 o53 hp
  refine FW.seq (FW.seq (FW.region ?_))
  refine FL.v (E.move k43) ?_
  refine FL.v (E.move k44) ?_
  refine FL.v (E.lenP te84 rfl p0) ?_
  refine FL.v (E.lssT rfl rfl (lss_len hx22)) ?_
  refine FL.nil ?_
  refine FW.condT rfl rfl ?_
  refine FW.skip (FW.seq (FW.block (FW.seq (FW.region ?_))))
  refine FL.v (E.move k44) ?_
  refine FL.v (E.move k43) ?_
  obtain ⟨p46, cs47, pt48, l49, at50, rel51⟩ := p0.at (ix_nat hx22)
  obtain rfl := eI_open rel51
  refine FL.v (E.indexAddr te84 rfl rfl pt48) ?_
  refine FL.v (E.load rfl (run_load0 Tryz.isAgg3 ((at50.mono i40).now S39.sl) rfl)) ?_
  refine FL.v (E.move k45) ?_
  refine FL.v (E.eql rfl rfl) ?_
  refine FL.nil ?_
  rcases ifB hp with ⟨c52, hp⟩ | ⟨c52, hp⟩
  ·
   refine FW.condT rfl c52 ?_
   refine FW.seq (FW.region ?_)
   refine FL.v (E.assign (v := Value.bool true) rfl) ?_
   refine FL.nil ?_
   refine FW.ret ?_
   obtain rfl := Option.some.inj hp
   exact ⟨nofun, rfl, ⟨.inr rfl, res1 rfl rfl ⟨rfl, S39.back⟩⟩⟩
  ·
   refine FW.condF rfl c52 ?_
   refine FW.skip (FW.region ?_)
   refine FL.v (E.move k43) ?_
   refine FL.v (E.add rfl rfl) ?_
   refine FL.v (E.assign (v := Value.int .i64 (wr (((i22 : Nat) : Int) + 1))) rfl) ?_
   refine FL.nil ?_
   obtain rfl := Option.some.inj hp
   exact ⟨rfl, ⟨_, S39, i40, (nat_succ rfl (lt_of_get hx22) (p0.mono i40).le), k44, k45⟩⟩
 ·
  clear hp hq
  rintro s22 f63 w62 ⟨H59, S60, i61, k64, k65, k66⟩
  refine FW.seq (FW.seq (FW.region ?_))
  refine FL.v (E.move k64) ?_
  refine FL.v (E.move k65) ?_
  refine FL.v (E.lenP te84 rfl p0) ?_
  refine FL.v (E.lss rfl rfl) ?_
  refine FL.nil ?_
  refine FW.condF rfl dlt_len ?_
  refine FW.exit ?_
  exact ⟨nofun, rfl, ⟨_, S60, i61⟩⟩
 ·
  clear hq
  intro e f58 w57 hD
  rcases q22 with s22 | x22
  ·
   obtain ⟨rfl, hD⟩ := hD
   obtain ⟨H54, S55, i56⟩ := hD
   replace hp := el_go hp
   refine FW.seq (FW.region ?_)
   refine FL.v (E.assign (v := Value.bool false) rfl) ?_
   refine FL.nil ?_
   refine FW.ret ?_
   obtain rfl := Option.some.inj hp
   exact ⟨.inr rfl, res1 rfl rfl ⟨rfl, S55.back⟩⟩
  ·
   obtain ⟨he, hL⟩ := hD
   replace hp := el_rt hp
   obtain rfl := Option.some.inj hp
   subst he
   exact hL

theorem w_spec_l2Has {Ha : GH} {wa : World} (hs : Sl Ha wa) (v0 : Value) (a0 : List Int) (p0 : RSl Ha eI 1 v0 a0) (a1 : Int) {r : Bool} (hp : (PF.spec_l2Has a0 a1) = some r) :
  Calls Tryz.prog 116 #[v0, Value.int .i64 a1] wa (Sc Ha wa (Value.bool r)) := by
 unfold PF.spec_l2Has at hp
 have S0 := St.init hs
 refine calls_go (N := 8) (args := [v0, Value.int .i64 a1]) Tryz.func116 rfl rfl rfl ?_
 refine FW.seq (FW.region ?_)
 refine FL.v (E.assign (v := Value.bool false) rfl) ?_
 refine FL.nil (FW.seq (FW.region ?_))
 refine FL.v (E.move (v := v0) rfl) ?_
 refine FL.v (E.move (v := Value.int .i64 a1) rfl) ?_
 obtain ⟨r21, hr22, hp⟩ := bnd hp
 refine FL.call rfl rfl rfl (E.call Tryz.call174 (A2 rfl rfl)) (w_spec_l1Has S0.sl v0 a0 p0 a1 hr22) ?_
 rintro e w23 ⟨rfl, r24⟩
 refine ⟨_, rfl, ?_⟩
 have S25 := S0.call r24
 refine FL.v (E.assign (v := Value.bool r21) rfl) ?_
 refine FL.nil ?_
 refine FW.ret ?_
 obtain rfl := Option.some.inj hp
 exact ⟨.inr rfl, res1 rfl rfl ⟨rfl, S25.back⟩⟩

theorem w_spec_l2Sub {Ha : GH} {wa : World} (hs : Sl Ha wa) (v0 : Value) (a0 : List Int) (p0 : RSl Ha eI 1 v0 a0) (v1 : Value) (a1 : List Int) (p1 : RSl Ha eI 1 v1 a1) {r : Bool} (hp : (PF.spec_l2Sub a0 a1) = some r) :
  Calls Tryz.prog 230 #[v0, v1] wa (Sc Ha wa (Value.bool r)) := by
 unfold PF.spec_l2Sub at hp
 have S0 := St.init hs
 refine calls_go (N := 19) (args := [v0, v1]) Tryz.func230 rfl rfl rfl ?_
 refine FW.seq (FW.region ?_)
 refine FL.v (E.assign (v := Value.bool false) rfl) ?_
 refine FL.nil (FW.seq (FW.seq (FW.region ?_)))
 refine FL.v (E.assign (v := Value.int .i64 0) rfl) ?_
 refine FL.nil ?_
 obtain ⟨q22, hq, hp⟩ := bndR hp
 refine FW.block ?_
 refine FW.mono (FW.forL (S := Unit) (X := Bool) (fun (i22 : Nat) (s22 : Unit) f w => ∃ H : GH, St Ha wa H w [] ∧ Inc Ha H ∧ f 5 = Value.int .i64 ((i22 : Nat) : Int) ∧ f 0 = v0 ∧ f 1 = v1) (fun q e f w => match q with | .go s22 => e = Exit.exit 0 ∧ (∃ H : GH, St Ha wa H w [] ∧ Inc Ha H) | .rt x => ((e = Exit.ret) ∧ (fun e f w => (e = Exit.normal ∨ e = Exit.ret) ∧ ∀ a, Fr (δ := []) 19 a f → ∃ v, (results Tryz.f230 a.tmps).run Tryz.prog w = .ok v w ∧ (Sc Ha wa (Value.bool x)) (.returned v) w) e f w)) hq ⟨_, S0, (Inc.rfl _), rfl, rfl, rfl⟩ ?_ ?_) ?_
 ·
  clear hp hq
  rintro i22 y21 s22 f47 w46 ⟨H43, S44, i45, k48, k49, k50⟩ hx22 o63 hp
  refine FW.seq (FW.seq (FW.region ?_))
  refine FL.v (E.move k48) ?_
  refine FL.v (E.move k49) ?_
  refine FL.v (E.lenP te84 rfl p0) ?_
  refine FL.v (E.lssT rfl rfl (lss_len hx22)) ?_
  refine FL.nil ?_
  refine FW.condT rfl rfl ?_
  refine FW.skip (FW.seq (FW.block (FW.seq (FW.region ?_))))
  refine FL.v (E.move k50) ?_
  refine FL.v (E.move k49) ?_
  refine FL.v (E.move k48) ?_
  obtain ⟨p51, cs52, pt53, l54, at55, rel56⟩ := p0.at (ix_nat hx22)
  obtain rfl := eI_open rel56
  refine FL.v (E.indexAddr te84 rfl rfl pt53) ?_
  refine FL.v (E.load rfl (run_load0 Tryz.isAgg3 ((at55.mono i45).now S44.sl) rfl)) ?_
  obtain ⟨r57, hr58, hp⟩ := bnd hp
  refine FL.call rfl rfl rfl (E.call Tryz.call116 (A2 rfl rfl)) (w_spec_l2Has S44.sl v1 a1 (p1.mono i45) y21 hr58) ?_
  rintro e w59 ⟨rfl, r60⟩
  refine ⟨_, rfl, ?_⟩
  have S61 := S44.call r60
  refine FL.v (E.not rfl) ?_
  refine FL.nil ?_
  rcases ifB hp with ⟨c62, hp⟩ | ⟨c62, hp⟩
  ·
   refine FW.condT rfl c62 ?_
   refine FW.seq (FW.region ?_)
   refine FL.v (E.assign (v := Value.bool false) rfl) ?_
   refine FL.nil ?_
   refine FW.ret ?_
   obtain rfl := Option.some.inj hp
   exact ⟨nofun, rfl, ⟨.inr rfl, res1 rfl rfl ⟨rfl, S61.back⟩⟩⟩
  ·
   refine FW.condF rfl c62 ?_
   refine FW.skip (FW.region ?_)
   refine FL.v (E.move k48) ?_
   refine FL.v (E.add rfl rfl) ?_
   refine FL.v (E.assign (v := Value.int .i64 (wr (((i22 : Nat) : Int) + 1))) rfl) ?_
   refine FL.nil ?_
   obtain rfl := Option.some.inj hp
   exact ⟨rfl, ⟨_, S61, i45, (nat_succ rfl (lt_of_get hx22) (p0.mono i45).le), k49, k50⟩⟩
 ·
  clear hp hq
  rintro s22 f73 w72 ⟨H69, S70, i71, k74, k75, k76⟩
  refine FW.seq (FW.seq (FW.region ?_))
  refine FL.v (E.move k74) ?_
  refine FL.v (E.move k75) ?_
  refine FL.v (E.lenP te84 rfl p0) ?_
  refine FL.v (E.lss rfl rfl) ?_
  refine FL.nil ?_
  refine FW.condF rfl dlt_len ?_
  refine FW.exit ?_
  exact ⟨nofun, rfl, ⟨_, S70, i71⟩⟩
 ·
  clear hq
  intro e f68 w67 hD
  rcases q22 with s22 | x22
  ·
   obtain ⟨rfl, hD⟩ := hD
   obtain ⟨H64, S65, i66⟩ := hD
   replace hp := el_go hp
   refine FW.seq (FW.region ?_)
   refine FL.v (E.assign (v := Value.bool true) rfl) ?_
   refine FL.nil ?_
   refine FW.ret ?_
   obtain rfl := Option.some.inj hp
   exact ⟨.inr rfl, res1 rfl rfl ⟨rfl, S65.back⟩⟩
  ·
   obtain ⟨he, hL⟩ := hD
   replace hp := el_rt hp
   obtain rfl := Option.some.inj hp
   subst he
   exact hL

@[reducible] def p_spec_l2Without (Ha : GH) (wa : World) (r : (List Int)) : Ending → World → Prop :=
  fun e w' => ∃ H' : GH, ∃ v0 : Value, ∃ n0 : Nat, ∃ c0 : List Value, e = .returned (v0) ∧ St Ha wa H' w' [.row 3 1 v0 n0 c0] ∧ Els (up wa.heap.size H') eI 1 c0 r
theorem w_spec_l2Without {Ha : GH} {wa : World} (hs : Sl Ha wa) (v0 : Value) (a0 : List Int) (p0 : RSl Ha eI 1 v0 a0) (a1 : Int) {r : (List Int)} (hp : (PF.spec_l2Without a0 a1) = some r) :
    Calls Tryz.prog 176 #[v0, Value.int .i64 a1] wa (p_spec_l2Without Ha wa r) := by
  unfold PF.spec_l2Without at hp
  have S0 := St.init hs
  refine calls_go (N := 29) (args := [v0, Value.int .i64 a1]) Tryz.func176 rfl rfl rfl ?_
  refine FW.seq (FW.region ?_)
  refine FL.v (E.assign (v := Value.slice none 0 0) rfl) ?_
  refine FL.nil (FW.seq (FW.region ?_))
  obtain ⟨v21, w22, run23, S24⟩ := S0.buildSlice (P := Tryz.prog) te84 [] (parts := #[]) (cells := []) rfl szs_nil fc_nil ones_nil (Nat.le_of_ble_eq_true rfl)
  have els25 : Els (up wa.heap.size Ha) eI 1 [] [] := Els.nil
  refine FL.v (E.buildSlice (B0) run23) ?_
  refine FL.v (E.assign (v := v21) rfl) ?_
  refine FL.nil (FW.seq (FW.seq (FW.region ?_)))
  refine FL.v (E.assign (v := Value.int .i64 0) rfl) ?_
  refine FL.nil ?_
  obtain ⟨q27, hq, hp⟩ := bndR hp
  refine FW.block ?_
  refine FW.mono (FW.forL (S := (List Int)) (X := Empty) (fun (i27 : Nat) (s27 : (List Int)) f w => ∃ H : GH, ∃ v28 : Value, ∃ n29 : Nat, ∃ cs30 : List Value, St Ha wa H w [.row 3 1 v28 n29 cs30] ∧ Inc Ha H ∧ Els (up wa.heap.size H) eI 1 cs30 s27 ∧ f 6 = Value.int .i64 ((i27 : Nat) : Int) ∧ f 0 = v0 ∧ f 1 = Value.int .i64 a1 ∧ f 5 = v28) (fun (q : Rs (List Int) Empty) e f w => match q with | .go s27 => e = Exit.exit 0 ∧ (∃ H : GH, ∃ v28 : Value, ∃ n29 : Nat, ∃ cs30 : List Value, St Ha wa H w [.row 3 1 v28 n29 cs30] ∧ Inc Ha H ∧ Els (up wa.heap.size H) eI 1 cs30 s27 ∧ f 5 = v28) | .rt x => x.elim) hq ⟨_, _, _, _, S24, (Inc.rfl _), els25, rfl, rfl, rfl, rfl⟩ ?_ ?_) ?_
  ·
    clear hp hq
    rintro i27 y26 s27 f77 w76 ⟨H73, v28, n29, cs30, S74, i75, els31, k78, k79, k80, k81⟩ hx27 o114 hp
    refine FW.seq (FW.seq (FW.region ?_))
    refine FL.v (E.move k78) ?_
    refine FL.v (E.move k79) ?_
    refine FL.v (E.lenP te84 rfl p0) ?_
    refine FL.v (E.lssT rfl rfl (lss_len hx27)) ?_
    refine FL.nil ?_
    refine FW.condT rfl rfl ?_
    refine FW.skip (FW.seq (FW.block (FW.seq (FW.region ?_))))
    refine FL.v (E.move k79) ?_
    refine FL.v (E.move k78) ?_
    obtain ⟨p82, cs83, pt84, l85, at86, rel87⟩ := p0.at (ix_nat hx27)
    obtain rfl := eI_open rel87
    refine FL.v (E.indexAddr te84 rfl rfl pt84) ?_
    refine FL.v (E.load rfl (run_load0 Tryz.isAgg3 ((at86.mono i75).now S74.sl) rfl)) ?_
    refine FL.call rfl rfl rfl (E.call Tryz.call138 (A1 rfl)) (w_spec_l2Var S74.sl y26) ?_
    rintro e w88 ⟨rfl, r89⟩
    refine ⟨_, rfl, ?_⟩
    have S90 := S74.call r89
    refine FL.v (E.move k80) ?_
    refine FL.v (E.neq rfl rfl) ?_
    refine FL.nil ?_
    rcases ifB hp with ⟨c91, hp⟩ | ⟨c91, hp⟩
    ·
      refine FW.condT rfl c91 ?_
      refine FW.region ?_
      refine FL.v (E.move k81) ?_
      refine FL.v (E.move k79) ?_
      refine FL.v (E.move k78) ?_
      obtain ⟨p92, cs93, pt94, l95, at96, rel97⟩ := p0.at (ix_nat hx27)
      obtain rfl := eI_open rel97
      refine FL.v (E.indexAddr te84 rfl rfl pt94) ?_
      refine FL.v (E.load rfl (run_load0 Tryz.isAgg3 ((at96.mono i75).now S90.sl) rfl)) ?_
      obtain ⟨v98, w99, run100, S101⟩ := S90.buildSlice (P := Tryz.prog) te84 [Value.int .i64 y26] (parts := #[(0, Value.int .i64 y26)]) (cells := [Value.int .i64 y26]) rfl (szs_cons rfl szs_nil) (fc_cons rfl fc_nil) (ones_cons rfl ones_nil) (Nat.le_of_ble_eq_true rfl)
      have els102 : Els (up wa.heap.size H73) eI 1 [Value.int .i64 y26] [y26] := (Els.snoc (H := (up wa.heap.size H73)) (E := eI) (k := 1) (c := [Value.int .i64 y26]) (x := y26) Els.nil rfl rfl)
      refine FL.v (E.buildSlice (B1 rfl) run100) ?_
      obtain ⟨xs103, hz104, hp⟩ := bnd hp
      obtain ⟨v105, w108, n106, cs107, run109, S110, els111, ce112⟩ := S101.appendO (P := Tryz.prog) te84 (i := 1) (j := 0) rfl els31 rfl els102 hz104
      have S110 : St Ha wa H73 w108 [.row 3 1 v98 1 [Value.int .i64 y26], .row 3 1 v105 n106 cs107] := S110
      have S113 : St Ha wa H73 w108 [.row 3 1 v105 n106 cs107] := S110.drop 0
      refine FL.v (E.append rfl rfl run109) ?_
      refine FL.v (E.assign (v := v105) rfl) ?_
      refine FL.nil (FW.region ?_)
      refine FL.v (E.move k78) ?_
      refine FL.v (E.add rfl rfl) ?_
      refine FL.v (E.assign (v := Value.int .i64 (wr (((i27 : Nat) : Int) + 1))) rfl) ?_
      refine FL.nil ?_
      obtain rfl := Option.some.inj hp
      exact ⟨rfl, ⟨_, _, _, _, S113, i75, els111, (nat_succ rfl (lt_of_get hx27) (p0.mono i75).le), k79, k80, rfl⟩⟩
    ·
      refine FW.condF rfl c91 ?_
      refine FW.skip (FW.region ?_)
      refine FL.v (E.move k78) ?_
      refine FL.v (E.add rfl rfl) ?_
      refine FL.v (E.assign (v := Value.int .i64 (wr (((i27 : Nat) : Int) + 1))) rfl) ?_
      refine FL.nil ?_
      obtain rfl := Option.some.inj hp
      exact ⟨rfl, ⟨_, _, _, _, S90, i75, els31, (nat_succ rfl (lt_of_get hx27) (p0.mono i75).le), k79, k80, k81⟩⟩
  ·
    clear hp hq
    rintro s27 f125 w124 ⟨H121, v28, n29, cs30, S122, i123, els31, k126, k127, k128, k129⟩
    refine FW.seq (FW.seq (FW.region ?_))
    refine FL.v (E.move k126) ?_
    refine FL.v (E.move k127) ?_
    refine FL.v (E.lenP te84 rfl p0) ?_
    refine FL.v (E.lss rfl rfl) ?_
    refine FL.nil ?_
    refine FW.condF rfl dlt_len ?_
    refine FW.exit ?_
    exact ⟨nofun, rfl, ⟨_, _, _, _, S122, i123, els31, k129⟩⟩
  ·
    clear hq
    intro e f119 w118 hD
    rcases q27 with s27 | x27
    ·
      obtain ⟨rfl, hD⟩ := hD
      obtain ⟨H115, v28, n29, cs30, S116, i117, els31, k120⟩ := hD
      replace hp := el_go hp
      refine FW.seq (FW.region ?_)
      refine FL.v (E.move k120) ?_
      refine FL.v (E.assign (v := v28) rfl) ?_
      refine FL.nil ?_
      refine FW.ret ?_
      obtain rfl := Option.some.inj hp
      exact ⟨.inr rfl, res1 rfl rfl ⟨_, _, _, _, rfl, S116, els31⟩⟩
    · exact x27.elim

@[reducible] def p_spec_l1Own (Ha : GH) (wa : World) (r : (List Int)) : Ending → World → Prop :=
 fun e w' => ∃ H' : GH, ∃ v0 : Value, ∃ n0 : Nat, ∃ c0 : List Value, e = .returned (v0) ∧ St Ha wa H' w' [.row 3 1 v0 n0 c0] ∧ Els (up wa.heap.size H') eI 1 c0 r
theorem w_spec_l1Own {Ha : GH} {wa : World} (hs : Sl Ha wa) (v0 : Value) (a0 : List Int) (p0 : RSl Ha eI 1 v0 a0) {r : (List Int)} (hp : (PF.spec_l1Own a0) = some r) :
  Calls Tryz.prog 60 #[v0] wa (p_spec_l1Own Ha wa r) := by
 unfold PF.spec_l1Own at hp
 have S0 := St.init hs
 refine calls_go (N := 6) (args := [v0]) Tryz.func60 rfl rfl rfl ?_
 refine FW.seq (FW.region ?_)
 refine FL.v (E.assign (v := Value.slice none 0 0) rfl) ?_
 refine FL.nil (FW.seq (FW.region ?_))
 obtain ⟨v21, w22, run23, S24⟩ := S0.buildSlice (P := Tryz.prog) te84 [] (parts := #[]) (cells := []) rfl szs_nil fc_nil ones_nil (Nat.le_of_ble_eq_true rfl)
 have els25 : Els (up wa.heap.size Ha) eI 1 [] [] := Els.nil
 refine FL.v (E.buildSlice (B0) run23) ?_
 refine FL.v (E.move (v := v0) rfl) ?_
 obtain ⟨xs26, hz27, hp⟩ := bnd hp
 obtain ⟨v28, w31, n29, cs30, run32, S33, els34⟩ := S24.appendP (P := Tryz.prog) (Inc.rfl _) te84 (i := 0) rfl (els25.mono upI) p0 hz27
 have S33 : St Ha wa Ha w31 [.row 3 1 v28 n29 cs30] := S33
 have els34 : Els (up wa.heap.size Ha) eI 1 cs30 xs26 := els34.any (fun _ _ _ _ h => h)
 refine FL.v (E.append rfl rfl run32) ?_
 refine FL.v (E.assign (v := v28) rfl) ?_
 refine FL.nil ?_
 refine FW.ret ?_
 obtain rfl := Option.some.inj hp
 exact ⟨.inr rfl, res1 rfl rfl ⟨_, _, _, _, rfl, S33, els34⟩⟩

@[reducible] def p_spec_l2Put (Ha : GH) (wa : World) (r : (List Int)) : Ending → World → Prop :=
  fun e w' => ∃ H' : GH, ∃ v0 : Value, ∃ n0 : Nat, ∃ c0 : List Value, e = .returned (v0) ∧ St Ha wa H' w' [.row 3 1 v0 n0 c0] ∧ Els (up wa.heap.size H') eI 1 c0 r
theorem w_spec_l2Put {Ha : GH} {wa : World} (hs : Sl Ha wa) (v0 : Value) (a0 : List Int) (p0 : RSl Ha eI 1 v0 a0) (a1 : Int) {r : (List Int)} (hp : (PF.spec_l2Put a0 a1) = some r) :
    Calls Tryz.prog 124 #[v0, Value.int .i64 a1] wa (p_spec_l2Put Ha wa r) := by
  unfold PF.spec_l2Put at hp
  have S0 := St.init hs
  refine calls_go (N := 33) (args := [v0, Value.int .i64 a1]) Tryz.func124 rfl rfl rfl ?_
  refine FW.seq (FW.region ?_)
  refine FL.v (E.assign (v := Value.slice none 0 0) rfl) ?_
  refine FL.nil (FW.seq (FW.region ?_))
  refine FL.v (E.assign (v := Value.int .i64 0) rfl) ?_
  refine FL.nil (FW.seq ?_)
  obtain ⟨q21, hq, hp⟩ := bndR hp
  refine FW.block ?_
  refine FW.mono (FW.iter (S := Int) (X := Empty) (fun (s21 : Int) f w => ∃ H : GH, St Ha wa H w [] ∧ Inc Ha H ∧ f 0 = v0 ∧ f 1 = Value.int .i64 a1 ∧ f 5 = Value.int .i64 s21) (fun (q : Rs Int Empty) e f w => match q with | .go s21 => e = Exit.exit 0 ∧ (∃ H : GH, St Ha wa H w [] ∧ Inc Ha H ∧ f 0 = v0 ∧ f 1 = Value.int .i64 a1 ∧ f 5 = Value.int .i64 s21) | .rt x => x.elim) hq ⟨_, S0, (Inc.rfl _), rfl, rfl, rfl⟩ ?_) ?_
  ·
    clear hp hq
    rintro s21 f74 w73 ⟨H70, S71, i72, k75, k76, k77⟩ o118 hp
    refine FW.seq (FW.seq (FW.region ?_))
    refine FL.v (E.move k77) ?_
    refine FL.v (E.move k75) ?_
    refine FL.v (E.lenP te84 rfl p0) ?_
    refine FL.v (E.lss rfl rfl) ?_
    refine FL.v (E.move (v := Value.bool (decide (s21 < (len a0)))) rfl) ?_
    obtain ⟨t92, hqt92, hp⟩ := bnd hp
    refine FL.cut 9 (fun f w => ∃ H : GH, St Ha wa H w [] ∧ Inc H70 H ∧ f 0 = v0 ∧ f 1 = Value.int .i64 a1 ∧ f 5 = Value.int .i64 s21 ∧ f 19 = Value.bool t92) ?_ ?_
    ·
      clear hp; have hp := hqt92; clear hqt92
      rcases ifB hp with ⟨c98, hp⟩ | ⟨c98, hp⟩
      ·
        refine FL.val (wF_yes rfl rfl rfl c98) rfl rfl (E.move k75) ?_
        refine FL.val (wF_yes rfl rfl rfl c98) rfl rfl (E.move k77) ?_
        obtain ⟨x105, hx106, hp⟩ := bnd hp
        obtain ⟨p99, cs100, pt101, l102, at103, rel104⟩ := p0.at hx106
        obtain rfl := eI_open rel104
        refine FL.val (wF_yes rfl rfl rfl c98) rfl rfl (E.indexAddr te84 rfl rfl pt101) ?_
        refine FL.val (wF_yes rfl rfl rfl c98) rfl rfl (E.load rfl (run_load0 Tryz.isAgg3 ((at103.mono i72).now S71.sl) rfl)) ?_
        refine FL.call (wF_yes rfl rfl rfl c98) rfl rfl (E.call Tryz.call138 (A1 rfl)) (w_spec_l2Var S71.sl x105) ?_
        rintro e w107 ⟨rfl, r108⟩
        refine ⟨_, rfl, ?_⟩
        have S109 := S71.call r108
        refine FL.val (wF_yes rfl rfl rfl c98) rfl rfl (E.move k76) ?_
        refine FL.call (wF_yes rfl rfl rfl c98) rfl rfl (E.call Tryz.call138 (A1 rfl)) (w_spec_l2Var S109.sl a1) ?_
        rintro e w110 ⟨rfl, r111⟩
        refine ⟨_, rfl, ?_⟩
        have S112 := S109.call r111
        refine FL.val (wF_yes rfl rfl rfl c98) rfl rfl (E.lss rfl rfl) ?_
        obtain rfl := Option.some.inj hp
        refine FL.v (E.pickT rfl c98 rfl) ?_
        exact FL.nil ⟨rfl, _, S112, (Inc.rfl _), k75, k76, k77, rfl⟩
      ·
        refine FL.skip (wF_no rfl rfl rfl c98) rfl ?_
        refine FL.skip (wF_no rfl rfl rfl c98) rfl ?_
        refine FL.skip (wF_no rfl rfl rfl c98) rfl ?_
        refine FL.skip (wF_no rfl rfl rfl c98) rfl ?_
        refine FL.skip (wF_no rfl rfl rfl c98) rfl ?_
        refine FL.skip (wF_no rfl rfl rfl c98) rfl ?_
        refine FL.skip (wF_no rfl rfl rfl c98) rfl ?_
        refine FL.skip (wF_no rfl rfl rfl c98) rfl ?_
        obtain rfl := Option.some.inj hp
        refine FL.v (E.pickF rfl c98 rfl) ?_
        exact FL.nil ⟨rfl, _, S71, (Inc.rfl _), k75, k76, k77, rfl⟩
    rintro f97 w96 ⟨H93, S94, i95, k113, k114, k115, k116⟩
    refine FL.nil ?_
    rcases ifB hp with ⟨c117, hp⟩ | ⟨c117, hp⟩
    ·
      refine FW.condT k116 c117 ?_
      refine FW.skip (FW.block (FW.region ?_))
      refine FL.v (E.move k115) ?_
      refine FL.v (E.add rfl rfl) ?_
      refine FL.v (E.assign (v := Value.int .i64 (wr (s21 + 1))) rfl) ?_
      refine FL.nil ?_
      obtain rfl := Option.some.inj hp
      exact ⟨rfl, ⟨_, S94, (i72.tr i95), k113, k114, rfl⟩⟩
    ·
      refine FW.condF k116 c117 ?_
      refine FW.exit ?_
      obtain rfl := Option.some.inj hp
      exact ⟨nofun, rfl, ⟨_, S94, (i72.tr i95), k113, k114, k115⟩⟩
  ·
    clear hq
    intro e f123 w122 hD
    rcases q21 with s21 | x21
    ·
      obtain ⟨rfl, hD⟩ := hD
      obtain ⟨H119, S120, i121, k124, k125, k126⟩ := hD
      replace hp := el_go hp
      refine FW.seq ?_
      obtain ⟨xs22, hc23, hp⟩ := bnd hp
      obtain ⟨r27, hr28, hp⟩ := bnd hp
      obtain ⟨xs42, hz43, hp⟩ := bnd hp
      obtain ⟨xs53, hc54, hp⟩ := bnd hp
      obtain ⟨xs58, hz59, hp⟩ := bnd hp
      refine FW.drawB (Sl H119) (fun f w => ∃ H : GH, ∃ v67 : Value, ∃ n68 : Nat, ∃ cs69 : List Value, St Ha wa H w [.row 3 1 v67 n68 cs69] ∧ Inc H119 H ∧ Els (up wa.heap.size H) eI 1 cs69 xs58 ∧ f 4 = v67) (by kernel_rfl) S120.sl ?_ ?_
      ·
        intro w127 r128
        have S129 := S120.call r128
        refine FB.t (i := 0) (bs 12 1) rfl (SP.nil S129.sl) rfl (fun w' hw' => (E.move k124)) ?_
        refine FB.t (i := 1) (bs 12 3) rfl (SP.nil S129.sl) rfl (fun w' hw' => (E.move k126)) ?_
        obtain ⟨v24, run25, h26⟩ := p0.cut te84 hc23 (lo := none) (hi := some (Value.int .i64 s21)) (.inl ⟨rfl, rfl⟩) (.inr ⟨_, rfl⟩)
        refine FB.t (i := 2) (bs 12 7) rfl (SP.nil S129.sl) rfl (fun w' hw' => (E.slice te84 rfl rfl (congrArg some rfl) rfl (run25 _))) ?_
        refine FB.t (i := 4) (bs 12 23) rfl (SP.nil S129.sl) rfl (fun w' hw' => (E.move k125)) ?_
        refine FB.t (i := 7) (bs 12 151) rfl (SP.nil S129.sl) rfl (fun w' hw' => (E.move k124)) ?_
        refine FB.t (i := 8) (bs 12 407) rfl (SP.nil S129.sl) rfl (fun w' hw' => (E.move k126)) ?_
        obtain ⟨v55, run56, h57⟩ := p0.cut te84 hc54 (lo := some (Value.int .i64 s21)) (hi := none) (.inr ⟨_, rfl⟩) (.inl ⟨rfl, rfl⟩)
        refine FB.t (i := 9) (bs 12 919) rfl (SP.nil S129.sl) rfl (fun w' hw' => (E.slice te84 rfl (congrArg some rfl) rfl rfl (run56 _))) ?_
        refine FB.all2 (i := 3) (j := 5) (by kernel_rfl) ?_ ?_
        ·
          refine FC.call (l' := (bs 12 927)) rfl (by kernel_rfl) rfl rfl rfl (E.call Tryz.call60 (A1 rfl)) (w_spec_l1Own S129.sl v24 xs22 (h26.mono i121) hr28) ?_
          rintro e w30 ⟨H29, v33, n34, cs35, rfl, r32, els36⟩
          refine ⟨_, rfl, ?_⟩
          have els36 := els36.mono (up_le S129.size)
          have S31 := S129.join (l' := [.row 3 1 v33 n34 cs35]) r32 rfl
          refine ⟨(SP.nil (Sl.of_inc r32.run.inc S31.sl)), ?_⟩
          refine FB.all1 (i := 5) (by kernel_rfl) ?_
          ·
            obtain ⟨v37, w38, run39, S40⟩ := S31.buildSlice (P := Tryz.prog) te84 [Value.int .i64 a1] (parts := #[(0, Value.int .i64 a1)]) (cells := [Value.int .i64 a1]) rfl (szs_cons rfl szs_nil) (fc_cons rfl fc_nil) (ones_cons rfl ones_nil) (Nat.le_of_ble_eq_true rfl)
            have els41 : Els (up wa.heap.size H29) eI 1 [Value.int .i64 a1] [a1] := (Els.snoc (H := (up wa.heap.size H29)) (E := eI) (k := 1) (c := [Value.int .i64 a1]) (x := a1) Els.nil rfl rfl)
            refine FC.val (l' := (bs 12 959)) rfl (by kernel_rfl) rfl rfl rfl (E.buildSlice (B1 rfl) run39) ?_
            refine ⟨(SP.nil (Sl.of_inc r32.run.inc S40.sl)), ?_⟩
            refine FB.all1 (i := 6) (by kernel_rfl) ?_
            ·
              obtain ⟨v44, w47, n45, cs46, run48, S49, els50, ce51⟩ := S40.appendO (P := Tryz.prog) te84 (i := 1) (j := 0) rfl els36 rfl els41 hz43
              have S49 : St Ha wa H29 w47 [.row 3 1 v37 1 [Value.int .i64 a1], .row 3 1 v44 n45 cs46] := S49
              have S52 : St Ha wa H29 w47 [.row 3 1 v44 n45 cs46] := S49.drop 0
              refine FC.val (l' := (bs 12 1023)) rfl (by kernel_rfl) rfl rfl rfl (E.append rfl rfl run48) ?_
              refine ⟨(SP.nil (Sl.of_inc r32.run.inc S52.sl)), ?_⟩
              refine FB.all1 (i := 10) (by kernel_rfl) ?_
              ·
                obtain ⟨v60, w63, n61, cs62, run64, S65, els66⟩ := S52.appendP (P := Tryz.prog) (Inc.rfl _) te84 (i := 0) rfl (els50.mono upI) (h57.mono (i121.tr r32.run.inc)) hz59
                have S65 : St Ha wa H29 w63 [.row 3 1 v60 n61 cs62] := S65
                have els66 : Els (up wa.heap.size H29) eI 1 cs62 xs58 := els66.any (fun _ _ _ _ h => h)
                refine FC.val (l' := (bs 12 2047)) rfl (by kernel_rfl) rfl rfl rfl (E.append rfl rfl run64) ?_
                refine ⟨(SP.nil (Sl.of_inc r32.run.inc S65.sl)), ?_⟩
                refine FB.t (i := 11) (bs 12 4095) rfl (SP.nil (Sl.of_inc r32.run.inc S65.sl)) rfl (fun w' hw' => (E.assign (v := v60) rfl)) ?_
                exact FB.done (by kernel_rfl) ⟨_, _, _, _, S65, r32.run.inc, els66, rfl⟩
        ·
          obtain ⟨v37, w38, run39, S40⟩ := S129.buildSlice (P := Tryz.prog) te84 [Value.int .i64 a1] (parts := #[(0, Value.int .i64 a1)]) (cells := [Value.int .i64 a1]) rfl (szs_cons rfl szs_nil) (fc_cons rfl fc_nil) (ones_cons rfl ones_nil) (Nat.le_of_ble_eq_true rfl)
          have els41 : Els (up wa.heap.size H119) eI 1 [Value.int .i64 a1] [a1] := (Els.snoc (H := (up wa.heap.size H119)) (E := eI) (k := 1) (c := [Value.int .i64 a1]) (x := a1) Els.nil rfl rfl)
          refine FC.val (l' := (bs 12 951)) rfl (by kernel_rfl) rfl rfl rfl (E.buildSlice (B1 rfl) run39) ?_
          refine ⟨(SP.nil S40.sl), ?_⟩
          refine FB.all1 (i := 3) (by kernel_rfl) ?_
          ·
            refine FC.call (l' := (bs 12 959)) rfl (by kernel_rfl) rfl rfl rfl (E.call Tryz.call60 (A1 rfl)) (w_spec_l1Own S40.sl v24 xs22 (h26.mono i121) hr28) ?_
            rintro e w30 ⟨H29, v33, n34, cs35, rfl, r32, els36⟩
            refine ⟨_, rfl, ?_⟩
            have els36 := els36.mono (up_le S40.size)
            have S31 := S40.join (l' := [.row 3 1 v33 n34 cs35, .row 3 1 v37 1 [Value.int .i64 a1]]) r32 rfl
            refine ⟨(SP.nil (Sl.of_inc r32.run.inc S31.sl)), ?_⟩
            refine FB.all1 (i := 6) (by kernel_rfl) ?_
            ·
              obtain ⟨v44, w47, n45, cs46, run48, S49, els50, ce51⟩ := S31.appendO (P := Tryz.prog) te84 (i := 0) (j := 1) rfl els36 rfl (els41.mono (up_mono r32.run.inc)) hz43
              have S49 : St Ha wa H29 w47 [.row 3 1 v44 n45 cs46, .row 3 1 v37 1 [Value.int .i64 a1]] := S49
              have S52 : St Ha wa H29 w47 [.row 3 1 v44 n45 cs46] := S49.drop 1
              refine FC.val (l' := (bs 12 1023)) rfl (by kernel_rfl) rfl rfl rfl (E.append rfl rfl run48) ?_
              refine ⟨(SP.nil (Sl.of_inc r32.run.inc S52.sl)), ?_⟩
              refine FB.all1 (i := 10) (by kernel_rfl) ?_
              ·
                obtain ⟨v60, w63, n61, cs62, run64, S65, els66⟩ := S52.appendP (P := Tryz.prog) (Inc.rfl _) te84 (i := 0) rfl (els50.mono upI) (h57.mono (i121.tr r32.run.inc)) hz59
                have S65 : St Ha wa H29 w63 [.row 3 1 v60 n61 cs62] := S65
                have els66 : Els (up wa.heap.size H29) eI 1 cs62 xs58 := els66.any (fun _ _ _ _ h => h)
                refine FC.val (l' := (bs 12 2047)) rfl (by kernel_rfl) rfl rfl rfl (E.append rfl rfl run64) ?_
                refine ⟨(SP.nil (Sl.of_inc r32.run.inc S65.sl)), ?_⟩
                refine FB.t (i := 11) (bs 12 4095) rfl (SP.nil (Sl.of_inc r32.run.inc S65.sl)) rfl (fun w' hw' => (E.assign (v := v60) rfl)) ?_
                exact FB.done (by kernel_rfl) ⟨_, _, _, _, S65, r32.run.inc, els66, rfl⟩
      ·
        rintro f83 w82 ⟨H79, v67, n68, cs69, S80, i81, els78, k85⟩
        refine FW.ret ?_
        obtain rfl := Option.some.inj hp
        exact ⟨.inr rfl, res1 rfl k85 ⟨_, _, _, _, rfl, S80, els78⟩⟩
    · exact x21.elim

@[reducible] def p_spec_l2Join (Ha : GH) (wa : World) (r : ((List Int) × Bool)) : Ending → World → Prop :=
 fun e w' => ∃ H' : GH, ∃ v0 : Value, ∃ n0 : Nat, ∃ c0 : List Value, e = .returned (Value.tuple #[v0, Value.bool r.2]) ∧ St Ha wa H' w' [.row 3 1 v0 n0 c0] ∧ Els (up wa.heap.size H') eI 1 c0 r.1
theorem w_spec_l2Join {Ha : GH} {wa : World} (hs : Sl Ha wa) (v0 : Value) (a0 : List Int) (p0 : RSl Ha eI 1 v0 a0) (v1 : Value) (a1 : List Int) (p1 : RSl Ha eI 1 v1 a1) {r : ((List Int) × Bool)} (hp : (PF.spec_l2Join a0 a1) = some r) :
  Calls Tryz.prog 175 #[v0, v1] wa (p_spec_l2Join Ha wa r) := by
 unfold PF.spec_l2Join at hp
 have S0 := St.init hs
 refine calls_go (N := 38) (args := [v0, v1]) Tryz.func175 rfl rfl rfl ?_
 refine FW.seq (FW.region ?_)
 refine FL.v (E.assign (v := Value.slice none 0 0) rfl) ?_
 refine FL.v (E.assign (v := Value.bool false) rfl) ?_
 refine FL.nil (FW.seq (FW.region ?_))
 refine FL.v (E.move (v := v0) rfl) ?_
 obtain ⟨r21, hr22, hp⟩ := bnd hp
 refine FL.call rfl rfl rfl (E.call Tryz.call60 (A1 rfl)) (w_spec_l1Own S0.sl v0 a0 p0 hr22) ?_
 rintro e w24 ⟨H23, v27, n28, cs29, rfl, r26, els30⟩
 refine ⟨_, rfl, ?_⟩
 have els30 := els30.mono (up_le S0.size)
 have S25 := S0.join (l' := [.row 3 1 v27 n28 cs29]) r26 rfl
 refine FL.v (E.assign (v := v27) rfl) ?_
 refine FL.nil (FW.seq (FW.seq (FW.region ?_)))
 refine FL.v (E.assign (v := Value.int .i64 0) rfl) ?_
 refine FL.nil ?_
 obtain ⟨q32, hq, hp⟩ := bndR hp
 refine FW.block ?_
 refine FW.mono (FW.forL (S := (List Int)) (X := ((List Int) × Bool)) (fun (i32 : Nat) (s32 : (List Int)) f w => ∃ H : GH, ∃ v107 : Value, ∃ n108 : Nat, ∃ cs109 : List Value, St Ha wa H w [.row 3 1 v107 n108 cs109] ∧ Inc H23 H ∧ Els (up wa.heap.size H) eI 1 cs109 s32 ∧ f 7 = Value.int .i64 ((i32 : Nat) : Int) ∧ f 1 = v1 ∧ f 6 = v107) (fun q e f w => match q with | .go s32 => e = Exit.exit 0 ∧ (∃ H : GH, ∃ v107 : Value, ∃ n108 : Nat, ∃ cs109 : List Value, St Ha wa H w [.row 3 1 v107 n108 cs109] ∧ Inc H23 H ∧ Els (up wa.heap.size H) eI 1 cs109 s32 ∧ f 6 = v107) | .rt x => ((e = Exit.ret) ∧ (fun e f w => (e = Exit.normal ∨ e = Exit.ret) ∧ ∀ a, Fr (δ := []) 38 a f → ∃ v, (results Tryz.f175 a.tmps).run Tryz.prog w = .ok v w ∧ (p_spec_l2Join Ha wa x) (.returned v) w) e f w)) hq ⟨_, _, _, _, S25, (Inc.rfl _), els30, rfl, rfl, rfl⟩ ?_ ?_) ?_
 ·
  clear hp hq
  rintro i32 y31 s32 f185 w184 ⟨H181, v107, n108, cs109, S182, i183, els110, k186, k187, k188⟩ hx32 o251 hp
  refine FW.seq (FW.seq (FW.region ?_))
  refine FL.v (E.move k186) ?_
  refine FL.v (E.move k187) ?_
  refine FL.v (E.lenP te84 rfl p1) ?_
  refine FL.v (E.lssT rfl rfl (lss_len hx32)) ?_
  refine FL.nil ?_
  refine FW.condT rfl rfl ?_
  refine FW.skip (FW.seq (FW.block (FW.seq (FW.seq (FW.region ?_)))))
  refine FL.v (E.move k188) ?_
  refine FL.v (E.move k187) ?_
  refine FL.v (E.move k186) ?_
  obtain ⟨p189, cs190, pt191, l192, at193, rel194⟩ := p1.at (ix_nat hx32)
  obtain rfl := eI_open rel194
  refine FL.v (E.indexAddr te84 rfl rfl pt191) ?_
  refine FL.v (E.load rfl (run_load0 Tryz.isAgg3 ((at193.mono (r26.run.inc.tr i183)).now S182.sl) rfl)) ?_
  refine FL.v (E.neg rfl) ?_
  obtain ⟨H195, S196, i197, h198, nv199⟩ := S182.sealRowU (i := 0) (l' := []) rfl els110 (by decide) rfl
  obtain ⟨r200, hr201, hp⟩ := bnd hp
  refine FL.call rfl rfl rfl (E.call Tryz.call116 (A2 rfl rfl)) (w_spec_l2Has S196.sl v107 s32 (h198.mono upI) (wr (-y31)) hr201) ?_
  rintro e w202 ⟨rfl, r203⟩
  refine ⟨_, rfl, ?_⟩
  have r203 := Run.lend i197 S182.sl r203
  have S204 := S182.call r203
  refine FL.nil ?_
  rcases ifB hp with ⟨c205, hp⟩ | ⟨c205, hp⟩
  ·
   refine FW.condT rfl c205 ?_
   refine FW.seq (FW.region ?_)
   obtain ⟨v206, w207, run208, S209⟩ := S204.buildSlice (P := Tryz.prog) te84 [] (parts := #[]) (cells := []) rfl szs_nil fc_nil ones_nil (Nat.le_of_ble_eq_true rfl)
   have els210 : Els (up wa.heap.size H181) eI 1 [] [] := Els.nil
   refine FL.v (E.buildSlice (B0) run208) ?_
   refine FL.v (E.assign (v := v206) rfl) ?_
   refine FL.v (E.assign (v := Value.bool false) rfl) ?_
   refine FL.nil ?_
   refine FW.ret ?_
   obtain rfl := Option.some.inj hp
   exact ⟨nofun, rfl, ⟨.inr rfl, res2 rfl rfl rfl ⟨_, _, _, _, rfl, (S209.sel [0] (by decide) rfl), els210⟩⟩⟩
  ·
   refine FW.condF rfl c205 ?_
   refine FW.skip (FW.seq (FW.region ?_))
   refine FL.v (E.move k188) ?_
   refine FL.v (E.move k187) ?_
   refine FL.v (E.move k186) ?_
   obtain ⟨p211, cs212, pt213, l214, at215, rel216⟩ := p1.at (ix_nat hx32)
   obtain rfl := eI_open rel216
   refine FL.v (E.indexAddr te84 rfl rfl pt213) ?_
   refine FL.v (E.load rfl (run_load0 Tryz.isAgg3 ((at215.mono (r26.run.inc.tr i183)).now S204.sl) rfl)) ?_
   obtain ⟨H217, S218, i219, h220, nv221⟩ := S204.sealRowU (i := 0) (l' := []) rfl els110 (by decide) rfl
   obtain ⟨r222, hr223, hp⟩ := bnd hp
   refine FL.call rfl rfl rfl (E.call Tryz.call116 (A2 rfl rfl)) (w_spec_l2Has S218.sl v107 s32 (h220.mono upI) y31 hr223) ?_
   rintro e w224 ⟨rfl, r225⟩
   refine ⟨_, rfl, ?_⟩
   have r225 := Run.lend i219 S204.sl r225
   have S226 := S204.call r225
   refine FL.v (E.not rfl) ?_
   refine FL.nil ?_
   rcases ifB hp with ⟨c227, hp⟩ | ⟨c227, hp⟩
   ·
    refine FW.condT rfl c227 ?_
    refine FW.region ?_
    refine FL.v (E.move k188) ?_
    refine FL.v (E.move k187) ?_
    refine FL.v (E.move k186) ?_
    obtain ⟨p228, cs229, pt230, l231, at232, rel233⟩ := p1.at (ix_nat hx32)
    obtain rfl := eI_open rel233
    refine FL.v (E.indexAddr te84 rfl rfl pt230) ?_
    refine FL.v (E.load rfl (run_load0 Tryz.isAgg3 ((at232.mono (r26.run.inc.tr i183)).now S226.sl) rfl)) ?_
    obtain ⟨H234, S235, i236, h237, nv238⟩ := S226.sealRowU (i := 0) (l' := []) rfl els110 (by decide) rfl
    obtain ⟨r239, hr240, hp⟩ := bnd hp
    refine FL.call rfl rfl rfl (E.call Tryz.call124 (A2 rfl rfl)) (w_spec_l2Put S235.sl v107 s32 (h237.mono upI) y31 hr240) ?_
    rintro e w242 ⟨H241, v247, n248, cs249, rfl, r244, els250⟩
    refine ⟨_, rfl, ?_⟩
    obtain ⟨H245, r244, hU246⟩ := St.lendX i236 S226.sl r244
    have els250 := els250.mono (hU246.tr (up_le S226.size))
    have S243 := S226.join (l' := [.row 3 1 v247 n248 cs249, .row 3 1 v107 n108 cs109]) r244 rfl
    refine FL.v (E.assign (v := v247) rfl) ?_
    refine FL.nil (FW.region ?_)
    refine FL.v (E.move k186) ?_
    refine FL.v (E.add rfl rfl) ?_
    refine FL.v (E.assign (v := Value.int .i64 (wr (((i32 : Nat) : Int) + 1))) rfl) ?_
    refine FL.nil ?_
    obtain rfl := Option.some.inj hp
    exact ⟨rfl, ⟨_, _, _, _, (S243.sel [0] (by decide) rfl), (i183.tr r244.run.inc), els250, (nat_succ rfl (lt_of_get hx32) (p1.mono ((r26.run.inc.tr i183).tr r244.run.inc)).le), k187, rfl⟩⟩
   ·
    refine FW.condF rfl c227 ?_
    refine FW.skip (FW.region ?_)
    refine FL.v (E.move k186) ?_
    refine FL.v (E.add rfl rfl) ?_
    refine FL.v (E.assign (v := Value.int .i64 (wr (((i32 : Nat) : Int) + 1))) rfl) ?_
    refine FL.nil ?_
    obtain rfl := Option.some.inj hp
    exact ⟨rfl, ⟨_, _, _, _, S226, i183, els110, (nat_succ rfl (lt_of_get hx32) (p1.mono (r26.run.inc.tr i183)).le), k187, k188⟩⟩
 ·
  clear hp hq
  rintro s32 f262 w261 ⟨H258, v107, n108, cs109, S259, i260, els110, k263, k264, k265⟩
  refine FW.seq (FW.seq (FW.region ?_))
  refine FL.v (E.move k263) ?_
  refine FL.v (E.move k264) ?_
  refine FL.v (E.lenP te84 rfl p1) ?_
  refine FL.v (E.lss rfl rfl) ?_
  refine FL.nil ?_
  refine FW.condF rfl dlt_len ?_
  refine FW.exit ?_
  exact ⟨nofun, rfl, ⟨_, _, _, _, S259, i260, els110, k265⟩⟩
 ·
  clear hq
  intro e f256 w255 hD
  rcases q32 with s32 | x32
  ·
   obtain ⟨rfl, hD⟩ := hD
   obtain ⟨H252, v107, n108, cs109, S253, i254, els110, k257⟩ := hD
   replace hp := el_go hp
   refine FW.seq (FW.region ?_)
   refine FL.v (E.move k257) ?_
   refine FL.v (E.assign (v := v107) rfl) ?_
   refine FL.v (E.assign (v := Value.bool true) rfl) ?_
   refine FL.nil ?_
   refine FW.ret ?_
   obtain rfl := Option.some.inj hp
   exact ⟨.inr rfl, res2 rfl rfl rfl ⟨_, _, _, _, rfl, S253, els110⟩⟩
  ·
   obtain ⟨he, hL⟩ := hD
   replace hp := el_rt hp
   obtain rfl := Option.some.inj hp
   subst he
   exact hL

@[reducible] def p_spec_l2Resolve (Ha : GH) (wa : World) (r : ((List Int) × Bool)) : Ending → World → Prop :=
 fun e w' => ∃ H' : GH, ∃ v0 : Value, ∃ n0 : Nat, ∃ c0 : List Value, e = .returned (Value.tuple #[v0, Value.bool r.2]) ∧ St Ha wa H' w' [.row 3 1 v0 n0 c0] ∧ Els (up wa.heap.size H') eI 1 c0 r.1
theorem w_spec_l2Resolve {Ha : GH} {wa : World} (hs : Sl Ha wa) (v0 : Value) (a0 : List Int) (p0 : RSl Ha eI 1 v0 a0) (v1 : Value) (a1 : List Int) (p1 : RSl Ha eI 1 v1 a1) (a2 : Int) {r : ((List Int) × Bool)} (hp : (PF.spec_l2Resolve a0 a1 a2) = some r) :
  Calls Tryz.prog 117 #[v0, v1, Value.int .i64 a2] wa (p_spec_l2Resolve Ha wa r) := by
 unfold PF.spec_l2Resolve at hp
 have S0 := St.init hs
 refine calls_go (N := 29) (args := [v0, v1, Value.int .i64 a2]) Tryz.func117 rfl rfl rfl ?_
 refine FW.seq (FW.region ?_)
 refine FL.v (E.assign (v := Value.slice none 0 0) rfl) ?_
 refine FL.v (E.assign (v := Value.bool false) rfl) ?_
 refine FL.nil (FW.seq (FW.seq (FW.region ?_)))
 refine FL.v (E.move (v := v0) rfl) ?_
 refine FL.v (E.move (v := Value.int .i64 a2) rfl) ?_
 obtain ⟨r21, hr22, hp⟩ := bnd hp
 refine FL.call rfl rfl rfl (E.call Tryz.call116 (A2 rfl rfl)) (w_spec_l2Has S0.sl v0 a0 p0 a2 hr22) ?_
 rintro e w23 ⟨rfl, r24⟩
 refine ⟨_, rfl, ?_⟩
 have S25 := S0.call r24
 refine FL.v (E.not rfl) ?_
 refine FL.v (E.move (v := Value.bool (!r21)) rfl) ?_
 obtain ⟨t31, hqt31, hp⟩ := bnd hp
 refine FL.cut 6 (fun f w => ∃ H : GH, St Ha wa H w [] ∧ Inc Ha H ∧ f 0 = v0 ∧ f 1 = v1 ∧ f 2 = Value.int .i64 a2 ∧ f 18 = Value.bool t31) ?_ ?_
 ·
  clear hp; have hp := hqt31; clear hqt31
  rcases ifB hp with ⟨c37, hp⟩ | ⟨c37, hp⟩
  ·
   refine FL.skip (wF_no rfl rfl rfl c37) rfl ?_
   refine FL.skip (wF_no rfl rfl rfl c37) rfl ?_
   refine FL.skip (wF_no rfl rfl rfl c37) rfl ?_
   refine FL.skip (wF_no rfl rfl rfl c37) rfl ?_
   refine FL.skip (wF_no rfl rfl rfl c37) rfl ?_
   obtain rfl := Option.some.inj hp
   refine FL.v (E.pickT rfl c37 rfl) ?_
   exact FL.nil ⟨rfl, _, S25, (Inc.rfl _), rfl, rfl, rfl, rfl⟩
  ·
   refine FL.val (wF_yes rfl rfl rfl c37) rfl rfl (E.move (v := v1) rfl) ?_
   refine FL.val (wF_yes rfl rfl rfl c37) rfl rfl (E.move (v := Value.int .i64 a2) rfl) ?_
   refine FL.val (wF_yes rfl rfl rfl c37) rfl rfl (E.neg rfl) ?_
   obtain ⟨r38, hr39, hp⟩ := bnd hp
   refine FL.call (wF_yes rfl rfl rfl c37) rfl rfl (E.call Tryz.call116 (A2 rfl rfl)) (w_spec_l2Has S25.sl v1 a1 p1 (wr (-a2)) hr39) ?_
   rintro e w40 ⟨rfl, r41⟩
   refine ⟨_, rfl, ?_⟩
   have S42 := S25.call r41
   refine FL.val (wF_yes rfl rfl rfl c37) rfl rfl (E.not rfl) ?_
   obtain rfl := Option.some.inj hp
   refine FL.v (E.pickF rfl c37 rfl) ?_
   exact FL.nil ⟨rfl, _, S42, (Inc.rfl _), rfl, rfl, rfl, rfl⟩
 rintro f36 w35 ⟨H32, S33, i34, k43, k44, k45, k46⟩
 refine FL.nil ?_
 rcases ifB hp with ⟨c47, hp⟩ | ⟨c47, hp⟩
 ·
  refine FW.condT k46 c47 ?_
  refine FW.seq (FW.region ?_)
  obtain ⟨v48, w49, run50, S51⟩ := S33.buildSlice (P := Tryz.prog) te84 [] (parts := #[]) (cells := []) rfl szs_nil fc_nil ones_nil (Nat.le_of_ble_eq_true rfl)
  have els52 : Els (up wa.heap.size H32) eI 1 [] [] := Els.nil
  refine FL.v (E.buildSlice (B0) run50) ?_
  refine FL.v (E.assign (v := v48) rfl) ?_
  refine FL.v (E.assign (v := Value.bool false) rfl) ?_
  refine FL.nil ?_
  refine FW.ret ?_
  obtain rfl := Option.some.inj hp
  exact ⟨.inr rfl, res2 rfl rfl rfl ⟨_, _, _, _, rfl, S51, els52⟩⟩
 ·
  refine FW.condF k46 c47 ?_
  refine FW.skip (FW.seq (FW.region ?_))
  refine FL.v (E.move k43) ?_
  refine FL.v (E.move k45) ?_
  obtain ⟨r53, hr54, hp⟩ := bnd hp
  refine FL.call rfl rfl rfl (E.call Tryz.call176 (A2 rfl rfl)) (w_spec_l2Without S33.sl v0 a0 (p0.mono i34) a2 hr54) ?_
  rintro e w56 ⟨H55, v59, n60, cs61, rfl, r58, els62⟩
  refine ⟨_, rfl, ?_⟩
  have els62 := els62.mono (up_le S33.size)
  have S57 := S33.join (l' := [.row 3 1 v59 n60 cs61]) r58 rfl
  refine FL.v (E.move k44) ?_
  refine FL.v (E.move k45) ?_
  obtain ⟨r63, hr64, hp⟩ := bnd hp
  refine FL.call rfl rfl rfl (E.call Tryz.call176 (A2 rfl rfl)) (w_spec_l2Without S57.sl v1 a1 (p1.mono (i34.tr r58.run.inc)) a2 hr64) ?_
  rintro e w66 ⟨H65, v69, n70, cs71, rfl, r68, els72⟩
  refine ⟨_, rfl, ?_⟩
  have els72 := els72.mono (up_le S57.size)
  have S67 := S57.join (l' := [.row 3 1 v69 n70 cs71, .row 3 1 v59 n60 cs61]) r68 rfl
  obtain ⟨H73, S74, i75, h76, nv77⟩ := S67.sealRowU (i := 1) (l' := [.row 3 1 v69 n70 cs71]) rfl (els62.mono (up_mono r68.run.inc)) (by decide) rfl
  obtain ⟨H78, S79, i80, h81, nv82⟩ := S74.sealRowU (i := 0) (l' := []) rfl (els72.mono (up_mono i75)) (by decide) rfl
  obtain ⟨r83, hr84, hp⟩ := bnd hp
  refine FL.call rfl rfl rfl (E.call Tryz.call175 (A2 rfl rfl)) (w_spec_l2Join S79.sl v59 r53 (h76.mono (upI.tr i80)) v69 r63 (h81.mono upI) hr84) ?_
  rintro e w86 ⟨H85, v91, n92, cs93, rfl, r88, els94⟩
  refine ⟨_, rfl, ?_⟩
  obtain ⟨H89, r88, hU90⟩ := St.lendX (i75.tr i80) S67.sl r88
  have els94 := els94.mono (hU90.tr (up_le S67.size))
  have S87 := S67.join (l' := [.row 3 1 v91 n92 cs93, .row 3 1 v69 n70 cs71, .row 3 1 v59 n60 cs61]) r88 rfl
  refine FL.v (E.extract (i := 0) rfl rfl) ?_
  refine FL.v (E.extract (i := 1) rfl rfl) ?_
  refine FL.v (E.assign (v := v91) rfl) ?_
  refine FL.v (E.assign (v := Value.bool r83.2) rfl) ?_
  refine FL.nil ?_
  refine FW.ret ?_
  obtain rfl := Option.some.inj hp
  exact ⟨.inr rfl, res2 rfl rfl rfl ⟨_, _, _, _, rfl, (S87.sel [0] (by decide) rfl), els94⟩⟩

set_option maxHeartbeats 4000000 in
theorem w_spec_l7Correct {Ha : GH} {wa : World} (hs : Sl Ha wa) (a0 : Cnf) (v0_1 : Value) (p0_1 : RSl Ha (eL eI 1) 1 v0_1 a0.clauses) (v1 : Value) (a1 : List ResStep) (p1 : RSl Ha eResStep 4 v1 a1) (a2 : Int) {r : Bool} (hp : (PF.spec_l7Correct a0 a1 a2) = some r) :
  Calls Tryz.prog 211 #[Value.agg #[Value.int .i64 a0.vars, v0_1], v1, Value.int .i64 a2] wa (Sc Ha wa (Value.bool r)) := by
 unfold PF.spec_l7Correct at hp
 have S0 := St.init hs
 refine calls_go (N := 110) (args := [Value.agg #[Value.int .i64 a0.vars, v0_1], v1, Value.int .i64 a2]) Tryz.func211 rfl rfl rfl ?_
 refine FW.seq (FW.region ?_)
 obtain ⟨b21, w22, run23, S24⟩ := S0.box (P := Tryz.prog) 30 [Value.int .i64 a0.vars, v0_1] (v := Value.agg #[Value.int .i64 a0.vars, v0_1]) rfl (ones_cons rfl (ones_cons p0_1.one ones_nil))
 refine FL.v (E.box rfl run23) ?_
 obtain ⟨H25, S26, i27, at28⟩ := S24.sealBox (i := 0) (l' := []) rfl rfl
 refine FL.v (E.assign (v := Value.bool false) rfl) ?_
 refine FL.nil (FW.seq (FW.region ?_))
 refine FL.v (E.move (v := v1) rfl) ?_
 refine FL.v (E.move (v := Value.int .i64 a2) rfl) ?_
 obtain ⟨x35, hx36, hp⟩ := bnd hp
 obtain ⟨p29, cs30, pt31, l32, at33, rel34⟩ := p1.at hx36
 obtain ⟨v37, rfl, h38⟩ := eResStep_open rel34
 refine FL.v (E.indexAddr te46 rfl rfl pt31) ?_
 refine FL.v (E.load rfl (run_loadA Tryz.isAgg94 Tryz.sizeOf94 ((at33.mono i27).now S26.sl) rfl)) ?_
 obtain ⟨b39, w40, run41, S42⟩ := S26.alloc (P := Tryz.prog) 94 [Value.slice none 0 0, Value.int .i64 0, Value.int .i64 0, Value.int .i64 0] Tryz.zeroValue94 rfl (ones_cons rfl (ones_cons rfl (ones_cons rfl (ones_cons rfl ones_nil))))
 refine FL.v (E.alloc run41) ?_
 obtain ⟨w43, run44, S45⟩ := S42.store0 (P := Tryz.prog) (t := 94) (i := 0) (cs' := [v37, Value.int .i64 x35.left, Value.int .i64 x35.right, Value.int .i64 x35.pivot]) (l' := [.box b39 94 [v37, Value.int .i64 x35.left, Value.int .i64 x35.right, Value.int .i64 x35.pivot]]) (v := Value.agg #[v37, Value.int .i64 x35.left, Value.int .i64 x35.right, Value.int .i64 x35.pivot]) (c := [v37, Value.int .i64 x35.left, Value.int .i64 x35.right, Value.int .i64 x35.pivot]) rfl Tryz.sizeOf94 rfl rfl (ones_cons h38.one (ones_cons rfl (ones_cons rfl (ones_cons rfl ones_nil)))) (Nat.le_of_ble_eq_true rfl) rfl rfl
 refine FL.act rfl rfl (E.store rfl rfl run44) ?_
 obtain ⟨H46, S47, i48, at49⟩ := S45.sealBox (i := 0) (l' := []) rfl rfl
 refine FL.nil (FW.seq (FW.seq (FW.region ?_)))
 refine FL.v (E.fieldAddr tf30_0 rfl) ?_
 refine FL.v (E.load rfl (run_load1 Tryz.isAgg3 ((at28.mono i48).now S47.sl) rfl)) ?_
 refine FL.v (E.fieldAddr tf94_0 rfl) ?_
 refine FL.v (E.load rfl (run_load1 Tryz.isAgg84 (at49.now S47.sl) rfl)) ?_
 obtain ⟨r50, hr51, hp⟩ := bnd hp
 refine FL.call rfl rfl rfl (E.call Tryz.call91 (A2 rfl rfl)) (w_spec_l2Clause S47.sl a0.vars v37 x35.clause (h38.mono (i27.tr i48)) hr51) ?_
 rintro e w52 ⟨rfl, r53⟩
 refine ⟨_, rfl, ?_⟩
 have S54 := S47.call r53
 refine FL.v (E.not rfl) ?_
 refine FL.nil ?_
 rcases ifB hp with ⟨c55, hp⟩ | ⟨c55, hp⟩
 ·
  refine FW.condT rfl c55 ?_
  refine FW.seq (FW.region ?_)
  refine FL.v (E.assign (v := Value.bool false) rfl) ?_
  refine FL.nil ?_
  refine FW.ret ?_
  obtain rfl := Option.some.inj hp
  exact ⟨.inr rfl, res1 rfl rfl ⟨rfl, S54.back⟩⟩
 ·
  refine FW.condF rfl c55 ?_
  refine FW.skip (FW.seq (FW.seq (FW.region ?_)))
  refine FL.v (E.fieldAddr tf94_1 rfl) ?_
  refine FL.v (E.load rfl (run_load1 Tryz.isAgg3 (at49.now S54.sl) rfl)) ?_
  refine FL.v (E.eql rfl rfl) ?_
  refine FL.nil ?_
  rcases ifB hp with ⟨c56, hp⟩ | ⟨c56, hp⟩
  ·
   refine FW.condT rfl c56 ?_
   refine FW.seq ?_
   refine FW.draw (fun w' => Run w52.heap.size H46 w52 H46 w') (by kernel_rfl) (by kernel_rfl) (run_drew S54.sl) ?_
   refine FD.val rfl rfl rfl (fun w' hw' => (E.fieldAddr tf94_3 rfl)) ?_
   refine FD.val rfl rfl rfl (fun w' hw' => (E.load rfl (run_load1 Tryz.isAgg3 (at49.now (S54.call hw').sl) rfl))) ?_
   refine FD.val rfl rfl rfl (fun w' hw' => (E.eql rfl rfl)) ?_
   refine FD.val rfl rfl rfl (fun w' hw' => (E.move (v := Value.bool (x35.pivot == 0)) rfl)) ?_
   refine FD.cut 8 (fun f => f 3 = Value.pointer (some ⟨b21, 0, none⟩) ∧ f 7 = Value.pointer (some ⟨b39, 0, none⟩) ∧ f 34 = Value.bool (bif (x35.pivot == 0) then (PF.spec_l1In x35.right 0 (wr ((len a0.clauses) - 1))) else false)) ?_ ?_
   ·
    rcases bcase (x35.pivot == 0) with c64 | c64
    ·
     refine FD.val (wF_yes rfl rfl rfl c64) rfl rfl (fun w' hw' => (E.fieldAddr tf94_2 rfl)) ?_
     refine FD.val (wF_yes rfl rfl rfl c64) rfl rfl (fun w' hw' => (E.load rfl (run_load1 Tryz.isAgg3 (at49.now (S54.call hw').sl) rfl))) ?_
     refine FD.val (wF_yes rfl rfl rfl c64) rfl rfl (fun w' hw' => (E.fieldAddr tf30_1 rfl)) ?_
     refine FD.val (wF_yes rfl rfl rfl c64) rfl rfl (fun w' hw' => (E.load rfl (run_load1 Tryz.isAgg22 ((at28.mono i48).now (S54.call hw').sl) rfl))) ?_
     refine FD.val (wF_yes rfl rfl rfl c64) rfl rfl (fun w' hw' => (E.lenP te22 rfl p0_1)) ?_
     refine FD.val (wF_yes rfl rfl rfl c64) rfl rfl (fun w' hw' => (E.sub rfl rfl)) ?_
     refine FD.call (wF_yes rfl rfl rfl c64) rfl rfl (fun w' hw' => (E.call Tryz.call104 (A3 rfl rfl rfl))) (fun w' hw' => Calls.cls hw' (w_spec_l1In (S54.call hw').sl x35.right 0 (wr ((len a0.clauses) - 1)))) ?_
     refine FD.val rfl rfl rfl (fun w' hw' => (E.pickT rfl c64 rfl)) ?_
     exact FD.nil ⟨rfl, rfl, (congrArg Value.bool (bifT c64).symm)⟩
    ·
     refine FD.skip (wF_no rfl rfl rfl c64) rfl ?_
     refine FD.skip (wF_no rfl rfl rfl c64) rfl ?_
     refine FD.skip (wF_no rfl rfl rfl c64) rfl ?_
     refine FD.skip (wF_no rfl rfl rfl c64) rfl ?_
     refine FD.skip (wF_no rfl rfl rfl c64) rfl ?_
     refine FD.skip (wF_no rfl rfl rfl c64) rfl ?_
     refine FD.skip (wF_no rfl rfl rfl c64) rfl ?_
     refine FD.val rfl rfl rfl (fun w' hw' => (E.pickF rfl c64 rfl)) ?_
     exact FD.nil ⟨rfl, rfl, (congrArg Value.bool (bifF c64).symm)⟩
   rintro f63 ⟨k65, k66, k67⟩
   refine FD.val rfl rfl rfl (fun w' hw' => (E.move k67)) ?_
   obtain ⟨t80, hqt80, hp⟩ := bnd hp
   refine FD.cut 10 (fun f => f 45 = Value.bool t80) ?_ ?_
   ·
    clear hp; have hp := hqt80; clear hqt80
    rcases ifB hp with ⟨c86, hp⟩ | ⟨c86, hp⟩
    ·
     refine FD.val (wF_yes rfl rfl rfl c86) rfl rfl (fun w' hw' => (E.fieldAddr tf30_1 k65)) ?_
     refine FD.val (wF_yes rfl rfl rfl c86) rfl rfl (fun w' hw' => (E.load rfl (run_load1 Tryz.isAgg22 ((at28.mono i48).now (S54.call hw').sl) rfl))) ?_
     refine FD.val (wF_yes rfl rfl rfl c86) rfl rfl (fun w' hw' => (E.fieldAddr tf94_2 k66)) ?_
     refine FD.val (wF_yes rfl rfl rfl c86) rfl rfl (fun w' hw' => (E.load rfl (run_load1 Tryz.isAgg3 (at49.now (S54.call hw').sl) rfl))) ?_
     obtain ⟨x93, hx94, hp⟩ := bnd hp
     obtain ⟨p87, cs88, pt89, l90, at91, rel92⟩ := p0_1.at hx94
     obtain ⟨v95, rfl, h96⟩ := eL_open rel92
     refine FD.val (wF_yes rfl rfl rfl c86) rfl rfl (fun w' hw' => (E.indexAddr te22 rfl rfl pt89)) ?_
     refine FD.val (wF_yes rfl rfl rfl c86) rfl rfl (fun w' hw' => (E.load rfl (run_load0 Tryz.isAgg84 ((at91.mono (i27.tr i48)).now (S54.call hw').sl) rfl))) ?_
     refine FD.val (wF_yes rfl rfl rfl c86) rfl rfl (fun w' hw' => (E.fieldAddr tf94_0 k66)) ?_
     refine FD.val (wF_yes rfl rfl rfl c86) rfl rfl (fun w' hw' => (E.load rfl (run_load1 Tryz.isAgg84 (at49.now (S54.call hw').sl) rfl))) ?_
     obtain ⟨r97, hr98, hp⟩ := bnd hp
     refine FD.call (wF_yes rfl rfl rfl c86) rfl rfl (fun w' hw' => (E.call Tryz.call107 (A2 rfl rfl))) (fun w' hw' => Calls.cls hw' (w_spec_l1Same (S54.call hw').sl v95 x93 (h96.mono (i27.tr i48)) v37 x35.clause (h38.mono (i27.tr i48)) hr98)) ?_
     obtain rfl := Option.some.inj hp
     refine FD.val rfl rfl rfl (fun w' hw' => (E.pickT rfl c86 rfl)) ?_
     exact FD.nil rfl
    ·
     refine FD.skip (wF_no rfl rfl rfl c86) rfl ?_
     refine FD.skip (wF_no rfl rfl rfl c86) rfl ?_
     refine FD.skip (wF_no rfl rfl rfl c86) rfl ?_
     refine FD.skip (wF_no rfl rfl rfl c86) rfl ?_
     refine FD.skip (wF_no rfl rfl rfl c86) rfl ?_
     refine FD.skip (wF_no rfl rfl rfl c86) rfl ?_
     refine FD.skip (wF_no rfl rfl rfl c86) rfl ?_
     refine FD.skip (wF_no rfl rfl rfl c86) rfl ?_
     refine FD.skip (wF_no rfl rfl rfl c86) rfl ?_
     obtain rfl := Option.some.inj hp
     refine FD.val rfl rfl rfl (fun w' hw' => (E.pickF rfl c86 rfl)) ?_
     exact FD.nil rfl
   intro f85 k99
   refine FD.val rfl rfl rfl (fun w' hw' => (E.assign k99)) ?_
   refine FD.nil ?_
   intro w100 r102
   have S101 := S54.call r102
   refine FW.ret ?_
   obtain rfl := Option.some.inj hp
   exact ⟨.inr rfl, res1 rfl rfl ⟨rfl, S101.back⟩⟩
  ·
   refine FW.condF rfl c56 ?_
   refine FW.skip (FW.seq (FW.seq (FW.region ?_)))
   refine FL.v (E.load rfl (run_loadA Tryz.isAgg30 Tryz.sizeOf30 ((at28.mono i48).now S54.sl) rfl)) ?_
   refine FL.v (E.move (v := v1) rfl) ?_
   refine FL.v (E.move (v := Value.int .i64 a2) rfl) ?_
   refine FL.v (E.fieldAddr tf94_1 rfl) ?_
   refine FL.v (E.load rfl (run_load1 Tryz.isAgg3 (at49.now S54.sl) rfl)) ?_
   obtain ⟨r103, hr104, hp⟩ := bnd hp
   refine FL.call rfl rfl rfl (E.call Tryz.call229 (A4 rfl rfl rfl rfl)) (w_spec_l7Clause S54.sl a0 v0_1 (p0_1.mono (i27.tr i48)) v1 a1 (p1.mono (i27.tr i48)) a2 x35.left hr104) ?_
   rintro e w105 ⟨rfl, r106⟩
   refine ⟨_, rfl, ?_⟩
   have S107 := S54.call r106
   refine FL.v (E.not rfl) ?_
   refine FL.nil ?_
   rcases ifB hp with ⟨c108, hp⟩ | ⟨c108, hp⟩
   ·
    refine FW.condT rfl c108 ?_
    refine FW.seq (FW.region ?_)
    refine FL.v (E.assign (v := Value.bool false) rfl) ?_
    refine FL.nil ?_
    refine FW.ret ?_
    obtain rfl := Option.some.inj hp
    exact ⟨.inr rfl, res1 rfl rfl ⟨rfl, S107.back⟩⟩
   ·
    refine FW.condF rfl c108 ?_
    refine FW.skip (FW.seq (FW.seq (FW.region ?_)))
    refine FL.v (E.fieldAddr tf94_2 rfl) ?_
    refine FL.v (E.load rfl (run_load1 Tryz.isAgg3 (at49.now S107.sl) rfl)) ?_
    refine FL.v (E.eql rfl rfl) ?_
    refine FL.nil ?_
    rcases ifB hp with ⟨c109, hp⟩ | ⟨c109, hp⟩
    ·
     refine FW.condT rfl c109 ?_
     refine FW.seq ?_
     refine FW.draw (fun w' => Run w105.heap.size H46 w105 H46 w') (by kernel_rfl) (by kernel_rfl) (run_drew S107.sl) ?_
     refine FD.val rfl rfl rfl (fun w' hw' => (E.fieldAddr tf94_3 rfl)) ?_
     refine FD.val rfl rfl rfl (fun w' hw' => (E.load rfl (run_load1 Tryz.isAgg3 (at49.now (S107.call hw').sl) rfl))) ?_
     refine FD.val rfl rfl rfl (fun w' hw' => (E.eql rfl rfl)) ?_
     refine FD.val rfl rfl rfl (fun w' hw' => (E.move (v := Value.bool (x35.pivot == 0)) rfl)) ?_
     obtain ⟨t123, hqt123, hp⟩ := bnd hp
     refine FD.cut 10 (fun f => f 69 = Value.bool t123) ?_ ?_
     ·
      clear hp; have hp := hqt123; clear hqt123
      rcases ifB hp with ⟨c129, hp⟩ | ⟨c129, hp⟩
      ·
       refine FD.val (wF_yes rfl rfl rfl c129) rfl rfl (fun w' hw' => (E.move (v := v1) rfl)) ?_
       refine FD.val (wF_yes rfl rfl rfl c129) rfl rfl (fun w' hw' => (E.fieldAddr tf94_1 rfl)) ?_
       refine FD.val (wF_yes rfl rfl rfl c129) rfl rfl (fun w' hw' => (E.load rfl (run_load1 Tryz.isAgg3 (at49.now (S107.call hw').sl) rfl))) ?_
       obtain ⟨x136, hx137, hp⟩ := bnd hp
       obtain ⟨p130, cs131, pt132, l133, at134, rel135⟩ := p1.at hx137
       obtain ⟨v138, rfl, h139⟩ := eResStep_open rel135
       refine FD.val (wF_yes rfl rfl rfl c129) rfl rfl (fun w' hw' => (E.indexAddr te46 rfl rfl pt132)) ?_
       refine FD.val (wF_yes rfl rfl rfl c129) rfl rfl (fun w' hw' => (E.fieldAddr tf94_0 rfl)) ?_
       refine FD.val (wF_yes rfl rfl rfl c129) rfl rfl (fun w' hw' => (E.load rfl (run_load1 Tryz.isAgg84 ((at134.mono (i27.tr i48)).now (S107.call hw').sl) rfl))) ?_
       refine FD.val (wF_yes rfl rfl rfl c129) rfl rfl (fun w' hw' => (E.fieldAddr tf94_0 rfl)) ?_
       refine FD.val (wF_yes rfl rfl rfl c129) rfl rfl (fun w' hw' => (E.load rfl (run_load1 Tryz.isAgg84 (at49.now (S107.call hw').sl) rfl))) ?_
       obtain ⟨r140, hr141, hp⟩ := bnd hp
       refine FD.call (wF_yes rfl rfl rfl c129) rfl rfl (fun w' hw' => (E.call Tryz.call230 (A2 rfl rfl))) (fun w' hw' => Calls.cls hw' (w_spec_l2Sub (S107.call hw').sl v138 x136.clause (h139.mono (i27.tr i48)) v37 x35.clause (h38.mono (i27.tr i48)) hr141)) ?_
       obtain rfl := Option.some.inj hp
       refine FD.val rfl rfl rfl (fun w' hw' => (E.pickT rfl c129 rfl)) ?_
       exact FD.nil rfl
      ·
       refine FD.skip (wF_no rfl rfl rfl c129) rfl ?_
       refine FD.skip (wF_no rfl rfl rfl c129) rfl ?_
       refine FD.skip (wF_no rfl rfl rfl c129) rfl ?_
       refine FD.skip (wF_no rfl rfl rfl c129) rfl ?_
       refine FD.skip (wF_no rfl rfl rfl c129) rfl ?_
       refine FD.skip (wF_no rfl rfl rfl c129) rfl ?_
       refine FD.skip (wF_no rfl rfl rfl c129) rfl ?_
       refine FD.skip (wF_no rfl rfl rfl c129) rfl ?_
       refine FD.skip (wF_no rfl rfl rfl c129) rfl ?_
       obtain rfl := Option.some.inj hp
       refine FD.val rfl rfl rfl (fun w' hw' => (E.pickF rfl c129 rfl)) ?_
       exact FD.nil rfl
     intro f128 k142
     refine FD.val rfl rfl rfl (fun w' hw' => (E.assign k142)) ?_
     refine FD.nil ?_
     intro w143 r145
     have S144 := S107.call r145
     refine FW.ret ?_
     obtain rfl := Option.some.inj hp
     exact ⟨.inr rfl, res1 rfl rfl ⟨rfl, S144.back⟩⟩
    ·
     refine FW.condF rfl c109 ?_
     refine FW.skip (FW.seq (FW.seq (FW.region ?_)))
     refine FL.v (E.load rfl (run_loadA Tryz.isAgg30 Tryz.sizeOf30 ((at28.mono i48).now S107.sl) rfl)) ?_
     refine FL.v (E.move (v := v1) rfl) ?_
     refine FL.v (E.move (v := Value.int .i64 a2) rfl) ?_
     refine FL.v (E.fieldAddr tf94_2 rfl) ?_
     refine FL.v (E.load rfl (run_load1 Tryz.isAgg3 (at49.now S107.sl) rfl)) ?_
     obtain ⟨r146, hr147, hp⟩ := bnd hp
     refine FL.call rfl rfl rfl (E.call Tryz.call229 (A4 rfl rfl rfl rfl)) (w_spec_l7Clause S107.sl a0 v0_1 (p0_1.mono (i27.tr i48)) v1 a1 (p1.mono (i27.tr i48)) a2 x35.right hr147) ?_
     rintro e w148 ⟨rfl, r149⟩
     refine ⟨_, rfl, ?_⟩
     have S150 := S107.call r149
     refine FL.v (E.not rfl) ?_
     refine FL.v (E.move (v := Value.bool (!r146)) rfl) ?_
     refine FL.cut 7 (fun f w => ∃ H : GH, St Ha wa H w [] ∧ Inc H46 H ∧ f 1 = v1 ∧ f 7 = Value.pointer (some ⟨b39, 0, none⟩) ∧ f 84 = Value.bool (bif (!r146) then true else (!(PF.spec_l1In x35.pivot 1 a0.vars)))) ?_ ?_
     ·
      rcases bcase (!r146) with c160 | c160
      ·
       refine FL.skip (wF_no rfl rfl rfl c160) rfl ?_
       refine FL.skip (wF_no rfl rfl rfl c160) rfl ?_
       refine FL.skip (wF_no rfl rfl rfl c160) rfl ?_
       refine FL.skip (wF_no rfl rfl rfl c160) rfl ?_
       refine FL.skip (wF_no rfl rfl rfl c160) rfl ?_
       refine FL.skip (wF_no rfl rfl rfl c160) rfl ?_
       refine FL.v (E.pickT rfl c160 rfl) ?_
       exact FL.nil ⟨rfl, _, S150, (Inc.rfl _), rfl, rfl, (congrArg Value.bool (bifT c160).symm)⟩
      ·
       refine FL.val (wF_yes rfl rfl rfl c160) rfl rfl (E.fieldAddr tf94_3 rfl) ?_
       refine FL.val (wF_yes rfl rfl rfl c160) rfl rfl (E.load rfl (run_load1 Tryz.isAgg3 (at49.now S150.sl) rfl)) ?_
       refine FL.val (wF_yes rfl rfl rfl c160) rfl rfl (E.fieldAddr tf30_0 rfl) ?_
       refine FL.val (wF_yes rfl rfl rfl c160) rfl rfl (E.load rfl (run_load1 Tryz.isAgg3 ((at28.mono i48).now S150.sl) rfl)) ?_
       refine FL.call (wF_yes rfl rfl rfl c160) rfl rfl (E.call Tryz.call104 (A3 rfl rfl rfl)) (w_spec_l1In S150.sl x35.pivot 1 a0.vars) ?_
       rintro e w161 ⟨rfl, r162⟩
       refine ⟨_, rfl, ?_⟩
       have S163 := S150.call r162
       refine FL.val (wF_yes rfl rfl rfl c160) rfl rfl (E.not rfl) ?_
       refine FL.v (E.pickF rfl c160 rfl) ?_
       exact FL.nil ⟨rfl, _, S163, (Inc.rfl _), rfl, rfl, (congrArg Value.bool (bifF c160).symm)⟩
     rintro f159 w158 ⟨H155, S156, i157, k164, k165, k166⟩
     refine FL.nil ?_
     rcases ifB hp with ⟨c167, hp⟩ | ⟨c167, hp⟩
     ·
      refine FW.condT k166 c167 ?_
      refine FW.seq (FW.region ?_)
      refine FL.v (E.assign (v := Value.bool false) rfl) ?_
      refine FL.nil ?_
      refine FW.ret ?_
      obtain rfl := Option.some.inj hp
      exact ⟨.inr rfl, res1 rfl rfl ⟨rfl, S156.back⟩⟩
     ·
      refine FW.condF k166 c167 ?_
      refine FW.skip (FW.seq ?_)
      obtain ⟨x68, hx69, hp⟩ := bnd hp
      obtain ⟨x78, hx79, hp⟩ := bnd hp
      obtain ⟨r83, hr84, hp⟩ := bnd hp
      refine FW.drawB (Sl H155) (fun f w => ∃ H : GH, ∃ v118 : Value, ∃ n119 : Nat, ∃ cs120 : List Value, St Ha wa H w [.row 3 1 v118 n119 cs120] ∧ Inc H155 H ∧ Els (up wa.heap.size H) eI 1 cs120 r83.1 ∧ f 7 = Value.pointer (some ⟨b39, 0, none⟩) ∧ f 8 = v118 ∧ f 9 = Value.bool r83.2) (by kernel_rfl) S156.sl ?_ ?_
      ·
       intro w168 r169
       have S170 := S156.call r169
       refine FB.t (i := 0) (bs 20 1) rfl (SP.nil S170.sl) rfl (fun w' hw' => (E.move k164)) ?_
       refine FB.t (i := 1) (bs 20 3) rfl (SP.nil S170.sl) rfl (fun w' hw' => (E.fieldAddr tf94_1 k165)) ?_
       refine FB.t (i := 2) (bs 20 7) rfl (SP.nil S170.sl) rfl (fun w' hw' => (E.load rfl (run_load1 Tryz.isAgg3 ((at49.mono i157).now hw') rfl))) ?_
       obtain ⟨p57, cs58, pt59, l60, at61, rel62⟩ := p1.at hx69
       obtain ⟨v70, rfl, h71⟩ := eResStep_open rel62
       refine FB.t (i := 3) (bs 20 15) rfl (SP.nil S170.sl) rfl (fun w' hw' => (E.indexAddr te46 rfl rfl pt59)) ?_
       refine FB.t (i := 4) (bs 20 31) rfl (SP.nil S170.sl) rfl (fun w' hw' => (E.fieldAddr tf94_0 rfl)) ?_
       refine FB.t (i := 5) (bs 20 63) rfl (SP.nil S170.sl) rfl (fun w' hw' => (E.load rfl (run_load1 Tryz.isAgg84 ((at61.mono ((i27.tr i48).tr i157)).now hw') rfl))) ?_
       refine FB.t (i := 6) (bs 20 127) rfl (SP.nil S170.sl) rfl (fun w' hw' => (E.move k164)) ?_
       refine FB.t (i := 7) (bs 20 255) rfl (SP.nil S170.sl) rfl (fun w' hw' => (E.fieldAddr tf94_2 k165)) ?_
       refine FB.t (i := 8) (bs 20 511) rfl (SP.nil S170.sl) rfl (fun w' hw' => (E.load rfl (run_load1 Tryz.isAgg3 ((at49.mono i157).now hw') rfl))) ?_
       obtain ⟨p72, cs73, pt74, l75, at76, rel77⟩ := p1.at hx79
       obtain ⟨v81, rfl, h82⟩ := eResStep_open rel77
       refine FB.t (i := 9) (bs 20 1023) rfl (SP.nil S170.sl) rfl (fun w' hw' => (E.indexAddr te46 rfl rfl pt74)) ?_
       refine FB.t (i := 10) (bs 20 2047) rfl (SP.nil S170.sl) rfl (fun w' hw' => (E.fieldAddr tf94_0 rfl)) ?_
       refine FB.t (i := 11) (bs 20 4095) rfl (SP.nil S170.sl) rfl (fun w' hw' => (E.load rfl (run_load1 Tryz.isAgg84 ((at76.mono ((i27.tr i48).tr i157)).now hw') rfl))) ?_
       refine FB.t (i := 12) (bs 20 8191) rfl (SP.nil S170.sl) rfl (fun w' hw' => (E.fieldAddr tf94_3 k165)) ?_
       refine FB.t (i := 13) (bs 20 16383) rfl (SP.nil S170.sl) rfl (fun w' hw' => (E.load rfl (run_load1 Tryz.isAgg3 ((at49.mono i157).now hw') rfl))) ?_
       refine FB.all1 (i := 14) (by kernel_rfl) ?_
       ·
        refine FC.call (l' := (bs 20 32767)) rfl (by kernel_rfl) rfl rfl rfl (E.call Tryz.call117 (A3 rfl rfl rfl)) (w_spec_l2Resolve S170.sl v70 x68.clause (h71.mono ((i27.tr i48).tr i157)) v81 x78.clause (h82.mono ((i27.tr i48).tr i157)) x35.pivot hr84) ?_
        rintro e w111 ⟨H110, v114, n115, cs116, rfl, r113, els117⟩
        refine ⟨_, rfl, ?_⟩
        have els117 := els117.mono (up_le S170.size)
        have S112 := S170.join (l' := [.row 3 1 v114 n115 cs116]) r113 rfl
        refine ⟨(SP.nil (Sl.of_inc r113.run.inc S112.sl)), ?_⟩
        refine FB.t (i := 15) (bs 20 65535) rfl (SP.nil (Sl.of_inc r113.run.inc S112.sl)) rfl (fun w' hw' => (E.move (v := Value.tuple #[v114, Value.bool r83.2]) rfl)) ?_
        refine FB.t (i := 16) (bs 20 131071) rfl (SP.nil (Sl.of_inc r113.run.inc S112.sl)) rfl (fun w' hw' => (E.extract (i := 0) rfl rfl)) ?_
        refine FB.t (i := 17) (bs 20 262143) rfl (SP.nil (Sl.of_inc r113.run.inc S112.sl)) rfl (fun w' hw' => (E.extract (i := 1) rfl rfl)) ?_
        refine FB.t (i := 18) (bs 20 524287) rfl (SP.nil (Sl.of_inc r113.run.inc S112.sl)) rfl (fun w' hw' => (E.assign (v := v114) rfl)) ?_
        refine FB.t (i := 19) (bs 20 1048575) rfl (SP.nil (Sl.of_inc r113.run.inc S112.sl)) rfl (fun w' hw' => (E.assign (v := Value.bool r83.2) rfl)) ?_
        exact FB.done (by kernel_rfl) ⟨_, _, _, _, S112, r113.run.inc, els117, k165, rfl, rfl⟩
      ·
       rintro f127 w126 ⟨H122, v118, n119, cs120, S124, i125, els121, k151, k152, k153⟩
       refine FW.seq (FW.region ?_)
       refine FL.v (E.move k153) ?_
       refine FL.v (E.move (v := Value.bool r83.2) rfl) ?_
       obtain ⟨t154, hqt154, hp⟩ := bnd hp
       refine FL.cut 5 (fun f w => ∃ H : GH, St Ha wa H w [.row 3 1 v118 n119 cs120] ∧ Inc H122 H ∧ f 109 = Value.bool t154) ?_ ?_
       ·
        clear hp; have hp := hqt154; clear hqt154
        rcases ifB hp with ⟨c176, hp⟩ | ⟨c176, hp⟩
        ·
         refine FL.val (wF_yes rfl rfl rfl c176) rfl rfl (E.move k152) ?_
         refine FL.val (wF_yes rfl rfl rfl c176) rfl rfl (E.fieldAddr tf94_0 k151) ?_
         refine FL.val (wF_yes rfl rfl rfl c176) rfl rfl (E.load rfl (run_load1 Tryz.isAgg84 ((at49.mono (i157.tr i125)).now S124.sl) rfl)) ?_
         obtain ⟨H177, S178, i179, h180, nv181⟩ := S124.sealRowU (i := 0) (l' := []) rfl els121 (by decide) rfl
         obtain ⟨r182, hr183, hp⟩ := bnd hp
         refine FL.call (wF_yes rfl rfl rfl c176) rfl rfl (E.call Tryz.call107 (A2 rfl rfl)) (w_spec_l1Same S178.sl v118 r83.1 (h180.mono upI) v37 x35.clause (h38.mono ((((i27.tr i48).tr i157).tr i125).tr i179)) hr183) ?_
         rintro e w184 ⟨rfl, r185⟩
         refine ⟨_, rfl, ?_⟩
         have r185 := Run.lend i179 S124.sl r185
         have S186 := S124.call r185
         obtain rfl := Option.some.inj hp
         refine FL.v (E.pickT rfl c176 rfl) ?_
         exact FL.nil ⟨rfl, _, S186, (Inc.rfl _), rfl⟩
        ·
         refine FL.skip (wF_no rfl rfl rfl c176) rfl ?_
         refine FL.skip (wF_no rfl rfl rfl c176) rfl ?_
         refine FL.skip (wF_no rfl rfl rfl c176) rfl ?_
         refine FL.skip (wF_no rfl rfl rfl c176) rfl ?_
         obtain rfl := Option.some.inj hp
         refine FL.v (E.pickF rfl c176 rfl) ?_
         exact FL.nil ⟨rfl, _, S124, (Inc.rfl _), rfl⟩
       rintro f175 w174 ⟨H171, S172, i173, k187⟩
       refine FL.v (E.assign k187) ?_
       refine FL.nil ?_
       refine FW.ret ?_
       obtain rfl := Option.some.inj hp
       exact ⟨.inr rfl, res1 rfl rfl ⟨rfl, S172.back⟩⟩

theorem w_spec_l7Wrong {Ha : GH} {wa : World} (hs : Sl Ha wa) (a0 : Cnf) (v0_1 : Value) (p0_1 : RSl Ha (eL eI 1) 1 v0_1 a0.clauses) (v1 : Value) (a1 : List ResStep) (p1 : RSl Ha eResStep 4 v1 a1) {r : Int} (hp : (PF.spec_l7Wrong a0 a1) = some r) :
  Calls Tryz.prog 168 #[Value.agg #[Value.int .i64 a0.vars, v0_1], v1] wa (Sc Ha wa (Value.int .i64 r)) := by
 unfold PF.spec_l7Wrong at hp
 have S0 := St.init hs
 refine calls_go (N := 18) (args := [Value.agg #[Value.int .i64 a0.vars, v0_1], v1]) Tryz.func168 rfl rfl rfl ?_
 refine FW.seq (FW.region ?_)
 obtain ⟨b21, w22, run23, S24⟩ := S0.box (P := Tryz.prog) 30 [Value.int .i64 a0.vars, v0_1] (v := Value.agg #[Value.int .i64 a0.vars, v0_1]) rfl (ones_cons rfl (ones_cons p0_1.one ones_nil))
 refine FL.v (E.box rfl run23) ?_
 obtain ⟨H25, S26, i27, at28⟩ := S24.sealBox (i := 0) (l' := []) rfl rfl
 refine FL.v (E.assign (v := Value.int .i64 0) rfl) ?_
 refine FL.nil (FW.seq (FW.seq (FW.region ?_)))
 refine FL.v (E.assign (v := Value.int .i64 0) rfl) ?_
 refine FL.nil ?_
 obtain ⟨q30, hq, hp⟩ := bndR hp
 refine FW.block ?_
 refine FW.mono (FW.forL (S := Unit) (X := Int) (fun (i30 : Nat) (s30 : Unit) f w => ∃ H : GH, St Ha wa H w [] ∧ Inc H25 H ∧ f 5 = Value.int .i64 ((i30 : Nat) : Int) ∧ f 1 = v1 ∧ f 2 = Value.pointer (some ⟨b21, 0, none⟩)) (fun q e f w => match q with | .go s30 => e = Exit.exit 0 ∧ (∃ H : GH, St Ha wa H w [] ∧ Inc H25 H) | .rt x => ((e = Exit.ret) ∧ (fun e f w => (e = Exit.normal ∨ e = Exit.ret) ∧ ∀ a, Fr (δ := []) 18 a f → ∃ v, (results Tryz.f168 a.tmps).run Tryz.prog w = .ok v w ∧ (Sc Ha wa (Value.int .i64 x)) (.returned v) w) e f w)) hq ⟨_, S26, (Inc.rfl _), rfl, rfl, rfl⟩ ?_ ?_) ?_
 ·
  clear hp hq
  rintro i30 y29 s30 f49 w48 ⟨H45, S46, i47, k50, k51, k52⟩ hx30 o59 hp
  refine FW.seq (FW.seq (FW.region ?_))
  refine FL.v (E.move k50) ?_
  refine FL.v (E.move k51) ?_
  refine FL.v (E.lenP te46 rfl p1) ?_
  refine FL.v (E.lssT rfl rfl (lss_len hx30)) ?_
  refine FL.nil ?_
  refine FW.condT rfl rfl ?_
  refine FW.skip (FW.seq (FW.block (FW.seq (FW.region ?_))))
  refine FL.v (E.load k52 (run_loadA Tryz.isAgg30 Tryz.sizeOf30 ((at28.mono i47).now S46.sl) rfl)) ?_
  refine FL.v (E.move k51) ?_
  refine FL.v (E.move k50) ?_
  obtain ⟨r53, hr54, hp⟩ := bnd hp
  refine FL.call rfl rfl rfl (E.call Tryz.call211 (A3 rfl rfl rfl)) (w_spec_l7Correct S46.sl a0 v0_1 (p0_1.mono (i27.tr i47)) v1 a1 (p1.mono (i27.tr i47)) ((i30 : Nat) : Int) hr54) ?_
  rintro e w55 ⟨rfl, r56⟩
  refine ⟨_, rfl, ?_⟩
  have S57 := S46.call r56
  refine FL.v (E.not rfl) ?_
  refine FL.nil ?_
  rcases ifB hp with ⟨c58, hp⟩ | ⟨c58, hp⟩
  ·
   refine FW.condT rfl c58 ?_
   refine FW.seq (FW.region ?_)
   refine FL.v (E.move k50) ?_
   refine FL.v (E.assign (v := Value.int .i64 ((i30 : Nat) : Int)) rfl) ?_
   refine FL.nil ?_
   refine FW.ret ?_
   obtain rfl := Option.some.inj hp
   exact ⟨nofun, rfl, ⟨.inr rfl, res1 rfl rfl ⟨rfl, S57.back⟩⟩⟩
  ·
   refine FW.condF rfl c58 ?_
   refine FW.skip (FW.region ?_)
   refine FL.v (E.move k50) ?_
   refine FL.v (E.add rfl rfl) ?_
   refine FL.v (E.assign (v := Value.int .i64 (wr (((i30 : Nat) : Int) + 1))) rfl) ?_
   refine FL.nil ?_
   obtain rfl := Option.some.inj hp
   exact ⟨rfl, ⟨_, S57, i47, (nat_succ rfl (lt_of_get hx30) (p1.mono (i27.tr i47)).le), k51, k52⟩⟩
 ·
  clear hp hq
  rintro s30 f69 w68 ⟨H65, S66, i67, k70, k71, k72⟩
  refine FW.seq (FW.seq (FW.region ?_))
  refine FL.v (E.move k70) ?_
  refine FL.v (E.move k71) ?_
  refine FL.v (E.lenP te46 rfl p1) ?_
  refine FL.v (E.lss rfl rfl) ?_
  refine FL.nil ?_
  refine FW.condF rfl dlt_len ?_
  refine FW.exit ?_
  exact ⟨nofun, rfl, ⟨_, S66, i67⟩⟩
 ·
  clear hq
  intro e f64 w63 hD
  rcases q30 with s30 | x30
  ·
   obtain ⟨rfl, hD⟩ := hD
   obtain ⟨H60, S61, i62⟩ := hD
   replace hp := el_go hp
   refine FW.seq (FW.region ?_)
   refine FL.v (E.assign (v := Value.int .i64 (-1)) rfl) ?_
   refine FL.nil ?_
   refine FW.ret ?_
   obtain rfl := Option.some.inj hp
   exact ⟨.inr rfl, res1 rfl rfl ⟨rfl, S61.back⟩⟩
  ·
   obtain ⟨he, hL⟩ := hD
   replace hp := el_rt hp
   obtain rfl := Option.some.inj hp
   subst he
   exact hL

theorem w_spec_l7Good {Ha : GH} {wa : World} (hs : Sl Ha wa) (a0 : Cnf) (v0_1 : Value) (p0_1 : RSl Ha (eL eI 1) 1 v0_1 a0.clauses) (v1 : Value) (a1 : List ResStep) (p1 : RSl Ha eResStep 4 v1 a1) {r : Bool} (hp : (PF.spec_l7Good a0 a1) = some r) :
  Calls Tryz.prog 105 #[Value.agg #[Value.int .i64 a0.vars, v0_1], v1] wa (Sc Ha wa (Value.bool r)) := by
 unfold PF.spec_l7Good at hp
 have S0 := St.init hs
 refine calls_go (N := 14) (args := [Value.agg #[Value.int .i64 a0.vars, v0_1], v1]) Tryz.func105 rfl rfl rfl ?_
 refine FW.seq (FW.region ?_)
 obtain ⟨b21, w22, run23, S24⟩ := S0.box (P := Tryz.prog) 30 [Value.int .i64 a0.vars, v0_1] (v := Value.agg #[Value.int .i64 a0.vars, v0_1]) rfl (ones_cons rfl (ones_cons p0_1.one ones_nil))
 refine FL.v (E.box rfl run23) ?_
 obtain ⟨H25, S26, i27, at28⟩ := S24.sealBox (i := 0) (l' := []) rfl rfl
 refine FL.v (E.assign (v := Value.bool false) rfl) ?_
 refine FL.nil (FW.seq (FW.region ?_))
 refine FL.v (E.load rfl (run_loadA Tryz.isAgg30 Tryz.sizeOf30 (at28.now S26.sl) rfl)) ?_
 refine FL.v (E.move (v := v1) rfl) ?_
 obtain ⟨r29, hr30, hp⟩ := bnd hp
 refine FL.call rfl rfl rfl (E.call Tryz.call167 (A2 rfl rfl)) (w_spec_l7Asked S26.sl a0 v0_1 (p0_1.mono i27) v1 a1 (p1.mono i27) hr30) ?_
 rintro e w31 ⟨rfl, r32⟩
 refine ⟨_, rfl, ?_⟩
 have S33 := S26.call r32
 refine FL.v (E.move (v := Value.bool r29) rfl) ?_
 obtain ⟨t39, hqt39, hp⟩ := bnd hp
 refine FL.cut 5 (fun f w => ∃ H : GH, St Ha wa H w [] ∧ Inc H25 H ∧ f 13 = Value.bool t39) ?_ ?_
 ·
  clear hp; have hp := hqt39; clear hqt39
  rcases ifB hp with ⟨c45, hp⟩ | ⟨c45, hp⟩
  ·
   refine FL.val (wF_yes rfl rfl rfl c45) rfl rfl (E.load rfl (run_loadA Tryz.isAgg30 Tryz.sizeOf30 (at28.now S33.sl) rfl)) ?_
   refine FL.val (wF_yes rfl rfl rfl c45) rfl rfl (E.move (v := v1) rfl) ?_
   obtain ⟨r46, hr47, hp⟩ := bnd hp
   refine FL.call (wF_yes rfl rfl rfl c45) rfl rfl (E.call Tryz.call168 (A2 rfl rfl)) (w_spec_l7Wrong S33.sl a0 v0_1 (p0_1.mono i27) v1 a1 (p1.mono i27) hr47) ?_
   rintro e w48 ⟨rfl, r49⟩
   refine ⟨_, rfl, ?_⟩
   have S50 := S33.call r49
   refine FL.val (wF_yes rfl rfl rfl c45) rfl rfl (E.lss rfl rfl) ?_
   obtain rfl := Option.some.inj hp
   refine FL.v (E.pickT rfl c45 rfl) ?_
   exact FL.nil ⟨rfl, _, S50, (Inc.rfl _), rfl⟩
  ·
   refine FL.skip (wF_no rfl rfl rfl c45) rfl ?_
   refine FL.skip (wF_no rfl rfl rfl c45) rfl ?_
   refine FL.skip (wF_no rfl rfl rfl c45) rfl ?_
   refine FL.skip (wF_no rfl rfl rfl c45) rfl ?_
   obtain rfl := Option.some.inj hp
   refine FL.v (E.pickF rfl c45 rfl) ?_
   exact FL.nil ⟨rfl, _, S33, (Inc.rfl _), rfl⟩
 rintro f44 w43 ⟨H40, S41, i42, k51⟩
 refine FL.v (E.assign k51) ?_
 refine FL.nil ?_
 refine FW.ret ?_
 obtain rfl := Option.some.inj hp
 exact ⟨.inr rfl, res1 rfl rfl ⟨rfl, S41.back⟩⟩

@[reducible] def p_spec_l7Last (Ha : GH) (wa : World) (r : (List Int)) : Ending → World → Prop :=
 fun e w' => ∃ H' : GH, ∃ v0 : Value, e = .returned (v0) ∧ Run wa.heap.size Ha wa H' w' ∧ RSl H' eI 1 v0 r
theorem w_spec_l7Last {Ha : GH} {wa : World} (hs : Sl Ha wa) (v0 : Value) (a0 : List ResStep) (p0 : RSl Ha eResStep 4 v0 a0) {r : (List Int)} (hp : (PF.spec_l7Last a0) = some r) :
  Calls Tryz.prog 121 #[v0] wa (p_spec_l7Last Ha wa r) := by
 unfold PF.spec_l7Last at hp
 have S0 := St.init hs
 refine calls_go (N := 10) (args := [v0]) Tryz.func121 rfl rfl rfl ?_
 refine FW.seq (FW.region ?_)
 refine FL.v (E.assign (v := Value.slice none 0 0) rfl) ?_
 refine FL.nil (FW.seq (FW.region ?_))
 refine FL.v (E.move (v := v0) rfl) ?_
 refine FL.v (E.move (v := v0) rfl) ?_
 refine FL.v (E.lenP te46 rfl p0) ?_
 refine FL.v (E.sub rfl rfl) ?_
 obtain ⟨x27, hx28, hp⟩ := bnd hp
 obtain ⟨p21, cs22, pt23, l24, at25, rel26⟩ := p0.at hx28
 obtain ⟨v29, rfl, h30⟩ := eResStep_open rel26
 refine FL.v (E.indexAddr te46 rfl rfl pt23) ?_
 refine FL.v (E.fieldAddr tf94_0 rfl) ?_
 refine FL.v (E.load rfl (run_load1 Tryz.isAgg84 (at25.now S0.sl) rfl)) ?_
 refine FL.v (E.assign (v := v29) rfl) ?_
 refine FL.nil ?_
 refine FW.ret ?_
 obtain rfl := Option.some.inj hp
 exact ⟨.inr rfl, res1 rfl rfl ⟨_, _, rfl, S0.run, h30⟩⟩

theorem w_spec_l7Refutes {Ha : GH} {wa : World} (hs : Sl Ha wa) (a0 : Cnf) (v0_1 : Value) (p0_1 : RSl Ha (eL eI 1) 1 v0_1 a0.clauses) (v1 : Value) (a1 : List ResStep) (p1 : RSl Ha eResStep 4 v1 a1) {r : Bool} (hp : (PF.spec_l7Refutes a0 a1) = some r) :
  Calls Tryz.prog 70 #[Value.agg #[Value.int .i64 a0.vars, v0_1], v1] wa (Sc Ha wa (Value.bool r)) := by
 unfold PF.spec_l7Refutes at hp
 have S0 := St.init hs
 refine calls_go (N := 19) (args := [Value.agg #[Value.int .i64 a0.vars, v0_1], v1]) Tryz.func70 rfl rfl rfl ?_
 refine FW.seq (FW.region ?_)
 obtain ⟨b21, w22, run23, S24⟩ := S0.box (P := Tryz.prog) 30 [Value.int .i64 a0.vars, v0_1] (v := Value.agg #[Value.int .i64 a0.vars, v0_1]) rfl (ones_cons rfl (ones_cons p0_1.one ones_nil))
 refine FL.v (E.box rfl run23) ?_
 obtain ⟨H25, S26, i27, at28⟩ := S24.sealBox (i := 0) (l' := []) rfl rfl
 refine FL.v (E.assign (v := Value.bool false) rfl) ?_
 refine FL.nil (FW.seq (FW.region ?_))
 refine FL.v (E.load rfl (run_loadA Tryz.isAgg30 Tryz.sizeOf30 (at28.now S26.sl) rfl)) ?_
 refine FL.v (E.move (v := v1) rfl) ?_
 obtain ⟨r29, hr30, hp⟩ := bnd hp
 refine FL.call rfl rfl rfl (E.call Tryz.call105 (A2 rfl rfl)) (w_spec_l7Good S26.sl a0 v0_1 (p0_1.mono i27) v1 a1 (p1.mono i27) hr30) ?_
 rintro e w31 ⟨rfl, r32⟩
 refine ⟨_, rfl, ?_⟩
 have S33 := S26.call r32
 refine FL.v (E.move (v := Value.bool r29) rfl) ?_
 refine FL.cut 4 (fun f w => ∃ H : GH, St Ha wa H w [] ∧ Inc H25 H ∧ f 1 = v1 ∧ f 12 = Value.bool (bif r29 then (decide (0 < (len a1))) else false)) ?_ ?_
 ·
  rcases bcase r29 with c40 | c40
  ·
   refine FL.val (wF_yes rfl rfl rfl c40) rfl rfl (E.move (v := v1) rfl) ?_
   refine FL.val (wF_yes rfl rfl rfl c40) rfl rfl (E.lenP te46 rfl p1) ?_
   refine FL.val (wF_yes rfl rfl rfl c40) rfl rfl (E.gtr rfl rfl) ?_
   refine FL.v (E.pickT rfl c40 rfl) ?_
   exact FL.nil ⟨rfl, _, S33, (Inc.rfl _), rfl, (congrArg Value.bool (bifT c40).symm)⟩
  ·
   refine FL.skip (wF_no rfl rfl rfl c40) rfl ?_
   refine FL.skip (wF_no rfl rfl rfl c40) rfl ?_
   refine FL.skip (wF_no rfl rfl rfl c40) rfl ?_
   refine FL.v (E.pickF rfl c40 rfl) ?_
   exact FL.nil ⟨rfl, _, S33, (Inc.rfl _), rfl, (congrArg Value.bool (bifF c40).symm)⟩
 rintro f39 w38 ⟨H35, S36, i37, k41, k42⟩
 refine FL.v (E.move k42) ?_
 obtain ⟨t51, hqt51, hp⟩ := bnd hp
 refine FL.cut 5 (fun f w => ∃ H : GH, St Ha wa H w [] ∧ Inc H35 H ∧ f 18 = Value.bool t51) ?_ ?_
 ·
  clear hp; have hp := hqt51; clear hqt51
  rcases ifB hp with ⟨c57, hp⟩ | ⟨c57, hp⟩
  ·
   refine FL.val (wF_yes rfl rfl rfl c57) rfl rfl (E.move k41) ?_
   obtain ⟨r58, hr59, hp⟩ := bnd hp
   refine FL.call (wF_yes rfl rfl rfl c57) rfl rfl (E.call Tryz.call121 (A1 rfl)) (w_spec_l7Last S36.sl v1 a1 (p1.mono (i27.tr i37)) hr59) ?_
   rintro e w61 ⟨H60, v64, rfl, r63, h65⟩
   refine ⟨_, rfl, ?_⟩
   have S62 := S36.call r63
   refine FL.val (wF_yes rfl rfl rfl c57) rfl rfl (E.lenP te84 rfl h65) ?_
   refine FL.val (wF_yes rfl rfl rfl c57) rfl rfl (E.eql rfl rfl) ?_
   obtain rfl := Option.some.inj hp
   refine FL.v (E.pickT rfl c57 rfl) ?_
   exact FL.nil ⟨rfl, _, S62, r63.inc, rfl⟩
  ·
   refine FL.skip (wF_no rfl rfl rfl c57) rfl ?_
   refine FL.skip (wF_no rfl rfl rfl c57) rfl ?_
   refine FL.skip (wF_no rfl rfl rfl c57) rfl ?_
   refine FL.skip (wF_no rfl rfl rfl c57) rfl ?_
   obtain rfl := Option.some.inj hp
   refine FL.v (E.pickF rfl c57 rfl) ?_
   exact FL.nil ⟨rfl, _, S36, (Inc.rfl _), rfl⟩
 rintro f56 w55 ⟨H52, S53, i54, k66⟩
 refine FL.v (E.assign k66) ?_
 refine FL.nil ?_
 refine FW.ret ?_
 obtain rfl := Option.some.inj hp
 exact ⟨.inr rfl, res1 rfl rfl ⟨rfl, S53.back⟩⟩

set_option maxHeartbeats 4000000 in
theorem w_spec_l32Good {Ha : GH} {wa : World} (hs : Sl Ha wa) (a0 : Bench) (v0_2 : Value) (p0_2 : RSl Ha (eL eI 1) 1 v0_2 a0.formula.clauses) (v0_3 : Value) (p0_3 : RSl Ha eResStep 4 v0_3 a0.steps) {r : Bool} (hp : (PF.spec_l32Good a0) = some r) :
  Calls Tryz.prog 58 #[Value.agg #[Value.int .i64 a0.stage, Value.int .i64 a0.formula.vars, v0_2, v0_3, Value.int .i64 a0.wide, Value.int .i64 a0.count]] wa (Sc Ha wa (Value.bool r)) := by
 unfold PF.spec_l32Good at hp
 have S0 := St.init hs
 refine calls_go (N := 78) (args := [Value.agg #[Value.int .i64 a0.stage, Value.int .i64 a0.formula.vars, v0_2, v0_3, Value.int .i64 a0.wide, Value.int .i64 a0.count]]) Tryz.func58 rfl rfl rfl ?_
 refine FW.seq (FW.region ?_)
 obtain ⟨b21, w22, run23, S24⟩ := S0.box (P := Tryz.prog) 48 [Value.int .i64 a0.stage, Value.int .i64 a0.formula.vars, v0_2, v0_3, Value.int .i64 a0.wide, Value.int .i64 a0.count] (v := Value.agg #[Value.int .i64 a0.stage, Value.int .i64 a0.formula.vars, v0_2, v0_3, Value.int .i64 a0.wide, Value.int .i64 a0.count]) rfl (ones_cons rfl (ones_cons rfl (ones_cons p0_2.one (ones_cons p0_3.one (ones_cons rfl (ones_cons rfl ones_nil))))))
 refine FL.v (E.box rfl run23) ?_
 obtain ⟨H25, S26, i27, at28⟩ := S24.sealBox (i := 0) (l' := []) rfl rfl
 refine FL.v (E.assign (v := Value.bool false) rfl) ?_
 refine FL.nil (FW.seq (FW.seq (FW.region ?_)))
 refine FL.v (E.fieldAddr tf48_0 rfl) ?_
 refine FL.v (E.load rfl (run_load1 Tryz.isAgg3 (at28.now S26.sl) rfl)) ?_
 refine FL.call rfl rfl rfl (E.call Tryz.call104 (A3 rfl rfl rfl)) (w_spec_l1In S26.sl a0.stage 0 2) ?_
 rintro e w29 ⟨rfl, r30⟩
 refine ⟨_, rfl, ?_⟩
 have S31 := S26.call r30
 refine FL.v (E.not rfl) ?_
 refine FL.v (E.move (v := Value.bool (!(PF.spec_l1In a0.stage 0 2))) rfl) ?_
 refine FL.cut 5 (fun f w => ∃ H : GH, St Ha wa H w [] ∧ Inc H25 H ∧ f 1 = Value.pointer (some ⟨b21, 0, none⟩) ∧ f 13 = Value.bool (bif (!(PF.spec_l1In a0.stage 0 2)) then true else (!(PF.spec_l1In a0.count 0 9999)))) ?_ ?_
 ·
  rcases bcase (!(PF.spec_l1In a0.stage 0 2)) with c41 | c41
  ·
   refine FL.skip (wF_no rfl rfl rfl c41) rfl ?_
   refine FL.skip (wF_no rfl rfl rfl c41) rfl ?_
   refine FL.skip (wF_no rfl rfl rfl c41) rfl ?_
   refine FL.skip (wF_no rfl rfl rfl c41) rfl ?_
   refine FL.v (E.pickT rfl c41 rfl) ?_
   exact FL.nil ⟨rfl, _, S31, (Inc.rfl _), rfl, (congrArg Value.bool (bifT c41).symm)⟩
  ·
   refine FL.val (wF_yes rfl rfl rfl c41) rfl rfl (E.fieldAddr tf48_4 rfl) ?_
   refine FL.val (wF_yes rfl rfl rfl c41) rfl rfl (E.load rfl (run_load1 Tryz.isAgg3 (at28.now S31.sl) rfl)) ?_
   refine FL.call (wF_yes rfl rfl rfl c41) rfl rfl (E.call Tryz.call104 (A3 rfl rfl rfl)) (w_spec_l1In S31.sl a0.count 0 9999) ?_
   rintro e w42 ⟨rfl, r43⟩
   refine ⟨_, rfl, ?_⟩
   have S44 := S31.call r43
   refine FL.val (wF_yes rfl rfl rfl c41) rfl rfl (E.not rfl) ?_
   refine FL.v (E.pickF rfl c41 rfl) ?_
   exact FL.nil ⟨rfl, _, S44, (Inc.rfl _), rfl, (congrArg Value.bool (bifF c41).symm)⟩
 rintro f40 w39 ⟨H36, S37, i38, k45, k46⟩
 refine FL.nil ?_
 rcases ifB hp with ⟨c47, hp⟩ | ⟨c47, hp⟩
 ·
  refine FW.condT k46 c47 ?_
  refine FW.seq (FW.region ?_)
  refine FL.v (E.assign (v := Value.bool false) rfl) ?_
  refine FL.nil ?_
  refine FW.ret ?_
  obtain rfl := Option.some.inj hp
  exact ⟨.inr rfl, res1 rfl rfl ⟨rfl, S37.back⟩⟩
 ·
  refine FW.condF k46 c47 ?_
  refine FW.skip (FW.seq (FW.seq (FW.region ?_)))
  refine FL.v (E.fieldAddr tf48_0 k45) ?_
  refine FL.v (E.load rfl (run_load1 Tryz.isAgg3 ((at28.mono i38).now S37.sl) rfl)) ?_
  refine FL.v (E.eql rfl rfl) ?_
  refine FL.nil ?_
  rcases ifB hp with ⟨c48, hp⟩ | ⟨c48, hp⟩
  ·
   refine FW.condT rfl c48 ?_
   refine FW.seq (FW.region ?_)
   refine FL.v (E.fieldAddr tf48_1 k45) ?_
   refine FL.v (E.fieldAddrN tf30_0 rfl rfl) ?_
   refine FL.v (E.load rfl (run_load1 Tryz.isAgg3 ((at28.mono i38).now S37.sl) rfl)) ?_
   refine FL.v (E.eql rfl rfl) ?_
   refine FL.v (E.move (v := Value.bool (a0.formula.vars == 0)) rfl) ?_
   refine FL.cut 6 (fun f w => ∃ H : GH, St Ha wa H w [] ∧ Inc H36 H ∧ f 1 = Value.pointer (some ⟨b21, 0, none⟩) ∧ f 27 = Value.bool (bif (a0.formula.vars == 0) then ((len a0.formula.clauses) == 0) else false)) ?_ ?_
   ·
    rcases bcase (a0.formula.vars == 0) with c55 | c55
    ·
     refine FL.val (wF_yes rfl rfl rfl c55) rfl rfl (E.fieldAddr tf48_1 k45) ?_
     refine FL.val (wF_yes rfl rfl rfl c55) rfl rfl (E.fieldAddrN tf30_1 rfl rfl) ?_
     refine FL.val (wF_yes rfl rfl rfl c55) rfl rfl (E.load rfl (run_load1 Tryz.isAgg22 ((at28.mono i38).now S37.sl) rfl)) ?_
     refine FL.val (wF_yes rfl rfl rfl c55) rfl rfl (E.lenP te22 rfl p0_2) ?_
     refine FL.val (wF_yes rfl rfl rfl c55) rfl rfl (E.eql rfl rfl) ?_
     refine FL.v (E.pickT rfl c55 rfl) ?_
     exact FL.nil ⟨rfl, _, S37, (Inc.rfl _), k45, (congrArg Value.bool (bifT c55).symm)⟩
    ·
     refine FL.skip (wF_no rfl rfl rfl c55) rfl ?_
     refine FL.skip (wF_no rfl rfl rfl c55) rfl ?_
     refine FL.skip (wF_no rfl rfl rfl c55) rfl ?_
     refine FL.skip (wF_no rfl rfl rfl c55) rfl ?_
     refine FL.skip (wF_no rfl rfl rfl c55) rfl ?_
     refine FL.v (E.pickF rfl c55 rfl) ?_
     exact FL.nil ⟨rfl, _, S37, (Inc.rfl _), k45, (congrArg Value.bool (bifF c55).symm)⟩
   rintro f54 w53 ⟨H50, S51, i52, k56, k57⟩
   refine FL.v (E.move k57) ?_
   refine FL.cut 5 (fun f w => ∃ H : GH, St Ha wa H w [] ∧ Inc H50 H ∧ f 1 = Value.pointer (some ⟨b21, 0, none⟩) ∧ f 33 = Value.bool (bif (bif (a0.formula.vars == 0) then ((len a0.formula.clauses) == 0) else false) then ((len a0.steps) == 0) else false)) ?_ ?_
   ·
    rcases bcase (bif (a0.formula.vars == 0) then ((len a0.formula.clauses) == 0) else false) with c64 | c64
    ·
     refine FL.val (wF_yes rfl rfl rfl c64) rfl rfl (E.fieldAddr tf48_2 k56) ?_
     refine FL.val (wF_yes rfl rfl rfl c64) rfl rfl (E.load rfl (run_load1 Tryz.isAgg46 ((at28.mono (i38.tr i52)).now S51.sl) rfl)) ?_
     refine FL.val (wF_yes rfl rfl rfl c64) rfl rfl (E.lenP te46 rfl p0_3) ?_
     refine FL.val (wF_yes rfl rfl rfl c64) rfl rfl (E.eql rfl rfl) ?_
     refine FL.v (E.pickT rfl c64 rfl) ?_
     exact FL.nil ⟨rfl, _, S51, (Inc.rfl _), k56, (congrArg Value.bool (bifT c64).symm)⟩
    ·
     refine FL.skip (wF_no rfl rfl rfl c64) rfl ?_
     refine FL.skip (wF_no rfl rfl rfl c64) rfl ?_
     refine FL.skip (wF_no rfl rfl rfl c64) rfl ?_
     refine FL.skip (wF_no rfl rfl rfl c64) rfl ?_
     refine FL.v (E.pickF rfl c64 rfl) ?_
     exact FL.nil ⟨rfl, _, S51, (Inc.rfl _), k56, (congrArg Value.bool (bifF c64).symm)⟩
   rintro f63 w62 ⟨H59, S60, i61, k65, k66⟩
   refine FL.v (E.move k66) ?_
   refine FL.cut 4 (fun f w => ∃ H : GH, St Ha wa H w [] ∧ Inc H59 H ∧ f 38 = Value.bool (bif (bif (bif (a0.formula.vars == 0) then ((len a0.formula.clauses) == 0) else false) then ((len a0.steps) == 0) else false) then (a0.wide == 0) else false)) ?_ ?_
   ·
    rcases bcase (bif (bif (a0.formula.vars == 0) then ((len a0.formula.clauses) == 0) else false) then ((len a0.steps) == 0) else false) with c73 | c73
    ·
     refine FL.val (wF_yes rfl rfl rfl c73) rfl rfl (E.fieldAddr tf48_3 k65) ?_
     refine FL.val (wF_yes rfl rfl rfl c73) rfl rfl (E.load rfl (run_load1 Tryz.isAgg3 ((at28.mono ((i38.tr i52).tr i61)).now S60.sl) rfl)) ?_
     refine FL.val (wF_yes rfl rfl rfl c73) rfl rfl (E.eql rfl rfl) ?_
     refine FL.v (E.pickT rfl c73 rfl) ?_
     exact FL.nil ⟨rfl, _, S60, (Inc.rfl _), (congrArg Value.bool (bifT c73).symm)⟩
    ·
     refine FL.skip (wF_no rfl rfl rfl c73) rfl ?_
     refine FL.skip (wF_no rfl rfl rfl c73) rfl ?_
     refine FL.skip (wF_no rfl rfl rfl c73) rfl ?_
     refine FL.v (E.pickF rfl c73 rfl) ?_
     exact FL.nil ⟨rfl, _, S60, (Inc.rfl _), (congrArg Value.bool (bifF c73).symm)⟩
   rintro f72 w71 ⟨H68, S69, i70, k74⟩
   refine FL.v (E.assign k74) ?_
   refine FL.nil ?_
   refine FW.ret ?_
   obtain rfl := Option.some.inj hp
   exact ⟨.inr rfl, res1 rfl rfl ⟨rfl, S69.back⟩⟩
  ·
   refine FW.condF rfl c48 ?_
   refine FW.skip (FW.seq (FW.seq (FW.region ?_)))
   refine FL.v (E.fieldAddr tf48_3 k45) ?_
   refine FL.v (E.load rfl (run_load1 Tryz.isAgg3 ((at28.mono i38).now S37.sl) rfl)) ?_
   refine FL.call rfl rfl rfl (E.call Tryz.call104 (A3 rfl rfl rfl)) (w_spec_l1In S37.sl a0.wide 0 12) ?_
   rintro e w75 ⟨rfl, r76⟩
   refine ⟨_, rfl, ?_⟩
   have S77 := S37.call r76
   refine FL.v (E.not rfl) ?_
   refine FL.v (E.move (v := Value.bool (!(PF.spec_l1In a0.wide 0 12))) rfl) ?_
   obtain ⟨t83, hqt83, hp⟩ := bnd hp
   refine FL.cut 7 (fun f w => ∃ H : GH, St Ha wa H w [] ∧ Inc H36 H ∧ f 1 = Value.pointer (some ⟨b21, 0, none⟩) ∧ f 50 = Value.bool t83) ?_ ?_
   ·
    clear hp; have hp := hqt83; clear hqt83
    rcases ifB hp with ⟨c89, hp⟩ | ⟨c89, hp⟩
    ·
     refine FL.skip (wF_no rfl rfl rfl c89) rfl ?_
     refine FL.skip (wF_no rfl rfl rfl c89) rfl ?_
     refine FL.skip (wF_no rfl rfl rfl c89) rfl ?_
     refine FL.skip (wF_no rfl rfl rfl c89) rfl ?_
     refine FL.skip (wF_no rfl rfl rfl c89) rfl ?_
     refine FL.skip (wF_no rfl rfl rfl c89) rfl ?_
     obtain rfl := Option.some.inj hp
     refine FL.v (E.pickT rfl c89 rfl) ?_
     exact FL.nil ⟨rfl, _, S77, (Inc.rfl _), k45, rfl⟩
    ·
     refine FL.val (wF_yes rfl rfl rfl c89) rfl rfl (E.fieldAddr tf48_1 k45) ?_
     refine FL.val (wF_yes rfl rfl rfl c89) rfl rfl (E.load rfl (run_loadA Tryz.isAgg30 Tryz.sizeOf30 (((at28.mono i38).now S77.sl).sub (j := 1) (n := 2) (c := [Value.int .i64 a0.formula.vars, v0_2]) rfl) rfl)) ?_
     refine FL.val (wF_yes rfl rfl rfl c89) rfl rfl (E.fieldAddr tf48_2 k45) ?_
     refine FL.val (wF_yes rfl rfl rfl c89) rfl rfl (E.load rfl (run_load1 Tryz.isAgg46 ((at28.mono i38).now S77.sl) rfl)) ?_
     obtain ⟨r90, hr91, hp⟩ := bnd hp
     refine FL.call (wF_yes rfl rfl rfl c89) rfl rfl (E.call Tryz.call105 (A2 rfl rfl)) (w_spec_l7Good S77.sl a0.formula v0_2 (p0_2.mono (i27.tr i38)) v0_3 a0.steps (p0_3.mono (i27.tr i38)) hr91) ?_
     rintro e w92 ⟨rfl, r93⟩
     refine ⟨_, rfl, ?_⟩
     have S94 := S77.call r93
     refine FL.val (wF_yes rfl rfl rfl c89) rfl rfl (E.not rfl) ?_
     obtain rfl := Option.some.inj hp
     refine FL.v (E.pickF rfl c89 rfl) ?_
     exact FL.nil ⟨rfl, _, S94, (Inc.rfl _), k45, rfl⟩
   rintro f88 w87 ⟨H84, S85, i86, k95, k96⟩
   refine FL.nil ?_
   rcases ifB hp with ⟨c97, hp⟩ | ⟨c97, hp⟩
   ·
    refine FW.condT k96 c97 ?_
    refine FW.seq (FW.region ?_)
    refine FL.v (E.assign (v := Value.bool false) rfl) ?_
    refine FL.nil ?_
    refine FW.ret ?_
    obtain rfl := Option.some.inj hp
    exact ⟨.inr rfl, res1 rfl rfl ⟨rfl, S85.back⟩⟩
   ·
    refine FW.condF k96 c97 ?_
    refine FW.skip (FW.seq (FW.seq (FW.region ?_)))
    refine FL.v (E.assign (v := Value.int .i64 0) rfl) ?_
    refine FL.nil ?_
    obtain ⟨q98, hq, hp⟩ := bndR hp
    refine FW.block ?_
    refine FW.mono (FW.iter (S := Int) (X := Bool) (fun (s98 : Int) f w => ∃ H : GH, St Ha wa H w [] ∧ Inc H84 H ∧ f 1 = Value.pointer (some ⟨b21, 0, none⟩) ∧ f 3 = Value.int .i64 s98) (fun q e f w => match q with | .go s98 => e = Exit.exit 0 ∧ (∃ H : GH, St Ha wa H w [] ∧ Inc H84 H ∧ f 1 = Value.pointer (some ⟨b21, 0, none⟩)) | .rt x => ((e = Exit.ret) ∧ (fun e f w => (e = Exit.normal ∨ e = Exit.ret) ∧ ∀ a, Fr (δ := []) 78 a f → ∃ v, (results Tryz.f58 a.tmps).run Tryz.prog w = .ok v w ∧ (Sc Ha wa (Value.bool x)) (.returned v) w) e f w)) hq ⟨_, S85, (Inc.rfl _), k95, rfl⟩ ?_) ?_
    ·
     clear hp hq
     rintro s98 f126 w125 ⟨H122, S123, i124, k127, k128⟩ o145 hp
     refine FW.seq (FW.seq (FW.region ?_))
     refine FL.v (E.move k128) ?_
     refine FL.v (E.fieldAddr tf48_2 k127) ?_
     refine FL.v (E.load rfl (run_load1 Tryz.isAgg46 ((at28.mono ((i38.tr i86).tr i124)).now S123.sl) rfl)) ?_
     refine FL.v (E.lenP te46 rfl p0_3) ?_
     refine FL.v (E.lss rfl rfl) ?_
     refine FL.nil ?_
     rcases ifB hp with ⟨c129, hp⟩ | ⟨c129, hp⟩
     ·
      refine FW.condT rfl c129 ?_
      refine FW.skip (FW.seq (FW.block (FW.seq ?_)))
      refine FW.draw (fun w' => Run w125.heap.size H122 w125 H122 w') (by kernel_rfl) (by kernel_rfl) (run_drew S123.sl) ?_
      refine FD.val rfl rfl rfl (fun w' hw' => (E.fieldAddr tf48_2 k127)) ?_
      refine FD.val rfl rfl rfl (fun w' hw' => (E.load rfl (run_load1 Tryz.isAgg46 ((at28.mono ((i38.tr i86).tr i124)).now (S123.call hw').sl) rfl))) ?_
      refine FD.val rfl rfl rfl (fun w' hw' => (E.move k128)) ?_
      obtain ⟨x137, hx138, hp⟩ := bnd hp
      obtain ⟨p131, cs132, pt133, l134, at135, rel136⟩ := p0_3.at hx138
      obtain ⟨v139, rfl, h140⟩ := eResStep_open rel136
      refine FD.val rfl rfl rfl (fun w' hw' => (E.indexAddr te46 rfl rfl pt133)) ?_
      refine FD.val rfl rfl rfl (fun w' hw' => (E.fieldAddr tf94_0 rfl)) ?_
      refine FD.val rfl rfl rfl (fun w' hw' => (E.load rfl (run_load1 Tryz.isAgg84 ((at135.mono (((i27.tr i38).tr i86).tr i124)).now (S123.call hw').sl) rfl))) ?_
      refine FD.val rfl rfl rfl (fun w' hw' => (E.lenP te84 rfl h140)) ?_
      refine FD.val rfl rfl rfl (fun w' hw' => (E.fieldAddr tf48_3 k127)) ?_
      refine FD.val rfl rfl rfl (fun w' hw' => (E.load rfl (run_load1 Tryz.isAgg3 ((at28.mono ((i38.tr i86).tr i124)).now (S123.call hw').sl) rfl))) ?_
      refine FD.val rfl rfl rfl (fun w' hw' => (E.gtr rfl rfl)) ?_
      refine FD.nil ?_
      intro w141 r143
      have S142 := S123.call r143
      rcases ifB hp with ⟨c144, hp⟩ | ⟨c144, hp⟩
      ·
       refine FW.condT rfl c144 ?_
       refine FW.seq (FW.region ?_)
       refine FL.v (E.assign (v := Value.bool false) rfl) ?_
       refine FL.nil ?_
       refine FW.ret ?_
       obtain rfl := Option.some.inj hp
       exact ⟨nofun, rfl, ⟨.inr rfl, res1 rfl rfl ⟨rfl, S142.back⟩⟩⟩
      ·
       refine FW.condF rfl c144 ?_
       refine FW.skip (FW.region ?_)
       refine FL.v (E.move k128) ?_
       refine FL.v (E.add rfl rfl) ?_
       refine FL.v (E.assign (v := Value.int .i64 (wr (s98 + 1))) rfl) ?_
       refine FL.nil ?_
       obtain rfl := Option.some.inj hp
       exact ⟨rfl, ⟨_, S142, i124, k127, rfl⟩⟩
     ·
      refine FW.condF rfl c129 ?_
      refine FW.exit ?_
      obtain rfl := Option.some.inj hp
      exact ⟨nofun, rfl, ⟨_, S123, i124, k127⟩⟩
    ·
     clear hq
     intro e f150 w149 hD
     rcases q98 with s98 | x98
     ·
      obtain ⟨rfl, hD⟩ := hD
      obtain ⟨H146, S147, i148, k151⟩ := hD
      replace hp := el_go hp
      refine FW.seq (FW.region ?_)
      refine FL.v (E.fieldAddr tf48_0 k151) ?_
      refine FL.v (E.load rfl (run_load1 Tryz.isAgg3 ((at28.mono ((i38.tr i86).tr i148)).now S147.sl) rfl)) ?_
      refine FL.v (E.eql rfl rfl) ?_
      refine FL.v (E.move (v := Value.bool (a0.stage == 1)) rfl) ?_
      obtain ⟨t157, hqt157, hp⟩ := bnd hp
      refine FL.cut 6 (fun f w => ∃ H : GH, St Ha wa H w [] ∧ Inc H146 H ∧ f 77 = Value.bool t157) ?_ ?_
      ·
       clear hp; have hp := hqt157; clear hqt157
       rcases ifB hp with ⟨c163, hp⟩ | ⟨c163, hp⟩
       ·
        refine FL.skip (wF_no rfl rfl rfl c163) rfl ?_
        refine FL.skip (wF_no rfl rfl rfl c163) rfl ?_
        refine FL.skip (wF_no rfl rfl rfl c163) rfl ?_
        refine FL.skip (wF_no rfl rfl rfl c163) rfl ?_
        refine FL.skip (wF_no rfl rfl rfl c163) rfl ?_
        obtain rfl := Option.some.inj hp
        refine FL.v (E.pickT rfl c163 rfl) ?_
        exact FL.nil ⟨rfl, _, S147, (Inc.rfl _), rfl⟩
       ·
        refine FL.val (wF_yes rfl rfl rfl c163) rfl rfl (E.fieldAddr tf48_1 k151) ?_
        refine FL.val (wF_yes rfl rfl rfl c163) rfl rfl (E.load rfl (run_loadA Tryz.isAgg30 Tryz.sizeOf30 (((at28.mono ((i38.tr i86).tr i148)).now S147.sl).sub (j := 1) (n := 2) (c := [Value.int .i64 a0.formula.vars, v0_2]) rfl) rfl)) ?_
        refine FL.val (wF_yes rfl rfl rfl c163) rfl rfl (E.fieldAddr tf48_2 k151) ?_
        refine FL.val (wF_yes rfl rfl rfl c163) rfl rfl (E.load rfl (run_load1 Tryz.isAgg46 ((at28.mono ((i38.tr i86).tr i148)).now S147.sl) rfl)) ?_
        obtain ⟨r164, hr165, hp⟩ := bnd hp
        refine FL.call (wF_yes rfl rfl rfl c163) rfl rfl (E.call Tryz.call70 (A2 rfl rfl)) (w_spec_l7Refutes S147.sl a0.formula v0_2 (p0_2.mono (((i27.tr i38).tr i86).tr i148)) v0_3 a0.steps (p0_3.mono (((i27.tr i38).tr i86).tr i148)) hr165) ?_
        rintro e w166 ⟨rfl, r167⟩
        refine ⟨_, rfl, ?_⟩
        have S168 := S147.call r167
        obtain rfl := Option.some.inj hp
        refine FL.v (E.pickF rfl c163 rfl) ?_
        exact FL.nil ⟨rfl, _, S168, (Inc.rfl _), rfl⟩
      rintro f162 w161 ⟨H158, S159, i160, k169⟩
      refine FL.v (E.assign k169) ?_
      refine FL.nil ?_
      refine FW.ret ?_
      obtain rfl := Option.some.inj hp
      exact ⟨.inr rfl, res1 rfl rfl ⟨rfl, S159.back⟩⟩
     ·
      obtain ⟨he, hL⟩ := hD
      replace hp := el_rt hp
      obtain rfl := Option.some.inj hp
      subst he
      exact hL

theorem w_spec_l2Key {Ha : GH} {wa : World} (hs : Sl Ha wa) (a0 : Int) :
  Calls Tryz.prog 212 #[Value.int .i64 a0] wa (Sc Ha wa (Value.int .i64 (PF.spec_l2Key a0))) := by
 obtain ⟨r, hp⟩ : ∃ r, (PF.spec_l2Key a0) = r := ⟨_, rfl⟩
 rw [hp]
 unfold PF.spec_l2Key at hp
 have S0 := St.init hs
 refine calls_go (N := 10) (args := [Value.int .i64 a0]) Tryz.func212 rfl rfl rfl ?_
 refine FW.seq (FW.region ?_)
 refine FL.v (E.assign (v := Value.int .i64 0) rfl) ?_
 refine FL.nil (FW.seq (FW.seq (FW.region ?_)))
 refine FL.v (E.move (v := Value.int .i64 a0) rfl) ?_
 refine FL.v (E.lss rfl rfl) ?_
 refine FL.nil ?_
 rcases ifT hp with ⟨c21, hp⟩ | ⟨c21, hp⟩
 ·
  refine FW.condT rfl c21 ?_
  refine FW.seq (FW.region ?_)
  refine FL.v (E.move (v := Value.int .i64 a0) rfl) ?_
  refine FL.v (E.mul rfl rfl) ?_
  refine FL.v (E.add rfl rfl) ?_
  refine FL.v (E.assign (v := Value.int .i64 (wr ((wr ((-2) * a0)) + 1))) rfl) ?_
  refine FL.nil ?_
  refine FW.ret ?_
  obtain rfl := hp
  exact ⟨.inr rfl, res1 rfl rfl ⟨rfl, S0.back⟩⟩
 ·
  refine FW.condF rfl c21 ?_
  refine FW.skip (FW.seq (FW.region ?_))
  refine FL.v (E.move (v := Value.int .i64 a0) rfl) ?_
  refine FL.v (E.mul rfl rfl) ?_
  refine FL.v (E.assign (v := Value.int .i64 (wr (2 * a0))) rfl) ?_
  refine FL.nil ?_
  refine FW.ret ?_
  obtain rfl := hp
  exact ⟨.inr rfl, res1 rfl rfl ⟨rfl, S0.back⟩⟩

theorem w_spec_l2Before {Ha : GH} {wa : World} (hs : Sl Ha wa) (v0 : Value) (a0 : List Int) (p0 : RSl Ha eI 1 v0 a0) (v1 : Value) (a1 : List Int) (p1 : RSl Ha eI 1 v1 a1) {r : Bool} (hp : (PF.spec_l2Before a0 a1) = some r) :
  Calls Tryz.prog 169 #[v0, v1] wa (Sc Ha wa (Value.bool r)) := by
 unfold PF.spec_l2Before at hp
 have S0 := St.init hs
 refine calls_go (N := 42) (args := [v0, v1]) Tryz.func169 rfl rfl rfl ?_
 refine FW.seq (FW.region ?_)
 refine FL.v (E.assign (v := Value.bool false) rfl) ?_
 refine FL.nil (FW.seq (FW.seq (FW.region ?_)))
 refine FL.v (E.move (v := v0) rfl) ?_
 refine FL.v (E.lenP te84 rfl p0) ?_
 refine FL.v (E.move (v := v1) rfl) ?_
 refine FL.v (E.lenP te84 rfl p1) ?_
 refine FL.v (E.neq rfl rfl) ?_
 refine FL.nil ?_
 rcases ifB hp with ⟨c21, hp⟩ | ⟨c21, hp⟩
 ·
  refine FW.condT rfl c21 ?_
  refine FW.seq (FW.region ?_)
  refine FL.v (E.move (v := v0) rfl) ?_
  refine FL.v (E.lenP te84 rfl p0) ?_
  refine FL.v (E.move (v := v1) rfl) ?_
  refine FL.v (E.lenP te84 rfl p1) ?_
  refine FL.v (E.lss rfl rfl) ?_
  refine FL.v (E.assign (v := Value.bool (decide ((len a0) < (len a1)))) rfl) ?_
  refine FL.nil ?_
  refine FW.ret ?_
  obtain rfl := Option.some.inj hp
  exact ⟨.inr rfl, res1 rfl rfl ⟨rfl, S0.back⟩⟩
 ·
  refine FW.condF rfl c21 ?_
  refine FW.skip (FW.seq (FW.seq (FW.region ?_)))
  refine FL.v (E.assign (v := Value.int .i64 0) rfl) ?_
  refine FL.nil ?_
  obtain ⟨q23, hq, hp⟩ := bndR hp
  refine FW.block ?_
  refine FW.mono (FW.forL (S := Unit) (X := Bool) (fun (i23 : Nat) (s23 : Unit) f w => ∃ H : GH, St Ha wa H w [] ∧ Inc Ha H ∧ f 5 = Value.int .i64 ((i23 : Nat) : Int) ∧ f 0 = v0 ∧ f 1 = v1) (fun q e f w => match q with | .go s23 => e = Exit.exit 0 ∧ (∃ H : GH, St Ha wa H w [] ∧ Inc Ha H) | .rt x => ((e = Exit.ret) ∧ (fun e f w => (e = Exit.normal ∨ e = Exit.ret) ∧ ∀ a, Fr (δ := []) 42 a f → ∃ v, (results Tryz.f169 a.tmps).run Tryz.prog w = .ok v w ∧ (Sc Ha wa (Value.bool x)) (.returned v) w) e f w)) hq ⟨_, S0, (Inc.rfl _), rfl, rfl, rfl⟩ ?_ ?_) ?_
  ·
   clear hp hq
   rintro i23 y22 s23 f73 w72 ⟨H69, S70, i71, k74, k75, k76⟩ hx23 o114 hp
   refine FW.seq (FW.seq (FW.region ?_))
   refine FL.v (E.move k74) ?_
   refine FL.v (E.move k75) ?_
   refine FL.v (E.lenP te84 rfl p0) ?_
   refine FL.v (E.lssT rfl rfl (lss_len hx23)) ?_
   refine FL.nil ?_
   refine FW.condT rfl rfl ?_
   refine FW.skip (FW.seq (FW.block (FW.seq ?_)))
   refine FW.draw (fun w' => Run w72.heap.size H69 w72 H69 w') (by kernel_rfl) (by kernel_rfl) (run_drew S70.sl) ?_
   refine FD.val rfl rfl rfl (fun w' hw' => (E.move k75)) ?_
   refine FD.val rfl rfl rfl (fun w' hw' => (E.move k74)) ?_
   obtain ⟨p78, cs79, pt80, l81, at82, rel83⟩ := p0.at (ix_nat hx23)
   obtain rfl := eI_open rel83
   refine FD.val rfl rfl rfl (fun w' hw' => (E.indexAddr te84 rfl rfl pt80)) ?_
   refine FD.val rfl rfl rfl (fun w' hw' => (E.load rfl (run_load0 Tryz.isAgg3 ((at82.mono i71).now (S70.call hw').sl) rfl))) ?_
   refine FD.val rfl rfl rfl (fun w' hw' => (E.move k76)) ?_
   refine FD.val rfl rfl rfl (fun w' hw' => (E.move k74)) ?_
   obtain ⟨x90, hx91, hp⟩ := bnd hp
   obtain ⟨p84, cs85, pt86, l87, at88, rel89⟩ := p1.at hx91
   obtain rfl := eI_open rel89
   refine FD.val rfl rfl rfl (fun w' hw' => (E.indexAddr te84 rfl rfl pt86)) ?_
   refine FD.val rfl rfl rfl (fun w' hw' => (E.load rfl (run_load0 Tryz.isAgg3 ((at88.mono i71).now (S70.call hw').sl) rfl))) ?_
   refine FD.val rfl rfl rfl (fun w' hw' => (E.neq rfl rfl)) ?_
   refine FD.nil ?_
   intro w92 r94
   have S93 := S70.call r94
   rcases ifB hp with ⟨c95, hp⟩ | ⟨c95, hp⟩
   ·
    refine FW.condT rfl c95 ?_
    refine FW.seq ?_
    refine FW.draw (fun w' => Run w92.heap.size H69 w92 H69 w') (by kernel_rfl) (by kernel_rfl) (run_drew S93.sl) ?_
    refine FD.val rfl rfl rfl (fun w' hw' => (E.move k75)) ?_
    refine FD.val rfl rfl rfl (fun w' hw' => (E.move k74)) ?_
    obtain ⟨p97, cs98, pt99, l100, at101, rel102⟩ := p0.at (ix_nat hx23)
    obtain rfl := eI_open rel102
    refine FD.val rfl rfl rfl (fun w' hw' => (E.indexAddr te84 rfl rfl pt99)) ?_
    refine FD.val rfl rfl rfl (fun w' hw' => (E.load rfl (run_load0 Tryz.isAgg3 ((at101.mono i71).now (S93.call hw').sl) rfl))) ?_
    refine FD.call rfl rfl rfl (fun w' hw' => (E.call Tryz.call212 (A1 rfl))) (fun w' hw' => Calls.cls hw' (w_spec_l2Key (S93.call hw').sl y22)) ?_
    refine FD.val rfl rfl rfl (fun w' hw' => (E.move k76)) ?_
    refine FD.val rfl rfl rfl (fun w' hw' => (E.move k74)) ?_
    obtain ⟨x109, hx110, hp⟩ := bnd hp
    obtain ⟨p103, cs104, pt105, l106, at107, rel108⟩ := p1.at hx110
    obtain rfl := eI_open rel108
    refine FD.val rfl rfl rfl (fun w' hw' => (E.indexAddr te84 rfl rfl pt105)) ?_
    refine FD.val rfl rfl rfl (fun w' hw' => (E.load rfl (run_load0 Tryz.isAgg3 ((at107.mono i71).now (S93.call hw').sl) rfl))) ?_
    refine FD.call rfl rfl rfl (fun w' hw' => (E.call Tryz.call212 (A1 rfl))) (fun w' hw' => Calls.cls hw' (w_spec_l2Key (S93.call hw').sl x109)) ?_
    refine FD.val rfl rfl rfl (fun w' hw' => (E.lss rfl rfl)) ?_
    refine FD.val rfl rfl rfl (fun w' hw' => (E.assign (v := Value.bool (decide ((PF.spec_l2Key y22) < (PF.spec_l2Key x109)))) rfl)) ?_
    refine FD.nil ?_
    intro w111 r113
    have S112 := S93.call r113
    refine FW.ret ?_
    obtain rfl := Option.some.inj hp
    exact ⟨nofun, rfl, ⟨.inr rfl, res1 rfl rfl ⟨rfl, S112.back⟩⟩⟩
   ·
    refine FW.condF rfl c95 ?_
    refine FW.skip (FW.region ?_)
    refine FL.v (E.move k74) ?_
    refine FL.v (E.add rfl rfl) ?_
    refine FL.v (E.assign (v := Value.int .i64 (wr (((i23 : Nat) : Int) + 1))) rfl) ?_
    refine FL.nil ?_
    obtain rfl := Option.some.inj hp
    exact ⟨rfl, ⟨_, S93, i71, (nat_succ rfl (lt_of_get hx23) (p0.mono i71).le), k75, k76⟩⟩
  ·
   clear hp hq
   rintro s23 f124 w123 ⟨H120, S121, i122, k125, k126, k127⟩
   refine FW.seq (FW.seq (FW.region ?_))
   refine FL.v (E.move k125) ?_
   refine FL.v (E.move k126) ?_
   refine FL.v (E.lenP te84 rfl p0) ?_
   refine FL.v (E.lss rfl rfl) ?_
   refine FL.nil ?_
   refine FW.condF rfl dlt_len ?_
   refine FW.exit ?_
   exact ⟨nofun, rfl, ⟨_, S121, i122⟩⟩
  ·
   clear hq
   intro e f119 w118 hD
   rcases q23 with s23 | x23
   ·
    obtain ⟨rfl, hD⟩ := hD
    obtain ⟨H115, S116, i117⟩ := hD
    replace hp := el_go hp
    refine FW.seq (FW.region ?_)
    refine FL.v (E.assign (v := Value.bool false) rfl) ?_
    refine FL.nil ?_
    refine FW.ret ?_
    obtain rfl := Option.some.inj hp
    exact ⟨.inr rfl, res1 rfl rfl ⟨rfl, S116.back⟩⟩
   ·
    obtain ⟨he, hL⟩ := hD
    replace hp := el_rt hp
    obtain rfl := Option.some.inj hp
    subst he
    exact hL

theorem w_spec_l2Place {Ha : GH} {wa : World} (hs : Sl Ha wa) (v0 : Value) (a0 : List (List Int)) (p0 : RSl Ha (eL eI 1) 1 v0 a0) (v1 : Value) (a1 : List Int) (p1 : RSl Ha eI 1 v1 a1) {r : Int} (hp : (PF.spec_l2Place a0 a1) = some r) :
    Calls Tryz.prog 106 #[v0, v1] wa (Sc Ha wa (Value.int .i64 r)) := by
  unfold PF.spec_l2Place at hp
  have S0 := St.init hs
  refine calls_go (N := 27) (args := [v0, v1]) Tryz.func106 rfl rfl rfl ?_
  refine FW.seq (FW.region ?_)
  refine FL.v (E.assign (v := Value.int .i64 0) rfl) ?_
  refine FL.nil (FW.seq (FW.region ?_))
  refine FL.v (E.move (v := v0) rfl) ?_
  refine FL.v (E.lenP te22 rfl p0) ?_
  refine FL.v (E.assign (v := Value.int .i64 0) rfl) ?_
  refine FL.v (E.assign (v := Value.int .i64 (len a0)) rfl) ?_
  refine FL.nil (FW.seq ?_)
  obtain ⟨q21, hq, hp⟩ := bndR hp
  refine FW.block ?_
  refine FW.mono (FW.iter (S := (Int × Int)) (X := Empty) (fun (s21 : (Int × Int)) f w => ∃ H : GH, St Ha wa H w [] ∧ Inc Ha H ∧ f 0 = v0 ∧ f 1 = v1 ∧ f 5 = Value.int .i64 s21.1 ∧ f 6 = Value.int .i64 s21.2) (fun (q : Rs (Int × Int) Empty) e f w => match q with | .go s21 => e = Exit.exit 0 ∧ (∃ H : GH, St Ha wa H w [] ∧ Inc Ha H ∧ f 5 = Value.int .i64 s21.1) | .rt x => x.elim) hq ⟨_, S0, (Inc.rfl _), rfl, rfl, rfl, rfl⟩ ?_) ?_
  ·
    clear hp hq
    rintro s21 f52 w51 ⟨H48, S49, i50, k53, k54, k55, k56⟩ o74 hp
    refine FW.seq (FW.seq (FW.region ?_))
    refine FL.v (E.move k55) ?_
    refine FL.v (E.move k56) ?_
    refine FL.v (E.lss rfl rfl) ?_
    refine FL.nil ?_
    rcases ifB hp with ⟨c57, hp⟩ | ⟨c57, hp⟩
    ·
      refine FW.condT rfl c57 ?_
      refine FW.skip (FW.block (FW.seq (FW.region ?_)))
      refine FL.v (E.move k55) ?_
      refine FL.v (E.move k56) ?_
      refine FL.v (E.add rfl rfl) ?_
      refine FL.v (E.quo rfl rfl (by decide)) ?_
      refine FL.v (E.assign (v := Value.int .i64 (wr ((wr (s21.1 + s21.2)).tdiv 2))) rfl) ?_
      refine FL.nil (FW.seq (FW.region ?_))
      refine FL.v (E.move k53) ?_
      refine FL.v (E.move (v := Value.int .i64 (wr ((wr (s21.1 + s21.2)).tdiv 2))) rfl) ?_
      obtain ⟨x64, hx65, hp⟩ := bnd hp
      obtain ⟨p58, cs59, pt60, l61, at62, rel63⟩ := p0.at hx65
      obtain ⟨v66, rfl, h67⟩ := eL_open rel63
      refine FL.v (E.indexAddr te22 rfl rfl pt60) ?_
      refine FL.v (E.load rfl (run_load0 Tryz.isAgg84 ((at62.mono i50).now S49.sl) rfl)) ?_
      refine FL.v (E.move k54) ?_
      obtain ⟨r68, hr69, hp⟩ := bnd hp
      refine FL.call rfl rfl rfl (E.call Tryz.call169 (A2 rfl rfl)) (w_spec_l2Before S49.sl v66 x64 (h67.mono i50) v1 a1 (p1.mono i50) hr69) ?_
      rintro e w70 ⟨rfl, r71⟩
      refine ⟨_, rfl, ?_⟩
      have S72 := S49.call r71
      refine FL.nil ?_
      rcases ifB hp with ⟨c73, hp⟩ | ⟨c73, hp⟩
      ·
        refine FW.condT rfl c73 ?_
        refine FW.region ?_
        refine FL.v (E.move (v := Value.int .i64 (wr ((wr (s21.1 + s21.2)).tdiv 2))) rfl) ?_
        refine FL.v (E.add rfl rfl) ?_
        refine FL.v (E.assign (v := Value.int .i64 (wr ((wr ((wr (s21.1 + s21.2)).tdiv 2)) + 1))) rfl) ?_
        refine FL.nil ?_
        obtain rfl := Option.some.inj hp
        exact ⟨rfl, ⟨_, S72, i50, k53, k54, rfl, k56⟩⟩
      ·
        refine FW.condF rfl c73 ?_
        refine FW.region ?_
        refine FL.v (E.move (v := Value.int .i64 (wr ((wr (s21.1 + s21.2)).tdiv 2))) rfl) ?_
        refine FL.v (E.assign (v := Value.int .i64 (wr ((wr (s21.1 + s21.2)).tdiv 2))) rfl) ?_
        refine FL.nil ?_
        obtain rfl := Option.some.inj hp
        exact ⟨rfl, ⟨_, S72, i50, k53, k54, k55, rfl⟩⟩
    ·
      refine FW.condF rfl c57 ?_
      refine FW.exit ?_
      obtain rfl := Option.some.inj hp
      exact ⟨nofun, rfl, ⟨_, S49, i50, k55⟩⟩
  ·
    clear hq
    intro e f79 w78 hD
    rcases q21 with s21 | x21
    ·
      obtain ⟨rfl, hD⟩ := hD
      obtain ⟨H75, S76, i77, k80⟩ := hD
      replace hp := el_go hp
      refine FW.seq (FW.region ?_)
      refine FL.v (E.move k80) ?_
      refine FL.v (E.assign (v := Value.int .i64 s21.1) rfl) ?_
      refine FL.nil ?_
      refine FW.ret ?_
      obtain rfl := Option.some.inj hp
      exact ⟨.inr rfl, res1 rfl rfl ⟨rfl, S76.back⟩⟩
    · exact x21.elim

@[reducible] def p_spec_l2Insert (Ha : GH) (wa : World) (r : (List (List Int))) : Ending → World → Prop :=
 fun e w' => ∃ H' : GH, ∃ v0 : Value, e = .returned (v0) ∧ Run wa.heap.size Ha wa H' w' ∧ RSl H' (eL eI 1) 1 v0 r
theorem w_spec_l2Insert {Ha : GH} {wa : World} (hs : Sl Ha wa) (v0 : Value) (a0 : List (List Int)) (p0 : RSl Ha (eL eI 1) 1 v0 a0) (v1 : Value) (a1 : List Int) (p1 : RSl Ha eI 1 v1 a1) {r : (List (List Int))} (hp : (PF.spec_l2Insert a0 a1) = some r) :
  Calls Tryz.prog 59 #[v0, v1] wa (p_spec_l2Insert Ha wa r) := by
 unfold PF.spec_l2Insert at hp
 have S0 := St.init hs
 refine calls_go (N := 34) (args := [v0, v1]) Tryz.func59 rfl rfl rfl ?_
 refine FW.seq (FW.region ?_)
 refine FL.v (E.assign (v := Value.slice none 0 0) rfl) ?_
 refine FL.nil (FW.seq (FW.region ?_))
 refine FL.v (E.move (v := v0) rfl) ?_
 refine FL.v (E.move (v := v1) rfl) ?_
 obtain ⟨r21, hr22, hp⟩ := bnd hp
 refine FL.call rfl rfl rfl (E.call Tryz.call106 (A2 rfl rfl)) (w_spec_l2Place S0.sl v0 a0 p0 v1 a1 p1 hr22) ?_
 rintro e w23 ⟨rfl, r24⟩
 refine ⟨_, rfl, ?_⟩
 have S25 := S0.call r24
 refine FL.v (E.assign (v := Value.int .i64 r21) rfl) ?_
 refine FL.nil (FW.seq (FW.seq (FW.region ?_)))
 refine FL.v (E.move (v := Value.int .i64 r21) rfl) ?_
 refine FL.v (E.move (v := v0) rfl) ?_
 refine FL.v (E.lenP te22 rfl p0) ?_
 refine FL.v (E.lss rfl rfl) ?_
 refine FL.v (E.move (v := Value.bool (decide (r21 < (len a0)))) rfl) ?_
 obtain ⟨t41, hqt41, hp⟩ := bnd hp
 refine FL.cut 7 (fun f w => ∃ H : GH, St Ha wa H w [] ∧ Inc Ha H ∧ f 0 = v0 ∧ f 1 = v1 ∧ f 5 = Value.int .i64 r21 ∧ f 20 = Value.bool t41) ?_ ?_
 ·
  clear hp; have hp := hqt41; clear hqt41
  rcases ifB hp with ⟨c47, hp⟩ | ⟨c47, hp⟩
  ·
   refine FL.val (wF_yes rfl rfl rfl c47) rfl rfl (E.move (v := v0) rfl) ?_
   refine FL.val (wF_yes rfl rfl rfl c47) rfl rfl (E.move (v := Value.int .i64 r21) rfl) ?_
   obtain ⟨x54, hx55, hp⟩ := bnd hp
   obtain ⟨p48, cs49, pt50, l51, at52, rel53⟩ := p0.at hx55
   obtain ⟨v56, rfl, h57⟩ := eL_open rel53
   refine FL.val (wF_yes rfl rfl rfl c47) rfl rfl (E.indexAddr te22 rfl rfl pt50) ?_
   refine FL.val (wF_yes rfl rfl rfl c47) rfl rfl (E.load rfl (run_load0 Tryz.isAgg84 (at52.now S25.sl) rfl)) ?_
   refine FL.val (wF_yes rfl rfl rfl c47) rfl rfl (E.move (v := v1) rfl) ?_
   obtain ⟨r58, hr59, hp⟩ := bnd hp
   refine FL.call (wF_yes rfl rfl rfl c47) rfl rfl (E.call Tryz.call107 (A2 rfl rfl)) (w_spec_l1Same S25.sl v56 x54 h57 v1 a1 p1 hr59) ?_
   rintro e w60 ⟨rfl, r61⟩
   refine ⟨_, rfl, ?_⟩
   have S62 := S25.call r61
   obtain rfl := Option.some.inj hp
   refine FL.v (E.pickT rfl c47 rfl) ?_
   exact FL.nil ⟨rfl, _, S62, (Inc.rfl _), rfl, rfl, rfl, rfl⟩
  ·
   refine FL.skip (wF_no rfl rfl rfl c47) rfl ?_
   refine FL.skip (wF_no rfl rfl rfl c47) rfl ?_
   refine FL.skip (wF_no rfl rfl rfl c47) rfl ?_
   refine FL.skip (wF_no rfl rfl rfl c47) rfl ?_
   refine FL.skip (wF_no rfl rfl rfl c47) rfl ?_
   refine FL.skip (wF_no rfl rfl rfl c47) rfl ?_
   obtain rfl := Option.some.inj hp
   refine FL.v (E.pickF rfl c47 rfl) ?_
   exact FL.nil ⟨rfl, _, S25, (Inc.rfl _), rfl, rfl, rfl, rfl⟩
 rintro f46 w45 ⟨H42, S43, i44, k63, k64, k65, k66⟩
 refine FL.nil ?_
 rcases ifB hp with ⟨c67, hp⟩ | ⟨c67, hp⟩
 ·
  refine FW.condT k66 c67 ?_
  refine FW.seq (FW.region ?_)
  refine FL.v (E.move k63) ?_
  refine FL.v (E.assign (v := v0) rfl) ?_
  refine FL.nil ?_
  refine FW.ret ?_
  obtain rfl := Option.some.inj hp
  exact ⟨.inr rfl, res1 rfl rfl ⟨_, _, rfl, S43.run, (p0.mono i44)⟩⟩
 ·
  refine FW.condF k66 c67 ?_
  refine FW.skip (FW.seq ?_)
  obtain ⟨xs31, hc32, hp⟩ := bnd hp
  obtain ⟨xs36, hz37, hp⟩ := bnd hp
  obtain ⟨xs80, hz81, hp⟩ := bnd hp
  obtain ⟨xs91, hc92, hp⟩ := bnd hp
  obtain ⟨xs96, hz97, hp⟩ := bnd hp
  refine FW.drawB (Sl H42) (fun f w => ∃ H : GH, ∃ v105 : Value, ∃ n106 : Nat, ∃ cs107 : List Value, St Ha wa H w [.row 84 1 v105 n106 cs107] ∧ Inc H42 H ∧ Els H (eL eI 1) 1 cs107 xs96 ∧ f 4 = v105) (by kernel_rfl) S43.sl ?_ ?_
  ·
   intro w68 r69
   have S70 := S43.call r69
   refine FB.t (i := 1) (bs 13 2) rfl (SP.nil S70.sl) rfl (fun w' hw' => (E.move k63)) ?_
   refine FB.t (i := 2) (bs 13 6) rfl (SP.nil S70.sl) rfl (fun w' hw' => (E.move k65)) ?_
   obtain ⟨v33, run34, h35⟩ := p0.cut te22 hc32 (lo := none) (hi := some (Value.int .i64 r21)) (.inl ⟨rfl, rfl⟩) (.inr ⟨_, rfl⟩)
   refine FB.t (i := 3) (bs 13 14) rfl (SP.nil S70.sl) rfl (fun w' hw' => (E.slice te22 rfl rfl (congrArg some rfl) rfl (run34 _))) ?_
   refine FB.t (i := 5) (bs 13 46) rfl (SP.nil S70.sl) rfl (fun w' hw' => (E.move k64)) ?_
   refine FB.t (i := 8) (bs 13 302) rfl (SP.nil S70.sl) rfl (fun w' hw' => (E.move k63)) ?_
   refine FB.t (i := 9) (bs 13 814) rfl (SP.nil S70.sl) rfl (fun w' hw' => (E.move k65)) ?_
   obtain ⟨v93, run94, h95⟩ := p0.cut te22 hc92 (lo := some (Value.int .i64 r21)) (hi := none) (.inr ⟨_, rfl⟩) (.inl ⟨rfl, rfl⟩)
   refine FB.t (i := 10) (bs 13 1838) rfl (SP.nil S70.sl) rfl (fun w' hw' => (E.slice te22 rfl (congrArg some rfl) rfl rfl (run94 _))) ?_
   refine FB.all2 (i := 0) (j := 6) (by kernel_rfl) ?_ ?_
   ·
    obtain ⟨v26, w27, run28, S29⟩ := S70.buildSlice (P := Tryz.prog) te22 [] (parts := #[]) (cells := []) rfl szs_nil fc_nil ones_nil (Nat.le_of_ble_eq_true rfl)
    have els30 : Els (up wa.heap.size H42) (eL eI 1) 1 [] [] := Els.nil
    refine FC.val (l' := (bs 13 1839)) rfl (by kernel_rfl) rfl rfl rfl (E.buildSlice (B0) run28) ?_
    refine ⟨(SP.nil S29.sl), ?_⟩
    refine FB.all2 (i := 4) (j := 6) (by kernel_rfl) ?_ ?_
    ·
     obtain ⟨v38, w71, n39, cs40, run72, S73, els74⟩ := S29.appendP (P := Tryz.prog) (Inc.rfl _) te22 (i := 0) rfl (els30.mono upI) (h35.mono i44) hz37
     have S73 : St Ha wa H42 w71 [.row 84 1 v38 n39 cs40] := S73
     refine FC.val (l' := (bs 13 1855)) rfl (by kernel_rfl) rfl rfl rfl (E.append rfl rfl run72) ?_
     refine ⟨(SP.nil S73.sl), ?_⟩
     refine FB.all1 (i := 6) (by kernel_rfl) ?_
     ·
      obtain ⟨v75, w76, run77, S78⟩ := S73.buildSlice (P := Tryz.prog) te22 [v1] (parts := #[(0, v1)]) (cells := [v1]) rfl (szs_cons (cells_size p1.cells) szs_nil) (fc_cons p1.cells fc_nil) (ones_cons p1.one ones_nil) (Nat.le_of_ble_eq_true rfl)
      have els79 : Els H42 (eL eI 1) 1 [v1] [a1] := (Els.snoc (H := H42) (E := (eL eI 1)) (k := 1) (c := [v1]) (x := a1) Els.nil rfl ⟨_, rfl, (p1.mono i44)⟩)
      refine FC.val (l' := (bs 13 1919)) rfl (by kernel_rfl) rfl rfl rfl (E.buildSlice (B1 rfl) run77) ?_
      refine ⟨(SP.nil S78.sl), ?_⟩
      refine FB.all1 (i := 7) (by kernel_rfl) ?_
      ·
       obtain ⟨v82, w85, n83, cs84, run86, S87, els88, ce89⟩ := S78.appendO (P := Tryz.prog) te22 (i := 1) (j := 0) rfl els74 rfl els79 hz81
       have S87 : St Ha wa H42 w85 [.row 84 1 v75 1 [v1], .row 84 1 v82 n83 cs84] := S87
       have S90 : St Ha wa H42 w85 [.row 84 1 v82 n83 cs84] := S87.drop 0
       refine FC.val (l' := (bs 13 2047)) rfl (by kernel_rfl) rfl rfl rfl (E.append rfl rfl run86) ?_
       refine ⟨(SP.nil S90.sl), ?_⟩
       refine FB.all1 (i := 11) (by kernel_rfl) ?_
       ·
        obtain ⟨v98, w101, n99, cs100, run102, S103, els104⟩ := S90.appendP (P := Tryz.prog) (Inc.rfl _) te22 (i := 0) rfl els88 (h95.mono i44) hz97
        have S103 : St Ha wa H42 w101 [.row 84 1 v98 n99 cs100] := S103
        refine FC.val (l' := (bs 13 4095)) rfl (by kernel_rfl) rfl rfl rfl (E.append rfl rfl run102) ?_
        refine ⟨(SP.nil S103.sl), ?_⟩
        refine FB.t (i := 12) (bs 13 8191) rfl (SP.nil S103.sl) rfl (fun w' hw' => (E.assign (v := v98) rfl)) ?_
        exact FB.done (by kernel_rfl) ⟨_, _, _, _, S103, (Inc.rfl _), els104, rfl⟩
    ·
     obtain ⟨v75, w76, run77, S78⟩ := S29.buildSlice (P := Tryz.prog) te22 [v1] (parts := #[(0, v1)]) (cells := [v1]) rfl (szs_cons (cells_size p1.cells) szs_nil) (fc_cons p1.cells fc_nil) (ones_cons p1.one ones_nil) (Nat.le_of_ble_eq_true rfl)
     have els79 : Els H42 (eL eI 1) 1 [v1] [a1] := (Els.snoc (H := H42) (E := (eL eI 1)) (k := 1) (c := [v1]) (x := a1) Els.nil rfl ⟨_, rfl, (p1.mono i44)⟩)
     refine FC.val (l' := (bs 13 1903)) rfl (by kernel_rfl) rfl rfl rfl (E.buildSlice (B1 rfl) run77) ?_
     refine ⟨(SP.nil S78.sl), ?_⟩
     refine FB.all1 (i := 4) (by kernel_rfl) ?_
     ·
      obtain ⟨v38, w71, n39, cs40, run72, S73, els74⟩ := S78.appendP (P := Tryz.prog) (Inc.rfl _) te22 (i := 1) rfl (els30.mono upI) (h35.mono i44) hz37
      have S73 : St Ha wa H42 w71 [.row 84 1 v75 1 [v1], .row 84 1 v38 n39 cs40] := S73
      refine FC.val (l' := (bs 13 1919)) rfl (by kernel_rfl) rfl rfl rfl (E.append rfl rfl run72) ?_
      refine ⟨(SP.nil S73.sl), ?_⟩
      refine FB.all1 (i := 7) (by kernel_rfl) ?_
      ·
       obtain ⟨v82, w85, n83, cs84, run86, S87, els88, ce89⟩ := S73.appendO (P := Tryz.prog) te22 (i := 1) (j := 0) rfl els74 rfl els79 hz81
       have S87 : St Ha wa H42 w85 [.row 84 1 v75 1 [v1], .row 84 1 v82 n83 cs84] := S87
       have S90 : St Ha wa H42 w85 [.row 84 1 v82 n83 cs84] := S87.drop 0
       refine FC.val (l' := (bs 13 2047)) rfl (by kernel_rfl) rfl rfl rfl (E.append rfl rfl run86) ?_
       refine ⟨(SP.nil S90.sl), ?_⟩
       refine FB.all1 (i := 11) (by kernel_rfl) ?_
       ·
        obtain ⟨v98, w101, n99, cs100, run102, S103, els104⟩ := S90.appendP (P := Tryz.prog) (Inc.rfl _) te22 (i := 0) rfl els88 (h95.mono i44) hz97
        have S103 : St Ha wa H42 w101 [.row 84 1 v98 n99 cs100] := S103
        refine FC.val (l' := (bs 13 4095)) rfl (by kernel_rfl) rfl rfl rfl (E.append rfl rfl run102) ?_
        refine ⟨(SP.nil S103.sl), ?_⟩
        refine FB.t (i := 12) (bs 13 8191) rfl (SP.nil S103.sl) rfl (fun w' hw' => (E.assign (v := v98) rfl)) ?_
        exact FB.done (by kernel_rfl) ⟨_, _, _, _, S103, (Inc.rfl _), els104, rfl⟩
   ·
    obtain ⟨v75, w76, run77, S78⟩ := S70.buildSlice (P := Tryz.prog) te22 [v1] (parts := #[(0, v1)]) (cells := [v1]) rfl (szs_cons (cells_size p1.cells) szs_nil) (fc_cons p1.cells fc_nil) (ones_cons p1.one ones_nil) (Nat.le_of_ble_eq_true rfl)
    have els79 : Els H42 (eL eI 1) 1 [v1] [a1] := (Els.snoc (H := H42) (E := (eL eI 1)) (k := 1) (c := [v1]) (x := a1) Els.nil rfl ⟨_, rfl, (p1.mono i44)⟩)
    refine FC.val (l' := (bs 13 1902)) rfl (by kernel_rfl) rfl rfl rfl (E.buildSlice (B1 rfl) run77) ?_
    refine ⟨(SP.nil S78.sl), ?_⟩
    refine FB.all1 (i := 0) (by kernel_rfl) ?_
    ·
     obtain ⟨v26, w27, run28, S29⟩ := S78.buildSlice (P := Tryz.prog) te22 [] (parts := #[]) (cells := []) rfl szs_nil fc_nil ones_nil (Nat.le_of_ble_eq_true rfl)
     have els30 : Els (up wa.heap.size H42) (eL eI 1) 1 [] [] := Els.nil
     refine FC.val (l' := (bs 13 1903)) rfl (by kernel_rfl) rfl rfl rfl (E.buildSlice (B0) run28) ?_
     refine ⟨(SP.nil S29.sl), ?_⟩
     refine FB.all1 (i := 4) (by kernel_rfl) ?_
     ·
      obtain ⟨v38, w71, n39, cs40, run72, S73, els74⟩ := S29.appendP (P := Tryz.prog) (Inc.rfl _) te22 (i := 0) rfl (els30.mono upI) (h35.mono i44) hz37
      have S73 : St Ha wa H42 w71 [.row 84 1 v38 n39 cs40, .row 84 1 v75 1 [v1]] := S73
      refine FC.val (l' := (bs 13 1919)) rfl (by kernel_rfl) rfl rfl rfl (E.append rfl rfl run72) ?_
      refine ⟨(SP.nil S73.sl), ?_⟩
      refine FB.all1 (i := 7) (by kernel_rfl) ?_
      ·
       obtain ⟨v82, w85, n83, cs84, run86, S87, els88, ce89⟩ := S73.appendO (P := Tryz.prog) te22 (i := 0) (j := 1) rfl els74 rfl els79 hz81
       have S87 : St Ha wa H42 w85 [.row 84 1 v82 n83 cs84, .row 84 1 v75 1 [v1]] := S87
       have S90 : St Ha wa H42 w85 [.row 84 1 v82 n83 cs84] := S87.drop 1
       refine FC.val (l' := (bs 13 2047)) rfl (by kernel_rfl) rfl rfl rfl (E.append rfl rfl run86) ?_
       refine ⟨(SP.nil S90.sl), ?_⟩
       refine FB.all1 (i := 11) (by kernel_rfl) ?_
       ·
        obtain ⟨v98, w101, n99, cs100, run102, S103, els104⟩ := S90.appendP (P := Tryz.prog) (Inc.rfl _) te22 (i := 0) rfl els88 (h95.mono i44) hz97
        have S103 : St Ha wa H42 w101 [.row 84 1 v98 n99 cs100] := S103
        refine FC.val (l' := (bs 13 4095)) rfl (by kernel_rfl) rfl rfl rfl (E.append rfl rfl run102) ?_
        refine ⟨(SP.nil S103.sl), ?_⟩
        refine FB.t (i := 12) (bs 13 8191) rfl (SP.nil S103.sl) rfl (fun w' hw' => (E.assign (v := v98) rfl)) ?_
        exact FB.done (by kernel_rfl) ⟨_, _, _, _, S103, (Inc.rfl _), els104, rfl⟩
  ·
   rintro f113 w112 ⟨H109, v105, n106, cs107, S110, i111, els108, k114⟩
   refine FW.ret ?_
   obtain ⟨H115, S116, i117, h118⟩ := S110.sealRow (i := 0) (l' := []) rfl els108 (by decide) rfl
   obtain rfl := Option.some.inj hp
   exact ⟨.inr rfl, res1 rfl k114 ⟨_, _, rfl, S116.run, h118⟩⟩

@[reducible] def p_spec_BenchClauses (Ha : GH) (wa : World) (r : ((List (List Int)) × Bool)) : Ending → World → Prop :=
  fun e w' => ∃ H' : GH, ∃ v0 : Value, e = .returned (Value.tuple #[v0, Value.bool r.2]) ∧ Run wa.heap.size Ha wa H' w' ∧ RSl H' (eL eI 1) 1 v0 r.1
theorem w_spec_BenchClauses {Ha : GH} {wa : World} (hs : Sl Ha wa) (a0 : Bench) (v0_2 : Value) (p0_2 : RSl Ha (eL eI 1) 1 v0_2 a0.formula.clauses) (v0_3 : Value) (p0_3 : RSl Ha eResStep 4 v0_3 a0.steps) {r : ((List (List Int)) × Bool)} (hp : (PF.spec_BenchClauses a0) = some r) :
    Calls Tryz.prog 22 #[Value.agg #[Value.int .i64 a0.stage, Value.int .i64 a0.formula.vars, v0_2, v0_3, Value.int .i64 a0.wide, Value.int .i64 a0.count]] wa (p_spec_BenchClauses Ha wa r) := by
  unfold PF.spec_BenchClauses at hp
  have S0 := St.init hs
  refine calls_go (N := 28) (args := [Value.agg #[Value.int .i64 a0.stage, Value.int .i64 a0.formula.vars, v0_2, v0_3, Value.int .i64 a0.wide, Value.int .i64 a0.count]]) Tryz.func22 rfl rfl rfl ?_
  refine FW.seq (FW.region ?_)
  obtain ⟨b21, w22, run23, S24⟩ := S0.box (P := Tryz.prog) 48 [Value.int .i64 a0.stage, Value.int .i64 a0.formula.vars, v0_2, v0_3, Value.int .i64 a0.wide, Value.int .i64 a0.count] (v := Value.agg #[Value.int .i64 a0.stage, Value.int .i64 a0.formula.vars, v0_2, v0_3, Value.int .i64 a0.wide, Value.int .i64 a0.count]) rfl (ones_cons rfl (ones_cons rfl (ones_cons p0_2.one (ones_cons p0_3.one (ones_cons rfl (ones_cons rfl ones_nil))))))
  refine FL.v (E.box rfl run23) ?_
  obtain ⟨H25, S26, i27, at28⟩ := S24.sealBox (i := 0) (l' := []) rfl rfl
  refine FL.v (E.assign (v := Value.slice none 0 0) rfl) ?_
  refine FL.v (E.assign (v := Value.bool false) rfl) ?_
  refine FL.nil (FW.seq (FW.region ?_))
  obtain ⟨v29, w30, run31, S32⟩ := S26.buildSlice (P := Tryz.prog) te22 [] (parts := #[]) (cells := []) rfl szs_nil fc_nil ones_nil (Nat.le_of_ble_eq_true rfl)
  have els33 : Els (up wa.heap.size H25) (eL eI 1) 1 [] [] := Els.nil
  refine FL.v (E.buildSlice (B0) run31) ?_
  refine FL.v (E.assign (v := v29) rfl) ?_
  refine FL.nil (FW.seq (FW.seq (FW.region ?_)))
  refine FL.v (E.load rfl (run_loadA Tryz.isAgg48 Tryz.sizeOf48 (at28.now S32.sl) rfl)) ?_
  obtain ⟨r34, hr35, hp⟩ := bnd hp
  refine FL.call rfl rfl rfl (E.call Tryz.call58 (A1 rfl)) (w_spec_l32Good S32.sl a0 v0_2 (p0_2.mono i27) v0_3 (p0_3.mono i27) hr35) ?_
  rintro e w36 ⟨rfl, r37⟩
  refine ⟨_, rfl, ?_⟩
  have S38 := S32.call r37
  refine FL.v (E.not rfl) ?_
  refine FL.nil ?_
  rcases ifB hp with ⟨c39, hp⟩ | ⟨c39, hp⟩
  ·
    refine FW.condT rfl c39 ?_
    refine FW.seq (FW.region ?_)
    refine FL.v (E.move (v := v29) rfl) ?_
    refine FL.v (E.assign (v := v29) rfl) ?_
    refine FL.v (E.assign (v := Value.bool false) rfl) ?_
    refine FL.nil ?_
    refine FW.ret ?_
    obtain ⟨H40, S41, i42, ns45, nv44⟩ := S38.sealRowN (i := 0) (l' := []) rfl els33 (show (bl []).Nodup from List.nodup_nil) (by decide) rfl
    have h43 := ns45.rsl
    obtain rfl := Option.some.inj hp
    exact ⟨.inr rfl, res2 rfl rfl rfl ⟨_, _, rfl, S41.run, (h43.mono upI)⟩⟩
  ·
    refine FW.condF rfl c39 ?_
    refine FW.skip (FW.seq (FW.seq (FW.region ?_)))
    refine FL.v (E.assign (v := Value.int .i64 0) rfl) ?_
    refine FL.nil ?_
    obtain ⟨H46, S47, i48, ns51, nv50⟩ := S38.sealRowN (i := 0) (l' := []) rfl els33 (show (bl []).Nodup from List.nodup_nil) (by decide) rfl
    have h49 := ns51.rsl
    obtain ⟨q52, hq, hp⟩ := bndR hp
    refine FW.block ?_
    refine FW.mono (FW.iter (S := ((List (List Int)) × Int)) (X := Empty) (fun (s52 : ((List (List Int)) × Int)) f w => ∃ H : GH, ∃ v53 : Value, St Ha wa H w [] ∧ Inc H46 H ∧ RSl H (eL eI 1) 1 v53 s52.1 ∧ f 1 = Value.pointer (some ⟨b21, 0, none⟩) ∧ f 4 = v53 ∧ f 5 = Value.int .i64 s52.2) (fun (q : Rs ((List (List Int)) × Int) Empty) e f w => match q with | .go s52 => e = Exit.exit 0 ∧ (∃ H : GH, ∃ v53 : Value, St Ha wa H w [] ∧ Inc H46 H ∧ RSl H (eL eI 1) 1 v53 s52.1 ∧ f 4 = v53) | .rt x => x.elim) hq ⟨_, _, S47, (Inc.rfl _), (h49.mono upI), rfl, rfl, rfl⟩ ?_) ?_
    ·
      clear hp hq
      rintro s52 f101 w100 ⟨H97, v53, S98, i99, h54, k102, k103, k104⟩ o139 hp
      refine FW.seq (FW.seq (FW.region ?_))
      refine FL.v (E.move k104) ?_
      refine FL.v (E.fieldAddr tf48_2 k102) ?_
      refine FL.v (E.load rfl (run_load1 Tryz.isAgg46 ((at28.mono (i48.tr i99)).now S98.sl) rfl)) ?_
      refine FL.v (E.lenP te46 rfl p0_3) ?_
      refine FL.v (E.lss rfl rfl) ?_
      refine FL.nil ?_
      rcases ifB hp with ⟨c105, hp⟩ | ⟨c105, hp⟩
      ·
        refine FW.condT rfl c105 ?_
        refine FW.skip (FW.seq (FW.block (FW.region ?_)))
        refine FL.v (E.move k103) ?_
        refine FL.v (E.fieldAddr tf48_2 k102) ?_
        refine FL.v (E.load rfl (run_load1 Tryz.isAgg46 ((at28.mono (i48.tr i99)).now S98.sl) rfl)) ?_
        refine FL.v (E.move k104) ?_
        obtain ⟨x112, hx113, hp⟩ := bnd hp
        obtain ⟨p106, cs107, pt108, l109, at110, rel111⟩ := p0_3.at hx113
        obtain ⟨v114, rfl, h115⟩ := eResStep_open rel111
        refine FL.v (E.indexAddr te46 rfl rfl pt108) ?_
        refine FL.v (E.fieldAddr tf94_0 rfl) ?_
        refine FL.v (E.load rfl (run_load1 Tryz.isAgg84 ((at110.mono ((i27.tr i48).tr i99)).now S98.sl) rfl)) ?_
        obtain ⟨r116, hr117, hp⟩ := bnd hp
        refine FL.call rfl rfl rfl (E.call Tryz.call60 (A1 rfl)) (w_spec_l1Own S98.sl v114 x112.clause (h115.mono ((i27.tr i48).tr i99)) hr117) ?_
        rintro e w119 ⟨H118, v122, n123, cs124, rfl, r121, els125⟩
        refine ⟨_, rfl, ?_⟩
        have els125 := els125.mono (up_le S98.size)
        have S120 := S98.join (l' := [.row 3 1 v122 n123 cs124]) r121 rfl
        obtain ⟨H126, S127, i128, h129, nv130⟩ := S120.sealRowU (i := 0) (l' := []) rfl els125 (by decide) rfl
        obtain ⟨r131, hr132, hp⟩ := bnd hp
        refine FL.call rfl rfl rfl (E.call Tryz.call59 (A2 rfl rfl)) (w_spec_l2Insert S127.sl v53 s52.1 (h54.mono (r121.run.inc.tr i128)) v122 r116 (h129.mono upI) hr132) ?_
        rintro e w134 ⟨H133, v137, rfl, r136, h138⟩
        refine ⟨_, rfl, ?_⟩
        have S135 := S127.call r136
        refine FL.v (E.assign (v := v137) rfl) ?_
        refine FL.nil (FW.region ?_)
        refine FL.v (E.move k104) ?_
        refine FL.v (E.add rfl rfl) ?_
        refine FL.v (E.assign (v := Value.int .i64 (wr (s52.2 + 1))) rfl) ?_
        refine FL.nil ?_
        obtain rfl := Option.some.inj hp
        exact ⟨rfl, ⟨_, _, S135, (((i99.tr r121.run.inc).tr i128).tr r136.inc), h138, k102, rfl, rfl⟩⟩
      ·
        refine FW.condF rfl c105 ?_
        refine FW.exit ?_
        obtain rfl := Option.some.inj hp
        exact ⟨nofun, rfl, ⟨_, _, S98, i99, h54, k103⟩⟩
    ·
      clear hq
      intro e f144 w143 hD
      rcases q52 with s52 | x52
      ·
        obtain ⟨rfl, hD⟩ := hD
        obtain ⟨H140, v53, S141, i142, h54, k145⟩ := hD
        replace hp := el_go hp
        refine FW.seq (FW.region ?_)
        refine FL.v (E.move k145) ?_
        refine FL.v (E.assign (v := v53) rfl) ?_
        refine FL.v (E.assign (v := Value.bool true) rfl) ?_
        refine FL.nil ?_
        refine FW.ret ?_
        obtain rfl := Option.some.inj hp
        exact ⟨.inr rfl, res2 rfl rfl rfl ⟨_, _, rfl, S141.run, h54⟩⟩
      · exact x52.elim

theorem w_impl_within {Ha : GH} {wa : World} (hs : Sl Ha wa) (a0 : Int) (a1 : Int) (a2 : Int) :
  Calls Tryz.prog 108 #[Value.int .i64 a0, Value.int .i64 a1, Value.int .i64 a2] wa (Sc Ha wa (Value.bool (PF.impl_within a0 a1 a2))) := by
 obtain ⟨r, hp⟩ : ∃ r, (PF.impl_within a0 a1 a2) = r := ⟨_, rfl⟩
 rw [hp]
 unfold PF.impl_within at hp
 have S0 := St.init hs
 refine calls_go (N := 15) (args := [Value.int .i64 a0, Value.int .i64 a1, Value.int .i64 a2]) Tryz.func108 rfl rfl rfl ?_
 refine FW.seq (FW.region ?_)
 refine FL.v (E.assign (v := Value.bool false) rfl) ?_
 refine FL.nil (FW.seq (FW.region ?_))
 refine FL.v (E.move (v := Value.int .i64 a0) rfl) ?_
 refine FL.v (E.move (v := Value.int .i64 a1) rfl) ?_
 refine FL.v (E.geq rfl rfl) ?_
 refine FL.v (E.move (v := Value.bool (decide (a1 ≤ a0))) rfl) ?_
 refine FL.cut 4 (fun f w => ∃ H : GH, St Ha wa H w [] ∧ Inc Ha H ∧ f 14 = Value.bool (bif (decide (a1 ≤ a0)) then (decide (a0 ≤ a2)) else false)) ?_ ?_
 ·
  rcases bcase (decide (a1 ≤ a0)) with c27 | c27
  ·
   refine FL.val (wF_yes rfl rfl rfl c27) rfl rfl (E.move (v := Value.int .i64 a0) rfl) ?_
   refine FL.val (wF_yes rfl rfl rfl c27) rfl rfl (E.move (v := Value.int .i64 a2) rfl) ?_
   refine FL.val (wF_yes rfl rfl rfl c27) rfl rfl (E.leq rfl rfl) ?_
   refine FL.v (E.pickT rfl c27 rfl) ?_
   exact FL.nil ⟨rfl, _, S0, (Inc.rfl _), (congrArg Value.bool (bifT c27).symm)⟩
  ·
   refine FL.skip (wF_no rfl rfl rfl c27) rfl ?_
   refine FL.skip (wF_no rfl rfl rfl c27) rfl ?_
   refine FL.skip (wF_no rfl rfl rfl c27) rfl ?_
   refine FL.v (E.pickF rfl c27 rfl) ?_
   exact FL.nil ⟨rfl, _, S0, (Inc.rfl _), (congrArg Value.bool (bifF c27).symm)⟩
 rintro f26 w25 ⟨H22, S23, i24, k28⟩
 refine FL.v (E.assign k28) ?_
 refine FL.nil ?_
 refine FW.ret ?_
 obtain rfl := hp
 exact ⟨.inr rfl, res1 rfl rfl ⟨rfl, S23.back⟩⟩

theorem w_impl_varsOk {Ha : GH} {wa : World} (hs : Sl Ha wa) (a0 : Int) :
  Calls Tryz.prog 109 #[Value.int .i64 a0] wa (Sc Ha wa (Value.bool (PF.impl_varsOk a0))) := by
 obtain ⟨r, hp⟩ : ∃ r, (PF.impl_varsOk a0) = r := ⟨_, rfl⟩
 rw [hp]
 unfold PF.impl_varsOk at hp
 have S0 := St.init hs
 refine calls_go (N := 5) (args := [Value.int .i64 a0]) Tryz.func109 rfl rfl rfl ?_
 refine FW.seq (FW.region ?_)
 refine FL.v (E.assign (v := Value.bool false) rfl) ?_
 refine FL.nil (FW.seq (FW.region ?_))
 refine FL.v (E.move (v := Value.int .i64 a0) rfl) ?_
 refine FL.call rfl rfl rfl (E.call Tryz.call108 (A3 rfl rfl rfl)) (w_impl_within S0.sl a0 0 12) ?_
 rintro e w21 ⟨rfl, r22⟩
 refine ⟨_, rfl, ?_⟩
 have S23 := S0.call r22
 refine FL.v (E.assign (v := Value.bool (PF.impl_within a0 0 12)) rfl) ?_
 refine FL.nil ?_
 refine FW.ret ?_
 obtain rfl := hp
 exact ⟨.inr rfl, res1 rfl rfl ⟨rfl, S23.back⟩⟩

theorem w_impl_isLiteral {Ha : GH} {wa : World} (hs : Sl Ha wa) (a0 : Int) (a1 : Int) :
  Calls Tryz.prog 199 #[Value.int .i64 a0, Value.int .i64 a1] wa (Sc Ha wa (Value.bool (PF.impl_isLiteral a0 a1))) := by
 obtain ⟨r, hp⟩ : ∃ r, (PF.impl_isLiteral a0 a1) = r := ⟨_, rfl⟩
 rw [hp]
 unfold PF.impl_isLiteral at hp
 have S0 := St.init hs
 refine calls_go (N := 14) (args := [Value.int .i64 a0, Value.int .i64 a1]) Tryz.func199 rfl rfl rfl ?_
 refine FW.seq (FW.region ?_)
 refine FL.v (E.assign (v := Value.bool false) rfl) ?_
 refine FL.nil (FW.seq (FW.region ?_))
 refine FL.v (E.move (v := Value.int .i64 a1) rfl) ?_
 refine FL.v (E.neq rfl rfl) ?_
 refine FL.v (E.move (v := Value.bool (!(a1 == 0))) rfl) ?_
 refine FL.cut 6 (fun f w => ∃ H : GH, St Ha wa H w [] ∧ Inc Ha H ∧ f 13 = Value.bool (bif (!(a1 == 0)) then (PF.impl_within a1 (wr (-a0)) a0) else false)) ?_ ?_
 ·
  rcases bcase (!(a1 == 0)) with c30 | c30
  ·
   refine FL.val (wF_yes rfl rfl rfl c30) rfl rfl (E.move (v := Value.int .i64 a1) rfl) ?_
   refine FL.val (wF_yes rfl rfl rfl c30) rfl rfl (E.move (v := Value.int .i64 a0) rfl) ?_
   refine FL.val (wF_yes rfl rfl rfl c30) rfl rfl (E.neg rfl) ?_
   refine FL.val (wF_yes rfl rfl rfl c30) rfl rfl (E.move (v := Value.int .i64 a0) rfl) ?_
   refine FL.call (wF_yes rfl rfl rfl c30) rfl rfl (E.call Tryz.call108 (A3 rfl rfl rfl)) (w_impl_within S0.sl a1 (wr (-a0)) a0) ?_
   rintro e w31 ⟨rfl, r32⟩
   refine ⟨_, rfl, ?_⟩
   have S33 := S0.call r32
   refine FL.v (E.pickT rfl c30 rfl) ?_
   exact FL.nil ⟨rfl, _, S33, (Inc.rfl _), (congrArg Value.bool (bifT c30).symm)⟩
  ·
   refine FL.skip (wF_no rfl rfl rfl c30) rfl ?_
   refine FL.skip (wF_no rfl rfl rfl c30) rfl ?_
   refine FL.skip (wF_no rfl rfl rfl c30) rfl ?_
   refine FL.skip (wF_no rfl rfl rfl c30) rfl ?_
   refine FL.skip (wF_no rfl rfl rfl c30) rfl ?_
   refine FL.v (E.pickF rfl c30 rfl) ?_
   exact FL.nil ⟨rfl, _, S0, (Inc.rfl _), (congrArg Value.bool (bifF c30).symm)⟩
 rintro f29 w28 ⟨H25, S26, i27, k34⟩
 refine FL.v (E.assign k34) ?_
 refine FL.nil ?_
 refine FW.ret ?_
 obtain rfl := hp
 exact ⟨.inr rfl, res1 rfl rfl ⟨rfl, S26.back⟩⟩

theorem w_impl_abs {Ha : GH} {wa : World} (hs : Sl Ha wa) (a0 : Int) :
  Calls Tryz.prog 166 #[Value.int .i64 a0] wa (Sc Ha wa (Value.int .i64 (PF.impl_abs a0))) := by
 obtain ⟨r, hp⟩ : ∃ r, (PF.impl_abs a0) = r := ⟨_, rfl⟩
 rw [hp]
 unfold PF.impl_abs at hp
 have S0 := St.init hs
 refine calls_go (N := 7) (args := [Value.int .i64 a0]) Tryz.func166 rfl rfl rfl ?_
 refine FW.seq (FW.region ?_)
 refine FL.v (E.assign (v := Value.int .i64 0) rfl) ?_
 refine FL.nil (FW.seq (FW.region ?_))
 refine FL.v (E.move (v := Value.int .i64 a0) rfl) ?_
 refine FL.v (E.move (v := Value.int .i64 a0) rfl) ?_
 refine FL.v (E.neg rfl) ?_
 refine FL.v (E.max2 rfl rfl) ?_
 refine FL.v (E.assign (v := Value.int .i64 (mx a0 (wr (-a0)))) rfl) ?_
 refine FL.nil ?_
 refine FW.ret ?_
 obtain rfl := hp
 exact ⟨.inr rfl, res1 rfl rfl ⟨rfl, S0.back⟩⟩

theorem w_impl_IsClause {Ha : GH} {wa : World} (hs : Sl Ha wa) (a0 : Int) (v1 : Value) (a1 : List Int) (p1 : RSl Ha eI 1 v1 a1) {r : Bool} (hp : (PF.impl_IsClause a0 a1) = some r) :
  Calls Tryz.prog 151 #[Value.int .i64 a0, v1] wa (Sc Ha wa (Value.bool r)) := by
 unfold PF.impl_IsClause at hp
 have S0 := St.init hs
 refine calls_go (N := 36) (args := [Value.int .i64 a0, v1]) Tryz.func151 rfl rfl rfl ?_
 refine FW.seq (FW.region ?_)
 refine FL.v (E.assign (v := Value.bool false) rfl) ?_
 refine FL.nil (FW.seq (FW.seq (FW.region ?_)))
 refine FL.v (E.move (v := v1) rfl) ?_
 refine FL.v (E.lenP te84 rfl p1) ?_
 refine FL.v (E.move (v := Value.int .i64 0) rfl) ?_
 refine FL.nil ?_
 obtain ⟨q22, hq, hp⟩ := bndR hp
 refine FW.block ?_
 refine FW.mono (FW.forL (S := Unit) (X := Bool) (fun (i22 : Nat) (s22 : Unit) f w => ∃ H : GH, St Ha wa H w [] ∧ Inc Ha H ∧ f 9 = Value.int .i64 ((i22 : Nat) : Int) ∧ f 0 = Value.int .i64 a0 ∧ f 1 = v1 ∧ f 7 = v1 ∧ f 8 = Value.int .i64 (len a1)) (fun q e f w => match q with | .go s22 => e = Exit.exit 0 ∧ (∃ H : GH, St Ha wa H w [] ∧ Inc Ha H ∧ f 0 = Value.int .i64 a0) | .rt x => ((e = Exit.ret) ∧ (fun e f w => (e = Exit.normal ∨ e = Exit.ret) ∧ ∀ a, Fr (δ := []) 36 a f → ∃ v, (results Tryz.f151 a.tmps).run Tryz.prog w = .ok v w ∧ (Sc Ha wa (Value.bool x)) (.returned v) w) e f w)) hq ⟨_, S0, (Inc.rfl _), rfl, rfl, rfl, rfl, rfl⟩ ?_ ?_) ?_
 ·
  clear hp hq
  rintro i22 y21 s22 f121 w120 ⟨H117, S118, i119, k122, k123, k124, k125, k126⟩ hx22 o211 hp
  refine FW.seq (FW.region ?_)
  refine FL.v (E.lssT k122 k126 (lss_len hx22)) ?_
  refine FL.nil (FW.seq ?_)
  refine FW.condT rfl rfl ?_
  refine FW.skip (FW.seq (FW.block (FW.seq (FW.region ?_))))
  refine FL.v (E.move k122) ?_
  obtain ⟨p127, cs128, pt129, l130, at131, rel132⟩ := p1.at (ix_nat hx22)
  obtain rfl := eI_open rel132
  refine FL.v (E.indexAddr te84 k125 k122 pt129) ?_
  refine FL.v (E.load rfl (run_load0 Tryz.isAgg3 ((at131.mono i119).now S118.sl) rfl)) ?_
  refine FL.v (E.assign (v := Value.int .i64 ((i22 : Nat) : Int)) rfl) ?_
  refine FL.v (E.assign (v := Value.int .i64 y21) rfl) ?_
  refine FL.nil (FW.seq ?_)
  refine FW.draw (fun w' => Run w120.heap.size H117 w120 H117 w') (by kernel_rfl) (by kernel_rfl) (run_drew S118.sl) ?_
  refine FD.val rfl rfl rfl (fun w' hw' => (E.move k123)) ?_
  refine FD.val rfl rfl rfl (fun w' hw' => (E.move (v := Value.int .i64 y21) rfl)) ?_
  refine FD.call rfl rfl rfl (fun w' hw' => (E.call Tryz.call199 (A2 rfl rfl))) (fun w' hw' => Calls.cls hw' (w_impl_isLiteral (S118.call hw').sl a0 y21)) ?_
  refine FD.val rfl rfl rfl (fun w' hw' => (E.not rfl)) ?_
  refine FD.val rfl rfl rfl (fun w' hw' => (E.move (v := Value.bool (!(PF.impl_isLiteral a0 y21))) rfl)) ?_
  obtain ⟨t164, hqt164, hp⟩ := bnd hp
  refine FD.cut 14 (fun f => f 0 = Value.int .i64 a0 ∧ f 1 = v1 ∧ f 7 = v1 ∧ f 8 = Value.int .i64 (len a1) ∧ f 9 = Value.int .i64 ((i22 : Nat) : Int) ∧ f 32 = Value.bool t164) ?_ ?_
  ·
   clear hp; have hp := hqt164; clear hqt164
   rcases ifB hp with ⟨c170, hp⟩ | ⟨c170, hp⟩
   ·
    refine FD.skip (wF_no rfl rfl rfl c170) rfl ?_
    refine FD.skip (wF_no rfl rfl rfl c170) rfl ?_
    refine FD.skip (wF_no rfl rfl rfl c170) rfl ?_
    refine FD.skip (wF_undef rfl rfl rfl) rfl ?_
    refine FD.skip (wF_undef rfl rfl rfl) rfl ?_
    refine FD.skip (wF_undef rfl rfl rfl) rfl ?_
    refine FD.skip (wF_undef rfl rfl rfl) rfl ?_
    refine FD.skip (wF_undef rfl rfl rfl) rfl ?_
    refine FD.skip (wF_undef rfl rfl rfl) rfl ?_
    refine FD.skip (wF_undef rfl rfl rfl) rfl ?_
    refine FD.skip (wF_undef rfl rfl rfl) rfl ?_
    refine FD.skip (wF_undef rfl rfl rfl) rfl ?_
    refine FD.skip (wF_no rfl rfl rfl c170) rfl ?_
    obtain rfl := Option.some.inj hp
    refine FD.val rfl rfl rfl (fun w' hw' => (E.pickT rfl c170 rfl)) ?_
    exact FD.nil ⟨k123, k124, k125, k126, k122, rfl⟩
   ·
    refine FD.val (wF_yes rfl rfl rfl c170) rfl rfl (fun w' hw' => (E.move (v := Value.int .i64 ((i22 : Nat) : Int)) rfl)) ?_
    refine FD.val (wF_yes rfl rfl rfl c170) rfl rfl (fun w' hw' => (E.gtr rfl rfl)) ?_
    refine FD.val (wF_yes rfl rfl rfl c170) rfl rfl (fun w' hw' => (E.move (v := Value.bool (decide (0 < ((i22 : Nat) : Int)))) rfl)) ?_
    obtain ⟨t179, hqt179, hp⟩ := bnd hp
    refine FD.cut 10 (fun f => f 0 = Value.int .i64 a0 ∧ f 1 = v1 ∧ f 7 = v1 ∧ f 8 = Value.int .i64 (len a1) ∧ f 9 = Value.int .i64 ((i22 : Nat) : Int) ∧ f 18 = Value.bool (!(PF.impl_isLiteral a0 y21)) ∧ f 31 = Value.bool t179) ?_ ?_
    ·
     clear hp; have hp := hqt179; clear hqt179
     rcases ifB hp with ⟨c185, hp⟩ | ⟨c185, hp⟩
     ·
      refine FD.val (wF_yes rfl rfl rfl c185) rfl rfl (fun w' hw' => (E.move (v := Value.int .i64 y21) rfl)) ?_
      refine FD.call (wF_yes rfl rfl rfl c185) rfl rfl (fun w' hw' => (E.call Tryz.call166 (A1 rfl))) (fun w' hw' => Calls.cls hw' (w_impl_abs (S118.call hw').sl y21)) ?_
      refine FD.val (wF_yes rfl rfl rfl c185) rfl rfl (fun w' hw' => (E.move k124)) ?_
      refine FD.val (wF_yes rfl rfl rfl c185) rfl rfl (fun w' hw' => (E.move (v := Value.int .i64 ((i22 : Nat) : Int)) rfl)) ?_
      refine FD.val (wF_yes rfl rfl rfl c185) rfl rfl (fun w' hw' => (E.sub rfl rfl)) ?_
      obtain ⟨x192, hx193, hp⟩ := bnd hp
      obtain ⟨p186, cs187, pt188, l189, at190, rel191⟩ := p1.at hx193
      obtain rfl := eI_open rel191
      refine FD.val (wF_yes rfl rfl rfl c185) rfl rfl (fun w' hw' => (E.indexAddr te84 rfl rfl pt188)) ?_
      refine FD.val (wF_yes rfl rfl rfl c185) rfl rfl (fun w' hw' => (E.load rfl (run_load0 Tryz.isAgg3 ((at190.mono i119).now (S118.call hw').sl) rfl))) ?_
      refine FD.call (wF_yes rfl rfl rfl c185) rfl rfl (fun w' hw' => (E.call Tryz.call166 (A1 rfl))) (fun w' hw' => Calls.cls hw' (w_impl_abs (S118.call hw').sl x192)) ?_
      refine FD.val (wF_yes rfl rfl rfl c185) rfl rfl (fun w' hw' => (E.leq rfl rfl)) ?_
      obtain rfl := Option.some.inj hp
      refine FD.val (wF_yes rfl rfl rfl c170) rfl rfl (fun w' hw' => (E.pickT rfl c185 rfl)) ?_
      exact FD.nil ⟨k123, k124, k125, k126, k122, rfl, rfl⟩
     ·
      refine FD.skip (wF_no rfl rfl rfl c185) rfl ?_
      refine FD.skip (wF_no rfl rfl rfl c185) rfl ?_
      refine FD.skip (wF_no rfl rfl rfl c185) rfl ?_
      refine FD.skip (wF_no rfl rfl rfl c185) rfl ?_
      refine FD.skip (wF_no rfl rfl rfl c185) rfl ?_
      refine FD.skip (wF_no rfl rfl rfl c185) rfl ?_
      refine FD.skip (wF_no rfl rfl rfl c185) rfl ?_
      refine FD.skip (wF_no rfl rfl rfl c185) rfl ?_
      refine FD.skip (wF_no rfl rfl rfl c185) rfl ?_
      obtain rfl := Option.some.inj hp
      refine FD.val (wF_yes rfl rfl rfl c170) rfl rfl (fun w' hw' => (E.pickF rfl c185 rfl)) ?_
      exact FD.nil ⟨k123, k124, k125, k126, k122, rfl, rfl⟩
    rintro f184 ⟨k194, k195, k196, k197, k198, k199, k200⟩
    obtain rfl := Option.some.inj hp
    refine FD.val rfl rfl rfl (fun w' hw' => (E.pickF k199 c170 k200)) ?_
    exact FD.nil ⟨k194, k195, k196, k197, k198, rfl⟩
  rintro f169 ⟨k201, k202, k203, k204, k205, k206⟩
  refine FD.nil ?_
  intro w207 r209
  have S208 := S118.call r209
  rcases ifB hp with ⟨c210, hp⟩ | ⟨c210, hp⟩
  ·
   refine FW.condT k206 c210 ?_
   refine FW.seq (FW.region ?_)
   refine FL.v (E.assign (v := Value.bool false) rfl) ?_
   refine FL.nil ?_
   refine FW.ret ?_
   obtain rfl := Option.some.inj hp
   exact ⟨nofun, rfl, ⟨.inr rfl, res1 rfl rfl ⟨rfl, S208.back⟩⟩⟩
  ·
   refine FW.condF k206 c210 ?_
   refine FW.skip (FW.region ?_)
   refine FL.v (E.add k205 rfl) ?_
   refine FL.v (E.move (v := Value.int .i64 (wr (((i22 : Nat) : Int) + 1))) rfl) ?_
   refine FL.nil ?_
   obtain rfl := Option.some.inj hp
   exact ⟨rfl, ⟨_, S208, i119, (nat_succ rfl (lt_of_get hx22) (p1.mono i119).le), k201, k202, k203, k204⟩⟩
 ·
  clear hp hq
  rintro s22 f225 w224 ⟨H221, S222, i223, k226, k227, k228, k229, k230⟩
  refine FW.seq (FW.region ?_)
  refine FL.v (E.lss k226 k230) ?_
  refine FL.nil (FW.seq ?_)
  refine FW.condF rfl dlt_len ?_
  refine FW.exit ?_
  exact ⟨nofun, rfl, ⟨_, S222, i223, k227⟩⟩
 ·
  clear hq
  intro e f216 w215 hD
  rcases q22 with s22 | x22
  ·
   obtain ⟨rfl, hD⟩ := hD
   obtain ⟨H212, S213, i214, k217⟩ := hD
   replace hp := el_go hp
   refine FW.seq (FW.region ?_)
   refine FL.v (E.move k217) ?_
   refine FL.call rfl rfl rfl (E.call Tryz.call109 (A1 rfl)) (w_impl_varsOk S213.sl a0) ?_
   rintro e w218 ⟨rfl, r219⟩
   refine ⟨_, rfl, ?_⟩
   have S220 := S213.call r219
   refine FL.v (E.assign (v := Value.bool (PF.impl_varsOk a0)) rfl) ?_
   refine FL.nil ?_
   refine FW.ret ?_
   obtain rfl := Option.some.inj hp
   exact ⟨.inr rfl, res1 rfl rfl ⟨rfl, S220.back⟩⟩
  ·
   obtain ⟨he, hL⟩ := hD
   replace hp := el_rt hp
   obtain rfl := Option.some.inj hp
   subst he
   exact hL

theorem w_impl_IsCnf {Ha : GH} {wa : World} (hs : Sl Ha wa) (a0 : Cnf) (v0_1 : Value) (p0_1 : RSl Ha (eL eI 1) 1 v0_1 a0.clauses) {r : Bool} (hp : (PF.impl_IsCnf a0) = some r) :
  Calls Tryz.prog 95 #[Value.agg #[Value.int .i64 a0.vars, v0_1]] wa (Sc Ha wa (Value.bool r)) := by
 unfold PF.impl_IsCnf at hp
 have S0 := St.init hs
 refine calls_go (N := 27) (args := [Value.agg #[Value.int .i64 a0.vars, v0_1]]) Tryz.func95 rfl rfl rfl ?_
 refine FW.seq (FW.region ?_)
 obtain ⟨b21, w22, run23, S24⟩ := S0.box (P := Tryz.prog) 30 [Value.int .i64 a0.vars, v0_1] (v := Value.agg #[Value.int .i64 a0.vars, v0_1]) rfl (ones_cons rfl (ones_cons p0_1.one ones_nil))
 refine FL.v (E.box rfl run23) ?_
 obtain ⟨H25, S26, i27, at28⟩ := S24.sealBox (i := 0) (l' := []) rfl rfl
 refine FL.v (E.assign (v := Value.bool false) rfl) ?_
 refine FL.nil (FW.seq (FW.seq (FW.region ?_)))
 refine FL.v (E.fieldAddr tf30_1 rfl) ?_
 refine FL.v (E.load rfl (run_load1 Tryz.isAgg22 (at28.now S26.sl) rfl)) ?_
 refine FL.v (E.lenP te22 rfl p0_1) ?_
 refine FL.v (E.move (v := Value.int .i64 0) rfl) ?_
 refine FL.nil ?_
 obtain ⟨q30, hq, hp⟩ := bndR hp
 refine FW.block ?_
 refine FW.mono (FW.forL (S := Unit) (X := Bool) (fun (i30 : Nat) (s30 : Unit) f w => ∃ H : GH, St Ha wa H w [] ∧ Inc H25 H ∧ f 8 = Value.int .i64 ((i30 : Nat) : Int) ∧ f 1 = Value.pointer (some ⟨b21, 0, none⟩) ∧ f 6 = v0_1 ∧ f 7 = Value.int .i64 (len a0.clauses)) (fun q e f w => match q with | .go s30 => e = Exit.exit 0 ∧ (∃ H : GH, St Ha wa H w [] ∧ Inc H25 H ∧ f 1 = Value.pointer (some ⟨b21, 0, none⟩)) | .rt x => ((e = Exit.ret) ∧ (fun e f w => (e = Exit.normal ∨ e = Exit.ret) ∧ ∀ a, Fr (δ := []) 27 a f → ∃ v, (results Tryz.f95 a.tmps).run Tryz.prog w = .ok v w ∧ (Sc Ha wa (Value.bool x)) (.returned v) w) e f w)) hq ⟨_, S26, (Inc.rfl _), rfl, rfl, rfl, rfl⟩ ?_ ?_) ?_
 ·
  clear hp hq
  rintro i30 y29 s30 f58 w57 ⟨H54, S55, i56, k59, k60, k61, k62⟩ hx30 o77 hp
  refine FW.seq (FW.region ?_)
  refine FL.v (E.lssT k59 k62 (lss_len hx30)) ?_
  refine FL.nil (FW.seq ?_)
  refine FW.condT rfl rfl ?_
  refine FW.skip (FW.seq (FW.block (FW.seq (FW.region ?_))))
  obtain ⟨p63, cs64, pt65, l66, at67, rel68⟩ := p0_1.at (ix_nat hx30)
  obtain ⟨v69, rfl, h70⟩ := eL_open rel68
  refine FL.v (E.indexAddr te22 k61 k59 pt65) ?_
  refine FL.v (E.load rfl (run_load0 Tryz.isAgg84 ((at67.mono (i27.tr i56)).now S55.sl) rfl)) ?_
  refine FL.v (E.assign (v := v69) rfl) ?_
  refine FL.nil (FW.seq (FW.region ?_))
  refine FL.v (E.fieldAddr tf30_0 k60) ?_
  refine FL.v (E.load rfl (run_load1 Tryz.isAgg3 ((at28.mono i56).now S55.sl) rfl)) ?_
  refine FL.v (E.move (v := v69) rfl) ?_
  obtain ⟨r71, hr72, hp⟩ := bnd hp
  refine FL.call rfl rfl rfl (E.call Tryz.call151 (A2 rfl rfl)) (w_impl_IsClause S55.sl a0.vars v69 y29 (h70.mono (i27.tr i56)) hr72) ?_
  rintro e w73 ⟨rfl, r74⟩
  refine ⟨_, rfl, ?_⟩
  have S75 := S55.call r74
  refine FL.v (E.not rfl) ?_
  refine FL.nil ?_
  rcases ifB hp with ⟨c76, hp⟩ | ⟨c76, hp⟩
  ·
   refine FW.condT rfl c76 ?_
   refine FW.seq (FW.region ?_)
   refine FL.v (E.assign (v := Value.bool false) rfl) ?_
   refine FL.nil ?_
   refine FW.ret ?_
   obtain rfl := Option.some.inj hp
   exact ⟨nofun, rfl, ⟨.inr rfl, res1 rfl rfl ⟨rfl, S75.back⟩⟩⟩
  ·
   refine FW.condF rfl c76 ?_
   refine FW.skip (FW.region ?_)
   refine FL.v (E.add k59 rfl) ?_
   refine FL.v (E.move (v := Value.int .i64 (wr (((i30 : Nat) : Int) + 1))) rfl) ?_
   refine FL.nil ?_
   obtain rfl := Option.some.inj hp
   exact ⟨rfl, ⟨_, S75, i56, (nat_succ rfl (lt_of_get hx30) (p0_1.mono (i27.tr i56)).le), k60, k61, k62⟩⟩
 ·
  clear hp hq
  rintro s30 f99 w98 ⟨H95, S96, i97, k100, k101, k102, k103⟩
  refine FW.seq (FW.region ?_)
  refine FL.v (E.lss k100 k103) ?_
  refine FL.nil (FW.seq ?_)
  refine FW.condF rfl dlt_len ?_
  refine FW.exit ?_
  exact ⟨nofun, rfl, ⟨_, S96, i97, k101⟩⟩
 ·
  clear hq
  intro e f82 w81 hD
  rcases q30 with s30 | x30
  ·
   obtain ⟨rfl, hD⟩ := hD
   obtain ⟨H78, S79, i80, k83⟩ := hD
   replace hp := el_go hp
   refine FW.seq (FW.region ?_)
   refine FL.v (E.fieldAddr tf30_0 k83) ?_
   refine FL.v (E.load rfl (run_load1 Tryz.isAgg3 ((at28.mono i80).now S79.sl) rfl)) ?_
   refine FL.call rfl rfl rfl (E.call Tryz.call109 (A1 rfl)) (w_impl_varsOk S79.sl a0.vars) ?_
   rintro e w84 ⟨rfl, r85⟩
   refine ⟨_, rfl, ?_⟩
   have S86 := S79.call r85
   refine FL.v (E.move (v := Value.bool (PF.impl_varsOk a0.vars)) rfl) ?_
   refine FL.cut 5 (fun f w => ∃ H : GH, St Ha wa H w [] ∧ Inc H78 H ∧ f 26 = Value.bool (bif (PF.impl_varsOk a0.vars) then (decide ((len a0.clauses) ≤ 60)) else false)) ?_ ?_
   ·
    rcases bcase (PF.impl_varsOk a0.vars) with c93 | c93
    ·
     refine FL.val (wF_yes rfl rfl rfl c93) rfl rfl (E.fieldAddr tf30_1 k83) ?_
     refine FL.val (wF_yes rfl rfl rfl c93) rfl rfl (E.load rfl (run_load1 Tryz.isAgg22 ((at28.mono i80).now S86.sl) rfl)) ?_
     refine FL.val (wF_yes rfl rfl rfl c93) rfl rfl (E.lenP te22 rfl p0_1) ?_
     refine FL.val (wF_yes rfl rfl rfl c93) rfl rfl (E.leq rfl rfl) ?_
     refine FL.v (E.pickT rfl c93 rfl) ?_
     exact FL.nil ⟨rfl, _, S86, (Inc.rfl _), (congrArg Value.bool (bifT c93).symm)⟩
    ·
     refine FL.skip (wF_no rfl rfl rfl c93) rfl ?_
     refine FL.skip (wF_no rfl rfl rfl c93) rfl ?_
     refine FL.skip (wF_no rfl rfl rfl c93) rfl ?_
     refine FL.skip (wF_no rfl rfl rfl c93) rfl ?_
     refine FL.v (E.pickF rfl c93 rfl) ?_
     exact FL.nil ⟨rfl, _, S86, (Inc.rfl _), (congrArg Value.bool (bifF c93).symm)⟩
   rintro f92 w91 ⟨H88, S89, i90, k94⟩
   refine FL.v (E.assign k94) ?_
   refine FL.nil ?_
   refine FW.ret ?_
   obtain rfl := Option.some.inj hp
   exact ⟨.inr rfl, res1 rfl rfl ⟨rfl, S89.back⟩⟩
  ·
   obtain ⟨he, hL⟩ := hD
   replace hp := el_rt hp
   obtain rfl := Option.some.inj hp
   subst he
   exact hL

theorem w_slices_Equal_int_int {Ha : GH} {wa : World} (hs : Sl Ha wa) (v0 : Value) (a0 : List Int) (p0 : RSl Ha eI 1 v0 a0) (v1 : Value) (a1 : List Int) (p1 : RSl Ha eI 1 v1 a1) {r : Bool} (hp : (PF.slices_Equal_int_int a0 a1) = some r) :
  Calls Tryz.prog 53 #[v0, v1] wa (Sc Ha wa (Value.bool r)) := by
 unfold PF.slices_Equal_int_int at hp
 have S0 := St.init hs
 refine calls_go (N := 26) (args := [v0, v1]) Tryz.func53 rfl rfl rfl ?_
 refine FW.seq (FW.region ?_)
 refine FL.v (E.assign (v := Value.bool false) rfl) ?_
 refine FL.nil (FW.seq (FW.seq (FW.region ?_)))
 refine FL.v (E.move (v := v0) rfl) ?_
 refine FL.v (E.lenP te84 rfl p0) ?_
 refine FL.v (E.move (v := v1) rfl) ?_
 refine FL.v (E.lenP te84 rfl p1) ?_
 refine FL.v (E.neq rfl rfl) ?_
 refine FL.nil ?_
 rcases ifB hp with ⟨c21, hp⟩ | ⟨c21, hp⟩
 ·
  refine FW.condT rfl c21 ?_
  refine FW.seq (FW.region ?_)
  refine FL.v (E.assign (v := Value.bool false) rfl) ?_
  refine FL.nil ?_
  refine FW.ret ?_
  obtain rfl := Option.some.inj hp
  exact ⟨.inr rfl, res1 rfl rfl ⟨rfl, S0.back⟩⟩
 ·
  refine FW.condF rfl c21 ?_
  refine FW.skip (FW.seq (FW.seq (FW.region ?_)))
  refine FL.v (E.move (v := v0) rfl) ?_
  refine FL.v (E.lenP te84 rfl p0) ?_
  refine FL.v (E.move (v := Value.int .i64 0) rfl) ?_
  refine FL.nil ?_
  obtain ⟨q23, hq, hp⟩ := bndR hp
  refine FW.block ?_
  refine FW.mono (FW.forL (S := Unit) (X := Bool) (fun (i23 : Nat) (s23 : Unit) f w => ∃ H : GH, St Ha wa H w [] ∧ Inc Ha H ∧ f 13 = Value.int .i64 ((i23 : Nat) : Int) ∧ f 0 = v0 ∧ f 1 = v1 ∧ f 12 = Value.int .i64 (len a0)) (fun q e f w => match q with | .go s23 => e = Exit.exit 0 ∧ (∃ H : GH, St Ha wa H w [] ∧ Inc Ha H) | .rt x => ((e = Exit.ret) ∧ (fun e f w => (e = Exit.normal ∨ e = Exit.ret) ∧ ∀ a, Fr (δ := []) 26 a f → ∃ v, (results Tryz.f53 a.tmps).run Tryz.prog w = .ok v w ∧ (Sc Ha wa (Value.bool x)) (.returned v) w) e f w)) hq ⟨_, S0, (Inc.rfl _), rfl, rfl, rfl, rfl⟩ ?_ ?_) ?_
  ·
   clear hp hq
   rintro i23 y22 s23 f56 w55 ⟨H52, S53, i54, k57, k58, k59, k60⟩ hx23 o80 hp
   refine FW.seq (FW.region ?_)
   refine FL.v (E.lssT k57 k60 (lss_len hx23)) ?_
   refine FL.nil (FW.seq ?_)
   refine FW.condT rfl rfl ?_
   refine FW.skip (FW.seq (FW.block (FW.seq (FW.region ?_))))
   refine FL.v (E.move k57) ?_
   refine FL.v (E.assign (v := Value.int .i64 ((i23 : Nat) : Int)) rfl) ?_
   refine FL.nil (FW.seq ?_)
   refine FW.draw (fun w' => Run w55.heap.size H52 w55 H52 w') (by kernel_rfl) (by kernel_rfl) (run_drew S53.sl) ?_
   refine FD.val rfl rfl rfl (fun w' hw' => (E.move k58)) ?_
   refine FD.val rfl rfl rfl (fun w' hw' => (E.move (v := Value.int .i64 ((i23 : Nat) : Int)) rfl)) ?_
   obtain ⟨p62, cs63, pt64, l65, at66, rel67⟩ := p0.at (ix_nat hx23)
   obtain rfl := eI_open rel67
   refine FD.val rfl rfl rfl (fun w' hw' => (E.indexAddr te84 rfl rfl pt64)) ?_
   refine FD.val rfl rfl rfl (fun w' hw' => (E.load rfl (run_load0 Tryz.isAgg3 ((at66.mono i54).now (S53.call hw').sl) rfl))) ?_
   refine FD.val rfl rfl rfl (fun w' hw' => (E.move k59)) ?_
   refine FD.val rfl rfl rfl (fun w' hw' => (E.move (v := Value.int .i64 ((i23 : Nat) : Int)) rfl)) ?_
   obtain ⟨x74, hx75, hp⟩ := bnd hp
   obtain ⟨p68, cs69, pt70, l71, at72, rel73⟩ := p1.at hx75
   obtain rfl := eI_open rel73
   refine FD.val rfl rfl rfl (fun w' hw' => (E.indexAddr te84 rfl rfl pt70)) ?_
   refine FD.val rfl rfl rfl (fun w' hw' => (E.load rfl (run_load0 Tryz.isAgg3 ((at72.mono i54).now (S53.call hw').sl) rfl))) ?_
   refine FD.val rfl rfl rfl (fun w' hw' => (E.neq rfl rfl)) ?_
   refine FD.nil ?_
   intro w76 r78
   have S77 := S53.call r78
   rcases ifB hp with ⟨c79, hp⟩ | ⟨c79, hp⟩
   ·
    refine FW.condT rfl c79 ?_
    refine FW.seq (FW.region ?_)
    refine FL.v (E.assign (v := Value.bool false) rfl) ?_
    refine FL.nil ?_
    refine FW.ret ?_
    obtain rfl := Option.some.inj hp
    exact ⟨nofun, rfl, ⟨.inr rfl, res1 rfl rfl ⟨rfl, S77.back⟩⟩⟩
   ·
    refine FW.condF rfl c79 ?_
    refine FW.skip (FW.region ?_)
    refine FL.v (E.add k57 rfl) ?_
    refine FL.v (E.move (v := Value.int .i64 (wr (((i23 : Nat) : Int) + 1))) rfl) ?_
    refine FL.nil ?_
    obtain rfl := Option.some.inj hp
    exact ⟨rfl, ⟨_, S77, i54, (nat_succ rfl (lt_of_get hx23) (p0.mono i54).le), k58, k59, k60⟩⟩
  ·
   clear hp hq
   rintro s23 f90 w89 ⟨H86, S87, i88, k91, k92, k93, k94⟩
   refine FW.seq (FW.region ?_)
   refine FL.v (E.lss k91 k94) ?_
   refine FL.nil (FW.seq ?_)
   refine FW.condF rfl dlt_len ?_
   refine FW.exit ?_
   exact ⟨nofun, rfl, ⟨_, S87, i88⟩⟩
  ·
   clear hq
   intro e f85 w84 hD
   rcases q23 with s23 | x23
   ·
    obtain ⟨rfl, hD⟩ := hD
    obtain ⟨H81, S82, i83⟩ := hD
    replace hp := el_go hp
    refine FW.seq (FW.region ?_)
    refine FL.v (E.assign (v := Value.bool true) rfl) ?_
    refine FL.nil ?_
    refine FW.ret ?_
    obtain rfl := Option.some.inj hp
    exact ⟨.inr rfl, res1 rfl rfl ⟨rfl, S82.back⟩⟩
   ·
    obtain ⟨he, hL⟩ := hD
    replace hp := el_rt hp
    obtain rfl := Option.some.inj hp
    subst he
    exact hL

@[reducible] def p_impl_earlier (Ha : GH) (wa : World) (r : ((List Int) × Bool)) : Ending → World → Prop :=
 fun e w' => ∃ H' : GH, ∃ v0 : Value, e = .returned (Value.tuple #[v0, Value.bool r.2]) ∧ Run wa.heap.size Ha wa H' w' ∧ RSl H' eI 1 v0 r.1
theorem w_impl_earlier {Ha : GH} {wa : World} (hs : Sl Ha wa) (a0 : Cnf) (v0_1 : Value) (p0_1 : RSl Ha (eL eI 1) 1 v0_1 a0.clauses) (v1 : Value) (a1 : List ResStep) (p1 : RSl Ha eResStep 4 v1 a1) (a2 : Int) (a3 : Int) {r : ((List Int) × Bool)} (hp : (PF.impl_earlier a0 a1 a2 a3) = some r) :
  Calls Tryz.prog 231 #[Value.agg #[Value.int .i64 a0.vars, v0_1], v1, Value.int .i64 a2, Value.int .i64 a3] wa (p_impl_earlier Ha wa r) := by
 unfold PF.impl_earlier at hp
 have S0 := St.init hs
 refine calls_go (N := 31) (args := [Value.agg #[Value.int .i64 a0.vars, v0_1], v1, Value.int .i64 a2, Value.int .i64 a3]) Tryz.func231 rfl rfl rfl ?_
 refine FW.seq (FW.region ?_)
 obtain ⟨b21, w22, run23, S24⟩ := S0.box (P := Tryz.prog) 30 [Value.int .i64 a0.vars, v0_1] (v := Value.agg #[Value.int .i64 a0.vars, v0_1]) rfl (ones_cons rfl (ones_cons p0_1.one ones_nil))
 refine FL.v (E.box rfl run23) ?_
 obtain ⟨H25, S26, i27, at28⟩ := S24.sealBox (i := 0) (l' := []) rfl rfl
 refine FL.v (E.assign (v := Value.slice none 0 0) rfl) ?_
 refine FL.v (E.assign (v := Value.bool false) rfl) ?_
 refine FL.nil (FW.seq (FW.seq ?_))
 refine FW.draw (fun w' => Run w22.heap.size H25 w22 H25 w') (by kernel_rfl) (by kernel_rfl) (run_drew S26.sl) ?_
 refine FD.val rfl rfl rfl (fun w' hw' => (E.move (v := Value.int .i64 a3) rfl)) ?_
 refine FD.val rfl rfl rfl (fun w' hw' => (E.move (v := Value.int .i64 a2) rfl)) ?_
 refine FD.val rfl rfl rfl (fun w' hw' => (E.sub rfl rfl)) ?_
 refine FD.call rfl rfl rfl (fun w' hw' => (E.call Tryz.call108 (A3 rfl rfl rfl))) (fun w' hw' => Calls.cls hw' (w_impl_within (S26.call hw').sl a3 0 (wr (a2 - 1)))) ?_
 refine FD.val rfl rfl rfl (fun w' hw' => (E.not rfl)) ?_
 refine FD.val rfl rfl rfl (fun w' hw' => (E.move (v := Value.bool (!(PF.impl_within a3 0 (wr (a2 - 1))))) rfl)) ?_
 obtain ⟨t42, hqt42, hp⟩ := bnd hp
 refine FD.cut 10 (fun f => f 1 = v1 ∧ f 3 = Value.int .i64 a3 ∧ f 25 = Value.bool t42) ?_ ?_
 ·
  clear hp; have hp := hqt42; clear hqt42
  rcases ifB hp with ⟨c48, hp⟩ | ⟨c48, hp⟩
  ·
   refine FD.skip (wF_no rfl rfl rfl c48) rfl ?_
   refine FD.skip (wF_no rfl rfl rfl c48) rfl ?_
   refine FD.skip (wF_no rfl rfl rfl c48) rfl ?_
   refine FD.skip (wF_no rfl rfl rfl c48) rfl ?_
   refine FD.skip (wF_no rfl rfl rfl c48) rfl ?_
   refine FD.skip (wF_no rfl rfl rfl c48) rfl ?_
   refine FD.skip (wF_no rfl rfl rfl c48) rfl ?_
   refine FD.skip (wF_no rfl rfl rfl c48) rfl ?_
   refine FD.skip (wF_no rfl rfl rfl c48) rfl ?_
   obtain rfl := Option.some.inj hp
   refine FD.val rfl rfl rfl (fun w' hw' => (E.pickT rfl c48 rfl)) ?_
   exact FD.nil ⟨rfl, rfl, rfl⟩
  ·
   refine FD.val (wF_yes rfl rfl rfl c48) rfl rfl (fun w' hw' => (E.fieldAddr tf30_0 rfl)) ?_
   refine FD.val (wF_yes rfl rfl rfl c48) rfl rfl (fun w' hw' => (E.load rfl (run_load1 Tryz.isAgg3 (at28.now (S26.call hw').sl) rfl))) ?_
   refine FD.val (wF_yes rfl rfl rfl c48) rfl rfl (fun w' hw' => (E.move (v := v1) rfl)) ?_
   refine FD.val (wF_yes rfl rfl rfl c48) rfl rfl (fun w' hw' => (E.move (v := Value.int .i64 a3) rfl)) ?_
   obtain ⟨x55, hx56, hp⟩ := bnd hp
   obtain ⟨p49, cs50, pt51, l52, at53, rel54⟩ := p1.at hx56
   obtain ⟨v57, rfl, h58⟩ := eResStep_open rel54
   refine FD.val (wF_yes rfl rfl rfl c48) rfl rfl (fun w' hw' => (E.indexAddr te46 rfl rfl pt51)) ?_
   refine FD.val (wF_yes rfl rfl rfl c48) rfl rfl (fun w' hw' => (E.fieldAddr tf94_0 rfl)) ?_
   refine FD.val (wF_yes rfl rfl rfl c48) rfl rfl (fun w' hw' => (E.load rfl (run_load1 Tryz.isAgg84 ((at53.mono i27).now (S26.call hw').sl) rfl))) ?_
   obtain ⟨r59, hr60, hp⟩ := bnd hp
   refine FD.call (wF_yes rfl rfl rfl c48) rfl rfl (fun w' hw' => (E.call Tryz.call151 (A2 rfl rfl))) (fun w' hw' => Calls.cls hw' (w_impl_IsClause (S26.call hw').sl a0.vars v57 x55.clause (h58.mono i27) hr60)) ?_
   refine FD.val (wF_yes rfl rfl rfl c48) rfl rfl (fun w' hw' => (E.not rfl)) ?_
   obtain rfl := Option.some.inj hp
   refine FD.val rfl rfl rfl (fun w' hw' => (E.pickF rfl c48 rfl)) ?_
   exact FD.nil ⟨rfl, rfl, rfl⟩
 rintro f47 ⟨k61, k62, k63⟩
 refine FD.nil ?_
 intro w64 r66
 have S65 := S26.call r66
 rcases ifB hp with ⟨c67, hp⟩ | ⟨c67, hp⟩
 ·
  refine FW.condT k63 c67 ?_
  refine FW.seq (FW.region ?_)
  refine FL.v (E.assign (v := Value.slice none 0 0) rfl) ?_
  refine FL.v (E.assign (v := Value.bool false) rfl) ?_
  refine FL.nil ?_
  refine FW.ret ?_
  obtain rfl := Option.some.inj hp
  exact ⟨.inr rfl, res2 rfl rfl rfl ⟨_, _, rfl, S65.run, (RSl.nil _ _ _)⟩⟩
 ·
  refine FW.condF k63 c67 ?_
  refine FW.skip (FW.seq (FW.region ?_))
  refine FL.v (E.move k61) ?_
  refine FL.v (E.move k62) ?_
  obtain ⟨x74, hx75, hp⟩ := bnd hp
  obtain ⟨p68, cs69, pt70, l71, at72, rel73⟩ := p1.at hx75
  obtain ⟨v76, rfl, h77⟩ := eResStep_open rel73
  refine FL.v (E.indexAddr te46 rfl rfl pt70) ?_
  refine FL.v (E.fieldAddr tf94_0 rfl) ?_
  refine FL.v (E.load rfl (run_load1 Tryz.isAgg84 ((at72.mono i27).now S65.sl) rfl)) ?_
  refine FL.v (E.assign (v := v76) rfl) ?_
  refine FL.v (E.assign (v := Value.bool true) rfl) ?_
  refine FL.nil ?_
  refine FW.ret ?_
  obtain rfl := Option.some.inj hp
  exact ⟨.inr rfl, res2 rfl rfl rfl ⟨_, _, rfl, S65.run, (h77.mono i27)⟩⟩

end Go.Proofs
