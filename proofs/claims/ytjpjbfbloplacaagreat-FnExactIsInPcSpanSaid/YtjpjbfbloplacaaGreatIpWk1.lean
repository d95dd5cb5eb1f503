/- Part of the walks and plain laws behind the claim: it proves helpers, under no condition beyond their own. -/
import Derived.Test.YtjpjbfbloplacaaGreatMr16
import Derived.Test.YtjpjbfbloplacaaGreatMr14
import Derived.Test.YtjpjbfbloplacaaGreatMr19
import Derived.Test.YtjpjbfbloplacaaGreatMr20
import Derived.Test.YtjpjbfbloplacaaGreatMr21
import Derived.Test.YtjpjbfbloplacaaGreatMr22
import Derived.Test.YtjpjbfbloplacaaGreatMr23
import Derived.Test.YtjpjbfbloplacaaGreatMr24
import Derived.Test.YtjpjbfbloplacaaGreatMr25
import Derived.Test.YtjpjbfbloplacaaGreatMr26
import Derived.Test.YtjpjbfbloplacaaGreatMr27
import Derived.Test.YtjpjbfbloplacaaGreatIpSh
import Derived.Test.YtjpjbfbloplacaaGreatIpPf
import Derived.Test.YtjpjbfbloplacaaGreatProg
set_option linter.unusedVariables false
set_option maxRecDepth 100000
namespace Go.Proofs
open Go.Mr Go.Pu Go.PF Go.RowKit

def eCnf : Enc Cnf := ⟨fun H cs s => ∃ v0, cs = [Value.int .i64 s.vars, v0] ∧ RSl H (eL eI 1) 1 v0 s.clauses, fun hi ⟨v0, h, h0⟩ => ⟨_, h, h0.mono hi⟩, by rintro H cs s ⟨v0, rfl, h0⟩; exact (ones_cons rfl (ones_cons h0.one ones_nil)), by rintro H cs s ⟨v0, rfl, h0⟩ b hb; obtain ⟨u, hu, hn⟩ := mem_bl hb; simp only [List.mem_cons, List.not_mem_nil, or_false] at hu; rcases hu with rfl | rfl <;> first | (cases hn; done) | exact h0.dom b (mem_bl1 hn)⟩
theorem eCnf_open {H : GH} {cs : List Value} {s : Cnf} (h : eCnf.rel H cs s) : ∃ v0, cs = [Value.int .i64 s.vars, v0] ∧ RSl H (eL eI 1) 1 v0 s.clauses := h

def eResStep : Enc ResStep := ⟨fun H cs s => ∃ v0, cs = [v0, Value.int .i64 s.left, Value.int .i64 s.right, Value.int .i64 s.pivot] ∧ RSl H eI 1 v0 s.clause, fun hi ⟨v0, h, h0⟩ => ⟨_, h, h0.mono hi⟩, by rintro H cs s ⟨v0, rfl, h0⟩; exact (ones_cons h0.one (ones_cons rfl (ones_cons rfl (ones_cons rfl ones_nil)))), by rintro H cs s ⟨v0, rfl, h0⟩ b hb; obtain ⟨u, hu, hn⟩ := mem_bl hb; simp only [List.mem_cons, List.not_mem_nil, or_false] at hu; rcases hu with rfl | rfl | rfl | rfl <;> first | (cases hn; done) | exact h0.dom b (mem_bl1 hn)⟩
theorem eResStep_open {H : GH} {cs : List Value} {s : ResStep} (h : eResStep.rel H cs s) : ∃ v0, cs = [v0, Value.int .i64 s.left, Value.int .i64 s.right, Value.int .i64 s.pivot] ∧ RSl H eI 1 v0 s.clause := h

theorem eResStep_loc : LocE eResStep := by rintro H H' cs x ⟨v0, rfl, h0⟩ hb; exact ⟨_, rfl, h0.only eI_flat.rel (fun b q => hb b (bl_get (i := 0) rfl b q))⟩

def eTerm : Enc Term := ⟨fun H cs s => cs = [Value.int .i64 s.mono, Value.int .i64 s.coeff], fun _ h => h, by rintro H cs s rfl; exact (ones_cons rfl (ones_cons rfl ones_nil)), by rintro H cs s rfl b hb; obtain ⟨u, hu, hn⟩ := mem_bl hb; simp only [List.mem_cons, List.not_mem_nil, or_false] at hu; rcases hu with rfl | rfl <;> cases hn⟩
theorem eTerm_open {H : GH} {cs : List Value} {s : Term} (h : eTerm.rel H cs s) : cs = [Value.int .i64 s.mono, Value.int .i64 s.coeff] := h

theorem eTerm_flat : FlatE eTerm := by rintro H H' cs x rfl; exact ⟨rfl, rfl⟩

def ePcStep : Enc PcStep := ⟨fun H cs s => ∃ v0, cs = [Value.int .i64 s.kind, v0, Value.int .i64 s.a, Value.int .i64 s.b, Value.int .i64 s.x, Value.int .i64 s.y] ∧ RSl H eTerm 2 v0 s.poly, fun hi ⟨v0, h, h0⟩ => ⟨_, h, h0.mono hi⟩, by rintro H cs s ⟨v0, rfl, h0⟩; exact (ones_cons rfl (ones_cons h0.one (ones_cons rfl (ones_cons rfl (ones_cons rfl (ones_cons rfl ones_nil)))))), by rintro H cs s ⟨v0, rfl, h0⟩ b hb; obtain ⟨u, hu, hn⟩ := mem_bl hb; simp only [List.mem_cons, List.not_mem_nil, or_false] at hu; rcases hu with rfl | rfl | rfl | rfl | rfl | rfl <;> first | (cases hn; done) | exact h0.dom b (mem_bl1 hn)⟩
theorem ePcStep_open {H : GH} {cs : List Value} {s : PcStep} (h : ePcStep.rel H cs s) : ∃ v0, cs = [Value.int .i64 s.kind, v0, Value.int .i64 s.a, Value.int .i64 s.b, Value.int .i64 s.x, Value.int .i64 s.y] ∧ RSl H eTerm 2 v0 s.poly := h

theorem ePcStep_loc : LocE ePcStep := by rintro H H' cs x ⟨v0, rfl, h0⟩ hb; exact ⟨_, rfl, h0.only eTerm_flat.rel (fun b q => hb b (bl_get (i := 1) rfl b q))⟩

def ering : Enc ring := ⟨fun H cs s => cs = [Value.int .i64 s.p, Value.int .i64 s.vars], fun _ h => h, by rintro H cs s rfl; exact (ones_cons rfl (ones_cons rfl ones_nil)), by rintro H cs s rfl b hb; obtain ⟨u, hu, hn⟩ := mem_bl hb; simp only [List.mem_cons, List.not_mem_nil, or_false] at hu; rcases hu with rfl | rfl <;> cases hn⟩
theorem ering_open {H : GH} {cs : List Value} {s : ring} (h : ering.rel H cs s) : cs = [Value.int .i64 s.p, Value.int .i64 s.vars] := h

theorem ering_flat : FlatE ering := by rintro H H' cs x rfl; exact ⟨rfl, rfl⟩

def ealgebra : Enc algebra := ⟨fun H cs s => ∃ v0 v1, cs = [Value.int .i64 s.ring.p, Value.int .i64 s.ring.vars, Value.int .i64 s.f.vars, v0, v1] ∧ RSl H (eL eI 1) 1 v0 s.f.clauses ∧ RSl H (eL eI 1) 1 v1 s.q, fun hi ⟨v0, v1, h, h0, h1⟩ => ⟨_, _, h, h0.mono hi, h1.mono hi⟩, by rintro H cs s ⟨v0, v1, rfl, h0, h1⟩; exact (ones_cons rfl (ones_cons rfl (ones_cons rfl (ones_cons h0.one (ones_cons h1.one ones_nil))))), by rintro H cs s ⟨v0, v1, rfl, h0, h1⟩ b hb; obtain ⟨u, hu, hn⟩ := mem_bl hb; simp only [List.mem_cons, List.not_mem_nil, or_false] at hu; rcases hu with rfl | rfl | rfl | rfl | rfl <;> first | (cases hn; done) | exact h0.dom b (mem_bl1 hn) | exact h1.dom b (mem_bl1 hn)⟩
theorem ealgebra_open {H : GH} {cs : List Value} {s : algebra} (h : ealgebra.rel H cs s) : ∃ v0 v1, cs = [Value.int .i64 s.ring.p, Value.int .i64 s.ring.vars, Value.int .i64 s.f.vars, v0, v1] ∧ RSl H (eL eI 1) 1 v0 s.f.clauses ∧ RSl H (eL eI 1) 1 v1 s.q := h

def eInequality : Enc Inequality := ⟨fun H cs s => ∃ v0, cs = [v0, Value.int .i64 s.bound] ∧ RSl H eI 1 v0 s.coeffs, fun hi ⟨v0, h, h0⟩ => ⟨_, h, h0.mono hi⟩, by rintro H cs s ⟨v0, rfl, h0⟩; exact (ones_cons h0.one (ones_cons rfl ones_nil)), by rintro H cs s ⟨v0, rfl, h0⟩ b hb; obtain ⟨u, hu, hn⟩ := mem_bl hb; simp only [List.mem_cons, List.not_mem_nil, or_false] at hu; rcases hu with rfl | rfl <;> first | (cases hn; done) | exact h0.dom b (mem_bl1 hn)⟩
theorem eInequality_open {H : GH} {cs : List Value} {s : Inequality} (h : eInequality.rel H cs s) : ∃ v0, cs = [v0, Value.int .i64 s.bound] ∧ RSl H eI 1 v0 s.coeffs := h

theorem eInequality_loc : LocE eInequality := by rintro H H' cs x ⟨v0, rfl, h0⟩ hb; exact ⟨_, rfl, h0.only eI_flat.rel (fun b q => hb b (bl_get (i := 0) rfl b q))⟩

def ePlaneStep : Enc PlaneStep := ⟨fun H cs s => ∃ v0, cs = [v0, Value.int .i64 s.ineq.bound, Value.int .i64 s.kind, Value.int .i64 s.a, Value.int .i64 s.b, Value.int .i64 s.k] ∧ RSl H eI 1 v0 s.ineq.coeffs, fun hi ⟨v0, h, h0⟩ => ⟨_, h, h0.mono hi⟩, by rintro H cs s ⟨v0, rfl, h0⟩; exact (ones_cons h0.one (ones_cons rfl (ones_cons rfl (ones_cons rfl (ones_cons rfl (ones_cons rfl ones_nil)))))), by rintro H cs s ⟨v0, rfl, h0⟩ b hb; obtain ⟨u, hu, hn⟩ := mem_bl hb; simp only [List.mem_cons, List.not_mem_nil, or_false] at hu; rcases hu with rfl | rfl | rfl | rfl | rfl | rfl <;> first | (cases hn; done) | exact h0.dom b (mem_bl1 hn)⟩
theorem ePlaneStep_open {H : GH} {cs : List Value} {s : PlaneStep} (h : ePlaneStep.rel H cs s) : ∃ v0, cs = [v0, Value.int .i64 s.ineq.bound, Value.int .i64 s.kind, Value.int .i64 s.a, Value.int .i64 s.b, Value.int .i64 s.k] ∧ RSl H eI 1 v0 s.ineq.coeffs := h

theorem ePlaneStep_loc : LocE ePlaneStep := by rintro H H' cs x ⟨v0, rfl, h0⟩ hb; exact ⟨_, rfl, h0.only eI_flat.rel (fun b q => hb b (bl_get (i := 0) rfl b q))⟩

def eplaner : Enc planer := ⟨fun H cs s => ∃ v0, cs = [Value.int .i64 s.vars, v0] ∧ RSl H ePlaneStep 6 v0 s.steps, fun hi ⟨v0, h, h0⟩ => ⟨_, h, h0.mono hi⟩, by rintro H cs s ⟨v0, rfl, h0⟩; exact (ones_cons rfl (ones_cons h0.one ones_nil)), by rintro H cs s ⟨v0, rfl, h0⟩ b hb; obtain ⟨u, hu, hn⟩ := mem_bl hb; simp only [List.mem_cons, List.not_mem_nil, or_false] at hu; rcases hu with rfl | rfl <;> first | (cases hn; done) | exact h0.dom b (mem_bl1 hn)⟩
theorem eplaner_open {H : GH} {cs : List Value} {s : planer} (h : eplaner.rel H cs s) : ∃ v0, cs = [Value.int .i64 s.vars, v0] ∧ RSl H ePlaneStep 6 v0 s.steps := h

def eechelon : Enc echelon := ⟨fun H cs s => ∃ v0 v1, cs = [Value.int .i64 s.ring.p, Value.int .i64 s.ring.vars, v0, v1, Value.int .i64 s.many] ∧ RSl H (eL eI 1) 1 v0 s.rows ∧ RSl H (eL eI 1) 1 v1 s.made, fun hi ⟨v0, v1, h, h0, h1⟩ => ⟨_, _, h, h0.mono hi, h1.mono hi⟩, by rintro H cs s ⟨v0, v1, rfl, h0, h1⟩; exact (ones_cons rfl (ones_cons rfl (ones_cons h0.one (ones_cons h1.one (ones_cons rfl ones_nil))))), by rintro H cs s ⟨v0, v1, rfl, h0, h1⟩ b hb; obtain ⟨u, hu, hn⟩ := mem_bl hb; simp only [List.mem_cons, List.not_mem_nil, or_false] at hu; rcases hu with rfl | rfl | rfl | rfl | rfl <;> first | (cases hn; done) | exact h0.dom b (mem_bl1 hn) | exact h1.dom b (mem_bl1 hn)⟩
theorem eechelon_open {H : GH} {cs : List Value} {s : echelon} (h : eechelon.rel H cs s) : ∃ v0 v1, cs = [Value.int .i64 s.ring.p, Value.int .i64 s.ring.vars, v0, v1, Value.int .i64 s.many] ∧ RSl H (eL eI 1) 1 v0 s.rows ∧ RSl H (eL eI 1) 1 v1 s.made := h

def el21Work : Enc l21Work := ⟨fun H cs s => ∃ v0 v1, cs = [v0, v1] ∧ RSl H ePcStep 6 v0 s.pc ∧ RSl H eI 1 v1 s.to, fun hi ⟨v0, v1, h, h0, h1⟩ => ⟨_, _, h, h0.mono hi, h1.mono hi⟩, by rintro H cs s ⟨v0, v1, rfl, h0, h1⟩; exact (ones_cons h0.one (ones_cons h1.one ones_nil)), by rintro H cs s ⟨v0, v1, rfl, h0, h1⟩ b hb; obtain ⟨u, hu, hn⟩ := mem_bl hb; simp only [List.mem_cons, List.not_mem_nil, or_false] at hu; rcases hu with rfl | rfl <;> first | (cases hn; done) | exact h0.dom b (mem_bl1 hn) | exact h1.dom b (mem_bl1 hn)⟩
theorem el21Work_open {H : GH} {cs : List Value} {s : l21Work} (h : el21Work.rel H cs s) : ∃ v0 v1, cs = [v0, v1] ∧ RSl H ePcStep 6 v0 s.pc ∧ RSl H eI 1 v1 s.to := h

def Fn_List_Int_List_Int_to_I (P : Program) (H : GH) (v : Value) (p : (List Int) → (List Int) → Option Int) : Prop :=
 ∀ (H' : GH) (w' : World), Inc H H' → Sl H' w' → ∀ (x0 : List Int) (y0_0 : Value) (_z0_0 : RSl H' eI 1 y0_0 x0) (x1 : List Int) (y1_0 : Value) (_z1_0 : RSl H' eI 1 y1_0 x1) (r : Int), p x0 x1 = some r →
  ∃ (fid : Nat) (cs : Array Value), v = Value.func (.func fid) #[] cs ∧ (∀ args w, (callFunc fid args).run P w = .ok (.enter fid args) w) ∧ Calls P fid (#[y0_0, y1_0] ++ cs) w' (Sc H' w' (Value.int .i64 r))
theorem Fn_List_Int_List_Int_to_I.mono {P : Program} {H H' : GH} {v : Value} {p : (List Int) → (List Int) → Option Int} (h : Fn_List_Int_List_Int_to_I P H v p) (hi : Inc H H') : Fn_List_Int_List_Int_to_I P H' v p :=
 fun H2 w2 h2 => h H2 w2 (hi.tr h2)

theorem te103 : TE Tryz.prog 103 99 1 (.slice none 0 0) := ⟨Tryz.underlying103, ⟨Tryz.t99, Tryz.type99, rfl, rfl, by decide⟩, rfl, by decide⟩
theorem te22 : TE Tryz.prog 22 73 1 (.slice none 0 0) := ⟨Tryz.underlying22, ⟨Tryz.t73, Tryz.type73, rfl, rfl, by decide⟩, rfl, by decide⟩
theorem te53 : TE Tryz.prog 53 137 2 (.agg #[(.int .i64 0), (.int .i64 0)]) := ⟨Tryz.underlying53, ⟨Tryz.t137, Tryz.type137, rfl, rfl, by decide⟩, rfl, by decide⟩
theorem te55 : TE Tryz.prog 55 108 2 (.agg #[(.int .i64 0), (.int .i64 0)]) := ⟨Tryz.underlying55, ⟨Tryz.t108, Tryz.type108, rfl, rfl, by decide⟩, rfl, by decide⟩
theorem te63 : TE Tryz.prog 63 55 1 (.slice none 0 0) := ⟨Tryz.underlying63, ⟨Tryz.t55, Tryz.type55, rfl, rfl, by decide⟩, rfl, by decide⟩
theorem te73 : TE Tryz.prog 73 3 1 (.int .i64 0) := ⟨Tryz.underlying73, ⟨Tryz.t3, Tryz.type3, rfl, rfl, by decide⟩, rfl, by decide⟩
theorem te99 : TE Tryz.prog 99 3 1 (.int .i64 0) := ⟨Tryz.underlying99, ⟨Tryz.t3, Tryz.type3, rfl, rfl, by decide⟩, rfl, by decide⟩
theorem tf102_0 : TF Tryz.prog 102 0 0 := ⟨_, _, _, Tryz.underlying102, rfl, rfl, Tryz.sizeOf3, by decide⟩
theorem tf102_1 : TF Tryz.prog 102 1 1 := ⟨_, _, _, Tryz.underlying102, rfl, rfl, Tryz.sizeOf3, by decide⟩
theorem tf105_0 : TF Tryz.prog 105 0 0 := ⟨_, _, _, Tryz.underlying105, rfl, rfl, Tryz.sizeOf102, by decide⟩
theorem tf105_1 : TF Tryz.prog 105 1 2 := ⟨_, _, _, Tryz.underlying105, rfl, rfl, Tryz.sizeOf32, by decide⟩
theorem tf105_2 : TF Tryz.prog 105 2 4 := ⟨_, _, _, Tryz.underlying105, rfl, rfl, Tryz.sizeOf103, by decide⟩
theorem tf108_0 : TF Tryz.prog 108 0 0 := ⟨_, _, _, Tryz.underlying108, rfl, rfl, Tryz.sizeOf3, by decide⟩
theorem tf108_1 : TF Tryz.prog 108 1 1 := ⟨_, _, _, Tryz.underlying108, rfl, rfl, Tryz.sizeOf3, by decide⟩
theorem tf137_0 : TF Tryz.prog 137 0 0 := ⟨_, _, _, Tryz.underlying137, rfl, rfl, Tryz.sizeOf3, by decide⟩
theorem tf137_1 : TF Tryz.prog 137 1 1 := ⟨_, _, _, Tryz.underlying137, rfl, rfl, Tryz.sizeOf3, by decide⟩
theorem tf148_0 : TF Tryz.prog 148 0 0 := ⟨_, _, _, Tryz.underlying148, rfl, rfl, Tryz.sizeOf102, by decide⟩
theorem tf148_1 : TF Tryz.prog 148 1 2 := ⟨_, _, _, Tryz.underlying148, rfl, rfl, Tryz.sizeOf103, by decide⟩
theorem tf148_2 : TF Tryz.prog 148 2 3 := ⟨_, _, _, Tryz.underlying148, rfl, rfl, Tryz.sizeOf103, by decide⟩
theorem tf148_3 : TF Tryz.prog 148 3 4 := ⟨_, _, _, Tryz.underlying148, rfl, rfl, Tryz.sizeOf3, by decide⟩
theorem tf24_0 : TF Tryz.prog 24 0 0 := ⟨_, _, _, Tryz.underlying24, rfl, rfl, Tryz.sizeOf3, by decide⟩
theorem tf24_1 : TF Tryz.prog 24 1 1 := ⟨_, _, _, Tryz.underlying24, rfl, rfl, Tryz.sizeOf22, by decide⟩
theorem tf32_0 : TF Tryz.prog 32 0 0 := ⟨_, _, _, Tryz.underlying32, rfl, rfl, Tryz.sizeOf3, by decide⟩
theorem tf32_1 : TF Tryz.prog 32 1 1 := ⟨_, _, _, Tryz.underlying32, rfl, rfl, Tryz.sizeOf22, by decide⟩
theorem w_laws_szIntS {Ha : GH} {wa : World} (hs : Sl Ha wa) (v0 : Value) (a0 : List Int) (p0 : RSl Ha eI 1 v0 a0) (a1 : Int) :
  Calls Tryz.prog 113 #[v0, Value.int .i64 a1] wa (Sc Ha wa (Value.int .i64 (PF.laws_szIntS a0 a1))) := by
 obtain ⟨r, hp⟩ : ∃ r, (PF.laws_szIntS a0 a1) = r := ⟨_, rfl⟩
 rw [hp]
 unfold PF.laws_szIntS at hp
 have S0 := St.init hs
 refine calls_go (N := 12) (args := [v0, Value.int .i64 a1]) Tryz.func113 rfl rfl rfl ?_
 refine FW.seq (FW.region ?_)
 refine FL.v (E.assign (v := Value.int .i64 0) rfl) ?_
 refine FL.nil (FW.seq (FW.region ?_))
 refine FL.v (E.move (v := Value.int .i64 a1) rfl) ?_
 refine FL.v (E.move (v := v0) rfl) ?_
 refine FL.v (E.lenP te73 rfl p0) ?_
 refine FL.v (E.sub rfl rfl) ?_
 refine FL.v (E.assign (v := Value.int .i64 (wr (a1 - (len a0)))) rfl) ?_
 refine FL.nil (FW.seq (FW.seq (FW.region ?_)))
 refine FL.v (E.move (v := Value.int .i64 (wr (a1 - (len a0)))) rfl) ?_
 refine FL.v (E.lss rfl rfl) ?_
 refine FL.nil ?_
 rcases ifT hp with ⟨c21, hp⟩ | ⟨c21, hp⟩
 ·
  refine FW.condT rfl c21 ?_
  refine FW.seq (FW.region ?_)
  refine FL.v (E.assign (v := Value.int .i64 (-1)) rfl) ?_
  refine FL.nil ?_
  refine FW.ret ?_
  obtain rfl := hp
  exact ⟨.inr rfl, res1 rfl rfl ⟨rfl, S0.back⟩⟩
 ·
  refine FW.condF rfl c21 ?_
  refine FW.skip (FW.seq (FW.region ?_))
  refine FL.v (E.move (v := Value.int .i64 (wr (a1 - (len a0)))) rfl) ?_
  refine FL.v (E.assign (v := Value.int .i64 (wr (a1 - (len a0)))) rfl) ?_
  refine FL.nil ?_
  refine FW.ret ?_
  obtain rfl := hp
  exact ⟨.inr rfl, res1 rfl rfl ⟨rfl, S0.back⟩⟩

theorem w_laws_szIntSS {Ha : GH} {wa : World} (hs : Sl Ha wa) (v0 : Value) (a0 : List (List Int)) (p0 : RSl Ha (eL eI 1) 1 v0 a0) (a1 : Int) {r : Int} (hp : (PF.laws_szIntSS a0 a1) = some r) :
  Calls Tryz.prog 55 #[v0, Value.int .i64 a1] wa (Sc Ha wa (Value.int .i64 r)) := by
 unfold PF.laws_szIntSS at hp
 have S0 := St.init hs
 refine calls_go (N := 27) (args := [v0, Value.int .i64 a1]) Tryz.func55 rfl rfl rfl ?_
 refine FW.seq (FW.region ?_)
 refine FL.v (E.assign (v := Value.int .i64 0) rfl) ?_
 refine FL.nil (FW.seq (FW.region ?_))
 refine FL.v (E.move (v := Value.int .i64 a1) rfl) ?_
 refine FL.v (E.move (v := v0) rfl) ?_
 refine FL.v (E.lenP te22 rfl p0) ?_
 refine FL.v (E.sub rfl rfl) ?_
 refine FL.v (E.assign (v := Value.int .i64 (wr (a1 - (len a0)))) rfl) ?_
 refine FL.nil (FW.seq (FW.seq (FW.region ?_)))
 refine FL.v (E.move (v := Value.int .i64 (wr (a1 - (len a0)))) rfl) ?_
 refine FL.v (E.lss rfl rfl) ?_
 refine FL.nil ?_
 rcases ifB hp with ⟨c21, hp⟩ | ⟨c21, hp⟩
 ·
  refine FW.condT rfl c21 ?_
  refine FW.seq (FW.region ?_)
  refine FL.v (E.assign (v := Value.int .i64 (-1)) rfl) ?_
  refine FL.nil ?_
  refine FW.ret ?_
  obtain rfl := Option.some.inj hp
  exact ⟨.inr rfl, res1 rfl rfl ⟨rfl, S0.back⟩⟩
 ·
  refine FW.condF rfl c21 ?_
  refine FW.skip (FW.seq (FW.seq (FW.region ?_)))
  refine FL.v (E.assign (v := Value.int .i64 0) rfl) ?_
  refine FL.nil ?_
  obtain ⟨q23, hq, hp⟩ := bndR hp
  refine FW.block ?_
  refine FW.mono (FW.forL (S := Int) (X := Int) (fun (i23 : Nat) (s23 : Int) f w => ∃ H : GH, St Ha wa H w [] ∧ Inc Ha H ∧ f 5 = Value.int .i64 ((i23 : Nat) : Int) ∧ f 0 = v0 ∧ f 1 = Value.int .i64 s23) (fun q e f w => match q with | .go s23 => e = Exit.exit 0 ∧ (∃ H : GH, St Ha wa H w [] ∧ Inc Ha H ∧ f 1 = Value.int .i64 s23) | .rt x => ((e = Exit.ret) ∧ (fun e f w => (e = Exit.normal ∨ e = Exit.ret) ∧ ∀ a, Fr (δ := []) 27 a f → ∃ v, (results Tryz.f55 a.tmps).run Tryz.prog w = .ok v w ∧ (Sc Ha wa (Value.int .i64 x)) (.returned v) w) e f w)) hq ⟨_, S0, (Inc.rfl _), rfl, rfl, rfl⟩ ?_ ?_) ?_
  ·
   clear hp hq
   rintro i23 y22 s23 f48 w47 ⟨H44, S45, i46, k49, k50, k51⟩ hx23 o64 hp
   refine FW.seq (FW.seq (FW.region ?_))
   refine FL.v (E.move k49) ?_
   refine FL.v (E.move k50) ?_
   refine FL.v (E.lenP te22 rfl p0) ?_
   refine FL.v (E.lssT rfl rfl (lss_len hx23)) ?_
   refine FL.nil ?_
   refine FW.condT rfl rfl ?_
   refine FW.skip (FW.seq (FW.block (FW.seq (FW.region ?_))))
   refine FL.v (E.move k50) ?_
   refine FL.v (E.move k49) ?_
   obtain ⟨p52, cs53, pt54, l55, at56, rel57⟩ := p0.at (ix_nat hx23)
   obtain ⟨v58, rfl, h59⟩ := eL_open rel57
   refine FL.v (E.indexAddr te22 rfl rfl pt54) ?_
   refine FL.v (E.load rfl (run_load0 Tryz.isAgg73 ((at56.mono i46).now S45.sl) rfl)) ?_
   refine FL.v (E.move k51) ?_
   refine FL.call rfl rfl rfl (E.call Tryz.call113 (A2 rfl rfl)) (w_laws_szIntS S45.sl v58 y22 (h59.mono i46) s23) ?_
   rintro e w60 ⟨rfl, r61⟩
   refine ⟨_, rfl, ?_⟩
   have S62 := S45.call r61
   refine FL.v (E.assign (v := Value.int .i64 (PF.laws_szIntS y22 s23)) rfl) ?_
   refine FL.nil (FW.seq (FW.region ?_))
   refine FL.v (E.move (v := Value.int .i64 (PF.laws_szIntS y22 s23)) rfl) ?_
   refine FL.v (E.lss rfl rfl) ?_
   refine FL.nil ?_
   rcases ifB hp with ⟨c63, hp⟩ | ⟨c63, hp⟩
   ·
    refine FW.condT rfl c63 ?_
    refine FW.seq (FW.region ?_)
    refine FL.v (E.assign (v := Value.int .i64 (-1)) rfl) ?_
    refine FL.nil ?_
    refine FW.ret ?_
    obtain rfl := Option.some.inj hp
    exact ⟨nofun, rfl, ⟨.inr rfl, res1 rfl rfl ⟨rfl, S62.back⟩⟩⟩
   ·
    refine FW.condF rfl c63 ?_
    refine FW.skip (FW.region ?_)
    refine FL.v (E.move k49) ?_
    refine FL.v (E.add rfl rfl) ?_
    refine FL.v (E.assign (v := Value.int .i64 (wr (((i23 : Nat) : Int) + 1))) rfl) ?_
    refine FL.nil ?_
    obtain rfl := Option.some.inj hp
    exact ⟨rfl, ⟨_, S62, i46, (nat_succ rfl (lt_of_get hx23) (p0.mono i46).le), k50, rfl⟩⟩
  ·
   clear hp hq
   rintro s23 f75 w74 ⟨H71, S72, i73, k76, k77, k78⟩
   refine FW.seq (FW.seq (FW.region ?_))
   refine FL.v (E.move k76) ?_
   refine FL.v (E.move k77) ?_
   refine FL.v (E.lenP te22 rfl p0) ?_
   refine FL.v (E.lss rfl rfl) ?_
   refine FL.nil ?_
   refine FW.condF rfl dlt_len ?_
   refine FW.exit ?_
   exact ⟨nofun, rfl, ⟨_, S72, i73, k78⟩⟩
  ·
   clear hq
   intro e f69 w68 hD
   rcases q23 with s23 | x23
   ·
    obtain ⟨rfl, hD⟩ := hD
    obtain ⟨H65, S66, i67, k70⟩ := hD
    replace hp := el_go hp
    refine FW.seq (FW.region ?_)
    refine FL.v (E.move k70) ?_
    refine FL.v (E.assign (v := Value.int .i64 s23) rfl) ?_
    refine FL.nil ?_
    refine FW.ret ?_
    obtain rfl := Option.some.inj hp
    exact ⟨.inr rfl, res1 rfl rfl ⟨rfl, S66.back⟩⟩
   ·
    obtain ⟨he, hL⟩ := hD
    replace hp := el_rt hp
    obtain rfl := Option.some.inj hp
    subst he
    exact hL

theorem w_laws_szCnf {Ha : GH} {wa : World} (hs : Sl Ha wa) (a0 : Cnf) (v0_1 : Value) (p0_1 : RSl Ha (eL eI 1) 1 v0_1 a0.clauses) (a1 : Int) {r : Int} (hp : (PF.laws_szCnf a0 a1) = some r) :
  Calls Tryz.prog 11 #[Value.agg #[Value.int .i64 a0.vars, v0_1], Value.int .i64 a1] wa (Sc Ha wa (Value.int .i64 r)) := by
 unfold PF.laws_szCnf at hp
 have S0 := St.init hs
 refine calls_go (N := 12) (args := [Value.agg #[Value.int .i64 a0.vars, v0_1], Value.int .i64 a1]) Tryz.func11 rfl rfl rfl ?_
 refine FW.seq (FW.region ?_)
 obtain ⟨b21, w22, run23, S24⟩ := S0.box (P := Tryz.prog) 24 [Value.int .i64 a0.vars, v0_1] (v := Value.agg #[Value.int .i64 a0.vars, v0_1]) rfl (ones_cons rfl (ones_cons p0_1.one ones_nil))
 refine FL.v (E.box rfl run23) ?_
 obtain ⟨H25, S26, i27, at28⟩ := S24.sealBox (i := 0) (l' := []) rfl rfl
 refine FL.v (E.assign (v := Value.int .i64 0) rfl) ?_
 refine FL.nil (FW.seq (FW.region ?_))
 refine FL.v (E.fieldAddr tf24_1 rfl) ?_
 refine FL.v (E.load rfl (run_load1 Tryz.isAgg22 (at28.now S26.sl) rfl)) ?_
 refine FL.v (E.move (v := Value.int .i64 a1) rfl) ?_
 obtain ⟨r29, hr30, hp⟩ := bnd hp
 refine FL.call rfl rfl rfl (E.call Tryz.call55 (A2 rfl rfl)) (w_laws_szIntSS S26.sl v0_1 a0.clauses (p0_1.mono i27) a1 hr30) ?_
 rintro e w31 ⟨rfl, r32⟩
 refine ⟨_, rfl, ?_⟩
 have S33 := S26.call r32
 refine FL.v (E.assign (v := Value.int .i64 r29) rfl) ?_
 refine FL.nil (FW.seq (FW.seq (FW.region ?_)))
 refine FL.v (E.move (v := Value.int .i64 r29) rfl) ?_
 refine FL.v (E.lss rfl rfl) ?_
 refine FL.nil ?_
 rcases ifB hp with ⟨c34, hp⟩ | ⟨c34, hp⟩
 ·
  refine FW.condT rfl c34 ?_
  refine FW.seq (FW.region ?_)
  refine FL.v (E.assign (v := Value.int .i64 (-1)) rfl) ?_
  refine FL.nil ?_
  refine FW.ret ?_
  obtain rfl := Option.some.inj hp
  exact ⟨.inr rfl, res1 rfl rfl ⟨rfl, S33.back⟩⟩
 ·
  refine FW.condF rfl c34 ?_
  refine FW.skip (FW.seq (FW.region ?_))
  refine FL.v (E.move (v := Value.int .i64 r29) rfl) ?_
  refine FL.v (E.assign (v := Value.int .i64 r29) rfl) ?_
  refine FL.nil ?_
  refine FW.ret ?_
  obtain rfl := Option.some.inj hp
  exact ⟨.inr rfl, res1 rfl rfl ⟨rfl, S33.back⟩⟩

theorem w_laws_szTermS {Ha : GH} {wa : World} (hs : Sl Ha wa) (v0 : Value) (a0 : List Term) (p0 : RSl Ha eTerm 2 v0 a0) (a1 : Int) :
  Calls Tryz.prog 31 #[v0, Value.int .i64 a1] wa (Sc Ha wa (Value.int .i64 (PF.laws_szTermS a0 a1))) := by
 obtain ⟨r, hp⟩ : ∃ r, (PF.laws_szTermS a0 a1) = r := ⟨_, rfl⟩
 rw [hp]
 unfold PF.laws_szTermS at hp
 have S0 := St.init hs
 refine calls_go (N := 12) (args := [v0, Value.int .i64 a1]) Tryz.func31 rfl rfl rfl ?_
 refine FW.seq (FW.region ?_)
 refine FL.v (E.assign (v := Value.int .i64 0) rfl) ?_
 refine FL.nil (FW.seq (FW.region ?_))
 refine FL.v (E.move (v := Value.int .i64 a1) rfl) ?_
 refine FL.v (E.move (v := v0) rfl) ?_
 refine FL.v (E.lenP te53 rfl p0) ?_
 refine FL.v (E.sub rfl rfl) ?_
 refine FL.v (E.assign (v := Value.int .i64 (wr (a1 - (len a0)))) rfl) ?_
 refine FL.nil (FW.seq (FW.seq (FW.region ?_)))
 refine FL.v (E.move (v := Value.int .i64 (wr (a1 - (len a0)))) rfl) ?_
 refine FL.v (E.lss rfl rfl) ?_
 refine FL.nil ?_
 rcases ifT hp with ⟨c21, hp⟩ | ⟨c21, hp⟩
 ·
  refine FW.condT rfl c21 ?_
  refine FW.seq (FW.region ?_)
  refine FL.v (E.assign (v := Value.int .i64 (-1)) rfl) ?_
  refine FL.nil ?_
  refine FW.ret ?_
  obtain rfl := hp
  exact ⟨.inr rfl, res1 rfl rfl ⟨rfl, S0.back⟩⟩
 ·
  refine FW.condF rfl c21 ?_
  refine FW.skip (FW.seq (FW.region ?_))
  refine FL.v (E.move (v := Value.int .i64 (wr (a1 - (len a0)))) rfl) ?_
  refine FL.v (E.assign (v := Value.int .i64 (wr (a1 - (len a0)))) rfl) ?_
  refine FL.nil ?_
  refine FW.ret ?_
  obtain rfl := hp
  exact ⟨.inr rfl, res1 rfl rfl ⟨rfl, S0.back⟩⟩

@[reducible] def p_laws_toIntS (Ha : GH) (wa : World) (r : (List Int)) : Ending → World → Prop :=
  fun e w' => ∃ H' : GH, ∃ v0 : Value, ∃ n0 : Nat, ∃ c0 : List Value, e = .returned (v0) ∧ St Ha wa H' w' [.row 3 1 v0 n0 c0] ∧ Els (up wa.heap.size H') eI 1 c0 r
theorem w_laws_toIntS {Ha : GH} {wa : World} (hs : Sl Ha wa) (v0 : Value) (a0 : List Int) (p0 : RSl Ha eI 1 v0 a0) {r : (List Int)} (hp : (PF.laws_toIntS a0) = some r) :
    Calls Tryz.prog 118 #[v0] wa (p_laws_toIntS Ha wa r) := by
  unfold PF.laws_toIntS at hp
  have S0 := St.init hs
  refine calls_go (N := 22) (args := [v0]) Tryz.func118 rfl rfl rfl ?_
  refine FW.seq (FW.region ?_)
  refine FL.v (E.assign (v := Value.slice none 0 0) rfl) ?_
  refine FL.nil (FW.seq (FW.region ?_))
  refine FL.v (E.move (v := v0) rfl) ?_
  refine FL.v (E.lenP te73 rfl p0) ?_
  obtain ⟨xs21, hm22, hp⟩ := bnd hp
  obtain ⟨v23, w24, n28, cs29, run25, S26, els27, hbl30⟩ := S0.makeEls (P := Tryz.prog) te73 (G := (up wa.heap.size Ha)) (En := eI) (x0 := (0 : Int)) hm22 rfl (ones_cons rfl ones_nil) .i64 .i64
  refine FL.v (E.makeSlice rfl rfl run25) ?_
  refine FL.v (E.assign (v := v23) rfl) ?_
  refine FL.nil (FW.seq (FW.seq (FW.region ?_)))
  refine FL.v (E.assign (v := Value.int .i64 0) rfl) ?_
  refine FL.nil ?_
  obtain ⟨q32, hq, hp⟩ := bndR hp
  refine FW.block ?_
  refine FW.mono (FW.forL (S := (List Int)) (X := Empty) (fun (i32 : Nat) (s32 : (List Int)) f w => ∃ H : GH, ∃ v63 : Value, ∃ n64 : Nat, ∃ cs65 : List Value, St Ha wa H w [.row 3 1 v63 n64 cs65] ∧ Inc Ha H ∧ Els (up wa.heap.size H) eI 1 cs65 s32 ∧ f 4 = Value.int .i64 ((i32 : Nat) : Int) ∧ f 0 = v0 ∧ f 3 = v63) (fun (q : Rs (List Int) Empty) e f w => match q with | .go s32 => e = Exit.exit 0 ∧ (∃ H : GH, ∃ v63 : Value, ∃ n64 : Nat, ∃ cs65 : List Value, St Ha wa H w [.row 3 1 v63 n64 cs65] ∧ Inc Ha H ∧ Els (up wa.heap.size H) eI 1 cs65 s32 ∧ f 3 = v63) | .rt x => x.elim) hq ⟨_, _, _, _, S26, (Inc.rfl _), els27, rfl, rfl, rfl⟩ ?_ ?_) ?_
  ·
    clear hp hq
    rintro i32 y31 s32 f101 w100 ⟨H97, v63, n64, cs65, S98, i99, els66, k102, k103, k104⟩ hx32 o127 hp
    refine FW.seq (FW.seq (FW.region ?_))
    refine FL.v (E.move k102) ?_
    refine FL.v (E.move k103) ?_
    refine FL.v (E.lenP te73 rfl p0) ?_
    refine FL.v (E.lssT rfl rfl (lss_len hx32)) ?_
    refine FL.nil ?_
    refine FW.condT rfl rfl ?_
    refine FW.skip (FW.seq (FW.block (FW.region ?_)))
    refine FL.v (E.move k104) ?_
    refine FL.v (E.move k102) ?_
    refine FL.v (E.move k103) ?_
    refine FL.v (E.move k102) ?_
    obtain ⟨p105, cs106, pt107, l108, at109, rel110⟩ := p0.at (ix_nat hx32)
    obtain rfl := eI_open rel110
    refine FL.v (E.indexAddr te73 rfl rfl pt107) ?_
    refine FL.v (E.load rfl (run_load0 Tryz.isAgg3 ((at109.mono i99).now S98.sl) rfl)) ?_
    obtain ⟨x117, hx118, hp⟩ := bnd hp
    obtain ⟨p111, cs112, pt113, l114, at115, rel116⟩ := S98.row_at (i := 0) rfl els66 (by decide) hx118
    obtain rfl := eI_open rel116
    refine FL.v (E.indexAddr te73 rfl rfl pt113) ?_
    obtain ⟨xs122, hput123, hp⟩ := bnd hp
    obtain ⟨w119, cs125, run120, S121, els124, ce126⟩ := S98.putEls (P := Tryz.prog) (t := 3) (i := 0) rfl els66 hput123 pt113 Tryz.sizeOf3 (u := Value.int .i64 y31) (c := [Value.int .i64 y31]) rfl rfl (ones_cons rfl ones_nil) rfl
    have S121 : St Ha wa H97 w119 [.row 3 1 v63 n64 cs125] := S121
    refine FL.act rfl rfl (E.store rfl rfl run120) ?_
    refine FL.nil (FW.region ?_)
    refine FL.v (E.move k102) ?_
    refine FL.v (E.add rfl rfl) ?_
    refine FL.v (E.assign (v := Value.int .i64 (wr (((i32 : Nat) : Int) + 1))) rfl) ?_
    refine FL.nil ?_
    obtain rfl := Option.some.inj hp
    exact ⟨rfl, ⟨_, _, _, _, S121, i99, els124, (nat_succ rfl (lt_of_get hx32) (p0.mono i99).le), k103, k104⟩⟩
  ·
    clear hp hq
    rintro s32 f138 w137 ⟨H134, v63, n64, cs65, S135, i136, els66, k139, k140, k141⟩
    refine FW.seq (FW.seq (FW.region ?_))
    refine FL.v (E.move k139) ?_
    refine FL.v (E.move k140) ?_
    refine FL.v (E.lenP te73 rfl p0) ?_
    refine FL.v (E.lss rfl rfl) ?_
    refine FL.nil ?_
    refine FW.condF rfl dlt_len ?_
    refine FW.exit ?_
    exact ⟨nofun, rfl, ⟨_, _, _, _, S135, i136, els66, k141⟩⟩
  ·
    clear hq
    intro e f132 w131 hD
    rcases q32 with s32 | x32
    ·
      obtain ⟨rfl, hD⟩ := hD
      obtain ⟨H128, v63, n64, cs65, S129, i130, els66, k133⟩ := hD
      replace hp := el_go hp
      refine FW.seq (FW.region ?_)
      refine FL.v (E.move k133) ?_
      refine FL.v (E.assign (v := v63) rfl) ?_
      refine FL.nil ?_
      refine FW.ret ?_
      obtain rfl := Option.some.inj hp
      exact ⟨.inr rfl, res1 rfl rfl ⟨_, _, _, _, rfl, S129, els66⟩⟩
    · exact x32.elim

@[reducible] def p_laws_toIntSS (Ha : GH) (wa : World) (r : (List (List Int))) : Ending → World → Prop :=
  fun e w' => ∃ H' : GH, ∃ v0 : Value, ∃ n0 : Nat, ∃ c0 : List Value, e = .returned (v0) ∧ St Ha wa H' w' [.row 73 1 v0 n0 c0] ∧ Els (up wa.heap.size H') (eL eI 1) 1 c0 r ∧ (bl c0).Nodup
theorem w_laws_toIntSS {Ha : GH} {wa : World} (hs : Sl Ha wa) (v0 : Value) (a0 : List (List Int)) (p0 : RSl Ha (eL eI 1) 1 v0 a0) {r : (List (List Int))} (hp : (PF.laws_toIntSS a0) = some r) :
    Calls Tryz.prog 62 #[v0] wa (p_laws_toIntSS Ha wa r) := by
  unfold PF.laws_toIntSS at hp
  have S0 := St.init hs
  refine calls_go (N := 23) (args := [v0]) Tryz.func62 rfl rfl rfl ?_
  refine FW.seq (FW.region ?_)
  refine FL.v (E.assign (v := Value.slice none 0 0) rfl) ?_
  refine FL.nil (FW.seq (FW.region ?_))
  refine FL.v (E.move (v := v0) rfl) ?_
  refine FL.v (E.lenP te22 rfl p0) ?_
  obtain ⟨xs21, hm22, hp⟩ := bnd hp
  obtain ⟨v23, w24, n28, cs29, run25, S26, els27, hbl30⟩ := S0.makeEls (P := Tryz.prog) te22 (G := (up wa.heap.size Ha)) (En := (eL eI 1)) (x0 := ([] : List Int)) hm22 ⟨_, rfl, RSl.nil _ _ _⟩ (ones_cons rfl ones_nil) .i64 .i64
  have nd31 : (bl cs29).Nodup := by rw [hbl30 (by simp [Value.cells, neb])]; exact List.nodup_nil
  refine FL.v (E.makeSlice rfl rfl run25) ?_
  refine FL.v (E.assign (v := v23) rfl) ?_
  refine FL.nil (FW.seq (FW.seq (FW.region ?_)))
  refine FL.v (E.assign (v := Value.int .i64 0) rfl) ?_
  refine FL.nil ?_
  obtain ⟨q33, hq, hp⟩ := bndR hp
  refine FW.block ?_
  refine FW.mono (FW.forL (S := (List (List Int))) (X := Empty) (fun (i33 : Nat) (s33 : (List (List Int))) f w => ∃ H : GH, ∃ v84 : Value, ∃ n85 : Nat, ∃ cs86 : List Value, St Ha wa H w [.row 73 1 v84 n85 cs86] ∧ Inc Ha H ∧ Els (up wa.heap.size H) (eL eI 1) 1 cs86 s33 ∧ (bl cs86).Nodup ∧ f 4 = Value.int .i64 ((i33 : Nat) : Int) ∧ f 0 = v0 ∧ f 3 = v84) (fun (q : Rs (List (List Int)) Empty) e f w => match q with | .go s33 => e = Exit.exit 0 ∧ (∃ H : GH, ∃ v84 : Value, ∃ n85 : Nat, ∃ cs86 : List Value, St Ha wa H w [.row 73 1 v84 n85 cs86] ∧ Inc Ha H ∧ Els (up wa.heap.size H) (eL eI 1) 1 cs86 s33 ∧ (bl cs86).Nodup ∧ f 3 = v84) | .rt x => x.elim) hq ⟨_, _, _, _, S26, (Inc.rfl _), els27, nd31, rfl, rfl, rfl⟩ ?_ ?_) ?_
  ·
    clear hp hq
    rintro i33 y32 s33 f143 w142 ⟨H139, v84, n85, cs86, S140, i141, els87, nd88, k144, k145, k146⟩ hx33 o189 hp
    refine FW.seq (FW.seq (FW.region ?_))
    refine FL.v (E.move k144) ?_
    refine FL.v (E.move k145) ?_
    refine FL.v (E.lenP te22 rfl p0) ?_
    refine FL.v (E.lssT rfl rfl (lss_len hx33)) ?_
    refine FL.nil ?_
    refine FW.condT rfl rfl ?_
    refine FW.skip (FW.seq (FW.block (FW.region ?_)))
    refine FL.v (E.move k146) ?_
    refine FL.v (E.move k144) ?_
    refine FL.v (E.move k145) ?_
    refine FL.v (E.move k144) ?_
    obtain ⟨p147, cs148, pt149, l150, at151, rel152⟩ := p0.at (ix_nat hx33)
    obtain ⟨v153, rfl, h154⟩ := eL_open rel152
    refine FL.v (E.indexAddr te22 rfl rfl pt149) ?_
    refine FL.v (E.load rfl (run_load0 Tryz.isAgg73 ((at151.mono i141).now S140.sl) rfl)) ?_
    obtain ⟨r155, hr156, hp⟩ := bnd hp
    refine FL.call rfl rfl rfl (E.call Tryz.call118 (A1 rfl)) (w_laws_toIntS S140.sl v153 y32 (h154.mono i141) hr156) ?_
    rintro e w158 ⟨H157, v161, n162, cs163, rfl, r160, els164⟩
    refine ⟨_, rfl, ?_⟩
    have els164 := els164.mono (up_le S140.size)
    have S159 := S140.join (l' := [.row 3 1 v161 n162 cs163, .row 73 1 v84 n85 cs86]) r160 rfl
    obtain ⟨x171, hx172, hp⟩ := bnd hp
    obtain ⟨p165, cs166, pt167, l168, at169, rel170⟩ := S159.row_at (i := 1) rfl els87 (by decide) hx172
    obtain ⟨v173, rfl, h174⟩ := eL_open rel170
    refine FL.v (E.indexAddr te22 rfl rfl pt167) ?_
    obtain ⟨H175, S176, i177, h178, nv179⟩ := S159.sealRowU (i := 0) (l' := [.row 73 1 v84 n85 cs86]) rfl els164 (by decide) rfl
    obtain ⟨xs183, hput184, hp⟩ := bnd hp
    obtain ⟨w180, cs186, run181, S182, els185, ce187⟩ := S176.putEls (P := Tryz.prog) (t := 73) (i := 0) rfl (els87.mono (up_mono (r160.run.inc.tr i177))) hput184 pt167 Tryz.sizeOf73 (u := v161) (c := [v161]) h178.cells rfl (ones_cons h178.one ones_nil) ⟨_, rfl, h178⟩
    have S182 : St Ha wa H175 w180 [.row 73 1 v84 n85 cs186] := S182
    have nd188 : (bl cs186).Nodup := by rw [ce187]; exact nd_put (Nat.le_add_right _ _) nd88 (by exact nd_one v161) (Els.dom (els87.mono (upI.tr r160.run.inc))) (by exact nv179)
    refine FL.act rfl rfl (E.store rfl rfl run181) ?_
    refine FL.nil (FW.region ?_)
    refine FL.v (E.move k144) ?_
    refine FL.v (E.add rfl rfl) ?_
    refine FL.v (E.assign (v := Value.int .i64 (wr (((i33 : Nat) : Int) + 1))) rfl) ?_
    refine FL.nil ?_
    obtain rfl := Option.some.inj hp
    exact ⟨rfl, ⟨_, _, _, _, S182, ((i141.tr r160.run.inc).tr i177), els185, nd188, (nat_succ rfl (lt_of_get hx33) (p0.mono ((i141.tr r160.run.inc).tr i177)).le), k145, k146⟩⟩
  ·
    clear hp hq
    rintro s33 f200 w199 ⟨H196, v84, n85, cs86, S197, i198, els87, nd88, k201, k202, k203⟩
    refine FW.seq (FW.seq (FW.region ?_))
    refine FL.v (E.move k201) ?_
    refine FL.v (E.move k202) ?_
    refine FL.v (E.lenP te22 rfl p0) ?_
    refine FL.v (E.lss rfl rfl) ?_
    refine FL.nil ?_
    refine FW.condF rfl dlt_len ?_
    refine FW.exit ?_
    exact ⟨nofun, rfl, ⟨_, _, _, _, S197, i198, els87, nd88, k203⟩⟩
  ·
    clear hq
    intro e f194 w193 hD
    rcases q33 with s33 | x33
    ·
      obtain ⟨rfl, hD⟩ := hD
      obtain ⟨H190, v84, n85, cs86, S191, i192, els87, nd88, k195⟩ := hD
      replace hp := el_go hp
      refine FW.seq (FW.region ?_)
      refine FL.v (E.move k195) ?_
      refine FL.v (E.assign (v := v84) rfl) ?_
      refine FL.nil ?_
      refine FW.ret ?_
      obtain rfl := Option.some.inj hp
      exact ⟨.inr rfl, res1 rfl rfl ⟨_, _, _, _, rfl, S191, els87, nd88⟩⟩
    · exact x33.elim

@[reducible] def p_laws_toCnf (Ha : GH) (wa : World) (r : Cnf) : Ending → World → Prop :=
 fun e w' => ∃ H' : GH, ∃ v0_1 : Value, e = .returned (Value.agg #[Value.int .i64 r.vars, v0_1]) ∧ Run wa.heap.size Ha wa H' w' ∧ (∃ c, Nest (up wa.heap.size H') (eL eI 1) 1 v0_1 r.clauses c)
theorem w_laws_toCnf {Ha : GH} {wa : World} (hs : Sl Ha wa) (a0 : Cnf) (v0_1 : Value) (p0_1 : RSl Ha (eL eI 1) 1 v0_1 a0.clauses) {r : Cnf} (hp : (PF.laws_toCnf a0) = some r) :
  Calls Tryz.prog 15 #[Value.agg #[Value.int .i64 a0.vars, v0_1]] wa (p_laws_toCnf Ha wa r) := by
 unfold PF.laws_toCnf at hp
 have S0 := St.init hs
 refine calls_go (N := 12) (args := [Value.agg #[Value.int .i64 a0.vars, v0_1]]) Tryz.func15 rfl rfl rfl ?_
 refine FW.seq (FW.region ?_)
 obtain ⟨b21, w22, run23, S24⟩ := S0.box (P := Tryz.prog) 24 [Value.int .i64 a0.vars, v0_1] (v := Value.agg #[Value.int .i64 a0.vars, v0_1]) rfl (ones_cons rfl (ones_cons p0_1.one ones_nil))
 refine FL.v (E.box rfl run23) ?_
 obtain ⟨H25, S26, i27, at28⟩ := S24.sealBox (i := 0) (l' := []) rfl rfl
 obtain ⟨b29, w30, run31, S32⟩ := S26.alloc (P := Tryz.prog) 32 [Value.int .i64 0, Value.slice none 0 0] Tryz.zeroValue32 rfl (ones_cons rfl (ones_cons rfl ones_nil))
 refine FL.v (E.alloc run31) ?_
 refine FL.nil (FW.seq (FW.region ?_))
 obtain ⟨b33, w34, run35, S36⟩ := S32.alloc (P := Tryz.prog) 32 [Value.int .i64 0, Value.slice none 0 0] Tryz.zeroValue32 rfl (ones_cons rfl (ones_cons rfl ones_nil))
 refine FL.v (E.alloc run35) ?_
 refine FL.nil (FW.seq (FW.region ?_))
 refine FL.v (E.fieldAddr tf24_0 rfl) ?_
 refine FL.v (E.load rfl (run_load1 Tryz.isAgg3 (at28.now S36.sl) rfl)) ?_
 refine FL.v (E.fieldAddr tf32_0 rfl) ?_
 obtain ⟨w37, run38, S39⟩ := S36.store (P := Tryz.prog) (t := 3) (i := 0) (j := 0) (cs' := [Value.int .i64 a0.vars, Value.slice none 0 0]) (l' := [.box b33 32 [Value.int .i64 a0.vars, Value.slice none 0 0], .box b29 32 [Value.int .i64 0, Value.slice none 0 0]]) (v := Value.int .i64 a0.vars) (c := [Value.int .i64 a0.vars]) rfl Tryz.sizeOf3 rfl rfl (ones_cons rfl ones_nil) (Nat.le_of_ble_eq_true rfl) rfl rfl
 refine FL.act rfl rfl (E.store rfl rfl run38) ?_
 refine FL.nil (FW.seq (FW.region ?_))
 refine FL.v (E.fieldAddr tf24_1 rfl) ?_
 refine FL.v (E.load rfl (run_load1 Tryz.isAgg22 (at28.now S39.sl) rfl)) ?_
 obtain ⟨r40, hr41, hp⟩ := bnd hp
 refine FL.call rfl rfl rfl (E.call Tryz.call62 (A1 rfl)) (w_laws_toIntSS S39.sl v0_1 a0.clauses (p0_1.mono i27) hr41) ?_
 rintro e w43 ⟨H42, v46, n47, cs48, rfl, r45, els49, nd50⟩
 refine ⟨_, rfl, ?_⟩
 have nv51 : New H25 cs48 := New.of_up S39.sl els49.dom
 have els49 := els49.mono (up_le S39.size)
 have S44 := S39.join (l' := [.row 73 1 v46 n47 cs48, .box b33 32 [Value.int .i64 a0.vars, Value.slice none 0 0], .box b29 32 [Value.int .i64 0, Value.slice none 0 0]]) r45 rfl
 refine FL.v (E.fieldAddr tf32_1 rfl) ?_
 obtain ⟨w52, run53, S54⟩ := S44.store (P := Tryz.prog) (t := 22) (i := 1) (j := 1) (cs' := [Value.int .i64 a0.vars, v46]) (l' := [.row 73 1 v46 n47 cs48, .box b33 32 [Value.int .i64 a0.vars, v46], .box b29 32 [Value.int .i64 0, Value.slice none 0 0]]) (v := v46) (c := [v46]) rfl Tryz.sizeOf22 (Ln.cells (S44.row_ln (i := 0) rfl)) rfl (ones_cons (Ln.one (S44.row_ln (i := 0) rfl)) ones_nil) (Nat.le_of_ble_eq_true rfl) rfl rfl
 refine FL.act rfl rfl (E.store rfl rfl run53) ?_
 obtain ⟨H55, S56, i57, ns60, nv59⟩ := S54.sealRowN (i := 0) (l' := [.box b33 32 [Value.int .i64 a0.vars, v46], .box b29 32 [Value.int .i64 0, Value.slice none 0 0]]) rfl els49 nd50 (by decide) rfl
 have h58 := ns60.rsl
 obtain ⟨H61, S62, i63, at64⟩ := S56.sealBox (i := 0) (l' := [.box b29 32 [Value.int .i64 0, Value.slice none 0 0]]) rfl rfl
 refine FL.nil (FW.seq (FW.region ?_))
 refine FL.v (E.load rfl (run_loadA Tryz.isAgg32 Tryz.sizeOf32 (at64.now S62.sl) rfl)) ?_
 obtain ⟨w65, run66, S67⟩ := S62.store0 (P := Tryz.prog) (t := 32) (i := 0) (cs' := [Value.int .i64 a0.vars, v46]) (l' := [.box b29 32 [Value.int .i64 a0.vars, v46]]) (v := Value.agg #[Value.int .i64 a0.vars, v46]) (c := [Value.int .i64 a0.vars, v46]) rfl Tryz.sizeOf32 rfl rfl (ones_cons rfl (ones_cons h58.one ones_nil)) (Nat.le_of_ble_eq_true rfl) rfl rfl
 refine FL.act rfl rfl (E.store rfl rfl run66) ?_
 obtain ⟨H68, S69, i70, at71⟩ := S67.sealBox (i := 0) (l' := []) rfl rfl
 refine FL.nil ?_
 refine FW.ret ?_
 obtain rfl := Option.some.inj hp
 exact ⟨.inr rfl, resC rfl rfl (loadVar_A Tryz.isAgg32 Tryz.sizeOf32 (at71.now S69.sl) rfl) ⟨_, _, rfl, S69.run, ⟨_, (ns60.mono (up_mono (i63.tr i70)))⟩⟩⟩

theorem w_laws_toTerm {Ha : GH} {wa : World} (hs : Sl Ha wa) (a0 : Term) :
  Calls Tryz.prog 96 #[Value.agg #[Value.int .i64 a0.mono, Value.int .i64 a0.coeff]] wa (Sc Ha wa (Value.agg #[Value.int .i64 ((PF.laws_toTerm a0).mono), Value.int .i64 ((PF.laws_toTerm a0).coeff)])) := by
 obtain ⟨r, hp⟩ : ∃ r, (PF.laws_toTerm a0) = r := ⟨_, rfl⟩
 rw [hp]
 unfold PF.laws_toTerm at hp
 have S0 := St.init hs
 refine calls_go (N := 11) (args := [Value.agg #[Value.int .i64 a0.mono, Value.int .i64 a0.coeff]]) Tryz.func96 rfl rfl rfl ?_
 refine FW.seq (FW.region ?_)
 obtain ⟨b21, w22, run23, S24⟩ := S0.box (P := Tryz.prog) 137 [Value.int .i64 a0.mono, Value.int .i64 a0.coeff] (v := Value.agg #[Value.int .i64 a0.mono, Value.int .i64 a0.coeff]) rfl (ones_cons rfl (ones_cons rfl ones_nil))
 refine FL.v (E.box rfl run23) ?_
 obtain ⟨H25, S26, i27, at28⟩ := S24.sealBox (i := 0) (l' := []) rfl rfl
 obtain ⟨b29, w30, run31, S32⟩ := S26.alloc (P := Tryz.prog) 108 [Value.int .i64 0, Value.int .i64 0] Tryz.zeroValue108 rfl (ones_cons rfl (ones_cons rfl ones_nil))
 refine FL.v (E.alloc run31) ?_
 refine FL.nil (FW.seq (FW.region ?_))
 obtain ⟨b33, w34, run35, S36⟩ := S32.alloc (P := Tryz.prog) 108 [Value.int .i64 0, Value.int .i64 0] Tryz.zeroValue108 rfl (ones_cons rfl (ones_cons rfl ones_nil))
 refine FL.v (E.alloc run35) ?_
 refine FL.nil (FW.seq (FW.region ?_))
 refine FL.v (E.fieldAddr tf137_0 rfl) ?_
 refine FL.v (E.load rfl (run_load1 Tryz.isAgg3 (at28.now S36.sl) rfl)) ?_
 refine FL.v (E.fieldAddr tf108_0 rfl) ?_
 obtain ⟨w37, run38, S39⟩ := S36.store (P := Tryz.prog) (t := 3) (i := 0) (j := 0) (cs' := [Value.int .i64 a0.mono, Value.int .i64 0]) (l' := [.box b33 108 [Value.int .i64 a0.mono, Value.int .i64 0], .box b29 108 [Value.int .i64 0, Value.int .i64 0]]) (v := Value.int .i64 a0.mono) (c := [Value.int .i64 a0.mono]) rfl Tryz.sizeOf3 rfl rfl (ones_cons rfl ones_nil) (Nat.le_of_ble_eq_true rfl) rfl rfl
 refine FL.act rfl rfl (E.store rfl rfl run38) ?_
 refine FL.nil (FW.seq (FW.region ?_))
 refine FL.v (E.fieldAddr tf137_1 rfl) ?_
 refine FL.v (E.load rfl (run_load1 Tryz.isAgg3 (at28.now S39.sl) rfl)) ?_
 refine FL.v (E.fieldAddr tf108_1 rfl) ?_
 obtain ⟨w40, run41, S42⟩ := S39.store (P := Tryz.prog) (t := 3) (i := 0) (j := 1) (cs' := [Value.int .i64 a0.mono, Value.int .i64 a0.coeff]) (l' := [.box b33 108 [Value.int .i64 a0.mono, Value.int .i64 a0.coeff], .box b29 108 [Value.int .i64 0, Value.int .i64 0]]) (v := Value.int .i64 a0.coeff) (c := [Value.int .i64 a0.coeff]) rfl Tryz.sizeOf3 rfl rfl (ones_cons rfl ones_nil) (Nat.le_of_ble_eq_true rfl) rfl rfl
 refine FL.act rfl rfl (E.store rfl rfl run41) ?_
 obtain ⟨H43, S44, i45, at46⟩ := S42.sealBox (i := 0) (l' := [.box b29 108 [Value.int .i64 0, Value.int .i64 0]]) rfl rfl
 refine FL.nil (FW.seq (FW.region ?_))
 refine FL.v (E.load rfl (run_loadA Tryz.isAgg108 Tryz.sizeOf108 (at46.now S44.sl) rfl)) ?_
 obtain ⟨w47, run48, S49⟩ := S44.store0 (P := Tryz.prog) (t := 108) (i := 0) (cs' := [Value.int .i64 a0.mono, Value.int .i64 a0.coeff]) (l' := [.box b29 108 [Value.int .i64 a0.mono, Value.int .i64 a0.coeff]]) (v := Value.agg #[Value.int .i64 a0.mono, Value.int .i64 a0.coeff]) (c := [Value.int .i64 a0.mono, Value.int .i64 a0.coeff]) rfl Tryz.sizeOf108 rfl rfl (ones_cons rfl (ones_cons rfl ones_nil)) (Nat.le_of_ble_eq_true rfl) rfl rfl
 refine FL.act rfl rfl (E.store rfl rfl run48) ?_
 obtain ⟨H50, S51, i52, at53⟩ := S49.sealBox (i := 0) (l' := []) rfl rfl
 refine FL.nil ?_
 refine FW.ret ?_
 obtain rfl := hp
 exact ⟨.inr rfl, resC rfl rfl (loadVar_A Tryz.isAgg108 Tryz.sizeOf108 (at53.now S51.sl) rfl) ⟨rfl, S51.back⟩⟩

@[reducible] def p_laws_toTermS (Ha : GH) (wa : World) (r : (List Term)) : Ending → World → Prop :=
  fun e w' => ∃ H' : GH, ∃ v0 : Value, ∃ n0 : Nat, ∃ c0 : List Value, e = .returned (v0) ∧ St Ha wa H' w' [.row 108 2 v0 n0 c0] ∧ Els (up wa.heap.size H') eTerm 2 c0 r
theorem w_laws_toTermS {Ha : GH} {wa : World} (hs : Sl Ha wa) (v0 : Value) (a0 : List Term) (p0 : RSl Ha eTerm 2 v0 a0) {r : (List Term)} (hp : (PF.laws_toTermS a0) = some r) :
    Calls Tryz.prog 33 #[v0] wa (p_laws_toTermS Ha wa r) := by
  unfold PF.laws_toTermS at hp
  have S0 := St.init hs
  refine calls_go (N := 23) (args := [v0]) Tryz.func33 rfl rfl rfl ?_
  refine FW.seq (FW.region ?_)
  refine FL.v (E.assign (v := Value.slice none 0 0) rfl) ?_
  refine FL.nil (FW.seq (FW.region ?_))
  refine FL.v (E.move (v := v0) rfl) ?_
  refine FL.v (E.lenP te53 rfl p0) ?_
  obtain ⟨xs21, hm22, hp⟩ := bnd hp
  obtain ⟨v23, w24, n28, cs29, run25, S26, els27, hbl30⟩ := S0.makeEls (P := Tryz.prog) te55 (G := (up wa.heap.size Ha)) (En := eTerm) (x0 := ((Term.mk 0 0) : Term)) hm22 rfl (ones_cons rfl (ones_cons rfl ones_nil)) .i64 .i64
  refine FL.v (E.makeSlice rfl rfl run25) ?_
  refine FL.v (E.assign (v := v23) rfl) ?_
  refine FL.nil (FW.seq (FW.seq (FW.region ?_)))
  refine FL.v (E.assign (v := Value.int .i64 0) rfl) ?_
  refine FL.nil ?_
  obtain ⟨q32, hq, hp⟩ := bndR hp
  refine FW.block ?_
  refine FW.mono (FW.forL (S := (List Term)) (X := Empty) (fun (i32 : Nat) (s32 : (List Term)) f w => ∃ H : GH, ∃ v66 : Value, ∃ n67 : Nat, ∃ cs68 : List Value, St Ha wa H w [.row 108 2 v66 n67 cs68] ∧ Inc Ha H ∧ Els (up wa.heap.size H) eTerm 2 cs68 s32 ∧ f 4 = Value.int .i64 ((i32 : Nat) : Int) ∧ f 0 = v0 ∧ f 3 = v66) (fun (q : Rs (List Term) Empty) e f w => match q with | .go s32 => e = Exit.exit 0 ∧ (∃ H : GH, ∃ v66 : Value, ∃ n67 : Nat, ∃ cs68 : List Value, St Ha wa H w [.row 108 2 v66 n67 cs68] ∧ Inc Ha H ∧ Els (up wa.heap.size H) eTerm 2 cs68 s32 ∧ f 3 = v66) | .rt x => x.elim) hq ⟨_, _, _, _, S26, (Inc.rfl _), els27, rfl, rfl, rfl⟩ ?_ ?_) ?_
  ·
    clear hp hq
    rintro i32 y31 s32 f107 w106 ⟨H103, v66, n67, cs68, S104, i105, els69, k108, k109, k110⟩ hx32 o136 hp
    refine FW.seq (FW.seq (FW.region ?_))
    refine FL.v (E.move k108) ?_
    refine FL.v (E.move k109) ?_
    refine FL.v (E.lenP te53 rfl p0) ?_
    refine FL.v (E.lssT rfl rfl (lss_len hx32)) ?_
    refine FL.nil ?_
    refine FW.condT rfl rfl ?_
    refine FW.skip (FW.seq (FW.block (FW.region ?_)))
    refine FL.v (E.move k110) ?_
    refine FL.v (E.move k108) ?_
    refine FL.v (E.move k109) ?_
    refine FL.v (E.move k108) ?_
    obtain ⟨p111, cs112, pt113, l114, at115, rel116⟩ := p0.at (ix_nat hx32)
    obtain rfl := eTerm_open rel116
    refine FL.v (E.indexAddr te53 rfl rfl pt113) ?_
    refine FL.v (E.load rfl (run_loadA Tryz.isAgg137 Tryz.sizeOf137 ((at115.mono i105).now S104.sl) rfl)) ?_
    refine FL.call rfl rfl rfl (E.call Tryz.call96 (A1 rfl)) (w_laws_toTerm S104.sl y31) ?_
    rintro e w117 ⟨rfl, r118⟩
    refine ⟨_, rfl, ?_⟩
    have S119 := S104.call r118
    obtain ⟨x126, hx127, hp⟩ := bnd hp
    obtain ⟨p120, cs121, pt122, l123, at124, rel125⟩ := S119.row_at (i := 0) rfl els69 (by decide) hx127
    obtain rfl := eTerm_open rel125
    refine FL.v (E.indexAddr te55 rfl rfl pt122) ?_
    obtain ⟨xs131, hput132, hp⟩ := bnd hp
    obtain ⟨w128, cs134, run129, S130, els133, ce135⟩ := S119.putEls (P := Tryz.prog) (t := 108) (i := 0) rfl els69 hput132 pt122 Tryz.sizeOf108 (u := Value.agg #[Value.int .i64 ((PF.laws_toTerm y31).mono), Value.int .i64 ((PF.laws_toTerm y31).coeff)]) (c := [Value.int .i64 ((PF.laws_toTerm y31).mono), Value.int .i64 ((PF.laws_toTerm y31).coeff)]) rfl rfl (ones_cons rfl (ones_cons rfl ones_nil)) rfl
    have S130 : St Ha wa H103 w128 [.row 108 2 v66 n67 cs134] := S130
    refine FL.act rfl rfl (E.store rfl rfl run129) ?_
    refine FL.nil (FW.region ?_)
    refine FL.v (E.move k108) ?_
    refine FL.v (E.add rfl rfl) ?_
    refine FL.v (E.assign (v := Value.int .i64 (wr (((i32 : Nat) : Int) + 1))) rfl) ?_
    refine FL.nil ?_
    obtain rfl := Option.some.inj hp
    exact ⟨rfl, ⟨_, _, _, _, S130, i105, els133, (nat_succ rfl (lt_of_get hx32) (p0.mono i105).le), k109, k110⟩⟩
  ·
    clear hp hq
    rintro s32 f147 w146 ⟨H143, v66, n67, cs68, S144, i145, els69, k148, k149, k150⟩
    refine FW.seq (FW.seq (FW.region ?_))
    refine FL.v (E.move k148) ?_
    refine FL.v (E.move k149) ?_
    refine FL.v (E.lenP te53 rfl p0) ?_
    refine FL.v (E.lss rfl rfl) ?_
    refine FL.nil ?_
    refine FW.condF rfl dlt_len ?_
    refine FW.exit ?_
    exact ⟨nofun, rfl, ⟨_, _, _, _, S144, i145, els69, k150⟩⟩
  ·
    clear hq
    intro e f141 w140 hD
    rcases q32 with s32 | x32
    ·
      obtain ⟨rfl, hD⟩ := hD
      obtain ⟨H137, v66, n67, cs68, S138, i139, els69, k142⟩ := hD
      replace hp := el_go hp
      refine FW.seq (FW.region ?_)
      refine FL.v (E.move k142) ?_
      refine FL.v (E.assign (v := v66) rfl) ?_
      refine FL.nil ?_
      refine FW.ret ?_
      obtain rfl := Option.some.inj hp
      exact ⟨.inr rfl, res1 rfl rfl ⟨_, _, _, _, rfl, S138, els69⟩⟩
    · exact x32.elim

theorem w_spec_l1In {Ha : GH} {wa : World} (hs : Sl Ha wa) (a0 : Int) (a1 : Int) (a2 : Int) :
  Calls Tryz.prog 153 #[Value.int .i64 a0, Value.int .i64 a1, Value.int .i64 a2] wa (Sc Ha wa (Value.bool (PF.spec_l1In a0 a1 a2))) := by
 obtain ⟨r, hp⟩ : ∃ r, (PF.spec_l1In a0 a1 a2) = r := ⟨_, rfl⟩
 rw [hp]
 unfold PF.spec_l1In at hp
 have S0 := St.init hs
 refine calls_go (N := 15) (args := [Value.int .i64 a0, Value.int .i64 a1, Value.int .i64 a2]) Tryz.func153 rfl rfl rfl ?_
 refine FW.seq (FW.region ?_)
 refine FL.v (E.assign (v := Value.bool false) rfl) ?_
 refine FL.nil (FW.seq (FW.region ?_))
 refine FL.v (E.move (v := Value.int .i64 a0) rfl) ?_
 refine FL.v (E.move (v := Value.int .i64 a1) rfl) ?_
 refine FL.v (E.geq rfl rfl) ?_
 refine FL.v (E.move (v := Value.bool (decide (a1 ≤ a0))) rfl) ?_
 refine FL.cut 4 (fun f w => ∃ H : GH, St Ha wa H w [] ∧ Inc Ha H ∧ f 14 = Value.bool (bif (decide (a1 ≤ a0)) then (decide (a0 ≤ a2)) else false)) ?_ ?_
 ·
  rcases bcase (decide (a1 ≤ a0)) with c27 | c27
  ·
   refine FL.val (wF_yes rfl rfl rfl c27) rfl rfl (E.move (v := Value.int .i64 a0) rfl) ?_
   refine FL.val (wF_yes rfl rfl rfl c27) rfl rfl (E.move (v := Value.int .i64 a2) rfl) ?_
   refine FL.val (wF_yes rfl rfl rfl c27) rfl rfl (E.leq rfl rfl) ?_
   refine FL.v (E.pickT rfl c27 rfl) ?_
   exact FL.nil ⟨rfl, _, S0, (Inc.rfl _), (congrArg Value.bool (bifT c27).symm)⟩
  ·
   refine FL.skip (wF_no rfl rfl rfl c27) rfl ?_
   refine FL.skip (wF_no rfl rfl rfl c27) rfl ?_
   refine FL.skip (wF_no rfl rfl rfl c27) rfl ?_
   refine FL.v (E.pickF rfl c27 rfl) ?_
   exact FL.nil ⟨rfl, _, S0, (Inc.rfl _), (congrArg Value.bool (bifF c27).symm)⟩
 rintro f26 w25 ⟨H22, S23, i24, k28⟩
 refine FL.v (E.assign k28) ?_
 refine FL.nil ?_
 refine FW.ret ?_
 obtain rfl := hp
 exact ⟨.inr rfl, res1 rfl rfl ⟨rfl, S23.back⟩⟩

theorem w_spec_l18Prime {Ha : GH} {wa : World} (hs : Sl Ha wa) (a0 : Int) (a1 : Int) :
  Calls Tryz.prog 151 #[Value.int .i64 a0, Value.int .i64 a1] wa (Sc Ha wa (Value.bool (PF.spec_l18Prime a0 a1))) := by
 obtain ⟨r, hp⟩ : ∃ r, (PF.spec_l18Prime a0 a1) = r := ⟨_, rfl⟩
 rw [hp]
 unfold PF.spec_l18Prime at hp
 have S0 := St.init hs
 refine calls_go (N := 19) (args := [Value.int .i64 a0, Value.int .i64 a1]) Tryz.func151 rfl rfl rfl ?_
 refine FW.seq (FW.region ?_)
 refine FL.v (E.assign (v := Value.bool false) rfl) ?_
 refine FL.nil (FW.seq (FW.region ?_))
 refine FL.v (E.move (v := Value.int .i64 a0) rfl) ?_
 refine FL.v (E.eql rfl rfl) ?_
 refine FL.v (E.move (v := Value.bool (a0 == 2)) rfl) ?_
 refine FL.cut 3 (fun f w => ∃ H : GH, St Ha wa H w [] ∧ Inc Ha H ∧ f 0 = Value.int .i64 a0 ∧ f 1 = Value.int .i64 a1 ∧ f 10 = Value.bool (bif (a0 == 2) then true else (a0 == 3))) ?_ ?_
 ·
  rcases bcase (a0 == 2) with c27 | c27
  ·
   refine FL.skip (wF_no rfl rfl rfl c27) rfl ?_
   refine FL.skip (wF_no rfl rfl rfl c27) rfl ?_
   refine FL.v (E.pickT rfl c27 rfl) ?_
   exact FL.nil ⟨rfl, _, S0, (Inc.rfl _), rfl, rfl, (congrArg Value.bool (bifT c27).symm)⟩
  ·
   refine FL.val (wF_yes rfl rfl rfl c27) rfl rfl (E.move (v := Value.int .i64 a0) rfl) ?_
   refine FL.val (wF_yes rfl rfl rfl c27) rfl rfl (E.eql rfl rfl) ?_
   refine FL.v (E.pickF rfl c27 rfl) ?_
   exact FL.nil ⟨rfl, _, S0, (Inc.rfl _), rfl, rfl, (congrArg Value.bool (bifF c27).symm)⟩
 rintro f26 w25 ⟨H22, S23, i24, k28, k29, k30⟩
 refine FL.v (E.move k30) ?_
 refine FL.cut 3 (fun f w => ∃ H : GH, St Ha wa H w [] ∧ Inc H22 H ∧ f 1 = Value.int .i64 a1 ∧ f 14 = Value.bool (bif (bif (a0 == 2) then true else (a0 == 3)) then true else (a0 == 5))) ?_ ?_
 ·
  rcases bcase (bif (a0 == 2) then true else (a0 == 3)) with c37 | c37
  ·
   refine FL.skip (wF_no rfl rfl rfl c37) rfl ?_
   refine FL.skip (wF_no rfl rfl rfl c37) rfl ?_
   refine FL.v (E.pickT rfl c37 rfl) ?_
   exact FL.nil ⟨rfl, _, S23, (Inc.rfl _), k29, (congrArg Value.bool (bifT c37).symm)⟩
  ·
   refine FL.val (wF_yes rfl rfl rfl c37) rfl rfl (E.move k28) ?_
   refine FL.val (wF_yes rfl rfl rfl c37) rfl rfl (E.eql rfl rfl) ?_
   refine FL.v (E.pickF rfl c37 rfl) ?_
   exact FL.nil ⟨rfl, _, S23, (Inc.rfl _), k29, (congrArg Value.bool (bifF c37).symm)⟩
 rintro f36 w35 ⟨H32, S33, i34, k38, k39⟩
 refine FL.v (E.move k39) ?_
 refine FL.cut 3 (fun f w => ∃ H : GH, St Ha wa H w [] ∧ Inc H32 H ∧ f 18 = Value.bool (bif (bif (bif (a0 == 2) then true else (a0 == 3)) then true else (a0 == 5)) then (PF.spec_l1In a1 0 6) else false)) ?_ ?_
 ·
  rcases bcase (bif (bif (a0 == 2) then true else (a0 == 3)) then true else (a0 == 5)) with c49 | c49
  ·
   refine FL.val (wF_yes rfl rfl rfl c49) rfl rfl (E.move k38) ?_
   refine FL.call (wF_yes rfl rfl rfl c49) rfl rfl (E.call Tryz.call153 (A3 rfl rfl rfl)) (w_spec_l1In S33.sl a1 0 6) ?_
   rintro e w50 ⟨rfl, r51⟩
   refine ⟨_, rfl, ?_⟩
   have S52 := S33.call r51
   refine FL.v (E.pickT rfl c49 rfl) ?_
   exact FL.nil ⟨rfl, _, S52, (Inc.rfl _), (congrArg Value.bool (bifT c49).symm)⟩
  ·
   refine FL.skip (wF_no rfl rfl rfl c49) rfl ?_
   refine FL.skip (wF_no rfl rfl rfl c49) rfl ?_
   refine FL.v (E.pickF rfl c49 rfl) ?_
   exact FL.nil ⟨rfl, _, S33, (Inc.rfl _), (congrArg Value.bool (bifF c49).symm)⟩
 rintro f48 w47 ⟨H44, S45, i46, k53⟩
 refine FL.v (E.assign k53) ?_
 refine FL.nil ?_
 refine FW.ret ?_
 obtain rfl := hp
 exact ⟨.inr rfl, res1 rfl rfl ⟨rfl, S45.back⟩⟩

theorem w_spec_l2Vars {Ha : GH} {wa : World} (hs : Sl Ha wa) (a0 : Int) :
  Calls Tryz.prog 201 #[Value.int .i64 a0] wa (Sc Ha wa (Value.bool (PF.spec_l2Vars a0))) := by
 obtain ⟨r, hp⟩ : ∃ r, (PF.spec_l2Vars a0) = r := ⟨_, rfl⟩
 rw [hp]
 unfold PF.spec_l2Vars at hp
 have S0 := St.init hs
 refine calls_go (N := 5) (args := [Value.int .i64 a0]) Tryz.func201 rfl rfl rfl ?_
 refine FW.seq (FW.region ?_)
 refine FL.v (E.assign (v := Value.bool false) rfl) ?_
 refine FL.nil (FW.seq (FW.region ?_))
 refine FL.v (E.move (v := Value.int .i64 a0) rfl) ?_
 refine FL.call rfl rfl rfl (E.call Tryz.call153 (A3 rfl rfl rfl)) (w_spec_l1In S0.sl a0 0 12) ?_
 rintro e w21 ⟨rfl, r22⟩
 refine ⟨_, rfl, ?_⟩
 have S23 := S0.call r22
 refine FL.v (E.assign (v := Value.bool (PF.spec_l1In a0 0 12)) rfl) ?_
 refine FL.nil ?_
 refine FW.ret ?_
 obtain rfl := hp
 exact ⟨.inr rfl, res1 rfl rfl ⟨rfl, S23.back⟩⟩

theorem w_spec_l2Lit {Ha : GH} {wa : World} (hs : Sl Ha wa) (a0 : Int) (a1 : Int) :
  Calls Tryz.prog 244 #[Value.int .i64 a0, Value.int .i64 a1] wa (Sc Ha wa (Value.bool (PF.spec_l2Lit a0 a1))) := by
 obtain ⟨r, hp⟩ : ∃ r, (PF.spec_l2Lit a0 a1) = r := ⟨_, rfl⟩
 rw [hp]
 unfold PF.spec_l2Lit at hp
 have S0 := St.init hs
 refine calls_go (N := 14) (args := [Value.int .i64 a0, Value.int .i64 a1]) Tryz.func244 rfl rfl rfl ?_
 refine FW.seq (FW.region ?_)
 refine FL.v (E.assign (v := Value.bool false) rfl) ?_
 refine FL.nil (FW.seq (FW.region ?_))
 refine FL.v (E.move (v := Value.int .i64 a1) rfl) ?_
 refine FL.v (E.move (v := Value.int .i64 a0) rfl) ?_
 refine FL.v (E.neg rfl) ?_
 refine FL.v (E.move (v := Value.int .i64 a0) rfl) ?_
 refine FL.call rfl rfl rfl (E.call Tryz.call153 (A3 rfl rfl rfl)) (w_spec_l1In S0.sl a1 (wr (-a0)) a0) ?_
 rintro e w21 ⟨rfl, r22⟩
 refine ⟨_, rfl, ?_⟩
 have S23 := S0.call r22
 refine FL.v (E.move (v := Value.bool (PF.spec_l1In a1 (wr (-a0)) a0)) rfl) ?_
 refine FL.cut 3 (fun f w => ∃ H : GH, St Ha wa H w [] ∧ Inc Ha H ∧ f 13 = Value.bool (bif (PF.spec_l1In a1 (wr (-a0)) a0) then (!(a1 == 0)) else false)) ?_ ?_
 ·
  rcases bcase (PF.spec_l1In a1 (wr (-a0)) a0) with c30 | c30
  ·
   refine FL.val (wF_yes rfl rfl rfl c30) rfl rfl (E.move (v := Value.int .i64 a1) rfl) ?_
   refine FL.val (wF_yes rfl rfl rfl c30) rfl rfl (E.neq rfl rfl) ?_
   refine FL.v (E.pickT rfl c30 rfl) ?_
   exact FL.nil ⟨rfl, _, S23, (Inc.rfl _), (congrArg Value.bool (bifT c30).symm)⟩
  ·
   refine FL.skip (wF_no rfl rfl rfl c30) rfl ?_
   refine FL.skip (wF_no rfl rfl rfl c30) rfl ?_
   refine FL.v (E.pickF rfl c30 rfl) ?_
   exact FL.nil ⟨rfl, _, S23, (Inc.rfl _), (congrArg Value.bool (bifF c30).symm)⟩
 rintro f29 w28 ⟨H25, S26, i27, k31⟩
 refine FL.v (E.assign k31) ?_
 refine FL.nil ?_
 refine FW.ret ?_
 obtain rfl := hp
 exact ⟨.inr rfl, res1 rfl rfl ⟨rfl, S26.back⟩⟩

theorem w_spec_l2Var {Ha : GH} {wa : World} (hs : Sl Ha wa) (a0 : Int) :
  Calls Tryz.prog 116 #[Value.int .i64 a0] wa (Sc Ha wa (Value.int .i64 (PF.spec_l2Var a0))) := by
 obtain ⟨r, hp⟩ : ∃ r, (PF.spec_l2Var a0) = r := ⟨_, rfl⟩
 rw [hp]
 unfold PF.spec_l2Var at hp
 have S0 := St.init hs
 refine calls_go (N := 8) (args := [Value.int .i64 a0]) Tryz.func116 rfl rfl rfl ?_
 refine FW.seq (FW.region ?_)
 refine FL.v (E.assign (v := Value.int .i64 0) rfl) ?_
 refine FL.nil (FW.seq (FW.seq (FW.region ?_)))
 refine FL.v (E.move (v := Value.int .i64 a0) rfl) ?_
 refine FL.v (E.lss rfl rfl) ?_
 refine FL.nil ?_
 rcases ifT hp with ⟨c21, hp⟩ | ⟨c21, hp⟩
 ·
  refine FW.condT rfl c21 ?_
  refine FW.seq (FW.region ?_)
  refine FL.v (E.move (v := Value.int .i64 a0) rfl) ?_
  refine FL.v (E.neg rfl) ?_
  refine FL.v (E.assign (v := Value.int .i64 (wr (-a0))) rfl) ?_
  refine FL.nil ?_
  refine FW.ret ?_
  obtain rfl := hp
  exact ⟨.inr rfl, res1 rfl rfl ⟨rfl, S0.back⟩⟩
 ·
  refine FW.condF rfl c21 ?_
  refine FW.skip (FW.seq (FW.region ?_))
  refine FL.v (E.move (v := Value.int .i64 a0) rfl) ?_
  refine FL.v (E.assign (v := Value.int .i64 a0) rfl) ?_
  refine FL.nil ?_
  refine FW.ret ?_
  obtain rfl := hp
  exact ⟨.inr rfl, res1 rfl rfl ⟨rfl, S0.back⟩⟩

theorem w_spec_l2Clause {Ha : GH} {wa : World} (hs : Sl Ha wa) (a0 : Int) (v1 : Value) (a1 : List Int) (p1 : RSl Ha eI 1 v1 a1) {r : Bool} (hp : (PF.spec_l2Clause a0 a1) = some r) :
  Calls Tryz.prog 202 #[Value.int .i64 a0, v1] wa (Sc Ha wa (Value.bool r)) := by
 unfold PF.spec_l2Clause at hp
 have S0 := St.init hs
 refine calls_go (N := 40) (args := [Value.int .i64 a0, v1]) Tryz.func202 rfl rfl rfl ?_
 refine FW.seq (FW.region ?_)
 refine FL.v (E.assign (v := Value.bool false) rfl) ?_
 refine FL.nil (FW.seq (FW.seq (FW.region ?_)))
 refine FL.v (E.move (v := Value.int .i64 a0) rfl) ?_
 refine FL.call rfl rfl rfl (E.call Tryz.call201 (A1 rfl)) (w_spec_l2Vars S0.sl a0) ?_
 rintro e w21 ⟨rfl, r22⟩
 refine ⟨_, rfl, ?_⟩
 have S23 := S0.call r22
 refine FL.v (E.not rfl) ?_
 refine FL.nil ?_
 rcases ifB hp with ⟨c24, hp⟩ | ⟨c24, hp⟩
 ·
  refine FW.condT rfl c24 ?_
  refine FW.seq (FW.region ?_)
  refine FL.v (E.assign (v := Value.bool false) rfl) ?_
  refine FL.nil ?_
  refine FW.ret ?_
  obtain rfl := Option.some.inj hp
  exact ⟨.inr rfl, res1 rfl rfl ⟨rfl, S23.back⟩⟩
 ·
  refine FW.condF rfl c24 ?_
  refine FW.skip (FW.seq (FW.seq (FW.region ?_)))
  refine FL.v (E.assign (v := Value.int .i64 0) rfl) ?_
  refine FL.nil ?_
  obtain ⟨q26, hq, hp⟩ := bndR hp
  refine FW.block ?_
  refine FW.mono (FW.forL (S := Unit) (X := Bool) (fun (i26 : Nat) (s26 : Unit) f w => ∃ H : GH, St Ha wa H w [] ∧ Inc Ha H ∧ f 5 = Value.int .i64 ((i26 : Nat) : Int) ∧ f 0 = Value.int .i64 a0 ∧ f 1 = v1) (fun q e f w => match q with | .go s26 => e = Exit.exit 0 ∧ (∃ H : GH, St Ha wa H w [] ∧ Inc Ha H) | .rt x => ((e = Exit.ret) ∧ (fun e f w => (e = Exit.normal ∨ e = Exit.ret) ∧ ∀ a, Fr (δ := []) 40 a f → ∃ v, (results Tryz.f202 a.tmps).run Tryz.prog w = .ok v w ∧ (Sc Ha wa (Value.bool x)) (.returned v) w) e f w)) hq ⟨_, S23, (Inc.rfl _), rfl, rfl, rfl⟩ ?_ ?_) ?_
  ·
   clear hp hq
   rintro i26 y25 s26 f141 w140 ⟨H137, S138, i139, k142, k143, k144⟩ hx26 o247 hp
   refine FW.seq (FW.seq (FW.region ?_))
   refine FL.v (E.move k142) ?_
   refine FL.v (E.move k144) ?_
   refine FL.v (E.lenP te73 rfl p1) ?_
   refine FL.v (E.lssT rfl rfl (lss_len hx26)) ?_
   refine FL.nil ?_
   refine FW.condT rfl rfl ?_
   refine FW.skip (FW.seq (FW.block (FW.seq ?_)))
   refine FW.draw (fun w' => Run w140.heap.size H137 w140 H137 w') (by kernel_rfl) (by kernel_rfl) (run_drew S138.sl) ?_
   refine FD.val rfl rfl rfl (fun w' hw' => (E.move k143)) ?_
   refine FD.val rfl rfl rfl (fun w' hw' => (E.move k144)) ?_
   refine FD.val rfl rfl rfl (fun w' hw' => (E.move k142)) ?_
   obtain ⟨p146, cs147, pt148, l149, at150, rel151⟩ := p1.at (ix_nat hx26)
   obtain rfl := eI_open rel151
   refine FD.val rfl rfl rfl (fun w' hw' => (E.indexAddr te73 rfl rfl pt148)) ?_
   refine FD.val rfl rfl rfl (fun w' hw' => (E.load rfl (run_load0 Tryz.isAgg3 ((at150.mono i139).now (S138.call hw').sl) rfl))) ?_
   refine FD.call rfl rfl rfl (fun w' hw' => (E.call Tryz.call244 (A2 rfl rfl))) (fun w' hw' => Calls.cls hw' (w_spec_l2Lit (S138.call hw').sl a0 y25)) ?_
   refine FD.val rfl rfl rfl (fun w' hw' => (E.not rfl)) ?_
   refine FD.val rfl rfl rfl (fun w' hw' => (E.move (v := Value.bool (!(PF.spec_l2Lit a0 y25))) rfl)) ?_
   obtain ⟨t192, hqt192, hp⟩ := bnd hp
   refine FD.cut 17 (fun f => f 0 = Value.int .i64 a0 ∧ f 1 = v1 ∧ f 5 = Value.int .i64 ((i26 : Nat) : Int) ∧ f 39 = Value.bool t192) ?_ ?_
   ·
    clear hp; have hp := hqt192; clear hqt192
    rcases ifB hp with ⟨c198, hp⟩ | ⟨c198, hp⟩
    ·
     refine FD.skip (wF_no rfl rfl rfl c198) rfl ?_
     refine FD.skip (wF_no rfl rfl rfl c198) rfl ?_
     refine FD.skip (wF_no rfl rfl rfl c198) rfl ?_
     refine FD.skip (wF_undef rfl rfl rfl) rfl ?_
     refine FD.skip (wF_undef rfl rfl rfl) rfl ?_
     refine FD.skip (wF_undef rfl rfl rfl) rfl ?_
     refine FD.skip (wF_undef rfl rfl rfl) rfl ?_
     refine FD.skip (wF_undef rfl rfl rfl) rfl ?_
     refine FD.skip (wF_undef rfl rfl rfl) rfl ?_
     refine FD.skip (wF_undef rfl rfl rfl) rfl ?_
     refine FD.skip (wF_undef rfl rfl rfl) rfl ?_
     refine FD.skip (wF_undef rfl rfl rfl) rfl ?_
     refine FD.skip (wF_undef rfl rfl rfl) rfl ?_
     refine FD.skip (wF_undef rfl rfl rfl) rfl ?_
     refine FD.skip (wF_undef rfl rfl rfl) rfl ?_
     refine FD.skip (wF_no rfl rfl rfl c198) rfl ?_
     obtain rfl := Option.some.inj hp
     refine FD.val rfl rfl rfl (fun w' hw' => (E.pickT rfl c198 rfl)) ?_
     exact FD.nil ⟨k143, k144, k142, rfl⟩
    ·
     refine FD.val (wF_yes rfl rfl rfl c198) rfl rfl (fun w' hw' => (E.move k142)) ?_
     refine FD.val (wF_yes rfl rfl rfl c198) rfl rfl (fun w' hw' => (E.gtr rfl rfl)) ?_
     refine FD.val (wF_yes rfl rfl rfl c198) rfl rfl (fun w' hw' => (E.move (v := Value.bool (decide (0 < ((i26 : Nat) : Int)))) rfl)) ?_
     obtain ⟨t213, hqt213, hp⟩ := bnd hp
     refine FD.cut 13 (fun f => f 0 = Value.int .i64 a0 ∧ f 1 = v1 ∧ f 5 = Value.int .i64 ((i26 : Nat) : Int) ∧ f 22 = Value.bool (!(PF.spec_l2Lit a0 y25)) ∧ f 38 = Value.bool t213) ?_ ?_
     ·
      clear hp; have hp := hqt213; clear hqt213
      rcases ifB hp with ⟨c219, hp⟩ | ⟨c219, hp⟩
      ·
       refine FD.val (wF_yes rfl rfl rfl c219) rfl rfl (fun w' hw' => (E.move k144)) ?_
       refine FD.val (wF_yes rfl rfl rfl c219) rfl rfl (fun w' hw' => (E.move k142)) ?_
       refine FD.val (wF_yes rfl rfl rfl c219) rfl rfl (fun w' hw' => (E.sub rfl rfl)) ?_
       obtain ⟨x226, hx227, hp⟩ := bnd hp
       obtain ⟨p220, cs221, pt222, l223, at224, rel225⟩ := p1.at hx227
       obtain rfl := eI_open rel225
       refine FD.val (wF_yes rfl rfl rfl c219) rfl rfl (fun w' hw' => (E.indexAddr te73 rfl rfl pt222)) ?_
       refine FD.val (wF_yes rfl rfl rfl c219) rfl rfl (fun w' hw' => (E.load rfl (run_load0 Tryz.isAgg3 ((at224.mono i139).now (S138.call hw').sl) rfl))) ?_
       refine FD.call (wF_yes rfl rfl rfl c219) rfl rfl (fun w' hw' => (E.call Tryz.call116 (A1 rfl))) (fun w' hw' => Calls.cls hw' (w_spec_l2Var (S138.call hw').sl x226)) ?_
       refine FD.val (wF_yes rfl rfl rfl c219) rfl rfl (fun w' hw' => (E.move k144)) ?_
       refine FD.val (wF_yes rfl rfl rfl c219) rfl rfl (fun w' hw' => (E.move k142)) ?_
       obtain ⟨p228, cs229, pt230, l231, at232, rel233⟩ := p1.at (ix_nat hx26)
       obtain rfl := eI_open rel233
       refine FD.val (wF_yes rfl rfl rfl c219) rfl rfl (fun w' hw' => (E.indexAddr te73 rfl rfl pt230)) ?_
       refine FD.val (wF_yes rfl rfl rfl c219) rfl rfl (fun w' hw' => (E.load rfl (run_load0 Tryz.isAgg3 ((at232.mono i139).now (S138.call hw').sl) rfl))) ?_
       refine FD.call (wF_yes rfl rfl rfl c219) rfl rfl (fun w' hw' => (E.call Tryz.call116 (A1 rfl))) (fun w' hw' => Calls.cls hw' (w_spec_l2Var (S138.call hw').sl y25)) ?_
       refine FD.val (wF_yes rfl rfl rfl c219) rfl rfl (fun w' hw' => (E.geq rfl rfl)) ?_
       obtain rfl := Option.some.inj hp
       refine FD.val (wF_yes rfl rfl rfl c198) rfl rfl (fun w' hw' => (E.pickT rfl c219 rfl)) ?_
       exact FD.nil ⟨k143, k144, k142, rfl, rfl⟩
      ·
       refine FD.skip (wF_no rfl rfl rfl c219) rfl ?_
       refine FD.skip (wF_no rfl rfl rfl c219) rfl ?_
       refine FD.skip (wF_no rfl rfl rfl c219) rfl ?_
       refine FD.skip (wF_no rfl rfl rfl c219) rfl ?_
       refine FD.skip (wF_no rfl rfl rfl c219) rfl ?_
       refine FD.skip (wF_no rfl rfl rfl c219) rfl ?_
       refine FD.skip (wF_no rfl rfl rfl c219) rfl ?_
       refine FD.skip (wF_no rfl rfl rfl c219) rfl ?_
       refine FD.skip (wF_no rfl rfl rfl c219) rfl ?_
       refine FD.skip (wF_no rfl rfl rfl c219) rfl ?_
       refine FD.skip (wF_no rfl rfl rfl c219) rfl ?_
       refine FD.skip (wF_no rfl rfl rfl c219) rfl ?_
       obtain rfl := Option.some.inj hp
       refine FD.val (wF_yes rfl rfl rfl c198) rfl rfl (fun w' hw' => (E.pickF rfl c219 rfl)) ?_
       exact FD.nil ⟨k143, k144, k142, rfl, rfl⟩
     rintro f218 ⟨k234, k235, k236, k237, k238⟩
     obtain rfl := Option.some.inj hp
     refine FD.val rfl rfl rfl (fun w' hw' => (E.pickF k237 c198 k238)) ?_
     exact FD.nil ⟨k234, k235, k236, rfl⟩
   rintro f197 ⟨k239, k240, k241, k242⟩
   refine FD.nil ?_
   intro w243 r245
   have S244 := S138.call r245
   rcases ifB hp with ⟨c246, hp⟩ | ⟨c246, hp⟩
   ·
    refine FW.condT k242 c246 ?_
    refine FW.seq (FW.region ?_)
    refine FL.v (E.assign (v := Value.bool false) rfl) ?_
    refine FL.nil ?_
    refine FW.ret ?_
    obtain rfl := Option.some.inj hp
    exact ⟨nofun, rfl, ⟨.inr rfl, res1 rfl rfl ⟨rfl, S244.back⟩⟩⟩
   ·
    refine FW.condF k242 c246 ?_
    refine FW.skip (FW.region ?_)
    refine FL.v (E.move k241) ?_
    refine FL.v (E.add rfl rfl) ?_
    refine FL.v (E.assign (v := Value.int .i64 (wr (((i26 : Nat) : Int) + 1))) rfl) ?_
    refine FL.nil ?_
    obtain rfl := Option.some.inj hp
    exact ⟨rfl, ⟨_, S244, i139, (nat_succ rfl (lt_of_get hx26) (p1.mono i139).le), k239, k240⟩⟩
  ·
   clear hp hq
   rintro s26 f257 w256 ⟨H253, S254, i255, k258, k259, k260⟩
   refine FW.seq (FW.seq (FW.region ?_))
   refine FL.v (E.move k258) ?_
   refine FL.v (E.move k260) ?_
   refine FL.v (E.lenP te73 rfl p1) ?_
   refine FL.v (E.lss rfl rfl) ?_
   refine FL.nil ?_
   refine FW.condF rfl dlt_len ?_
   refine FW.exit ?_
   exact ⟨nofun, rfl, ⟨_, S254, i255⟩⟩
  ·
   clear hq
   intro e f252 w251 hD
   rcases q26 with s26 | x26
   ·
    obtain ⟨rfl, hD⟩ := hD
    obtain ⟨H248, S249, i250⟩ := hD
    replace hp := el_go hp
    refine FW.seq (FW.region ?_)
    refine FL.v (E.assign (v := Value.bool true) rfl) ?_
    refine FL.nil ?_
    refine FW.ret ?_
    obtain rfl := Option.some.inj hp
    exact ⟨.inr rfl, res1 rfl rfl ⟨rfl, S249.back⟩⟩
   ·
    obtain ⟨he, hL⟩ := hD
    replace hp := el_rt hp
    obtain rfl := Option.some.inj hp
    subst he
    exact hL

theorem w_spec_l2Good {Ha : GH} {wa : World} (hs : Sl Ha wa) (a0 : Cnf) (v0_1 : Value) (p0_1 : RSl Ha (eL eI 1) 1 v0_1 a0.clauses) {r : Bool} (hp : (PF.spec_l2Good a0) = some r) :
  Calls Tryz.prog 152 #[Value.agg #[Value.int .i64 a0.vars, v0_1]] wa (Sc Ha wa (Value.bool r)) := by
 unfold PF.spec_l2Good at hp
 have S0 := St.init hs
 refine calls_go (N := 30) (args := [Value.agg #[Value.int .i64 a0.vars, v0_1]]) Tryz.func152 rfl rfl rfl ?_
 refine FW.seq (FW.region ?_)
 obtain ⟨b21, w22, run23, S24⟩ := S0.box (P := Tryz.prog) 32 [Value.int .i64 a0.vars, v0_1] (v := Value.agg #[Value.int .i64 a0.vars, v0_1]) rfl (ones_cons rfl (ones_cons p0_1.one ones_nil))
 refine FL.v (E.box rfl run23) ?_
 obtain ⟨H25, S26, i27, at28⟩ := S24.sealBox (i := 0) (l' := []) rfl rfl
 refine FL.v (E.assign (v := Value.bool false) rfl) ?_
 refine FL.nil (FW.seq (FW.seq (FW.region ?_)))
 refine FL.v (E.fieldAddr tf32_0 rfl) ?_
 refine FL.v (E.load rfl (run_load1 Tryz.isAgg3 (at28.now S26.sl) rfl)) ?_
 refine FL.call rfl rfl rfl (E.call Tryz.call201 (A1 rfl)) (w_spec_l2Vars S26.sl a0.vars) ?_
 rintro e w29 ⟨rfl, r30⟩
 refine ⟨_, rfl, ?_⟩
 have S31 := S26.call r30
 refine FL.v (E.not rfl) ?_
 refine FL.v (E.move (v := Value.bool (!(PF.spec_l2Vars a0.vars))) rfl) ?_
 refine FL.cut 5 (fun f w => ∃ H : GH, St Ha wa H w [] ∧ Inc H25 H ∧ f 1 = Value.pointer (some ⟨b21, 0, none⟩) ∧ f 13 = Value.bool (bif (!(PF.spec_l2Vars a0.vars)) then true else (decide (60 < (len a0.clauses))))) ?_ ?_
 ·
  rcases bcase (!(PF.spec_l2Vars a0.vars)) with c38 | c38
  ·
   refine FL.skip (wF_no rfl rfl rfl c38) rfl ?_
   refine FL.skip (wF_no rfl rfl rfl c38) rfl ?_
   refine FL.skip (wF_no rfl rfl rfl c38) rfl ?_
   refine FL.skip (wF_no rfl rfl rfl c38) rfl ?_
   refine FL.v (E.pickT rfl c38 rfl) ?_
   exact FL.nil ⟨rfl, _, S31, (Inc.rfl _), rfl, (congrArg Value.bool (bifT c38).symm)⟩
  ·
   refine FL.val (wF_yes rfl rfl rfl c38) rfl rfl (E.fieldAddr tf32_1 rfl) ?_
   refine FL.val (wF_yes rfl rfl rfl c38) rfl rfl (E.load rfl (run_load1 Tryz.isAgg22 (at28.now S31.sl) rfl)) ?_
   refine FL.val (wF_yes rfl rfl rfl c38) rfl rfl (E.lenP te22 rfl p0_1) ?_
   refine FL.val (wF_yes rfl rfl rfl c38) rfl rfl (E.gtr rfl rfl) ?_
   refine FL.v (E.pickF rfl c38 rfl) ?_
   exact FL.nil ⟨rfl, _, S31, (Inc.rfl _), rfl, (congrArg Value.bool (bifF c38).symm)⟩
 rintro f37 w36 ⟨H33, S34, i35, k39, k40⟩
 refine FL.nil ?_
 rcases ifB hp with ⟨c41, hp⟩ | ⟨c41, hp⟩
 ·
  refine FW.condT k40 c41 ?_
  refine FW.seq (FW.region ?_)
  refine FL.v (E.assign (v := Value.bool false) rfl) ?_
  refine FL.nil ?_
  refine FW.ret ?_
  obtain rfl := Option.some.inj hp
  exact ⟨.inr rfl, res1 rfl rfl ⟨rfl, S34.back⟩⟩
 ·
  refine FW.condF k40 c41 ?_
  refine FW.skip (FW.seq (FW.seq (FW.region ?_)))
  refine FL.v (E.assign (v := Value.int .i64 0) rfl) ?_
  refine FL.nil ?_
  obtain ⟨q42, hq, hp⟩ := bndR hp
  refine FW.block ?_
  refine FW.mono (FW.iter (S := Int) (X := Bool) (fun (s42 : Int) f w => ∃ H : GH, St Ha wa H w [] ∧ Inc H33 H ∧ f 1 = Value.pointer (some ⟨b21, 0, none⟩) ∧ f 3 = Value.int .i64 s42) (fun q e f w => match q with | .go s42 => e = Exit.exit 0 ∧ (∃ H : GH, St Ha wa H w [] ∧ Inc H33 H) | .rt x => ((e = Exit.ret) ∧ (fun e f w => (e = Exit.normal ∨ e = Exit.ret) ∧ ∀ a, Fr (δ := []) 30 a f → ∃ v, (results Tryz.f152 a.tmps).run Tryz.prog w = .ok v w ∧ (Sc Ha wa (Value.bool x)) (.returned v) w) e f w)) hq ⟨_, S34, (Inc.rfl _), k39, rfl⟩ ?_) ?_
  ·
   clear hp hq
   rintro s42 f72 w71 ⟨H68, S69, i70, k73, k74⟩ o93 hp
   refine FW.seq (FW.seq (FW.region ?_))
   refine FL.v (E.move k74) ?_
   refine FL.v (E.fieldAddr tf32_1 k73) ?_
   refine FL.v (E.load rfl (run_load1 Tryz.isAgg22 ((at28.mono (i35.tr i70)).now S69.sl) rfl)) ?_
   refine FL.v (E.lenP te22 rfl p0_1) ?_
   refine FL.v (E.lss rfl rfl) ?_
   refine FL.nil ?_
   rcases ifB hp with ⟨c75, hp⟩ | ⟨c75, hp⟩
   ·
    refine FW.condT rfl c75 ?_
    refine FW.skip (FW.seq (FW.block (FW.seq ?_)))
    refine FW.draw (fun w' => Run w71.heap.size H68 w71 H68 w') (by kernel_rfl) (by kernel_rfl) (run_drew S69.sl) ?_
    refine FD.val rfl rfl rfl (fun w' hw' => (E.fieldAddr tf32_0 k73)) ?_
    refine FD.val rfl rfl rfl (fun w' hw' => (E.load rfl (run_load1 Tryz.isAgg3 ((at28.mono (i35.tr i70)).now (S69.call hw').sl) rfl))) ?_
    refine FD.val rfl rfl rfl (fun w' hw' => (E.fieldAddr tf32_1 k73)) ?_
    refine FD.val rfl rfl rfl (fun w' hw' => (E.load rfl (run_load1 Tryz.isAgg22 ((at28.mono (i35.tr i70)).now (S69.call hw').sl) rfl))) ?_
    refine FD.val rfl rfl rfl (fun w' hw' => (E.move k74)) ?_
    obtain ⟨x83, hx84, hp⟩ := bnd hp
    obtain ⟨p77, cs78, pt79, l80, at81, rel82⟩ := p0_1.at hx84
    obtain ⟨v85, rfl, h86⟩ := eL_open rel82
    refine FD.val rfl rfl rfl (fun w' hw' => (E.indexAddr te22 rfl rfl pt79)) ?_
    refine FD.val rfl rfl rfl (fun w' hw' => (E.load rfl (run_load0 Tryz.isAgg73 ((at81.mono ((i27.tr i35).tr i70)).now (S69.call hw').sl) rfl))) ?_
    obtain ⟨r87, hr88, hp⟩ := bnd hp
    refine FD.call rfl rfl rfl (fun w' hw' => (E.call Tryz.call202 (A2 rfl rfl))) (fun w' hw' => Calls.cls hw' (w_spec_l2Clause (S69.call hw').sl a0.vars v85 x83 (h86.mono ((i27.tr i35).tr i70)) hr88)) ?_
    refine FD.val rfl rfl rfl (fun w' hw' => (E.not rfl)) ?_
    refine FD.nil ?_
    intro w89 r91
    have S90 := S69.call r91
    rcases ifB hp with ⟨c92, hp⟩ | ⟨c92, hp⟩
    ·
     refine FW.condT rfl c92 ?_
     refine FW.seq (FW.region ?_)
     refine FL.v (E.assign (v := Value.bool false) rfl) ?_
     refine FL.nil ?_
     refine FW.ret ?_
     obtain rfl := Option.some.inj hp
     exact ⟨nofun, rfl, ⟨.inr rfl, res1 rfl rfl ⟨rfl, S90.back⟩⟩⟩
    ·
     refine FW.condF rfl c92 ?_
     refine FW.skip (FW.region ?_)
     refine FL.v (E.move k74) ?_
     refine FL.v (E.add rfl rfl) ?_
     refine FL.v (E.assign (v := Value.int .i64 (wr (s42 + 1))) rfl) ?_
     refine FL.nil ?_
     obtain rfl := Option.some.inj hp
     exact ⟨rfl, ⟨_, S90, i70, k73, rfl⟩⟩
   ·
    refine FW.condF rfl c75 ?_
    refine FW.exit ?_
    obtain rfl := Option.some.inj hp
    exact ⟨nofun, rfl, ⟨_, S69, i70⟩⟩
  ·
   clear hq
   intro e f98 w97 hD
   rcases q42 with s42 | x42
   ·
    obtain ⟨rfl, hD⟩ := hD
    obtain ⟨H94, S95, i96⟩ := hD
    replace hp := el_go hp
    refine FW.seq (FW.region ?_)
    refine FL.v (E.assign (v := Value.bool true) rfl) ?_
    refine FL.nil ?_
    refine FW.ret ?_
    obtain rfl := Option.some.inj hp
    exact ⟨.inr rfl, res1 rfl rfl ⟨rfl, S95.back⟩⟩
   ·
    obtain ⟨he, hL⟩ := hD
    replace hp := el_rt hp
    obtain rfl := Option.some.inj hp
    subst he
    exact hL

theorem w_spec_l20Asked {Ha : GH} {wa : World} (hs : Sl Ha wa) (a0 : Int) (a1 : Cnf) (v1_1 : Value) (p1_1 : RSl Ha (eL eI 1) 1 v1_1 a1.clauses) {r : Bool} (hp : (PF.spec_l20Asked a0 a1) = some r) :
  Calls Tryz.prog 90 #[Value.int .i64 a0, Value.agg #[Value.int .i64 a1.vars, v1_1]] wa (Sc Ha wa (Value.bool r)) := by
 unfold PF.spec_l20Asked at hp
 have S0 := St.init hs
 refine calls_go (N := 13) (args := [Value.int .i64 a0, Value.agg #[Value.int .i64 a1.vars, v1_1]]) Tryz.func90 rfl rfl rfl ?_
 refine FW.seq (FW.region ?_)
 obtain ⟨b21, w22, run23, S24⟩ := S0.box (P := Tryz.prog) 32 [Value.int .i64 a1.vars, v1_1] (v := Value.agg #[Value.int .i64 a1.vars, v1_1]) rfl (ones_cons rfl (ones_cons p1_1.one ones_nil))
 refine FL.v (E.box rfl run23) ?_
 obtain ⟨H25, S26, i27, at28⟩ := S24.sealBox (i := 0) (l' := []) rfl rfl
 refine FL.v (E.assign (v := Value.bool false) rfl) ?_
 refine FL.nil (FW.seq (FW.region ?_))
 refine FL.v (E.move (v := Value.int .i64 a0) rfl) ?_
 refine FL.v (E.fieldAddr tf32_0 rfl) ?_
 refine FL.v (E.load rfl (run_load1 Tryz.isAgg3 (at28.now S26.sl) rfl)) ?_
 refine FL.call rfl rfl rfl (E.call Tryz.call151 (A2 rfl rfl)) (w_spec_l18Prime S26.sl a0 a1.vars) ?_
 rintro e w29 ⟨rfl, r30⟩
 refine ⟨_, rfl, ?_⟩
 have S31 := S26.call r30
 refine FL.v (E.move (v := Value.bool (PF.spec_l18Prime a0 a1.vars)) rfl) ?_
 obtain ⟨t37, hqt37, hp⟩ := bnd hp
 refine FL.cut 3 (fun f w => ∃ H : GH, St Ha wa H w [] ∧ Inc H25 H ∧ f 12 = Value.bool t37) ?_ ?_
 ·
  clear hp; have hp := hqt37; clear hqt37
  rcases ifB hp with ⟨c43, hp⟩ | ⟨c43, hp⟩
  ·
   refine FL.val (wF_yes rfl rfl rfl c43) rfl rfl (E.load rfl (run_loadA Tryz.isAgg32 Tryz.sizeOf32 (at28.now S31.sl) rfl)) ?_
   obtain ⟨r44, hr45, hp⟩ := bnd hp
   refine FL.call (wF_yes rfl rfl rfl c43) rfl rfl (E.call Tryz.call152 (A1 rfl)) (w_spec_l2Good S31.sl a1 v1_1 (p1_1.mono i27) hr45) ?_
   rintro e w46 ⟨rfl, r47⟩
   refine ⟨_, rfl, ?_⟩
   have S48 := S31.call r47
   obtain rfl := Option.some.inj hp
   refine FL.v (E.pickT rfl c43 rfl) ?_
   exact FL.nil ⟨rfl, _, S48, (Inc.rfl _), rfl⟩
  ·
   refine FL.skip (wF_no rfl rfl rfl c43) rfl ?_
   refine FL.skip (wF_no rfl rfl rfl c43) rfl ?_
   obtain rfl := Option.some.inj hp
   refine FL.v (E.pickF rfl c43 rfl) ?_
   exact FL.nil ⟨rfl, _, S31, (Inc.rfl _), rfl⟩
 rintro f42 w41 ⟨H38, S39, i40, k49⟩
 refine FL.v (E.assign k49) ?_
 refine FL.nil ?_
 refine FW.ret ?_
 obtain rfl := Option.some.inj hp
 exact ⟨.inr rfl, res1 rfl rfl ⟨rfl, S39.back⟩⟩

theorem w_spec_l20Degree {Ha : GH} {wa : World} (hs : Sl Ha wa) (a0 : Int) :
  Calls Tryz.prog 91 #[Value.int .i64 a0] wa (Sc Ha wa (Value.bool (PF.spec_l20Degree a0))) := by
 obtain ⟨r, hp⟩ : ∃ r, (PF.spec_l20Degree a0) = r := ⟨_, rfl⟩
 rw [hp]
 unfold PF.spec_l20Degree at hp
 have S0 := St.init hs
 refine calls_go (N := 5) (args := [Value.int .i64 a0]) Tryz.func91 rfl rfl rfl ?_
 refine FW.seq (FW.region ?_)
 refine FL.v (E.assign (v := Value.bool false) rfl) ?_
 refine FL.nil (FW.seq (FW.region ?_))
 refine FL.v (E.move (v := Value.int .i64 a0) rfl) ?_
 refine FL.call rfl rfl rfl (E.call Tryz.call153 (A3 rfl rfl rfl)) (w_spec_l1In S0.sl a0 0 6) ?_
 rintro e w21 ⟨rfl, r22⟩
 refine ⟨_, rfl, ?_⟩
 have S23 := S0.call r22
 refine FL.v (E.assign (v := Value.bool (PF.spec_l1In a0 0 6)) rfl) ?_
 refine FL.nil ?_
 refine FW.ret ?_
 obtain rfl := hp
 exact ⟨.inr rfl, res1 rfl rfl ⟨rfl, S23.back⟩⟩

theorem w_spec_l18Good {Ha : GH} {wa : World} (hs : Sl Ha wa) (a0 : Int) (a1 : Int) (v2 : Value) (a2 : List Term) (p2 : RSl Ha eTerm 2 v2 a2) {r : Bool} (hp : (PF.spec_l18Good a0 a1 a2) = some r) :
  Calls Tryz.prog 92 #[Value.int .i64 a0, Value.int .i64 a1, v2] wa (Sc Ha wa (Value.bool r)) := by
 unfold PF.spec_l18Good at hp
 have S0 := St.init hs
 refine calls_go (N := 57) (args := [Value.int .i64 a0, Value.int .i64 a1, v2]) Tryz.func92 rfl rfl rfl ?_
 refine FW.seq (FW.region ?_)
 refine FL.v (E.assign (v := Value.bool false) rfl) ?_
 refine FL.nil (FW.seq (FW.seq (FW.region ?_)))
 refine FL.v (E.move (v := Value.int .i64 a0) rfl) ?_
 refine FL.v (E.move (v := Value.int .i64 a1) rfl) ?_
 refine FL.call rfl rfl rfl (E.call Tryz.call151 (A2 rfl rfl)) (w_spec_l18Prime S0.sl a0 a1) ?_
 rintro e w21 ⟨rfl, r22⟩
 refine ⟨_, rfl, ?_⟩
 have S23 := S0.call r22
 refine FL.v (E.not rfl) ?_
 refine FL.nil ?_
 rcases ifB hp with ⟨c24, hp⟩ | ⟨c24, hp⟩
 ·
  refine FW.condT rfl c24 ?_
  refine FW.seq (FW.region ?_)
  refine FL.v (E.assign (v := Value.bool false) rfl) ?_
  refine FL.nil ?_
  refine FW.ret ?_
  obtain rfl := Option.some.inj hp
  exact ⟨.inr rfl, res1 rfl rfl ⟨rfl, S23.back⟩⟩
 ·
  refine FW.condF rfl c24 ?_
  refine FW.skip (FW.seq (FW.seq (FW.region ?_)))
  refine FL.v (E.assign (v := Value.int .i64 0) rfl) ?_
  refine FL.nil ?_
  obtain ⟨q26, hq, hp⟩ := bndR hp
  refine FW.block ?_
  refine FW.mono (FW.forL (S := Unit) (X := Bool) (fun (i26 : Nat) (s26 : Unit) f w => ∃ H : GH, St Ha wa H w [] ∧ Inc Ha H ∧ f 7 = Value.int .i64 ((i26 : Nat) : Int) ∧ f 0 = Value.int .i64 a0 ∧ f 1 = Value.int .i64 a1 ∧ f 2 = v2) (fun q e f w => match q with | .go s26 => e = Exit.exit 0 ∧ (∃ H : GH, St Ha wa H w [] ∧ Inc Ha H) | .rt x => ((e = Exit.ret) ∧ (fun e f w => (e = Exit.normal ∨ e = Exit.ret) ∧ ∀ a, Fr (δ := []) 57 a f → ∃ v, (results Tryz.f92 a.tmps).run Tryz.prog w = .ok v w ∧ (Sc Ha wa (Value.bool x)) (.returned v) w) e f w)) hq ⟨_, S23, (Inc.rfl _), rfl, rfl, rfl, rfl⟩ ?_ ?_) ?_
  ·
   clear hp hq
   rintro i26 y25 s26 f171 w170 ⟨H167, S168, i169, k172, k173, k174, k175⟩ hx26 o307 hp
   refine FW.seq (FW.seq (FW.region ?_))
   refine FL.v (E.move k172) ?_
   refine FL.v (E.move k175) ?_
   refine FL.v (E.lenP te55 rfl p2) ?_
   refine FL.v (E.lssT rfl rfl (lss_len hx26)) ?_
   refine FL.nil ?_
   refine FW.condT rfl rfl ?_
   refine FW.skip (FW.seq (FW.block (FW.seq ?_)))
   refine FW.draw (fun w' => Run w170.heap.size H167 w170 H167 w') (by kernel_rfl) (by kernel_rfl) (run_drew S168.sl) ?_
   refine FD.val rfl rfl rfl (fun w' hw' => (E.move k175)) ?_
   refine FD.val rfl rfl rfl (fun w' hw' => (E.move k172)) ?_
   obtain ⟨p177, cs178, pt179, l180, at181, rel182⟩ := p2.at (ix_nat hx26)
   obtain rfl := eTerm_open rel182
   refine FD.val rfl rfl rfl (fun w' hw' => (E.indexAddr te55 rfl rfl pt179)) ?_
   refine FD.val rfl rfl rfl (fun w' hw' => (E.fieldAddr tf108_0 rfl)) ?_
   refine FD.val rfl rfl rfl (fun w' hw' => (E.load rfl (run_load1 Tryz.isAgg3 ((at181.mono i169).now (S168.call hw').sl) rfl))) ?_
   refine FD.val rfl rfl rfl (fun w' hw' => (E.move k174)) ?_
   obtain ⟨u184, z183, hp⟩ := bnd hp
   refine FD.val rfl rfl rfl (fun w' hw' => (E.shl rfl rfl (nn_ge z183))) ?_
   refine FD.val rfl rfl rfl (fun w' hw' => (E.sub rfl rfl)) ?_
   refine FD.call rfl rfl rfl (fun w' hw' => (E.call Tryz.call153 (A3 rfl rfl rfl))) (fun w' hw' => Calls.cls hw' (w_spec_l1In (S168.call hw').sl y25.mono 0 (wr ((shlK true 64 1 a1) - 1)))) ?_
   refine FD.val rfl rfl rfl (fun w' hw' => (E.not rfl)) ?_
   refine FD.val rfl rfl rfl (fun w' hw' => (E.move (v := Value.bool (!(PF.spec_l1In y25.mono 0 (wr ((shlK true 64 1 a1) - 1))))) rfl)) ?_
   refine FD.cut 10 (fun f => f 0 = Value.int .i64 a0 ∧ f 1 = Value.int .i64 a1 ∧ f 2 = v2 ∧ f 7 = Value.int .i64 ((i26 : Nat) : Int) ∧ f 38 = Value.bool (bif (!(PF.spec_l1In y25.mono 0 (wr ((shlK true 64 1 a1) - 1)))) then true else (!(PF.spec_l1In y25.coeff 1 (wr (a0 - 1)))))) ?_ ?_
   ·
    rcases bcase (!(PF.spec_l1In y25.mono 0 (wr ((shlK true 64 1 a1) - 1)))) with c197 | c197
    ·
     refine FD.skip (wF_no rfl rfl rfl c197) rfl ?_
     refine FD.skip (wF_no rfl rfl rfl c197) rfl ?_
     refine FD.skip (wF_no rfl rfl rfl c197) rfl ?_
     refine FD.skip (wF_no rfl rfl rfl c197) rfl ?_
     refine FD.skip (wF_no rfl rfl rfl c197) rfl ?_
     refine FD.skip (wF_no rfl rfl rfl c197) rfl ?_
     refine FD.skip (wF_no rfl rfl rfl c197) rfl ?_
     refine FD.skip (wF_no rfl rfl rfl c197) rfl ?_
     refine FD.skip (wF_no rfl rfl rfl c197) rfl ?_
     refine FD.val rfl rfl rfl (fun w' hw' => (E.pickT rfl c197 rfl)) ?_
     exact FD.nil ⟨k173, k174, k175, k172, (congrArg Value.bool (bifT c197).symm)⟩
    ·
     refine FD.val (wF_yes rfl rfl rfl c197) rfl rfl (fun w' hw' => (E.move k175)) ?_
     refine FD.val (wF_yes rfl rfl rfl c197) rfl rfl (fun w' hw' => (E.move k172)) ?_
     obtain ⟨p198, cs199, pt200, l201, at202, rel203⟩ := p2.at (ix_nat hx26)
     obtain rfl := eTerm_open rel203
     refine FD.val (wF_yes rfl rfl rfl c197) rfl rfl (fun w' hw' => (E.indexAddr te55 rfl rfl pt200)) ?_
     refine FD.val (wF_yes rfl rfl rfl c197) rfl rfl (fun w' hw' => (E.fieldAddr tf108_1 rfl)) ?_
     refine FD.val (wF_yes rfl rfl rfl c197) rfl rfl (fun w' hw' => (E.load rfl (run_load1 Tryz.isAgg3 ((at202.mono i169).now (S168.call hw').sl) rfl))) ?_
     refine FD.val (wF_yes rfl rfl rfl c197) rfl rfl (fun w' hw' => (E.move k173)) ?_
     refine FD.val (wF_yes rfl rfl rfl c197) rfl rfl (fun w' hw' => (E.sub rfl rfl)) ?_
     refine FD.call (wF_yes rfl rfl rfl c197) rfl rfl (fun w' hw' => (E.call Tryz.call153 (A3 rfl rfl rfl))) (fun w' hw' => Calls.cls hw' (w_spec_l1In (S168.call hw').sl y25.coeff 1 (wr (a0 - 1)))) ?_
     refine FD.val (wF_yes rfl rfl rfl c197) rfl rfl (fun w' hw' => (E.not rfl)) ?_
     refine FD.val rfl rfl rfl (fun w' hw' => (E.pickF rfl c197 rfl)) ?_
     exact FD.nil ⟨k173, k174, k175, k172, (congrArg Value.bool (bifF c197).symm)⟩
   rintro f196 ⟨k204, k205, k206, k207, k208⟩
   refine FD.val rfl rfl rfl (fun w' hw' => (E.move k208)) ?_
   obtain ⟨t250, hqt250, hp⟩ := bnd hp
   refine FD.cut 17 (fun f => f 0 = Value.int .i64 a0 ∧ f 1 = Value.int .i64 a1 ∧ f 2 = v2 ∧ f 7 = Value.int .i64 ((i26 : Nat) : Int) ∧ f 56 = Value.bool t250) ?_ ?_
   ·
    clear hp; have hp := hqt250; clear hqt250
    rcases ifB hp with ⟨c256, hp⟩ | ⟨c256, hp⟩
    ·
     refine FD.skip (wF_no rfl rfl rfl c256) rfl ?_
     refine FD.skip (wF_no rfl rfl rfl c256) rfl ?_
     refine FD.skip (wF_no rfl rfl rfl c256) rfl ?_
     refine FD.skip (wF_undef rfl rfl rfl) rfl ?_
     refine FD.skip (wF_undef rfl rfl rfl) rfl ?_
     refine FD.skip (wF_undef rfl rfl rfl) rfl ?_
     refine FD.skip (wF_undef rfl rfl rfl) rfl ?_
     refine FD.skip (wF_undef rfl rfl rfl) rfl ?_
     refine FD.skip (wF_undef rfl rfl rfl) rfl ?_
     refine FD.skip (wF_undef rfl rfl rfl) rfl ?_
     refine FD.skip (wF_undef rfl rfl rfl) rfl ?_
     refine FD.skip (wF_undef rfl rfl rfl) rfl ?_
     refine FD.skip (wF_undef rfl rfl rfl) rfl ?_
     refine FD.skip (wF_undef rfl rfl rfl) rfl ?_
     refine FD.skip (wF_undef rfl rfl rfl) rfl ?_
     refine FD.skip (wF_no rfl rfl rfl c256) rfl ?_
     obtain rfl := Option.some.inj hp
     refine FD.val rfl rfl rfl (fun w' hw' => (E.pickT rfl c256 rfl)) ?_
     exact FD.nil ⟨k204, k205, k206, k207, rfl⟩
    ·
     refine FD.val (wF_yes rfl rfl rfl c256) rfl rfl (fun w' hw' => (E.move k207)) ?_
     refine FD.val (wF_yes rfl rfl rfl c256) rfl rfl (fun w' hw' => (E.gtr rfl rfl)) ?_
     refine FD.val (wF_yes rfl rfl rfl c256) rfl rfl (fun w' hw' => (E.move (v := Value.bool (decide (0 < ((i26 : Nat) : Int)))) rfl)) ?_
     obtain ⟨t271, hqt271, hp⟩ := bnd hp
     refine FD.cut 13 (fun f => f 0 = Value.int .i64 a0 ∧ f 1 = Value.int .i64 a1 ∧ f 2 = v2 ∧ f 7 = Value.int .i64 ((i26 : Nat) : Int) ∧ f 39 = Value.bool (bif (!(PF.spec_l1In y25.mono 0 (wr ((shlK true 64 1 a1) - 1)))) then true else (!(PF.spec_l1In y25.coeff 1 (wr (a0 - 1))))) ∧ f 55 = Value.bool t271) ?_ ?_
     ·
      clear hp; have hp := hqt271; clear hqt271
      rcases ifB hp with ⟨c277, hp⟩ | ⟨c277, hp⟩
      ·
       refine FD.val (wF_yes rfl rfl rfl c277) rfl rfl (fun w' hw' => (E.move k206)) ?_
       refine FD.val (wF_yes rfl rfl rfl c277) rfl rfl (fun w' hw' => (E.move k207)) ?_
       refine FD.val (wF_yes rfl rfl rfl c277) rfl rfl (fun w' hw' => (E.sub rfl rfl)) ?_
       obtain ⟨x284, hx285, hp⟩ := bnd hp
       obtain ⟨p278, cs279, pt280, l281, at282, rel283⟩ := p2.at hx285
       obtain rfl := eTerm_open rel283
       refine FD.val (wF_yes rfl rfl rfl c277) rfl rfl (fun w' hw' => (E.indexAddr te55 rfl rfl pt280)) ?_
       refine FD.val (wF_yes rfl rfl rfl c277) rfl rfl (fun w' hw' => (E.fieldAddr tf108_0 rfl)) ?_
       refine FD.val (wF_yes rfl rfl rfl c277) rfl rfl (fun w' hw' => (E.load rfl (run_load1 Tryz.isAgg3 ((at282.mono i169).now (S168.call hw').sl) rfl))) ?_
       refine FD.val (wF_yes rfl rfl rfl c277) rfl rfl (fun w' hw' => (E.move k206)) ?_
       refine FD.val (wF_yes rfl rfl rfl c277) rfl rfl (fun w' hw' => (E.move k207)) ?_
       obtain ⟨p286, cs287, pt288, l289, at290, rel291⟩ := p2.at (ix_nat hx26)
       obtain rfl := eTerm_open rel291
       refine FD.val (wF_yes rfl rfl rfl c277) rfl rfl (fun w' hw' => (E.indexAddr te55 rfl rfl pt288)) ?_
       refine FD.val (wF_yes rfl rfl rfl c277) rfl rfl (fun w' hw' => (E.fieldAddr tf108_0 rfl)) ?_
       refine FD.val (wF_yes rfl rfl rfl c277) rfl rfl (fun w' hw' => (E.load rfl (run_load1 Tryz.isAgg3 ((at290.mono i169).now (S168.call hw').sl) rfl))) ?_
       refine FD.val (wF_yes rfl rfl rfl c277) rfl rfl (fun w' hw' => (E.geq rfl rfl)) ?_
       obtain rfl := Option.some.inj hp
       refine FD.val (wF_yes rfl rfl rfl c256) rfl rfl (fun w' hw' => (E.pickT rfl c277 rfl)) ?_
       exact FD.nil ⟨k204, k205, k206, k207, rfl, rfl⟩
      ·
       refine FD.skip (wF_no rfl rfl rfl c277) rfl ?_
       refine FD.skip (wF_no rfl rfl rfl c277) rfl ?_
       refine FD.skip (wF_no rfl rfl rfl c277) rfl ?_
       refine FD.skip (wF_no rfl rfl rfl c277) rfl ?_
       refine FD.skip (wF_no rfl rfl rfl c277) rfl ?_
       refine FD.skip (wF_no rfl rfl rfl c277) rfl ?_
       refine FD.skip (wF_no rfl rfl rfl c277) rfl ?_
       refine FD.skip (wF_no rfl rfl rfl c277) rfl ?_
       refine FD.skip (wF_no rfl rfl rfl c277) rfl ?_
       refine FD.skip (wF_no rfl rfl rfl c277) rfl ?_
       refine FD.skip (wF_no rfl rfl rfl c277) rfl ?_
       refine FD.skip (wF_no rfl rfl rfl c277) rfl ?_
       obtain rfl := Option.some.inj hp
       refine FD.val (wF_yes rfl rfl rfl c256) rfl rfl (fun w' hw' => (E.pickF rfl c277 rfl)) ?_
       exact FD.nil ⟨k204, k205, k206, k207, rfl, rfl⟩
     rintro f276 ⟨k292, k293, k294, k295, k296, k297⟩
     obtain rfl := Option.some.inj hp
     refine FD.val rfl rfl rfl (fun w' hw' => (E.pickF k296 c256 k297)) ?_
     exact FD.nil ⟨k292, k293, k294, k295, rfl⟩
   rintro f255 ⟨k298, k299, k300, k301, k302⟩
   refine FD.nil ?_
   intro w303 r305
   have S304 := S168.call r305
   rcases ifB hp with ⟨c306, hp⟩ | ⟨c306, hp⟩
   ·
    refine FW.condT k302 c306 ?_
    refine FW.seq (FW.region ?_)
    refine FL.v (E.assign (v := Value.bool false) rfl) ?_
    refine FL.nil ?_
    refine FW.ret ?_
    obtain rfl := Option.some.inj hp
    exact ⟨nofun, rfl, ⟨.inr rfl, res1 rfl rfl ⟨rfl, S304.back⟩⟩⟩
   ·
    refine FW.condF k302 c306 ?_
    refine FW.skip (FW.region ?_)
    refine FL.v (E.move k301) ?_
    refine FL.v (E.add rfl rfl) ?_
    refine FL.v (E.assign (v := Value.int .i64 (wr (((i26 : Nat) : Int) + 1))) rfl) ?_
    refine FL.nil ?_
    obtain rfl := Option.some.inj hp
    exact ⟨rfl, ⟨_, S304, i169, (nat_succ rfl (lt_of_get hx26) (p2.mono i169).le), k298, k299, k300⟩⟩
  ·
   clear hp hq
   rintro s26 f317 w316 ⟨H313, S314, i315, k318, k319, k320, k321⟩
   refine FW.seq (FW.seq (FW.region ?_))
   refine FL.v (E.move k318) ?_
   refine FL.v (E.move k321) ?_
   refine FL.v (E.lenP te55 rfl p2) ?_
   refine FL.v (E.lss rfl rfl) ?_
   refine FL.nil ?_
   refine FW.condF rfl dlt_len ?_
   refine FW.exit ?_
   exact ⟨nofun, rfl, ⟨_, S314, i315⟩⟩
  ·
   clear hq
   intro e f312 w311 hD
   rcases q26 with s26 | x26
   ·
    obtain ⟨rfl, hD⟩ := hD
    obtain ⟨H308, S309, i310⟩ := hD
    replace hp := el_go hp
    refine FW.seq (FW.region ?_)
    refine FL.v (E.assign (v := Value.bool true) rfl) ?_
    refine FL.nil ?_
    refine FW.ret ?_
    obtain rfl := Option.some.inj hp
    exact ⟨.inr rfl, res1 rfl rfl ⟨rfl, S309.back⟩⟩
   ·
    obtain ⟨he, hL⟩ := hD
    replace hp := el_rt hp
    obtain rfl := Option.some.inj hp
    subst he
    exact hL

@[reducible] def p_spec_l18Sparse (Ha : GH) (wa : World) (r : (List Term)) : Ending → World → Prop :=
  fun e w' => ∃ H' : GH, ∃ v0 : Value, ∃ n0 : Nat, ∃ c0 : List Value, e = .returned (v0) ∧ St Ha wa H' w' [.row 108 2 v0 n0 c0] ∧ Els (up wa.heap.size H') eTerm 2 c0 r
theorem w_spec_l18Sparse {Ha : GH} {wa : World} (hs : Sl Ha wa) (a0 : Int) (v1 : Value) (a1 : List Int) (p1 : RSl Ha eI 1 v1 a1) {r : (List Term)} (hp : (PF.spec_l18Sparse a0 a1) = some r) :
    Calls Tryz.prog 179 #[Value.int .i64 a0, v1] wa (p_spec_l18Sparse Ha wa r) := by
  unfold PF.spec_l18Sparse at hp
  have S0 := St.init hs
  refine calls_go (N := 30) (args := [Value.int .i64 a0, v1]) Tryz.func179 rfl rfl rfl ?_
  refine FW.seq (FW.region ?_)
  refine FL.v (E.assign (v := Value.slice none 0 0) rfl) ?_
  refine FL.nil (FW.seq (FW.region ?_))
  obtain ⟨v21, w22, run23, S24⟩ := S0.buildSlice (P := Tryz.prog) te55 [] (parts := #[]) (cells := []) rfl szs_nil fc_nil ones_nil (Nat.le_of_ble_eq_true rfl)
  have els25 : Els (up wa.heap.size Ha) eTerm 2 [] [] := Els.nil
  refine FL.v (E.buildSlice (B0) run23) ?_
  refine FL.v (E.assign (v := v21) rfl) ?_
  refine FL.nil (FW.seq (FW.seq (FW.region ?_)))
  refine FL.v (E.assign (v := Value.int .i64 0) rfl) ?_
  refine FL.nil ?_
  obtain ⟨q27, hq, hp⟩ := bndR hp
  refine FW.block ?_
  refine FW.mono (FW.forL (S := (List Term)) (X := Empty) (fun (i27 : Nat) (s27 : (List Term)) f w => ∃ H : GH, ∃ v28 : Value, ∃ n29 : Nat, ∃ cs30 : List Value, St Ha wa H w [.row 108 2 v28 n29 cs30] ∧ Inc Ha H ∧ Els (up wa.heap.size H) eTerm 2 cs30 s27 ∧ f 6 = Value.int .i64 ((i27 : Nat) : Int) ∧ f 0 = Value.int .i64 a0 ∧ f 1 = v1 ∧ f 5 = v28) (fun (q : Rs (List Term) Empty) e f w => match q with | .go s27 => e = Exit.exit 0 ∧ (∃ H : GH, ∃ v28 : Value, ∃ n29 : Nat, ∃ cs30 : List Value, St Ha wa H w [.row 108 2 v28 n29 cs30] ∧ Inc Ha H ∧ Els (up wa.heap.size H) eTerm 2 cs30 s27 ∧ f 5 = v28) | .rt x => x.elim) hq ⟨_, _, _, _, S24, (Inc.rfl _), els25, rfl, rfl, rfl, rfl⟩ ?_ ?_) ?_
  ·
    clear hp hq
    rintro i27 y26 s27 f70 w69 ⟨H66, v28, n29, cs30, S67, i68, els31, k71, k72, k73, k74⟩ hx27 o100 hp
    refine FW.seq (FW.seq (FW.region ?_))
    refine FL.v (E.move k71) ?_
    refine FL.v (E.move k73) ?_
    refine FL.v (E.lenP te73 rfl p1) ?_
    refine FL.v (E.lssT rfl rfl (lss_len hx27)) ?_
    refine FL.nil ?_
    refine FW.condT rfl rfl ?_
    refine FW.skip (FW.seq (FW.block (FW.seq (FW.region ?_))))
    refine FL.v (E.move k73) ?_
    refine FL.v (E.move k71) ?_
    obtain ⟨p75, cs76, pt77, l78, at79, rel80⟩ := p1.at (ix_nat hx27)
    obtain rfl := eI_open rel80
    refine FL.v (E.indexAddr te73 rfl rfl pt77) ?_
    refine FL.v (E.load rfl (run_load0 Tryz.isAgg3 ((at79.mono i68).now S67.sl) rfl)) ?_
    refine FL.v (E.move k72) ?_
    obtain ⟨u82, z81, hp⟩ := bnd hp
    refine FL.v (E.rem rfl rfl (nz_ne z81)) ?_
    refine FL.v (E.assign (v := Value.int .i64 (y26.tmod a0)) rfl) ?_
    refine FL.nil (FW.seq (FW.region ?_))
    refine FL.v (E.move (v := Value.int .i64 (y26.tmod a0)) rfl) ?_
    refine FL.v (E.neq rfl rfl) ?_
    refine FL.nil ?_
    rcases ifB hp with ⟨c83, hp⟩ | ⟨c83, hp⟩
    ·
      refine FW.condT rfl c83 ?_
      refine FW.region ?_
      refine FL.v (E.move k74) ?_
      refine FL.v (E.move k71) ?_
      refine FL.v (E.move (v := Value.int .i64 (y26.tmod a0)) rfl) ?_
      refine FL.v (E.build (B2 rfl rfl) (run_build _ 108 #[(0, Value.int .i64 ((i27 : Nat) : Int)), (1, Value.int .i64 (y26.tmod a0))] #[Value.int .i64 ((i27 : Nat) : Int), Value.int .i64 (y26.tmod a0)] (by rfl))) ?_
      obtain ⟨v84, w85, run86, S87⟩ := S67.buildSlice (P := Tryz.prog) te55 [Value.agg #[Value.int .i64 ((i27 : Nat) : Int), Value.int .i64 (y26.tmod a0)]] (parts := #[(0, Value.agg #[Value.int .i64 ((i27 : Nat) : Int), Value.int .i64 (y26.tmod a0)])]) (cells := [Value.int .i64 ((i27 : Nat) : Int), Value.int .i64 (y26.tmod a0)]) rfl (szs_cons rfl szs_nil) (fc_cons rfl fc_nil) (ones_cons rfl (ones_cons rfl ones_nil)) (Nat.le_of_ble_eq_true rfl)
      have els88 : Els (up wa.heap.size H66) eTerm 2 [Value.int .i64 ((i27 : Nat) : Int), Value.int .i64 (y26.tmod a0)] [(Term.mk ((i27 : Nat) : Int) (y26.tmod a0))] := (Els.snoc (H := (up wa.heap.size H66)) (E := eTerm) (k := 2) (c := [Value.int .i64 ((i27 : Nat) : Int), Value.int .i64 (y26.tmod a0)]) (x := (Term.mk ((i27 : Nat) : Int) (y26.tmod a0))) Els.nil rfl rfl)
      refine FL.v (E.buildSlice (B1 rfl) run86) ?_
      obtain ⟨xs89, hz90, hp⟩ := bnd hp
      obtain ⟨v91, w94, n92, cs93, run95, S96, els97, ce98⟩ := S87.appendO (P := Tryz.prog) te55 (i := 1) (j := 0) rfl els31 rfl els88 hz90
      have S96 : St Ha wa H66 w94 [.row 108 2 v84 1 [Value.int .i64 ((i27 : Nat) : Int), Value.int .i64 (y26.tmod a0)], .row 108 2 v91 n92 cs93] := S96
      have S99 : St Ha wa H66 w94 [.row 108 2 v91 n92 cs93] := S96.drop 0
      refine FL.v (E.append rfl rfl run95) ?_
      refine FL.v (E.assign (v := v91) rfl) ?_
      refine FL.nil (FW.region ?_)
      refine FL.v (E.move k71) ?_
      refine FL.v (E.add rfl rfl) ?_
      refine FL.v (E.assign (v := Value.int .i64 (wr (((i27 : Nat) : Int) + 1))) rfl) ?_
      refine FL.nil ?_
      obtain rfl := Option.some.inj hp
      exact ⟨rfl, ⟨_, _, _, _, S99, i68, els97, (nat_succ rfl (lt_of_get hx27) (p1.mono i68).le), k72, k73, rfl⟩⟩
    ·
      refine FW.condF rfl c83 ?_
      refine FW.skip (FW.region ?_)
      refine FL.v (E.move k71) ?_
      refine FL.v (E.add rfl rfl) ?_
      refine FL.v (E.assign (v := Value.int .i64 (wr (((i27 : Nat) : Int) + 1))) rfl) ?_
      refine FL.nil ?_
      obtain rfl := Option.some.inj hp
      exact ⟨rfl, ⟨_, _, _, _, S67, i68, els31, (nat_succ rfl (lt_of_get hx27) (p1.mono i68).le), k72, k73, k74⟩⟩
  ·
    clear hp hq
    rintro s27 f111 w110 ⟨H107, v28, n29, cs30, S108, i109, els31, k112, k113, k114, k115⟩
    refine FW.seq (FW.seq (FW.region ?_))
    refine FL.v (E.move k112) ?_
    refine FL.v (E.move k114) ?_
    refine FL.v (E.lenP te73 rfl p1) ?_
    refine FL.v (E.lss rfl rfl) ?_
    refine FL.nil ?_
    refine FW.condF rfl dlt_len ?_
    refine FW.exit ?_
    exact ⟨nofun, rfl, ⟨_, _, _, _, S108, i109, els31, k115⟩⟩
  ·
    clear hq
    intro e f105 w104 hD
    rcases q27 with s27 | x27
    ·
      obtain ⟨rfl, hD⟩ := hD
      obtain ⟨H101, v28, n29, cs30, S102, i103, els31, k106⟩ := hD
      replace hp := el_go hp
      refine FW.seq (FW.region ?_)
      refine FL.v (E.move k106) ?_
      refine FL.v (E.assign (v := v28) rfl) ?_
      refine FL.nil ?_
      refine FW.ret ?_
      obtain rfl := Option.some.inj hp
      exact ⟨.inr rfl, res1 rfl rfl ⟨_, _, _, _, rfl, S102, els31⟩⟩
    · exact x27.elim

@[reducible] def p_spec_l18Mul (Ha : GH) (wa : World) (r : (List Term)) : Ending → World → Prop :=
  fun e w' => ∃ H' : GH, ∃ v0 : Value, ∃ n0 : Nat, ∃ c0 : List Value, e = .returned (v0) ∧ St Ha wa H' w' [.row 108 2 v0 n0 c0] ∧ Els (up wa.heap.size H') eTerm 2 c0 r
theorem w_spec_l18Mul {Ha : GH} {wa : World} (hs : Sl Ha wa) (a0 : Int) (a1 : Int) (v2 : Value) (a2 : List Term) (p2 : RSl Ha eTerm 2 v2 a2) (v3 : Value) (a3 : List Term) (p3 : RSl Ha eTerm 2 v3 a3) {r : (List Term)} (hp : (PF.spec_l18Mul a0 a1 a2 a3) = some r) :
    Calls Tryz.prog 117 #[Value.int .i64 a0, Value.int .i64 a1, v2, v3] wa (p_spec_l18Mul Ha wa r) := by
  unfold PF.spec_l18Mul at hp
  have S0 := St.init hs
  refine calls_go (N := 63) (args := [Value.int .i64 a0, Value.int .i64 a1, v2, v3]) Tryz.func117 rfl rfl rfl ?_
  refine FW.seq (FW.region ?_)
  refine FL.v (E.assign (v := Value.slice none 0 0) rfl) ?_
  refine FL.nil (FW.seq (FW.region ?_))
  refine FL.v (E.move (v := Value.int .i64 a1) rfl) ?_
  obtain ⟨u22, z21, hp⟩ := bnd hp
  refine FL.v (E.shl rfl rfl (nn_ge z21)) ?_
  obtain ⟨xs23, hm24, hp⟩ := bnd hp
  obtain ⟨v25, w26, n30, cs31, run27, S28, els29, hbl32⟩ := S0.makeEls (P := Tryz.prog) te73 (G := (up wa.heap.size Ha)) (En := eI) (x0 := (0 : Int)) hm24 rfl (ones_cons rfl ones_nil) .i64 .i64
  refine FL.v (E.makeSlice rfl rfl run27) ?_
  refine FL.v (E.assign (v := v25) rfl) ?_
  refine FL.nil (FW.seq (FW.seq (FW.region ?_)))
  refine FL.v (E.assign (v := Value.int .i64 0) rfl) ?_
  refine FL.nil ?_
  obtain ⟨q34, hq, hp⟩ := bndR hp
  refine FW.block ?_
  refine FW.mono (FW.forL (S := (List Int)) (X := Empty) (fun (i34 : Nat) (s34 : (List Int)) f w => ∃ H : GH, ∃ v35 : Value, ∃ n36 : Nat, ∃ cs37 : List Value, St Ha wa H w [.row 3 1 v35 n36 cs37] ∧ Inc Ha H ∧ Els (up wa.heap.size H) eI 1 cs37 s34 ∧ f 10 = Value.int .i64 ((i34 : Nat) : Int) ∧ f 0 = Value.int .i64 a0 ∧ f 2 = v2 ∧ f 3 = v3 ∧ f 9 = v35) (fun (q : Rs (List Int) Empty) e f w => match q with | .go s34 => e = Exit.exit 0 ∧ (∃ H : GH, ∃ v35 : Value, ∃ n36 : Nat, ∃ cs37 : List Value, St Ha wa H w [.row 3 1 v35 n36 cs37] ∧ Inc Ha H ∧ Els (up wa.heap.size H) eI 1 cs37 s34 ∧ f 0 = Value.int .i64 a0 ∧ f 9 = v35) | .rt x => x.elim) hq ⟨_, _, _, _, S28, (Inc.rfl _), els29, rfl, rfl, rfl, rfl, rfl⟩ ?_ ?_) ?_
  ·
    clear hp hq
    rintro i34 y33 s34 f43 w42 ⟨H39, v35, n36, cs37, S40, i41, els38, k44, k45, k46, k47, k48⟩ hx34 o164 hp
    refine FW.seq (FW.seq (FW.region ?_))
    refine FL.v (E.move k44) ?_
    refine FL.v (E.move k46) ?_
    refine FL.v (E.lenP te55 rfl p2) ?_
    refine FL.v (E.lssT rfl rfl (lss_len hx34)) ?_
    refine FL.nil ?_
    refine FW.condT rfl rfl ?_
    refine FW.skip (FW.seq (FW.block (FW.seq (FW.region ?_))))
    refine FL.v (E.assign (v := Value.int .i64 0) rfl) ?_
    refine FL.nil ?_
    obtain ⟨q50, hq, hp⟩ := bndR hp
    refine FW.block ?_
    refine FW.mono (FW.forL (S := (List Int)) (X := Empty) (fun (i50 : Nat) (s50 : (List Int)) f w => ∃ H : GH, ∃ v51 : Value, ∃ n52 : Nat, ∃ cs53 : List Value, St Ha wa H w [.row 3 1 v51 n52 cs53] ∧ Inc H39 H ∧ Els (up wa.heap.size H) eI 1 cs53 s50 ∧ f 11 = Value.int .i64 ((i50 : Nat) : Int) ∧ f 0 = Value.int .i64 a0 ∧ f 2 = v2 ∧ f 3 = v3 ∧ f 9 = v51 ∧ f 10 = Value.int .i64 ((i34 : Nat) : Int)) (fun (q : Rs (List Int) Empty) e f w => match q with | .go s50 => e = Exit.exit 2 ∧ (∃ H : GH, ∃ v51 : Value, ∃ n52 : Nat, ∃ cs53 : List Value, St Ha wa H w [.row 3 1 v51 n52 cs53] ∧ Inc H39 H ∧ Els (up wa.heap.size H) eI 1 cs53 s50 ∧ f 0 = Value.int .i64 a0 ∧ f 2 = v2 ∧ f 3 = v3 ∧ f 9 = v51 ∧ f 10 = Value.int .i64 ((i34 : Nat) : Int)) | .rt x => x.elim) hq ⟨_, _, _, _, S40, (Inc.rfl _), els38, rfl, k45, k46, k47, k48, k44⟩ ?_ ?_) ?_
    ·
      clear hp hq
      rintro i50 y49 s50 f60 w59 ⟨H56, v51, n52, cs53, S57, i58, els54, k61, k62, k63, k64, k65, k66⟩ hx50 o142 hp
      refine FW.seq (FW.seq (FW.region ?_))
      refine FL.v (E.move k61) ?_
      refine FL.v (E.move k64) ?_
      refine FL.v (E.lenP te55 rfl p3) ?_
      refine FL.v (E.lssT rfl rfl (lss_len hx50)) ?_
      refine FL.nil ?_
      refine FW.condT rfl rfl ?_
      refine FW.skip (FW.seq (FW.block (FW.seq ?_)))
      refine FW.draw (fun w' => Run w59.heap.size H56 w59 H56 w') (by kernel_rfl) (by kernel_rfl) (run_drew S57.sl) ?_
      refine FD.val rfl rfl rfl (fun w' hw' => (E.move k63)) ?_
      refine FD.val rfl rfl rfl (fun w' hw' => (E.move k66)) ?_
      obtain ⟨p67, cs68, pt69, l70, at71, rel72⟩ := p2.at (ix_nat hx34)
      obtain rfl := eTerm_open rel72
      refine FD.val rfl rfl rfl (fun w' hw' => (E.indexAddr te55 rfl rfl pt69)) ?_
      refine FD.val rfl rfl rfl (fun w' hw' => (E.fieldAddr tf108_0 rfl)) ?_
      refine FD.val rfl rfl rfl (fun w' hw' => (E.load rfl (run_load1 Tryz.isAgg3 ((at71.mono (i41.tr i58)).now (S57.call hw').sl) rfl))) ?_
      refine FD.val rfl rfl rfl (fun w' hw' => (E.move k64)) ?_
      refine FD.val rfl rfl rfl (fun w' hw' => (E.move k61)) ?_
      obtain ⟨p74, cs75, pt76, l77, at78, rel79⟩ := p3.at (ix_nat hx50)
      obtain rfl := eTerm_open rel79
      refine FD.val rfl rfl rfl (fun w' hw' => (E.indexAddr te55 rfl rfl pt76)) ?_
      refine FD.val rfl rfl rfl (fun w' hw' => (E.fieldAddr tf108_0 rfl)) ?_
      refine FD.val rfl rfl rfl (fun w' hw' => (E.load rfl (run_load1 Tryz.isAgg3 ((at78.mono (i41.tr i58)).now (S57.call hw').sl) rfl))) ?_
      refine FD.val rfl rfl rfl (fun w' hw' => (E.or rfl rfl)) ?_
      refine FD.val rfl rfl rfl (fun w' hw' => (E.assign (v := Value.int .i64 (orK true 64 y33.mono y49.mono)) rfl)) ?_
      refine FD.nil ?_
      intro w80 r82
      have S81 := S57.call r82
      obtain ⟨x92, hx93, hp⟩ := bnd hp
      obtain ⟨u109, z107, hp⟩ := bnd hp
      obtain ⟨x116, hx117, hp⟩ := bnd hp
      obtain ⟨xs122, hput123, hp⟩ := bnd hp
      refine FW.drawB (Sl H56) (fun f w => ∃ H : GH, ∃ v127 : Value, ∃ n128 : Nat, ∃ cs129 : List Value, St Ha wa H w [.row 3 1 v127 n128 cs129] ∧ Inc H56 H ∧ Els (up wa.heap.size H) eI 1 cs129 xs122 ∧ f 0 = Value.int .i64 a0 ∧ f 2 = v2 ∧ f 3 = v3 ∧ f 9 = v127 ∧ f 10 = Value.int .i64 ((i34 : Nat) : Int) ∧ f 11 = Value.int .i64 ((i50 : Nat) : Int)) (by kernel_rfl) S81.sl ?_ ?_
      ·
        intro w83 r84
        have S85 := S81.call r84
        refine FB.t (i := 0) (bs 22 1) rfl (SP.nil S85.sl) rfl (fun w' hw' => (E.move k65)) ?_
        refine FB.t (i := 1) (bs 22 3) rfl (SP.nil S85.sl) rfl (fun w' hw' => (E.move (v := Value.int .i64 (orK true 64 y33.mono y49.mono)) rfl)) ?_
        refine FB.t (i := 2) (bs 22 7) rfl (SP.nil S85.sl) rfl (fun w' hw' => (E.move k65)) ?_
        refine FB.t (i := 3) (bs 22 15) rfl (SP.nil S85.sl) rfl (fun w' hw' => (E.move (v := Value.int .i64 (orK true 64 y33.mono y49.mono)) rfl)) ?_
        obtain ⟨p86, cs87, pt88, l89, at90, rel91, hall94⟩ := S85.row_atA (i := 0) rfl els54 (by decide) hx93
        obtain rfl := eI_open rel91
        refine FB.t (i := 4) (bs 22 31) rfl (SP.nil S85.sl) rfl (fun w' hw' => (E.indexAddr te73 rfl rfl pt88)) ?_
        refine FB.phase [21] (fun w' => WAt w' p86 [Value.int .i64 x92]) ?_
        refine FB.p (i := 5) (bs 22 63) 0 [17, 19, 20, 21] rfl (SP.on (hall94 _ _ _ 0 S85 rfl) (SP.nil S85.sl)) rfl rfl (fun w' hw' => (E.load rfl (run_load0 Tryz.isAgg3 hw' rfl))) ?_
        refine FB.t (i := 6) (bs 22 127) rfl (SP.on (hall94 _ _ _ 0 S85 rfl) (SP.nil S85.sl)) rfl (fun w' hw' => (E.move k63)) ?_
        refine FB.t (i := 7) (bs 22 255) rfl (SP.on (hall94 _ _ _ 0 S85 rfl) (SP.nil S85.sl)) rfl (fun w' hw' => (E.move k66)) ?_
        obtain ⟨p95, cs96, pt97, l98, at99, rel100⟩ := p2.at (ix_nat hx34)
        obtain rfl := eTerm_open rel100
        refine FB.t (i := 8) (bs 22 511) rfl (SP.on (hall94 _ _ _ 0 S85 rfl) (SP.nil S85.sl)) rfl (fun w' hw' => (E.indexAddr te55 rfl rfl pt97)) ?_
        refine FB.t (i := 9) (bs 22 1023) rfl (SP.on (hall94 _ _ _ 0 S85 rfl) (SP.nil S85.sl)) rfl (fun w' hw' => (E.fieldAddr tf108_1 rfl)) ?_
        refine FB.t (i := 10) (bs 22 2047) rfl (SP.on (hall94 _ _ _ 0 S85 rfl) (SP.nil S85.sl)) rfl (fun w' hw' => (E.load rfl (run_load1 Tryz.isAgg3 ((at99.mono (i41.tr i58)).now hw') rfl))) ?_
        refine FB.t (i := 11) (bs 22 4095) rfl (SP.on (hall94 _ _ _ 0 S85 rfl) (SP.nil S85.sl)) rfl (fun w' hw' => (E.move k64)) ?_
        refine FB.t (i := 12) (bs 22 8191) rfl (SP.on (hall94 _ _ _ 0 S85 rfl) (SP.nil S85.sl)) rfl (fun w' hw' => (E.move k61)) ?_
        obtain ⟨p101, cs102, pt103, l104, at105, rel106⟩ := p3.at (ix_nat hx50)
        obtain rfl := eTerm_open rel106
        refine FB.t (i := 13) (bs 22 16383) rfl (SP.on (hall94 _ _ _ 0 S85 rfl) (SP.nil S85.sl)) rfl (fun w' hw' => (E.indexAddr te55 rfl rfl pt103)) ?_
        refine FB.t (i := 14) (bs 22 32767) rfl (SP.on (hall94 _ _ _ 0 S85 rfl) (SP.nil S85.sl)) rfl (fun w' hw' => (E.fieldAddr tf108_1 rfl)) ?_
        refine FB.t (i := 15) (bs 22 65535) rfl (SP.on (hall94 _ _ _ 0 S85 rfl) (SP.nil S85.sl)) rfl (fun w' hw' => (E.load rfl (run_load1 Tryz.isAgg3 ((at105.mono (i41.tr i58)).now hw') rfl))) ?_
        refine FB.t (i := 16) (bs 22 131071) rfl (SP.on (hall94 _ _ _ 0 S85 rfl) (SP.nil S85.sl)) rfl (fun w' hw' => (E.mul rfl rfl)) ?_
        refine FB.t (i := 17) (bs 22 262143) rfl (SP.on (hall94 _ _ _ 0 S85 rfl) (SP.nil S85.sl)) rfl (fun w' hw' => (E.add rfl rfl)) ?_
        refine FB.t (i := 18) (bs 22 524287) rfl (SP.on (hall94 _ _ _ 0 S85 rfl) (SP.nil S85.sl)) rfl (fun w' hw' => (E.move k62)) ?_
        refine FB.t (i := 19) (bs 22 1048575) rfl (SP.on (hall94 _ _ _ 0 S85 rfl) (SP.nil S85.sl)) rfl (fun w' hw' => (E.rem rfl rfl (nz_ne z107))) ?_
        obtain ⟨p110, cs111, pt112, l113, at114, rel115, hall118⟩ := S85.row_atA (i := 0) rfl els54 (by decide) hx117
        obtain rfl := eI_open rel115
        refine FB.t (i := 20) (bs 22 2097151) rfl (SP.on (hall94 _ _ _ 0 S85 rfl) (SP.nil S85.sl)) rfl (fun w' hw' => (E.indexAddr te73 rfl rfl pt112)) ?_
        refine FB.all1 (i := 21) (by kernel_rfl) ?_
        ·
          obtain ⟨w119, cs125, run120, S121, els124, ce126⟩ := S85.putEls (P := Tryz.prog) (t := 3) (i := 0) rfl els54 hput123 pt112 Tryz.sizeOf3 (u := Value.int .i64 ((wr (x92 + (wr (y33.coeff * y49.coeff)))).tmod a0)) (c := [Value.int .i64 ((wr (x92 + (wr (y33.coeff * y49.coeff)))).tmod a0)]) rfl rfl (ones_cons rfl ones_nil) rfl
          have S121 : St Ha wa H56 w119 [.row 3 1 v51 n52 cs125] := S121
          refine FC.act (l' := (bs 22 4194303)) rfl (by kernel_rfl) rfl rfl (E.store rfl rfl run120) ?_
          refine ⟨(SP.o (SP.nil S121.sl)), ?_⟩
          exact FB.done (by kernel_rfl) ⟨_, _, _, _, S121, (Inc.rfl _), els124, k62, k63, k64, k65, k66, k61⟩
      ·
        rintro f135 w134 ⟨H131, v127, n128, cs129, S132, i133, els130, k136, k137, k138, k139, k140, k141⟩
        refine FW.region ?_
        refine FL.v (E.move k141) ?_
        refine FL.v (E.add rfl rfl) ?_
        refine FL.v (E.assign (v := Value.int .i64 (wr (((i50 : Nat) : Int) + 1))) rfl) ?_
        refine FL.nil ?_
        obtain rfl := Option.some.inj hp
        exact ⟨rfl, ⟨_, _, _, _, S132, (i58.tr i133), els130, (nat_succ rfl (lt_of_get hx50) (p3.mono ((i41.tr i58).tr i133)).le), k136, k137, k138, k139, k140⟩⟩
    ·
      clear hp hq
      rintro s50 f157 w156 ⟨H153, v51, n52, cs53, S154, i155, els54, k158, k159, k160, k161, k162, k163⟩
      refine FW.seq (FW.seq (FW.region ?_))
      refine FL.v (E.move k158) ?_
      refine FL.v (E.move k161) ?_
      refine FL.v (E.lenP te55 rfl p3) ?_
      refine FL.v (E.lss rfl rfl) ?_
      refine FL.nil ?_
      refine FW.condF rfl dlt_len ?_
      refine FW.exit ?_
      exact ⟨nofun, rfl, ⟨_, _, _, _, S154, i155, els54, k159, k160, k161, k162, k163⟩⟩
    ·
      clear hq
      intro e f147 w146 hD
      rcases q50 with s50 | x50
      ·
        obtain ⟨rfl, hD⟩ := hD
        obtain ⟨H143, v51, n52, cs53, S144, i145, els54, k148, k149, k150, k151, k152⟩ := hD
        replace hp := el_go hp
        refine FW.region ?_
        refine FL.v (E.move k152) ?_
        refine FL.v (E.add rfl rfl) ?_
        refine FL.v (E.assign (v := Value.int .i64 (wr (((i34 : Nat) : Int) + 1))) rfl) ?_
        refine FL.nil ?_
        obtain rfl := Option.some.inj hp
        exact ⟨rfl, ⟨_, _, _, _, S144, (i41.tr i145), els54, (nat_succ rfl (lt_of_get hx34) (p2.mono (i41.tr i145)).le), k148, k149, k150, k151⟩⟩
      · exact x50.elim
  ·
    clear hp hq
    rintro s34 f193 w192 ⟨H189, v35, n36, cs37, S190, i191, els38, k194, k195, k196, k197, k198⟩
    refine FW.seq (FW.seq (FW.region ?_))
    refine FL.v (E.move k194) ?_
    refine FL.v (E.move k196) ?_
    refine FL.v (E.lenP te55 rfl p2) ?_
    refine FL.v (E.lss rfl rfl) ?_
    refine FL.nil ?_
    refine FW.condF rfl dlt_len ?_
    refine FW.exit ?_
    exact ⟨nofun, rfl, ⟨_, _, _, _, S190, i191, els38, k195, k198⟩⟩
  ·
    clear hq
    intro e f169 w168 hD
    rcases q34 with s34 | x34
    ·
      obtain ⟨rfl, hD⟩ := hD
      obtain ⟨H165, v35, n36, cs37, S166, i167, els38, k170, k171⟩ := hD
      replace hp := el_go hp
      refine FW.seq (FW.region ?_)
      refine FL.v (E.move k170) ?_
      refine FL.v (E.move k171) ?_
      obtain ⟨H172, S173, i174, h175, nv176⟩ := S166.sealRowU (i := 0) (l' := []) rfl els38 (by decide) rfl
      obtain ⟨r177, hr178, hp⟩ := bnd hp
      refine FL.call rfl rfl rfl (E.call Tryz.call179 (A2 rfl rfl)) (w_spec_l18Sparse S173.sl a0 v35 s34 (h175.mono upI) hr178) ?_
      rintro e w180 ⟨H179, v185, n186, cs187, rfl, r182, els188⟩
      refine ⟨_, rfl, ?_⟩
      obtain ⟨H183, r182, hU184⟩ := St.lendX i174 S166.sl r182
      have els188 := els188.mono (hU184.tr (up_le S166.size))
      have S181 := S166.join (l' := [.row 108 2 v185 n186 cs187, .row 3 1 v35 n36 cs37]) r182 rfl
      refine FL.v (E.assign (v := v185) rfl) ?_
      refine FL.nil ?_
      refine FW.ret ?_
      obtain rfl := Option.some.inj hp
      exact ⟨.inr rfl, res1 rfl rfl ⟨_, _, _, _, rfl, (S181.sel [0] (by decide) rfl), els188⟩⟩
    · exact x34.elim

@[reducible] def p_spec_l18Clause (Ha : GH) (wa : World) (r : (List Term)) : Ending → World → Prop :=
  fun e w' => ∃ H' : GH, ∃ v0 : Value, ∃ n0 : Nat, ∃ c0 : List Value, e = .returned (v0) ∧ St Ha wa H' w' [.row 108 2 v0 n0 c0] ∧ Els (up wa.heap.size H') eTerm 2 c0 r
theorem w_spec_l18Clause {Ha : GH} {wa : World} (hs : Sl Ha wa) (a0 : Int) (a1 : Int) (v2 : Value) (a2 : List Int) (p2 : RSl Ha eI 1 v2 a2) {r : (List Term)} (hp : (PF.spec_l18Clause a0 a1 a2) = some r) :
    Calls Tryz.prog 60 #[Value.int .i64 a0, Value.int .i64 a1, v2] wa (p_spec_l18Clause Ha wa r) := by
  unfold PF.spec_l18Clause at hp
  have S0 := St.init hs
  refine calls_go (N := 49) (args := [Value.int .i64 a0, Value.int .i64 a1, v2]) Tryz.func60 rfl rfl rfl ?_
  refine FW.seq (FW.region ?_)
  refine FL.v (E.assign (v := Value.slice none 0 0) rfl) ?_
  refine FL.nil (FW.seq (FW.region ?_))
  refine FL.v (E.build (B2 rfl rfl) (run_build _ 108 #[(0, Value.int .i64 0), (1, Value.int .i64 1)] #[Value.int .i64 0, Value.int .i64 1] (by rfl))) ?_
  obtain ⟨v21, w22, run23, S24⟩ := S0.buildSlice (P := Tryz.prog) te55 [Value.agg #[Value.int .i64 0, Value.int .i64 1]] (parts := #[(0, Value.agg #[Value.int .i64 0, Value.int .i64 1])]) (cells := [Value.int .i64 0, Value.int .i64 1]) rfl (szs_cons rfl szs_nil) (fc_cons rfl fc_nil) (ones_cons rfl (ones_cons rfl ones_nil)) (Nat.le_of_ble_eq_true rfl)
  have els25 : Els (up wa.heap.size Ha) eTerm 2 [Value.int .i64 0, Value.int .i64 1] [(Term.mk 0 1)] := (Els.snoc (H := (up wa.heap.size Ha)) (E := eTerm) (k := 2) (c := [Value.int .i64 0, Value.int .i64 1]) (x := (Term.mk 0 1)) Els.nil rfl rfl)
  refine FL.v (E.buildSlice (B1 rfl) run23) ?_
  refine FL.v (E.assign (v := v21) rfl) ?_
  refine FL.nil (FW.seq (FW.seq (FW.region ?_)))
  refine FL.v (E.assign (v := Value.int .i64 0) rfl) ?_
  refine FL.nil ?_
  obtain ⟨q27, hq, hp⟩ := bndR hp
  refine FW.block ?_
  refine FW.mono (FW.forL (S := (List Term)) (X := Empty) (fun (i27 : Nat) (s27 : (List Term)) f w => ∃ H : GH, ∃ v125 : Value, ∃ n126 : Nat, ∃ cs127 : List Value, St Ha wa H w [.row 108 2 v125 n126 cs127] ∧ Inc Ha H ∧ Els (up wa.heap.size H) eTerm 2 cs127 s27 ∧ f 8 = Value.int .i64 ((i27 : Nat) : Int) ∧ f 0 = Value.int .i64 a0 ∧ f 1 = Value.int .i64 a1 ∧ f 2 = v2 ∧ f 7 = v125) (fun (q : Rs (List Term) Empty) e f w => match q with | .go s27 => e = Exit.exit 0 ∧ (∃ H : GH, ∃ v125 : Value, ∃ n126 : Nat, ∃ cs127 : List Value, St Ha wa H w [.row 108 2 v125 n126 cs127] ∧ Inc Ha H ∧ Els (up wa.heap.size H) eTerm 2 cs127 s27 ∧ f 7 = v125) | .rt x => x.elim) hq ⟨_, _, _, _, S24, (Inc.rfl _), els25, rfl, rfl, rfl, rfl, rfl⟩ ?_ ?_) ?_
  ·
    clear hp hq
    rintro i27 y26 s27 f226 w225 ⟨H222, v125, n126, cs127, S223, i224, els128, k227, k228, k229, k230, k231⟩ hx27 o315 hp
    refine FW.seq (FW.seq (FW.region ?_))
    refine FL.v (E.move k227) ?_
    refine FL.v (E.move k230) ?_
    refine FL.v (E.lenP te73 rfl p2) ?_
    refine FL.v (E.lssT rfl rfl (lss_len hx27)) ?_
    refine FL.nil ?_
    refine FW.condT rfl rfl ?_
    refine FW.skip (FW.seq (FW.block (FW.seq (FW.region ?_))))
    refine FL.v (E.move k230) ?_
    refine FL.v (E.move k227) ?_
    obtain ⟨p232, cs233, pt234, l235, at236, rel237⟩ := p2.at (ix_nat hx27)
    obtain rfl := eI_open rel237
    refine FL.v (E.indexAddr te73 rfl rfl pt234) ?_
    refine FL.v (E.load rfl (run_load0 Tryz.isAgg3 ((at236.mono i224).now S223.sl) rfl)) ?_
    refine FL.call rfl rfl rfl (E.call Tryz.call116 (A1 rfl)) (w_spec_l2Var S223.sl y26) ?_
    rintro e w238 ⟨rfl, r239⟩
    refine ⟨_, rfl, ?_⟩
    have S240 := S223.call r239
    refine FL.v (E.sub rfl rfl) ?_
    obtain ⟨u242, z241, hp⟩ := bnd hp
    refine FL.v (E.shl rfl rfl (nn_ge z241)) ?_
    refine FL.v (E.build (B2 rfl rfl) (run_build _ 108 #[(0, Value.int .i64 (shlK true 64 1 (wr ((PF.spec_l2Var y26) - 1)))), (1, Value.int .i64 1)] #[Value.int .i64 (shlK true 64 1 (wr ((PF.spec_l2Var y26) - 1))), Value.int .i64 1] (by rfl))) ?_
    obtain ⟨b243, w244, run245, S246⟩ := S240.alloc (P := Tryz.prog) 108 [Value.int .i64 0, Value.int .i64 0] Tryz.zeroValue108 rfl (ones_cons rfl (ones_cons rfl ones_nil))
    refine FL.v (E.alloc run245) ?_
    obtain ⟨w247, run248, S249⟩ := S246.store0 (P := Tryz.prog) (t := 108) (i := 0) (cs' := [Value.int .i64 (shlK true 64 1 (wr ((PF.spec_l2Var y26) - 1))), Value.int .i64 1]) (l' := [.box b243 108 [Value.int .i64 (shlK true 64 1 (wr ((PF.spec_l2Var y26) - 1))), Value.int .i64 1], .row 108 2 v125 n126 cs127]) (v := Value.agg #[Value.int .i64 (shlK true 64 1 (wr ((PF.spec_l2Var y26) - 1))), Value.int .i64 1]) (c := [Value.int .i64 (shlK true 64 1 (wr ((PF.spec_l2Var y26) - 1))), Value.int .i64 1]) rfl Tryz.sizeOf108 rfl rfl (ones_cons rfl (ones_cons rfl ones_nil)) (Nat.le_of_ble_eq_true rfl) rfl rfl
    refine FL.act rfl rfl (E.store rfl rfl run248) ?_
    obtain ⟨H250, S251, i252, at253⟩ := S249.sealBox (i := 0) (l' := [.row 108 2 v125 n126 cs127]) rfl rfl
    refine FL.nil (FW.seq (FW.region ?_))
    refine FL.v (E.move k230) ?_
    refine FL.v (E.move k227) ?_
    obtain ⟨p254, cs255, pt256, l257, at258, rel259⟩ := p2.at (ix_nat hx27)
    obtain rfl := eI_open rel259
    refine FL.v (E.indexAddr te73 rfl rfl pt256) ?_
    refine FL.v (E.load rfl (run_load0 Tryz.isAgg3 ((at258.mono (i224.tr i252)).now S251.sl) rfl)) ?_
    refine FL.v (E.lss rfl rfl) ?_
    refine FL.nil ?_
    rcases ifB hp with ⟨c260, hp⟩ | ⟨c260, hp⟩
    ·
      refine FW.condT rfl c260 ?_
      refine FW.region ?_
      refine FL.v (E.move k228) ?_
      refine FL.v (E.move k229) ?_
      refine FL.v (E.move k231) ?_
      refine FL.v (E.load rfl (run_loadA Tryz.isAgg108 Tryz.sizeOf108 (at253.now S251.sl) rfl)) ?_
      obtain ⟨v261, w262, run263, S264⟩ := S251.buildSlice (P := Tryz.prog) te55 [Value.agg #[Value.int .i64 (shlK true 64 1 (wr ((PF.spec_l2Var y26) - 1))), Value.int .i64 1]] (parts := #[(0, Value.agg #[Value.int .i64 (shlK true 64 1 (wr ((PF.spec_l2Var y26) - 1))), Value.int .i64 1])]) (cells := [Value.int .i64 (shlK true 64 1 (wr ((PF.spec_l2Var y26) - 1))), Value.int .i64 1]) rfl (szs_cons rfl szs_nil) (fc_cons rfl fc_nil) (ones_cons rfl (ones_cons rfl ones_nil)) (Nat.le_of_ble_eq_true rfl)
      have els265 : Els (up wa.heap.size H250) eTerm 2 [Value.int .i64 (shlK true 64 1 (wr ((PF.spec_l2Var y26) - 1))), Value.int .i64 1] [(Term.mk (shlK true 64 1 (wr ((PF.spec_l2Var y26) - 1))) 1)] := (Els.snoc (H := (up wa.heap.size H250)) (E := eTerm) (k := 2) (c := [Value.int .i64 (shlK true 64 1 (wr ((PF.spec_l2Var y26) - 1))), Value.int .i64 1]) (x := (Term.mk (shlK true 64 1 (wr ((PF.spec_l2Var y26) - 1))) 1)) Els.nil rfl rfl)
      refine FL.v (E.buildSlice (B1 rfl) run263) ?_
      obtain ⟨H266, S267, i268, h269, nv270⟩ := S264.sealRowU (i := 1) (l' := [.row 108 2 v261 1 [Value.int .i64 (shlK true 64 1 (wr ((PF.spec_l2Var y26) - 1))), Value.int .i64 1]]) rfl (els128.mono (up_mono i252)) (by decide) rfl
      obtain ⟨H271, S272, i273, h274, nv275⟩ := S267.sealRowU (i := 0) (l' := []) rfl (els265.mono (up_mono i268)) (by decide) rfl
      obtain ⟨r276, hr277, hp⟩ := bnd hp
      refine FL.call rfl rfl rfl (E.call Tryz.call117 (A4 rfl rfl rfl rfl)) (w_spec_l18Mul S272.sl a0 a1 v125 s27 (h269.mono (upI.tr i273)) v261 [(Term.mk (shlK true 64 1 (wr ((PF.spec_l2Var y26) - 1))) 1)] (h274.mono upI) hr277) ?_
      rintro e w279 ⟨H278, v284, n285, cs286, rfl, r281, els287⟩
      refine ⟨_, rfl, ?_⟩
      obtain ⟨H282, r281, hU283⟩ := St.lendX (i268.tr i273) S264.sl r281
      have els287 := els287.mono (hU283.tr (up_le S264.size))
      have S280 := S264.join (l' := [.row 108 2 v284 n285 cs286, .row 108 2 v261 1 [Value.int .i64 (shlK true 64 1 (wr ((PF.spec_l2Var y26) - 1))), Value.int .i64 1], .row 108 2 v125 n126 cs127]) r281 rfl
      refine FL.v (E.assign (v := v284) rfl) ?_
      refine FL.nil (FW.region ?_)
      refine FL.v (E.move k227) ?_
      refine FL.v (E.add rfl rfl) ?_
      refine FL.v (E.assign (v := Value.int .i64 (wr (((i27 : Nat) : Int) + 1))) rfl) ?_
      refine FL.nil ?_
      obtain rfl := Option.some.inj hp
      exact ⟨rfl, ⟨_, _, _, _, (S280.sel [0] (by decide) rfl), ((i224.tr i252).tr r281.run.inc), els287, (nat_succ rfl (lt_of_get hx27) (p2.mono ((i224.tr i252).tr r281.run.inc)).le), k228, k229, k230, rfl⟩⟩
    ·
      refine FW.condF rfl c260 ?_
      refine FW.region ?_
      refine FL.v (E.move k228) ?_
      refine FL.v (E.move k229) ?_
      refine FL.v (E.move k231) ?_
      refine FL.v (E.build (B2 rfl rfl) (run_build _ 108 #[(0, Value.int .i64 0), (1, Value.int .i64 1)] #[Value.int .i64 0, Value.int .i64 1] (by rfl))) ?_
      refine FL.v (E.fieldAddr tf108_0 rfl) ?_
      refine FL.v (E.load rfl (run_load1 Tryz.isAgg3 (at253.now S251.sl) rfl)) ?_
      refine FL.v (E.move k228) ?_
      refine FL.v (E.sub rfl rfl) ?_
      refine FL.v (E.build (B2 rfl rfl) (run_build _ 108 #[(0, Value.int .i64 (shlK true 64 1 (wr ((PF.spec_l2Var y26) - 1)))), (1, Value.int .i64 (wr (a0 - 1)))] #[Value.int .i64 (shlK true 64 1 (wr ((PF.spec_l2Var y26) - 1))), Value.int .i64 (wr (a0 - 1))] (by rfl))) ?_
      obtain ⟨v288, w289, run290, S291⟩ := S251.buildSlice (P := Tryz.prog) te55 [Value.agg #[Value.int .i64 0, Value.int .i64 1], Value.agg #[Value.int .i64 (shlK true 64 1 (wr ((PF.spec_l2Var y26) - 1))), Value.int .i64 (wr (a0 - 1))]] (parts := #[(0, Value.agg #[Value.int .i64 0, Value.int .i64 1]), (1, Value.agg #[Value.int .i64 (shlK true 64 1 (wr ((PF.spec_l2Var y26) - 1))), Value.int .i64 (wr (a0 - 1))])]) (cells := [Value.int .i64 0, Value.int .i64 1, Value.int .i64 (shlK true 64 1 (wr ((PF.spec_l2Var y26) - 1))), Value.int .i64 (wr (a0 - 1))]) rfl (szs_cons rfl (szs_cons rfl szs_nil)) (fc_cons rfl (fc_cons rfl fc_nil)) (ones_cons rfl (ones_cons rfl (ones_cons rfl (ones_cons rfl ones_nil)))) (Nat.le_of_ble_eq_true rfl)
      have els292 : Els (up wa.heap.size H250) eTerm 2 [Value.int .i64 0, Value.int .i64 1, Value.int .i64 (shlK true 64 1 (wr ((PF.spec_l2Var y26) - 1))), Value.int .i64 (wr (a0 - 1))] [(Term.mk 0 1), (Term.mk (shlK true 64 1 (wr ((PF.spec_l2Var y26) - 1))) (wr (a0 - 1)))] := (Els.snoc (H := (up wa.heap.size H250)) (E := eTerm) (k := 2) (c := [Value.int .i64 (shlK true 64 1 (wr ((PF.spec_l2Var y26) - 1))), Value.int .i64 (wr (a0 - 1))]) (x := (Term.mk (shlK true 64 1 (wr ((PF.spec_l2Var y26) - 1))) (wr (a0 - 1)))) (Els.snoc (H := (up wa.heap.size H250)) (E := eTerm) (k := 2) (c := [Value.int .i64 0, Value.int .i64 1]) (x := (Term.mk 0 1)) Els.nil rfl rfl) rfl rfl)
      refine FL.v (E.buildSlice (B2 rfl rfl) run290) ?_
      obtain ⟨H293, S294, i295, h296, nv297⟩ := S291.sealRowU (i := 1) (l' := [.row 108 2 v288 2 [Value.int .i64 0, Value.int .i64 1, Value.int .i64 (shlK true 64 1 (wr ((PF.spec_l2Var y26) - 1))), Value.int .i64 (wr (a0 - 1))]]) rfl (els128.mono (up_mono i252)) (by decide) rfl
      obtain ⟨H298, S299, i300, h301, nv302⟩ := S294.sealRowU (i := 0) (l' := []) rfl (els292.mono (up_mono i295)) (by decide) rfl
      obtain ⟨r303, hr304, hp⟩ := bnd hp
      refine FL.call rfl rfl rfl (E.call Tryz.call117 (A4 rfl rfl rfl rfl)) (w_spec_l18Mul S299.sl a0 a1 v125 s27 (h296.mono (upI.tr i300)) v288 [(Term.mk 0 1), (Term.mk (shlK true 64 1 (wr ((PF.spec_l2Var y26) - 1))) (wr (a0 - 1)))] (h301.mono upI) hr304) ?_
      rintro e w306 ⟨H305, v311, n312, cs313, rfl, r308, els314⟩
      refine ⟨_, rfl, ?_⟩
      obtain ⟨H309, r308, hU310⟩ := St.lendX (i295.tr i300) S291.sl r308
      have els314 := els314.mono (hU310.tr (up_le S291.size))
      have S307 := S291.join (l' := [.row 108 2 v311 n312 cs313, .row 108 2 v288 2 [Value.int .i64 0, Value.int .i64 1, Value.int .i64 (shlK true 64 1 (wr ((PF.spec_l2Var y26) - 1))), Value.int .i64 (wr (a0 - 1))], .row 108 2 v125 n126 cs127]) r308 rfl
      refine FL.v (E.assign (v := v311) rfl) ?_
      refine FL.nil (FW.region ?_)
      refine FL.v (E.move k227) ?_
      refine FL.v (E.add rfl rfl) ?_
      refine FL.v (E.assign (v := Value.int .i64 (wr (((i27 : Nat) : Int) + 1))) rfl) ?_
      refine FL.nil ?_
      obtain rfl := Option.some.inj hp
      exact ⟨rfl, ⟨_, _, _, _, (S307.sel [0] (by decide) rfl), ((i224.tr i252).tr r308.run.inc), els314, (nat_succ rfl (lt_of_get hx27) (p2.mono ((i224.tr i252).tr r308.run.inc)).le), k228, k229, k230, rfl⟩⟩
  ·
    clear hp hq
    rintro s27 f326 w325 ⟨H322, v125, n126, cs127, S323, i324, els128, k327, k328, k329, k330, k331⟩
    refine FW.seq (FW.seq (FW.region ?_))
    refine FL.v (E.move k327) ?_
    refine FL.v (E.move k330) ?_
    refine FL.v (E.lenP te73 rfl p2) ?_
    refine FL.v (E.lss rfl rfl) ?_
    refine FL.nil ?_
    refine FW.condF rfl dlt_len ?_
    refine FW.exit ?_
    exact ⟨nofun, rfl, ⟨_, _, _, _, S323, i324, els128, k331⟩⟩
  ·
    clear hq
    intro e f320 w319 hD
    rcases q27 with s27 | x27
    ·
      obtain ⟨rfl, hD⟩ := hD
      obtain ⟨H316, v125, n126, cs127, S317, i318, els128, k321⟩ := hD
      replace hp := el_go hp
      refine FW.seq (FW.region ?_)
      refine FL.v (E.move k321) ?_
      refine FL.v (E.assign (v := v125) rfl) ?_
      refine FL.nil ?_
      refine FW.ret ?_
      obtain rfl := Option.some.inj hp
      exact ⟨.inr rfl, res1 rfl rfl ⟨_, _, _, _, rfl, S317, els128⟩⟩
    · exact x27.elim

theorem w_spec_l14Count {Ha : GH} {wa : World} (hs : Sl Ha wa) (a0 : Int) {r : Int} (hp : (PF.spec_l14Count a0) = some r) :
    Calls Tryz.prog 186 #[Value.int .i64 a0] wa (Sc Ha wa (Value.int .i64 r)) := by
  unfold PF.spec_l14Count at hp
  have S0 := St.init hs
  refine calls_go (N := 13) (args := [Value.int .i64 a0]) Tryz.func186 rfl rfl rfl ?_
  refine FW.seq (FW.region ?_)
  refine FL.v (E.assign (v := Value.int .i64 0) rfl) ?_
  refine FL.nil (FW.seq (FW.region ?_))
  refine FL.v (E.assign (v := Value.int .i64 0) rfl) ?_
  refine FL.nil (FW.seq ?_)
  obtain ⟨q21, hq, hp⟩ := bndR hp
  refine FW.block ?_
  refine FW.mono (FW.iter (S := (Int × Int)) (X := Empty) (fun (s21 : (Int × Int)) f w => ∃ H : GH, St Ha wa H w [] ∧ Inc Ha H ∧ f 0 = Value.int .i64 s21.1 ∧ f 3 = Value.int .i64 s21.2) (fun (q : Rs (Int × Int) Empty) e f w => match q with | .go s21 => e = Exit.exit 0 ∧ (∃ H : GH, St Ha wa H w [] ∧ Inc Ha H ∧ f 3 = Value.int .i64 s21.2) | .rt x => x.elim) hq ⟨_, S0, (Inc.rfl _), rfl, rfl⟩ ?_) ?_
  ·
    clear hp hq
    rintro s21 f34 w33 ⟨H30, S31, i32, k35, k36⟩ o38 hp
    refine FW.seq (FW.seq (FW.region ?_))
    refine FL.v (E.move k35) ?_
    refine FL.v (E.gtr rfl rfl) ?_
    refine FL.nil ?_
    rcases ifB hp with ⟨c37, hp⟩ | ⟨c37, hp⟩
    ·
      refine FW.condT rfl c37 ?_
      refine FW.skip (FW.seq (FW.block (FW.region ?_)))
      refine FL.v (E.move k36) ?_
      refine FL.v (E.move k35) ?_
      refine FL.v (E.rem rfl rfl (by decide)) ?_
      refine FL.v (E.add rfl rfl) ?_
      refine FL.v (E.assign (v := Value.int .i64 (wr (s21.2 + (s21.1.tmod 2)))) rfl) ?_
      refine FL.nil (FW.region ?_)
      refine FL.v (E.move k35) ?_
      refine FL.v (E.quo rfl rfl (by decide)) ?_
      refine FL.v (E.assign (v := Value.int .i64 (wr (s21.1.tdiv 2))) rfl) ?_
      refine FL.nil ?_
      obtain rfl := Option.some.inj hp
      exact ⟨rfl, ⟨_, S31, i32, rfl, rfl⟩⟩
    ·
      refine FW.condF rfl c37 ?_
      refine FW.exit ?_
      obtain rfl := Option.some.inj hp
      exact ⟨nofun, rfl, ⟨_, S31, i32, k36⟩⟩
  ·
    clear hq
    intro e f43 w42 hD
    rcases q21 with s21 | x21
    ·
      obtain ⟨rfl, hD⟩ := hD
      obtain ⟨H39, S40, i41, k44⟩ := hD
      replace hp := el_go hp
      refine FW.seq (FW.region ?_)
      refine FL.v (E.move k44) ?_
      refine FL.v (E.assign (v := Value.int .i64 s21.2) rfl) ?_
      refine FL.nil ?_
      refine FW.ret ?_
      obtain rfl := Option.some.inj hp
      exact ⟨.inr rfl, res1 rfl rfl ⟨rfl, S40.back⟩⟩
    · exact x21.elim

theorem w_spec_l20Before {Ha : GH} {wa : World} (hs : Sl Ha wa) (a0 : Int) (a1 : Int) {r : Bool} (hp : (PF.spec_l20Before a0 a1) = some r) :
  Calls Tryz.prog 203 #[Value.int .i64 a0, Value.int .i64 a1] wa (Sc Ha wa (Value.bool r)) := by
 unfold PF.spec_l20Before at hp
 have S0 := St.init hs
 refine calls_go (N := 18) (args := [Value.int .i64 a0, Value.int .i64 a1]) Tryz.func203 rfl rfl rfl ?_
 refine FW.seq (FW.region ?_)
 refine FL.v (E.assign (v := Value.bool false) rfl) ?_
 refine FL.nil (FW.seq (FW.seq (FW.region ?_)))
 refine FL.v (E.move (v := Value.int .i64 a0) rfl) ?_
 obtain ⟨r21, hr22, hp⟩ := bnd hp
 refine FL.call rfl rfl rfl (E.call Tryz.call186 (A1 rfl)) (w_spec_l14Count S0.sl a0 hr22) ?_
 rintro e w23 ⟨rfl, r24⟩
 refine ⟨_, rfl, ?_⟩
 have S25 := S0.call r24
 refine FL.v (E.move (v := Value.int .i64 a1) rfl) ?_
 obtain ⟨r26, hr27, hp⟩ := bnd hp
 refine FL.call rfl rfl rfl (E.call Tryz.call186 (A1 rfl)) (w_spec_l14Count S25.sl a1 hr27) ?_
 rintro e w28 ⟨rfl, r29⟩
 refine ⟨_, rfl, ?_⟩
 have S30 := S25.call r29
 refine FL.v (E.neq rfl rfl) ?_
 refine FL.nil ?_
 rcases ifB hp with ⟨c31, hp⟩ | ⟨c31, hp⟩
 ·
  refine FW.condT rfl c31 ?_
  refine FW.seq (FW.region ?_)
  refine FL.v (E.move (v := Value.int .i64 a0) rfl) ?_
  obtain ⟨r32, hr33, hp⟩ := bnd hp
  refine FL.call rfl rfl rfl (E.call Tryz.call186 (A1 rfl)) (w_spec_l14Count S30.sl a0 hr33) ?_
  rintro e w34 ⟨rfl, r35⟩
  refine ⟨_, rfl, ?_⟩
  have S36 := S30.call r35
  refine FL.v (E.move (v := Value.int .i64 a1) rfl) ?_
  obtain ⟨r37, hr38, hp⟩ := bnd hp
  refine FL.call rfl rfl rfl (E.call Tryz.call186 (A1 rfl)) (w_spec_l14Count S36.sl a1 hr38) ?_
  rintro e w39 ⟨rfl, r40⟩
  refine ⟨_, rfl, ?_⟩
  have S41 := S36.call r40
  refine FL.v (E.lss rfl rfl) ?_
  refine FL.v (E.assign (v := Value.bool (decide (r32 < r37))) rfl) ?_
  refine FL.nil ?_
  refine FW.ret ?_
  obtain rfl := Option.some.inj hp
  exact ⟨.inr rfl, res1 rfl rfl ⟨rfl, S41.back⟩⟩
 ·
  refine FW.condF rfl c31 ?_
  refine FW.skip (FW.seq (FW.region ?_))
  refine FL.v (E.move (v := Value.int .i64 a0) rfl) ?_
  refine FL.v (E.move (v := Value.int .i64 a1) rfl) ?_
  refine FL.v (E.lss rfl rfl) ?_
  refine FL.v (E.assign (v := Value.bool (decide (a0 < a1))) rfl) ?_
  refine FL.nil ?_
  refine FW.ret ?_
  obtain rfl := Option.some.inj hp
  exact ⟨.inr rfl, res1 rfl rfl ⟨rfl, S30.back⟩⟩

theorem w_spec_l20Lead {Ha : GH} {wa : World} (hs : Sl Ha wa) (v0 : Value) (a0 : List Term) (p0 : RSl Ha eTerm 2 v0 a0) {r : Int} (hp : (PF.spec_l20Lead a0) = some r) :
    Calls Tryz.prog 155 #[v0] wa (Sc Ha wa (Value.int .i64 r)) := by
  unfold PF.spec_l20Lead at hp
  have S0 := St.init hs
  refine calls_go (N := 28) (args := [v0]) Tryz.func155 rfl rfl rfl ?_
  refine FW.seq (FW.region ?_)
  refine FL.v (E.assign (v := Value.int .i64 0) rfl) ?_
  refine FL.nil (FW.seq (FW.region ?_))
  refine FL.v (E.move (v := v0) rfl) ?_
  obtain ⟨x27, hx28, hp⟩ := bnd hp
  obtain ⟨p21, cs22, pt23, l24, at25, rel26⟩ := p0.at hx28
  obtain rfl := eTerm_open rel26
  refine FL.v (E.indexAddr te55 rfl rfl pt23) ?_
  refine FL.v (E.fieldAddr tf108_0 rfl) ?_
  refine FL.v (E.load rfl (run_load1 Tryz.isAgg3 (at25.now S0.sl) rfl)) ?_
  refine FL.v (E.assign (v := Value.int .i64 x27.mono) rfl) ?_
  refine FL.nil (FW.seq (FW.seq (FW.region ?_)))
  refine FL.v (E.assign (v := Value.int .i64 1) rfl) ?_
  refine FL.nil ?_
  obtain ⟨q29, hq, hp⟩ := bndR hp
  refine FW.block ?_
  refine FW.mono (FW.forR (S := Int) (X := Empty) (fun (i29 : Nat) (s29 : Int) f w => ∃ H : GH, St Ha wa H w [] ∧ Inc Ha H ∧ f 4 = Value.int .i64 ((i29 : Nat) : Int) ∧ f 0 = v0 ∧ f 3 = Value.int .i64 s29) (fun (q : Rs Int Empty) e f w => match q with | .go s29 => e = Exit.exit 0 ∧ (∃ H : GH, St Ha wa H w [] ∧ Inc Ha H ∧ f 3 = Value.int .i64 s29) | .rt x => x.elim) hq ⟨_, S0, (Inc.rfl _), rfl, rfl, rfl⟩ ?_ ?_) ?_
  ·
    clear hp hq
    rintro i29 s29 f64 w63 ⟨H60, S61, i62, k65, k66, k67⟩ hi29 hj29 o90 hp
    refine FW.seq (FW.seq (FW.region ?_))
    refine FL.v (E.move k65) ?_
    refine FL.v (E.move k66) ?_
    refine FL.v (E.lenP te55 rfl p0) ?_
    refine FL.v (E.lssT rfl rfl (lss_natlen hj29)) ?_
    refine FL.nil ?_
    refine FW.condT rfl rfl ?_
    refine FW.skip (FW.seq (FW.block (FW.seq (FW.region ?_))))
    refine FL.v (E.move k67) ?_
    refine FL.v (E.move k66) ?_
    refine FL.v (E.move k65) ?_
    obtain ⟨x74, hx75, hp⟩ := bnd hp
    obtain ⟨p68, cs69, pt70, l71, at72, rel73⟩ := p0.at hx75
    obtain rfl := eTerm_open rel73
    refine FL.v (E.indexAddr te55 rfl rfl pt70) ?_
    refine FL.v (E.fieldAddr tf108_0 rfl) ?_
    refine FL.v (E.load rfl (run_load1 Tryz.isAgg3 ((at72.mono i62).now S61.sl) rfl)) ?_
    obtain ⟨r76, hr77, hp⟩ := bnd hp
    refine FL.call rfl rfl rfl (E.call Tryz.call203 (A2 rfl rfl)) (w_spec_l20Before S61.sl s29 x74.mono hr77) ?_
    rintro e w78 ⟨rfl, r79⟩
    refine ⟨_, rfl, ?_⟩
    have S80 := S61.call r79
    refine FL.nil ?_
    rcases ifB hp with ⟨c81, hp⟩ | ⟨c81, hp⟩
    ·
      refine FW.condT rfl c81 ?_
      refine FW.region ?_
      refine FL.v (E.move k66) ?_
      refine FL.v (E.move k65) ?_
      obtain ⟨x88, hx89, hp⟩ := bnd hp
      obtain ⟨p82, cs83, pt84, l85, at86, rel87⟩ := p0.at hx89
      obtain rfl := eTerm_open rel87
      refine FL.v (E.indexAddr te55 rfl rfl pt84) ?_
      refine FL.v (E.fieldAddr tf108_0 rfl) ?_
      refine FL.v (E.load rfl (run_load1 Tryz.isAgg3 ((at86.mono i62).now S80.sl) rfl)) ?_
      refine FL.v (E.assign (v := Value.int .i64 x88.mono) rfl) ?_
      refine FL.nil (FW.region ?_)
      refine FL.v (E.move k65) ?_
      refine FL.v (E.add rfl rfl) ?_
      refine FL.v (E.assign (v := Value.int .i64 (wr (((i29 : Nat) : Int) + 1))) rfl) ?_
      refine FL.nil ?_
      obtain rfl := Option.some.inj hp
      exact ⟨rfl, ⟨_, S80, i62, (nat_succ rfl hj29 (p0.mono i62).le), k66, rfl⟩⟩
    ·
      refine FW.condF rfl c81 ?_
      refine FW.skip (FW.region ?_)
      refine FL.v (E.move k65) ?_
      refine FL.v (E.add rfl rfl) ?_
      refine FL.v (E.assign (v := Value.int .i64 (wr (((i29 : Nat) : Int) + 1))) rfl) ?_
      refine FL.nil ?_
      obtain rfl := Option.some.inj hp
      exact ⟨rfl, ⟨_, S80, i62, (nat_succ rfl hj29 (p0.mono i62).le), k66, k67⟩⟩
  ·
    clear hp hq
    rintro s29 f101 w100 ⟨H97, S98, i99, k102, k103, k104⟩
    refine FW.seq (FW.seq (FW.region ?_))
    refine FL.v (E.move k102) ?_
    refine FL.v (E.move k103) ?_
    refine FL.v (E.lenP te55 rfl p0) ?_
    refine FL.v (E.lss rfl rfl) ?_
    refine FL.nil ?_
    refine FW.condF rfl dlt_maxlen ?_
    refine FW.exit ?_
    exact ⟨nofun, rfl, ⟨_, S98, i99, k104⟩⟩
  ·
    clear hq
    intro e f95 w94 hD
    rcases q29 with s29 | x29
    ·
      obtain ⟨rfl, hD⟩ := hD
      obtain ⟨H91, S92, i93, k96⟩ := hD
      replace hp := el_go hp
      refine FW.seq (FW.region ?_)
      refine FL.v (E.move k96) ?_
      refine FL.v (E.assign (v := Value.int .i64 s29) rfl) ?_
      refine FL.nil ?_
      refine FW.ret ?_
      obtain rfl := Option.some.inj hp
      exact ⟨.inr rfl, res1 rfl rfl ⟨rfl, S92.back⟩⟩
    · exact x29.elim

theorem w_spec_l20Coeff {Ha : GH} {wa : World} (hs : Sl Ha wa) (v0 : Value) (a0 : List Term) (p0 : RSl Ha eTerm 2 v0 a0) (a1 : Int) {r : Int} (hp : (PF.spec_l20Coeff a0 a1) = some r) :
  Calls Tryz.prog 154 #[v0, Value.int .i64 a1] wa (Sc Ha wa (Value.int .i64 r)) := by
 unfold PF.spec_l20Coeff at hp
 have S0 := St.init hs
 refine calls_go (N := 24) (args := [v0, Value.int .i64 a1]) Tryz.func154 rfl rfl rfl ?_
 refine FW.seq (FW.region ?_)
 refine FL.v (E.assign (v := Value.int .i64 0) rfl) ?_
 refine FL.nil (FW.seq (FW.seq (FW.region ?_)))
 refine FL.v (E.assign (v := Value.int .i64 0) rfl) ?_
 refine FL.nil ?_
 obtain ⟨q22, hq, hp⟩ := bndR hp
 refine FW.block ?_
 refine FW.mono (FW.forL (S := Unit) (X := Int) (fun (i22 : Nat) (s22 : Unit) f w => ∃ H : GH, St Ha wa H w [] ∧ Inc Ha H ∧ f 5 = Value.int .i64 ((i22 : Nat) : Int) ∧ f 0 = v0 ∧ f 1 = Value.int .i64 a1) (fun q e f w => match q with | .go s22 => e = Exit.exit 0 ∧ (∃ H : GH, St Ha wa H w [] ∧ Inc Ha H) | .rt x => ((e = Exit.ret) ∧ (fun e f w => (e = Exit.normal ∨ e = Exit.ret) ∧ ∀ a, Fr (δ := []) 24 a f → ∃ v, (results Tryz.f154 a.tmps).run Tryz.prog w = .ok v w ∧ (Sc Ha wa (Value.int .i64 x)) (.returned v) w) e f w)) hq ⟨_, S0, (Inc.rfl _), rfl, rfl, rfl⟩ ?_ ?_) ?_
 ·
  clear hp hq
  rintro i22 y21 s22 f48 w47 ⟨H44, S45, i46, k49, k50, k51⟩ hx22 o65 hp
  refine FW.seq (FW.seq (FW.region ?_))
  refine FL.v (E.move k49) ?_
  refine FL.v (E.move k50) ?_
  refine FL.v (E.lenP te55 rfl p0) ?_
  refine FL.v (E.lssT rfl rfl (lss_len hx22)) ?_
  refine FL.nil ?_
  refine FW.condT rfl rfl ?_
  refine FW.skip (FW.seq (FW.block (FW.seq (FW.region ?_))))
  refine FL.v (E.move k50) ?_
  refine FL.v (E.move k49) ?_
  obtain ⟨p52, cs53, pt54, l55, at56, rel57⟩ := p0.at (ix_nat hx22)
  obtain rfl := eTerm_open rel57
  refine FL.v (E.indexAddr te55 rfl rfl pt54) ?_
  refine FL.v (E.fieldAddr tf108_0 rfl) ?_
  refine FL.v (E.load rfl (run_load1 Tryz.isAgg3 ((at56.mono i46).now S45.sl) rfl)) ?_
  refine FL.v (E.move k51) ?_
  refine FL.v (E.eql rfl rfl) ?_
  refine FL.nil ?_
  rcases ifB hp with ⟨c58, hp⟩ | ⟨c58, hp⟩
  ·
   refine FW.condT rfl c58 ?_
   refine FW.seq (FW.region ?_)
   refine FL.v (E.move k50) ?_
   refine FL.v (E.move k49) ?_
   obtain ⟨p59, cs60, pt61, l62, at63, rel64⟩ := p0.at (ix_nat hx22)
   obtain rfl := eTerm_open rel64
   refine FL.v (E.indexAddr te55 rfl rfl pt61) ?_
   refine FL.v (E.fieldAddr tf108_1 rfl) ?_
   refine FL.v (E.load rfl (run_load1 Tryz.isAgg3 ((at63.mono i46).now S45.sl) rfl)) ?_
   refine FL.v (E.assign (v := Value.int .i64 y21.coeff) rfl) ?_
   refine FL.nil ?_
   refine FW.ret ?_
   obtain rfl := Option.some.inj hp
   exact ⟨nofun, rfl, ⟨.inr rfl, res1 rfl rfl ⟨rfl, S45.back⟩⟩⟩
  ·
   refine FW.condF rfl c58 ?_
   refine FW.skip (FW.region ?_)
   refine FL.v (E.move k49) ?_
   refine FL.v (E.add rfl rfl) ?_
   refine FL.v (E.assign (v := Value.int .i64 (wr (((i22 : Nat) : Int) + 1))) rfl) ?_
   refine FL.nil ?_
   obtain rfl := Option.some.inj hp
   exact ⟨rfl, ⟨_, S45, i46, (nat_succ rfl (lt_of_get hx22) (p0.mono i46).le), k50, k51⟩⟩
 ·
  clear hp hq
  rintro s22 f75 w74 ⟨H71, S72, i73, k76, k77, k78⟩
  refine FW.seq (FW.seq (FW.region ?_))
  refine FL.v (E.move k76) ?_
  refine FL.v (E.move k77) ?_
  refine FL.v (E.lenP te55 rfl p0) ?_
  refine FL.v (E.lss rfl rfl) ?_
  refine FL.nil ?_
  refine FW.condF rfl dlt_len ?_
  refine FW.exit ?_
  exact ⟨nofun, rfl, ⟨_, S72, i73⟩⟩
 ·
  clear hq
  intro e f70 w69 hD
  rcases q22 with s22 | x22
  ·
   obtain ⟨rfl, hD⟩ := hD
   obtain ⟨H66, S67, i68⟩ := hD
   replace hp := el_go hp
   refine FW.seq (FW.region ?_)
   refine FL.v (E.assign (v := Value.int .i64 0) rfl) ?_
   refine FL.nil ?_
   refine FW.ret ?_
   obtain rfl := Option.some.inj hp
   exact ⟨.inr rfl, res1 rfl rfl ⟨rfl, S67.back⟩⟩
  ·
   obtain ⟨he, hL⟩ := hD
   replace hp := el_rt hp
   obtain rfl := Option.some.inj hp
   subst he
   exact hL

@[reducible] def p_spec_l18Dense (Ha : GH) (wa : World) (r : (List Int)) : Ending → World → Prop :=
  fun e w' => ∃ H' : GH, ∃ v0 : Value, ∃ n0 : Nat, ∃ c0 : List Value, e = .returned (v0) ∧ St Ha wa H' w' [.row 3 1 v0 n0 c0] ∧ Els (up wa.heap.size H') eI 1 c0 r
theorem w_spec_l18Dense {Ha : GH} {wa : World} (hs : Sl Ha wa) (a0 : Int) (v1 : Value) (a1 : List Term) (p1 : RSl Ha eTerm 2 v1 a1) {r : (List Int)} (hp : (PF.spec_l18Dense a0 a1) = some r) :
    Calls Tryz.prog 204 #[Value.int .i64 a0, v1] wa (p_spec_l18Dense Ha wa r) := by
  unfold PF.spec_l18Dense at hp
  have S0 := St.init hs
  refine calls_go (N := 29) (args := [Value.int .i64 a0, v1]) Tryz.func204 rfl rfl rfl ?_
  refine FW.seq (FW.region ?_)
  refine FL.v (E.assign (v := Value.slice none 0 0) rfl) ?_
  refine FL.nil (FW.seq (FW.region ?_))
  refine FL.v (E.move (v := Value.int .i64 a0) rfl) ?_
  obtain ⟨u22, z21, hp⟩ := bnd hp
  refine FL.v (E.shl rfl rfl (nn_ge z21)) ?_
  obtain ⟨xs23, hm24, hp⟩ := bnd hp
  obtain ⟨v25, w26, n30, cs31, run27, S28, els29, hbl32⟩ := S0.makeEls (P := Tryz.prog) te73 (G := (up wa.heap.size Ha)) (En := eI) (x0 := (0 : Int)) hm24 rfl (ones_cons rfl ones_nil) .i64 .i64
  refine FL.v (E.makeSlice rfl rfl run27) ?_
  refine FL.v (E.assign (v := v25) rfl) ?_
  refine FL.nil (FW.seq (FW.seq (FW.region ?_)))
  refine FL.v (E.assign (v := Value.int .i64 0) rfl) ?_
  refine FL.nil ?_
  obtain ⟨q34, hq, hp⟩ := bndR hp
  refine FW.block ?_
  refine FW.mono (FW.forL (S := (List Int)) (X := Empty) (fun (i34 : Nat) (s34 : (List Int)) f w => ∃ H : GH, ∃ v35 : Value, ∃ n36 : Nat, ∃ cs37 : List Value, St Ha wa H w [.row 3 1 v35 n36 cs37] ∧ Inc Ha H ∧ Els (up wa.heap.size H) eI 1 cs37 s34 ∧ f 6 = Value.int .i64 ((i34 : Nat) : Int) ∧ f 1 = v1 ∧ f 5 = v35) (fun (q : Rs (List Int) Empty) e f w => match q with | .go s34 => e = Exit.exit 0 ∧ (∃ H : GH, ∃ v35 : Value, ∃ n36 : Nat, ∃ cs37 : List Value, St Ha wa H w [.row 3 1 v35 n36 cs37] ∧ Inc Ha H ∧ Els (up wa.heap.size H) eI 1 cs37 s34 ∧ f 5 = v35) | .rt x => x.elim) hq ⟨_, _, _, _, S28, (Inc.rfl _), els29, rfl, rfl, rfl⟩ ?_ ?_) ?_
  ·
    clear hp hq
    rintro i34 y33 s34 f43 w42 ⟨H39, v35, n36, cs37, S40, i41, els38, k44, k45, k46⟩ hx34 o93 hp
    refine FW.seq (FW.seq (FW.region ?_))
    refine FL.v (E.move k44) ?_
    refine FL.v (E.move k45) ?_
    refine FL.v (E.lenP te55 rfl p1) ?_
    refine FL.v (E.lssT rfl rfl (lss_len hx34)) ?_
    refine FL.nil ?_
    refine FW.condT rfl rfl ?_
    refine FW.skip (FW.seq (FW.block ?_))
    obtain ⟨x69, hx70, hp⟩ := bnd hp
    obtain ⟨xs76, hput77, hp⟩ := bnd hp
    refine FW.drawB (Sl H39) (fun f w => ∃ H : GH, ∃ v81 : Value, ∃ n82 : Nat, ∃ cs83 : List Value, St Ha wa H w [.row 3 1 v81 n82 cs83] ∧ Inc H39 H ∧ Els (up wa.heap.size H) eI 1 cs83 xs76 ∧ f 1 = v1 ∧ f 5 = v81 ∧ f 6 = Value.int .i64 ((i34 : Nat) : Int)) (by kernel_rfl) S40.sl ?_ ?_
    ·
      intro w47 r48
      have S49 := S40.call r48
      refine FB.t (i := 0) (bs 13 1) rfl (SP.nil S49.sl) rfl (fun w' hw' => (E.move k46)) ?_
      refine FB.t (i := 1) (bs 13 3) rfl (SP.nil S49.sl) rfl (fun w' hw' => (E.move k45)) ?_
      refine FB.t (i := 2) (bs 13 7) rfl (SP.nil S49.sl) rfl (fun w' hw' => (E.move k44)) ?_
      obtain ⟨p50, cs51, pt52, l53, at54, rel56⟩ := p1.at (ix_nat hx34)
      obtain rfl := eTerm_open rel56
      refine FB.t (i := 3) (bs 13 15) rfl (SP.nil S49.sl) rfl (fun w' hw' => (E.indexAddr te55 rfl rfl pt52)) ?_
      refine FB.t (i := 4) (bs 13 31) rfl (SP.nil S49.sl) rfl (fun w' hw' => (E.fieldAddr tf108_0 rfl)) ?_
      refine FB.t (i := 5) (bs 13 63) rfl (SP.nil S49.sl) rfl (fun w' hw' => (E.load rfl (run_load1 Tryz.isAgg3 ((at54.mono i41).now hw') rfl))) ?_
      refine FB.t (i := 6) (bs 13 127) rfl (SP.nil S49.sl) rfl (fun w' hw' => (E.move k45)) ?_
      refine FB.t (i := 7) (bs 13 255) rfl (SP.nil S49.sl) rfl (fun w' hw' => (E.move k44)) ?_
      obtain ⟨p57, cs58, pt59, l60, at61, rel62⟩ := p1.at (ix_nat hx34)
      obtain rfl := eTerm_open rel62
      refine FB.t (i := 8) (bs 13 511) rfl (SP.nil S49.sl) rfl (fun w' hw' => (E.indexAddr te55 rfl rfl pt59)) ?_
      refine FB.t (i := 9) (bs 13 1023) rfl (SP.nil S49.sl) rfl (fun w' hw' => (E.fieldAddr tf108_1 rfl)) ?_
      refine FB.t (i := 10) (bs 13 2047) rfl (SP.nil S49.sl) rfl (fun w' hw' => (E.load rfl (run_load1 Tryz.isAgg3 ((at61.mono i41).now hw') rfl))) ?_
      obtain ⟨p63, cs64, pt65, l66, at67, rel68, hall71⟩ := S49.row_atA (i := 0) rfl els38 (by decide) hx70
      obtain rfl := eI_open rel68
      refine FB.t (i := 11) (bs 13 4095) rfl (SP.nil S49.sl) rfl (fun w' hw' => (E.indexAddr te73 rfl rfl pt65)) ?_
      refine FB.all1 (i := 12) (by kernel_rfl) ?_
      ·
        obtain ⟨w72, cs79, run74, S75, els78, ce80⟩ := S49.putEls (P := Tryz.prog) (t := 3) (i := 0) rfl els38 hput77 pt65 Tryz.sizeOf3 (u := Value.int .i64 y33.coeff) (c := [Value.int .i64 y33.coeff]) rfl rfl (ones_cons rfl ones_nil) rfl
        have S75 : St Ha wa H39 w72 [.row 3 1 v35 n36 cs79] := S75
        refine FC.act (l' := (bs 13 8191)) rfl (by kernel_rfl) rfl rfl (E.store rfl rfl run74) ?_
        refine ⟨(SP.nil S75.sl), ?_⟩
        exact FB.done (by kernel_rfl) ⟨_, _, _, _, S75, (Inc.rfl _), els78, k45, k46, k44⟩
    ·
      rintro f89 w88 ⟨H85, v81, n82, cs83, S86, i87, els84, k90, k91, k92⟩
      refine FW.region ?_
      refine FL.v (E.move k92) ?_
      refine FL.v (E.add rfl rfl) ?_
      refine FL.v (E.assign (v := Value.int .i64 (wr (((i34 : Nat) : Int) + 1))) rfl) ?_
      refine FL.nil ?_
      obtain rfl := Option.some.inj hp
      exact ⟨rfl, ⟨_, _, _, _, S86, (i41.tr i87), els84, (nat_succ rfl (lt_of_get hx34) (p1.mono (i41.tr i87)).le), k90, k91⟩⟩
  ·
    clear hp hq
    rintro s34 f104 w103 ⟨H100, v35, n36, cs37, S101, i102, els38, k105, k106, k107⟩
    refine FW.seq (FW.seq (FW.region ?_))
    refine FL.v (E.move k105) ?_
    refine FL.v (E.move k106) ?_
    refine FL.v (E.lenP te55 rfl p1) ?_
    refine FL.v (E.lss rfl rfl) ?_
    refine FL.nil ?_
    refine FW.condF rfl dlt_len ?_
    refine FW.exit ?_
    exact ⟨nofun, rfl, ⟨_, _, _, _, S101, i102, els38, k107⟩⟩
  ·
    clear hq
    intro e f98 w97 hD
    rcases q34 with s34 | x34
    ·
      obtain ⟨rfl, hD⟩ := hD
      obtain ⟨H94, v35, n36, cs37, S95, i96, els38, k99⟩ := hD
      replace hp := el_go hp
      refine FW.seq (FW.region ?_)
      refine FL.v (E.move k99) ?_
      refine FL.v (E.assign (v := v35) rfl) ?_
      refine FL.nil ?_
      refine FW.ret ?_
      obtain rfl := Option.some.inj hp
      exact ⟨.inr rfl, res1 rfl rfl ⟨_, _, _, _, rfl, S95, els38⟩⟩
    · exact x34.elim

@[reducible] def p_spec_l18Add (Ha : GH) (wa : World) (r : (List Term)) : Ending → World → Prop :=
  fun e w' => ∃ H' : GH, ∃ v0 : Value, ∃ n0 : Nat, ∃ c0 : List Value, e = .returned (v0) ∧ St Ha wa H' w' [.row 108 2 v0 n0 c0] ∧ Els (up wa.heap.size H') eTerm 2 c0 r
theorem w_spec_l18Add {Ha : GH} {wa : World} (hs : Sl Ha wa) (a0 : Int) (a1 : Int) (v2 : Value) (a2 : List Term) (p2 : RSl Ha eTerm 2 v2 a2) (v3 : Value) (a3 : List Term) (p3 : RSl Ha eTerm 2 v3 a3) (a4 : Int) {r : (List Term)} (hp : (PF.spec_l18Add a0 a1 a2 a3 a4) = some r) :
    Calls Tryz.prog 156 #[Value.int .i64 a0, Value.int .i64 a1, v2, v3, Value.int .i64 a4] wa (p_spec_l18Add Ha wa r) := by
  unfold PF.spec_l18Add at hp
  have S0 := St.init hs
  refine calls_go (N := 43) (args := [Value.int .i64 a0, Value.int .i64 a1, v2, v3, Value.int .i64 a4]) Tryz.func156 rfl rfl rfl ?_
  refine FW.seq (FW.region ?_)
  refine FL.v (E.assign (v := Value.slice none 0 0) rfl) ?_
  refine FL.nil (FW.seq (FW.region ?_))
  refine FL.v (E.move (v := Value.int .i64 a1) rfl) ?_
  refine FL.v (E.move (v := v2) rfl) ?_
  obtain ⟨r21, hr22, hp⟩ := bnd hp
  refine FL.call rfl rfl rfl (E.call Tryz.call204 (A2 rfl rfl)) (w_spec_l18Dense S0.sl a1 v2 a2 p2 hr22) ?_
  rintro e w24 ⟨H23, v27, n28, cs29, rfl, r26, els30⟩
  refine ⟨_, rfl, ?_⟩
  have els30 := els30.mono (up_le S0.size)
  have S25 := S0.join (l' := [.row 3 1 v27 n28 cs29]) r26 rfl
  refine FL.v (E.move (v := Value.int .i64 a1) rfl) ?_
  refine FL.v (E.move (v := v3) rfl) ?_
  obtain ⟨r31, hr32, hp⟩ := bnd hp
  refine FL.call rfl rfl rfl (E.call Tryz.call204 (A2 rfl rfl)) (w_spec_l18Dense S25.sl a1 v3 a3 (p3.mono r26.run.inc) hr32) ?_
  rintro e w34 ⟨H33, v37, n38, cs39, rfl, r36, els40⟩
  refine ⟨_, rfl, ?_⟩
  have els40 := els40.mono (up_le S25.size)
  have S35 := S25.join (l' := [.row 3 1 v37 n38 cs39, .row 3 1 v27 n28 cs29]) r36 rfl
  refine FL.v (E.assign (v := v27) rfl) ?_
  refine FL.v (E.assign (v := v37) rfl) ?_
  refine FL.nil (FW.seq (FW.seq (FW.region ?_)))
  refine FL.v (E.assign (v := Value.int .i64 0) rfl) ?_
  refine FL.nil ?_
  obtain ⟨q41, hq, hp⟩ := bndR hp
  refine FW.block ?_
  refine FW.mono (FW.iter (S := ((List Int) × Int)) (X := Empty) (fun (s41 : ((List Int) × Int)) f w => ∃ H : GH, ∃ v42 : Value, ∃ n43 : Nat, ∃ cs44 : List Value, St Ha wa H w [.row 3 1 v37 n38 cs39, .row 3 1 v42 n43 cs44] ∧ Inc H33 H ∧ Els (up wa.heap.size H) eI 1 cs44 s41.1 ∧ f 0 = Value.int .i64 a0 ∧ f 4 = Value.int .i64 a4 ∧ f 11 = v42 ∧ f 12 = v37 ∧ f 13 = Value.int .i64 s41.2) (fun (q : Rs ((List Int) × Int) Empty) e f w => match q with | .go s41 => e = Exit.exit 0 ∧ (∃ H : GH, ∃ v42 : Value, ∃ n43 : Nat, ∃ cs44 : List Value, St Ha wa H w [.row 3 1 v37 n38 cs39, .row 3 1 v42 n43 cs44] ∧ Inc H33 H ∧ Els (up wa.heap.size H) eI 1 cs44 s41.1 ∧ f 0 = Value.int .i64 a0 ∧ f 11 = v42) | .rt x => x.elim) hq ⟨_, _, _, _, S35, (Inc.rfl _), (els30.mono (up_mono r36.run.inc)), rfl, rfl, rfl, rfl, rfl⟩ ?_) ?_
  ·
    clear hp hq
    rintro s41 f50 w49 ⟨H46, v42, n43, cs44, S47, i48, els45, k51, k52, k53, k54, k55⟩ o110 hp
    refine FW.seq (FW.seq (FW.region ?_))
    refine FL.v (E.move k55) ?_
    refine FL.v (E.move k53) ?_
    refine FL.v (E.lenO te73 rfl S47 (i := 1) rfl els45 (by decide)) ?_
    refine FL.v (E.lss rfl rfl) ?_
    refine FL.nil ?_
    rcases ifB hp with ⟨c56, hp⟩ | ⟨c56, hp⟩
    ·
      refine FW.condT rfl c56 ?_
      refine FW.skip (FW.seq (FW.block ?_))
      obtain ⟨x66, hx67, hp⟩ := bnd hp
      obtain ⟨x76, hx77, hp⟩ := bnd hp
      obtain ⟨x85, hx86, hp⟩ := bnd hp
      obtain ⟨xs91, hput92, hp⟩ := bnd hp
      refine FW.drawB (SX Ha wa H46 [.row 3 1 v37 n38 cs39]) (fun f w => ∃ H : GH, ∃ v96 : Value, ∃ n97 : Nat, ∃ cs98 : List Value, St Ha wa H w [.row 3 1 v37 n38 cs39, .row 3 1 v96 n97 cs98] ∧ Inc H46 H ∧ Els (up wa.heap.size H) eI 1 cs98 xs91 ∧ f 0 = Value.int .i64 a0 ∧ f 4 = Value.int .i64 a4 ∧ f 11 = v96 ∧ f 12 = v37 ∧ f 13 = Value.int .i64 s41.2) (by kernel_rfl) S47.sl ?_ ?_
      ·
        intro w57 r58
        have S59 := S47.call r58
        refine FB.t (i := 0) (bs 15 1) rfl (SP.nil ⟨_, (S59.sel [0] (by decide) rfl), (Inc.rfl _)⟩) rfl (fun w' hw' => (E.move k53)) ?_
        refine FB.t (i := 1) (bs 15 3) rfl (SP.nil ⟨_, (S59.sel [0] (by decide) rfl), (Inc.rfl _)⟩) rfl (fun w' hw' => (E.move k55)) ?_
        refine FB.t (i := 2) (bs 15 7) rfl (SP.nil ⟨_, (S59.sel [0] (by decide) rfl), (Inc.rfl _)⟩) rfl (fun w' hw' => (E.move k53)) ?_
        refine FB.t (i := 3) (bs 15 15) rfl (SP.nil ⟨_, (S59.sel [0] (by decide) rfl), (Inc.rfl _)⟩) rfl (fun w' hw' => (E.move k55)) ?_
        obtain ⟨p60, cs61, pt62, l63, at64, rel65, hall68⟩ := S59.row_atA (i := 1) rfl els45 (by decide) hx67
        obtain rfl := eI_open rel65
        refine FB.t (i := 4) (bs 15 31) rfl (SP.nil ⟨_, (S59.sel [0] (by decide) rfl), (Inc.rfl _)⟩) rfl (fun w' hw' => (E.indexAddr te73 rfl rfl pt62)) ?_
        refine FB.phase [14] (fun w' => WAt w' p60 [Value.int .i64 x66]) ?_
        refine FB.p (i := 5) (bs 15 63) 0 [12, 13, 14] rfl (SP.on (hall68 _ _ _ 1 S59 rfl) (SP.nil ⟨_, (S59.sel [0] (by decide) rfl), (Inc.rfl _)⟩)) rfl rfl (fun w' hw' => (E.load rfl (run_load0 Tryz.isAgg3 hw' rfl))) ?_
        refine FB.t (i := 6) (bs 15 127) rfl (SP.on (hall68 _ _ _ 1 S59 rfl) (SP.nil ⟨_, (S59.sel [0] (by decide) rfl), (Inc.rfl _)⟩)) rfl (fun w' hw' => (E.move k52)) ?_
        refine FB.t (i := 7) (bs 15 255) rfl (SP.on (hall68 _ _ _ 1 S59 rfl) (SP.nil ⟨_, (S59.sel [0] (by decide) rfl), (Inc.rfl _)⟩)) rfl (fun w' hw' => (E.move k54)) ?_
        refine FB.t (i := 8) (bs 15 511) rfl (SP.on (hall68 _ _ _ 1 S59 rfl) (SP.nil ⟨_, (S59.sel [0] (by decide) rfl), (Inc.rfl _)⟩)) rfl (fun w' hw' => (E.move k55)) ?_
        obtain ⟨p69, cs70, pt71, l72, at74, rel75, hall78⟩ := S59.row_atA (i := 0) rfl els40 (by decide) hx77
        obtain rfl := eI_open rel75
        refine FB.t (i := 9) (bs 15 1023) rfl (SP.on (hall68 _ _ _ 1 S59 rfl) (SP.nil ⟨_, (S59.sel [0] (by decide) rfl), (Inc.rfl _)⟩)) rfl (fun w' hw' => (E.indexAddr te73 rfl rfl pt71)) ?_
        refine FB.t (i := 10) (bs 15 2047) rfl (SP.on (hall68 _ _ _ 1 S59 rfl) (SP.nil ⟨_, (S59.sel [0] (by decide) rfl), (Inc.rfl _)⟩)) rfl (fun w' hw' => (E.load rfl (run_load0 Tryz.isAgg3 (hw'.use fun _ st => hall78 _ _ _ 0 st rfl) rfl))) ?_
        refine FB.t (i := 11) (bs 15 4095) rfl (SP.on (hall68 _ _ _ 1 S59 rfl) (SP.nil ⟨_, (S59.sel [0] (by decide) rfl), (Inc.rfl _)⟩)) rfl (fun w' hw' => (E.mul rfl rfl)) ?_
        refine FB.t (i := 12) (bs 15 8191) rfl (SP.on (hall68 _ _ _ 1 S59 rfl) (SP.nil ⟨_, (S59.sel [0] (by decide) rfl), (Inc.rfl _)⟩)) rfl (fun w' hw' => (E.add rfl rfl)) ?_
        obtain ⟨p79, cs80, pt81, l82, at83, rel84, hall87⟩ := S59.row_atA (i := 1) rfl els45 (by decide) hx86
        obtain rfl := eI_open rel84
        refine FB.t (i := 13) (bs 15 16383) rfl (SP.on (hall68 _ _ _ 1 S59 rfl) (SP.nil ⟨_, (S59.sel [0] (by decide) rfl), (Inc.rfl _)⟩)) rfl (fun w' hw' => (E.indexAddr te73 rfl rfl pt81)) ?_
        refine FB.all1 (i := 14) (by kernel_rfl) ?_
        ·
          obtain ⟨w88, cs94, run89, S90, els93, ce95⟩ := S59.putEls (P := Tryz.prog) (t := 3) (i := 1) rfl els45 hput92 pt81 Tryz.sizeOf3 (u := Value.int .i64 (wr (x66 + (wr (a4 * x76))))) (c := [Value.int .i64 (wr (x66 + (wr (a4 * x76))))]) rfl rfl (ones_cons rfl ones_nil) rfl
          have S90 : St Ha wa H46 w88 [.row 3 1 v37 n38 cs39, .row 3 1 v42 n43 cs94] := S90
          refine FC.act (l' := (bs 15 32767)) rfl (by kernel_rfl) rfl rfl (E.store rfl rfl run89) ?_
          refine ⟨(SP.o (SP.nil ⟨_, (S90.sel [0] (by decide) rfl), (Inc.rfl _)⟩)), ?_⟩
          exact FB.done (by kernel_rfl) ⟨_, _, _, _, S90, (Inc.rfl _), els93, k51, k52, k53, k54, k55⟩
      ·
        rintro f104 w103 ⟨H100, v96, n97, cs98, S101, i102, els99, k105, k106, k107, k108, k109⟩
        refine FW.region ?_
        refine FL.v (E.move k109) ?_
        refine FL.v (E.add rfl rfl) ?_
        refine FL.v (E.assign (v := Value.int .i64 (wr (s41.2 + 1))) rfl) ?_
        refine FL.nil ?_
        obtain rfl := Option.some.inj hp
        exact ⟨rfl, ⟨_, _, _, _, S101, (i48.tr i102), els99, k105, k106, k107, k108, rfl⟩⟩
    ·
      refine FW.condF rfl c56 ?_
      refine FW.exit ?_
      obtain rfl := Option.some.inj hp
      exact ⟨nofun, rfl, ⟨_, _, _, _, S47, i48, els45, k51, k53⟩⟩
  ·
    clear hq
    intro e f115 w114 hD
    rcases q41 with s41 | x41
    ·
      obtain ⟨rfl, hD⟩ := hD
      obtain ⟨H111, v42, n43, cs44, S112, i113, els45, k116, k117⟩ := hD
      replace hp := el_go hp
      refine FW.seq (FW.region ?_)
      refine FL.v (E.move k116) ?_
      refine FL.v (E.move k117) ?_
      obtain ⟨H118, S119, i120, h121, nv122⟩ := S112.sealRowU (i := 1) (l' := [.row 3 1 v37 n38 cs39]) rfl els45 (by decide) rfl
      obtain ⟨r123, hr124, hp⟩ := bnd hp
      refine FL.call rfl rfl rfl (E.call Tryz.call179 (A2 rfl rfl)) (w_spec_l18Sparse S119.sl a0 v42 s41.1 (h121.mono upI) hr124) ?_
      rintro e w126 ⟨H125, v131, n132, cs133, rfl, r128, els134⟩
      refine ⟨_, rfl, ?_⟩
      obtain ⟨H129, r128, hU130⟩ := St.lendX i120 S112.sl r128
      have els134 := els134.mono (hU130.tr (up_le S112.size))
      have S127 := S112.join (l' := [.row 108 2 v131 n132 cs133, .row 3 1 v37 n38 cs39, .row 3 1 v42 n43 cs44]) r128 rfl
      refine FL.v (E.assign (v := v131) rfl) ?_
      refine FL.nil ?_
      refine FW.ret ?_
      obtain rfl := Option.some.inj hp
      exact ⟨.inr rfl, res1 rfl rfl ⟨_, _, _, _, rfl, (S127.sel [0] (by decide) rfl), els134⟩⟩
    · exact x41.elim

@[reducible] def p_spec_l20Rest (Ha : GH) (wa : World) (r : (List Term)) : Ending → World → Prop :=
  fun e w' => ∃ H' : GH, ∃ v0 : Value, e = .returned (v0) ∧ Run wa.heap.size Ha wa H' w' ∧ RSl H' eTerm 2 v0 r
theorem w_spec_l20Rest {Ha : GH} {wa : World} (hs : Sl Ha wa) (a0 : Int) (a1 : Int) (v2 : Value) (a2 : List (List Term)) (p2 : RSl Ha (eL eTerm 2) 1 v2 a2) (v3 : Value) (a3 : List Term) (p3 : RSl Ha eTerm 2 v3 a3) {r : (List Term)} (hp : (PF.spec_l20Rest a0 a1 a2 a3) = some r) :
    Calls Tryz.prog 94 #[Value.int .i64 a0, Value.int .i64 a1, v2, v3] wa (p_spec_l20Rest Ha wa r) := by
  unfold PF.spec_l20Rest at hp
  have S0 := St.init hs
  refine calls_go (N := 39) (args := [Value.int .i64 a0, Value.int .i64 a1, v2, v3]) Tryz.func94 rfl rfl rfl ?_
  refine FW.seq (FW.region ?_)
  refine FL.v (E.assign (v := Value.slice none 0 0) rfl) ?_
  refine FL.nil (FW.seq (FW.seq (FW.region ?_)))
  refine FL.v (E.move (v := v2) rfl) ?_
  refine FL.v (E.lenP te63 rfl p2) ?_
  refine FL.v (E.sub rfl rfl) ?_
  refine FL.v (E.assign (v := Value.int .i64 (wr ((len a2) - 1))) rfl) ?_
  refine FL.nil ?_
  obtain ⟨q21, hq, hp⟩ := bndR hp
  refine FW.block ?_
  refine FW.mono (FW.iter (S := ((List Term) × Int)) (X := Empty) (fun (s21 : ((List Term) × Int)) f w => ∃ H : GH, ∃ v22 : Value, St Ha wa H w [] ∧ Inc Ha H ∧ RSl H eTerm 2 v22 s21.1 ∧ f 0 = Value.int .i64 a0 ∧ f 1 = Value.int .i64 a1 ∧ f 2 = v2 ∧ f 3 = v22 ∧ f 9 = Value.int .i64 s21.2) (fun (q : Rs ((List Term) × Int) Empty) e f w => match q with | .go s21 => e = Exit.exit 0 ∧ (∃ H : GH, ∃ v22 : Value, St Ha wa H w [] ∧ Inc Ha H ∧ RSl H eTerm 2 v22 s21.1 ∧ f 3 = v22) | .rt x => x.elim) hq ⟨_, _, S0, (Inc.rfl _), p3, rfl, rfl, rfl, rfl, rfl⟩ ?_) ?_
  ·
    clear hp hq
    rintro s21 f85 w84 ⟨H81, v22, S82, i83, h23, k86, k87, k88, k89, k90⟩ o138 hp
    refine FW.seq (FW.seq (FW.region ?_))
    refine FL.v (E.move k90) ?_
    refine FL.v (E.geq rfl rfl) ?_
    refine FL.nil ?_
    rcases ifB hp with ⟨c91, hp⟩ | ⟨c91, hp⟩
    ·
      refine FW.condT rfl c91 ?_
      refine FW.skip (FW.seq (FW.block (FW.seq (FW.region ?_))))
      refine FL.v (E.move k89) ?_
      refine FL.v (E.move k88) ?_
      refine FL.v (E.move k90) ?_
      obtain ⟨x98, hx99, hp⟩ := bnd hp
      obtain ⟨p92, cs93, pt94, l95, at96, rel97⟩ := p2.at hx99
      obtain ⟨v100, rfl, h101⟩ := eL_open rel97
      refine FL.v (E.indexAddr te63 rfl rfl pt94) ?_
      refine FL.v (E.load rfl (run_load0 Tryz.isAgg55 ((at96.mono i83).now S82.sl) rfl)) ?_
      obtain ⟨r102, hr103, hp⟩ := bnd hp
      refine FL.call rfl rfl rfl (E.call Tryz.call155 (A1 rfl)) (w_spec_l20Lead S82.sl v100 x98 (h101.mono i83) hr103) ?_
      rintro e w104 ⟨rfl, r105⟩
      refine ⟨_, rfl, ?_⟩
      have S106 := S82.call r105
      obtain ⟨r107, hr108, hp⟩ := bnd hp
      refine FL.call rfl rfl rfl (E.call Tryz.call154 (A2 rfl rfl)) (w_spec_l20Coeff S106.sl v22 s21.1 h23 r102 hr108) ?_
      rintro e w109 ⟨rfl, r110⟩
      refine ⟨_, rfl, ?_⟩
      have S111 := S106.call r110
      refine FL.v (E.assign (v := Value.int .i64 r107) rfl) ?_
      refine FL.nil (FW.seq (FW.region ?_))
      refine FL.v (E.move (v := Value.int .i64 r107) rfl) ?_
      refine FL.v (E.neq rfl rfl) ?_
      refine FL.nil ?_
      rcases ifB hp with ⟨c112, hp⟩ | ⟨c112, hp⟩
      ·
        refine FW.condT rfl c112 ?_
        refine FW.region ?_
        refine FL.v (E.move k86) ?_
        refine FL.v (E.move k87) ?_
        refine FL.v (E.move k89) ?_
        refine FL.v (E.move k88) ?_
        refine FL.v (E.move k90) ?_
        obtain ⟨x119, hx120, hp⟩ := bnd hp
        obtain ⟨p113, cs114, pt115, l116, at117, rel118⟩ := p2.at hx120
        obtain ⟨v121, rfl, h122⟩ := eL_open rel118
        refine FL.v (E.indexAddr te63 rfl rfl pt115) ?_
        refine FL.v (E.load rfl (run_load0 Tryz.isAgg55 ((at117.mono i83).now S111.sl) rfl)) ?_
        refine FL.v (E.move k86) ?_
        refine FL.v (E.move (v := Value.int .i64 r107) rfl) ?_
        refine FL.v (E.sub rfl rfl) ?_
        obtain ⟨r123, hr124, hp⟩ := bnd hp
        refine FL.call rfl rfl rfl (E.call Tryz.call156 (A5 rfl rfl rfl rfl rfl)) (w_spec_l18Add S111.sl a0 a1 v22 s21.1 h23 v121 x119 (h122.mono i83) (wr (a0 - r107)) hr124) ?_
        rintro e w126 ⟨H125, v129, n130, cs131, rfl, r128, els132⟩
        refine ⟨_, rfl, ?_⟩
        have els132 := els132.mono (up_le S111.size)
        have S127 := S111.join (l' := [.row 108 2 v129 n130 cs131]) r128 rfl
        refine FL.v (E.assign (v := v129) rfl) ?_
        refine FL.nil (FW.region ?_)
        refine FL.v (E.move k90) ?_
        refine FL.v (E.sub rfl rfl) ?_
        refine FL.v (E.assign (v := Value.int .i64 (wr (s21.2 - 1))) rfl) ?_
        refine FL.nil ?_
        obtain ⟨H133, S134, i135, h136, nv137⟩ := S127.sealRowU (i := 0) (l' := []) rfl els132 (by decide) rfl
        obtain rfl := Option.some.inj hp
        exact ⟨rfl, ⟨_, _, S134, ((i83.tr r128.run.inc).tr i135), (h136.mono upI), k86, k87, k88, rfl, rfl⟩⟩
      ·
        refine FW.condF rfl c112 ?_
        refine FW.skip (FW.region ?_)
        refine FL.v (E.move k90) ?_
        refine FL.v (E.sub rfl rfl) ?_
        refine FL.v (E.assign (v := Value.int .i64 (wr (s21.2 - 1))) rfl) ?_
        refine FL.nil ?_
        obtain rfl := Option.some.inj hp
        exact ⟨rfl, ⟨_, _, S111, i83, h23, k86, k87, k88, k89, rfl⟩⟩
    ·
      refine FW.condF rfl c91 ?_
      refine FW.exit ?_
      obtain rfl := Option.some.inj hp
      exact ⟨nofun, rfl, ⟨_, _, S82, i83, h23, k89⟩⟩
  ·
    clear hq
    intro e f143 w142 hD
    rcases q21 with s21 | x21
    ·
      obtain ⟨rfl, hD⟩ := hD
      obtain ⟨H139, v22, S140, i141, h23, k144⟩ := hD
      replace hp := el_go hp
      refine FW.seq (FW.region ?_)
      refine FL.v (E.move k144) ?_
      refine FL.v (E.assign (v := v22) rfl) ?_
      refine FL.nil ?_
      refine FW.ret ?_
      obtain rfl := Option.some.inj hp
      exact ⟨.inr rfl, res1 rfl rfl ⟨_, _, rfl, S140.run, h23⟩⟩
    · exact x21.elim

theorem w_spec_l20Inverse {Ha : GH} {wa : World} (hs : Sl Ha wa) (a0 : Int) (a1 : Int) {r : Int} (hp : (PF.spec_l20Inverse a0 a1) = some r) :
    Calls Tryz.prog 205 #[Value.int .i64 a0, Value.int .i64 a1] wa (Sc Ha wa (Value.int .i64 r)) := by
  unfold PF.spec_l20Inverse at hp
  have S0 := St.init hs
  refine calls_go (N := 15) (args := [Value.int .i64 a0, Value.int .i64 a1]) Tryz.func205 rfl rfl rfl ?_
  refine FW.seq (FW.region ?_)
  refine FL.v (E.assign (v := Value.int .i64 0) rfl) ?_
  refine FL.nil (FW.seq (FW.region ?_))
  refine FL.v (E.assign (v := Value.int .i64 1) rfl) ?_
  refine FL.nil (FW.seq ?_)
  obtain ⟨q21, hq, hp⟩ := bndR hp
  refine FW.block ?_
  refine FW.mono (FW.iter (S := Int) (X := Empty) (fun (s21 : Int) f w => ∃ H : GH, St Ha wa H w [] ∧ Inc Ha H ∧ f 0 = Value.int .i64 a0 ∧ f 1 = Value.int .i64 a1 ∧ f 5 = Value.int .i64 s21) (fun (q : Rs Int Empty) e f w => match q with | .go s21 => e = Exit.exit 0 ∧ (∃ H : GH, St Ha wa H w [] ∧ Inc Ha H ∧ f 5 = Value.int .i64 s21) | .rt x => x.elim) hq ⟨_, S0, (Inc.rfl _), rfl, rfl, rfl⟩ ?_) ?_
  ·
    clear hp hq
    rintro s21 f37 w36 ⟨H33, S34, i35, k38, k39, k40⟩ o44 hp
    refine FW.seq (FW.seq (FW.region ?_))
    refine FL.v (E.move k39) ?_
    refine FL.v (E.move k40) ?_
    refine FL.v (E.mul rfl rfl) ?_
    refine FL.v (E.move k38) ?_
    obtain ⟨u42, z41, hp⟩ := bnd hp
    refine FL.v (E.rem rfl rfl (nz_ne z41)) ?_
    refine FL.v (E.neq rfl rfl) ?_
    refine FL.nil ?_
    rcases ifB hp with ⟨c43, hp⟩ | ⟨c43, hp⟩
    ·
      refine FW.condT rfl c43 ?_
      refine FW.skip (FW.block (FW.region ?_))
      refine FL.v (E.move k40) ?_
      refine FL.v (E.add rfl rfl) ?_
      refine FL.v (E.assign (v := Value.int .i64 (wr (s21 + 1))) rfl) ?_
      refine FL.nil ?_
      obtain rfl := Option.some.inj hp
      exact ⟨rfl, ⟨_, S34, i35, k38, k39, rfl⟩⟩
    ·
      refine FW.condF rfl c43 ?_
      refine FW.exit ?_
      obtain rfl := Option.some.inj hp
      exact ⟨nofun, rfl, ⟨_, S34, i35, k40⟩⟩
  ·
    clear hq
    intro e f49 w48 hD
    rcases q21 with s21 | x21
    ·
      obtain ⟨rfl, hD⟩ := hD
      obtain ⟨H45, S46, i47, k50⟩ := hD
      replace hp := el_go hp
      refine FW.seq (FW.region ?_)
      refine FL.v (E.move k50) ?_
      refine FL.v (E.assign (v := Value.int .i64 s21) rfl) ?_
      refine FL.nil ?_
      refine FW.ret ?_
      obtain rfl := Option.some.inj hp
      exact ⟨.inr rfl, res1 rfl rfl ⟨rfl, S46.back⟩⟩
    · exact x21.elim

@[reducible] def p_spec_l20Put (Ha : GH) (wa : World) (r : ((List (List Term)) × Bool)) : Ending → World → Prop :=
  fun e w' => ∃ H' : GH, ∃ v0 : Value, e = .returned (Value.tuple #[v0, Value.bool r.2]) ∧ Run wa.heap.size Ha wa H' w' ∧ RSl H' (eL eTerm 2) 1 v0 r.1
set_option maxHeartbeats 4000000 in
theorem w_spec_l20Put {Ha : GH} {wa : World} (hs : Sl Ha wa) (a0 : Int) (a1 : Int) (v2 : Value) (a2 : List (List Term)) (p2 : RSl Ha (eL eTerm 2) 1 v2 a2) (v3 : Value) (a3 : List Term) (p3 : RSl Ha eTerm 2 v3 a3) {r : ((List (List Term)) × Bool)} (hp : (PF.spec_l20Put a0 a1 a2 a3) = some r) :
    Calls Tryz.prog 157 #[Value.int .i64 a0, Value.int .i64 a1, v2, v3] wa (p_spec_l20Put Ha wa r) := by
  unfold PF.spec_l20Put at hp
  have S0 := St.init hs
  refine calls_go (N := 88) (args := [Value.int .i64 a0, Value.int .i64 a1, v2, v3]) Tryz.func157 rfl rfl rfl ?_
  refine FW.seq (FW.region ?_)
  refine FL.v (E.assign (v := Value.slice none 0 0) rfl) ?_
  refine FL.v (E.assign (v := Value.bool false) rfl) ?_
  refine FL.nil (FW.seq (FW.region ?_))
  refine FL.v (E.move (v := Value.int .i64 a0) rfl) ?_
  refine FL.v (E.move (v := Value.int .i64 a1) rfl) ?_
  refine FL.v (E.move (v := v2) rfl) ?_
  refine FL.v (E.move (v := v3) rfl) ?_
  obtain ⟨r21, hr22, hp⟩ := bnd hp
  refine FL.call rfl rfl rfl (E.call Tryz.call94 (A4 rfl rfl rfl rfl)) (w_spec_l20Rest S0.sl a0 a1 v2 a2 p2 v3 a3 p3 hr22) ?_
  rintro e w24 ⟨H23, v27, rfl, r26, h28⟩
  refine ⟨_, rfl, ?_⟩
  have S25 := S0.call r26
  refine FL.v (E.assign (v := v27) rfl) ?_
  refine FL.nil (FW.seq (FW.seq (FW.region ?_)))
  refine FL.v (E.move (v := v27) rfl) ?_
  refine FL.v (E.lenP te55 rfl h28) ?_
  refine FL.v (E.eql rfl rfl) ?_
  refine FL.nil ?_
  rcases ifB hp with ⟨c29, hp⟩ | ⟨c29, hp⟩
  ·
    refine FW.condT rfl c29 ?_
    refine FW.seq (FW.region ?_)
    refine FL.v (E.move (v := v2) rfl) ?_
    refine FL.v (E.assign (v := v2) rfl) ?_
    refine FL.v (E.assign (v := Value.bool false) rfl) ?_
    refine FL.nil ?_
    refine FW.ret ?_
    obtain rfl := Option.some.inj hp
    exact ⟨.inr rfl, res2 rfl rfl rfl ⟨_, _, rfl, S25.run, (p2.mono r26.inc)⟩⟩
  ·
    refine FW.condF rfl c29 ?_
    refine FW.skip (FW.seq (FW.region ?_))
    refine FL.v (E.move (v := v27) rfl) ?_
    obtain ⟨r30, hr31, hp⟩ := bnd hp
    refine FL.call rfl rfl rfl (E.call Tryz.call155 (A1 rfl)) (w_spec_l20Lead S25.sl v27 r21 h28 hr31) ?_
    rintro e w32 ⟨rfl, r33⟩
    refine ⟨_, rfl, ?_⟩
    have S34 := S25.call r33
    refine FL.v (E.assign (v := Value.int .i64 r30) rfl) ?_
    refine FL.nil (FW.seq (FW.region ?_))
    refine FL.v (E.move (v := Value.int .i64 a0) rfl) ?_
    refine FL.v (E.move (v := Value.int .i64 a1) rfl) ?_
    obtain ⟨v35, w36, run37, S38⟩ := S34.buildSlice (P := Tryz.prog) te55 [] (parts := #[]) (cells := []) rfl szs_nil fc_nil ones_nil (Nat.le_of_ble_eq_true rfl)
    have els39 : Els (up wa.heap.size H23) eTerm 2 [] [] := Els.nil
    refine FL.v (E.buildSlice (B0) run37) ?_
    refine FL.v (E.move (v := v27) rfl) ?_
    refine FL.v (E.move (v := Value.int .i64 a0) rfl) ?_
    refine FL.v (E.move (v := v27) rfl) ?_
    refine FL.v (E.move (v := Value.int .i64 r30) rfl) ?_
    obtain ⟨r40, hr41, hp⟩ := bnd hp
    refine FL.call rfl rfl rfl (E.call Tryz.call154 (A2 rfl rfl)) (w_spec_l20Coeff S38.sl v27 r21 h28 r30 hr41) ?_
    rintro e w42 ⟨rfl, r43⟩
    refine ⟨_, rfl, ?_⟩
    have S44 := S38.call r43
    obtain ⟨r45, hr46, hp⟩ := bnd hp
    refine FL.call rfl rfl rfl (E.call Tryz.call205 (A2 rfl rfl)) (w_spec_l20Inverse S44.sl a0 r40 hr46) ?_
    rintro e w47 ⟨rfl, r48⟩
    refine ⟨_, rfl, ?_⟩
    have S49 := S44.call r48
    obtain ⟨H50, S51, i52, h53, nv54⟩ := S49.sealRowU (i := 0) (l' := []) rfl els39 (by decide) rfl
    obtain ⟨r55, hr56, hp⟩ := bnd hp
    refine FL.call rfl rfl rfl (E.call Tryz.call156 (A5 rfl rfl rfl rfl rfl)) (w_spec_l18Add S51.sl a0 a1 v35 [] (h53.mono upI) v27 r21 (h28.mono i52) r45 hr56) ?_
    rintro e w58 ⟨H57, v63, n64, cs65, rfl, r60, els66⟩
    refine ⟨_, rfl, ?_⟩
    obtain ⟨H61, r60, hU62⟩ := St.lendX i52 S49.sl r60
    have els66 := els66.mono (hU62.tr (up_le S49.size))
    have S59 := S49.join (l' := [.row 108 2 v63 n64 cs65, .row 108 2 v35 0 []]) r60 rfl
    refine FL.v (E.assign (v := v63) rfl) ?_
    refine FL.nil (FW.seq (FW.region ?_))
    obtain ⟨v67, w68, run69, S70⟩ := S59.buildSlice (P := Tryz.prog) te63 [] (parts := #[]) (cells := []) rfl szs_nil fc_nil ones_nil (Nat.le_of_ble_eq_true rfl)
    have els71 : Els (up wa.heap.size H61) (eL eTerm 2) 1 [] [] := Els.nil
    refine FL.v (E.buildSlice (B0) run69) ?_
    refine FL.v (E.assign (v := v67) rfl) ?_
    refine FL.v (E.assign (v := Value.bool false) rfl) ?_
    refine FL.nil (FW.seq (FW.seq (FW.region ?_)))
    refine FL.v (E.assign (v := Value.int .i64 0) rfl) ?_
    refine FL.nil ?_
    obtain ⟨H73, S74, i75, h76, nv77⟩ := S70.sealRowU (i := 1) (l' := [.row 55 1 v67 0 [], .row 108 2 v35 0 []]) rfl els66 (by decide) rfl
    obtain ⟨q78, hq, hp⟩ := bndR hp
    refine FW.block ?_
    refine FW.mono (FW.forL (S := ((List (List Term)) × Bool)) (X := Empty) (fun (i78 : Nat) (s78 : ((List (List Term)) × Bool)) f w => ∃ H : GH, ∃ v79 : Value, ∃ n80 : Nat, ∃ cs81 : List Value, St Ha wa H w [.row 55 1 v79 n80 cs81] ∧ Inc H73 H ∧ Els H (eL eTerm 2) 1 cs81 s78.1 ∧ f 14 = Value.int .i64 ((i78 : Nat) : Int) ∧ f 0 = Value.int .i64 a0 ∧ f 1 = Value.int .i64 a1 ∧ f 2 = v2 ∧ f 10 = v63 ∧ f 11 = Value.int .i64 r30 ∧ f 12 = v79 ∧ f 13 = Value.bool s78.2) (fun (q : Rs ((List (List Term)) × Bool) Empty) e f w => match q with | .go s78 => e = Exit.exit 0 ∧ (∃ H : GH, ∃ v79 : Value, ∃ n80 : Nat, ∃ cs81 : List Value, St Ha wa H w [.row 55 1 v79 n80 cs81] ∧ Inc H73 H ∧ Els H (eL eTerm 2) 1 cs81 s78.1 ∧ f 10 = v63 ∧ f 12 = v79 ∧ f 13 = Value.bool s78.2) | .rt x => x.elim) hq ⟨_, _, _, _, (S74.sel [0] (by decide) rfl), (Inc.rfl _), (els71.mono (upI.tr i75)), rfl, rfl, rfl, rfl, rfl, rfl, rfl, rfl⟩ ?_ ?_) ?_
    ·
      clear hp hq
      rintro i78 y72 s78 f252 w251 ⟨H248, v79, n80, cs81, S249, i250, els82, k253, k254, k255, k256, k257, k258, k259, k260⟩ hx78 o455 hp
      refine FW.seq (FW.seq (FW.region ?_))
      refine FL.v (E.move k253) ?_
      refine FL.v (E.move k256) ?_
      refine FL.v (E.lenP te63 rfl p2) ?_
      refine FL.v (E.lssT rfl rfl (lss_len hx78)) ?_
      refine FL.nil ?_
      refine FW.condT rfl rfl ?_
      refine FW.skip (FW.seq (FW.block (FW.seq (FW.seq (FW.region ?_)))))
      refine FL.v (E.move k260) ?_
      refine FL.v (E.not rfl) ?_
      refine FL.v (E.move (v := Value.bool (!s78.2)) rfl) ?_
      obtain ⟨t279, hqt279, hp⟩ := bnd hp
      refine FL.cut 8 (fun f w => ∃ H : GH, St Ha wa H w [.row 55 1 v79 n80 cs81] ∧ Inc H248 H ∧ f 0 = Value.int .i64 a0 ∧ f 1 = Value.int .i64 a1 ∧ f 2 = v2 ∧ f 10 = v63 ∧ f 11 = Value.int .i64 r30 ∧ f 12 = v79 ∧ f 13 = Value.bool s78.2 ∧ f 14 = Value.int .i64 ((i78 : Nat) : Int) ∧ f 55 = Value.bool t279) ?_ ?_
      ·
        clear hp; have hp := hqt279; clear hqt279
        rcases ifB hp with ⟨c285, hp⟩ | ⟨c285, hp⟩
        ·
          refine FL.val (wF_yes rfl rfl rfl c285) rfl rfl (E.move k258) ?_
          refine FL.val (wF_yes rfl rfl rfl c285) rfl rfl (E.move k256) ?_
          refine FL.val (wF_yes rfl rfl rfl c285) rfl rfl (E.move k253) ?_
          obtain ⟨p286, cs287, pt288, l289, at290, rel291⟩ := p2.at (ix_nat hx78)
          obtain ⟨v292, rfl, h293⟩ := eL_open rel291
          refine FL.val (wF_yes rfl rfl rfl c285) rfl rfl (E.indexAddr te63 rfl rfl pt288) ?_
          refine FL.val (wF_yes rfl rfl rfl c285) rfl rfl (E.load rfl (run_load0 Tryz.isAgg55 ((at290.mono (((r26.inc.tr r60.run.inc).tr i75).tr i250)).now S249.sl) rfl)) ?_
          obtain ⟨r294, hr295, hp⟩ := bnd hp
          refine FL.call (wF_yes rfl rfl rfl c285) rfl rfl (E.call Tryz.call155 (A1 rfl)) (w_spec_l20Lead S249.sl v292 y72 (h293.mono (((r26.inc.tr r60.run.inc).tr i75).tr i250)) hr295) ?_
          rintro e w296 ⟨rfl, r297⟩
          refine ⟨_, rfl, ?_⟩
          have S298 := S249.call r297
          obtain ⟨r299, hr300, hp⟩ := bnd hp
          refine FL.call (wF_yes rfl rfl rfl c285) rfl rfl (E.call Tryz.call203 (A2 rfl rfl)) (w_spec_l20Before S298.sl r30 r294 hr300) ?_
          rintro e w301 ⟨rfl, r302⟩
          refine ⟨_, rfl, ?_⟩
          have S303 := S298.call r302
          obtain rfl := Option.some.inj hp
          refine FL.v (E.pickT rfl c285 rfl) ?_
          exact FL.nil ⟨rfl, _, S303, (Inc.rfl _), k254, k255, k256, k257, k258, k259, k260, k253, rfl⟩
        ·
          refine FL.skip (wF_no rfl rfl rfl c285) rfl ?_
          refine FL.skip (wF_no rfl rfl rfl c285) rfl ?_
          refine FL.skip (wF_no rfl rfl rfl c285) rfl ?_
          refine FL.skip (wF_no rfl rfl rfl c285) rfl ?_
          refine FL.skip (wF_no rfl rfl rfl c285) rfl ?_
          refine FL.skip (wF_no rfl rfl rfl c285) rfl ?_
          refine FL.skip (wF_no rfl rfl rfl c285) rfl ?_
          obtain rfl := Option.some.inj hp
          refine FL.v (E.pickF rfl c285 rfl) ?_
          exact FL.nil ⟨rfl, _, S249, (Inc.rfl _), k254, k255, k256, k257, k258, k259, k260, k253, rfl⟩
      rintro f284 w283 ⟨H280, S281, i282, k304, k305, k306, k307, k308, k309, k310, k311, k312⟩
      refine FL.nil ?_
      rcases ifB hp with ⟨c313, hp⟩ | ⟨c313, hp⟩
      ·
        refine FW.condT k312 c313 ?_
        refine FW.seq (FW.region ?_)
        refine FL.v (E.move k309) ?_
        refine FL.v (E.move k307) ?_
        obtain ⟨v314, w315, run316, S317⟩ := S281.buildSlice (P := Tryz.prog) te63 [v63] (parts := #[(0, v63)]) (cells := [v63]) rfl (szs_cons (cells_size h76.cells) szs_nil) (fc_cons h76.cells fc_nil) (ones_cons h76.one ones_nil) (Nat.le_of_ble_eq_true rfl)
        have els318 : Els (up wa.heap.size H280) (eL eTerm 2) 1 [v63] [r55] := (Els.snoc (H := (up wa.heap.size H280)) (E := (eL eTerm 2)) (k := 1) (c := [v63]) (x := r55) Els.nil rfl ⟨_, rfl, (h76.mono (up_mono (i250.tr i282)))⟩)
        have nd319 : (bl [v63]).Nodup := by exact nd_one v63
        refine FL.v (E.buildSlice (B1 rfl) run316) ?_
        obtain ⟨xs320, hz321, hp⟩ := bnd hp
        obtain ⟨v322, w325, n323, cs324, run326, S327, els328, ce329⟩ := S317.appendO (P := Tryz.prog) te63 (i := 1) (j := 0) rfl (els82.mono i282) rfl (els318.mono upI) hz321
        have S327 : St Ha wa H280 w325 [.row 55 1 v314 1 [v63], .row 55 1 v322 n323 cs324] := S327
        have S330 : St Ha wa H280 w325 [.row 55 1 v322 n323 cs324] := S327.drop 0
        refine FL.v (E.append rfl rfl run326) ?_
        refine FL.v (E.assign (v := v322) rfl) ?_
        refine FL.nil (FW.region ?_)
        refine FL.v (E.assign (v := Value.bool true) rfl) ?_
        refine FL.nil (FW.seq (FW.region ?_))
        refine FL.v (E.move k306) ?_
        refine FL.v (E.move k311) ?_
        obtain ⟨p331, cs332, pt333, l334, at335, rel336⟩ := p2.at (ix_nat hx78)
        obtain ⟨v337, rfl, h338⟩ := eL_open rel336
        refine FL.v (E.indexAddr te63 rfl rfl pt333) ?_
        refine FL.v (E.load rfl (run_load0 Tryz.isAgg55 ((at335.mono ((((r26.inc.tr r60.run.inc).tr i75).tr i250).tr i282)).now S330.sl) rfl)) ?_
        refine FL.v (E.assign (v := v337) rfl) ?_
        refine FL.nil (FW.seq (FW.seq (FW.region ?_)))
        refine FL.v (E.move (v := v337) rfl) ?_
        refine FL.v (E.move k308) ?_
        obtain ⟨r339, hr340, hp⟩ := bnd hp
        refine FL.call rfl rfl rfl (E.call Tryz.call154 (A2 rfl rfl)) (w_spec_l20Coeff S330.sl v337 y72 (h338.mono ((((r26.inc.tr r60.run.inc).tr i75).tr i250).tr i282)) r30 hr340) ?_
        rintro e w341 ⟨rfl, r342⟩
        refine ⟨_, rfl, ?_⟩
        have S343 := S330.call r342
        refine FL.v (E.assign (v := Value.int .i64 r339) rfl) ?_
        refine FL.nil (FW.seq (FW.region ?_))
        refine FL.v (E.move (v := Value.int .i64 r339) rfl) ?_
        refine FL.v (E.neq rfl rfl) ?_
        refine FL.nil ?_
        rcases ifB hp with ⟨c344, hp⟩ | ⟨c344, hp⟩
        ·
          refine FW.condT rfl c344 ?_
          refine FW.region ?_
          refine FL.v (E.move k304) ?_
          refine FL.v (E.move k305) ?_
          refine FL.v (E.move (v := v337) rfl) ?_
          refine FL.v (E.move k307) ?_
          refine FL.v (E.move k304) ?_
          refine FL.v (E.move (v := Value.int .i64 r339) rfl) ?_
          refine FL.v (E.sub rfl rfl) ?_
          obtain ⟨r345, hr346, hp⟩ := bnd hp
          refine FL.call rfl rfl rfl (E.call Tryz.call156 (A5 rfl rfl rfl rfl rfl)) (w_spec_l18Add S343.sl a0 a1 v337 y72 (h338.mono ((((r26.inc.tr r60.run.inc).tr i75).tr i250).tr i282)) v63 r55 (h76.mono (upI.tr (i250.tr i282))) (wr (a0 - r339)) hr346) ?_
          rintro e w348 ⟨H347, v351, n352, cs353, rfl, r350, els354⟩
          refine ⟨_, rfl, ?_⟩
          have els354 := els354.mono (up_le S343.size)
          have S349 := S343.join (l' := [.row 108 2 v351 n352 cs353, .row 55 1 v322 n323 cs324]) r350 rfl
          refine FL.v (E.assign (v := v351) rfl) ?_
          refine FL.nil (FW.region ?_)
          refine FL.v (E.move (v := v322) rfl) ?_
          refine FL.v (E.move (v := v351) rfl) ?_
          obtain ⟨H355, S356, i357, h358, nv359⟩ := S349.sealRowU (i := 0) (l' := [.row 55 1 v322 n323 cs324]) rfl els354 (by decide) rfl
          obtain ⟨v360, w361, run362, S363⟩ := S356.buildSlice (P := Tryz.prog) te63 [v351] (parts := #[(0, v351)]) (cells := [v351]) rfl (szs_cons (cells_size h358.cells) szs_nil) (fc_cons h358.cells fc_nil) (ones_cons h358.one ones_nil) (Nat.le_of_ble_eq_true rfl)
          have els364 : Els (up wa.heap.size H355) (eL eTerm 2) 1 [v351] [r345] := (Els.snoc (H := (up wa.heap.size H355)) (E := (eL eTerm 2)) (k := 1) (c := [v351]) (x := r345) Els.nil rfl ⟨_, rfl, h358⟩)
          have nd365 : (bl [v351]).Nodup := by exact nd_one v351
          refine FL.v (E.buildSlice (B1 rfl) run362) ?_
          obtain ⟨xs366, hz367, hp⟩ := bnd hp
          obtain ⟨v368, w371, n369, cs370, run372, S373, els374, ce375⟩ := S363.appendO (P := Tryz.prog) te63 (i := 1) (j := 0) rfl (els328.mono (r350.run.inc.tr i357)) rfl (els364.mono upI) hz367
          have S373 : St Ha wa H355 w371 [.row 55 1 v360 1 [v351], .row 55 1 v368 n369 cs370] := S373
          have S376 : St Ha wa H355 w371 [.row 55 1 v368 n369 cs370] := S373.drop 0
          refine FL.v (E.append rfl rfl run372) ?_
          refine FL.v (E.assign (v := v368) rfl) ?_
          refine FL.nil (FW.region ?_)
          refine FL.v (E.move k311) ?_
          refine FL.v (E.add rfl rfl) ?_
          refine FL.v (E.assign (v := Value.int .i64 (wr (((i78 : Nat) : Int) + 1))) rfl) ?_
          refine FL.nil ?_
          obtain rfl := Option.some.inj hp
          exact ⟨rfl, ⟨_, _, _, _, S376, (((i250.tr i282).tr r350.run.inc).tr i357), els374, (nat_succ rfl (lt_of_get hx78) (p2.mono ((((((r26.inc.tr r60.run.inc).tr i75).tr i250).tr i282).tr r350.run.inc).tr i357)).le), k304, k305, k306, k307, k308, rfl, rfl⟩⟩
        ·
          refine FW.condF rfl c344 ?_
          refine FW.skip (FW.region ?_)
          refine FL.v (E.move (v := v322) rfl) ?_
          refine FL.v (E.move (v := v337) rfl) ?_
          obtain ⟨v377, w378, run379, S380⟩ := S343.buildSlice (P := Tryz.prog) te63 [v337] (parts := #[(0, v337)]) (cells := [v337]) rfl (szs_cons (cells_size h338.cells) szs_nil) (fc_cons h338.cells fc_nil) (ones_cons h338.one ones_nil) (Nat.le_of_ble_eq_true rfl)
          have els381 : Els H280 (eL eTerm 2) 1 [v337] [y72] := (Els.snoc (H := H280) (E := (eL eTerm 2)) (k := 1) (c := [v337]) (x := y72) Els.nil rfl ⟨_, rfl, (h338.mono ((((r26.inc.tr r60.run.inc).tr i75).tr i250).tr i282))⟩)
          refine FL.v (E.buildSlice (B1 rfl) run379) ?_
          obtain ⟨xs382, hz383, hp⟩ := bnd hp
          obtain ⟨v384, w387, n385, cs386, run388, S389, els390, ce391⟩ := S380.appendO (P := Tryz.prog) te63 (i := 1) (j := 0) rfl els328 rfl els381 hz383
          have S389 : St Ha wa H280 w387 [.row 55 1 v377 1 [v337], .row 55 1 v384 n385 cs386] := S389
          have S392 : St Ha wa H280 w387 [.row 55 1 v384 n385 cs386] := S389.drop 0
          refine FL.v (E.append rfl rfl run388) ?_
          refine FL.v (E.assign (v := v384) rfl) ?_
          refine FL.nil (FW.region ?_)
          refine FL.v (E.move k311) ?_
          refine FL.v (E.add rfl rfl) ?_
          refine FL.v (E.assign (v := Value.int .i64 (wr (((i78 : Nat) : Int) + 1))) rfl) ?_
          refine FL.nil ?_
          obtain rfl := Option.some.inj hp
          exact ⟨rfl, ⟨_, _, _, _, S392, (i250.tr i282), els390, (nat_succ rfl (lt_of_get hx78) (p2.mono ((((r26.inc.tr r60.run.inc).tr i75).tr i250).tr i282)).le), k304, k305, k306, k307, k308, rfl, rfl⟩⟩
      ·
        refine FW.condF k312 c313 ?_
        refine FW.skip (FW.seq (FW.region ?_))
        refine FL.v (E.move k306) ?_
        refine FL.v (E.move k311) ?_
        obtain ⟨p393, cs394, pt395, l396, at397, rel398⟩ := p2.at (ix_nat hx78)
        obtain ⟨v399, rfl, h400⟩ := eL_open rel398
        refine FL.v (E.indexAddr te63 rfl rfl pt395) ?_
        refine FL.v (E.load rfl (run_load0 Tryz.isAgg55 ((at397.mono ((((r26.inc.tr r60.run.inc).tr i75).tr i250).tr i282)).now S281.sl) rfl)) ?_
        refine FL.v (E.assign (v := v399) rfl) ?_
        refine FL.nil (FW.seq (FW.seq (FW.region ?_)))
        refine FL.v (E.move (v := v399) rfl) ?_
        refine FL.v (E.move k308) ?_
        obtain ⟨r401, hr402, hp⟩ := bnd hp
        refine FL.call rfl rfl rfl (E.call Tryz.call154 (A2 rfl rfl)) (w_spec_l20Coeff S281.sl v399 y72 (h400.mono ((((r26.inc.tr r60.run.inc).tr i75).tr i250).tr i282)) r30 hr402) ?_
        rintro e w403 ⟨rfl, r404⟩
        refine ⟨_, rfl, ?_⟩
        have S405 := S281.call r404
        refine FL.v (E.assign (v := Value.int .i64 r401) rfl) ?_
        refine FL.nil (FW.seq (FW.region ?_))
        refine FL.v (E.move (v := Value.int .i64 r401) rfl) ?_
        refine FL.v (E.neq rfl rfl) ?_
        refine FL.nil ?_
        rcases ifB hp with ⟨c406, hp⟩ | ⟨c406, hp⟩
        ·
          refine FW.condT rfl c406 ?_
          refine FW.region ?_
          refine FL.v (E.move k304) ?_
          refine FL.v (E.move k305) ?_
          refine FL.v (E.move (v := v399) rfl) ?_
          refine FL.v (E.move k307) ?_
          refine FL.v (E.move k304) ?_
          refine FL.v (E.move (v := Value.int .i64 r401) rfl) ?_
          refine FL.v (E.sub rfl rfl) ?_
          obtain ⟨r407, hr408, hp⟩ := bnd hp
          refine FL.call rfl rfl rfl (E.call Tryz.call156 (A5 rfl rfl rfl rfl rfl)) (w_spec_l18Add S405.sl a0 a1 v399 y72 (h400.mono ((((r26.inc.tr r60.run.inc).tr i75).tr i250).tr i282)) v63 r55 (h76.mono (upI.tr (i250.tr i282))) (wr (a0 - r401)) hr408) ?_
          rintro e w410 ⟨H409, v413, n414, cs415, rfl, r412, els416⟩
          refine ⟨_, rfl, ?_⟩
          have els416 := els416.mono (up_le S405.size)
          have S411 := S405.join (l' := [.row 108 2 v413 n414 cs415, .row 55 1 v79 n80 cs81]) r412 rfl
          refine FL.v (E.assign (v := v413) rfl) ?_
          refine FL.nil (FW.region ?_)
          refine FL.v (E.move k309) ?_
          refine FL.v (E.move (v := v413) rfl) ?_
          obtain ⟨H417, S418, i419, h420, nv421⟩ := S411.sealRowU (i := 0) (l' := [.row 55 1 v79 n80 cs81]) rfl els416 (by decide) rfl
          obtain ⟨v422, w423, run424, S425⟩ := S418.buildSlice (P := Tryz.prog) te63 [v413] (parts := #[(0, v413)]) (cells := [v413]) rfl (szs_cons (cells_size h420.cells) szs_nil) (fc_cons h420.cells fc_nil) (ones_cons h420.one ones_nil) (Nat.le_of_ble_eq_true rfl)
          have els426 : Els (up wa.heap.size H417) (eL eTerm 2) 1 [v413] [r407] := (Els.snoc (H := (up wa.heap.size H417)) (E := (eL eTerm 2)) (k := 1) (c := [v413]) (x := r407) Els.nil rfl ⟨_, rfl, h420⟩)
          have nd427 : (bl [v413]).Nodup := by exact nd_one v413
          refine FL.v (E.buildSlice (B1 rfl) run424) ?_
          obtain ⟨xs428, hz429, hp⟩ := bnd hp
          obtain ⟨v430, w433, n431, cs432, run434, S435, els436, ce437⟩ := S425.appendO (P := Tryz.prog) te63 (i := 1) (j := 0) rfl (els82.mono ((i282.tr r412.run.inc).tr i419)) rfl (els426.mono upI) hz429
          have S435 : St Ha wa H417 w433 [.row 55 1 v422 1 [v413], .row 55 1 v430 n431 cs432] := S435
          have S438 : St Ha wa H417 w433 [.row 55 1 v430 n431 cs432] := S435.drop 0
          refine FL.v (E.append rfl rfl run434) ?_
          refine FL.v (E.assign (v := v430) rfl) ?_
          refine FL.nil (FW.region ?_)
          refine FL.v (E.move k311) ?_
          refine FL.v (E.add rfl rfl) ?_
          refine FL.v (E.assign (v := Value.int .i64 (wr (((i78 : Nat) : Int) + 1))) rfl) ?_
          refine FL.nil ?_
          obtain rfl := Option.some.inj hp
          exact ⟨rfl, ⟨_, _, _, _, S438, (((i250.tr i282).tr r412.run.inc).tr i419), els436, (nat_succ rfl (lt_of_get hx78) (p2.mono ((((((r26.inc.tr r60.run.inc).tr i75).tr i250).tr i282).tr r412.run.inc).tr i419)).le), k304, k305, k306, k307, k308, rfl, k310⟩⟩
        ·
          refine FW.condF rfl c406 ?_
          refine FW.skip (FW.region ?_)
          refine FL.v (E.move k309) ?_
          refine FL.v (E.move (v := v399) rfl) ?_
          obtain ⟨v439, w440, run441, S442⟩ := S405.buildSlice (P := Tryz.prog) te63 [v399] (parts := #[(0, v399)]) (cells := [v399]) rfl (szs_cons (cells_size h400.cells) szs_nil) (fc_cons h400.cells fc_nil) (ones_cons h400.one ones_nil) (Nat.le_of_ble_eq_true rfl)
          have els443 : Els H280 (eL eTerm 2) 1 [v399] [y72] := (Els.snoc (H := H280) (E := (eL eTerm 2)) (k := 1) (c := [v399]) (x := y72) Els.nil rfl ⟨_, rfl, (h400.mono ((((r26.inc.tr r60.run.inc).tr i75).tr i250).tr i282))⟩)
          refine FL.v (E.buildSlice (B1 rfl) run441) ?_
          obtain ⟨xs444, hz445, hp⟩ := bnd hp
          obtain ⟨v446, w449, n447, cs448, run450, S451, els452, ce453⟩ := S442.appendO (P := Tryz.prog) te63 (i := 1) (j := 0) rfl (els82.mono i282) rfl els443 hz445
          have S451 : St Ha wa H280 w449 [.row 55 1 v439 1 [v399], .row 55 1 v446 n447 cs448] := S451
          have S454 : St Ha wa H280 w449 [.row 55 1 v446 n447 cs448] := S451.drop 0
          refine FL.v (E.append rfl rfl run450) ?_
          refine FL.v (E.assign (v := v446) rfl) ?_
          refine FL.nil (FW.region ?_)
          refine FL.v (E.move k311) ?_
          refine FL.v (E.add rfl rfl) ?_
          refine FL.v (E.assign (v := Value.int .i64 (wr (((i78 : Nat) : Int) + 1))) rfl) ?_
          refine FL.nil ?_
          obtain rfl := Option.some.inj hp
          exact ⟨rfl, ⟨_, _, _, _, S454, (i250.tr i282), els452, (nat_succ rfl (lt_of_get hx78) (p2.mono ((((r26.inc.tr r60.run.inc).tr i75).tr i250).tr i282)).le), k304, k305, k306, k307, k308, rfl, k310⟩⟩
    ·
      clear hp hq
      rintro s78 f496 w495 ⟨H492, v79, n80, cs81, S493, i494, els82, k497, k498, k499, k500, k501, k502, k503, k504⟩
      refine FW.seq (FW.seq (FW.region ?_))
      refine FL.v (E.move k497) ?_
      refine FL.v (E.move k500) ?_
      refine FL.v (E.lenP te63 rfl p2) ?_
      refine FL.v (E.lss rfl rfl) ?_
      refine FL.nil ?_
      refine FW.condF rfl dlt_len ?_
      refine FW.exit ?_
      exact ⟨nofun, rfl, ⟨_, _, _, _, S493, i494, els82, k501, k503, k504⟩⟩
    ·
      clear hq
      intro e f460 w459 hD
      rcases q78 with s78 | x78
      ·
        obtain ⟨rfl, hD⟩ := hD
        obtain ⟨H456, v79, n80, cs81, S457, i458, els82, k461, k462, k463⟩ := hD
        replace hp := el_go hp
        refine FW.seq (FW.seq (FW.region ?_))
        refine FL.v (E.move k463) ?_
        refine FL.v (E.not rfl) ?_
        refine FL.nil ?_
        rcases ifB hp with ⟨c464, hp⟩ | ⟨c464, hp⟩
        ·
          refine FW.condT rfl c464 ?_
          refine FW.region ?_
          refine FL.v (E.move k462) ?_
          refine FL.v (E.move k461) ?_
          obtain ⟨v465, w466, run467, S468⟩ := S457.buildSlice (P := Tryz.prog) te63 [v63] (parts := #[(0, v63)]) (cells := [v63]) rfl (szs_cons (cells_size h76.cells) szs_nil) (fc_cons h76.cells fc_nil) (ones_cons h76.one ones_nil) (Nat.le_of_ble_eq_true rfl)
          have els469 : Els (up wa.heap.size H456) (eL eTerm 2) 1 [v63] [r55] := (Els.snoc (H := (up wa.heap.size H456)) (E := (eL eTerm 2)) (k := 1) (c := [v63]) (x := r55) Els.nil rfl ⟨_, rfl, (h76.mono (up_mono i458))⟩)
          have nd470 : (bl [v63]).Nodup := by exact nd_one v63
          refine FL.v (E.buildSlice (B1 rfl) run467) ?_
          obtain ⟨xs471, hz472, hp⟩ := bnd hp
          obtain ⟨v473, w476, n474, cs475, run477, S478, els479, ce480⟩ := S468.appendO (P := Tryz.prog) te63 (i := 1) (j := 0) rfl els82 rfl (els469.mono upI) hz472
          have S478 : St Ha wa H456 w476 [.row 55 1 v465 1 [v63], .row 55 1 v473 n474 cs475] := S478
          have S481 : St Ha wa H456 w476 [.row 55 1 v473 n474 cs475] := S478.drop 0
          refine FL.v (E.append rfl rfl run477) ?_
          refine FL.v (E.assign (v := v473) rfl) ?_
          refine FL.nil (FW.seq (FW.region ?_))
          refine FL.v (E.move (v := v473) rfl) ?_
          refine FL.v (E.assign (v := v473) rfl) ?_
          refine FL.v (E.assign (v := Value.bool true) rfl) ?_
          refine FL.nil ?_
          refine FW.ret ?_
          obtain ⟨H482, S483, i484, h485⟩ := S481.sealRow (i := 0) (l' := []) rfl els479 (by decide) rfl
          obtain rfl := Option.some.inj hp
          exact ⟨.inr rfl, res2 rfl rfl rfl ⟨_, _, rfl, S483.run, h485⟩⟩
        ·
          refine FW.condF rfl c464 ?_
          refine FW.skip (FW.seq (FW.region ?_))
          refine FL.v (E.move k462) ?_
          refine FL.v (E.assign (v := v79) rfl) ?_
          refine FL.v (E.assign (v := Value.bool true) rfl) ?_
          refine FL.nil ?_
          refine FW.ret ?_
          obtain ⟨H487, S488, i489, h490⟩ := S457.sealRow (i := 0) (l' := []) rfl els82 (by decide) rfl
          obtain rfl := Option.some.inj hp
          exact ⟨.inr rfl, res2 rfl rfl rfl ⟨_, _, rfl, S488.run, h490⟩⟩
      · exact x78.elim

theorem w_spec_l1Most {Ha : GH} {wa : World} (hs : Sl Ha wa) (a0 : Int) (a1 : Int) :
  Calls Tryz.prog 127 #[Value.int .i64 a0, Value.int .i64 a1] wa (Sc Ha wa (Value.int .i64 (PF.spec_l1Most a0 a1))) := by
 obtain ⟨r, hp⟩ : ∃ r, (PF.spec_l1Most a0 a1) = r := ⟨_, rfl⟩
 rw [hp]
 unfold PF.spec_l1Most at hp
 have S0 := St.init hs
 refine calls_go (N := 10) (args := [Value.int .i64 a0, Value.int .i64 a1]) Tryz.func127 rfl rfl rfl ?_
 refine FW.seq (FW.region ?_)
 refine FL.v (E.assign (v := Value.int .i64 0) rfl) ?_
 refine FL.nil (FW.seq (FW.seq (FW.region ?_)))
 refine FL.v (E.move (v := Value.int .i64 a0) rfl) ?_
 refine FL.v (E.move (v := Value.int .i64 a1) rfl) ?_
 refine FL.v (E.gtr rfl rfl) ?_
 refine FL.nil ?_
 rcases ifT hp with ⟨c21, hp⟩ | ⟨c21, hp⟩
 ·
  refine FW.condT rfl c21 ?_
  refine FW.seq (FW.region ?_)
  refine FL.v (E.move (v := Value.int .i64 a0) rfl) ?_
  refine FL.v (E.assign (v := Value.int .i64 a0) rfl) ?_
  refine FL.nil ?_
  refine FW.ret ?_
  obtain rfl := hp
  exact ⟨.inr rfl, res1 rfl rfl ⟨rfl, S0.back⟩⟩
 ·
  refine FW.condF rfl c21 ?_
  refine FW.skip (FW.seq (FW.region ?_))
  refine FL.v (E.move (v := Value.int .i64 a1) rfl) ?_
  refine FL.v (E.assign (v := Value.int .i64 a1) rfl) ?_
  refine FL.nil ?_
  refine FW.ret ?_
  obtain rfl := hp
  exact ⟨.inr rfl, res1 rfl rfl ⟨rfl, S0.back⟩⟩

theorem w_spec_l18Degree {Ha : GH} {wa : World} (hs : Sl Ha wa) (v0 : Value) (a0 : List Term) (p0 : RSl Ha eTerm 2 v0 a0) {r : Int} (hp : (PF.spec_l18Degree a0) = some r) :
    Calls Tryz.prog 128 #[v0] wa (Sc Ha wa (Value.int .i64 r)) := by
  unfold PF.spec_l18Degree at hp
  have S0 := St.init hs
  refine calls_go (N := 20) (args := [v0]) Tryz.func128 rfl rfl rfl ?_
  refine FW.seq (FW.region ?_)
  refine FL.v (E.assign (v := Value.int .i64 0) rfl) ?_
  refine FL.nil (FW.seq (FW.region ?_))
  refine FL.v (E.assign (v := Value.int .i64 (-1)) rfl) ?_
  refine FL.nil (FW.seq (FW.seq (FW.region ?_)))
  refine FL.v (E.assign (v := Value.int .i64 0) rfl) ?_
  refine FL.nil ?_
  obtain ⟨q22, hq, hp⟩ := bndR hp
  refine FW.block ?_
  refine FW.mono (FW.forL (S := Int) (X := Empty) (fun (i22 : Nat) (s22 : Int) f w => ∃ H : GH, St Ha wa H w [] ∧ Inc Ha H ∧ f 4 = Value.int .i64 ((i22 : Nat) : Int) ∧ f 0 = v0 ∧ f 3 = Value.int .i64 s22) (fun (q : Rs Int Empty) e f w => match q with | .go s22 => e = Exit.exit 0 ∧ (∃ H : GH, St Ha wa H w [] ∧ Inc Ha H ∧ f 3 = Value.int .i64 s22) | .rt x => x.elim) hq ⟨_, S0, (Inc.rfl _), rfl, rfl, rfl⟩ ?_ ?_) ?_
  ·
    clear hp hq
    rintro i22 y21 s22 f49 w48 ⟨H45, S46, i47, k50, k51, k52⟩ hx22 o67 hp
    refine FW.seq (FW.seq (FW.region ?_))
    refine FL.v (E.move k50) ?_
    refine FL.v (E.move k51) ?_
    refine FL.v (E.lenP te55 rfl p0) ?_
    refine FL.v (E.lssT rfl rfl (lss_len hx22)) ?_
    refine FL.nil ?_
    refine FW.condT rfl rfl ?_
    refine FW.skip (FW.seq (FW.block (FW.region ?_)))
    refine FL.v (E.move k52) ?_
    refine FL.v (E.move k51) ?_
    refine FL.v (E.move k50) ?_
    obtain ⟨p53, cs54, pt55, l56, at57, rel58⟩ := p0.at (ix_nat hx22)
    obtain rfl := eTerm_open rel58
    refine FL.v (E.indexAddr te55 rfl rfl pt55) ?_
    refine FL.v (E.fieldAddr tf108_0 rfl) ?_
    refine FL.v (E.load rfl (run_load1 Tryz.isAgg3 ((at57.mono i47).now S46.sl) rfl)) ?_
    obtain ⟨r59, hr60, hp⟩ := bnd hp
    refine FL.call rfl rfl rfl (E.call Tryz.call186 (A1 rfl)) (w_spec_l14Count S46.sl y21.mono hr60) ?_
    rintro e w61 ⟨rfl, r62⟩
    refine ⟨_, rfl, ?_⟩
    have S63 := S46.call r62
    refine FL.call rfl rfl rfl (E.call Tryz.call127 (A2 rfl rfl)) (w_spec_l1Most S63.sl s22 r59) ?_
    rintro e w64 ⟨rfl, r65⟩
    refine ⟨_, rfl, ?_⟩
    have S66 := S63.call r65
    refine FL.v (E.assign (v := Value.int .i64 (PF.spec_l1Most s22 r59)) rfl) ?_
    refine FL.nil (FW.region ?_)
    refine FL.v (E.move k50) ?_
    refine FL.v (E.add rfl rfl) ?_
    refine FL.v (E.assign (v := Value.int .i64 (wr (((i22 : Nat) : Int) + 1))) rfl) ?_
    refine FL.nil ?_
    obtain rfl := Option.some.inj hp
    exact ⟨rfl, ⟨_, S66, i47, (nat_succ rfl (lt_of_get hx22) (p0.mono i47).le), k51, rfl⟩⟩
  ·
    clear hp hq
    rintro s22 f78 w77 ⟨H74, S75, i76, k79, k80, k81⟩
    refine FW.seq (FW.seq (FW.region ?_))
    refine FL.v (E.move k79) ?_
    refine FL.v (E.move k80) ?_
    refine FL.v (E.lenP te55 rfl p0) ?_
    refine FL.v (E.lss rfl rfl) ?_
    refine FL.nil ?_
    refine FW.condF rfl dlt_len ?_
    refine FW.exit ?_
    exact ⟨nofun, rfl, ⟨_, S75, i76, k81⟩⟩
  ·
    clear hq
    intro e f72 w71 hD
    rcases q22 with s22 | x22
    ·
      obtain ⟨rfl, hD⟩ := hD
      obtain ⟨H68, S69, i70, k73⟩ := hD
      replace hp := el_go hp
      refine FW.seq (FW.region ?_)
      refine FL.v (E.move k73) ?_
      refine FL.v (E.assign (v := Value.int .i64 s22) rfl) ?_
      refine FL.nil ?_
      refine FW.ret ?_
      obtain rfl := Option.some.inj hp
      exact ⟨.inr rfl, res1 rfl rfl ⟨rfl, S69.back⟩⟩
    · exact x22.elim

@[reducible] def p_spec_l20Times (Ha : GH) (wa : World) (r : (List Term)) : Ending → World → Prop :=
 fun e w' => ∃ H' : GH, ∃ v0 : Value, ∃ n0 : Nat, ∃ c0 : List Value, e = .returned (v0) ∧ St Ha wa H' w' [.row 108 2 v0 n0 c0] ∧ Els (up wa.heap.size H') eTerm 2 c0 r
theorem w_spec_l20Times {Ha : GH} {wa : World} (hs : Sl Ha wa) (a0 : Int) (a1 : Int) (v2 : Value) (a2 : List Term) (p2 : RSl Ha eTerm 2 v2 a2) (a3 : Int) {r : (List Term)} (hp : (PF.spec_l20Times a0 a1 a2 a3) = some r) :
  Calls Tryz.prog 158 #[Value.int .i64 a0, Value.int .i64 a1, v2, Value.int .i64 a3] wa (p_spec_l20Times Ha wa r) := by
 unfold PF.spec_l20Times at hp
 have S0 := St.init hs
 refine calls_go (N := 18) (args := [Value.int .i64 a0, Value.int .i64 a1, v2, Value.int .i64 a3]) Tryz.func158 rfl rfl rfl ?_
 refine FW.seq (FW.region ?_)
 refine FL.v (E.assign (v := Value.slice none 0 0) rfl) ?_
 refine FL.nil (FW.seq (FW.region ?_))
 refine FL.v (E.move (v := Value.int .i64 a0) rfl) ?_
 refine FL.v (E.move (v := Value.int .i64 a1) rfl) ?_
 refine FL.v (E.move (v := v2) rfl) ?_
 refine FL.v (E.move (v := Value.int .i64 a3) rfl) ?_
 refine FL.v (E.sub rfl rfl) ?_
 obtain ⟨u22, z21, hp⟩ := bnd hp
 refine FL.v (E.shl rfl rfl (nn_ge z21)) ?_
 refine FL.v (E.build (B2 rfl rfl) (run_build _ 108 #[(0, Value.int .i64 (shlK true 64 1 (wr (a3 - 1)))), (1, Value.int .i64 1)] #[Value.int .i64 (shlK true 64 1 (wr (a3 - 1))), Value.int .i64 1] (by rfl))) ?_
 obtain ⟨v23, w24, run25, S26⟩ := S0.buildSlice (P := Tryz.prog) te55 [Value.agg #[Value.int .i64 (shlK true 64 1 (wr (a3 - 1))), Value.int .i64 1]] (parts := #[(0, Value.agg #[Value.int .i64 (shlK true 64 1 (wr (a3 - 1))), Value.int .i64 1])]) (cells := [Value.int .i64 (shlK true 64 1 (wr (a3 - 1))), Value.int .i64 1]) rfl (szs_cons rfl szs_nil) (fc_cons rfl fc_nil) (ones_cons rfl (ones_cons rfl ones_nil)) (Nat.le_of_ble_eq_true rfl)
 have els27 : Els (up wa.heap.size Ha) eTerm 2 [Value.int .i64 (shlK true 64 1 (wr (a3 - 1))), Value.int .i64 1] [(Term.mk (shlK true 64 1 (wr (a3 - 1))) 1)] := (Els.snoc (H := (up wa.heap.size Ha)) (E := eTerm) (k := 2) (c := [Value.int .i64 (shlK true 64 1 (wr (a3 - 1))), Value.int .i64 1]) (x := (Term.mk (shlK true 64 1 (wr (a3 - 1))) 1)) Els.nil rfl rfl)
 refine FL.v (E.buildSlice (B1 rfl) run25) ?_
 obtain ⟨H28, S29, i30, h31, nv32⟩ := S26.sealRowU (i := 0) (l' := []) rfl els27 (by decide) rfl
 obtain ⟨r33, hr34, hp⟩ := bnd hp
 refine FL.call rfl rfl rfl (E.call Tryz.call117 (A4 rfl rfl rfl rfl)) (w_spec_l18Mul S29.sl a0 a1 v2 a2 (p2.mono i30) v23 [(Term.mk (shlK true 64 1 (wr (a3 - 1))) 1)] (h31.mono upI) hr34) ?_
 rintro e w36 ⟨H35, v41, n42, cs43, rfl, r38, els44⟩
 refine ⟨_, rfl, ?_⟩
 obtain ⟨H39, r38, hU40⟩ := St.lendX i30 S26.sl r38
 have els44 := els44.mono (hU40.tr (up_le S26.size))
 have S37 := S26.join (l' := [.row 108 2 v41 n42 cs43, .row 108 2 v23 1 [Value.int .i64 (shlK true 64 1 (wr (a3 - 1))), Value.int .i64 1]]) r38 rfl
 refine FL.v (E.assign (v := v41) rfl) ?_
 refine FL.nil ?_
 refine FW.ret ?_
 obtain rfl := Option.some.inj hp
 exact ⟨.inr rfl, res1 rfl rfl ⟨_, _, _, _, rfl, (S37.sel [0] (by decide) rfl), els44⟩⟩

@[reducible] def p_spec_l20Basis (Ha : GH) (wa : World) (r : (List (List Term))) : Ending → World → Prop :=
  fun e w' => ∃ H' : GH, ∃ v0 : Value, e = .returned (v0) ∧ Run wa.heap.size Ha wa H' w' ∧ RSl H' (eL eTerm 2) 1 v0 r
set_option maxHeartbeats 4000000 in
theorem w_spec_l20Basis {Ha : GH} {wa : World} (hs : Sl Ha wa) (a0 : Int) (a1 : Cnf) (v1_1 : Value) (p1_1 : RSl Ha (eL eI 1) 1 v1_1 a1.clauses) (a2 : Int) {r : (List (List Term))} (hp : (PF.spec_l20Basis a0 a1 a2) = some r) :
    Calls Tryz.prog 95 #[Value.int .i64 a0, Value.agg #[Value.int .i64 a1.vars, v1_1], Value.int .i64 a2] wa (p_spec_l20Basis Ha wa r) := by
  unfold PF.spec_l20Basis at hp
  have S0 := St.init hs
  refine calls_go (N := 96) (args := [Value.int .i64 a0, Value.agg #[Value.int .i64 a1.vars, v1_1], Value.int .i64 a2]) Tryz.func95 rfl rfl rfl ?_
  refine FW.seq (FW.region ?_)
  obtain ⟨b21, w22, run23, S24⟩ := S0.box (P := Tryz.prog) 32 [Value.int .i64 a1.vars, v1_1] (v := Value.agg #[Value.int .i64 a1.vars, v1_1]) rfl (ones_cons rfl (ones_cons p1_1.one ones_nil))
  refine FL.v (E.box rfl run23) ?_
  obtain ⟨H25, S26, i27, at28⟩ := S24.sealBox (i := 0) (l' := []) rfl rfl
  refine FL.v (E.assign (v := Value.slice none 0 0) rfl) ?_
  refine FL.nil (FW.seq (FW.region ?_))
  obtain ⟨v29, w30, run31, S32⟩ := S26.buildSlice (P := Tryz.prog) te63 [] (parts := #[]) (cells := []) rfl szs_nil fc_nil ones_nil (Nat.le_of_ble_eq_true rfl)
  have els33 : Els (up wa.heap.size H25) (eL eTerm 2) 1 [] [] := Els.nil
  refine FL.v (E.buildSlice (B0) run31) ?_
  refine FL.v (E.assign (v := v29) rfl) ?_
  refine FL.nil (FW.seq (FW.seq (FW.region ?_)))
  refine FL.v (E.assign (v := Value.int .i64 0) rfl) ?_
  refine FL.nil ?_
  obtain ⟨H34, S35, i36, ns39, nv38⟩ := S32.sealRowN (i := 0) (l' := []) rfl els33 (show (bl []).Nodup from List.nodup_nil) (by decide) rfl
  have h37 := ns39.rsl
  obtain ⟨q40, hq, hp⟩ := bndR hp
  refine FW.block ?_
  refine FW.mono (FW.iter (S := ((List (List Term)) × Int)) (X := Empty) (fun (s40 : ((List (List Term)) × Int)) f w => ∃ H : GH, ∃ v41 : Value, St Ha wa H w [] ∧ Inc H34 H ∧ RSl H (eL eTerm 2) 1 v41 s40.1 ∧ f 0 = Value.int .i64 a0 ∧ f 2 = Value.int .i64 a2 ∧ f 4 = Value.pointer (some ⟨b21, 0, none⟩) ∧ f 7 = v41 ∧ f 8 = Value.int .i64 s40.2) (fun (q : Rs ((List (List Term)) × Int) Empty) e f w => match q with | .go s40 => e = Exit.exit 0 ∧ (∃ H : GH, ∃ v41 : Value, St Ha wa H w [] ∧ Inc H34 H ∧ RSl H (eL eTerm 2) 1 v41 s40.1 ∧ f 0 = Value.int .i64 a0 ∧ f 2 = Value.int .i64 a2 ∧ f 4 = Value.pointer (some ⟨b21, 0, none⟩) ∧ f 7 = v41) | .rt x => x.elim) hq ⟨_, _, S35, (Inc.rfl _), (h37.mono upI), rfl, rfl, rfl, rfl, rfl⟩ ?_) ?_
  ·
    clear hp hq
    rintro s40 f47 w46 ⟨H43, v41, S44, i45, h42, k48, k49, k50, k51, k52⟩ o115 hp
    refine FW.seq (FW.seq (FW.region ?_))
    refine FL.v (E.move k52) ?_
    refine FL.v (E.fieldAddr tf32_1 k50) ?_
    refine FL.v (E.load rfl (run_load1 Tryz.isAgg22 ((at28.mono (i36.tr i45)).now S44.sl) rfl)) ?_
    refine FL.v (E.lenP te22 rfl p1_1) ?_
    refine FL.v (E.lss rfl rfl) ?_
    refine FL.nil ?_
    rcases ifB hp with ⟨c53, hp⟩ | ⟨c53, hp⟩
    ·
      refine FW.condT rfl c53 ?_
      refine FW.skip (FW.seq (FW.block (FW.seq (FW.region ?_))))
      refine FL.v (E.fieldAddr tf32_1 k50) ?_
      refine FL.v (E.load rfl (run_load1 Tryz.isAgg22 ((at28.mono (i36.tr i45)).now S44.sl) rfl)) ?_
      refine FL.v (E.move k52) ?_
      obtain ⟨x60, hx61, hp⟩ := bnd hp
      obtain ⟨p54, cs55, pt56, l57, at58, rel59⟩ := p1_1.at hx61
      obtain ⟨v62, rfl, h64⟩ := eL_open rel59
      refine FL.v (E.indexAddr te22 rfl rfl pt56) ?_
      refine FL.v (E.load rfl (run_load0 Tryz.isAgg73 ((at58.mono ((i27.tr i36).tr i45)).now S44.sl) rfl)) ?_
      refine FL.v (E.lenP te73 rfl h64) ?_
      refine FL.v (E.move k49) ?_
      refine FL.v (E.leq rfl rfl) ?_
      refine FL.nil ?_
      rcases ifB hp with ⟨c65, hp⟩ | ⟨c65, hp⟩
      ·
        refine FW.condT rfl c65 ?_
        obtain ⟨x76, hx77, hp⟩ := bnd hp
        obtain ⟨r80, hr81, hp⟩ := bnd hp
        obtain ⟨r95, hr96, hp⟩ := bnd hp
        refine FW.drawB (Sl H43) (fun f w => ∃ H : GH, ∃ v103 : Value, St Ha wa H w [] ∧ Inc H43 H ∧ RSl H (eL eTerm 2) 1 v103 r95.1 ∧ f 0 = Value.int .i64 a0 ∧ f 2 = Value.int .i64 a2 ∧ f 4 = Value.pointer (some ⟨b21, 0, none⟩) ∧ f 7 = v103 ∧ f 8 = Value.int .i64 s40.2) (by kernel_rfl) S44.sl ?_ ?_
        ·
          intro w66 r67
          have S68 := S44.call r67
          refine FB.t (i := 0) (bs 18 1) rfl (SP.nil S68.sl) rfl (fun w' hw' => (E.move k48)) ?_
          refine FB.t (i := 1) (bs 18 3) rfl (SP.nil S68.sl) rfl (fun w' hw' => (E.fieldAddr tf32_0 k50)) ?_
          refine FB.t (i := 2) (bs 18 7) rfl (SP.nil S68.sl) rfl (fun w' hw' => (E.load rfl (run_load1 Tryz.isAgg3 ((at28.mono (i36.tr i45)).now hw') rfl))) ?_
          refine FB.t (i := 3) (bs 18 15) rfl (SP.nil S68.sl) rfl (fun w' hw' => (E.move k51)) ?_
          refine FB.t (i := 4) (bs 18 31) rfl (SP.nil S68.sl) rfl (fun w' hw' => (E.move k48)) ?_
          refine FB.t (i := 5) (bs 18 63) rfl (SP.nil S68.sl) rfl (fun w' hw' => (E.fieldAddr tf32_0 k50)) ?_
          refine FB.t (i := 6) (bs 18 127) rfl (SP.nil S68.sl) rfl (fun w' hw' => (E.load rfl (run_load1 Tryz.isAgg3 ((at28.mono (i36.tr i45)).now hw') rfl))) ?_
          refine FB.t (i := 7) (bs 18 255) rfl (SP.nil S68.sl) rfl (fun w' hw' => (E.fieldAddr tf32_1 k50)) ?_
          refine FB.t (i := 8) (bs 18 511) rfl (SP.nil S68.sl) rfl (fun w' hw' => (E.load rfl (run_load1 Tryz.isAgg22 ((at28.mono (i36.tr i45)).now hw') rfl))) ?_
          refine FB.t (i := 9) (bs 18 1023) rfl (SP.nil S68.sl) rfl (fun w' hw' => (E.move k52)) ?_
          obtain ⟨p69, cs70, pt71, l72, at74, rel75⟩ := p1_1.at hx77
          obtain ⟨v78, rfl, h79⟩ := eL_open rel75
          refine FB.t (i := 10) (bs 18 2047) rfl (SP.nil S68.sl) rfl (fun w' hw' => (E.indexAddr te22 rfl rfl pt71)) ?_
          refine FB.t (i := 11) (bs 18 4095) rfl (SP.nil S68.sl) rfl (fun w' hw' => (E.load rfl (run_load0 Tryz.isAgg73 ((at74.mono ((i27.tr i36).tr i45)).now hw') rfl))) ?_
          refine FB.all1 (i := 12) (by kernel_rfl) ?_
          ·
            refine FC.call (l' := (bs 18 8191)) rfl (by kernel_rfl) rfl rfl rfl (E.call Tryz.call60 (A3 rfl rfl rfl)) (w_spec_l18Clause S68.sl a0 a1.vars v78 x76 (h79.mono ((i27.tr i36).tr i45)) hr81) ?_
            rintro e w83 ⟨H82, v86, n87, cs88, rfl, r85, els89⟩
            refine ⟨_, rfl, ?_⟩
            have els89 := els89.mono (up_le S68.size)
            have S84 := S68.join (l' := [.row 108 2 v86 n87 cs88]) r85 rfl
            refine ⟨(SP.nil (Sl.of_inc r85.run.inc S84.sl)), ?_⟩
            refine FB.all1 (i := 13) (by kernel_rfl) ?_
            ·
              obtain ⟨H90, S91, i92, h93, nv94⟩ := S84.sealRowU (i := 0) (l' := []) rfl els89 (by decide) rfl
              refine FC.call (l' := (bs 18 16383)) rfl (by kernel_rfl) rfl rfl rfl (E.call Tryz.call157 (A4 rfl rfl rfl rfl)) (w_spec_l20Put S91.sl a0 a1.vars v41 s40.1 (h42.mono (r85.run.inc.tr i92)) v86 r80 (h93.mono upI) hr96) ?_
              rintro e w98 ⟨H97, v101, rfl, r100, h102⟩
              refine ⟨_, rfl, ?_⟩
              have S99 := S91.call r100
              refine ⟨(SP.nil (Sl.of_inc ((r85.run.inc.tr i92).tr r100.inc) S99.sl)), ?_⟩
              refine FB.t (i := 14) (bs 18 32767) rfl (SP.nil (Sl.of_inc ((r85.run.inc.tr i92).tr r100.inc) S99.sl)) rfl (fun w' hw' => (E.move (v := Value.tuple #[v101, Value.bool r95.2]) rfl)) ?_
              refine FB.t (i := 15) (bs 18 65535) rfl (SP.nil (Sl.of_inc ((r85.run.inc.tr i92).tr r100.inc) S99.sl)) rfl (fun w' hw' => (E.extract (i := 0) rfl rfl)) ?_
              refine FB.t (i := 16) (bs 18 131071) rfl (SP.nil (Sl.of_inc ((r85.run.inc.tr i92).tr r100.inc) S99.sl)) rfl (fun w' hw' => (E.extract (i := 1) rfl rfl)) ?_
              refine FB.t (i := 17) (bs 18 262143) rfl (SP.nil (Sl.of_inc ((r85.run.inc.tr i92).tr r100.inc) S99.sl)) rfl (fun w' hw' => (E.assign (v := v101) rfl)) ?_
              exact FB.done (by kernel_rfl) ⟨_, _, S99, ((r85.run.inc.tr i92).tr r100.inc), h102, k48, k49, k50, rfl, k52⟩
        ·
          rintro f109 w108 ⟨H105, v103, S106, i107, h104, k110, k111, k112, k113, k114⟩
          refine FW.region ?_
          refine FL.v (E.move k114) ?_
          refine FL.v (E.add rfl rfl) ?_
          refine FL.v (E.assign (v := Value.int .i64 (wr (s40.2 + 1))) rfl) ?_
          refine FL.nil ?_
          obtain rfl := Option.some.inj hp
          exact ⟨rfl, ⟨_, _, S106, (i45.tr i107), h104, k110, k111, k112, k113, rfl⟩⟩
      ·
        refine FW.condF rfl c65 ?_
        refine FW.skip (FW.region ?_)
        refine FL.v (E.move k52) ?_
        refine FL.v (E.add rfl rfl) ?_
        refine FL.v (E.assign (v := Value.int .i64 (wr (s40.2 + 1))) rfl) ?_
        refine FL.nil ?_
        obtain rfl := Option.some.inj hp
        exact ⟨rfl, ⟨_, _, S44, i45, h42, k48, k49, k50, k51, rfl⟩⟩
    ·
      refine FW.condF rfl c53 ?_
      refine FW.exit ?_
      obtain rfl := Option.some.inj hp
      exact ⟨nofun, rfl, ⟨_, _, S44, i45, h42, k48, k49, k50, k51⟩⟩
  ·
    clear hq
    intro e f120 w119 hD
    rcases q40 with s40 | x40
    ·
      obtain ⟨rfl, hD⟩ := hD
      obtain ⟨H116, v41, S117, i118, h42, k121, k122, k123, k124⟩ := hD
      replace hp := el_go hp
      refine FW.seq (FW.seq (FW.region ?_))
      refine FL.v (E.assign (v := Value.bool true) rfl) ?_
      refine FL.nil ?_
      obtain ⟨q125, hq, hp⟩ := bndR hp
      refine FW.block ?_
      refine FW.mono (FW.iter (S := ((List (List Term)) × Bool)) (X := Empty) (fun (s125 : ((List (List Term)) × Bool)) f w => ∃ H : GH, ∃ v126 : Value, St Ha wa H w [] ∧ Inc H116 H ∧ RSl H (eL eTerm 2) 1 v126 s125.1 ∧ f 0 = Value.int .i64 a0 ∧ f 2 = Value.int .i64 a2 ∧ f 4 = Value.pointer (some ⟨b21, 0, none⟩) ∧ f 7 = v126 ∧ f 9 = Value.bool s125.2) (fun (q : Rs ((List (List Term)) × Bool) Empty) e f w => match q with | .go s125 => e = Exit.exit 2 ∧ (∃ H : GH, ∃ v126 : Value, St Ha wa H w [] ∧ Inc H116 H ∧ RSl H (eL eTerm 2) 1 v126 s125.1 ∧ f 7 = v126) | .rt x => x.elim) hq ⟨_, _, S117, (Inc.rfl _), h42, k121, k122, k123, k124, rfl⟩ ?_) ?_
      ·
        clear hp hq
        rintro s125 f132 w131 ⟨H128, v126, S129, i130, h127, k133, k134, k135, k136, k137⟩ o308 hp
        refine FW.seq (FW.seq (FW.region ?_))
        refine FL.v (E.move k137) ?_
        refine FL.nil ?_
        rcases ifB hp with ⟨c138, hp⟩ | ⟨c138, hp⟩
        ·
          refine FW.condT rfl c138 ?_
          refine FW.skip (FW.block (FW.seq (FW.region ?_)))
          refine FL.v (E.assign (v := Value.bool false) rfl) ?_
          refine FL.nil (FW.seq (FW.region ?_))
          obtain ⟨v139, w140, run141, S142⟩ := S129.buildSlice (P := Tryz.prog) te63 [] (parts := #[]) (cells := []) rfl szs_nil fc_nil ones_nil (Nat.le_of_ble_eq_true rfl)
          have els143 : Els (up wa.heap.size H128) (eL eTerm 2) 1 [] [] := Els.nil
          refine FL.v (E.buildSlice (B0) run141) ?_
          refine FL.v (E.move k136) ?_
          obtain ⟨xs144, hz145, hp⟩ := bnd hp
          obtain ⟨v146, w149, n147, cs148, run150, S151, els152⟩ := S142.appendP (P := Tryz.prog) (Inc.rfl _) te63 (i := 0) rfl (els143.mono upI) h127 hz145
          have S151 : St Ha wa H128 w149 [.row 55 1 v146 n147 cs148] := S151
          refine FL.v (E.append rfl rfl run150) ?_
          refine FL.v (E.assign (v := v146) rfl) ?_
          refine FL.nil (FW.seq (FW.region ?_))
          refine FL.v (E.assign (v := Value.int .i64 0) rfl) ?_
          refine FL.nil ?_
          obtain ⟨q153, hq, hp⟩ := bndR hp
          refine FW.block ?_
          refine FW.mono (FW.iter (S := ((List (List Term)) × Bool × Int)) (X := Empty) (fun (s153 : ((List (List Term)) × Bool × Int)) f w => ∃ H : GH, ∃ v154 : Value, St Ha wa H w [.row 55 1 v146 n147 cs148] ∧ Inc H128 H ∧ RSl H (eL eTerm 2) 1 v154 s153.1 ∧ f 0 = Value.int .i64 a0 ∧ f 2 = Value.int .i64 a2 ∧ f 4 = Value.pointer (some ⟨b21, 0, none⟩) ∧ f 7 = v154 ∧ f 9 = Value.bool s153.2.1 ∧ f 10 = v146 ∧ f 11 = Value.int .i64 s153.2.2) (fun (q : Rs ((List (List Term)) × Bool × Int) Empty) e f w => match q with | .go s153 => e = Exit.exit 4 ∧ (∃ H : GH, ∃ v154 : Value, St Ha wa H w [.row 55 1 v146 n147 cs148] ∧ Inc H128 H ∧ RSl H (eL eTerm 2) 1 v154 s153.1 ∧ f 0 = Value.int .i64 a0 ∧ f 2 = Value.int .i64 a2 ∧ f 4 = Value.pointer (some ⟨b21, 0, none⟩) ∧ f 7 = v154 ∧ f 9 = Value.bool s153.2.1) | .rt x => x.elim) hq ⟨_, _, S151, (Inc.rfl _), h127, k133, k134, k135, k136, rfl, rfl, rfl⟩ ?_) ?_
          ·
            clear hp hq
            rintro s153 f160 w159 ⟨H156, v154, S157, i158, h155, k161, k162, k163, k164, k165, k166, k167⟩ o297 hp
            refine FW.seq (FW.seq (FW.region ?_))
            refine FL.v (E.move k167) ?_
            refine FL.v (E.move k166) ?_
            refine FL.v (E.lenO te63 rfl S157 (i := 0) rfl els152 (by decide)) ?_
            refine FL.v (E.lss rfl rfl) ?_
            refine FL.nil ?_
            rcases ifB hp with ⟨c168, hp⟩ | ⟨c168, hp⟩
            ·
              refine FW.condT rfl c168 ?_
              refine FW.skip (FW.seq (FW.block (FW.seq (FW.region ?_))))
              refine FL.v (E.assign (v := Value.int .i64 1) rfl) ?_
              refine FL.nil ?_
              obtain ⟨q169, hq, hp⟩ := bndR hp
              refine FW.block ?_
              refine FW.mono (FW.iter (S := ((List (List Term)) × Bool × Int)) (X := Empty) (fun (s169 : ((List (List Term)) × Bool × Int)) f w => ∃ H : GH, ∃ v170 : Value, St Ha wa H w [.row 55 1 v146 n147 cs148] ∧ Inc H156 H ∧ RSl H (eL eTerm 2) 1 v170 s169.1 ∧ f 0 = Value.int .i64 a0 ∧ f 2 = Value.int .i64 a2 ∧ f 4 = Value.pointer (some ⟨b21, 0, none⟩) ∧ f 7 = v170 ∧ f 9 = Value.bool s169.2.1 ∧ f 10 = v146 ∧ f 11 = Value.int .i64 s153.2.2 ∧ f 12 = Value.int .i64 s169.2.2) (fun (q : Rs ((List (List Term)) × Bool × Int) Empty) e f w => match q with | .go s169 => e = Exit.exit 6 ∧ (∃ H : GH, ∃ v170 : Value, St Ha wa H w [.row 55 1 v146 n147 cs148] ∧ Inc H156 H ∧ RSl H (eL eTerm 2) 1 v170 s169.1 ∧ f 0 = Value.int .i64 a0 ∧ f 2 = Value.int .i64 a2 ∧ f 4 = Value.pointer (some ⟨b21, 0, none⟩) ∧ f 7 = v170 ∧ f 9 = Value.bool s169.2.1 ∧ f 10 = v146 ∧ f 11 = Value.int .i64 s153.2.2) | .rt x => x.elim) hq ⟨_, _, S157, (Inc.rfl _), h155, k161, k162, k163, k164, k165, k166, k167, rfl⟩ ?_) ?_
              ·
                clear hp hq
                rintro s169 f176 w175 ⟨H172, v170, S173, i174, h171, k177, k178, k179, k180, k181, k182, k183, k184⟩ o284 hp
                refine FW.seq (FW.seq (FW.region ?_))
                refine FL.v (E.move k184) ?_
                refine FL.v (E.fieldAddr tf32_0 k179) ?_
                refine FL.v (E.load rfl (run_load1 Tryz.isAgg3 ((at28.mono ((((i36.tr i118).tr i130).tr i158).tr i174)).now S173.sl) rfl)) ?_
                refine FL.v (E.leq rfl rfl) ?_
                refine FL.v (E.move (v := Value.bool (decide (s169.2.2 ≤ a1.vars))) rfl) ?_
                obtain ⟨t185, hqt185, hp⟩ := bnd hp
                refine FL.cut 8 (fun f w => ∃ H : GH, St Ha wa H w [.row 55 1 v146 n147 cs148] ∧ Inc H172 H ∧ f 0 = Value.int .i64 a0 ∧ f 2 = Value.int .i64 a2 ∧ f 4 = Value.pointer (some ⟨b21, 0, none⟩) ∧ f 7 = v170 ∧ f 9 = Value.bool s169.2.1 ∧ f 10 = v146 ∧ f 11 = Value.int .i64 s153.2.2 ∧ f 12 = Value.int .i64 s169.2.2 ∧ f 70 = Value.bool t185) ?_ ?_
                ·
                  clear hp; have hp := hqt185; clear hqt185
                  rcases ifB hp with ⟨c191, hp⟩ | ⟨c191, hp⟩
                  ·
                    refine FL.val (wF_yes rfl rfl rfl c191) rfl rfl (E.move k182) ?_
                    refine FL.val (wF_yes rfl rfl rfl c191) rfl rfl (E.move k183) ?_
                    obtain ⟨x198, hx199, hp⟩ := bnd hp
                    obtain ⟨p192, cs193, pt194, l195, at196, rel197⟩ := S173.row_at (i := 0) rfl els152 (by decide) hx199
                    obtain ⟨v200, rfl, h201⟩ := eL_open rel197
                    refine FL.val (wF_yes rfl rfl rfl c191) rfl rfl (E.indexAddr te63 rfl rfl pt194) ?_
                    refine FL.val (wF_yes rfl rfl rfl c191) rfl rfl (E.load rfl (run_load0 Tryz.isAgg55 at196 rfl)) ?_
                    obtain ⟨r202, hr203, hp⟩ := bnd hp
                    refine FL.call (wF_yes rfl rfl rfl c191) rfl rfl (E.call Tryz.call128 (A1 rfl)) (w_spec_l18Degree S173.sl v200 x198 (h201.mono (i158.tr i174)) hr203) ?_
                    rintro e w204 ⟨rfl, r205⟩
                    refine ⟨_, rfl, ?_⟩
                    have S206 := S173.call r205
                    refine FL.val (wF_yes rfl rfl rfl c191) rfl rfl (E.move k178) ?_
                    refine FL.val (wF_yes rfl rfl rfl c191) rfl rfl (E.lss rfl rfl) ?_
                    obtain rfl := Option.some.inj hp
                    refine FL.v (E.pickT rfl c191 rfl) ?_
                    exact FL.nil ⟨rfl, _, S206, (Inc.rfl _), k177, k178, k179, k180, k181, k182, k183, k184, rfl⟩
                  ·
                    refine FL.skip (wF_no rfl rfl rfl c191) rfl ?_
                    refine FL.skip (wF_no rfl rfl rfl c191) rfl ?_
                    refine FL.skip (wF_no rfl rfl rfl c191) rfl ?_
                    refine FL.skip (wF_no rfl rfl rfl c191) rfl ?_
                    refine FL.skip (wF_no rfl rfl rfl c191) rfl ?_
                    refine FL.skip (wF_no rfl rfl rfl c191) rfl ?_
                    refine FL.skip (wF_no rfl rfl rfl c191) rfl ?_
                    obtain rfl := Option.some.inj hp
                    refine FL.v (E.pickF rfl c191 rfl) ?_
                    exact FL.nil ⟨rfl, _, S173, (Inc.rfl _), k177, k178, k179, k180, k181, k182, k183, k184, rfl⟩
                rintro f190 w189 ⟨H186, S187, i188, k207, k208, k209, k210, k211, k212, k213, k214, k215⟩
                refine FL.nil ?_
                rcases ifB hp with ⟨c216, hp⟩ | ⟨c216, hp⟩
                ·
                  refine FW.condT k215 c216 ?_
                  refine FW.skip (FW.seq (FW.block (FW.seq ?_)))
                  obtain ⟨x226, hx227, hp⟩ := bnd hp
                  obtain ⟨r231, hr232, hp⟩ := bnd hp
                  obtain ⟨r246, hr247, hp⟩ := bnd hp
                  refine FW.drawB (SX Ha wa H186 [.row 55 1 v146 n147 cs148]) (fun f w => ∃ H : GH, ∃ v254 : Value, St Ha wa H w [.row 55 1 v146 n147 cs148] ∧ Inc H186 H ∧ RSl H (eL eTerm 2) 1 v254 r246.1 ∧ f 0 = Value.int .i64 a0 ∧ f 2 = Value.int .i64 a2 ∧ f 4 = Value.pointer (some ⟨b21, 0, none⟩) ∧ f 9 = Value.bool s169.2.1 ∧ f 10 = v146 ∧ f 11 = Value.int .i64 s153.2.2 ∧ f 12 = Value.int .i64 s169.2.2 ∧ f 13 = v254 ∧ f 14 = Value.bool r246.2) (by kernel_rfl) S187.sl ?_ ?_
                  ·
                    intro w217 r218
                    have S219 := S187.call r218
                    refine FB.t (i := 0) (bs 19 1) rfl (SP.nil ⟨_, S219, (Inc.rfl _)⟩) rfl (fun w' hw' => (E.move k207)) ?_
                    refine FB.t (i := 1) (bs 19 3) rfl (SP.nil ⟨_, S219, (Inc.rfl _)⟩) rfl (fun w' hw' => (E.fieldAddr tf32_0 k209)) ?_
                    refine FB.t (i := 2) (bs 19 7) rfl (SP.nil ⟨_, S219, (Inc.rfl _)⟩) rfl (fun w' hw' => (E.load rfl (run_load1 Tryz.isAgg3 ((at28.mono (((((i36.tr i118).tr i130).tr i158).tr i174).tr i188)).now hw'.sl) rfl))) ?_
                    refine FB.t (i := 3) (bs 19 15) rfl (SP.nil ⟨_, S219, (Inc.rfl _)⟩) rfl (fun w' hw' => (E.move k210)) ?_
                    refine FB.t (i := 4) (bs 19 31) rfl (SP.nil ⟨_, S219, (Inc.rfl _)⟩) rfl (fun w' hw' => (E.move k207)) ?_
                    refine FB.t (i := 5) (bs 19 63) rfl (SP.nil ⟨_, S219, (Inc.rfl _)⟩) rfl (fun w' hw' => (E.fieldAddr tf32_0 k209)) ?_
                    refine FB.t (i := 6) (bs 19 127) rfl (SP.nil ⟨_, S219, (Inc.rfl _)⟩) rfl (fun w' hw' => (E.load rfl (run_load1 Tryz.isAgg3 ((at28.mono (((((i36.tr i118).tr i130).tr i158).tr i174).tr i188)).now hw'.sl) rfl))) ?_
                    refine FB.t (i := 7) (bs 19 255) rfl (SP.nil ⟨_, S219, (Inc.rfl _)⟩) rfl (fun w' hw' => (E.move k212)) ?_
                    refine FB.t (i := 8) (bs 19 511) rfl (SP.nil ⟨_, S219, (Inc.rfl _)⟩) rfl (fun w' hw' => (E.move k213)) ?_
                    obtain ⟨p220, cs221, pt222, l223, at224, rel225, hall228⟩ := S219.row_atA (i := 0) rfl els152 (by decide) hx227
                    obtain ⟨v229, rfl, h230⟩ := eL_open rel225
                    refine FB.t (i := 9) (bs 19 1023) rfl (SP.nil ⟨_, S219, (Inc.rfl _)⟩) rfl (fun w' hw' => (E.indexAddr te63 rfl rfl pt222)) ?_
                    refine FB.t (i := 10) (bs 19 2047) rfl (SP.nil ⟨_, S219, (Inc.rfl _)⟩) rfl (fun w' hw' => (E.load rfl (run_load0 Tryz.isAgg55 (hw'.use fun _ st => hall228 _ _ _ 0 st rfl) rfl))) ?_
                    refine FB.t (i := 11) (bs 19 4095) rfl (SP.nil ⟨_, S219, (Inc.rfl _)⟩) rfl (fun w' hw' => (E.move k214)) ?_
                    refine FB.all1 (i := 12) (by kernel_rfl) ?_
                    ·
                      refine FC.call (l' := (bs 19 8191)) rfl (by kernel_rfl) rfl rfl rfl (E.call Tryz.call158 (A4 rfl rfl rfl rfl)) (w_spec_l20Times S219.sl a0 a1.vars v229 x226 (h230.mono ((i158.tr i174).tr i188)) s169.2.2 hr232) ?_
                      rintro e w234 ⟨H233, v237, n238, cs239, rfl, r236, els240⟩
                      refine ⟨_, rfl, ?_⟩
                      have els240 := els240.mono (up_le S219.size)
                      have S235 := S219.join (l' := [.row 108 2 v237 n238 cs239, .row 55 1 v146 n147 cs148]) r236 rfl
                      refine ⟨(SP.nil ⟨_, (S235.sel [1] (by decide) rfl), r236.run.inc⟩), ?_⟩
                      refine FB.all1 (i := 13) (by kernel_rfl) ?_
                      ·
                        obtain ⟨H241, S242, i243, h244, nv245⟩ := S235.sealRowU (i := 0) (l' := [.row 55 1 v146 n147 cs148]) rfl els240 (by decide) rfl
                        refine FC.call (l' := (bs 19 16383)) rfl (by kernel_rfl) rfl rfl rfl (E.call Tryz.call157 (A4 rfl rfl rfl rfl)) (w_spec_l20Put S242.sl a0 a1.vars v170 s169.1 (h171.mono ((i188.tr r236.run.inc).tr i243)) v237 r231 (h244.mono upI) hr247) ?_
                        rintro e w249 ⟨H248, v252, rfl, r251, h253⟩
                        refine ⟨_, rfl, ?_⟩
                        have S250 := S242.call r251
                        refine ⟨(SP.nil ⟨_, S250, ((r236.run.inc.tr i243).tr r251.inc)⟩), ?_⟩
                        refine FB.t (i := 14) (bs 19 32767) rfl (SP.nil ⟨_, S250, ((r236.run.inc.tr i243).tr r251.inc)⟩) rfl (fun w' hw' => (E.move (v := Value.tuple #[v252, Value.bool r246.2]) rfl)) ?_
                        refine FB.t (i := 15) (bs 19 65535) rfl (SP.nil ⟨_, S250, ((r236.run.inc.tr i243).tr r251.inc)⟩) rfl (fun w' hw' => (E.extract (i := 0) rfl rfl)) ?_
                        refine FB.t (i := 16) (bs 19 131071) rfl (SP.nil ⟨_, S250, ((r236.run.inc.tr i243).tr r251.inc)⟩) rfl (fun w' hw' => (E.extract (i := 1) rfl rfl)) ?_
                        refine FB.t (i := 17) (bs 19 262143) rfl (SP.nil ⟨_, S250, ((r236.run.inc.tr i243).tr r251.inc)⟩) rfl (fun w' hw' => (E.assign (v := v252) rfl)) ?_
                        refine FB.t (i := 18) (bs 19 524287) rfl (SP.nil ⟨_, S250, ((r236.run.inc.tr i243).tr r251.inc)⟩) rfl (fun w' hw' => (E.assign (v := Value.bool r246.2) rfl)) ?_
                        exact FB.done (by kernel_rfl) ⟨_, _, S250, ((r236.run.inc.tr i243).tr r251.inc), h253, k207, k208, k209, k211, k212, k213, k214, rfl, rfl⟩
                  ·
                    rintro f260 w259 ⟨H256, v254, S257, i258, h255, k261, k262, k263, k264, k265, k266, k267, k268, k269⟩
                    refine FW.seq (FW.region ?_)
                    refine FL.v (E.move k268) ?_
                    refine FL.v (E.assign (v := v254) rfl) ?_
                    refine FL.nil (FW.region ?_)
                    refine FL.v (E.move k264) ?_
                    refine FL.v (E.move (v := Value.bool s169.2.1) rfl) ?_
                    refine FL.cut 2 (fun f w => ∃ H : GH, St Ha wa H w [.row 55 1 v146 n147 cs148] ∧ Inc H256 H ∧ f 0 = Value.int .i64 a0 ∧ f 2 = Value.int .i64 a2 ∧ f 4 = Value.pointer (some ⟨b21, 0, none⟩) ∧ f 7 = v254 ∧ f 10 = v146 ∧ f 11 = Value.int .i64 s153.2.2 ∧ f 12 = Value.int .i64 s169.2.2 ∧ f 94 = Value.bool (bif s169.2.1 then true else r246.2)) ?_ ?_
                    ·
                      rcases bcase s169.2.1 with c275 | c275
                      ·
                        refine FL.skip (wF_no rfl rfl rfl c275) rfl ?_
                        refine FL.v (E.pickT rfl c275 rfl) ?_
                        exact FL.nil ⟨rfl, _, S257, (Inc.rfl _), k261, k262, k263, rfl, k265, k266, k267, (congrArg Value.bool (bifT c275).symm)⟩
                      ·
                        refine FL.val (wF_yes rfl rfl rfl c275) rfl rfl (E.move k269) ?_
                        refine FL.v (E.pickF rfl c275 rfl) ?_
                        exact FL.nil ⟨rfl, _, S257, (Inc.rfl _), k261, k262, k263, rfl, k265, k266, k267, (congrArg Value.bool (bifF c275).symm)⟩
                    rintro f274 w273 ⟨H270, S271, i272, k276, k277, k278, k279, k280, k281, k282, k283⟩
                    refine FL.v (E.assign k283) ?_
                    refine FL.nil (FW.region ?_)
                    refine FL.v (E.move k282) ?_
                    refine FL.v (E.add rfl rfl) ?_
                    refine FL.v (E.assign (v := Value.int .i64 (wr (s169.2.2 + 1))) rfl) ?_
                    refine FL.nil ?_
                    obtain rfl := Option.some.inj hp
                    exact ⟨rfl, ⟨_, _, S271, (((i174.tr i188).tr i258).tr i272), (h255.mono i272), k276, k277, k278, k279, rfl, k280, k281, rfl⟩⟩
                ·
                  refine FW.condF k215 c216 ?_
                  refine FW.exit ?_
                  obtain rfl := Option.some.inj hp
                  exact ⟨nofun, rfl, ⟨_, _, S187, (i174.tr i188), (h171.mono i188), k207, k208, k209, k210, k211, k212, k213⟩⟩
              ·
                clear hq
                intro e f289 w288 hD
                rcases q169 with s169 | x169
                ·
                  obtain ⟨rfl, hD⟩ := hD
                  obtain ⟨H285, v170, S286, i287, h171, k290, k291, k292, k293, k294, k295, k296⟩ := hD
                  replace hp := el_go hp
                  refine FW.region ?_
                  refine FL.v (E.move k296) ?_
                  refine FL.v (E.add rfl rfl) ?_
                  refine FL.v (E.assign (v := Value.int .i64 (wr (s153.2.2 + 1))) rfl) ?_
                  refine FL.nil ?_
                  obtain rfl := Option.some.inj hp
                  exact ⟨rfl, ⟨_, _, S286, (i158.tr i287), h171, k290, k291, k292, k293, k294, k295, rfl⟩⟩
                · exact x169.elim
            ·
              refine FW.condF rfl c168 ?_
              refine FW.exit ?_
              obtain rfl := Option.some.inj hp
              exact ⟨nofun, rfl, ⟨_, _, S157, i158, h155, k161, k162, k163, k164, k165⟩⟩
          ·
            clear hq
            intro e f302 w301 hD
            rcases q153 with s153 | x153
            ·
              obtain ⟨rfl, hD⟩ := hD
              obtain ⟨H298, v154, S299, i300, h155, k303, k304, k305, k306, k307⟩ := hD
              replace hp := el_go hp
              obtain rfl := Option.some.inj hp
              exact ⟨rfl, ⟨_, _, (S299.sel [] (by decide) rfl), (i130.tr i300), h155, k303, k304, k305, k306, k307⟩⟩
            · exact x153.elim
        ·
          refine FW.condF rfl c138 ?_
          refine FW.exit ?_
          obtain rfl := Option.some.inj hp
          exact ⟨nofun, rfl, ⟨_, _, S129, i130, h127, k136⟩⟩
      ·
        clear hq
        intro e f313 w312 hD
        rcases q125 with s125 | x125
        ·
          obtain ⟨rfl, hD⟩ := hD
          obtain ⟨H309, v126, S310, i311, h127, k314⟩ := hD
          replace hp := el_go hp
          refine FW.seq (FW.region ?_)
          refine FL.v (E.move k314) ?_
          refine FL.v (E.assign (v := v126) rfl) ?_
          refine FL.nil ?_
          refine FW.ret ?_
          obtain rfl := Option.some.inj hp
          exact ⟨.inr rfl, res1 rfl rfl ⟨_, _, rfl, S310.run, h127⟩⟩
        · exact x125.elim
    · exact x40.elim

@[reducible] def p_spec_l20Terms (Ha : GH) (wa : World) (r : (List Term)) : Ending → World → Prop :=
 fun e w' => ∃ H' : GH, ∃ v0 : Value, ∃ n0 : Nat, ∃ c0 : List Value, e = .returned (v0) ∧ St Ha wa H' w' [.row 108 2 v0 n0 c0] ∧ Els (up wa.heap.size H') eTerm 2 c0 r
theorem w_spec_l20Terms {Ha : GH} {wa : World} (hs : Sl Ha wa) (v0 : Value) (a0 : List Term) (p0 : RSl Ha eTerm 2 v0 a0) {r : (List Term)} (hp : (PF.spec_l20Terms a0) = some r) :
  Calls Tryz.prog 93 #[v0] wa (p_spec_l20Terms Ha wa r) := by
 unfold PF.spec_l20Terms at hp
 have S0 := St.init hs
 refine calls_go (N := 6) (args := [v0]) Tryz.func93 rfl rfl rfl ?_
 refine FW.seq (FW.region ?_)
 refine FL.v (E.assign (v := Value.slice none 0 0) rfl) ?_
 refine FL.nil (FW.seq (FW.region ?_))
 obtain ⟨v21, w22, run23, S24⟩ := S0.buildSlice (P := Tryz.prog) te55 [] (parts := #[]) (cells := []) rfl szs_nil fc_nil ones_nil (Nat.le_of_ble_eq_true rfl)
 have els25 : Els (up wa.heap.size Ha) eTerm 2 [] [] := Els.nil
 refine FL.v (E.buildSlice (B0) run23) ?_
 refine FL.v (E.move (v := v0) rfl) ?_
 obtain ⟨xs26, hz27, hp⟩ := bnd hp
 obtain ⟨v28, w31, n29, cs30, run32, S33, els34⟩ := S24.appendP (P := Tryz.prog) (Inc.rfl _) te55 (i := 0) rfl (els25.mono upI) p0 hz27
 have S33 : St Ha wa Ha w31 [.row 108 2 v28 n29 cs30] := S33
 have els34 : Els (up wa.heap.size Ha) eTerm 2 cs30 xs26 := els34.any (fun _ _ _ _ h => h)
 refine FL.v (E.append rfl rfl run32) ?_
 refine FL.v (E.assign (v := v28) rfl) ?_
 refine FL.nil ?_
 refine FW.ret ?_
 obtain rfl := Option.some.inj hp
 exact ⟨.inr rfl, res1 rfl rfl ⟨_, _, _, _, rfl, S33, els34⟩⟩

@[reducible] def p_spec_RemainderOf (Ha : GH) (wa : World) (r : ((List Term) × Bool)) : Ending → World → Prop :=
 fun e w' => ∃ H' : GH, ∃ v0 : Value, ∃ n0 : Nat, ∃ c0 : List Value, e = .returned (Value.tuple #[v0, Value.bool r.2]) ∧ St Ha wa H' w' [.row 108 2 v0 n0 c0] ∧ Els (up wa.heap.size H') eTerm 2 c0 r.1
theorem w_spec_RemainderOf {Ha : GH} {wa : World} (hs : Sl Ha wa) (a0 : Int) (a1 : Cnf) (v1_1 : Value) (p1_1 : RSl Ha (eL eI 1) 1 v1_1 a1.clauses) (a2 : Int) (v3 : Value) (a3 : List Term) (p3 : RSl Ha eTerm 2 v3 a3) {r : ((List Term) × Bool)} (hp : (PF.spec_RemainderOf a0 a1 a2 a3) = some r) :
  Calls Tryz.prog 32 #[Value.int .i64 a0, Value.agg #[Value.int .i64 a1.vars, v1_1], Value.int .i64 a2, v3] wa (p_spec_RemainderOf Ha wa r) := by
 unfold PF.spec_RemainderOf at hp
 have S0 := St.init hs
 refine calls_go (N := 38) (args := [Value.int .i64 a0, Value.agg #[Value.int .i64 a1.vars, v1_1], Value.int .i64 a2, v3]) Tryz.func32 rfl rfl rfl ?_
 refine FW.seq (FW.region ?_)
 obtain ⟨b21, w22, run23, S24⟩ := S0.box (P := Tryz.prog) 32 [Value.int .i64 a1.vars, v1_1] (v := Value.agg #[Value.int .i64 a1.vars, v1_1]) rfl (ones_cons rfl (ones_cons p1_1.one ones_nil))
 refine FL.v (E.box rfl run23) ?_
 obtain ⟨H25, S26, i27, at28⟩ := S24.sealBox (i := 0) (l' := []) rfl rfl
 refine FL.v (E.assign (v := Value.slice none 0 0) rfl) ?_
 refine FL.v (E.assign (v := Value.bool false) rfl) ?_
 refine FL.nil (FW.seq (FW.seq (FW.region ?_)))
 refine FL.v (E.move (v := Value.int .i64 a0) rfl) ?_
 refine FL.v (E.load rfl (run_loadA Tryz.isAgg32 Tryz.sizeOf32 (at28.now S26.sl) rfl)) ?_
 obtain ⟨r29, hr30, hp⟩ := bnd hp
 refine FL.call rfl rfl rfl (E.call Tryz.call90 (A2 rfl rfl)) (w_spec_l20Asked S26.sl a0 a1 v1_1 (p1_1.mono i27) hr30) ?_
 rintro e w31 ⟨rfl, r32⟩
 refine ⟨_, rfl, ?_⟩
 have S33 := S26.call r32
 refine FL.v (E.not rfl) ?_
 refine FL.v (E.move (v := Value.bool (!r29)) rfl) ?_
 refine FL.cut 4 (fun f w => ∃ H : GH, St Ha wa H w [] ∧ Inc H25 H ∧ f 0 = Value.int .i64 a0 ∧ f 2 = Value.int .i64 a2 ∧ f 3 = v3 ∧ f 5 = Value.pointer (some ⟨b21, 0, none⟩) ∧ f 18 = Value.bool (bif (!r29) then true else (!(PF.spec_l20Degree a2)))) ?_ ?_
 ·
  rcases bcase (!r29) with c43 | c43
  ·
   refine FL.skip (wF_no rfl rfl rfl c43) rfl ?_
   refine FL.skip (wF_no rfl rfl rfl c43) rfl ?_
   refine FL.skip (wF_no rfl rfl rfl c43) rfl ?_
   refine FL.v (E.pickT rfl c43 rfl) ?_
   exact FL.nil ⟨rfl, _, S33, (Inc.rfl _), rfl, rfl, rfl, rfl, (congrArg Value.bool (bifT c43).symm)⟩
  ·
   refine FL.val (wF_yes rfl rfl rfl c43) rfl rfl (E.move (v := Value.int .i64 a2) rfl) ?_
   refine FL.call (wF_yes rfl rfl rfl c43) rfl rfl (E.call Tryz.call91 (A1 rfl)) (w_spec_l20Degree S33.sl a2) ?_
   rintro e w44 ⟨rfl, r45⟩
   refine ⟨_, rfl, ?_⟩
   have S46 := S33.call r45
   refine FL.val (wF_yes rfl rfl rfl c43) rfl rfl (E.not rfl) ?_
   refine FL.v (E.pickF rfl c43 rfl) ?_
   exact FL.nil ⟨rfl, _, S46, (Inc.rfl _), rfl, rfl, rfl, rfl, (congrArg Value.bool (bifF c43).symm)⟩
 rintro f42 w41 ⟨H38, S39, i40, k47, k48, k49, k50, k51⟩
 refine FL.v (E.move k51) ?_
 obtain ⟨t57, hqt57, hp⟩ := bnd hp
 refine FL.cut 7 (fun f w => ∃ H : GH, St Ha wa H w [] ∧ Inc H38 H ∧ f 0 = Value.int .i64 a0 ∧ f 2 = Value.int .i64 a2 ∧ f 3 = v3 ∧ f 5 = Value.pointer (some ⟨b21, 0, none⟩) ∧ f 26 = Value.bool t57) ?_ ?_
 ·
  clear hp; have hp := hqt57; clear hqt57
  rcases ifB hp with ⟨c63, hp⟩ | ⟨c63, hp⟩
  ·
   refine FL.skip (wF_no rfl rfl rfl c63) rfl ?_
   refine FL.skip (wF_no rfl rfl rfl c63) rfl ?_
   refine FL.skip (wF_no rfl rfl rfl c63) rfl ?_
   refine FL.skip (wF_no rfl rfl rfl c63) rfl ?_
   refine FL.skip (wF_no rfl rfl rfl c63) rfl ?_
   refine FL.skip (wF_no rfl rfl rfl c63) rfl ?_
   obtain rfl := Option.some.inj hp
   refine FL.v (E.pickT rfl c63 rfl) ?_
   exact FL.nil ⟨rfl, _, S39, (Inc.rfl _), k47, k48, k49, k50, rfl⟩
  ·
   refine FL.val (wF_yes rfl rfl rfl c63) rfl rfl (E.move k47) ?_
   refine FL.val (wF_yes rfl rfl rfl c63) rfl rfl (E.fieldAddr tf32_0 k50) ?_
   refine FL.val (wF_yes rfl rfl rfl c63) rfl rfl (E.load rfl (run_load1 Tryz.isAgg3 ((at28.mono i40).now S39.sl) rfl)) ?_
   refine FL.val (wF_yes rfl rfl rfl c63) rfl rfl (E.move k49) ?_
   obtain ⟨r64, hr65, hp⟩ := bnd hp
   refine FL.call (wF_yes rfl rfl rfl c63) rfl rfl (E.call Tryz.call92 (A3 rfl rfl rfl)) (w_spec_l18Good S39.sl a0 a1.vars v3 a3 (p3.mono (i27.tr i40)) hr65) ?_
   rintro e w66 ⟨rfl, r67⟩
   refine ⟨_, rfl, ?_⟩
   have S68 := S39.call r67
   refine FL.val (wF_yes rfl rfl rfl c63) rfl rfl (E.not rfl) ?_
   obtain rfl := Option.some.inj hp
   refine FL.v (E.pickF rfl c63 rfl) ?_
   exact FL.nil ⟨rfl, _, S68, (Inc.rfl _), k47, k48, k49, k50, rfl⟩
 rintro f62 w61 ⟨H58, S59, i60, k69, k70, k71, k72, k73⟩
 refine FL.nil ?_
 rcases ifB hp with ⟨c74, hp⟩ | ⟨c74, hp⟩
 ·
  refine FW.condT k73 c74 ?_
  refine FW.seq (FW.region ?_)
  obtain ⟨v75, w76, run77, S78⟩ := S59.buildSlice (P := Tryz.prog) te55 [] (parts := #[]) (cells := []) rfl szs_nil fc_nil ones_nil (Nat.le_of_ble_eq_true rfl)
  have els79 : Els (up wa.heap.size H58) eTerm 2 [] [] := Els.nil
  refine FL.v (E.buildSlice (B0) run77) ?_
  refine FL.v (E.assign (v := v75) rfl) ?_
  refine FL.v (E.assign (v := Value.bool false) rfl) ?_
  refine FL.nil ?_
  refine FW.ret ?_
  obtain rfl := Option.some.inj hp
  exact ⟨.inr rfl, res2 rfl rfl rfl ⟨_, _, _, _, rfl, S78, els79⟩⟩
 ·
  refine FW.condF k73 c74 ?_
  refine FW.skip (FW.seq ?_)
  obtain ⟨r34, hr35, hp⟩ := bnd hp
  obtain ⟨r83, hr84, hp⟩ := bnd hp
  obtain ⟨r91, hr92, hp⟩ := bnd hp
  refine FW.drawB (Sl H58) (fun f w => ∃ H : GH, ∃ v101 : Value, ∃ n102 : Nat, ∃ cs103 : List Value, St Ha wa H w [.row 108 2 v101 n102 cs103] ∧ Inc H58 H ∧ Els (up wa.heap.size H) eTerm 2 cs103 r91 ∧ f 8 = v101 ∧ f 9 = Value.bool true) (by kernel_rfl) S59.sl ?_ ?_
  ·
   intro w80 r81
   have S82 := S59.call r81
   refine FB.t (i := 0) (bs 12 1) rfl (SP.nil S82.sl) rfl (fun w' hw' => (E.move k69)) ?_
   refine FB.t (i := 1) (bs 12 3) rfl (SP.nil S82.sl) rfl (fun w' hw' => (E.fieldAddr tf32_0 k72)) ?_
   refine FB.t (i := 2) (bs 12 7) rfl (SP.nil S82.sl) rfl (fun w' hw' => (E.load rfl (run_load1 Tryz.isAgg3 ((at28.mono (i40.tr i60)).now hw') rfl))) ?_
   refine FB.t (i := 3) (bs 12 15) rfl (SP.nil S82.sl) rfl (fun w' hw' => (E.move k69)) ?_
   refine FB.t (i := 4) (bs 12 31) rfl (SP.nil S82.sl) rfl (fun w' hw' => (E.load k72 (run_loadA Tryz.isAgg32 Tryz.sizeOf32 ((at28.mono (i40.tr i60)).now hw') rfl))) ?_
   refine FB.t (i := 5) (bs 12 63) rfl (SP.nil S82.sl) rfl (fun w' hw' => (E.move k70)) ?_
   refine FB.t (i := 7) (bs 12 191) rfl (SP.nil S82.sl) rfl (fun w' hw' => (E.move k71)) ?_
   refine FB.all1 (i := 6) (by kernel_rfl) ?_
   ·
    refine FC.call (l' := (bs 12 255)) rfl (by kernel_rfl) rfl rfl rfl (E.call Tryz.call95 (A3 rfl rfl rfl)) (w_spec_l20Basis S82.sl a0 a1 v1_1 (p1_1.mono ((i27.tr i40).tr i60)) a2 hr35) ?_
    rintro e w37 ⟨H36, v54, rfl, r53, h56⟩
    refine ⟨_, rfl, ?_⟩
    have S52 := S82.call r53
    refine ⟨(SP.nil (Sl.of_inc r53.inc S52.sl)), ?_⟩
    refine FB.all1 (i := 8) (by kernel_rfl) ?_
    ·
     refine FC.call (l' := (bs 12 511)) rfl (by kernel_rfl) rfl rfl rfl (E.call Tryz.call94 (A4 rfl rfl rfl rfl)) (w_spec_l20Rest S52.sl a0 a1.vars v54 r34 h56 v3 a3 (p3.mono (((i27.tr i40).tr i60).tr r53.inc)) hr84) ?_
     rintro e w86 ⟨H85, v89, rfl, r88, h90⟩
     refine ⟨_, rfl, ?_⟩
     have S87 := S52.call r88
     refine ⟨(SP.nil (Sl.of_inc (r53.inc.tr r88.inc) S87.sl)), ?_⟩
     refine FB.all1 (i := 9) (by kernel_rfl) ?_
     ·
      refine FC.call (l' := (bs 12 1023)) rfl (by kernel_rfl) rfl rfl rfl (E.call Tryz.call93 (A1 rfl)) (w_spec_l20Terms S87.sl v89 r83 h90 hr92) ?_
      rintro e w94 ⟨H93, v97, n98, cs99, rfl, r96, els100⟩
      refine ⟨_, rfl, ?_⟩
      have els100 := els100.mono (up_le S87.size)
      have S95 := S87.join (l' := [.row 108 2 v97 n98 cs99]) r96 rfl
      refine ⟨(SP.nil (Sl.of_inc ((r53.inc.tr r88.inc).tr r96.run.inc) S95.sl)), ?_⟩
      refine FB.t (i := 10) (bs 12 2047) rfl (SP.nil (Sl.of_inc ((r53.inc.tr r88.inc).tr r96.run.inc) S95.sl)) rfl (fun w' hw' => (E.assign (v := v97) rfl)) ?_
      refine FB.t (i := 11) (bs 12 4095) rfl (SP.nil (Sl.of_inc ((r53.inc.tr r88.inc).tr r96.run.inc) S95.sl)) rfl (fun w' hw' => (E.assign (v := Value.bool true) rfl)) ?_
      exact FB.done (by kernel_rfl) ⟨_, _, _, _, S95, ((r53.inc.tr r88.inc).tr r96.run.inc), els100, rfl, rfl⟩
  ·
   rintro f109 w108 ⟨H105, v101, n102, cs103, S106, i107, els104, k110, k111⟩
   refine FW.ret ?_
   obtain rfl := Option.some.inj hp
   exact ⟨.inr rfl, res2 rfl k110 k111 ⟨_, _, _, _, rfl, S106, els104⟩⟩

theorem w_spec_IsInPcSpan {Ha : GH} {wa : World} (hs : Sl Ha wa) (a0 : Int) (a1 : Cnf) (v1_1 : Value) (p1_1 : RSl Ha (eL eI 1) 1 v1_1 a1.clauses) (a2 : Int) (v3 : Value) (a3 : List Term) (p3 : RSl Ha eTerm 2 v3 a3) {r : (Bool × Bool)} (hp : (PF.spec_IsInPcSpan a0 a1 a2 a3) = some r) :
  Calls Tryz.prog 38 #[Value.int .i64 a0, Value.agg #[Value.int .i64 a1.vars, v1_1], Value.int .i64 a2, v3] wa (Sc Ha wa (Value.tuple #[Value.bool r.1, Value.bool r.2])) := by
 unfold PF.spec_IsInPcSpan at hp
 have S0 := St.init hs
 refine calls_go (N := 27) (args := [Value.int .i64 a0, Value.agg #[Value.int .i64 a1.vars, v1_1], Value.int .i64 a2, v3]) Tryz.func38 rfl rfl rfl ?_
 refine FW.seq (FW.region ?_)
 obtain ⟨b21, w22, run23, S24⟩ := S0.box (P := Tryz.prog) 32 [Value.int .i64 a1.vars, v1_1] (v := Value.agg #[Value.int .i64 a1.vars, v1_1]) rfl (ones_cons rfl (ones_cons p1_1.one ones_nil))
 refine FL.v (E.box rfl run23) ?_
 obtain ⟨H25, S26, i27, at28⟩ := S24.sealBox (i := 0) (l' := []) rfl rfl
 refine FL.v (E.assign (v := Value.bool false) rfl) ?_
 refine FL.v (E.assign (v := Value.bool false) rfl) ?_
 refine FL.nil (FW.seq (FW.region ?_))
 refine FL.v (E.move (v := Value.int .i64 a0) rfl) ?_
 refine FL.v (E.load rfl (run_loadA Tryz.isAgg32 Tryz.sizeOf32 (at28.now S26.sl) rfl)) ?_
 refine FL.v (E.move (v := Value.int .i64 a2) rfl) ?_
 refine FL.v (E.move (v := v3) rfl) ?_
 obtain ⟨r29, hr30, hp⟩ := bnd hp
 refine FL.call rfl rfl rfl (E.call Tryz.call32 (A4 rfl rfl rfl rfl)) (w_spec_RemainderOf S26.sl a0 a1 v1_1 (p1_1.mono i27) a2 v3 a3 (p3.mono i27) hr30) ?_
 rintro e w32 ⟨H31, v35, n36, cs37, rfl, r34, els38⟩
 refine ⟨_, rfl, ?_⟩
 have els38 := els38.mono (up_le S26.size)
 have S33 := S26.join (l' := [.row 108 2 v35 n36 cs37]) r34 rfl
 refine FL.v (E.move (v := Value.tuple #[v35, Value.bool r29.2]) rfl) ?_
 refine FL.v (E.extract (i := 0) rfl rfl) ?_
 refine FL.v (E.extract (i := 1) rfl rfl) ?_
 refine FL.v (E.assign (v := v35) rfl) ?_
 refine FL.v (E.assign (v := Value.bool r29.2) rfl) ?_
 refine FL.nil (FW.seq (FW.region ?_))
 refine FL.v (E.move (v := Value.bool r29.2) rfl) ?_
 refine FL.v (E.move (v := Value.bool r29.2) rfl) ?_
 refine FL.cut 4 (fun f w => ∃ H : GH, St Ha wa H w [.row 108 2 v35 n36 cs37] ∧ Inc H31 H ∧ f 11 = Value.bool r29.2 ∧ f 25 = Value.bool (bif r29.2 then ((len r29.1) == 0) else false)) ?_ ?_
 ·
  rcases bcase r29.2 with c45 | c45
  ·
   refine FL.val (wF_yes rfl rfl rfl c45) rfl rfl (E.move (v := v35) rfl) ?_
   refine FL.val (wF_yes rfl rfl rfl c45) rfl rfl (E.lenO te55 rfl S33 (i := 0) rfl els38 (by decide)) ?_
   refine FL.val (wF_yes rfl rfl rfl c45) rfl rfl (E.eql rfl rfl) ?_
   refine FL.v (E.pickT rfl c45 rfl) ?_
   exact FL.nil ⟨rfl, _, S33, (Inc.rfl _), rfl, (congrArg Value.bool (bifT c45).symm)⟩
  ·
   refine FL.skip (wF_no rfl rfl rfl c45) rfl ?_
   refine FL.skip (wF_no rfl rfl rfl c45) rfl ?_
   refine FL.skip (wF_no rfl rfl rfl c45) rfl ?_
   refine FL.v (E.pickF rfl c45 rfl) ?_
   exact FL.nil ⟨rfl, _, S33, (Inc.rfl _), rfl, (congrArg Value.bool (bifF c45).symm)⟩
 rintro f44 w43 ⟨H40, S41, i42, k46, k47⟩
 refine FL.v (E.move k46) ?_
 refine FL.v (E.assign k47) ?_
 refine FL.v (E.assign (v := Value.bool r29.2) rfl) ?_
 refine FL.nil ?_
 refine FW.ret ?_
 obtain rfl := Option.some.inj hp
 exact ⟨.inr rfl, res2 rfl rfl rfl ⟨rfl, S41.back⟩⟩

theorem w_impl_within {Ha : GH} {wa : World} (hs : Sl Ha wa) (a0 : Int) (a1 : Int) (a2 : Int) :
  Calls Tryz.prog 162 #[Value.int .i64 a0, Value.int .i64 a1, Value.int .i64 a2] wa (Sc Ha wa (Value.bool (PF.impl_within a0 a1 a2))) := by
 obtain ⟨r, hp⟩ : ∃ r, (PF.impl_within a0 a1 a2) = r := ⟨_, rfl⟩
 rw [hp]
 unfold PF.impl_within at hp
 have S0 := St.init hs
 refine calls_go (N := 15) (args := [Value.int .i64 a0, Value.int .i64 a1, Value.int .i64 a2]) Tryz.func162 rfl rfl rfl ?_
 refine FW.seq (FW.region ?_)
 refine FL.v (E.assign (v := Value.bool false) rfl) ?_
 refine FL.nil (FW.seq (FW.region ?_))
 refine FL.v (E.move (v := Value.int .i64 a0) rfl) ?_
 refine FL.v (E.move (v := Value.int .i64 a1) rfl) ?_
 refine FL.v (E.geq rfl rfl) ?_
 refine FL.v (E.move (v := Value.bool (decide (a1 ≤ a0))) rfl) ?_
 refine FL.cut 4 (fun f w => ∃ H : GH, St Ha wa H w [] ∧ Inc Ha H ∧ f 14 = Value.bool (bif (decide (a1 ≤ a0)) then (decide (a0 ≤ a2)) else false)) ?_ ?_
 ·
  rcases bcase (decide (a1 ≤ a0)) with c27 | c27
  ·
   refine FL.val (wF_yes rfl rfl rfl c27) rfl rfl (E.move (v := Value.int .i64 a0) rfl) ?_
   refine FL.val (wF_yes rfl rfl rfl c27) rfl rfl (E.move (v := Value.int .i64 a2) rfl) ?_
   refine FL.val (wF_yes rfl rfl rfl c27) rfl rfl (E.leq rfl rfl) ?_
   refine FL.v (E.pickT rfl c27 rfl) ?_
   exact FL.nil ⟨rfl, _, S0, (Inc.rfl _), (congrArg Value.bool (bifT c27).symm)⟩
  ·
   refine FL.skip (wF_no rfl rfl rfl c27) rfl ?_
   refine FL.skip (wF_no rfl rfl rfl c27) rfl ?_
   refine FL.skip (wF_no rfl rfl rfl c27) rfl ?_
   refine FL.v (E.pickF rfl c27 rfl) ?_
   exact FL.nil ⟨rfl, _, S0, (Inc.rfl _), (congrArg Value.bool (bifF c27).symm)⟩
 rintro f26 w25 ⟨H22, S23, i24, k28⟩
 refine FL.v (E.assign k28) ?_
 refine FL.nil ?_
 refine FW.ret ?_
 obtain rfl := hp
 exact ⟨.inr rfl, res1 rfl rfl ⟨rfl, S23.back⟩⟩

theorem w_impl_ringOf {Ha : GH} {wa : World} (hs : Sl Ha wa) (a0 : Int) (a1 : Int) :
  Calls Tryz.prog 119 #[Value.int .i64 a0, Value.int .i64 a1] wa (Sc Ha wa (Value.tuple #[Value.agg #[Value.int .i64 (((PF.impl_ringOf a0 a1).1).p), Value.int .i64 (((PF.impl_ringOf a0 a1).1).vars)], Value.bool ((PF.impl_ringOf a0 a1).2)])) := by
 obtain ⟨r, hp⟩ : ∃ r, (PF.impl_ringOf a0 a1) = r := ⟨_, rfl⟩
 rw [hp]
 unfold PF.impl_ringOf at hp
 have S0 := St.init hs
 refine calls_go (N := 23) (args := [Value.int .i64 a0, Value.int .i64 a1]) Tryz.func119 rfl rfl rfl ?_
 refine FW.seq (FW.region ?_)
 obtain ⟨b21, w22, run23, S24⟩ := S0.alloc (P := Tryz.prog) 102 [Value.int .i64 0, Value.int .i64 0] Tryz.zeroValue102 rfl (ones_cons rfl (ones_cons rfl ones_nil))
 refine FL.v (E.alloc run23) ?_
 refine FL.v (E.assign (v := Value.bool false) rfl) ?_
 refine FL.nil (FW.seq (FW.region ?_))
 refine FL.v (E.move (v := Value.int .i64 a0) rfl) ?_
 refine FL.v (E.move (v := Value.int .i64 a1) rfl) ?_
 refine FL.v (E.build (B2 rfl rfl) (run_build _ 102 #[(0, Value.int .i64 a0), (1, Value.int .i64 a1)] #[Value.int .i64 a0, Value.int .i64 a1] (by rfl))) ?_
 refine FL.v (E.move (v := Value.int .i64 a0) rfl) ?_
 refine FL.v (E.eql rfl rfl) ?_
 refine FL.v (E.move (v := Value.bool (a0 == 2)) rfl) ?_
 refine FL.cut 3 (fun f w => ∃ H : GH, St Ha wa H w [.box b21 102 [Value.int .i64 0, Value.int .i64 0]] ∧ Inc Ha H ∧ f 0 = Value.int .i64 a0 ∧ f 1 = Value.int .i64 a1 ∧ f 4 = Value.pointer (some (⟨b21, 0, none⟩ : Addr)) ∧ f 8 = Value.agg #[Value.int .i64 a0, Value.int .i64 a1] ∧ f 14 = Value.bool (bif (a0 == 2) then true else (a0 == 3))) ?_ ?_
 ·
  rcases bcase (a0 == 2) with c31 | c31
  ·
   refine FL.skip (wF_no rfl rfl rfl c31) rfl ?_
   refine FL.skip (wF_no rfl rfl rfl c31) rfl ?_
   refine FL.v (E.pickT rfl c31 rfl) ?_
   exact FL.nil ⟨rfl, _, S24, (Inc.rfl _), rfl, rfl, rfl, rfl, (congrArg Value.bool (bifT c31).symm)⟩
  ·
   refine FL.val (wF_yes rfl rfl rfl c31) rfl rfl (E.move (v := Value.int .i64 a0) rfl) ?_
   refine FL.val (wF_yes rfl rfl rfl c31) rfl rfl (E.eql rfl rfl) ?_
   refine FL.v (E.pickF rfl c31 rfl) ?_
   exact FL.nil ⟨rfl, _, S24, (Inc.rfl _), rfl, rfl, rfl, rfl, (congrArg Value.bool (bifF c31).symm)⟩
 rintro f30 w29 ⟨H26, S27, i28, k32, k33, k34, k35, k36⟩
 refine FL.v (E.move k36) ?_
 refine FL.cut 3 (fun f w => ∃ H : GH, St Ha wa H w [.box b21 102 [Value.int .i64 0, Value.int .i64 0]] ∧ Inc H26 H ∧ f 1 = Value.int .i64 a1 ∧ f 4 = Value.pointer (some (⟨b21, 0, none⟩ : Addr)) ∧ f 8 = Value.agg #[Value.int .i64 a0, Value.int .i64 a1] ∧ f 18 = Value.bool (bif (bif (a0 == 2) then true else (a0 == 3)) then true else (a0 == 5))) ?_ ?_
 ·
  rcases bcase (bif (a0 == 2) then true else (a0 == 3)) with c43 | c43
  ·
   refine FL.skip (wF_no rfl rfl rfl c43) rfl ?_
   refine FL.skip (wF_no rfl rfl rfl c43) rfl ?_
   refine FL.v (E.pickT rfl c43 rfl) ?_
   exact FL.nil ⟨rfl, _, S27, (Inc.rfl _), k33, k34, k35, (congrArg Value.bool (bifT c43).symm)⟩
  ·
   refine FL.val (wF_yes rfl rfl rfl c43) rfl rfl (E.move k32) ?_
   refine FL.val (wF_yes rfl rfl rfl c43) rfl rfl (E.eql rfl rfl) ?_
   refine FL.v (E.pickF rfl c43 rfl) ?_
   exact FL.nil ⟨rfl, _, S27, (Inc.rfl _), k33, k34, k35, (congrArg Value.bool (bifF c43).symm)⟩
 rintro f42 w41 ⟨H38, S39, i40, k44, k45, k46, k47⟩
 refine FL.v (E.move k47) ?_
 refine FL.cut 3 (fun f w => ∃ H : GH, St Ha wa H w [.box b21 102 [Value.int .i64 0, Value.int .i64 0]] ∧ Inc H38 H ∧ f 4 = Value.pointer (some (⟨b21, 0, none⟩ : Addr)) ∧ f 8 = Value.agg #[Value.int .i64 a0, Value.int .i64 a1] ∧ f 22 = Value.bool (bif (bif (bif (a0 == 2) then true else (a0 == 3)) then true else (a0 == 5)) then (PF.impl_within a1 0 6) else false)) ?_ ?_
 ·
  rcases bcase (bif (bif (a0 == 2) then true else (a0 == 3)) then true else (a0 == 5)) with c57 | c57
  ·
   refine FL.val (wF_yes rfl rfl rfl c57) rfl rfl (E.move k44) ?_
   refine FL.call (wF_yes rfl rfl rfl c57) rfl rfl (E.call Tryz.call162 (A3 rfl rfl rfl)) (w_impl_within S39.sl a1 0 6) ?_
   rintro e w58 ⟨rfl, r59⟩
   refine ⟨_, rfl, ?_⟩
   have S60 := S39.call r59
   refine FL.v (E.pickT rfl c57 rfl) ?_
   exact FL.nil ⟨rfl, _, S60, (Inc.rfl _), k45, k46, (congrArg Value.bool (bifT c57).symm)⟩
  ·
   refine FL.skip (wF_no rfl rfl rfl c57) rfl ?_
   refine FL.skip (wF_no rfl rfl rfl c57) rfl ?_
   refine FL.v (E.pickF rfl c57 rfl) ?_
   exact FL.nil ⟨rfl, _, S39, (Inc.rfl _), k45, k46, (congrArg Value.bool (bifF c57).symm)⟩
 rintro f56 w55 ⟨H52, S53, i54, k61, k62, k63⟩
 obtain ⟨w64, run65, S66⟩ := S53.store0 (P := Tryz.prog) (t := 102) (i := 0) (cs' := [Value.int .i64 a0, Value.int .i64 a1]) (l' := [.box b21 102 [Value.int .i64 a0, Value.int .i64 a1]]) (v := Value.agg #[Value.int .i64 a0, Value.int .i64 a1]) (c := [Value.int .i64 a0, Value.int .i64 a1]) rfl Tryz.sizeOf102 rfl rfl (ones_cons rfl (ones_cons rfl ones_nil)) (Nat.le_of_ble_eq_true rfl) rfl rfl
 refine FL.act rfl rfl (E.store k61 k62 run65) ?_
 obtain ⟨H67, S68, i69, at70⟩ := S66.sealBox (i := 0) (l' := []) rfl rfl
 refine FL.v (E.assign k63) ?_
 refine FL.nil ?_
 refine FW.ret ?_
 obtain rfl := hp
 exact ⟨.inr rfl, resC2 rfl k61 (loadVar_A Tryz.isAgg102 Tryz.sizeOf102 (at70.now S68.sl) rfl) rfl ⟨rfl, S68.back⟩⟩

theorem w_impl_isLiteral {Ha : GH} {wa : World} (hs : Sl Ha wa) (a0 : Int) (a1 : Int) :
  Calls Tryz.prog 229 #[Value.int .i64 a0, Value.int .i64 a1] wa (Sc Ha wa (Value.bool (PF.impl_isLiteral a0 a1))) := by
 obtain ⟨r, hp⟩ : ∃ r, (PF.impl_isLiteral a0 a1) = r := ⟨_, rfl⟩
 rw [hp]
 unfold PF.impl_isLiteral at hp
 have S0 := St.init hs
 refine calls_go (N := 14) (args := [Value.int .i64 a0, Value.int .i64 a1]) Tryz.func229 rfl rfl rfl ?_
 refine FW.seq (FW.region ?_)
 refine FL.v (E.assign (v := Value.bool false) rfl) ?_
 refine FL.nil (FW.seq (FW.region ?_))
 refine FL.v (E.move (v := Value.int .i64 a1) rfl) ?_
 refine FL.v (E.neq rfl rfl) ?_
 refine FL.v (E.move (v := Value.bool (!(a1 == 0))) rfl) ?_
 refine FL.cut 6 (fun f w => ∃ H : GH, St Ha wa H w [] ∧ Inc Ha H ∧ f 13 = Value.bool (bif (!(a1 == 0)) then (PF.impl_within a1 (wr (-a0)) a0) else false)) ?_ ?_
 ·
  rcases bcase (!(a1 == 0)) with c30 | c30
  ·
   refine FL.val (wF_yes rfl rfl rfl c30) rfl rfl (E.move (v := Value.int .i64 a1) rfl) ?_
   refine FL.val (wF_yes rfl rfl rfl c30) rfl rfl (E.move (v := Value.int .i64 a0) rfl) ?_
   refine FL.val (wF_yes rfl rfl rfl c30) rfl rfl (E.neg rfl) ?_
   refine FL.val (wF_yes rfl rfl rfl c30) rfl rfl (E.move (v := Value.int .i64 a0) rfl) ?_
   refine FL.call (wF_yes rfl rfl rfl c30) rfl rfl (E.call Tryz.call162 (A3 rfl rfl rfl)) (w_impl_within S0.sl a1 (wr (-a0)) a0) ?_
   rintro e w31 ⟨rfl, r32⟩
   refine ⟨_, rfl, ?_⟩
   have S33 := S0.call r32
   refine FL.v (E.pickT rfl c30 rfl) ?_
   exact FL.nil ⟨rfl, _, S33, (Inc.rfl _), (congrArg Value.bool (bifT c30).symm)⟩
  ·
   refine FL.skip (wF_no rfl rfl rfl c30) rfl ?_
   refine FL.skip (wF_no rfl rfl rfl c30) rfl ?_
   refine FL.skip (wF_no rfl rfl rfl c30) rfl ?_
   refine FL.skip (wF_no rfl rfl rfl c30) rfl ?_
   refine FL.skip (wF_no rfl rfl rfl c30) rfl ?_
   refine FL.v (E.pickF rfl c30 rfl) ?_
   exact FL.nil ⟨rfl, _, S0, (Inc.rfl _), (congrArg Value.bool (bifF c30).symm)⟩
 rintro f29 w28 ⟨H25, S26, i27, k34⟩
 refine FL.v (E.assign k34) ?_
 refine FL.nil ?_
 refine FW.ret ?_
 obtain rfl := hp
 exact ⟨.inr rfl, res1 rfl rfl ⟨rfl, S26.back⟩⟩

theorem w_impl_abs {Ha : GH} {wa : World} (hs : Sl Ha wa) (a0 : Int) :
  Calls Tryz.prog 143 #[Value.int .i64 a0] wa (Sc Ha wa (Value.int .i64 (PF.impl_abs a0))) := by
 obtain ⟨r, hp⟩ : ∃ r, (PF.impl_abs a0) = r := ⟨_, rfl⟩
 rw [hp]
 unfold PF.impl_abs at hp
 have S0 := St.init hs
 refine calls_go (N := 7) (args := [Value.int .i64 a0]) Tryz.func143 rfl rfl rfl ?_
 refine FW.seq (FW.region ?_)
 refine FL.v (E.assign (v := Value.int .i64 0) rfl) ?_
 refine FL.nil (FW.seq (FW.region ?_))
 refine FL.v (E.move (v := Value.int .i64 a0) rfl) ?_
 refine FL.v (E.move (v := Value.int .i64 a0) rfl) ?_
 refine FL.v (E.neg rfl) ?_
 refine FL.v (E.max2 rfl rfl) ?_
 refine FL.v (E.assign (v := Value.int .i64 (mx a0 (wr (-a0)))) rfl) ?_
 refine FL.nil ?_
 refine FW.ret ?_
 obtain rfl := hp
 exact ⟨.inr rfl, res1 rfl rfl ⟨rfl, S0.back⟩⟩

theorem w_impl_varsOk {Ha : GH} {wa : World} (hs : Sl Ha wa) (a0 : Int) :
  Calls Tryz.prog 181 #[Value.int .i64 a0] wa (Sc Ha wa (Value.bool (PF.impl_varsOk a0))) := by
 obtain ⟨r, hp⟩ : ∃ r, (PF.impl_varsOk a0) = r := ⟨_, rfl⟩
 rw [hp]
 unfold PF.impl_varsOk at hp
 have S0 := St.init hs
 refine calls_go (N := 5) (args := [Value.int .i64 a0]) Tryz.func181 rfl rfl rfl ?_
 refine FW.seq (FW.region ?_)
 refine FL.v (E.assign (v := Value.bool false) rfl) ?_
 refine FL.nil (FW.seq (FW.region ?_))
 refine FL.v (E.move (v := Value.int .i64 a0) rfl) ?_
 refine FL.call rfl rfl rfl (E.call Tryz.call162 (A3 rfl rfl rfl)) (w_impl_within S0.sl a0 0 12) ?_
 rintro e w21 ⟨rfl, r22⟩
 refine ⟨_, rfl, ?_⟩
 have S23 := S0.call r22
 refine FL.v (E.assign (v := Value.bool (PF.impl_within a0 0 12)) rfl) ?_
 refine FL.nil ?_
 refine FW.ret ?_
 obtain rfl := hp
 exact ⟨.inr rfl, res1 rfl rfl ⟨rfl, S23.back⟩⟩

theorem w_impl_IsClause {Ha : GH} {wa : World} (hs : Sl Ha wa) (a0 : Int) (v1 : Value) (a1 : List Int) (p1 : RSl Ha eI 1 v1 a1) {r : Bool} (hp : (PF.impl_IsClause a0 a1) = some r) :
  Calls Tryz.prog 180 #[Value.int .i64 a0, v1] wa (Sc Ha wa (Value.bool r)) := by
 unfold PF.impl_IsClause at hp
 have S0 := St.init hs
 refine calls_go (N := 36) (args := [Value.int .i64 a0, v1]) Tryz.func180 rfl rfl rfl ?_
 refine FW.seq (FW.region ?_)
 refine FL.v (E.assign (v := Value.bool false) rfl) ?_
 refine FL.nil (FW.seq (FW.seq (FW.region ?_)))
 refine FL.v (E.move (v := v1) rfl) ?_
 refine FL.v (E.lenP te73 rfl p1) ?_
 refine FL.v (E.move (v := Value.int .i64 0) rfl) ?_
 refine FL.nil ?_
 obtain ⟨q22, hq, hp⟩ := bndR hp
 refine FW.block ?_
 refine FW.mono (FW.forL (S := Unit) (X := Bool) (fun (i22 : Nat) (s22 : Unit) f w => ∃ H : GH, St Ha wa H w [] ∧ Inc Ha H ∧ f 9 = Value.int .i64 ((i22 : Nat) : Int) ∧ f 0 = Value.int .i64 a0 ∧ f 1 = v1 ∧ f 7 = v1 ∧ f 8 = Value.int .i64 (len a1)) (fun q e f w => match q with | .go s22 => e = Exit.exit 0 ∧ (∃ H : GH, St Ha wa H w [] ∧ Inc Ha H ∧ f 0 = Value.int .i64 a0) | .rt x => ((e = Exit.ret) ∧ (fun e f w => (e = Exit.normal ∨ e = Exit.ret) ∧ ∀ a, Fr (δ := []) 36 a f → ∃ v, (results Tryz.f180 a.tmps).run Tryz.prog w = .ok v w ∧ (Sc Ha wa (Value.bool x)) (.returned v) w) e f w)) hq ⟨_, S0, (Inc.rfl _), rfl, rfl, rfl, rfl, rfl⟩ ?_ ?_) ?_
 ·
  clear hp hq
  rintro i22 y21 s22 f121 w120 ⟨H117, S118, i119, k122, k123, k124, k125, k126⟩ hx22 o211 hp
  refine FW.seq (FW.region ?_)
  refine FL.v (E.lssT k122 k126 (lss_len hx22)) ?_
  refine FL.nil (FW.seq ?_)
  refine FW.condT rfl rfl ?_
  refine FW.skip (FW.seq (FW.block (FW.seq (FW.region ?_))))
  refine FL.v (E.move k122) ?_
  obtain ⟨p127, cs128, pt129, l130, at131, rel132⟩ := p1.at (ix_nat hx22)
  obtain rfl := eI_open rel132
  refine FL.v (E.indexAddr te73 k125 k122 pt129) ?_
  refine FL.v (E.load rfl (run_load0 Tryz.isAgg3 ((at131.mono i119).now S118.sl) rfl)) ?_
  refine FL.v (E.assign (v := Value.int .i64 ((i22 : Nat) : Int)) rfl) ?_
  refine FL.v (E.assign (v := Value.int .i64 y21) rfl) ?_
  refine FL.nil (FW.seq ?_)
  refine FW.draw (fun w' => Run w120.heap.size H117 w120 H117 w') (by kernel_rfl) (by kernel_rfl) (run_drew S118.sl) ?_
  refine FD.val rfl rfl rfl (fun w' hw' => (E.move k123)) ?_
  refine FD.val rfl rfl rfl (fun w' hw' => (E.move (v := Value.int .i64 y21) rfl)) ?_
  refine FD.call rfl rfl rfl (fun w' hw' => (E.call Tryz.call229 (A2 rfl rfl))) (fun w' hw' => Calls.cls hw' (w_impl_isLiteral (S118.call hw').sl a0 y21)) ?_
  refine FD.val rfl rfl rfl (fun w' hw' => (E.not rfl)) ?_
  refine FD.val rfl rfl rfl (fun w' hw' => (E.move (v := Value.bool (!(PF.impl_isLiteral a0 y21))) rfl)) ?_
  obtain ⟨t164, hqt164, hp⟩ := bnd hp
  refine FD.cut 14 (fun f => f 0 = Value.int .i64 a0 ∧ f 1 = v1 ∧ f 7 = v1 ∧ f 8 = Value.int .i64 (len a1) ∧ f 9 = Value.int .i64 ((i22 : Nat) : Int) ∧ f 32 = Value.bool t164) ?_ ?_
  ·
   clear hp; have hp := hqt164; clear hqt164
   rcases ifB hp with ⟨c170, hp⟩ | ⟨c170, hp⟩
   ·
    refine FD.skip (wF_no rfl rfl rfl c170) rfl ?_
    refine FD.skip (wF_no rfl rfl rfl c170) rfl ?_
    refine FD.skip (wF_no rfl rfl rfl c170) rfl ?_
    refine FD.skip (wF_undef rfl rfl rfl) rfl ?_
    refine FD.skip (wF_undef rfl rfl rfl) rfl ?_
    refine FD.skip (wF_undef rfl rfl rfl) rfl ?_
    refine FD.skip (wF_undef rfl rfl rfl) rfl ?_
    refine FD.skip (wF_undef rfl rfl rfl) rfl ?_
    refine FD.skip (wF_undef rfl rfl rfl) rfl ?_
    refine FD.skip (wF_undef rfl rfl rfl) rfl ?_
    refine FD.skip (wF_undef rfl rfl rfl) rfl ?_
    refine FD.skip (wF_undef rfl rfl rfl) rfl ?_
    refine FD.skip (wF_no rfl rfl rfl c170) rfl ?_
    obtain rfl := Option.some.inj hp
    refine FD.val rfl rfl rfl (fun w' hw' => (E.pickT rfl c170 rfl)) ?_
    exact FD.nil ⟨k123, k124, k125, k126, k122, rfl⟩
   ·
    refine FD.val (wF_yes rfl rfl rfl c170) rfl rfl (fun w' hw' => (E.move (v := Value.int .i64 ((i22 : Nat) : Int)) rfl)) ?_
    refine FD.val (wF_yes rfl rfl rfl c170) rfl rfl (fun w' hw' => (E.gtr rfl rfl)) ?_
    refine FD.val (wF_yes rfl rfl rfl c170) rfl rfl (fun w' hw' => (E.move (v := Value.bool (decide (0 < ((i22 : Nat) : Int)))) rfl)) ?_
    obtain ⟨t179, hqt179, hp⟩ := bnd hp
    refine FD.cut 10 (fun f => f 0 = Value.int .i64 a0 ∧ f 1 = v1 ∧ f 7 = v1 ∧ f 8 = Value.int .i64 (len a1) ∧ f 9 = Value.int .i64 ((i22 : Nat) : Int) ∧ f 18 = Value.bool (!(PF.impl_isLiteral a0 y21)) ∧ f 31 = Value.bool t179) ?_ ?_
    ·
     clear hp; have hp := hqt179; clear hqt179
     rcases ifB hp with ⟨c185, hp⟩ | ⟨c185, hp⟩
     ·
      refine FD.val (wF_yes rfl rfl rfl c185) rfl rfl (fun w' hw' => (E.move (v := Value.int .i64 y21) rfl)) ?_
      refine FD.call (wF_yes rfl rfl rfl c185) rfl rfl (fun w' hw' => (E.call Tryz.call143 (A1 rfl))) (fun w' hw' => Calls.cls hw' (w_impl_abs (S118.call hw').sl y21)) ?_
      refine FD.val (wF_yes rfl rfl rfl c185) rfl rfl (fun w' hw' => (E.move k124)) ?_
      refine FD.val (wF_yes rfl rfl rfl c185) rfl rfl (fun w' hw' => (E.move (v := Value.int .i64 ((i22 : Nat) : Int)) rfl)) ?_
      refine FD.val (wF_yes rfl rfl rfl c185) rfl rfl (fun w' hw' => (E.sub rfl rfl)) ?_
      obtain ⟨x192, hx193, hp⟩ := bnd hp
      obtain ⟨p186, cs187, pt188, l189, at190, rel191⟩ := p1.at hx193
      obtain rfl := eI_open rel191
      refine FD.val (wF_yes rfl rfl rfl c185) rfl rfl (fun w' hw' => (E.indexAddr te73 rfl rfl pt188)) ?_
      refine FD.val (wF_yes rfl rfl rfl c185) rfl rfl (fun w' hw' => (E.load rfl (run_load0 Tryz.isAgg3 ((at190.mono i119).now (S118.call hw').sl) rfl))) ?_
      refine FD.call (wF_yes rfl rfl rfl c185) rfl rfl (fun w' hw' => (E.call Tryz.call143 (A1 rfl))) (fun w' hw' => Calls.cls hw' (w_impl_abs (S118.call hw').sl x192)) ?_
      refine FD.val (wF_yes rfl rfl rfl c185) rfl rfl (fun w' hw' => (E.leq rfl rfl)) ?_
      obtain rfl := Option.some.inj hp
      refine FD.val (wF_yes rfl rfl rfl c170) rfl rfl (fun w' hw' => (E.pickT rfl c185 rfl)) ?_
      exact FD.nil ⟨k123, k124, k125, k126, k122, rfl, rfl⟩
     ·
      refine FD.skip (wF_no rfl rfl rfl c185) rfl ?_
      refine FD.skip (wF_no rfl rfl rfl c185) rfl ?_
      refine FD.skip (wF_no rfl rfl rfl c185) rfl ?_
      refine FD.skip (wF_no rfl rfl rfl c185) rfl ?_
      refine FD.skip (wF_no rfl rfl rfl c185) rfl ?_
      refine FD.skip (wF_no rfl rfl rfl c185) rfl ?_
      refine FD.skip (wF_no rfl rfl rfl c185) rfl ?_
      refine FD.skip (wF_no rfl rfl rfl c185) rfl ?_
      refine FD.skip (wF_no rfl rfl rfl c185) rfl ?_
      obtain rfl := Option.some.inj hp
      refine FD.val (wF_yes rfl rfl rfl c170) rfl rfl (fun w' hw' => (E.pickF rfl c185 rfl)) ?_
      exact FD.nil ⟨k123, k124, k125, k126, k122, rfl, rfl⟩
    rintro f184 ⟨k194, k195, k196, k197, k198, k199, k200⟩
    obtain rfl := Option.some.inj hp
    refine FD.val rfl rfl rfl (fun w' hw' => (E.pickF k199 c170 k200)) ?_
    exact FD.nil ⟨k194, k195, k196, k197, k198, rfl⟩
  rintro f169 ⟨k201, k202, k203, k204, k205, k206⟩
  refine FD.nil ?_
  intro w207 r209
  have S208 := S118.call r209
  rcases ifB hp with ⟨c210, hp⟩ | ⟨c210, hp⟩
  ·
   refine FW.condT k206 c210 ?_
   refine FW.seq (FW.region ?_)
   refine FL.v (E.assign (v := Value.bool false) rfl) ?_
   refine FL.nil ?_
   refine FW.ret ?_
   obtain rfl := Option.some.inj hp
   exact ⟨nofun, rfl, ⟨.inr rfl, res1 rfl rfl ⟨rfl, S208.back⟩⟩⟩
  ·
   refine FW.condF k206 c210 ?_
   refine FW.skip (FW.region ?_)
   refine FL.v (E.add k205 rfl) ?_
   refine FL.v (E.move (v := Value.int .i64 (wr (((i22 : Nat) : Int) + 1))) rfl) ?_
   refine FL.nil ?_
   obtain rfl := Option.some.inj hp
   exact ⟨rfl, ⟨_, S208, i119, (nat_succ rfl (lt_of_get hx22) (p1.mono i119).le), k201, k202, k203, k204⟩⟩
 ·
  clear hp hq
  rintro s22 f225 w224 ⟨H221, S222, i223, k226, k227, k228, k229, k230⟩
  refine FW.seq (FW.region ?_)
  refine FL.v (E.lss k226 k230) ?_
  refine FL.nil (FW.seq ?_)
  refine FW.condF rfl dlt_len ?_
  refine FW.exit ?_
  exact ⟨nofun, rfl, ⟨_, S222, i223, k227⟩⟩
 ·
  clear hq
  intro e f216 w215 hD
  rcases q22 with s22 | x22
  ·
   obtain ⟨rfl, hD⟩ := hD
   obtain ⟨H212, S213, i214, k217⟩ := hD
   replace hp := el_go hp
   refine FW.seq (FW.region ?_)
   refine FL.v (E.move k217) ?_
   refine FL.call rfl rfl rfl (E.call Tryz.call181 (A1 rfl)) (w_impl_varsOk S213.sl a0) ?_
   rintro e w218 ⟨rfl, r219⟩
   refine ⟨_, rfl, ?_⟩
   have S220 := S213.call r219
   refine FL.v (E.assign (v := Value.bool (PF.impl_varsOk a0)) rfl) ?_
   refine FL.nil ?_
   refine FW.ret ?_
   obtain rfl := Option.some.inj hp
   exact ⟨.inr rfl, res1 rfl rfl ⟨rfl, S220.back⟩⟩
  ·
   obtain ⟨he, hL⟩ := hD
   replace hp := el_rt hp
   obtain rfl := Option.some.inj hp
   subst he
   exact hL

theorem w_impl_IsCnf {Ha : GH} {wa : World} (hs : Sl Ha wa) (a0 : Cnf) (v0_1 : Value) (p0_1 : RSl Ha (eL eI 1) 1 v0_1 a0.clauses) {r : Bool} (hp : (PF.impl_IsCnf a0) = some r) :
  Calls Tryz.prog 120 #[Value.agg #[Value.int .i64 a0.vars, v0_1]] wa (Sc Ha wa (Value.bool r)) := by
 unfold PF.impl_IsCnf at hp
 have S0 := St.init hs
 refine calls_go (N := 27) (args := [Value.agg #[Value.int .i64 a0.vars, v0_1]]) Tryz.func120 rfl rfl rfl ?_
 refine FW.seq (FW.region ?_)
 obtain ⟨b21, w22, run23, S24⟩ := S0.box (P := Tryz.prog) 32 [Value.int .i64 a0.vars, v0_1] (v := Value.agg #[Value.int .i64 a0.vars, v0_1]) rfl (ones_cons rfl (ones_cons p0_1.one ones_nil))
 refine FL.v (E.box rfl run23) ?_
 obtain ⟨H25, S26, i27, at28⟩ := S24.sealBox (i := 0) (l' := []) rfl rfl
 refine FL.v (E.assign (v := Value.bool false) rfl) ?_
 refine FL.nil (FW.seq (FW.seq (FW.region ?_)))
 refine FL.v (E.fieldAddr tf32_1 rfl) ?_
 refine FL.v (E.load rfl (run_load1 Tryz.isAgg22 (at28.now S26.sl) rfl)) ?_
 refine FL.v (E.lenP te22 rfl p0_1) ?_
 refine FL.v (E.move (v := Value.int .i64 0) rfl) ?_
 refine FL.nil ?_
 obtain ⟨q30, hq, hp⟩ := bndR hp
 refine FW.block ?_
 refine FW.mono (FW.forL (S := Unit) (X := Bool) (fun (i30 : Nat) (s30 : Unit) f w => ∃ H : GH, St Ha wa H w [] ∧ Inc H25 H ∧ f 8 = Value.int .i64 ((i30 : Nat) : Int) ∧ f 1 = Value.pointer (some ⟨b21, 0, none⟩) ∧ f 6 = v0_1 ∧ f 7 = Value.int .i64 (len a0.clauses)) (fun q e f w => match q with | .go s30 => e = Exit.exit 0 ∧ (∃ H : GH, St Ha wa H w [] ∧ Inc H25 H ∧ f 1 = Value.pointer (some ⟨b21, 0, none⟩)) | .rt x => ((e = Exit.ret) ∧ (fun e f w => (e = Exit.normal ∨ e = Exit.ret) ∧ ∀ a, Fr (δ := []) 27 a f → ∃ v, (results Tryz.f120 a.tmps).run Tryz.prog w = .ok v w ∧ (Sc Ha wa (Value.bool x)) (.returned v) w) e f w)) hq ⟨_, S26, (Inc.rfl _), rfl, rfl, rfl, rfl⟩ ?_ ?_) ?_
 ·
  clear hp hq
  rintro i30 y29 s30 f58 w57 ⟨H54, S55, i56, k59, k60, k61, k62⟩ hx30 o77 hp
  refine FW.seq (FW.region ?_)
  refine FL.v (E.lssT k59 k62 (lss_len hx30)) ?_
  refine FL.nil (FW.seq ?_)
  refine FW.condT rfl rfl ?_
  refine FW.skip (FW.seq (FW.block (FW.seq (FW.region ?_))))
  obtain ⟨p63, cs64, pt65, l66, at67, rel68⟩ := p0_1.at (ix_nat hx30)
  obtain ⟨v69, rfl, h70⟩ := eL_open rel68
  refine FL.v (E.indexAddr te22 k61 k59 pt65) ?_
  refine FL.v (E.load rfl (run_load0 Tryz.isAgg73 ((at67.mono (i27.tr i56)).now S55.sl) rfl)) ?_
  refine FL.v (E.assign (v := v69) rfl) ?_
  refine FL.nil (FW.seq (FW.region ?_))
  refine FL.v (E.fieldAddr tf32_0 k60) ?_
  refine FL.v (E.load rfl (run_load1 Tryz.isAgg3 ((at28.mono i56).now S55.sl) rfl)) ?_
  refine FL.v (E.move (v := v69) rfl) ?_
  obtain ⟨r71, hr72, hp⟩ := bnd hp
  refine FL.call rfl rfl rfl (E.call Tryz.call180 (A2 rfl rfl)) (w_impl_IsClause S55.sl a0.vars v69 y29 (h70.mono (i27.tr i56)) hr72) ?_
  rintro e w73 ⟨rfl, r74⟩
  refine ⟨_, rfl, ?_⟩
  have S75 := S55.call r74
  refine FL.v (E.not rfl) ?_
  refine FL.nil ?_
  rcases ifB hp with ⟨c76, hp⟩ | ⟨c76, hp⟩
  ·
   refine FW.condT rfl c76 ?_
   refine FW.seq (FW.region ?_)
   refine FL.v (E.assign (v := Value.bool false) rfl) ?_
   refine FL.nil ?_
   refine FW.ret ?_
   obtain rfl := Option.some.inj hp
   exact ⟨nofun, rfl, ⟨.inr rfl, res1 rfl rfl ⟨rfl, S75.back⟩⟩⟩
  ·
   refine FW.condF rfl c76 ?_
   refine FW.skip (FW.region ?_)
   refine FL.v (E.add k59 rfl) ?_
   refine FL.v (E.move (v := Value.int .i64 (wr (((i30 : Nat) : Int) + 1))) rfl) ?_
   refine FL.nil ?_
   obtain rfl := Option.some.inj hp
   exact ⟨rfl, ⟨_, S75, i56, (nat_succ rfl (lt_of_get hx30) (p0_1.mono (i27.tr i56)).le), k60, k61, k62⟩⟩
 ·
  clear hp hq
  rintro s30 f99 w98 ⟨H95, S96, i97, k100, k101, k102, k103⟩
  refine FW.seq (FW.region ?_)
  refine FL.v (E.lss k100 k103) ?_
  refine FL.nil (FW.seq ?_)
  refine FW.condF rfl dlt_len ?_
  refine FW.exit ?_
  exact ⟨nofun, rfl, ⟨_, S96, i97, k101⟩⟩
 ·
  clear hq
  intro e f82 w81 hD
  rcases q30 with s30 | x30
  ·
   obtain ⟨rfl, hD⟩ := hD
   obtain ⟨H78, S79, i80, k83⟩ := hD
   replace hp := el_go hp
   refine FW.seq (FW.region ?_)
   refine FL.v (E.fieldAddr tf32_0 k83) ?_
   refine FL.v (E.load rfl (run_load1 Tryz.isAgg3 ((at28.mono i80).now S79.sl) rfl)) ?_
   refine FL.call rfl rfl rfl (E.call Tryz.call181 (A1 rfl)) (w_impl_varsOk S79.sl a0.vars) ?_
   rintro e w84 ⟨rfl, r85⟩
   refine ⟨_, rfl, ?_⟩
   have S86 := S79.call r85
   refine FL.v (E.move (v := Value.bool (PF.impl_varsOk a0.vars)) rfl) ?_
   refine FL.cut 5 (fun f w => ∃ H : GH, St Ha wa H w [] ∧ Inc H78 H ∧ f 26 = Value.bool (bif (PF.impl_varsOk a0.vars) then (decide ((len a0.clauses) ≤ 60)) else false)) ?_ ?_
   ·
    rcases bcase (PF.impl_varsOk a0.vars) with c93 | c93
    ·
     refine FL.val (wF_yes rfl rfl rfl c93) rfl rfl (E.fieldAddr tf32_1 k83) ?_
     refine FL.val (wF_yes rfl rfl rfl c93) rfl rfl (E.load rfl (run_load1 Tryz.isAgg22 ((at28.mono i80).now S86.sl) rfl)) ?_
     refine FL.val (wF_yes rfl rfl rfl c93) rfl rfl (E.lenP te22 rfl p0_1) ?_
     refine FL.val (wF_yes rfl rfl rfl c93) rfl rfl (E.leq rfl rfl) ?_
     refine FL.v (E.pickT rfl c93 rfl) ?_
     exact FL.nil ⟨rfl, _, S86, (Inc.rfl _), (congrArg Value.bool (bifT c93).symm)⟩
    ·
     refine FL.skip (wF_no rfl rfl rfl c93) rfl ?_
     refine FL.skip (wF_no rfl rfl rfl c93) rfl ?_
     refine FL.skip (wF_no rfl rfl rfl c93) rfl ?_
     refine FL.skip (wF_no rfl rfl rfl c93) rfl ?_
     refine FL.v (E.pickF rfl c93 rfl) ?_
     exact FL.nil ⟨rfl, _, S86, (Inc.rfl _), (congrArg Value.bool (bifF c93).symm)⟩
   rintro f92 w91 ⟨H88, S89, i90, k94⟩
   refine FL.v (E.assign k94) ?_
   refine FL.nil ?_
   refine FW.ret ?_
   obtain rfl := Option.some.inj hp
   exact ⟨.inr rfl, res1 rfl rfl ⟨rfl, S89.back⟩⟩
  ·
   obtain ⟨he, hL⟩ := hD
   replace hp := el_rt hp
   obtain rfl := Option.some.inj hp
   subst he
   exact hL

@[reducible] def p_impl_ring_zero (Ha : GH) (wa : World) (r : (List Int)) : Ending → World → Prop :=
 fun e w' => ∃ H' : GH, ∃ v0 : Value, ∃ n0 : Nat, ∃ c0 : List Value, e = .returned (v0) ∧ St Ha wa H' w' [.row 3 1 v0 n0 c0] ∧ Els (up wa.heap.size H') eI 1 c0 r
theorem w_impl_ring_zero {Ha : GH} {wa : World} (hs : Sl Ha wa) (a0 : ring) {r : (List Int)} (hp : (PF.impl_ring_zero a0) = some r) :
  Calls Tryz.prog 165 #[Value.agg #[Value.int .i64 a0.p, Value.int .i64 a0.vars]] wa (p_impl_ring_zero Ha wa r) := by
 unfold PF.impl_ring_zero at hp
 have S0 := St.init hs
 refine calls_go (N := 7) (args := [Value.agg #[Value.int .i64 a0.p, Value.int .i64 a0.vars]]) Tryz.func165 rfl rfl rfl ?_
 refine FW.seq (FW.region ?_)
 obtain ⟨b21, w22, run23, S24⟩ := S0.box (P := Tryz.prog) 102 [Value.int .i64 a0.p, Value.int .i64 a0.vars] (v := Value.agg #[Value.int .i64 a0.p, Value.int .i64 a0.vars]) rfl (ones_cons rfl (ones_cons rfl ones_nil))
 refine FL.v (E.box rfl run23) ?_
 obtain ⟨H25, S26, i27, at28⟩ := S24.sealBox (i := 0) (l' := []) rfl rfl
 refine FL.v (E.assign (v := Value.slice none 0 0) rfl) ?_
 refine FL.nil (FW.seq (FW.region ?_))
 refine FL.v (E.fieldAddr tf102_1 rfl) ?_
 refine FL.v (E.load rfl (run_load1 Tryz.isAgg3 (at28.now S26.sl) rfl)) ?_
 obtain ⟨u30, z29, hp⟩ := bnd hp
 refine FL.v (E.shl rfl rfl (nn_ge z29)) ?_
 obtain ⟨xs31, hm32, hp⟩ := bnd hp
 obtain ⟨v33, w34, n38, cs39, run35, S36, els37, hbl40⟩ := S26.makeEls (P := Tryz.prog) te99 (G := (up wa.heap.size H25)) (En := eI) (x0 := (0 : Int)) hm32 rfl (ones_cons rfl ones_nil) .i64 .i64
 refine FL.v (E.makeSlice rfl rfl run35) ?_
 refine FL.v (E.assign (v := v33) rfl) ?_
 refine FL.nil ?_
 refine FW.ret ?_
 obtain rfl := Option.some.inj hp
 exact ⟨.inr rfl, res1 rfl rfl ⟨_, _, _, _, rfl, S36, els37⟩⟩

end Go.Proofs
