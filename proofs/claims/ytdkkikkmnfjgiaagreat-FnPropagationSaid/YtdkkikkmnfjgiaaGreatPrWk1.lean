/- Part of the walks and plain laws behind the claim: it proves helpers, under no condition beyond their own. -/
import Derived.Test.YtdkkikkmnfjgiaaGreatMr16
import Derived.Test.YtdkkikkmnfjgiaaGreatMr14
import Derived.Test.YtdkkikkmnfjgiaaGreatMr19
import Derived.Test.YtdkkikkmnfjgiaaGreatMr20
import Derived.Test.YtdkkikkmnfjgiaaGreatMr21
import Derived.Test.YtdkkikkmnfjgiaaGreatMr22
import Derived.Test.YtdkkikkmnfjgiaaGreatMr23
import Derived.Test.YtdkkikkmnfjgiaaGreatMr24
import Derived.Test.YtdkkikkmnfjgiaaGreatMr25
import Derived.Test.YtdkkikkmnfjgiaaGreatMr26
import Derived.Test.YtdkkikkmnfjgiaaGreatMr27
import Derived.Test.YtdkkikkmnfjgiaaGreatMr34
import Derived.Test.YtdkkikkmnfjgiaaGreatMr37
import Derived.Test.YtdkkikkmnfjgiaaGreatMr36
import Derived.Test.YtdkkikkmnfjgiaaGreatPrSh
import Derived.Test.YtdkkikkmnfjgiaaGreatPrPf
import Derived.Test.YtdkkikkmnfjgiaaGreatProg
set_option linter.unusedVariables false
set_option maxRecDepth 100000
namespace Go.Proofs
open Go.Mr Go.Pu Go.PF Go.RowKit

def eCnf : Enc Cnf := ⟨fun H cs s => ∃ v0, cs = [Value.int .i64 s.vars, v0] ∧ RSl H (eL eI 1) 1 v0 s.clauses, fun hi ⟨v0, h, h0⟩ => ⟨_, h, h0.mono hi⟩, by rintro H cs s ⟨v0, rfl, h0⟩; exact (ones_cons rfl (ones_cons h0.one ones_nil)), by rintro H cs s ⟨v0, rfl, h0⟩ b hb; obtain ⟨u, hu, hn⟩ := mem_bl hb; simp only [List.mem_cons, List.not_mem_nil, or_false] at hu; rcases hu with rfl | rfl <;> first | (cases hn; done) | exact h0.dom b (mem_bl1 hn)⟩
theorem eCnf_open {H : GH} {cs : List Value} {s : Cnf} (h : eCnf.rel H cs s) : ∃ v0, cs = [Value.int .i64 s.vars, v0] ∧ RSl H (eL eI 1) 1 v0 s.clauses := h

def eInequality : Enc Inequality := ⟨fun H cs s => ∃ v0, cs = [v0, Value.int .i64 s.bound] ∧ RSl H eI 1 v0 s.coeffs, fun hi ⟨v0, h, h0⟩ => ⟨_, h, h0.mono hi⟩, by rintro H cs s ⟨v0, rfl, h0⟩; exact (ones_cons h0.one (ones_cons rfl ones_nil)), by rintro H cs s ⟨v0, rfl, h0⟩ b hb; obtain ⟨u, hu, hn⟩ := mem_bl hb; simp only [List.mem_cons, List.not_mem_nil, or_false] at hu; rcases hu with rfl | rfl <;> first | (cases hn; done) | exact h0.dom b (mem_bl1 hn)⟩
theorem eInequality_open {H : GH} {cs : List Value} {s : Inequality} (h : eInequality.rel H cs s) : ∃ v0, cs = [v0, Value.int .i64 s.bound] ∧ RSl H eI 1 v0 s.coeffs := h

theorem eInequality_loc : LocE eInequality := by rintro H H' cs x ⟨v0, rfl, h0⟩ hb; exact ⟨_, rfl, h0.only eI_flat.rel (fun b q => hb b (bl_get (i := 0) rfl b q))⟩

def ePlaneStep : Enc PlaneStep := ⟨fun H cs s => ∃ v0, cs = [v0, Value.int .i64 s.ineq.bound, Value.int .i64 s.kind, Value.int .i64 s.a, Value.int .i64 s.b, Value.int .i64 s.k] ∧ RSl H eI 1 v0 s.ineq.coeffs, fun hi ⟨v0, h, h0⟩ => ⟨_, h, h0.mono hi⟩, by rintro H cs s ⟨v0, rfl, h0⟩; exact (ones_cons h0.one (ones_cons rfl (ones_cons rfl (ones_cons rfl (ones_cons rfl (ones_cons rfl ones_nil)))))), by rintro H cs s ⟨v0, rfl, h0⟩ b hb; obtain ⟨u, hu, hn⟩ := mem_bl hb; simp only [List.mem_cons, List.not_mem_nil, or_false] at hu; rcases hu with rfl | rfl | rfl | rfl | rfl | rfl <;> first | (cases hn; done) | exact h0.dom b (mem_bl1 hn)⟩
theorem ePlaneStep_open {H : GH} {cs : List Value} {s : PlaneStep} (h : ePlaneStep.rel H cs s) : ∃ v0, cs = [v0, Value.int .i64 s.ineq.bound, Value.int .i64 s.kind, Value.int .i64 s.a, Value.int .i64 s.b, Value.int .i64 s.k] ∧ RSl H eI 1 v0 s.ineq.coeffs := h

theorem ePlaneStep_loc : LocE ePlaneStep := by rintro H H' cs x ⟨v0, rfl, h0⟩ hb; exact ⟨_, rfl, h0.only eI_flat.rel (fun b q => hb b (bl_get (i := 0) rfl b q))⟩

def eTerm : Enc Term := ⟨fun H cs s => cs = [Value.int .i64 s.mono, Value.int .i64 s.coeff], fun _ h => h, by rintro H cs s rfl; exact (ones_cons rfl (ones_cons rfl ones_nil)), by rintro H cs s rfl b hb; obtain ⟨u, hu, hn⟩ := mem_bl hb; simp only [List.mem_cons, List.not_mem_nil, or_false] at hu; rcases hu with rfl | rfl <;> cases hn⟩
theorem eTerm_open {H : GH} {cs : List Value} {s : Term} (h : eTerm.rel H cs s) : cs = [Value.int .i64 s.mono, Value.int .i64 s.coeff] := h

theorem eTerm_flat : FlatE eTerm := by rintro H H' cs x rfl; exact ⟨rfl, rfl⟩

def ePcStep : Enc PcStep := ⟨fun H cs s => ∃ v0, cs = [Value.int .i64 s.kind, v0, Value.int .i64 s.a, Value.int .i64 s.b, Value.int .i64 s.x, Value.int .i64 s.y] ∧ RSl H eTerm 2 v0 s.poly, fun hi ⟨v0, h, h0⟩ => ⟨_, h, h0.mono hi⟩, by rintro H cs s ⟨v0, rfl, h0⟩; exact (ones_cons rfl (ones_cons h0.one (ones_cons rfl (ones_cons rfl (ones_cons rfl (ones_cons rfl ones_nil)))))), by rintro H cs s ⟨v0, rfl, h0⟩ b hb; obtain ⟨u, hu, hn⟩ := mem_bl hb; simp only [List.mem_cons, List.not_mem_nil, or_false] at hu; rcases hu with rfl | rfl | rfl | rfl | rfl | rfl <;> first | (cases hn; done) | exact h0.dom b (mem_bl1 hn)⟩
theorem ePcStep_open {H : GH} {cs : List Value} {s : PcStep} (h : ePcStep.rel H cs s) : ∃ v0, cs = [Value.int .i64 s.kind, v0, Value.int .i64 s.a, Value.int .i64 s.b, Value.int .i64 s.x, Value.int .i64 s.y] ∧ RSl H eTerm 2 v0 s.poly := h

theorem ePcStep_loc : LocE ePcStep := by rintro H H' cs x ⟨v0, rfl, h0⟩ hb; exact ⟨_, rfl, h0.only eTerm_flat.rel (fun b q => hb b (bl_get (i := 1) rfl b q))⟩

def el1Cur : Enc l1Cur := ⟨fun H cs s => ∃ v0, cs = [v0, Value.int .i64 s.at_, Value.int .u64 s.seed] ∧ RSl H (eN .u8) 1 v0 s.code, fun hi ⟨v0, h, h0⟩ => ⟨_, h, h0.mono hi⟩, by rintro H cs s ⟨v0, rfl, h0⟩; exact (ones_cons h0.one (ones_cons rfl (ones_cons rfl ones_nil))), by rintro H cs s ⟨v0, rfl, h0⟩ b hb; obtain ⟨u, hu, hn⟩ := mem_bl hb; simp only [List.mem_cons, List.not_mem_nil, or_false] at hu; rcases hu with rfl | rfl | rfl <;> first | (cases hn; done) | exact h0.dom b (mem_bl1 hn)⟩
theorem el1Cur_open {H : GH} {cs : List Value} {s : l1Cur} (h : el1Cur.rel H cs s) : ∃ v0, cs = [v0, Value.int .i64 s.at_, Value.int .u64 s.seed] ∧ RSl H (eN .u8) 1 v0 s.code := h

theorem el1Cur_loc : LocE el1Cur := by rintro H H' cs x ⟨v0, rfl, h0⟩ hb; exact ⟨_, rfl, h0.only eN_flat.rel (fun b q => hb b (bl_get (i := 0) rfl b q))⟩

def eResStep : Enc ResStep := ⟨fun H cs s => ∃ v0, cs = [v0, Value.int .i64 s.left, Value.int .i64 s.right, Value.int .i64 s.pivot] ∧ RSl H eI 1 v0 s.clause, fun hi ⟨v0, h, h0⟩ => ⟨_, h, h0.mono hi⟩, by rintro H cs s ⟨v0, rfl, h0⟩; exact (ones_cons h0.one (ones_cons rfl (ones_cons rfl (ones_cons rfl ones_nil)))), by rintro H cs s ⟨v0, rfl, h0⟩ b hb; obtain ⟨u, hu, hn⟩ := mem_bl hb; simp only [List.mem_cons, List.not_mem_nil, or_false] at hu; rcases hu with rfl | rfl | rfl | rfl <;> first | (cases hn; done) | exact h0.dom b (mem_bl1 hn)⟩
theorem eResStep_open {H : GH} {cs : List Value} {s : ResStep} (h : eResStep.rel H cs s) : ∃ v0, cs = [v0, Value.int .i64 s.left, Value.int .i64 s.right, Value.int .i64 s.pivot] ∧ RSl H eI 1 v0 s.clause := h

theorem eResStep_loc : LocE eResStep := by rintro H H' cs x ⟨v0, rfl, h0⟩ hb; exact ⟨_, rfl, h0.only eI_flat.rel (fun b q => hb b (bl_get (i := 0) rfl b q))⟩

def ering : Enc ring := ⟨fun H cs s => cs = [Value.int .i64 s.p, Value.int .i64 s.vars], fun _ h => h, by rintro H cs s rfl; exact (ones_cons rfl (ones_cons rfl ones_nil)), by rintro H cs s rfl b hb; obtain ⟨u, hu, hn⟩ := mem_bl hb; simp only [List.mem_cons, List.not_mem_nil, or_false] at hu; rcases hu with rfl | rfl <;> cases hn⟩
theorem ering_open {H : GH} {cs : List Value} {s : ring} (h : ering.rel H cs s) : cs = [Value.int .i64 s.p, Value.int .i64 s.vars] := h

theorem ering_flat : FlatE ering := by rintro H H' cs x rfl; exact ⟨rfl, rfl⟩

def ealgebra : Enc algebra := ⟨fun H cs s => ∃ v0 v1, cs = [Value.int .i64 s.ring.p, Value.int .i64 s.ring.vars, Value.int .i64 s.f.vars, v0, v1] ∧ RSl H (eL eI 1) 1 v0 s.f.clauses ∧ RSl H (eL eI 1) 1 v1 s.q, fun hi ⟨v0, v1, h, h0, h1⟩ => ⟨_, _, h, h0.mono hi, h1.mono hi⟩, by rintro H cs s ⟨v0, v1, rfl, h0, h1⟩; exact (ones_cons rfl (ones_cons rfl (ones_cons rfl (ones_cons h0.one (ones_cons h1.one ones_nil))))), by rintro H cs s ⟨v0, v1, rfl, h0, h1⟩ b hb; obtain ⟨u, hu, hn⟩ := mem_bl hb; simp only [List.mem_cons, List.not_mem_nil, or_false] at hu; rcases hu with rfl | rfl | rfl | rfl | rfl <;> first | (cases hn; done) | exact h0.dom b (mem_bl1 hn) | exact h1.dom b (mem_bl1 hn)⟩
theorem ealgebra_open {H : GH} {cs : List Value} {s : algebra} (h : ealgebra.rel H cs s) : ∃ v0 v1, cs = [Value.int .i64 s.ring.p, Value.int .i64 s.ring.vars, Value.int .i64 s.f.vars, v0, v1] ∧ RSl H (eL eI 1) 1 v0 s.f.clauses ∧ RSl H (eL eI 1) 1 v1 s.q := h

def Fn_I_to_B (P : Program) (H : GH) (v : Value) (p : Int → Option Bool) : Prop :=
 ∀ (H' : GH) (w' : World), Inc H H' → Sl H' w' → ∀ (x0 : Int) (r : Bool), p x0 = some r →
  ∃ (fid : Nat) (cs : Array Value), v = Value.func (.func fid) #[] cs ∧ (∀ args w, (callFunc fid args).run P w = .ok (.enter fid args) w) ∧ Calls P fid (#[Value.int .i64 x0] ++ cs) w' (Sc H' w' (Value.bool r))
theorem Fn_I_to_B.mono {P : Program} {H H' : GH} {v : Value} {p : Int → Option Bool} (h : Fn_I_to_B P H v p) (hi : Inc H H') : Fn_I_to_B P H' v p :=
 fun H2 w2 h2 => h H2 w2 (hi.tr h2)

def Fn_I_I_to_I (P : Program) (H : GH) (v : Value) (p : Int → Int → Option Int) : Prop :=
 ∀ (H' : GH) (w' : World), Inc H H' → Sl H' w' → ∀ (x0 : Int) (x1 : Int) (r : Int), p x0 x1 = some r →
  ∃ (fid : Nat) (cs : Array Value), v = Value.func (.func fid) #[] cs ∧ (∀ args w, (callFunc fid args).run P w = .ok (.enter fid args) w) ∧ Calls P fid (#[Value.int .i64 x0, Value.int .i64 x1] ++ cs) w' (Sc H' w' (Value.int .i64 r))
theorem Fn_I_I_to_I.mono {P : Program} {H H' : GH} {v : Value} {p : Int → Int → Option Int} (h : Fn_I_I_to_I P H v p) (hi : Inc H H') : Fn_I_I_to_I P H' v p :=
 fun H2 w2 h2 => h H2 w2 (hi.tr h2)

def Fn_List_Int_to_B (P : Program) (H : GH) (v : Value) (p : (List Int) → Option Bool) : Prop :=
 ∀ (H' : GH) (w' : World), Inc H H' → Sl H' w' → ∀ (x0 : List Int) (y0_0 : Value) (_z0_0 : RSl H' eI 1 y0_0 x0) (r : Bool), p x0 = some r →
  ∃ (fid : Nat) (cs : Array Value), v = Value.func (.func fid) #[] cs ∧ (∀ args w, (callFunc fid args).run P w = .ok (.enter fid args) w) ∧ Calls P fid (#[y0_0] ++ cs) w' (Sc H' w' (Value.bool r))
theorem Fn_List_Int_to_B.mono {P : Program} {H H' : GH} {v : Value} {p : (List Int) → Option Bool} (h : Fn_List_Int_to_B P H v p) (hi : Inc H H') : Fn_List_Int_to_B P H' v p :=
 fun H2 w2 h2 => h H2 w2 (hi.tr h2)

theorem sg47 : Tryz.prog.eqGuardType Tryz.prog.depth 47 = false := by kernel_rfl
theorem sq47 (a0 a1 b0 b1 : Int) (w : World) : (Op.equalIn 10000 47 (.agg #[.int .i64 a0, .int .i64 a1]) (.agg #[.int .i64 b0, .int .i64 b1])).run Tryz.prog w = .ok ((a0 == b0) && (a1 == b1)) w := run_eqArr2 Tryz.underlying47 Tryz.type3 (by kernel_rfl) Tryz.underlying3 Tryz.isAgg3 a0 a1 b0 b1
theorem te171 : TE Tryz.prog 171 9 1 (.string ByteArray.empty) := ⟨Tryz.underlying171, ⟨Tryz.t9, Tryz.type9, rfl, rfl, by decide⟩, rfl, by decide⟩
theorem te22 : TE Tryz.prog 22 5 1 (.int .u8 0) := ⟨Tryz.underlying22, ⟨Tryz.t5, Tryz.type5, rfl, rfl, by decide⟩, rfl, by decide⟩
theorem te24 : TE Tryz.prog 24 34 1 (.slice none 0 0) := ⟨Tryz.underlying24, ⟨Tryz.t34, Tryz.type34, rfl, rfl, by decide⟩, rfl, by decide⟩
theorem te34 : TE Tryz.prog 34 3 1 (.int .i64 0) := ⟨Tryz.underlying34, ⟨Tryz.t3, Tryz.type3, rfl, rfl, by decide⟩, rfl, by decide⟩
theorem te44 : TE Tryz.prog 44 47 2 (.agg #[(.int .i64 0), (.int .i64 0)]) := ⟨Tryz.underlying44, ⟨Tryz.t47, Tryz.type47, rfl, rfl, by decide⟩, rfl, by decide⟩
theorem tf26_0 : TF Tryz.prog 26 0 0 := ⟨_, _, _, Tryz.underlying26, rfl, rfl, Tryz.sizeOf3, by decide⟩
theorem tf26_1 : TF Tryz.prog 26 1 1 := ⟨_, _, _, Tryz.underlying26, rfl, rfl, Tryz.sizeOf24, by decide⟩
theorem tf92_0 : TF Tryz.prog 92 0 0 := ⟨_, _, _, Tryz.underlying92, rfl, rfl, Tryz.sizeOf22, by decide⟩
theorem tf92_1 : TF Tryz.prog 92 1 1 := ⟨_, _, _, Tryz.underlying92, rfl, rfl, Tryz.sizeOf3, by decide⟩
theorem tf92_2 : TF Tryz.prog 92 2 2 := ⟨_, _, _, Tryz.underlying92, rfl, rfl, Tryz.sizeOf90, by decide⟩
theorem w_laws_vBig {Ha : GH} {wa : World} (hs : Sl Ha wa) (v0 : Value) (a0 : List Int) (p0 : RSl Ha (eN .u8) 1 v0 a0) :
  Calls Tryz.prog 14 #[v0] wa (Sc Ha wa (Value.bool (PF.laws_vBig a0))) := by
 obtain ⟨r, hp⟩ : ∃ r, (PF.laws_vBig a0) = r := ⟨_, rfl⟩
 rw [hp]
 unfold PF.laws_vBig at hp
 have S0 := St.init hs
 refine calls_go (N := 6) (args := [v0]) Tryz.func14 rfl rfl rfl ?_
 refine FW.seq (FW.region ?_)
 refine FL.v (E.assign (v := Value.bool false) rfl) ?_
 refine FL.nil (FW.seq (FW.region ?_))
 refine FL.v (E.move (v := v0) rfl) ?_
 refine FL.v (E.lenP te22 rfl p0) ?_
 refine FL.v (E.gtr rfl rfl) ?_
 refine FL.v (E.assign (v := Value.bool (decide (65536 < (len a0)))) rfl) ?_
 refine FL.nil ?_
 refine FW.ret ?_
 obtain rfl := hp
 exact ⟨.inr rfl, res1 rfl rfl ⟨rfl, S0.back⟩⟩

@[reducible] def p_spec_l1Cur_next (H0 : GH) (w0 : World) (Ha : GH) (L : List MO) (b0 : Nat) (r : (Int × l1Cur)) : Ending → World → Prop :=
 fun e w' => ∃ H' : GH, ∃ v0_0r : Value, e = .returned (Value.int .i64 r.1) ∧ (St H0 w0 H' w' (.box b0 92 [v0_0r, Value.int .i64 r.2.at_, Value.int .u64 r.2.seed] :: L) ∧ Inc Ha H') ∧ RSl H' (eN .u8) 1 v0_0r r.2.code
theorem w_spec_l1Cur_next {H0 Ha : GH} {w0 wa : World} {L : List MO} {a0 : l1Cur} {b0 : Nat} {v0_0 : Value} (S0 : St H0 w0 Ha wa (.box b0 92 [v0_0, Value.int .i64 a0.at_, Value.int .u64 a0.seed] :: L)) (p0_0 : RSl Ha (eN .u8) 1 v0_0 a0.code) {r : (Int × l1Cur)} (hp : (PF.spec_l1Cur_next a0) = some r) :
  Calls Tryz.prog 168 #[Value.pointer (some (⟨b0, 0, none⟩ : Addr))] wa (p_spec_l1Cur_next H0 w0 Ha L b0 r) := by
 unfold PF.spec_l1Cur_next at hp
 refine calls_go (N := 62) (args := [Value.pointer (some (⟨b0, 0, none⟩ : Addr))]) Tryz.func168 rfl rfl rfl ?_
 refine FW.seq (FW.region ?_)
 refine FL.v (E.assign (v := Value.int .i64 0) rfl) ?_
 refine FL.nil (FW.seq (FW.region ?_))
 refine FL.v (E.assign (v := Value.int .i64 0) rfl) ?_
 refine FL.nil (FW.seq (FW.seq ?_))
 refine FW.draw (fun w' => Run wa.heap.size Ha wa Ha w') (by kernel_rfl) (by kernel_rfl) (run_drew S0.sl) ?_
 refine FD.val rfl rfl rfl (fun w' hw' => (E.move (v := Value.pointer (some (⟨b0, 0, none⟩ : Addr))) rfl)) ?_
 refine FD.val rfl rfl rfl (fun w' hw' => (E.nilCheck rfl)) ?_
 refine FD.val rfl rfl rfl (fun w' hw' => (E.fieldAddr tf92_1 rfl)) ?_
 refine FD.val rfl rfl rfl (fun w' hw' => (E.load rfl (run_load1 Tryz.isAgg3 ((S0.call hw').box_now (i := 0) rfl) rfl))) ?_
 refine FD.val rfl rfl rfl (fun w' hw' => (E.move (v := Value.pointer (some (⟨b0, 0, none⟩ : Addr))) rfl)) ?_
 refine FD.val rfl rfl rfl (fun w' hw' => (E.nilCheck rfl)) ?_
 refine FD.val rfl rfl rfl (fun w' hw' => (E.fieldAddr tf92_0 rfl)) ?_
 refine FD.val rfl rfl rfl (fun w' hw' => (E.load rfl (run_load1 Tryz.isAgg22 ((S0.call hw').box_now (i := 0) rfl) rfl))) ?_
 refine FD.val rfl rfl rfl (fun w' hw' => (E.lenP te22 rfl p0_0)) ?_
 refine FD.val rfl rfl rfl (fun w' hw' => (E.lss rfl rfl)) ?_
 refine FD.nil ?_
 intro w22 r24
 have S23 := S0.call r24
 obtain ⟨q39, hq, hp⟩ := bndR hp
 refine FW.joinE (S := Int) (X := Empty) (q := q39) (fun s38 f w => ∃ H : GH, St H0 w0 H w (.box b0 92 [v0_0, Value.int .i64 a0.at_, Value.int .u64 a0.seed] :: L) ∧ Inc Ha H ∧ f 0 = Value.pointer (some (⟨b0, 0, none⟩ : Addr)) ∧ f 3 = Value.int .i64 s38) (fun (_ : Empty) _ _ _ => False) ?_ ?_ ?_
 ·
  clear hp; have hp := hq; clear hq
  rcases ifB hp with ⟨c41, hp⟩ | ⟨c41, hp⟩
  ·
   refine FW.condT rfl c41 ?_
   refine FW.draw (fun w' => Run w22.heap.size Ha w22 Ha w') (by kernel_rfl) (by kernel_rfl) (run_drew S23.sl) ?_
   refine FD.val rfl rfl rfl (fun w' hw' => (E.move (v := Value.pointer (some (⟨b0, 0, none⟩ : Addr))) rfl)) ?_
   refine FD.val rfl rfl rfl (fun w' hw' => (E.nilCheck rfl)) ?_
   refine FD.val rfl rfl rfl (fun w' hw' => (E.fieldAddr tf92_0 rfl)) ?_
   refine FD.val rfl rfl rfl (fun w' hw' => (E.load rfl (run_load1 Tryz.isAgg22 ((S23.call hw').box_now (i := 0) rfl) rfl))) ?_
   refine FD.val rfl rfl rfl (fun w' hw' => (E.move (v := Value.pointer (some (⟨b0, 0, none⟩ : Addr))) rfl)) ?_
   refine FD.val rfl rfl rfl (fun w' hw' => (E.nilCheck rfl)) ?_
   refine FD.val rfl rfl rfl (fun w' hw' => (E.fieldAddr tf92_1 rfl)) ?_
   refine FD.val rfl rfl rfl (fun w' hw' => (E.load rfl (run_load1 Tryz.isAgg3 ((S23.call hw').box_now (i := 0) rfl) rfl))) ?_
   obtain ⟨x49, hx50, hp⟩ := bnd hp
   obtain ⟨p43, cs44, pt45, l46, at47, rel48⟩ := p0_0.at hx50
   obtain rfl := eN_open rel48
   refine FD.val rfl rfl rfl (fun w' hw' => (E.indexAddr te22 rfl rfl pt45)) ?_
   refine FD.val rfl rfl rfl (fun w' hw' => (E.load rfl (run_load0 Tryz.isAgg5 (at47.now (S23.call hw').sl) rfl))) ?_
   refine FD.val rfl rfl rfl (fun w' hw' => (E.conv Tryz.runUnderlying5 Tryz.runUnderlying3 rfl)) ?_
   refine FD.val rfl rfl rfl (fun w' hw' => (E.assign (v := Value.int .i64 (wrk true 64 x49)) rfl)) ?_
   refine FD.nil ?_
   intro w51 r53
   have S52 := S23.call r53
   obtain rfl := Option.some.inj hp
   exact ⟨rfl, ⟨_, S52, (Inc.rfl _), rfl, rfl⟩⟩
  ·
   refine FW.condF rfl c41 ?_
   refine FW.skip ?_
   obtain rfl := Option.some.inj hp
   exact ⟨rfl, ⟨_, S23, (Inc.rfl _), rfl, rfl⟩⟩
 ·
  rintro s38 rfl f58 w57 ⟨H54, S55, i56, k59, k60⟩
  replace hp := el_go hp
  refine FW.seq (FW.region ?_)
  refine FL.v (E.move k59) ?_
  refine FL.v (E.nilCheck rfl) ?_
  refine FL.v (E.fieldAddr tf92_1 rfl) ?_
  refine FL.v (E.load rfl (run_load1 Tryz.isAgg3 (S55.box_now (i := 0) rfl) rfl)) ?_
  refine FL.v (E.add rfl rfl) ?_
  refine FL.v (E.nilCheck rfl) ?_
  refine FL.v (E.fieldAddr tf92_1 rfl) ?_
  obtain ⟨w61, run62, S63⟩ := S55.store (P := Tryz.prog) (t := 3) (i := 0) (j := 1) (cs' := [v0_0, Value.int .i64 (wr (a0.at_ + 1)), Value.int .u64 a0.seed]) (l' := (.box b0 92 [v0_0, Value.int .i64 (wr (a0.at_ + 1)), Value.int .u64 a0.seed] :: L)) (v := Value.int .i64 (wr (a0.at_ + 1))) (c := [Value.int .i64 (wr (a0.at_ + 1))]) rfl Tryz.sizeOf3 rfl rfl (ones_cons rfl ones_nil) (Nat.le_of_ble_eq_true rfl) rfl rfl
  refine FL.act rfl rfl (E.store rfl rfl run62) ?_
  refine FL.nil (FW.seq (FW.region ?_))
  refine FL.v (E.move k59) ?_
  refine FL.v (E.move k59) ?_
  refine FL.v (E.nilCheck rfl) ?_
  refine FL.v (E.fieldAddr tf92_2 rfl) ?_
  refine FL.v (E.load rfl (run_load1 Tryz.isAgg90 (S63.box_now (i := 0) rfl) rfl)) ?_
  refine FL.v (E.mulK rfl rfl) ?_
  refine FL.v (E.move k60) ?_
  refine FL.v (E.conv Tryz.runUnderlying3 Tryz.runUnderlying90 rfl) ?_
  refine FL.v (E.addK rfl rfl) ?_
  refine FL.v (E.addK rfl rfl) ?_
  refine FL.v (E.nilCheck rfl) ?_
  refine FL.v (E.fieldAddr tf92_2 rfl) ?_
  obtain ⟨w64, run65, S66⟩ := S63.store (P := Tryz.prog) (t := 90) (i := 0) (j := 2) (cs' := [v0_0, Value.int .i64 (wr (a0.at_ + 1)), Value.int .u64 (wrk false 64 ((wrk false 64 ((wrk false 64 (a0.seed * 6364136223846793005)) + (wrk false 64 s38))) + 337411))]) (l' := (.box b0 92 [v0_0, Value.int .i64 (wr (a0.at_ + 1)), Value.int .u64 (wrk false 64 ((wrk false 64 ((wrk false 64 (a0.seed * 6364136223846793005)) + (wrk false 64 s38))) + 337411))] :: L)) (v := Value.int .u64 (wrk false 64 ((wrk false 64 ((wrk false 64 (a0.seed * 6364136223846793005)) + (wrk false 64 s38))) + 337411))) (c := [Value.int .u64 (wrk false 64 ((wrk false 64 ((wrk false 64 (a0.seed * 6364136223846793005)) + (wrk false 64 s38))) + 337411))]) rfl Tryz.sizeOf90 rfl rfl (ones_cons rfl ones_nil) (Nat.le_of_ble_eq_true rfl) rfl rfl
  refine FL.act rfl rfl (E.store rfl rfl run65) ?_
  refine FL.nil (FW.seq (FW.seq ?_))
  refine FW.draw (fun w' => Run w64.heap.size H54 w64 H54 w') (by kernel_rfl) (by kernel_rfl) (run_drew S66.sl) ?_
  refine FD.val rfl rfl rfl (fun w' hw' => (E.move k59)) ?_
  refine FD.val rfl rfl rfl (fun w' hw' => (E.nilCheck rfl)) ?_
  refine FD.val rfl rfl rfl (fun w' hw' => (E.fieldAddr tf92_1 rfl)) ?_
  refine FD.val rfl rfl rfl (fun w' hw' => (E.load rfl (run_load1 Tryz.isAgg3 ((S66.call hw').box_now (i := 0) rfl) rfl))) ?_
  refine FD.val rfl rfl rfl (fun w' hw' => (E.move k59)) ?_
  refine FD.val rfl rfl rfl (fun w' hw' => (E.nilCheck rfl)) ?_
  refine FD.val rfl rfl rfl (fun w' hw' => (E.fieldAddr tf92_0 rfl)) ?_
  refine FD.val rfl rfl rfl (fun w' hw' => (E.load rfl (run_load1 Tryz.isAgg22 ((S66.call hw').box_now (i := 0) rfl) rfl))) ?_
  refine FD.val rfl rfl rfl (fun w' hw' => (E.lenP te22 rfl p0_0)) ?_
  refine FD.val rfl rfl rfl (fun w' hw' => (E.leq rfl rfl)) ?_
  refine FD.nil ?_
  intro w68 r70
  have S69 := S66.call r70
  rcases ifB hp with ⟨c71, hp⟩ | ⟨c71, hp⟩
  ·
   refine FW.condT rfl c71 ?_
   refine FW.seq (FW.region ?_)
   refine FL.v (E.move k60) ?_
   refine FL.v (E.assign (v := Value.int .i64 s38) rfl) ?_
   refine FL.nil ?_
   refine FW.ret ?_
   obtain rfl := Option.some.inj hp
   exact ⟨.inr rfl, res1 rfl rfl ⟨_, _, rfl, ⟨S69, i56⟩, (p0_0.mono i56)⟩⟩
  ·
   refine FW.condF rfl c71 ?_
   refine FW.skip (FW.seq (FW.region ?_))
   refine FL.v (E.move k59) ?_
   refine FL.v (E.nilCheck rfl) ?_
   refine FL.v (E.fieldAddr tf92_2 rfl) ?_
   refine FL.v (E.load rfl (run_load1 Tryz.isAgg90 (S69.box_now (i := 0) rfl) rfl)) ?_
   refine FL.v (E.shr rfl rfl (by decide)) ?_
   refine FL.v (E.and rfl rfl) ?_
   refine FL.v (E.conv Tryz.runUnderlying90 Tryz.runUnderlying3 rfl) ?_
   refine FL.v (E.assign (v := Value.int .i64 (wrk true 64 (andK false 64 (shrK 64 (wrk false 64 ((wrk false 64 ((wrk false 64 (a0.seed * 6364136223846793005)) + (wrk false 64 s38))) + 337411)) 40) 255))) rfl) ?_
   refine FL.nil ?_
   refine FW.ret ?_
   obtain rfl := Option.some.inj hp
   exact ⟨.inr rfl, res1 rfl rfl ⟨_, _, rfl, ⟨S69, i56⟩, (p0_0.mono i56)⟩⟩
 ·
  intro x40; exact x40.elim

@[reducible] def p_spec_l1Cur_pick (H0 : GH) (w0 : World) (Ha : GH) (L : List MO) (b0 : Nat) (r : (Int × l1Cur)) : Ending → World → Prop :=
 fun e w' => ∃ H' : GH, ∃ v0_0r : Value, e = .returned (Value.int .i64 r.1) ∧ (St H0 w0 H' w' (.box b0 92 [v0_0r, Value.int .i64 r.2.at_, Value.int .u64 r.2.seed] :: L) ∧ Inc Ha H') ∧ RSl H' (eN .u8) 1 v0_0r r.2.code
theorem w_spec_l1Cur_pick {H0 Ha : GH} {w0 wa : World} {L : List MO} {a0 : l1Cur} {b0 : Nat} {v0_0 : Value} (S0 : St H0 w0 Ha wa (.box b0 92 [v0_0, Value.int .i64 a0.at_, Value.int .u64 a0.seed] :: L)) (p0_0 : RSl Ha (eN .u8) 1 v0_0 a0.code) (a1 : Int) {r : (Int × l1Cur)} (hp : (PF.spec_l1Cur_pick a0 a1) = some r) :
  Calls Tryz.prog 70 #[Value.pointer (some (⟨b0, 0, none⟩ : Addr)), Value.int .i64 a1] wa (p_spec_l1Cur_pick H0 w0 Ha L b0 r) := by
 unfold PF.spec_l1Cur_pick at hp
 refine calls_go (N := 20) (args := [Value.pointer (some (⟨b0, 0, none⟩ : Addr)), Value.int .i64 a1]) Tryz.func70 rfl rfl rfl ?_
 refine FW.seq (FW.region ?_)
 refine FL.v (E.assign (v := Value.int .i64 0) rfl) ?_
 refine FL.nil (FW.seq (FW.seq (FW.region ?_)))
 refine FL.v (E.move (v := Value.int .i64 a1) rfl) ?_
 refine FL.v (E.leq rfl rfl) ?_
 refine FL.nil ?_
 rcases ifB hp with ⟨c21, hp⟩ | ⟨c21, hp⟩
 ·
  refine FW.condT rfl c21 ?_
  refine FW.seq (FW.region ?_)
  refine FL.v (E.assign (v := Value.int .i64 0) rfl) ?_
  refine FL.nil ?_
  refine FW.ret ?_
  obtain rfl := Option.some.inj hp
  exact ⟨.inr rfl, res1 rfl rfl ⟨_, _, rfl, ⟨S0, (Inc.rfl _)⟩, p0_0⟩⟩
 ·
  refine FW.condF rfl c21 ?_
  refine FW.skip (FW.seq (FW.region ?_))
  refine FL.v (E.move (v := Value.pointer (some (⟨b0, 0, none⟩ : Addr))) rfl) ?_
  obtain ⟨r22, hr23, hp⟩ := bnd hp
  refine FL.call rfl rfl rfl (E.call Tryz.call168 (A1 rfl)) (w_spec_l1Cur_next (L := (L)) S0 (a0 := a0) p0_0 hr23) ?_
  rintro e w25 ⟨H24, v28, rfl, ⟨S26, i27⟩, h29⟩
  refine ⟨_, rfl, ?_⟩
  have S26 : St H0 w0 H24 w25 (.box b0 92 [v28, Value.int .i64 r22.2.at_, Value.int .u64 r22.2.seed] :: L) := S26
  refine FL.v (E.assign (v := Value.int .i64 r22.1) rfl) ?_
  refine FL.nil (FW.seq (FW.seq (FW.region ?_)))
  refine FL.v (E.move (v := Value.int .i64 a1) rfl) ?_
  refine FL.v (E.gtr rfl rfl) ?_
  refine FL.nil ?_
  rcases ifB hp with ⟨c30, hp⟩ | ⟨c30, hp⟩
  ·
   refine FW.condT rfl c30 ?_
   refine FW.region ?_
   refine FL.v (E.move (v := Value.int .i64 r22.1) rfl) ?_
   refine FL.v (E.mul rfl rfl) ?_
   refine FL.v (E.move (v := Value.pointer (some (⟨b0, 0, none⟩ : Addr))) rfl) ?_
   obtain ⟨r31, hr32, hp⟩ := bnd hp
   refine FL.call rfl rfl rfl (E.call Tryz.call168 (A1 rfl)) (w_spec_l1Cur_next (L := (L)) S26 (a0 := r22.2) h29 hr32) ?_
   rintro e w34 ⟨H33, v37, rfl, ⟨S35, i36⟩, h38⟩
   refine ⟨_, rfl, ?_⟩
   have S35 : St H0 w0 H33 w34 (.box b0 92 [v37, Value.int .i64 r31.2.at_, Value.int .u64 r31.2.seed] :: L) := S35
   refine FL.v (E.add rfl rfl) ?_
   refine FL.v (E.assign (v := Value.int .i64 (wr ((wr (r22.1 * 256)) + r31.1))) rfl) ?_
   refine FL.nil (FW.seq (FW.region ?_))
   refine FL.v (E.move (v := Value.int .i64 (wr ((wr (r22.1 * 256)) + r31.1))) rfl) ?_
   refine FL.v (E.move (v := Value.int .i64 a1) rfl) ?_
   obtain ⟨u40, z39, hp⟩ := bnd hp
   refine FL.v (E.rem rfl rfl (nz_ne z39)) ?_
   refine FL.v (E.assign (v := Value.int .i64 ((wr ((wr (r22.1 * 256)) + r31.1)).tmod a1)) rfl) ?_
   refine FL.nil ?_
   refine FW.ret ?_
   obtain rfl := Option.some.inj hp
   exact ⟨.inr rfl, res1 rfl rfl ⟨_, _, rfl, ⟨S35, (i27.tr i36)⟩, h38⟩⟩
  ·
   refine FW.condF rfl c30 ?_
   refine FW.skip (FW.seq (FW.region ?_))
   refine FL.v (E.move (v := Value.int .i64 r22.1) rfl) ?_
   refine FL.v (E.move (v := Value.int .i64 a1) rfl) ?_
   obtain ⟨u42, z41, hp⟩ := bnd hp
   refine FL.v (E.rem rfl rfl (nz_ne z41)) ?_
   refine FL.v (E.assign (v := Value.int .i64 (r22.1.tmod a1)) rfl) ?_
   refine FL.nil ?_
   refine FW.ret ?_
   obtain rfl := Option.some.inj hp
   exact ⟨.inr rfl, res1 rfl rfl ⟨_, _, rfl, ⟨S26, i27⟩, h29⟩⟩

@[reducible] def p_spec_l1Cur_one (H0 : GH) (w0 : World) (Ha : GH) (L : List MO) (b0 : Nat) (r : (Bool × l1Cur)) : Ending → World → Prop :=
 fun e w' => ∃ H' : GH, ∃ v0_0r : Value, e = .returned (Value.bool r.1) ∧ (St H0 w0 H' w' (.box b0 92 [v0_0r, Value.int .i64 r.2.at_, Value.int .u64 r.2.seed] :: L) ∧ Inc Ha H') ∧ RSl H' (eN .u8) 1 v0_0r r.2.code
theorem w_spec_l1Cur_one {H0 Ha : GH} {w0 wa : World} {L : List MO} {a0 : l1Cur} {b0 : Nat} {v0_0 : Value} (S0 : St H0 w0 Ha wa (.box b0 92 [v0_0, Value.int .i64 a0.at_, Value.int .u64 a0.seed] :: L)) (p0_0 : RSl Ha (eN .u8) 1 v0_0 a0.code) (a1 : Int) {r : (Bool × l1Cur)} (hp : (PF.spec_l1Cur_one a0 a1) = some r) :
  Calls Tryz.prog 68 #[Value.pointer (some (⟨b0, 0, none⟩ : Addr)), Value.int .i64 a1] wa (p_spec_l1Cur_one H0 w0 Ha L b0 r) := by
 unfold PF.spec_l1Cur_one at hp
 refine calls_go (N := 9) (args := [Value.pointer (some (⟨b0, 0, none⟩ : Addr)), Value.int .i64 a1]) Tryz.func68 rfl rfl rfl ?_
 refine FW.seq (FW.region ?_)
 refine FL.v (E.assign (v := Value.bool false) rfl) ?_
 refine FL.nil (FW.seq (FW.region ?_))
 refine FL.v (E.move (v := Value.pointer (some (⟨b0, 0, none⟩ : Addr))) rfl) ?_
 refine FL.v (E.move (v := Value.int .i64 a1) rfl) ?_
 obtain ⟨r21, hr22, hp⟩ := bnd hp
 refine FL.call rfl rfl rfl (E.call Tryz.call70 (A2 rfl rfl)) (w_spec_l1Cur_pick (L := (L)) S0 (a0 := a0) p0_0 a1 hr22) ?_
 rintro e w24 ⟨H23, v27, rfl, ⟨S25, i26⟩, h28⟩
 refine ⟨_, rfl, ?_⟩
 have S25 : St H0 w0 H23 w24 (.box b0 92 [v27, Value.int .i64 r21.2.at_, Value.int .u64 r21.2.seed] :: L) := S25
 refine FL.v (E.eql rfl rfl) ?_
 refine FL.v (E.assign (v := Value.bool (r21.1 == 0)) rfl) ?_
 refine FL.nil ?_
 refine FW.ret ?_
 obtain rfl := Option.some.inj hp
 exact ⟨.inr rfl, res1 rfl rfl ⟨_, _, rfl, ⟨S25, i26⟩, h28⟩⟩

@[reducible] def p_spec_l2Hard (Ha : GH) (wa : World) (r : (List ByteArray)) : Ending → World → Prop :=
 fun e w' => ∃ H' : GH, ∃ v0 : Value, ∃ n0 : Nat, ∃ c0 : List Value, e = .returned (v0) ∧ St Ha wa H' w' [.row 9 1 v0 n0 c0] ∧ Els (up wa.heap.size H') eS 1 c0 r
theorem w_spec_l2Hard {Ha : GH} {wa : World} (hs : Sl Ha wa)  :
  Calls Tryz.prog 225 #[] wa (p_spec_l2Hard Ha wa PF.spec_l2Hard) := by
 obtain ⟨r, hp⟩ : ∃ r, PF.spec_l2Hard = r := ⟨_, rfl⟩
 rw [hp]
 unfold PF.spec_l2Hard at hp
 have S0 := St.init hs
 refine calls_go (N := 2) (args := []) Tryz.func225 rfl rfl rfl ?_
 refine FW.seq (FW.region ?_)
 refine FL.v (E.assign (v := Value.slice none 0 0) rfl) ?_
 refine FL.nil (FW.seq (FW.region ?_))
 obtain ⟨v21, w22, run23, S24⟩ := S0.buildSlice (P := Tryz.prog) te171 [Value.string (ByteArray.mk #[49, 59, 32, 49, 59, 32, 45, 49]), Value.string (ByteArray.mk #[50, 59, 32, 49, 32, 50, 59, 32, 49, 32, 45, 50, 59, 32, 45, 49, 32, 50, 59, 32, 45, 49, 32, 45, 50]), Value.string (ByteArray.mk #[48, 59, 32, 110, 111, 110, 101]), Value.string (ByteArray.mk #[50, 59, 32, 49, 59, 32, 45, 49, 32, 50, 59, 32, 45, 50]), Value.string (ByteArray.mk #[51, 59, 32, 49, 59, 32, 45, 49, 32, 50, 59, 32, 45, 50, 32, 51, 59, 32, 45, 51]), Value.string (ByteArray.mk #[51, 59, 32, 49, 32, 50, 59, 32, 45, 49, 32, 51, 59, 32, 45, 50, 32, 51, 59, 32, 45, 51]), Value.string (ByteArray.mk #[51, 59, 32, 49, 32, 50, 59, 32, 45, 49, 32, 50, 59, 32, 45, 50, 32, 51, 59, 32, 45, 50, 32, 45, 51]), Value.string (ByteArray.mk #[51, 59, 32, 49, 32, 50, 32, 51, 59, 32, 49, 32, 50, 32, 45, 51, 59, 32, 49, 32, 45, 50, 59, 32, 45, 49, 32, 51, 59, 32, 45, 49, 32, 45, 51]), Value.string (ByteArray.mk #[50, 59, 32, 49, 32, 50, 59, 32, 45, 49, 59, 32, 45, 50, 59, 32, 49, 32, 45, 50]), Value.string (ByteArray.mk #[52, 59, 32, 49, 32, 50, 59, 32, 51, 32, 52, 59, 32, 45, 49, 32, 45, 51, 59, 32, 45, 50, 32, 45, 52, 59, 32, 45, 49, 32, 45, 52, 59, 32, 45, 50, 32, 45, 51]), Value.string (ByteArray.mk #[51, 59, 32, 49, 32, 50, 59, 32, 50, 32, 51, 59, 32, 49, 32, 51, 59, 32, 45, 49, 32, 45, 50, 59, 32, 45, 50, 32, 45, 51, 59, 32, 45, 49, 32, 45, 51]), Value.string (ByteArray.mk #[52, 59, 32, 49, 59, 32, 50, 59, 32, 45, 49, 32, 45, 50, 32, 51, 59, 32, 45, 51, 32, 52, 59, 32, 45, 52]), Value.string (ByteArray.mk #[51, 59, 32, 49, 32, 45, 50, 59, 32, 50, 32, 45, 51, 59, 32, 51, 32, 45, 49, 59, 32, 49, 32, 50, 32, 51, 59, 32, 45, 49, 32, 45, 50, 32, 45, 51]), Value.string (ByteArray.mk #[52, 59, 32, 49, 32, 50, 59, 32, 45, 49, 32, 45, 50, 59, 32, 50, 32, 51, 59, 32, 45, 50, 32, 45, 51, 59, 32, 51, 32, 52, 59, 32, 45, 51, 32, 45, 52, 59, 32, 49, 32, 52, 32, 45, 51, 59, 32, 45, 49, 32, 45, 52, 59, 32, 49, 32, 45, 52, 59, 32, 45, 49, 32, 52]), Value.string (ByteArray.mk #[50, 59, 32, 49, 59, 32, 45, 49, 59, 32, 50])] (parts := #[(0, Value.string (ByteArray.mk #[49, 59, 32, 49, 59, 32, 45, 49])), (1, Value.string (ByteArray.mk #[50, 59, 32, 49, 32, 50, 59, 32, 49, 32, 45, 50, 59, 32, 45, 49, 32, 50, 59, 32, 45, 49, 32, 45, 50])), (2, Value.string (ByteArray.mk #[48, 59, 32, 110, 111, 110, 101])), (3, Value.string (ByteArray.mk #[50, 59, 32, 49, 59, 32, 45, 49, 32, 50, 59, 32, 45, 50])), (4, Value.string (ByteArray.mk #[51, 59, 32, 49, 59, 32, 45, 49, 32, 50, 59, 32, 45, 50, 32, 51, 59, 32, 45, 51])), (5, Value.string (ByteArray.mk #[51, 59, 32, 49, 32, 50, 59, 32, 45, 49, 32, 51, 59, 32, 45, 50, 32, 51, 59, 32, 45, 51])), (6, Value.string (ByteArray.mk #[51, 59, 32, 49, 32, 50, 59, 32, 45, 49, 32, 50, 59, 32, 45, 50, 32, 51, 59, 32, 45, 50, 32, 45, 51])), (7, Value.string (ByteArray.mk #[51, 59, 32, 49, 32, 50, 32, 51, 59, 32, 49, 32, 50, 32, 45, 51, 59, 32, 49, 32, 45, 50, 59, 32, 45, 49, 32, 51, 59, 32, 45, 49, 32, 45, 51])), (8, Value.string (ByteArray.mk #[50, 59, 32, 49, 32, 50, 59, 32, 45, 49, 59, 32, 45, 50, 59, 32, 49, 32, 45, 50])), (9, Value.string (ByteArray.mk #[52, 59, 32, 49, 32, 50, 59, 32, 51, 32, 52, 59, 32, 45, 49, 32, 45, 51, 59, 32, 45, 50, 32, 45, 52, 59, 32, 45, 49, 32, 45, 52, 59, 32, 45, 50, 32, 45, 51])), (10, Value.string (ByteArray.mk #[51, 59, 32, 49, 32, 50, 59, 32, 50, 32, 51, 59, 32, 49, 32, 51, 59, 32, 45, 49, 32, 45, 50, 59, 32, 45, 50, 32, 45, 51, 59, 32, 45, 49, 32, 45, 51])), (11, Value.string (ByteArray.mk #[52, 59, 32, 49, 59, 32, 50, 59, 32, 45, 49, 32, 45, 50, 32, 51, 59, 32, 45, 51, 32, 52, 59, 32, 45, 52])), (12, Value.string (ByteArray.mk #[51, 59, 32, 49, 32, 45, 50, 59, 32, 50, 32, 45, 51, 59, 32, 51, 32, 45, 49, 59, 32, 49, 32, 50, 32, 51, 59, 32, 45, 49, 32, 45, 50, 32, 45, 51])), (13, Value.string (ByteArray.mk #[52, 59, 32, 49, 32, 50, 59, 32, 45, 49, 32, 45, 50, 59, 32, 50, 32, 51, 59, 32, 45, 50, 32, 45, 51, 59, 32, 51, 32, 52, 59, 32, 45, 51, 32, 45, 52, 59, 32, 49, 32, 52, 32, 45, 51, 59, 32, 45, 49, 32, 45, 52, 59, 32, 49, 32, 45, 52, 59, 32, 45, 49, 32, 52])), (14, Value.string (ByteArray.mk #[50, 59, 32, 49, 59, 32, 45, 49, 59, 32, 50]))]) (cells := [Value.string (ByteArray.mk #[49, 59, 32, 49, 59, 32, 45, 49]), Value.string (ByteArray.mk #[50, 59, 32, 49, 32, 50, 59, 32, 49, 32, 45, 50, 59, 32, 45, 49, 32, 50, 59, 32, 45, 49, 32, 45, 50]), Value.string (ByteArray.mk #[48, 59, 32, 110, 111, 110, 101]), Value.string (ByteArray.mk #[50, 59, 32, 49, 59, 32, 45, 49, 32, 50, 59, 32, 45, 50]), Value.string (ByteArray.mk #[51, 59, 32, 49, 59, 32, 45, 49, 32, 50, 59, 32, 45, 50, 32, 51, 59, 32, 45, 51]), Value.string (ByteArray.mk #[51, 59, 32, 49, 32, 50, 59, 32, 45, 49, 32, 51, 59, 32, 45, 50, 32, 51, 59, 32, 45, 51]), Value.string (ByteArray.mk #[51, 59, 32, 49, 32, 50, 59, 32, 45, 49, 32, 50, 59, 32, 45, 50, 32, 51, 59, 32, 45, 50, 32, 45, 51]), Value.string (ByteArray.mk #[51, 59, 32, 49, 32, 50, 32, 51, 59, 32, 49, 32, 50, 32, 45, 51, 59, 32, 49, 32, 45, 50, 59, 32, 45, 49, 32, 51, 59, 32, 45, 49, 32, 45, 51]), Value.string (ByteArray.mk #[50, 59, 32, 49, 32, 50, 59, 32, 45, 49, 59, 32, 45, 50, 59, 32, 49, 32, 45, 50]), Value.string (ByteArray.mk #[52, 59, 32, 49, 32, 50, 59, 32, 51, 32, 52, 59, 32, 45, 49, 32, 45, 51, 59, 32, 45, 50, 32, 45, 52, 59, 32, 45, 49, 32, 45, 52, 59, 32, 45, 50, 32, 45, 51]), Value.string (ByteArray.mk #[51, 59, 32, 49, 32, 50, 59, 32, 50, 32, 51, 59, 32, 49, 32, 51, 59, 32, 45, 49, 32, 45, 50, 59, 32, 45, 50, 32, 45, 51, 59, 32, 45, 49, 32, 45, 51]), Value.string (ByteArray.mk #[52, 59, 32, 49, 59, 32, 50, 59, 32, 45, 49, 32, 45, 50, 32, 51, 59, 32, 45, 51, 32, 52, 59, 32, 45, 52]), Value.string (ByteArray.mk #[51, 59, 32, 49, 32, 45, 50, 59, 32, 50, 32, 45, 51, 59, 32, 51, 32, 45, 49, 59, 32, 49, 32, 50, 32, 51, 59, 32, 45, 49, 32, 45, 50, 32, 45, 51]), Value.string (ByteArray.mk #[52, 59, 32, 49, 32, 50, 59, 32, 45, 49, 32, 45, 50, 59, 32, 50, 32, 51, 59, 32, 45, 50, 32, 45, 51, 59, 32, 51, 32, 52, 59, 32, 45, 51, 32, 45, 52, 59, 32, 49, 32, 52, 32, 45, 51, 59, 32, 45, 49, 32, 45, 52, 59, 32, 49, 32, 45, 52, 59, 32, 45, 49, 32, 52]), Value.string (ByteArray.mk #[50, 59, 32, 49, 59, 32, 45, 49, 59, 32, 50])]) rfl (szs_cons rfl (szs_cons rfl (szs_cons rfl (szs_cons rfl (szs_cons rfl (szs_cons rfl (szs_cons rfl (szs_cons rfl (szs_cons rfl (szs_cons rfl (szs_cons rfl (szs_cons rfl (szs_cons rfl (szs_cons rfl (szs_cons rfl szs_nil))))))))))))))) (fc_cons rfl (fc_cons rfl (fc_cons rfl (fc_cons rfl (fc_cons rfl (fc_cons rfl (fc_cons rfl (fc_cons rfl (fc_cons rfl (fc_cons rfl (fc_cons rfl (fc_cons rfl (fc_cons rfl (fc_cons rfl (fc_cons rfl fc_nil))))))))))))))) (ones_cons rfl (ones_cons rfl (ones_cons rfl (ones_cons rfl (ones_cons rfl (ones_cons rfl (ones_cons rfl (ones_cons rfl (ones_cons rfl (ones_cons rfl (ones_cons rfl (ones_cons rfl (ones_cons rfl (ones_cons rfl (ones_cons rfl ones_nil))))))))))))))) (Nat.le_of_ble_eq_true rfl)
 have els25 : Els (up wa.heap.size Ha) eS 1 [Value.string (ByteArray.mk #[49, 59, 32, 49, 59, 32, 45, 49]), Value.string (ByteArray.mk #[50, 59, 32, 49, 32, 50, 59, 32, 49, 32, 45, 50, 59, 32, 45, 49, 32, 50, 59, 32, 45, 49, 32, 45, 50]), Value.string (ByteArray.mk #[48, 59, 32, 110, 111, 110, 101]), Value.string (ByteArray.mk #[50, 59, 32, 49, 59, 32, 45, 49, 32, 50, 59, 32, 45, 50]), Value.string (ByteArray.mk #[51, 59, 32, 49, 59, 32, 45, 49, 32, 50, 59, 32, 45, 50, 32, 51, 59, 32, 45, 51]), Value.string (ByteArray.mk #[51, 59, 32, 49, 32, 50, 59, 32, 45, 49, 32, 51, 59, 32, 45, 50, 32, 51, 59, 32, 45, 51]), Value.string (ByteArray.mk #[51, 59, 32, 49, 32, 50, 59, 32, 45, 49, 32, 50, 59, 32, 45, 50, 32, 51, 59, 32, 45, 50, 32, 45, 51]), Value.string (ByteArray.mk #[51, 59, 32, 49, 32, 50, 32, 51, 59, 32, 49, 32, 50, 32, 45, 51, 59, 32, 49, 32, 45, 50, 59, 32, 45, 49, 32, 51, 59, 32, 45, 49, 32, 45, 51]), Value.string (ByteArray.mk #[50, 59, 32, 49, 32, 50, 59, 32, 45, 49, 59, 32, 45, 50, 59, 32, 49, 32, 45, 50]), Value.string (ByteArray.mk #[52, 59, 32, 49, 32, 50, 59, 32, 51, 32, 52, 59, 32, 45, 49, 32, 45, 51, 59, 32, 45, 50, 32, 45, 52, 59, 32, 45, 49, 32, 45, 52, 59, 32, 45, 50, 32, 45, 51]), Value.string (ByteArray.mk #[51, 59, 32, 49, 32, 50, 59, 32, 50, 32, 51, 59, 32, 49, 32, 51, 59, 32, 45, 49, 32, 45, 50, 59, 32, 45, 50, 32, 45, 51, 59, 32, 45, 49, 32, 45, 51]), Value.string (ByteArray.mk #[52, 59, 32, 49, 59, 32, 50, 59, 32, 45, 49, 32, 45, 50, 32, 51, 59, 32, 45, 51, 32, 52, 59, 32, 45, 52]), Value.string (ByteArray.mk #[51, 59, 32, 49, 32, 45, 50, 59, 32, 50, 32, 45, 51, 59, 32, 51, 32, 45, 49, 59, 32, 49, 32, 50, 32, 51, 59, 32, 45, 49, 32, 45, 50, 32, 45, 51]), Value.string (ByteArray.mk #[52, 59, 32, 49, 32, 50, 59, 32, 45, 49, 32, 45, 50, 59, 32, 50, 32, 51, 59, 32, 45, 50, 32, 45, 51, 59, 32, 51, 32, 52, 59, 32, 45, 51, 32, 45, 52, 59, 32, 49, 32, 52, 32, 45, 51, 59, 32, 45, 49, 32, 45, 52, 59, 32, 49, 32, 45, 52, 59, 32, 45, 49, 32, 52]), Value.string (ByteArray.mk #[50, 59, 32, 49, 59, 32, 45, 49, 59, 32, 50])] [(ByteArray.mk #[49, 59, 32, 49, 59, 32, 45, 49]), (ByteArray.mk #[50, 59, 32, 49, 32, 50, 59, 32, 49, 32, 45, 50, 59, 32, 45, 49, 32, 50, 59, 32, 45, 49, 32, 45, 50]), (ByteArray.mk #[48, 59, 32, 110, 111, 110, 101]), (ByteArray.mk #[50, 59, 32, 49, 59, 32, 45, 49, 32, 50, 59, 32, 45, 50]), (ByteArray.mk #[51, 59, 32, 49, 59, 32, 45, 49, 32, 50, 59, 32, 45, 50, 32, 51, 59, 32, 45, 51]), (ByteArray.mk #[51, 59, 32, 49, 32, 50, 59, 32, 45, 49, 32, 51, 59, 32, 45, 50, 32, 51, 59, 32, 45, 51]), (ByteArray.mk #[51, 59, 32, 49, 32, 50, 59, 32, 45, 49, 32, 50, 59, 32, 45, 50, 32, 51, 59, 32, 45, 50, 32, 45, 51]), (ByteArray.mk #[51, 59, 32, 49, 32, 50, 32, 51, 59, 32, 49, 32, 50, 32, 45, 51, 59, 32, 49, 32, 45, 50, 59, 32, 45, 49, 32, 51, 59, 32, 45, 49, 32, 45, 51]), (ByteArray.mk #[50, 59, 32, 49, 32, 50, 59, 32, 45, 49, 59, 32, 45, 50, 59, 32, 49, 32, 45, 50]), (ByteArray.mk #[52, 59, 32, 49, 32, 50, 59, 32, 51, 32, 52, 59, 32, 45, 49, 32, 45, 51, 59, 32, 45, 50, 32, 45, 52, 59, 32, 45, 49, 32, 45, 52, 59, 32, 45, 50, 32, 45, 51]), (ByteArray.mk #[51, 59, 32, 49, 32, 50, 59, 32, 50, 32, 51, 59, 32, 49, 32, 51, 59, 32, 45, 49, 32, 45, 50, 59, 32, 45, 50, 32, 45, 51, 59, 32, 45, 49, 32, 45, 51]), (ByteArray.mk #[52, 59, 32, 49, 59, 32, 50, 59, 32, 45, 49, 32, 45, 50, 32, 51, 59, 32, 45, 51, 32, 52, 59, 32, 45, 52]), (ByteArray.mk #[51, 59, 32, 49, 32, 45, 50, 59, 32, 50, 32, 45, 51, 59, 32, 51, 32, 45, 49, 59, 32, 49, 32, 50, 32, 51, 59, 32, 45, 49, 32, 45, 50, 32, 45, 51]), (ByteArray.mk #[52, 59, 32, 49, 32, 50, 59, 32, 45, 49, 32, 45, 50, 59, 32, 50, 32, 51, 59, 32, 45, 50, 32, 45, 51, 59, 32, 51, 32, 52, 59, 32, 45, 51, 32, 45, 52, 59, 32, 49, 32, 52, 32, 45, 51, 59, 32, 45, 49, 32, 45, 52, 59, 32, 49, 32, 45, 52, 59, 32, 45, 49, 32, 52]), (ByteArray.mk #[50, 59, 32, 49, 59, 32, 45, 49, 59, 32, 50])] := (Els.snoc (H := (up wa.heap.size Ha)) (E := eS) (k := 1) (c := [Value.string (ByteArray.mk #[50, 59, 32, 49, 59, 32, 45, 49, 59, 32, 50])]) (x := (ByteArray.mk #[50, 59, 32, 49, 59, 32, 45, 49, 59, 32, 50])) (Els.snoc (H := (up wa.heap.size Ha)) (E := eS) (k := 1) (c := [Value.string (ByteArray.mk #[52, 59, 32, 49, 32, 50, 59, 32, 45, 49, 32, 45, 50, 59, 32, 50, 32, 51, 59, 32, 45, 50, 32, 45, 51, 59, 32, 51, 32, 52, 59, 32, 45, 51, 32, 45, 52, 59, 32, 49, 32, 52, 32, 45, 51, 59, 32, 45, 49, 32, 45, 52, 59, 32, 49, 32, 45, 52, 59, 32, 45, 49, 32, 52])]) (x := (ByteArray.mk #[52, 59, 32, 49, 32, 50, 59, 32, 45, 49, 32, 45, 50, 59, 32, 50, 32, 51, 59, 32, 45, 50, 32, 45, 51, 59, 32, 51, 32, 52, 59, 32, 45, 51, 32, 45, 52, 59, 32, 49, 32, 52, 32, 45, 51, 59, 32, 45, 49, 32, 45, 52, 59, 32, 49, 32, 45, 52, 59, 32, 45, 49, 32, 52])) (Els.snoc (H := (up wa.heap.size Ha)) (E := eS) (k := 1) (c := [Value.string (ByteArray.mk #[51, 59, 32, 49, 32, 45, 50, 59, 32, 50, 32, 45, 51, 59, 32, 51, 32, 45, 49, 59, 32, 49, 32, 50, 32, 51, 59, 32, 45, 49, 32, 45, 50, 32, 45, 51])]) (x := (ByteArray.mk #[51, 59, 32, 49, 32, 45, 50, 59, 32, 50, 32, 45, 51, 59, 32, 51, 32, 45, 49, 59, 32, 49, 32, 50, 32, 51, 59, 32, 45, 49, 32, 45, 50, 32, 45, 51])) (Els.snoc (H := (up wa.heap.size Ha)) (E := eS) (k := 1) (c := [Value.string (ByteArray.mk #[52, 59, 32, 49, 59, 32, 50, 59, 32, 45, 49, 32, 45, 50, 32, 51, 59, 32, 45, 51, 32, 52, 59, 32, 45, 52])]) (x := (ByteArray.mk #[52, 59, 32, 49, 59, 32, 50, 59, 32, 45, 49, 32, 45, 50, 32, 51, 59, 32, 45, 51, 32, 52, 59, 32, 45, 52])) (Els.snoc (H := (up wa.heap.size Ha)) (E := eS) (k := 1) (c := [Value.string (ByteArray.mk #[51, 59, 32, 49, 32, 50, 59, 32, 50, 32, 51, 59, 32, 49, 32, 51, 59, 32, 45, 49, 32, 45, 50, 59, 32, 45, 50, 32, 45, 51, 59, 32, 45, 49, 32, 45, 51])]) (x := (ByteArray.mk #[51, 59, 32, 49, 32, 50, 59, 32, 50, 32, 51, 59, 32, 49, 32, 51, 59, 32, 45, 49, 32, 45, 50, 59, 32, 45, 50, 32, 45, 51, 59, 32, 45, 49, 32, 45, 51])) (Els.snoc (H := (up wa.heap.size Ha)) (E := eS) (k := 1) (c := [Value.string (ByteArray.mk #[52, 59, 32, 49, 32, 50, 59, 32, 51, 32, 52, 59, 32, 45, 49, 32, 45, 51, 59, 32, 45, 50, 32, 45, 52, 59, 32, 45, 49, 32, 45, 52, 59, 32, 45, 50, 32, 45, 51])]) (x := (ByteArray.mk #[52, 59, 32, 49, 32, 50, 59, 32, 51, 32, 52, 59, 32, 45, 49, 32, 45, 51, 59, 32, 45, 50, 32, 45, 52, 59, 32, 45, 49, 32, 45, 52, 59, 32, 45, 50, 32, 45, 51])) (Els.snoc (H := (up wa.heap.size Ha)) (E := eS) (k := 1) (c := [Value.string (ByteArray.mk #[50, 59, 32, 49, 32, 50, 59, 32, 45, 49, 59, 32, 45, 50, 59, 32, 49, 32, 45, 50])]) (x := (ByteArray.mk #[50, 59, 32, 49, 32, 50, 59, 32, 45, 49, 59, 32, 45, 50, 59, 32, 49, 32, 45, 50])) (Els.snoc (H := (up wa.heap.size Ha)) (E := eS) (k := 1) (c := [Value.string (ByteArray.mk #[51, 59, 32, 49, 32, 50, 32, 51, 59, 32, 49, 32, 50, 32, 45, 51, 59, 32, 49, 32, 45, 50, 59, 32, 45, 49, 32, 51, 59, 32, 45, 49, 32, 45, 51])]) (x := (ByteArray.mk #[51, 59, 32, 49, 32, 50, 32, 51, 59, 32, 49, 32, 50, 32, 45, 51, 59, 32, 49, 32, 45, 50, 59, 32, 45, 49, 32, 51, 59, 32, 45, 49, 32, 45, 51])) (Els.snoc (H := (up wa.heap.size Ha)) (E := eS) (k := 1) (c := [Value.string (ByteArray.mk #[51, 59, 32, 49, 32, 50, 59, 32, 45, 49, 32, 50, 59, 32, 45, 50, 32, 51, 59, 32, 45, 50, 32, 45, 51])]) (x := (ByteArray.mk #[51, 59, 32, 49, 32, 50, 59, 32, 45, 49, 32, 50, 59, 32, 45, 50, 32, 51, 59, 32, 45, 50, 32, 45, 51])) (Els.snoc (H := (up wa.heap.size Ha)) (E := eS) (k := 1) (c := [Value.string (ByteArray.mk #[51, 59, 32, 49, 32, 50, 59, 32, 45, 49, 32, 51, 59, 32, 45, 50, 32, 51, 59, 32, 45, 51])]) (x := (ByteArray.mk #[51, 59, 32, 49, 32, 50, 59, 32, 45, 49, 32, 51, 59, 32, 45, 50, 32, 51, 59, 32, 45, 51])) (Els.snoc (H := (up wa.heap.size Ha)) (E := eS) (k := 1) (c := [Value.string (ByteArray.mk #[51, 59, 32, 49, 59, 32, 45, 49, 32, 50, 59, 32, 45, 50, 32, 51, 59, 32, 45, 51])]) (x := (ByteArray.mk #[51, 59, 32, 49, 59, 32, 45, 49, 32, 50, 59, 32, 45, 50, 32, 51, 59, 32, 45, 51])) (Els.snoc (H := (up wa.heap.size Ha)) (E := eS) (k := 1) (c := [Value.string (ByteArray.mk #[50, 59, 32, 49, 59, 32, 45, 49, 32, 50, 59, 32, 45, 50])]) (x := (ByteArray.mk #[50, 59, 32, 49, 59, 32, 45, 49, 32, 50, 59, 32, 45, 50])) (Els.snoc (H := (up wa.heap.size Ha)) (E := eS) (k := 1) (c := [Value.string (ByteArray.mk #[48, 59, 32, 110, 111, 110, 101])]) (x := (ByteArray.mk #[48, 59, 32, 110, 111, 110, 101])) (Els.snoc (H := (up wa.heap.size Ha)) (E := eS) (k := 1) (c := [Value.string (ByteArray.mk #[50, 59, 32, 49, 32, 50, 59, 32, 49, 32, 45, 50, 59, 32, 45, 49, 32, 50, 59, 32, 45, 49, 32, 45, 50])]) (x := (ByteArray.mk #[50, 59, 32, 49, 32, 50, 59, 32, 49, 32, 45, 50, 59, 32, 45, 49, 32, 50, 59, 32, 45, 49, 32, 45, 50])) (Els.snoc (H := (up wa.heap.size Ha)) (E := eS) (k := 1) (c := [Value.string (ByteArray.mk #[49, 59, 32, 49, 59, 32, 45, 49])]) (x := (ByteArray.mk #[49, 59, 32, 49, 59, 32, 45, 49])) Els.nil rfl rfl) rfl rfl) rfl rfl) rfl rfl) rfl rfl) rfl rfl) rfl rfl) rfl rfl) rfl rfl) rfl rfl) rfl rfl) rfl rfl) rfl rfl) rfl rfl) rfl rfl)
 refine FL.v (E.buildSlice (B15 rfl rfl rfl rfl rfl rfl rfl rfl rfl rfl rfl rfl rfl rfl rfl) run23) ?_
 refine FL.v (E.assign (v := v21) rfl) ?_
 refine FL.nil ?_
 refine FW.ret ?_
 obtain rfl := hp
 exact ⟨.inr rfl, res1 rfl rfl ⟨_, _, _, _, rfl, S24, els25⟩⟩

@[reducible] def p_spec_l1Cur_of (H0 : GH) (w0 : World) (Ha : GH) (L : List MO) (b0 : Nat) (r : (ByteArray × l1Cur)) : Ending → World → Prop :=
 fun e w' => ∃ H' : GH, ∃ v0_0r : Value, e = .returned (Value.string r.1) ∧ (St H0 w0 H' w' (.box b0 92 [v0_0r, Value.int .i64 r.2.at_, Value.int .u64 r.2.seed] :: L) ∧ Inc Ha H') ∧ RSl H' (eN .u8) 1 v0_0r r.2.code
theorem w_spec_l1Cur_of {H0 Ha : GH} {w0 wa : World} {L : List MO} {a0 : l1Cur} {b0 : Nat} {v0_0 : Value} (S0 : St H0 w0 Ha wa (.box b0 92 [v0_0, Value.int .i64 a0.at_, Value.int .u64 a0.seed] :: L)) (p0_0 : RSl Ha (eN .u8) 1 v0_0 a0.code) (v1 : Value) (a1 : List ByteArray) (p1 : RSl Ha eS 1 v1 a1) {r : (ByteArray × l1Cur)} (hp : (PF.spec_l1Cur_of a0 a1) = some r) :
  Calls Tryz.prog 157 #[Value.pointer (some (⟨b0, 0, none⟩ : Addr)), v1] wa (p_spec_l1Cur_of H0 w0 Ha L b0 r) := by
 unfold PF.spec_l1Cur_of at hp
 refine calls_go (N := 12) (args := [Value.pointer (some (⟨b0, 0, none⟩ : Addr)), v1]) Tryz.func157 rfl rfl rfl ?_
 refine FW.seq (FW.region ?_)
 refine FL.v (E.assign (v := Value.string (ByteArray.mk #[])) rfl) ?_
 refine FL.nil (FW.seq (FW.region ?_))
 refine FL.v (E.move (v := v1) rfl) ?_
 refine FL.v (E.move (v := Value.pointer (some (⟨b0, 0, none⟩ : Addr))) rfl) ?_
 refine FL.v (E.move (v := v1) rfl) ?_
 refine FL.v (E.lenP te171 rfl p1) ?_
 obtain ⟨r21, hr22, hp⟩ := bnd hp
 refine FL.call rfl rfl rfl (E.call Tryz.call70 (A2 rfl rfl)) (w_spec_l1Cur_pick (L := (L)) S0 (a0 := a0) p0_0 (len a1) hr22) ?_
 rintro e w24 ⟨H23, v27, rfl, ⟨S25, i26⟩, h28⟩
 refine ⟨_, rfl, ?_⟩
 have S25 : St H0 w0 H23 w24 (.box b0 92 [v27, Value.int .i64 r21.2.at_, Value.int .u64 r21.2.seed] :: L) := S25
 obtain ⟨x35, hx36, hp⟩ := bnd hp
 obtain ⟨p29, cs30, pt31, l32, at33, rel34⟩ := p1.at hx36
 obtain rfl := eS_open rel34
 refine FL.v (E.indexAddr te171 rfl rfl pt31) ?_
 refine FL.v (E.load rfl (run_load0 Tryz.isAgg9 ((at33.mono i26).now S25.sl) rfl)) ?_
 refine FL.v (E.assign (v := Value.string x35) rfl) ?_
 refine FL.nil ?_
 refine FW.ret ?_
 obtain rfl := Option.some.inj hp
 exact ⟨.inr rfl, res1 rfl rfl ⟨_, _, rfl, ⟨S25, i26⟩, h28⟩⟩

@[reducible] def p_spec_l1Split (Ha : GH) (wa : World) (r : (List ByteArray)) : Ending → World → Prop :=
  fun e w' => ∃ H' : GH, ∃ v0 : Value, ∃ n0 : Nat, ∃ c0 : List Value, e = .returned (v0) ∧ St Ha wa H' w' [.row 9 1 v0 n0 c0] ∧ Els (up wa.heap.size H') eS 1 c0 r
theorem w_spec_l1Split {Ha : GH} {wa : World} (hs : Sl Ha wa) (a0 : ByteArray) (a1 : Int) {r : (List ByteArray)} (hp : (PF.spec_l1Split a0 a1) = some r) :
    Calls Tryz.prog 304 #[Value.string a0, Value.int .u8 a1] wa (p_spec_l1Split Ha wa r) := by
  unfold PF.spec_l1Split at hp
  have S0 := St.init hs
  refine calls_go (N := 35) (args := [Value.string a0, Value.int .u8 a1]) Tryz.func304 rfl rfl rfl ?_
  refine FW.seq (FW.region ?_)
  refine FL.v (E.assign (v := Value.slice none 0 0) rfl) ?_
  refine FL.nil (FW.seq (FW.region ?_))
  obtain ⟨v21, w22, run23, S24⟩ := S0.buildSlice (P := Tryz.prog) te171 [] (parts := #[]) (cells := []) rfl szs_nil fc_nil ones_nil (Nat.le_of_ble_eq_true rfl)
  have els25 : Els (up wa.heap.size Ha) eS 1 [] [] := Els.nil
  refine FL.v (E.buildSlice (B0) run23) ?_
  refine FL.v (E.assign (v := v21) rfl) ?_
  refine FL.nil (FW.seq (FW.region ?_))
  refine FL.v (E.assign (v := Value.int .i64 0) rfl) ?_
  refine FL.nil (FW.seq (FW.seq (FW.region ?_)))
  refine FL.v (E.assign (v := Value.int .i64 0) rfl) ?_
  refine FL.nil ?_
  obtain ⟨m26, hchk27, hp⟩ := bnd hp
  obtain ⟨q27, hq, hp⟩ := bndR hp
  refine FW.block ?_
  refine FW.mono (FW.forR (S := ((List ByteArray) × Int)) (X := Empty) (fun (i27 : Nat) (s27 : ((List ByteArray) × Int)) f w => ∃ H : GH, ∃ v28 : Value, ∃ n29 : Nat, ∃ cs30 : List Value, St Ha wa H w [.row 9 1 v28 n29 cs30] ∧ Inc Ha H ∧ Els (up wa.heap.size H) eS 1 cs30 s27.1 ∧ f 7 = Value.int .i64 ((i27 : Nat) : Int) ∧ f 0 = Value.string a0 ∧ f 1 = Value.int .u8 a1 ∧ f 5 = v28 ∧ f 6 = Value.int .i64 s27.2) (fun (q : Rs ((List ByteArray) × Int) Empty) e f w => match q with | .go s27 => e = Exit.exit 0 ∧ (∃ H : GH, ∃ v28 : Value, ∃ n29 : Nat, ∃ cs30 : List Value, St Ha wa H w [.row 9 1 v28 n29 cs30] ∧ Inc Ha H ∧ Els (up wa.heap.size H) eS 1 cs30 s27.1 ∧ f 0 = Value.string a0 ∧ f 5 = v28 ∧ f 6 = Value.int .i64 s27.2) | .rt x => x.elim) hq ⟨_, _, _, _, S24, (Inc.rfl _), els25, rfl, rfl, rfl, rfl, rfl⟩ ?_ ?_) ?_
  ·
    clear hp hq
    rintro i27 s27 f67 w66 ⟨H63, v28, n29, cs30, S64, i65, els31, k68, k69, k70, k71, k72⟩ hi27 hj27 o94 hp
    refine FW.seq (FW.seq (FW.region ?_))
    refine FL.v (E.move k68) ?_
    refine FL.v (E.move k69) ?_
    refine FL.v (E.lenS Tryz.runUnderlying9 rfl) ?_
    refine FL.v (E.lssT rfl rfl (lss_chk hj27 hchk27)) ?_
    refine FL.nil ?_
    refine FW.condT rfl rfl ?_
    refine FW.skip (FW.seq (FW.block (FW.seq (FW.region ?_))))
    refine FL.v (E.move k69) ?_
    refine FL.v (E.move k68) ?_
    obtain ⟨z73, h74, hp⟩ := bnd hp
    refine FL.v (E.ixS Tryz.runUnderlying9 rfl rfl h74) ?_
    refine FL.v (E.move k70) ?_
    refine FL.v (E.eql rfl rfl) ?_
    refine FL.nil ?_
    rcases ifB hp with ⟨c75, hp⟩ | ⟨c75, hp⟩
    ·
      refine FW.condT rfl c75 ?_
      refine FW.seq (FW.region ?_)
      refine FL.v (E.move k71) ?_
      refine FL.v (E.move k69) ?_
      refine FL.v (E.move k72) ?_
      refine FL.v (E.move k68) ?_
      obtain ⟨z76, h77, hp⟩ := bnd hp
      refine FL.v (E.cutS (kl := .i64) (kh := .i64) Tryz.underlying9 rfl (.inr ⟨_, rfl, rfl⟩) (.inr ⟨_, rfl, rfl⟩) h77) ?_
      obtain ⟨v78, w79, run80, S81⟩ := S64.buildSlice (P := Tryz.prog) te171 [Value.string z76] (parts := #[(0, Value.string z76)]) (cells := [Value.string z76]) rfl (szs_cons rfl szs_nil) (fc_cons rfl fc_nil) (ones_cons rfl ones_nil) (Nat.le_of_ble_eq_true rfl)
      have els82 : Els (up wa.heap.size H63) eS 1 [Value.string z76] [z76] := (Els.snoc (H := (up wa.heap.size H63)) (E := eS) (k := 1) (c := [Value.string z76]) (x := z76) Els.nil rfl rfl)
      refine FL.v (E.buildSlice (B1 rfl) run80) ?_
      obtain ⟨xs83, hz84, hp⟩ := bnd hp
      obtain ⟨v85, w88, n86, cs87, run89, S90, els91, ce92⟩ := S81.appendO (P := Tryz.prog) te171 (i := 1) (j := 0) rfl els31 rfl els82 hz84
      have S90 : St Ha wa H63 w88 [.row 9 1 v78 1 [Value.string z76], .row 9 1 v85 n86 cs87] := S90
      have S93 : St Ha wa H63 w88 [.row 9 1 v85 n86 cs87] := S90.drop 0
      refine FL.v (E.append rfl rfl run89) ?_
      refine FL.v (E.assign (v := v85) rfl) ?_
      refine FL.nil (FW.region ?_)
      refine FL.v (E.move k68) ?_
      refine FL.v (E.add rfl rfl) ?_
      refine FL.v (E.assign (v := Value.int .i64 (wr (((i27 : Nat) : Int) + 1))) rfl) ?_
      refine FL.nil (FW.region ?_)
      refine FL.v (E.move k68) ?_
      refine FL.v (E.add rfl rfl) ?_
      refine FL.v (E.assign (v := Value.int .i64 (wr (((i27 : Nat) : Int) + 1))) rfl) ?_
      refine FL.nil ?_
      obtain rfl := Option.some.inj hp
      exact ⟨rfl, ⟨_, _, _, _, S93, i65, els91, (nat_succ rfl hj27 (chk_le hchk27)), k69, k70, rfl, rfl⟩⟩
    ·
      refine FW.condF rfl c75 ?_
      refine FW.skip (FW.region ?_)
      refine FL.v (E.move k68) ?_
      refine FL.v (E.add rfl rfl) ?_
      refine FL.v (E.assign (v := Value.int .i64 (wr (((i27 : Nat) : Int) + 1))) rfl) ?_
      refine FL.nil ?_
      obtain rfl := Option.some.inj hp
      exact ⟨rfl, ⟨_, _, _, _, S64, i65, els31, (nat_succ rfl hj27 (chk_le hchk27)), k69, k70, k71, k72⟩⟩
  ·
    clear hp hq
    rintro s27 f125 w124 ⟨H121, v28, n29, cs30, S122, i123, els31, k126, k127, k128, k129, k130⟩
    refine FW.seq (FW.seq (FW.region ?_))
    refine FL.v (E.move k126) ?_
    refine FL.v (E.move k127) ?_
    refine FL.v (E.lenS Tryz.runUnderlying9 rfl) ?_
    refine FL.v (E.lss rfl rfl) ?_
    refine FL.nil ?_
    refine FW.condF rfl (dlt_maxchk hchk27) ?_
    refine FW.exit ?_
    exact ⟨nofun, rfl, ⟨_, _, _, _, S122, i123, els31, k127, k129, k130⟩⟩
  ·
    clear hq
    intro e f99 w98 hD
    rcases q27 with s27 | x27
    ·
      obtain ⟨rfl, hD⟩ := hD
      obtain ⟨H95, v28, n29, cs30, S96, i97, els31, k100, k101, k102⟩ := hD
      replace hp := el_go hp
      refine FW.seq (FW.region ?_)
      refine FL.v (E.move k101) ?_
      refine FL.v (E.move k100) ?_
      refine FL.v (E.move k102) ?_
      obtain ⟨z103, h104, hp⟩ := bnd hp
      refine FL.v (E.cutS (kl := .i64) (kh := .i64) Tryz.underlying9 rfl (.inr ⟨_, rfl, rfl⟩) (.inl ⟨rfl, rfl⟩) h104) ?_
      obtain ⟨v105, w106, run107, S108⟩ := S96.buildSlice (P := Tryz.prog) te171 [Value.string z103] (parts := #[(0, Value.string z103)]) (cells := [Value.string z103]) rfl (szs_cons rfl szs_nil) (fc_cons rfl fc_nil) (ones_cons rfl ones_nil) (Nat.le_of_ble_eq_true rfl)
      have els109 : Els (up wa.heap.size H95) eS 1 [Value.string z103] [z103] := (Els.snoc (H := (up wa.heap.size H95)) (E := eS) (k := 1) (c := [Value.string z103]) (x := z103) Els.nil rfl rfl)
      refine FL.v (E.buildSlice (B1 rfl) run107) ?_
      obtain ⟨xs110, hz111, hp⟩ := bnd hp
      obtain ⟨v112, w115, n113, cs114, run116, S117, els118, ce119⟩ := S108.appendO (P := Tryz.prog) te171 (i := 1) (j := 0) rfl els31 rfl els109 hz111
      have S117 : St Ha wa H95 w115 [.row 9 1 v105 1 [Value.string z103], .row 9 1 v112 n113 cs114] := S117
      have S120 : St Ha wa H95 w115 [.row 9 1 v112 n113 cs114] := S117.drop 0
      refine FL.v (E.append rfl rfl run116) ?_
      refine FL.v (E.assign (v := v112) rfl) ?_
      refine FL.nil ?_
      refine FW.ret ?_
      obtain rfl := Option.some.inj hp
      exact ⟨.inr rfl, res1 rfl rfl ⟨_, _, _, _, rfl, S120, els118⟩⟩
    · exact x27.elim

theorem w_spec_l1In {Ha : GH} {wa : World} (hs : Sl Ha wa) (a0 : Int) (a1 : Int) (a2 : Int) :
  Calls Tryz.prog 82 #[Value.int .i64 a0, Value.int .i64 a1, Value.int .i64 a2] wa (Sc Ha wa (Value.bool (PF.spec_l1In a0 a1 a2))) := by
 obtain ⟨r, hp⟩ : ∃ r, (PF.spec_l1In a0 a1 a2) = r := ⟨_, rfl⟩
 rw [hp]
 unfold PF.spec_l1In at hp
 have S0 := St.init hs
 refine calls_go (N := 15) (args := [Value.int .i64 a0, Value.int .i64 a1, Value.int .i64 a2]) Tryz.func82 rfl rfl rfl ?_
 refine FW.seq (FW.region ?_)
 refine FL.v (E.assign (v := Value.bool false) rfl) ?_
 refine FL.nil (FW.seq (FW.region ?_))
 refine FL.v (E.move (v := Value.int .i64 a0) rfl) ?_
 refine FL.v (E.move (v := Value.int .i64 a1) rfl) ?_
 refine FL.v (E.geq rfl rfl) ?_
 refine FL.v (E.move (v := Value.bool (decide (a1 ≤ a0))) rfl) ?_
 refine FL.cut 4 (fun f w => ∃ H : GH, St Ha wa H w [] ∧ Inc Ha H ∧ f 14 = Value.bool (bif (decide (a1 ≤ a0)) then (decide (a0 ≤ a2)) else false)) ?_ ?_
 ·
  rcases bcase (decide (a1 ≤ a0)) with c27 | c27
  ·
   refine FL.val (wF_yes rfl rfl rfl c27) rfl rfl (E.move (v := Value.int .i64 a0) rfl) ?_
   refine FL.val (wF_yes rfl rfl rfl c27) rfl rfl (E.move (v := Value.int .i64 a2) rfl) ?_
   refine FL.val (wF_yes rfl rfl rfl c27) rfl rfl (E.leq rfl rfl) ?_
   refine FL.v (E.pickT rfl c27 rfl) ?_
   exact FL.nil ⟨rfl, _, S0, (Inc.rfl _), (congrArg Value.bool (bifT c27).symm)⟩
  ·
   refine FL.skip (wF_no rfl rfl rfl c27) rfl ?_
   refine FL.skip (wF_no rfl rfl rfl c27) rfl ?_
   refine FL.skip (wF_no rfl rfl rfl c27) rfl ?_
   refine FL.v (E.pickF rfl c27 rfl) ?_
   exact FL.nil ⟨rfl, _, S0, (Inc.rfl _), (congrArg Value.bool (bifF c27).symm)⟩
 rintro f26 w25 ⟨H22, S23, i24, k28⟩
 refine FL.v (E.assign k28) ?_
 refine FL.nil ?_
 refine FW.ret ?_
 obtain rfl := hp
 exact ⟨.inr rfl, res1 rfl rfl ⟨rfl, S23.back⟩⟩

set_option maxHeartbeats 2000000 in
theorem wn332 : ∀ (m : Nat) (n : Int) {Ha : GH} {wa : World}, Sl Ha wa → 2 * n.natAbs + (if n < 0 then 1 else 0) < m → -9223372036854775808 < n → n ≤ 9223372036854775807 → Calls Tryz.prog 332 #[Value.int .i64 n] wa (Sc Ha wa (Value.string (itoaS n))) := by
  intro m
  induction m with
  | zero => intro n Ha wa hs hm; omega
  | succ m ih =>
  intro n Ha wa hs hm h0 h1
  have S0 := St.init hs
  have hsz := itoaS_size n (by omega) h1
  refine calls_go (N := 25) (args := [Value.int .i64 n]) Tryz.func332 rfl rfl rfl ?_
  refine FW.seq (FW.region ?_)
  refine FL.v (E.assign (v := Value.string ByteArray.empty) rfl) ?_
  refine FL.nil (FW.seq (FW.seq (FW.region ?_)))
  refine FL.v (E.move (v := Value.int .i64 n) rfl) ?_
  refine FL.v (E.lss rfl rfl) ?_
  refine FL.nil ?_
  by_cases hn : n < 0
  · refine FW.condT rfl (decide_eq_true hn) ?_
    refine FW.seq (FW.region ?_)
    refine FL.v (E.move (v := Value.int .i64 n) rfl) ?_
    refine FL.v (E.neg rfl) ?_
    have e1 : wr (-n) = -n := wr_of _ (by omega) (by omega)
    refine FL.call rfl rfl rfl (E.call Tryz.call332 (A1 rfl)) (ih (wr (-n)) S0.sl (by rw [e1, if_neg (by omega)]; rw [if_pos hn] at hm; omega) (by rw [e1]; omega) (by rw [e1]; omega)) ?_
    rintro e w2 ⟨rfl, r2⟩
    refine ⟨_, rfl, ?_⟩
    have S2 := S0.call r2
    have hc : catS (ByteArray.mk #[45]) (itoaS (wr (-n))) = some (itoaS n) := by
      rw [e1, itoaS_neg hn]
      unfold catS
      rw [if_pos]
      have := itoaS_size (-n) (by omega) (by omega)
      show 1 + _ ≤ _
      omega
    refine FL.v (E.addT rfl rfl hc) ?_
    refine FL.v (E.assign (v := Value.string (itoaS n)) rfl) ?_
    refine FL.nil ?_
    refine FW.ret ?_
    exact ⟨.inr rfl, res1 rfl rfl ⟨rfl, S2.back⟩⟩
  · refine FW.condF rfl (decide_eq_false hn) ?_
    refine FW.skip (FW.seq (FW.seq (FW.region ?_)))
    refine FL.v (E.move (v := Value.int .i64 n) rfl) ?_
    refine FL.v (E.lss rfl rfl) ?_
    refine FL.nil ?_
    by_cases h10 : n < 10
    · refine FW.condT rfl (decide_eq_true h10) ?_
      have e1 : wr (n + 1) = n + 1 := wr_of _ (by omega) (by omega)
      refine FW.seq (FW.region ?_)
      refine FL.v (E.move (v := Value.int .i64 n) rfl) ?_
      refine FL.v (E.move (v := Value.int .i64 n) rfl) ?_
      refine FL.v (E.add rfl rfl) ?_
      refine FL.v (E.sliceS (s := ByteArray.mk #[48, 49, 50, 51, 52, 53, 54, 55, 56, 57]) (a := n) (b := wr (n + 1)) Tryz.underlying9 rfl rfl rfl (by omega) (by rw [e1]; omega) (by rw [e1]; show _ ≤ (10 : Int); omega)) ?_
      refine FL.v (E.assign (v := Value.string ((ByteArray.mk #[48, 49, 50, 51, 52, 53, 54, 55, 56, 57]).extract n.toNat (wr (n + 1)).toNat)) rfl) ?_
      refine FL.nil ?_
      refine FW.ret ?_
      have e2 : (ByteArray.mk #[48, 49, 50, 51, 52, 53, 54, 55, 56, 57]).extract n.toNat (wr (n + 1)).toNat = itoaS n := by rw [e1, digit_of (by omega) h10, itoaS_one (by omega) h10]
      exact ⟨.inr rfl, res1 rfl (congrArg Value.string e2) ⟨rfl, S0.back⟩⟩
    · refine FW.condF rfl (decide_eq_false h10) ?_
      have hq : (n.tdiv 10).natAbs < n.natAbs ∧ 0 ≤ n.tdiv 10 ∧ 0 ≤ n.tmod 10 ∧ n.tmod 10 < 10 := by
        obtain ⟨k, rfl⟩ := Int.eq_ofNat_of_zero_le (show 0 ≤ n by omega)
        have e1 : ((k : Nat) : Int).tdiv 10 = ((k / 10 : Nat) : Int) := rfl
        have e2 : ((k : Nat) : Int).tmod 10 = ((k % 10 : Nat) : Int) := rfl
        rw [e1, e2]; omega
      obtain ⟨q1, q2, q3, q4⟩ := hq
      have e1 : wr (n.tdiv 10) = n.tdiv 10 := wr_of _ (by omega) (by omega)
      have e3 : wr (n.tmod 10 + 1) = n.tmod 10 + 1 := wr_of _ (by omega) (by omega)
      refine FW.skip (FW.seq ?_)
      refine FW.draw (fun w' => Run wa.heap.size Ha wa Ha w') (by kernel_rfl) (by kernel_rfl) (run_drew S0.sl) ?_
      refine FD.val rfl rfl rfl (fun w' hw' => (E.move (v := Value.int .i64 n) rfl)) ?_
      refine FD.val rfl rfl rfl (fun w' hw' => (E.quo rfl rfl (by decide))) ?_
      refine FD.call rfl rfl rfl (fun w' hw' => (E.call Tryz.call332 (A1 rfl))) (fun w' hw' => Calls.cls hw' (ih (wr (n.tdiv 10)) (S0.call hw').sl (by rw [e1, if_neg (by omega)]; rw [if_neg hn] at hm; omega) (by rw [e1]; omega) (by rw [e1]; omega))) ?_
      refine FD.val rfl rfl rfl (fun w' hw' => (E.move (v := Value.int .i64 n) rfl)) ?_
      refine FD.val rfl rfl rfl (fun w' hw' => (E.rem rfl rfl (by decide))) ?_
      refine FD.val rfl rfl rfl (fun w' hw' => (E.move (v := Value.int .i64 n) rfl)) ?_
      refine FD.val rfl rfl rfl (fun w' hw' => (E.rem rfl rfl (by decide))) ?_
      refine FD.val rfl rfl rfl (fun w' hw' => (E.add rfl rfl)) ?_
      refine FD.val rfl rfl rfl (fun w' hw' => (E.sliceS (s := ByteArray.mk #[48, 49, 50, 51, 52, 53, 54, 55, 56, 57]) (a := n.tmod 10) (b := wr (n.tmod 10 + 1)) Tryz.underlying9 rfl rfl rfl (by omega) (by rw [e3]; omega) (by rw [e3]; show _ ≤ (10 : Int); omega))) ?_
      have hc : catS (itoaS (wr (n.tdiv 10))) ((ByteArray.mk #[48, 49, 50, 51, 52, 53, 54, 55, 56, 57]).extract (n.tmod 10).toNat (wr (n.tmod 10 + 1)).toNat) = some (itoaS n) := by
        rw [e1, e3, digit_of q3 q4, itoaS_more (n := n) (by omega)]
        unfold catS
        rw [if_pos]
        have h5 := itoaS_size (n.tdiv 10) (by omega) (by omega)
        show (itoaS (n.tdiv 10)).size + 1 ≤ _
        omega
      refine FD.val rfl rfl rfl (fun w' hw' => (E.addT rfl rfl hc)) ?_
      refine FD.val rfl rfl rfl (fun w' hw' => (E.assign (v := Value.string (itoaS n)) rfl)) ?_
      refine FD.nil ?_
      intro w4 r4
      have S4 := S0.call r4
      refine FW.ret ?_
      exact ⟨.inr rfl, res1 rfl rfl ⟨rfl, S4.back⟩⟩
theorem w_spec_l1Num {Ha : GH} {wa : World} (hs : Sl Ha wa) (a0 : Int) {r : ByteArray} (hp : (PF.spec_l1Num a0) = some r) : Calls Tryz.prog 332 #[Value.int .i64 a0] wa (Sc Ha wa (Value.string r)) := by
  unfold PF.spec_l1Num numT at hp
  split at hp
  · rename_i h; cases hp
    exact wn332 _ a0 hs (Nat.lt_succ_self _) h.1 h.2
  · cases hp

set_option maxHeartbeats 4000000 in
theorem w_spec_l1Read {Ha : GH} {wa : World} (hs : Sl Ha wa) (a0 : ByteArray) {r : (Int × Bool)} (hp : (PF.spec_l1Read a0) = some r) :
  Calls Tryz.prog 305 #[Value.string a0] wa (Sc Ha wa (Value.tuple #[Value.int .i64 r.1, Value.bool r.2])) := by
 unfold PF.spec_l1Read at hp
 have S0 := St.init hs
 refine calls_go (N := 58) (args := [Value.string a0]) Tryz.func305 rfl rfl rfl ?_
 refine FW.seq (FW.region ?_)
 refine FL.v (E.assign (v := Value.int .i64 0) rfl) ?_
 refine FL.v (E.assign (v := Value.bool false) rfl) ?_
 refine FL.nil (FW.seq (FW.region ?_))
 refine FL.v (E.move (v := Value.string a0) rfl) ?_
 refine FL.v (E.assign (v := Value.string a0) rfl) ?_
 refine FL.nil (FW.seq (FW.seq (FW.region ?_)))
 refine FL.v (E.move (v := Value.string a0) rfl) ?_
 refine FL.v (E.lenS Tryz.runUnderlying9 rfl) ?_
 refine FL.v (E.gtr rfl rfl) ?_
 refine FL.v (E.move (v := Value.bool (decide (1 < (a0.size : Int)))) rfl) ?_
 obtain ⟨t23, hqt23, hp⟩ := bnd hp
 refine FL.cut 4 (fun f w => ∃ H : GH, St Ha wa H w [] ∧ Inc Ha H ∧ f 0 = Value.string a0 ∧ f 4 = Value.string a0 ∧ f 15 = Value.bool t23) ?_ ?_
 ·
  clear hp; have hp := hqt23; clear hqt23
  rcases ifB hp with ⟨c29, hp⟩ | ⟨c29, hp⟩
  ·
   refine FL.val (wF_yes rfl rfl rfl c29) rfl rfl (E.move (v := Value.string a0) rfl) ?_
   obtain ⟨z30, h31, hp⟩ := bnd hp
   refine FL.val (wF_yes rfl rfl rfl c29) rfl rfl (E.ixS Tryz.runUnderlying9 rfl rfl h31) ?_
   refine FL.val (wF_yes rfl rfl rfl c29) rfl rfl (E.eql rfl rfl) ?_
   obtain rfl := Option.some.inj hp
   refine FL.v (E.pickT rfl c29 rfl) ?_
   exact FL.nil ⟨rfl, _, S0, (Inc.rfl _), rfl, rfl, rfl⟩
  ·
   refine FL.skip (wF_no rfl rfl rfl c29) rfl ?_
   refine FL.skip (wF_no rfl rfl rfl c29) rfl ?_
   refine FL.skip (wF_no rfl rfl rfl c29) rfl ?_
   obtain rfl := Option.some.inj hp
   refine FL.v (E.pickF rfl c29 rfl) ?_
   exact FL.nil ⟨rfl, _, S0, (Inc.rfl _), rfl, rfl, rfl⟩
 rintro f28 w27 ⟨H24, S25, i26, k32, k33, k34⟩
 refine FL.nil ?_
 obtain ⟨q39, hq, hp⟩ := bndR hp
 refine FW.joinE (S := ByteArray) (X := Empty) (q := q39) (fun s38 f w => ∃ H : GH, St Ha wa H w [] ∧ Inc H24 H ∧ f 0 = Value.string a0 ∧ f 4 = Value.string s38) (fun (_ : Empty) _ _ _ => False) ?_ ?_ ?_
 ·
  clear hp; have hp := hq; clear hq
  rcases ifB hp with ⟨c41, hp⟩ | ⟨c41, hp⟩
  ·
   refine FW.condT k34 c41 ?_
   refine FW.region ?_
   refine FL.v (E.move k33) ?_
   obtain ⟨z42, h43, hp⟩ := bnd hp
   refine FL.v (E.cutS (kl := .i64) (kh := .i64) Tryz.underlying9 rfl (.inr ⟨_, rfl, rfl⟩) (.inl ⟨rfl, rfl⟩) h43) ?_
   refine FL.v (E.assign (v := Value.string z42) rfl) ?_
   refine FL.nil ?_
   obtain rfl := Option.some.inj hp
   exact ⟨rfl, ⟨_, S25, (Inc.rfl _), k32, rfl⟩⟩
  ·
   refine FW.condF k34 c41 ?_
   refine FW.skip ?_
   obtain rfl := Option.some.inj hp
   exact ⟨rfl, ⟨_, S25, (Inc.rfl _), k32, k33⟩⟩
 ·
  rintro s38 rfl f48 w47 ⟨H44, S45, i46, k49, k50⟩
  replace hp := el_go hp
  refine FW.seq (FW.seq (FW.region ?_))
  refine FL.v (E.move k50) ?_
  refine FL.v (E.lenS Tryz.runUnderlying9 rfl) ?_
  refine FL.call rfl rfl rfl (E.call Tryz.call82 (A3 rfl rfl rfl)) (w_spec_l1In S45.sl (s38.size : Int) 1 6) ?_
  rintro e w51 ⟨rfl, r52⟩
  refine ⟨_, rfl, ?_⟩
  have S53 := S45.call r52
  refine FL.v (E.not rfl) ?_
  refine FL.nil ?_
  rcases ifB hp with ⟨c54, hp⟩ | ⟨c54, hp⟩
  ·
   refine FW.condT rfl c54 ?_
   refine FW.seq (FW.region ?_)
   refine FL.v (E.assign (v := Value.int .i64 0) rfl) ?_
   refine FL.v (E.assign (v := Value.bool false) rfl) ?_
   refine FL.nil ?_
   refine FW.ret ?_
   obtain rfl := Option.some.inj hp
   exact ⟨.inr rfl, res2 rfl rfl rfl ⟨rfl, S53.back⟩⟩
  ·
   refine FW.condF rfl c54 ?_
   refine FW.skip (FW.seq (FW.region ?_))
   refine FL.v (E.assign (v := Value.int .i64 0) rfl) ?_
   refine FL.nil (FW.seq (FW.seq (FW.region ?_)))
   refine FL.v (E.assign (v := Value.int .i64 0) rfl) ?_
   refine FL.nil ?_
   obtain ⟨m55, hchk56, hp⟩ := bnd hp
   obtain ⟨q56, hq, hp⟩ := bndR hp
   refine FW.block ?_
   refine FW.mono (FW.forR (S := Int) (X := (Int × Bool)) (fun (i56 : Nat) (s56 : Int) f w => ∃ H : GH, St Ha wa H w [] ∧ Inc H44 H ∧ f 6 = Value.int .i64 ((i56 : Nat) : Int) ∧ f 0 = Value.string a0 ∧ f 4 = Value.string s38 ∧ f 5 = Value.int .i64 s56) (fun q e f w => match q with | .go s56 => e = Exit.exit 0 ∧ (∃ H : GH, St Ha wa H w [] ∧ Inc H44 H ∧ f 0 = Value.string a0 ∧ f 4 = Value.string s38 ∧ f 5 = Value.int .i64 s56) | .rt x => ((e = Exit.ret) ∧ (fun e f w => (e = Exit.normal ∨ e = Exit.ret) ∧ ∀ a, Fr (δ := []) 58 a f → ∃ v, (results Tryz.f305 a.tmps).run Tryz.prog w = .ok v w ∧ (Sc Ha wa (Value.tuple #[Value.int .i64 x.1, Value.bool x.2])) (.returned v) w) e f w)) hq ⟨_, S53, (Inc.rfl _), rfl, k49, k50, rfl⟩ ?_ ?_) ?_
   ·
    clear hp hq
    rintro i56 s56 f91 w90 ⟨H87, S88, i89, k92, k93, k94, k95⟩ hi56 hj56 o117 hp
    refine FW.seq (FW.seq (FW.region ?_))
    refine FL.v (E.move k92) ?_
    refine FL.v (E.move k94) ?_
    refine FL.v (E.lenS Tryz.runUnderlying9 rfl) ?_
    refine FL.v (E.lssT rfl rfl (lss_chk hj56 hchk56)) ?_
    refine FL.nil ?_
    refine FW.condT rfl rfl ?_
    refine FW.skip (FW.seq (FW.block (FW.seq (FW.seq (FW.region ?_)))))
    refine FL.v (E.move k94) ?_
    refine FL.v (E.move k92) ?_
    obtain ⟨z96, h97, hp⟩ := bnd hp
    refine FL.v (E.ixS Tryz.runUnderlying9 rfl rfl h97) ?_
    refine FL.v (E.lss rfl rfl) ?_
    refine FL.v (E.move (v := Value.bool (decide (z96 < 48))) rfl) ?_
    obtain ⟨t100, hqt100, hp⟩ := bnd hp
    refine FL.cut 5 (fun f w => ∃ H : GH, St Ha wa H w [] ∧ Inc H87 H ∧ f 0 = Value.string a0 ∧ f 4 = Value.string s38 ∧ f 5 = Value.int .i64 s56 ∧ f 6 = Value.int .i64 ((i56 : Nat) : Int) ∧ f 37 = Value.bool t100) ?_ ?_
    ·
     clear hp; have hp := hqt100; clear hqt100
     rcases ifB hp with ⟨c106, hp⟩ | ⟨c106, hp⟩
     ·
      refine FL.skip (wF_no rfl rfl rfl c106) rfl ?_
      refine FL.skip (wF_no rfl rfl rfl c106) rfl ?_
      refine FL.skip (wF_no rfl rfl rfl c106) rfl ?_
      refine FL.skip (wF_no rfl rfl rfl c106) rfl ?_
      obtain rfl := Option.some.inj hp
      refine FL.v (E.pickT rfl c106 rfl) ?_
      exact FL.nil ⟨rfl, _, S88, (Inc.rfl _), k93, k94, k95, k92, rfl⟩
     ·
      refine FL.val (wF_yes rfl rfl rfl c106) rfl rfl (E.move k94) ?_
      refine FL.val (wF_yes rfl rfl rfl c106) rfl rfl (E.move k92) ?_
      obtain ⟨z107, h108, hp⟩ := bnd hp
      refine FL.val (wF_yes rfl rfl rfl c106) rfl rfl (E.ixS Tryz.runUnderlying9 rfl rfl h108) ?_
      refine FL.val (wF_yes rfl rfl rfl c106) rfl rfl (E.gtr rfl rfl) ?_
      obtain rfl := Option.some.inj hp
      refine FL.v (E.pickF rfl c106 rfl) ?_
      exact FL.nil ⟨rfl, _, S88, (Inc.rfl _), k93, k94, k95, k92, rfl⟩
    rintro f105 w104 ⟨H101, S102, i103, k109, k110, k111, k112, k113⟩
    refine FL.nil ?_
    rcases ifB hp with ⟨c114, hp⟩ | ⟨c114, hp⟩
    ·
     refine FW.condT k113 c114 ?_
     refine FW.seq (FW.region ?_)
     refine FL.v (E.assign (v := Value.int .i64 0) rfl) ?_
     refine FL.v (E.assign (v := Value.bool false) rfl) ?_
     refine FL.nil ?_
     refine FW.ret ?_
     obtain rfl := Option.some.inj hp
     exact ⟨nofun, rfl, ⟨.inr rfl, res2 rfl rfl rfl ⟨rfl, S102.back⟩⟩⟩
    ·
     refine FW.condF k113 c114 ?_
     refine FW.skip (FW.region ?_)
     refine FL.v (E.move k111) ?_
     refine FL.v (E.mul rfl rfl) ?_
     refine FL.v (E.move k110) ?_
     refine FL.v (E.move k112) ?_
     obtain ⟨z115, h116, hp⟩ := bnd hp
     refine FL.v (E.ixS Tryz.runUnderlying9 rfl rfl h116) ?_
     refine FL.v (E.subK rfl rfl) ?_
     refine FL.v (E.conv Tryz.runUnderlying5 Tryz.runUnderlying3 rfl) ?_
     refine FL.v (E.add rfl rfl) ?_
     refine FL.v (E.assign (v := Value.int .i64 (wr ((wr (10 * s56)) + (wrk true 64 (wrk false 8 (z115 - 48)))))) rfl) ?_
     refine FL.nil (FW.region ?_)
     refine FL.v (E.move k112) ?_
     refine FL.v (E.add rfl rfl) ?_
     refine FL.v (E.assign (v := Value.int .i64 (wr (((i56 : Nat) : Int) + 1))) rfl) ?_
     refine FL.nil ?_
     obtain rfl := Option.some.inj hp
     exact ⟨rfl, ⟨_, S102, (i89.tr i103), (nat_succ rfl hj56 (chk_le hchk56)), k109, k110, rfl⟩⟩
   ·
    clear hp hq
    rintro s56 f148 w147 ⟨H144, S145, i146, k149, k150, k151, k152⟩
    refine FW.seq (FW.seq (FW.region ?_))
    refine FL.v (E.move k149) ?_
    refine FL.v (E.move k151) ?_
    refine FL.v (E.lenS Tryz.runUnderlying9 rfl) ?_
    refine FL.v (E.lss rfl rfl) ?_
    refine FL.nil ?_
    refine FW.condF rfl (dlt_maxchk hchk56) ?_
    refine FW.exit ?_
    exact ⟨nofun, rfl, ⟨_, S145, i146, k150, k151, k152⟩⟩
   ·
    clear hq
    intro e f122 w121 hD
    rcases q56 with s56 | x56
    ·
     obtain ⟨rfl, hD⟩ := hD
     obtain ⟨H118, S119, i120, k123, k124, k125⟩ := hD
     replace hp := el_go hp
     refine FW.seq (FW.seq (FW.region ?_))
     refine FL.v (E.move k124) ?_
     refine FL.v (E.lenS Tryz.runUnderlying9 rfl) ?_
     refine FL.v (E.move k123) ?_
     refine FL.v (E.lenS Tryz.runUnderlying9 rfl) ?_
     refine FL.v (E.lss rfl rfl) ?_
     refine FL.nil ?_
     obtain ⟨q128, hq, hp⟩ := bndR hp
     refine FW.joinE (S := Int) (X := Empty) (q := q128) (fun s127 f w => ∃ H : GH, St Ha wa H w [] ∧ Inc H118 H ∧ f 0 = Value.string a0 ∧ f 5 = Value.int .i64 s127) (fun (_ : Empty) _ _ _ => False) ?_ ?_ ?_
     ·
      clear hp; have hp := hq; clear hq
      rcases ifB hp with ⟨c130, hp⟩ | ⟨c130, hp⟩
      ·
       refine FW.condT rfl c130 ?_
       refine FW.region ?_
       refine FL.v (E.move k125) ?_
       refine FL.v (E.neg rfl) ?_
       refine FL.v (E.assign (v := Value.int .i64 (wr (-s56))) rfl) ?_
       refine FL.nil ?_
       obtain rfl := Option.some.inj hp
       exact ⟨rfl, ⟨_, S119, (Inc.rfl _), k123, rfl⟩⟩
      ·
       refine FW.condF rfl c130 ?_
       refine FW.skip ?_
       obtain rfl := Option.some.inj hp
       exact ⟨rfl, ⟨_, S119, (Inc.rfl _), k123, k125⟩⟩
     ·
      rintro s127 rfl f135 w134 ⟨H131, S132, i133, k136, k137⟩
      replace hp := el_go hp
      refine FW.seq (FW.seq (FW.region ?_))
      refine FL.v (E.move k137) ?_
      obtain ⟨r138, hr139, hp⟩ := bnd hp
      refine FL.call rfl rfl rfl (E.call Tryz.call332 (A1 rfl)) (w_spec_l1Num S132.sl s127 hr139) ?_
      rintro e w140 ⟨rfl, r141⟩
      refine ⟨_, rfl, ?_⟩
      have S142 := S132.call r141
      refine FL.v (E.move k136) ?_
      refine FL.v (E.neqS rfl rfl) ?_
      refine FL.nil ?_
      rcases ifB hp with ⟨c143, hp⟩ | ⟨c143, hp⟩
      ·
       refine FW.condT rfl c143 ?_
       refine FW.seq (FW.region ?_)
       refine FL.v (E.assign (v := Value.int .i64 0) rfl) ?_
       refine FL.v (E.assign (v := Value.bool false) rfl) ?_
       refine FL.nil ?_
       refine FW.ret ?_
       obtain rfl := Option.some.inj hp
       exact ⟨.inr rfl, res2 rfl rfl rfl ⟨rfl, S142.back⟩⟩
      ·
       refine FW.condF rfl c143 ?_
       refine FW.skip (FW.seq (FW.region ?_))
       refine FL.v (E.move k137) ?_
       refine FL.v (E.assign (v := Value.int .i64 s127) rfl) ?_
       refine FL.v (E.assign (v := Value.bool true) rfl) ?_
       refine FL.nil ?_
       refine FW.ret ?_
       obtain rfl := Option.some.inj hp
       exact ⟨.inr rfl, res2 rfl rfl rfl ⟨rfl, S142.back⟩⟩
     ·
      intro x129; exact x129.elim
    ·
     obtain ⟨he, hL⟩ := hD
     replace hp := el_rt hp
     obtain rfl := Option.some.inj hp
     subst he
     exact hL
 ·
  intro x40; exact x40.elim

theorem w_spec_l2Vars {Ha : GH} {wa : World} (hs : Sl Ha wa) (a0 : Int) :
  Calls Tryz.prog 179 #[Value.int .i64 a0] wa (Sc Ha wa (Value.bool (PF.spec_l2Vars a0))) := by
 obtain ⟨r, hp⟩ : ∃ r, (PF.spec_l2Vars a0) = r := ⟨_, rfl⟩
 rw [hp]
 unfold PF.spec_l2Vars at hp
 have S0 := St.init hs
 refine calls_go (N := 5) (args := [Value.int .i64 a0]) Tryz.func179 rfl rfl rfl ?_
 refine FW.seq (FW.region ?_)
 refine FL.v (E.assign (v := Value.bool false) rfl) ?_
 refine FL.nil (FW.seq (FW.region ?_))
 refine FL.v (E.move (v := Value.int .i64 a0) rfl) ?_
 refine FL.call rfl rfl rfl (E.call Tryz.call82 (A3 rfl rfl rfl)) (w_spec_l1In S0.sl a0 0 12) ?_
 rintro e w21 ⟨rfl, r22⟩
 refine ⟨_, rfl, ?_⟩
 have S23 := S0.call r22
 refine FL.v (E.assign (v := Value.bool (PF.spec_l1In a0 0 12)) rfl) ?_
 refine FL.nil ?_
 refine FW.ret ?_
 obtain rfl := hp
 exact ⟨.inr rfl, res1 rfl rfl ⟨rfl, S23.back⟩⟩

theorem w_spec_l2Lit {Ha : GH} {wa : World} (hs : Sl Ha wa) (a0 : Int) (a1 : Int) :
  Calls Tryz.prog 272 #[Value.int .i64 a0, Value.int .i64 a1] wa (Sc Ha wa (Value.bool (PF.spec_l2Lit a0 a1))) := by
 obtain ⟨r, hp⟩ : ∃ r, (PF.spec_l2Lit a0 a1) = r := ⟨_, rfl⟩
 rw [hp]
 unfold PF.spec_l2Lit at hp
 have S0 := St.init hs
 refine calls_go (N := 14) (args := [Value.int .i64 a0, Value.int .i64 a1]) Tryz.func272 rfl rfl rfl ?_
 refine FW.seq (FW.region ?_)
 refine FL.v (E.assign (v := Value.bool false) rfl) ?_
 refine FL.nil (FW.seq (FW.region ?_))
 refine FL.v (E.move (v := Value.int .i64 a1) rfl) ?_
 refine FL.v (E.move (v := Value.int .i64 a0) rfl) ?_
 refine FL.v (E.neg rfl) ?_
 refine FL.v (E.move (v := Value.int .i64 a0) rfl) ?_
 refine FL.call rfl rfl rfl (E.call Tryz.call82 (A3 rfl rfl rfl)) (w_spec_l1In S0.sl a1 (wr (-a0)) a0) ?_
 rintro e w21 ⟨rfl, r22⟩
 refine ⟨_, rfl, ?_⟩
 have S23 := S0.call r22
 refine FL.v (E.move (v := Value.bool (PF.spec_l1In a1 (wr (-a0)) a0)) rfl) ?_
 refine FL.cut 3 (fun f w => ∃ H : GH, St Ha wa H w [] ∧ Inc Ha H ∧ f 13 = Value.bool (bif (PF.spec_l1In a1 (wr (-a0)) a0) then (!(a1 == 0)) else false)) ?_ ?_
 ·
  rcases bcase (PF.spec_l1In a1 (wr (-a0)) a0) with c30 | c30
  ·
   refine FL.val (wF_yes rfl rfl rfl c30) rfl rfl (E.move (v := Value.int .i64 a1) rfl) ?_
   refine FL.val (wF_yes rfl rfl rfl c30) rfl rfl (E.neq rfl rfl) ?_
   refine FL.v (E.pickT rfl c30 rfl) ?_
   exact FL.nil ⟨rfl, _, S23, (Inc.rfl _), (congrArg Value.bool (bifT c30).symm)⟩
  ·
   refine FL.skip (wF_no rfl rfl rfl c30) rfl ?_
   refine FL.skip (wF_no rfl rfl rfl c30) rfl ?_
   refine FL.v (E.pickF rfl c30 rfl) ?_
   exact FL.nil ⟨rfl, _, S23, (Inc.rfl _), (congrArg Value.bool (bifF c30).symm)⟩
 rintro f29 w28 ⟨H25, S26, i27, k31⟩
 refine FL.v (E.assign k31) ?_
 refine FL.nil ?_
 refine FW.ret ?_
 obtain rfl := hp
 exact ⟨.inr rfl, res1 rfl rfl ⟨rfl, S26.back⟩⟩

theorem w_spec_l2Var {Ha : GH} {wa : World} (hs : Sl Ha wa) (a0 : Int) :
  Calls Tryz.prog 243 #[Value.int .i64 a0] wa (Sc Ha wa (Value.int .i64 (PF.spec_l2Var a0))) := by
 obtain ⟨r, hp⟩ : ∃ r, (PF.spec_l2Var a0) = r := ⟨_, rfl⟩
 rw [hp]
 unfold PF.spec_l2Var at hp
 have S0 := St.init hs
 refine calls_go (N := 8) (args := [Value.int .i64 a0]) Tryz.func243 rfl rfl rfl ?_
 refine FW.seq (FW.region ?_)
 refine FL.v (E.assign (v := Value.int .i64 0) rfl) ?_
 refine FL.nil (FW.seq (FW.seq (FW.region ?_)))
 refine FL.v (E.move (v := Value.int .i64 a0) rfl) ?_
 refine FL.v (E.lss rfl rfl) ?_
 refine FL.nil ?_
 rcases ifT hp with ⟨c21, hp⟩ | ⟨c21, hp⟩
 ·
  refine FW.condT rfl c21 ?_
  refine FW.seq (FW.region ?_)
  refine FL.v (E.move (v := Value.int .i64 a0) rfl) ?_
  refine FL.v (E.neg rfl) ?_
  refine FL.v (E.assign (v := Value.int .i64 (wr (-a0))) rfl) ?_
  refine FL.nil ?_
  refine FW.ret ?_
  obtain rfl := hp
  exact ⟨.inr rfl, res1 rfl rfl ⟨rfl, S0.back⟩⟩
 ·
  refine FW.condF rfl c21 ?_
  refine FW.skip (FW.seq (FW.region ?_))
  refine FL.v (E.move (v := Value.int .i64 a0) rfl) ?_
  refine FL.v (E.assign (v := Value.int .i64 a0) rfl) ?_
  refine FL.nil ?_
  refine FW.ret ?_
  obtain rfl := hp
  exact ⟨.inr rfl, res1 rfl rfl ⟨rfl, S0.back⟩⟩

theorem w_spec_l2Clause {Ha : GH} {wa : World} (hs : Sl Ha wa) (a0 : Int) (v1 : Value) (a1 : List Int) (p1 : RSl Ha eI 1 v1 a1) {r : Bool} (hp : (PF.spec_l2Clause a0 a1) = some r) :
  Calls Tryz.prog 180 #[Value.int .i64 a0, v1] wa (Sc Ha wa (Value.bool r)) := by
 unfold PF.spec_l2Clause at hp
 have S0 := St.init hs
 refine calls_go (N := 40) (args := [Value.int .i64 a0, v1]) Tryz.func180 rfl rfl rfl ?_
 refine FW.seq (FW.region ?_)
 refine FL.v (E.assign (v := Value.bool false) rfl) ?_
 refine FL.nil (FW.seq (FW.seq (FW.region ?_)))
 refine FL.v (E.move (v := Value.int .i64 a0) rfl) ?_
 refine FL.call rfl rfl rfl (E.call Tryz.call179 (A1 rfl)) (w_spec_l2Vars S0.sl a0) ?_
 rintro e w21 ⟨rfl, r22⟩
 refine ⟨_, rfl, ?_⟩
 have S23 := S0.call r22
 refine FL.v (E.not rfl) ?_
 refine FL.nil ?_
 rcases ifB hp with ⟨c24, hp⟩ | ⟨c24, hp⟩
 ·
  refine FW.condT rfl c24 ?_
  refine FW.seq (FW.region ?_)
  refine FL.v (E.assign (v := Value.bool false) rfl) ?_
  refine FL.nil ?_
  refine FW.ret ?_
  obtain rfl := Option.some.inj hp
  exact ⟨.inr rfl, res1 rfl rfl ⟨rfl, S23.back⟩⟩
 ·
  refine FW.condF rfl c24 ?_
  refine FW.skip (FW.seq (FW.seq (FW.region ?_)))
  refine FL.v (E.assign (v := Value.int .i64 0) rfl) ?_
  refine FL.nil ?_
  obtain ⟨q26, hq, hp⟩ := bndR hp
  refine FW.block ?_
  refine FW.mono (FW.forL (S := Unit) (X := Bool) (fun (i26 : Nat) (s26 : Unit) f w => ∃ H : GH, St Ha wa H w [] ∧ Inc Ha H ∧ f 5 = Value.int .i64 ((i26 : Nat) : Int) ∧ f 0 = Value.int .i64 a0 ∧ f 1 = v1) (fun q e f w => match q with | .go s26 => e = Exit.exit 0 ∧ (∃ H : GH, St Ha wa H w [] ∧ Inc Ha H) | .rt x => ((e = Exit.ret) ∧ (fun e f w => (e = Exit.normal ∨ e = Exit.ret) ∧ ∀ a, Fr (δ := []) 40 a f → ∃ v, (results Tryz.f180 a.tmps).run Tryz.prog w = .ok v w ∧ (Sc Ha wa (Value.bool x)) (.returned v) w) e f w)) hq ⟨_, S23, (Inc.rfl _), rfl, rfl, rfl⟩ ?_ ?_) ?_
  ·
   clear hp hq
   rintro i26 y25 s26 f141 w140 ⟨H137, S138, i139, k142, k143, k144⟩ hx26 o247 hp
   refine FW.seq (FW.seq (FW.region ?_))
   refine FL.v (E.move k142) ?_
   refine FL.v (E.move k144) ?_
   refine FL.v (E.lenP te34 rfl p1) ?_
   refine FL.v (E.lssT rfl rfl (lss_len hx26)) ?_
   refine FL.nil ?_
   refine FW.condT rfl rfl ?_
   refine FW.skip (FW.seq (FW.block (FW.seq ?_)))
   refine FW.draw (fun w' => Run w140.heap.size H137 w140 H137 w') (by kernel_rfl) (by kernel_rfl) (run_drew S138.sl) ?_
   refine FD.val rfl rfl rfl (fun w' hw' => (E.move k143)) ?_
   refine FD.val rfl rfl rfl (fun w' hw' => (E.move k144)) ?_
   refine FD.val rfl rfl rfl (fun w' hw' => (E.move k142)) ?_
   obtain ⟨p146, cs147, pt148, l149, at150, rel151⟩ := p1.at (ix_nat hx26)
   obtain rfl := eI_open rel151
   refine FD.val rfl rfl rfl (fun w' hw' => (E.indexAddr te34 rfl rfl pt148)) ?_
   refine FD.val rfl rfl rfl (fun w' hw' => (E.load rfl (run_load0 Tryz.isAgg3 ((at150.mono i139).now (S138.call hw').sl) rfl))) ?_
   refine FD.call rfl rfl rfl (fun w' hw' => (E.call Tryz.call272 (A2 rfl rfl))) (fun w' hw' => Calls.cls hw' (w_spec_l2Lit (S138.call hw').sl a0 y25)) ?_
   refine FD.val rfl rfl rfl (fun w' hw' => (E.not rfl)) ?_
   refine FD.val rfl rfl rfl (fun w' hw' => (E.move (v := Value.bool (!(PF.spec_l2Lit a0 y25))) rfl)) ?_
   obtain ⟨t192, hqt192, hp⟩ := bnd hp
   refine FD.cut 17 (fun f => f 0 = Value.int .i64 a0 ∧ f 1 = v1 ∧ f 5 = Value.int .i64 ((i26 : Nat) : Int) ∧ f 39 = Value.bool t192) ?_ ?_
   ·
    clear hp; have hp := hqt192; clear hqt192
    rcases ifB hp with ⟨c198, hp⟩ | ⟨c198, hp⟩
    ·
     refine FD.skip (wF_no rfl rfl rfl c198) rfl ?_
     refine FD.skip (wF_no rfl rfl rfl c198) rfl ?_
     refine FD.skip (wF_no rfl rfl rfl c198) rfl ?_
     refine FD.skip (wF_undef rfl rfl rfl) rfl ?_
     refine FD.skip (wF_undef rfl rfl rfl) rfl ?_
     refine FD.skip (wF_undef rfl rfl rfl) rfl ?_
     refine FD.skip (wF_undef rfl rfl rfl) rfl ?_
     refine FD.skip (wF_undef rfl rfl rfl) rfl ?_
     refine FD.skip (wF_undef rfl rfl rfl) rfl ?_
     refine FD.skip (wF_undef rfl rfl rfl) rfl ?_
     refine FD.skip (wF_undef rfl rfl rfl) rfl ?_
     refine FD.skip (wF_undef rfl rfl rfl) rfl ?_
     refine FD.skip (wF_undef rfl rfl rfl) rfl ?_
     refine FD.skip (wF_undef rfl rfl rfl) rfl ?_
     refine FD.skip (wF_undef rfl rfl rfl) rfl ?_
     refine FD.skip (wF_no rfl rfl rfl c198) rfl ?_
     obtain rfl := Option.some.inj hp
     refine FD.val rfl rfl rfl (fun w' hw' => (E.pickT rfl c198 rfl)) ?_
     exact FD.nil ⟨k143, k144, k142, rfl⟩
    ·
     refine FD.val (wF_yes rfl rfl rfl c198) rfl rfl (fun w' hw' => (E.move k142)) ?_
     refine FD.val (wF_yes rfl rfl rfl c198) rfl rfl (fun w' hw' => (E.gtr rfl rfl)) ?_
     refine FD.val (wF_yes rfl rfl rfl c198) rfl rfl (fun w' hw' => (E.move (v := Value.bool (decide (0 < ((i26 : Nat) : Int)))) rfl)) ?_
     obtain ⟨t213, hqt213, hp⟩ := bnd hp
     refine FD.cut 13 (fun f => f 0 = Value.int .i64 a0 ∧ f 1 = v1 ∧ f 5 = Value.int .i64 ((i26 : Nat) : Int) ∧ f 22 = Value.bool (!(PF.spec_l2Lit a0 y25)) ∧ f 38 = Value.bool t213) ?_ ?_
     ·
      clear hp; have hp := hqt213; clear hqt213
      rcases ifB hp with ⟨c219, hp⟩ | ⟨c219, hp⟩
      ·
       refine FD.val (wF_yes rfl rfl rfl c219) rfl rfl (fun w' hw' => (E.move k144)) ?_
       refine FD.val (wF_yes rfl rfl rfl c219) rfl rfl (fun w' hw' => (E.move k142)) ?_
       refine FD.val (wF_yes rfl rfl rfl c219) rfl rfl (fun w' hw' => (E.sub rfl rfl)) ?_
       obtain ⟨x226, hx227, hp⟩ := bnd hp
       obtain ⟨p220, cs221, pt222, l223, at224, rel225⟩ := p1.at hx227
       obtain rfl := eI_open rel225
       refine FD.val (wF_yes rfl rfl rfl c219) rfl rfl (fun w' hw' => (E.indexAddr te34 rfl rfl pt222)) ?_
       refine FD.val (wF_yes rfl rfl rfl c219) rfl rfl (fun w' hw' => (E.load rfl (run_load0 Tryz.isAgg3 ((at224.mono i139).now (S138.call hw').sl) rfl))) ?_
       refine FD.call (wF_yes rfl rfl rfl c219) rfl rfl (fun w' hw' => (E.call Tryz.call243 (A1 rfl))) (fun w' hw' => Calls.cls hw' (w_spec_l2Var (S138.call hw').sl x226)) ?_
       refine FD.val (wF_yes rfl rfl rfl c219) rfl rfl (fun w' hw' => (E.move k144)) ?_
       refine FD.val (wF_yes rfl rfl rfl c219) rfl rfl (fun w' hw' => (E.move k142)) ?_
       obtain ⟨p228, cs229, pt230, l231, at232, rel233⟩ := p1.at (ix_nat hx26)
       obtain rfl := eI_open rel233
       refine FD.val (wF_yes rfl rfl rfl c219) rfl rfl (fun w' hw' => (E.indexAddr te34 rfl rfl pt230)) ?_
       refine FD.val (wF_yes rfl rfl rfl c219) rfl rfl (fun w' hw' => (E.load rfl (run_load0 Tryz.isAgg3 ((at232.mono i139).now (S138.call hw').sl) rfl))) ?_
       refine FD.call (wF_yes rfl rfl rfl c219) rfl rfl (fun w' hw' => (E.call Tryz.call243 (A1 rfl))) (fun w' hw' => Calls.cls hw' (w_spec_l2Var (S138.call hw').sl y25)) ?_
       refine FD.val (wF_yes rfl rfl rfl c219) rfl rfl (fun w' hw' => (E.geq rfl rfl)) ?_
       obtain rfl := Option.some.inj hp
       refine FD.val (wF_yes rfl rfl rfl c198) rfl rfl (fun w' hw' => (E.pickT rfl c219 rfl)) ?_
       exact FD.nil ⟨k143, k144, k142, rfl, rfl⟩
      ·
       refine FD.skip (wF_no rfl rfl rfl c219) rfl ?_
       refine FD.skip (wF_no rfl rfl rfl c219) rfl ?_
       refine FD.skip (wF_no rfl rfl rfl c219) rfl ?_
       refine FD.skip (wF_no rfl rfl rfl c219) rfl ?_
       refine FD.skip (wF_no rfl rfl rfl c219) rfl ?_
       refine FD.skip (wF_no rfl rfl rfl c219) rfl ?_
       refine FD.skip (wF_no rfl rfl rfl c219) rfl ?_
       refine FD.skip (wF_no rfl rfl rfl c219) rfl ?_
       refine FD.skip (wF_no rfl rfl rfl c219) rfl ?_
       refine FD.skip (wF_no rfl rfl rfl c219) rfl ?_
       refine FD.skip (wF_no rfl rfl rfl c219) rfl ?_
       refine FD.skip (wF_no rfl rfl rfl c219) rfl ?_
       obtain rfl := Option.some.inj hp
       refine FD.val (wF_yes rfl rfl rfl c198) rfl rfl (fun w' hw' => (E.pickF rfl c219 rfl)) ?_
       exact FD.nil ⟨k143, k144, k142, rfl, rfl⟩
     rintro f218 ⟨k234, k235, k236, k237, k238⟩
     obtain rfl := Option.some.inj hp
     refine FD.val rfl rfl rfl (fun w' hw' => (E.pickF k237 c198 k238)) ?_
     exact FD.nil ⟨k234, k235, k236, rfl⟩
   rintro f197 ⟨k239, k240, k241, k242⟩
   refine FD.nil ?_
   intro w243 r245
   have S244 := S138.call r245
   rcases ifB hp with ⟨c246, hp⟩ | ⟨c246, hp⟩
   ·
    refine FW.condT k242 c246 ?_
    refine FW.seq (FW.region ?_)
    refine FL.v (E.assign (v := Value.bool false) rfl) ?_
    refine FL.nil ?_
    refine FW.ret ?_
    obtain rfl := Option.some.inj hp
    exact ⟨nofun, rfl, ⟨.inr rfl, res1 rfl rfl ⟨rfl, S244.back⟩⟩⟩
   ·
    refine FW.condF k242 c246 ?_
    refine FW.skip (FW.region ?_)
    refine FL.v (E.move k241) ?_
    refine FL.v (E.add rfl rfl) ?_
    refine FL.v (E.assign (v := Value.int .i64 (wr (((i26 : Nat) : Int) + 1))) rfl) ?_
    refine FL.nil ?_
    obtain rfl := Option.some.inj hp
    exact ⟨rfl, ⟨_, S244, i139, (nat_succ rfl (lt_of_get hx26) (p1.mono i139).le), k239, k240⟩⟩
  ·
   clear hp hq
   rintro s26 f257 w256 ⟨H253, S254, i255, k258, k259, k260⟩
   refine FW.seq (FW.seq (FW.region ?_))
   refine FL.v (E.move k258) ?_
   refine FL.v (E.move k260) ?_
   refine FL.v (E.lenP te34 rfl p1) ?_
   refine FL.v (E.lss rfl rfl) ?_
   refine FL.nil ?_
   refine FW.condF rfl dlt_len ?_
   refine FW.exit ?_
   exact ⟨nofun, rfl, ⟨_, S254, i255⟩⟩
  ·
   clear hq
   intro e f252 w251 hD
   rcases q26 with s26 | x26
   ·
    obtain ⟨rfl, hD⟩ := hD
    obtain ⟨H248, S249, i250⟩ := hD
    replace hp := el_go hp
    refine FW.seq (FW.region ?_)
    refine FL.v (E.assign (v := Value.bool true) rfl) ?_
    refine FL.nil ?_
    refine FW.ret ?_
    obtain rfl := Option.some.inj hp
    exact ⟨.inr rfl, res1 rfl rfl ⟨rfl, S249.back⟩⟩
   ·
    obtain ⟨he, hL⟩ := hD
    replace hp := el_rt hp
    obtain rfl := Option.some.inj hp
    subst he
    exact hL

theorem w_spec_l2Text {Ha : GH} {wa : World} (hs : Sl Ha wa) (v0 : Value) (a0 : List Int) (p0 : RSl Ha eI 1 v0 a0) {r : ByteArray} (hp : (PF.spec_l2Text a0) = some r) :
    Calls Tryz.prog 333 #[v0] wa (Sc Ha wa (Value.string r)) := by
  unfold PF.spec_l2Text at hp
  have S0 := St.init hs
  refine calls_go (N := 27) (args := [v0]) Tryz.func333 rfl rfl rfl ?_
  refine FW.seq (FW.region ?_)
  refine FL.v (E.assign (v := Value.string (ByteArray.mk #[])) rfl) ?_
  refine FL.nil (FW.seq (FW.seq (FW.region ?_)))
  refine FL.v (E.move (v := v0) rfl) ?_
  refine FL.v (E.lenP te34 rfl p0) ?_
  refine FL.v (E.eql rfl rfl) ?_
  refine FL.nil ?_
  rcases ifB hp with ⟨c21, hp⟩ | ⟨c21, hp⟩
  ·
    refine FW.condT rfl c21 ?_
    refine FW.seq (FW.region ?_)
    refine FL.v (E.assign (v := Value.string (ByteArray.mk #[110, 111, 110, 101])) rfl) ?_
    refine FL.nil ?_
    refine FW.ret ?_
    obtain rfl := Option.some.inj hp
    exact ⟨.inr rfl, res1 rfl rfl ⟨rfl, S0.back⟩⟩
  ·
    refine FW.condF rfl c21 ?_
    refine FW.skip (FW.seq (FW.region ?_))
    refine FL.v (E.move (v := v0) rfl) ?_
    obtain ⟨x28, hx29, hp⟩ := bnd hp
    obtain ⟨p22, cs23, pt24, l25, at26, rel27⟩ := p0.at hx29
    obtain rfl := eI_open rel27
    refine FL.v (E.indexAddr te34 rfl rfl pt24) ?_
    refine FL.v (E.load rfl (run_load0 Tryz.isAgg3 (at26.now S0.sl) rfl)) ?_
    obtain ⟨r30, hr31, hp⟩ := bnd hp
    refine FL.call rfl rfl rfl (E.call Tryz.call332 (A1 rfl)) (w_spec_l1Num S0.sl x28 hr31) ?_
    rintro e w32 ⟨rfl, r33⟩
    refine ⟨_, rfl, ?_⟩
    have S34 := S0.call r33
    refine FL.v (E.assign (v := Value.string r30) rfl) ?_
    refine FL.nil (FW.seq (FW.seq (FW.region ?_)))
    refine FL.v (E.assign (v := Value.int .i64 1) rfl) ?_
    refine FL.nil ?_
    obtain ⟨q35, hq, hp⟩ := bndR hp
    refine FW.block ?_
    refine FW.mono (FW.forR (S := ByteArray) (X := Empty) (fun (i35 : Nat) (s35 : ByteArray) f w => ∃ H : GH, St Ha wa H w [] ∧ Inc Ha H ∧ f 4 = Value.int .i64 ((i35 : Nat) : Int) ∧ f 0 = v0 ∧ f 3 = Value.string s35) (fun (q : Rs ByteArray Empty) e f w => match q with | .go s35 => e = Exit.exit 0 ∧ (∃ H : GH, St Ha wa H w [] ∧ Inc Ha H ∧ f 3 = Value.string s35) | .rt x => x.elim) hq ⟨_, S34, (Inc.rfl _), rfl, rfl, rfl⟩ ?_ ?_) ?_
    ·
      clear hp hq
      rintro i35 s35 f65 w64 ⟨H61, S62, i63, k66, k67, k68⟩ hi35 hj35 o86 hp
      refine FW.seq (FW.seq (FW.region ?_))
      refine FL.v (E.move k66) ?_
      refine FL.v (E.move k67) ?_
      refine FL.v (E.lenP te34 rfl p0) ?_
      refine FL.v (E.lssT rfl rfl (lss_natlen hj35)) ?_
      refine FL.nil ?_
      refine FW.condT rfl rfl ?_
      refine FW.skip (FW.seq (FW.block (FW.region ?_)))
      refine FL.v (E.move k68) ?_
      obtain ⟨z69, h70, hp⟩ := bnd hp
      refine FL.v (E.addT rfl rfl h70) ?_
      refine FL.v (E.move k67) ?_
      refine FL.v (E.move k66) ?_
      obtain ⟨x77, hx78, hp⟩ := bnd hp
      obtain ⟨p71, cs72, pt73, l74, at75, rel76⟩ := p0.at hx78
      obtain rfl := eI_open rel76
      refine FL.v (E.indexAddr te34 rfl rfl pt73) ?_
      refine FL.v (E.load rfl (run_load0 Tryz.isAgg3 ((at75.mono i63).now S62.sl) rfl)) ?_
      obtain ⟨r79, hr80, hp⟩ := bnd hp
      refine FL.call rfl rfl rfl (E.call Tryz.call332 (A1 rfl)) (w_spec_l1Num S62.sl x77 hr80) ?_
      rintro e w81 ⟨rfl, r82⟩
      refine ⟨_, rfl, ?_⟩
      have S83 := S62.call r82
      obtain ⟨z84, h85, hp⟩ := bnd hp
      refine FL.v (E.addT rfl rfl h85) ?_
      refine FL.v (E.assign (v := Value.string z84) rfl) ?_
      refine FL.nil (FW.region ?_)
      refine FL.v (E.move k66) ?_
      refine FL.v (E.add rfl rfl) ?_
      refine FL.v (E.assign (v := Value.int .i64 (wr (((i35 : Nat) : Int) + 1))) rfl) ?_
      refine FL.nil ?_
      obtain rfl := Option.some.inj hp
      exact ⟨rfl, ⟨_, S83, i63, (nat_succ rfl hj35 (p0.mono i63).le), k67, rfl⟩⟩
    ·
      clear hp hq
      rintro s35 f97 w96 ⟨H93, S94, i95, k98, k99, k100⟩
      refine FW.seq (FW.seq (FW.region ?_))
      refine FL.v (E.move k98) ?_
      refine FL.v (E.move k99) ?_
      refine FL.v (E.lenP te34 rfl p0) ?_
      refine FL.v (E.lss rfl rfl) ?_
      refine FL.nil ?_
      refine FW.condF rfl dlt_maxlen ?_
      refine FW.exit ?_
      exact ⟨nofun, rfl, ⟨_, S94, i95, k100⟩⟩
    ·
      clear hq
      intro e f91 w90 hD
      rcases q35 with s35 | x35
      ·
        obtain ⟨rfl, hD⟩ := hD
        obtain ⟨H87, S88, i89, k92⟩ := hD
        replace hp := el_go hp
        refine FW.seq (FW.region ?_)
        refine FL.v (E.move k92) ?_
        refine FL.v (E.assign (v := Value.string s35) rfl) ?_
        refine FL.nil ?_
        refine FW.ret ?_
        obtain rfl := Option.some.inj hp
        exact ⟨.inr rfl, res1 rfl rfl ⟨rfl, S88.back⟩⟩
      · exact x35.elim

@[reducible] def p_spec_l2Parse (Ha : GH) (wa : World) (r : ((List Int) × Bool)) : Ending → World → Prop :=
 fun e w' => ∃ H' : GH, ∃ v0 : Value, ∃ n0 : Nat, ∃ c0 : List Value, e = .returned (Value.tuple #[v0, Value.bool r.2]) ∧ St Ha wa H' w' [.row 3 1 v0 n0 c0] ∧ Els (up wa.heap.size H') eI 1 c0 r.1
set_option maxHeartbeats 4000000 in
theorem w_spec_l2Parse {Ha : GH} {wa : World} (hs : Sl Ha wa) (a0 : Int) (a1 : ByteArray) {r : ((List Int) × Bool)} (hp : (PF.spec_l2Parse a0 a1) = some r) :
  Calls Tryz.prog 306 #[Value.int .i64 a0, Value.string a1] wa (p_spec_l2Parse Ha wa r) := by
 unfold PF.spec_l2Parse at hp
 have S0 := St.init hs
 refine calls_go (N := 61) (args := [Value.int .i64 a0, Value.string a1]) Tryz.func306 rfl rfl rfl ?_
 refine FW.seq (FW.region ?_)
 refine FL.v (E.assign (v := Value.slice none 0 0) rfl) ?_
 refine FL.v (E.assign (v := Value.bool false) rfl) ?_
 refine FL.nil (FW.seq (FW.region ?_))
 obtain ⟨v21, w22, run23, S24⟩ := S0.buildSlice (P := Tryz.prog) te34 [] (parts := #[]) (cells := []) rfl szs_nil fc_nil ones_nil (Nat.le_of_ble_eq_true rfl)
 have els25 : Els (up wa.heap.size Ha) eI 1 [] [] := Els.nil
 refine FL.v (E.buildSlice (B0) run23) ?_
 refine FL.v (E.assign (v := v21) rfl) ?_
 refine FL.nil (FW.seq (FW.seq (FW.region ?_)))
 refine FL.v (E.move (v := Value.string a1) rfl) ?_
 refine FL.v (E.eqlS rfl rfl) ?_
 refine FL.nil ?_
 rcases ifB hp with ⟨c26, hp⟩ | ⟨c26, hp⟩
 ·
  refine FW.condT rfl c26 ?_
  refine FW.seq (FW.region ?_)
  refine FL.v (E.move (v := v21) rfl) ?_
  refine FL.v (E.move (v := Value.int .i64 a0) rfl) ?_
  refine FL.call rfl rfl rfl (E.call Tryz.call179 (A1 rfl)) (w_spec_l2Vars S24.sl a0) ?_
  rintro e w27 ⟨rfl, r28⟩
  refine ⟨_, rfl, ?_⟩
  have S29 := S24.call r28
  refine FL.v (E.assign (v := v21) rfl) ?_
  refine FL.v (E.assign (v := Value.bool (PF.spec_l2Vars a0)) rfl) ?_
  refine FL.nil ?_
  refine FW.ret ?_
  obtain rfl := Option.some.inj hp
  exact ⟨.inr rfl, res2 rfl rfl rfl ⟨_, _, _, _, rfl, S29, els25⟩⟩
 ·
  refine FW.condF rfl c26 ?_
  refine FW.skip (FW.seq (FW.region ?_))
  refine FL.v (E.move (v := Value.string a1) rfl) ?_
  obtain ⟨r30, hr31, hp⟩ := bnd hp
  refine FL.call rfl rfl rfl (E.call Tryz.call304 (A2 rfl rfl)) (w_spec_l1Split S24.sl a1 32 hr31) ?_
  rintro e w33 ⟨H32, v36, n37, cs38, rfl, r35, els39⟩
  refine ⟨_, rfl, ?_⟩
  have els39 := els39.mono (up_le S24.size)
  have S34 := S24.join (l' := [.row 9 1 v36 n37 cs38, .row 3 1 v21 0 []]) r35 rfl
  refine FL.v (E.assign (v := v36) rfl) ?_
  refine FL.nil (FW.seq (FW.seq (FW.region ?_)))
  refine FL.v (E.assign (v := Value.int .i64 0) rfl) ?_
  refine FL.nil ?_
  obtain ⟨q40, hq, hp⟩ := bndR hp
  refine FW.block ?_
  refine FW.mono (FW.iter (S := ((List Int) × Int)) (X := ((List Int) × Bool)) (fun (s40 : ((List Int) × Int)) f w => ∃ H : GH, ∃ v41 : Value, ∃ n42 : Nat, ∃ cs43 : List Value, St Ha wa H w [.row 9 1 v36 n37 cs38, .row 3 1 v41 n42 cs43] ∧ Inc H32 H ∧ Els (up wa.heap.size H) eI 1 cs43 s40.1 ∧ f 0 = Value.int .i64 a0 ∧ f 1 = Value.string a1 ∧ f 6 = v41 ∧ f 7 = v36 ∧ f 8 = Value.int .i64 s40.2) (fun q e f w => match q with | .go s40 => e = Exit.exit 0 ∧ (∃ H : GH, ∃ v41 : Value, ∃ n42 : Nat, ∃ cs43 : List Value, St Ha wa H w [.row 9 1 v36 n37 cs38, .row 3 1 v41 n42 cs43] ∧ Inc H32 H ∧ Els (up wa.heap.size H) eI 1 cs43 s40.1 ∧ f 0 = Value.int .i64 a0 ∧ f 1 = Value.string a1 ∧ f 6 = v41 ∧ f 7 = v36) | .rt x => ((e = Exit.ret) ∧ (fun e f w => (e = Exit.normal ∨ e = Exit.ret) ∧ ∀ a, Fr (δ := []) 61 a f → ∃ v, (results Tryz.f306 a.tmps).run Tryz.prog w = .ok v w ∧ (p_spec_l2Parse Ha wa x) (.returned v) w) e f w)) hq ⟨_, _, _, _, S34, (Inc.rfl _), (els25.mono (up_mono r35.run.inc)), rfl, rfl, rfl, rfl, rfl⟩ ?_) ?_
  ·
   clear hp hq
   rintro s40 f108 w107 ⟨H104, v41, n42, cs43, S105, i106, els44, k109, k110, k111, k112, k113⟩ o163 hp
   refine FW.seq (FW.seq (FW.region ?_))
   refine FL.v (E.move k113) ?_
   refine FL.v (E.move k112) ?_
   refine FL.v (E.lenO te171 rfl S105 (i := 0) rfl els39 (by decide)) ?_
   refine FL.v (E.lss rfl rfl) ?_
   refine FL.v (E.move (v := Value.bool (decide (s40.2 < (len r30)))) rfl) ?_
   refine FL.cut 3 (fun f w => ∃ H : GH, St Ha wa H w [.row 9 1 v36 n37 cs38, .row 3 1 v41 n42 cs43] ∧ Inc H104 H ∧ f 0 = Value.int .i64 a0 ∧ f 1 = Value.string a1 ∧ f 6 = v41 ∧ f 7 = v36 ∧ f 8 = Value.int .i64 s40.2 ∧ f 26 = Value.bool (bif (decide (s40.2 < (len r30))) then (decide (s40.2 ≤ 12)) else false)) ?_ ?_
   ·
    rcases bcase (decide (s40.2 < (len r30))) with c120 | c120
    ·
     refine FL.val (wF_yes rfl rfl rfl c120) rfl rfl (E.move k113) ?_
     refine FL.val (wF_yes rfl rfl rfl c120) rfl rfl (E.leq rfl rfl) ?_
     refine FL.v (E.pickT rfl c120 rfl) ?_
     exact FL.nil ⟨rfl, _, S105, (Inc.rfl _), k109, k110, k111, k112, k113, (congrArg Value.bool (bifT c120).symm)⟩
    ·
     refine FL.skip (wF_no rfl rfl rfl c120) rfl ?_
     refine FL.skip (wF_no rfl rfl rfl c120) rfl ?_
     refine FL.v (E.pickF rfl c120 rfl) ?_
     exact FL.nil ⟨rfl, _, S105, (Inc.rfl _), k109, k110, k111, k112, k113, (congrArg Value.bool (bifF c120).symm)⟩
   rintro f119 w118 ⟨H115, S116, i117, k121, k122, k123, k124, k125, k126⟩
   refine FL.nil ?_
   rcases ifB hp with ⟨c127, hp⟩ | ⟨c127, hp⟩
   ·
    refine FW.condT k126 c127 ?_
    refine FW.skip (FW.seq (FW.block (FW.seq (FW.region ?_))))
    refine FL.v (E.move k124) ?_
    refine FL.v (E.move k125) ?_
    obtain ⟨x134, hx135, hp⟩ := bnd hp
    obtain ⟨p128, cs129, pt130, l131, at132, rel133⟩ := S116.row_at (i := 0) rfl els39 (by decide) hx135
    obtain rfl := eS_open rel133
    refine FL.v (E.indexAddr te171 rfl rfl pt130) ?_
    refine FL.v (E.load rfl (run_load0 Tryz.isAgg9 at132 rfl)) ?_
    obtain ⟨r136, hr137, hp⟩ := bnd hp
    refine FL.call rfl rfl rfl (E.call Tryz.call305 (A1 rfl)) (w_spec_l1Read S116.sl x134 hr137) ?_
    rintro e w138 ⟨rfl, r139⟩
    refine ⟨_, rfl, ?_⟩
    have S140 := S116.call r139
    refine FL.v (E.move (v := Value.tuple #[Value.int .i64 r136.1, Value.bool r136.2]) rfl) ?_
    refine FL.v (E.extract (i := 0) rfl rfl) ?_
    refine FL.v (E.extract (i := 1) rfl rfl) ?_
    refine FL.v (E.assign (v := Value.int .i64 r136.1) rfl) ?_
    refine FL.v (E.assign (v := Value.bool r136.2) rfl) ?_
    refine FL.nil (FW.seq (FW.seq (FW.region ?_)))
    refine FL.v (E.move (v := Value.bool r136.2) rfl) ?_
    refine FL.v (E.not rfl) ?_
    refine FL.nil ?_
    rcases ifB hp with ⟨c141, hp⟩ | ⟨c141, hp⟩
    ·
     refine FW.condT rfl c141 ?_
     refine FW.seq (FW.region ?_)
     obtain ⟨v142, w143, run144, S145⟩ := S140.buildSlice (P := Tryz.prog) te34 [] (parts := #[]) (cells := []) rfl szs_nil fc_nil ones_nil (Nat.le_of_ble_eq_true rfl)
     have els146 : Els (up wa.heap.size H115) eI 1 [] [] := Els.nil
     refine FL.v (E.buildSlice (B0) run144) ?_
     refine FL.v (E.assign (v := v142) rfl) ?_
     refine FL.v (E.assign (v := Value.bool false) rfl) ?_
     refine FL.nil ?_
     refine FW.ret ?_
     obtain rfl := Option.some.inj hp
     exact ⟨nofun, rfl, ⟨.inr rfl, res2 rfl rfl rfl ⟨_, _, _, _, rfl, (S145.sel [0] (by decide) rfl), els146⟩⟩⟩
    ·
     refine FW.condF rfl c141 ?_
     refine FW.skip (FW.region ?_)
     refine FL.v (E.move k123) ?_
     refine FL.v (E.move (v := Value.int .i64 r136.1) rfl) ?_
     obtain ⟨v147, w148, run149, S150⟩ := S140.buildSlice (P := Tryz.prog) te34 [Value.int .i64 r136.1] (parts := #[(0, Value.int .i64 r136.1)]) (cells := [Value.int .i64 r136.1]) rfl (szs_cons rfl szs_nil) (fc_cons rfl fc_nil) (ones_cons rfl ones_nil) (Nat.le_of_ble_eq_true rfl)
     have els151 : Els (up wa.heap.size H115) eI 1 [Value.int .i64 r136.1] [r136.1] := (Els.snoc (H := (up wa.heap.size H115)) (E := eI) (k := 1) (c := [Value.int .i64 r136.1]) (x := r136.1) Els.nil rfl rfl)
     refine FL.v (E.buildSlice (B1 rfl) run149) ?_
     obtain ⟨xs152, hz153, hp⟩ := bnd hp
     obtain ⟨v154, w157, n155, cs156, run158, S159, els160, ce161⟩ := S150.appendO (P := Tryz.prog) te34 (i := 2) (j := 0) rfl (els44.mono (up_mono i117)) rfl els151 hz153
     have S159 : St Ha wa H115 w157 [.row 3 1 v147 1 [Value.int .i64 r136.1], .row 9 1 v36 n37 cs38, .row 3 1 v154 n155 cs156] := S159
     have S162 : St Ha wa H115 w157 [.row 9 1 v36 n37 cs38, .row 3 1 v154 n155 cs156] := S159.drop 0
     refine FL.v (E.append rfl rfl run158) ?_
     refine FL.v (E.assign (v := v154) rfl) ?_
     refine FL.nil (FW.region ?_)
     refine FL.v (E.move k125) ?_
     refine FL.v (E.add rfl rfl) ?_
     refine FL.v (E.assign (v := Value.int .i64 (wr (s40.2 + 1))) rfl) ?_
     refine FL.nil ?_
     obtain rfl := Option.some.inj hp
     exact ⟨rfl, ⟨_, _, _, _, S162, (i106.tr i117), els160, k121, k122, rfl, k124, rfl⟩⟩
   ·
    refine FW.condF k126 c127 ?_
    refine FW.exit ?_
    obtain rfl := Option.some.inj hp
    exact ⟨nofun, rfl, ⟨_, _, _, _, S116, (i106.tr i117), (els44.mono (up_mono i117)), k121, k122, k123, k124⟩⟩
  ·
   clear hq
   intro e f168 w167 hD
   rcases q40 with s40 | x40
   ·
    obtain ⟨rfl, hD⟩ := hD
    obtain ⟨H164, v41, n42, cs43, S165, i166, els44, k169, k170, k171, k172⟩ := hD
    replace hp := el_go hp
    refine FW.seq (FW.seq (FW.region ?_))
    refine FL.v (E.move k172) ?_
    refine FL.v (E.lenO te171 rfl S165 (i := 0) rfl els39 (by decide)) ?_
    refine FL.v (E.gtr rfl rfl) ?_
    refine FL.v (E.move (v := Value.bool (decide (12 < (len r30)))) rfl) ?_
    obtain ⟨t183, hqt183, hp⟩ := bnd hp
    refine FL.cut 5 (fun f w => ∃ H : GH, St Ha wa H w [.row 9 1 v36 n37 cs38, .row 3 1 v41 n42 cs43] ∧ Inc H164 H ∧ f 1 = Value.string a1 ∧ f 6 = v41 ∧ f 52 = Value.bool t183) ?_ ?_
    ·
     clear hp; have hp := hqt183; clear hqt183
     rcases ifB hp with ⟨c189, hp⟩ | ⟨c189, hp⟩
     ·
      refine FL.skip (wF_no rfl rfl rfl c189) rfl ?_
      refine FL.skip (wF_no rfl rfl rfl c189) rfl ?_
      refine FL.skip (wF_no rfl rfl rfl c189) rfl ?_
      refine FL.skip (wF_no rfl rfl rfl c189) rfl ?_
      obtain rfl := Option.some.inj hp
      refine FL.v (E.pickT rfl c189 rfl) ?_
      exact FL.nil ⟨rfl, _, S165, (Inc.rfl _), k170, k171, rfl⟩
     ·
      refine FL.val (wF_yes rfl rfl rfl c189) rfl rfl (E.move k169) ?_
      refine FL.val (wF_yes rfl rfl rfl c189) rfl rfl (E.move k171) ?_
      obtain ⟨H190, S191, i192, h193, nv194⟩ := S165.sealRowU (i := 1) (l' := [.row 9 1 v36 n37 cs38]) rfl els44 (by decide) rfl
      obtain ⟨r195, hr196, hp⟩ := bnd hp
      refine FL.call (wF_yes rfl rfl rfl c189) rfl rfl (E.call Tryz.call180 (A2 rfl rfl)) (w_spec_l2Clause S191.sl a0 v41 s40.1 (h193.mono upI) hr196) ?_
      rintro e w197 ⟨rfl, r198⟩
      refine ⟨_, rfl, ?_⟩
      have r198 := Run.lend i192 S165.sl r198
      have S199 := S165.call r198
      refine FL.val (wF_yes rfl rfl rfl c189) rfl rfl (E.not rfl) ?_
      obtain rfl := Option.some.inj hp
      refine FL.v (E.pickF rfl c189 rfl) ?_
      exact FL.nil ⟨rfl, _, S199, (Inc.rfl _), k170, k171, rfl⟩
    rintro f188 w187 ⟨H184, S185, i186, k200, k201, k202⟩
    refine FL.v (E.move k202) ?_
    obtain ⟨t213, hqt213, hp⟩ := bnd hp
    refine FL.cut 5 (fun f w => ∃ H : GH, St Ha wa H w [.row 9 1 v36 n37 cs38, .row 3 1 v41 n42 cs43] ∧ Inc H184 H ∧ f 6 = v41 ∧ f 58 = Value.bool t213) ?_ ?_
    ·
     clear hp; have hp := hqt213; clear hqt213
     rcases ifB hp with ⟨c219, hp⟩ | ⟨c219, hp⟩
     ·
      refine FL.skip (wF_no rfl rfl rfl c219) rfl ?_
      refine FL.skip (wF_no rfl rfl rfl c219) rfl ?_
      refine FL.skip (wF_no rfl rfl rfl c219) rfl ?_
      refine FL.skip (wF_no rfl rfl rfl c219) rfl ?_
      obtain rfl := Option.some.inj hp
      refine FL.v (E.pickT rfl c219 rfl) ?_
      exact FL.nil ⟨rfl, _, S185, (Inc.rfl _), k201, rfl⟩
     ·
      refine FL.val (wF_yes rfl rfl rfl c219) rfl rfl (E.move k201) ?_
      obtain ⟨H220, S221, i222, h223, nv224⟩ := S185.sealRowU (i := 1) (l' := [.row 9 1 v36 n37 cs38]) rfl (els44.mono (up_mono i186)) (by decide) rfl
      obtain ⟨r225, hr226, hp⟩ := bnd hp
      refine FL.call (wF_yes rfl rfl rfl c219) rfl rfl (E.call Tryz.call333 (A1 rfl)) (w_spec_l2Text S221.sl v41 s40.1 (h223.mono upI) hr226) ?_
      rintro e w227 ⟨rfl, r228⟩
      refine ⟨_, rfl, ?_⟩
      have r228 := Run.lend i222 S185.sl r228
      have S229 := S185.call r228
      refine FL.val (wF_yes rfl rfl rfl c219) rfl rfl (E.move k200) ?_
      refine FL.val (wF_yes rfl rfl rfl c219) rfl rfl (E.neqS rfl rfl) ?_
      obtain rfl := Option.some.inj hp
      refine FL.v (E.pickF rfl c219 rfl) ?_
      exact FL.nil ⟨rfl, _, S229, (Inc.rfl _), k201, rfl⟩
    rintro f218 w217 ⟨H214, S215, i216, k230, k231⟩
    refine FL.nil ?_
    rcases ifB hp with ⟨c232, hp⟩ | ⟨c232, hp⟩
    ·
     refine FW.condT k231 c232 ?_
     refine FW.seq (FW.region ?_)
     obtain ⟨v233, w234, run235, S236⟩ := S215.buildSlice (P := Tryz.prog) te34 [] (parts := #[]) (cells := []) rfl szs_nil fc_nil ones_nil (Nat.le_of_ble_eq_true rfl)
     have els237 : Els (up wa.heap.size H214) eI 1 [] [] := Els.nil
     refine FL.v (E.buildSlice (B0) run235) ?_
     refine FL.v (E.assign (v := v233) rfl) ?_
     refine FL.v (E.assign (v := Value.bool false) rfl) ?_
     refine FL.nil ?_
     refine FW.ret ?_
     obtain rfl := Option.some.inj hp
     exact ⟨.inr rfl, res2 rfl rfl rfl ⟨_, _, _, _, rfl, (S236.sel [0] (by decide) rfl), els237⟩⟩
    ·
     refine FW.condF k231 c232 ?_
     refine FW.skip (FW.seq (FW.region ?_))
     refine FL.v (E.move k230) ?_
     refine FL.v (E.assign (v := v41) rfl) ?_
     refine FL.v (E.assign (v := Value.bool true) rfl) ?_
     refine FL.nil ?_
     refine FW.ret ?_
     obtain rfl := Option.some.inj hp
     exact ⟨.inr rfl, res2 rfl rfl rfl ⟨_, _, _, _, rfl, (S215.sel [1] (by decide) rfl), (els44.mono (up_mono (i186.tr i216)))⟩⟩
   ·
    obtain ⟨he, hL⟩ := hD
    replace hp := el_rt hp
    obtain rfl := Option.some.inj hp
    subst he
    exact hL

theorem w_spec_l2TextOf {Ha : GH} {wa : World} (hs : Sl Ha wa) (a0 : Cnf) (v0_1 : Value) (p0_1 : RSl Ha (eL eI 1) 1 v0_1 a0.clauses) {r : ByteArray} (hp : (PF.spec_l2TextOf a0) = some r) :
    Calls Tryz.prog 307 #[Value.agg #[Value.int .i64 a0.vars, v0_1]] wa (Sc Ha wa (Value.string r)) := by
  unfold PF.spec_l2TextOf at hp
  have S0 := St.init hs
  refine calls_go (N := 25) (args := [Value.agg #[Value.int .i64 a0.vars, v0_1]]) Tryz.func307 rfl rfl rfl ?_
  refine FW.seq (FW.region ?_)
  obtain ⟨b21, w22, run23, S24⟩ := S0.box (P := Tryz.prog) 26 [Value.int .i64 a0.vars, v0_1] (v := Value.agg #[Value.int .i64 a0.vars, v0_1]) rfl (ones_cons rfl (ones_cons p0_1.one ones_nil))
  refine FL.v (E.box rfl run23) ?_
  obtain ⟨H25, S26, i27, at28⟩ := S24.sealBox (i := 0) (l' := []) rfl rfl
  refine FL.v (E.assign (v := Value.string (ByteArray.mk #[])) rfl) ?_
  refine FL.nil (FW.seq (FW.region ?_))
  refine FL.v (E.fieldAddr tf26_0 rfl) ?_
  refine FL.v (E.load rfl (run_load1 Tryz.isAgg3 (at28.now S26.sl) rfl)) ?_
  obtain ⟨r29, hr30, hp⟩ := bnd hp
  refine FL.call rfl rfl rfl (E.call Tryz.call332 (A1 rfl)) (w_spec_l1Num S26.sl a0.vars hr30) ?_
  rintro e w31 ⟨rfl, r32⟩
  refine ⟨_, rfl, ?_⟩
  have S33 := S26.call r32
  refine FL.v (E.assign (v := Value.string r29) rfl) ?_
  refine FL.nil (FW.seq (FW.seq (FW.region ?_)))
  refine FL.v (E.assign (v := Value.int .i64 0) rfl) ?_
  refine FL.nil ?_
  obtain ⟨q34, hq, hp⟩ := bndR hp
  refine FW.block ?_
  refine FW.mono (FW.iter (S := (ByteArray × Int)) (X := Empty) (fun (s34 : (ByteArray × Int)) f w => ∃ H : GH, St Ha wa H w [] ∧ Inc H25 H ∧ f 1 = Value.pointer (some ⟨b21, 0, none⟩) ∧ f 3 = Value.string s34.1 ∧ f 4 = Value.int .i64 s34.2) (fun (q : Rs (ByteArray × Int) Empty) e f w => match q with | .go s34 => e = Exit.exit 0 ∧ (∃ H : GH, St Ha wa H w [] ∧ Inc H25 H ∧ f 3 = Value.string s34.1) | .rt x => x.elim) hq ⟨_, S33, (Inc.rfl _), rfl, rfl, rfl⟩ ?_) ?_
  ·
    clear hp hq
    rintro s34 f67 w66 ⟨H63, S64, i65, k68, k69, k70⟩ o91 hp
    refine FW.seq (FW.seq (FW.region ?_))
    refine FL.v (E.move k70) ?_
    refine FL.v (E.fieldAddr tf26_1 k68) ?_
    refine FL.v (E.load rfl (run_load1 Tryz.isAgg24 ((at28.mono i65).now S64.sl) rfl)) ?_
    refine FL.v (E.lenP te24 rfl p0_1) ?_
    refine FL.v (E.lss rfl rfl) ?_
    refine FL.nil ?_
    rcases ifB hp with ⟨c71, hp⟩ | ⟨c71, hp⟩
    ·
      refine FW.condT rfl c71 ?_
      refine FW.skip (FW.seq (FW.block (FW.region ?_)))
      refine FL.v (E.move k69) ?_
      obtain ⟨z72, h73, hp⟩ := bnd hp
      refine FL.v (E.addT rfl rfl h73) ?_
      refine FL.v (E.fieldAddr tf26_1 k68) ?_
      refine FL.v (E.load rfl (run_load1 Tryz.isAgg24 ((at28.mono i65).now S64.sl) rfl)) ?_
      refine FL.v (E.move k70) ?_
      obtain ⟨x80, hx81, hp⟩ := bnd hp
      obtain ⟨p74, cs75, pt76, l77, at78, rel79⟩ := p0_1.at hx81
      obtain ⟨v82, rfl, h83⟩ := eL_open rel79
      refine FL.v (E.indexAddr te24 rfl rfl pt76) ?_
      refine FL.v (E.load rfl (run_load0 Tryz.isAgg34 ((at78.mono (i27.tr i65)).now S64.sl) rfl)) ?_
      obtain ⟨r84, hr85, hp⟩ := bnd hp
      refine FL.call rfl rfl rfl (E.call Tryz.call333 (A1 rfl)) (w_spec_l2Text S64.sl v82 x80 (h83.mono (i27.tr i65)) hr85) ?_
      rintro e w86 ⟨rfl, r87⟩
      refine ⟨_, rfl, ?_⟩
      have S88 := S64.call r87
      obtain ⟨z89, h90, hp⟩ := bnd hp
      refine FL.v (E.addT rfl rfl h90) ?_
      refine FL.v (E.assign (v := Value.string z89) rfl) ?_
      refine FL.nil (FW.region ?_)
      refine FL.v (E.move k70) ?_
      refine FL.v (E.add rfl rfl) ?_
      refine FL.v (E.assign (v := Value.int .i64 (wr (s34.2 + 1))) rfl) ?_
      refine FL.nil ?_
      obtain rfl := Option.some.inj hp
      exact ⟨rfl, ⟨_, S88, i65, k68, rfl, rfl⟩⟩
    ·
      refine FW.condF rfl c71 ?_
      refine FW.exit ?_
      obtain rfl := Option.some.inj hp
      exact ⟨nofun, rfl, ⟨_, S64, i65, k69⟩⟩
  ·
    clear hq
    intro e f96 w95 hD
    rcases q34 with s34 | x34
    ·
      obtain ⟨rfl, hD⟩ := hD
      obtain ⟨H92, S93, i94, k97⟩ := hD
      replace hp := el_go hp
      refine FW.seq (FW.region ?_)
      refine FL.v (E.move k97) ?_
      refine FL.v (E.assign (v := Value.string s34.1) rfl) ?_
      refine FL.nil ?_
      refine FW.ret ?_
      obtain rfl := Option.some.inj hp
      exact ⟨.inr rfl, res1 rfl rfl ⟨rfl, S93.back⟩⟩
    · exact x34.elim

@[reducible] def p_spec_ParseCnf (Ha : GH) (wa : World) (r : (Cnf × Bool)) : Ending → World → Prop :=
 fun e w' => ∃ H' : GH, ∃ v0_1 : Value, e = .returned (Value.tuple #[Value.agg #[Value.int .i64 r.1.vars, v0_1], Value.bool r.2]) ∧ Run wa.heap.size Ha wa H' w' ∧ (∃ c, Nest (up wa.heap.size H') (eL eI 1) 1 v0_1 r.1.clauses c)
set_option maxHeartbeats 4000000 in
theorem w_spec_ParseCnf {Ha : GH} {wa : World} (hs : Sl Ha wa) (a0 : ByteArray) {r : (Cnf × Bool)} (hp : (PF.spec_ParseCnf a0) = some r) :
  Calls Tryz.prog 242 #[Value.string a0] wa (p_spec_ParseCnf Ha wa r) := by
 unfold PF.spec_ParseCnf at hp
 have S0 := St.init hs
 refine calls_go (N := 82) (args := [Value.string a0]) Tryz.func242 rfl rfl rfl ?_
 refine FW.seq (FW.region ?_)
 obtain ⟨b21, w22, run23, S24⟩ := S0.alloc (P := Tryz.prog) 26 [Value.int .i64 0, Value.slice none 0 0] Tryz.zeroValue26 rfl (ones_cons rfl (ones_cons rfl ones_nil))
 refine FL.v (E.alloc run23) ?_
 refine FL.v (E.assign (v := Value.bool false) rfl) ?_
 refine FL.nil (FW.seq (FW.region ?_))
 refine FL.v (E.move (v := Value.string a0) rfl) ?_
 obtain ⟨r25, hr26, hp⟩ := bnd hp
 refine FL.call rfl rfl rfl (E.call Tryz.call304 (A2 rfl rfl)) (w_spec_l1Split S24.sl a0 59 hr26) ?_
 rintro e w28 ⟨H27, v31, n32, cs33, rfl, r30, els34⟩
 refine ⟨_, rfl, ?_⟩
 have els34 := els34.mono (up_le S24.size)
 have S29 := S24.join (l' := [.row 9 1 v31 n32 cs33, .box b21 26 [Value.int .i64 0, Value.slice none 0 0]]) r30 rfl
 refine FL.v (E.assign (v := v31) rfl) ?_
 refine FL.nil (FW.seq (FW.region ?_))
 refine FL.v (E.move (v := v31) rfl) ?_
 obtain ⟨x41, hx42, hp⟩ := bnd hp
 obtain ⟨p35, cs36, pt37, l38, at39, rel40⟩ := S29.row_at (i := 0) rfl els34 (by decide) hx42
 obtain rfl := eS_open rel40
 refine FL.v (E.indexAddr te171 rfl rfl pt37) ?_
 refine FL.v (E.load rfl (run_load0 Tryz.isAgg9 at39 rfl)) ?_
 obtain ⟨r43, hr44, hp⟩ := bnd hp
 refine FL.call rfl rfl rfl (E.call Tryz.call305 (A1 rfl)) (w_spec_l1Read S29.sl x41 hr44) ?_
 rintro e w45 ⟨rfl, r46⟩
 refine ⟨_, rfl, ?_⟩
 have S47 := S29.call r46
 refine FL.v (E.move (v := Value.tuple #[Value.int .i64 r43.1, Value.bool r43.2]) rfl) ?_
 refine FL.v (E.extract (i := 0) rfl rfl) ?_
 refine FL.v (E.extract (i := 1) rfl rfl) ?_
 refine FL.v (E.assign (v := Value.int .i64 r43.1) rfl) ?_
 refine FL.v (E.assign (v := Value.bool r43.2) rfl) ?_
 refine FL.nil (FW.seq (FW.seq (FW.region ?_)))
 refine FL.v (E.move (v := Value.bool r43.2) rfl) ?_
 refine FL.v (E.not rfl) ?_
 refine FL.v (E.move (v := Value.bool (!r43.2)) rfl) ?_
 refine FL.cut 4 (fun f w => ∃ H : GH, St Ha wa H w [.row 9 1 v31 n32 cs33, .box b21 26 [Value.int .i64 0, Value.slice none 0 0]] ∧ Inc H27 H ∧ f 0 = Value.string a0 ∧ f 2 = Value.pointer (some (⟨b21, 0, none⟩ : Addr)) ∧ f 4 = v31 ∧ f 5 = Value.int .i64 r43.1 ∧ f 26 = Value.bool (bif (!r43.2) then true else (!(PF.spec_l2Vars r43.1)))) ?_ ?_
 ·
  rcases bcase (!r43.2) with c57 | c57
  ·
   refine FL.skip (wF_no rfl rfl rfl c57) rfl ?_
   refine FL.skip (wF_no rfl rfl rfl c57) rfl ?_
   refine FL.skip (wF_no rfl rfl rfl c57) rfl ?_
   refine FL.v (E.pickT rfl c57 rfl) ?_
   exact FL.nil ⟨rfl, _, S47, (Inc.rfl _), rfl, rfl, rfl, rfl, (congrArg Value.bool (bifT c57).symm)⟩
  ·
   refine FL.val (wF_yes rfl rfl rfl c57) rfl rfl (E.move (v := Value.int .i64 r43.1) rfl) ?_
   refine FL.call (wF_yes rfl rfl rfl c57) rfl rfl (E.call Tryz.call179 (A1 rfl)) (w_spec_l2Vars S47.sl r43.1) ?_
   rintro e w58 ⟨rfl, r59⟩
   refine ⟨_, rfl, ?_⟩
   have S60 := S47.call r59
   refine FL.val (wF_yes rfl rfl rfl c57) rfl rfl (E.not rfl) ?_
   refine FL.v (E.pickF rfl c57 rfl) ?_
   exact FL.nil ⟨rfl, _, S60, (Inc.rfl _), rfl, rfl, rfl, rfl, (congrArg Value.bool (bifF c57).symm)⟩
 rintro f56 w55 ⟨H52, S53, i54, k61, k62, k63, k64, k65⟩
 refine FL.v (E.move k65) ?_
 refine FL.cut 4 (fun f w => ∃ H : GH, St Ha wa H w [.row 9 1 v31 n32 cs33, .box b21 26 [Value.int .i64 0, Value.slice none 0 0]] ∧ Inc H52 H ∧ f 0 = Value.string a0 ∧ f 2 = Value.pointer (some (⟨b21, 0, none⟩ : Addr)) ∧ f 4 = v31 ∧ f 5 = Value.int .i64 r43.1 ∧ f 31 = Value.bool (bif (bif (!r43.2) then true else (!(PF.spec_l2Vars r43.1))) then true else (decide (61 < (len r25))))) ?_ ?_
 ·
  rcases bcase (bif (!r43.2) then true else (!(PF.spec_l2Vars r43.1))) with c72 | c72
  ·
   refine FL.skip (wF_no rfl rfl rfl c72) rfl ?_
   refine FL.skip (wF_no rfl rfl rfl c72) rfl ?_
   refine FL.skip (wF_no rfl rfl rfl c72) rfl ?_
   refine FL.v (E.pickT rfl c72 rfl) ?_
   exact FL.nil ⟨rfl, _, S53, (Inc.rfl _), k61, k62, k63, k64, (congrArg Value.bool (bifT c72).symm)⟩
  ·
   refine FL.val (wF_yes rfl rfl rfl c72) rfl rfl (E.move k63) ?_
   refine FL.val (wF_yes rfl rfl rfl c72) rfl rfl (E.lenO te171 rfl S53 (i := 0) rfl els34 (by decide)) ?_
   refine FL.val (wF_yes rfl rfl rfl c72) rfl rfl (E.gtr rfl rfl) ?_
   refine FL.v (E.pickF rfl c72 rfl) ?_
   exact FL.nil ⟨rfl, _, S53, (Inc.rfl _), k61, k62, k63, k64, (congrArg Value.bool (bifF c72).symm)⟩
 rintro f71 w70 ⟨H67, S68, i69, k73, k74, k75, k76, k77⟩
 refine FL.nil ?_
 rcases ifB hp with ⟨c78, hp⟩ | ⟨c78, hp⟩
 ·
  refine FW.condT k77 c78 ?_
  refine FW.seq (FW.region ?_)
  refine FL.v (E.build (B0) (run_build _ 26 #[] #[Value.int .i64 0, Value.slice none 0 0] (by rfl))) ?_
  obtain ⟨w79, run80, S81⟩ := S68.store0 (P := Tryz.prog) (t := 26) (i := 1) (cs' := [Value.int .i64 0, Value.slice none 0 0]) (l' := [.row 9 1 v31 n32 cs33, .box b21 26 [Value.int .i64 0, Value.slice none 0 0]]) (v := Value.agg #[Value.int .i64 0, Value.slice none 0 0]) (c := [Value.int .i64 0, Value.slice none 0 0]) rfl Tryz.sizeOf26 rfl rfl (ones_cons rfl (ones_cons rfl ones_nil)) (Nat.le_of_ble_eq_true rfl) rfl rfl
  refine FL.act rfl rfl (E.store k74 rfl run80) ?_
  refine FL.v (E.assign (v := Value.bool false) rfl) ?_
  refine FL.nil ?_
  refine FW.ret ?_
  obtain rfl := Option.some.inj hp
  exact ⟨.inr rfl, resC2 rfl k74 (loadVar_A Tryz.isAgg26 Tryz.sizeOf26 (S81.box_now (i := 1) rfl) rfl) rfl ⟨_, _, rfl, S81.run, ⟨_, Nest.nil⟩⟩⟩
 ·
  refine FW.condF k77 c78 ?_
  refine FW.skip (FW.seq (FW.region ?_))
  refine FL.v (E.move k76) ?_
  obtain ⟨v82, w83, run84, S85⟩ := S68.buildSlice (P := Tryz.prog) te24 [] (parts := #[]) (cells := []) rfl szs_nil fc_nil ones_nil (Nat.le_of_ble_eq_true rfl)
  have els86 : Els (up wa.heap.size H67) (eL eI 1) 1 [] [] := Els.nil
  refine FL.v (E.buildSlice (B0) run84) ?_
  refine FL.v (E.build (B2 rfl rfl) (run_build _ 26 #[(0, Value.int .i64 r43.1), (1, v82)] #[Value.int .i64 r43.1, v82] (by obtain ⟨_, _, rfl⟩ := S85.row_ln (i := 0) rfl; rfl))) ?_
  obtain ⟨b87, w88, run89, S90⟩ := S85.alloc (P := Tryz.prog) 26 [Value.int .i64 0, Value.slice none 0 0] Tryz.zeroValue26 rfl (ones_cons rfl (ones_cons rfl ones_nil))
  refine FL.v (E.alloc run89) ?_
  obtain ⟨w91, run92, S93⟩ := S90.store0 (P := Tryz.prog) (t := 26) (i := 0) (cs' := [Value.int .i64 r43.1, v82]) (l' := [.box b87 26 [Value.int .i64 r43.1, v82], .row 34 1 v82 0 [], .row 9 1 v31 n32 cs33, .box b21 26 [Value.int .i64 0, Value.slice none 0 0]]) (v := Value.agg #[Value.int .i64 r43.1, v82]) (c := [Value.int .i64 r43.1, v82]) rfl Tryz.sizeOf26 rfl rfl (ones_cons rfl (ones_cons (Ln.one (S90.row_ln (i := 1) rfl)) ones_nil)) (Nat.le_of_ble_eq_true rfl) rfl rfl
  refine FL.act rfl rfl (E.store rfl rfl run92) ?_
  refine FL.nil (FW.seq (FW.seq (FW.region ?_)))
  refine FL.v (E.assign (v := Value.int .i64 1) rfl) ?_
  refine FL.nil ?_
  obtain ⟨q94, hq, hp⟩ := bndR hp
  refine FW.block ?_
  refine FW.mono (FW.iter (S := ((List (List Int)) × Int × Int)) (X := (Cnf × Bool)) (fun (s94 : ((List (List Int)) × Int × Int)) f w => ∃ H : GH, ∃ v203 : Value, ∃ n204 : Nat, ∃ cs205 : List Value, St Ha wa H w [.box b87 26 [Value.int .i64 s94.2.1, v203], .row 34 1 v203 n204 cs205, .row 9 1 v31 n32 cs33, .box b21 26 [Value.int .i64 0, Value.slice none 0 0]] ∧ Inc H67 H ∧ Els (up wa.heap.size H) (eL eI 1) 1 cs205 s94.1 ∧ (bl cs205).Nodup ∧ f 0 = Value.string a0 ∧ f 2 = Value.pointer (some (⟨b21, 0, none⟩ : Addr)) ∧ f 4 = v31 ∧ f 5 = Value.int .i64 r43.1 ∧ f 7 = Value.pointer (some (⟨b87, 0, none⟩ : Addr)) ∧ f 8 = Value.int .i64 s94.2.2) (fun q e f w => match q with | .go s94 => e = Exit.exit 0 ∧ (∃ H : GH, ∃ v203 : Value, ∃ n204 : Nat, ∃ cs205 : List Value, St Ha wa H w [.box b87 26 [Value.int .i64 s94.2.1, v203], .row 34 1 v203 n204 cs205, .row 9 1 v31 n32 cs33, .box b21 26 [Value.int .i64 0, Value.slice none 0 0]] ∧ Inc H67 H ∧ Els (up wa.heap.size H) (eL eI 1) 1 cs205 s94.1 ∧ (bl cs205).Nodup ∧ f 0 = Value.string a0 ∧ f 2 = Value.pointer (some (⟨b21, 0, none⟩ : Addr)) ∧ f 7 = Value.pointer (some (⟨b87, 0, none⟩ : Addr))) | .rt x => ((e = Exit.ret) ∧ (fun e f w => (e = Exit.normal ∨ e = Exit.ret) ∧ ∀ a, Fr (δ := []) 82 a f → ∃ v, (results Tryz.f242 a.tmps).run Tryz.prog w = .ok v w ∧ (p_spec_ParseCnf Ha wa x) (.returned v) w) e f w)) hq ⟨_, _, _, _, S93, (Inc.rfl _), els86, (show (bl []).Nodup from List.nodup_nil), k73, k74, k75, k76, rfl, rfl⟩ ?_) ?_
  ·
   clear hp hq
   rintro s94 f320 w319 ⟨H316, v203, n204, cs205, S317, i318, els206, nd207, k321, k322, k323, k324, k325, k326⟩ o424 hp
   refine FW.seq (FW.seq (FW.region ?_))
   refine FL.v (E.move k326) ?_
   refine FL.v (E.move k323) ?_
   refine FL.v (E.lenO te171 rfl S317 (i := 2) rfl els34 (by decide)) ?_
   refine FL.v (E.lss rfl rfl) ?_
   refine FL.nil ?_
   rcases ifB hp with ⟨c327, hp⟩ | ⟨c327, hp⟩
   ·
    refine FW.condT rfl c327 ?_
    refine FW.skip (FW.seq (FW.block (FW.seq (FW.seq (FW.region ?_)))))
    refine FL.v (E.move k323) ?_
    refine FL.v (E.move k326) ?_
    obtain ⟨x334, hx335, hp⟩ := bnd hp
    obtain ⟨p328, cs329, pt330, l331, at332, rel333⟩ := S317.row_at (i := 2) rfl els34 (by decide) hx335
    obtain rfl := eS_open rel333
    refine FL.v (E.indexAddr te171 rfl rfl pt330) ?_
    refine FL.v (E.load rfl (run_load0 Tryz.isAgg9 at332 rfl)) ?_
    refine FL.v (E.lenS Tryz.runUnderlying9 rfl) ?_
    refine FL.v (E.lss rfl rfl) ?_
    refine FL.v (E.move (v := Value.bool (decide ((x334.size : Int) < 2))) rfl) ?_
    obtain ⟨t346, hqt346, hp⟩ := bnd hp
    refine FL.cut 7 (fun f w => ∃ H : GH, St Ha wa H w [.box b87 26 [Value.int .i64 s94.2.1, v203], .row 34 1 v203 n204 cs205, .row 9 1 v31 n32 cs33, .box b21 26 [Value.int .i64 0, Value.slice none 0 0]] ∧ Inc H316 H ∧ f 0 = Value.string a0 ∧ f 2 = Value.pointer (some (⟨b21, 0, none⟩ : Addr)) ∧ f 4 = v31 ∧ f 5 = Value.int .i64 r43.1 ∧ f 7 = Value.pointer (some (⟨b87, 0, none⟩ : Addr)) ∧ f 8 = Value.int .i64 s94.2.2 ∧ f 55 = Value.bool t346) ?_ ?_
    ·
     clear hp; have hp := hqt346; clear hqt346
     rcases ifB hp with ⟨c352, hp⟩ | ⟨c352, hp⟩
     ·
      refine FL.skip (wF_no rfl rfl rfl c352) rfl ?_
      refine FL.skip (wF_no rfl rfl rfl c352) rfl ?_
      refine FL.skip (wF_no rfl rfl rfl c352) rfl ?_
      refine FL.skip (wF_no rfl rfl rfl c352) rfl ?_
      refine FL.skip (wF_no rfl rfl rfl c352) rfl ?_
      refine FL.skip (wF_no rfl rfl rfl c352) rfl ?_
      obtain rfl := Option.some.inj hp
      refine FL.v (E.pickT rfl c352 rfl) ?_
      exact FL.nil ⟨rfl, _, S317, (Inc.rfl _), k321, k322, k323, k324, k325, k326, rfl⟩
     ·
      refine FL.val (wF_yes rfl rfl rfl c352) rfl rfl (E.move k323) ?_
      refine FL.val (wF_yes rfl rfl rfl c352) rfl rfl (E.move k326) ?_
      obtain ⟨x359, hx360, hp⟩ := bnd hp
      obtain ⟨p353, cs354, pt355, l356, at357, rel358⟩ := S317.row_at (i := 2) rfl els34 (by decide) hx360
      obtain rfl := eS_open rel358
      refine FL.val (wF_yes rfl rfl rfl c352) rfl rfl (E.indexAddr te171 rfl rfl pt355) ?_
      refine FL.val (wF_yes rfl rfl rfl c352) rfl rfl (E.load rfl (run_load0 Tryz.isAgg9 at357 rfl)) ?_
      obtain ⟨z361, h362, hp⟩ := bnd hp
      refine FL.val (wF_yes rfl rfl rfl c352) rfl rfl (E.ixS Tryz.runUnderlying9 rfl rfl h362) ?_
      refine FL.val (wF_yes rfl rfl rfl c352) rfl rfl (E.neq rfl rfl) ?_
      obtain rfl := Option.some.inj hp
      refine FL.v (E.pickF rfl c352 rfl) ?_
      exact FL.nil ⟨rfl, _, S317, (Inc.rfl _), k321, k322, k323, k324, k325, k326, rfl⟩
    rintro f351 w350 ⟨H347, S348, i349, k363, k364, k365, k366, k367, k368, k369⟩
    refine FL.nil ?_
    rcases ifB hp with ⟨c370, hp⟩ | ⟨c370, hp⟩
    ·
     refine FW.condT k369 c370 ?_
     refine FW.seq (FW.region ?_)
     refine FL.v (E.build (B0) (run_build _ 26 #[] #[Value.int .i64 0, Value.slice none 0 0] (by rfl))) ?_
     obtain ⟨w371, run372, S373⟩ := S348.store0 (P := Tryz.prog) (t := 26) (i := 3) (cs' := [Value.int .i64 0, Value.slice none 0 0]) (l' := [.box b87 26 [Value.int .i64 s94.2.1, v203], .row 34 1 v203 n204 cs205, .row 9 1 v31 n32 cs33, .box b21 26 [Value.int .i64 0, Value.slice none 0 0]]) (v := Value.agg #[Value.int .i64 0, Value.slice none 0 0]) (c := [Value.int .i64 0, Value.slice none 0 0]) rfl Tryz.sizeOf26 rfl rfl (ones_cons rfl (ones_cons rfl ones_nil)) (Nat.le_of_ble_eq_true rfl) rfl rfl
     refine FL.act rfl rfl (E.store k364 rfl run372) ?_
     refine FL.v (E.assign (v := Value.bool false) rfl) ?_
     refine FL.nil ?_
     refine FW.ret ?_
     obtain rfl := Option.some.inj hp
     exact ⟨nofun, rfl, ⟨.inr rfl, resC2 rfl k364 (loadVar_A Tryz.isAgg26 Tryz.sizeOf26 (S373.box_now (i := 3) rfl) rfl) rfl ⟨_, _, rfl, S373.run, ⟨_, Nest.nil⟩⟩⟩⟩
    ·
     refine FW.condF k369 c370 ?_
     refine FW.skip (FW.seq (FW.region ?_))
     refine FL.v (E.move k366) ?_
     refine FL.v (E.move k365) ?_
     refine FL.v (E.move k368) ?_
     obtain ⟨x380, hx381, hp⟩ := bnd hp
     obtain ⟨p374, cs375, pt376, l377, at378, rel379⟩ := S348.row_at (i := 2) rfl els34 (by decide) hx381
     obtain rfl := eS_open rel379
     refine FL.v (E.indexAddr te171 rfl rfl pt376) ?_
     refine FL.v (E.load rfl (run_load0 Tryz.isAgg9 at378 rfl)) ?_
     obtain ⟨z382, h383, hp⟩ := bnd hp
     refine FL.v (E.cutS (kl := .i64) (kh := .i64) Tryz.underlying9 rfl (.inr ⟨_, rfl, rfl⟩) (.inl ⟨rfl, rfl⟩) h383) ?_
     obtain ⟨r384, hr385, hp⟩ := bnd hp
     refine FL.call rfl rfl rfl (E.call Tryz.call306 (A2 rfl rfl)) (w_spec_l2Parse S348.sl r43.1 z382 hr385) ?_
     rintro e w387 ⟨H386, v390, n391, cs392, rfl, r389, els393⟩
     refine ⟨_, rfl, ?_⟩
     have els393 := els393.mono (up_le S348.size)
     have S388 := S348.join (l' := [.row 3 1 v390 n391 cs392, .box b87 26 [Value.int .i64 s94.2.1, v203], .row 34 1 v203 n204 cs205, .row 9 1 v31 n32 cs33, .box b21 26 [Value.int .i64 0, Value.slice none 0 0]]) r389 rfl
     refine FL.v (E.move (v := Value.tuple #[v390, Value.bool r384.2]) rfl) ?_
     refine FL.v (E.extract (i := 0) rfl rfl) ?_
     refine FL.v (E.extract (i := 1) rfl rfl) ?_
     refine FL.v (E.assign (v := v390) rfl) ?_
     refine FL.v (E.assign (v := Value.bool r384.2) rfl) ?_
     refine FL.nil (FW.seq (FW.seq (FW.region ?_)))
     refine FL.v (E.move (v := Value.bool r384.2) rfl) ?_
     refine FL.v (E.not rfl) ?_
     refine FL.nil ?_
     rcases ifB hp with ⟨c394, hp⟩ | ⟨c394, hp⟩
     ·
      refine FW.condT rfl c394 ?_
      refine FW.seq (FW.region ?_)
      refine FL.v (E.build (B0) (run_build _ 26 #[] #[Value.int .i64 0, Value.slice none 0 0] (by rfl))) ?_
      obtain ⟨w395, run396, S397⟩ := S388.store0 (P := Tryz.prog) (t := 26) (i := 4) (cs' := [Value.int .i64 0, Value.slice none 0 0]) (l' := [.row 3 1 v390 n391 cs392, .box b87 26 [Value.int .i64 s94.2.1, v203], .row 34 1 v203 n204 cs205, .row 9 1 v31 n32 cs33, .box b21 26 [Value.int .i64 0, Value.slice none 0 0]]) (v := Value.agg #[Value.int .i64 0, Value.slice none 0 0]) (c := [Value.int .i64 0, Value.slice none 0 0]) rfl Tryz.sizeOf26 rfl rfl (ones_cons rfl (ones_cons rfl ones_nil)) (Nat.le_of_ble_eq_true rfl) rfl rfl
      refine FL.act rfl rfl (E.store k364 rfl run396) ?_
      refine FL.v (E.assign (v := Value.bool false) rfl) ?_
      refine FL.nil ?_
      refine FW.ret ?_
      obtain rfl := Option.some.inj hp
      exact ⟨nofun, rfl, ⟨.inr rfl, resC2 rfl k364 (loadVar_A Tryz.isAgg26 Tryz.sizeOf26 (S397.box_now (i := 4) rfl) rfl) rfl ⟨_, _, rfl, S397.run, ⟨_, Nest.nil⟩⟩⟩⟩
     ·
      refine FW.condF rfl c394 ?_
      refine FW.skip (FW.region ?_)
      refine FL.v (E.fieldAddr tf26_1 k367) ?_
      refine FL.v (E.load rfl (run_load1 Tryz.isAgg24 (S388.box_now (i := 1) rfl) rfl)) ?_
      refine FL.v (E.move (v := v390) rfl) ?_
      obtain ⟨H398, S399, i400, h401, nv402⟩ := S388.sealRowU (i := 0) (l' := [.box b87 26 [Value.int .i64 s94.2.1, v203], .row 34 1 v203 n204 cs205, .row 9 1 v31 n32 cs33, .box b21 26 [Value.int .i64 0, Value.slice none 0 0]]) rfl els393 (by decide) rfl
      obtain ⟨v403, w404, run405, S406⟩ := S399.buildSlice (P := Tryz.prog) te24 [v390] (parts := #[(0, v390)]) (cells := [v390]) rfl (szs_cons (cells_size h401.cells) szs_nil) (fc_cons h401.cells fc_nil) (ones_cons h401.one ones_nil) (Nat.le_of_ble_eq_true rfl)
      have els407 : Els (up wa.heap.size H398) (eL eI 1) 1 [v390] [r384.1] := (Els.snoc (H := (up wa.heap.size H398)) (E := (eL eI 1)) (k := 1) (c := [v390]) (x := r384.1) Els.nil rfl ⟨_, rfl, h401⟩)
      have nd408 : (bl [v390]).Nodup := by exact nd_one v390
      refine FL.v (E.buildSlice (B1 rfl) run405) ?_
      obtain ⟨xs409, hz410, hp⟩ := bnd hp
      obtain ⟨v411, w414, n412, cs413, run415, S416, els417, ce418⟩ := S406.appendO (P := Tryz.prog) te24 (i := 2) (j := 0) rfl (els206.mono (up_mono ((i349.tr r389.run.inc).tr i400))) rfl els407 hz410
      have S416 : St Ha wa H398 w414 [.row 34 1 v403 1 [v390], .box b87 26 [Value.int .i64 s94.2.1, v203], .row 34 1 v411 n412 cs413, .row 9 1 v31 n32 cs33, .box b21 26 [Value.int .i64 0, Value.slice none 0 0]] := S416
      have nd419 : (bl cs413).Nodup := by rw [ce418]; exact nd_app nd207 nd408 (Els.dom (els206.mono (upI.tr (i349.tr r389.run.inc)))) (by exact nv402)
      have S420 : St Ha wa H398 w414 [.box b87 26 [Value.int .i64 s94.2.1, v203], .row 34 1 v411 n412 cs413, .row 9 1 v31 n32 cs33, .box b21 26 [Value.int .i64 0, Value.slice none 0 0]] := S416.drop 0
      refine FL.v (E.append rfl rfl run415) ?_
      refine FL.v (E.fieldAddr tf26_1 k367) ?_
      obtain ⟨w421, run422, S423⟩ := S420.store (P := Tryz.prog) (t := 24) (i := 0) (j := 1) (cs' := [Value.int .i64 s94.2.1, v411]) (l' := [.box b87 26 [Value.int .i64 s94.2.1, v411], .row 34 1 v411 n412 cs413, .row 9 1 v31 n32 cs33, .box b21 26 [Value.int .i64 0, Value.slice none 0 0]]) (v := v411) (c := [v411]) rfl Tryz.sizeOf24 (Ln.cells (S420.row_ln (i := 1) rfl)) rfl (ones_cons (Ln.one (S420.row_ln (i := 1) rfl)) ones_nil) (Nat.le_of_ble_eq_true rfl) rfl rfl
      refine FL.act rfl rfl (E.store rfl rfl run422) ?_
      refine FL.nil (FW.region ?_)
      refine FL.v (E.move k368) ?_
      refine FL.v (E.add rfl rfl) ?_
      refine FL.v (E.assign (v := Value.int .i64 (wr (s94.2.2 + 1))) rfl) ?_
      refine FL.nil ?_
      obtain rfl := Option.some.inj hp
      exact ⟨rfl, ⟨_, _, _, _, S423, (((i318.tr i349).tr r389.run.inc).tr i400), els417, nd419, k363, k364, k365, k366, k367, rfl⟩⟩
   ·
    refine FW.condF rfl c327 ?_
    refine FW.exit ?_
    obtain rfl := Option.some.inj hp
    exact ⟨nofun, rfl, ⟨_, _, _, _, S317, i318, els206, nd207, k321, k322, k325⟩⟩
  ·
   clear hq
   intro e f429 w428 hD
   rcases q94 with s94 | x94
   ·
    obtain ⟨rfl, hD⟩ := hD
    obtain ⟨H425, v203, n204, cs205, S426, i427, els206, nd207, k430, k431, k432⟩ := hD
    replace hp := el_go hp
    refine FW.seq (FW.seq (FW.region ?_))
    refine FL.v (E.load k432 (run_loadA Tryz.isAgg26 Tryz.sizeOf26 (S426.box_now (i := 0) rfl) rfl)) ?_
    obtain ⟨H433, S434, i435, ns438, nv437⟩ := S426.sealRowN (i := 1) (l' := [.box b87 26 [Value.int .i64 s94.2.1, v203], .row 9 1 v31 n32 cs33, .box b21 26 [Value.int .i64 0, Value.slice none 0 0]]) rfl els206 nd207 (by decide) rfl
    have h436 := ns438.rsl
    obtain ⟨r439, hr440, hp⟩ := bnd hp
    refine FL.call rfl rfl rfl (E.call Tryz.call307 (A1 rfl)) (w_spec_l2TextOf S434.sl (Cnf.mk s94.2.1 s94.1) v203 (h436.mono upI) hr440) ?_
    rintro e w441 ⟨rfl, r442⟩
    refine ⟨_, rfl, ?_⟩
    have r442 := Run.lend i435 S426.sl r442
    have S443 := S426.call r442
    refine FL.v (E.move k430) ?_
    refine FL.v (E.neqS rfl rfl) ?_
    refine FL.nil ?_
    rcases ifB hp with ⟨c444, hp⟩ | ⟨c444, hp⟩
    ·
     refine FW.condT rfl c444 ?_
     refine FW.seq (FW.region ?_)
     refine FL.v (E.build (B0) (run_build _ 26 #[] #[Value.int .i64 0, Value.slice none 0 0] (by rfl))) ?_
     obtain ⟨w445, run446, S447⟩ := S443.store0 (P := Tryz.prog) (t := 26) (i := 3) (cs' := [Value.int .i64 0, Value.slice none 0 0]) (l' := [.box b87 26 [Value.int .i64 s94.2.1, v203], .row 34 1 v203 n204 cs205, .row 9 1 v31 n32 cs33, .box b21 26 [Value.int .i64 0, Value.slice none 0 0]]) (v := Value.agg #[Value.int .i64 0, Value.slice none 0 0]) (c := [Value.int .i64 0, Value.slice none 0 0]) rfl Tryz.sizeOf26 rfl rfl (ones_cons rfl (ones_cons rfl ones_nil)) (Nat.le_of_ble_eq_true rfl) rfl rfl
     refine FL.act rfl rfl (E.store k431 rfl run446) ?_
     refine FL.v (E.assign (v := Value.bool false) rfl) ?_
     refine FL.nil ?_
     refine FW.ret ?_
     obtain rfl := Option.some.inj hp
     exact ⟨.inr rfl, resC2 rfl k431 (loadVar_A Tryz.isAgg26 Tryz.sizeOf26 (S447.box_now (i := 3) rfl) rfl) rfl ⟨_, _, rfl, S447.run, ⟨_, Nest.nil⟩⟩⟩
    ·
     refine FW.condF rfl c444 ?_
     refine FW.skip (FW.seq (FW.region ?_))
     refine FL.v (E.load k432 (run_loadA Tryz.isAgg26 Tryz.sizeOf26 (S443.box_now (i := 0) rfl) rfl)) ?_
     obtain ⟨w448, run449, S450⟩ := S443.store0 (P := Tryz.prog) (t := 26) (i := 3) (cs' := [Value.int .i64 s94.2.1, v203]) (l' := [.box b87 26 [Value.int .i64 s94.2.1, v203], .row 34 1 v203 n204 cs205, .row 9 1 v31 n32 cs33, .box b21 26 [Value.int .i64 s94.2.1, v203]]) (v := Value.agg #[Value.int .i64 s94.2.1, v203]) (c := [Value.int .i64 s94.2.1, v203]) rfl Tryz.sizeOf26 rfl rfl (ones_cons rfl (ones_cons (Ln.one (S443.row_ln (i := 1) rfl)) ones_nil)) (Nat.le_of_ble_eq_true rfl) rfl rfl
     refine FL.act rfl rfl (E.store k431 rfl run449) ?_
     refine FL.v (E.assign (v := Value.bool true) rfl) ?_
     refine FL.nil ?_
     refine FW.ret ?_
     obtain ⟨H451, S452, i453, ns456, nv455⟩ := S450.sealRowN (i := 1) (l' := [.box b87 26 [Value.int .i64 s94.2.1, v203], .row 9 1 v31 n32 cs33, .box b21 26 [Value.int .i64 s94.2.1, v203]]) rfl els206 nd207 (by decide) rfl
     have h454 := ns456.rsl
     obtain rfl := Option.some.inj hp
     exact ⟨.inr rfl, resC2 rfl k431 (loadVar_A Tryz.isAgg26 Tryz.sizeOf26 (S452.box_now (i := 2) rfl) rfl) rfl ⟨_, _, rfl, S452.run, ⟨_, ns456⟩⟩⟩
   ·
    obtain ⟨he, hL⟩ := hD
    replace hp := el_rt hp
    obtain rfl := Option.some.inj hp
    subst he
    exact hL

@[reducible] def p_spec_l2Known (Ha : GH) (wa : World) (r : Cnf) : Ending → World → Prop :=
 fun e w' => ∃ H' : GH, ∃ v0_1 : Value, e = .returned (Value.agg #[Value.int .i64 r.vars, v0_1]) ∧ Run wa.heap.size Ha wa H' w' ∧ (∃ c, Nest (up wa.heap.size H') (eL eI 1) 1 v0_1 r.clauses c)
theorem w_spec_l2Known {Ha : GH} {wa : World} (hs : Sl Ha wa) (a0 : ByteArray) {r : Cnf} (hp : (PF.spec_l2Known a0) = some r) :
  Calls Tryz.prog 156 #[Value.string a0] wa (p_spec_l2Known Ha wa r) := by
 unfold PF.spec_l2Known at hp
 have S0 := St.init hs
 refine calls_go (N := 11) (args := [Value.string a0]) Tryz.func156 rfl rfl rfl ?_
 refine FW.seq (FW.region ?_)
 obtain ⟨b21, w22, run23, S24⟩ := S0.alloc (P := Tryz.prog) 26 [Value.int .i64 0, Value.slice none 0 0] Tryz.zeroValue26 rfl (ones_cons rfl (ones_cons rfl ones_nil))
 refine FL.v (E.alloc run23) ?_
 refine FL.nil (FW.seq (FW.region ?_))
 refine FL.v (E.move (v := Value.string a0) rfl) ?_
 obtain ⟨r25, hr26, hp⟩ := bnd hp
 refine FL.call rfl rfl rfl (E.call Tryz.call242 (A1 rfl)) (w_spec_ParseCnf S24.sl a0 hr26) ?_
 rintro e w28 ⟨H27, v31, rfl, r30, ⟨c34, ns33⟩⟩
 refine ⟨_, rfl, ?_⟩
 have h32 := ns33.rsl
 have nv35 : New Ha c34 := New.of_up S24.sl (fun b hb => ns33.dom b (.inr hb))
 have nv36 : New Ha [v31] := New.of_up S24.sl h32.dom
 have h32 := h32.mono (up_le S24.size)
 have ns33 := ns33.mono (up_le S24.size)
 have S29 := S24.call r30
 refine FL.v (E.move (v := Value.tuple #[Value.agg #[Value.int .i64 r25.1.vars, v31], Value.bool r25.2]) rfl) ?_
 refine FL.v (E.extract (i := 0) rfl rfl) ?_
 refine FL.v (E.extract (i := 1) rfl rfl) ?_
 obtain ⟨b37, w38, run39, S40⟩ := S29.alloc (P := Tryz.prog) 26 [Value.int .i64 0, Value.slice none 0 0] Tryz.zeroValue26 rfl (ones_cons rfl (ones_cons rfl ones_nil))
 refine FL.v (E.alloc run39) ?_
 obtain ⟨w41, run42, S43⟩ := S40.store0 (P := Tryz.prog) (t := 26) (i := 0) (cs' := [Value.int .i64 r25.1.vars, v31]) (l' := [.box b37 26 [Value.int .i64 r25.1.vars, v31], .box b21 26 [Value.int .i64 0, Value.slice none 0 0]]) (v := Value.agg #[Value.int .i64 r25.1.vars, v31]) (c := [Value.int .i64 r25.1.vars, v31]) rfl Tryz.sizeOf26 rfl rfl (ones_cons rfl (ones_cons h32.one ones_nil)) (Nat.le_of_ble_eq_true rfl) rfl rfl
 refine FL.act rfl rfl (E.store rfl rfl run42) ?_
 obtain ⟨H44, S45, i46, at47⟩ := S43.sealBox (i := 0) (l' := [.box b21 26 [Value.int .i64 0, Value.slice none 0 0]]) rfl rfl
 refine FL.v (E.assign (v := Value.bool r25.2) rfl) ?_
 refine FL.nil (FW.seq (FW.region ?_))
 refine FL.v (E.load rfl (run_loadA Tryz.isAgg26 Tryz.sizeOf26 (at47.now S45.sl) rfl)) ?_
 obtain ⟨w48, run49, S50⟩ := S45.store0 (P := Tryz.prog) (t := 26) (i := 0) (cs' := [Value.int .i64 r25.1.vars, v31]) (l' := [.box b21 26 [Value.int .i64 r25.1.vars, v31]]) (v := Value.agg #[Value.int .i64 r25.1.vars, v31]) (c := [Value.int .i64 r25.1.vars, v31]) rfl Tryz.sizeOf26 rfl rfl (ones_cons rfl (ones_cons h32.one ones_nil)) (Nat.le_of_ble_eq_true rfl) rfl rfl
 refine FL.act rfl rfl (E.store rfl rfl run49) ?_
 obtain ⟨H51, S52, i53, at54⟩ := S50.sealBox (i := 0) (l' := []) rfl rfl
 refine FL.nil ?_
 refine FW.ret ?_
 obtain rfl := Option.some.inj hp
 exact ⟨.inr rfl, resC rfl rfl (loadVar_A Tryz.isAgg26 Tryz.sizeOf26 (at54.now S52.sl) rfl) ⟨_, _, rfl, S52.run, ⟨_, (ns33.mono (up_mono (i46.tr i53)))⟩⟩⟩

theorem w_spec_l2Good {Ha : GH} {wa : World} (hs : Sl Ha wa) (a0 : Cnf) (v0_1 : Value) (p0_1 : RSl Ha (eL eI 1) 1 v0_1 a0.clauses) {r : Bool} (hp : (PF.spec_l2Good a0) = some r) :
  Calls Tryz.prog 81 #[Value.agg #[Value.int .i64 a0.vars, v0_1]] wa (Sc Ha wa (Value.bool r)) := by
 unfold PF.spec_l2Good at hp
 have S0 := St.init hs
 refine calls_go (N := 30) (args := [Value.agg #[Value.int .i64 a0.vars, v0_1]]) Tryz.func81 rfl rfl rfl ?_
 refine FW.seq (FW.region ?_)
 obtain ⟨b21, w22, run23, S24⟩ := S0.box (P := Tryz.prog) 26 [Value.int .i64 a0.vars, v0_1] (v := Value.agg #[Value.int .i64 a0.vars, v0_1]) rfl (ones_cons rfl (ones_cons p0_1.one ones_nil))
 refine FL.v (E.box rfl run23) ?_
 obtain ⟨H25, S26, i27, at28⟩ := S24.sealBox (i := 0) (l' := []) rfl rfl
 refine FL.v (E.assign (v := Value.bool false) rfl) ?_
 refine FL.nil (FW.seq (FW.seq (FW.region ?_)))
 refine FL.v (E.fieldAddr tf26_0 rfl) ?_
 refine FL.v (E.load rfl (run_load1 Tryz.isAgg3 (at28.now S26.sl) rfl)) ?_
 refine FL.call rfl rfl rfl (E.call Tryz.call179 (A1 rfl)) (w_spec_l2Vars S26.sl a0.vars) ?_
 rintro e w29 ⟨rfl, r30⟩
 refine ⟨_, rfl, ?_⟩
 have S31 := S26.call r30
 refine FL.v (E.not rfl) ?_
 refine FL.v (E.move (v := Value.bool (!(PF.spec_l2Vars a0.vars))) rfl) ?_
 refine FL.cut 5 (fun f w => ∃ H : GH, St Ha wa H w [] ∧ Inc H25 H ∧ f 1 = Value.pointer (some ⟨b21, 0, none⟩) ∧ f 13 = Value.bool (bif (!(PF.spec_l2Vars a0.vars)) then true else (decide (60 < (len a0.clauses))))) ?_ ?_
 ·
  rcases bcase (!(PF.spec_l2Vars a0.vars)) with c38 | c38
  ·
   refine FL.skip (wF_no rfl rfl rfl c38) rfl ?_
   refine FL.skip (wF_no rfl rfl rfl c38) rfl ?_
   refine FL.skip (wF_no rfl rfl rfl c38) rfl ?_
   refine FL.skip (wF_no rfl rfl rfl c38) rfl ?_
   refine FL.v (E.pickT rfl c38 rfl) ?_
   exact FL.nil ⟨rfl, _, S31, (Inc.rfl _), rfl, (congrArg Value.bool (bifT c38).symm)⟩
  ·
   refine FL.val (wF_yes rfl rfl rfl c38) rfl rfl (E.fieldAddr tf26_1 rfl) ?_
   refine FL.val (wF_yes rfl rfl rfl c38) rfl rfl (E.load rfl (run_load1 Tryz.isAgg24 (at28.now S31.sl) rfl)) ?_
   refine FL.val (wF_yes rfl rfl rfl c38) rfl rfl (E.lenP te24 rfl p0_1) ?_
   refine FL.val (wF_yes rfl rfl rfl c38) rfl rfl (E.gtr rfl rfl) ?_
   refine FL.v (E.pickF rfl c38 rfl) ?_
   exact FL.nil ⟨rfl, _, S31, (Inc.rfl _), rfl, (congrArg Value.bool (bifF c38).symm)⟩
 rintro f37 w36 ⟨H33, S34, i35, k39, k40⟩
 refine FL.nil ?_
 rcases ifB hp with ⟨c41, hp⟩ | ⟨c41, hp⟩
 ·
  refine FW.condT k40 c41 ?_
  refine FW.seq (FW.region ?_)
  refine FL.v (E.assign (v := Value.bool false) rfl) ?_
  refine FL.nil ?_
  refine FW.ret ?_
  obtain rfl := Option.some.inj hp
  exact ⟨.inr rfl, res1 rfl rfl ⟨rfl, S34.back⟩⟩
 ·
  refine FW.condF k40 c41 ?_
  refine FW.skip (FW.seq (FW.seq (FW.region ?_)))
  refine FL.v (E.assign (v := Value.int .i64 0) rfl) ?_
  refine FL.nil ?_
  obtain ⟨q42, hq, hp⟩ := bndR hp
  refine FW.block ?_
  refine FW.mono (FW.iter (S := Int) (X := Bool) (fun (s42 : Int) f w => ∃ H : GH, St Ha wa H w [] ∧ Inc H33 H ∧ f 1 = Value.pointer (some ⟨b21, 0, none⟩) ∧ f 3 = Value.int .i64 s42) (fun q e f w => match q with | .go s42 => e = Exit.exit 0 ∧ (∃ H : GH, St Ha wa H w [] ∧ Inc H33 H) | .rt x => ((e = Exit.ret) ∧ (fun e f w => (e = Exit.normal ∨ e = Exit.ret) ∧ ∀ a, Fr (δ := []) 30 a f → ∃ v, (results Tryz.f81 a.tmps).run Tryz.prog w = .ok v w ∧ (Sc Ha wa (Value.bool x)) (.returned v) w) e f w)) hq ⟨_, S34, (Inc.rfl _), k39, rfl⟩ ?_) ?_
  ·
   clear hp hq
   rintro s42 f72 w71 ⟨H68, S69, i70, k73, k74⟩ o93 hp
   refine FW.seq (FW.seq (FW.region ?_))
   refine FL.v (E.move k74) ?_
   refine FL.v (E.fieldAddr tf26_1 k73) ?_
   refine FL.v (E.load rfl (run_load1 Tryz.isAgg24 ((at28.mono (i35.tr i70)).now S69.sl) rfl)) ?_
   refine FL.v (E.lenP te24 rfl p0_1) ?_
   refine FL.v (E.lss rfl rfl) ?_
   refine FL.nil ?_
   rcases ifB hp with ⟨c75, hp⟩ | ⟨c75, hp⟩
   ·
    refine FW.condT rfl c75 ?_
    refine FW.skip (FW.seq (FW.block (FW.seq ?_)))
    refine FW.draw (fun w' => Run w71.heap.size H68 w71 H68 w') (by kernel_rfl) (by kernel_rfl) (run_drew S69.sl) ?_
    refine FD.val rfl rfl rfl (fun w' hw' => (E.fieldAddr tf26_0 k73)) ?_
    refine FD.val rfl rfl rfl (fun w' hw' => (E.load rfl (run_load1 Tryz.isAgg3 ((at28.mono (i35.tr i70)).now (S69.call hw').sl) rfl))) ?_
    refine FD.val rfl rfl rfl (fun w' hw' => (E.fieldAddr tf26_1 k73)) ?_
    refine FD.val rfl rfl rfl (fun w' hw' => (E.load rfl (run_load1 Tryz.isAgg24 ((at28.mono (i35.tr i70)).now (S69.call hw').sl) rfl))) ?_
    refine FD.val rfl rfl rfl (fun w' hw' => (E.move k74)) ?_
    obtain ⟨x83, hx84, hp⟩ := bnd hp
    obtain ⟨p77, cs78, pt79, l80, at81, rel82⟩ := p0_1.at hx84
    obtain ⟨v85, rfl, h86⟩ := eL_open rel82
    refine FD.val rfl rfl rfl (fun w' hw' => (E.indexAddr te24 rfl rfl pt79)) ?_
    refine FD.val rfl rfl rfl (fun w' hw' => (E.load rfl (run_load0 Tryz.isAgg34 ((at81.mono ((i27.tr i35).tr i70)).now (S69.call hw').sl) rfl))) ?_
    obtain ⟨r87, hr88, hp⟩ := bnd hp
    refine FD.call rfl rfl rfl (fun w' hw' => (E.call Tryz.call180 (A2 rfl rfl))) (fun w' hw' => Calls.cls hw' (w_spec_l2Clause (S69.call hw').sl a0.vars v85 x83 (h86.mono ((i27.tr i35).tr i70)) hr88)) ?_
    refine FD.val rfl rfl rfl (fun w' hw' => (E.not rfl)) ?_
    refine FD.nil ?_
    intro w89 r91
    have S90 := S69.call r91
    rcases ifB hp with ⟨c92, hp⟩ | ⟨c92, hp⟩
    ·
     refine FW.condT rfl c92 ?_
     refine FW.seq (FW.region ?_)
     refine FL.v (E.assign (v := Value.bool false) rfl) ?_
     refine FL.nil ?_
     refine FW.ret ?_
     obtain rfl := Option.some.inj hp
     exact ⟨nofun, rfl, ⟨.inr rfl, res1 rfl rfl ⟨rfl, S90.back⟩⟩⟩
    ·
     refine FW.condF rfl c92 ?_
     refine FW.skip (FW.region ?_)
     refine FL.v (E.move k74) ?_
     refine FL.v (E.add rfl rfl) ?_
     refine FL.v (E.assign (v := Value.int .i64 (wr (s42 + 1))) rfl) ?_
     refine FL.nil ?_
     obtain rfl := Option.some.inj hp
     exact ⟨rfl, ⟨_, S90, i70, k73, rfl⟩⟩
   ·
    refine FW.condF rfl c75 ?_
    refine FW.exit ?_
    obtain rfl := Option.some.inj hp
    exact ⟨nofun, rfl, ⟨_, S69, i70⟩⟩
  ·
   clear hq
   intro e f98 w97 hD
   rcases q42 with s42 | x42
   ·
    obtain ⟨rfl, hD⟩ := hD
    obtain ⟨H94, S95, i96⟩ := hD
    replace hp := el_go hp
    refine FW.seq (FW.region ?_)
    refine FL.v (E.assign (v := Value.bool true) rfl) ?_
    refine FL.nil ?_
    refine FW.ret ?_
    obtain rfl := Option.some.inj hp
    exact ⟨.inr rfl, res1 rfl rfl ⟨rfl, S95.back⟩⟩
   ·
    obtain ⟨he, hL⟩ := hD
    replace hp := el_rt hp
    obtain rfl := Option.some.inj hp
    subst he
    exact hL

theorem w_spec_l1Has {Ha : GH} {wa : World} (hs : Sl Ha wa) (v0 : Value) (a0 : List Int) (p0 : RSl Ha eI 1 v0 a0) (a1 : Int) {r : Bool} (hp : (PF.spec_l1Has a0 a1) = some r) :
  Calls Tryz.prog 181 #[v0, Value.int .i64 a1] wa (Sc Ha wa (Value.bool r)) := by
 unfold PF.spec_l1Has at hp
 have S0 := St.init hs
 refine calls_go (N := 18) (args := [v0, Value.int .i64 a1]) Tryz.func181 rfl rfl rfl ?_
 refine FW.seq (FW.region ?_)
 refine FL.v (E.assign (v := Value.bool false) rfl) ?_
 refine FL.nil (FW.seq (FW.seq (FW.region ?_)))
 refine FL.v (E.assign (v := Value.int .i64 0) rfl) ?_
 refine FL.nil ?_
 obtain ⟨q22, hq, hp⟩ := bndR hp
 refine FW.block ?_
 refine FW.mono (FW.forL (S := Unit) (X := Bool) (fun (i22 : Nat) (s22 : Unit) f w => ∃ H : GH, St Ha wa H w [] ∧ Inc Ha H ∧ f 5 = Value.int .i64 ((i22 : Nat) : Int) ∧ f 0 = v0 ∧ f 1 = Value.int .i64 a1) (fun q e f w => match q with | .go s22 => e = Exit.exit 0 ∧ (∃ H : GH, St Ha wa H w [] ∧ Inc Ha H) | .rt x => ((e = Exit.ret) ∧ (fun e f w => (e = Exit.normal ∨ e = Exit.ret) ∧ ∀ a, Fr (δ := []) 18 a f → ∃ v, (results Tryz.f181 a.tmps).run Tryz.prog w = .ok v w ∧ (Sc Ha wa (Value.bool x)) (.returned v) w) e f w)) hq ⟨_, S0, (Inc.rfl _), rfl, rfl, rfl⟩ ?_ ?_) ?_
 ·
  clear hp hq
  rintro i22 y21 s22 f42 w41 ⟨H38, S39, i40, k43, k44, k45⟩ hx22 o53 hp
  refine FW.seq (FW.seq (FW.region ?_))
  refine FL.v (E.move k43) ?_
  refine FL.v (E.move k44) ?_
  refine FL.v (E.lenP te34 rfl p0) ?_
  refine FL.v (E.lssT rfl rfl (lss_len hx22)) ?_
  refine FL.nil ?_
  refine FW.condT rfl rfl ?_
  refine FW.skip (FW.seq (FW.block (FW.seq (FW.region ?_))))
  refine FL.v (E.move k44) ?_
  refine FL.v (E.move k43) ?_
  obtain ⟨p46, cs47, pt48, l49, at50, rel51⟩ := p0.at (ix_nat hx22)
  obtain rfl := eI_open rel51
  refine FL.v (E.indexAddr te34 rfl rfl pt48) ?_
  refine FL.v (E.load rfl (run_load0 Tryz.isAgg3 ((at50.mono i40).now S39.sl) rfl)) ?_
  refine FL.v (E.move k45) ?_
  refine FL.v (E.eql rfl rfl) ?_
  refine FL.nil ?_
  rcases ifB hp with ⟨c52, hp⟩ | ⟨c52, hp⟩
  ·
   refine FW.condT rfl c52 ?_
   refine FW.seq (FW.region ?_)
   refine FL.v (E.assign (v := Value.bool true) rfl) ?_
   refine FL.nil ?_
   refine FW.ret ?_
   obtain rfl := Option.some.inj hp
   exact ⟨nofun, rfl, ⟨.inr rfl, res1 rfl rfl ⟨rfl, S39.back⟩⟩⟩
  ·
   refine FW.condF rfl c52 ?_
   refine FW.skip (FW.region ?_)
   refine FL.v (E.move k43) ?_
   refine FL.v (E.add rfl rfl) ?_
   refine FL.v (E.assign (v := Value.int .i64 (wr (((i22 : Nat) : Int) + 1))) rfl) ?_
   refine FL.nil ?_
   obtain rfl := Option.some.inj hp
   exact ⟨rfl, ⟨_, S39, i40, (nat_succ rfl (lt_of_get hx22) (p0.mono i40).le), k44, k45⟩⟩
 ·
  clear hp hq
  rintro s22 f63 w62 ⟨H59, S60, i61, k64, k65, k66⟩
  refine FW.seq (FW.seq (FW.region ?_))
  refine FL.v (E.move k64) ?_
  refine FL.v (E.move k65) ?_
  refine FL.v (E.lenP te34 rfl p0) ?_
  refine FL.v (E.lss rfl rfl) ?_
  refine FL.nil ?_
  refine FW.condF rfl dlt_len ?_
  refine FW.exit ?_
  exact ⟨nofun, rfl, ⟨_, S60, i61⟩⟩
 ·
  clear hq
  intro e f58 w57 hD
  rcases q22 with s22 | x22
  ·
   obtain ⟨rfl, hD⟩ := hD
   obtain ⟨H54, S55, i56⟩ := hD
   replace hp := el_go hp
   refine FW.seq (FW.region ?_)
   refine FL.v (E.assign (v := Value.bool false) rfl) ?_
   refine FL.nil ?_
   refine FW.ret ?_
   obtain rfl := Option.some.inj hp
   exact ⟨.inr rfl, res1 rfl rfl ⟨rfl, S55.back⟩⟩
  ·
   obtain ⟨he, hL⟩ := hD
   replace hp := el_rt hp
   obtain rfl := Option.some.inj hp
   subst he
   exact hL

theorem w_spec_l2Has {Ha : GH} {wa : World} (hs : Sl Ha wa) (v0 : Value) (a0 : List Int) (p0 : RSl Ha eI 1 v0 a0) (a1 : Int) {r : Bool} (hp : (PF.spec_l2Has a0 a1) = some r) :
  Calls Tryz.prog 83 #[v0, Value.int .i64 a1] wa (Sc Ha wa (Value.bool r)) := by
 unfold PF.spec_l2Has at hp
 have S0 := St.init hs
 refine calls_go (N := 8) (args := [v0, Value.int .i64 a1]) Tryz.func83 rfl rfl rfl ?_
 refine FW.seq (FW.region ?_)
 refine FL.v (E.assign (v := Value.bool false) rfl) ?_
 refine FL.nil (FW.seq (FW.region ?_))
 refine FL.v (E.move (v := v0) rfl) ?_
 refine FL.v (E.move (v := Value.int .i64 a1) rfl) ?_
 obtain ⟨r21, hr22, hp⟩ := bnd hp
 refine FL.call rfl rfl rfl (E.call Tryz.call181 (A2 rfl rfl)) (w_spec_l1Has S0.sl v0 a0 p0 a1 hr22) ?_
 rintro e w23 ⟨rfl, r24⟩
 refine ⟨_, rfl, ?_⟩
 have S25 := S0.call r24
 refine FL.v (E.assign (v := Value.bool r21) rfl) ?_
 refine FL.nil ?_
 refine FW.ret ?_
 obtain rfl := Option.some.inj hp
 exact ⟨.inr rfl, res1 rfl rfl ⟨rfl, S25.back⟩⟩

@[reducible] def p_spec_l1Own (Ha : GH) (wa : World) (r : (List Int)) : Ending → World → Prop :=
 fun e w' => ∃ H' : GH, ∃ v0 : Value, ∃ n0 : Nat, ∃ c0 : List Value, e = .returned (v0) ∧ St Ha wa H' w' [.row 3 1 v0 n0 c0] ∧ Els (up wa.heap.size H') eI 1 c0 r
theorem w_spec_l1Own {Ha : GH} {wa : World} (hs : Sl Ha wa) (v0 : Value) (a0 : List Int) (p0 : RSl Ha eI 1 v0 a0) {r : (List Int)} (hp : (PF.spec_l1Own a0) = some r) :
  Calls Tryz.prog 196 #[v0] wa (p_spec_l1Own Ha wa r) := by
 unfold PF.spec_l1Own at hp
 have S0 := St.init hs
 refine calls_go (N := 6) (args := [v0]) Tryz.func196 rfl rfl rfl ?_
 refine FW.seq (FW.region ?_)
 refine FL.v (E.assign (v := Value.slice none 0 0) rfl) ?_
 refine FL.nil (FW.seq (FW.region ?_))
 obtain ⟨v21, w22, run23, S24⟩ := S0.buildSlice (P := Tryz.prog) te34 [] (parts := #[]) (cells := []) rfl szs_nil fc_nil ones_nil (Nat.le_of_ble_eq_true rfl)
 have els25 : Els (up wa.heap.size Ha) eI 1 [] [] := Els.nil
 refine FL.v (E.buildSlice (B0) run23) ?_
 refine FL.v (E.move (v := v0) rfl) ?_
 obtain ⟨xs26, hz27, hp⟩ := bnd hp
 obtain ⟨v28, w31, n29, cs30, run32, S33, els34⟩ := S24.appendP (P := Tryz.prog) (Inc.rfl _) te34 (i := 0) rfl (els25.mono upI) p0 hz27
 have S33 : St Ha wa Ha w31 [.row 3 1 v28 n29 cs30] := S33
 have els34 : Els (up wa.heap.size Ha) eI 1 cs30 xs26 := els34.any (fun _ _ _ _ h => h)
 refine FL.v (E.append rfl rfl run32) ?_
 refine FL.v (E.assign (v := v28) rfl) ?_
 refine FL.nil ?_
 refine FW.ret ?_
 obtain rfl := Option.some.inj hp
 exact ⟨.inr rfl, res1 rfl rfl ⟨_, _, _, _, rfl, S33, els34⟩⟩

@[reducible] def p_spec_l2Put (Ha : GH) (wa : World) (r : (List Int)) : Ending → World → Prop :=
  fun e w' => ∃ H' : GH, ∃ v0 : Value, ∃ n0 : Nat, ∃ c0 : List Value, e = .returned (v0) ∧ St Ha wa H' w' [.row 3 1 v0 n0 c0] ∧ Els (up wa.heap.size H') eI 1 c0 r
theorem w_spec_l2Put {Ha : GH} {wa : World} (hs : Sl Ha wa) (v0 : Value) (a0 : List Int) (p0 : RSl Ha eI 1 v0 a0) (a1 : Int) {r : (List Int)} (hp : (PF.spec_l2Put a0 a1) = some r) :
    Calls Tryz.prog 255 #[v0, Value.int .i64 a1] wa (p_spec_l2Put Ha wa r) := by
  unfold PF.spec_l2Put at hp
  have S0 := St.init hs
  refine calls_go (N := 33) (args := [v0, Value.int .i64 a1]) Tryz.func255 rfl rfl rfl ?_
  refine FW.seq (FW.region ?_)
  refine FL.v (E.assign (v := Value.slice none 0 0) rfl) ?_
  refine FL.nil (FW.seq (FW.region ?_))
  refine FL.v (E.assign (v := Value.int .i64 0) rfl) ?_
  refine FL.nil (FW.seq ?_)
  obtain ⟨q21, hq, hp⟩ := bndR hp
  refine FW.block ?_
  refine FW.mono (FW.iter (S := Int) (X := Empty) (fun (s21 : Int) f w => ∃ H : GH, St Ha wa H w [] ∧ Inc Ha H ∧ f 0 = v0 ∧ f 1 = Value.int .i64 a1 ∧ f 5 = Value.int .i64 s21) (fun (q : Rs Int Empty) e f w => match q with | .go s21 => e = Exit.exit 0 ∧ (∃ H : GH, St Ha wa H w [] ∧ Inc Ha H ∧ f 0 = v0 ∧ f 1 = Value.int .i64 a1 ∧ f 5 = Value.int .i64 s21) | .rt x => x.elim) hq ⟨_, S0, (Inc.rfl _), rfl, rfl, rfl⟩ ?_) ?_
  ·
    clear hp hq
    rintro s21 f74 w73 ⟨H70, S71, i72, k75, k76, k77⟩ o118 hp
    refine FW.seq (FW.seq (FW.region ?_))
    refine FL.v (E.move k77) ?_
    refine FL.v (E.move k75) ?_
    refine FL.v (E.lenP te34 rfl p0) ?_
    refine FL.v (E.lss rfl rfl) ?_
    refine FL.v (E.move (v := Value.bool (decide (s21 < (len a0)))) rfl) ?_
    obtain ⟨t92, hqt92, hp⟩ := bnd hp
    refine FL.cut 9 (fun f w => ∃ H : GH, St Ha wa H w [] ∧ Inc H70 H ∧ f 0 = v0 ∧ f 1 = Value.int .i64 a1 ∧ f 5 = Value.int .i64 s21 ∧ f 19 = Value.bool t92) ?_ ?_
    ·
      clear hp; have hp := hqt92; clear hqt92
      rcases ifB hp with ⟨c98, hp⟩ | ⟨c98, hp⟩
      ·
        refine FL.val (wF_yes rfl rfl rfl c98) rfl rfl (E.move k75) ?_
        refine FL.val (wF_yes rfl rfl rfl c98) rfl rfl (E.move k77) ?_
        obtain ⟨x105, hx106, hp⟩ := bnd hp
        obtain ⟨p99, cs100, pt101, l102, at103, rel104⟩ := p0.at hx106
        obtain rfl := eI_open rel104
        refine FL.val (wF_yes rfl rfl rfl c98) rfl rfl (E.indexAddr te34 rfl rfl pt101) ?_
        refine FL.val (wF_yes rfl rfl rfl c98) rfl rfl (E.load rfl (run_load0 Tryz.isAgg3 ((at103.mono i72).now S71.sl) rfl)) ?_
        refine FL.call (wF_yes rfl rfl rfl c98) rfl rfl (E.call Tryz.call243 (A1 rfl)) (w_spec_l2Var S71.sl x105) ?_
        rintro e w107 ⟨rfl, r108⟩
        refine ⟨_, rfl, ?_⟩
        have S109 := S71.call r108
        refine FL.val (wF_yes rfl rfl rfl c98) rfl rfl (E.move k76) ?_
        refine FL.call (wF_yes rfl rfl rfl c98) rfl rfl (E.call Tryz.call243 (A1 rfl)) (w_spec_l2Var S109.sl a1) ?_
        rintro e w110 ⟨rfl, r111⟩
        refine ⟨_, rfl, ?_⟩
        have S112 := S109.call r111
        refine FL.val (wF_yes rfl rfl rfl c98) rfl rfl (E.lss rfl rfl) ?_
        obtain rfl := Option.some.inj hp
        refine FL.v (E.pickT rfl c98 rfl) ?_
        exact FL.nil ⟨rfl, _, S112, (Inc.rfl _), k75, k76, k77, rfl⟩
      ·
        refine FL.skip (wF_no rfl rfl rfl c98) rfl ?_
        refine FL.skip (wF_no rfl rfl rfl c98) rfl ?_
        refine FL.skip (wF_no rfl rfl rfl c98) rfl ?_
        refine FL.skip (wF_no rfl rfl rfl c98) rfl ?_
        refine FL.skip (wF_no rfl rfl rfl c98) rfl ?_
        refine FL.skip (wF_no rfl rfl rfl c98) rfl ?_
        refine FL.skip (wF_no rfl rfl rfl c98) rfl ?_
        refine FL.skip (wF_no rfl rfl rfl c98) rfl ?_
        obtain rfl := Option.some.inj hp
        refine FL.v (E.pickF rfl c98 rfl) ?_
        exact FL.nil ⟨rfl, _, S71, (Inc.rfl _), k75, k76, k77, rfl⟩
    rintro f97 w96 ⟨H93, S94, i95, k113, k114, k115, k116⟩
    refine FL.nil ?_
    rcases ifB hp with ⟨c117, hp⟩ | ⟨c117, hp⟩
    ·
      refine FW.condT k116 c117 ?_
      refine FW.skip (FW.block (FW.region ?_))
      refine FL.v (E.move k115) ?_
      refine FL.v (E.add rfl rfl) ?_
      refine FL.v (E.assign (v := Value.int .i64 (wr (s21 + 1))) rfl) ?_
      refine FL.nil ?_
      obtain rfl := Option.some.inj hp
      exact ⟨rfl, ⟨_, S94, (i72.tr i95), k113, k114, rfl⟩⟩
    ·
      refine FW.condF k116 c117 ?_
      refine FW.exit ?_
      obtain rfl := Option.some.inj hp
      exact ⟨nofun, rfl, ⟨_, S94, (i72.tr i95), k113, k114, k115⟩⟩
  ·
    clear hq
    intro e f123 w122 hD
    rcases q21 with s21 | x21
    ·
      obtain ⟨rfl, hD⟩ := hD
      obtain ⟨H119, S120, i121, k124, k125, k126⟩ := hD
      replace hp := el_go hp
      refine FW.seq ?_
      obtain ⟨xs22, hc23, hp⟩ := bnd hp
      obtain ⟨r27, hr28, hp⟩ := bnd hp
      obtain ⟨xs43, hz44, hp⟩ := bnd hp
      obtain ⟨xs54, hc55, hp⟩ := bnd hp
      obtain ⟨xs59, hz60, hp⟩ := bnd hp
      refine FW.drawB (Sl H119) (fun f w => ∃ H : GH, ∃ v68 : Value, ∃ n69 : Nat, ∃ cs78 : List Value, St Ha wa H w [.row 3 1 v68 n69 cs78] ∧ Inc H119 H ∧ Els (up wa.heap.size H) eI 1 cs78 xs59 ∧ f 4 = v68) (by kernel_rfl) S120.sl ?_ ?_
      ·
        intro w127 r128
        have S129 := S120.call r128
        refine FB.t (i := 0) (bs 12 1) rfl (SP.nil S129.sl) rfl (fun w' hw' => (E.move k124)) ?_
        refine FB.t (i := 1) (bs 12 3) rfl (SP.nil S129.sl) rfl (fun w' hw' => (E.move k126)) ?_
        obtain ⟨v24, run25, h26⟩ := p0.cut te34 hc23 (lo := none) (hi := some (Value.int .i64 s21)) (.inl ⟨rfl, rfl⟩) (.inr ⟨_, rfl⟩)
        refine FB.t (i := 2) (bs 12 7) rfl (SP.nil S129.sl) rfl (fun w' hw' => (E.slice te34 rfl rfl (congrArg some rfl) rfl (run25 _))) ?_
        refine FB.t (i := 4) (bs 12 23) rfl (SP.nil S129.sl) rfl (fun w' hw' => (E.move k125)) ?_
        refine FB.t (i := 7) (bs 12 151) rfl (SP.nil S129.sl) rfl (fun w' hw' => (E.move k124)) ?_
        refine FB.t (i := 8) (bs 12 407) rfl (SP.nil S129.sl) rfl (fun w' hw' => (E.move k126)) ?_
        obtain ⟨v56, run57, h58⟩ := p0.cut te34 hc55 (lo := some (Value.int .i64 s21)) (hi := none) (.inr ⟨_, rfl⟩) (.inl ⟨rfl, rfl⟩)
        refine FB.t (i := 9) (bs 12 919) rfl (SP.nil S129.sl) rfl (fun w' hw' => (E.slice te34 rfl (congrArg some rfl) rfl rfl (run57 _))) ?_
        refine FB.all2 (i := 3) (j := 5) (by kernel_rfl) ?_ ?_
        ·
          refine FC.call (l' := (bs 12 927)) rfl (by kernel_rfl) rfl rfl rfl (E.call Tryz.call196 (A1 rfl)) (w_spec_l1Own S129.sl v24 xs22 (h26.mono i121) hr28) ?_
          rintro e w30 ⟨H29, v33, n35, cs36, rfl, r32, els37⟩
          refine ⟨_, rfl, ?_⟩
          have els37 := els37.mono (up_le S129.size)
          have S31 := S129.join (l' := [.row 3 1 v33 n35 cs36]) r32 rfl
          refine ⟨(SP.nil (Sl.of_inc r32.run.inc S31.sl)), ?_⟩
          refine FB.all1 (i := 5) (by kernel_rfl) ?_
          ·
            obtain ⟨v38, w39, run40, S41⟩ := S31.buildSlice (P := Tryz.prog) te34 [Value.int .i64 a1] (parts := #[(0, Value.int .i64 a1)]) (cells := [Value.int .i64 a1]) rfl (szs_cons rfl szs_nil) (fc_cons rfl fc_nil) (ones_cons rfl ones_nil) (Nat.le_of_ble_eq_true rfl)
            have els42 : Els (up wa.heap.size H29) eI 1 [Value.int .i64 a1] [a1] := (Els.snoc (H := (up wa.heap.size H29)) (E := eI) (k := 1) (c := [Value.int .i64 a1]) (x := a1) Els.nil rfl rfl)
            refine FC.val (l' := (bs 12 959)) rfl (by kernel_rfl) rfl rfl rfl (E.buildSlice (B1 rfl) run40) ?_
            refine ⟨(SP.nil (Sl.of_inc r32.run.inc S41.sl)), ?_⟩
            refine FB.all1 (i := 6) (by kernel_rfl) ?_
            ·
              obtain ⟨v45, w48, n46, cs47, run49, S50, els51, ce52⟩ := S41.appendO (P := Tryz.prog) te34 (i := 1) (j := 0) rfl els37 rfl els42 hz44
              have S50 : St Ha wa H29 w48 [.row 3 1 v38 1 [Value.int .i64 a1], .row 3 1 v45 n46 cs47] := S50
              have S53 : St Ha wa H29 w48 [.row 3 1 v45 n46 cs47] := S50.drop 0
              refine FC.val (l' := (bs 12 1023)) rfl (by kernel_rfl) rfl rfl rfl (E.append rfl rfl run49) ?_
              refine ⟨(SP.nil (Sl.of_inc r32.run.inc S53.sl)), ?_⟩
              refine FB.all1 (i := 10) (by kernel_rfl) ?_
              ·
                obtain ⟨v61, w64, n62, cs63, run65, S66, els67⟩ := S53.appendP (P := Tryz.prog) (Inc.rfl _) te34 (i := 0) rfl (els51.mono upI) (h58.mono (i121.tr r32.run.inc)) hz60
                have S66 : St Ha wa H29 w64 [.row 3 1 v61 n62 cs63] := S66
                have els67 : Els (up wa.heap.size H29) eI 1 cs63 xs59 := els67.any (fun _ _ _ _ h => h)
                refine FC.val (l' := (bs 12 2047)) rfl (by kernel_rfl) rfl rfl rfl (E.append rfl rfl run65) ?_
                refine ⟨(SP.nil (Sl.of_inc r32.run.inc S66.sl)), ?_⟩
                refine FB.t (i := 11) (bs 12 4095) rfl (SP.nil (Sl.of_inc r32.run.inc S66.sl)) rfl (fun w' hw' => (E.assign (v := v61) rfl)) ?_
                exact FB.done (by kernel_rfl) ⟨_, _, _, _, S66, r32.run.inc, els67, rfl⟩
        ·
          obtain ⟨v38, w39, run40, S41⟩ := S129.buildSlice (P := Tryz.prog) te34 [Value.int .i64 a1] (parts := #[(0, Value.int .i64 a1)]) (cells := [Value.int .i64 a1]) rfl (szs_cons rfl szs_nil) (fc_cons rfl fc_nil) (ones_cons rfl ones_nil) (Nat.le_of_ble_eq_true rfl)
          have els42 : Els (up wa.heap.size H119) eI 1 [Value.int .i64 a1] [a1] := (Els.snoc (H := (up wa.heap.size H119)) (E := eI) (k := 1) (c := [Value.int .i64 a1]) (x := a1) Els.nil rfl rfl)
          refine FC.val (l' := (bs 12 951)) rfl (by kernel_rfl) rfl rfl rfl (E.buildSlice (B1 rfl) run40) ?_
          refine ⟨(SP.nil S41.sl), ?_⟩
          refine FB.all1 (i := 3) (by kernel_rfl) ?_
          ·
            refine FC.call (l' := (bs 12 959)) rfl (by kernel_rfl) rfl rfl rfl (E.call Tryz.call196 (A1 rfl)) (w_spec_l1Own S41.sl v24 xs22 (h26.mono i121) hr28) ?_
            rintro e w30 ⟨H29, v33, n35, cs36, rfl, r32, els37⟩
            refine ⟨_, rfl, ?_⟩
            have els37 := els37.mono (up_le S41.size)
            have S31 := S41.join (l' := [.row 3 1 v33 n35 cs36, .row 3 1 v38 1 [Value.int .i64 a1]]) r32 rfl
            refine ⟨(SP.nil (Sl.of_inc r32.run.inc S31.sl)), ?_⟩
            refine FB.all1 (i := 6) (by kernel_rfl) ?_
            ·
              obtain ⟨v45, w48, n46, cs47, run49, S50, els51, ce52⟩ := S31.appendO (P := Tryz.prog) te34 (i := 0) (j := 1) rfl els37 rfl (els42.mono (up_mono r32.run.inc)) hz44
              have S50 : St Ha wa H29 w48 [.row 3 1 v45 n46 cs47, .row 3 1 v38 1 [Value.int .i64 a1]] := S50
              have S53 : St Ha wa H29 w48 [.row 3 1 v45 n46 cs47] := S50.drop 1
              refine FC.val (l' := (bs 12 1023)) rfl (by kernel_rfl) rfl rfl rfl (E.append rfl rfl run49) ?_
              refine ⟨(SP.nil (Sl.of_inc r32.run.inc S53.sl)), ?_⟩
              refine FB.all1 (i := 10) (by kernel_rfl) ?_
              ·
                obtain ⟨v61, w64, n62, cs63, run65, S66, els67⟩ := S53.appendP (P := Tryz.prog) (Inc.rfl _) te34 (i := 0) rfl (els51.mono upI) (h58.mono (i121.tr r32.run.inc)) hz60
                have S66 : St Ha wa H29 w64 [.row 3 1 v61 n62 cs63] := S66
                have els67 : Els (up wa.heap.size H29) eI 1 cs63 xs59 := els67.any (fun _ _ _ _ h => h)
                refine FC.val (l' := (bs 12 2047)) rfl (by kernel_rfl) rfl rfl rfl (E.append rfl rfl run65) ?_
                refine ⟨(SP.nil (Sl.of_inc r32.run.inc S66.sl)), ?_⟩
                refine FB.t (i := 11) (bs 12 4095) rfl (SP.nil (Sl.of_inc r32.run.inc S66.sl)) rfl (fun w' hw' => (E.assign (v := v61) rfl)) ?_
                exact FB.done (by kernel_rfl) ⟨_, _, _, _, S66, r32.run.inc, els67, rfl⟩
      ·
        rintro f84 w83 ⟨H80, v68, n69, cs78, S81, i82, els79, k85⟩
        refine FW.ret ?_
        obtain rfl := Option.some.inj hp
        exact ⟨.inr rfl, res1 rfl k85 ⟨_, _, _, _, rfl, S81, els79⟩⟩
    · exact x21.elim

@[reducible] def p_spec_RenameCnf (Ha : GH) (wa : World) (r : (Cnf × Bool)) : Ending → World → Prop :=
  fun e w' => ∃ H' : GH, ∃ v0_1 : Value, ∃ n0_1 : Nat, ∃ c0_1 : List Value, e = .returned (Value.tuple #[Value.agg #[Value.int .i64 r.1.vars, v0_1], Value.bool r.2]) ∧ St Ha wa H' w' [.row 34 1 v0_1 n0_1 c0_1] ∧ Els (up wa.heap.size H') (eL eI 1) 1 c0_1 r.1.clauses ∧ (bl c0_1).Nodup
set_option maxHeartbeats 4000000 in
theorem w_spec_RenameCnf {Ha : GH} {wa : World} (hs : Sl Ha wa) (a0 : Cnf) (v0_1 : Value) (p0_1 : RSl Ha (eL eI 1) 1 v0_1 a0.clauses) (v1 : Value) (a1 : List Int) (p1 : RSl Ha eI 1 v1 a1) {r : (Cnf × Bool)} (hp : (PF.spec_RenameCnf a0 a1) = some r) :
    Calls Tryz.prog 226 #[Value.agg #[Value.int .i64 a0.vars, v0_1], v1] wa (p_spec_RenameCnf Ha wa r) := by
  unfold PF.spec_RenameCnf at hp
  have S0 := St.init hs
  refine calls_go (N := 110) (args := [Value.agg #[Value.int .i64 a0.vars, v0_1], v1]) Tryz.func226 rfl rfl rfl ?_
  refine FW.seq (FW.region ?_)
  obtain ⟨b21, w22, run23, S24⟩ := S0.box (P := Tryz.prog) 26 [Value.int .i64 a0.vars, v0_1] (v := Value.agg #[Value.int .i64 a0.vars, v0_1]) rfl (ones_cons rfl (ones_cons p0_1.one ones_nil))
  refine FL.v (E.box rfl run23) ?_
  obtain ⟨H25, S26, i27, at28⟩ := S24.sealBox (i := 0) (l' := []) rfl rfl
  obtain ⟨b29, w30, run31, S32⟩ := S26.alloc (P := Tryz.prog) 26 [Value.int .i64 0, Value.slice none 0 0] Tryz.zeroValue26 rfl (ones_cons rfl (ones_cons rfl ones_nil))
  refine FL.v (E.alloc run31) ?_
  refine FL.v (E.assign (v := Value.bool false) rfl) ?_
  refine FL.nil (FW.seq (FW.seq (FW.region ?_)))
  refine FL.v (E.load rfl (run_loadA Tryz.isAgg26 Tryz.sizeOf26 (at28.now S32.sl) rfl)) ?_
  obtain ⟨r33, hr34, hp⟩ := bnd hp
  refine FL.call rfl rfl rfl (E.call Tryz.call81 (A1 rfl)) (w_spec_l2Good S32.sl a0 v0_1 (p0_1.mono i27) hr34) ?_
  rintro e w35 ⟨rfl, r36⟩
  refine ⟨_, rfl, ?_⟩
  have S37 := S32.call r36
  refine FL.v (E.not rfl) ?_
  refine FL.v (E.move (v := Value.bool (!r33)) rfl) ?_
  refine FL.cut 6 (fun f w => ∃ H : GH, St Ha wa H w [.box b29 26 [Value.int .i64 0, Value.slice none 0 0]] ∧ Inc H25 H ∧ f 1 = v1 ∧ f 2 = Value.pointer (some ⟨b21, 0, none⟩) ∧ f 4 = Value.pointer (some (⟨b29, 0, none⟩ : Addr)) ∧ f 22 = Value.bool (bif (!r33) then true else (!((len a1) == a0.vars)))) ?_ ?_
  ·
    rcases bcase (!r33) with c44 | c44
    ·
      refine FL.skip (wF_no rfl rfl rfl c44) rfl ?_
      refine FL.skip (wF_no rfl rfl rfl c44) rfl ?_
      refine FL.skip (wF_no rfl rfl rfl c44) rfl ?_
      refine FL.skip (wF_no rfl rfl rfl c44) rfl ?_
      refine FL.skip (wF_no rfl rfl rfl c44) rfl ?_
      refine FL.v (E.pickT rfl c44 rfl) ?_
      exact FL.nil ⟨rfl, _, S37, (Inc.rfl _), rfl, rfl, rfl, (congrArg Value.bool (bifT c44).symm)⟩
    ·
      refine FL.val (wF_yes rfl rfl rfl c44) rfl rfl (E.move (v := v1) rfl) ?_
      refine FL.val (wF_yes rfl rfl rfl c44) rfl rfl (E.lenP te34 rfl p1) ?_
      refine FL.val (wF_yes rfl rfl rfl c44) rfl rfl (E.fieldAddr tf26_0 rfl) ?_
      refine FL.val (wF_yes rfl rfl rfl c44) rfl rfl (E.load rfl (run_load1 Tryz.isAgg3 (at28.now S37.sl) rfl)) ?_
      refine FL.val (wF_yes rfl rfl rfl c44) rfl rfl (E.neq rfl rfl) ?_
      refine FL.v (E.pickF rfl c44 rfl) ?_
      exact FL.nil ⟨rfl, _, S37, (Inc.rfl _), rfl, rfl, rfl, (congrArg Value.bool (bifF c44).symm)⟩
  rintro f43 w42 ⟨H39, S40, i41, k45, k46, k47, k48⟩
  refine FL.nil ?_
  rcases ifB hp with ⟨c49, hp⟩ | ⟨c49, hp⟩
  ·
    refine FW.condT k48 c49 ?_
    refine FW.seq (FW.region ?_)
    refine FL.v (E.build (B0) (run_build _ 26 #[] #[Value.int .i64 0, Value.slice none 0 0] (by rfl))) ?_
    obtain ⟨w50, run51, S52⟩ := S40.store0 (P := Tryz.prog) (t := 26) (i := 0) (cs' := [Value.int .i64 0, Value.slice none 0 0]) (l' := [.box b29 26 [Value.int .i64 0, Value.slice none 0 0]]) (v := Value.agg #[Value.int .i64 0, Value.slice none 0 0]) (c := [Value.int .i64 0, Value.slice none 0 0]) rfl Tryz.sizeOf26 rfl rfl (ones_cons rfl (ones_cons rfl ones_nil)) (Nat.le_of_ble_eq_true rfl) rfl rfl
    refine FL.act rfl rfl (E.store k47 rfl run51) ?_
    refine FL.v (E.assign (v := Value.bool false) rfl) ?_
    refine FL.nil ?_
    refine FW.ret ?_
    obtain rfl := Option.some.inj hp
    exact ⟨.inr rfl, resC2 rfl k47 (loadVar_A Tryz.isAgg26 Tryz.sizeOf26 (S52.box_now (i := 0) rfl) rfl) rfl ⟨_, _, _, _, rfl, ((S52.nil 34 1).sel [0] (by decide) rfl), Els.nil, List.nodup_nil⟩⟩
  ·
    refine FW.condF k48 c49 ?_
    refine FW.skip (FW.seq (FW.seq (FW.region ?_)))
    refine FL.v (E.assign (v := Value.int .i64 0) rfl) ?_
    refine FL.nil ?_
    obtain ⟨q54, hq, hp⟩ := bndR hp
    refine FW.block ?_
    refine FW.mono (FW.forL (S := Unit) (X := (Cnf × Bool)) (fun (i54 : Nat) (s54 : Unit) f w => ∃ H : GH, St Ha wa H w [.box b29 26 [Value.int .i64 0, Value.slice none 0 0]] ∧ Inc H39 H ∧ f 6 = Value.int .i64 ((i54 : Nat) : Int) ∧ f 1 = v1 ∧ f 2 = Value.pointer (some ⟨b21, 0, none⟩) ∧ f 4 = Value.pointer (some (⟨b29, 0, none⟩ : Addr))) (fun q e f w => match q with | .go s54 => e = Exit.exit 0 ∧ (∃ H : GH, St Ha wa H w [.box b29 26 [Value.int .i64 0, Value.slice none 0 0]] ∧ Inc H39 H ∧ f 1 = v1 ∧ f 2 = Value.pointer (some ⟨b21, 0, none⟩) ∧ f 4 = Value.pointer (some (⟨b29, 0, none⟩ : Addr))) | .rt x => ((e = Exit.ret) ∧ (fun e f w => (e = Exit.normal ∨ e = Exit.ret) ∧ ∀ a, Fr (δ := []) 110 a f → ∃ v, (results Tryz.f226 a.tmps).run Tryz.prog w = .ok v w ∧ (p_spec_RenameCnf Ha wa x) (.returned v) w) e f w)) hq ⟨_, S40, (Inc.rfl _), rfl, k45, k46, k47⟩ ?_ ?_) ?_
    ·
      clear hp hq
      rintro i54 y53 s54 f158 w157 ⟨H154, S155, i156, k159, k160, k161, k162⟩ hx54 o253 hp
      refine FW.seq (FW.seq (FW.region ?_))
      refine FL.v (E.move k159) ?_
      refine FL.v (E.move k160) ?_
      refine FL.v (E.lenP te34 rfl p1) ?_
      refine FL.v (E.lssT rfl rfl (lss_len hx54)) ?_
      refine FL.nil ?_
      refine FW.condT rfl rfl ?_
      refine FW.skip (FW.seq (FW.block (FW.seq ?_)))
      refine FW.draw (fun w' => Run w157.heap.size H154 w157 H154 w') (by kernel_rfl) (by kernel_rfl) (run_drew S155.sl) ?_
      refine FD.val rfl rfl rfl (fun w' hw' => (E.fieldAddr tf26_0 k161)) ?_
      refine FD.val rfl rfl rfl (fun w' hw' => (E.load rfl (run_load1 Tryz.isAgg3 ((at28.mono (i41.tr i156)).now (S155.call hw').sl) rfl))) ?_
      refine FD.val rfl rfl rfl (fun w' hw' => (E.move k160)) ?_
      refine FD.val rfl rfl rfl (fun w' hw' => (E.move k159)) ?_
      obtain ⟨p164, cs165, pt166, l167, at168, rel169⟩ := p1.at (ix_nat hx54)
      obtain rfl := eI_open rel169
      refine FD.val rfl rfl rfl (fun w' hw' => (E.indexAddr te34 rfl rfl pt166)) ?_
      refine FD.val rfl rfl rfl (fun w' hw' => (E.load rfl (run_load0 Tryz.isAgg3 ((at168.mono ((i27.tr i41).tr i156)).now (S155.call hw').sl) rfl))) ?_
      refine FD.call rfl rfl rfl (fun w' hw' => (E.call Tryz.call272 (A2 rfl rfl))) (fun w' hw' => Calls.cls hw' (w_spec_l2Lit (S155.call hw').sl a0.vars y53)) ?_
      refine FD.val rfl rfl rfl (fun w' hw' => (E.not rfl)) ?_
      refine FD.val rfl rfl rfl (fun w' hw' => (E.move (v := Value.bool (!(PF.spec_l2Lit a0.vars y53))) rfl)) ?_
      obtain ⟨t183, hqt183, hp⟩ := bnd hp
      refine FD.cut 9 (fun f => f 1 = v1 ∧ f 2 = Value.pointer (some ⟨b21, 0, none⟩) ∧ f 4 = Value.pointer (some (⟨b29, 0, none⟩ : Addr)) ∧ f 6 = Value.int .i64 ((i54 : Nat) : Int) ∧ f 47 = Value.bool t183) ?_ ?_
      ·
        clear hp; have hp := hqt183; clear hqt183
        rcases ifB hp with ⟨c189, hp⟩ | ⟨c189, hp⟩
        ·
          refine FD.skip (wF_no rfl rfl rfl c189) rfl ?_
          refine FD.skip (wF_no rfl rfl rfl c189) rfl ?_
          refine FD.skip (wF_no rfl rfl rfl c189) rfl ?_
          refine FD.skip (wF_no rfl rfl rfl c189) rfl ?_
          refine FD.skip (wF_no rfl rfl rfl c189) rfl ?_
          refine FD.skip (wF_no rfl rfl rfl c189) rfl ?_
          refine FD.skip (wF_no rfl rfl rfl c189) rfl ?_
          refine FD.skip (wF_no rfl rfl rfl c189) rfl ?_
          obtain rfl := Option.some.inj hp
          refine FD.val rfl rfl rfl (fun w' hw' => (E.pickT rfl c189 rfl)) ?_
          exact FD.nil ⟨k160, k161, k162, k159, rfl⟩
        ·
          refine FD.val (wF_yes rfl rfl rfl c189) rfl rfl (fun w' hw' => (E.move k160)) ?_
          refine FD.val (wF_yes rfl rfl rfl c189) rfl rfl (fun w' hw' => (E.move k159)) ?_
          obtain ⟨xs190, hc191, hp⟩ := bnd hp
          obtain ⟨v192, run193, h194⟩ := p1.cut te34 hc191 (lo := none) (hi := some (Value.int .i64 ((i54 : Nat) : Int))) (.inl ⟨rfl, rfl⟩) (.inr ⟨_, rfl⟩)
          refine FD.val (wF_yes rfl rfl rfl c189) rfl rfl (fun w' hw' => (E.slice te34 rfl rfl (congrArg some rfl) rfl (run193 _))) ?_
          refine FD.val (wF_yes rfl rfl rfl c189) rfl rfl (fun w' hw' => (E.move k160)) ?_
          refine FD.val (wF_yes rfl rfl rfl c189) rfl rfl (fun w' hw' => (E.move k159)) ?_
          obtain ⟨p195, cs196, pt197, l198, at199, rel200⟩ := p1.at (ix_nat hx54)
          obtain rfl := eI_open rel200
          refine FD.val (wF_yes rfl rfl rfl c189) rfl rfl (fun w' hw' => (E.indexAddr te34 rfl rfl pt197)) ?_
          refine FD.val (wF_yes rfl rfl rfl c189) rfl rfl (fun w' hw' => (E.load rfl (run_load0 Tryz.isAgg3 ((at199.mono ((i27.tr i41).tr i156)).now (S155.call hw').sl) rfl))) ?_
          obtain ⟨r201, hr202, hp⟩ := bnd hp
          refine FD.call (wF_yes rfl rfl rfl c189) rfl rfl (fun w' hw' => (E.call Tryz.call83 (A2 rfl rfl))) (fun w' hw' => Calls.cls hw' (w_spec_l2Has (S155.call hw').sl v192 xs190 (h194.mono ((i27.tr i41).tr i156)) y53 hr202)) ?_
          obtain rfl := Option.some.inj hp
          refine FD.val rfl rfl rfl (fun w' hw' => (E.pickF rfl c189 rfl)) ?_
          exact FD.nil ⟨k160, k161, k162, k159, rfl⟩
      rintro f188 ⟨k203, k204, k205, k206, k207⟩
      refine FD.val rfl rfl rfl (fun w' hw' => (E.move k207)) ?_
      obtain ⟨t221, hqt221, hp⟩ := bnd hp
      refine FD.cut 10 (fun f => f 1 = v1 ∧ f 2 = Value.pointer (some ⟨b21, 0, none⟩) ∧ f 4 = Value.pointer (some (⟨b29, 0, none⟩ : Addr)) ∧ f 6 = Value.int .i64 ((i54 : Nat) : Int) ∧ f 58 = Value.bool t221) ?_ ?_
      ·
        clear hp; have hp := hqt221; clear hqt221
        rcases ifB hp with ⟨c227, hp⟩ | ⟨c227, hp⟩
        ·
          refine FD.skip (wF_no rfl rfl rfl c227) rfl ?_
          refine FD.skip (wF_no rfl rfl rfl c227) rfl ?_
          refine FD.skip (wF_no rfl rfl rfl c227) rfl ?_
          refine FD.skip (wF_no rfl rfl rfl c227) rfl ?_
          refine FD.skip (wF_no rfl rfl rfl c227) rfl ?_
          refine FD.skip (wF_no rfl rfl rfl c227) rfl ?_
          refine FD.skip (wF_no rfl rfl rfl c227) rfl ?_
          refine FD.skip (wF_no rfl rfl rfl c227) rfl ?_
          refine FD.skip (wF_no rfl rfl rfl c227) rfl ?_
          obtain rfl := Option.some.inj hp
          refine FD.val rfl rfl rfl (fun w' hw' => (E.pickT rfl c227 rfl)) ?_
          exact FD.nil ⟨k203, k204, k205, k206, rfl⟩
        ·
          refine FD.val (wF_yes rfl rfl rfl c227) rfl rfl (fun w' hw' => (E.move k203)) ?_
          refine FD.val (wF_yes rfl rfl rfl c227) rfl rfl (fun w' hw' => (E.move k206)) ?_
          obtain ⟨xs228, hc229, hp⟩ := bnd hp
          obtain ⟨v230, run231, h232⟩ := p1.cut te34 hc229 (lo := none) (hi := some (Value.int .i64 ((i54 : Nat) : Int))) (.inl ⟨rfl, rfl⟩) (.inr ⟨_, rfl⟩)
          refine FD.val (wF_yes rfl rfl rfl c227) rfl rfl (fun w' hw' => (E.slice te34 rfl rfl (congrArg some rfl) rfl (run231 _))) ?_
          refine FD.val (wF_yes rfl rfl rfl c227) rfl rfl (fun w' hw' => (E.move k203)) ?_
          refine FD.val (wF_yes rfl rfl rfl c227) rfl rfl (fun w' hw' => (E.move k206)) ?_
          obtain ⟨p233, cs234, pt235, l236, at237, rel238⟩ := p1.at (ix_nat hx54)
          obtain rfl := eI_open rel238
          refine FD.val (wF_yes rfl rfl rfl c227) rfl rfl (fun w' hw' => (E.indexAddr te34 rfl rfl pt235)) ?_
          refine FD.val (wF_yes rfl rfl rfl c227) rfl rfl (fun w' hw' => (E.load rfl (run_load0 Tryz.isAgg3 ((at237.mono ((i27.tr i41).tr i156)).now (S155.call hw').sl) rfl))) ?_
          refine FD.val (wF_yes rfl rfl rfl c227) rfl rfl (fun w' hw' => (E.neg rfl)) ?_
          obtain ⟨r239, hr240, hp⟩ := bnd hp
          refine FD.call (wF_yes rfl rfl rfl c227) rfl rfl (fun w' hw' => (E.call Tryz.call83 (A2 rfl rfl))) (fun w' hw' => Calls.cls hw' (w_spec_l2Has (S155.call hw').sl v230 xs228 (h232.mono ((i27.tr i41).tr i156)) (wr (-y53)) hr240)) ?_
          obtain rfl := Option.some.inj hp
          refine FD.val rfl rfl rfl (fun w' hw' => (E.pickF rfl c227 rfl)) ?_
          exact FD.nil ⟨k203, k204, k205, k206, rfl⟩
      rintro f226 ⟨k241, k242, k243, k244, k245⟩
      refine FD.nil ?_
      intro w246 r248
      have S247 := S155.call r248
      rcases ifB hp with ⟨c249, hp⟩ | ⟨c249, hp⟩
      ·
        refine FW.condT k245 c249 ?_
        refine FW.seq (FW.region ?_)
        refine FL.v (E.build (B0) (run_build _ 26 #[] #[Value.int .i64 0, Value.slice none 0 0] (by rfl))) ?_
        obtain ⟨w250, run251, S252⟩ := S247.store0 (P := Tryz.prog) (t := 26) (i := 0) (cs' := [Value.int .i64 0, Value.slice none 0 0]) (l' := [.box b29 26 [Value.int .i64 0, Value.slice none 0 0]]) (v := Value.agg #[Value.int .i64 0, Value.slice none 0 0]) (c := [Value.int .i64 0, Value.slice none 0 0]) rfl Tryz.sizeOf26 rfl rfl (ones_cons rfl (ones_cons rfl ones_nil)) (Nat.le_of_ble_eq_true rfl) rfl rfl
        refine FL.act rfl rfl (E.store k243 rfl run251) ?_
        refine FL.v (E.assign (v := Value.bool false) rfl) ?_
        refine FL.nil ?_
        refine FW.ret ?_
        obtain rfl := Option.some.inj hp
        exact ⟨nofun, rfl, ⟨.inr rfl, resC2 rfl k243 (loadVar_A Tryz.isAgg26 Tryz.sizeOf26 (S252.box_now (i := 0) rfl) rfl) rfl ⟨_, _, _, _, rfl, ((S252.nil 34 1).sel [0] (by decide) rfl), Els.nil, List.nodup_nil⟩⟩⟩
      ·
        refine FW.condF k245 c249 ?_
        refine FW.skip (FW.region ?_)
        refine FL.v (E.move k244) ?_
        refine FL.v (E.add rfl rfl) ?_
        refine FL.v (E.assign (v := Value.int .i64 (wr (((i54 : Nat) : Int) + 1))) rfl) ?_
        refine FL.nil ?_
        obtain rfl := Option.some.inj hp
        exact ⟨rfl, ⟨_, S247, i156, (nat_succ rfl (lt_of_get hx54) (p1.mono ((i27.tr i41).tr i156)).le), k241, k242, k243⟩⟩
    ·
      clear hp hq
      rintro s54 f185 w184 ⟨H180, S181, i182, k186, k187, k208, k209⟩
      refine FW.seq (FW.seq (FW.region ?_))
      refine FL.v (E.move k186) ?_
      refine FL.v (E.move k187) ?_
      refine FL.v (E.lenP te34 rfl p1) ?_
      refine FL.v (E.lss rfl rfl) ?_
      refine FL.nil ?_
      refine FW.condF rfl dlt_len ?_
      refine FW.exit ?_
      exact ⟨nofun, rfl, ⟨_, S181, i182, k187, k208, k209⟩⟩
    ·
      clear hq
      intro e f258 w257 hD
      rcases q54 with s54 | x54
      ·
        obtain ⟨rfl, hD⟩ := hD
        obtain ⟨H254, S255, i256, k259, k260, k261⟩ := hD
        replace hp := el_go hp
        refine FW.seq (FW.region ?_)
        refine FL.v (E.fieldAddr tf26_0 k260) ?_
        refine FL.v (E.load rfl (run_load1 Tryz.isAgg3 ((at28.mono (i41.tr i256)).now S255.sl) rfl)) ?_
        obtain ⟨v262, w263, run264, S265⟩ := S255.buildSlice (P := Tryz.prog) te24 [] (parts := #[]) (cells := []) rfl szs_nil fc_nil ones_nil (Nat.le_of_ble_eq_true rfl)
        have els266 : Els (up wa.heap.size H254) (eL eI 1) 1 [] [] := Els.nil
        refine FL.v (E.buildSlice (B0) run264) ?_
        refine FL.v (E.build (B2 rfl rfl) (run_build _ 26 #[(0, Value.int .i64 a0.vars), (1, v262)] #[Value.int .i64 a0.vars, v262] (by obtain ⟨_, _, rfl⟩ := S265.row_ln (i := 0) rfl; rfl))) ?_
        obtain ⟨b267, w268, run269, S270⟩ := S265.alloc (P := Tryz.prog) 26 [Value.int .i64 0, Value.slice none 0 0] Tryz.zeroValue26 rfl (ones_cons rfl (ones_cons rfl ones_nil))
        refine FL.v (E.alloc run269) ?_
        obtain ⟨w271, run272, S273⟩ := S270.store0 (P := Tryz.prog) (t := 26) (i := 0) (cs' := [Value.int .i64 a0.vars, v262]) (l' := [.box b267 26 [Value.int .i64 a0.vars, v262], .row 34 1 v262 0 [], .box b29 26 [Value.int .i64 0, Value.slice none 0 0]]) (v := Value.agg #[Value.int .i64 a0.vars, v262]) (c := [Value.int .i64 a0.vars, v262]) rfl Tryz.sizeOf26 rfl rfl (ones_cons rfl (ones_cons (Ln.one (S270.row_ln (i := 1) rfl)) ones_nil)) (Nat.le_of_ble_eq_true rfl) rfl rfl
        refine FL.act rfl rfl (E.store rfl rfl run272) ?_
        refine FL.nil (FW.seq (FW.seq (FW.region ?_)))
        refine FL.v (E.assign (v := Value.int .i64 0) rfl) ?_
        refine FL.nil ?_
        obtain ⟨q274, hq, hp⟩ := bndR hp
        refine FW.block ?_
        refine FW.mono (FW.iter (S := ((List (List Int)) × Int × Int)) (X := Empty) (fun (s274 : ((List (List Int)) × Int × Int)) f w => ∃ H : GH, ∃ v523 : Value, ∃ n524 : Nat, ∃ cs525 : List Value, St Ha wa H w [.box b267 26 [Value.int .i64 s274.2.1, v523], .row 34 1 v523 n524 cs525, .box b29 26 [Value.int .i64 0, Value.slice none 0 0]] ∧ Inc H254 H ∧ Els (up wa.heap.size H) (eL eI 1) 1 cs525 s274.1 ∧ (bl cs525).Nodup ∧ f 1 = v1 ∧ f 2 = Value.pointer (some ⟨b21, 0, none⟩) ∧ f 4 = Value.pointer (some (⟨b29, 0, none⟩ : Addr)) ∧ f 7 = Value.pointer (some (⟨b267, 0, none⟩ : Addr)) ∧ f 8 = Value.int .i64 s274.2.2) (fun (q : Rs ((List (List Int)) × Int × Int) Empty) e f w => match q with | .go s274 => e = Exit.exit 2 ∧ (∃ H : GH, ∃ v523 : Value, ∃ n524 : Nat, ∃ cs525 : List Value, St Ha wa H w [.box b267 26 [Value.int .i64 s274.2.1, v523], .row 34 1 v523 n524 cs525, .box b29 26 [Value.int .i64 0, Value.slice none 0 0]] ∧ Inc H254 H ∧ Els (up wa.heap.size H) (eL eI 1) 1 cs525 s274.1 ∧ (bl cs525).Nodup ∧ f 4 = Value.pointer (some (⟨b29, 0, none⟩ : Addr)) ∧ f 7 = Value.pointer (some (⟨b267, 0, none⟩ : Addr))) | .rt x => x.elim) hq ⟨_, _, _, _, S273, (Inc.rfl _), els266, (show (bl []).Nodup from List.nodup_nil), k259, k260, k261, rfl, rfl⟩ ?_) ?_
        ·
          clear hp hq
          rintro s274 f780 w779 ⟨H776, v523, n524, cs525, S777, i778, els526, nd527, k781, k782, k783, k784, k785⟩ o163 hp
          refine FW.seq (FW.seq (FW.region ?_))
          refine FL.v (E.move k785) ?_
          refine FL.v (E.fieldAddr tf26_1 k782) ?_
          refine FL.v (E.load rfl (run_load1 Tryz.isAgg24 ((at28.mono ((i41.tr i256).tr i778)).now S777.sl) rfl)) ?_
          refine FL.v (E.lenP te24 rfl p0_1) ?_
          refine FL.v (E.lss rfl rfl) ?_
          refine FL.nil ?_
          rcases ifB hp with ⟨c786, hp⟩ | ⟨c786, hp⟩
          ·
            refine FW.condT rfl c786 ?_
            refine FW.skip (FW.seq (FW.block (FW.seq (FW.region ?_))))
            obtain ⟨v787, w788, run789, S790⟩ := S777.buildSlice (P := Tryz.prog) te34 [] (parts := #[]) (cells := []) rfl szs_nil fc_nil ones_nil (Nat.le_of_ble_eq_true rfl)
            have els791 : Els (up wa.heap.size H776) eI 1 [] [] := Els.nil
            refine FL.v (E.buildSlice (B0) run789) ?_
            refine FL.v (E.assign (v := v787) rfl) ?_
            refine FL.nil (FW.seq (FW.seq (FW.region ?_)))
            refine FL.v (E.assign (v := Value.int .i64 0) rfl) ?_
            refine FL.nil ?_
            obtain ⟨q792, hq, hp⟩ := bndR hp
            refine FW.block ?_
            refine FW.mono (FW.iter (S := ((List Int) × Int)) (X := Empty) (fun (s792 : ((List Int) × Int)) f w => ∃ H : GH, ∃ v884 : Value, ∃ n885 : Nat, ∃ cs886 : List Value, St Ha wa H w [.box b267 26 [Value.int .i64 s274.2.1, v523], .row 34 1 v523 n524 cs525, .box b29 26 [Value.int .i64 0, Value.slice none 0 0], .row 3 1 v884 n885 cs886] ∧ Inc H776 H ∧ Els (up wa.heap.size H) eI 1 cs886 s792.1 ∧ f 1 = v1 ∧ f 2 = Value.pointer (some ⟨b21, 0, none⟩) ∧ f 4 = Value.pointer (some (⟨b29, 0, none⟩ : Addr)) ∧ f 7 = Value.pointer (some (⟨b267, 0, none⟩ : Addr)) ∧ f 8 = Value.int .i64 s274.2.2 ∧ f 9 = v884 ∧ f 10 = Value.int .i64 s792.2) (fun (q : Rs ((List Int) × Int) Empty) e f w => match q with | .go s792 => e = Exit.exit 4 ∧ (∃ H : GH, ∃ v884 : Value, ∃ n885 : Nat, ∃ cs886 : List Value, St Ha wa H w [.box b267 26 [Value.int .i64 s274.2.1, v523], .row 34 1 v523 n524 cs525, .box b29 26 [Value.int .i64 0, Value.slice none 0 0], .row 3 1 v884 n885 cs886] ∧ Inc H776 H ∧ Els (up wa.heap.size H) eI 1 cs886 s792.1 ∧ f 1 = v1 ∧ f 2 = Value.pointer (some ⟨b21, 0, none⟩) ∧ f 4 = Value.pointer (some (⟨b29, 0, none⟩ : Addr)) ∧ f 7 = Value.pointer (some (⟨b267, 0, none⟩ : Addr)) ∧ f 8 = Value.int .i64 s274.2.2 ∧ f 9 = v884) | .rt x => x.elim) hq ⟨_, _, _, _, (S790.sel [1, 2, 3, 0] (by decide) rfl), (Inc.rfl _), els791, k781, k782, k783, k784, k785, rfl, rfl⟩ ?_) ?_
            ·
              clear hp hq
              rintro s792 f979 w978 ⟨H975, v884, n885, cs886, S976, i977, els887, k980, k981, k982, k983, k984, k985, k986⟩ o116 hp
              refine FW.seq (FW.seq (FW.region ?_))
              refine FL.v (E.move k986) ?_
              refine FL.v (E.fieldAddr tf26_1 k981) ?_
              refine FL.v (E.load rfl (run_load1 Tryz.isAgg24 ((at28.mono (((i41.tr i256).tr i778).tr i977)).now S976.sl) rfl)) ?_
              refine FL.v (E.move k984) ?_
              obtain ⟨x993, hx994, hp⟩ := bnd hp
              obtain ⟨p987, cs988, pt989, l990, at991, rel992⟩ := p0_1.at hx994
              obtain ⟨v995, rfl, h996⟩ := eL_open rel992
              refine FL.v (E.indexAddr te24 rfl rfl pt989) ?_
              refine FL.v (E.load rfl (run_load0 Tryz.isAgg34 ((at991.mono ((((i27.tr i41).tr i256).tr i778).tr i977)).now S976.sl) rfl)) ?_
              refine FL.v (E.lenP te34 rfl h996) ?_
              refine FL.v (E.lss rfl rfl) ?_
              refine FL.nil ?_
              rcases ifB hp with ⟨c997, hp⟩ | ⟨c997, hp⟩
              ·
                refine FW.condT rfl c997 ?_
                refine FW.skip (FW.seq (FW.block (FW.seq (FW.region ?_))))
                refine FL.v (E.fieldAddr tf26_1 k981) ?_
                refine FL.v (E.load rfl (run_load1 Tryz.isAgg24 ((at28.mono (((i41.tr i256).tr i778).tr i977)).now S976.sl) rfl)) ?_
                refine FL.v (E.move k984) ?_
                obtain ⟨x58, hx59, hp⟩ := bnd hp
                obtain ⟨p998, cs999, pt38, l55, at56, rel57⟩ := p0_1.at hx59
                obtain ⟨v60, rfl, h61⟩ := eL_open rel57
                refine FL.v (E.indexAddr te24 rfl rfl pt38) ?_
                refine FL.v (E.load rfl (run_load0 Tryz.isAgg34 ((at56.mono ((((i27.tr i41).tr i256).tr i778).tr i977)).now S976.sl) rfl)) ?_
                refine FL.v (E.move k986) ?_
                obtain ⟨x68, hx69, hp⟩ := bnd hp
                obtain ⟨p62, cs63, pt64, l65, at66, rel67⟩ := h61.at hx69
                obtain rfl := eI_open rel67
                refine FL.v (E.indexAddr te34 rfl rfl pt64) ?_
                refine FL.v (E.load rfl (run_load0 Tryz.isAgg3 ((at66.mono ((((i27.tr i41).tr i256).tr i778).tr i977)).now S976.sl) rfl)) ?_
                refine FL.v (E.assign (v := Value.int .i64 x68) rfl) ?_
                refine FL.nil (FW.seq (FW.region ?_))
                refine FL.v (E.move k980) ?_
                refine FL.v (E.move (v := Value.int .i64 x68) rfl) ?_
                refine FL.call rfl rfl rfl (E.call Tryz.call243 (A1 rfl)) (w_spec_l2Var S976.sl x68) ?_
                rintro e w70 ⟨rfl, r71⟩
                refine ⟨_, rfl, ?_⟩
                have S72 := S976.call r71
                refine FL.v (E.sub rfl rfl) ?_
                obtain ⟨x79, hx80, hp⟩ := bnd hp
                obtain ⟨p73, cs74, pt75, l76, at77, rel78⟩ := p1.at hx80
                obtain rfl := eI_open rel78
                refine FL.v (E.indexAddr te34 rfl rfl pt75) ?_
                refine FL.v (E.load rfl (run_load0 Tryz.isAgg3 ((at77.mono ((((i27.tr i41).tr i256).tr i778).tr i977)).now S72.sl) rfl)) ?_
                refine FL.v (E.assign (v := Value.int .i64 x79) rfl) ?_
                refine FL.nil (FW.seq (FW.seq (FW.region ?_)))
                refine FL.v (E.move (v := Value.int .i64 x68) rfl) ?_
                refine FL.v (E.lss rfl rfl) ?_
                refine FL.nil ?_
                rcases ifB hp with ⟨c81, hp⟩ | ⟨c81, hp⟩
                ·
                  refine FW.condT rfl c81 ?_
                  refine FW.region ?_
                  refine FL.v (E.move (v := Value.int .i64 x79) rfl) ?_
                  refine FL.v (E.neg rfl) ?_
                  refine FL.v (E.assign (v := Value.int .i64 (wr (-x79))) rfl) ?_
                  refine FL.nil (FW.region ?_)
                  refine FL.v (E.move k985) ?_
                  refine FL.v (E.move (v := Value.int .i64 (wr (-x79))) rfl) ?_
                  obtain ⟨H82, S83, i84, h85, nv86⟩ := S72.sealRowU (i := 3) (l' := [.box b267 26 [Value.int .i64 s274.2.1, v523], .row 34 1 v523 n524 cs525, .box b29 26 [Value.int .i64 0, Value.slice none 0 0]]) rfl els887 (by decide) rfl
                  obtain ⟨r87, hr88, hp⟩ := bnd hp
                  refine FL.call rfl rfl rfl (E.call Tryz.call255 (A2 rfl rfl)) (w_spec_l2Put S83.sl v884 s792.1 (h85.mono upI) (wr (-x79)) hr88) ?_
                  rintro e w90 ⟨H89, v95, n96, cs97, rfl, r92, els98⟩
                  refine ⟨_, rfl, ?_⟩
                  obtain ⟨H93, r92, hU94⟩ := St.lendX i84 S72.sl r92
                  have els98 := els98.mono (hU94.tr (up_le S72.size))
                  have S91 := S72.join (l' := [.row 3 1 v95 n96 cs97, .box b267 26 [Value.int .i64 s274.2.1, v523], .row 34 1 v523 n524 cs525, .box b29 26 [Value.int .i64 0, Value.slice none 0 0], .row 3 1 v884 n885 cs886]) r92 rfl
                  refine FL.v (E.assign (v := v95) rfl) ?_
                  refine FL.nil (FW.region ?_)
                  refine FL.v (E.move k986) ?_
                  refine FL.v (E.add rfl rfl) ?_
                  refine FL.v (E.assign (v := Value.int .i64 (wr (s792.2 + 1))) rfl) ?_
                  refine FL.nil ?_
                  obtain rfl := Option.some.inj hp
                  exact ⟨rfl, ⟨_, _, _, _, (S91.sel [1, 2, 3, 0] (by decide) rfl), (i977.tr r92.run.inc), els98, k980, k981, k982, k983, k984, rfl, rfl⟩⟩
                ·
                  refine FW.condF rfl c81 ?_
                  refine FW.skip (FW.region ?_)
                  refine FL.v (E.move k985) ?_
                  refine FL.v (E.move (v := Value.int .i64 x79) rfl) ?_
                  obtain ⟨H99, S100, i101, h102, nv103⟩ := S72.sealRowU (i := 3) (l' := [.box b267 26 [Value.int .i64 s274.2.1, v523], .row 34 1 v523 n524 cs525, .box b29 26 [Value.int .i64 0, Value.slice none 0 0]]) rfl els887 (by decide) rfl
                  obtain ⟨r104, hr105, hp⟩ := bnd hp
                  refine FL.call rfl rfl rfl (E.call Tryz.call255 (A2 rfl rfl)) (w_spec_l2Put S100.sl v884 s792.1 (h102.mono upI) x79 hr105) ?_
                  rintro e w107 ⟨H106, v112, n113, cs114, rfl, r109, els115⟩
                  refine ⟨_, rfl, ?_⟩
                  obtain ⟨H110, r109, hU111⟩ := St.lendX i101 S72.sl r109
                  have els115 := els115.mono (hU111.tr (up_le S72.size))
                  have S108 := S72.join (l' := [.row 3 1 v112 n113 cs114, .box b267 26 [Value.int .i64 s274.2.1, v523], .row 34 1 v523 n524 cs525, .box b29 26 [Value.int .i64 0, Value.slice none 0 0], .row 3 1 v884 n885 cs886]) r109 rfl
                  refine FL.v (E.assign (v := v112) rfl) ?_
                  refine FL.nil (FW.region ?_)
                  refine FL.v (E.move k986) ?_
                  refine FL.v (E.add rfl rfl) ?_
                  refine FL.v (E.assign (v := Value.int .i64 (wr (s792.2 + 1))) rfl) ?_
                  refine FL.nil ?_
                  obtain rfl := Option.some.inj hp
                  exact ⟨rfl, ⟨_, _, _, _, (S108.sel [1, 2, 3, 0] (by decide) rfl), (i977.tr r109.run.inc), els115, k980, k981, k982, k983, k984, rfl, rfl⟩⟩
              ·
                refine FW.condF rfl c997 ?_
                refine FW.exit ?_
                obtain rfl := Option.some.inj hp
                exact ⟨nofun, rfl, ⟨_, _, _, _, S976, i977, els887, k980, k981, k982, k983, k984, k985⟩⟩
            ·
              clear hq
              intro e f121 w120 hD
              rcases q792 with s792 | x792
              ·
                obtain ⟨rfl, hD⟩ := hD
                obtain ⟨H117, v884, n885, cs886, S118, i119, els887, k122, k123, k124, k125, k126, k127⟩ := hD
                replace hp := el_go hp
                refine FW.region ?_
                refine FL.v (E.fieldAddr tf26_1 k125) ?_
                refine FL.v (E.load rfl (run_load1 Tryz.isAgg24 (S118.box_now (i := 0) rfl) rfl)) ?_
                refine FL.v (E.move k127) ?_
                obtain ⟨H128, S129, i130, h131, nv132⟩ := S118.sealRowU (i := 3) (l' := [.box b267 26 [Value.int .i64 s274.2.1, v523], .row 34 1 v523 n524 cs525, .box b29 26 [Value.int .i64 0, Value.slice none 0 0]]) rfl els887 (by decide) rfl
                obtain ⟨v133, w134, run135, S136⟩ := S129.buildSlice (P := Tryz.prog) te24 [v884] (parts := #[(0, v884)]) (cells := [v884]) rfl (szs_cons (cells_size h131.cells) szs_nil) (fc_cons h131.cells fc_nil) (ones_cons h131.one ones_nil) (Nat.le_of_ble_eq_true rfl)
                have els137 : Els (up wa.heap.size H128) (eL eI 1) 1 [v884] [s792.1] := (Els.snoc (H := (up wa.heap.size H128)) (E := (eL eI 1)) (k := 1) (c := [v884]) (x := s792.1) Els.nil rfl ⟨_, rfl, h131⟩)
                have nd138 : (bl [v884]).Nodup := by exact nd_one v884
                refine FL.v (E.buildSlice (B1 rfl) run135) ?_
                obtain ⟨xs139, hz140, hp⟩ := bnd hp
                obtain ⟨v141, w144, n142, cs143, run145, S146, els147, ce148⟩ := S136.appendO (P := Tryz.prog) te24 (i := 2) (j := 0) rfl (els526.mono (up_mono (i119.tr i130))) rfl els137 hz140
                have S146 : St Ha wa H128 w144 [.row 34 1 v133 1 [v884], .box b267 26 [Value.int .i64 s274.2.1, v523], .row 34 1 v141 n142 cs143, .box b29 26 [Value.int .i64 0, Value.slice none 0 0]] := S146
                have nd149 : (bl cs143).Nodup := by rw [ce148]; exact nd_app nd527 nd138 (Els.dom (els526.mono (upI.tr i119))) (by exact nv132)
                have S150 : St Ha wa H128 w144 [.box b267 26 [Value.int .i64 s274.2.1, v523], .row 34 1 v141 n142 cs143, .box b29 26 [Value.int .i64 0, Value.slice none 0 0]] := S146.drop 0
                refine FL.v (E.append rfl rfl run145) ?_
                refine FL.v (E.fieldAddr tf26_1 k125) ?_
                obtain ⟨w151, run152, S153⟩ := S150.store (P := Tryz.prog) (t := 24) (i := 0) (j := 1) (cs' := [Value.int .i64 s274.2.1, v141]) (l' := [.box b267 26 [Value.int .i64 s274.2.1, v141], .row 34 1 v141 n142 cs143, .box b29 26 [Value.int .i64 0, Value.slice none 0 0]]) (v := v141) (c := [v141]) rfl Tryz.sizeOf24 (Ln.cells (S150.row_ln (i := 1) rfl)) rfl (ones_cons (Ln.one (S150.row_ln (i := 1) rfl)) ones_nil) (Nat.le_of_ble_eq_true rfl) rfl rfl
                refine FL.act rfl rfl (E.store rfl rfl run152) ?_
                refine FL.nil (FW.region ?_)
                refine FL.v (E.move k126) ?_
                refine FL.v (E.add rfl rfl) ?_
                refine FL.v (E.assign (v := Value.int .i64 (wr (s274.2.2 + 1))) rfl) ?_
                refine FL.nil ?_
                obtain rfl := Option.some.inj hp
                exact ⟨rfl, ⟨_, _, _, _, S153, ((i778.tr i119).tr i130), els147, nd149, k122, k123, k124, k125, rfl⟩⟩
              · exact x792.elim
          ·
            refine FW.condF rfl c786 ?_
            refine FW.exit ?_
            obtain rfl := Option.some.inj hp
            exact ⟨nofun, rfl, ⟨_, _, _, _, S777, i778, els526, nd527, k783, k784⟩⟩
        ·
          clear hq
          intro e f174 w173 hD
          rcases q274 with s274 | x274
          ·
            obtain ⟨rfl, hD⟩ := hD
            obtain ⟨H170, v523, n524, cs525, S171, i172, els526, nd527, k175, k176⟩ := hD
            replace hp := el_go hp
            refine FW.seq (FW.region ?_)
            refine FL.v (E.load k176 (run_loadA Tryz.isAgg26 Tryz.sizeOf26 (S171.box_now (i := 0) rfl) rfl)) ?_
            obtain ⟨w177, run178, S179⟩ := S171.store0 (P := Tryz.prog) (t := 26) (i := 2) (cs' := [Value.int .i64 s274.2.1, v523]) (l' := [.box b267 26 [Value.int .i64 s274.2.1, v523], .row 34 1 v523 n524 cs525, .box b29 26 [Value.int .i64 s274.2.1, v523]]) (v := Value.agg #[Value.int .i64 s274.2.1, v523]) (c := [Value.int .i64 s274.2.1, v523]) rfl Tryz.sizeOf26 rfl rfl (ones_cons rfl (ones_cons (Ln.one (S171.row_ln (i := 1) rfl)) ones_nil)) (Nat.le_of_ble_eq_true rfl) rfl rfl
            refine FL.act rfl rfl (E.store k175 rfl run178) ?_
            refine FL.v (E.assign (v := Value.bool true) rfl) ?_
            refine FL.nil ?_
            refine FW.ret ?_
            obtain rfl := Option.some.inj hp
            exact ⟨.inr rfl, resC2 rfl k175 (loadVar_A Tryz.isAgg26 Tryz.sizeOf26 (S179.box_now (i := 2) rfl) rfl) rfl ⟨_, _, _, _, rfl, (S179.sel [1] (by decide) rfl), els526, nd527⟩⟩
          · exact x274.elim
      ·
        obtain ⟨he, hL⟩ := hD
        replace hp := el_rt hp
        obtain rfl := Option.some.inj hp
        subst he
        exact hL

@[reducible] def p_spec_l1Cur_among (H0 : GH) (w0 : World) (Ha : GH) (L : List MO) (b0 : Nat) (r : (Int × l1Cur)) : Ending → World → Prop :=
 fun e w' => ∃ H' : GH, ∃ v0_0r : Value, e = .returned (Value.int .i64 r.1) ∧ (St H0 w0 H' w' (.box b0 92 [v0_0r, Value.int .i64 r.2.at_, Value.int .u64 r.2.seed] :: L) ∧ Inc Ha H') ∧ RSl H' (eN .u8) 1 v0_0r r.2.code
theorem w_spec_l1Cur_among {H0 Ha : GH} {w0 wa : World} {L : List MO} {a0 : l1Cur} {b0 : Nat} {v0_0 : Value} (S0 : St H0 w0 Ha wa (.box b0 92 [v0_0, Value.int .i64 a0.at_, Value.int .u64 a0.seed] :: L)) (p0_0 : RSl Ha (eN .u8) 1 v0_0 a0.code) (v1 : Value) (a1 : List Int) (p1 : RSl Ha eI 1 v1 a1) {r : (Int × l1Cur)} (hp : (PF.spec_l1Cur_among a0 a1) = some r) :
  Calls Tryz.prog 69 #[Value.pointer (some (⟨b0, 0, none⟩ : Addr)), v1] wa (p_spec_l1Cur_among H0 w0 Ha L b0 r) := by
 unfold PF.spec_l1Cur_among at hp
 refine calls_go (N := 12) (args := [Value.pointer (some (⟨b0, 0, none⟩ : Addr)), v1]) Tryz.func69 rfl rfl rfl ?_
 refine FW.seq (FW.region ?_)
 refine FL.v (E.assign (v := Value.int .i64 0) rfl) ?_
 refine FL.nil (FW.seq (FW.region ?_))
 refine FL.v (E.move (v := v1) rfl) ?_
 refine FL.v (E.move (v := Value.pointer (some (⟨b0, 0, none⟩ : Addr))) rfl) ?_
 refine FL.v (E.move (v := v1) rfl) ?_
 refine FL.v (E.lenP te34 rfl p1) ?_
 obtain ⟨r21, hr22, hp⟩ := bnd hp
 refine FL.call rfl rfl rfl (E.call Tryz.call70 (A2 rfl rfl)) (w_spec_l1Cur_pick (L := (L)) S0 (a0 := a0) p0_0 (len a1) hr22) ?_
 rintro e w24 ⟨H23, v27, rfl, ⟨S25, i26⟩, h28⟩
 refine ⟨_, rfl, ?_⟩
 have S25 : St H0 w0 H23 w24 (.box b0 92 [v27, Value.int .i64 r21.2.at_, Value.int .u64 r21.2.seed] :: L) := S25
 obtain ⟨x35, hx36, hp⟩ := bnd hp
 obtain ⟨p29, cs30, pt31, l32, at33, rel34⟩ := p1.at hx36
 obtain rfl := eI_open rel34
 refine FL.v (E.indexAddr te34 rfl rfl pt31) ?_
 refine FL.v (E.load rfl (run_load0 Tryz.isAgg3 ((at33.mono i26).now S25.sl) rfl)) ?_
 refine FL.v (E.assign (v := Value.int .i64 x35) rfl) ?_
 refine FL.nil ?_
 refine FW.ret ?_
 obtain rfl := Option.some.inj hp
 exact ⟨.inr rfl, res1 rfl rfl ⟨_, _, rfl, ⟨S25, i26⟩, h28⟩⟩

@[reducible] def p_spec_l2Without (Ha : GH) (wa : World) (r : (List Int)) : Ending → World → Prop :=
  fun e w' => ∃ H' : GH, ∃ v0 : Value, ∃ n0 : Nat, ∃ c0 : List Value, e = .returned (v0) ∧ St Ha wa H' w' [.row 3 1 v0 n0 c0] ∧ Els (up wa.heap.size H') eI 1 c0 r
theorem w_spec_l2Without {Ha : GH} {wa : World} (hs : Sl Ha wa) (v0 : Value) (a0 : List Int) (p0 : RSl Ha eI 1 v0 a0) (a1 : Int) {r : (List Int)} (hp : (PF.spec_l2Without a0 a1) = some r) :
    Calls Tryz.prog 185 #[v0, Value.int .i64 a1] wa (p_spec_l2Without Ha wa r) := by
  unfold PF.spec_l2Without at hp
  have S0 := St.init hs
  refine calls_go (N := 29) (args := [v0, Value.int .i64 a1]) Tryz.func185 rfl rfl rfl ?_
  refine FW.seq (FW.region ?_)
  refine FL.v (E.assign (v := Value.slice none 0 0) rfl) ?_
  refine FL.nil (FW.seq (FW.region ?_))
  obtain ⟨v21, w22, run23, S24⟩ := S0.buildSlice (P := Tryz.prog) te34 [] (parts := #[]) (cells := []) rfl szs_nil fc_nil ones_nil (Nat.le_of_ble_eq_true rfl)
  have els25 : Els (up wa.heap.size Ha) eI 1 [] [] := Els.nil
  refine FL.v (E.buildSlice (B0) run23) ?_
  refine FL.v (E.assign (v := v21) rfl) ?_
  refine FL.nil (FW.seq (FW.seq (FW.region ?_)))
  refine FL.v (E.assign (v := Value.int .i64 0) rfl) ?_
  refine FL.nil ?_
  obtain ⟨q27, hq, hp⟩ := bndR hp
  refine FW.block ?_
  refine FW.mono (FW.forL (S := (List Int)) (X := Empty) (fun (i27 : Nat) (s27 : (List Int)) f w => ∃ H : GH, ∃ v28 : Value, ∃ n29 : Nat, ∃ cs30 : List Value, St Ha wa H w [.row 3 1 v28 n29 cs30] ∧ Inc Ha H ∧ Els (up wa.heap.size H) eI 1 cs30 s27 ∧ f 6 = Value.int .i64 ((i27 : Nat) : Int) ∧ f 0 = v0 ∧ f 1 = Value.int .i64 a1 ∧ f 5 = v28) (fun (q : Rs (List Int) Empty) e f w => match q with | .go s27 => e = Exit.exit 0 ∧ (∃ H : GH, ∃ v28 : Value, ∃ n29 : Nat, ∃ cs30 : List Value, St Ha wa H w [.row 3 1 v28 n29 cs30] ∧ Inc Ha H ∧ Els (up wa.heap.size H) eI 1 cs30 s27 ∧ f 5 = v28) | .rt x => x.elim) hq ⟨_, _, _, _, S24, (Inc.rfl _), els25, rfl, rfl, rfl, rfl⟩ ?_ ?_) ?_
  ·
    clear hp hq
    rintro i27 y26 s27 f77 w76 ⟨H73, v28, n29, cs30, S74, i75, els31, k78, k79, k80, k81⟩ hx27 o114 hp
    refine FW.seq (FW.seq (FW.region ?_))
    refine FL.v (E.move k78) ?_
    refine FL.v (E.move k79) ?_
    refine FL.v (E.lenP te34 rfl p0) ?_
    refine FL.v (E.lssT rfl rfl (lss_len hx27)) ?_
    refine FL.nil ?_
    refine FW.condT rfl rfl ?_
    refine FW.skip (FW.seq (FW.block (FW.seq (FW.region ?_))))
    refine FL.v (E.move k79) ?_
    refine FL.v (E.move k78) ?_
    obtain ⟨p82, cs83, pt84, l85, at86, rel87⟩ := p0.at (ix_nat hx27)
    obtain rfl := eI_open rel87
    refine FL.v (E.indexAddr te34 rfl rfl pt84) ?_
    refine FL.v (E.load rfl (run_load0 Tryz.isAgg3 ((at86.mono i75).now S74.sl) rfl)) ?_
    refine FL.call rfl rfl rfl (E.call Tryz.call243 (A1 rfl)) (w_spec_l2Var S74.sl y26) ?_
    rintro e w88 ⟨rfl, r89⟩
    refine ⟨_, rfl, ?_⟩
    have S90 := S74.call r89
    refine FL.v (E.move k80) ?_
    refine FL.v (E.neq rfl rfl) ?_
    refine FL.nil ?_
    rcases ifB hp with ⟨c91, hp⟩ | ⟨c91, hp⟩
    ·
      refine FW.condT rfl c91 ?_
      refine FW.region ?_
      refine FL.v (E.move k81) ?_
      refine FL.v (E.move k79) ?_
      refine FL.v (E.move k78) ?_
      obtain ⟨p92, cs93, pt94, l95, at96, rel97⟩ := p0.at (ix_nat hx27)
      obtain rfl := eI_open rel97
      refine FL.v (E.indexAddr te34 rfl rfl pt94) ?_
      refine FL.v (E.load rfl (run_load0 Tryz.isAgg3 ((at96.mono i75).now S90.sl) rfl)) ?_
      obtain ⟨v98, w99, run100, S101⟩ := S90.buildSlice (P := Tryz.prog) te34 [Value.int .i64 y26] (parts := #[(0, Value.int .i64 y26)]) (cells := [Value.int .i64 y26]) rfl (szs_cons rfl szs_nil) (fc_cons rfl fc_nil) (ones_cons rfl ones_nil) (Nat.le_of_ble_eq_true rfl)
      have els102 : Els (up wa.heap.size H73) eI 1 [Value.int .i64 y26] [y26] := (Els.snoc (H := (up wa.heap.size H73)) (E := eI) (k := 1) (c := [Value.int .i64 y26]) (x := y26) Els.nil rfl rfl)
      refine FL.v (E.buildSlice (B1 rfl) run100) ?_
      obtain ⟨xs103, hz104, hp⟩ := bnd hp
      obtain ⟨v105, w108, n106, cs107, run109, S110, els111, ce112⟩ := S101.appendO (P := Tryz.prog) te34 (i := 1) (j := 0) rfl els31 rfl els102 hz104
      have S110 : St Ha wa H73 w108 [.row 3 1 v98 1 [Value.int .i64 y26], .row 3 1 v105 n106 cs107] := S110
      have S113 : St Ha wa H73 w108 [.row 3 1 v105 n106 cs107] := S110.drop 0
      refine FL.v (E.append rfl rfl run109) ?_
      refine FL.v (E.assign (v := v105) rfl) ?_
      refine FL.nil (FW.region ?_)
      refine FL.v (E.move k78) ?_
      refine FL.v (E.add rfl rfl) ?_
      refine FL.v (E.assign (v := Value.int .i64 (wr (((i27 : Nat) : Int) + 1))) rfl) ?_
      refine FL.nil ?_
      obtain rfl := Option.some.inj hp
      exact ⟨rfl, ⟨_, _, _, _, S113, i75, els111, (nat_succ rfl (lt_of_get hx27) (p0.mono i75).le), k79, k80, rfl⟩⟩
    ·
      refine FW.condF rfl c91 ?_
      refine FW.skip (FW.region ?_)
      refine FL.v (E.move k78) ?_
      refine FL.v (E.add rfl rfl) ?_
      refine FL.v (E.assign (v := Value.int .i64 (wr (((i27 : Nat) : Int) + 1))) rfl) ?_
      refine FL.nil ?_
      obtain rfl := Option.some.inj hp
      exact ⟨rfl, ⟨_, _, _, _, S90, i75, els31, (nat_succ rfl (lt_of_get hx27) (p0.mono i75).le), k79, k80, k81⟩⟩
  ·
    clear hp hq
    rintro s27 f125 w124 ⟨H121, v28, n29, cs30, S122, i123, els31, k126, k127, k128, k129⟩
    refine FW.seq (FW.seq (FW.region ?_))
    refine FL.v (E.move k126) ?_
    refine FL.v (E.move k127) ?_
    refine FL.v (E.lenP te34 rfl p0) ?_
    refine FL.v (E.lss rfl rfl) ?_
    refine FL.nil ?_
    refine FW.condF rfl dlt_len ?_
    refine FW.exit ?_
    exact ⟨nofun, rfl, ⟨_, _, _, _, S122, i123, els31, k129⟩⟩
  ·
    clear hq
    intro e f119 w118 hD
    rcases q27 with s27 | x27
    ·
      obtain ⟨rfl, hD⟩ := hD
      obtain ⟨H115, v28, n29, cs30, S116, i117, els31, k120⟩ := hD
      replace hp := el_go hp
      refine FW.seq (FW.region ?_)
      refine FL.v (E.move k120) ?_
      refine FL.v (E.assign (v := v28) rfl) ?_
      refine FL.nil ?_
      refine FW.ret ?_
      obtain rfl := Option.some.inj hp
      exact ⟨.inr rfl, res1 rfl rfl ⟨_, _, _, _, rfl, S116, els31⟩⟩
    · exact x27.elim

@[reducible] def p_spec_l1Cur_clause (H0 : GH) (w0 : World) (Ha : GH) (L : List MO) (b0 : Nat) (r : ((List Int) × l1Cur)) : Ending → World → Prop :=
  fun e w' => ∃ H' : GH, ∃ v0 : Value, ∃ n0 : Nat, ∃ c0 : List Value, ∃ v0_0r : Value, e = .returned (v0) ∧ (St H0 w0 H' w' (.row 3 1 v0 n0 c0 :: .box b0 92 [v0_0r, Value.int .i64 r.2.at_, Value.int .u64 r.2.seed] :: L) ∧ Inc Ha H') ∧ Els (up w0.heap.size H') eI 1 c0 r.1 ∧ RSl H' (eN .u8) 1 v0_0r r.2.code
theorem w_spec_l1Cur_clause {H0 Ha : GH} {w0 wa : World} {L : List MO} {a0 : l1Cur} {b0 : Nat} {v0_0 : Value} (S0 : St H0 w0 Ha wa (.box b0 92 [v0_0, Value.int .i64 a0.at_, Value.int .u64 a0.seed] :: L)) (p0_0 : RSl Ha (eN .u8) 1 v0_0 a0.code) (a1 : Int) {r : ((List Int) × l1Cur)} (hp : (PF.spec_l1Cur_clause a0 a1) = some r) :
    Calls Tryz.prog 166 #[Value.pointer (some (⟨b0, 0, none⟩ : Addr)), Value.int .i64 a1] wa (p_spec_l1Cur_clause H0 w0 Ha L b0 r) := by
  unfold PF.spec_l1Cur_clause at hp
  refine calls_go (N := 35) (args := [Value.pointer (some (⟨b0, 0, none⟩ : Addr)), Value.int .i64 a1]) Tryz.func166 rfl rfl rfl ?_
  refine FW.seq (FW.region ?_)
  refine FL.v (E.assign (v := Value.slice none 0 0) rfl) ?_
  refine FL.nil (FW.seq (FW.region ?_))
  obtain ⟨v21, w22, run23, S24⟩ := S0.buildSlice (P := Tryz.prog) te34 [] (parts := #[]) (cells := []) rfl szs_nil fc_nil ones_nil (Nat.le_of_ble_eq_true rfl)
  have els25 : Els (up w0.heap.size Ha) eI 1 [] [] := Els.nil
  refine FL.v (E.buildSlice (B0) run23) ?_
  refine FL.v (E.assign (v := v21) rfl) ?_
  refine FL.nil (FW.seq (FW.seq (FW.region ?_)))
  refine FL.v (E.move (v := Value.pointer (some (⟨b0, 0, none⟩ : Addr))) rfl) ?_
  obtain ⟨v26, w27, run28, S29⟩ := S24.buildSlice (P := Tryz.prog) te34 [Value.int .i64 1, Value.int .i64 2, Value.int .i64 2, Value.int .i64 3, Value.int .i64 3, Value.int .i64 4, Value.int .i64 0, Value.int .i64 2] (parts := #[(0, Value.int .i64 1), (1, Value.int .i64 2), (2, Value.int .i64 2), (3, Value.int .i64 3), (4, Value.int .i64 3), (5, Value.int .i64 4), (6, Value.int .i64 0), (7, Value.int .i64 2)]) (cells := [Value.int .i64 1, Value.int .i64 2, Value.int .i64 2, Value.int .i64 3, Value.int .i64 3, Value.int .i64 4, Value.int .i64 0, Value.int .i64 2]) rfl (szs_cons rfl (szs_cons rfl (szs_cons rfl (szs_cons rfl (szs_cons rfl (szs_cons rfl (szs_cons rfl (szs_cons rfl szs_nil)))))))) (fc_cons rfl (fc_cons rfl (fc_cons rfl (fc_cons rfl (fc_cons rfl (fc_cons rfl (fc_cons rfl (fc_cons rfl fc_nil)))))))) (ones_cons rfl (ones_cons rfl (ones_cons rfl (ones_cons rfl (ones_cons rfl (ones_cons rfl (ones_cons rfl (ones_cons rfl ones_nil)))))))) (Nat.le_of_ble_eq_true rfl)
  have els30 : Els (up w0.heap.size Ha) eI 1 [Value.int .i64 1, Value.int .i64 2, Value.int .i64 2, Value.int .i64 3, Value.int .i64 3, Value.int .i64 4, Value.int .i64 0, Value.int .i64 2] [1, 2, 2, 3, 3, 4, 0, 2] := (Els.snoc (H := (up w0.heap.size Ha)) (E := eI) (k := 1) (c := [Value.int .i64 2]) (x := 2) (Els.snoc (H := (up w0.heap.size Ha)) (E := eI) (k := 1) (c := [Value.int .i64 0]) (x := 0) (Els.snoc (H := (up w0.heap.size Ha)) (E := eI) (k := 1) (c := [Value.int .i64 4]) (x := 4) (Els.snoc (H := (up w0.heap.size Ha)) (E := eI) (k := 1) (c := [Value.int .i64 3]) (x := 3) (Els.snoc (H := (up w0.heap.size Ha)) (E := eI) (k := 1) (c := [Value.int .i64 3]) (x := 3) (Els.snoc (H := (up w0.heap.size Ha)) (E := eI) (k := 1) (c := [Value.int .i64 2]) (x := 2) (Els.snoc (H := (up w0.heap.size Ha)) (E := eI) (k := 1) (c := [Value.int .i64 2]) (x := 2) (Els.snoc (H := (up w0.heap.size Ha)) (E := eI) (k := 1) (c := [Value.int .i64 1]) (x := 1) Els.nil rfl rfl) rfl rfl) rfl rfl) rfl rfl) rfl rfl) rfl rfl) rfl rfl) rfl rfl)
  refine FL.v (E.buildSlice (B8 rfl rfl rfl rfl rfl rfl rfl rfl) run28) ?_
  obtain ⟨H31, S32, i33, h34, nv35⟩ := S29.sealRowU (i := 0) (l' := (.row 3 1 v21 0 [] :: .box b0 92 [v0_0, Value.int .i64 a0.at_, Value.int .u64 a0.seed] :: L)) rfl els30 (by decide) rfl
  obtain ⟨r36, hr37, hp⟩ := bnd hp
  have S38 : St H0 w0 H31 w27 (.box b0 92 [v0_0, Value.int .i64 a0.at_, Value.int .u64 a0.seed] :: .row 3 1 v21 0 [] :: L) := S32.front 1 rfl rfl
  refine FL.call rfl rfl rfl (E.call Tryz.call69 (A2 rfl rfl)) (w_spec_l1Cur_among (L := (.row 3 1 v21 0 [] :: L)) S38 (a0 := a0) (p0_0.mono i33) v26 [1, 2, 2, 3, 3, 4, 0, 2] (h34.mono upI) hr37) ?_
  rintro e w40 ⟨H39, v43, rfl, ⟨S41, i42⟩, h44⟩
  refine ⟨_, rfl, ?_⟩
  have S41 : St H0 w0 H39 w40 (.box b0 92 [v43, Value.int .i64 r36.2.at_, Value.int .u64 r36.2.seed] :: .row 3 1 v21 0 [] :: L) := S41
  refine FL.v (E.assign (v := Value.int .i64 r36.1) rfl) ?_
  refine FL.nil ?_
  obtain ⟨q45, hq, hp⟩ := bndR hp
  refine FW.block ?_
  refine FW.mono (FW.iter (S := ((List Int) × Int × Int × (List Int) × Int)) (X := Empty) (fun (s45 : ((List Int) × Int × Int × (List Int) × Int)) f w => ∃ H : GH, ∃ v141 : Value, ∃ v143 : Value, ∃ n144 : Nat, ∃ cs145 : List Value, St H0 w0 H w (.box b0 92 [v141, Value.int .i64 s45.2.1, Value.int .u64 s45.2.2.1] :: .row 3 1 v143 n144 cs145 :: L) ∧ Inc H39 H ∧ RSl H (eN .u8) 1 v141 s45.1 ∧ Els (up w0.heap.size H) eI 1 cs145 s45.2.2.2.1 ∧ f 0 = Value.pointer (some (⟨b0, 0, none⟩ : Addr)) ∧ f 1 = Value.int .i64 a1 ∧ f 5 = v143 ∧ f 6 = Value.int .i64 s45.2.2.2.2) (fun (q : Rs ((List Int) × Int × Int × (List Int) × Int) Empty) e f w => match q with | .go s45 => e = Exit.exit 0 ∧ (∃ H : GH, ∃ v141 : Value, ∃ v143 : Value, ∃ n144 : Nat, ∃ cs145 : List Value, St H0 w0 H w (.box b0 92 [v141, Value.int .i64 s45.2.1, Value.int .u64 s45.2.2.1] :: .row 3 1 v143 n144 cs145 :: L) ∧ Inc H39 H ∧ RSl H (eN .u8) 1 v141 s45.1 ∧ Els (up w0.heap.size H) eI 1 cs145 s45.2.2.2.1 ∧ f 5 = v143) | .rt x => x.elim) hq ⟨_, _, _, _, _, S41, (Inc.rfl _), h44, (els25.mono (up_mono (i33.tr i42))), rfl, rfl, rfl, rfl⟩ ?_) ?_
  ·
    clear hp hq
    rintro s45 f242 w241 ⟨H238, v141, v143, n144, cs145, S239, i240, h142, els146, k243, k244, k245, k246⟩ o329 hp
    refine FW.seq (FW.seq (FW.region ?_))
    refine FL.v (E.move k246) ?_
    refine FL.v (E.gtr rfl rfl) ?_
    refine FL.v (E.move (v := Value.bool (decide (0 < s45.2.2.2.2))) rfl) ?_
    refine FL.cut 3 (fun f w => ∃ H : GH, St H0 w0 H w (.box b0 92 [v141, Value.int .i64 s45.2.1, Value.int .u64 s45.2.2.1] :: .row 3 1 v143 n144 cs145 :: L) ∧ Inc H238 H ∧ f 0 = Value.pointer (some (⟨b0, 0, none⟩ : Addr)) ∧ f 1 = Value.int .i64 a1 ∧ f 5 = v143 ∧ f 6 = Value.int .i64 s45.2.2.2.2 ∧ f 17 = Value.bool (bif (decide (0 < s45.2.2.2.2)) then (decide (0 < a1)) else false)) ?_ ?_
    ·
      rcases bcase (decide (0 < s45.2.2.2.2)) with c253 | c253
      ·
        refine FL.val (wF_yes rfl rfl rfl c253) rfl rfl (E.move k244) ?_
        refine FL.val (wF_yes rfl rfl rfl c253) rfl rfl (E.gtr rfl rfl) ?_
        refine FL.v (E.pickT rfl c253 rfl) ?_
        exact FL.nil ⟨rfl, _, S239, (Inc.rfl _), k243, k244, k245, k246, (congrArg Value.bool (bifT c253).symm)⟩
      ·
        refine FL.skip (wF_no rfl rfl rfl c253) rfl ?_
        refine FL.skip (wF_no rfl rfl rfl c253) rfl ?_
        refine FL.v (E.pickF rfl c253 rfl) ?_
        exact FL.nil ⟨rfl, _, S239, (Inc.rfl _), k243, k244, k245, k246, (congrArg Value.bool (bifF c253).symm)⟩
    rintro f252 w251 ⟨H248, S249, i250, k254, k255, k256, k257, k258⟩
    refine FL.nil ?_
    rcases ifB hp with ⟨c259, hp⟩ | ⟨c259, hp⟩
    ·
      refine FW.condT k258 c259 ?_
      refine FW.skip (FW.seq (FW.block (FW.seq (FW.region ?_))))
      refine FL.v (E.move k254) ?_
      refine FL.v (E.move k255) ?_
      obtain ⟨r260, hr261, hp⟩ := bnd hp
      refine FL.call rfl rfl rfl (E.call Tryz.call70 (A2 rfl rfl)) (w_spec_l1Cur_pick (L := (.row 3 1 v143 n144 cs145 :: L)) S249 (a0 := (l1Cur.mk s45.1 s45.2.1 s45.2.2.1)) (h142.mono i250) a1 hr261) ?_
      rintro e w263 ⟨H262, v266, rfl, ⟨S264, i265⟩, h267⟩
      refine ⟨_, rfl, ?_⟩
      have S264 : St H0 w0 H262 w263 (.box b0 92 [v266, Value.int .i64 r260.2.at_, Value.int .u64 r260.2.seed] :: .row 3 1 v143 n144 cs145 :: L) := S264
      refine FL.v (E.add rfl rfl) ?_
      refine FL.v (E.assign (v := Value.int .i64 (wr (1 + r260.1))) rfl) ?_
      refine FL.nil (FW.seq (FW.region ?_))
      refine FL.v (E.move k256) ?_
      refine FL.v (E.move (v := Value.int .i64 (wr (1 + r260.1))) rfl) ?_
      obtain ⟨H268, S269, i270, h271, nv272⟩ := S264.sealRowU (i := 1) (l' := (.box b0 92 [v266, Value.int .i64 r260.2.at_, Value.int .u64 r260.2.seed] :: L)) rfl (els146.mono (up_mono (i250.tr i265))) (by decide) rfl
      obtain ⟨r273, hr274, hp⟩ := bnd hp
      refine FL.call rfl rfl rfl (E.call Tryz.call185 (A2 rfl rfl)) (w_spec_l2Without S269.sl v143 s45.2.2.2.1 (h271.mono upI) (wr (1 + r260.1)) hr274) ?_
      rintro e w276 ⟨H275, v281, n282, cs283, rfl, r278, els284⟩
      refine ⟨_, rfl, ?_⟩
      obtain ⟨H279, r278, hU280⟩ := St.lendX i270 S264.sl r278
      have els284 := els284.mono (hU280.tr (up_le S264.size))
      have S277 := S264.join (l' := (.row 3 1 v281 n282 cs283 :: .box b0 92 [v266, Value.int .i64 r260.2.at_, Value.int .u64 r260.2.seed] :: .row 3 1 v143 n144 cs145 :: L)) r278 rfl
      refine FL.v (E.assign (v := v281) rfl) ?_
      refine FL.nil (FW.seq (FW.seq (FW.region ?_)))
      refine FL.v (E.move k254) ?_
      obtain ⟨r285, hr286, hp⟩ := bnd hp
      have S287 : St H0 w0 H279 w276 (.box b0 92 [v266, Value.int .i64 r260.2.at_, Value.int .u64 r260.2.seed] :: .row 3 1 v281 n282 cs283 :: .row 3 1 v143 n144 cs145 :: L) := S277.front 1 rfl rfl
      refine FL.call rfl rfl rfl (E.call Tryz.call68 (A2 rfl rfl)) (w_spec_l1Cur_one (L := (.row 3 1 v281 n282 cs283 :: .row 3 1 v143 n144 cs145 :: L)) S287 (a0 := r260.2) (h267.mono r278.run.inc) 2 hr286) ?_
      rintro e w289 ⟨H288, v292, rfl, ⟨S290, i291⟩, h293⟩
      refine ⟨_, rfl, ?_⟩
      have S290 : St H0 w0 H288 w289 (.box b0 92 [v292, Value.int .i64 r285.2.at_, Value.int .u64 r285.2.seed] :: .row 3 1 v281 n282 cs283 :: .row 3 1 v143 n144 cs145 :: L) := S290
      refine FL.nil ?_
      rcases ifB hp with ⟨c294, hp⟩ | ⟨c294, hp⟩
      ·
        refine FW.condT rfl c294 ?_
        refine FW.region ?_
        refine FL.v (E.move (v := Value.int .i64 (wr (1 + r260.1))) rfl) ?_
        refine FL.v (E.neg rfl) ?_
        refine FL.v (E.assign (v := Value.int .i64 (wr (-(wr (1 + r260.1))))) rfl) ?_
        refine FL.nil (FW.region ?_)
        refine FL.v (E.move (v := v281) rfl) ?_
        refine FL.v (E.move (v := Value.int .i64 (wr (-(wr (1 + r260.1))))) rfl) ?_
        obtain ⟨H295, S296, i297, h298, nv299⟩ := S290.sealRowU (i := 1) (l' := (.box b0 92 [v292, Value.int .i64 r285.2.at_, Value.int .u64 r285.2.seed] :: .row 3 1 v143 n144 cs145 :: L)) rfl (els284.mono (up_mono i291)) (by decide) rfl
        obtain ⟨r300, hr301, hp⟩ := bnd hp
        refine FL.call rfl rfl rfl (E.call Tryz.call255 (A2 rfl rfl)) (w_spec_l2Put S296.sl v281 r273 (h298.mono upI) (wr (-(wr (1 + r260.1)))) hr301) ?_
        rintro e w303 ⟨H302, v308, n309, cs310, rfl, r305, els311⟩
        refine ⟨_, rfl, ?_⟩
        obtain ⟨H306, r305, hU307⟩ := St.lendX i297 S290.sl r305
        have els311 := els311.mono (hU307.tr (up_le S290.size))
        have S304 := S290.join (l' := (.row 3 1 v308 n309 cs310 :: .box b0 92 [v292, Value.int .i64 r285.2.at_, Value.int .u64 r285.2.seed] :: .row 3 1 v281 n282 cs283 :: .row 3 1 v143 n144 cs145 :: L)) r305 rfl
        refine FL.v (E.assign (v := v308) rfl) ?_
        refine FL.nil (FW.region ?_)
        refine FL.v (E.move k257) ?_
        refine FL.v (E.sub rfl rfl) ?_
        refine FL.v (E.assign (v := Value.int .i64 (wr (s45.2.2.2.2 - 1))) rfl) ?_
        refine FL.nil ?_
        obtain rfl := Option.some.inj hp
        exact ⟨rfl, ⟨_, _, _, _, _, (S304.selT (a := [.row 3 1 v308 n309 cs310, .box b0 92 [v292, Value.int .i64 r285.2.at_, Value.int .u64 r285.2.seed], .row 3 1 v281 n282 cs283, .row 3 1 v143 n144 cs145]) (l' := [.box b0 92 [v292, Value.int .i64 r285.2.at_, Value.int .u64 r285.2.seed], .row 3 1 v308 n309 cs310]) [1, 0] (by decide) rfl), (((((i240.tr i250).tr i265).tr r278.run.inc).tr i291).tr r305.run.inc), (h293.mono r305.run.inc), els311, k254, k255, rfl, rfl⟩⟩
      ·
        refine FW.condF rfl c294 ?_
        refine FW.skip (FW.region ?_)
        refine FL.v (E.move (v := v281) rfl) ?_
        refine FL.v (E.move (v := Value.int .i64 (wr (1 + r260.1))) rfl) ?_
        obtain ⟨H312, S313, i314, h315, nv316⟩ := S290.sealRowU (i := 1) (l' := (.box b0 92 [v292, Value.int .i64 r285.2.at_, Value.int .u64 r285.2.seed] :: .row 3 1 v143 n144 cs145 :: L)) rfl (els284.mono (up_mono i291)) (by decide) rfl
        obtain ⟨r317, hr318, hp⟩ := bnd hp
        refine FL.call rfl rfl rfl (E.call Tryz.call255 (A2 rfl rfl)) (w_spec_l2Put S313.sl v281 r273 (h315.mono upI) (wr (1 + r260.1)) hr318) ?_
        rintro e w320 ⟨H319, v325, n326, cs327, rfl, r322, els328⟩
        refine ⟨_, rfl, ?_⟩
        obtain ⟨H323, r322, hU324⟩ := St.lendX i314 S290.sl r322
        have els328 := els328.mono (hU324.tr (up_le S290.size))
        have S321 := S290.join (l' := (.row 3 1 v325 n326 cs327 :: .box b0 92 [v292, Value.int .i64 r285.2.at_, Value.int .u64 r285.2.seed] :: .row 3 1 v281 n282 cs283 :: .row 3 1 v143 n144 cs145 :: L)) r322 rfl
        refine FL.v (E.assign (v := v325) rfl) ?_
        refine FL.nil (FW.region ?_)
        refine FL.v (E.move k257) ?_
        refine FL.v (E.sub rfl rfl) ?_
        refine FL.v (E.assign (v := Value.int .i64 (wr (s45.2.2.2.2 - 1))) rfl) ?_
        refine FL.nil ?_
        obtain rfl := Option.some.inj hp
        exact ⟨rfl, ⟨_, _, _, _, _, (S321.selT (a := [.row 3 1 v325 n326 cs327, .box b0 92 [v292, Value.int .i64 r285.2.at_, Value.int .u64 r285.2.seed], .row 3 1 v281 n282 cs283, .row 3 1 v143 n144 cs145]) (l' := [.box b0 92 [v292, Value.int .i64 r285.2.at_, Value.int .u64 r285.2.seed], .row 3 1 v325 n326 cs327]) [1, 0] (by decide) rfl), (((((i240.tr i250).tr i265).tr r278.run.inc).tr i291).tr r322.run.inc), (h293.mono r322.run.inc), els328, k254, k255, rfl, rfl⟩⟩
    ·
      refine FW.condF k258 c259 ?_
      refine FW.exit ?_
      obtain rfl := Option.some.inj hp
      exact ⟨nofun, rfl, ⟨_, _, _, _, _, S249, (i240.tr i250), (h142.mono i250), (els146.mono (up_mono i250)), k256⟩⟩
  ·
    clear hq
    intro e f334 w333 hD
    rcases q45 with s45 | x45
    ·
      obtain ⟨rfl, hD⟩ := hD
      obtain ⟨H330, v141, v143, n144, cs145, S331, i332, h142, els146, k335⟩ := hD
      replace hp := el_go hp
      refine FW.seq (FW.region ?_)
      refine FL.v (E.move k335) ?_
      refine FL.v (E.assign (v := v143) rfl) ?_
      refine FL.nil ?_
      refine FW.ret ?_
      obtain rfl := Option.some.inj hp
      exact ⟨.inr rfl, res1 rfl rfl ⟨_, _, _, _, _, rfl, ⟨(S331.selT (a := [.box b0 92 [v141, Value.int .i64 s45.2.1, Value.int .u64 s45.2.2.1], .row 3 1 v143 n144 cs145]) (l' := [.row 3 1 v143 n144 cs145, .box b0 92 [v141, Value.int .i64 s45.2.1, Value.int .u64 s45.2.2.1]]) [1, 0] (by decide) rfl), ((i33.tr i42).tr i332)⟩, els146, h142⟩⟩
    · exact x45.elim

@[reducible] def p_spec_l1Cur_hard (H0 : GH) (w0 : World) (Ha : GH) (L : List MO) (b0 : Nat) (r : (Cnf × l1Cur)) : Ending → World → Prop :=
  fun e w' => ∃ H' : GH, ∃ v0_1 : Value, ∃ v0_0r : Value, e = .returned (Value.agg #[Value.int .i64 r.1.vars, v0_1]) ∧ (St H0 w0 H' w' (.box b0 92 [v0_0r, Value.int .i64 r.2.at_, Value.int .u64 r.2.seed] :: L) ∧ Inc Ha H') ∧ (∃ c, Nest (up w0.heap.size H') (eL eI 1) 1 v0_1 r.1.clauses c) ∧ RSl H' (eN .u8) 1 v0_0r r.2.code
set_option maxHeartbeats 4000000 in
theorem w_spec_l1Cur_hard {H0 Ha : GH} {w0 wa : World} {L : List MO} {a0 : l1Cur} {b0 : Nat} {v0_0 : Value} (S0 : St H0 w0 Ha wa (.box b0 92 [v0_0, Value.int .i64 a0.at_, Value.int .u64 a0.seed] :: L)) (p0_0 : RSl Ha (eN .u8) 1 v0_0 a0.code) {r : (Cnf × l1Cur)} (hp : (PF.spec_l1Cur_hard a0) = some r) :
    Calls Tryz.prog 132 #[Value.pointer (some (⟨b0, 0, none⟩ : Addr))] wa (p_spec_l1Cur_hard H0 w0 Ha L b0 r) := by
  unfold PF.spec_l1Cur_hard at hp
  refine calls_go (N := 56) (args := [Value.pointer (some (⟨b0, 0, none⟩ : Addr))]) Tryz.func132 rfl rfl rfl ?_
  refine FW.seq (FW.region ?_)
  obtain ⟨b21, w22, run23, S24⟩ := S0.alloc (P := Tryz.prog) 26 [Value.int .i64 0, Value.slice none 0 0] Tryz.zeroValue26 rfl (ones_cons rfl (ones_cons rfl ones_nil))
  refine FL.v (E.alloc run23) ?_
  refine FL.nil (FW.seq (FW.region ?_))
  refine FL.v (E.move (v := Value.pointer (some (⟨b0, 0, none⟩ : Addr))) rfl) ?_
  refine FL.call rfl rfl rfl (E.call Tryz.call225 A0) (w_spec_l2Hard S24.sl ) ?_
  rintro e w26 ⟨H25, v29, n30, cs31, rfl, r28, els32⟩
  refine ⟨_, rfl, ?_⟩
  have els32 := els32.mono (up_le S24.size)
  have S27 := S24.join (l' := (.row 9 1 v29 n30 cs31 :: .box b21 26 [Value.int .i64 0, Value.slice none 0 0] :: .box b0 92 [v0_0, Value.int .i64 a0.at_, Value.int .u64 a0.seed] :: L)) r28 rfl
  obtain ⟨H33, S34, i35, h36, nv37⟩ := S27.sealRowU (i := 0) (l' := (.box b21 26 [Value.int .i64 0, Value.slice none 0 0] :: .box b0 92 [v0_0, Value.int .i64 a0.at_, Value.int .u64 a0.seed] :: L)) rfl els32 (by decide) rfl
  obtain ⟨r38, hr39, hp⟩ := bnd hp
  have S40 : St H0 w0 H33 w26 (.box b0 92 [v0_0, Value.int .i64 a0.at_, Value.int .u64 a0.seed] :: .box b21 26 [Value.int .i64 0, Value.slice none 0 0] :: L) := S34.front 1 rfl rfl
  refine FL.call rfl rfl rfl (E.call Tryz.call157 (A2 rfl rfl)) (w_spec_l1Cur_of (L := (.box b21 26 [Value.int .i64 0, Value.slice none 0 0] :: L)) S40 (a0 := a0) (p0_0.mono (r28.run.inc.tr i35)) v29 PF.spec_l2Hard (h36.mono upI) hr39) ?_
  rintro e w42 ⟨H41, v45, rfl, ⟨S43, i44⟩, h46⟩
  refine ⟨_, rfl, ?_⟩
  have S43 : St H0 w0 H41 w42 (.box b0 92 [v45, Value.int .i64 r38.2.at_, Value.int .u64 r38.2.seed] :: .box b21 26 [Value.int .i64 0, Value.slice none 0 0] :: L) := S43
  obtain ⟨r47, hr48, hp⟩ := bnd hp
  refine FL.call rfl rfl rfl (E.call Tryz.call156 (A1 rfl)) (w_spec_l2Known S43.sl r38.1 hr48) ?_
  rintro e w50 ⟨H49, v53, rfl, r52, ⟨c56, ns55⟩⟩
  refine ⟨_, rfl, ?_⟩
  have h54 := ns55.rsl
  have nv57 : New H41 c56 := New.of_up S43.sl (fun b hb => ns55.dom b (.inr hb))
  have nv58 : New H41 [v53] := New.of_up S43.sl h54.dom
  have h54 := h54.mono (up_le S43.size)
  have ns55 := ns55.mono (up_le S43.size)
  have S51 := S43.call r52
  obtain ⟨b59, w60, run61, S62⟩ := S51.alloc (P := Tryz.prog) 26 [Value.int .i64 0, Value.slice none 0 0] Tryz.zeroValue26 rfl (ones_cons rfl (ones_cons rfl ones_nil))
  refine FL.v (E.alloc run61) ?_
  obtain ⟨w63, run64, S65⟩ := S62.store0 (P := Tryz.prog) (t := 26) (i := 0) (cs' := [Value.int .i64 r47.vars, v53]) (l' := (.box b59 26 [Value.int .i64 r47.vars, v53] :: .box b0 92 [v45, Value.int .i64 r38.2.at_, Value.int .u64 r38.2.seed] :: .box b21 26 [Value.int .i64 0, Value.slice none 0 0] :: L)) (v := Value.agg #[Value.int .i64 r47.vars, v53]) (c := [Value.int .i64 r47.vars, v53]) rfl Tryz.sizeOf26 rfl rfl (ones_cons rfl (ones_cons h54.one ones_nil)) (Nat.le_of_ble_eq_true rfl) rfl rfl
  refine FL.act rfl rfl (E.store rfl rfl run64) ?_
  refine FL.nil (FW.seq (FW.region ?_))
  obtain ⟨v66, w67, run68, S69⟩ := S65.buildSlice (P := Tryz.prog) te34 [] (parts := #[]) (cells := []) rfl szs_nil fc_nil ones_nil (Nat.le_of_ble_eq_true rfl)
  have els70 : Els (up w0.heap.size H49) eI 1 [] [] := Els.nil
  refine FL.v (E.buildSlice (B0) run68) ?_
  refine FL.v (E.assign (v := v66) rfl) ?_
  refine FL.nil (FW.seq (FW.seq (FW.region ?_)))
  refine FL.v (E.assign (v := Value.int .i64 1) rfl) ?_
  refine FL.nil ?_
  obtain ⟨q71, hq, hp⟩ := bndR hp
  refine FW.block ?_
  refine FW.mono (FW.iter (S := ((List Int) × (List Int) × Int × Int × Int)) (X := Empty) (fun (s71 : ((List Int) × (List Int) × Int × Int × Int)) f w => ∃ H : GH, ∃ v129 : Value, ∃ n130 : Nat, ∃ cs131 : List Value, ∃ v133 : Value, St H0 w0 H w (.row 3 1 v129 n130 cs131 :: .box b59 26 [Value.int .i64 r47.vars, v53] :: .box b0 92 [v133, Value.int .i64 s71.2.2.1, Value.int .u64 s71.2.2.2.1] :: .box b21 26 [Value.int .i64 0, Value.slice none 0 0] :: L) ∧ Inc H49 H ∧ Els (up w0.heap.size H) eI 1 cs131 s71.1 ∧ RSl H (eN .u8) 1 v133 s71.2.1 ∧ f 0 = Value.pointer (some (⟨b0, 0, none⟩ : Addr)) ∧ f 2 = Value.pointer (some (⟨b21, 0, none⟩ : Addr)) ∧ f 3 = Value.pointer (some (⟨b59, 0, none⟩ : Addr)) ∧ f 4 = v129 ∧ f 5 = Value.int .i64 s71.2.2.2.2) (fun (q : Rs ((List Int) × (List Int) × Int × Int × Int) Empty) e f w => match q with | .go s71 => e = Exit.exit 0 ∧ (∃ H : GH, ∃ v129 : Value, ∃ n130 : Nat, ∃ cs131 : List Value, ∃ v133 : Value, St H0 w0 H w (.row 3 1 v129 n130 cs131 :: .box b59 26 [Value.int .i64 r47.vars, v53] :: .box b0 92 [v133, Value.int .i64 s71.2.2.1, Value.int .u64 s71.2.2.2.1] :: .box b21 26 [Value.int .i64 0, Value.slice none 0 0] :: L) ∧ Inc H49 H ∧ Els (up w0.heap.size H) eI 1 cs131 s71.1 ∧ RSl H (eN .u8) 1 v133 s71.2.1 ∧ f 0 = Value.pointer (some (⟨b0, 0, none⟩ : Addr)) ∧ f 2 = Value.pointer (some (⟨b21, 0, none⟩ : Addr)) ∧ f 3 = Value.pointer (some (⟨b59, 0, none⟩ : Addr)) ∧ f 4 = v129) | .rt x => x.elim) hq ⟨_, _, _, _, _, S69, (Inc.rfl _), els70, (h46.mono r52.inc), rfl, rfl, rfl, rfl, rfl⟩ ?_) ?_
  ·
    clear hp hq
    rintro s71 f192 w191 ⟨H188, v129, n130, cs131, v133, S189, i190, els132, h134, k193, k194, k195, k196, k197⟩ o241 hp
    refine FW.seq (FW.seq (FW.region ?_))
    refine FL.v (E.move k197) ?_
    refine FL.v (E.fieldAddr tf26_0 k195) ?_
    refine FL.v (E.load rfl (run_load1 Tryz.isAgg3 (S189.box_now (i := 1) rfl) rfl)) ?_
    refine FL.v (E.leq rfl rfl) ?_
    refine FL.nil ?_
    rcases ifB hp with ⟨c198, hp⟩ | ⟨c198, hp⟩
    ·
      refine FW.condT rfl c198 ?_
      refine FW.skip (FW.seq (FW.block (FW.seq (FW.region ?_))))
      refine FL.v (E.move k193) ?_
      obtain ⟨r199, hr200, hp⟩ := bnd hp
      have S201 : St H0 w0 H188 w191 (.box b0 92 [v133, Value.int .i64 s71.2.2.1, Value.int .u64 s71.2.2.2.1] :: .row 3 1 v129 n130 cs131 :: .box b59 26 [Value.int .i64 r47.vars, v53] :: .box b21 26 [Value.int .i64 0, Value.slice none 0 0] :: L) := S189.front 2 rfl rfl
      refine FL.call rfl rfl rfl (E.call Tryz.call68 (A2 rfl rfl)) (w_spec_l1Cur_one (L := (.row 3 1 v129 n130 cs131 :: .box b59 26 [Value.int .i64 r47.vars, v53] :: .box b21 26 [Value.int .i64 0, Value.slice none 0 0] :: L)) S201 (a0 := (l1Cur.mk s71.2.1 s71.2.2.1 s71.2.2.2.1)) h134 4 hr200) ?_
      rintro e w203 ⟨H202, v206, rfl, ⟨S204, i205⟩, h207⟩
      refine ⟨_, rfl, ?_⟩
      have S204 : St H0 w0 H202 w203 (.box b0 92 [v206, Value.int .i64 r199.2.at_, Value.int .u64 r199.2.seed] :: .row 3 1 v129 n130 cs131 :: .box b59 26 [Value.int .i64 r47.vars, v53] :: .box b21 26 [Value.int .i64 0, Value.slice none 0 0] :: L) := S204
      refine FL.nil ?_
      rcases ifB hp with ⟨c208, hp⟩ | ⟨c208, hp⟩
      ·
        refine FW.condT rfl c208 ?_
        refine FW.region ?_
        refine FL.v (E.move k196) ?_
        refine FL.v (E.move k197) ?_
        refine FL.v (E.neg rfl) ?_
        obtain ⟨v209, w210, run211, S212⟩ := S204.buildSlice (P := Tryz.prog) te34 [Value.int .i64 (wr (-s71.2.2.2.2))] (parts := #[(0, Value.int .i64 (wr (-s71.2.2.2.2)))]) (cells := [Value.int .i64 (wr (-s71.2.2.2.2))]) rfl (szs_cons rfl szs_nil) (fc_cons rfl fc_nil) (ones_cons rfl ones_nil) (Nat.le_of_ble_eq_true rfl)
        have els213 : Els (up w0.heap.size H202) eI 1 [Value.int .i64 (wr (-s71.2.2.2.2))] [(wr (-s71.2.2.2.2))] := (Els.snoc (H := (up w0.heap.size H202)) (E := eI) (k := 1) (c := [Value.int .i64 (wr (-s71.2.2.2.2))]) (x := (wr (-s71.2.2.2.2))) Els.nil rfl rfl)
        refine FL.v (E.buildSlice (B1 rfl) run211) ?_
        obtain ⟨xs214, hz215, hp⟩ := bnd hp
        obtain ⟨v216, w219, n217, cs218, run220, S221, els222, ce223⟩ := S212.appendO (P := Tryz.prog) te34 (i := 2) (j := 0) rfl (els132.mono (up_mono i205)) rfl els213 hz215
        have S221 : St H0 w0 H202 w219 (.row 3 1 v209 1 [Value.int .i64 (wr (-s71.2.2.2.2))] :: .box b0 92 [v206, Value.int .i64 r199.2.at_, Value.int .u64 r199.2.seed] :: .row 3 1 v216 n217 cs218 :: .box b59 26 [Value.int .i64 r47.vars, v53] :: .box b21 26 [Value.int .i64 0, Value.slice none 0 0] :: L) := S221
        have S224 : St H0 w0 H202 w219 (.box b0 92 [v206, Value.int .i64 r199.2.at_, Value.int .u64 r199.2.seed] :: .row 3 1 v216 n217 cs218 :: .box b59 26 [Value.int .i64 r47.vars, v53] :: .box b21 26 [Value.int .i64 0, Value.slice none 0 0] :: L) := S221.drop 0
        refine FL.v (E.append rfl rfl run220) ?_
        refine FL.v (E.assign (v := v216) rfl) ?_
        refine FL.nil (FW.region ?_)
        refine FL.v (E.move k197) ?_
        refine FL.v (E.add rfl rfl) ?_
        refine FL.v (E.assign (v := Value.int .i64 (wr (s71.2.2.2.2 + 1))) rfl) ?_
        refine FL.nil ?_
        obtain rfl := Option.some.inj hp
        exact ⟨rfl, ⟨_, _, _, _, _, (S224.selT (a := [.box b0 92 [v206, Value.int .i64 r199.2.at_, Value.int .u64 r199.2.seed], .row 3 1 v216 n217 cs218, .box b59 26 [Value.int .i64 r47.vars, v53], .box b21 26 [Value.int .i64 0, Value.slice none 0 0]]) (l' := [.row 3 1 v216 n217 cs218, .box b59 26 [Value.int .i64 r47.vars, v53], .box b0 92 [v206, Value.int .i64 r199.2.at_, Value.int .u64 r199.2.seed], .box b21 26 [Value.int .i64 0, Value.slice none 0 0]]) [1, 2, 0, 3] (by decide) rfl), (i190.tr i205), els222, h207, k193, k194, k195, rfl, rfl⟩⟩
      ·
        refine FW.condF rfl c208 ?_
        refine FW.region ?_
        refine FL.v (E.move k196) ?_
        refine FL.v (E.move k197) ?_
        obtain ⟨v225, w226, run227, S228⟩ := S204.buildSlice (P := Tryz.prog) te34 [Value.int .i64 s71.2.2.2.2] (parts := #[(0, Value.int .i64 s71.2.2.2.2)]) (cells := [Value.int .i64 s71.2.2.2.2]) rfl (szs_cons rfl szs_nil) (fc_cons rfl fc_nil) (ones_cons rfl ones_nil) (Nat.le_of_ble_eq_true rfl)
        have els229 : Els (up w0.heap.size H202) eI 1 [Value.int .i64 s71.2.2.2.2] [s71.2.2.2.2] := (Els.snoc (H := (up w0.heap.size H202)) (E := eI) (k := 1) (c := [Value.int .i64 s71.2.2.2.2]) (x := s71.2.2.2.2) Els.nil rfl rfl)
        refine FL.v (E.buildSlice (B1 rfl) run227) ?_
        obtain ⟨xs230, hz231, hp⟩ := bnd hp
        obtain ⟨v232, w235, n233, cs234, run236, S237, els238, ce239⟩ := S228.appendO (P := Tryz.prog) te34 (i := 2) (j := 0) rfl (els132.mono (up_mono i205)) rfl els229 hz231
        have S237 : St H0 w0 H202 w235 (.row 3 1 v225 1 [Value.int .i64 s71.2.2.2.2] :: .box b0 92 [v206, Value.int .i64 r199.2.at_, Value.int .u64 r199.2.seed] :: .row 3 1 v232 n233 cs234 :: .box b59 26 [Value.int .i64 r47.vars, v53] :: .box b21 26 [Value.int .i64 0, Value.slice none 0 0] :: L) := S237
        have S240 : St H0 w0 H202 w235 (.box b0 92 [v206, Value.int .i64 r199.2.at_, Value.int .u64 r199.2.seed] :: .row 3 1 v232 n233 cs234 :: .box b59 26 [Value.int .i64 r47.vars, v53] :: .box b21 26 [Value.int .i64 0, Value.slice none 0 0] :: L) := S237.drop 0
        refine FL.v (E.append rfl rfl run236) ?_
        refine FL.v (E.assign (v := v232) rfl) ?_
        refine FL.nil (FW.region ?_)
        refine FL.v (E.move k197) ?_
        refine FL.v (E.add rfl rfl) ?_
        refine FL.v (E.assign (v := Value.int .i64 (wr (s71.2.2.2.2 + 1))) rfl) ?_
        refine FL.nil ?_
        obtain rfl := Option.some.inj hp
        exact ⟨rfl, ⟨_, _, _, _, _, (S240.selT (a := [.box b0 92 [v206, Value.int .i64 r199.2.at_, Value.int .u64 r199.2.seed], .row 3 1 v232 n233 cs234, .box b59 26 [Value.int .i64 r47.vars, v53], .box b21 26 [Value.int .i64 0, Value.slice none 0 0]]) (l' := [.row 3 1 v232 n233 cs234, .box b59 26 [Value.int .i64 r47.vars, v53], .box b0 92 [v206, Value.int .i64 r199.2.at_, Value.int .u64 r199.2.seed], .box b21 26 [Value.int .i64 0, Value.slice none 0 0]]) [1, 2, 0, 3] (by decide) rfl), (i190.tr i205), els238, h207, k193, k194, k195, rfl, rfl⟩⟩
    ·
      refine FW.condF rfl c198 ?_
      refine FW.exit ?_
      obtain rfl := Option.some.inj hp
      exact ⟨nofun, rfl, ⟨_, _, _, _, _, S189, i190, els132, h134, k193, k194, k195, k196⟩⟩
  ·
    clear hq
    intro e f246 w245 hD
    rcases q71 with s71 | x71
    ·
      obtain ⟨rfl, hD⟩ := hD
      obtain ⟨H242, v129, n130, cs131, v133, S243, i244, els132, h134, k247, k248, k249, k250⟩ := hD
      replace hp := el_go hp
      refine FW.seq (FW.region ?_)
      refine FL.v (E.load k249 (run_loadA Tryz.isAgg26 Tryz.sizeOf26 (S243.box_now (i := 1) rfl) rfl)) ?_
      refine FL.v (E.move k250) ?_
      obtain ⟨H251, S252, i253, h254, nv255⟩ := S243.sealRowU (i := 0) (l' := (.box b59 26 [Value.int .i64 r47.vars, v53] :: .box b0 92 [v133, Value.int .i64 s71.2.2.1, Value.int .u64 s71.2.2.2.1] :: .box b21 26 [Value.int .i64 0, Value.slice none 0 0] :: L)) rfl els132 (by decide) rfl
      obtain ⟨r256, hr257, hp⟩ := bnd hp
      refine FL.call rfl rfl rfl (E.call Tryz.call226 (A2 rfl rfl)) (w_spec_RenameCnf S252.sl r47 v53 (h54.mono (upI.tr (i244.tr i253))) v129 s71.1 (h254.mono upI) hr257) ?_
      rintro e w259 ⟨H258, v264, n265, cs266, rfl, r261, els267, nd268⟩
      refine ⟨_, rfl, ?_⟩
      obtain ⟨H262, r261, hU263⟩ := St.lendX i253 S243.sl r261
      have nv269 : New H242 cs266 := New.of_up S243.sl els267.dom
      have els267 := els267.mono (hU263.tr (up_le S243.size))
      have S260 := S243.join (l' := (.row 34 1 v264 n265 cs266 :: .row 3 1 v129 n130 cs131 :: .box b59 26 [Value.int .i64 r47.vars, v53] :: .box b0 92 [v133, Value.int .i64 s71.2.2.1, Value.int .u64 s71.2.2.2.1] :: .box b21 26 [Value.int .i64 0, Value.slice none 0 0] :: L)) r261 rfl
      refine FL.v (E.move (v := Value.tuple #[Value.agg #[Value.int .i64 r256.1.vars, v264], Value.bool r256.2]) rfl) ?_
      refine FL.v (E.extract (i := 0) rfl rfl) ?_
      refine FL.v (E.extract (i := 1) rfl rfl) ?_
      obtain ⟨w270, run271, S272⟩ := S260.store0 (P := Tryz.prog) (t := 26) (i := 2) (cs' := [Value.int .i64 r256.1.vars, v264]) (l' := (.row 34 1 v264 n265 cs266 :: .row 3 1 v129 n130 cs131 :: .box b59 26 [Value.int .i64 r256.1.vars, v264] :: .box b0 92 [v133, Value.int .i64 s71.2.2.1, Value.int .u64 s71.2.2.2.1] :: .box b21 26 [Value.int .i64 0, Value.slice none 0 0] :: L)) (v := Value.agg #[Value.int .i64 r256.1.vars, v264]) (c := [Value.int .i64 r256.1.vars, v264]) rfl Tryz.sizeOf26 rfl rfl (ones_cons rfl (ones_cons (Ln.one (S260.row_ln (i := 0) rfl)) ones_nil)) (Nat.le_of_ble_eq_true rfl) rfl rfl
      refine FL.act rfl rfl (E.store k249 rfl run271) ?_
      refine FL.nil (FW.seq (FW.seq (FW.region ?_)))
      refine FL.v (E.move k247) ?_
      obtain ⟨r273, hr274, hp⟩ := bnd hp
      have S275 : St H0 w0 H262 w270 (.box b0 92 [v133, Value.int .i64 s71.2.2.1, Value.int .u64 s71.2.2.2.1] :: .row 34 1 v264 n265 cs266 :: .row 3 1 v129 n130 cs131 :: .box b59 26 [Value.int .i64 r256.1.vars, v264] :: .box b21 26 [Value.int .i64 0, Value.slice none 0 0] :: L) := S272.front 3 rfl rfl
      refine FL.call rfl rfl rfl (E.call Tryz.call70 (A2 rfl rfl)) (w_spec_l1Cur_pick (L := (.row 34 1 v264 n265 cs266 :: .row 3 1 v129 n130 cs131 :: .box b59 26 [Value.int .i64 r256.1.vars, v264] :: .box b21 26 [Value.int .i64 0, Value.slice none 0 0] :: L)) S275 (a0 := (l1Cur.mk s71.2.1 s71.2.2.1 s71.2.2.2.1)) (h134.mono r261.run.inc) 3 hr274) ?_
      rintro e w277 ⟨H276, v280, rfl, ⟨S278, i279⟩, h281⟩
      refine ⟨_, rfl, ?_⟩
      have S278 : St H0 w0 H276 w277 (.box b0 92 [v280, Value.int .i64 r273.2.at_, Value.int .u64 r273.2.seed] :: .row 34 1 v264 n265 cs266 :: .row 3 1 v129 n130 cs131 :: .box b59 26 [Value.int .i64 r256.1.vars, v264] :: .box b21 26 [Value.int .i64 0, Value.slice none 0 0] :: L) := S278
      refine FL.v (E.assign (v := Value.int .i64 r273.1) rfl) ?_
      refine FL.nil ?_
      obtain ⟨q282, hq, hp⟩ := bndR hp
      refine FW.block ?_
      refine FW.mono (FW.iter (S := ((List (List Int)) × (List Int) × Int × Int × Int × Int)) (X := Empty) (fun (s282 : ((List (List Int)) × (List Int) × Int × Int × Int × Int)) f w => ∃ H : GH, ∃ v72 : Value, ∃ n73 : Nat, ∃ cs74 : List Value, ∃ v77 : Value, St H0 w0 H w (.box b0 92 [v77, Value.int .i64 s282.2.2.1, Value.int .u64 s282.2.2.2.1] :: .row 34 1 v72 n73 cs74 :: .box b59 26 [Value.int .i64 s282.2.2.2.2.1, v72] :: .box b21 26 [Value.int .i64 0, Value.slice none 0 0] :: L) ∧ Inc H276 H ∧ Els (up w0.heap.size H) (eL eI 1) 1 cs74 s282.1 ∧ RSl H (eN .u8) 1 v77 s282.2.1 ∧ (bl cs74).Nodup ∧ f 0 = Value.pointer (some (⟨b0, 0, none⟩ : Addr)) ∧ f 2 = Value.pointer (some (⟨b21, 0, none⟩ : Addr)) ∧ f 3 = Value.pointer (some (⟨b59, 0, none⟩ : Addr)) ∧ f 6 = Value.int .i64 s282.2.2.2.2.2) (fun (q : Rs ((List (List Int)) × (List Int) × Int × Int × Int × Int) Empty) e f w => match q with | .go s282 => e = Exit.exit 2 ∧ (∃ H : GH, ∃ v72 : Value, ∃ n73 : Nat, ∃ cs74 : List Value, ∃ v77 : Value, St H0 w0 H w (.box b0 92 [v77, Value.int .i64 s282.2.2.1, Value.int .u64 s282.2.2.2.1] :: .row 34 1 v72 n73 cs74 :: .box b59 26 [Value.int .i64 s282.2.2.2.2.1, v72] :: .box b21 26 [Value.int .i64 0, Value.slice none 0 0] :: L) ∧ Inc H276 H ∧ Els (up w0.heap.size H) (eL eI 1) 1 cs74 s282.1 ∧ RSl H (eN .u8) 1 v77 s282.2.1 ∧ (bl cs74).Nodup ∧ f 2 = Value.pointer (some (⟨b21, 0, none⟩ : Addr)) ∧ f 3 = Value.pointer (some (⟨b59, 0, none⟩ : Addr))) | .rt x => x.elim) hq ⟨_, _, _, _, _, (S278.selT (a := [.box b0 92 [v280, Value.int .i64 r273.2.at_, Value.int .u64 r273.2.seed], .row 34 1 v264 n265 cs266, .row 3 1 v129 n130 cs131, .box b59 26 [Value.int .i64 r256.1.vars, v264], .box b21 26 [Value.int .i64 0, Value.slice none 0 0]]) (l' := [.box b0 92 [v280, Value.int .i64 r273.2.at_, Value.int .u64 r273.2.seed], .row 34 1 v264 n265 cs266, .box b59 26 [Value.int .i64 r256.1.vars, v264], .box b21 26 [Value.int .i64 0, Value.slice none 0 0]]) [0, 1, 3, 4] (by decide) rfl), (Inc.rfl _), (els267.mono (up_mono i279)), h281, nd268, k247, k248, k249, rfl⟩ ?_) ?_
      ·
        clear hp hq
        rintro s282 f83 w82 ⟨H79, v72, n73, cs74, v77, S80, i81, els75, h78, nd76, k84, k85, k86, k87⟩ o163 hp
        refine FW.seq (FW.seq (FW.region ?_))
        refine FL.v (E.move k87) ?_
        refine FL.v (E.gtr rfl rfl) ?_
        refine FL.v (E.move (v := Value.bool (decide (0 < s282.2.2.2.2.2))) rfl) ?_
        refine FL.cut 4 (fun f w => ∃ H : GH, St H0 w0 H w (.box b0 92 [v77, Value.int .i64 s282.2.2.1, Value.int .u64 s282.2.2.2.1] :: .row 34 1 v72 n73 cs74 :: .box b59 26 [Value.int .i64 s282.2.2.2.2.1, v72] :: .box b21 26 [Value.int .i64 0, Value.slice none 0 0] :: L) ∧ Inc H79 H ∧ f 0 = Value.pointer (some (⟨b0, 0, none⟩ : Addr)) ∧ f 2 = Value.pointer (some (⟨b21, 0, none⟩ : Addr)) ∧ f 3 = Value.pointer (some (⟨b59, 0, none⟩ : Addr)) ∧ f 6 = Value.int .i64 s282.2.2.2.2.2 ∧ f 43 = Value.bool (bif (decide (0 < s282.2.2.2.2.2)) then (decide (0 < s282.2.2.2.2.1)) else false)) ?_ ?_
        ·
          rcases bcase (decide (0 < s282.2.2.2.2.2)) with c93 | c93
          ·
            refine FL.val (wF_yes rfl rfl rfl c93) rfl rfl (E.fieldAddr tf26_0 k86) ?_
            refine FL.val (wF_yes rfl rfl rfl c93) rfl rfl (E.load rfl (run_load1 Tryz.isAgg3 (S80.box_now (i := 2) rfl) rfl)) ?_
            refine FL.val (wF_yes rfl rfl rfl c93) rfl rfl (E.gtr rfl rfl) ?_
            refine FL.v (E.pickT rfl c93 rfl) ?_
            exact FL.nil ⟨rfl, _, S80, (Inc.rfl _), k84, k85, k86, k87, (congrArg Value.bool (bifT c93).symm)⟩
          ·
            refine FL.skip (wF_no rfl rfl rfl c93) rfl ?_
            refine FL.skip (wF_no rfl rfl rfl c93) rfl ?_
            refine FL.skip (wF_no rfl rfl rfl c93) rfl ?_
            refine FL.v (E.pickF rfl c93 rfl) ?_
            exact FL.nil ⟨rfl, _, S80, (Inc.rfl _), k84, k85, k86, k87, (congrArg Value.bool (bifF c93).symm)⟩
        rintro f92 w91 ⟨H88, S89, i90, k94, k95, k96, k97, k98⟩
        refine FL.nil ?_
        rcases ifB hp with ⟨c99, hp⟩ | ⟨c99, hp⟩
        ·
          refine FW.condT k98 c99 ?_
          refine FW.skip (FW.seq (FW.block ?_))
          obtain ⟨r103, hr104, hp⟩ := bnd hp
          obtain ⟨xs126, hz127, hp⟩ := bnd hp
          refine FW.drawB (Sl H88) (fun f w => ∃ H : GH, ∃ v147 : Value, ∃ n148 : Nat, ∃ cs149 : List Value, ∃ v152 : Value, St H0 w0 H w (.box b0 92 [v152, Value.int .i64 r103.2.at_, Value.int .u64 r103.2.seed] :: .row 34 1 v147 n148 cs149 :: .box b59 26 [Value.int .i64 s282.2.2.2.2.1, v147] :: .box b21 26 [Value.int .i64 0, Value.slice none 0 0] :: L) ∧ Inc H88 H ∧ Els (up w0.heap.size H) (eL eI 1) 1 cs149 xs126 ∧ RSl H (eN .u8) 1 v152 r103.2.code ∧ (bl cs149).Nodup ∧ f 0 = Value.pointer (some (⟨b0, 0, none⟩ : Addr)) ∧ f 2 = Value.pointer (some (⟨b21, 0, none⟩ : Addr)) ∧ f 3 = Value.pointer (some (⟨b59, 0, none⟩ : Addr)) ∧ f 6 = Value.int .i64 s282.2.2.2.2.2) (by kernel_rfl) S89.sl ?_ ?_
          ·
            intro w100 r101
            have S102 := S89.call r101
            refine FB.phase [] (fun w => WAt w (Addr.add ⟨b59, 0, none⟩ 0) [Value.int .i64 s282.2.2.2.2.1]) ?_
            refine FB.phase [9] (fun w => WAt w (Addr.add ⟨b59, 0, none⟩ 1) [v72]) ?_
            refine FB.t (i := 0) (bs 10 1) rfl (SP.on ((S102.box_now (i := 2) rfl).sub (j := 1) (n := 1) (c := [v72]) rfl) (SP.on ((S102.box_now (i := 2) rfl).sub (j := 0) (n := 1) (c := [Value.int .i64 s282.2.2.2.2.1]) rfl) (SP.nil S102.sl))) rfl (fun w' hw' => (E.fieldAddr tf26_1 k96)) ?_
            refine FB.p (i := 1) (bs 10 3) 0 [7, 8, 9] rfl (SP.on ((S102.box_now (i := 2) rfl).sub (j := 1) (n := 1) (c := [v72]) rfl) (SP.on ((S102.box_now (i := 2) rfl).sub (j := 0) (n := 1) (c := [Value.int .i64 s282.2.2.2.2.1]) rfl) (SP.nil S102.sl))) rfl rfl (fun w' hw' => (E.load rfl (run_load0 Tryz.isAgg24 hw' rfl))) ?_
            refine FB.t (i := 2) (bs 10 7) rfl (SP.on ((S102.box_now (i := 2) rfl).sub (j := 1) (n := 1) (c := [v72]) rfl) (SP.on ((S102.box_now (i := 2) rfl).sub (j := 0) (n := 1) (c := [Value.int .i64 s282.2.2.2.2.1]) rfl) (SP.nil S102.sl))) rfl (fun w' hw' => (E.move k94)) ?_
            refine FB.t (i := 3) (bs 10 15) rfl (SP.on ((S102.box_now (i := 2) rfl).sub (j := 1) (n := 1) (c := [v72]) rfl) (SP.on ((S102.box_now (i := 2) rfl).sub (j := 0) (n := 1) (c := [Value.int .i64 s282.2.2.2.2.1]) rfl) (SP.nil S102.sl))) rfl (fun w' hw' => (E.fieldAddr tf26_0 k96)) ?_
            refine FB.p (i := 4) (bs 10 31) 1 [5, 6, 7, 8, 9] rfl (SP.on ((S102.box_now (i := 2) rfl).sub (j := 1) (n := 1) (c := [v72]) rfl) (SP.on ((S102.box_now (i := 2) rfl).sub (j := 0) (n := 1) (c := [Value.int .i64 s282.2.2.2.2.1]) rfl) (SP.nil S102.sl))) rfl rfl (fun w' hw' => (E.load rfl (run_load0 Tryz.isAgg3 hw' rfl))) ?_
            refine FB.all1 (i := 5) (by kernel_rfl) ?_
            ·
              refine FC.call (l' := (bs 10 63)) rfl (by kernel_rfl) rfl rfl rfl (E.call Tryz.call166 (A2 rfl rfl)) (w_spec_l1Cur_clause (L := (.row 34 1 v72 n73 cs74 :: .box b59 26 [Value.int .i64 s282.2.2.2.2.1, v72] :: .box b21 26 [Value.int .i64 0, Value.slice none 0 0] :: L)) S102 (a0 := (l1Cur.mk s282.2.1 s282.2.2.1 s282.2.2.2.1)) (h78.mono i90) s282.2.2.2.2.1 hr104) ?_
              rintro e w106 ⟨H105, v109, n110, cs111, v113, rfl, ⟨S107, i108⟩, els112, h114⟩
              refine ⟨_, rfl, ?_⟩
              have S107 : St H0 w0 H105 w106 (.row 3 1 v109 n110 cs111 :: .box b0 92 [v113, Value.int .i64 r103.2.at_, Value.int .u64 r103.2.seed] :: .row 34 1 v72 n73 cs74 :: .box b59 26 [Value.int .i64 s282.2.2.2.2.1, v72] :: .box b21 26 [Value.int .i64 0, Value.slice none 0 0] :: L) := S107
              refine ⟨(SP.on ((S107.box_now (i := 3) rfl).sub (j := 1) (n := 1) (c := [v72]) rfl) (SP.on ((S107.box_now (i := 3) rfl).sub (j := 0) (n := 1) (c := [Value.int .i64 s282.2.2.2.2.1]) rfl) (SP.nil (Sl.of_inc i108 S107.sl)))), ?_⟩
              refine FB.all1 (i := 6) (by kernel_rfl) ?_
              ·
                obtain ⟨H115, S116, i117, h118, nv119⟩ := S107.sealRowU (i := 0) (l' := (.box b0 92 [v113, Value.int .i64 r103.2.at_, Value.int .u64 r103.2.seed] :: .row 34 1 v72 n73 cs74 :: .box b59 26 [Value.int .i64 s282.2.2.2.2.1, v72] :: .box b21 26 [Value.int .i64 0, Value.slice none 0 0] :: L)) rfl els112 (by decide) rfl
                obtain ⟨v120, w121, run122, S123⟩ := S116.buildSlice (P := Tryz.prog) te24 [v109] (parts := #[(0, v109)]) (cells := [v109]) rfl (szs_cons (cells_size h118.cells) szs_nil) (fc_cons h118.cells fc_nil) (ones_cons h118.one ones_nil) (Nat.le_of_ble_eq_true rfl)
                have els124 : Els (up w0.heap.size H115) (eL eI 1) 1 [v109] [r103.1] := (Els.snoc (H := (up w0.heap.size H115)) (E := (eL eI 1)) (k := 1) (c := [v109]) (x := r103.1) Els.nil rfl ⟨_, rfl, h118⟩)
                have nd125 : (bl [v109]).Nodup := by exact nd_one v109
                refine FC.val (l' := (bs 10 127)) rfl (by kernel_rfl) rfl rfl rfl (E.buildSlice (B1 rfl) run122) ?_
                refine ⟨(SP.on ((S123.box_now (i := 3) rfl).sub (j := 1) (n := 1) (c := [v72]) rfl) (SP.on ((S123.box_now (i := 3) rfl).sub (j := 0) (n := 1) (c := [Value.int .i64 s282.2.2.2.2.1]) rfl) (SP.nil (Sl.of_inc (i108.tr i117) S123.sl)))), ?_⟩
                refine FB.all1 (i := 7) (by kernel_rfl) ?_
                ·
                  obtain ⟨v128, w137, n135, cs136, run138, S139, els140, ce141⟩ := S123.appendO (P := Tryz.prog) te24 (i := 2) (j := 0) rfl (els75.mono (up_mono ((i90.tr i108).tr i117))) rfl els124 hz127
                  have S139 : St H0 w0 H115 w137 (.row 34 1 v120 1 [v109] :: .box b0 92 [v113, Value.int .i64 r103.2.at_, Value.int .u64 r103.2.seed] :: .row 34 1 v128 n135 cs136 :: .box b59 26 [Value.int .i64 s282.2.2.2.2.1, v72] :: .box b21 26 [Value.int .i64 0, Value.slice none 0 0] :: L) := S139
                  have nd142 : (bl cs136).Nodup := by rw [ce141]; exact nd_app nd76 nd125 (Els.dom (els75.mono (upI.tr (i90.tr i108)))) (by exact nv119)
                  have S143 : St H0 w0 H115 w137 (.box b0 92 [v113, Value.int .i64 r103.2.at_, Value.int .u64 r103.2.seed] :: .row 34 1 v128 n135 cs136 :: .box b59 26 [Value.int .i64 s282.2.2.2.2.1, v72] :: .box b21 26 [Value.int .i64 0, Value.slice none 0 0] :: L) := S139.drop 0
                  refine FC.val (l' := (bs 10 255)) rfl (by kernel_rfl) rfl rfl rfl (E.append rfl rfl run138) ?_
                  refine ⟨(SP.on ((S143.box_now (i := 2) rfl).sub (j := 1) (n := 1) (c := [v72]) rfl) (SP.on ((S143.box_now (i := 2) rfl).sub (j := 0) (n := 1) (c := [Value.int .i64 s282.2.2.2.2.1]) rfl) (SP.nil (Sl.of_inc (i108.tr i117) S143.sl)))), ?_⟩
                  refine FB.t (i := 8) (bs 10 511) rfl (SP.on ((S143.box_now (i := 2) rfl).sub (j := 1) (n := 1) (c := [v72]) rfl) (SP.on ((S143.box_now (i := 2) rfl).sub (j := 0) (n := 1) (c := [Value.int .i64 s282.2.2.2.2.1]) rfl) (SP.nil (Sl.of_inc (i108.tr i117) S143.sl)))) rfl (fun w' hw' => (E.fieldAddr tf26_1 k96)) ?_
                  refine FB.all1 (i := 9) (by kernel_rfl) ?_
                  ·
                    obtain ⟨w144, run145, S146⟩ := S143.store (P := Tryz.prog) (t := 24) (i := 2) (j := 1) (cs' := [Value.int .i64 s282.2.2.2.2.1, v128]) (l' := (.box b0 92 [v113, Value.int .i64 r103.2.at_, Value.int .u64 r103.2.seed] :: .row 34 1 v128 n135 cs136 :: .box b59 26 [Value.int .i64 s282.2.2.2.2.1, v128] :: .box b21 26 [Value.int .i64 0, Value.slice none 0 0] :: L)) (v := v128) (c := [v128]) rfl Tryz.sizeOf24 (Ln.cells (S143.row_ln (i := 1) rfl)) rfl (ones_cons (Ln.one (S143.row_ln (i := 1) rfl)) ones_nil) (Nat.le_of_ble_eq_true rfl) rfl rfl
                    refine FC.act (l' := (bs 10 1023)) rfl (by kernel_rfl) rfl rfl (E.store rfl rfl run145) ?_
                    refine ⟨(SP.o (SP.on ((S146.box_now (i := 2) rfl).sub (j := 0) (n := 1) (c := [Value.int .i64 s282.2.2.2.2.1]) rfl) (SP.nil (Sl.of_inc (i108.tr i117) S146.sl)))), ?_⟩
                    exact FB.done (by kernel_rfl) ⟨_, _, _, _, _, S146, (i108.tr i117), els140, (h114.mono i117), nd142, k94, k95, k96, k97⟩
          ·
            rintro f158 w157 ⟨H154, v147, n148, cs149, v152, S155, i156, els150, h153, nd151, k159, k160, k161, k162⟩
            refine FW.region ?_
            refine FL.v (E.move k162) ?_
            refine FL.v (E.sub rfl rfl) ?_
            refine FL.v (E.assign (v := Value.int .i64 (wr (s282.2.2.2.2.2 - 1))) rfl) ?_
            refine FL.nil ?_
            obtain rfl := Option.some.inj hp
            exact ⟨rfl, ⟨_, _, _, _, _, S155, ((i81.tr i90).tr i156), els150, h153, nd151, k159, k160, k161, rfl⟩⟩
        ·
          refine FW.condF k98 c99 ?_
          refine FW.exit ?_
          obtain rfl := Option.some.inj hp
          exact ⟨nofun, rfl, ⟨_, _, _, _, _, S89, (i81.tr i90), (els75.mono (up_mono i90)), (h78.mono i90), nd76, k95, k96⟩⟩
      ·
        clear hq
        intro e f168 w167 hD
        rcases q282 with s282 | x282
        ·
          obtain ⟨rfl, hD⟩ := hD
          obtain ⟨H164, v72, n73, cs74, v77, S165, i166, els75, h78, nd76, k169, k170⟩ := hD
          replace hp := el_go hp
          refine FW.seq (FW.region ?_)
          refine FL.v (E.load k170 (run_loadA Tryz.isAgg26 Tryz.sizeOf26 (S165.box_now (i := 2) rfl) rfl)) ?_
          obtain ⟨w171, run172, S173⟩ := S165.store0 (P := Tryz.prog) (t := 26) (i := 3) (cs' := [Value.int .i64 s282.2.2.2.2.1, v72]) (l' := (.box b0 92 [v77, Value.int .i64 s282.2.2.1, Value.int .u64 s282.2.2.2.1] :: .row 34 1 v72 n73 cs74 :: .box b59 26 [Value.int .i64 s282.2.2.2.2.1, v72] :: .box b21 26 [Value.int .i64 s282.2.2.2.2.1, v72] :: L)) (v := Value.agg #[Value.int .i64 s282.2.2.2.2.1, v72]) (c := [Value.int .i64 s282.2.2.2.2.1, v72]) rfl Tryz.sizeOf26 rfl rfl (ones_cons rfl (ones_cons (Ln.one (S165.row_ln (i := 1) rfl)) ones_nil)) (Nat.le_of_ble_eq_true rfl) rfl rfl
          refine FL.act rfl rfl (E.store k169 rfl run172) ?_
          obtain ⟨H174, S175, i176, ns179, nv178⟩ := S173.sealRowN (i := 1) (l' := (.box b0 92 [v77, Value.int .i64 s282.2.2.1, Value.int .u64 s282.2.2.2.1] :: .box b59 26 [Value.int .i64 s282.2.2.2.2.1, v72] :: .box b21 26 [Value.int .i64 s282.2.2.2.2.1, v72] :: L)) rfl els75 nd76 (by decide) rfl
          have h177 := ns179.rsl
          obtain ⟨H180, S181, i182, at183⟩ := S175.sealBox (i := 2) (l' := (.box b0 92 [v77, Value.int .i64 s282.2.2.1, Value.int .u64 s282.2.2.2.1] :: .box b59 26 [Value.int .i64 s282.2.2.2.2.1, v72] :: L)) rfl rfl
          refine FL.nil ?_
          refine FW.ret ?_
          obtain rfl := Option.some.inj hp
          exact ⟨.inr rfl, resC rfl k169 (loadVar_A Tryz.isAgg26 Tryz.sizeOf26 (at183.now S181.sl) rfl) ⟨_, _, _, rfl, ⟨(S181.selT (a := [.box b0 92 [v77, Value.int .i64 s282.2.2.1, Value.int .u64 s282.2.2.2.1], .box b59 26 [Value.int .i64 s282.2.2.2.2.1, v72]]) (l' := [.box b0 92 [v77, Value.int .i64 s282.2.2.1, Value.int .u64 s282.2.2.2.1]]) [0] (by decide) rfl), (((((((((r28.run.inc.tr i35).tr i44).tr r52.inc).tr i244).tr r261.run.inc).tr i279).tr i166).tr i176).tr i182)⟩, ⟨_, (ns179.mono (up_mono i182))⟩, (h78.mono (i176.tr i182))⟩⟩
        · exact x282.elim
    · exact x71.elim

@[reducible] def p_spec_l1Cur_lit (H0 : GH) (w0 : World) (Ha : GH) (L : List MO) (b0 : Nat) (r : (Int × l1Cur)) : Ending → World → Prop :=
 fun e w' => ∃ H' : GH, ∃ v0_0r : Value, e = .returned (Value.int .i64 r.1) ∧ (St H0 w0 H' w' (.box b0 92 [v0_0r, Value.int .i64 r.2.at_, Value.int .u64 r.2.seed] :: L) ∧ Inc Ha H') ∧ RSl H' (eN .u8) 1 v0_0r r.2.code
theorem w_spec_l1Cur_lit {H0 Ha : GH} {w0 wa : World} {L : List MO} {a0 : l1Cur} {b0 : Nat} {v0_0 : Value} (S0 : St H0 w0 Ha wa (.box b0 92 [v0_0, Value.int .i64 a0.at_, Value.int .u64 a0.seed] :: L)) (p0_0 : RSl Ha (eN .u8) 1 v0_0 a0.code) (a1 : Int) {r : (Int × l1Cur)} (hp : (PF.spec_l1Cur_lit a0 a1) = some r) :
  Calls Tryz.prog 189 #[Value.pointer (some (⟨b0, 0, none⟩ : Addr)), Value.int .i64 a1] wa (p_spec_l1Cur_lit H0 w0 Ha L b0 r) := by
 unfold PF.spec_l1Cur_lit at hp
 refine calls_go (N := 29) (args := [Value.pointer (some (⟨b0, 0, none⟩ : Addr)), Value.int .i64 a1]) Tryz.func189 rfl rfl rfl ?_
 refine FW.seq (FW.region ?_)
 refine FL.v (E.assign (v := Value.int .i64 0) rfl) ?_
 refine FL.nil (FW.seq (FW.seq (FW.region ?_)))
 refine FL.v (E.move (v := Value.int .i64 a1) rfl) ?_
 refine FL.v (E.lss rfl rfl) ?_
 refine FL.v (E.move (v := Value.bool (decide (a1 < 1))) rfl) ?_
 obtain ⟨t29, hqt29, hp⟩ := bnd hp
 refine FL.cut 3 (fun f w => ∃ H : GH, ∃ v31 : Value, St H0 w0 H w (.box b0 92 [v31, Value.int .i64 t29.2.1, Value.int .u64 t29.2.2.1] :: L) ∧ Inc Ha H ∧ RSl H (eN .u8) 1 v31 t29.1 ∧ f 0 = Value.pointer (some (⟨b0, 0, none⟩ : Addr)) ∧ f 1 = Value.int .i64 a1 ∧ f 11 = Value.bool t29.2.2.2) ?_ ?_
 ·
  clear hp; have hp := hqt29; clear hqt29
  rcases ifB hp with ⟨c30, hp⟩ | ⟨c30, hp⟩
  ·
   refine FL.skip (wF_no rfl rfl rfl c30) rfl ?_
   refine FL.skip (wF_no rfl rfl rfl c30) rfl ?_
   refine FL.v (E.pickT rfl c30 rfl) ?_
   obtain rfl := Option.some.inj hp
   exact FL.nil ⟨rfl, ⟨_, _, S0, (Inc.rfl _), p0_0, rfl, rfl, rfl⟩⟩
  ·
   refine FL.val (wF_yes rfl rfl rfl c30) rfl rfl (E.move (v := Value.pointer (some (⟨b0, 0, none⟩ : Addr))) rfl) ?_
   obtain ⟨r33, hr34, hp⟩ := bnd hp
   refine FL.call (wF_yes rfl rfl rfl c30) rfl rfl (E.call Tryz.call68 (A2 rfl rfl)) (w_spec_l1Cur_one (L := (L)) S0 (a0 := a0) p0_0 40 hr34) ?_
   rintro e w36 ⟨H35, v39, rfl, ⟨S37, i38⟩, h40⟩
   refine ⟨_, rfl, ?_⟩
   have S37 : St H0 w0 H35 w36 (.box b0 92 [v39, Value.int .i64 r33.2.at_, Value.int .u64 r33.2.seed] :: L) := S37
   refine FL.v (E.pickF rfl c30 rfl) ?_
   obtain rfl := Option.some.inj hp
   exact FL.nil ⟨rfl, ⟨_, _, S37, i38, h40, rfl, rfl, rfl⟩⟩
 clear hqt29
 rintro f45 w44 ⟨H41, v31, S42, i43, h32, k46, k47, k48⟩
 refine FL.nil ?_
 rcases ifB hp with ⟨c49, hp⟩ | ⟨c49, hp⟩
 ·
  refine FW.condT k48 c49 ?_
  refine FW.seq (FW.region ?_)
  refine FL.v (E.move k46) ?_
  refine FL.v (E.move k47) ?_
  refine FL.v (E.add rfl rfl) ?_
  refine FL.v (E.move k47) ?_
  refine FL.v (E.neg rfl) ?_
  refine FL.v (E.sub rfl rfl) ?_
  obtain ⟨v50, w51, run52, S53⟩ := S42.buildSlice (P := Tryz.prog) te34 [Value.int .i64 0, Value.int .i64 (wr (a1 + 1)), Value.int .i64 (wr ((wr (-a1)) - 1))] (parts := #[(0, Value.int .i64 0), (1, Value.int .i64 (wr (a1 + 1))), (2, Value.int .i64 (wr ((wr (-a1)) - 1)))]) (cells := [Value.int .i64 0, Value.int .i64 (wr (a1 + 1)), Value.int .i64 (wr ((wr (-a1)) - 1))]) rfl (szs_cons rfl (szs_cons rfl (szs_cons rfl szs_nil))) (fc_cons rfl (fc_cons rfl (fc_cons rfl fc_nil))) (ones_cons rfl (ones_cons rfl (ones_cons rfl ones_nil))) (Nat.le_of_ble_eq_true rfl)
  have els54 : Els (up w0.heap.size H41) eI 1 [Value.int .i64 0, Value.int .i64 (wr (a1 + 1)), Value.int .i64 (wr ((wr (-a1)) - 1))] [0, (wr (a1 + 1)), (wr ((wr (-a1)) - 1))] := (Els.snoc (H := (up w0.heap.size H41)) (E := eI) (k := 1) (c := [Value.int .i64 (wr ((wr (-a1)) - 1))]) (x := (wr ((wr (-a1)) - 1))) (Els.snoc (H := (up w0.heap.size H41)) (E := eI) (k := 1) (c := [Value.int .i64 (wr (a1 + 1))]) (x := (wr (a1 + 1))) (Els.snoc (H := (up w0.heap.size H41)) (E := eI) (k := 1) (c := [Value.int .i64 0]) (x := 0) Els.nil rfl rfl) rfl rfl) rfl rfl)
  refine FL.v (E.buildSlice (B3 rfl rfl rfl) run52) ?_
  obtain ⟨H55, S56, i57, h58, nv59⟩ := S53.sealRowU (i := 0) (l' := (.box b0 92 [v31, Value.int .i64 t29.2.1, Value.int .u64 t29.2.2.1] :: L)) rfl els54 (by decide) rfl
  obtain ⟨r60, hr61, hp⟩ := bnd hp
  refine FL.call rfl rfl rfl (E.call Tryz.call69 (A2 rfl rfl)) (w_spec_l1Cur_among (L := (L)) S56 (a0 := (l1Cur.mk t29.1 t29.2.1 t29.2.2.1)) (h32.mono i57) v50 [0, (wr (a1 + 1)), (wr ((wr (-a1)) - 1))] (h58.mono upI) hr61) ?_
  rintro e w63 ⟨H62, v66, rfl, ⟨S64, i65⟩, h67⟩
  refine ⟨_, rfl, ?_⟩
  have S64 : St H0 w0 H62 w63 (.box b0 92 [v66, Value.int .i64 r60.2.at_, Value.int .u64 r60.2.seed] :: L) := S64
  refine FL.v (E.assign (v := Value.int .i64 r60.1) rfl) ?_
  refine FL.nil ?_
  refine FW.ret ?_
  obtain rfl := Option.some.inj hp
  exact ⟨.inr rfl, res1 rfl rfl ⟨_, _, rfl, ⟨S64, ((i43.tr i57).tr i65)⟩, h67⟩⟩
 ·
  refine FW.condF k48 c49 ?_
  refine FW.skip (FW.seq (FW.region ?_))
  refine FL.v (E.move k46) ?_
  refine FL.v (E.move k47) ?_
  obtain ⟨r68, hr69, hp⟩ := bnd hp
  refine FL.call rfl rfl rfl (E.call Tryz.call70 (A2 rfl rfl)) (w_spec_l1Cur_pick (L := (L)) S42 (a0 := (l1Cur.mk t29.1 t29.2.1 t29.2.2.1)) h32 a1 hr69) ?_
  rintro e w71 ⟨H70, v74, rfl, ⟨S72, i73⟩, h75⟩
  refine ⟨_, rfl, ?_⟩
  have S72 : St H0 w0 H70 w71 (.box b0 92 [v74, Value.int .i64 r68.2.at_, Value.int .u64 r68.2.seed] :: L) := S72
  refine FL.v (E.add rfl rfl) ?_
  refine FL.v (E.assign (v := Value.int .i64 (wr (1 + r68.1))) rfl) ?_
  refine FL.nil (FW.seq (FW.seq (FW.region ?_)))
  refine FL.v (E.move k46) ?_
  obtain ⟨r76, hr77, hp⟩ := bnd hp
  refine FL.call rfl rfl rfl (E.call Tryz.call68 (A2 rfl rfl)) (w_spec_l1Cur_one (L := (L)) S72 (a0 := r68.2) h75 2 hr77) ?_
  rintro e w79 ⟨H78, v82, rfl, ⟨S80, i81⟩, h83⟩
  refine ⟨_, rfl, ?_⟩
  have S80 : St H0 w0 H78 w79 (.box b0 92 [v82, Value.int .i64 r76.2.at_, Value.int .u64 r76.2.seed] :: L) := S80
  refine FL.nil ?_
  rcases ifB hp with ⟨c84, hp⟩ | ⟨c84, hp⟩
  ·
   refine FW.condT rfl c84 ?_
   refine FW.seq (FW.region ?_)
   refine FL.v (E.move (v := Value.int .i64 (wr (1 + r68.1))) rfl) ?_
   refine FL.v (E.neg rfl) ?_
   refine FL.v (E.assign (v := Value.int .i64 (wr (-(wr (1 + r68.1))))) rfl) ?_
   refine FL.nil ?_
   refine FW.ret ?_
   obtain rfl := Option.some.inj hp
   exact ⟨.inr rfl, res1 rfl rfl ⟨_, _, rfl, ⟨S80, ((i43.tr i73).tr i81)⟩, h83⟩⟩
  ·
   refine FW.condF rfl c84 ?_
   refine FW.skip (FW.seq (FW.region ?_))
   refine FL.v (E.move (v := Value.int .i64 (wr (1 + r68.1))) rfl) ?_
   refine FL.v (E.assign (v := Value.int .i64 (wr (1 + r68.1))) rfl) ?_
   refine FL.nil ?_
   refine FW.ret ?_
   obtain rfl := Option.some.inj hp
   exact ⟨.inr rfl, res1 rfl rfl ⟨_, _, rfl, ⟨S80, ((i43.tr i73).tr i81)⟩, h83⟩⟩

end Go.Proofs
