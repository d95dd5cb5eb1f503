/- Part of the walks and plain laws behind the claim: it proves helpers, under no condition beyond their own. -/
import Derived.Test.YtjpjbfbloplacaaMr16
import Derived.Test.YtjpjbfbloplacaaMr14
import Derived.Test.YtjpjbfbloplacaaMr19
import Derived.Test.YtjpjbfbloplacaaMr20
import Derived.Test.YtjpjbfbloplacaaMr21
import Derived.Test.YtjpjbfbloplacaaMr22
import Derived.Test.YtjpjbfbloplacaaMr23
import Derived.Test.YtjpjbfbloplacaaMr24
import Derived.Test.YtjpjbfbloplacaaMr25
import Derived.Test.YtjpjbfbloplacaaMr26
import Derived.Test.YtjpjbfbloplacaaMr27
import Derived.Test.YtjpjbfbloplacaaFcSh
import Derived.Test.YtjpjbfbloplacaaFcPf
import Derived.Test.YtjpjbfbloplacaaProg
set_option linter.unusedVariables false
set_option maxRecDepth 100000
namespace Go.Proofs
open Go.Mr Go.Pu Go.PF Go.RowKit

def eCnf : Enc Cnf := ⟨fun H cs s => ∃ v0, cs = [Value.int .i64 s.vars, v0] ∧ RSl H (eL eI 1) 1 v0 s.clauses, fun hi ⟨v0, h, h0⟩ => ⟨_, h, h0.mono hi⟩, by rintro H cs s ⟨v0, rfl, h0⟩; exact (ones_cons rfl (ones_cons h0.one ones_nil)), by rintro H cs s ⟨v0, rfl, h0⟩ b hb; obtain ⟨u, hu, hn⟩ := mem_bl hb; simp only [List.mem_cons, List.not_mem_nil, or_false] at hu; rcases hu with rfl | rfl <;> first | (cases hn; done) | exact h0.dom b (mem_bl1 hn)⟩
theorem eCnf_open {H : GH} {cs : List Value} {s : Cnf} (h : eCnf.rel H cs s) : ∃ v0, cs = [Value.int .i64 s.vars, v0] ∧ RSl H (eL eI 1) 1 v0 s.clauses := h

def ering : Enc ring := ⟨fun H cs s => cs = [Value.int .i64 s.p, Value.int .i64 s.vars], fun _ h => h, by rintro H cs s rfl; exact (ones_cons rfl (ones_cons rfl ones_nil)), by rintro H cs s rfl b hb; obtain ⟨u, hu, hn⟩ := mem_bl hb; simp only [List.mem_cons, List.not_mem_nil, or_false] at hu; rcases hu with rfl | rfl <;> cases hn⟩
theorem ering_open {H : GH} {cs : List Value} {s : ring} (h : ering.rel H cs s) : cs = [Value.int .i64 s.p, Value.int .i64 s.vars] := h

theorem ering_flat : FlatE ering := by rintro H H' cs x rfl; exact ⟨rfl, rfl⟩

def ealgebra : Enc algebra := ⟨fun H cs s => ∃ v0 v1, cs = [Value.int .i64 s.ring.p, Value.int .i64 s.ring.vars, Value.int .i64 s.f.vars, v0, v1] ∧ RSl H (eL eI 1) 1 v0 s.f.clauses ∧ RSl H (eL eI 1) 1 v1 s.q, fun hi ⟨v0, v1, h, h0, h1⟩ => ⟨_, _, h, h0.mono hi, h1.mono hi⟩, by rintro H cs s ⟨v0, v1, rfl, h0, h1⟩; exact (ones_cons rfl (ones_cons rfl (ones_cons rfl (ones_cons h0.one (ones_cons h1.one ones_nil))))), by rintro H cs s ⟨v0, v1, rfl, h0, h1⟩ b hb; obtain ⟨u, hu, hn⟩ := mem_bl hb; simp only [List.mem_cons, List.not_mem_nil, or_false] at hu; rcases hu with rfl | rfl | rfl | rfl | rfl <;> first | (cases hn; done) | exact h0.dom b (mem_bl1 hn) | exact h1.dom b (mem_bl1 hn)⟩
theorem ealgebra_open {H : GH} {cs : List Value} {s : algebra} (h : ealgebra.rel H cs s) : ∃ v0 v1, cs = [Value.int .i64 s.ring.p, Value.int .i64 s.ring.vars, Value.int .i64 s.f.vars, v0, v1] ∧ RSl H (eL eI 1) 1 v0 s.f.clauses ∧ RSl H (eL eI 1) 1 v1 s.q := h

def eproduct : Enc product := ⟨fun H cs s => ∃ v0, cs = [Value.int .i64 s.clause, Value.int .i64 s.mono, v0] ∧ RSl H eI 1 v0 s.poly, fun hi ⟨v0, h, h0⟩ => ⟨_, h, h0.mono hi⟩, by rintro H cs s ⟨v0, rfl, h0⟩; exact (ones_cons rfl (ones_cons rfl (ones_cons h0.one ones_nil))), by rintro H cs s ⟨v0, rfl, h0⟩ b hb; obtain ⟨u, hu, hn⟩ := mem_bl hb; simp only [List.mem_cons, List.not_mem_nil, or_false] at hu; rcases hu with rfl | rfl | rfl <;> first | (cases hn; done) | exact h0.dom b (mem_bl1 hn)⟩
theorem eproduct_open {H : GH} {cs : List Value} {s : product} (h : eproduct.rel H cs s) : ∃ v0, cs = [Value.int .i64 s.clause, Value.int .i64 s.mono, v0] ∧ RSl H eI 1 v0 s.poly := h

theorem eproduct_loc : LocE eproduct := by rintro H H' cs x ⟨v0, rfl, h0⟩ hb; exact ⟨_, rfl, h0.only eI_flat.rel (fun b q => hb b (bl_get (i := 2) rfl b q))⟩

def el19Product : Enc l19Product := ⟨fun H cs s => ∃ v0, cs = [Value.int .i64 s.clause, Value.int .i64 s.mono, v0] ∧ RSl H eI 1 v0 s.all, fun hi ⟨v0, h, h0⟩ => ⟨_, h, h0.mono hi⟩, by rintro H cs s ⟨v0, rfl, h0⟩; exact (ones_cons rfl (ones_cons rfl (ones_cons h0.one ones_nil))), by rintro H cs s ⟨v0, rfl, h0⟩ b hb; obtain ⟨u, hu, hn⟩ := mem_bl hb; simp only [List.mem_cons, List.not_mem_nil, or_false] at hu; rcases hu with rfl | rfl | rfl <;> first | (cases hn; done) | exact h0.dom b (mem_bl1 hn)⟩
theorem el19Product_open {H : GH} {cs : List Value} {s : l19Product} (h : el19Product.rel H cs s) : ∃ v0, cs = [Value.int .i64 s.clause, Value.int .i64 s.mono, v0] ∧ RSl H eI 1 v0 s.all := h

theorem el19Product_loc : LocE el19Product := by rintro H H' cs x ⟨v0, rfl, h0⟩ hb; exact ⟨_, rfl, h0.only eI_flat.rel (fun b q => hb b (bl_get (i := 2) rfl b q))⟩

def el19Base : Enc l19Base := ⟨fun H cs s => ∃ v0 v1 v2 v3, cs = [v0, v1, v2, v3] ∧ RSl H (eL eI 1) 1 v0 s.rows ∧ RSl H eI 1 v1 s.leads ∧ RSl H (eL eI 1) 1 v2 s.made ∧ RSl H el19Product 3 v3 s.kept, fun hi ⟨v0, v1, v2, v3, h, h0, h1, h2, h3⟩ => ⟨_, _, _, _, h, h0.mono hi, h1.mono hi, h2.mono hi, h3.mono hi⟩, by rintro H cs s ⟨v0, v1, v2, v3, rfl, h0, h1, h2, h3⟩; exact (ones_cons h0.one (ones_cons h1.one (ones_cons h2.one (ones_cons h3.one ones_nil)))), by rintro H cs s ⟨v0, v1, v2, v3, rfl, h0, h1, h2, h3⟩ b hb; obtain ⟨u, hu, hn⟩ := mem_bl hb; simp only [List.mem_cons, List.not_mem_nil, or_false] at hu; rcases hu with rfl | rfl | rfl | rfl <;> first | (cases hn; done) | exact h0.dom b (mem_bl1 hn) | exact h1.dom b (mem_bl1 hn) | exact h2.dom b (mem_bl1 hn) | exact h3.dom b (mem_bl1 hn)⟩
theorem el19Base_open {H : GH} {cs : List Value} {s : l19Base} (h : el19Base.rel H cs s) : ∃ v0 v1 v2 v3, cs = [v0, v1, v2, v3] ∧ RSl H (eL eI 1) 1 v0 s.rows ∧ RSl H eI 1 v1 s.leads ∧ RSl H (eL eI 1) 1 v2 s.made ∧ RSl H el19Product 3 v3 s.kept := h

def eechelon : Enc echelon := ⟨fun H cs s => ∃ v0 v1, cs = [Value.int .i64 s.ring.p, Value.int .i64 s.ring.vars, v0, v1, Value.int .i64 s.many] ∧ RSl H (eL eI 1) 1 v0 s.rows ∧ RSl H (eL eI 1) 1 v1 s.made, fun hi ⟨v0, v1, h, h0, h1⟩ => ⟨_, _, h, h0.mono hi, h1.mono hi⟩, by rintro H cs s ⟨v0, v1, rfl, h0, h1⟩; exact (ones_cons rfl (ones_cons rfl (ones_cons h0.one (ones_cons h1.one (ones_cons rfl ones_nil))))), by rintro H cs s ⟨v0, v1, rfl, h0, h1⟩ b hb; obtain ⟨u, hu, hn⟩ := mem_bl hb; simp only [List.mem_cons, List.not_mem_nil, or_false] at hu; rcases hu with rfl | rfl | rfl | rfl | rfl <;> first | (cases hn; done) | exact h0.dom b (mem_bl1 hn) | exact h1.dom b (mem_bl1 hn)⟩
theorem eechelon_open {H : GH} {cs : List Value} {s : echelon} (h : eechelon.rel H cs s) : ∃ v0 v1, cs = [Value.int .i64 s.ring.p, Value.int .i64 s.ring.vars, v0, v1, Value.int .i64 s.many] ∧ RSl H (eL eI 1) 1 v0 s.rows ∧ RSl H (eL eI 1) 1 v1 s.made := h

def eTerm : Enc Term := ⟨fun H cs s => cs = [Value.int .i64 s.mono, Value.int .i64 s.coeff], fun _ h => h, by rintro H cs s rfl; exact (ones_cons rfl (ones_cons rfl ones_nil)), by rintro H cs s rfl b hb; obtain ⟨u, hu, hn⟩ := mem_bl hb; simp only [List.mem_cons, List.not_mem_nil, or_false] at hu; rcases hu with rfl | rfl <;> cases hn⟩
theorem eTerm_open {H : GH} {cs : List Value} {s : Term} (h : eTerm.rel H cs s) : cs = [Value.int .i64 s.mono, Value.int .i64 s.coeff] := h

theorem eTerm_flat : FlatE eTerm := by rintro H H' cs x rfl; exact ⟨rfl, rfl⟩

def Fn_I_I_to_I (P : Program) (H : GH) (v : Value) (p : Int → Int → Option Int) : Prop :=
 ∀ (H' : GH) (w' : World), Inc H H' → Sl H' w' → ∀ (x0 : Int) (x1 : Int) (r : Int), p x0 x1 = some r →
  ∃ (fid : Nat) (cs : Array Value), v = Value.func (.func fid) #[] cs ∧ (∀ args w, (callFunc fid args).run P w = .ok (.enter fid args) w) ∧ Calls P fid (#[Value.int .i64 x0, Value.int .i64 x1] ++ cs) w' (Sc H' w' (Value.int .i64 r))
theorem Fn_I_I_to_I.mono {P : Program} {H H' : GH} {v : Value} {p : Int → Int → Option Int} (h : Fn_I_I_to_I P H v p) (hi : Inc H H') : Fn_I_I_to_I P H' v p :=
 fun H2 w2 h2 => h H2 w2 (hi.tr h2)

theorem te22 : TE Try.prog 22 47 1 (.slice none 0 0) := ⟨Try.underlying22, ⟨Try.t47, Try.type47, rfl, rfl, by decide⟩, rfl, by decide⟩
theorem te26 : TE Try.prog 26 62 1 (.slice none 0 0) := ⟨Try.underlying26, ⟨Try.t62, Try.type62, rfl, rfl, by decide⟩, rfl, by decide⟩
theorem te43 : TE Try.prog 43 60 3 (.agg #[(.int .i64 0), (.int .i64 0), (.slice none 0 0)]) := ⟨Try.underlying43, ⟨Try.t60, Try.type60, rfl, rfl, by decide⟩, rfl, by decide⟩
theorem te47 : TE Try.prog 47 3 1 (.int .i64 0) := ⟨Try.underlying47, ⟨Try.t3, Try.type3, rfl, rfl, by decide⟩, rfl, by decide⟩
theorem te48 : TE Try.prog 48 3 1 (.int .i64 0) := ⟨Try.underlying48, ⟨Try.t3, Try.type3, rfl, rfl, by decide⟩, rfl, by decide⟩
theorem te54 : TE Try.prog 54 48 1 (.slice none 0 0) := ⟨Try.underlying54, ⟨Try.t48, Try.type48, rfl, rfl, by decide⟩, rfl, by decide⟩
theorem te62 : TE Try.prog 62 94 2 (.agg #[(.int .i64 0), (.int .i64 0)]) := ⟨Try.underlying62, ⟨Try.t94, Try.type94, rfl, rfl, by decide⟩, rfl, by decide⟩
theorem te71 : TE Try.prog 71 80 3 (.agg #[(.int .i64 0), (.int .i64 0), (.slice none 0 0)]) := ⟨Try.underlying71, ⟨Try.t80, Try.type80, rfl, rfl, by decide⟩, rfl, by decide⟩
theorem tf24_0 : TF Try.prog 24 0 0 := ⟨_, _, _, Try.underlying24, rfl, rfl, Try.sizeOf3, by decide⟩
theorem tf24_1 : TF Try.prog 24 1 1 := ⟨_, _, _, Try.underlying24, rfl, rfl, Try.sizeOf22, by decide⟩
theorem tf29_0 : TF Try.prog 29 0 0 := ⟨_, _, _, Try.underlying29, rfl, rfl, Try.sizeOf3, by decide⟩
theorem tf29_1 : TF Try.prog 29 1 1 := ⟨_, _, _, Try.underlying29, rfl, rfl, Try.sizeOf22, by decide⟩
theorem tf53_0 : TF Try.prog 53 0 0 := ⟨_, _, _, Try.underlying53, rfl, rfl, Try.sizeOf3, by decide⟩
theorem tf53_1 : TF Try.prog 53 1 1 := ⟨_, _, _, Try.underlying53, rfl, rfl, Try.sizeOf3, by decide⟩
theorem tf56_0 : TF Try.prog 56 0 0 := ⟨_, _, _, Try.underlying56, rfl, rfl, Try.sizeOf53, by decide⟩
theorem tf56_1 : TF Try.prog 56 1 2 := ⟨_, _, _, Try.underlying56, rfl, rfl, Try.sizeOf29, by decide⟩
theorem tf56_2 : TF Try.prog 56 2 4 := ⟨_, _, _, Try.underlying56, rfl, rfl, Try.sizeOf54, by decide⟩
theorem tf60_0 : TF Try.prog 60 0 0 := ⟨_, _, _, Try.underlying60, rfl, rfl, Try.sizeOf3, by decide⟩
theorem tf60_1 : TF Try.prog 60 1 1 := ⟨_, _, _, Try.underlying60, rfl, rfl, Try.sizeOf3, by decide⟩
theorem tf60_2 : TF Try.prog 60 2 2 := ⟨_, _, _, Try.underlying60, rfl, rfl, Try.sizeOf48, by decide⟩
theorem tf73_0 : TF Try.prog 73 0 0 := ⟨_, _, _, Try.underlying73, rfl, rfl, Try.sizeOf22, by decide⟩
theorem tf73_1 : TF Try.prog 73 1 1 := ⟨_, _, _, Try.underlying73, rfl, rfl, Try.sizeOf47, by decide⟩
theorem tf73_2 : TF Try.prog 73 2 2 := ⟨_, _, _, Try.underlying73, rfl, rfl, Try.sizeOf22, by decide⟩
theorem tf73_3 : TF Try.prog 73 3 3 := ⟨_, _, _, Try.underlying73, rfl, rfl, Try.sizeOf71, by decide⟩
theorem tf80_0 : TF Try.prog 80 0 0 := ⟨_, _, _, Try.underlying80, rfl, rfl, Try.sizeOf3, by decide⟩
theorem tf80_1 : TF Try.prog 80 1 1 := ⟨_, _, _, Try.underlying80, rfl, rfl, Try.sizeOf3, by decide⟩
theorem tf80_2 : TF Try.prog 80 2 2 := ⟨_, _, _, Try.underlying80, rfl, rfl, Try.sizeOf47, by decide⟩
theorem tf87_0 : TF Try.prog 87 0 0 := ⟨_, _, _, Try.underlying87, rfl, rfl, Try.sizeOf53, by decide⟩
theorem tf87_1 : TF Try.prog 87 1 2 := ⟨_, _, _, Try.underlying87, rfl, rfl, Try.sizeOf54, by decide⟩
theorem tf87_2 : TF Try.prog 87 2 3 := ⟨_, _, _, Try.underlying87, rfl, rfl, Try.sizeOf54, by decide⟩
theorem tf87_3 : TF Try.prog 87 3 4 := ⟨_, _, _, Try.underlying87, rfl, rfl, Try.sizeOf3, by decide⟩
theorem tf94_0 : TF Try.prog 94 0 0 := ⟨_, _, _, Try.underlying94, rfl, rfl, Try.sizeOf3, by decide⟩
theorem tf94_1 : TF Try.prog 94 1 1 := ⟨_, _, _, Try.underlying94, rfl, rfl, Try.sizeOf3, by decide⟩
theorem w_laws_szIntS {Ha : GH} {wa : World} (hs : Sl Ha wa) (v0 : Value) (a0 : List Int) (p0 : RSl Ha eI 1 v0 a0) (a1 : Int) :
  Calls Try.prog 32 #[v0, Value.int .i64 a1] wa (Sc Ha wa (Value.int .i64 (PF.laws_szIntS a0 a1))) := by
 obtain ⟨r, hp⟩ : ∃ r, (PF.laws_szIntS a0 a1) = r := ⟨_, rfl⟩
 rw [hp]
 unfold PF.laws_szIntS at hp
 have S0 := St.init hs
 refine calls_go (N := 12) (args := [v0, Value.int .i64 a1]) Try.func32 rfl rfl rfl ?_
 refine FW.seq (FW.region ?_)
 refine FL.v (E.assign (v := Value.int .i64 0) rfl) ?_
 refine FL.nil (FW.seq (FW.region ?_))
 refine FL.v (E.move (v := Value.int .i64 a1) rfl) ?_
 refine FL.v (E.move (v := v0) rfl) ?_
 refine FL.v (E.lenP te47 rfl p0) ?_
 refine FL.v (E.sub rfl rfl) ?_
 refine FL.v (E.assign (v := Value.int .i64 (wr (a1 - (len a0)))) rfl) ?_
 refine FL.nil (FW.seq (FW.seq (FW.region ?_)))
 refine FL.v (E.move (v := Value.int .i64 (wr (a1 - (len a0)))) rfl) ?_
 refine FL.v (E.lss rfl rfl) ?_
 refine FL.nil ?_
 rcases ifT hp with ⟨c21, hp⟩ | ⟨c21, hp⟩
 ·
  refine FW.condT rfl c21 ?_
  refine FW.seq (FW.region ?_)
  refine FL.v (E.assign (v := Value.int .i64 (-1)) rfl) ?_
  refine FL.nil ?_
  refine FW.ret ?_
  obtain rfl := hp
  exact ⟨.inr rfl, res1 rfl rfl ⟨rfl, S0.back⟩⟩
 ·
  refine FW.condF rfl c21 ?_
  refine FW.skip (FW.seq (FW.region ?_))
  refine FL.v (E.move (v := Value.int .i64 (wr (a1 - (len a0)))) rfl) ?_
  refine FL.v (E.assign (v := Value.int .i64 (wr (a1 - (len a0)))) rfl) ?_
  refine FL.nil ?_
  refine FW.ret ?_
  obtain rfl := hp
  exact ⟨.inr rfl, res1 rfl rfl ⟨rfl, S0.back⟩⟩

theorem w_laws_szIntSS {Ha : GH} {wa : World} (hs : Sl Ha wa) (v0 : Value) (a0 : List (List Int)) (p0 : RSl Ha (eL eI 1) 1 v0 a0) (a1 : Int) {r : Int} (hp : (PF.laws_szIntSS a0 a1) = some r) :
  Calls Try.prog 13 #[v0, Value.int .i64 a1] wa (Sc Ha wa (Value.int .i64 r)) := by
 unfold PF.laws_szIntSS at hp
 have S0 := St.init hs
 refine calls_go (N := 27) (args := [v0, Value.int .i64 a1]) Try.func13 rfl rfl rfl ?_
 refine FW.seq (FW.region ?_)
 refine FL.v (E.assign (v := Value.int .i64 0) rfl) ?_
 refine FL.nil (FW.seq (FW.region ?_))
 refine FL.v (E.move (v := Value.int .i64 a1) rfl) ?_
 refine FL.v (E.move (v := v0) rfl) ?_
 refine FL.v (E.lenP te22 rfl p0) ?_
 refine FL.v (E.sub rfl rfl) ?_
 refine FL.v (E.assign (v := Value.int .i64 (wr (a1 - (len a0)))) rfl) ?_
 refine FL.nil (FW.seq (FW.seq (FW.region ?_)))
 refine FL.v (E.move (v := Value.int .i64 (wr (a1 - (len a0)))) rfl) ?_
 refine FL.v (E.lss rfl rfl) ?_
 refine FL.nil ?_
 rcases ifB hp with ⟨c21, hp⟩ | ⟨c21, hp⟩
 ·
  refine FW.condT rfl c21 ?_
  refine FW.seq (FW.region ?_)
  refine FL.v (E.assign (v := Value.int .i64 (-1)) rfl) ?_
  refine FL.nil ?_
  refine FW.ret ?_
  obtain rfl := Option.some.inj hp
  exact ⟨.inr rfl, res1 rfl rfl ⟨rfl, S0.back⟩⟩
 ·
  refine FW.condF rfl c21 ?_
  refine FW.skip (FW.seq (FW.seq (FW.region ?_)))
  refine FL.v (E.assign (v := Value.int .i64 0) rfl) ?_
  refine FL.nil ?_
  obtain ⟨q23, hq, hp⟩ := bndR hp
  refine FW.block ?_
  refine FW.mono (FW.forL (S := Int) (X := Int) (fun (i23 : Nat) (s23 : Int) f w => ∃ H : GH, St Ha wa H w [] ∧ Inc Ha H ∧ f 5 = Value.int .i64 ((i23 : Nat) : Int) ∧ f 0 = v0 ∧ f 1 = Value.int .i64 s23) (fun q e f w => match q with | .go s23 => e = Exit.exit 0 ∧ (∃ H : GH, St Ha wa H w [] ∧ Inc Ha H ∧ f 1 = Value.int .i64 s23) | .rt x => ((e = Exit.ret) ∧ (fun e f w => (e = Exit.normal ∨ e = Exit.ret) ∧ ∀ a, Fr (δ := []) 27 a f → ∃ v, (results Try.f13 a.tmps).run Try.prog w = .ok v w ∧ (Sc Ha wa (Value.int .i64 x)) (.returned v) w) e f w)) hq ⟨_, S0, (Inc.rfl _), rfl, rfl, rfl⟩ ?_ ?_) ?_
  ·
   clear hp hq
   rintro i23 y22 s23 f48 w47 ⟨H44, S45, i46, k49, k50, k51⟩ hx23 o64 hp
   refine FW.seq (FW.seq (FW.region ?_))
   refine FL.v (E.move k49) ?_
   refine FL.v (E.move k50) ?_
   refine FL.v (E.lenP te22 rfl p0) ?_
   refine FL.v (E.lssT rfl rfl (lss_len hx23)) ?_
   refine FL.nil ?_
   refine FW.condT rfl rfl ?_
   refine FW.skip (FW.seq (FW.block (FW.seq (FW.region ?_))))
   refine FL.v (E.move k50) ?_
   refine FL.v (E.move k49) ?_
   obtain ⟨p52, cs53, pt54, l55, at56, rel57⟩ := p0.at (ix_nat hx23)
   obtain ⟨v58, rfl, h59⟩ := eL_open rel57
   refine FL.v (E.indexAddr te22 rfl rfl pt54) ?_
   refine FL.v (E.load rfl (run_load0 Try.isAgg47 ((at56.mono i46).now S45.sl) rfl)) ?_
   refine FL.v (E.move k51) ?_
   refine FL.call rfl rfl rfl (E.call Try.call32 (A2 rfl rfl)) (w_laws_szIntS S45.sl v58 y22 (h59.mono i46) s23) ?_
   rintro e w60 ⟨rfl, r61⟩
   refine ⟨_, rfl, ?_⟩
   have S62 := S45.call r61
   refine FL.v (E.assign (v := Value.int .i64 (PF.laws_szIntS y22 s23)) rfl) ?_
   refine FL.nil (FW.seq (FW.region ?_))
   refine FL.v (E.move (v := Value.int .i64 (PF.laws_szIntS y22 s23)) rfl) ?_
   refine FL.v (E.lss rfl rfl) ?_
   refine FL.nil ?_
   rcases ifB hp with ⟨c63, hp⟩ | ⟨c63, hp⟩
   ·
    refine FW.condT rfl c63 ?_
    refine FW.seq (FW.region ?_)
    refine FL.v (E.assign (v := Value.int .i64 (-1)) rfl) ?_
    refine FL.nil ?_
    refine FW.ret ?_
    obtain rfl := Option.some.inj hp
    exact ⟨nofun, rfl, ⟨.inr rfl, res1 rfl rfl ⟨rfl, S62.back⟩⟩⟩
   ·
    refine FW.condF rfl c63 ?_
    refine FW.skip (FW.region ?_)
    refine FL.v (E.move k49) ?_
    refine FL.v (E.add rfl rfl) ?_
    refine FL.v (E.assign (v := Value.int .i64 (wr (((i23 : Nat) : Int) + 1))) rfl) ?_
    refine FL.nil ?_
    obtain rfl := Option.some.inj hp
    exact ⟨rfl, ⟨_, S62, i46, (nat_succ rfl (lt_of_get hx23) (p0.mono i46).le), k50, rfl⟩⟩
  ·
   clear hp hq
   rintro s23 f75 w74 ⟨H71, S72, i73, k76, k77, k78⟩
   refine FW.seq (FW.seq (FW.region ?_))
   refine FL.v (E.move k76) ?_
   refine FL.v (E.move k77) ?_
   refine FL.v (E.lenP te22 rfl p0) ?_
   refine FL.v (E.lss rfl rfl) ?_
   refine FL.nil ?_
   refine FW.condF rfl dlt_len ?_
   refine FW.exit ?_
   exact ⟨nofun, rfl, ⟨_, S72, i73, k78⟩⟩
  ·
   clear hq
   intro e f69 w68 hD
   rcases q23 with s23 | x23
   ·
    obtain ⟨rfl, hD⟩ := hD
    obtain ⟨H65, S66, i67, k70⟩ := hD
    replace hp := el_go hp
    refine FW.seq (FW.region ?_)
    refine FL.v (E.move k70) ?_
    refine FL.v (E.assign (v := Value.int .i64 s23) rfl) ?_
    refine FL.nil ?_
    refine FW.ret ?_
    obtain rfl := Option.some.inj hp
    exact ⟨.inr rfl, res1 rfl rfl ⟨rfl, S66.back⟩⟩
   ·
    obtain ⟨he, hL⟩ := hD
    replace hp := el_rt hp
    obtain rfl := Option.some.inj hp
    subst he
    exact hL

theorem w_laws_szCnf {Ha : GH} {wa : World} (hs : Sl Ha wa) (a0 : Cnf) (v0_1 : Value) (p0_1 : RSl Ha (eL eI 1) 1 v0_1 a0.clauses) (a1 : Int) {r : Int} (hp : (PF.laws_szCnf a0 a1) = some r) :
  Calls Try.prog 4 #[Value.agg #[Value.int .i64 a0.vars, v0_1], Value.int .i64 a1] wa (Sc Ha wa (Value.int .i64 r)) := by
 unfold PF.laws_szCnf at hp
 have S0 := St.init hs
 refine calls_go (N := 12) (args := [Value.agg #[Value.int .i64 a0.vars, v0_1], Value.int .i64 a1]) Try.func4 rfl rfl rfl ?_
 refine FW.seq (FW.region ?_)
 obtain ⟨b21, w22, run23, S24⟩ := S0.box (P := Try.prog) 24 [Value.int .i64 a0.vars, v0_1] (v := Value.agg #[Value.int .i64 a0.vars, v0_1]) rfl (ones_cons rfl (ones_cons p0_1.one ones_nil))
 refine FL.v (E.box rfl run23) ?_
 obtain ⟨H25, S26, i27, at28⟩ := S24.sealBox (i := 0) (l' := []) rfl rfl
 refine FL.v (E.assign (v := Value.int .i64 0) rfl) ?_
 refine FL.nil (FW.seq (FW.region ?_))
 refine FL.v (E.fieldAddr tf24_1 rfl) ?_
 refine FL.v (E.load rfl (run_load1 Try.isAgg22 (at28.now S26.sl) rfl)) ?_
 refine FL.v (E.move (v := Value.int .i64 a1) rfl) ?_
 obtain ⟨r29, hr30, hp⟩ := bnd hp
 refine FL.call rfl rfl rfl (E.call Try.call13 (A2 rfl rfl)) (w_laws_szIntSS S26.sl v0_1 a0.clauses (p0_1.mono i27) a1 hr30) ?_
 rintro e w31 ⟨rfl, r32⟩
 refine ⟨_, rfl, ?_⟩
 have S33 := S26.call r32
 refine FL.v (E.assign (v := Value.int .i64 r29) rfl) ?_
 refine FL.nil (FW.seq (FW.seq (FW.region ?_)))
 refine FL.v (E.move (v := Value.int .i64 r29) rfl) ?_
 refine FL.v (E.lss rfl rfl) ?_
 refine FL.nil ?_
 rcases ifB hp with ⟨c34, hp⟩ | ⟨c34, hp⟩
 ·
  refine FW.condT rfl c34 ?_
  refine FW.seq (FW.region ?_)
  refine FL.v (E.assign (v := Value.int .i64 (-1)) rfl) ?_
  refine FL.nil ?_
  refine FW.ret ?_
  obtain rfl := Option.some.inj hp
  exact ⟨.inr rfl, res1 rfl rfl ⟨rfl, S33.back⟩⟩
 ·
  refine FW.condF rfl c34 ?_
  refine FW.skip (FW.seq (FW.region ?_))
  refine FL.v (E.move (v := Value.int .i64 r29) rfl) ?_
  refine FL.v (E.assign (v := Value.int .i64 r29) rfl) ?_
  refine FL.nil ?_
  refine FW.ret ?_
  obtain rfl := Option.some.inj hp
  exact ⟨.inr rfl, res1 rfl rfl ⟨rfl, S33.back⟩⟩

@[reducible] def p_laws_toIntS (Ha : GH) (wa : World) (r : (List Int)) : Ending → World → Prop :=
  fun e w' => ∃ H' : GH, ∃ v0 : Value, ∃ n0 : Nat, ∃ c0 : List Value, e = .returned (v0) ∧ St Ha wa H' w' [.row 3 1 v0 n0 c0] ∧ Els (up wa.heap.size H') eI 1 c0 r
theorem w_laws_toIntS {Ha : GH} {wa : World} (hs : Sl Ha wa) (v0 : Value) (a0 : List Int) (p0 : RSl Ha eI 1 v0 a0) {r : (List Int)} (hp : (PF.laws_toIntS a0) = some r) :
    Calls Try.prog 41 #[v0] wa (p_laws_toIntS Ha wa r) := by
  unfold PF.laws_toIntS at hp
  have S0 := St.init hs
  refine calls_go (N := 22) (args := [v0]) Try.func41 rfl rfl rfl ?_
  refine FW.seq (FW.region ?_)
  refine FL.v (E.assign (v := Value.slice none 0 0) rfl) ?_
  refine FL.nil (FW.seq (FW.region ?_))
  refine FL.v (E.move (v := v0) rfl) ?_
  refine FL.v (E.lenP te47 rfl p0) ?_
  obtain ⟨xs21, hm22, hp⟩ := bnd hp
  obtain ⟨v23, w24, n28, cs29, run25, S26, els27, hbl30⟩ := S0.makeEls (P := Try.prog) te47 (G := (up wa.heap.size Ha)) (En := eI) (x0 := (0 : Int)) hm22 rfl (ones_cons rfl ones_nil) .i64 .i64
  refine FL.v (E.makeSlice rfl rfl run25) ?_
  refine FL.v (E.assign (v := v23) rfl) ?_
  refine FL.nil (FW.seq (FW.seq (FW.region ?_)))
  refine FL.v (E.assign (v := Value.int .i64 0) rfl) ?_
  refine FL.nil ?_
  obtain ⟨q32, hq, hp⟩ := bndR hp
  refine FW.block ?_
  refine FW.mono (FW.forL (S := (List Int)) (X := Empty) (fun (i32 : Nat) (s32 : (List Int)) f w => ∃ H : GH, ∃ v63 : Value, ∃ n64 : Nat, ∃ cs65 : List Value, St Ha wa H w [.row 3 1 v63 n64 cs65] ∧ Inc Ha H ∧ Els (up wa.heap.size H) eI 1 cs65 s32 ∧ f 4 = Value.int .i64 ((i32 : Nat) : Int) ∧ f 0 = v0 ∧ f 3 = v63) (fun (q : Rs (List Int) Empty) e f w => match q with | .go s32 => e = Exit.exit 0 ∧ (∃ H : GH, ∃ v63 : Value, ∃ n64 : Nat, ∃ cs65 : List Value, St Ha wa H w [.row 3 1 v63 n64 cs65] ∧ Inc Ha H ∧ Els (up wa.heap.size H) eI 1 cs65 s32 ∧ f 3 = v63) | .rt x => x.elim) hq ⟨_, _, _, _, S26, (Inc.rfl _), els27, rfl, rfl, rfl⟩ ?_ ?_) ?_
  ·
    clear hp hq
    rintro i32 y31 s32 f101 w100 ⟨H97, v63, n64, cs65, S98, i99, els66, k102, k103, k104⟩ hx32 o127 hp
    refine FW.seq (FW.seq (FW.region ?_))
    refine FL.v (E.move k102) ?_
    refine FL.v (E.move k103) ?_
    refine FL.v (E.lenP te47 rfl p0) ?_
    refine FL.v (E.lssT rfl rfl (lss_len hx32)) ?_
    refine FL.nil ?_
    refine FW.condT rfl rfl ?_
    refine FW.skip (FW.seq (FW.block (FW.region ?_)))
    refine FL.v (E.move k104) ?_
    refine FL.v (E.move k102) ?_
    refine FL.v (E.move k103) ?_
    refine FL.v (E.move k102) ?_
    obtain ⟨p105, cs106, pt107, l108, at109, rel110⟩ := p0.at (ix_nat hx32)
    obtain rfl := eI_open rel110
    refine FL.v (E.indexAddr te47 rfl rfl pt107) ?_
    refine FL.v (E.load rfl (run_load0 Try.isAgg3 ((at109.mono i99).now S98.sl) rfl)) ?_
    obtain ⟨x117, hx118, hp⟩ := bnd hp
    obtain ⟨p111, cs112, pt113, l114, at115, rel116⟩ := S98.row_at (i := 0) rfl els66 (by decide) hx118
    obtain rfl := eI_open rel116
    refine FL.v (E.indexAddr te47 rfl rfl pt113) ?_
    obtain ⟨xs122, hput123, hp⟩ := bnd hp
    obtain ⟨w119, cs125, run120, S121, els124, ce126⟩ := S98.putEls (P := Try.prog) (t := 3) (i := 0) rfl els66 hput123 pt113 Try.sizeOf3 (u := Value.int .i64 y31) (c := [Value.int .i64 y31]) rfl rfl (ones_cons rfl ones_nil) rfl
    have S121 : St Ha wa H97 w119 [.row 3 1 v63 n64 cs125] := S121
    refine FL.act rfl rfl (E.store rfl rfl run120) ?_
    refine FL.nil (FW.region ?_)
    refine FL.v (E.move k102) ?_
    refine FL.v (E.add rfl rfl) ?_
    refine FL.v (E.assign (v := Value.int .i64 (wr (((i32 : Nat) : Int) + 1))) rfl) ?_
    refine FL.nil ?_
    obtain rfl := Option.some.inj hp
    exact ⟨rfl, ⟨_, _, _, _, S121, i99, els124, (nat_succ rfl (lt_of_get hx32) (p0.mono i99).le), k103, k104⟩⟩
  ·
    clear hp hq
    rintro s32 f138 w137 ⟨H134, v63, n64, cs65, S135, i136, els66, k139, k140, k141⟩
    refine FW.seq (FW.seq (FW.region ?_))
    refine FL.v (E.move k139) ?_
    refine FL.v (E.move k140) ?_
    refine FL.v (E.lenP te47 rfl p0) ?_
    refine FL.v (E.lss rfl rfl) ?_
    refine FL.nil ?_
    refine FW.condF rfl dlt_len ?_
    refine FW.exit ?_
    exact ⟨nofun, rfl, ⟨_, _, _, _, S135, i136, els66, k141⟩⟩
  ·
    clear hq
    intro e f132 w131 hD
    rcases q32 with s32 | x32
    ·
      obtain ⟨rfl, hD⟩ := hD
      obtain ⟨H128, v63, n64, cs65, S129, i130, els66, k133⟩ := hD
      replace hp := el_go hp
      refine FW.seq (FW.region ?_)
      refine FL.v (E.move k133) ?_
      refine FL.v (E.assign (v := v63) rfl) ?_
      refine FL.nil ?_
      refine FW.ret ?_
      obtain rfl := Option.some.inj hp
      exact ⟨.inr rfl, res1 rfl rfl ⟨_, _, _, _, rfl, S129, els66⟩⟩
    · exact x32.elim

@[reducible] def p_laws_toIntSS (Ha : GH) (wa : World) (r : (List (List Int))) : Ending → World → Prop :=
  fun e w' => ∃ H' : GH, ∃ v0 : Value, ∃ n0 : Nat, ∃ c0 : List Value, e = .returned (v0) ∧ St Ha wa H' w' [.row 47 1 v0 n0 c0] ∧ Els (up wa.heap.size H') (eL eI 1) 1 c0 r ∧ (bl c0).Nodup
theorem w_laws_toIntSS {Ha : GH} {wa : World} (hs : Sl Ha wa) (v0 : Value) (a0 : List (List Int)) (p0 : RSl Ha (eL eI 1) 1 v0 a0) {r : (List (List Int))} (hp : (PF.laws_toIntSS a0) = some r) :
    Calls Try.prog 17 #[v0] wa (p_laws_toIntSS Ha wa r) := by
  unfold PF.laws_toIntSS at hp
  have S0 := St.init hs
  refine calls_go (N := 23) (args := [v0]) Try.func17 rfl rfl rfl ?_
  refine FW.seq (FW.region ?_)
  refine FL.v (E.assign (v := Value.slice none 0 0) rfl) ?_
  refine FL.nil (FW.seq (FW.region ?_))
  refine FL.v (E.move (v := v0) rfl) ?_
  refine FL.v (E.lenP te22 rfl p0) ?_
  obtain ⟨xs21, hm22, hp⟩ := bnd hp
  obtain ⟨v23, w24, n28, cs29, run25, S26, els27, hbl30⟩ := S0.makeEls (P := Try.prog) te22 (G := (up wa.heap.size Ha)) (En := (eL eI 1)) (x0 := ([] : List Int)) hm22 ⟨_, rfl, RSl.nil _ _ _⟩ (ones_cons rfl ones_nil) .i64 .i64
  have nd31 : (bl cs29).Nodup := by rw [hbl30 (by simp [Value.cells, neb])]; exact List.nodup_nil
  refine FL.v (E.makeSlice rfl rfl run25) ?_
  refine FL.v (E.assign (v := v23) rfl) ?_
  refine FL.nil (FW.seq (FW.seq (FW.region ?_)))
  refine FL.v (E.assign (v := Value.int .i64 0) rfl) ?_
  refine FL.nil ?_
  obtain ⟨q33, hq, hp⟩ := bndR hp
  refine FW.block ?_
  refine FW.mono (FW.forL (S := (List (List Int))) (X := Empty) (fun (i33 : Nat) (s33 : (List (List Int))) f w => ∃ H : GH, ∃ v84 : Value, ∃ n85 : Nat, ∃ cs86 : List Value, St Ha wa H w [.row 47 1 v84 n85 cs86] ∧ Inc Ha H ∧ Els (up wa.heap.size H) (eL eI 1) 1 cs86 s33 ∧ (bl cs86).Nodup ∧ f 4 = Value.int .i64 ((i33 : Nat) : Int) ∧ f 0 = v0 ∧ f 3 = v84) (fun (q : Rs (List (List Int)) Empty) e f w => match q with | .go s33 => e = Exit.exit 0 ∧ (∃ H : GH, ∃ v84 : Value, ∃ n85 : Nat, ∃ cs86 : List Value, St Ha wa H w [.row 47 1 v84 n85 cs86] ∧ Inc Ha H ∧ Els (up wa.heap.size H) (eL eI 1) 1 cs86 s33 ∧ (bl cs86).Nodup ∧ f 3 = v84) | .rt x => x.elim) hq ⟨_, _, _, _, S26, (Inc.rfl _), els27, nd31, rfl, rfl, rfl⟩ ?_ ?_) ?_
  ·
    clear hp hq
    rintro i33 y32 s33 f143 w142 ⟨H139, v84, n85, cs86, S140, i141, els87, nd88, k144, k145, k146⟩ hx33 o189 hp
    refine FW.seq (FW.seq (FW.region ?_))
    refine FL.v (E.move k144) ?_
    refine FL.v (E.move k145) ?_
    refine FL.v (E.lenP te22 rfl p0) ?_
    refine FL.v (E.lssT rfl rfl (lss_len hx33)) ?_
    refine FL.nil ?_
    refine FW.condT rfl rfl ?_
    refine FW.skip (FW.seq (FW.block (FW.region ?_)))
    refine FL.v (E.move k146) ?_
    refine FL.v (E.move k144) ?_
    refine FL.v (E.move k145) ?_
    refine FL.v (E.move k144) ?_
    obtain ⟨p147, cs148, pt149, l150, at151, rel152⟩ := p0.at (ix_nat hx33)
    obtain ⟨v153, rfl, h154⟩ := eL_open rel152
    refine FL.v (E.indexAddr te22 rfl rfl pt149) ?_
    refine FL.v (E.load rfl (run_load0 Try.isAgg47 ((at151.mono i141).now S140.sl) rfl)) ?_
    obtain ⟨r155, hr156, hp⟩ := bnd hp
    refine FL.call rfl rfl rfl (E.call Try.call41 (A1 rfl)) (w_laws_toIntS S140.sl v153 y32 (h154.mono i141) hr156) ?_
    rintro e w158 ⟨H157, v161, n162, cs163, rfl, r160, els164⟩
    refine ⟨_, rfl, ?_⟩
    have els164 := els164.mono (up_le S140.size)
    have S159 := S140.join (l' := [.row 3 1 v161 n162 cs163, .row 47 1 v84 n85 cs86]) r160 rfl
    obtain ⟨x171, hx172, hp⟩ := bnd hp
    obtain ⟨p165, cs166, pt167, l168, at169, rel170⟩ := S159.row_at (i := 1) rfl els87 (by decide) hx172
    obtain ⟨v173, rfl, h174⟩ := eL_open rel170
    refine FL.v (E.indexAddr te22 rfl rfl pt167) ?_
    obtain ⟨H175, S176, i177, h178, nv179⟩ := S159.sealRowU (i := 0) (l' := [.row 47 1 v84 n85 cs86]) rfl els164 (by decide) rfl
    obtain ⟨xs183, hput184, hp⟩ := bnd hp
    obtain ⟨w180, cs186, run181, S182, els185, ce187⟩ := S176.putEls (P := Try.prog) (t := 47) (i := 0) rfl (els87.mono (up_mono (r160.run.inc.tr i177))) hput184 pt167 Try.sizeOf47 (u := v161) (c := [v161]) h178.cells rfl (ones_cons h178.one ones_nil) ⟨_, rfl, h178⟩
    have S182 : St Ha wa H175 w180 [.row 47 1 v84 n85 cs186] := S182
    have nd188 : (bl cs186).Nodup := by rw [ce187]; exact nd_put (Nat.le_add_right _ _) nd88 (by exact nd_one v161) (Els.dom (els87.mono (upI.tr r160.run.inc))) (by exact nv179)
    refine FL.act rfl rfl (E.store rfl rfl run181) ?_
    refine FL.nil (FW.region ?_)
    refine FL.v (E.move k144) ?_
    refine FL.v (E.add rfl rfl) ?_
    refine FL.v (E.assign (v := Value.int .i64 (wr (((i33 : Nat) : Int) + 1))) rfl) ?_
    refine FL.nil ?_
    obtain rfl := Option.some.inj hp
    exact ⟨rfl, ⟨_, _, _, _, S182, ((i141.tr r160.run.inc).tr i177), els185, nd188, (nat_succ rfl (lt_of_get hx33) (p0.mono ((i141.tr r160.run.inc).tr i177)).le), k145, k146⟩⟩
  ·
    clear hp hq
    rintro s33 f200 w199 ⟨H196, v84, n85, cs86, S197, i198, els87, nd88, k201, k202, k203⟩
    refine FW.seq (FW.seq (FW.region ?_))
    refine FL.v (E.move k201) ?_
    refine FL.v (E.move k202) ?_
    refine FL.v (E.lenP te22 rfl p0) ?_
    refine FL.v (E.lss rfl rfl) ?_
    refine FL.nil ?_
    refine FW.condF rfl dlt_len ?_
    refine FW.exit ?_
    exact ⟨nofun, rfl, ⟨_, _, _, _, S197, i198, els87, nd88, k203⟩⟩
  ·
    clear hq
    intro e f194 w193 hD
    rcases q33 with s33 | x33
    ·
      obtain ⟨rfl, hD⟩ := hD
      obtain ⟨H190, v84, n85, cs86, S191, i192, els87, nd88, k195⟩ := hD
      replace hp := el_go hp
      refine FW.seq (FW.region ?_)
      refine FL.v (E.move k195) ?_
      refine FL.v (E.assign (v := v84) rfl) ?_
      refine FL.nil ?_
      refine FW.ret ?_
      obtain rfl := Option.some.inj hp
      exact ⟨.inr rfl, res1 rfl rfl ⟨_, _, _, _, rfl, S191, els87, nd88⟩⟩
    · exact x33.elim

@[reducible] def p_laws_toCnf (Ha : GH) (wa : World) (r : Cnf) : Ending → World → Prop :=
 fun e w' => ∃ H' : GH, ∃ v0_1 : Value, e = .returned (Value.agg #[Value.int .i64 r.vars, v0_1]) ∧ Run wa.heap.size Ha wa H' w' ∧ (∃ c, Nest (up wa.heap.size H') (eL eI 1) 1 v0_1 r.clauses c)
theorem w_laws_toCnf {Ha : GH} {wa : World} (hs : Sl Ha wa) (a0 : Cnf) (v0_1 : Value) (p0_1 : RSl Ha (eL eI 1) 1 v0_1 a0.clauses) {r : Cnf} (hp : (PF.laws_toCnf a0) = some r) :
  Calls Try.prog 6 #[Value.agg #[Value.int .i64 a0.vars, v0_1]] wa (p_laws_toCnf Ha wa r) := by
 unfold PF.laws_toCnf at hp
 have S0 := St.init hs
 refine calls_go (N := 12) (args := [Value.agg #[Value.int .i64 a0.vars, v0_1]]) Try.func6 rfl rfl rfl ?_
 refine FW.seq (FW.region ?_)
 obtain ⟨b21, w22, run23, S24⟩ := S0.box (P := Try.prog) 24 [Value.int .i64 a0.vars, v0_1] (v := Value.agg #[Value.int .i64 a0.vars, v0_1]) rfl (ones_cons rfl (ones_cons p0_1.one ones_nil))
 refine FL.v (E.box rfl run23) ?_
 obtain ⟨H25, S26, i27, at28⟩ := S24.sealBox (i := 0) (l' := []) rfl rfl
 obtain ⟨b29, w30, run31, S32⟩ := S26.alloc (P := Try.prog) 29 [Value.int .i64 0, Value.slice none 0 0] Try.zeroValue29 rfl (ones_cons rfl (ones_cons rfl ones_nil))
 refine FL.v (E.alloc run31) ?_
 refine FL.nil (FW.seq (FW.region ?_))
 obtain ⟨b33, w34, run35, S36⟩ := S32.alloc (P := Try.prog) 29 [Value.int .i64 0, Value.slice none 0 0] Try.zeroValue29 rfl (ones_cons rfl (ones_cons rfl ones_nil))
 refine FL.v (E.alloc run35) ?_
 refine FL.nil (FW.seq (FW.region ?_))
 refine FL.v (E.fieldAddr tf24_0 rfl) ?_
 refine FL.v (E.load rfl (run_load1 Try.isAgg3 (at28.now S36.sl) rfl)) ?_
 refine FL.v (E.fieldAddr tf29_0 rfl) ?_
 obtain ⟨w37, run38, S39⟩ := S36.store (P := Try.prog) (t := 3) (i := 0) (j := 0) (cs' := [Value.int .i64 a0.vars, Value.slice none 0 0]) (l' := [.box b33 29 [Value.int .i64 a0.vars, Value.slice none 0 0], .box b29 29 [Value.int .i64 0, Value.slice none 0 0]]) (v := Value.int .i64 a0.vars) (c := [Value.int .i64 a0.vars]) rfl Try.sizeOf3 rfl rfl (ones_cons rfl ones_nil) (Nat.le_of_ble_eq_true rfl) rfl rfl
 refine FL.act rfl rfl (E.store rfl rfl run38) ?_
 refine FL.nil (FW.seq (FW.region ?_))
 refine FL.v (E.fieldAddr tf24_1 rfl) ?_
 refine FL.v (E.load rfl (run_load1 Try.isAgg22 (at28.now S39.sl) rfl)) ?_
 obtain ⟨r40, hr41, hp⟩ := bnd hp
 refine FL.call rfl rfl rfl (E.call Try.call17 (A1 rfl)) (w_laws_toIntSS S39.sl v0_1 a0.clauses (p0_1.mono i27) hr41) ?_
 rintro e w43 ⟨H42, v46, n47, cs48, rfl, r45, els49, nd50⟩
 refine ⟨_, rfl, ?_⟩
 have nv51 : New H25 cs48 := New.of_up S39.sl els49.dom
 have els49 := els49.mono (up_le S39.size)
 have S44 := S39.join (l' := [.row 47 1 v46 n47 cs48, .box b33 29 [Value.int .i64 a0.vars, Value.slice none 0 0], .box b29 29 [Value.int .i64 0, Value.slice none 0 0]]) r45 rfl
 refine FL.v (E.fieldAddr tf29_1 rfl) ?_
 obtain ⟨w52, run53, S54⟩ := S44.store (P := Try.prog) (t := 22) (i := 1) (j := 1) (cs' := [Value.int .i64 a0.vars, v46]) (l' := [.row 47 1 v46 n47 cs48, .box b33 29 [Value.int .i64 a0.vars, v46], .box b29 29 [Value.int .i64 0, Value.slice none 0 0]]) (v := v46) (c := [v46]) rfl Try.sizeOf22 (Ln.cells (S44.row_ln (i := 0) rfl)) rfl (ones_cons (Ln.one (S44.row_ln (i := 0) rfl)) ones_nil) (Nat.le_of_ble_eq_true rfl) rfl rfl
 refine FL.act rfl rfl (E.store rfl rfl run53) ?_
 obtain ⟨H55, S56, i57, ns60, nv59⟩ := S54.sealRowN (i := 0) (l' := [.box b33 29 [Value.int .i64 a0.vars, v46], .box b29 29 [Value.int .i64 0, Value.slice none 0 0]]) rfl els49 nd50 (by decide) rfl
 have h58 := ns60.rsl
 obtain ⟨H61, S62, i63, at64⟩ := S56.sealBox (i := 0) (l' := [.box b29 29 [Value.int .i64 0, Value.slice none 0 0]]) rfl rfl
 refine FL.nil (FW.seq (FW.region ?_))
 refine FL.v (E.load rfl (run_loadA Try.isAgg29 Try.sizeOf29 (at64.now S62.sl) rfl)) ?_
 obtain ⟨w65, run66, S67⟩ := S62.store0 (P := Try.prog) (t := 29) (i := 0) (cs' := [Value.int .i64 a0.vars, v46]) (l' := [.box b29 29 [Value.int .i64 a0.vars, v46]]) (v := Value.agg #[Value.int .i64 a0.vars, v46]) (c := [Value.int .i64 a0.vars, v46]) rfl Try.sizeOf29 rfl rfl (ones_cons rfl (ones_cons h58.one ones_nil)) (Nat.le_of_ble_eq_true rfl) rfl rfl
 refine FL.act rfl rfl (E.store rfl rfl run66) ?_
 obtain ⟨H68, S69, i70, at71⟩ := S67.sealBox (i := 0) (l' := []) rfl rfl
 refine FL.nil ?_
 refine FW.ret ?_
 obtain rfl := Option.some.inj hp
 exact ⟨.inr rfl, resC rfl rfl (loadVar_A Try.isAgg29 Try.sizeOf29 (at71.now S69.sl) rfl) ⟨_, _, rfl, S69.run, ⟨_, (ns60.mono (up_mono (i63.tr i70)))⟩⟩⟩

theorem w_spec_l1In {Ha : GH} {wa : World} (hs : Sl Ha wa) (a0 : Int) (a1 : Int) (a2 : Int) :
  Calls Try.prog 35 #[Value.int .i64 a0, Value.int .i64 a1, Value.int .i64 a2] wa (Sc Ha wa (Value.bool (PF.spec_l1In a0 a1 a2))) := by
 obtain ⟨r, hp⟩ : ∃ r, (PF.spec_l1In a0 a1 a2) = r := ⟨_, rfl⟩
 rw [hp]
 unfold PF.spec_l1In at hp
 have S0 := St.init hs
 refine calls_go (N := 15) (args := [Value.int .i64 a0, Value.int .i64 a1, Value.int .i64 a2]) Try.func35 rfl rfl rfl ?_
 refine FW.seq (FW.region ?_)
 refine FL.v (E.assign (v := Value.bool false) rfl) ?_
 refine FL.nil (FW.seq (FW.region ?_))
 refine FL.v (E.move (v := Value.int .i64 a0) rfl) ?_
 refine FL.v (E.move (v := Value.int .i64 a1) rfl) ?_
 refine FL.v (E.geq rfl rfl) ?_
 refine FL.v (E.move (v := Value.bool (decide (a1 ≤ a0))) rfl) ?_
 refine FL.cut 4 (fun f w => ∃ H : GH, St Ha wa H w [] ∧ Inc Ha H ∧ f 14 = Value.bool (bif (decide (a1 ≤ a0)) then (decide (a0 ≤ a2)) else false)) ?_ ?_
 ·
  rcases bcase (decide (a1 ≤ a0)) with c27 | c27
  ·
   refine FL.val (wF_yes rfl rfl rfl c27) rfl rfl (E.move (v := Value.int .i64 a0) rfl) ?_
   refine FL.val (wF_yes rfl rfl rfl c27) rfl rfl (E.move (v := Value.int .i64 a2) rfl) ?_
   refine FL.val (wF_yes rfl rfl rfl c27) rfl rfl (E.leq rfl rfl) ?_
   refine FL.v (E.pickT rfl c27 rfl) ?_
   exact FL.nil ⟨rfl, _, S0, (Inc.rfl _), (congrArg Value.bool (bifT c27).symm)⟩
  ·
   refine FL.skip (wF_no rfl rfl rfl c27) rfl ?_
   refine FL.skip (wF_no rfl rfl rfl c27) rfl ?_
   refine FL.skip (wF_no rfl rfl rfl c27) rfl ?_
   refine FL.v (E.pickF rfl c27 rfl) ?_
   exact FL.nil ⟨rfl, _, S0, (Inc.rfl _), (congrArg Value.bool (bifF c27).symm)⟩
 rintro f26 w25 ⟨H22, S23, i24, k28⟩
 refine FL.v (E.assign k28) ?_
 refine FL.nil ?_
 refine FW.ret ?_
 obtain rfl := hp
 exact ⟨.inr rfl, res1 rfl rfl ⟨rfl, S23.back⟩⟩

theorem w_spec_l2Vars {Ha : GH} {wa : World} (hs : Sl Ha wa) (a0 : Int) :
  Calls Try.prog 54 #[Value.int .i64 a0] wa (Sc Ha wa (Value.bool (PF.spec_l2Vars a0))) := by
 obtain ⟨r, hp⟩ : ∃ r, (PF.spec_l2Vars a0) = r := ⟨_, rfl⟩
 rw [hp]
 unfold PF.spec_l2Vars at hp
 have S0 := St.init hs
 refine calls_go (N := 5) (args := [Value.int .i64 a0]) Try.func54 rfl rfl rfl ?_
 refine FW.seq (FW.region ?_)
 refine FL.v (E.assign (v := Value.bool false) rfl) ?_
 refine FL.nil (FW.seq (FW.region ?_))
 refine FL.v (E.move (v := Value.int .i64 a0) rfl) ?_
 refine FL.call rfl rfl rfl (E.call Try.call35 (A3 rfl rfl rfl)) (w_spec_l1In S0.sl a0 0 12) ?_
 rintro e w21 ⟨rfl, r22⟩
 refine ⟨_, rfl, ?_⟩
 have S23 := S0.call r22
 refine FL.v (E.assign (v := Value.bool (PF.spec_l1In a0 0 12)) rfl) ?_
 refine FL.nil ?_
 refine FW.ret ?_
 obtain rfl := hp
 exact ⟨.inr rfl, res1 rfl rfl ⟨rfl, S23.back⟩⟩

theorem w_spec_l2Lit {Ha : GH} {wa : World} (hs : Sl Ha wa) (a0 : Int) (a1 : Int) :
  Calls Try.prog 66 #[Value.int .i64 a0, Value.int .i64 a1] wa (Sc Ha wa (Value.bool (PF.spec_l2Lit a0 a1))) := by
 obtain ⟨r, hp⟩ : ∃ r, (PF.spec_l2Lit a0 a1) = r := ⟨_, rfl⟩
 rw [hp]
 unfold PF.spec_l2Lit at hp
 have S0 := St.init hs
 refine calls_go (N := 14) (args := [Value.int .i64 a0, Value.int .i64 a1]) Try.func66 rfl rfl rfl ?_
 refine FW.seq (FW.region ?_)
 refine FL.v (E.assign (v := Value.bool false) rfl) ?_
 refine FL.nil (FW.seq (FW.region ?_))
 refine FL.v (E.move (v := Value.int .i64 a1) rfl) ?_
 refine FL.v (E.move (v := Value.int .i64 a0) rfl) ?_
 refine FL.v (E.neg rfl) ?_
 refine FL.v (E.move (v := Value.int .i64 a0) rfl) ?_
 refine FL.call rfl rfl rfl (E.call Try.call35 (A3 rfl rfl rfl)) (w_spec_l1In S0.sl a1 (wr (-a0)) a0) ?_
 rintro e w21 ⟨rfl, r22⟩
 refine ⟨_, rfl, ?_⟩
 have S23 := S0.call r22
 refine FL.v (E.move (v := Value.bool (PF.spec_l1In a1 (wr (-a0)) a0)) rfl) ?_
 refine FL.cut 3 (fun f w => ∃ H : GH, St Ha wa H w [] ∧ Inc Ha H ∧ f 13 = Value.bool (bif (PF.spec_l1In a1 (wr (-a0)) a0) then (!(a1 == 0)) else false)) ?_ ?_
 ·
  rcases bcase (PF.spec_l1In a1 (wr (-a0)) a0) with c30 | c30
  ·
   refine FL.val (wF_yes rfl rfl rfl c30) rfl rfl (E.move (v := Value.int .i64 a1) rfl) ?_
   refine FL.val (wF_yes rfl rfl rfl c30) rfl rfl (E.neq rfl rfl) ?_
   refine FL.v (E.pickT rfl c30 rfl) ?_
   exact FL.nil ⟨rfl, _, S23, (Inc.rfl _), (congrArg Value.bool (bifT c30).symm)⟩
  ·
   refine FL.skip (wF_no rfl rfl rfl c30) rfl ?_
   refine FL.skip (wF_no rfl rfl rfl c30) rfl ?_
   refine FL.v (E.pickF rfl c30 rfl) ?_
   exact FL.nil ⟨rfl, _, S23, (Inc.rfl _), (congrArg Value.bool (bifF c30).symm)⟩
 rintro f29 w28 ⟨H25, S26, i27, k31⟩
 refine FL.v (E.assign k31) ?_
 refine FL.nil ?_
 refine FW.ret ?_
 obtain rfl := hp
 exact ⟨.inr rfl, res1 rfl rfl ⟨rfl, S26.back⟩⟩

theorem w_spec_l2Var {Ha : GH} {wa : World} (hs : Sl Ha wa) (a0 : Int) :
  Calls Try.prog 67 #[Value.int .i64 a0] wa (Sc Ha wa (Value.int .i64 (PF.spec_l2Var a0))) := by
 obtain ⟨r, hp⟩ : ∃ r, (PF.spec_l2Var a0) = r := ⟨_, rfl⟩
 rw [hp]
 unfold PF.spec_l2Var at hp
 have S0 := St.init hs
 refine calls_go (N := 8) (args := [Value.int .i64 a0]) Try.func67 rfl rfl rfl ?_
 refine FW.seq (FW.region ?_)
 refine FL.v (E.assign (v := Value.int .i64 0) rfl) ?_
 refine FL.nil (FW.seq (FW.seq (FW.region ?_)))
 refine FL.v (E.move (v := Value.int .i64 a0) rfl) ?_
 refine FL.v (E.lss rfl rfl) ?_
 refine FL.nil ?_
 rcases ifT hp with ⟨c21, hp⟩ | ⟨c21, hp⟩
 ·
  refine FW.condT rfl c21 ?_
  refine FW.seq (FW.region ?_)
  refine FL.v (E.move (v := Value.int .i64 a0) rfl) ?_
  refine FL.v (E.neg rfl) ?_
  refine FL.v (E.assign (v := Value.int .i64 (wr (-a0))) rfl) ?_
  refine FL.nil ?_
  refine FW.ret ?_
  obtain rfl := hp
  exact ⟨.inr rfl, res1 rfl rfl ⟨rfl, S0.back⟩⟩
 ·
  refine FW.condF rfl c21 ?_
  refine FW.skip (FW.seq (FW.region ?_))
  refine FL.v (E.move (v := Value.int .i64 a0) rfl) ?_
  refine FL.v (E.assign (v := Value.int .i64 a0) rfl) ?_
  refine FL.nil ?_
  refine FW.ret ?_
  obtain rfl := hp
  exact ⟨.inr rfl, res1 rfl rfl ⟨rfl, S0.back⟩⟩

theorem w_spec_l2Clause {Ha : GH} {wa : World} (hs : Sl Ha wa) (a0 : Int) (v1 : Value) (a1 : List Int) (p1 : RSl Ha eI 1 v1 a1) {r : Bool} (hp : (PF.spec_l2Clause a0 a1) = some r) :
  Calls Try.prog 55 #[Value.int .i64 a0, v1] wa (Sc Ha wa (Value.bool r)) := by
 unfold PF.spec_l2Clause at hp
 have S0 := St.init hs
 refine calls_go (N := 40) (args := [Value.int .i64 a0, v1]) Try.func55 rfl rfl rfl ?_
 refine FW.seq (FW.region ?_)
 refine FL.v (E.assign (v := Value.bool false) rfl) ?_
 refine FL.nil (FW.seq (FW.seq (FW.region ?_)))
 refine FL.v (E.move (v := Value.int .i64 a0) rfl) ?_
 refine FL.call rfl rfl rfl (E.call Try.call54 (A1 rfl)) (w_spec_l2Vars S0.sl a0) ?_
 rintro e w21 ⟨rfl, r22⟩
 refine ⟨_, rfl, ?_⟩
 have S23 := S0.call r22
 refine FL.v (E.not rfl) ?_
 refine FL.nil ?_
 rcases ifB hp with ⟨c24, hp⟩ | ⟨c24, hp⟩
 ·
  refine FW.condT rfl c24 ?_
  refine FW.seq (FW.region ?_)
  refine FL.v (E.assign (v := Value.bool false) rfl) ?_
  refine FL.nil ?_
  refine FW.ret ?_
  obtain rfl := Option.some.inj hp
  exact ⟨.inr rfl, res1 rfl rfl ⟨rfl, S23.back⟩⟩
 ·
  refine FW.condF rfl c24 ?_
  refine FW.skip (FW.seq (FW.seq (FW.region ?_)))
  refine FL.v (E.assign (v := Value.int .i64 0) rfl) ?_
  refine FL.nil ?_
  obtain ⟨q26, hq, hp⟩ := bndR hp
  refine FW.block ?_
  refine FW.mono (FW.forL (S := Unit) (X := Bool) (fun (i26 : Nat) (s26 : Unit) f w => ∃ H : GH, St Ha wa H w [] ∧ Inc Ha H ∧ f 5 = Value.int .i64 ((i26 : Nat) : Int) ∧ f 0 = Value.int .i64 a0 ∧ f 1 = v1) (fun q e f w => match q with | .go s26 => e = Exit.exit 0 ∧ (∃ H : GH, St Ha wa H w [] ∧ Inc Ha H) | .rt x => ((e = Exit.ret) ∧ (fun e f w => (e = Exit.normal ∨ e = Exit.ret) ∧ ∀ a, Fr (δ := []) 40 a f → ∃ v, (results Try.f55 a.tmps).run Try.prog w = .ok v w ∧ (Sc Ha wa (Value.bool x)) (.returned v) w) e f w)) hq ⟨_, S23, (Inc.rfl _), rfl, rfl, rfl⟩ ?_ ?_) ?_
  ·
   clear hp hq
   rintro i26 y25 s26 f141 w140 ⟨H137, S138, i139, k142, k143, k144⟩ hx26 o247 hp
   refine FW.seq (FW.seq (FW.region ?_))
   refine FL.v (E.move k142) ?_
   refine FL.v (E.move k144) ?_
   refine FL.v (E.lenP te47 rfl p1) ?_
   refine FL.v (E.lssT rfl rfl (lss_len hx26)) ?_
   refine FL.nil ?_
   refine FW.condT rfl rfl ?_
   refine FW.skip (FW.seq (FW.block (FW.seq ?_)))
   refine FW.draw (fun w' => Run w140.heap.size H137 w140 H137 w') (by kernel_rfl) (by kernel_rfl) (run_drew S138.sl) ?_
   refine FD.val rfl rfl rfl (fun w' hw' => (E.move k143)) ?_
   refine FD.val rfl rfl rfl (fun w' hw' => (E.move k144)) ?_
   refine FD.val rfl rfl rfl (fun w' hw' => (E.move k142)) ?_
   obtain ⟨p146, cs147, pt148, l149, at150, rel151⟩ := p1.at (ix_nat hx26)
   obtain rfl := eI_open rel151
   refine FD.val rfl rfl rfl (fun w' hw' => (E.indexAddr te47 rfl rfl pt148)) ?_
   refine FD.val rfl rfl rfl (fun w' hw' => (E.load rfl (run_load0 Try.isAgg3 ((at150.mono i139).now (S138.call hw').sl) rfl))) ?_
   refine FD.call rfl rfl rfl (fun w' hw' => (E.call Try.call66 (A2 rfl rfl))) (fun w' hw' => Calls.cls hw' (w_spec_l2Lit (S138.call hw').sl a0 y25)) ?_
   refine FD.val rfl rfl rfl (fun w' hw' => (E.not rfl)) ?_
   refine FD.val rfl rfl rfl (fun w' hw' => (E.move (v := Value.bool (!(PF.spec_l2Lit a0 y25))) rfl)) ?_
   obtain ⟨t192, hqt192, hp⟩ := bnd hp
   refine FD.cut 17 (fun f => f 0 = Value.int .i64 a0 ∧ f 1 = v1 ∧ f 5 = Value.int .i64 ((i26 : Nat) : Int) ∧ f 39 = Value.bool t192) ?_ ?_
   ·
    clear hp; have hp := hqt192; clear hqt192
    rcases ifB hp with ⟨c198, hp⟩ | ⟨c198, hp⟩
    ·
     refine FD.skip (wF_no rfl rfl rfl c198) rfl ?_
     refine FD.skip (wF_no rfl rfl rfl c198) rfl ?_
     refine FD.skip (wF_no rfl rfl rfl c198) rfl ?_
     refine FD.skip (wF_undef rfl rfl rfl) rfl ?_
     refine FD.skip (wF_undef rfl rfl rfl) rfl ?_
     refine FD.skip (wF_undef rfl rfl rfl) rfl ?_
     refine FD.skip (wF_undef rfl rfl rfl) rfl ?_
     refine FD.skip (wF_undef rfl rfl rfl) rfl ?_
     refine FD.skip (wF_undef rfl rfl rfl) rfl ?_
     refine FD.skip (wF_undef rfl rfl rfl) rfl ?_
     refine FD.skip (wF_undef rfl rfl rfl) rfl ?_
     refine FD.skip (wF_undef rfl rfl rfl) rfl ?_
     refine FD.skip (wF_undef rfl rfl rfl) rfl ?_
     refine FD.skip (wF_undef rfl rfl rfl) rfl ?_
     refine FD.skip (wF_undef rfl rfl rfl) rfl ?_
     refine FD.skip (wF_no rfl rfl rfl c198) rfl ?_
     obtain rfl := Option.some.inj hp
     refine FD.val rfl rfl rfl (fun w' hw' => (E.pickT rfl c198 rfl)) ?_
     exact FD.nil ⟨k143, k144, k142, rfl⟩
    ·
     refine FD.val (wF_yes rfl rfl rfl c198) rfl rfl (fun w' hw' => (E.move k142)) ?_
     refine FD.val (wF_yes rfl rfl rfl c198) rfl rfl (fun w' hw' => (E.gtr rfl rfl)) ?_
     refine FD.val (wF_yes rfl rfl rfl c198) rfl rfl (fun w' hw' => (E.move (v := Value.bool (decide (0 < ((i26 : Nat) : Int)))) rfl)) ?_
     obtain ⟨t213, hqt213, hp⟩ := bnd hp
     refine FD.cut 13 (fun f => f 0 = Value.int .i64 a0 ∧ f 1 = v1 ∧ f 5 = Value.int .i64 ((i26 : Nat) : Int) ∧ f 22 = Value.bool (!(PF.spec_l2Lit a0 y25)) ∧ f 38 = Value.bool t213) ?_ ?_
     ·
      clear hp; have hp := hqt213; clear hqt213
      rcases ifB hp with ⟨c219, hp⟩ | ⟨c219, hp⟩
      ·
       refine FD.val (wF_yes rfl rfl rfl c219) rfl rfl (fun w' hw' => (E.move k144)) ?_
       refine FD.val (wF_yes rfl rfl rfl c219) rfl rfl (fun w' hw' => (E.move k142)) ?_
       refine FD.val (wF_yes rfl rfl rfl c219) rfl rfl (fun w' hw' => (E.sub rfl rfl)) ?_
       obtain ⟨x226, hx227, hp⟩ := bnd hp
       obtain ⟨p220, cs221, pt222, l223, at224, rel225⟩ := p1.at hx227
       obtain rfl := eI_open rel225
       refine FD.val (wF_yes rfl rfl rfl c219) rfl rfl (fun w' hw' => (E.indexAddr te47 rfl rfl pt222)) ?_
       refine FD.val (wF_yes rfl rfl rfl c219) rfl rfl (fun w' hw' => (E.load rfl (run_load0 Try.isAgg3 ((at224.mono i139).now (S138.call hw').sl) rfl))) ?_
       refine FD.call (wF_yes rfl rfl rfl c219) rfl rfl (fun w' hw' => (E.call Try.call67 (A1 rfl))) (fun w' hw' => Calls.cls hw' (w_spec_l2Var (S138.call hw').sl x226)) ?_
       refine FD.val (wF_yes rfl rfl rfl c219) rfl rfl (fun w' hw' => (E.move k144)) ?_
       refine FD.val (wF_yes rfl rfl rfl c219) rfl rfl (fun w' hw' => (E.move k142)) ?_
       obtain ⟨p228, cs229, pt230, l231, at232, rel233⟩ := p1.at (ix_nat hx26)
       obtain rfl := eI_open rel233
       refine FD.val (wF_yes rfl rfl rfl c219) rfl rfl (fun w' hw' => (E.indexAddr te47 rfl rfl pt230)) ?_
       refine FD.val (wF_yes rfl rfl rfl c219) rfl rfl (fun w' hw' => (E.load rfl (run_load0 Try.isAgg3 ((at232.mono i139).now (S138.call hw').sl) rfl))) ?_
       refine FD.call (wF_yes rfl rfl rfl c219) rfl rfl (fun w' hw' => (E.call Try.call67 (A1 rfl))) (fun w' hw' => Calls.cls hw' (w_spec_l2Var (S138.call hw').sl y25)) ?_
       refine FD.val (wF_yes rfl rfl rfl c219) rfl rfl (fun w' hw' => (E.geq rfl rfl)) ?_
       obtain rfl := Option.some.inj hp
       refine FD.val (wF_yes rfl rfl rfl c198) rfl rfl (fun w' hw' => (E.pickT rfl c219 rfl)) ?_
       exact FD.nil ⟨k143, k144, k142, rfl, rfl⟩
      ·
       refine FD.skip (wF_no rfl rfl rfl c219) rfl ?_
       refine FD.skip (wF_no rfl rfl rfl c219) rfl ?_
       refine FD.skip (wF_no rfl rfl rfl c219) rfl ?_
       refine FD.skip (wF_no rfl rfl rfl c219) rfl ?_
       refine FD.skip (wF_no rfl rfl rfl c219) rfl ?_
       refine FD.skip (wF_no rfl rfl rfl c219) rfl ?_
       refine FD.skip (wF_no rfl rfl rfl c219) rfl ?_
       refine FD.skip (wF_no rfl rfl rfl c219) rfl ?_
       refine FD.skip (wF_no rfl rfl rfl c219) rfl ?_
       refine FD.skip (wF_no rfl rfl rfl c219) rfl ?_
       refine FD.skip (wF_no rfl rfl rfl c219) rfl ?_
       refine FD.skip (wF_no rfl rfl rfl c219) rfl ?_
       obtain rfl := Option.some.inj hp
       refine FD.val (wF_yes rfl rfl rfl c198) rfl rfl (fun w' hw' => (E.pickF rfl c219 rfl)) ?_
       exact FD.nil ⟨k143, k144, k142, rfl, rfl⟩
     rintro f218 ⟨k234, k235, k236, k237, k238⟩
     obtain rfl := Option.some.inj hp
     refine FD.val rfl rfl rfl (fun w' hw' => (E.pickF k237 c198 k238)) ?_
     exact FD.nil ⟨k234, k235, k236, rfl⟩
   rintro f197 ⟨k239, k240, k241, k242⟩
   refine FD.nil ?_
   intro w243 r245
   have S244 := S138.call r245
   rcases ifB hp with ⟨c246, hp⟩ | ⟨c246, hp⟩
   ·
    refine FW.condT k242 c246 ?_
    refine FW.seq (FW.region ?_)
    refine FL.v (E.assign (v := Value.bool false) rfl) ?_
    refine FL.nil ?_
    refine FW.ret ?_
    obtain rfl := Option.some.inj hp
    exact ⟨nofun, rfl, ⟨.inr rfl, res1 rfl rfl ⟨rfl, S244.back⟩⟩⟩
   ·
    refine FW.condF k242 c246 ?_
    refine FW.skip (FW.region ?_)
    refine FL.v (E.move k241) ?_
    refine FL.v (E.add rfl rfl) ?_
    refine FL.v (E.assign (v := Value.int .i64 (wr (((i26 : Nat) : Int) + 1))) rfl) ?_
    refine FL.nil ?_
    obtain rfl := Option.some.inj hp
    exact ⟨rfl, ⟨_, S244, i139, (nat_succ rfl (lt_of_get hx26) (p1.mono i139).le), k239, k240⟩⟩
  ·
   clear hp hq
   rintro s26 f257 w256 ⟨H253, S254, i255, k258, k259, k260⟩
   refine FW.seq (FW.seq (FW.region ?_))
   refine FL.v (E.move k258) ?_
   refine FL.v (E.move k260) ?_
   refine FL.v (E.lenP te47 rfl p1) ?_
   refine FL.v (E.lss rfl rfl) ?_
   refine FL.nil ?_
   refine FW.condF rfl dlt_len ?_
   refine FW.exit ?_
   exact ⟨nofun, rfl, ⟨_, S254, i255⟩⟩
  ·
   clear hq
   intro e f252 w251 hD
   rcases q26 with s26 | x26
   ·
    obtain ⟨rfl, hD⟩ := hD
    obtain ⟨H248, S249, i250⟩ := hD
    replace hp := el_go hp
    refine FW.seq (FW.region ?_)
    refine FL.v (E.assign (v := Value.bool true) rfl) ?_
    refine FL.nil ?_
    refine FW.ret ?_
    obtain rfl := Option.some.inj hp
    exact ⟨.inr rfl, res1 rfl rfl ⟨rfl, S249.back⟩⟩
   ·
    obtain ⟨he, hL⟩ := hD
    replace hp := el_rt hp
    obtain rfl := Option.some.inj hp
    subst he
    exact hL

theorem w_spec_l2Good {Ha : GH} {wa : World} (hs : Sl Ha wa) (a0 : Cnf) (v0_1 : Value) (p0_1 : RSl Ha (eL eI 1) 1 v0_1 a0.clauses) {r : Bool} (hp : (PF.spec_l2Good a0) = some r) :
  Calls Try.prog 33 #[Value.agg #[Value.int .i64 a0.vars, v0_1]] wa (Sc Ha wa (Value.bool r)) := by
 unfold PF.spec_l2Good at hp
 have S0 := St.init hs
 refine calls_go (N := 30) (args := [Value.agg #[Value.int .i64 a0.vars, v0_1]]) Try.func33 rfl rfl rfl ?_
 refine FW.seq (FW.region ?_)
 obtain ⟨b21, w22, run23, S24⟩ := S0.box (P := Try.prog) 29 [Value.int .i64 a0.vars, v0_1] (v := Value.agg #[Value.int .i64 a0.vars, v0_1]) rfl (ones_cons rfl (ones_cons p0_1.one ones_nil))
 refine FL.v (E.box rfl run23) ?_
 obtain ⟨H25, S26, i27, at28⟩ := S24.sealBox (i := 0) (l' := []) rfl rfl
 refine FL.v (E.assign (v := Value.bool false) rfl) ?_
 refine FL.nil (FW.seq (FW.seq (FW.region ?_)))
 refine FL.v (E.fieldAddr tf29_0 rfl) ?_
 refine FL.v (E.load rfl (run_load1 Try.isAgg3 (at28.now S26.sl) rfl)) ?_
 refine FL.call rfl rfl rfl (E.call Try.call54 (A1 rfl)) (w_spec_l2Vars S26.sl a0.vars) ?_
 rintro e w29 ⟨rfl, r30⟩
 refine ⟨_, rfl, ?_⟩
 have S31 := S26.call r30
 refine FL.v (E.not rfl) ?_
 refine FL.v (E.move (v := Value.bool (!(PF.spec_l2Vars a0.vars))) rfl) ?_
 refine FL.cut 5 (fun f w => ∃ H : GH, St Ha wa H w [] ∧ Inc H25 H ∧ f 1 = Value.pointer (some ⟨b21, 0, none⟩) ∧ f 13 = Value.bool (bif (!(PF.spec_l2Vars a0.vars)) then true else (decide (60 < (len a0.clauses))))) ?_ ?_
 ·
  rcases bcase (!(PF.spec_l2Vars a0.vars)) with c38 | c38
  ·
   refine FL.skip (wF_no rfl rfl rfl c38) rfl ?_
   refine FL.skip (wF_no rfl rfl rfl c38) rfl ?_
   refine FL.skip (wF_no rfl rfl rfl c38) rfl ?_
   refine FL.skip (wF_no rfl rfl rfl c38) rfl ?_
   refine FL.v (E.pickT rfl c38 rfl) ?_
   exact FL.nil ⟨rfl, _, S31, (Inc.rfl _), rfl, (congrArg Value.bool (bifT c38).symm)⟩
  ·
   refine FL.val (wF_yes rfl rfl rfl c38) rfl rfl (E.fieldAddr tf29_1 rfl) ?_
   refine FL.val (wF_yes rfl rfl rfl c38) rfl rfl (E.load rfl (run_load1 Try.isAgg22 (at28.now S31.sl) rfl)) ?_
   refine FL.val (wF_yes rfl rfl rfl c38) rfl rfl (E.lenP te22 rfl p0_1) ?_
   refine FL.val (wF_yes rfl rfl rfl c38) rfl rfl (E.gtr rfl rfl) ?_
   refine FL.v (E.pickF rfl c38 rfl) ?_
   exact FL.nil ⟨rfl, _, S31, (Inc.rfl _), rfl, (congrArg Value.bool (bifF c38).symm)⟩
 rintro f37 w36 ⟨H33, S34, i35, k39, k40⟩
 refine FL.nil ?_
 rcases ifB hp with ⟨c41, hp⟩ | ⟨c41, hp⟩
 ·
  refine FW.condT k40 c41 ?_
  refine FW.seq (FW.region ?_)
  refine FL.v (E.assign (v := Value.bool false) rfl) ?_
  refine FL.nil ?_
  refine FW.ret ?_
  obtain rfl := Option.some.inj hp
  exact ⟨.inr rfl, res1 rfl rfl ⟨rfl, S34.back⟩⟩
 ·
  refine FW.condF k40 c41 ?_
  refine FW.skip (FW.seq (FW.seq (FW.region ?_)))
  refine FL.v (E.assign (v := Value.int .i64 0) rfl) ?_
  refine FL.nil ?_
  obtain ⟨q42, hq, hp⟩ := bndR hp
  refine FW.block ?_
  refine FW.mono (FW.iter (S := Int) (X := Bool) (fun (s42 : Int) f w => ∃ H : GH, St Ha wa H w [] ∧ Inc H33 H ∧ f 1 = Value.pointer (some ⟨b21, 0, none⟩) ∧ f 3 = Value.int .i64 s42) (fun q e f w => match q with | .go s42 => e = Exit.exit 0 ∧ (∃ H : GH, St Ha wa H w [] ∧ Inc H33 H) | .rt x => ((e = Exit.ret) ∧ (fun e f w => (e = Exit.normal ∨ e = Exit.ret) ∧ ∀ a, Fr (δ := []) 30 a f → ∃ v, (results Try.f33 a.tmps).run Try.prog w = .ok v w ∧ (Sc Ha wa (Value.bool x)) (.returned v) w) e f w)) hq ⟨_, S34, (Inc.rfl _), k39, rfl⟩ ?_) ?_
  ·
   clear hp hq
   rintro s42 f72 w71 ⟨H68, S69, i70, k73, k74⟩ o93 hp
   refine FW.seq (FW.seq (FW.region ?_))
   refine FL.v (E.move k74) ?_
   refine FL.v (E.fieldAddr tf29_1 k73) ?_
   refine FL.v (E.load rfl (run_load1 Try.isAgg22 ((at28.mono (i35.tr i70)).now S69.sl) rfl)) ?_
   refine FL.v (E.lenP te22 rfl p0_1) ?_
   refine FL.v (E.lss rfl rfl) ?_
   refine FL.nil ?_
   rcases ifB hp with ⟨c75, hp⟩ | ⟨c75, hp⟩
   ·
    refine FW.condT rfl c75 ?_
    refine FW.skip (FW.seq (FW.block (FW.seq ?_)))
    refine FW.draw (fun w' => Run w71.heap.size H68 w71 H68 w') (by kernel_rfl) (by kernel_rfl) (run_drew S69.sl) ?_
    refine FD.val rfl rfl rfl (fun w' hw' => (E.fieldAddr tf29_0 k73)) ?_
    refine FD.val rfl rfl rfl (fun w' hw' => (E.load rfl (run_load1 Try.isAgg3 ((at28.mono (i35.tr i70)).now (S69.call hw').sl) rfl))) ?_
    refine FD.val rfl rfl rfl (fun w' hw' => (E.fieldAddr tf29_1 k73)) ?_
    refine FD.val rfl rfl rfl (fun w' hw' => (E.load rfl (run_load1 Try.isAgg22 ((at28.mono (i35.tr i70)).now (S69.call hw').sl) rfl))) ?_
    refine FD.val rfl rfl rfl (fun w' hw' => (E.move k74)) ?_
    obtain ⟨x83, hx84, hp⟩ := bnd hp
    obtain ⟨p77, cs78, pt79, l80, at81, rel82⟩ := p0_1.at hx84
    obtain ⟨v85, rfl, h86⟩ := eL_open rel82
    refine FD.val rfl rfl rfl (fun w' hw' => (E.indexAddr te22 rfl rfl pt79)) ?_
    refine FD.val rfl rfl rfl (fun w' hw' => (E.load rfl (run_load0 Try.isAgg47 ((at81.mono ((i27.tr i35).tr i70)).now (S69.call hw').sl) rfl))) ?_
    obtain ⟨r87, hr88, hp⟩ := bnd hp
    refine FD.call rfl rfl rfl (fun w' hw' => (E.call Try.call55 (A2 rfl rfl))) (fun w' hw' => Calls.cls hw' (w_spec_l2Clause (S69.call hw').sl a0.vars v85 x83 (h86.mono ((i27.tr i35).tr i70)) hr88)) ?_
    refine FD.val rfl rfl rfl (fun w' hw' => (E.not rfl)) ?_
    refine FD.nil ?_
    intro w89 r91
    have S90 := S69.call r91
    rcases ifB hp with ⟨c92, hp⟩ | ⟨c92, hp⟩
    ·
     refine FW.condT rfl c92 ?_
     refine FW.seq (FW.region ?_)
     refine FL.v (E.assign (v := Value.bool false) rfl) ?_
     refine FL.nil ?_
     refine FW.ret ?_
     obtain rfl := Option.some.inj hp
     exact ⟨nofun, rfl, ⟨.inr rfl, res1 rfl rfl ⟨rfl, S90.back⟩⟩⟩
    ·
     refine FW.condF rfl c92 ?_
     refine FW.skip (FW.region ?_)
     refine FL.v (E.move k74) ?_
     refine FL.v (E.add rfl rfl) ?_
     refine FL.v (E.assign (v := Value.int .i64 (wr (s42 + 1))) rfl) ?_
     refine FL.nil ?_
     obtain rfl := Option.some.inj hp
     exact ⟨rfl, ⟨_, S90, i70, k73, rfl⟩⟩
   ·
    refine FW.condF rfl c75 ?_
    refine FW.exit ?_
    obtain rfl := Option.some.inj hp
    exact ⟨nofun, rfl, ⟨_, S69, i70⟩⟩
  ·
   clear hq
   intro e f98 w97 hD
   rcases q42 with s42 | x42
   ·
    obtain ⟨rfl, hD⟩ := hD
    obtain ⟨H94, S95, i96⟩ := hD
    replace hp := el_go hp
    refine FW.seq (FW.region ?_)
    refine FL.v (E.assign (v := Value.bool true) rfl) ?_
    refine FL.nil ?_
    refine FW.ret ?_
    obtain rfl := Option.some.inj hp
    exact ⟨.inr rfl, res1 rfl rfl ⟨rfl, S95.back⟩⟩
   ·
    obtain ⟨he, hL⟩ := hD
    replace hp := el_rt hp
    obtain rfl := Option.some.inj hp
    subst he
    exact hL

theorem w_spec_l18Prime {Ha : GH} {wa : World} (hs : Sl Ha wa) (a0 : Int) (a1 : Int) :
  Calls Try.prog 34 #[Value.int .i64 a0, Value.int .i64 a1] wa (Sc Ha wa (Value.bool (PF.spec_l18Prime a0 a1))) := by
 obtain ⟨r, hp⟩ : ∃ r, (PF.spec_l18Prime a0 a1) = r := ⟨_, rfl⟩
 rw [hp]
 unfold PF.spec_l18Prime at hp
 have S0 := St.init hs
 refine calls_go (N := 19) (args := [Value.int .i64 a0, Value.int .i64 a1]) Try.func34 rfl rfl rfl ?_
 refine FW.seq (FW.region ?_)
 refine FL.v (E.assign (v := Value.bool false) rfl) ?_
 refine FL.nil (FW.seq (FW.region ?_))
 refine FL.v (E.move (v := Value.int .i64 a0) rfl) ?_
 refine FL.v (E.eql rfl rfl) ?_
 refine FL.v (E.move (v := Value.bool (a0 == 2)) rfl) ?_
 refine FL.cut 3 (fun f w => ∃ H : GH, St Ha wa H w [] ∧ Inc Ha H ∧ f 0 = Value.int .i64 a0 ∧ f 1 = Value.int .i64 a1 ∧ f 10 = Value.bool (bif (a0 == 2) then true else (a0 == 3))) ?_ ?_
 ·
  rcases bcase (a0 == 2) with c27 | c27
  ·
   refine FL.skip (wF_no rfl rfl rfl c27) rfl ?_
   refine FL.skip (wF_no rfl rfl rfl c27) rfl ?_
   refine FL.v (E.pickT rfl c27 rfl) ?_
   exact FL.nil ⟨rfl, _, S0, (Inc.rfl _), rfl, rfl, (congrArg Value.bool (bifT c27).symm)⟩
  ·
   refine FL.val (wF_yes rfl rfl rfl c27) rfl rfl (E.move (v := Value.int .i64 a0) rfl) ?_
   refine FL.val (wF_yes rfl rfl rfl c27) rfl rfl (E.eql rfl rfl) ?_
   refine FL.v (E.pickF rfl c27 rfl) ?_
   exact FL.nil ⟨rfl, _, S0, (Inc.rfl _), rfl, rfl, (congrArg Value.bool (bifF c27).symm)⟩
 rintro f26 w25 ⟨H22, S23, i24, k28, k29, k30⟩
 refine FL.v (E.move k30) ?_
 refine FL.cut 3 (fun f w => ∃ H : GH, St Ha wa H w [] ∧ Inc H22 H ∧ f 1 = Value.int .i64 a1 ∧ f 14 = Value.bool (bif (bif (a0 == 2) then true else (a0 == 3)) then true else (a0 == 5))) ?_ ?_
 ·
  rcases bcase (bif (a0 == 2) then true else (a0 == 3)) with c37 | c37
  ·
   refine FL.skip (wF_no rfl rfl rfl c37) rfl ?_
   refine FL.skip (wF_no rfl rfl rfl c37) rfl ?_
   refine FL.v (E.pickT rfl c37 rfl) ?_
   exact FL.nil ⟨rfl, _, S23, (Inc.rfl _), k29, (congrArg Value.bool (bifT c37).symm)⟩
  ·
   refine FL.val (wF_yes rfl rfl rfl c37) rfl rfl (E.move k28) ?_
   refine FL.val (wF_yes rfl rfl rfl c37) rfl rfl (E.eql rfl rfl) ?_
   refine FL.v (E.pickF rfl c37 rfl) ?_
   exact FL.nil ⟨rfl, _, S23, (Inc.rfl _), k29, (congrArg Value.bool (bifF c37).symm)⟩
 rintro f36 w35 ⟨H32, S33, i34, k38, k39⟩
 refine FL.v (E.move k39) ?_
 refine FL.cut 3 (fun f w => ∃ H : GH, St Ha wa H w [] ∧ Inc H32 H ∧ f 18 = Value.bool (bif (bif (bif (a0 == 2) then true else (a0 == 3)) then true else (a0 == 5)) then (PF.spec_l1In a1 0 6) else false)) ?_ ?_
 ·
  rcases bcase (bif (bif (a0 == 2) then true else (a0 == 3)) then true else (a0 == 5)) with c49 | c49
  ·
   refine FL.val (wF_yes rfl rfl rfl c49) rfl rfl (E.move k38) ?_
   refine FL.call (wF_yes rfl rfl rfl c49) rfl rfl (E.call Try.call35 (A3 rfl rfl rfl)) (w_spec_l1In S33.sl a1 0 6) ?_
   rintro e w50 ⟨rfl, r51⟩
   refine ⟨_, rfl, ?_⟩
   have S52 := S33.call r51
   refine FL.v (E.pickT rfl c49 rfl) ?_
   exact FL.nil ⟨rfl, _, S52, (Inc.rfl _), (congrArg Value.bool (bifT c49).symm)⟩
  ·
   refine FL.skip (wF_no rfl rfl rfl c49) rfl ?_
   refine FL.skip (wF_no rfl rfl rfl c49) rfl ?_
   refine FL.v (E.pickF rfl c49 rfl) ?_
   exact FL.nil ⟨rfl, _, S33, (Inc.rfl _), (congrArg Value.bool (bifF c49).symm)⟩
 rintro f48 w47 ⟨H44, S45, i46, k53⟩
 refine FL.v (E.assign k53) ?_
 refine FL.nil ?_
 refine FW.ret ?_
 obtain rfl := hp
 exact ⟨.inr rfl, res1 rfl rfl ⟨rfl, S45.back⟩⟩

theorem w_spec_l19Takes {Ha : GH} {wa : World} (hs : Sl Ha wa) (a0 : Int) (a1 : Cnf) (v1_1 : Value) (p1_1 : RSl Ha (eL eI 1) 1 v1_1 a1.clauses) {r : Bool} (hp : (PF.spec_l19Takes a0 a1) = some r) :
  Calls Try.prog 14 #[Value.int .i64 a0, Value.agg #[Value.int .i64 a1.vars, v1_1]] wa (Sc Ha wa (Value.bool r)) := by
 unfold PF.spec_l19Takes at hp
 have S0 := St.init hs
 refine calls_go (N := 13) (args := [Value.int .i64 a0, Value.agg #[Value.int .i64 a1.vars, v1_1]]) Try.func14 rfl rfl rfl ?_
 refine FW.seq (FW.region ?_)
 obtain ⟨b21, w22, run23, S24⟩ := S0.box (P := Try.prog) 29 [Value.int .i64 a1.vars, v1_1] (v := Value.agg #[Value.int .i64 a1.vars, v1_1]) rfl (ones_cons rfl (ones_cons p1_1.one ones_nil))
 refine FL.v (E.box rfl run23) ?_
 obtain ⟨H25, S26, i27, at28⟩ := S24.sealBox (i := 0) (l' := []) rfl rfl
 refine FL.v (E.assign (v := Value.bool false) rfl) ?_
 refine FL.nil (FW.seq (FW.region ?_))
 refine FL.v (E.load rfl (run_loadA Try.isAgg29 Try.sizeOf29 (at28.now S26.sl) rfl)) ?_
 obtain ⟨r29, hr30, hp⟩ := bnd hp
 refine FL.call rfl rfl rfl (E.call Try.call33 (A1 rfl)) (w_spec_l2Good S26.sl a1 v1_1 (p1_1.mono i27) hr30) ?_
 rintro e w31 ⟨rfl, r32⟩
 refine ⟨_, rfl, ?_⟩
 have S33 := S26.call r32
 refine FL.v (E.move (v := Value.bool r29) rfl) ?_
 refine FL.cut 5 (fun f w => ∃ H : GH, St Ha wa H w [] ∧ Inc H25 H ∧ f 12 = Value.bool (bif r29 then (PF.spec_l18Prime a0 a1.vars) else false)) ?_ ?_
 ·
  rcases bcase r29 with c43 | c43
  ·
   refine FL.val (wF_yes rfl rfl rfl c43) rfl rfl (E.move (v := Value.int .i64 a0) rfl) ?_
   refine FL.val (wF_yes rfl rfl rfl c43) rfl rfl (E.fieldAddr tf29_0 rfl) ?_
   refine FL.val (wF_yes rfl rfl rfl c43) rfl rfl (E.load rfl (run_load1 Try.isAgg3 (at28.now S33.sl) rfl)) ?_
   refine FL.call (wF_yes rfl rfl rfl c43) rfl rfl (E.call Try.call34 (A2 rfl rfl)) (w_spec_l18Prime S33.sl a0 a1.vars) ?_
   rintro e w44 ⟨rfl, r45⟩
   refine ⟨_, rfl, ?_⟩
   have S46 := S33.call r45
   refine FL.v (E.pickT rfl c43 rfl) ?_
   exact FL.nil ⟨rfl, _, S46, (Inc.rfl _), (congrArg Value.bool (bifT c43).symm)⟩
  ·
   refine FL.skip (wF_no rfl rfl rfl c43) rfl ?_
   refine FL.skip (wF_no rfl rfl rfl c43) rfl ?_
   refine FL.skip (wF_no rfl rfl rfl c43) rfl ?_
   refine FL.skip (wF_no rfl rfl rfl c43) rfl ?_
   refine FL.v (E.pickF rfl c43 rfl) ?_
   exact FL.nil ⟨rfl, _, S33, (Inc.rfl _), (congrArg Value.bool (bifF c43).symm)⟩
 rintro f42 w41 ⟨H38, S39, i40, k47⟩
 refine FL.v (E.assign k47) ?_
 refine FL.nil ?_
 refine FW.ret ?_
 obtain rfl := Option.some.inj hp
 exact ⟨.inr rfl, res1 rfl rfl ⟨rfl, S39.back⟩⟩

theorem w_spec_l19Degree {Ha : GH} {wa : World} (hs : Sl Ha wa) (a0 : Int) :
  Calls Try.prog 15 #[Value.int .i64 a0] wa (Sc Ha wa (Value.bool (PF.spec_l19Degree a0))) := by
 obtain ⟨r, hp⟩ : ∃ r, (PF.spec_l19Degree a0) = r := ⟨_, rfl⟩
 rw [hp]
 unfold PF.spec_l19Degree at hp
 have S0 := St.init hs
 refine calls_go (N := 5) (args := [Value.int .i64 a0]) Try.func15 rfl rfl rfl ?_
 refine FW.seq (FW.region ?_)
 refine FL.v (E.assign (v := Value.bool false) rfl) ?_
 refine FL.nil (FW.seq (FW.region ?_))
 refine FL.v (E.move (v := Value.int .i64 a0) rfl) ?_
 refine FL.call rfl rfl rfl (E.call Try.call35 (A3 rfl rfl rfl)) (w_spec_l1In S0.sl a0 0 6) ?_
 rintro e w21 ⟨rfl, r22⟩
 refine ⟨_, rfl, ?_⟩
 have S23 := S0.call r22
 refine FL.v (E.assign (v := Value.bool (PF.spec_l1In a0 0 6)) rfl) ?_
 refine FL.nil ?_
 refine FW.ret ?_
 obtain rfl := hp
 exact ⟨.inr rfl, res1 rfl rfl ⟨rfl, S23.back⟩⟩

@[reducible] def p_spec_l18Sparse (Ha : GH) (wa : World) (r : (List Term)) : Ending → World → Prop :=
  fun e w' => ∃ H' : GH, ∃ v0 : Value, ∃ n0 : Nat, ∃ c0 : List Value, e = .returned (v0) ∧ St Ha wa H' w' [.row 94 2 v0 n0 c0] ∧ Els (up wa.heap.size H') eTerm 2 c0 r
theorem w_spec_l18Sparse {Ha : GH} {wa : World} (hs : Sl Ha wa) (a0 : Int) (v1 : Value) (a1 : List Int) (p1 : RSl Ha eI 1 v1 a1) {r : (List Term)} (hp : (PF.spec_l18Sparse a0 a1) = some r) :
    Calls Try.prog 40 #[Value.int .i64 a0, v1] wa (p_spec_l18Sparse Ha wa r) := by
  unfold PF.spec_l18Sparse at hp
  have S0 := St.init hs
  refine calls_go (N := 30) (args := [Value.int .i64 a0, v1]) Try.func40 rfl rfl rfl ?_
  refine FW.seq (FW.region ?_)
  refine FL.v (E.assign (v := Value.slice none 0 0) rfl) ?_
  refine FL.nil (FW.seq (FW.region ?_))
  obtain ⟨v21, w22, run23, S24⟩ := S0.buildSlice (P := Try.prog) te62 [] (parts := #[]) (cells := []) rfl szs_nil fc_nil ones_nil (Nat.le_of_ble_eq_true rfl)
  have els25 : Els (up wa.heap.size Ha) eTerm 2 [] [] := Els.nil
  refine FL.v (E.buildSlice (B0) run23) ?_
  refine FL.v (E.assign (v := v21) rfl) ?_
  refine FL.nil (FW.seq (FW.seq (FW.region ?_)))
  refine FL.v (E.assign (v := Value.int .i64 0) rfl) ?_
  refine FL.nil ?_
  obtain ⟨q27, hq, hp⟩ := bndR hp
  refine FW.block ?_
  refine FW.mono (FW.forL (S := (List Term)) (X := Empty) (fun (i27 : Nat) (s27 : (List Term)) f w => ∃ H : GH, ∃ v28 : Value, ∃ n29 : Nat, ∃ cs30 : List Value, St Ha wa H w [.row 94 2 v28 n29 cs30] ∧ Inc Ha H ∧ Els (up wa.heap.size H) eTerm 2 cs30 s27 ∧ f 6 = Value.int .i64 ((i27 : Nat) : Int) ∧ f 0 = Value.int .i64 a0 ∧ f 1 = v1 ∧ f 5 = v28) (fun (q : Rs (List Term) Empty) e f w => match q with | .go s27 => e = Exit.exit 0 ∧ (∃ H : GH, ∃ v28 : Value, ∃ n29 : Nat, ∃ cs30 : List Value, St Ha wa H w [.row 94 2 v28 n29 cs30] ∧ Inc Ha H ∧ Els (up wa.heap.size H) eTerm 2 cs30 s27 ∧ f 5 = v28) | .rt x => x.elim) hq ⟨_, _, _, _, S24, (Inc.rfl _), els25, rfl, rfl, rfl, rfl⟩ ?_ ?_) ?_
  ·
    clear hp hq
    rintro i27 y26 s27 f70 w69 ⟨H66, v28, n29, cs30, S67, i68, els31, k71, k72, k73, k74⟩ hx27 o100 hp
    refine FW.seq (FW.seq (FW.region ?_))
    refine FL.v (E.move k71) ?_
    refine FL.v (E.move k73) ?_
    refine FL.v (E.lenP te47 rfl p1) ?_
    refine FL.v (E.lssT rfl rfl (lss_len hx27)) ?_
    refine FL.nil ?_
    refine FW.condT rfl rfl ?_
    refine FW.skip (FW.seq (FW.block (FW.seq (FW.region ?_))))
    refine FL.v (E.move k73) ?_
    refine FL.v (E.move k71) ?_
    obtain ⟨p75, cs76, pt77, l78, at79, rel80⟩ := p1.at (ix_nat hx27)
    obtain rfl := eI_open rel80
    refine FL.v (E.indexAddr te47 rfl rfl pt77) ?_
    refine FL.v (E.load rfl (run_load0 Try.isAgg3 ((at79.mono i68).now S67.sl) rfl)) ?_
    refine FL.v (E.move k72) ?_
    obtain ⟨u82, z81, hp⟩ := bnd hp
    refine FL.v (E.rem rfl rfl (nz_ne z81)) ?_
    refine FL.v (E.assign (v := Value.int .i64 (y26.tmod a0)) rfl) ?_
    refine FL.nil (FW.seq (FW.region ?_))
    refine FL.v (E.move (v := Value.int .i64 (y26.tmod a0)) rfl) ?_
    refine FL.v (E.neq rfl rfl) ?_
    refine FL.nil ?_
    rcases ifB hp with ⟨c83, hp⟩ | ⟨c83, hp⟩
    ·
      refine FW.condT rfl c83 ?_
      refine FW.region ?_
      refine FL.v (E.move k74) ?_
      refine FL.v (E.move k71) ?_
      refine FL.v (E.move (v := Value.int .i64 (y26.tmod a0)) rfl) ?_
      refine FL.v (E.build (B2 rfl rfl) (run_build _ 94 #[(0, Value.int .i64 ((i27 : Nat) : Int)), (1, Value.int .i64 (y26.tmod a0))] #[Value.int .i64 ((i27 : Nat) : Int), Value.int .i64 (y26.tmod a0)] (by rfl))) ?_
      obtain ⟨v84, w85, run86, S87⟩ := S67.buildSlice (P := Try.prog) te62 [Value.agg #[Value.int .i64 ((i27 : Nat) : Int), Value.int .i64 (y26.tmod a0)]] (parts := #[(0, Value.agg #[Value.int .i64 ((i27 : Nat) : Int), Value.int .i64 (y26.tmod a0)])]) (cells := [Value.int .i64 ((i27 : Nat) : Int), Value.int .i64 (y26.tmod a0)]) rfl (szs_cons rfl szs_nil) (fc_cons rfl fc_nil) (ones_cons rfl (ones_cons rfl ones_nil)) (Nat.le_of_ble_eq_true rfl)
      have els88 : Els (up wa.heap.size H66) eTerm 2 [Value.int .i64 ((i27 : Nat) : Int), Value.int .i64 (y26.tmod a0)] [(Term.mk ((i27 : Nat) : Int) (y26.tmod a0))] := (Els.snoc (H := (up wa.heap.size H66)) (E := eTerm) (k := 2) (c := [Value.int .i64 ((i27 : Nat) : Int), Value.int .i64 (y26.tmod a0)]) (x := (Term.mk ((i27 : Nat) : Int) (y26.tmod a0))) Els.nil rfl rfl)
      refine FL.v (E.buildSlice (B1 rfl) run86) ?_
      obtain ⟨xs89, hz90, hp⟩ := bnd hp
      obtain ⟨v91, w94, n92, cs93, run95, S96, els97, ce98⟩ := S87.appendO (P := Try.prog) te62 (i := 1) (j := 0) rfl els31 rfl els88 hz90
      have S96 : St Ha wa H66 w94 [.row 94 2 v84 1 [Value.int .i64 ((i27 : Nat) : Int), Value.int .i64 (y26.tmod a0)], .row 94 2 v91 n92 cs93] := S96
      have S99 : St Ha wa H66 w94 [.row 94 2 v91 n92 cs93] := S96.drop 0
      refine FL.v (E.append rfl rfl run95) ?_
      refine FL.v (E.assign (v := v91) rfl) ?_
      refine FL.nil (FW.region ?_)
      refine FL.v (E.move k71) ?_
      refine FL.v (E.add rfl rfl) ?_
      refine FL.v (E.assign (v := Value.int .i64 (wr (((i27 : Nat) : Int) + 1))) rfl) ?_
      refine FL.nil ?_
      obtain rfl := Option.some.inj hp
      exact ⟨rfl, ⟨_, _, _, _, S99, i68, els97, (nat_succ rfl (lt_of_get hx27) (p1.mono i68).le), k72, k73, rfl⟩⟩
    ·
      refine FW.condF rfl c83 ?_
      refine FW.skip (FW.region ?_)
      refine FL.v (E.move k71) ?_
      refine FL.v (E.add rfl rfl) ?_
      refine FL.v (E.assign (v := Value.int .i64 (wr (((i27 : Nat) : Int) + 1))) rfl) ?_
      refine FL.nil ?_
      obtain rfl := Option.some.inj hp
      exact ⟨rfl, ⟨_, _, _, _, S67, i68, els31, (nat_succ rfl (lt_of_get hx27) (p1.mono i68).le), k72, k73, k74⟩⟩
  ·
    clear hp hq
    rintro s27 f111 w110 ⟨H107, v28, n29, cs30, S108, i109, els31, k112, k113, k114, k115⟩
    refine FW.seq (FW.seq (FW.region ?_))
    refine FL.v (E.move k112) ?_
    refine FL.v (E.move k114) ?_
    refine FL.v (E.lenP te47 rfl p1) ?_
    refine FL.v (E.lss rfl rfl) ?_
    refine FL.nil ?_
    refine FW.condF rfl dlt_len ?_
    refine FW.exit ?_
    exact ⟨nofun, rfl, ⟨_, _, _, _, S108, i109, els31, k115⟩⟩
  ·
    clear hq
    intro e f105 w104 hD
    rcases q27 with s27 | x27
    ·
      obtain ⟨rfl, hD⟩ := hD
      obtain ⟨H101, v28, n29, cs30, S102, i103, els31, k106⟩ := hD
      replace hp := el_go hp
      refine FW.seq (FW.region ?_)
      refine FL.v (E.move k106) ?_
      refine FL.v (E.assign (v := v28) rfl) ?_
      refine FL.nil ?_
      refine FW.ret ?_
      obtain rfl := Option.some.inj hp
      exact ⟨.inr rfl, res1 rfl rfl ⟨_, _, _, _, rfl, S102, els31⟩⟩
    · exact x27.elim

@[reducible] def p_spec_l18Mul (Ha : GH) (wa : World) (r : (List Term)) : Ending → World → Prop :=
  fun e w' => ∃ H' : GH, ∃ v0 : Value, ∃ n0 : Nat, ∃ c0 : List Value, e = .returned (v0) ∧ St Ha wa H' w' [.row 94 2 v0 n0 c0] ∧ Els (up wa.heap.size H') eTerm 2 c0 r
theorem w_spec_l18Mul {Ha : GH} {wa : World} (hs : Sl Ha wa) (a0 : Int) (a1 : Int) (v2 : Value) (a2 : List Term) (p2 : RSl Ha eTerm 2 v2 a2) (v3 : Value) (a3 : List Term) (p3 : RSl Ha eTerm 2 v3 a3) {r : (List Term)} (hp : (PF.spec_l18Mul a0 a1 a2 a3) = some r) :
    Calls Try.prog 71 #[Value.int .i64 a0, Value.int .i64 a1, v2, v3] wa (p_spec_l18Mul Ha wa r) := by
  unfold PF.spec_l18Mul at hp
  have S0 := St.init hs
  refine calls_go (N := 63) (args := [Value.int .i64 a0, Value.int .i64 a1, v2, v3]) Try.func71 rfl rfl rfl ?_
  refine FW.seq (FW.region ?_)
  refine FL.v (E.assign (v := Value.slice none 0 0) rfl) ?_
  refine FL.nil (FW.seq (FW.region ?_))
  refine FL.v (E.move (v := Value.int .i64 a1) rfl) ?_
  obtain ⟨u22, z21, hp⟩ := bnd hp
  refine FL.v (E.shl rfl rfl (nn_ge z21)) ?_
  obtain ⟨xs23, hm24, hp⟩ := bnd hp
  obtain ⟨v25, w26, n30, cs31, run27, S28, els29, hbl32⟩ := S0.makeEls (P := Try.prog) te47 (G := (up wa.heap.size Ha)) (En := eI) (x0 := (0 : Int)) hm24 rfl (ones_cons rfl ones_nil) .i64 .i64
  refine FL.v (E.makeSlice rfl rfl run27) ?_
  refine FL.v (E.assign (v := v25) rfl) ?_
  refine FL.nil (FW.seq (FW.seq (FW.region ?_)))
  refine FL.v (E.assign (v := Value.int .i64 0) rfl) ?_
  refine FL.nil ?_
  obtain ⟨q34, hq, hp⟩ := bndR hp
  refine FW.block ?_
  refine FW.mono (FW.forL (S := (List Int)) (X := Empty) (fun (i34 : Nat) (s34 : (List Int)) f w => ∃ H : GH, ∃ v35 : Value, ∃ n36 : Nat, ∃ cs37 : List Value, St Ha wa H w [.row 3 1 v35 n36 cs37] ∧ Inc Ha H ∧ Els (up wa.heap.size H) eI 1 cs37 s34 ∧ f 10 = Value.int .i64 ((i34 : Nat) : Int) ∧ f 0 = Value.int .i64 a0 ∧ f 2 = v2 ∧ f 3 = v3 ∧ f 9 = v35) (fun (q : Rs (List Int) Empty) e f w => match q with | .go s34 => e = Exit.exit 0 ∧ (∃ H : GH, ∃ v35 : Value, ∃ n36 : Nat, ∃ cs37 : List Value, St Ha wa H w [.row 3 1 v35 n36 cs37] ∧ Inc Ha H ∧ Els (up wa.heap.size H) eI 1 cs37 s34 ∧ f 0 = Value.int .i64 a0 ∧ f 9 = v35) | .rt x => x.elim) hq ⟨_, _, _, _, S28, (Inc.rfl _), els29, rfl, rfl, rfl, rfl, rfl⟩ ?_ ?_) ?_
  ·
    clear hp hq
    rintro i34 y33 s34 f43 w42 ⟨H39, v35, n36, cs37, S40, i41, els38, k44, k45, k46, k48, k49⟩ hx34 o164 hp
    refine FW.seq (FW.seq (FW.region ?_))
    refine FL.v (E.move k44) ?_
    refine FL.v (E.move k46) ?_
    refine FL.v (E.lenP te62 rfl p2) ?_
    refine FL.v (E.lssT rfl rfl (lss_len hx34)) ?_
    refine FL.nil ?_
    refine FW.condT rfl rfl ?_
    refine FW.skip (FW.seq (FW.block (FW.seq (FW.region ?_))))
    refine FL.v (E.assign (v := Value.int .i64 0) rfl) ?_
    refine FL.nil ?_
    obtain ⟨q51, hq, hp⟩ := bndR hp
    refine FW.block ?_
    refine FW.mono (FW.forL (S := (List Int)) (X := Empty) (fun (i51 : Nat) (s51 : (List Int)) f w => ∃ H : GH, ∃ v52 : Value, ∃ n53 : Nat, ∃ cs54 : List Value, St Ha wa H w [.row 3 1 v52 n53 cs54] ∧ Inc H39 H ∧ Els (up wa.heap.size H) eI 1 cs54 s51 ∧ f 11 = Value.int .i64 ((i51 : Nat) : Int) ∧ f 0 = Value.int .i64 a0 ∧ f 2 = v2 ∧ f 3 = v3 ∧ f 9 = v52 ∧ f 10 = Value.int .i64 ((i34 : Nat) : Int)) (fun (q : Rs (List Int) Empty) e f w => match q with | .go s51 => e = Exit.exit 2 ∧ (∃ H : GH, ∃ v52 : Value, ∃ n53 : Nat, ∃ cs54 : List Value, St Ha wa H w [.row 3 1 v52 n53 cs54] ∧ Inc H39 H ∧ Els (up wa.heap.size H) eI 1 cs54 s51 ∧ f 0 = Value.int .i64 a0 ∧ f 2 = v2 ∧ f 3 = v3 ∧ f 9 = v52 ∧ f 10 = Value.int .i64 ((i34 : Nat) : Int)) | .rt x => x.elim) hq ⟨_, _, _, _, S40, (Inc.rfl _), els38, rfl, k45, k46, k48, k49, k44⟩ ?_ ?_) ?_
    ·
      clear hp hq
      rintro i51 y50 s51 f60 w59 ⟨H56, v52, n53, cs54, S57, i58, els55, k61, k63, k64, k65, k66, k67⟩ hx51 o142 hp
      refine FW.seq (FW.seq (FW.region ?_))
      refine FL.v (E.move k61) ?_
      refine FL.v (E.move k65) ?_
      refine FL.v (E.lenP te62 rfl p3) ?_
      refine FL.v (E.lssT rfl rfl (lss_len hx51)) ?_
      refine FL.nil ?_
      refine FW.condT rfl rfl ?_
      refine FW.skip (FW.seq (FW.block (FW.seq ?_)))
      refine FW.draw (fun w' => Run w59.heap.size H56 w59 H56 w') (by kernel_rfl) (by kernel_rfl) (run_drew S57.sl) ?_
      refine FD.val rfl rfl rfl (fun w' hw' => (E.move k64)) ?_
      refine FD.val rfl rfl rfl (fun w' hw' => (E.move k67)) ?_
      obtain ⟨p68, cs69, pt70, l71, at72, rel73⟩ := p2.at (ix_nat hx34)
      obtain rfl := eTerm_open rel73
      refine FD.val rfl rfl rfl (fun w' hw' => (E.indexAddr te62 rfl rfl pt70)) ?_
      refine FD.val rfl rfl rfl (fun w' hw' => (E.fieldAddr tf94_0 rfl)) ?_
      refine FD.val rfl rfl rfl (fun w' hw' => (E.load rfl (run_load1 Try.isAgg3 ((at72.mono (i41.tr i58)).now (S57.call hw').sl) rfl))) ?_
      refine FD.val rfl rfl rfl (fun w' hw' => (E.move k65)) ?_
      refine FD.val rfl rfl rfl (fun w' hw' => (E.move k61)) ?_
      obtain ⟨p74, cs75, pt76, l77, at78, rel79⟩ := p3.at (ix_nat hx51)
      obtain rfl := eTerm_open rel79
      refine FD.val rfl rfl rfl (fun w' hw' => (E.indexAddr te62 rfl rfl pt76)) ?_
      refine FD.val rfl rfl rfl (fun w' hw' => (E.fieldAddr tf94_0 rfl)) ?_
      refine FD.val rfl rfl rfl (fun w' hw' => (E.load rfl (run_load1 Try.isAgg3 ((at78.mono (i41.tr i58)).now (S57.call hw').sl) rfl))) ?_
      refine FD.val rfl rfl rfl (fun w' hw' => (E.or rfl rfl)) ?_
      refine FD.val rfl rfl rfl (fun w' hw' => (E.assign (v := Value.int .i64 (orK true 64 y33.mono y50.mono)) rfl)) ?_
      refine FD.nil ?_
      intro w80 r82
      have S81 := S57.call r82
      obtain ⟨x92, hx93, hp⟩ := bnd hp
      obtain ⟨u109, z108, hp⟩ := bnd hp
      obtain ⟨x116, hx117, hp⟩ := bnd hp
      obtain ⟨xs122, hput123, hp⟩ := bnd hp
      refine FW.drawB (Sl H56) (fun f w => ∃ H : GH, ∃ v127 : Value, ∃ n128 : Nat, ∃ cs129 : List Value, St Ha wa H w [.row 3 1 v127 n128 cs129] ∧ Inc H56 H ∧ Els (up wa.heap.size H) eI 1 cs129 xs122 ∧ f 0 = Value.int .i64 a0 ∧ f 2 = v2 ∧ f 3 = v3 ∧ f 9 = v127 ∧ f 10 = Value.int .i64 ((i34 : Nat) : Int) ∧ f 11 = Value.int .i64 ((i51 : Nat) : Int)) (by kernel_rfl) S81.sl ?_ ?_
      ·
        intro w83 r84
        have S85 := S81.call r84
        refine FB.t (i := 0) (bs 22 1) rfl (SP.nil S85.sl) rfl (fun w' hw' => (E.move k66)) ?_
        refine FB.t (i := 1) (bs 22 3) rfl (SP.nil S85.sl) rfl (fun w' hw' => (E.move (v := Value.int .i64 (orK true 64 y33.mono y50.mono)) rfl)) ?_
        refine FB.t (i := 2) (bs 22 7) rfl (SP.nil S85.sl) rfl (fun w' hw' => (E.move k66)) ?_
        refine FB.t (i := 3) (bs 22 15) rfl (SP.nil S85.sl) rfl (fun w' hw' => (E.move (v := Value.int .i64 (orK true 64 y33.mono y50.mono)) rfl)) ?_
        obtain ⟨p86, cs87, pt88, l89, at90, rel91, hall95⟩ := S85.row_atA (i := 0) rfl els55 (by decide) hx93
        obtain rfl := eI_open rel91
        refine FB.t (i := 4) (bs 22 31) rfl (SP.nil S85.sl) rfl (fun w' hw' => (E.indexAddr te47 rfl rfl pt88)) ?_
        refine FB.phase [21] (fun w' => WAt w' p86 [Value.int .i64 x92]) ?_
        refine FB.p (i := 5) (bs 22 63) 0 [17, 19, 20, 21] rfl (SP.on (hall95 _ _ _ 0 S85 rfl) (SP.nil S85.sl)) rfl rfl (fun w' hw' => (E.load rfl (run_load0 Try.isAgg3 hw' rfl))) ?_
        refine FB.t (i := 6) (bs 22 127) rfl (SP.on (hall95 _ _ _ 0 S85 rfl) (SP.nil S85.sl)) rfl (fun w' hw' => (E.move k64)) ?_
        refine FB.t (i := 7) (bs 22 255) rfl (SP.on (hall95 _ _ _ 0 S85 rfl) (SP.nil S85.sl)) rfl (fun w' hw' => (E.move k67)) ?_
        obtain ⟨p96, cs97, pt98, l99, at100, rel101⟩ := p2.at (ix_nat hx34)
        obtain rfl := eTerm_open rel101
        refine FB.t (i := 8) (bs 22 511) rfl (SP.on (hall95 _ _ _ 0 S85 rfl) (SP.nil S85.sl)) rfl (fun w' hw' => (E.indexAddr te62 rfl rfl pt98)) ?_
        refine FB.t (i := 9) (bs 22 1023) rfl (SP.on (hall95 _ _ _ 0 S85 rfl) (SP.nil S85.sl)) rfl (fun w' hw' => (E.fieldAddr tf94_1 rfl)) ?_
        refine FB.t (i := 10) (bs 22 2047) rfl (SP.on (hall95 _ _ _ 0 S85 rfl) (SP.nil S85.sl)) rfl (fun w' hw' => (E.load rfl (run_load1 Try.isAgg3 ((at100.mono (i41.tr i58)).now hw') rfl))) ?_
        refine FB.t (i := 11) (bs 22 4095) rfl (SP.on (hall95 _ _ _ 0 S85 rfl) (SP.nil S85.sl)) rfl (fun w' hw' => (E.move k65)) ?_
        refine FB.t (i := 12) (bs 22 8191) rfl (SP.on (hall95 _ _ _ 0 S85 rfl) (SP.nil S85.sl)) rfl (fun w' hw' => (E.move k61)) ?_
        obtain ⟨p102, cs103, pt104, l105, at106, rel107⟩ := p3.at (ix_nat hx51)
        obtain rfl := eTerm_open rel107
        refine FB.t (i := 13) (bs 22 16383) rfl (SP.on (hall95 _ _ _ 0 S85 rfl) (SP.nil S85.sl)) rfl (fun w' hw' => (E.indexAddr te62 rfl rfl pt104)) ?_
        refine FB.t (i := 14) (bs 22 32767) rfl (SP.on (hall95 _ _ _ 0 S85 rfl) (SP.nil S85.sl)) rfl (fun w' hw' => (E.fieldAddr tf94_1 rfl)) ?_
        refine FB.t (i := 15) (bs 22 65535) rfl (SP.on (hall95 _ _ _ 0 S85 rfl) (SP.nil S85.sl)) rfl (fun w' hw' => (E.load rfl (run_load1 Try.isAgg3 ((at106.mono (i41.tr i58)).now hw') rfl))) ?_
        refine FB.t (i := 16) (bs 22 131071) rfl (SP.on (hall95 _ _ _ 0 S85 rfl) (SP.nil S85.sl)) rfl (fun w' hw' => (E.mul rfl rfl)) ?_
        refine FB.t (i := 17) (bs 22 262143) rfl (SP.on (hall95 _ _ _ 0 S85 rfl) (SP.nil S85.sl)) rfl (fun w' hw' => (E.add rfl rfl)) ?_
        refine FB.t (i := 18) (bs 22 524287) rfl (SP.on (hall95 _ _ _ 0 S85 rfl) (SP.nil S85.sl)) rfl (fun w' hw' => (E.move k63)) ?_
        refine FB.t (i := 19) (bs 22 1048575) rfl (SP.on (hall95 _ _ _ 0 S85 rfl) (SP.nil S85.sl)) rfl (fun w' hw' => (E.rem rfl rfl (nz_ne z108))) ?_
        obtain ⟨p110, cs111, pt112, l113, at114, rel115, hall118⟩ := S85.row_atA (i := 0) rfl els55 (by decide) hx117
        obtain rfl := eI_open rel115
        refine FB.t (i := 20) (bs 22 2097151) rfl (SP.on (hall95 _ _ _ 0 S85 rfl) (SP.nil S85.sl)) rfl (fun w' hw' => (E.indexAddr te47 rfl rfl pt112)) ?_
        refine FB.all1 (i := 21) (by kernel_rfl) ?_
        ·
          obtain ⟨w119, cs125, run120, S121, els124, ce126⟩ := S85.putEls (P := Try.prog) (t := 3) (i := 0) rfl els55 hput123 pt112 Try.sizeOf3 (u := Value.int .i64 ((wr (x92 + (wr (y33.coeff * y50.coeff)))).tmod a0)) (c := [Value.int .i64 ((wr (x92 + (wr (y33.coeff * y50.coeff)))).tmod a0)]) rfl rfl (ones_cons rfl ones_nil) rfl
          have S121 : St Ha wa H56 w119 [.row 3 1 v52 n53 cs125] := S121
          refine FC.act (l' := (bs 22 4194303)) rfl (by kernel_rfl) rfl rfl (E.store rfl rfl run120) ?_
          refine ⟨(SP.o (SP.nil S121.sl)), ?_⟩
          exact FB.done (by kernel_rfl) ⟨_, _, _, _, S121, (Inc.rfl _), els124, k63, k64, k65, k66, k67, k61⟩
      ·
        rintro f135 w134 ⟨H131, v127, n128, cs129, S132, i133, els130, k136, k137, k138, k139, k140, k141⟩
        refine FW.region ?_
        refine FL.v (E.move k141) ?_
        refine FL.v (E.add rfl rfl) ?_
        refine FL.v (E.assign (v := Value.int .i64 (wr (((i51 : Nat) : Int) + 1))) rfl) ?_
        refine FL.nil ?_
        obtain rfl := Option.some.inj hp
        exact ⟨rfl, ⟨_, _, _, _, S132, (i58.tr i133), els130, (nat_succ rfl (lt_of_get hx51) (p3.mono ((i41.tr i58).tr i133)).le), k136, k137, k138, k139, k140⟩⟩
    ·
      clear hp hq
      rintro s51 f157 w156 ⟨H153, v52, n53, cs54, S154, i155, els55, k158, k159, k160, k161, k162, k163⟩
      refine FW.seq (FW.seq (FW.region ?_))
      refine FL.v (E.move k158) ?_
      refine FL.v (E.move k161) ?_
      refine FL.v (E.lenP te62 rfl p3) ?_
      refine FL.v (E.lss rfl rfl) ?_
      refine FL.nil ?_
      refine FW.condF rfl dlt_len ?_
      refine FW.exit ?_
      exact ⟨nofun, rfl, ⟨_, _, _, _, S154, i155, els55, k159, k160, k161, k162, k163⟩⟩
    ·
      clear hq
      intro e f147 w146 hD
      rcases q51 with s51 | x51
      ·
        obtain ⟨rfl, hD⟩ := hD
        obtain ⟨H143, v52, n53, cs54, S144, i145, els55, k148, k149, k150, k151, k152⟩ := hD
        replace hp := el_go hp
        refine FW.region ?_
        refine FL.v (E.move k152) ?_
        refine FL.v (E.add rfl rfl) ?_
        refine FL.v (E.assign (v := Value.int .i64 (wr (((i34 : Nat) : Int) + 1))) rfl) ?_
        refine FL.nil ?_
        obtain rfl := Option.some.inj hp
        exact ⟨rfl, ⟨_, _, _, _, S144, (i41.tr i145), els55, (nat_succ rfl (lt_of_get hx34) (p2.mono (i41.tr i145)).le), k148, k149, k150, k151⟩⟩
      · exact x51.elim
  ·
    clear hp hq
    rintro s34 f193 w192 ⟨H189, v35, n36, cs37, S190, i191, els38, k194, k195, k196, k197, k198⟩
    refine FW.seq (FW.seq (FW.region ?_))
    refine FL.v (E.move k194) ?_
    refine FL.v (E.move k196) ?_
    refine FL.v (E.lenP te62 rfl p2) ?_
    refine FL.v (E.lss rfl rfl) ?_
    refine FL.nil ?_
    refine FW.condF rfl dlt_len ?_
    refine FW.exit ?_
    exact ⟨nofun, rfl, ⟨_, _, _, _, S190, i191, els38, k195, k198⟩⟩
  ·
    clear hq
    intro e f169 w168 hD
    rcases q34 with s34 | x34
    ·
      obtain ⟨rfl, hD⟩ := hD
      obtain ⟨H165, v35, n36, cs37, S166, i167, els38, k170, k171⟩ := hD
      replace hp := el_go hp
      refine FW.seq (FW.region ?_)
      refine FL.v (E.move k170) ?_
      refine FL.v (E.move k171) ?_
      obtain ⟨H172, S173, i174, h175, nv176⟩ := S166.sealRowU (i := 0) (l' := []) rfl els38 (by decide) rfl
      obtain ⟨r177, hr178, hp⟩ := bnd hp
      refine FL.call rfl rfl rfl (E.call Try.call40 (A2 rfl rfl)) (w_spec_l18Sparse S173.sl a0 v35 s34 (h175.mono upI) hr178) ?_
      rintro e w180 ⟨H179, v185, n186, cs187, rfl, r182, els188⟩
      refine ⟨_, rfl, ?_⟩
      obtain ⟨H183, r182, hU184⟩ := St.lendX i174 S166.sl r182
      have els188 := els188.mono (hU184.tr (up_le S166.size))
      have S181 := S166.join (l' := [.row 94 2 v185 n186 cs187, .row 3 1 v35 n36 cs37]) r182 rfl
      refine FL.v (E.assign (v := v185) rfl) ?_
      refine FL.nil ?_
      refine FW.ret ?_
      obtain rfl := Option.some.inj hp
      exact ⟨.inr rfl, res1 rfl rfl ⟨_, _, _, _, rfl, (S181.sel [0] (by decide) rfl), els188⟩⟩
    · exact x34.elim

@[reducible] def p_spec_l18Clause (Ha : GH) (wa : World) (r : (List Term)) : Ending → World → Prop :=
  fun e w' => ∃ H' : GH, ∃ v0 : Value, ∃ n0 : Nat, ∃ c0 : List Value, e = .returned (v0) ∧ St Ha wa H' w' [.row 94 2 v0 n0 c0] ∧ Els (up wa.heap.size H') eTerm 2 c0 r
theorem w_spec_l18Clause {Ha : GH} {wa : World} (hs : Sl Ha wa) (a0 : Int) (a1 : Int) (v2 : Value) (a2 : List Int) (p2 : RSl Ha eI 1 v2 a2) {r : (List Term)} (hp : (PF.spec_l18Clause a0 a1 a2) = some r) :
    Calls Try.prog 68 #[Value.int .i64 a0, Value.int .i64 a1, v2] wa (p_spec_l18Clause Ha wa r) := by
  unfold PF.spec_l18Clause at hp
  have S0 := St.init hs
  refine calls_go (N := 49) (args := [Value.int .i64 a0, Value.int .i64 a1, v2]) Try.func68 rfl rfl rfl ?_
  refine FW.seq (FW.region ?_)
  refine FL.v (E.assign (v := Value.slice none 0 0) rfl) ?_
  refine FL.nil (FW.seq (FW.region ?_))
  refine FL.v (E.build (B2 rfl rfl) (run_build _ 94 #[(0, Value.int .i64 0), (1, Value.int .i64 1)] #[Value.int .i64 0, Value.int .i64 1] (by rfl))) ?_
  obtain ⟨v21, w22, run23, S24⟩ := S0.buildSlice (P := Try.prog) te62 [Value.agg #[Value.int .i64 0, Value.int .i64 1]] (parts := #[(0, Value.agg #[Value.int .i64 0, Value.int .i64 1])]) (cells := [Value.int .i64 0, Value.int .i64 1]) rfl (szs_cons rfl szs_nil) (fc_cons rfl fc_nil) (ones_cons rfl (ones_cons rfl ones_nil)) (Nat.le_of_ble_eq_true rfl)
  have els25 : Els (up wa.heap.size Ha) eTerm 2 [Value.int .i64 0, Value.int .i64 1] [(Term.mk 0 1)] := (Els.snoc (H := (up wa.heap.size Ha)) (E := eTerm) (k := 2) (c := [Value.int .i64 0, Value.int .i64 1]) (x := (Term.mk 0 1)) Els.nil rfl rfl)
  refine FL.v (E.buildSlice (B1 rfl) run23) ?_
  refine FL.v (E.assign (v := v21) rfl) ?_
  refine FL.nil (FW.seq (FW.seq (FW.region ?_)))
  refine FL.v (E.assign (v := Value.int .i64 0) rfl) ?_
  refine FL.nil ?_
  obtain ⟨q27, hq, hp⟩ := bndR hp
  refine FW.block ?_
  refine FW.mono (FW.forL (S := (List Term)) (X := Empty) (fun (i27 : Nat) (s27 : (List Term)) f w => ∃ H : GH, ∃ v125 : Value, ∃ n126 : Nat, ∃ cs127 : List Value, St Ha wa H w [.row 94 2 v125 n126 cs127] ∧ Inc Ha H ∧ Els (up wa.heap.size H) eTerm 2 cs127 s27 ∧ f 8 = Value.int .i64 ((i27 : Nat) : Int) ∧ f 0 = Value.int .i64 a0 ∧ f 1 = Value.int .i64 a1 ∧ f 2 = v2 ∧ f 7 = v125) (fun (q : Rs (List Term) Empty) e f w => match q with | .go s27 => e = Exit.exit 0 ∧ (∃ H : GH, ∃ v125 : Value, ∃ n126 : Nat, ∃ cs127 : List Value, St Ha wa H w [.row 94 2 v125 n126 cs127] ∧ Inc Ha H ∧ Els (up wa.heap.size H) eTerm 2 cs127 s27 ∧ f 7 = v125) | .rt x => x.elim) hq ⟨_, _, _, _, S24, (Inc.rfl _), els25, rfl, rfl, rfl, rfl, rfl⟩ ?_ ?_) ?_
  ·
    clear hp hq
    rintro i27 y26 s27 f226 w225 ⟨H222, v125, n126, cs127, S223, i224, els128, k227, k228, k229, k230, k231⟩ hx27 o315 hp
    refine FW.seq (FW.seq (FW.region ?_))
    refine FL.v (E.move k227) ?_
    refine FL.v (E.move k230) ?_
    refine FL.v (E.lenP te47 rfl p2) ?_
    refine FL.v (E.lssT rfl rfl (lss_len hx27)) ?_
    refine FL.nil ?_
    refine FW.condT rfl rfl ?_
    refine FW.skip (FW.seq (FW.block (FW.seq (FW.region ?_))))
    refine FL.v (E.move k230) ?_
    refine FL.v (E.move k227) ?_
    obtain ⟨p232, cs233, pt234, l235, at236, rel237⟩ := p2.at (ix_nat hx27)
    obtain rfl := eI_open rel237
    refine FL.v (E.indexAddr te47 rfl rfl pt234) ?_
    refine FL.v (E.load rfl (run_load0 Try.isAgg3 ((at236.mono i224).now S223.sl) rfl)) ?_
    refine FL.call rfl rfl rfl (E.call Try.call67 (A1 rfl)) (w_spec_l2Var S223.sl y26) ?_
    rintro e w238 ⟨rfl, r239⟩
    refine ⟨_, rfl, ?_⟩
    have S240 := S223.call r239
    refine FL.v (E.sub rfl rfl) ?_
    obtain ⟨u242, z241, hp⟩ := bnd hp
    refine FL.v (E.shl rfl rfl (nn_ge z241)) ?_
    refine FL.v (E.build (B2 rfl rfl) (run_build _ 94 #[(0, Value.int .i64 (shlK true 64 1 (wr ((PF.spec_l2Var y26) - 1)))), (1, Value.int .i64 1)] #[Value.int .i64 (shlK true 64 1 (wr ((PF.spec_l2Var y26) - 1))), Value.int .i64 1] (by rfl))) ?_
    obtain ⟨b243, w244, run245, S246⟩ := S240.alloc (P := Try.prog) 94 [Value.int .i64 0, Value.int .i64 0] Try.zeroValue94 rfl (ones_cons rfl (ones_cons rfl ones_nil))
    refine FL.v (E.alloc run245) ?_
    obtain ⟨w247, run248, S249⟩ := S246.store0 (P := Try.prog) (t := 94) (i := 0) (cs' := [Value.int .i64 (shlK true 64 1 (wr ((PF.spec_l2Var y26) - 1))), Value.int .i64 1]) (l' := [.box b243 94 [Value.int .i64 (shlK true 64 1 (wr ((PF.spec_l2Var y26) - 1))), Value.int .i64 1], .row 94 2 v125 n126 cs127]) (v := Value.agg #[Value.int .i64 (shlK true 64 1 (wr ((PF.spec_l2Var y26) - 1))), Value.int .i64 1]) (c := [Value.int .i64 (shlK true 64 1 (wr ((PF.spec_l2Var y26) - 1))), Value.int .i64 1]) rfl Try.sizeOf94 rfl rfl (ones_cons rfl (ones_cons rfl ones_nil)) (Nat.le_of_ble_eq_true rfl) rfl rfl
    refine FL.act rfl rfl (E.store rfl rfl run248) ?_
    obtain ⟨H250, S251, i252, at253⟩ := S249.sealBox (i := 0) (l' := [.row 94 2 v125 n126 cs127]) rfl rfl
    refine FL.nil (FW.seq (FW.region ?_))
    refine FL.v (E.move k230) ?_
    refine FL.v (E.move k227) ?_
    obtain ⟨p254, cs255, pt256, l257, at258, rel259⟩ := p2.at (ix_nat hx27)
    obtain rfl := eI_open rel259
    refine FL.v (E.indexAddr te47 rfl rfl pt256) ?_
    refine FL.v (E.load rfl (run_load0 Try.isAgg3 ((at258.mono (i224.tr i252)).now S251.sl) rfl)) ?_
    refine FL.v (E.lss rfl rfl) ?_
    refine FL.nil ?_
    rcases ifB hp with ⟨c260, hp⟩ | ⟨c260, hp⟩
    ·
      refine FW.condT rfl c260 ?_
      refine FW.region ?_
      refine FL.v (E.move k228) ?_
      refine FL.v (E.move k229) ?_
      refine FL.v (E.move k231) ?_
      refine FL.v (E.load rfl (run_loadA Try.isAgg94 Try.sizeOf94 (at253.now S251.sl) rfl)) ?_
      obtain ⟨v261, w262, run263, S264⟩ := S251.buildSlice (P := Try.prog) te62 [Value.agg #[Value.int .i64 (shlK true 64 1 (wr ((PF.spec_l2Var y26) - 1))), Value.int .i64 1]] (parts := #[(0, Value.agg #[Value.int .i64 (shlK true 64 1 (wr ((PF.spec_l2Var y26) - 1))), Value.int .i64 1])]) (cells := [Value.int .i64 (shlK true 64 1 (wr ((PF.spec_l2Var y26) - 1))), Value.int .i64 1]) rfl (szs_cons rfl szs_nil) (fc_cons rfl fc_nil) (ones_cons rfl (ones_cons rfl ones_nil)) (Nat.le_of_ble_eq_true rfl)
      have els265 : Els (up wa.heap.size H250) eTerm 2 [Value.int .i64 (shlK true 64 1 (wr ((PF.spec_l2Var y26) - 1))), Value.int .i64 1] [(Term.mk (shlK true 64 1 (wr ((PF.spec_l2Var y26) - 1))) 1)] := (Els.snoc (H := (up wa.heap.size H250)) (E := eTerm) (k := 2) (c := [Value.int .i64 (shlK true 64 1 (wr ((PF.spec_l2Var y26) - 1))), Value.int .i64 1]) (x := (Term.mk (shlK true 64 1 (wr ((PF.spec_l2Var y26) - 1))) 1)) Els.nil rfl rfl)
      refine FL.v (E.buildSlice (B1 rfl) run263) ?_
      obtain ⟨H266, S267, i268, h269, nv270⟩ := S264.sealRowU (i := 1) (l' := [.row 94 2 v261 1 [Value.int .i64 (shlK true 64 1 (wr ((PF.spec_l2Var y26) - 1))), Value.int .i64 1]]) rfl (els128.mono (up_mono i252)) (by decide) rfl
      obtain ⟨H271, S272, i273, h274, nv275⟩ := S267.sealRowU (i := 0) (l' := []) rfl (els265.mono (up_mono i268)) (by decide) rfl
      obtain ⟨r276, hr277, hp⟩ := bnd hp
      refine FL.call rfl rfl rfl (E.call Try.call71 (A4 rfl rfl rfl rfl)) (w_spec_l18Mul S272.sl a0 a1 v125 s27 (h269.mono (upI.tr i273)) v261 [(Term.mk (shlK true 64 1 (wr ((PF.spec_l2Var y26) - 1))) 1)] (h274.mono upI) hr277) ?_
      rintro e w279 ⟨H278, v284, n285, cs286, rfl, r281, els287⟩
      refine ⟨_, rfl, ?_⟩
      obtain ⟨H282, r281, hU283⟩ := St.lendX (i268.tr i273) S264.sl r281
      have els287 := els287.mono (hU283.tr (up_le S264.size))
      have S280 := S264.join (l' := [.row 94 2 v284 n285 cs286, .row 94 2 v261 1 [Value.int .i64 (shlK true 64 1 (wr ((PF.spec_l2Var y26) - 1))), Value.int .i64 1], .row 94 2 v125 n126 cs127]) r281 rfl
      refine FL.v (E.assign (v := v284) rfl) ?_
      refine FL.nil (FW.region ?_)
      refine FL.v (E.move k227) ?_
      refine FL.v (E.add rfl rfl) ?_
      refine FL.v (E.assign (v := Value.int .i64 (wr (((i27 : Nat) : Int) + 1))) rfl) ?_
      refine FL.nil ?_
      obtain rfl := Option.some.inj hp
      exact ⟨rfl, ⟨_, _, _, _, (S280.sel [0] (by decide) rfl), ((i224.tr i252).tr r281.run.inc), els287, (nat_succ rfl (lt_of_get hx27) (p2.mono ((i224.tr i252).tr r281.run.inc)).le), k228, k229, k230, rfl⟩⟩
    ·
      refine FW.condF rfl c260 ?_
      refine FW.region ?_
      refine FL.v (E.move k228) ?_
      refine FL.v (E.move k229) ?_
      refine FL.v (E.move k231) ?_
      refine FL.v (E.build (B2 rfl rfl) (run_build _ 94 #[(0, Value.int .i64 0), (1, Value.int .i64 1)] #[Value.int .i64 0, Value.int .i64 1] (by rfl))) ?_
      refine FL.v (E.fieldAddr tf94_0 rfl) ?_
      refine FL.v (E.load rfl (run_load1 Try.isAgg3 (at253.now S251.sl) rfl)) ?_
      refine FL.v (E.move k228) ?_
      refine FL.v (E.sub rfl rfl) ?_
      refine FL.v (E.build (B2 rfl rfl) (run_build _ 94 #[(0, Value.int .i64 (shlK true 64 1 (wr ((PF.spec_l2Var y26) - 1)))), (1, Value.int .i64 (wr (a0 - 1)))] #[Value.int .i64 (shlK true 64 1 (wr ((PF.spec_l2Var y26) - 1))), Value.int .i64 (wr (a0 - 1))] (by rfl))) ?_
      obtain ⟨v288, w289, run290, S291⟩ := S251.buildSlice (P := Try.prog) te62 [Value.agg #[Value.int .i64 0, Value.int .i64 1], Value.agg #[Value.int .i64 (shlK true 64 1 (wr ((PF.spec_l2Var y26) - 1))), Value.int .i64 (wr (a0 - 1))]] (parts := #[(0, Value.agg #[Value.int .i64 0, Value.int .i64 1]), (1, Value.agg #[Value.int .i64 (shlK true 64 1 (wr ((PF.spec_l2Var y26) - 1))), Value.int .i64 (wr (a0 - 1))])]) (cells := [Value.int .i64 0, Value.int .i64 1, Value.int .i64 (shlK true 64 1 (wr ((PF.spec_l2Var y26) - 1))), Value.int .i64 (wr (a0 - 1))]) rfl (szs_cons rfl (szs_cons rfl szs_nil)) (fc_cons rfl (fc_cons rfl fc_nil)) (ones_cons rfl (ones_cons rfl (ones_cons rfl (ones_cons rfl ones_nil)))) (Nat.le_of_ble_eq_true rfl)
      have els292 : Els (up wa.heap.size H250) eTerm 2 [Value.int .i64 0, Value.int .i64 1, Value.int .i64 (shlK true 64 1 (wr ((PF.spec_l2Var y26) - 1))), Value.int .i64 (wr (a0 - 1))] [(Term.mk 0 1), (Term.mk (shlK true 64 1 (wr ((PF.spec_l2Var y26) - 1))) (wr (a0 - 1)))] := (Els.snoc (H := (up wa.heap.size H250)) (E := eTerm) (k := 2) (c := [Value.int .i64 (shlK true 64 1 (wr ((PF.spec_l2Var y26) - 1))), Value.int .i64 (wr (a0 - 1))]) (x := (Term.mk (shlK true 64 1 (wr ((PF.spec_l2Var y26) - 1))) (wr (a0 - 1)))) (Els.snoc (H := (up wa.heap.size H250)) (E := eTerm) (k := 2) (c := [Value.int .i64 0, Value.int .i64 1]) (x := (Term.mk 0 1)) Els.nil rfl rfl) rfl rfl)
      refine FL.v (E.buildSlice (B2 rfl rfl) run290) ?_
      obtain ⟨H293, S294, i295, h296, nv297⟩ := S291.sealRowU (i := 1) (l' := [.row 94 2 v288 2 [Value.int .i64 0, Value.int .i64 1, Value.int .i64 (shlK true 64 1 (wr ((PF.spec_l2Var y26) - 1))), Value.int .i64 (wr (a0 - 1))]]) rfl (els128.mono (up_mono i252)) (by decide) rfl
      obtain ⟨H298, S299, i300, h301, nv302⟩ := S294.sealRowU (i := 0) (l' := []) rfl (els292.mono (up_mono i295)) (by decide) rfl
      obtain ⟨r303, hr304, hp⟩ := bnd hp
      refine FL.call rfl rfl rfl (E.call Try.call71 (A4 rfl rfl rfl rfl)) (w_spec_l18Mul S299.sl a0 a1 v125 s27 (h296.mono (upI.tr i300)) v288 [(Term.mk 0 1), (Term.mk (shlK true 64 1 (wr ((PF.spec_l2Var y26) - 1))) (wr (a0 - 1)))] (h301.mono upI) hr304) ?_
      rintro e w306 ⟨H305, v311, n312, cs313, rfl, r308, els314⟩
      refine ⟨_, rfl, ?_⟩
      obtain ⟨H309, r308, hU310⟩ := St.lendX (i295.tr i300) S291.sl r308
      have els314 := els314.mono (hU310.tr (up_le S291.size))
      have S307 := S291.join (l' := [.row 94 2 v311 n312 cs313, .row 94 2 v288 2 [Value.int .i64 0, Value.int .i64 1, Value.int .i64 (shlK true 64 1 (wr ((PF.spec_l2Var y26) - 1))), Value.int .i64 (wr (a0 - 1))], .row 94 2 v125 n126 cs127]) r308 rfl
      refine FL.v (E.assign (v := v311) rfl) ?_
      refine FL.nil (FW.region ?_)
      refine FL.v (E.move k227) ?_
      refine FL.v (E.add rfl rfl) ?_
      refine FL.v (E.assign (v := Value.int .i64 (wr (((i27 : Nat) : Int) + 1))) rfl) ?_
      refine FL.nil ?_
      obtain rfl := Option.some.inj hp
      exact ⟨rfl, ⟨_, _, _, _, (S307.sel [0] (by decide) rfl), ((i224.tr i252).tr r308.run.inc), els314, (nat_succ rfl (lt_of_get hx27) (p2.mono ((i224.tr i252).tr r308.run.inc)).le), k228, k229, k230, rfl⟩⟩
  ·
    clear hp hq
    rintro s27 f326 w325 ⟨H322, v125, n126, cs127, S323, i324, els128, k327, k328, k329, k330, k331⟩
    refine FW.seq (FW.seq (FW.region ?_))
    refine FL.v (E.move k327) ?_
    refine FL.v (E.move k330) ?_
    refine FL.v (E.lenP te47 rfl p2) ?_
    refine FL.v (E.lss rfl rfl) ?_
    refine FL.nil ?_
    refine FW.condF rfl dlt_len ?_
    refine FW.exit ?_
    exact ⟨nofun, rfl, ⟨_, _, _, _, S323, i324, els128, k331⟩⟩
  ·
    clear hq
    intro e f320 w319 hD
    rcases q27 with s27 | x27
    ·
      obtain ⟨rfl, hD⟩ := hD
      obtain ⟨H316, v125, n126, cs127, S317, i318, els128, k321⟩ := hD
      replace hp := el_go hp
      refine FW.seq (FW.region ?_)
      refine FL.v (E.move k321) ?_
      refine FL.v (E.assign (v := v125) rfl) ?_
      refine FL.nil ?_
      refine FW.ret ?_
      obtain rfl := Option.some.inj hp
      exact ⟨.inr rfl, res1 rfl rfl ⟨_, _, _, _, rfl, S317, els128⟩⟩
    · exact x27.elim

theorem w_spec_l14Count {Ha : GH} {wa : World} (hs : Sl Ha wa) (a0 : Int) {r : Int} (hp : (PF.spec_l14Count a0) = some r) :
    Calls Try.prog 78 #[Value.int .i64 a0] wa (Sc Ha wa (Value.int .i64 r)) := by
  unfold PF.spec_l14Count at hp
  have S0 := St.init hs
  refine calls_go (N := 13) (args := [Value.int .i64 a0]) Try.func78 rfl rfl rfl ?_
  refine FW.seq (FW.region ?_)
  refine FL.v (E.assign (v := Value.int .i64 0) rfl) ?_
  refine FL.nil (FW.seq (FW.region ?_))
  refine FL.v (E.assign (v := Value.int .i64 0) rfl) ?_
  refine FL.nil (FW.seq ?_)
  obtain ⟨q21, hq, hp⟩ := bndR hp
  refine FW.block ?_
  refine FW.mono (FW.iter (S := (Int × Int)) (X := Empty) (fun (s21 : (Int × Int)) f w => ∃ H : GH, St Ha wa H w [] ∧ Inc Ha H ∧ f 0 = Value.int .i64 s21.1 ∧ f 3 = Value.int .i64 s21.2) (fun (q : Rs (Int × Int) Empty) e f w => match q with | .go s21 => e = Exit.exit 0 ∧ (∃ H : GH, St Ha wa H w [] ∧ Inc Ha H ∧ f 3 = Value.int .i64 s21.2) | .rt x => x.elim) hq ⟨_, S0, (Inc.rfl _), rfl, rfl⟩ ?_) ?_
  ·
    clear hp hq
    rintro s21 f34 w33 ⟨H30, S31, i32, k35, k36⟩ o38 hp
    refine FW.seq (FW.seq (FW.region ?_))
    refine FL.v (E.move k35) ?_
    refine FL.v (E.gtr rfl rfl) ?_
    refine FL.nil ?_
    rcases ifB hp with ⟨c37, hp⟩ | ⟨c37, hp⟩
    ·
      refine FW.condT rfl c37 ?_
      refine FW.skip (FW.seq (FW.block (FW.region ?_)))
      refine FL.v (E.move k36) ?_
      refine FL.v (E.move k35) ?_
      refine FL.v (E.rem rfl rfl (by decide)) ?_
      refine FL.v (E.add rfl rfl) ?_
      refine FL.v (E.assign (v := Value.int .i64 (wr (s21.2 + (s21.1.tmod 2)))) rfl) ?_
      refine FL.nil (FW.region ?_)
      refine FL.v (E.move k35) ?_
      refine FL.v (E.quo rfl rfl (by decide)) ?_
      refine FL.v (E.assign (v := Value.int .i64 (wr (s21.1.tdiv 2))) rfl) ?_
      refine FL.nil ?_
      obtain rfl := Option.some.inj hp
      exact ⟨rfl, ⟨_, S31, i32, rfl, rfl⟩⟩
    ·
      refine FW.condF rfl c37 ?_
      refine FW.exit ?_
      obtain rfl := Option.some.inj hp
      exact ⟨nofun, rfl, ⟨_, S31, i32, k36⟩⟩
  ·
    clear hq
    intro e f43 w42 hD
    rcases q21 with s21 | x21
    ·
      obtain ⟨rfl, hD⟩ := hD
      obtain ⟨H39, S40, i41, k44⟩ := hD
      replace hp := el_go hp
      refine FW.seq (FW.region ?_)
      refine FL.v (E.move k44) ?_
      refine FL.v (E.assign (v := Value.int .i64 s21.2) rfl) ?_
      refine FL.nil ?_
      refine FW.ret ?_
      obtain rfl := Option.some.inj hp
      exact ⟨.inr rfl, res1 rfl rfl ⟨rfl, S40.back⟩⟩
    · exact x21.elim

@[reducible] def p_spec_l18Graded (Ha : GH) (wa : World) (r : (List Int)) : Ending → World → Prop :=
  fun e w' => ∃ H' : GH, ∃ v0 : Value, ∃ n0 : Nat, ∃ c0 : List Value, e = .returned (v0) ∧ St Ha wa H' w' [.row 3 1 v0 n0 c0] ∧ Els (up wa.heap.size H') eI 1 c0 r
theorem w_spec_l18Graded {Ha : GH} {wa : World} (hs : Sl Ha wa) (a0 : Int) (a1 : Int) {r : (List Int)} (hp : (PF.spec_l18Graded a0 a1) = some r) :
    Calls Try.prog 69 #[Value.int .i64 a0, Value.int .i64 a1] wa (p_spec_l18Graded Ha wa r) := by
  unfold PF.spec_l18Graded at hp
  have S0 := St.init hs
  refine calls_go (N := 29) (args := [Value.int .i64 a0, Value.int .i64 a1]) Try.func69 rfl rfl rfl ?_
  refine FW.seq (FW.region ?_)
  refine FL.v (E.assign (v := Value.slice none 0 0) rfl) ?_
  refine FL.nil (FW.seq (FW.region ?_))
  obtain ⟨v21, w22, run23, S24⟩ := S0.buildSlice (P := Try.prog) te47 [] (parts := #[]) (cells := []) rfl szs_nil fc_nil ones_nil (Nat.le_of_ble_eq_true rfl)
  have els25 : Els (up wa.heap.size Ha) eI 1 [] [] := Els.nil
  refine FL.v (E.buildSlice (B0) run23) ?_
  refine FL.v (E.assign (v := v21) rfl) ?_
  refine FL.nil (FW.seq (FW.seq (FW.region ?_)))
  refine FL.v (E.assign (v := Value.int .i64 0) rfl) ?_
  refine FL.nil ?_
  obtain ⟨q27, hq, hp⟩ := bndR hp
  refine FW.block ?_
  refine FW.mono (FW.iter (S := ((List Int) × Int)) (X := Empty) (fun (s27 : ((List Int) × Int)) f w => ∃ H : GH, ∃ v28 : Value, ∃ n29 : Nat, ∃ cs30 : List Value, St Ha wa H w [.row 3 1 v28 n29 cs30] ∧ Inc Ha H ∧ Els (up wa.heap.size H) eI 1 cs30 s27.1 ∧ f 0 = Value.int .i64 a0 ∧ f 1 = Value.int .i64 a1 ∧ f 5 = v28 ∧ f 6 = Value.int .i64 s27.2) (fun (q : Rs ((List Int) × Int) Empty) e f w => match q with | .go s27 => e = Exit.exit 0 ∧ (∃ H : GH, ∃ v28 : Value, ∃ n29 : Nat, ∃ cs30 : List Value, St Ha wa H w [.row 3 1 v28 n29 cs30] ∧ Inc Ha H ∧ Els (up wa.heap.size H) eI 1 cs30 s27.1 ∧ f 5 = v28) | .rt x => x.elim) hq ⟨_, _, _, _, S24, (Inc.rfl _), els25, rfl, rfl, rfl, rfl⟩ ?_) ?_
  ·
    clear hp hq
    rintro s27 f105 w104 ⟨H101, v28, n29, cs30, S102, i103, els31, k106, k107, k108, k109⟩ o196 hp
    refine FW.seq (FW.seq (FW.region ?_))
    refine FL.v (E.move k109) ?_
    refine FL.v (E.move k107) ?_
    refine FL.v (E.leq rfl rfl) ?_
    refine FL.nil ?_
    rcases ifB hp with ⟨c110, hp⟩ | ⟨c110, hp⟩
    ·
      refine FW.condT rfl c110 ?_
      refine FW.skip (FW.seq (FW.block (FW.seq (FW.region ?_))))
      refine FL.v (E.assign (v := Value.int .i64 0) rfl) ?_
      refine FL.nil ?_
      obtain ⟨q111, hq, hp⟩ := bndR hp
      refine FW.block ?_
      refine FW.mono (FW.iter (S := ((List Int) × Int)) (X := Empty) (fun (s111 : ((List Int) × Int)) f w => ∃ H : GH, ∃ v112 : Value, ∃ n113 : Nat, ∃ cs114 : List Value, St Ha wa H w [.row 3 1 v112 n113 cs114] ∧ Inc H101 H ∧ Els (up wa.heap.size H) eI 1 cs114 s111.1 ∧ f 0 = Value.int .i64 a0 ∧ f 1 = Value.int .i64 a1 ∧ f 5 = v112 ∧ f 6 = Value.int .i64 s27.2 ∧ f 7 = Value.int .i64 s111.2) (fun (q : Rs ((List Int) × Int) Empty) e f w => match q with | .go s111 => e = Exit.exit 2 ∧ (∃ H : GH, ∃ v112 : Value, ∃ n113 : Nat, ∃ cs114 : List Value, St Ha wa H w [.row 3 1 v112 n113 cs114] ∧ Inc H101 H ∧ Els (up wa.heap.size H) eI 1 cs114 s111.1 ∧ f 0 = Value.int .i64 a0 ∧ f 1 = Value.int .i64 a1 ∧ f 5 = v112 ∧ f 6 = Value.int .i64 s27.2) | .rt x => x.elim) hq ⟨_, _, _, _, S102, (Inc.rfl _), els31, k106, k107, k108, k109, rfl⟩ ?_) ?_
      ·
        clear hp hq
        rintro s111 f155 w154 ⟨H151, v112, n113, cs114, S152, i153, els115, k156, k157, k158, k159, k160⟩ o186 hp
        refine FW.seq (FW.seq (FW.region ?_))
        refine FL.v (E.move k160) ?_
        refine FL.v (E.move k156) ?_
        obtain ⟨u162, z161, hp⟩ := bnd hp
        refine FL.v (E.shl rfl rfl (nn_ge z161)) ?_
        refine FL.v (E.lss rfl rfl) ?_
        refine FL.nil ?_
        rcases ifB hp with ⟨c163, hp⟩ | ⟨c163, hp⟩
        ·
          refine FW.condT rfl c163 ?_
          refine FW.skip (FW.seq (FW.block (FW.seq (FW.region ?_))))
          refine FL.v (E.move k160) ?_
          obtain ⟨r164, hr165, hp⟩ := bnd hp
          refine FL.call rfl rfl rfl (E.call Try.call78 (A1 rfl)) (w_spec_l14Count S152.sl s111.2 hr165) ?_
          rintro e w166 ⟨rfl, r167⟩
          refine ⟨_, rfl, ?_⟩
          have S168 := S152.call r167
          refine FL.v (E.move k159) ?_
          refine FL.v (E.eql rfl rfl) ?_
          refine FL.nil ?_
          rcases ifB hp with ⟨c169, hp⟩ | ⟨c169, hp⟩
          ·
            refine FW.condT rfl c169 ?_
            refine FW.region ?_
            refine FL.v (E.move k158) ?_
            refine FL.v (E.move k160) ?_
            obtain ⟨v170, w171, run172, S173⟩ := S168.buildSlice (P := Try.prog) te47 [Value.int .i64 s111.2] (parts := #[(0, Value.int .i64 s111.2)]) (cells := [Value.int .i64 s111.2]) rfl (szs_cons rfl szs_nil) (fc_cons rfl fc_nil) (ones_cons rfl ones_nil) (Nat.le_of_ble_eq_true rfl)
            have els174 : Els (up wa.heap.size H151) eI 1 [Value.int .i64 s111.2] [s111.2] := (Els.snoc (H := (up wa.heap.size H151)) (E := eI) (k := 1) (c := [Value.int .i64 s111.2]) (x := s111.2) Els.nil rfl rfl)
            refine FL.v (E.buildSlice (B1 rfl) run172) ?_
            obtain ⟨xs175, hz176, hp⟩ := bnd hp
            obtain ⟨v177, w180, n178, cs179, run181, S182, els183, ce184⟩ := S173.appendO (P := Try.prog) te47 (i := 1) (j := 0) rfl els115 rfl els174 hz176
            have S182 : St Ha wa H151 w180 [.row 3 1 v170 1 [Value.int .i64 s111.2], .row 3 1 v177 n178 cs179] := S182
            have S185 : St Ha wa H151 w180 [.row 3 1 v177 n178 cs179] := S182.drop 0
            refine FL.v (E.append rfl rfl run181) ?_
            refine FL.v (E.assign (v := v177) rfl) ?_
            refine FL.nil (FW.region ?_)
            refine FL.v (E.move k160) ?_
            refine FL.v (E.add rfl rfl) ?_
            refine FL.v (E.assign (v := Value.int .i64 (wr (s111.2 + 1))) rfl) ?_
            refine FL.nil ?_
            obtain rfl := Option.some.inj hp
            exact ⟨rfl, ⟨_, _, _, _, S185, i153, els183, k156, k157, rfl, k159, rfl⟩⟩
          ·
            refine FW.condF rfl c169 ?_
            refine FW.skip (FW.region ?_)
            refine FL.v (E.move k160) ?_
            refine FL.v (E.add rfl rfl) ?_
            refine FL.v (E.assign (v := Value.int .i64 (wr (s111.2 + 1))) rfl) ?_
            refine FL.nil ?_
            obtain rfl := Option.some.inj hp
            exact ⟨rfl, ⟨_, _, _, _, S168, i153, els115, k156, k157, k158, k159, rfl⟩⟩
        ·
          refine FW.condF rfl c163 ?_
          refine FW.exit ?_
          obtain rfl := Option.some.inj hp
          exact ⟨nofun, rfl, ⟨_, _, _, _, S152, i153, els115, k156, k157, k158, k159⟩⟩
      ·
        clear hq
        intro e f191 w190 hD
        rcases q111 with s111 | x111
        ·
          obtain ⟨rfl, hD⟩ := hD
          obtain ⟨H187, v112, n113, cs114, S188, i189, els115, k192, k193, k194, k195⟩ := hD
          replace hp := el_go hp
          refine FW.region ?_
          refine FL.v (E.move k195) ?_
          refine FL.v (E.add rfl rfl) ?_
          refine FL.v (E.assign (v := Value.int .i64 (wr (s27.2 + 1))) rfl) ?_
          refine FL.nil ?_
          obtain rfl := Option.some.inj hp
          exact ⟨rfl, ⟨_, _, _, _, S188, (i103.tr i189), els115, k192, k193, k194, rfl⟩⟩
        · exact x111.elim
    ·
      refine FW.condF rfl c110 ?_
      refine FW.exit ?_
      obtain rfl := Option.some.inj hp
      exact ⟨nofun, rfl, ⟨_, _, _, _, S102, i103, els31, k108⟩⟩
  ·
    clear hq
    intro e f201 w200 hD
    rcases q27 with s27 | x27
    ·
      obtain ⟨rfl, hD⟩ := hD
      obtain ⟨H197, v28, n29, cs30, S198, i199, els31, k202⟩ := hD
      replace hp := el_go hp
      refine FW.seq (FW.region ?_)
      refine FL.v (E.move k202) ?_
      refine FL.v (E.assign (v := v28) rfl) ?_
      refine FL.nil ?_
      refine FW.ret ?_
      obtain rfl := Option.some.inj hp
      exact ⟨.inr rfl, res1 rfl rfl ⟨_, _, _, _, rfl, S198, els31⟩⟩
    · exact x27.elim

@[reducible] def p_spec_l18Dense (Ha : GH) (wa : World) (r : (List Int)) : Ending → World → Prop :=
  fun e w' => ∃ H' : GH, ∃ v0 : Value, ∃ n0 : Nat, ∃ c0 : List Value, e = .returned (v0) ∧ St Ha wa H' w' [.row 3 1 v0 n0 c0] ∧ Els (up wa.heap.size H') eI 1 c0 r
theorem w_spec_l18Dense {Ha : GH} {wa : World} (hs : Sl Ha wa) (a0 : Int) (v1 : Value) (a1 : List Term) (p1 : RSl Ha eTerm 2 v1 a1) {r : (List Int)} (hp : (PF.spec_l18Dense a0 a1) = some r) :
    Calls Try.prog 70 #[Value.int .i64 a0, v1] wa (p_spec_l18Dense Ha wa r) := by
  unfold PF.spec_l18Dense at hp
  have S0 := St.init hs
  refine calls_go (N := 29) (args := [Value.int .i64 a0, v1]) Try.func70 rfl rfl rfl ?_
  refine FW.seq (FW.region ?_)
  refine FL.v (E.assign (v := Value.slice none 0 0) rfl) ?_
  refine FL.nil (FW.seq (FW.region ?_))
  refine FL.v (E.move (v := Value.int .i64 a0) rfl) ?_
  obtain ⟨u22, z21, hp⟩ := bnd hp
  refine FL.v (E.shl rfl rfl (nn_ge z21)) ?_
  obtain ⟨xs23, hm24, hp⟩ := bnd hp
  obtain ⟨v25, w26, n30, cs31, run27, S28, els29, hbl32⟩ := S0.makeEls (P := Try.prog) te47 (G := (up wa.heap.size Ha)) (En := eI) (x0 := (0 : Int)) hm24 rfl (ones_cons rfl ones_nil) .i64 .i64
  refine FL.v (E.makeSlice rfl rfl run27) ?_
  refine FL.v (E.assign (v := v25) rfl) ?_
  refine FL.nil (FW.seq (FW.seq (FW.region ?_)))
  refine FL.v (E.assign (v := Value.int .i64 0) rfl) ?_
  refine FL.nil ?_
  obtain ⟨q34, hq, hp⟩ := bndR hp
  refine FW.block ?_
  refine FW.mono (FW.forL (S := (List Int)) (X := Empty) (fun (i34 : Nat) (s34 : (List Int)) f w => ∃ H : GH, ∃ v35 : Value, ∃ n36 : Nat, ∃ cs37 : List Value, St Ha wa H w [.row 3 1 v35 n36 cs37] ∧ Inc Ha H ∧ Els (up wa.heap.size H) eI 1 cs37 s34 ∧ f 6 = Value.int .i64 ((i34 : Nat) : Int) ∧ f 1 = v1 ∧ f 5 = v35) (fun (q : Rs (List Int) Empty) e f w => match q with | .go s34 => e = Exit.exit 0 ∧ (∃ H : GH, ∃ v35 : Value, ∃ n36 : Nat, ∃ cs37 : List Value, St Ha wa H w [.row 3 1 v35 n36 cs37] ∧ Inc Ha H ∧ Els (up wa.heap.size H) eI 1 cs37 s34 ∧ f 5 = v35) | .rt x => x.elim) hq ⟨_, _, _, _, S28, (Inc.rfl _), els29, rfl, rfl, rfl⟩ ?_ ?_) ?_
  ·
    clear hp hq
    rintro i34 y33 s34 f43 w42 ⟨H39, v35, n36, cs37, S40, i41, els38, k44, k45, k46⟩ hx34 o93 hp
    refine FW.seq (FW.seq (FW.region ?_))
    refine FL.v (E.move k44) ?_
    refine FL.v (E.move k45) ?_
    refine FL.v (E.lenP te62 rfl p1) ?_
    refine FL.v (E.lssT rfl rfl (lss_len hx34)) ?_
    refine FL.nil ?_
    refine FW.condT rfl rfl ?_
    refine FW.skip (FW.seq (FW.block ?_))
    obtain ⟨x70, hx71, hp⟩ := bnd hp
    obtain ⟨xs76, hput77, hp⟩ := bnd hp
    refine FW.drawB (Sl H39) (fun f w => ∃ H : GH, ∃ v81 : Value, ∃ n82 : Nat, ∃ cs83 : List Value, St Ha wa H w [.row 3 1 v81 n82 cs83] ∧ Inc H39 H ∧ Els (up wa.heap.size H) eI 1 cs83 xs76 ∧ f 1 = v1 ∧ f 5 = v81 ∧ f 6 = Value.int .i64 ((i34 : Nat) : Int)) (by kernel_rfl) S40.sl ?_ ?_
    ·
      intro w48 r49
      have S50 := S40.call r49
      refine FB.t (i := 0) (bs 13 1) rfl (SP.nil S50.sl) rfl (fun w' hw' => (E.move k46)) ?_
      refine FB.t (i := 1) (bs 13 3) rfl (SP.nil S50.sl) rfl (fun w' hw' => (E.move k45)) ?_
      refine FB.t (i := 2) (bs 13 7) rfl (SP.nil S50.sl) rfl (fun w' hw' => (E.move k44)) ?_
      obtain ⟨p51, cs52, pt53, l54, at55, rel56⟩ := p1.at (ix_nat hx34)
      obtain rfl := eTerm_open rel56
      refine FB.t (i := 3) (bs 13 15) rfl (SP.nil S50.sl) rfl (fun w' hw' => (E.indexAddr te62 rfl rfl pt53)) ?_
      refine FB.t (i := 4) (bs 13 31) rfl (SP.nil S50.sl) rfl (fun w' hw' => (E.fieldAddr tf94_0 rfl)) ?_
      refine FB.t (i := 5) (bs 13 63) rfl (SP.nil S50.sl) rfl (fun w' hw' => (E.load rfl (run_load1 Try.isAgg3 ((at55.mono i41).now hw') rfl))) ?_
      refine FB.t (i := 6) (bs 13 127) rfl (SP.nil S50.sl) rfl (fun w' hw' => (E.move k45)) ?_
      refine FB.t (i := 7) (bs 13 255) rfl (SP.nil S50.sl) rfl (fun w' hw' => (E.move k44)) ?_
      obtain ⟨p57, cs58, pt59, l60, at61, rel63⟩ := p1.at (ix_nat hx34)
      obtain rfl := eTerm_open rel63
      refine FB.t (i := 8) (bs 13 511) rfl (SP.nil S50.sl) rfl (fun w' hw' => (E.indexAddr te62 rfl rfl pt59)) ?_
      refine FB.t (i := 9) (bs 13 1023) rfl (SP.nil S50.sl) rfl (fun w' hw' => (E.fieldAddr tf94_1 rfl)) ?_
      refine FB.t (i := 10) (bs 13 2047) rfl (SP.nil S50.sl) rfl (fun w' hw' => (E.load rfl (run_load1 Try.isAgg3 ((at61.mono i41).now hw') rfl))) ?_
      obtain ⟨p64, cs65, pt66, l67, at68, rel69, hall72⟩ := S50.row_atA (i := 0) rfl els38 (by decide) hx71
      obtain rfl := eI_open rel69
      refine FB.t (i := 11) (bs 13 4095) rfl (SP.nil S50.sl) rfl (fun w' hw' => (E.indexAddr te47 rfl rfl pt66)) ?_
      refine FB.all1 (i := 12) (by kernel_rfl) ?_
      ·
        obtain ⟨w73, cs79, run74, S75, els78, ce80⟩ := S50.putEls (P := Try.prog) (t := 3) (i := 0) rfl els38 hput77 pt66 Try.sizeOf3 (u := Value.int .i64 y33.coeff) (c := [Value.int .i64 y33.coeff]) rfl rfl (ones_cons rfl ones_nil) rfl
        have S75 : St Ha wa H39 w73 [.row 3 1 v35 n36 cs79] := S75
        refine FC.act (l' := (bs 13 8191)) rfl (by kernel_rfl) rfl rfl (E.store rfl rfl run74) ?_
        refine ⟨(SP.nil S75.sl), ?_⟩
        exact FB.done (by kernel_rfl) ⟨_, _, _, _, S75, (Inc.rfl _), els78, k45, k46, k44⟩
    ·
      rintro f89 w88 ⟨H85, v81, n82, cs83, S86, i87, els84, k90, k91, k92⟩
      refine FW.region ?_
      refine FL.v (E.move k92) ?_
      refine FL.v (E.add rfl rfl) ?_
      refine FL.v (E.assign (v := Value.int .i64 (wr (((i34 : Nat) : Int) + 1))) rfl) ?_
      refine FL.nil ?_
      obtain rfl := Option.some.inj hp
      exact ⟨rfl, ⟨_, _, _, _, S86, (i41.tr i87), els84, (nat_succ rfl (lt_of_get hx34) (p1.mono (i41.tr i87)).le), k90, k91⟩⟩
  ·
    clear hp hq
    rintro s34 f105 w104 ⟨H101, v35, n36, cs37, S102, i103, els38, k106, k107, k108⟩
    refine FW.seq (FW.seq (FW.region ?_))
    refine FL.v (E.move k106) ?_
    refine FL.v (E.move k107) ?_
    refine FL.v (E.lenP te62 rfl p1) ?_
    refine FL.v (E.lss rfl rfl) ?_
    refine FL.nil ?_
    refine FW.condF rfl dlt_len ?_
    refine FW.exit ?_
    exact ⟨nofun, rfl, ⟨_, _, _, _, S102, i103, els38, k108⟩⟩
  ·
    clear hq
    intro e f99 w98 hD
    rcases q34 with s34 | x34
    ·
      obtain ⟨rfl, hD⟩ := hD
      obtain ⟨H95, v35, n36, cs37, S96, i97, els38, k100⟩ := hD
      replace hp := el_go hp
      refine FW.seq (FW.region ?_)
      refine FL.v (E.move k100) ?_
      refine FL.v (E.assign (v := v35) rfl) ?_
      refine FL.nil ?_
      refine FW.ret ?_
      obtain rfl := Option.some.inj hp
      exact ⟨.inr rfl, res1 rfl rfl ⟨_, _, _, _, rfl, S96, els38⟩⟩
    · exact x34.elim

@[reducible] def p_spec_l19Products (Ha : GH) (wa : World) (r : (List l19Product)) : Ending → World → Prop :=
  fun e w' => ∃ H' : GH, ∃ v0 : Value, ∃ n0 : Nat, ∃ c0 : List Value, e = .returned (v0) ∧ St Ha wa H' w' [.row 80 3 v0 n0 c0] ∧ Els (up wa.heap.size H') el19Product 3 c0 r ∧ (bl c0).Nodup
set_option maxHeartbeats 4000000 in
theorem w_spec_l19Products {Ha : GH} {wa : World} (hs : Sl Ha wa) (a0 : Int) (a1 : Cnf) (v1_1 : Value) (p1_1 : RSl Ha (eL eI 1) 1 v1_1 a1.clauses) (a2 : Int) {r : (List l19Product)} (hp : (PF.spec_l19Products a0 a1 a2) = some r) :
    Calls Try.prog 56 #[Value.int .i64 a0, Value.agg #[Value.int .i64 a1.vars, v1_1], Value.int .i64 a2] wa (p_spec_l19Products Ha wa r) := by
  unfold PF.spec_l19Products at hp
  have S0 := St.init hs
  refine calls_go (N := 78) (args := [Value.int .i64 a0, Value.agg #[Value.int .i64 a1.vars, v1_1], Value.int .i64 a2]) Try.func56 rfl rfl rfl ?_
  refine FW.seq (FW.region ?_)
  obtain ⟨b21, w22, run23, S24⟩ := S0.box (P := Try.prog) 29 [Value.int .i64 a1.vars, v1_1] (v := Value.agg #[Value.int .i64 a1.vars, v1_1]) rfl (ones_cons rfl (ones_cons p1_1.one ones_nil))
  refine FL.v (E.box rfl run23) ?_
  obtain ⟨H25, S26, i27, at28⟩ := S24.sealBox (i := 0) (l' := []) rfl rfl
  refine FL.v (E.assign (v := Value.slice none 0 0) rfl) ?_
  refine FL.nil (FW.seq (FW.region ?_))
  obtain ⟨v29, w30, run31, S32⟩ := S26.buildSlice (P := Try.prog) te71 [] (parts := #[]) (cells := []) rfl szs_nil fc_nil ones_nil (Nat.le_of_ble_eq_true rfl)
  have els33 : Els (up wa.heap.size H25) el19Product 3 [] [] := Els.nil
  refine FL.v (E.buildSlice (B0) run31) ?_
  refine FL.v (E.assign (v := v29) rfl) ?_
  refine FL.nil (FW.seq (FW.seq (FW.region ?_)))
  refine FL.v (E.assign (v := Value.int .i64 0) rfl) ?_
  refine FL.nil ?_
  obtain ⟨q34, hq, hp⟩ := bndR hp
  refine FW.block ?_
  refine FW.mono (FW.iter (S := ((List l19Product) × Int)) (X := Empty) (fun (s34 : ((List l19Product) × Int)) f w => ∃ H : GH, ∃ v35 : Value, ∃ n36 : Nat, ∃ cs37 : List Value, St Ha wa H w [.row 80 3 v35 n36 cs37] ∧ Inc H25 H ∧ Els (up wa.heap.size H) el19Product 3 cs37 s34.1 ∧ (bl cs37).Nodup ∧ f 0 = Value.int .i64 a0 ∧ f 2 = Value.int .i64 a2 ∧ f 4 = Value.pointer (some ⟨b21, 0, none⟩) ∧ f 7 = v35 ∧ f 8 = Value.int .i64 s34.2) (fun (q : Rs ((List l19Product) × Int) Empty) e f w => match q with | .go s34 => e = Exit.exit 0 ∧ (∃ H : GH, ∃ v35 : Value, ∃ n36 : Nat, ∃ cs37 : List Value, St Ha wa H w [.row 80 3 v35 n36 cs37] ∧ Inc H25 H ∧ Els (up wa.heap.size H) el19Product 3 cs37 s34.1 ∧ (bl cs37).Nodup ∧ f 7 = v35) | .rt x => x.elim) hq ⟨_, _, _, _, S32, (Inc.rfl _), els33, (show (bl []).Nodup from List.nodup_nil), rfl, rfl, rfl, rfl, rfl⟩ ?_) ?_
  ·
    clear hp hq
    rintro s34 f44 w43 ⟨H40, v35, n36, cs37, S41, i42, els38, nd39, k45, k46, k48, k49, k50⟩ o279 hp
    refine FW.seq (FW.seq (FW.region ?_))
    refine FL.v (E.move k50) ?_
    refine FL.v (E.fieldAddr tf29_1 k48) ?_
    refine FL.v (E.load rfl (run_load1 Try.isAgg22 ((at28.mono i42).now S41.sl) rfl)) ?_
    refine FL.v (E.lenP te22 rfl p1_1) ?_
    refine FL.v (E.lss rfl rfl) ?_
    refine FL.nil ?_
    rcases ifB hp with ⟨c51, hp⟩ | ⟨c51, hp⟩
    ·
      refine FW.condT rfl c51 ?_
      refine FW.skip (FW.seq (FW.block (FW.seq (FW.seq (FW.region ?_)))))
      refine FL.v (E.fieldAddr tf29_1 k48) ?_
      refine FL.v (E.load rfl (run_load1 Try.isAgg22 ((at28.mono i42).now S41.sl) rfl)) ?_
      refine FL.v (E.move k50) ?_
      obtain ⟨x58, hx59, hp⟩ := bnd hp
      obtain ⟨p52, cs53, pt54, l55, at56, rel57⟩ := p1_1.at hx59
      obtain ⟨v60, rfl, h61⟩ := eL_open rel57
      refine FL.v (E.indexAddr te22 rfl rfl pt54) ?_
      refine FL.v (E.load rfl (run_load0 Try.isAgg47 ((at56.mono (i27.tr i42)).now S41.sl) rfl)) ?_
      refine FL.v (E.lenP te47 rfl h61) ?_
      refine FL.v (E.move k46) ?_
      refine FL.v (E.gtr rfl rfl) ?_
      refine FL.nil ?_
      rcases ifB hp with ⟨c63, hp⟩ | ⟨c63, hp⟩
      ·
        refine FW.condT rfl c63 ?_
        refine FW.exit ?_
        refine FW.region ?_
        refine FL.v (E.move k50) ?_
        refine FL.v (E.add rfl rfl) ?_
        refine FL.v (E.assign (v := Value.int .i64 (wr (s34.2 + 1))) rfl) ?_
        refine FL.nil ?_
        obtain rfl := Option.some.inj hp
        exact ⟨rfl, ⟨_, _, _, _, S41, i42, els38, nd39, k45, k46, k48, k49, rfl⟩⟩
      ·
        refine FW.condF rfl c63 ?_
        refine FW.skip (FW.seq ?_)
        obtain ⟨x74, hx75, hp⟩ := bnd hp
        obtain ⟨r78, hr79, hp⟩ := bnd hp
        refine FW.drawB (Sl H40) (fun f w => ∃ H : GH, ∃ v88 : Value, ∃ n89 : Nat, ∃ cs90 : List Value, St Ha wa H w [.row 80 3 v35 n36 cs37, .row 94 2 v88 n89 cs90] ∧ Inc H40 H ∧ Els (up wa.heap.size H) eTerm 2 cs90 r78 ∧ f 0 = Value.int .i64 a0 ∧ f 2 = Value.int .i64 a2 ∧ f 4 = Value.pointer (some ⟨b21, 0, none⟩) ∧ f 7 = v35 ∧ f 8 = Value.int .i64 s34.2 ∧ f 9 = v88) (by kernel_rfl) S41.sl ?_ ?_
        ·
          intro w64 r65
          have S66 := S41.call r65
          refine FB.t (i := 0) (bs 10 1) rfl (SP.nil S66.sl) rfl (fun w' hw' => (E.move k45)) ?_
          refine FB.t (i := 1) (bs 10 3) rfl (SP.nil S66.sl) rfl (fun w' hw' => (E.fieldAddr tf29_0 k48)) ?_
          refine FB.t (i := 2) (bs 10 7) rfl (SP.nil S66.sl) rfl (fun w' hw' => (E.load rfl (run_load1 Try.isAgg3 ((at28.mono i42).now hw') rfl))) ?_
          refine FB.t (i := 3) (bs 10 15) rfl (SP.nil S66.sl) rfl (fun w' hw' => (E.fieldAddr tf29_1 k48)) ?_
          refine FB.t (i := 4) (bs 10 31) rfl (SP.nil S66.sl) rfl (fun w' hw' => (E.load rfl (run_load1 Try.isAgg22 ((at28.mono i42).now hw') rfl))) ?_
          refine FB.t (i := 5) (bs 10 63) rfl (SP.nil S66.sl) rfl (fun w' hw' => (E.move k50)) ?_
          obtain ⟨p67, cs68, pt69, l70, at72, rel73⟩ := p1_1.at hx75
          obtain ⟨v76, rfl, h77⟩ := eL_open rel73
          refine FB.t (i := 6) (bs 10 127) rfl (SP.nil S66.sl) rfl (fun w' hw' => (E.indexAddr te22 rfl rfl pt69)) ?_
          refine FB.t (i := 7) (bs 10 255) rfl (SP.nil S66.sl) rfl (fun w' hw' => (E.load rfl (run_load0 Try.isAgg47 ((at72.mono (i27.tr i42)).now hw') rfl))) ?_
          refine FB.all1 (i := 8) (by kernel_rfl) ?_
          ·
            refine FC.call (l' := (bs 10 511)) rfl (by kernel_rfl) rfl rfl rfl (E.call Try.call68 (A3 rfl rfl rfl)) (w_spec_l18Clause S66.sl a0 a1.vars v76 x74 (h77.mono (i27.tr i42)) hr79) ?_
            rintro e w81 ⟨H80, v84, n85, cs86, rfl, r83, els87⟩
            refine ⟨_, rfl, ?_⟩
            have els87 := els87.mono (up_le S66.size)
            have S82 := S66.join (l' := [.row 94 2 v84 n85 cs86, .row 80 3 v35 n36 cs37]) r83 rfl
            refine ⟨(SP.nil (Sl.of_inc r83.run.inc S82.sl)), ?_⟩
            refine FB.t (i := 9) (bs 10 1023) rfl (SP.nil (Sl.of_inc r83.run.inc S82.sl)) rfl (fun w' hw' => (E.assign (v := v84) rfl)) ?_
            exact FB.done (by kernel_rfl) ⟨_, _, _, _, (S82.sel [1, 0] (by decide) rfl), r83.run.inc, els87, k45, k46, k48, k49, k50, rfl⟩
        ·
          rintro f96 w95 ⟨H92, v88, n89, cs90, S93, i94, els91, k97, k98, k99, k100, k101, k102⟩
          refine FW.seq ?_
          obtain ⟨x112, hx113, hp⟩ := bnd hp
          obtain ⟨r116, hr117, hp⟩ := bnd hp
          refine FW.drawB (Sl H92) (fun f w => ∃ H : GH, ∃ v126 : Value, ∃ n127 : Nat, ∃ cs128 : List Value, St Ha wa H w [.row 80 3 v35 n36 cs37, .row 94 2 v88 n89 cs90, .row 3 1 v126 n127 cs128] ∧ Inc H92 H ∧ Els (up wa.heap.size H) eI 1 cs128 r116 ∧ f 0 = Value.int .i64 a0 ∧ f 2 = Value.int .i64 a2 ∧ f 4 = Value.pointer (some ⟨b21, 0, none⟩) ∧ f 7 = v35 ∧ f 8 = Value.int .i64 s34.2 ∧ f 9 = v88 ∧ f 10 = v126) (by kernel_rfl) S93.sl ?_ ?_
          ·
            intro w103 r104
            have S105 := S93.call r104
            refine FB.t (i := 0) (bs 12 1) rfl (SP.nil S105.sl) rfl (fun w' hw' => (E.fieldAddr tf29_0 k99)) ?_
            refine FB.t (i := 1) (bs 12 3) rfl (SP.nil S105.sl) rfl (fun w' hw' => (E.load rfl (run_load1 Try.isAgg3 ((at28.mono (i42.tr i94)).now hw') rfl))) ?_
            refine FB.t (i := 2) (bs 12 7) rfl (SP.nil S105.sl) rfl (fun w' hw' => (E.move k98)) ?_
            refine FB.t (i := 3) (bs 12 15) rfl (SP.nil S105.sl) rfl (fun w' hw' => (E.fieldAddr tf29_1 k99)) ?_
            refine FB.t (i := 4) (bs 12 31) rfl (SP.nil S105.sl) rfl (fun w' hw' => (E.load rfl (run_load1 Try.isAgg22 ((at28.mono (i42.tr i94)).now hw') rfl))) ?_
            refine FB.t (i := 5) (bs 12 63) rfl (SP.nil S105.sl) rfl (fun w' hw' => (E.move k101)) ?_
            obtain ⟨p106, cs107, pt108, l109, at110, rel111⟩ := p1_1.at hx113
            obtain ⟨v114, rfl, h115⟩ := eL_open rel111
            refine FB.t (i := 6) (bs 12 127) rfl (SP.nil S105.sl) rfl (fun w' hw' => (E.indexAddr te22 rfl rfl pt108)) ?_
            refine FB.t (i := 7) (bs 12 255) rfl (SP.nil S105.sl) rfl (fun w' hw' => (E.load rfl (run_load0 Try.isAgg47 ((at110.mono ((i27.tr i42).tr i94)).now hw') rfl))) ?_
            refine FB.t (i := 8) (bs 12 511) rfl (SP.nil S105.sl) rfl (fun w' hw' => (E.lenP te47 rfl h115)) ?_
            refine FB.t (i := 9) (bs 12 1023) rfl (SP.nil S105.sl) rfl (fun w' hw' => (E.sub rfl rfl)) ?_
            refine FB.all1 (i := 10) (by kernel_rfl) ?_
            ·
              refine FC.call (l' := (bs 12 2047)) rfl (by kernel_rfl) rfl rfl rfl (E.call Try.call69 (A2 rfl rfl)) (w_spec_l18Graded S105.sl a1.vars (wr (a2 - (len x112))) hr117) ?_
              rintro e w119 ⟨H118, v122, n123, cs124, rfl, r121, els125⟩
              refine ⟨_, rfl, ?_⟩
              have els125 := els125.mono (up_le S105.size)
              have S120 := S105.join (l' := [.row 3 1 v122 n123 cs124, .row 80 3 v35 n36 cs37, .row 94 2 v88 n89 cs90]) r121 rfl
              refine ⟨(SP.nil (Sl.of_inc r121.run.inc S120.sl)), ?_⟩
              refine FB.t (i := 11) (bs 12 4095) rfl (SP.nil (Sl.of_inc r121.run.inc S120.sl)) rfl (fun w' hw' => (E.assign (v := v122) rfl)) ?_
              exact FB.done (by kernel_rfl) ⟨_, _, _, _, (S120.sel [1, 2, 0] (by decide) rfl), r121.run.inc, els125, k97, k98, k99, k100, k101, k102, rfl⟩
          ·
            rintro f134 w133 ⟨H130, v126, n127, cs128, S131, i132, els129, k135, k136, k137, k138, k139, k140, k141⟩
            refine FW.seq (FW.region ?_)
            refine FL.v (E.assign (v := Value.int .i64 0) rfl) ?_
            refine FL.nil ?_
            obtain ⟨q142, hq, hp⟩ := bndR hp
            refine FW.block ?_
            refine FW.mono (FW.iter (S := ((List l19Product) × Int)) (X := Empty) (fun (s142 : ((List l19Product) × Int)) f w => ∃ H : GH, ∃ v143 : Value, ∃ n144 : Nat, ∃ cs145 : List Value, St Ha wa H w [.row 80 3 v143 n144 cs145, .row 94 2 v88 n89 cs90, .row 3 1 v126 n127 cs128] ∧ Inc H130 H ∧ Els (up wa.heap.size H) el19Product 3 cs145 s142.1 ∧ (bl cs145).Nodup ∧ f 0 = Value.int .i64 a0 ∧ f 2 = Value.int .i64 a2 ∧ f 4 = Value.pointer (some ⟨b21, 0, none⟩) ∧ f 7 = v143 ∧ f 8 = Value.int .i64 s34.2 ∧ f 9 = v88 ∧ f 10 = v126 ∧ f 11 = Value.int .i64 s142.2) (fun (q : Rs ((List l19Product) × Int) Empty) e f w => match q with | .go s142 => e = Exit.exit 2 ∧ (∃ H : GH, ∃ v143 : Value, ∃ n144 : Nat, ∃ cs145 : List Value, St Ha wa H w [.row 80 3 v143 n144 cs145, .row 94 2 v88 n89 cs90, .row 3 1 v126 n127 cs128] ∧ Inc H130 H ∧ Els (up wa.heap.size H) el19Product 3 cs145 s142.1 ∧ (bl cs145).Nodup ∧ f 0 = Value.int .i64 a0 ∧ f 2 = Value.int .i64 a2 ∧ f 4 = Value.pointer (some ⟨b21, 0, none⟩) ∧ f 7 = v143 ∧ f 8 = Value.int .i64 s34.2) | .rt x => x.elim) hq ⟨_, _, _, _, S131, (Inc.rfl _), (els38.mono (up_mono (i94.tr i132))), nd39, k135, k136, k137, k138, k139, k140, k141, rfl⟩ ?_) ?_
            ·
              clear hp hq
              rintro s142 f152 w151 ⟨H148, v143, n144, cs145, S149, i150, els146, nd147, k153, k154, k155, k156, k157, k158, k159, k160⟩ o268 hp
              refine FW.seq (FW.seq (FW.region ?_))
              refine FL.v (E.move k160) ?_
              refine FL.v (E.move k159) ?_
              refine FL.v (E.lenO te47 rfl S149 (i := 2) rfl els129 (by decide)) ?_
              refine FL.v (E.lss rfl rfl) ?_
              refine FL.nil ?_
              rcases ifB hp with ⟨c161, hp⟩ | ⟨c161, hp⟩
              ·
                refine FW.condT rfl c161 ?_
                refine FW.skip (FW.seq (FW.block ?_))
                obtain ⟨x171, hx172, hp⟩ := bnd hp
                obtain ⟨x180, hx181, hp⟩ := bnd hp
                obtain ⟨r198, hr199, hp⟩ := bnd hp
                obtain ⟨r215, hr216, hp⟩ := bnd hp
                obtain ⟨xs238, hz239, hp⟩ := bnd hp
                refine FW.drawB (SX Ha wa H148 [.row 3 1 v126 n127 cs128]) (fun f w => ∃ H : GH, ∃ v250 : Value, ∃ n251 : Nat, ∃ cs252 : List Value, St Ha wa H w [.row 80 3 v250 n251 cs252, .row 94 2 v88 n89 cs90, .row 3 1 v126 n127 cs128] ∧ Inc H148 H ∧ Els (up wa.heap.size H) el19Product 3 cs252 xs238 ∧ (bl cs252).Nodup ∧ f 0 = Value.int .i64 a0 ∧ f 2 = Value.int .i64 a2 ∧ f 4 = Value.pointer (some ⟨b21, 0, none⟩) ∧ f 7 = v250 ∧ f 8 = Value.int .i64 s34.2 ∧ f 9 = v88 ∧ f 10 = v126 ∧ f 11 = Value.int .i64 s142.2) (by kernel_rfl) S149.sl ?_ ?_
                ·
                  intro w162 r163
                  have S164 := S149.call r163
                  refine FB.t (i := 0) (bs 24 1) rfl (SP.nil ⟨_, (S164.sel [2] (by decide) rfl), (Inc.rfl _)⟩) rfl (fun w' hw' => (E.move k156)) ?_
                  refine FB.t (i := 1) (bs 24 3) rfl (SP.nil ⟨_, (S164.sel [2] (by decide) rfl), (Inc.rfl _)⟩) rfl (fun w' hw' => (E.move k157)) ?_
                  refine FB.t (i := 2) (bs 24 7) rfl (SP.nil ⟨_, (S164.sel [2] (by decide) rfl), (Inc.rfl _)⟩) rfl (fun w' hw' => (E.move k159)) ?_
                  refine FB.t (i := 3) (bs 24 15) rfl (SP.nil ⟨_, (S164.sel [2] (by decide) rfl), (Inc.rfl _)⟩) rfl (fun w' hw' => (E.move k160)) ?_
                  obtain ⟨p165, cs166, pt167, l168, at169, rel170, hall173⟩ := S164.row_atA (i := 2) rfl els129 (by decide) hx172
                  obtain rfl := eI_open rel170
                  refine FB.t (i := 4) (bs 24 31) rfl (SP.nil ⟨_, (S164.sel [2] (by decide) rfl), (Inc.rfl _)⟩) rfl (fun w' hw' => (E.indexAddr te47 rfl rfl pt167)) ?_
                  refine FB.t (i := 5) (bs 24 63) rfl (SP.nil ⟨_, (S164.sel [2] (by decide) rfl), (Inc.rfl _)⟩) rfl (fun w' hw' => (E.load rfl (run_load0 Try.isAgg3 (hw'.use fun _ st => hall173 _ _ _ 0 st rfl) rfl))) ?_
                  refine FB.t (i := 6) (bs 24 127) rfl (SP.nil ⟨_, (S164.sel [2] (by decide) rfl), (Inc.rfl _)⟩) rfl (fun w' hw' => (E.fieldAddr tf29_0 k155)) ?_
                  refine FB.t (i := 7) (bs 24 255) rfl (SP.nil ⟨_, (S164.sel [2] (by decide) rfl), (Inc.rfl _)⟩) rfl (fun w' hw' => (E.load rfl (run_load1 Try.isAgg3 ((at28.mono (((i42.tr i94).tr i132).tr i150)).now hw'.sl) rfl))) ?_
                  refine FB.t (i := 8) (bs 24 511) rfl (SP.nil ⟨_, (S164.sel [2] (by decide) rfl), (Inc.rfl _)⟩) rfl (fun w' hw' => (E.move k153)) ?_
                  refine FB.t (i := 9) (bs 24 1023) rfl (SP.nil ⟨_, (S164.sel [2] (by decide) rfl), (Inc.rfl _)⟩) rfl (fun w' hw' => (E.fieldAddr tf29_0 k155)) ?_
                  refine FB.t (i := 10) (bs 24 2047) rfl (SP.nil ⟨_, (S164.sel [2] (by decide) rfl), (Inc.rfl _)⟩) rfl (fun w' hw' => (E.load rfl (run_load1 Try.isAgg3 ((at28.mono (((i42.tr i94).tr i132).tr i150)).now hw'.sl) rfl))) ?_
                  refine FB.t (i := 11) (bs 24 4095) rfl (SP.nil ⟨_, (S164.sel [2] (by decide) rfl), (Inc.rfl _)⟩) rfl (fun w' hw' => (E.move k158)) ?_
                  refine FB.t (i := 12) (bs 24 8191) rfl (SP.nil ⟨_, (S164.sel [2] (by decide) rfl), (Inc.rfl _)⟩) rfl (fun w' hw' => (E.move k159)) ?_
                  refine FB.t (i := 13) (bs 24 16383) rfl (SP.nil ⟨_, (S164.sel [2] (by decide) rfl), (Inc.rfl _)⟩) rfl (fun w' hw' => (E.move k160)) ?_
                  obtain ⟨p174, cs175, pt176, l177, at178, rel179, hall182⟩ := S164.row_atA (i := 2) rfl els129 (by decide) hx181
                  obtain rfl := eI_open rel179
                  refine FB.t (i := 14) (bs 24 32767) rfl (SP.nil ⟨_, (S164.sel [2] (by decide) rfl), (Inc.rfl _)⟩) rfl (fun w' hw' => (E.indexAddr te47 rfl rfl pt176)) ?_
                  refine FB.t (i := 15) (bs 24 65535) rfl (SP.nil ⟨_, (S164.sel [2] (by decide) rfl), (Inc.rfl _)⟩) rfl (fun w' hw' => (E.load rfl (run_load0 Try.isAgg3 (hw'.use fun _ st => hall182 _ _ _ 0 st rfl) rfl))) ?_
                  refine FB.t (i := 16) (bs 24 131071) rfl (SP.nil ⟨_, (S164.sel [2] (by decide) rfl), (Inc.rfl _)⟩) rfl (fun w' hw' => (E.build (B2 rfl rfl) (run_build _ 94 #[(0, Value.int .i64 x180), (1, Value.int .i64 1)] #[Value.int .i64 x180, Value.int .i64 1] (by rfl)))) ?_
                  refine FB.all1 (i := 17) (by kernel_rfl) ?_
                  ·
                    obtain ⟨v183, w184, run185, S186⟩ := S164.buildSlice (P := Try.prog) te62 [Value.agg #[Value.int .i64 x180, Value.int .i64 1]] (parts := #[(0, Value.agg #[Value.int .i64 x180, Value.int .i64 1])]) (cells := [Value.int .i64 x180, Value.int .i64 1]) rfl (szs_cons rfl szs_nil) (fc_cons rfl fc_nil) (ones_cons rfl (ones_cons rfl ones_nil)) (Nat.le_of_ble_eq_true rfl)
                    have els187 : Els (up wa.heap.size H148) eTerm 2 [Value.int .i64 x180, Value.int .i64 1] [(Term.mk x180 1)] := (Els.snoc (H := (up wa.heap.size H148)) (E := eTerm) (k := 2) (c := [Value.int .i64 x180, Value.int .i64 1]) (x := (Term.mk x180 1)) Els.nil rfl rfl)
                    refine FC.val (l' := (bs 24 262143)) rfl (by kernel_rfl) rfl rfl rfl (E.buildSlice (B1 rfl) run185) ?_
                    refine ⟨(SP.nil ⟨_, (S186.sel [3] (by decide) rfl), (Inc.rfl _)⟩), ?_⟩
                    refine FB.all1 (i := 18) (by kernel_rfl) ?_
                    ·
                      obtain ⟨H188, S189, i190, h191, nv192⟩ := S186.sealRowU (i := 2) (l' := [.row 94 2 v183 1 [Value.int .i64 x180, Value.int .i64 1], .row 80 3 v143 n144 cs145, .row 3 1 v126 n127 cs128]) rfl (els91.mono (up_mono (i132.tr i150))) (by decide) rfl
                      obtain ⟨H193, S194, i195, h196, nv197⟩ := S189.sealRowU (i := 0) (l' := [.row 80 3 v143 n144 cs145, .row 3 1 v126 n127 cs128]) rfl (els187.mono (up_mono i190)) (by decide) rfl
                      refine FC.call (l' := (bs 24 524287)) rfl (by kernel_rfl) rfl rfl rfl (E.call Try.call71 (A4 rfl rfl rfl rfl)) (w_spec_l18Mul S194.sl a0 a1.vars v88 r78 (h191.mono (upI.tr i195)) v183 [(Term.mk x180 1)] (h196.mono upI) hr199) ?_
                      rintro e w201 ⟨H200, v206, n207, cs208, rfl, r203, els209⟩
                      refine ⟨_, rfl, ?_⟩
                      obtain ⟨H204, r203, hU205⟩ := St.lendX (i190.tr i195) S186.sl r203
                      have els209 := els209.mono (hU205.tr (up_le S186.size))
                      have S202 := S186.join (l' := [.row 94 2 v206 n207 cs208, .row 94 2 v183 1 [Value.int .i64 x180, Value.int .i64 1], .row 80 3 v143 n144 cs145, .row 94 2 v88 n89 cs90, .row 3 1 v126 n127 cs128]) r203 rfl
                      refine ⟨(SP.nil ⟨_, (S202.sel [4] (by decide) rfl), r203.run.inc⟩), ?_⟩
                      refine FB.all1 (i := 19) (by kernel_rfl) ?_
                      ·
                        obtain ⟨H210, S211, i212, h213, nv214⟩ := S202.sealRowU (i := 0) (l' := [.row 94 2 v183 1 [Value.int .i64 x180, Value.int .i64 1], .row 80 3 v143 n144 cs145, .row 94 2 v88 n89 cs90, .row 3 1 v126 n127 cs128]) rfl els209 (by decide) rfl
                        refine FC.call (l' := (bs 24 1048575)) rfl (by kernel_rfl) rfl rfl rfl (E.call Try.call70 (A2 rfl rfl)) (w_spec_l18Dense S211.sl a1.vars v206 r198 (h213.mono upI) hr216) ?_
                        rintro e w218 ⟨H217, v223, n224, cs225, rfl, r220, els226⟩
                        refine ⟨_, rfl, ?_⟩
                        obtain ⟨H221, r220, hU222⟩ := St.lendX i212 S202.sl r220
                        have els226 := els226.mono (hU222.tr (up_le S202.size))
                        have S219 := S202.join (l' := [.row 3 1 v223 n224 cs225, .row 94 2 v206 n207 cs208, .row 94 2 v183 1 [Value.int .i64 x180, Value.int .i64 1], .row 80 3 v143 n144 cs145, .row 94 2 v88 n89 cs90, .row 3 1 v126 n127 cs128]) r220 rfl
                        refine ⟨(SP.nil ⟨_, (S219.sel [5] (by decide) rfl), (r203.run.inc.tr r220.run.inc)⟩), ?_⟩
                        obtain ⟨H227, S228, i229, h230, nv231⟩ := S219.sealRowU (i := 0) (l' := [.row 94 2 v206 n207 cs208, .row 94 2 v183 1 [Value.int .i64 x180, Value.int .i64 1], .row 80 3 v143 n144 cs145, .row 94 2 v88 n89 cs90, .row 3 1 v126 n127 cs128]) rfl els226 (by decide) rfl
                        refine FB.t (i := 20) (bs 24 2097151) rfl (SP.nil ⟨_, (S219.sel [5] (by decide) rfl), (r203.run.inc.tr r220.run.inc)⟩) rfl (fun w' hw' => (E.build (B3 rfl rfl rfl) (run_build _ 80 #[(0, Value.int .i64 s34.2), (1, Value.int .i64 x171), (2, v223)] #[Value.int .i64 s34.2, Value.int .i64 x171, v223] (by obtain ⟨_, _, rfl⟩ := RSl.ln (h230.mono upI); rfl)))) ?_
                        refine FB.all1 (i := 21) (by kernel_rfl) ?_
                        ·
                          obtain ⟨v232, w233, run234, S235⟩ := S228.buildSlice (P := Try.prog) te71 [Value.agg #[Value.int .i64 s34.2, Value.int .i64 x171, v223]] (parts := #[(0, Value.agg #[Value.int .i64 s34.2, Value.int .i64 x171, v223])]) (cells := [Value.int .i64 s34.2, Value.int .i64 x171, v223]) rfl (szs_cons rfl szs_nil) (fc_cons rfl fc_nil) (ones_cons rfl (ones_cons rfl (ones_cons h230.one ones_nil))) (Nat.le_of_ble_eq_true rfl)
                          have els236 : Els (up wa.heap.size H227) el19Product 3 [Value.int .i64 s34.2, Value.int .i64 x171, v223] [(l19Product.mk s34.2 x171 r215)] := (Els.snoc (H := (up wa.heap.size H227)) (E := el19Product) (k := 3) (c := [Value.int .i64 s34.2, Value.int .i64 x171, v223]) (x := (l19Product.mk s34.2 x171 r215)) Els.nil rfl ⟨_, rfl, h230⟩)
                          have nd237 : (bl [Value.int .i64 s34.2, Value.int .i64 x171, v223]).Nodup := by exact nd_one v223
                          refine FC.val (l' := (bs 24 4194303)) rfl (by kernel_rfl) rfl rfl rfl (E.buildSlice (B1 rfl) run234) ?_
                          refine ⟨(SP.nil ⟨_, (S235.sel [5] (by decide) rfl), ((r203.run.inc.tr r220.run.inc).tr i229)⟩), ?_⟩
                          refine FB.all1 (i := 22) (by kernel_rfl) ?_
                          ·
                            obtain ⟨v240, w243, n241, cs242, run244, S245, els246, ce247⟩ := S235.appendO (P := Try.prog) te71 (i := 3) (j := 0) rfl (els146.mono (up_mono ((r203.run.inc.tr r220.run.inc).tr i229))) rfl els236 hz239
                            have S245 : St Ha wa H227 w243 [.row 80 3 v232 1 [Value.int .i64 s34.2, Value.int .i64 x171, v223], .row 94 2 v206 n207 cs208, .row 94 2 v183 1 [Value.int .i64 x180, Value.int .i64 1], .row 80 3 v240 n241 cs242, .row 94 2 v88 n89 cs90, .row 3 1 v126 n127 cs128] := S245
                            have nd248 : (bl cs242).Nodup := by rw [ce247]; exact nd_app nd147 nd237 (Els.dom (els146.mono (upI.tr (r203.run.inc.tr r220.run.inc)))) (by exact nv231)
                            have S249 : St Ha wa H227 w243 [.row 94 2 v206 n207 cs208, .row 94 2 v183 1 [Value.int .i64 x180, Value.int .i64 1], .row 80 3 v240 n241 cs242, .row 94 2 v88 n89 cs90, .row 3 1 v126 n127 cs128] := S245.drop 0
                            refine FC.val (l' := (bs 24 8388607)) rfl (by kernel_rfl) rfl rfl rfl (E.append rfl rfl run244) ?_
                            refine ⟨(SP.nil ⟨_, (S249.sel [4] (by decide) rfl), ((r203.run.inc.tr r220.run.inc).tr i229)⟩), ?_⟩
                            refine FB.t (i := 23) (bs 24 16777215) rfl (SP.nil ⟨_, (S249.sel [4] (by decide) rfl), ((r203.run.inc.tr r220.run.inc).tr i229)⟩) rfl (fun w' hw' => (E.assign (v := v240) rfl)) ?_
                            exact FB.done (by kernel_rfl) ⟨_, _, _, _, (S249.sel [2, 3, 4] (by decide) rfl), ((r203.run.inc.tr r220.run.inc).tr i229), els246, nd248, k153, k154, k155, rfl, k157, k158, k159, k160⟩
                ·
                  rintro f259 w258 ⟨H255, v250, n251, cs252, S256, i257, els253, nd254, k260, k261, k262, k263, k264, k265, k266, k267⟩
                  refine FW.region ?_
                  refine FL.v (E.move k267) ?_
                  refine FL.v (E.add rfl rfl) ?_
                  refine FL.v (E.assign (v := Value.int .i64 (wr (s142.2 + 1))) rfl) ?_
                  refine FL.nil ?_
                  obtain rfl := Option.some.inj hp
                  exact ⟨rfl, ⟨_, _, _, _, S256, (i150.tr i257), els253, nd254, k260, k261, k262, k263, k264, k265, k266, rfl⟩⟩
              ·
                refine FW.condF rfl c161 ?_
                refine FW.exit ?_
                obtain rfl := Option.some.inj hp
                exact ⟨nofun, rfl, ⟨_, _, _, _, S149, i150, els146, nd147, k153, k154, k155, k156, k157⟩⟩
            ·
              clear hq
              intro e f273 w272 hD
              rcases q142 with s142 | x142
              ·
                obtain ⟨rfl, hD⟩ := hD
                obtain ⟨H269, v143, n144, cs145, S270, i271, els146, nd147, k274, k275, k276, k277, k278⟩ := hD
                replace hp := el_go hp
                refine FW.region ?_
                refine FL.v (E.move k278) ?_
                refine FL.v (E.add rfl rfl) ?_
                refine FL.v (E.assign (v := Value.int .i64 (wr (s34.2 + 1))) rfl) ?_
                refine FL.nil ?_
                obtain rfl := Option.some.inj hp
                exact ⟨rfl, ⟨_, _, _, _, (S270.sel [0] (by decide) rfl), (((i42.tr i94).tr i132).tr i271), els146, nd147, k274, k275, k276, k277, rfl⟩⟩
              · exact x142.elim
    ·
      refine FW.condF rfl c51 ?_
      refine FW.exit ?_
      obtain rfl := Option.some.inj hp
      exact ⟨nofun, rfl, ⟨_, _, _, _, S41, i42, els38, nd39, k49⟩⟩
  ·
    clear hq
    intro e f284 w283 hD
    rcases q34 with s34 | x34
    ·
      obtain ⟨rfl, hD⟩ := hD
      obtain ⟨H280, v35, n36, cs37, S281, i282, els38, nd39, k285⟩ := hD
      replace hp := el_go hp
      refine FW.seq (FW.region ?_)
      refine FL.v (E.move k285) ?_
      refine FL.v (E.assign (v := v35) rfl) ?_
      refine FL.nil ?_
      refine FW.ret ?_
      obtain rfl := Option.some.inj hp
      exact ⟨.inr rfl, res1 rfl rfl ⟨_, _, _, _, rfl, S281, els38, nd39⟩⟩
    · exact x34.elim

@[reducible] def p_spec_l19Reduce (Ha : GH) (wa : World) (r : ((List Int) × (List Int))) : Ending → World → Prop :=
  fun e w' => ∃ H' : GH, ∃ v0 : Value, ∃ n0 : Nat, ∃ c0 : List Value, ∃ v1 : Value, ∃ n1 : Nat, ∃ c1 : List Value, e = .returned (Value.tuple #[v0, v1]) ∧ St Ha wa H' w' [.row 3 1 v0 n0 c0, .row 3 1 v1 n1 c1] ∧ Els (up wa.heap.size H') eI 1 c0 r.1 ∧ Els (up wa.heap.size H') eI 1 c1 r.2
set_option maxHeartbeats 4000000 in
theorem w_spec_l19Reduce {Ha : GH} {wa : World} (hs : Sl Ha wa) (a0 : Int) (a1 : l19Base) (v1_0 : Value) (p1_0 : RSl Ha (eL eI 1) 1 v1_0 a1.rows) (v1_1 : Value) (p1_1 : RSl Ha eI 1 v1_1 a1.leads) (v1_2 : Value) (p1_2 : RSl Ha (eL eI 1) 1 v1_2 a1.made) (v1_3 : Value) (p1_3 : RSl Ha el19Product 3 v1_3 a1.kept) (v2 : Value) (a2 : List Int) (p2 : RSl Ha eI 1 v2 a2) {r : ((List Int) × (List Int))} (hp : (PF.spec_l19Reduce a0 a1 a2) = some r) :
    Calls Try.prog 37 #[Value.int .i64 a0, Value.agg #[v1_0, v1_1, v1_2, v1_3], v2] wa (p_spec_l19Reduce Ha wa r) := by
  unfold PF.spec_l19Reduce at hp
  have S0 := St.init hs
  refine calls_go (N := 104) (args := [Value.int .i64 a0, Value.agg #[v1_0, v1_1, v1_2, v1_3], v2]) Try.func37 rfl rfl rfl ?_
  refine FW.seq (FW.region ?_)
  obtain ⟨b21, w22, run23, S24⟩ := S0.box (P := Try.prog) 73 [v1_0, v1_1, v1_2, v1_3] (v := Value.agg #[v1_0, v1_1, v1_2, v1_3]) rfl (ones_cons p1_0.one (ones_cons p1_1.one (ones_cons p1_2.one (ones_cons p1_3.one ones_nil))))
  refine FL.v (E.box rfl run23) ?_
  obtain ⟨H25, S26, i27, at28⟩ := S24.sealBox (i := 0) (l' := []) rfl rfl
  refine FL.v (E.assign (v := Value.slice none 0 0) rfl) ?_
  refine FL.v (E.assign (v := Value.slice none 0 0) rfl) ?_
  refine FL.nil (FW.seq ?_)
  obtain ⟨xs37, hz38, hp⟩ := bnd hp
  obtain ⟨xs46, hm48, hp⟩ := bnd hp
  refine FW.drawB (Sl H25) (fun f w => ∃ H : GH, ∃ v57 : Value, ∃ n58 : Nat, ∃ cs59 : List Value, ∃ v61 : Value, ∃ n62 : Nat, ∃ cs63 : List Value, St Ha wa H w [.row 3 1 v57 n58 cs59, .row 3 1 v61 n62 cs63] ∧ Inc H25 H ∧ Els (up wa.heap.size H) eI 1 cs59 xs37 ∧ Els (up wa.heap.size H) eI 1 cs63 xs46 ∧ f 0 = Value.int .i64 a0 ∧ f 4 = Value.pointer (some ⟨b21, 0, none⟩) ∧ f 8 = v57 ∧ f 9 = v61) (by kernel_rfl) S26.sl ?_ ?_
  ·
    intro w29 r30
    have S31 := S26.call r30
    refine FB.t (i := 1) (bs 9 2) rfl (SP.nil S31.sl) rfl (fun w' hw' => (E.move (v := v2) rfl)) ?_
    refine FB.t (i := 3) (bs 9 10) rfl (SP.nil S31.sl) rfl (fun w' hw' => (E.fieldAddr tf73_3 rfl)) ?_
    refine FB.t (i := 4) (bs 9 26) rfl (SP.nil S31.sl) rfl (fun w' hw' => (E.load rfl (run_load1 Try.isAgg71 (at28.now hw') rfl))) ?_
    refine FB.t (i := 5) (bs 9 58) rfl (SP.nil S31.sl) rfl (fun w' hw' => (E.lenP te71 rfl p1_3)) ?_
    refine FB.all2 (i := 0) (j := 6) (by kernel_rfl) ?_ ?_
    ·
      obtain ⟨v32, w33, run34, S35⟩ := S31.buildSlice (P := Try.prog) te47 [] (parts := #[]) (cells := []) rfl szs_nil fc_nil ones_nil (Nat.le_of_ble_eq_true rfl)
      have els36 : Els (up wa.heap.size H25) eI 1 [] [] := Els.nil
      refine FC.val (l' := (bs 9 59)) rfl (by kernel_rfl) rfl rfl rfl (E.buildSlice (B0) run34) ?_
      refine ⟨(SP.nil S35.sl), ?_⟩
      refine FB.all2 (i := 2) (j := 6) (by kernel_rfl) ?_ ?_
      ·
        obtain ⟨v39, w42, n40, cs41, run43, S44, els45⟩ := S35.appendP (P := Try.prog) (Inc.rfl _) te47 (i := 0) rfl (els36.mono upI) (p2.mono i27) hz38
        have S44 : St Ha wa H25 w42 [.row 3 1 v39 n40 cs41] := S44
        have els45 : Els (up wa.heap.size H25) eI 1 cs41 xs37 := els45.any (fun _ _ _ _ h => h)
        refine FC.val (l' := (bs 9 63)) rfl (by kernel_rfl) rfl rfl rfl (E.append rfl rfl run43) ?_
        refine ⟨(SP.nil S44.sl), ?_⟩
        refine FB.t (i := 7) (bs 9 191) rfl (SP.nil S44.sl) rfl (fun w' hw' => (E.assign (v := v39) rfl)) ?_
        refine FB.all1 (i := 6) (by kernel_rfl) ?_
        ·
          obtain ⟨v49, w50, n54, cs55, run51, S52, els53, hbl56⟩ := S44.makeEls (P := Try.prog) te47 (G := (up wa.heap.size H25)) (En := eI) (x0 := (0 : Int)) hm48 rfl (ones_cons rfl ones_nil) .i64 .i64
          refine FC.val (l' := (bs 9 255)) rfl (by kernel_rfl) rfl rfl rfl (E.makeSlice rfl rfl run51) ?_
          refine ⟨(SP.nil S52.sl), ?_⟩
          refine FB.t (i := 8) (bs 9 511) rfl (SP.nil S52.sl) rfl (fun w' hw' => (E.assign (v := v49) rfl)) ?_
          exact FB.done (by kernel_rfl) ⟨_, _, _, _, _, _, _, (S52.sel [1, 0] (by decide) rfl), (Inc.rfl _), els45, els53, rfl, rfl, rfl, rfl⟩
      ·
        obtain ⟨v49, w50, n54, cs55, run51, S52, els53, hbl56⟩ := S35.makeEls (P := Try.prog) te47 (G := (up wa.heap.size H25)) (En := eI) (x0 := (0 : Int)) hm48 rfl (ones_cons rfl ones_nil) .i64 .i64
        refine FC.val (l' := (bs 9 123)) rfl (by kernel_rfl) rfl rfl rfl (E.makeSlice rfl rfl run51) ?_
        refine ⟨(SP.nil S52.sl), ?_⟩
        refine FB.all1 (i := 2) (by kernel_rfl) ?_
        ·
          obtain ⟨v39, w42, n40, cs41, run43, S44, els45⟩ := S52.appendP (P := Try.prog) (Inc.rfl _) te47 (i := 1) rfl (els36.mono upI) (p2.mono i27) hz38
          have S44 : St Ha wa H25 w42 [.row 3 1 v49 n54 cs55, .row 3 1 v39 n40 cs41] := S44
          have els45 : Els (up wa.heap.size H25) eI 1 cs41 xs37 := els45.any (fun _ _ _ _ h => h)
          refine FC.val (l' := (bs 9 127)) rfl (by kernel_rfl) rfl rfl rfl (E.append rfl rfl run43) ?_
          refine ⟨(SP.nil S44.sl), ?_⟩
          refine FB.t (i := 7) (bs 9 255) rfl (SP.nil S44.sl) rfl (fun w' hw' => (E.assign (v := v39) rfl)) ?_
          refine FB.t (i := 8) (bs 9 511) rfl (SP.nil S44.sl) rfl (fun w' hw' => (E.assign (v := v49) rfl)) ?_
          exact FB.done (by kernel_rfl) ⟨_, _, _, _, _, _, _, (S44.sel [1, 0] (by decide) rfl), (Inc.rfl _), els45, els53, rfl, rfl, rfl, rfl⟩
    ·
      obtain ⟨v49, w50, n54, cs55, run51, S52, els53, hbl56⟩ := S31.makeEls (P := Try.prog) te47 (G := (up wa.heap.size H25)) (En := eI) (x0 := (0 : Int)) hm48 rfl (ones_cons rfl ones_nil) .i64 .i64
      refine FC.val (l' := (bs 9 122)) rfl (by kernel_rfl) rfl rfl rfl (E.makeSlice rfl rfl run51) ?_
      refine ⟨(SP.nil S52.sl), ?_⟩
      refine FB.all1 (i := 0) (by kernel_rfl) ?_
      ·
        obtain ⟨v32, w33, run34, S35⟩ := S52.buildSlice (P := Try.prog) te47 [] (parts := #[]) (cells := []) rfl szs_nil fc_nil ones_nil (Nat.le_of_ble_eq_true rfl)
        have els36 : Els (up wa.heap.size H25) eI 1 [] [] := Els.nil
        refine FC.val (l' := (bs 9 123)) rfl (by kernel_rfl) rfl rfl rfl (E.buildSlice (B0) run34) ?_
        refine ⟨(SP.nil S35.sl), ?_⟩
        refine FB.all1 (i := 2) (by kernel_rfl) ?_
        ·
          obtain ⟨v39, w42, n40, cs41, run43, S44, els45⟩ := S35.appendP (P := Try.prog) (Inc.rfl _) te47 (i := 0) rfl (els36.mono upI) (p2.mono i27) hz38
          have S44 : St Ha wa H25 w42 [.row 3 1 v39 n40 cs41, .row 3 1 v49 n54 cs55] := S44
          have els45 : Els (up wa.heap.size H25) eI 1 cs41 xs37 := els45.any (fun _ _ _ _ h => h)
          refine FC.val (l' := (bs 9 127)) rfl (by kernel_rfl) rfl rfl rfl (E.append rfl rfl run43) ?_
          refine ⟨(SP.nil S44.sl), ?_⟩
          refine FB.t (i := 7) (bs 9 255) rfl (SP.nil S44.sl) rfl (fun w' hw' => (E.assign (v := v39) rfl)) ?_
          refine FB.t (i := 8) (bs 9 511) rfl (SP.nil S44.sl) rfl (fun w' hw' => (E.assign (v := v49) rfl)) ?_
          exact FB.done (by kernel_rfl) ⟨_, _, _, _, _, _, _, S44, (Inc.rfl _), els45, els53, rfl, rfl, rfl, rfl⟩
  ·
    rintro f69 w68 ⟨H65, v57, n58, cs59, v61, n62, cs63, S66, i67, els60, els64, k70, k72, k74, k75⟩
    refine FW.seq (FW.seq (FW.region ?_))
    refine FL.v (E.assign (v := Value.int .i64 0) rfl) ?_
    refine FL.nil ?_
    obtain ⟨q76, hq, hp⟩ := bndR hp
    refine FW.block ?_
    refine FW.mono (FW.iter (S := ((List Int) × (List Int) × Int)) (X := Empty) (fun (s76 : ((List Int) × (List Int) × Int)) f w => ∃ H : GH, ∃ v77 : Value, ∃ n78 : Nat, ∃ cs79 : List Value, ∃ v81 : Value, ∃ n82 : Nat, ∃ cs83 : List Value, St Ha wa H w [.row 3 1 v77 n78 cs79, .row 3 1 v81 n82 cs83] ∧ Inc H65 H ∧ Els (up wa.heap.size H) eI 1 cs79 s76.1 ∧ Els (up wa.heap.size H) eI 1 cs83 s76.2.1 ∧ f 0 = Value.int .i64 a0 ∧ f 4 = Value.pointer (some ⟨b21, 0, none⟩) ∧ f 8 = v77 ∧ f 9 = v81 ∧ f 10 = Value.int .i64 s76.2.2) (fun (q : Rs ((List Int) × (List Int) × Int) Empty) e f w => match q with | .go s76 => e = Exit.exit 0 ∧ (∃ H : GH, ∃ v77 : Value, ∃ n78 : Nat, ∃ cs79 : List Value, ∃ v81 : Value, ∃ n82 : Nat, ∃ cs83 : List Value, St Ha wa H w [.row 3 1 v77 n78 cs79, .row 3 1 v81 n82 cs83] ∧ Inc H65 H ∧ Els (up wa.heap.size H) eI 1 cs79 s76.1 ∧ Els (up wa.heap.size H) eI 1 cs83 s76.2.1 ∧ f 8 = v77 ∧ f 9 = v81) | .rt x => x.elim) hq ⟨_, _, _, _, _, _, _, S66, (Inc.rfl _), els60, els64, k70, k72, k74, k75, rfl⟩ ?_) ?_
    ·
      clear hp hq
      rintro s76 f89 w88 ⟨H85, v77, n78, cs79, v81, n82, cs83, S86, i87, els80, els84, k90, k91, k92, k93, k94⟩ o339 hp
      refine FW.seq (FW.seq (FW.region ?_))
      refine FL.v (E.move k94) ?_
      refine FL.v (E.fieldAddr tf73_0 k91) ?_
      refine FL.v (E.load rfl (run_load1 Try.isAgg22 ((at28.mono (i67.tr i87)).now S86.sl) rfl)) ?_
      refine FL.v (E.lenP te22 rfl p1_0) ?_
      refine FL.v (E.lss rfl rfl) ?_
      refine FL.nil ?_
      rcases ifB hp with ⟨c95, hp⟩ | ⟨c95, hp⟩
      ·
        refine FW.condT rfl c95 ?_
        refine FW.skip (FW.seq (FW.block (FW.seq (FW.region ?_))))
        refine FL.v (E.move k92) ?_
        refine FL.v (E.fieldAddr tf73_1 k91) ?_
        refine FL.v (E.load rfl (run_load1 Try.isAgg47 ((at28.mono (i67.tr i87)).now S86.sl) rfl)) ?_
        refine FL.v (E.move k94) ?_
        obtain ⟨x102, hx103, hp⟩ := bnd hp
        obtain ⟨p96, cs97, pt98, l99, at100, rel101⟩ := p1_1.at hx103
        obtain rfl := eI_open rel101
        refine FL.v (E.indexAddr te47 rfl rfl pt98) ?_
        refine FL.v (E.load rfl (run_load0 Try.isAgg3 ((at100.mono ((i27.tr i67).tr i87)).now S86.sl) rfl)) ?_
        obtain ⟨x110, hx111, hp⟩ := bnd hp
        obtain ⟨p104, cs105, pt106, l107, at108, rel109⟩ := S86.row_at (i := 0) rfl els80 (by decide) hx111
        obtain rfl := eI_open rel109
        refine FL.v (E.indexAddr te47 rfl rfl pt106) ?_
        refine FL.v (E.load rfl (run_load0 Try.isAgg3 at108 rfl)) ?_
        refine FL.v (E.assign (v := Value.int .i64 x110) rfl) ?_
        refine FL.nil (FW.seq (FW.seq (FW.region ?_)))
        refine FL.v (E.assign (v := Value.int .i64 0) rfl) ?_
        refine FL.nil ?_
        obtain ⟨q112, hq, hp⟩ := bndR hp
        refine FW.block ?_
        refine FW.mono (FW.iter (S := ((List Int) × Int)) (X := Empty) (fun (s112 : ((List Int) × Int)) f w => ∃ H : GH, ∃ v113 : Value, ∃ n114 : Nat, ∃ cs115 : List Value, St Ha wa H w [.row 3 1 v113 n114 cs115, .row 3 1 v81 n82 cs83] ∧ Inc H85 H ∧ Els (up wa.heap.size H) eI 1 cs115 s112.1 ∧ f 0 = Value.int .i64 a0 ∧ f 4 = Value.pointer (some ⟨b21, 0, none⟩) ∧ f 8 = v113 ∧ f 9 = v81 ∧ f 10 = Value.int .i64 s76.2.2 ∧ f 11 = Value.int .i64 x110 ∧ f 12 = Value.int .i64 s112.2) (fun (q : Rs ((List Int) × Int) Empty) e f w => match q with | .go s112 => e = Exit.exit 2 ∧ (∃ H : GH, ∃ v113 : Value, ∃ n114 : Nat, ∃ cs115 : List Value, St Ha wa H w [.row 3 1 v113 n114 cs115, .row 3 1 v81 n82 cs83] ∧ Inc H85 H ∧ Els (up wa.heap.size H) eI 1 cs115 s112.1 ∧ f 0 = Value.int .i64 a0 ∧ f 4 = Value.pointer (some ⟨b21, 0, none⟩) ∧ f 8 = v113 ∧ f 9 = v81 ∧ f 10 = Value.int .i64 s76.2.2 ∧ f 11 = Value.int .i64 x110) | .rt x => x.elim) hq ⟨_, _, _, _, S86, (Inc.rfl _), els80, k90, k91, k92, k93, k94, rfl, rfl⟩ ?_) ?_
        ·
          clear hp hq
          rintro s112 f121 w120 ⟨H117, v113, n114, cs115, S118, i119, els116, k122, k123, k124, k125, k126, k127, k128⟩ o209 hp
          refine FW.seq (FW.seq (FW.region ?_))
          refine FL.v (E.move k128) ?_
          refine FL.v (E.move k124) ?_
          refine FL.v (E.lenO te47 rfl S118 (i := 0) rfl els116 (by decide)) ?_
          refine FL.v (E.lss rfl rfl) ?_
          refine FL.v (E.move (v := Value.bool (decide (s112.2 < (len s112.1)))) rfl) ?_
          refine FL.cut 3 (fun f w => ∃ H : GH, St Ha wa H w [.row 3 1 v113 n114 cs115, .row 3 1 v81 n82 cs83] ∧ Inc H117 H ∧ f 0 = Value.int .i64 a0 ∧ f 4 = Value.pointer (some ⟨b21, 0, none⟩) ∧ f 8 = v113 ∧ f 9 = v81 ∧ f 10 = Value.int .i64 s76.2.2 ∧ f 11 = Value.int .i64 x110 ∧ f 12 = Value.int .i64 s112.2 ∧ f 43 = Value.bool (bif (decide (s112.2 < (len s112.1))) then (!(x110 == 0)) else false)) ?_ ?_
          ·
            rcases bcase (decide (s112.2 < (len s112.1))) with c134 | c134
            ·
              refine FL.val (wF_yes rfl rfl rfl c134) rfl rfl (E.move k127) ?_
              refine FL.val (wF_yes rfl rfl rfl c134) rfl rfl (E.neq rfl rfl) ?_
              refine FL.v (E.pickT rfl c134 rfl) ?_
              exact FL.nil ⟨rfl, _, S118, (Inc.rfl _), k122, k123, k124, k125, k126, k127, k128, (congrArg Value.bool (bifT c134).symm)⟩
            ·
              refine FL.skip (wF_no rfl rfl rfl c134) rfl ?_
              refine FL.skip (wF_no rfl rfl rfl c134) rfl ?_
              refine FL.v (E.pickF rfl c134 rfl) ?_
              exact FL.nil ⟨rfl, _, S118, (Inc.rfl _), k122, k123, k124, k125, k126, k127, k128, (congrArg Value.bool (bifF c134).symm)⟩
          rintro f133 w132 ⟨H129, S130, i131, k135, k136, k137, k138, k139, k140, k141, k142⟩
          refine FL.nil ?_
          rcases ifB hp with ⟨c143, hp⟩ | ⟨c143, hp⟩
          ·
            refine FW.condT k142 c143 ?_
            refine FW.skip (FW.seq (FW.block ?_))
            obtain ⟨x153, hx154, hp⟩ := bnd hp
            obtain ⟨x162, hx163, hp⟩ := bnd hp
            obtain ⟨x172, hx173, hp⟩ := bnd hp
            obtain ⟨u175, z174, hp⟩ := bnd hp
            obtain ⟨x182, hx183, hp⟩ := bnd hp
            obtain ⟨xs188, hput189, hp⟩ := bnd hp
            refine FW.drawB (Sl H129) (fun f w => ∃ H : GH, ∃ v193 : Value, ∃ n194 : Nat, ∃ cs195 : List Value, St Ha wa H w [.row 3 1 v193 n194 cs195, .row 3 1 v81 n82 cs83] ∧ Inc H129 H ∧ Els (up wa.heap.size H) eI 1 cs195 xs188 ∧ f 0 = Value.int .i64 a0 ∧ f 4 = Value.pointer (some ⟨b21, 0, none⟩) ∧ f 8 = v193 ∧ f 9 = v81 ∧ f 10 = Value.int .i64 s76.2.2 ∧ f 11 = Value.int .i64 x110 ∧ f 12 = Value.int .i64 s112.2) (by kernel_rfl) S130.sl ?_ ?_
            ·
              intro w144 r145
              have S146 := S130.call r145
              refine FB.t (i := 0) (bs 23 1) rfl (SP.nil S146.sl) rfl (fun w' hw' => (E.move k137)) ?_
              refine FB.t (i := 1) (bs 23 3) rfl (SP.nil S146.sl) rfl (fun w' hw' => (E.move k141)) ?_
              refine FB.t (i := 2) (bs 23 7) rfl (SP.nil S146.sl) rfl (fun w' hw' => (E.move k137)) ?_
              refine FB.t (i := 3) (bs 23 15) rfl (SP.nil S146.sl) rfl (fun w' hw' => (E.move k141)) ?_
              obtain ⟨p147, cs148, pt149, l150, at151, rel152, hall155⟩ := S146.row_atA (i := 0) rfl els116 (by decide) hx154
              obtain rfl := eI_open rel152
              refine FB.t (i := 4) (bs 23 31) rfl (SP.nil S146.sl) rfl (fun w' hw' => (E.indexAddr te47 rfl rfl pt149)) ?_
              refine FB.phase [22] (fun w' => WAt w' p147 [Value.int .i64 x153]) ?_
              refine FB.p (i := 5) (bs 23 63) 0 [18, 20, 21, 22] rfl (SP.on (hall155 _ _ _ 0 S146 rfl) (SP.nil S146.sl)) rfl rfl (fun w' hw' => (E.load rfl (run_load0 Try.isAgg3 hw' rfl))) ?_
              refine FB.t (i := 6) (bs 23 127) rfl (SP.on (hall155 _ _ _ 0 S146 rfl) (SP.nil S146.sl)) rfl (fun w' hw' => (E.move k135)) ?_
              refine FB.t (i := 7) (bs 23 255) rfl (SP.on (hall155 _ _ _ 0 S146 rfl) (SP.nil S146.sl)) rfl (fun w' hw' => (E.move k140)) ?_
              refine FB.t (i := 8) (bs 23 511) rfl (SP.on (hall155 _ _ _ 0 S146 rfl) (SP.nil S146.sl)) rfl (fun w' hw' => (E.sub rfl rfl)) ?_
              refine FB.t (i := 9) (bs 23 1023) rfl (SP.on (hall155 _ _ _ 0 S146 rfl) (SP.nil S146.sl)) rfl (fun w' hw' => (E.fieldAddr tf73_0 k136)) ?_
              refine FB.t (i := 10) (bs 23 2047) rfl (SP.on (hall155 _ _ _ 0 S146 rfl) (SP.nil S146.sl)) rfl (fun w' hw' => (E.load rfl (run_load1 Try.isAgg22 ((at28.mono (((i67.tr i87).tr i119).tr i131)).now hw') rfl))) ?_
              refine FB.t (i := 11) (bs 23 4095) rfl (SP.on (hall155 _ _ _ 0 S146 rfl) (SP.nil S146.sl)) rfl (fun w' hw' => (E.move k139)) ?_
              obtain ⟨p156, cs157, pt158, l159, at160, rel161⟩ := p1_0.at hx163
              obtain ⟨v164, rfl, h165⟩ := eL_open rel161
              refine FB.t (i := 12) (bs 23 8191) rfl (SP.on (hall155 _ _ _ 0 S146 rfl) (SP.nil S146.sl)) rfl (fun w' hw' => (E.indexAddr te22 rfl rfl pt158)) ?_
              refine FB.t (i := 13) (bs 23 16383) rfl (SP.on (hall155 _ _ _ 0 S146 rfl) (SP.nil S146.sl)) rfl (fun w' hw' => (E.load rfl (run_load0 Try.isAgg47 ((at160.mono ((((i27.tr i67).tr i87).tr i119).tr i131)).now hw') rfl))) ?_
              refine FB.t (i := 14) (bs 23 32767) rfl (SP.on (hall155 _ _ _ 0 S146 rfl) (SP.nil S146.sl)) rfl (fun w' hw' => (E.move k141)) ?_
              obtain ⟨p166, cs167, pt168, l169, at170, rel171⟩ := h165.at hx173
              obtain rfl := eI_open rel171
              refine FB.t (i := 15) (bs 23 65535) rfl (SP.on (hall155 _ _ _ 0 S146 rfl) (SP.nil S146.sl)) rfl (fun w' hw' => (E.indexAddr te47 rfl rfl pt168)) ?_
              refine FB.t (i := 16) (bs 23 131071) rfl (SP.on (hall155 _ _ _ 0 S146 rfl) (SP.nil S146.sl)) rfl (fun w' hw' => (E.load rfl (run_load0 Try.isAgg3 ((at170.mono ((((i27.tr i67).tr i87).tr i119).tr i131)).now hw') rfl))) ?_
              refine FB.t (i := 17) (bs 23 262143) rfl (SP.on (hall155 _ _ _ 0 S146 rfl) (SP.nil S146.sl)) rfl (fun w' hw' => (E.mul rfl rfl)) ?_
              refine FB.t (i := 18) (bs 23 524287) rfl (SP.on (hall155 _ _ _ 0 S146 rfl) (SP.nil S146.sl)) rfl (fun w' hw' => (E.add rfl rfl)) ?_
              refine FB.t (i := 19) (bs 23 1048575) rfl (SP.on (hall155 _ _ _ 0 S146 rfl) (SP.nil S146.sl)) rfl (fun w' hw' => (E.move k135)) ?_
              refine FB.t (i := 20) (bs 23 2097151) rfl (SP.on (hall155 _ _ _ 0 S146 rfl) (SP.nil S146.sl)) rfl (fun w' hw' => (E.rem rfl rfl (nz_ne z174))) ?_
              obtain ⟨p176, cs177, pt178, l179, at180, rel181, hall184⟩ := S146.row_atA (i := 0) rfl els116 (by decide) hx183
              obtain rfl := eI_open rel181
              refine FB.t (i := 21) (bs 23 4194303) rfl (SP.on (hall155 _ _ _ 0 S146 rfl) (SP.nil S146.sl)) rfl (fun w' hw' => (E.indexAddr te47 rfl rfl pt178)) ?_
              refine FB.all1 (i := 22) (by kernel_rfl) ?_
              ·
                obtain ⟨w185, cs191, run186, S187, els190, ce192⟩ := S146.putEls (P := Try.prog) (t := 3) (i := 0) rfl (els116.mono (up_mono i131)) hput189 pt178 Try.sizeOf3 (u := Value.int .i64 ((wr (x153 + (wr ((wr (a0 - x110)) * x172)))).tmod a0)) (c := [Value.int .i64 ((wr (x153 + (wr ((wr (a0 - x110)) * x172)))).tmod a0)]) rfl rfl (ones_cons rfl ones_nil) rfl
                have S187 : St Ha wa H129 w185 [.row 3 1 v113 n114 cs191, .row 3 1 v81 n82 cs83] := S187
                refine FC.act (l' := (bs 23 8388607)) rfl (by kernel_rfl) rfl rfl (E.store rfl rfl run186) ?_
                refine ⟨(SP.o (SP.nil S187.sl)), ?_⟩
                exact FB.done (by kernel_rfl) ⟨_, _, _, _, S187, (Inc.rfl _), els190, k135, k136, k137, k138, k139, k140, k141⟩
            ·
              rintro f201 w200 ⟨H197, v193, n194, cs195, S198, i199, els196, k202, k203, k204, k205, k206, k207, k208⟩
              refine FW.region ?_
              refine FL.v (E.move k208) ?_
              refine FL.v (E.add rfl rfl) ?_
              refine FL.v (E.assign (v := Value.int .i64 (wr (s112.2 + 1))) rfl) ?_
              refine FL.nil ?_
              obtain rfl := Option.some.inj hp
              exact ⟨rfl, ⟨_, _, _, _, S198, ((i119.tr i131).tr i199), els196, k202, k203, k204, k205, k206, k207, rfl⟩⟩
          ·
            refine FW.condF k142 c143 ?_
            refine FW.exit ?_
            obtain rfl := Option.some.inj hp
            exact ⟨nofun, rfl, ⟨_, _, _, _, S130, (i119.tr i131), (els116.mono (up_mono i131)), k135, k136, k137, k138, k139, k140⟩⟩
        ·
          clear hq
          intro e f214 w213 hD
          rcases q112 with s112 | x112
          ·
            obtain ⟨rfl, hD⟩ := hD
            obtain ⟨H210, v113, n114, cs115, S211, i212, els116, k215, k216, k217, k218, k219, k220⟩ := hD
            replace hp := el_go hp
            refine FW.seq (FW.region ?_)
            refine FL.v (E.assign (v := Value.int .i64 0) rfl) ?_
            refine FL.nil ?_
            obtain ⟨q221, hq, hp⟩ := bndR hp
            refine FW.block ?_
            refine FW.mono (FW.iter (S := ((List Int) × Int)) (X := Empty) (fun (s221 : ((List Int) × Int)) f w => ∃ H : GH, ∃ v222 : Value, ∃ n223 : Nat, ∃ cs224 : List Value, St Ha wa H w [.row 3 1 v113 n114 cs115, .row 3 1 v222 n223 cs224] ∧ Inc H210 H ∧ Els (up wa.heap.size H) eI 1 cs224 s221.1 ∧ f 0 = Value.int .i64 a0 ∧ f 4 = Value.pointer (some ⟨b21, 0, none⟩) ∧ f 8 = v113 ∧ f 9 = v222 ∧ f 10 = Value.int .i64 s76.2.2 ∧ f 11 = Value.int .i64 x110 ∧ f 13 = Value.int .i64 s221.2) (fun (q : Rs ((List Int) × Int) Empty) e f w => match q with | .go s221 => e = Exit.exit 4 ∧ (∃ H : GH, ∃ v222 : Value, ∃ n223 : Nat, ∃ cs224 : List Value, St Ha wa H w [.row 3 1 v113 n114 cs115, .row 3 1 v222 n223 cs224] ∧ Inc H210 H ∧ Els (up wa.heap.size H) eI 1 cs224 s221.1 ∧ f 0 = Value.int .i64 a0 ∧ f 4 = Value.pointer (some ⟨b21, 0, none⟩) ∧ f 8 = v113 ∧ f 9 = v222 ∧ f 10 = Value.int .i64 s76.2.2) | .rt x => x.elim) hq ⟨_, _, _, _, S211, (Inc.rfl _), (els84.mono (up_mono i212)), k215, k216, k217, k218, k219, k220, rfl⟩ ?_) ?_
            ·
              clear hp hq
              rintro s221 f230 w229 ⟨H226, v222, n223, cs224, S227, i228, els225, k231, k232, k233, k234, k235, k236, k237⟩ o328 hp
              refine FW.seq (FW.seq (FW.region ?_))
              refine FL.v (E.move k237) ?_
              refine FL.v (E.fieldAddr tf73_2 k232) ?_
              refine FL.v (E.load rfl (run_load1 Try.isAgg22 ((at28.mono (((i67.tr i87).tr i212).tr i228)).now S227.sl) rfl)) ?_
              refine FL.v (E.move k235) ?_
              obtain ⟨x244, hx245, hp⟩ := bnd hp
              obtain ⟨p238, cs239, pt240, l241, at242, rel243⟩ := p1_2.at hx245
              obtain ⟨v246, rfl, h247⟩ := eL_open rel243
              refine FL.v (E.indexAddr te22 rfl rfl pt240) ?_
              refine FL.v (E.load rfl (run_load0 Try.isAgg47 ((at242.mono ((((i27.tr i67).tr i87).tr i212).tr i228)).now S227.sl) rfl)) ?_
              refine FL.v (E.lenP te47 rfl h247) ?_
              refine FL.v (E.lss rfl rfl) ?_
              refine FL.v (E.move (v := Value.bool (decide (s221.2 < (len x244)))) rfl) ?_
              refine FL.cut 3 (fun f w => ∃ H : GH, St Ha wa H w [.row 3 1 v113 n114 cs115, .row 3 1 v222 n223 cs224] ∧ Inc H226 H ∧ f 0 = Value.int .i64 a0 ∧ f 4 = Value.pointer (some ⟨b21, 0, none⟩) ∧ f 8 = v113 ∧ f 9 = v222 ∧ f 10 = Value.int .i64 s76.2.2 ∧ f 11 = Value.int .i64 x110 ∧ f 13 = Value.int .i64 s221.2 ∧ f 79 = Value.bool (bif (decide (s221.2 < (len x244))) then (!(x110 == 0)) else false)) ?_ ?_
              ·
                rcases bcase (decide (s221.2 < (len x244))) with c253 | c253
                ·
                  refine FL.val (wF_yes rfl rfl rfl c253) rfl rfl (E.move k236) ?_
                  refine FL.val (wF_yes rfl rfl rfl c253) rfl rfl (E.neq rfl rfl) ?_
                  refine FL.v (E.pickT rfl c253 rfl) ?_
                  exact FL.nil ⟨rfl, _, S227, (Inc.rfl _), k231, k232, k233, k234, k235, k236, k237, (congrArg Value.bool (bifT c253).symm)⟩
                ·
                  refine FL.skip (wF_no rfl rfl rfl c253) rfl ?_
                  refine FL.skip (wF_no rfl rfl rfl c253) rfl ?_
                  refine FL.v (E.pickF rfl c253 rfl) ?_
                  exact FL.nil ⟨rfl, _, S227, (Inc.rfl _), k231, k232, k233, k234, k235, k236, k237, (congrArg Value.bool (bifF c253).symm)⟩
              rintro f252 w251 ⟨H248, S249, i250, k254, k255, k256, k257, k258, k259, k260, k261⟩
              refine FL.nil ?_
              rcases ifB hp with ⟨c262, hp⟩ | ⟨c262, hp⟩
              ·
                refine FW.condT k261 c262 ?_
                refine FW.skip (FW.seq (FW.block ?_))
                obtain ⟨x272, hx273, hp⟩ := bnd hp
                obtain ⟨x281, hx282, hp⟩ := bnd hp
                obtain ⟨x291, hx292, hp⟩ := bnd hp
                obtain ⟨u294, z293, hp⟩ := bnd hp
                obtain ⟨x301, hx302, hp⟩ := bnd hp
                obtain ⟨xs307, hput308, hp⟩ := bnd hp
                refine FW.drawB (Sl H248) (fun f w => ∃ H : GH, ∃ v312 : Value, ∃ n313 : Nat, ∃ cs314 : List Value, St Ha wa H w [.row 3 1 v113 n114 cs115, .row 3 1 v312 n313 cs314] ∧ Inc H248 H ∧ Els (up wa.heap.size H) eI 1 cs314 xs307 ∧ f 0 = Value.int .i64 a0 ∧ f 4 = Value.pointer (some ⟨b21, 0, none⟩) ∧ f 8 = v113 ∧ f 9 = v312 ∧ f 10 = Value.int .i64 s76.2.2 ∧ f 11 = Value.int .i64 x110 ∧ f 13 = Value.int .i64 s221.2) (by kernel_rfl) S249.sl ?_ ?_
                ·
                  intro w263 r264
                  have S265 := S249.call r264
                  refine FB.t (i := 0) (bs 21 1) rfl (SP.nil S265.sl) rfl (fun w' hw' => (E.move k257)) ?_
                  refine FB.t (i := 1) (bs 21 3) rfl (SP.nil S265.sl) rfl (fun w' hw' => (E.move k260)) ?_
                  refine FB.t (i := 2) (bs 21 7) rfl (SP.nil S265.sl) rfl (fun w' hw' => (E.move k257)) ?_
                  refine FB.t (i := 3) (bs 21 15) rfl (SP.nil S265.sl) rfl (fun w' hw' => (E.move k260)) ?_
                  obtain ⟨p266, cs267, pt268, l269, at270, rel271, hall274⟩ := S265.row_atA (i := 1) rfl els225 (by decide) hx273
                  obtain rfl := eI_open rel271
                  refine FB.t (i := 4) (bs 21 31) rfl (SP.nil S265.sl) rfl (fun w' hw' => (E.indexAddr te47 rfl rfl pt268)) ?_
                  refine FB.phase [20] (fun w' => WAt w' p266 [Value.int .i64 x272]) ?_
                  refine FB.p (i := 5) (bs 21 63) 0 [16, 18, 19, 20] rfl (SP.on (hall274 _ _ _ 1 S265 rfl) (SP.nil S265.sl)) rfl rfl (fun w' hw' => (E.load rfl (run_load0 Try.isAgg3 hw' rfl))) ?_
                  refine FB.t (i := 6) (bs 21 127) rfl (SP.on (hall274 _ _ _ 1 S265 rfl) (SP.nil S265.sl)) rfl (fun w' hw' => (E.move k259)) ?_
                  refine FB.t (i := 7) (bs 21 255) rfl (SP.on (hall274 _ _ _ 1 S265 rfl) (SP.nil S265.sl)) rfl (fun w' hw' => (E.fieldAddr tf73_2 k255)) ?_
                  refine FB.t (i := 8) (bs 21 511) rfl (SP.on (hall274 _ _ _ 1 S265 rfl) (SP.nil S265.sl)) rfl (fun w' hw' => (E.load rfl (run_load1 Try.isAgg22 ((at28.mono ((((i67.tr i87).tr i212).tr i228).tr i250)).now hw') rfl))) ?_
                  refine FB.t (i := 9) (bs 21 1023) rfl (SP.on (hall274 _ _ _ 1 S265 rfl) (SP.nil S265.sl)) rfl (fun w' hw' => (E.move k258)) ?_
                  obtain ⟨p275, cs276, pt277, l278, at279, rel280⟩ := p1_2.at hx282
                  obtain ⟨v283, rfl, h284⟩ := eL_open rel280
                  refine FB.t (i := 10) (bs 21 2047) rfl (SP.on (hall274 _ _ _ 1 S265 rfl) (SP.nil S265.sl)) rfl (fun w' hw' => (E.indexAddr te22 rfl rfl pt277)) ?_
                  refine FB.t (i := 11) (bs 21 4095) rfl (SP.on (hall274 _ _ _ 1 S265 rfl) (SP.nil S265.sl)) rfl (fun w' hw' => (E.load rfl (run_load0 Try.isAgg47 ((at279.mono (((((i27.tr i67).tr i87).tr i212).tr i228).tr i250)).now hw') rfl))) ?_
                  refine FB.t (i := 12) (bs 21 8191) rfl (SP.on (hall274 _ _ _ 1 S265 rfl) (SP.nil S265.sl)) rfl (fun w' hw' => (E.move k260)) ?_
                  obtain ⟨p285, cs286, pt287, l288, at289, rel290⟩ := h284.at hx292
                  obtain rfl := eI_open rel290
                  refine FB.t (i := 13) (bs 21 16383) rfl (SP.on (hall274 _ _ _ 1 S265 rfl) (SP.nil S265.sl)) rfl (fun w' hw' => (E.indexAddr te47 rfl rfl pt287)) ?_
                  refine FB.t (i := 14) (bs 21 32767) rfl (SP.on (hall274 _ _ _ 1 S265 rfl) (SP.nil S265.sl)) rfl (fun w' hw' => (E.load rfl (run_load0 Try.isAgg3 ((at289.mono (((((i27.tr i67).tr i87).tr i212).tr i228).tr i250)).now hw') rfl))) ?_
                  refine FB.t (i := 15) (bs 21 65535) rfl (SP.on (hall274 _ _ _ 1 S265 rfl) (SP.nil S265.sl)) rfl (fun w' hw' => (E.mul rfl rfl)) ?_
                  refine FB.t (i := 16) (bs 21 131071) rfl (SP.on (hall274 _ _ _ 1 S265 rfl) (SP.nil S265.sl)) rfl (fun w' hw' => (E.add rfl rfl)) ?_
                  refine FB.t (i := 17) (bs 21 262143) rfl (SP.on (hall274 _ _ _ 1 S265 rfl) (SP.nil S265.sl)) rfl (fun w' hw' => (E.move k254)) ?_
                  refine FB.t (i := 18) (bs 21 524287) rfl (SP.on (hall274 _ _ _ 1 S265 rfl) (SP.nil S265.sl)) rfl (fun w' hw' => (E.rem rfl rfl (nz_ne z293))) ?_
                  obtain ⟨p295, cs296, pt297, l298, at299, rel300, hall303⟩ := S265.row_atA (i := 1) rfl els225 (by decide) hx302
                  obtain rfl := eI_open rel300
                  refine FB.t (i := 19) (bs 21 1048575) rfl (SP.on (hall274 _ _ _ 1 S265 rfl) (SP.nil S265.sl)) rfl (fun w' hw' => (E.indexAddr te47 rfl rfl pt297)) ?_
                  refine FB.all1 (i := 20) (by kernel_rfl) ?_
                  ·
                    obtain ⟨w304, cs310, run305, S306, els309, ce311⟩ := S265.putEls (P := Try.prog) (t := 3) (i := 1) rfl (els225.mono (up_mono i250)) hput308 pt297 Try.sizeOf3 (u := Value.int .i64 ((wr (x272 + (wr (x110 * x291)))).tmod a0)) (c := [Value.int .i64 ((wr (x272 + (wr (x110 * x291)))).tmod a0)]) rfl rfl (ones_cons rfl ones_nil) rfl
                    have S306 : St Ha wa H248 w304 [.row 3 1 v113 n114 cs115, .row 3 1 v222 n223 cs310] := S306
                    refine FC.act (l' := (bs 21 2097151)) rfl (by kernel_rfl) rfl rfl (E.store rfl rfl run305) ?_
                    refine ⟨(SP.o (SP.nil S306.sl)), ?_⟩
                    exact FB.done (by kernel_rfl) ⟨_, _, _, _, S306, (Inc.rfl _), els309, k254, k255, k256, k257, k258, k259, k260⟩
                ·
                  rintro f320 w319 ⟨H316, v312, n313, cs314, S317, i318, els315, k321, k322, k323, k324, k325, k326, k327⟩
                  refine FW.region ?_
                  refine FL.v (E.move k327) ?_
                  refine FL.v (E.add rfl rfl) ?_
                  refine FL.v (E.assign (v := Value.int .i64 (wr (s221.2 + 1))) rfl) ?_
                  refine FL.nil ?_
                  obtain rfl := Option.some.inj hp
                  exact ⟨rfl, ⟨_, _, _, _, S317, ((i228.tr i250).tr i318), els315, k321, k322, k323, k324, k325, k326, rfl⟩⟩
              ·
                refine FW.condF k261 c262 ?_
                refine FW.exit ?_
                obtain rfl := Option.some.inj hp
                exact ⟨nofun, rfl, ⟨_, _, _, _, S249, (i228.tr i250), (els225.mono (up_mono i250)), k254, k255, k256, k257, k258⟩⟩
            ·
              clear hq
              intro e f333 w332 hD
              rcases q221 with s221 | x221
              ·
                obtain ⟨rfl, hD⟩ := hD
                obtain ⟨H329, v222, n223, cs224, S330, i331, els225, k334, k335, k336, k337, k338⟩ := hD
                replace hp := el_go hp
                refine FW.region ?_
                refine FL.v (E.move k338) ?_
                refine FL.v (E.add rfl rfl) ?_
                refine FL.v (E.assign (v := Value.int .i64 (wr (s76.2.2 + 1))) rfl) ?_
                refine FL.nil ?_
                obtain rfl := Option.some.inj hp
                exact ⟨rfl, ⟨_, _, _, _, _, _, _, S330, ((i87.tr i212).tr i331), (els116.mono (up_mono i331)), els225, k334, k335, k336, k337, rfl⟩⟩
              · exact x221.elim
          · exact x112.elim
      ·
        refine FW.condF rfl c95 ?_
        refine FW.exit ?_
        obtain rfl := Option.some.inj hp
        exact ⟨nofun, rfl, ⟨_, _, _, _, _, _, _, S86, i87, els80, els84, k92, k93⟩⟩
    ·
      clear hq
      intro e f344 w343 hD
      rcases q76 with s76 | x76
      ·
        obtain ⟨rfl, hD⟩ := hD
        obtain ⟨H340, v77, n78, cs79, v81, n82, cs83, S341, i342, els80, els84, k345, k346⟩ := hD
        replace hp := el_go hp
        refine FW.seq (FW.region ?_)
        refine FL.v (E.move k345) ?_
        refine FL.v (E.move k346) ?_
        refine FL.v (E.assign (v := v77) rfl) ?_
        refine FL.v (E.assign (v := v81) rfl) ?_
        refine FL.nil ?_
        refine FW.ret ?_
        obtain rfl := Option.some.inj hp
        exact ⟨.inr rfl, res2 rfl rfl rfl ⟨_, _, _, _, _, _, _, rfl, S341, els80, els84⟩⟩
      · exact x76.elim

theorem w_spec_l19Lead {Ha : GH} {wa : World} (hs : Sl Ha wa) (v0 : Value) (a0 : List Int) (p0 : RSl Ha eI 1 v0 a0) {r : Int} (hp : (PF.spec_l19Lead a0) = some r) :
  Calls Try.prog 39 #[v0] wa (Sc Ha wa (Value.int .i64 r)) := by
 unfold PF.spec_l19Lead at hp
 have S0 := St.init hs
 refine calls_go (N := 16) (args := [v0]) Try.func39 rfl rfl rfl ?_
 refine FW.seq (FW.region ?_)
 refine FL.v (E.assign (v := Value.int .i64 0) rfl) ?_
 refine FL.nil (FW.seq (FW.seq (FW.region ?_)))
 refine FL.v (E.assign (v := Value.int .i64 0) rfl) ?_
 refine FL.nil ?_
 obtain ⟨q22, hq, hp⟩ := bndR hp
 refine FW.block ?_
 refine FW.mono (FW.forL (S := Unit) (X := Int) (fun (i22 : Nat) (s22 : Unit) f w => ∃ H : GH, St Ha wa H w [] ∧ Inc Ha H ∧ f 3 = Value.int .i64 ((i22 : Nat) : Int) ∧ f 0 = v0) (fun q e f w => match q with | .go s22 => e = Exit.exit 0 ∧ (∃ H : GH, St Ha wa H w [] ∧ Inc Ha H) | .rt x => ((e = Exit.ret) ∧ (fun e f w => (e = Exit.normal ∨ e = Exit.ret) ∧ ∀ a, Fr (δ := []) 16 a f → ∃ v, (results Try.f39 a.tmps).run Try.prog w = .ok v w ∧ (Sc Ha wa (Value.int .i64 x)) (.returned v) w) e f w)) hq ⟨_, S0, (Inc.rfl _), rfl, rfl⟩ ?_ ?_) ?_
 ·
  clear hp hq
  rintro i22 y21 s22 f41 w40 ⟨H37, S38, i39, k42, k43⟩ hx22 o51 hp
  refine FW.seq (FW.seq (FW.region ?_))
  refine FL.v (E.move k42) ?_
  refine FL.v (E.move k43) ?_
  refine FL.v (E.lenP te47 rfl p0) ?_
  refine FL.v (E.lssT rfl rfl (lss_len hx22)) ?_
  refine FL.nil ?_
  refine FW.condT rfl rfl ?_
  refine FW.skip (FW.seq (FW.block (FW.seq (FW.region ?_))))
  refine FL.v (E.move k43) ?_
  refine FL.v (E.move k42) ?_
  obtain ⟨p44, cs45, pt46, l47, at48, rel49⟩ := p0.at (ix_nat hx22)
  obtain rfl := eI_open rel49
  refine FL.v (E.indexAddr te47 rfl rfl pt46) ?_
  refine FL.v (E.load rfl (run_load0 Try.isAgg3 ((at48.mono i39).now S38.sl) rfl)) ?_
  refine FL.v (E.neq rfl rfl) ?_
  refine FL.nil ?_
  rcases ifB hp with ⟨c50, hp⟩ | ⟨c50, hp⟩
  ·
   refine FW.condT rfl c50 ?_
   refine FW.seq (FW.region ?_)
   refine FL.v (E.move k42) ?_
   refine FL.v (E.assign (v := Value.int .i64 ((i22 : Nat) : Int)) rfl) ?_
   refine FL.nil ?_
   refine FW.ret ?_
   obtain rfl := Option.some.inj hp
   exact ⟨nofun, rfl, ⟨.inr rfl, res1 rfl rfl ⟨rfl, S38.back⟩⟩⟩
  ·
   refine FW.condF rfl c50 ?_
   refine FW.skip (FW.region ?_)
   refine FL.v (E.move k42) ?_
   refine FL.v (E.add rfl rfl) ?_
   refine FL.v (E.assign (v := Value.int .i64 (wr (((i22 : Nat) : Int) + 1))) rfl) ?_
   refine FL.nil ?_
   obtain rfl := Option.some.inj hp
   exact ⟨rfl, ⟨_, S38, i39, (nat_succ rfl (lt_of_get hx22) (p0.mono i39).le), k43⟩⟩
 ·
  clear hp hq
  rintro s22 f61 w60 ⟨H57, S58, i59, k62, k63⟩
  refine FW.seq (FW.seq (FW.region ?_))
  refine FL.v (E.move k62) ?_
  refine FL.v (E.move k63) ?_
  refine FL.v (E.lenP te47 rfl p0) ?_
  refine FL.v (E.lss rfl rfl) ?_
  refine FL.nil ?_
  refine FW.condF rfl dlt_len ?_
  refine FW.exit ?_
  exact ⟨nofun, rfl, ⟨_, S58, i59⟩⟩
 ·
  clear hq
  intro e f56 w55 hD
  rcases q22 with s22 | x22
  ·
   obtain ⟨rfl, hD⟩ := hD
   obtain ⟨H52, S53, i54⟩ := hD
   replace hp := el_go hp
   refine FW.seq (FW.region ?_)
   refine FL.v (E.assign (v := Value.int .i64 (-1)) rfl) ?_
   refine FL.nil ?_
   refine FW.ret ?_
   obtain rfl := Option.some.inj hp
   exact ⟨.inr rfl, res1 rfl rfl ⟨rfl, S53.back⟩⟩
  ·
   obtain ⟨he, hL⟩ := hD
   replace hp := el_rt hp
   obtain rfl := Option.some.inj hp
   subst he
   exact hL

theorem w_spec_l19Invert {Ha : GH} {wa : World} (hs : Sl Ha wa) (a0 : Int) (a1 : Int) {r : Int} (hp : (PF.spec_l19Invert a0 a1) = some r) :
  Calls Try.prog 57 #[Value.int .i64 a0, Value.int .i64 a1] wa (Sc Ha wa (Value.int .i64 r)) := by
 unfold PF.spec_l19Invert at hp
 have S0 := St.init hs
 refine calls_go (N := 18) (args := [Value.int .i64 a0, Value.int .i64 a1]) Try.func57 rfl rfl rfl ?_
 refine FW.seq (FW.region ?_)
 refine FL.v (E.assign (v := Value.int .i64 0) rfl) ?_
 refine FL.nil (FW.seq (FW.seq (FW.region ?_)))
 refine FL.v (E.assign (v := Value.int .i64 1) rfl) ?_
 refine FL.nil ?_
 obtain ⟨m21, hchk22, hp⟩ := bnd hp
 obtain ⟨q22, hq, hp⟩ := bndR hp
 refine FW.block ?_
 refine FW.mono (FW.forR (S := Unit) (X := Int) (fun (i22 : Nat) (s22 : Unit) f w => ∃ H : GH, St Ha wa H w [] ∧ Inc Ha H ∧ f 5 = Value.int .i64 ((i22 : Nat) : Int) ∧ f 0 = Value.int .i64 a0 ∧ f 1 = Value.int .i64 a1) (fun q e f w => match q with | .go s22 => e = Exit.exit 0 ∧ (∃ H : GH, St Ha wa H w [] ∧ Inc Ha H) | .rt x => ((e = Exit.ret) ∧ (fun e f w => (e = Exit.normal ∨ e = Exit.ret) ∧ ∀ a, Fr (δ := []) 18 a f → ∃ v, (results Try.f57 a.tmps).run Try.prog w = .ok v w ∧ (Sc Ha wa (Value.int .i64 x)) (.returned v) w) e f w)) hq ⟨_, S0, (Inc.rfl _), rfl, rfl, rfl⟩ ?_ ?_) ?_
 ·
  clear hp hq
  rintro i22 s22 f38 w37 ⟨H34, S35, i36, k39, k40, k41⟩ hi22 hj22 o45 hp
  refine FW.seq (FW.seq (FW.region ?_))
  refine FL.v (E.move k39) ?_
  refine FL.v (E.move k40) ?_
  refine FL.v (E.lssT rfl rfl (lss_chk hj22 hchk22)) ?_
  refine FL.nil ?_
  refine FW.condT rfl rfl ?_
  refine FW.skip (FW.seq (FW.block (FW.seq (FW.region ?_))))
  refine FL.v (E.move k41) ?_
  refine FL.v (E.move k39) ?_
  refine FL.v (E.mul rfl rfl) ?_
  refine FL.v (E.move k40) ?_
  obtain ⟨u43, z42, hp⟩ := bnd hp
  refine FL.v (E.rem rfl rfl (nz_ne z42)) ?_
  refine FL.v (E.eql rfl rfl) ?_
  refine FL.nil ?_
  rcases ifB hp with ⟨c44, hp⟩ | ⟨c44, hp⟩
  ·
   refine FW.condT rfl c44 ?_
   refine FW.seq (FW.region ?_)
   refine FL.v (E.move k39) ?_
   refine FL.v (E.assign (v := Value.int .i64 ((i22 : Nat) : Int)) rfl) ?_
   refine FL.nil ?_
   refine FW.ret ?_
   obtain rfl := Option.some.inj hp
   exact ⟨nofun, rfl, ⟨.inr rfl, res1 rfl rfl ⟨rfl, S35.back⟩⟩⟩
  ·
   refine FW.condF rfl c44 ?_
   refine FW.skip (FW.region ?_)
   refine FL.v (E.move k39) ?_
   refine FL.v (E.add rfl rfl) ?_
   refine FL.v (E.assign (v := Value.int .i64 (wr (((i22 : Nat) : Int) + 1))) rfl) ?_
   refine FL.nil ?_
   obtain rfl := Option.some.inj hp
   exact ⟨rfl, ⟨_, S35, i36, (nat_succ rfl hj22 (chk_le hchk22)), k40, k41⟩⟩
 ·
  clear hp hq
  rintro s22 f55 w54 ⟨H51, S52, i53, k56, k57, k58⟩
  refine FW.seq (FW.seq (FW.region ?_))
  refine FL.v (E.move k56) ?_
  refine FL.v (E.move k57) ?_
  refine FL.v (E.lss rfl rfl) ?_
  refine FL.nil ?_
  refine FW.condF rfl (dlt_maxchk hchk22) ?_
  refine FW.exit ?_
  exact ⟨nofun, rfl, ⟨_, S52, i53⟩⟩
 ·
  clear hq
  intro e f50 w49 hD
  rcases q22 with s22 | x22
  ·
   obtain ⟨rfl, hD⟩ := hD
   obtain ⟨H46, S47, i48⟩ := hD
   replace hp := el_go hp
   refine FW.seq (FW.region ?_)
   refine FL.v (E.assign (v := Value.int .i64 0) rfl) ?_
   refine FL.nil ?_
   refine FW.ret ?_
   obtain rfl := Option.some.inj hp
   exact ⟨.inr rfl, res1 rfl rfl ⟨rfl, S47.back⟩⟩
  ·
   obtain ⟨he, hL⟩ := hD
   replace hp := el_rt hp
   obtain rfl := Option.some.inj hp
   subst he
   exact hL

@[reducible] def p_spec_l19Span (Ha : GH) (wa : World) (r : l19Base) : Ending → World → Prop :=
  fun e w' => ∃ H' : GH, ∃ v0_0 : Value, ∃ v0_1 : Value, ∃ v0_2 : Value, ∃ v0_3 : Value, e = .returned (Value.agg #[v0_0, v0_1, v0_2, v0_3]) ∧ Run wa.heap.size Ha wa H' w' ∧ (∃ c, Nest (up wa.heap.size H') (eL eI 1) 1 v0_0 r.rows c) ∧ RSl (up wa.heap.size H') eI 1 v0_1 r.leads ∧ (∃ c, Nest (up wa.heap.size H') (eL eI 1) 1 v0_2 r.made c) ∧ RSl (up wa.heap.size H') el19Product 3 v0_3 r.kept
set_option maxHeartbeats 4000000 in
theorem w_spec_l19Span {Ha : GH} {wa : World} (hs : Sl Ha wa) (a0 : Int) (a1 : Cnf) (v1_1 : Value) (p1_1 : RSl Ha (eL eI 1) 1 v1_1 a1.clauses) (a2 : Int) {r : l19Base} (hp : (PF.spec_l19Span a0 a1 a2) = some r) :
    Calls Try.prog 36 #[Value.int .i64 a0, Value.agg #[Value.int .i64 a1.vars, v1_1], Value.int .i64 a2] wa (p_spec_l19Span Ha wa r) := by
  unfold PF.spec_l19Span at hp
  have S0 := St.init hs
  refine calls_go (N := 115) (args := [Value.int .i64 a0, Value.agg #[Value.int .i64 a1.vars, v1_1], Value.int .i64 a2]) Try.func36 rfl rfl rfl ?_
  refine FW.seq (FW.region ?_)
  obtain ⟨b21, w22, run23, S24⟩ := S0.box (P := Try.prog) 29 [Value.int .i64 a1.vars, v1_1] (v := Value.agg #[Value.int .i64 a1.vars, v1_1]) rfl (ones_cons rfl (ones_cons p1_1.one ones_nil))
  refine FL.v (E.box rfl run23) ?_
  obtain ⟨H25, S26, i27, at28⟩ := S24.sealBox (i := 0) (l' := []) rfl rfl
  have S33 := S26.nil 47 1
  have els34 : Els (up wa.heap.size H25) (eL eI 1) 1 [] [] := Els.nil
  have S35 := S33.nil 3 1
  have els36 : Els (up wa.heap.size H25) eI 1 [] [] := Els.nil
  have S37 := S35.nil 47 1
  have els38 : Els (up wa.heap.size H25) (eL eI 1) 1 [] [] := Els.nil
  have S39 := S37.nil 80 3
  have els40 : Els (up wa.heap.size H25) el19Product 3 [] [] := Els.nil
  obtain ⟨b29, w30, run31, S32⟩ := S39.alloc (P := Try.prog) 73 [Value.slice none 0 0, Value.slice none 0 0, Value.slice none 0 0, Value.slice none 0 0] Try.zeroValue73 rfl (ones_cons rfl (ones_cons rfl (ones_cons rfl (ones_cons rfl ones_nil))))
  refine FL.v (E.alloc run31) ?_
  refine FL.nil (FW.seq (FW.region ?_))
  refine FL.v (E.build (B0) (run_build _ 73 #[] #[Value.slice none 0 0, Value.slice none 0 0, Value.slice none 0 0, Value.slice none 0 0] (by rfl))) ?_
  have S45 := S32.nil 47 1
  have els46 : Els (up wa.heap.size H25) (eL eI 1) 1 [] [] := Els.nil
  have S47 := S45.nil 3 1
  have els48 : Els (up wa.heap.size H25) eI 1 [] [] := Els.nil
  have S49 := S47.nil 47 1
  have els50 : Els (up wa.heap.size H25) (eL eI 1) 1 [] [] := Els.nil
  have S51 := S49.nil 80 3
  have els52 : Els (up wa.heap.size H25) el19Product 3 [] [] := Els.nil
  obtain ⟨b41, w42, run43, S44⟩ := S51.alloc (P := Try.prog) 73 [Value.slice none 0 0, Value.slice none 0 0, Value.slice none 0 0, Value.slice none 0 0] Try.zeroValue73 rfl (ones_cons rfl (ones_cons rfl (ones_cons rfl (ones_cons rfl ones_nil))))
  refine FL.v (E.alloc run43) ?_
  have S53 := S44.nil 47 1
  have els54 : Els (up wa.heap.size H25) (eL eI 1) 1 [] [] := Els.nil
  have S55 := S53.nil 3 1
  have els56 : Els (up wa.heap.size H25) eI 1 [] [] := Els.nil
  have S57 := S55.nil 47 1
  have els58 : Els (up wa.heap.size H25) (eL eI 1) 1 [] [] := Els.nil
  have S59 := S57.nil 80 3
  have els60 : Els (up wa.heap.size H25) el19Product 3 [] [] := Els.nil
  obtain ⟨w61, run62, S63⟩ := S59.store0 (P := Try.prog) (t := 73) (i := 4) (cs' := [(Value.slice none 0 0), (Value.slice none 0 0), (Value.slice none 0 0), (Value.slice none 0 0)]) (l' := [.row 80 3 (Value.slice none 0 0) 0 [], .row 47 1 (Value.slice none 0 0) 0 [], .row 3 1 (Value.slice none 0 0) 0 [], .row 47 1 (Value.slice none 0 0) 0 [], .box b41 73 [(Value.slice none 0 0), (Value.slice none 0 0), (Value.slice none 0 0), (Value.slice none 0 0)], .row 80 3 (Value.slice none 0 0) 0 [], .row 47 1 (Value.slice none 0 0) 0 [], .row 3 1 (Value.slice none 0 0) 0 [], .row 47 1 (Value.slice none 0 0) 0 [], .box b29 73 [(Value.slice none 0 0), (Value.slice none 0 0), (Value.slice none 0 0), (Value.slice none 0 0)], .row 80 3 (Value.slice none 0 0) 0 [], .row 47 1 (Value.slice none 0 0) 0 [], .row 3 1 (Value.slice none 0 0) 0 [], .row 47 1 (Value.slice none 0 0) 0 []]) (v := Value.agg #[(Value.slice none 0 0), (Value.slice none 0 0), (Value.slice none 0 0), (Value.slice none 0 0)]) (c := [(Value.slice none 0 0), (Value.slice none 0 0), (Value.slice none 0 0), (Value.slice none 0 0)]) rfl Try.sizeOf73 rfl rfl (ones_cons (Ln.one (S59.row_ln (i := 3) rfl)) (ones_cons (Ln.one (S59.row_ln (i := 2) rfl)) (ones_cons (Ln.one (S59.row_ln (i := 1) rfl)) (ones_cons (Ln.one (S59.row_ln (i := 0) rfl)) ones_nil)))) (Nat.le_of_ble_eq_true rfl) rfl rfl
  refine FL.act rfl rfl (E.store rfl rfl run62) ?_
  refine FL.nil (FW.seq (FW.region ?_))
  refine FL.v (E.move (v := Value.int .i64 a0) rfl) ?_
  refine FL.v (E.load rfl (run_loadA Try.isAgg29 Try.sizeOf29 (at28.now S63.sl) rfl)) ?_
  refine FL.v (E.move (v := Value.int .i64 a2) rfl) ?_
  obtain ⟨r64, hr65, hp⟩ := bnd hp
  refine FL.call rfl rfl rfl (E.call Try.call56 (A3 rfl rfl rfl)) (w_spec_l19Products S63.sl a0 a1 v1_1 (p1_1.mono i27) a2 hr65) ?_
  rintro e w67 ⟨H66, v70, n71, cs72, rfl, r69, els73, nd74⟩
  refine ⟨_, rfl, ?_⟩
  have nv75 : New H25 cs72 := New.of_up S63.sl els73.dom
  have els73 := els73.mono (up_le S63.size)
  have S68 := S63.join (l' := [.row 80 3 v70 n71 cs72, .row 80 3 (Value.slice none 0 0) 0 [], .row 47 1 (Value.slice none 0 0) 0 [], .row 3 1 (Value.slice none 0 0) 0 [], .row 47 1 (Value.slice none 0 0) 0 [], .box b41 73 [(Value.slice none 0 0), (Value.slice none 0 0), (Value.slice none 0 0), (Value.slice none 0 0)], .row 80 3 (Value.slice none 0 0) 0 [], .row 47 1 (Value.slice none 0 0) 0 [], .row 3 1 (Value.slice none 0 0) 0 [], .row 47 1 (Value.slice none 0 0) 0 [], .box b29 73 [(Value.slice none 0 0), (Value.slice none 0 0), (Value.slice none 0 0), (Value.slice none 0 0)], .row 80 3 (Value.slice none 0 0) 0 [], .row 47 1 (Value.slice none 0 0) 0 [], .row 3 1 (Value.slice none 0 0) 0 [], .row 47 1 (Value.slice none 0 0) 0 []]) r69 rfl
  refine FL.v (E.assign (v := v70) rfl) ?_
  refine FL.nil (FW.seq (FW.seq (FW.region ?_)))
  refine FL.v (E.assign (v := Value.int .i64 0) rfl) ?_
  refine FL.nil ?_
  obtain ⟨q76, hq, hp⟩ := bndR hp
  refine FW.block ?_
  refine FW.mono (FW.iter (S := ((List l19Product) × (List (List Int)) × (List Int) × (List (List Int)) × Int)) (X := Empty) (fun (s76 : ((List l19Product) × (List (List Int)) × (List Int) × (List (List Int)) × Int)) f w => ∃ H : GH, ∃ v77 : Value, ∃ n78 : Nat, ∃ cs79 : List Value, ∃ v82 : Value, ∃ n83 : Nat, ∃ cs84 : List Value, ∃ v87 : Value, ∃ n88 : Nat, ∃ cs89 : List Value, ∃ v91 : Value, ∃ n92 : Nat, ∃ cs93 : List Value, St Ha wa H w [.row 80 3 v70 n71 cs72, .row 80 3 v77 n78 cs79, .row 47 1 v82 n83 cs84, .row 3 1 v87 n88 cs89, .row 47 1 v91 n92 cs93, .box b41 73 [v91, v87, v82, v77], .box b29 73 [(Value.slice none 0 0), (Value.slice none 0 0), (Value.slice none 0 0), (Value.slice none 0 0)], .row 80 3 (Value.slice none 0 0) 0 [], .row 47 1 (Value.slice none 0 0) 0 [], .row 3 1 (Value.slice none 0 0) 0 [], .row 47 1 (Value.slice none 0 0) 0 []] ∧ Inc H66 H ∧ Els (up wa.heap.size H) el19Product 3 cs79 s76.1 ∧ Els (up wa.heap.size H) (eL eI 1) 1 cs84 s76.2.1 ∧ Els (up wa.heap.size H) eI 1 cs89 s76.2.2.1 ∧ Els (up wa.heap.size H) (eL eI 1) 1 cs93 s76.2.2.2.1 ∧ (bl cs84).Nodup ∧ (bl cs93).Nodup ∧ f 0 = Value.int .i64 a0 ∧ f 6 = Value.pointer (some (⟨b29, 0, none⟩ : Addr)) ∧ f 7 = Value.pointer (some (⟨b41, 0, none⟩ : Addr)) ∧ f 8 = v70 ∧ f 9 = Value.int .i64 s76.2.2.2.2) (fun (q : Rs ((List l19Product) × (List (List Int)) × (List Int) × (List (List Int)) × Int) Empty) e f w => match q with | .go s76 => e = Exit.exit 0 ∧ (∃ H : GH, ∃ v77 : Value, ∃ n78 : Nat, ∃ cs79 : List Value, ∃ v82 : Value, ∃ n83 : Nat, ∃ cs84 : List Value, ∃ v87 : Value, ∃ n88 : Nat, ∃ cs89 : List Value, ∃ v91 : Value, ∃ n92 : Nat, ∃ cs93 : List Value, St Ha wa H w [.row 80 3 v70 n71 cs72, .row 80 3 v77 n78 cs79, .row 47 1 v82 n83 cs84, .row 3 1 v87 n88 cs89, .row 47 1 v91 n92 cs93, .box b41 73 [v91, v87, v82, v77], .box b29 73 [(Value.slice none 0 0), (Value.slice none 0 0), (Value.slice none 0 0), (Value.slice none 0 0)], .row 80 3 (Value.slice none 0 0) 0 [], .row 47 1 (Value.slice none 0 0) 0 [], .row 3 1 (Value.slice none 0 0) 0 [], .row 47 1 (Value.slice none 0 0) 0 []] ∧ Inc H66 H ∧ Els (up wa.heap.size H) el19Product 3 cs79 s76.1 ∧ Els (up wa.heap.size H) (eL eI 1) 1 cs84 s76.2.1 ∧ Els (up wa.heap.size H) eI 1 cs89 s76.2.2.1 ∧ Els (up wa.heap.size H) (eL eI 1) 1 cs93 s76.2.2.2.1 ∧ (bl cs84).Nodup ∧ (bl cs93).Nodup ∧ f 6 = Value.pointer (some (⟨b29, 0, none⟩ : Addr)) ∧ f 7 = Value.pointer (some (⟨b41, 0, none⟩ : Addr))) | .rt x => x.elim) hq ⟨_, _, _, _, _, _, _, _, _, _, _, _, _, (S68.sel [0, 1, 2, 3, 4, 5, 10, 11, 12, 13, 14] (by decide) rfl), (Inc.rfl _), (els60.mono (up_mono r69.run.inc)), (els58.mono (up_mono r69.run.inc)), (els56.mono (up_mono r69.run.inc)), (els54.mono (up_mono r69.run.inc)), (show (bl []).Nodup from List.nodup_nil), (show (bl []).Nodup from List.nodup_nil), rfl, rfl, rfl, rfl, rfl⟩ ?_) ?_
  ·
    clear hp hq
    rintro s76 f100 w99 ⟨H96, v77, n78, cs79, v82, n83, cs84, v87, n88, cs89, v91, n92, cs93, S97, i98, els81, els85, els90, els94, nd86, nd95, k101, k102, k103, k104, k105⟩ o479 hp
    refine FW.seq (FW.seq (FW.region ?_))
    refine FL.v (E.move k105) ?_
    refine FL.v (E.move k104) ?_
    refine FL.v (E.lenO te71 rfl S97 (i := 0) rfl els73 (by decide)) ?_
    refine FL.v (E.lss rfl rfl) ?_
    refine FL.nil ?_
    rcases ifB hp with ⟨c106, hp⟩ | ⟨c106, hp⟩
    ·
      refine FW.condT rfl c106 ?_
      refine FW.skip (FW.seq (FW.block (FW.seq ?_)))
      obtain ⟨x116, hx117, hp⟩ := bnd hp
      obtain ⟨r143, hr144, hp⟩ := bnd hp
      refine FW.drawB (SX Ha wa H96 [.row 80 3 v70 n71 cs72, .box b41 73 [v91, v87, v82, v77]]) (fun f w => ∃ H : GH, ∃ v159 : Value, ∃ n160 : Nat, ∃ cs161 : List Value, ∃ v163 : Value, ∃ n164 : Nat, ∃ cs165 : List Value, St Ha wa H w [.row 80 3 v70 n71 cs72, .row 80 3 v77 n78 cs79, .row 47 1 v82 n83 cs84, .row 3 1 v87 n88 cs89, .row 47 1 v91 n92 cs93, .box b41 73 [v91, v87, v82, v77], .box b29 73 [(Value.slice none 0 0), (Value.slice none 0 0), (Value.slice none 0 0), (Value.slice none 0 0)], .row 80 3 (Value.slice none 0 0) 0 [], .row 47 1 (Value.slice none 0 0) 0 [], .row 3 1 (Value.slice none 0 0) 0 [], .row 47 1 (Value.slice none 0 0) 0 [], .row 3 1 v159 n160 cs161, .row 3 1 v163 n164 cs165] ∧ Inc H96 H ∧ Els (up wa.heap.size H) eI 1 cs161 r143.1 ∧ Els (up wa.heap.size H) eI 1 cs165 r143.2 ∧ f 0 = Value.int .i64 a0 ∧ f 6 = Value.pointer (some (⟨b29, 0, none⟩ : Addr)) ∧ f 7 = Value.pointer (some (⟨b41, 0, none⟩ : Addr)) ∧ f 8 = v70 ∧ f 9 = Value.int .i64 s76.2.2.2.2 ∧ f 10 = v159 ∧ f 11 = v163) (by kernel_rfl) S97.sl ?_ ?_
      ·
        intro w107 r108
        have S109 := S97.call r108
        refine FB.t (i := 0) (bs 13 1) rfl (SP.nil ⟨_, (S109.sel [0, 5] (by decide) rfl), (Inc.rfl _)⟩) rfl (fun w' hw' => (E.move k101)) ?_
        refine FB.t (i := 1) (bs 13 3) rfl (SP.nil ⟨_, (S109.sel [0, 5] (by decide) rfl), (Inc.rfl _)⟩) rfl (fun w' hw' => (E.load k103 (run_loadA Try.isAgg73 Try.sizeOf73 (SX.box_now hw' (i := 1) rfl) rfl))) ?_
        refine FB.t (i := 2) (bs 13 7) rfl (SP.nil ⟨_, (S109.sel [0, 5] (by decide) rfl), (Inc.rfl _)⟩) rfl (fun w' hw' => (E.move k104)) ?_
        refine FB.t (i := 3) (bs 13 15) rfl (SP.nil ⟨_, (S109.sel [0, 5] (by decide) rfl), (Inc.rfl _)⟩) rfl (fun w' hw' => (E.move k105)) ?_
        obtain ⟨p110, cs111, pt112, l113, at114, rel115, hall118⟩ := S109.row_atA (i := 0) rfl els73 (by decide) hx117
        obtain ⟨v119, rfl, h120⟩ := el19Product_open rel115
        refine FB.t (i := 4) (bs 13 31) rfl (SP.nil ⟨_, (S109.sel [0, 5] (by decide) rfl), (Inc.rfl _)⟩) rfl (fun w' hw' => (E.indexAddr te71 rfl rfl pt112)) ?_
        refine FB.t (i := 5) (bs 13 63) rfl (SP.nil ⟨_, (S109.sel [0, 5] (by decide) rfl), (Inc.rfl _)⟩) rfl (fun w' hw' => (E.fieldAddr tf80_2 rfl)) ?_
        refine FB.t (i := 6) (bs 13 127) rfl (SP.nil ⟨_, (S109.sel [0, 5] (by decide) rfl), (Inc.rfl _)⟩) rfl (fun w' hw' => (E.load rfl (run_load1 Try.isAgg47 (hw'.use fun _ st => hall118 _ _ _ 0 st rfl) rfl))) ?_
        refine FB.all1 (i := 7) (by kernel_rfl) ?_
        ·
          obtain ⟨H121, S122, i123, ns126, nv125⟩ := S109.sealRowN (i := 4) (l' := [.row 80 3 v70 n71 cs72, .row 80 3 v77 n78 cs79, .row 47 1 v82 n83 cs84, .row 3 1 v87 n88 cs89, .box b41 73 [v91, v87, v82, v77], .box b29 73 [(Value.slice none 0 0), (Value.slice none 0 0), (Value.slice none 0 0), (Value.slice none 0 0)], .row 80 3 (Value.slice none 0 0) 0 [], .row 47 1 (Value.slice none 0 0) 0 [], .row 3 1 (Value.slice none 0 0) 0 [], .row 47 1 (Value.slice none 0 0) 0 []]) rfl els94 nd95 (by decide) rfl
          have h124 := ns126.rsl
          obtain ⟨H127, S128, i129, h130, nv131⟩ := S122.sealRowU (i := 3) (l' := [.row 80 3 v70 n71 cs72, .row 80 3 v77 n78 cs79, .row 47 1 v82 n83 cs84, .box b41 73 [v91, v87, v82, v77], .box b29 73 [(Value.slice none 0 0), (Value.slice none 0 0), (Value.slice none 0 0), (Value.slice none 0 0)], .row 80 3 (Value.slice none 0 0) 0 [], .row 47 1 (Value.slice none 0 0) 0 [], .row 3 1 (Value.slice none 0 0) 0 [], .row 47 1 (Value.slice none 0 0) 0 []]) rfl (els90.mono (up_mono i123)) (by decide) rfl
          obtain ⟨H132, S133, i134, ns137, nv136⟩ := S128.sealRowN (i := 2) (l' := [.row 80 3 v70 n71 cs72, .row 80 3 v77 n78 cs79, .box b41 73 [v91, v87, v82, v77], .box b29 73 [(Value.slice none 0 0), (Value.slice none 0 0), (Value.slice none 0 0), (Value.slice none 0 0)], .row 80 3 (Value.slice none 0 0) 0 [], .row 47 1 (Value.slice none 0 0) 0 [], .row 3 1 (Value.slice none 0 0) 0 [], .row 47 1 (Value.slice none 0 0) 0 []]) rfl (els85.mono (up_mono (i123.tr i129))) nd86 (by decide) rfl
          have h135 := ns137.rsl
          obtain ⟨H138, S139, i140, h141, nv142⟩ := S133.sealRowU (i := 1) (l' := [.row 80 3 v70 n71 cs72, .box b41 73 [v91, v87, v82, v77], .box b29 73 [(Value.slice none 0 0), (Value.slice none 0 0), (Value.slice none 0 0), (Value.slice none 0 0)], .row 80 3 (Value.slice none 0 0) 0 [], .row 47 1 (Value.slice none 0 0) 0 [], .row 3 1 (Value.slice none 0 0) 0 [], .row 47 1 (Value.slice none 0 0) 0 []]) rfl (els81.mono (up_mono ((i123.tr i129).tr i134))) (by decide) rfl
          refine FC.call (l' := (bs 13 255)) rfl (by kernel_rfl) rfl rfl rfl (E.call Try.call37 (A3 rfl rfl rfl)) (w_spec_l19Reduce S139.sl a0 (l19Base.mk s76.2.2.2.1 s76.2.2.1 s76.2.1 s76.1) v91 (h124.mono (upI.tr ((i129.tr i134).tr i140))) v87 (h130.mono (upI.tr (i134.tr i140))) v82 (h135.mono (upI.tr i140)) v77 (h141.mono upI) v119 x116.all (h120.mono (upI.tr ((((i98.tr i123).tr i129).tr i134).tr i140))) hr144) ?_
          rintro e w146 ⟨H145, v151, n152, cs153, v155, n156, cs157, rfl, r148, els154, els158⟩
          refine ⟨_, rfl, ?_⟩
          obtain ⟨H149, r148, hU150⟩ := St.lendX (((i123.tr i129).tr i134).tr i140) S109.sl r148
          have els154 := els154.mono (hU150.tr (up_le S109.size))
          have els158 := els158.mono (hU150.tr (up_le S109.size))
          have S147 := S109.join (l' := [.row 3 1 v151 n152 cs153, .row 3 1 v155 n156 cs157, .row 80 3 v70 n71 cs72, .row 80 3 v77 n78 cs79, .row 47 1 v82 n83 cs84, .row 3 1 v87 n88 cs89, .row 47 1 v91 n92 cs93, .box b41 73 [v91, v87, v82, v77], .box b29 73 [(Value.slice none 0 0), (Value.slice none 0 0), (Value.slice none 0 0), (Value.slice none 0 0)], .row 80 3 (Value.slice none 0 0) 0 [], .row 47 1 (Value.slice none 0 0) 0 [], .row 3 1 (Value.slice none 0 0) 0 [], .row 47 1 (Value.slice none 0 0) 0 []]) r148 rfl
          refine ⟨(SP.nil ⟨_, (S147.sel [2, 7] (by decide) rfl), r148.run.inc⟩), ?_⟩
          refine FB.t (i := 8) (bs 13 511) rfl (SP.nil ⟨_, (S147.sel [2, 7] (by decide) rfl), r148.run.inc⟩) rfl (fun w' hw' => (E.move (v := Value.tuple #[v151, v155]) rfl)) ?_
          refine FB.t (i := 9) (bs 13 1023) rfl (SP.nil ⟨_, (S147.sel [2, 7] (by decide) rfl), r148.run.inc⟩) rfl (fun w' hw' => (E.extract (i := 0) rfl rfl)) ?_
          refine FB.t (i := 10) (bs 13 2047) rfl (SP.nil ⟨_, (S147.sel [2, 7] (by decide) rfl), r148.run.inc⟩) rfl (fun w' hw' => (E.extract (i := 1) rfl rfl)) ?_
          refine FB.t (i := 11) (bs 13 4095) rfl (SP.nil ⟨_, (S147.sel [2, 7] (by decide) rfl), r148.run.inc⟩) rfl (fun w' hw' => (E.assign (v := v151) rfl)) ?_
          refine FB.t (i := 12) (bs 13 8191) rfl (SP.nil ⟨_, (S147.sel [2, 7] (by decide) rfl), r148.run.inc⟩) rfl (fun w' hw' => (E.assign (v := v155) rfl)) ?_
          exact FB.done (by kernel_rfl) ⟨_, _, _, _, _, _, _, (S147.sel [2, 3, 4, 5, 6, 7, 8, 9, 10, 11, 12, 0, 1] (by decide) rfl), r148.run.inc, els154, els158, k101, k102, k103, k104, k105, rfl, rfl⟩
      ·
        rintro f171 w170 ⟨H167, v159, n160, cs161, v163, n164, cs165, S168, i169, els162, els166, k172, k173, k174, k175, k176, k177, k178⟩
        refine FW.seq (FW.region ?_)
        refine FL.v (E.move k177) ?_
        obtain ⟨H179, S180, i181, h182, nv183⟩ := S168.sealRowU (i := 11) (l' := [.row 80 3 v70 n71 cs72, .row 80 3 v77 n78 cs79, .row 47 1 v82 n83 cs84, .row 3 1 v87 n88 cs89, .row 47 1 v91 n92 cs93, .box b41 73 [v91, v87, v82, v77], .box b29 73 [(Value.slice none 0 0), (Value.slice none 0 0), (Value.slice none 0 0), (Value.slice none 0 0)], .row 80 3 (Value.slice none 0 0) 0 [], .row 47 1 (Value.slice none 0 0) 0 [], .row 3 1 (Value.slice none 0 0) 0 [], .row 47 1 (Value.slice none 0 0) 0 [], .row 3 1 v163 n164 cs165]) rfl els162 (by decide) rfl
        obtain ⟨r184, hr185, hp⟩ := bnd hp
        refine FL.call rfl rfl rfl (E.call Try.call39 (A1 rfl)) (w_spec_l19Lead S180.sl v159 r143.1 (h182.mono upI) hr185) ?_
        rintro e w186 ⟨rfl, r187⟩
        refine ⟨_, rfl, ?_⟩
        have r187 := Run.lend i181 S168.sl r187
        have S188 := S168.call r187
        refine FL.v (E.assign (v := Value.int .i64 r184) rfl) ?_
        refine FL.nil (FW.seq (FW.seq (FW.region ?_)))
        refine FL.v (E.move (v := Value.int .i64 r184) rfl) ?_
        refine FL.v (E.lss rfl rfl) ?_
        refine FL.nil ?_
        rcases ifB hp with ⟨c189, hp⟩ | ⟨c189, hp⟩
        ·
          refine FW.condT rfl c189 ?_
          refine FW.exit ?_
          refine FW.region ?_
          refine FL.v (E.move k176) ?_
          refine FL.v (E.add rfl rfl) ?_
          refine FL.v (E.assign (v := Value.int .i64 (wr (s76.2.2.2.2 + 1))) rfl) ?_
          refine FL.nil ?_
          obtain rfl := Option.some.inj hp
          exact ⟨rfl, ⟨_, _, _, _, _, _, _, _, _, _, _, _, _, (S188.sel [0, 1, 2, 3, 4, 5, 6, 7, 8, 9, 10] (by decide) rfl), (i98.tr i169), (els81.mono (up_mono i169)), (els85.mono (up_mono i169)), (els90.mono (up_mono i169)), (els94.mono (up_mono i169)), nd86, nd95, k172, k173, k174, k175, rfl⟩⟩
        ·
          refine FW.condF rfl c189 ?_
          refine FW.skip (FW.seq (FW.region ?_))
          refine FL.v (E.move k172) ?_
          refine FL.v (E.move k177) ?_
          refine FL.v (E.move (v := Value.int .i64 r184) rfl) ?_
          obtain ⟨x196, hx197, hp⟩ := bnd hp
          obtain ⟨p190, cs191, pt192, l193, at194, rel195⟩ := S188.row_at (i := 11) rfl els162 (by decide) hx197
          obtain rfl := eI_open rel195
          refine FL.v (E.indexAddr te47 rfl rfl pt192) ?_
          refine FL.v (E.load rfl (run_load0 Try.isAgg3 at194 rfl)) ?_
          obtain ⟨r198, hr199, hp⟩ := bnd hp
          refine FL.call rfl rfl rfl (E.call Try.call57 (A2 rfl rfl)) (w_spec_l19Invert S188.sl a0 x196 hr199) ?_
          rintro e w200 ⟨rfl, r201⟩
          refine ⟨_, rfl, ?_⟩
          have S202 := S188.call r201
          refine FL.v (E.assign (v := Value.int .i64 r198) rfl) ?_
          refine FL.nil (FW.seq (FW.seq (FW.region ?_)))
          refine FL.v (E.assign (v := Value.int .i64 0) rfl) ?_
          refine FL.nil ?_
          obtain ⟨q203, hq, hp⟩ := bndR hp
          refine FW.block ?_
          refine FW.mono (FW.iter (S := ((List Int) × Int)) (X := Empty) (fun (s203 : ((List Int) × Int)) f w => ∃ H : GH, ∃ v204 : Value, ∃ n205 : Nat, ∃ cs206 : List Value, St Ha wa H w [.row 80 3 v70 n71 cs72, .row 80 3 v77 n78 cs79, .row 47 1 v82 n83 cs84, .row 3 1 v87 n88 cs89, .row 47 1 v91 n92 cs93, .box b41 73 [v91, v87, v82, v77], .box b29 73 [(Value.slice none 0 0), (Value.slice none 0 0), (Value.slice none 0 0), (Value.slice none 0 0)], .row 80 3 (Value.slice none 0 0) 0 [], .row 47 1 (Value.slice none 0 0) 0 [], .row 3 1 (Value.slice none 0 0) 0 [], .row 47 1 (Value.slice none 0 0) 0 [], .row 3 1 v204 n205 cs206, .row 3 1 v163 n164 cs165] ∧ Inc H167 H ∧ Els (up wa.heap.size H) eI 1 cs206 s203.1 ∧ f 0 = Value.int .i64 a0 ∧ f 6 = Value.pointer (some (⟨b29, 0, none⟩ : Addr)) ∧ f 7 = Value.pointer (some (⟨b41, 0, none⟩ : Addr)) ∧ f 8 = v70 ∧ f 9 = Value.int .i64 s76.2.2.2.2 ∧ f 10 = v204 ∧ f 11 = v163 ∧ f 12 = Value.int .i64 r184 ∧ f 13 = Value.int .i64 r198 ∧ f 14 = Value.int .i64 s203.2) (fun (q : Rs ((List Int) × Int) Empty) e f w => match q with | .go s203 => e = Exit.exit 2 ∧ (∃ H : GH, ∃ v204 : Value, ∃ n205 : Nat, ∃ cs206 : List Value, St Ha wa H w [.row 80 3 v70 n71 cs72, .row 80 3 v77 n78 cs79, .row 47 1 v82 n83 cs84, .row 3 1 v87 n88 cs89, .row 47 1 v91 n92 cs93, .box b41 73 [v91, v87, v82, v77], .box b29 73 [(Value.slice none 0 0), (Value.slice none 0 0), (Value.slice none 0 0), (Value.slice none 0 0)], .row 80 3 (Value.slice none 0 0) 0 [], .row 47 1 (Value.slice none 0 0) 0 [], .row 3 1 (Value.slice none 0 0) 0 [], .row 47 1 (Value.slice none 0 0) 0 [], .row 3 1 v204 n205 cs206, .row 3 1 v163 n164 cs165] ∧ Inc H167 H ∧ Els (up wa.heap.size H) eI 1 cs206 s203.1 ∧ f 0 = Value.int .i64 a0 ∧ f 6 = Value.pointer (some (⟨b29, 0, none⟩ : Addr)) ∧ f 7 = Value.pointer (some (⟨b41, 0, none⟩ : Addr)) ∧ f 8 = v70 ∧ f 9 = Value.int .i64 s76.2.2.2.2 ∧ f 10 = v204 ∧ f 11 = v163 ∧ f 12 = Value.int .i64 r184 ∧ f 13 = Value.int .i64 r198) | .rt x => x.elim) hq ⟨_, _, _, _, S202, (Inc.rfl _), els162, k172, k173, k174, k175, k176, k177, k178, rfl, rfl, rfl⟩ ?_) ?_
          ·
            clear hp hq
            rintro s203 f212 w211 ⟨H208, v204, n205, cs206, S209, i210, els207, k213, k214, k215, k216, k217, k218, k219, k220, k221, k222⟩ o250 hp
            refine FW.seq (FW.seq (FW.region ?_))
            refine FL.v (E.move k222) ?_
            refine FL.v (E.move k218) ?_
            refine FL.v (E.lenO te47 rfl S209 (i := 11) rfl els207 (by decide)) ?_
            refine FL.v (E.lss rfl rfl) ?_
            refine FL.nil ?_
            rcases ifB hp with ⟨c223, hp⟩ | ⟨c223, hp⟩
            ·
              refine FW.condT rfl c223 ?_
              refine FW.skip (FW.seq (FW.block (FW.region ?_)))
              refine FL.v (E.move k218) ?_
              refine FL.v (E.move k222) ?_
              refine FL.v (E.move k218) ?_
              refine FL.v (E.move k222) ?_
              obtain ⟨x230, hx231, hp⟩ := bnd hp
              obtain ⟨p224, cs225, pt226, l227, at228, rel229⟩ := S209.row_at (i := 11) rfl els207 (by decide) hx231
              obtain rfl := eI_open rel229
              refine FL.v (E.indexAddr te47 rfl rfl pt226) ?_
              refine FL.v (E.load rfl (run_load0 Try.isAgg3 at228 rfl)) ?_
              refine FL.v (E.move k221) ?_
              refine FL.v (E.mul rfl rfl) ?_
              refine FL.v (E.move k213) ?_
              obtain ⟨u233, z232, hp⟩ := bnd hp
              refine FL.v (E.rem rfl rfl (nz_ne z232)) ?_
              obtain ⟨x240, hx241, hp⟩ := bnd hp
              obtain ⟨p234, cs235, pt236, l237, at238, rel239⟩ := S209.row_at (i := 11) rfl els207 (by decide) hx241
              obtain rfl := eI_open rel239
              refine FL.v (E.indexAddr te47 rfl rfl pt236) ?_
              obtain ⟨xs245, hput246, hp⟩ := bnd hp
              obtain ⟨w242, cs248, run243, S244, els247, ce249⟩ := S209.putEls (P := Try.prog) (t := 3) (i := 11) rfl els207 hput246 pt236 Try.sizeOf3 (u := Value.int .i64 ((wr (x230 * r198)).tmod a0)) (c := [Value.int .i64 ((wr (x230 * r198)).tmod a0)]) rfl rfl (ones_cons rfl ones_nil) rfl
              have S244 : St Ha wa H208 w242 [.row 80 3 v70 n71 cs72, .row 80 3 v77 n78 cs79, .row 47 1 v82 n83 cs84, .row 3 1 v87 n88 cs89, .row 47 1 v91 n92 cs93, .box b41 73 [v91, v87, v82, v77], .box b29 73 [(Value.slice none 0 0), (Value.slice none 0 0), (Value.slice none 0 0), (Value.slice none 0 0)], .row 80 3 (Value.slice none 0 0) 0 [], .row 47 1 (Value.slice none 0 0) 0 [], .row 3 1 (Value.slice none 0 0) 0 [], .row 47 1 (Value.slice none 0 0) 0 [], .row 3 1 v204 n205 cs248, .row 3 1 v163 n164 cs165] := S244
              refine FL.act rfl rfl (E.store rfl rfl run243) ?_
              refine FL.nil (FW.region ?_)
              refine FL.v (E.move k222) ?_
              refine FL.v (E.add rfl rfl) ?_
              refine FL.v (E.assign (v := Value.int .i64 (wr (s203.2 + 1))) rfl) ?_
              refine FL.nil ?_
              obtain rfl := Option.some.inj hp
              exact ⟨rfl, ⟨_, _, _, _, S244, i210, els247, k213, k214, k215, k216, k217, k218, k219, k220, k221, rfl⟩⟩
            ·
              refine FW.condF rfl c223 ?_
              refine FW.exit ?_
              obtain rfl := Option.some.inj hp
              exact ⟨nofun, rfl, ⟨_, _, _, _, S209, i210, els207, k213, k214, k215, k216, k217, k218, k219, k220, k221⟩⟩
          ·
            clear hq
            intro e f255 w254 hD
            rcases q203 with s203 | x203
            ·
              obtain ⟨rfl, hD⟩ := hD
              obtain ⟨H251, v204, n205, cs206, S252, i253, els207, k256, k257, k258, k259, k260, k261, k262, k263, k264⟩ := hD
              replace hp := el_go hp
              refine FW.seq (FW.seq (FW.region ?_))
              refine FL.v (E.assign (v := Value.int .i64 0) rfl) ?_
              refine FL.nil ?_
              obtain ⟨q265, hq, hp⟩ := bndR hp
              refine FW.block ?_
              refine FW.mono (FW.iter (S := ((List Int) × Int)) (X := Empty) (fun (s265 : ((List Int) × Int)) f w => ∃ H : GH, ∃ v266 : Value, ∃ n267 : Nat, ∃ cs268 : List Value, St Ha wa H w [.row 80 3 v70 n71 cs72, .row 80 3 v77 n78 cs79, .row 47 1 v82 n83 cs84, .row 3 1 v87 n88 cs89, .row 47 1 v91 n92 cs93, .box b41 73 [v91, v87, v82, v77], .box b29 73 [(Value.slice none 0 0), (Value.slice none 0 0), (Value.slice none 0 0), (Value.slice none 0 0)], .row 80 3 (Value.slice none 0 0) 0 [], .row 47 1 (Value.slice none 0 0) 0 [], .row 3 1 (Value.slice none 0 0) 0 [], .row 47 1 (Value.slice none 0 0) 0 [], .row 3 1 v204 n205 cs206, .row 3 1 v266 n267 cs268] ∧ Inc H251 H ∧ Els (up wa.heap.size H) eI 1 cs268 s265.1 ∧ f 0 = Value.int .i64 a0 ∧ f 6 = Value.pointer (some (⟨b29, 0, none⟩ : Addr)) ∧ f 7 = Value.pointer (some (⟨b41, 0, none⟩ : Addr)) ∧ f 8 = v70 ∧ f 9 = Value.int .i64 s76.2.2.2.2 ∧ f 10 = v204 ∧ f 11 = v266 ∧ f 12 = Value.int .i64 r184 ∧ f 13 = Value.int .i64 r198 ∧ f 15 = Value.int .i64 s265.2) (fun (q : Rs ((List Int) × Int) Empty) e f w => match q with | .go s265 => e = Exit.exit 4 ∧ (∃ H : GH, ∃ v266 : Value, ∃ n267 : Nat, ∃ cs268 : List Value, St Ha wa H w [.row 80 3 v70 n71 cs72, .row 80 3 v77 n78 cs79, .row 47 1 v82 n83 cs84, .row 3 1 v87 n88 cs89, .row 47 1 v91 n92 cs93, .box b41 73 [v91, v87, v82, v77], .box b29 73 [(Value.slice none 0 0), (Value.slice none 0 0), (Value.slice none 0 0), (Value.slice none 0 0)], .row 80 3 (Value.slice none 0 0) 0 [], .row 47 1 (Value.slice none 0 0) 0 [], .row 3 1 (Value.slice none 0 0) 0 [], .row 47 1 (Value.slice none 0 0) 0 [], .row 3 1 v204 n205 cs206, .row 3 1 v266 n267 cs268] ∧ Inc H251 H ∧ Els (up wa.heap.size H) eI 1 cs268 s265.1 ∧ f 0 = Value.int .i64 a0 ∧ f 6 = Value.pointer (some (⟨b29, 0, none⟩ : Addr)) ∧ f 7 = Value.pointer (some (⟨b41, 0, none⟩ : Addr)) ∧ f 8 = v70 ∧ f 9 = Value.int .i64 s76.2.2.2.2 ∧ f 10 = v204 ∧ f 11 = v266 ∧ f 12 = Value.int .i64 r184 ∧ f 13 = Value.int .i64 r198) | .rt x => x.elim) hq ⟨_, _, _, _, S252, (Inc.rfl _), (els166.mono (up_mono i253)), k256, k257, k258, k259, k260, k261, k262, k263, k264, rfl⟩ ?_) ?_
              ·
                clear hp hq
                rintro s265 f274 w273 ⟨H270, v266, n267, cs268, S271, i272, els269, k275, k276, k277, k278, k279, k280, k281, k282, k283, k284⟩ o312 hp
                refine FW.seq (FW.seq (FW.region ?_))
                refine FL.v (E.move k284) ?_
                refine FL.v (E.move k281) ?_
                refine FL.v (E.lenO te47 rfl S271 (i := 12) rfl els269 (by decide)) ?_
                refine FL.v (E.lss rfl rfl) ?_
                refine FL.nil ?_
                rcases ifB hp with ⟨c285, hp⟩ | ⟨c285, hp⟩
                ·
                  refine FW.condT rfl c285 ?_
                  refine FW.skip (FW.seq (FW.block (FW.region ?_)))
                  refine FL.v (E.move k281) ?_
                  refine FL.v (E.move k284) ?_
                  refine FL.v (E.move k275) ?_
                  refine FL.v (E.move k281) ?_
                  refine FL.v (E.move k284) ?_
                  obtain ⟨x292, hx293, hp⟩ := bnd hp
                  obtain ⟨p286, cs287, pt288, l289, at290, rel291⟩ := S271.row_at (i := 12) rfl els269 (by decide) hx293
                  obtain rfl := eI_open rel291
                  refine FL.v (E.indexAddr te47 rfl rfl pt288) ?_
                  refine FL.v (E.load rfl (run_load0 Try.isAgg3 at290 rfl)) ?_
                  refine FL.v (E.sub rfl rfl) ?_
                  refine FL.v (E.move k283) ?_
                  refine FL.v (E.mul rfl rfl) ?_
                  refine FL.v (E.move k275) ?_
                  obtain ⟨u295, z294, hp⟩ := bnd hp
                  refine FL.v (E.rem rfl rfl (nz_ne z294)) ?_
                  obtain ⟨x302, hx303, hp⟩ := bnd hp
                  obtain ⟨p296, cs297, pt298, l299, at300, rel301⟩ := S271.row_at (i := 12) rfl els269 (by decide) hx303
                  obtain rfl := eI_open rel301
                  refine FL.v (E.indexAddr te47 rfl rfl pt298) ?_
                  obtain ⟨xs307, hput308, hp⟩ := bnd hp
                  obtain ⟨w304, cs310, run305, S306, els309, ce311⟩ := S271.putEls (P := Try.prog) (t := 3) (i := 12) rfl els269 hput308 pt298 Try.sizeOf3 (u := Value.int .i64 ((wr ((wr (a0 - x292)) * r198)).tmod a0)) (c := [Value.int .i64 ((wr ((wr (a0 - x292)) * r198)).tmod a0)]) rfl rfl (ones_cons rfl ones_nil) rfl
                  have S306 : St Ha wa H270 w304 [.row 80 3 v70 n71 cs72, .row 80 3 v77 n78 cs79, .row 47 1 v82 n83 cs84, .row 3 1 v87 n88 cs89, .row 47 1 v91 n92 cs93, .box b41 73 [v91, v87, v82, v77], .box b29 73 [(Value.slice none 0 0), (Value.slice none 0 0), (Value.slice none 0 0), (Value.slice none 0 0)], .row 80 3 (Value.slice none 0 0) 0 [], .row 47 1 (Value.slice none 0 0) 0 [], .row 3 1 (Value.slice none 0 0) 0 [], .row 47 1 (Value.slice none 0 0) 0 [], .row 3 1 v204 n205 cs206, .row 3 1 v266 n267 cs310] := S306
                  refine FL.act rfl rfl (E.store rfl rfl run305) ?_
                  refine FL.nil (FW.region ?_)
                  refine FL.v (E.move k284) ?_
                  refine FL.v (E.add rfl rfl) ?_
                  refine FL.v (E.assign (v := Value.int .i64 (wr (s265.2 + 1))) rfl) ?_
                  refine FL.nil ?_
                  obtain rfl := Option.some.inj hp
                  exact ⟨rfl, ⟨_, _, _, _, S306, i272, els309, k275, k276, k277, k278, k279, k280, k281, k282, k283, rfl⟩⟩
                ·
                  refine FW.condF rfl c285 ?_
                  refine FW.exit ?_
                  obtain rfl := Option.some.inj hp
                  exact ⟨nofun, rfl, ⟨_, _, _, _, S271, i272, els269, k275, k276, k277, k278, k279, k280, k281, k282, k283⟩⟩
              ·
                clear hq
                intro e f317 w316 hD
                rcases q265 with s265 | x265
                ·
                  obtain ⟨rfl, hD⟩ := hD
                  obtain ⟨H313, v266, n267, cs268, S314, i315, els269, k318, k319, k320, k321, k322, k323, k324, k325, k326⟩ := hD
                  replace hp := el_go hp
                  refine FW.seq (FW.region ?_)
                  refine FL.v (E.fieldAddr tf73_0 k320) ?_
                  refine FL.v (E.load rfl (run_load1 Try.isAgg22 (S314.box_now (i := 5) rfl) rfl)) ?_
                  refine FL.v (E.move k323) ?_
                  obtain ⟨H327, S328, i329, h330, nv331⟩ := S314.sealRowU (i := 11) (l' := [.row 80 3 v70 n71 cs72, .row 80 3 v77 n78 cs79, .row 47 1 v82 n83 cs84, .row 3 1 v87 n88 cs89, .row 47 1 v91 n92 cs93, .box b41 73 [v91, v87, v82, v77], .box b29 73 [(Value.slice none 0 0), (Value.slice none 0 0), (Value.slice none 0 0), (Value.slice none 0 0)], .row 80 3 (Value.slice none 0 0) 0 [], .row 47 1 (Value.slice none 0 0) 0 [], .row 3 1 (Value.slice none 0 0) 0 [], .row 47 1 (Value.slice none 0 0) 0 [], .row 3 1 v266 n267 cs268]) rfl (els207.mono (up_mono i315)) (by decide) rfl
                  obtain ⟨v332, w333, run334, S335⟩ := S328.buildSlice (P := Try.prog) te22 [v204] (parts := #[(0, v204)]) (cells := [v204]) rfl (szs_cons (cells_size h330.cells) szs_nil) (fc_cons h330.cells fc_nil) (ones_cons h330.one ones_nil) (Nat.le_of_ble_eq_true rfl)
                  have els336 : Els (up wa.heap.size H327) (eL eI 1) 1 [v204] [s203.1] := (Els.snoc (H := (up wa.heap.size H327)) (E := (eL eI 1)) (k := 1) (c := [v204]) (x := s203.1) Els.nil rfl ⟨_, rfl, h330⟩)
                  have nd337 : (bl [v204]).Nodup := by exact nd_one v204
                  refine FL.v (E.buildSlice (B1 rfl) run334) ?_
                  obtain ⟨xs338, hz339, hp⟩ := bnd hp
                  obtain ⟨v340, w343, n341, cs342, run344, S345, els346, ce347⟩ := S335.appendO (P := Try.prog) te22 (i := 5) (j := 0) rfl (els94.mono (up_mono (((i169.tr i253).tr i315).tr i329))) rfl els336 hz339
                  have S345 : St Ha wa H327 w343 [.row 47 1 v332 1 [v204], .row 80 3 v70 n71 cs72, .row 80 3 v77 n78 cs79, .row 47 1 v82 n83 cs84, .row 3 1 v87 n88 cs89, .row 47 1 v340 n341 cs342, .box b41 73 [v91, v87, v82, v77], .box b29 73 [(Value.slice none 0 0), (Value.slice none 0 0), (Value.slice none 0 0), (Value.slice none 0 0)], .row 80 3 (Value.slice none 0 0) 0 [], .row 47 1 (Value.slice none 0 0) 0 [], .row 3 1 (Value.slice none 0 0) 0 [], .row 47 1 (Value.slice none 0 0) 0 [], .row 3 1 v266 n267 cs268] := S345
                  have nd348 : (bl cs342).Nodup := by rw [ce347]; exact nd_app nd95 nd337 (Els.dom (els94.mono (upI.tr ((i169.tr i253).tr i315)))) (by exact nv331)
                  have S349 : St Ha wa H327 w343 [.row 80 3 v70 n71 cs72, .row 80 3 v77 n78 cs79, .row 47 1 v82 n83 cs84, .row 3 1 v87 n88 cs89, .row 47 1 v340 n341 cs342, .box b41 73 [v91, v87, v82, v77], .box b29 73 [(Value.slice none 0 0), (Value.slice none 0 0), (Value.slice none 0 0), (Value.slice none 0 0)], .row 80 3 (Value.slice none 0 0) 0 [], .row 47 1 (Value.slice none 0 0) 0 [], .row 3 1 (Value.slice none 0 0) 0 [], .row 47 1 (Value.slice none 0 0) 0 [], .row 3 1 v266 n267 cs268] := S345.drop 0
                  refine FL.v (E.append rfl rfl run344) ?_
                  refine FL.v (E.fieldAddr tf73_0 k320) ?_
                  obtain ⟨w350, run351, S352⟩ := S349.store (P := Try.prog) (t := 22) (i := 5) (j := 0) (cs' := [v340, v87, v82, v77]) (l' := [.row 80 3 v70 n71 cs72, .row 80 3 v77 n78 cs79, .row 47 1 v82 n83 cs84, .row 3 1 v87 n88 cs89, .row 47 1 v340 n341 cs342, .box b41 73 [v340, v87, v82, v77], .box b29 73 [(Value.slice none 0 0), (Value.slice none 0 0), (Value.slice none 0 0), (Value.slice none 0 0)], .row 80 3 (Value.slice none 0 0) 0 [], .row 47 1 (Value.slice none 0 0) 0 [], .row 3 1 (Value.slice none 0 0) 0 [], .row 47 1 (Value.slice none 0 0) 0 [], .row 3 1 v266 n267 cs268]) (v := v340) (c := [v340]) rfl Try.sizeOf22 (Ln.cells (S349.row_ln (i := 4) rfl)) rfl (ones_cons (Ln.one (S349.row_ln (i := 4) rfl)) ones_nil) (Nat.le_of_ble_eq_true rfl) rfl rfl
                  refine FL.act rfl rfl (E.store rfl rfl run351) ?_
                  refine FL.nil (FW.seq (FW.region ?_))
                  refine FL.v (E.fieldAddr tf73_1 k320) ?_
                  refine FL.v (E.load rfl (run_load1 Try.isAgg47 (S352.box_now (i := 5) rfl) rfl)) ?_
                  refine FL.v (E.move k325) ?_
                  obtain ⟨v353, w354, run355, S356⟩ := S352.buildSlice (P := Try.prog) te47 [Value.int .i64 r184] (parts := #[(0, Value.int .i64 r184)]) (cells := [Value.int .i64 r184]) rfl (szs_cons rfl szs_nil) (fc_cons rfl fc_nil) (ones_cons rfl ones_nil) (Nat.le_of_ble_eq_true rfl)
                  have els357 : Els (up wa.heap.size H327) eI 1 [Value.int .i64 r184] [r184] := (Els.snoc (H := (up wa.heap.size H327)) (E := eI) (k := 1) (c := [Value.int .i64 r184]) (x := r184) Els.nil rfl rfl)
                  refine FL.v (E.buildSlice (B1 rfl) run355) ?_
                  obtain ⟨xs358, hz359, hp⟩ := bnd hp
                  obtain ⟨v360, w363, n361, cs362, run364, S365, els366, ce367⟩ := S356.appendO (P := Try.prog) te47 (i := 4) (j := 0) rfl (els90.mono (up_mono (((i169.tr i253).tr i315).tr i329))) rfl els357 hz359
                  have S365 : St Ha wa H327 w363 [.row 3 1 v353 1 [Value.int .i64 r184], .row 80 3 v70 n71 cs72, .row 80 3 v77 n78 cs79, .row 47 1 v82 n83 cs84, .row 3 1 v360 n361 cs362, .row 47 1 v340 n341 cs342, .box b41 73 [v340, v87, v82, v77], .box b29 73 [(Value.slice none 0 0), (Value.slice none 0 0), (Value.slice none 0 0), (Value.slice none 0 0)], .row 80 3 (Value.slice none 0 0) 0 [], .row 47 1 (Value.slice none 0 0) 0 [], .row 3 1 (Value.slice none 0 0) 0 [], .row 47 1 (Value.slice none 0 0) 0 [], .row 3 1 v266 n267 cs268] := S365
                  have S368 : St Ha wa H327 w363 [.row 80 3 v70 n71 cs72, .row 80 3 v77 n78 cs79, .row 47 1 v82 n83 cs84, .row 3 1 v360 n361 cs362, .row 47 1 v340 n341 cs342, .box b41 73 [v340, v87, v82, v77], .box b29 73 [(Value.slice none 0 0), (Value.slice none 0 0), (Value.slice none 0 0), (Value.slice none 0 0)], .row 80 3 (Value.slice none 0 0) 0 [], .row 47 1 (Value.slice none 0 0) 0 [], .row 3 1 (Value.slice none 0 0) 0 [], .row 47 1 (Value.slice none 0 0) 0 [], .row 3 1 v266 n267 cs268] := S365.drop 0
                  refine FL.v (E.append rfl rfl run364) ?_
                  refine FL.v (E.fieldAddr tf73_1 k320) ?_
                  obtain ⟨w369, run370, S371⟩ := S368.store (P := Try.prog) (t := 47) (i := 5) (j := 1) (cs' := [v340, v360, v82, v77]) (l' := [.row 80 3 v70 n71 cs72, .row 80 3 v77 n78 cs79, .row 47 1 v82 n83 cs84, .row 3 1 v360 n361 cs362, .row 47 1 v340 n341 cs342, .box b41 73 [v340, v360, v82, v77], .box b29 73 [(Value.slice none 0 0), (Value.slice none 0 0), (Value.slice none 0 0), (Value.slice none 0 0)], .row 80 3 (Value.slice none 0 0) 0 [], .row 47 1 (Value.slice none 0 0) 0 [], .row 3 1 (Value.slice none 0 0) 0 [], .row 47 1 (Value.slice none 0 0) 0 [], .row 3 1 v266 n267 cs268]) (v := v360) (c := [v360]) rfl Try.sizeOf47 (Ln.cells (S368.row_ln (i := 3) rfl)) rfl (ones_cons (Ln.one (S368.row_ln (i := 3) rfl)) ones_nil) (Nat.le_of_ble_eq_true rfl) rfl rfl
                  refine FL.act rfl rfl (E.store rfl rfl run370) ?_
                  refine FL.nil (FW.seq ?_)
                  obtain ⟨xs380, hz381, hp⟩ := bnd hp
                  obtain ⟨xs402, hz403, hp⟩ := bnd hp
                  refine FW.drawB (Sl H327) (fun f w => ∃ H : GH, ∃ v417 : Value, ∃ n418 : Nat, ∃ cs419 : List Value, St Ha wa H w [.row 80 3 v70 n71 cs72, .row 80 3 v77 n78 cs79, .row 47 1 v417 n418 cs419, .row 3 1 v360 n361 cs362, .row 47 1 v340 n341 cs342, .box b41 73 [v340, v360, v417, v77], .box b29 73 [(Value.slice none 0 0), (Value.slice none 0 0), (Value.slice none 0 0), (Value.slice none 0 0)], .row 80 3 (Value.slice none 0 0) 0 [], .row 47 1 (Value.slice none 0 0) 0 [], .row 3 1 (Value.slice none 0 0) 0 [], .row 47 1 (Value.slice none 0 0) 0 []] ∧ Inc H327 H ∧ Els (up wa.heap.size H) (eL eI 1) 1 cs419 xs402 ∧ (bl cs419).Nodup ∧ f 0 = Value.int .i64 a0 ∧ f 6 = Value.pointer (some (⟨b29, 0, none⟩ : Addr)) ∧ f 7 = Value.pointer (some (⟨b41, 0, none⟩ : Addr)) ∧ f 8 = v70 ∧ f 9 = Value.int .i64 s76.2.2.2.2) (by kernel_rfl) S371.sl ?_ ?_
                  ·
                    intro w372 r373
                    have S374 := S371.call r373
                    refine FB.phase [9] (fun w => WAt w (Addr.add ⟨b41, 0, none⟩ 2) [v82]) ?_
                    refine FB.t (i := 0) (bs 10 1) rfl (SP.on ((S374.box_now (i := 5) rfl).sub (j := 2) (n := 1) (c := [v82]) rfl) (SP.nil S374.sl)) rfl (fun w' hw' => (E.fieldAddr tf73_2 k320)) ?_
                    refine FB.p (i := 1) (bs 10 3) 0 [7, 8, 9] rfl (SP.on ((S374.box_now (i := 5) rfl).sub (j := 2) (n := 1) (c := [v82]) rfl) (SP.nil S374.sl)) rfl rfl (fun w' hw' => (E.load rfl (run_load0 Try.isAgg22 hw' rfl))) ?_
                    refine FB.t (i := 2) (bs 10 7) rfl (SP.on ((S374.box_now (i := 5) rfl).sub (j := 2) (n := 1) (c := [v82]) rfl) (SP.nil S374.sl)) rfl (fun w' hw' => (E.move k324)) ?_
                    refine FB.t (i := 3) (bs 10 15) rfl (SP.on ((S374.box_now (i := 5) rfl).sub (j := 2) (n := 1) (c := [v82]) rfl) (SP.nil S374.sl)) rfl (fun w' hw' => (E.move k326)) ?_
                    refine FB.all1 (i := 4) (by kernel_rfl) ?_
                    ·
                      obtain ⟨v375, w376, run377, S378⟩ := S374.buildSlice (P := Try.prog) te47 [Value.int .i64 r198] (parts := #[(0, Value.int .i64 r198)]) (cells := [Value.int .i64 r198]) rfl (szs_cons rfl szs_nil) (fc_cons rfl fc_nil) (ones_cons rfl ones_nil) (Nat.le_of_ble_eq_true rfl)
                      have els379 : Els (up wa.heap.size H327) eI 1 [Value.int .i64 r198] [r198] := (Els.snoc (H := (up wa.heap.size H327)) (E := eI) (k := 1) (c := [Value.int .i64 r198]) (x := r198) Els.nil rfl rfl)
                      refine FC.val (l' := (bs 10 31)) rfl (by kernel_rfl) rfl rfl rfl (E.buildSlice (B1 rfl) run377) ?_
                      refine ⟨(SP.on ((S378.box_now (i := 6) rfl).sub (j := 2) (n := 1) (c := [v82]) rfl) (SP.nil S378.sl)), ?_⟩
                      refine FB.all1 (i := 5) (by kernel_rfl) ?_
                      ·
                        obtain ⟨v382, w385, n383, cs384, run386, S387, els388, ce389⟩ := S378.appendO (P := Try.prog) te47 (i := 12) (j := 0) rfl (els269.mono (up_mono i329)) rfl els379 hz381
                        have S387 : St Ha wa H327 w385 [.row 3 1 v375 1 [Value.int .i64 r198], .row 80 3 v70 n71 cs72, .row 80 3 v77 n78 cs79, .row 47 1 v82 n83 cs84, .row 3 1 v360 n361 cs362, .row 47 1 v340 n341 cs342, .box b41 73 [v340, v360, v82, v77], .box b29 73 [(Value.slice none 0 0), (Value.slice none 0 0), (Value.slice none 0 0), (Value.slice none 0 0)], .row 80 3 (Value.slice none 0 0) 0 [], .row 47 1 (Value.slice none 0 0) 0 [], .row 3 1 (Value.slice none 0 0) 0 [], .row 47 1 (Value.slice none 0 0) 0 [], .row 3 1 v382 n383 cs384] := S387
                        have S390 : St Ha wa H327 w385 [.row 80 3 v70 n71 cs72, .row 80 3 v77 n78 cs79, .row 47 1 v82 n83 cs84, .row 3 1 v360 n361 cs362, .row 47 1 v340 n341 cs342, .box b41 73 [v340, v360, v82, v77], .box b29 73 [(Value.slice none 0 0), (Value.slice none 0 0), (Value.slice none 0 0), (Value.slice none 0 0)], .row 80 3 (Value.slice none 0 0) 0 [], .row 47 1 (Value.slice none 0 0) 0 [], .row 3 1 (Value.slice none 0 0) 0 [], .row 47 1 (Value.slice none 0 0) 0 [], .row 3 1 v382 n383 cs384] := S387.drop 0
                        refine FC.val (l' := (bs 10 63)) rfl (by kernel_rfl) rfl rfl rfl (E.append rfl rfl run386) ?_
                        refine ⟨(SP.on ((S390.box_now (i := 5) rfl).sub (j := 2) (n := 1) (c := [v82]) rfl) (SP.nil S390.sl)), ?_⟩
                        refine FB.all1 (i := 6) (by kernel_rfl) ?_
                        ·
                          obtain ⟨H391, S392, i393, h394, nv395⟩ := S390.sealRowU (i := 11) (l' := [.row 80 3 v70 n71 cs72, .row 80 3 v77 n78 cs79, .row 47 1 v82 n83 cs84, .row 3 1 v360 n361 cs362, .row 47 1 v340 n341 cs342, .box b41 73 [v340, v360, v82, v77], .box b29 73 [(Value.slice none 0 0), (Value.slice none 0 0), (Value.slice none 0 0), (Value.slice none 0 0)], .row 80 3 (Value.slice none 0 0) 0 [], .row 47 1 (Value.slice none 0 0) 0 [], .row 3 1 (Value.slice none 0 0) 0 [], .row 47 1 (Value.slice none 0 0) 0 []]) rfl els388 (by decide) rfl
                          obtain ⟨v396, w397, run398, S399⟩ := S392.buildSlice (P := Try.prog) te22 [v382] (parts := #[(0, v382)]) (cells := [v382]) rfl (szs_cons (cells_size h394.cells) szs_nil) (fc_cons h394.cells fc_nil) (ones_cons h394.one ones_nil) (Nat.le_of_ble_eq_true rfl)
                          have els400 : Els (up wa.heap.size H391) (eL eI 1) 1 [v382] [xs380] := (Els.snoc (H := (up wa.heap.size H391)) (E := (eL eI 1)) (k := 1) (c := [v382]) (x := xs380) Els.nil rfl ⟨_, rfl, h394⟩)
                          have nd401 : (bl [v382]).Nodup := by exact nd_one v382
                          refine FC.val (l' := (bs 10 127)) rfl (by kernel_rfl) rfl rfl rfl (E.buildSlice (B1 rfl) run398) ?_
                          refine ⟨(SP.on ((S399.box_now (i := 6) rfl).sub (j := 2) (n := 1) (c := [v82]) rfl) (SP.nil (Sl.of_inc i393 S399.sl))), ?_⟩
                          refine FB.all1 (i := 7) (by kernel_rfl) ?_
                          ·
                            obtain ⟨v404, w407, n405, cs406, run408, S409, els410, ce411⟩ := S399.appendO (P := Try.prog) te22 (i := 3) (j := 0) rfl (els85.mono (up_mono ((((i169.tr i253).tr i315).tr i329).tr i393))) rfl els400 hz403
                            have S409 : St Ha wa H391 w407 [.row 47 1 v396 1 [v382], .row 80 3 v70 n71 cs72, .row 80 3 v77 n78 cs79, .row 47 1 v404 n405 cs406, .row 3 1 v360 n361 cs362, .row 47 1 v340 n341 cs342, .box b41 73 [v340, v360, v82, v77], .box b29 73 [(Value.slice none 0 0), (Value.slice none 0 0), (Value.slice none 0 0), (Value.slice none 0 0)], .row 80 3 (Value.slice none 0 0) 0 [], .row 47 1 (Value.slice none 0 0) 0 [], .row 3 1 (Value.slice none 0 0) 0 [], .row 47 1 (Value.slice none 0 0) 0 []] := S409
                            have nd412 : (bl cs406).Nodup := by rw [ce411]; exact nd_app nd86 nd401 (Els.dom (els85.mono (upI.tr (((i169.tr i253).tr i315).tr i329)))) (by exact nv395)
                            have S413 : St Ha wa H391 w407 [.row 80 3 v70 n71 cs72, .row 80 3 v77 n78 cs79, .row 47 1 v404 n405 cs406, .row 3 1 v360 n361 cs362, .row 47 1 v340 n341 cs342, .box b41 73 [v340, v360, v82, v77], .box b29 73 [(Value.slice none 0 0), (Value.slice none 0 0), (Value.slice none 0 0), (Value.slice none 0 0)], .row 80 3 (Value.slice none 0 0) 0 [], .row 47 1 (Value.slice none 0 0) 0 [], .row 3 1 (Value.slice none 0 0) 0 [], .row 47 1 (Value.slice none 0 0) 0 []] := S409.drop 0
                            refine FC.val (l' := (bs 10 255)) rfl (by kernel_rfl) rfl rfl rfl (E.append rfl rfl run408) ?_
                            refine ⟨(SP.on ((S413.box_now (i := 5) rfl).sub (j := 2) (n := 1) (c := [v82]) rfl) (SP.nil (Sl.of_inc i393 S413.sl))), ?_⟩
                            refine FB.t (i := 8) (bs 10 511) rfl (SP.on ((S413.box_now (i := 5) rfl).sub (j := 2) (n := 1) (c := [v82]) rfl) (SP.nil (Sl.of_inc i393 S413.sl))) rfl (fun w' hw' => (E.fieldAddr tf73_2 k320)) ?_
                            refine FB.all1 (i := 9) (by kernel_rfl) ?_
                            ·
                              obtain ⟨w414, run415, S416⟩ := S413.store (P := Try.prog) (t := 22) (i := 5) (j := 2) (cs' := [v340, v360, v404, v77]) (l' := [.row 80 3 v70 n71 cs72, .row 80 3 v77 n78 cs79, .row 47 1 v404 n405 cs406, .row 3 1 v360 n361 cs362, .row 47 1 v340 n341 cs342, .box b41 73 [v340, v360, v404, v77], .box b29 73 [(Value.slice none 0 0), (Value.slice none 0 0), (Value.slice none 0 0), (Value.slice none 0 0)], .row 80 3 (Value.slice none 0 0) 0 [], .row 47 1 (Value.slice none 0 0) 0 [], .row 3 1 (Value.slice none 0 0) 0 [], .row 47 1 (Value.slice none 0 0) 0 []]) (v := v404) (c := [v404]) rfl Try.sizeOf22 (Ln.cells (S413.row_ln (i := 2) rfl)) rfl (ones_cons (Ln.one (S413.row_ln (i := 2) rfl)) ones_nil) (Nat.le_of_ble_eq_true rfl) rfl rfl
                              refine FC.act (l' := (bs 10 1023)) rfl (by kernel_rfl) rfl rfl (E.store rfl rfl run415) ?_
                              refine ⟨(SP.o (SP.nil (Sl.of_inc i393 S416.sl))), ?_⟩
                              exact FB.done (by kernel_rfl) ⟨_, _, _, _, S416, i393, els410, nd412, k318, k319, k320, k321, k322⟩
                  ·
                    rintro f426 w425 ⟨H422, v417, n418, cs419, S423, i424, els420, nd421, k427, k428, k429, k430, k431⟩
                    obtain ⟨x441, hx442, hp⟩ := bnd hp
                    obtain ⟨xs451, hz452, hp⟩ := bnd hp
                    refine FW.drawB (SX Ha wa H422 [.row 80 3 v70 n71 cs72]) (fun f w => ∃ H : GH, ∃ v465 : Value, ∃ n466 : Nat, ∃ cs467 : List Value, St Ha wa H w [.row 80 3 v70 n71 cs72, .row 80 3 v465 n466 cs467, .row 47 1 v417 n418 cs419, .row 3 1 v360 n361 cs362, .row 47 1 v340 n341 cs342, .box b41 73 [v340, v360, v417, v465], .box b29 73 [(Value.slice none 0 0), (Value.slice none 0 0), (Value.slice none 0 0), (Value.slice none 0 0)], .row 80 3 (Value.slice none 0 0) 0 [], .row 47 1 (Value.slice none 0 0) 0 [], .row 3 1 (Value.slice none 0 0) 0 [], .row 47 1 (Value.slice none 0 0) 0 []] ∧ Inc H422 H ∧ Els (up wa.heap.size H) el19Product 3 cs467 xs451 ∧ f 0 = Value.int .i64 a0 ∧ f 6 = Value.pointer (some (⟨b29, 0, none⟩ : Addr)) ∧ f 7 = Value.pointer (some (⟨b41, 0, none⟩ : Addr)) ∧ f 8 = v70 ∧ f 9 = Value.int .i64 s76.2.2.2.2) (by kernel_rfl) S423.sl ?_ ?_
                    ·
                      intro w432 r433
                      have S434 := S423.call r433
                      refine FB.phase [9] (fun w => WAt w (Addr.add ⟨b41, 0, none⟩ 3) [v77]) ?_
                      refine FB.t (i := 0) (bs 10 1) rfl (SP.on ((S434.box_now (i := 5) rfl).sub (j := 3) (n := 1) (c := [v77]) rfl) (SP.nil ⟨_, (S434.sel [0] (by decide) rfl), (Inc.rfl _)⟩)) rfl (fun w' hw' => (E.fieldAddr tf73_3 k429)) ?_
                      refine FB.p (i := 1) (bs 10 3) 0 [7, 8, 9] rfl (SP.on ((S434.box_now (i := 5) rfl).sub (j := 3) (n := 1) (c := [v77]) rfl) (SP.nil ⟨_, (S434.sel [0] (by decide) rfl), (Inc.rfl _)⟩)) rfl rfl (fun w' hw' => (E.load rfl (run_load0 Try.isAgg71 hw' rfl))) ?_
                      refine FB.t (i := 2) (bs 10 7) rfl (SP.on ((S434.box_now (i := 5) rfl).sub (j := 3) (n := 1) (c := [v77]) rfl) (SP.nil ⟨_, (S434.sel [0] (by decide) rfl), (Inc.rfl _)⟩)) rfl (fun w' hw' => (E.move k430)) ?_
                      refine FB.t (i := 3) (bs 10 15) rfl (SP.on ((S434.box_now (i := 5) rfl).sub (j := 3) (n := 1) (c := [v77]) rfl) (SP.nil ⟨_, (S434.sel [0] (by decide) rfl), (Inc.rfl _)⟩)) rfl (fun w' hw' => (E.move k431)) ?_
                      obtain ⟨p435, cs436, pt437, l438, at439, rel440, hall443⟩ := S434.row_atA (i := 0) rfl els73 (by decide) hx442
                      obtain ⟨v444, rfl, h445⟩ := el19Product_open rel440
                      refine FB.t (i := 4) (bs 10 31) rfl (SP.on ((S434.box_now (i := 5) rfl).sub (j := 3) (n := 1) (c := [v77]) rfl) (SP.nil ⟨_, (S434.sel [0] (by decide) rfl), (Inc.rfl _)⟩)) rfl (fun w' hw' => (E.indexAddr te71 rfl rfl pt437)) ?_
                      refine FB.t (i := 5) (bs 10 63) rfl (SP.on ((S434.box_now (i := 5) rfl).sub (j := 3) (n := 1) (c := [v77]) rfl) (SP.nil ⟨_, (S434.sel [0] (by decide) rfl), (Inc.rfl _)⟩)) rfl (fun w' hw' => (E.load rfl (run_loadA Try.isAgg80 Try.sizeOf80 (hw'.use fun _ st => hall443 _ _ _ 0 st rfl) rfl))) ?_
                      refine FB.all1 (i := 6) (by kernel_rfl) ?_
                      ·
                        obtain ⟨v446, w447, run448, S449⟩ := S434.buildSlice (P := Try.prog) te71 [Value.agg #[Value.int .i64 x441.clause, Value.int .i64 x441.mono, v444]] (parts := #[(0, Value.agg #[Value.int .i64 x441.clause, Value.int .i64 x441.mono, v444])]) (cells := [Value.int .i64 x441.clause, Value.int .i64 x441.mono, v444]) rfl (szs_cons rfl szs_nil) (fc_cons rfl fc_nil) (ones_cons rfl (ones_cons rfl (ones_cons h445.one ones_nil))) (Nat.le_of_ble_eq_true rfl)
                        have els450 : Els (up wa.heap.size H422) el19Product 3 [Value.int .i64 x441.clause, Value.int .i64 x441.mono, v444] [x441] := (Els.snoc (H := (up wa.heap.size H422)) (E := el19Product) (k := 3) (c := [Value.int .i64 x441.clause, Value.int .i64 x441.mono, v444]) (x := x441) Els.nil rfl ⟨_, rfl, (h445.mono (up_mono (((((i98.tr i169).tr i253).tr i315).tr i329).tr i424)))⟩)
                        refine FC.val (l' := (bs 10 127)) rfl (by kernel_rfl) rfl rfl rfl (E.buildSlice (B1 rfl) run448) ?_
                        refine ⟨(SP.on ((S449.box_now (i := 6) rfl).sub (j := 3) (n := 1) (c := [v77]) rfl) (SP.nil ⟨_, (S449.sel [1] (by decide) rfl), (Inc.rfl _)⟩)), ?_⟩
                        refine FB.all1 (i := 7) (by kernel_rfl) ?_
                        ·
                          obtain ⟨v453, w456, n454, cs455, run457, S458, els459, ce460⟩ := S449.appendO (P := Try.prog) te71 (i := 2) (j := 0) rfl (els81.mono (up_mono ((((i169.tr i253).tr i315).tr i329).tr i424))) rfl els450 hz452
                          have S458 : St Ha wa H422 w456 [.row 80 3 v446 1 [Value.int .i64 x441.clause, Value.int .i64 x441.mono, v444], .row 80 3 v70 n71 cs72, .row 80 3 v453 n454 cs455, .row 47 1 v417 n418 cs419, .row 3 1 v360 n361 cs362, .row 47 1 v340 n341 cs342, .box b41 73 [v340, v360, v417, v77], .box b29 73 [(Value.slice none 0 0), (Value.slice none 0 0), (Value.slice none 0 0), (Value.slice none 0 0)], .row 80 3 (Value.slice none 0 0) 0 [], .row 47 1 (Value.slice none 0 0) 0 [], .row 3 1 (Value.slice none 0 0) 0 [], .row 47 1 (Value.slice none 0 0) 0 []] := S458
                          have S461 : St Ha wa H422 w456 [.row 80 3 v70 n71 cs72, .row 80 3 v453 n454 cs455, .row 47 1 v417 n418 cs419, .row 3 1 v360 n361 cs362, .row 47 1 v340 n341 cs342, .box b41 73 [v340, v360, v417, v77], .box b29 73 [(Value.slice none 0 0), (Value.slice none 0 0), (Value.slice none 0 0), (Value.slice none 0 0)], .row 80 3 (Value.slice none 0 0) 0 [], .row 47 1 (Value.slice none 0 0) 0 [], .row 3 1 (Value.slice none 0 0) 0 [], .row 47 1 (Value.slice none 0 0) 0 []] := S458.drop 0
                          refine FC.val (l' := (bs 10 255)) rfl (by kernel_rfl) rfl rfl rfl (E.append rfl rfl run457) ?_
                          refine ⟨(SP.on ((S461.box_now (i := 5) rfl).sub (j := 3) (n := 1) (c := [v77]) rfl) (SP.nil ⟨_, (S461.sel [0] (by decide) rfl), (Inc.rfl _)⟩)), ?_⟩
                          refine FB.t (i := 8) (bs 10 511) rfl (SP.on ((S461.box_now (i := 5) rfl).sub (j := 3) (n := 1) (c := [v77]) rfl) (SP.nil ⟨_, (S461.sel [0] (by decide) rfl), (Inc.rfl _)⟩)) rfl (fun w' hw' => (E.fieldAddr tf73_3 k429)) ?_
                          refine FB.all1 (i := 9) (by kernel_rfl) ?_
                          ·
                            obtain ⟨w462, run463, S464⟩ := S461.store (P := Try.prog) (t := 71) (i := 5) (j := 3) (cs' := [v340, v360, v417, v453]) (l' := [.row 80 3 v70 n71 cs72, .row 80 3 v453 n454 cs455, .row 47 1 v417 n418 cs419, .row 3 1 v360 n361 cs362, .row 47 1 v340 n341 cs342, .box b41 73 [v340, v360, v417, v453], .box b29 73 [(Value.slice none 0 0), (Value.slice none 0 0), (Value.slice none 0 0), (Value.slice none 0 0)], .row 80 3 (Value.slice none 0 0) 0 [], .row 47 1 (Value.slice none 0 0) 0 [], .row 3 1 (Value.slice none 0 0) 0 [], .row 47 1 (Value.slice none 0 0) 0 []]) (v := v453) (c := [v453]) rfl Try.sizeOf71 (Ln.cells (S461.row_ln (i := 1) rfl)) rfl (ones_cons (Ln.one (S461.row_ln (i := 1) rfl)) ones_nil) (Nat.le_of_ble_eq_true rfl) rfl rfl
                            refine FC.act (l' := (bs 10 1023)) rfl (by kernel_rfl) rfl rfl (E.store rfl rfl run463) ?_
                            refine ⟨(SP.o (SP.nil ⟨_, (S464.sel [0] (by decide) rfl), (Inc.rfl _)⟩)), ?_⟩
                            exact FB.done (by kernel_rfl) ⟨_, _, _, _, S464, (Inc.rfl _), els459, k427, k428, k429, k430, k431⟩
                    ·
                      rintro f473 w472 ⟨H469, v465, n466, cs467, S470, i471, els468, k474, k475, k476, k477, k478⟩
                      refine FW.region ?_
                      refine FL.v (E.move k478) ?_
                      refine FL.v (E.add rfl rfl) ?_
                      refine FL.v (E.assign (v := Value.int .i64 (wr (s76.2.2.2.2 + 1))) rfl) ?_
                      refine FL.nil ?_
                      obtain rfl := Option.some.inj hp
                      exact ⟨rfl, ⟨_, _, _, _, _, _, _, _, _, _, _, _, _, S470, ((((((i98.tr i169).tr i253).tr i315).tr i329).tr i424).tr i471), els468, (els420.mono (up_mono i471)), (els366.mono (up_mono (i424.tr i471))), (els346.mono (up_mono (i424.tr i471))), nd421, nd348, k474, k475, k476, k477, rfl⟩⟩
                · exact x265.elim
            · exact x203.elim
    ·
      refine FW.condF rfl c106 ?_
      refine FW.exit ?_
      obtain rfl := Option.some.inj hp
      exact ⟨nofun, rfl, ⟨_, _, _, _, _, _, _, _, _, _, _, _, _, S97, i98, els81, els85, els90, els94, nd86, nd95, k102, k103⟩⟩
  ·
    clear hq
    intro e f484 w483 hD
    rcases q76 with s76 | x76
    ·
      obtain ⟨rfl, hD⟩ := hD
      obtain ⟨H480, v77, n78, cs79, v82, n83, cs84, v87, n88, cs89, v91, n92, cs93, S481, i482, els81, els85, els90, els94, nd86, nd95, k485, k486⟩ := hD
      replace hp := el_go hp
      refine FW.seq (FW.region ?_)
      refine FL.v (E.load k486 (run_loadA Try.isAgg73 Try.sizeOf73 (S481.box_now (i := 5) rfl) rfl)) ?_
      obtain ⟨w487, run488, S489⟩ := S481.store0 (P := Try.prog) (t := 73) (i := 6) (cs' := [v91, v87, v82, v77]) (l' := [.row 80 3 v70 n71 cs72, .row 80 3 v77 n78 cs79, .row 47 1 v82 n83 cs84, .row 3 1 v87 n88 cs89, .row 47 1 v91 n92 cs93, .box b41 73 [v91, v87, v82, v77], .box b29 73 [v91, v87, v82, v77], .row 80 3 (Value.slice none 0 0) 0 [], .row 47 1 (Value.slice none 0 0) 0 [], .row 3 1 (Value.slice none 0 0) 0 [], .row 47 1 (Value.slice none 0 0) 0 []]) (v := Value.agg #[v91, v87, v82, v77]) (c := [v91, v87, v82, v77]) rfl Try.sizeOf73 rfl rfl (ones_cons (Ln.one (S481.row_ln (i := 4) rfl)) (ones_cons (Ln.one (S481.row_ln (i := 3) rfl)) (ones_cons (Ln.one (S481.row_ln (i := 2) rfl)) (ones_cons (Ln.one (S481.row_ln (i := 1) rfl)) ones_nil)))) (Nat.le_of_ble_eq_true rfl) rfl rfl
      refine FL.act rfl rfl (E.store k485 rfl run488) ?_
      obtain ⟨H490, S491, i492, ns495, nv494⟩ := S489.sealRowN (i := 4) (l' := [.row 80 3 v70 n71 cs72, .row 80 3 v77 n78 cs79, .row 47 1 v82 n83 cs84, .row 3 1 v87 n88 cs89, .box b41 73 [v91, v87, v82, v77], .box b29 73 [v91, v87, v82, v77], .row 80 3 (Value.slice none 0 0) 0 [], .row 47 1 (Value.slice none 0 0) 0 [], .row 3 1 (Value.slice none 0 0) 0 [], .row 47 1 (Value.slice none 0 0) 0 []]) rfl els94 nd95 (by decide) rfl
      have h493 := ns495.rsl
      obtain ⟨H496, S497, i498, h499, nv500⟩ := S491.sealRowU (i := 3) (l' := [.row 80 3 v70 n71 cs72, .row 80 3 v77 n78 cs79, .row 47 1 v82 n83 cs84, .box b41 73 [v91, v87, v82, v77], .box b29 73 [v91, v87, v82, v77], .row 80 3 (Value.slice none 0 0) 0 [], .row 47 1 (Value.slice none 0 0) 0 [], .row 3 1 (Value.slice none 0 0) 0 [], .row 47 1 (Value.slice none 0 0) 0 []]) rfl (els90.mono (up_mono i492)) (by decide) rfl
      obtain ⟨H501, S502, i503, ns506, nv505⟩ := S497.sealRowN (i := 2) (l' := [.row 80 3 v70 n71 cs72, .row 80 3 v77 n78 cs79, .box b41 73 [v91, v87, v82, v77], .box b29 73 [v91, v87, v82, v77], .row 80 3 (Value.slice none 0 0) 0 [], .row 47 1 (Value.slice none 0 0) 0 [], .row 3 1 (Value.slice none 0 0) 0 [], .row 47 1 (Value.slice none 0 0) 0 []]) rfl (els85.mono (up_mono (i492.tr i498))) nd86 (by decide) rfl
      have h504 := ns506.rsl
      obtain ⟨H507, S508, i509, h510, nv511⟩ := S502.sealRowU (i := 1) (l' := [.row 80 3 v70 n71 cs72, .box b41 73 [v91, v87, v82, v77], .box b29 73 [v91, v87, v82, v77], .row 80 3 (Value.slice none 0 0) 0 [], .row 47 1 (Value.slice none 0 0) 0 [], .row 3 1 (Value.slice none 0 0) 0 [], .row 47 1 (Value.slice none 0 0) 0 []]) rfl (els81.mono (up_mono ((i492.tr i498).tr i503))) (by decide) rfl
      obtain ⟨H512, S513, i514, at515⟩ := S508.sealBox (i := 2) (l' := [.row 80 3 v70 n71 cs72, .box b41 73 [v91, v87, v82, v77], .row 80 3 (Value.slice none 0 0) 0 [], .row 47 1 (Value.slice none 0 0) 0 [], .row 3 1 (Value.slice none 0 0) 0 [], .row 47 1 (Value.slice none 0 0) 0 []]) rfl rfl
      refine FL.nil ?_
      refine FW.ret ?_
      obtain rfl := Option.some.inj hp
      exact ⟨.inr rfl, resC rfl k485 (loadVar_A Try.isAgg73 Try.sizeOf73 (at515.now S513.sl) rfl) ⟨_, _, _, _, _, rfl, S513.run, ⟨_, (ns495.mono (up_mono (((i498.tr i503).tr i509).tr i514)))⟩, (h499.mono (up_mono ((i503.tr i509).tr i514))), ⟨_, (ns506.mono (up_mono (i509.tr i514)))⟩, (h510.mono (up_mono i514))⟩⟩
    · exact x76.elim

@[reducible] def p_spec_l19Unit (Ha : GH) (wa : World) (r : (List Int)) : Ending → World → Prop :=
 fun e w' => ∃ H' : GH, ∃ v0 : Value, ∃ n0 : Nat, ∃ c0 : List Value, e = .returned (v0) ∧ St Ha wa H' w' [.row 3 1 v0 n0 c0] ∧ Els (up wa.heap.size H') eI 1 c0 r
theorem w_spec_l19Unit {Ha : GH} {wa : World} (hs : Sl Ha wa) (a0 : Int) {r : (List Int)} (hp : (PF.spec_l19Unit a0) = some r) :
  Calls Try.prog 38 #[Value.int .i64 a0] wa (p_spec_l19Unit Ha wa r) := by
 unfold PF.spec_l19Unit at hp
 have S0 := St.init hs
 refine calls_go (N := 10) (args := [Value.int .i64 a0]) Try.func38 rfl rfl rfl ?_
 refine FW.seq (FW.region ?_)
 refine FL.v (E.assign (v := Value.slice none 0 0) rfl) ?_
 refine FL.nil (FW.seq (FW.region ?_))
 refine FL.v (E.move (v := Value.int .i64 a0) rfl) ?_
 obtain ⟨u22, z21, hp⟩ := bnd hp
 refine FL.v (E.shl rfl rfl (nn_ge z21)) ?_
 obtain ⟨xs23, hm24, hp⟩ := bnd hp
 obtain ⟨v25, w26, n30, cs31, run27, S28, els29, hbl32⟩ := S0.makeEls (P := Try.prog) te47 (G := (up wa.heap.size Ha)) (En := eI) (x0 := (0 : Int)) hm24 rfl (ones_cons rfl ones_nil) .i64 .i64
 refine FL.v (E.makeSlice rfl rfl run27) ?_
 refine FL.v (E.assign (v := v25) rfl) ?_
 refine FL.nil (FW.seq (FW.region ?_))
 refine FL.v (E.move (v := v25) rfl) ?_
 obtain ⟨x39, hx40, hp⟩ := bnd hp
 obtain ⟨p33, cs34, pt35, l36, at37, rel38⟩ := S28.row_at (i := 0) rfl els29 (by decide) hx40
 obtain rfl := eI_open rel38
 refine FL.v (E.indexAddr te47 rfl rfl pt35) ?_
 obtain ⟨xs44, hput45, hp⟩ := bnd hp
 obtain ⟨w41, cs47, run42, S43, els46, ce48⟩ := S28.putEls (P := Try.prog) (t := 3) (i := 0) rfl els29 hput45 pt35 Try.sizeOf3 (u := Value.int .i64 1) (c := [Value.int .i64 1]) rfl rfl (ones_cons rfl ones_nil) rfl
 have S43 : St Ha wa Ha w41 [.row 3 1 v25 n30 cs47] := S43
 refine FL.act rfl rfl (E.store rfl rfl run42) ?_
 refine FL.nil (FW.seq (FW.region ?_))
 refine FL.v (E.move (v := v25) rfl) ?_
 refine FL.v (E.assign (v := v25) rfl) ?_
 refine FL.nil ?_
 refine FW.ret ?_
 obtain rfl := Option.some.inj hp
 exact ⟨.inr rfl, res1 rfl rfl ⟨_, _, _, _, rfl, S43, els46⟩⟩

end Go.Proofs
