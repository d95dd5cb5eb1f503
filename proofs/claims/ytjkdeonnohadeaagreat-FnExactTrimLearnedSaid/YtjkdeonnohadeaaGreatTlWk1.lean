/- Part of the walks and plain laws behind the claim: it proves helpers, under no condition beyond their own. -/
import Derived.Test.YtjkdeonnohadeaaGreatMr16
import Derived.Test.YtjkdeonnohadeaaGreatMr14
import Derived.Test.YtjkdeonnohadeaaGreatMr19
import Derived.Test.YtjkdeonnohadeaaGreatMr20
import Derived.Test.YtjkdeonnohadeaaGreatMr21
import Derived.Test.YtjkdeonnohadeaaGreatMr22
import Derived.Test.YtjkdeonnohadeaaGreatMr23
import Derived.Test.YtjkdeonnohadeaaGreatMr24
import Derived.Test.YtjkdeonnohadeaaGreatMr25
import Derived.Test.YtjkdeonnohadeaaGreatMr26
import Derived.Test.YtjkdeonnohadeaaGreatMr27
import Derived.Test.YtjkdeonnohadeaaGreatMr29
import Derived.Test.YtjkdeonnohadeaaGreatMr30
import Derived.Test.YtjkdeonnohadeaaGreatTlSh
import Derived.Test.YtjkdeonnohadeaaGreatTlPf
import Derived.Test.YtjkdeonnohadeaaGreatProg
set_option linter.unusedVariables false
set_option maxRecDepth 100000
namespace Go.Proofs
open Go.Mr Go.Pu Go.PF Go.RowKit

def eCnf : Enc Cnf := ⟨fun H cs s => ∃ v0, cs = [Value.int .i64 s.vars, v0] ∧ RSl H (eL eI 1) 1 v0 s.clauses, fun hi ⟨v0, h, h0⟩ => ⟨_, h, h0.mono hi⟩, by rintro H cs s ⟨v0, rfl, h0⟩; exact (ones_cons rfl (ones_cons h0.one ones_nil)), by rintro H cs s ⟨v0, rfl, h0⟩ b hb; obtain ⟨u, hu, hn⟩ := mem_bl hb; simp only [List.mem_cons, List.not_mem_nil, or_false] at hu; rcases hu with rfl | rfl <;> first | (cases hn; done) | exact h0.dom b (mem_bl1 hn)⟩
theorem eCnf_open {H : GH} {cs : List Value} {s : Cnf} (h : eCnf.rel H cs s) : ∃ v0, cs = [Value.int .i64 s.vars, v0] ∧ RSl H (eL eI 1) 1 v0 s.clauses := h

def eResStep : Enc ResStep := ⟨fun H cs s => ∃ v0, cs = [v0, Value.int .i64 s.left, Value.int .i64 s.right, Value.int .i64 s.pivot] ∧ RSl H eI 1 v0 s.clause, fun hi ⟨v0, h, h0⟩ => ⟨_, h, h0.mono hi⟩, by rintro H cs s ⟨v0, rfl, h0⟩; exact (ones_cons h0.one (ones_cons rfl (ones_cons rfl (ones_cons rfl ones_nil)))), by rintro H cs s ⟨v0, rfl, h0⟩ b hb; obtain ⟨u, hu, hn⟩ := mem_bl hb; simp only [List.mem_cons, List.not_mem_nil, or_false] at hu; rcases hu with rfl | rfl | rfl | rfl <;> first | (cases hn; done) | exact h0.dom b (mem_bl1 hn)⟩
theorem eResStep_open {H : GH} {cs : List Value} {s : ResStep} (h : eResStep.rel H cs s) : ∃ v0, cs = [v0, Value.int .i64 s.left, Value.int .i64 s.right, Value.int .i64 s.pivot] ∧ RSl H eI 1 v0 s.clause := h

theorem eResStep_loc : LocE eResStep := by rintro H H' cs x ⟨v0, rfl, h0⟩ hb; exact ⟨_, rfl, h0.only eI_flat.rel (fun b q => hb b (bl_get (i := 0) rfl b q))⟩

def eBench : Enc Bench := ⟨fun H cs s => ∃ v0 v1, cs = [Value.int .i64 s.stage, Value.int .i64 s.formula.vars, v0, v1, Value.int .i64 s.wide, Value.int .i64 s.count] ∧ RSl H (eL eI 1) 1 v0 s.formula.clauses ∧ RSl H eResStep 4 v1 s.steps, fun hi ⟨v0, v1, h, h0, h1⟩ => ⟨_, _, h, h0.mono hi, h1.mono hi⟩, by rintro H cs s ⟨v0, v1, rfl, h0, h1⟩; exact (ones_cons rfl (ones_cons rfl (ones_cons h0.one (ones_cons h1.one (ones_cons rfl (ones_cons rfl ones_nil)))))), by rintro H cs s ⟨v0, v1, rfl, h0, h1⟩ b hb; obtain ⟨u, hu, hn⟩ := mem_bl hb; simp only [List.mem_cons, List.not_mem_nil, or_false] at hu; rcases hu with rfl | rfl | rfl | rfl | rfl | rfl <;> first | (cases hn; done) | exact h0.dom b (mem_bl1 hn) | exact h1.dom b (mem_bl1 hn)⟩
theorem eBench_open {H : GH} {cs : List Value} {s : Bench} (h : eBench.rel H cs s) : ∃ v0 v1, cs = [Value.int .i64 s.stage, Value.int .i64 s.formula.vars, v0, v1, Value.int .i64 s.wide, Value.int .i64 s.count] ∧ RSl H (eL eI 1) 1 v0 s.formula.clauses ∧ RSl H eResStep 4 v1 s.steps := h

def eweaver : Enc weaver := ⟨fun H cs s => ∃ v0 v1, cs = [v0, v1] ∧ RSl H eResStep 4 v0 s.steps ∧ RSl H eI 1 v1 s.became, fun hi ⟨v0, v1, h, h0, h1⟩ => ⟨_, _, h, h0.mono hi, h1.mono hi⟩, by rintro H cs s ⟨v0, v1, rfl, h0, h1⟩; exact (ones_cons h0.one (ones_cons h1.one ones_nil)), by rintro H cs s ⟨v0, v1, rfl, h0, h1⟩ b hb; obtain ⟨u, hu, hn⟩ := mem_bl hb; simp only [List.mem_cons, List.not_mem_nil, or_false] at hu; rcases hu with rfl | rfl <;> first | (cases hn; done) | exact h0.dom b (mem_bl1 hn) | exact h1.dom b (mem_bl1 hn)⟩
theorem eweaver_open {H : GH} {cs : List Value} {s : weaver} (h : eweaver.rel H cs s) : ∃ v0 v1, cs = [v0, v1] ∧ RSl H eResStep 4 v0 s.steps ∧ RSl H eI 1 v1 s.became := h

def el11Use : Enc l11Use := ⟨fun H cs s => ∃ v0, cs = [Value.int .i64 s.reason, Value.int .i64 s.v, v0] ∧ RSl H eI 1 v0 s.clause, fun hi ⟨v0, h, h0⟩ => ⟨_, h, h0.mono hi⟩, by rintro H cs s ⟨v0, rfl, h0⟩; exact (ones_cons rfl (ones_cons rfl (ones_cons h0.one ones_nil))), by rintro H cs s ⟨v0, rfl, h0⟩ b hb; obtain ⟨u, hu, hn⟩ := mem_bl hb; simp only [List.mem_cons, List.not_mem_nil, or_false] at hu; rcases hu with rfl | rfl | rfl <;> first | (cases hn; done) | exact h0.dom b (mem_bl1 hn)⟩
theorem el11Use_open {H : GH} {cs : List Value} {s : l11Use} (h : el11Use.rel H cs s) : ∃ v0, cs = [Value.int .i64 s.reason, Value.int .i64 s.v, v0] ∧ RSl H eI 1 v0 s.clause := h

theorem el11Use_loc : LocE el11Use := by rintro H H' cs x ⟨v0, rfl, h0⟩ hb; exact ⟨_, rfl, h0.only eI_flat.rel (fun b q => hb b (bl_get (i := 2) rfl b q))⟩

def Fn_List_Int_to_B (P : Program) (H : GH) (v : Value) (p : (List Int) → Option Bool) : Prop :=
 ∀ (H' : GH) (w' : World), Inc H H' → Sl H' w' → ∀ (x0 : List Int) (y0_0 : Value) (_z0_0 : RSl H' eI 1 y0_0 x0) (r : Bool), p x0 = some r →
  ∃ (fid : Nat) (cs : Array Value), v = Value.func (.func fid) #[] cs ∧ (∀ args w, (callFunc fid args).run P w = .ok (.enter fid args) w) ∧ Calls P fid (#[y0_0] ++ cs) w' (Sc H' w' (Value.bool r))
theorem Fn_List_Int_to_B.mono {P : Program} {H H' : GH} {v : Value} {p : (List Int) → Option Bool} (h : Fn_List_Int_to_B P H v p) (hi : Inc H H') : Fn_List_Int_to_B P H' v p :=
 fun H2 w2 h2 => h H2 w2 (hi.tr h2)

def Fn_I_to_B (P : Program) (H : GH) (v : Value) (p : Int → Option Bool) : Prop :=
 ∀ (H' : GH) (w' : World), Inc H H' → Sl H' w' → ∀ (x0 : Int) (r : Bool), p x0 = some r →
  ∃ (fid : Nat) (cs : Array Value), v = Value.func (.func fid) #[] cs ∧ (∀ args w, (callFunc fid args).run P w = .ok (.enter fid args) w) ∧ Calls P fid (#[Value.int .i64 x0] ++ cs) w' (Sc H' w' (Value.bool r))
theorem Fn_I_to_B.mono {P : Program} {H H' : GH} {v : Value} {p : Int → Option Bool} (h : Fn_I_to_B P H v p) (hi : Inc H H') : Fn_I_to_B P H' v p :=
 fun H2 w2 h2 => h H2 w2 (hi.tr h2)

def Fn_I_I_to_I (P : Program) (H : GH) (v : Value) (p : Int → Int → Option Int) : Prop :=
 ∀ (H' : GH) (w' : World), Inc H H' → Sl H' w' → ∀ (x0 : Int) (x1 : Int) (r : Int), p x0 x1 = some r →
  ∃ (fid : Nat) (cs : Array Value), v = Value.func (.func fid) #[] cs ∧ (∀ args w, (callFunc fid args).run P w = .ok (.enter fid args) w) ∧ Calls P fid (#[Value.int .i64 x0, Value.int .i64 x1] ++ cs) w' (Sc H' w' (Value.int .i64 r))
theorem Fn_I_I_to_I.mono {P : Program} {H H' : GH} {v : Value} {p : Int → Int → Option Int} (h : Fn_I_I_to_I P H v p) (hi : Inc H H') : Fn_I_I_to_I P H' v p :=
 fun H2 w2 h2 => h H2 w2 (hi.tr h2)

theorem te170 : TE Tryz.prog 170 22 1 (.slice none 0 0) := ⟨Tryz.underlying170, ⟨Tryz.t22, Tryz.type22, rfl, rfl, by decide⟩, rfl, by decide⟩
theorem te22 : TE Tryz.prog 22 44 1 (.slice none 0 0) := ⟨Tryz.underlying22, ⟨Tryz.t44, Tryz.type44, rfl, rfl, by decide⟩, rfl, by decide⟩
theorem te44 : TE Tryz.prog 44 3 1 (.int .i64 0) := ⟨Tryz.underlying44, ⟨Tryz.t3, Tryz.type3, rfl, rfl, by decide⟩, rfl, by decide⟩
theorem te69 : TE Tryz.prog 69 105 3 (.agg #[(.int .i64 0), (.int .i64 0), (.slice none 0 0)]) := ⟨Tryz.underlying69, ⟨Tryz.t105, Tryz.type105, rfl, rfl, by decide⟩, rfl, by decide⟩
theorem te77 : TE Tryz.prog 77 4 1 (.bool false) := ⟨Tryz.underlying77, ⟨Tryz.t4, Tryz.type4, rfl, rfl, by decide⟩, rfl, by decide⟩
theorem te95 : TE Tryz.prog 95 99 2 (.agg #[(.int .i64 0), (.int .i64 0)]) := ⟨Tryz.underlying95, ⟨Tryz.t99, Tryz.type99, rfl, rfl, by decide⟩, rfl, by decide⟩
theorem tf105_0 : TF Tryz.prog 105 0 0 := ⟨_, _, _, Tryz.underlying105, rfl, rfl, Tryz.sizeOf3, by decide⟩
theorem tf24_0 : TF Tryz.prog 24 0 0 := ⟨_, _, _, Tryz.underlying24, rfl, rfl, Tryz.sizeOf3, by decide⟩
theorem tf24_1 : TF Tryz.prog 24 1 1 := ⟨_, _, _, Tryz.underlying24, rfl, rfl, Tryz.sizeOf22, by decide⟩
theorem tf28_0 : TF Tryz.prog 28 0 0 := ⟨_, _, _, Tryz.underlying28, rfl, rfl, Tryz.sizeOf3, by decide⟩
theorem tf28_1 : TF Tryz.prog 28 1 1 := ⟨_, _, _, Tryz.underlying28, rfl, rfl, Tryz.sizeOf22, by decide⟩
theorem w_laws_szIntS {Ha : GH} {wa : World} (hs : Sl Ha wa) (v0 : Value) (a0 : List Int) (p0 : RSl Ha eI 1 v0 a0) (a1 : Int) :
  Calls Tryz.prog 45 #[v0, Value.int .i64 a1] wa (Sc Ha wa (Value.int .i64 (PF.laws_szIntS a0 a1))) := by
 obtain ⟨r, hp⟩ : ∃ r, (PF.laws_szIntS a0 a1) = r := ⟨_, rfl⟩
 rw [hp]
 unfold PF.laws_szIntS at hp
 have S0 := St.init hs
 refine calls_go (N := 12) (args := [v0, Value.int .i64 a1]) Tryz.func45 rfl rfl rfl ?_
 refine FW.seq (FW.region ?_)
 refine FL.v (E.assign (v := Value.int .i64 0) rfl) ?_
 refine FL.nil (FW.seq (FW.region ?_))
 refine FL.v (E.move (v := Value.int .i64 a1) rfl) ?_
 refine FL.v (E.move (v := v0) rfl) ?_
 refine FL.v (E.lenP te44 rfl p0) ?_
 refine FL.v (E.sub rfl rfl) ?_
 refine FL.v (E.assign (v := Value.int .i64 (wr (a1 - (len a0)))) rfl) ?_
 refine FL.nil (FW.seq (FW.seq (FW.region ?_)))
 refine FL.v (E.move (v := Value.int .i64 (wr (a1 - (len a0)))) rfl) ?_
 refine FL.v (E.lss rfl rfl) ?_
 refine FL.nil ?_
 rcases ifT hp with ⟨c21, hp⟩ | ⟨c21, hp⟩
 ·
  refine FW.condT rfl c21 ?_
  refine FW.seq (FW.region ?_)
  refine FL.v (E.assign (v := Value.int .i64 (-1)) rfl) ?_
  refine FL.nil ?_
  refine FW.ret ?_
  obtain rfl := hp
  exact ⟨.inr rfl, res1 rfl rfl ⟨rfl, S0.back⟩⟩
 ·
  refine FW.condF rfl c21 ?_
  refine FW.skip (FW.seq (FW.region ?_))
  refine FL.v (E.move (v := Value.int .i64 (wr (a1 - (len a0)))) rfl) ?_
  refine FL.v (E.assign (v := Value.int .i64 (wr (a1 - (len a0)))) rfl) ?_
  refine FL.nil ?_
  refine FW.ret ?_
  obtain rfl := hp
  exact ⟨.inr rfl, res1 rfl rfl ⟨rfl, S0.back⟩⟩

theorem w_laws_szIntSS {Ha : GH} {wa : World} (hs : Sl Ha wa) (v0 : Value) (a0 : List (List Int)) (p0 : RSl Ha (eL eI 1) 1 v0 a0) (a1 : Int) {r : Int} (hp : (PF.laws_szIntSS a0 a1) = some r) :
  Calls Tryz.prog 20 #[v0, Value.int .i64 a1] wa (Sc Ha wa (Value.int .i64 r)) := by
 unfold PF.laws_szIntSS at hp
 have S0 := St.init hs
 refine calls_go (N := 27) (args := [v0, Value.int .i64 a1]) Tryz.func20 rfl rfl rfl ?_
 refine FW.seq (FW.region ?_)
 refine FL.v (E.assign (v := Value.int .i64 0) rfl) ?_
 refine FL.nil (FW.seq (FW.region ?_))
 refine FL.v (E.move (v := Value.int .i64 a1) rfl) ?_
 refine FL.v (E.move (v := v0) rfl) ?_
 refine FL.v (E.lenP te22 rfl p0) ?_
 refine FL.v (E.sub rfl rfl) ?_
 refine FL.v (E.assign (v := Value.int .i64 (wr (a1 - (len a0)))) rfl) ?_
 refine FL.nil (FW.seq (FW.seq (FW.region ?_)))
 refine FL.v (E.move (v := Value.int .i64 (wr (a1 - (len a0)))) rfl) ?_
 refine FL.v (E.lss rfl rfl) ?_
 refine FL.nil ?_
 rcases ifB hp with ⟨c21, hp⟩ | ⟨c21, hp⟩
 ·
  refine FW.condT rfl c21 ?_
  refine FW.seq (FW.region ?_)
  refine FL.v (E.assign (v := Value.int .i64 (-1)) rfl) ?_
  refine FL.nil ?_
  refine FW.ret ?_
  obtain rfl := Option.some.inj hp
  exact ⟨.inr rfl, res1 rfl rfl ⟨rfl, S0.back⟩⟩
 ·
  refine FW.condF rfl c21 ?_
  refine FW.skip (FW.seq (FW.seq (FW.region ?_)))
  refine FL.v (E.assign (v := Value.int .i64 0) rfl) ?_
  refine FL.nil ?_
  obtain ⟨q23, hq, hp⟩ := bndR hp
  refine FW.block ?_
  refine FW.mono (FW.forL (S := Int) (X := Int) (fun (i23 : Nat) (s23 : Int) f w => ∃ H : GH, St Ha wa H w [] ∧ Inc Ha H ∧ f 5 = Value.int .i64 ((i23 : Nat) : Int) ∧ f 0 = v0 ∧ f 1 = Value.int .i64 s23) (fun q e f w => match q with | .go s23 => e = Exit.exit 0 ∧ (∃ H : GH, St Ha wa H w [] ∧ Inc Ha H ∧ f 1 = Value.int .i64 s23) | .rt x => ((e = Exit.ret) ∧ (fun e f w => (e = Exit.normal ∨ e = Exit.ret) ∧ ∀ a, Fr (δ := []) 27 a f → ∃ v, (results Tryz.f20 a.tmps).run Tryz.prog w = .ok v w ∧ (Sc Ha wa (Value.int .i64 x)) (.returned v) w) e f w)) hq ⟨_, S0, (Inc.rfl _), rfl, rfl, rfl⟩ ?_ ?_) ?_
  ·
   clear hp hq
   rintro i23 y22 s23 f48 w47 ⟨H44, S45, i46, k49, k50, k51⟩ hx23 o64 hp
   refine FW.seq (FW.seq (FW.region ?_))
   refine FL.v (E.move k49) ?_
   refine FL.v (E.move k50) ?_
   refine FL.v (E.lenP te22 rfl p0) ?_
   refine FL.v (E.lssT rfl rfl (lss_len hx23)) ?_
   refine FL.nil ?_
   refine FW.condT rfl rfl ?_
   refine FW.skip (FW.seq (FW.block (FW.seq (FW.region ?_))))
   refine FL.v (E.move k50) ?_
   refine FL.v (E.move k49) ?_
   obtain ⟨p52, cs53, pt54, l55, at56, rel57⟩ := p0.at (ix_nat hx23)
   obtain ⟨v58, rfl, h59⟩ := eL_open rel57
   refine FL.v (E.indexAddr te22 rfl rfl pt54) ?_
   refine FL.v (E.load rfl (run_load0 Tryz.isAgg44 ((at56.mono i46).now S45.sl) rfl)) ?_
   refine FL.v (E.move k51) ?_
   refine FL.call rfl rfl rfl (E.call Tryz.call45 (A2 rfl rfl)) (w_laws_szIntS S45.sl v58 y22 (h59.mono i46) s23) ?_
   rintro e w60 ⟨rfl, r61⟩
   refine ⟨_, rfl, ?_⟩
   have S62 := S45.call r61
   refine FL.v (E.assign (v := Value.int .i64 (PF.laws_szIntS y22 s23)) rfl) ?_
   refine FL.nil (FW.seq (FW.region ?_))
   refine FL.v (E.move (v := Value.int .i64 (PF.laws_szIntS y22 s23)) rfl) ?_
   refine FL.v (E.lss rfl rfl) ?_
   refine FL.nil ?_
   rcases ifB hp with ⟨c63, hp⟩ | ⟨c63, hp⟩
   ·
    refine FW.condT rfl c63 ?_
    refine FW.seq (FW.region ?_)
    refine FL.v (E.assign (v := Value.int .i64 (-1)) rfl) ?_
    refine FL.nil ?_
    refine FW.ret ?_
    obtain rfl := Option.some.inj hp
    exact ⟨nofun, rfl, ⟨.inr rfl, res1 rfl rfl ⟨rfl, S62.back⟩⟩⟩
   ·
    refine FW.condF rfl c63 ?_
    refine FW.skip (FW.region ?_)
    refine FL.v (E.move k49) ?_
    refine FL.v (E.add rfl rfl) ?_
    refine FL.v (E.assign (v := Value.int .i64 (wr (((i23 : Nat) : Int) + 1))) rfl) ?_
    refine FL.nil ?_
    obtain rfl := Option.some.inj hp
    exact ⟨rfl, ⟨_, S62, i46, (nat_succ rfl (lt_of_get hx23) (p0.mono i46).le), k50, rfl⟩⟩
  ·
   clear hp hq
   rintro s23 f75 w74 ⟨H71, S72, i73, k76, k77, k78⟩
   refine FW.seq (FW.seq (FW.region ?_))
   refine FL.v (E.move k76) ?_
   refine FL.v (E.move k77) ?_
   refine FL.v (E.lenP te22 rfl p0) ?_
   refine FL.v (E.lss rfl rfl) ?_
   refine FL.nil ?_
   refine FW.condF rfl dlt_len ?_
   refine FW.exit ?_
   exact ⟨nofun, rfl, ⟨_, S72, i73, k78⟩⟩
  ·
   clear hq
   intro e f69 w68 hD
   rcases q23 with s23 | x23
   ·
    obtain ⟨rfl, hD⟩ := hD
    obtain ⟨H65, S66, i67, k70⟩ := hD
    replace hp := el_go hp
    refine FW.seq (FW.region ?_)
    refine FL.v (E.move k70) ?_
    refine FL.v (E.assign (v := Value.int .i64 s23) rfl) ?_
    refine FL.nil ?_
    refine FW.ret ?_
    obtain rfl := Option.some.inj hp
    exact ⟨.inr rfl, res1 rfl rfl ⟨rfl, S66.back⟩⟩
   ·
    obtain ⟨he, hL⟩ := hD
    replace hp := el_rt hp
    obtain rfl := Option.some.inj hp
    subst he
    exact hL

theorem w_laws_szCnf {Ha : GH} {wa : World} (hs : Sl Ha wa) (a0 : Cnf) (v0_1 : Value) (p0_1 : RSl Ha (eL eI 1) 1 v0_1 a0.clauses) (a1 : Int) {r : Int} (hp : (PF.laws_szCnf a0 a1) = some r) :
  Calls Tryz.prog 7 #[Value.agg #[Value.int .i64 a0.vars, v0_1], Value.int .i64 a1] wa (Sc Ha wa (Value.int .i64 r)) := by
 unfold PF.laws_szCnf at hp
 have S0 := St.init hs
 refine calls_go (N := 12) (args := [Value.agg #[Value.int .i64 a0.vars, v0_1], Value.int .i64 a1]) Tryz.func7 rfl rfl rfl ?_
 refine FW.seq (FW.region ?_)
 obtain ⟨b21, w22, run23, S24⟩ := S0.box (P := Tryz.prog) 24 [Value.int .i64 a0.vars, v0_1] (v := Value.agg #[Value.int .i64 a0.vars, v0_1]) rfl (ones_cons rfl (ones_cons p0_1.one ones_nil))
 refine FL.v (E.box rfl run23) ?_
 obtain ⟨H25, S26, i27, at28⟩ := S24.sealBox (i := 0) (l' := []) rfl rfl
 refine FL.v (E.assign (v := Value.int .i64 0) rfl) ?_
 refine FL.nil (FW.seq (FW.region ?_))
 refine FL.v (E.fieldAddr tf24_1 rfl) ?_
 refine FL.v (E.load rfl (run_load1 Tryz.isAgg22 (at28.now S26.sl) rfl)) ?_
 refine FL.v (E.move (v := Value.int .i64 a1) rfl) ?_
 obtain ⟨r29, hr30, hp⟩ := bnd hp
 refine FL.call rfl rfl rfl (E.call Tryz.call20 (A2 rfl rfl)) (w_laws_szIntSS S26.sl v0_1 a0.clauses (p0_1.mono i27) a1 hr30) ?_
 rintro e w31 ⟨rfl, r32⟩
 refine ⟨_, rfl, ?_⟩
 have S33 := S26.call r32
 refine FL.v (E.assign (v := Value.int .i64 r29) rfl) ?_
 refine FL.nil (FW.seq (FW.seq (FW.region ?_)))
 refine FL.v (E.move (v := Value.int .i64 r29) rfl) ?_
 refine FL.v (E.lss rfl rfl) ?_
 refine FL.nil ?_
 rcases ifB hp with ⟨c34, hp⟩ | ⟨c34, hp⟩
 ·
  refine FW.condT rfl c34 ?_
  refine FW.seq (FW.region ?_)
  refine FL.v (E.assign (v := Value.int .i64 (-1)) rfl) ?_
  refine FL.nil ?_
  refine FW.ret ?_
  obtain rfl := Option.some.inj hp
  exact ⟨.inr rfl, res1 rfl rfl ⟨rfl, S33.back⟩⟩
 ·
  refine FW.condF rfl c34 ?_
  refine FW.skip (FW.seq (FW.region ?_))
  refine FL.v (E.move (v := Value.int .i64 r29) rfl) ?_
  refine FL.v (E.assign (v := Value.int .i64 r29) rfl) ?_
  refine FL.nil ?_
  refine FW.ret ?_
  obtain rfl := Option.some.inj hp
  exact ⟨.inr rfl, res1 rfl rfl ⟨rfl, S33.back⟩⟩

@[reducible] def p_laws_toIntS (Ha : GH) (wa : World) (r : (List Int)) : Ending → World → Prop :=
  fun e w' => ∃ H' : GH, ∃ v0 : Value, ∃ n0 : Nat, ∃ c0 : List Value, e = .returned (v0) ∧ St Ha wa H' w' [.row 3 1 v0 n0 c0] ∧ Els (up wa.heap.size H') eI 1 c0 r
theorem w_laws_toIntS {Ha : GH} {wa : World} (hs : Sl Ha wa) (v0 : Value) (a0 : List Int) (p0 : RSl Ha eI 1 v0 a0) {r : (List Int)} (hp : (PF.laws_toIntS a0) = some r) :
    Calls Tryz.prog 51 #[v0] wa (p_laws_toIntS Ha wa r) := by
  unfold PF.laws_toIntS at hp
  have S0 := St.init hs
  refine calls_go (N := 22) (args := [v0]) Tryz.func51 rfl rfl rfl ?_
  refine FW.seq (FW.region ?_)
  refine FL.v (E.assign (v := Value.slice none 0 0) rfl) ?_
  refine FL.nil (FW.seq (FW.region ?_))
  refine FL.v (E.move (v := v0) rfl) ?_
  refine FL.v (E.lenP te44 rfl p0) ?_
  obtain ⟨xs21, hm22, hp⟩ := bnd hp
  obtain ⟨v23, w24, n28, cs29, run25, S26, els27, hbl30⟩ := S0.makeEls (P := Tryz.prog) te44 (G := (up wa.heap.size Ha)) (En := eI) (x0 := (0 : Int)) hm22 rfl (ones_cons rfl ones_nil) .i64 .i64
  refine FL.v (E.makeSlice rfl rfl run25) ?_
  refine FL.v (E.assign (v := v23) rfl) ?_
  refine FL.nil (FW.seq (FW.seq (FW.region ?_)))
  refine FL.v (E.assign (v := Value.int .i64 0) rfl) ?_
  refine FL.nil ?_
  obtain ⟨q32, hq, hp⟩ := bndR hp
  refine FW.block ?_
  refine FW.mono (FW.forL (S := (List Int)) (X := Empty) (fun (i32 : Nat) (s32 : (List Int)) f w => ∃ H : GH, ∃ v63 : Value, ∃ n64 : Nat, ∃ cs65 : List Value, St Ha wa H w [.row 3 1 v63 n64 cs65] ∧ Inc Ha H ∧ Els (up wa.heap.size H) eI 1 cs65 s32 ∧ f 4 = Value.int .i64 ((i32 : Nat) : Int) ∧ f 0 = v0 ∧ f 3 = v63) (fun (q : Rs (List Int) Empty) e f w => match q with | .go s32 => e = Exit.exit 0 ∧ (∃ H : GH, ∃ v63 : Value, ∃ n64 : Nat, ∃ cs65 : List Value, St Ha wa H w [.row 3 1 v63 n64 cs65] ∧ Inc Ha H ∧ Els (up wa.heap.size H) eI 1 cs65 s32 ∧ f 3 = v63) | .rt x => x.elim) hq ⟨_, _, _, _, S26, (Inc.rfl _), els27, rfl, rfl, rfl⟩ ?_ ?_) ?_
  ·
    clear hp hq
    rintro i32 y31 s32 f101 w100 ⟨H97, v63, n64, cs65, S98, i99, els66, k102, k103, k104⟩ hx32 o127 hp
    refine FW.seq (FW.seq (FW.region ?_))
    refine FL.v (E.move k102) ?_
    refine FL.v (E.move k103) ?_
    refine FL.v (E.lenP te44 rfl p0) ?_
    refine FL.v (E.lssT rfl rfl (lss_len hx32)) ?_
    refine FL.nil ?_
    refine FW.condT rfl rfl ?_
    refine FW.skip (FW.seq (FW.block (FW.region ?_)))
    refine FL.v (E.move k104) ?_
    refine FL.v (E.move k102) ?_
    refine FL.v (E.move k103) ?_
    refine FL.v (E.move k102) ?_
    obtain ⟨p105, cs106, pt107, l108, at109, rel110⟩ := p0.at (ix_nat hx32)
    obtain rfl := eI_open rel110
    refine FL.v (E.indexAddr te44 rfl rfl pt107) ?_
    refine FL.v (E.load rfl (run_load0 Tryz.isAgg3 ((at109.mono i99).now S98.sl) rfl)) ?_
    obtain ⟨x117, hx118, hp⟩ := bnd hp
    obtain ⟨p111, cs112, pt113, l114, at115, rel116⟩ := S98.row_at (i := 0) rfl els66 (by decide) hx118
    obtain rfl := eI_open rel116
    refine FL.v (E.indexAddr te44 rfl rfl pt113) ?_
    obtain ⟨xs122, hput123, hp⟩ := bnd hp
    obtain ⟨w119, cs125, run120, S121, els124, ce126⟩ := S98.putEls (P := Tryz.prog) (t := 3) (i := 0) rfl els66 hput123 pt113 Tryz.sizeOf3 (u := Value.int .i64 y31) (c := [Value.int .i64 y31]) rfl rfl (ones_cons rfl ones_nil) rfl
    have S121 : St Ha wa H97 w119 [.row 3 1 v63 n64 cs125] := S121
    refine FL.act rfl rfl (E.store rfl rfl run120) ?_
    refine FL.nil (FW.region ?_)
    refine FL.v (E.move k102) ?_
    refine FL.v (E.add rfl rfl) ?_
    refine FL.v (E.assign (v := Value.int .i64 (wr (((i32 : Nat) : Int) + 1))) rfl) ?_
    refine FL.nil ?_
    obtain rfl := Option.some.inj hp
    exact ⟨rfl, ⟨_, _, _, _, S121, i99, els124, (nat_succ rfl (lt_of_get hx32) (p0.mono i99).le), k103, k104⟩⟩
  ·
    clear hp hq
    rintro s32 f138 w137 ⟨H134, v63, n64, cs65, S135, i136, els66, k139, k140, k141⟩
    refine FW.seq (FW.seq (FW.region ?_))
    refine FL.v (E.move k139) ?_
    refine FL.v (E.move k140) ?_
    refine FL.v (E.lenP te44 rfl p0) ?_
    refine FL.v (E.lss rfl rfl) ?_
    refine FL.nil ?_
    refine FW.condF rfl dlt_len ?_
    refine FW.exit ?_
    exact ⟨nofun, rfl, ⟨_, _, _, _, S135, i136, els66, k141⟩⟩
  ·
    clear hq
    intro e f132 w131 hD
    rcases q32 with s32 | x32
    ·
      obtain ⟨rfl, hD⟩ := hD
      obtain ⟨H128, v63, n64, cs65, S129, i130, els66, k133⟩ := hD
      replace hp := el_go hp
      refine FW.seq (FW.region ?_)
      refine FL.v (E.move k133) ?_
      refine FL.v (E.assign (v := v63) rfl) ?_
      refine FL.nil ?_
      refine FW.ret ?_
      obtain rfl := Option.some.inj hp
      exact ⟨.inr rfl, res1 rfl rfl ⟨_, _, _, _, rfl, S129, els66⟩⟩
    · exact x32.elim

@[reducible] def p_laws_toIntSS (Ha : GH) (wa : World) (r : (List (List Int))) : Ending → World → Prop :=
  fun e w' => ∃ H' : GH, ∃ v0 : Value, ∃ n0 : Nat, ∃ c0 : List Value, e = .returned (v0) ∧ St Ha wa H' w' [.row 44 1 v0 n0 c0] ∧ Els (up wa.heap.size H') (eL eI 1) 1 c0 r ∧ (bl c0).Nodup
theorem w_laws_toIntSS {Ha : GH} {wa : World} (hs : Sl Ha wa) (v0 : Value) (a0 : List (List Int)) (p0 : RSl Ha (eL eI 1) 1 v0 a0) {r : (List (List Int))} (hp : (PF.laws_toIntSS a0) = some r) :
    Calls Tryz.prog 22 #[v0] wa (p_laws_toIntSS Ha wa r) := by
  unfold PF.laws_toIntSS at hp
  have S0 := St.init hs
  refine calls_go (N := 23) (args := [v0]) Tryz.func22 rfl rfl rfl ?_
  refine FW.seq (FW.region ?_)
  refine FL.v (E.assign (v := Value.slice none 0 0) rfl) ?_
  refine FL.nil (FW.seq (FW.region ?_))
  refine FL.v (E.move (v := v0) rfl) ?_
  refine FL.v (E.lenP te22 rfl p0) ?_
  obtain ⟨xs21, hm22, hp⟩ := bnd hp
  obtain ⟨v23, w24, n28, cs29, run25, S26, els27, hbl30⟩ := S0.makeEls (P := Tryz.prog) te22 (G := (up wa.heap.size Ha)) (En := (eL eI 1)) (x0 := ([] : List Int)) hm22 ⟨_, rfl, RSl.nil _ _ _⟩ (ones_cons rfl ones_nil) .i64 .i64
  have nd31 : (bl cs29).Nodup := by rw [hbl30 (by simp [Value.cells, neb])]; exact List.nodup_nil
  refine FL.v (E.makeSlice rfl rfl run25) ?_
  refine FL.v (E.assign (v := v23) rfl) ?_
  refine FL.nil (FW.seq (FW.seq (FW.region ?_)))
  refine FL.v (E.assign (v := Value.int .i64 0) rfl) ?_
  refine FL.nil ?_
  obtain ⟨q33, hq, hp⟩ := bndR hp
  refine FW.block ?_
  refine FW.mono (FW.forL (S := (List (List Int))) (X := Empty) (fun (i33 : Nat) (s33 : (List (List Int))) f w => ∃ H : GH, ∃ v84 : Value, ∃ n85 : Nat, ∃ cs86 : List Value, St Ha wa H w [.row 44 1 v84 n85 cs86] ∧ Inc Ha H ∧ Els (up wa.heap.size H) (eL eI 1) 1 cs86 s33 ∧ (bl cs86).Nodup ∧ f 4 = Value.int .i64 ((i33 : Nat) : Int) ∧ f 0 = v0 ∧ f 3 = v84) (fun (q : Rs (List (List Int)) Empty) e f w => match q with | .go s33 => e = Exit.exit 0 ∧ (∃ H : GH, ∃ v84 : Value, ∃ n85 : Nat, ∃ cs86 : List Value, St Ha wa H w [.row 44 1 v84 n85 cs86] ∧ Inc Ha H ∧ Els (up wa.heap.size H) (eL eI 1) 1 cs86 s33 ∧ (bl cs86).Nodup ∧ f 3 = v84) | .rt x => x.elim) hq ⟨_, _, _, _, S26, (Inc.rfl _), els27, nd31, rfl, rfl, rfl⟩ ?_ ?_) ?_
  ·
    clear hp hq
    rintro i33 y32 s33 f143 w142 ⟨H139, v84, n85, cs86, S140, i141, els87, nd88, k144, k145, k146⟩ hx33 o189 hp
    refine FW.seq (FW.seq (FW.region ?_))
    refine FL.v (E.move k144) ?_
    refine FL.v (E.move k145) ?_
    refine FL.v (E.lenP te22 rfl p0) ?_
    refine FL.v (E.lssT rfl rfl (lss_len hx33)) ?_
    refine FL.nil ?_
    refine FW.condT rfl rfl ?_
    refine FW.skip (FW.seq (FW.block (FW.region ?_)))
    refine FL.v (E.move k146) ?_
    refine FL.v (E.move k144) ?_
    refine FL.v (E.move k145) ?_
    refine FL.v (E.move k144) ?_
    obtain ⟨p147, cs148, pt149, l150, at151, rel152⟩ := p0.at (ix_nat hx33)
    obtain ⟨v153, rfl, h154⟩ := eL_open rel152
    refine FL.v (E.indexAddr te22 rfl rfl pt149) ?_
    refine FL.v (E.load rfl (run_load0 Tryz.isAgg44 ((at151.mono i141).now S140.sl) rfl)) ?_
    obtain ⟨r155, hr156, hp⟩ := bnd hp
    refine FL.call rfl rfl rfl (E.call Tryz.call51 (A1 rfl)) (w_laws_toIntS S140.sl v153 y32 (h154.mono i141) hr156) ?_
    rintro e w158 ⟨H157, v161, n162, cs163, rfl, r160, els164⟩
    refine ⟨_, rfl, ?_⟩
    have els164 := els164.mono (up_le S140.size)
    have S159 := S140.join (l' := [.row 3 1 v161 n162 cs163, .row 44 1 v84 n85 cs86]) r160 rfl
    obtain ⟨x171, hx172, hp⟩ := bnd hp
    obtain ⟨p165, cs166, pt167, l168, at169, rel170⟩ := S159.row_at (i := 1) rfl els87 (by decide) hx172
    obtain ⟨v173, rfl, h174⟩ := eL_open rel170
    refine FL.v (E.indexAddr te22 rfl rfl pt167) ?_
    obtain ⟨H175, S176, i177, h178, nv179⟩ := S159.sealRowU (i := 0) (l' := [.row 44 1 v84 n85 cs86]) rfl els164 (by decide) rfl
    obtain ⟨xs183, hput184, hp⟩ := bnd hp
    obtain ⟨w180, cs186, run181, S182, els185, ce187⟩ := S176.putEls (P := Tryz.prog) (t := 44) (i := 0) rfl (els87.mono (up_mono (r160.run.inc.tr i177))) hput184 pt167 Tryz.sizeOf44 (u := v161) (c := [v161]) h178.cells rfl (ones_cons h178.one ones_nil) ⟨_, rfl, h178⟩
    have S182 : St Ha wa H175 w180 [.row 44 1 v84 n85 cs186] := S182
    have nd188 : (bl cs186).Nodup := by rw [ce187]; exact nd_put (Nat.le_add_right _ _) nd88 (by exact nd_one v161) (Els.dom (els87.mono (upI.tr r160.run.inc))) (by exact nv179)
    refine FL.act rfl rfl (E.store rfl rfl run181) ?_
    refine FL.nil (FW.region ?_)
    refine FL.v (E.move k144) ?_
    refine FL.v (E.add rfl rfl) ?_
    refine FL.v (E.assign (v := Value.int .i64 (wr (((i33 : Nat) : Int) + 1))) rfl) ?_
    refine FL.nil ?_
    obtain rfl := Option.some.inj hp
    exact ⟨rfl, ⟨_, _, _, _, S182, ((i141.tr r160.run.inc).tr i177), els185, nd188, (nat_succ rfl (lt_of_get hx33) (p0.mono ((i141.tr r160.run.inc).tr i177)).le), k145, k146⟩⟩
  ·
    clear hp hq
    rintro s33 f200 w199 ⟨H196, v84, n85, cs86, S197, i198, els87, nd88, k201, k202, k203⟩
    refine FW.seq (FW.seq (FW.region ?_))
    refine FL.v (E.move k201) ?_
    refine FL.v (E.move k202) ?_
    refine FL.v (E.lenP te22 rfl p0) ?_
    refine FL.v (E.lss rfl rfl) ?_
    refine FL.nil ?_
    refine FW.condF rfl dlt_len ?_
    refine FW.exit ?_
    exact ⟨nofun, rfl, ⟨_, _, _, _, S197, i198, els87, nd88, k203⟩⟩
  ·
    clear hq
    intro e f194 w193 hD
    rcases q33 with s33 | x33
    ·
      obtain ⟨rfl, hD⟩ := hD
      obtain ⟨H190, v84, n85, cs86, S191, i192, els87, nd88, k195⟩ := hD
      replace hp := el_go hp
      refine FW.seq (FW.region ?_)
      refine FL.v (E.move k195) ?_
      refine FL.v (E.assign (v := v84) rfl) ?_
      refine FL.nil ?_
      refine FW.ret ?_
      obtain rfl := Option.some.inj hp
      exact ⟨.inr rfl, res1 rfl rfl ⟨_, _, _, _, rfl, S191, els87, nd88⟩⟩
    · exact x33.elim

@[reducible] def p_laws_toCnf (Ha : GH) (wa : World) (r : Cnf) : Ending → World → Prop :=
 fun e w' => ∃ H' : GH, ∃ v0_1 : Value, e = .returned (Value.agg #[Value.int .i64 r.vars, v0_1]) ∧ Run wa.heap.size Ha wa H' w' ∧ (∃ c, Nest (up wa.heap.size H') (eL eI 1) 1 v0_1 r.clauses c)
theorem w_laws_toCnf {Ha : GH} {wa : World} (hs : Sl Ha wa) (a0 : Cnf) (v0_1 : Value) (p0_1 : RSl Ha (eL eI 1) 1 v0_1 a0.clauses) {r : Cnf} (hp : (PF.laws_toCnf a0) = some r) :
  Calls Tryz.prog 10 #[Value.agg #[Value.int .i64 a0.vars, v0_1]] wa (p_laws_toCnf Ha wa r) := by
 unfold PF.laws_toCnf at hp
 have S0 := St.init hs
 refine calls_go (N := 12) (args := [Value.agg #[Value.int .i64 a0.vars, v0_1]]) Tryz.func10 rfl rfl rfl ?_
 refine FW.seq (FW.region ?_)
 obtain ⟨b21, w22, run23, S24⟩ := S0.box (P := Tryz.prog) 24 [Value.int .i64 a0.vars, v0_1] (v := Value.agg #[Value.int .i64 a0.vars, v0_1]) rfl (ones_cons rfl (ones_cons p0_1.one ones_nil))
 refine FL.v (E.box rfl run23) ?_
 obtain ⟨H25, S26, i27, at28⟩ := S24.sealBox (i := 0) (l' := []) rfl rfl
 obtain ⟨b29, w30, run31, S32⟩ := S26.alloc (P := Tryz.prog) 28 [Value.int .i64 0, Value.slice none 0 0] Tryz.zeroValue28 rfl (ones_cons rfl (ones_cons rfl ones_nil))
 refine FL.v (E.alloc run31) ?_
 refine FL.nil (FW.seq (FW.region ?_))
 obtain ⟨b33, w34, run35, S36⟩ := S32.alloc (P := Tryz.prog) 28 [Value.int .i64 0, Value.slice none 0 0] Tryz.zeroValue28 rfl (ones_cons rfl (ones_cons rfl ones_nil))
 refine FL.v (E.alloc run35) ?_
 refine FL.nil (FW.seq (FW.region ?_))
 refine FL.v (E.fieldAddr tf24_0 rfl) ?_
 refine FL.v (E.load rfl (run_load1 Tryz.isAgg3 (at28.now S36.sl) rfl)) ?_
 refine FL.v (E.fieldAddr tf28_0 rfl) ?_
 obtain ⟨w37, run38, S39⟩ := S36.store (P := Tryz.prog) (t := 3) (i := 0) (j := 0) (cs' := [Value.int .i64 a0.vars, Value.slice none 0 0]) (l' := [.box b33 28 [Value.int .i64 a0.vars, Value.slice none 0 0], .box b29 28 [Value.int .i64 0, Value.slice none 0 0]]) (v := Value.int .i64 a0.vars) (c := [Value.int .i64 a0.vars]) rfl Tryz.sizeOf3 rfl rfl (ones_cons rfl ones_nil) (Nat.le_of_ble_eq_true rfl) rfl rfl
 refine FL.act rfl rfl (E.store rfl rfl run38) ?_
 refine FL.nil (FW.seq (FW.region ?_))
 refine FL.v (E.fieldAddr tf24_1 rfl) ?_
 refine FL.v (E.load rfl (run_load1 Tryz.isAgg22 (at28.now S39.sl) rfl)) ?_
 obtain ⟨r40, hr41, hp⟩ := bnd hp
 refine FL.call rfl rfl rfl (E.call Tryz.call22 (A1 rfl)) (w_laws_toIntSS S39.sl v0_1 a0.clauses (p0_1.mono i27) hr41) ?_
 rintro e w43 ⟨H42, v46, n47, cs48, rfl, r45, els49, nd50⟩
 refine ⟨_, rfl, ?_⟩
 have nv51 : New H25 cs48 := New.of_up S39.sl els49.dom
 have els49 := els49.mono (up_le S39.size)
 have S44 := S39.join (l' := [.row 44 1 v46 n47 cs48, .box b33 28 [Value.int .i64 a0.vars, Value.slice none 0 0], .box b29 28 [Value.int .i64 0, Value.slice none 0 0]]) r45 rfl
 refine FL.v (E.fieldAddr tf28_1 rfl) ?_
 obtain ⟨w52, run53, S54⟩ := S44.store (P := Tryz.prog) (t := 22) (i := 1) (j := 1) (cs' := [Value.int .i64 a0.vars, v46]) (l' := [.row 44 1 v46 n47 cs48, .box b33 28 [Value.int .i64 a0.vars, v46], .box b29 28 [Value.int .i64 0, Value.slice none 0 0]]) (v := v46) (c := [v46]) rfl Tryz.sizeOf22 (Ln.cells (S44.row_ln (i := 0) rfl)) rfl (ones_cons (Ln.one (S44.row_ln (i := 0) rfl)) ones_nil) (Nat.le_of_ble_eq_true rfl) rfl rfl
 refine FL.act rfl rfl (E.store rfl rfl run53) ?_
 obtain ⟨H55, S56, i57, ns60, nv59⟩ := S54.sealRowN (i := 0) (l' := [.box b33 28 [Value.int .i64 a0.vars, v46], .box b29 28 [Value.int .i64 0, Value.slice none 0 0]]) rfl els49 nd50 (by decide) rfl
 have h58 := ns60.rsl
 obtain ⟨H61, S62, i63, at64⟩ := S56.sealBox (i := 0) (l' := [.box b29 28 [Value.int .i64 0, Value.slice none 0 0]]) rfl rfl
 refine FL.nil (FW.seq (FW.region ?_))
 refine FL.v (E.load rfl (run_loadA Tryz.isAgg28 Tryz.sizeOf28 (at64.now S62.sl) rfl)) ?_
 obtain ⟨w65, run66, S67⟩ := S62.store0 (P := Tryz.prog) (t := 28) (i := 0) (cs' := [Value.int .i64 a0.vars, v46]) (l' := [.box b29 28 [Value.int .i64 a0.vars, v46]]) (v := Value.agg #[Value.int .i64 a0.vars, v46]) (c := [Value.int .i64 a0.vars, v46]) rfl Tryz.sizeOf28 rfl rfl (ones_cons rfl (ones_cons h58.one ones_nil)) (Nat.le_of_ble_eq_true rfl) rfl rfl
 refine FL.act rfl rfl (E.store rfl rfl run66) ?_
 obtain ⟨H68, S69, i70, at71⟩ := S67.sealBox (i := 0) (l' := []) rfl rfl
 refine FL.nil ?_
 refine FW.ret ?_
 obtain rfl := Option.some.inj hp
 exact ⟨.inr rfl, resC rfl rfl (loadVar_A Tryz.isAgg28 Tryz.sizeOf28 (at71.now S69.sl) rfl) ⟨_, _, rfl, S69.run, ⟨_, (ns60.mono (up_mono (i63.tr i70)))⟩⟩⟩

theorem w_spec_l1In {Ha : GH} {wa : World} (hs : Sl Ha wa) (a0 : Int) (a1 : Int) (a2 : Int) :
  Calls Tryz.prog 47 #[Value.int .i64 a0, Value.int .i64 a1, Value.int .i64 a2] wa (Sc Ha wa (Value.bool (PF.spec_l1In a0 a1 a2))) := by
 obtain ⟨r, hp⟩ : ∃ r, (PF.spec_l1In a0 a1 a2) = r := ⟨_, rfl⟩
 rw [hp]
 unfold PF.spec_l1In at hp
 have S0 := St.init hs
 refine calls_go (N := 15) (args := [Value.int .i64 a0, Value.int .i64 a1, Value.int .i64 a2]) Tryz.func47 rfl rfl rfl ?_
 refine FW.seq (FW.region ?_)
 refine FL.v (E.assign (v := Value.bool false) rfl) ?_
 refine FL.nil (FW.seq (FW.region ?_))
 refine FL.v (E.move (v := Value.int .i64 a0) rfl) ?_
 refine FL.v (E.move (v := Value.int .i64 a1) rfl) ?_
 refine FL.v (E.geq rfl rfl) ?_
 refine FL.v (E.move (v := Value.bool (decide (a1 ≤ a0))) rfl) ?_
 refine FL.cut 4 (fun f w => ∃ H : GH, St Ha wa H w [] ∧ Inc Ha H ∧ f 14 = Value.bool (bif (decide (a1 ≤ a0)) then (decide (a0 ≤ a2)) else false)) ?_ ?_
 ·
  rcases bcase (decide (a1 ≤ a0)) with c27 | c27
  ·
   refine FL.val (wF_yes rfl rfl rfl c27) rfl rfl (E.move (v := Value.int .i64 a0) rfl) ?_
   refine FL.val (wF_yes rfl rfl rfl c27) rfl rfl (E.move (v := Value.int .i64 a2) rfl) ?_
   refine FL.val (wF_yes rfl rfl rfl c27) rfl rfl (E.leq rfl rfl) ?_
   refine FL.v (E.pickT rfl c27 rfl) ?_
   exact FL.nil ⟨rfl, _, S0, (Inc.rfl _), (congrArg Value.bool (bifT c27).symm)⟩
  ·
   refine FL.skip (wF_no rfl rfl rfl c27) rfl ?_
   refine FL.skip (wF_no rfl rfl rfl c27) rfl ?_
   refine FL.skip (wF_no rfl rfl rfl c27) rfl ?_
   refine FL.v (E.pickF rfl c27 rfl) ?_
   exact FL.nil ⟨rfl, _, S0, (Inc.rfl _), (congrArg Value.bool (bifF c27).symm)⟩
 rintro f26 w25 ⟨H22, S23, i24, k28⟩
 refine FL.v (E.assign k28) ?_
 refine FL.nil ?_
 refine FW.ret ?_
 obtain rfl := hp
 exact ⟨.inr rfl, res1 rfl rfl ⟨rfl, S23.back⟩⟩

theorem w_spec_l2Vars {Ha : GH} {wa : World} (hs : Sl Ha wa) (a0 : Int) :
  Calls Tryz.prog 132 #[Value.int .i64 a0] wa (Sc Ha wa (Value.bool (PF.spec_l2Vars a0))) := by
 obtain ⟨r, hp⟩ : ∃ r, (PF.spec_l2Vars a0) = r := ⟨_, rfl⟩
 rw [hp]
 unfold PF.spec_l2Vars at hp
 have S0 := St.init hs
 refine calls_go (N := 5) (args := [Value.int .i64 a0]) Tryz.func132 rfl rfl rfl ?_
 refine FW.seq (FW.region ?_)
 refine FL.v (E.assign (v := Value.bool false) rfl) ?_
 refine FL.nil (FW.seq (FW.region ?_))
 refine FL.v (E.move (v := Value.int .i64 a0) rfl) ?_
 refine FL.call rfl rfl rfl (E.call Tryz.call47 (A3 rfl rfl rfl)) (w_spec_l1In S0.sl a0 0 12) ?_
 rintro e w21 ⟨rfl, r22⟩
 refine ⟨_, rfl, ?_⟩
 have S23 := S0.call r22
 refine FL.v (E.assign (v := Value.bool (PF.spec_l1In a0 0 12)) rfl) ?_
 refine FL.nil ?_
 refine FW.ret ?_
 obtain rfl := hp
 exact ⟨.inr rfl, res1 rfl rfl ⟨rfl, S23.back⟩⟩

theorem w_spec_l2Lit {Ha : GH} {wa : World} (hs : Sl Ha wa) (a0 : Int) (a1 : Int) :
  Calls Tryz.prog 133 #[Value.int .i64 a0, Value.int .i64 a1] wa (Sc Ha wa (Value.bool (PF.spec_l2Lit a0 a1))) := by
 obtain ⟨r, hp⟩ : ∃ r, (PF.spec_l2Lit a0 a1) = r := ⟨_, rfl⟩
 rw [hp]
 unfold PF.spec_l2Lit at hp
 have S0 := St.init hs
 refine calls_go (N := 14) (args := [Value.int .i64 a0, Value.int .i64 a1]) Tryz.func133 rfl rfl rfl ?_
 refine FW.seq (FW.region ?_)
 refine FL.v (E.assign (v := Value.bool false) rfl) ?_
 refine FL.nil (FW.seq (FW.region ?_))
 refine FL.v (E.move (v := Value.int .i64 a1) rfl) ?_
 refine FL.v (E.move (v := Value.int .i64 a0) rfl) ?_
 refine FL.v (E.neg rfl) ?_
 refine FL.v (E.move (v := Value.int .i64 a0) rfl) ?_
 refine FL.call rfl rfl rfl (E.call Tryz.call47 (A3 rfl rfl rfl)) (w_spec_l1In S0.sl a1 (wr (-a0)) a0) ?_
 rintro e w21 ⟨rfl, r22⟩
 refine ⟨_, rfl, ?_⟩
 have S23 := S0.call r22
 refine FL.v (E.move (v := Value.bool (PF.spec_l1In a1 (wr (-a0)) a0)) rfl) ?_
 refine FL.cut 3 (fun f w => ∃ H : GH, St Ha wa H w [] ∧ Inc Ha H ∧ f 13 = Value.bool (bif (PF.spec_l1In a1 (wr (-a0)) a0) then (!(a1 == 0)) else false)) ?_ ?_
 ·
  rcases bcase (PF.spec_l1In a1 (wr (-a0)) a0) with c30 | c30
  ·
   refine FL.val (wF_yes rfl rfl rfl c30) rfl rfl (E.move (v := Value.int .i64 a1) rfl) ?_
   refine FL.val (wF_yes rfl rfl rfl c30) rfl rfl (E.neq rfl rfl) ?_
   refine FL.v (E.pickT rfl c30 rfl) ?_
   exact FL.nil ⟨rfl, _, S23, (Inc.rfl _), (congrArg Value.bool (bifT c30).symm)⟩
  ·
   refine FL.skip (wF_no rfl rfl rfl c30) rfl ?_
   refine FL.skip (wF_no rfl rfl rfl c30) rfl ?_
   refine FL.v (E.pickF rfl c30 rfl) ?_
   exact FL.nil ⟨rfl, _, S23, (Inc.rfl _), (congrArg Value.bool (bifF c30).symm)⟩
 rintro f29 w28 ⟨H25, S26, i27, k31⟩
 refine FL.v (E.assign k31) ?_
 refine FL.nil ?_
 refine FW.ret ?_
 obtain rfl := hp
 exact ⟨.inr rfl, res1 rfl rfl ⟨rfl, S26.back⟩⟩

theorem w_spec_l2Var {Ha : GH} {wa : World} (hs : Sl Ha wa) (a0 : Int) :
  Calls Tryz.prog 75 #[Value.int .i64 a0] wa (Sc Ha wa (Value.int .i64 (PF.spec_l2Var a0))) := by
 obtain ⟨r, hp⟩ : ∃ r, (PF.spec_l2Var a0) = r := ⟨_, rfl⟩
 rw [hp]
 unfold PF.spec_l2Var at hp
 have S0 := St.init hs
 refine calls_go (N := 8) (args := [Value.int .i64 a0]) Tryz.func75 rfl rfl rfl ?_
 refine FW.seq (FW.region ?_)
 refine FL.v (E.assign (v := Value.int .i64 0) rfl) ?_
 refine FL.nil (FW.seq (FW.seq (FW.region ?_)))
 refine FL.v (E.move (v := Value.int .i64 a0) rfl) ?_
 refine FL.v (E.lss rfl rfl) ?_
 refine FL.nil ?_
 rcases ifT hp with ⟨c21, hp⟩ | ⟨c21, hp⟩
 ·
  refine FW.condT rfl c21 ?_
  refine FW.seq (FW.region ?_)
  refine FL.v (E.move (v := Value.int .i64 a0) rfl) ?_
  refine FL.v (E.neg rfl) ?_
  refine FL.v (E.assign (v := Value.int .i64 (wr (-a0))) rfl) ?_
  refine FL.nil ?_
  refine FW.ret ?_
  obtain rfl := hp
  exact ⟨.inr rfl, res1 rfl rfl ⟨rfl, S0.back⟩⟩
 ·
  refine FW.condF rfl c21 ?_
  refine FW.skip (FW.seq (FW.region ?_))
  refine FL.v (E.move (v := Value.int .i64 a0) rfl) ?_
  refine FL.v (E.assign (v := Value.int .i64 a0) rfl) ?_
  refine FL.nil ?_
  refine FW.ret ?_
  obtain rfl := hp
  exact ⟨.inr rfl, res1 rfl rfl ⟨rfl, S0.back⟩⟩

theorem w_spec_l2Clause {Ha : GH} {wa : World} (hs : Sl Ha wa) (a0 : Int) (v1 : Value) (a1 : List Int) (p1 : RSl Ha eI 1 v1 a1) {r : Bool} (hp : (PF.spec_l2Clause a0 a1) = some r) :
  Calls Tryz.prog 102 #[Value.int .i64 a0, v1] wa (Sc Ha wa (Value.bool r)) := by
 unfold PF.spec_l2Clause at hp
 have S0 := St.init hs
 refine calls_go (N := 40) (args := [Value.int .i64 a0, v1]) Tryz.func102 rfl rfl rfl ?_
 refine FW.seq (FW.region ?_)
 refine FL.v (E.assign (v := Value.bool false) rfl) ?_
 refine FL.nil (FW.seq (FW.seq (FW.region ?_)))
 refine FL.v (E.move (v := Value.int .i64 a0) rfl) ?_
 refine FL.call rfl rfl rfl (E.call Tryz.call132 (A1 rfl)) (w_spec_l2Vars S0.sl a0) ?_
 rintro e w21 ⟨rfl, r22⟩
 refine ⟨_, rfl, ?_⟩
 have S23 := S0.call r22
 refine FL.v (E.not rfl) ?_
 refine FL.nil ?_
 rcases ifB hp with ⟨c24, hp⟩ | ⟨c24, hp⟩
 ·
  refine FW.condT rfl c24 ?_
  refine FW.seq (FW.region ?_)
  refine FL.v (E.assign (v := Value.bool false) rfl) ?_
  refine FL.nil ?_
  refine FW.ret ?_
  obtain rfl := Option.some.inj hp
  exact ⟨.inr rfl, res1 rfl rfl ⟨rfl, S23.back⟩⟩
 ·
  refine FW.condF rfl c24 ?_
  refine FW.skip (FW.seq (FW.seq (FW.region ?_)))
  refine FL.v (E.assign (v := Value.int .i64 0) rfl) ?_
  refine FL.nil ?_
  obtain ⟨q26, hq, hp⟩ := bndR hp
  refine FW.block ?_
  refine FW.mono (FW.forL (S := Unit) (X := Bool) (fun (i26 : Nat) (s26 : Unit) f w => ∃ H : GH, St Ha wa H w [] ∧ Inc Ha H ∧ f 5 = Value.int .i64 ((i26 : Nat) : Int) ∧ f 0 = Value.int .i64 a0 ∧ f 1 = v1) (fun q e f w => match q with | .go s26 => e = Exit.exit 0 ∧ (∃ H : GH, St Ha wa H w [] ∧ Inc Ha H) | .rt x => ((e = Exit.ret) ∧ (fun e f w => (e = Exit.normal ∨ e = Exit.ret) ∧ ∀ a, Fr (δ := []) 40 a f → ∃ v, (results Tryz.f102 a.tmps).run Tryz.prog w = .ok v w ∧ (Sc Ha wa (Value.bool x)) (.returned v) w) e f w)) hq ⟨_, S23, (Inc.rfl _), rfl, rfl, rfl⟩ ?_ ?_) ?_
  ·
   clear hp hq
   rintro i26 y25 s26 f141 w140 ⟨H137, S138, i139, k142, k143, k144⟩ hx26 o247 hp
   refine FW.seq (FW.seq (FW.region ?_))
   refine FL.v (E.move k142) ?_
   refine FL.v (E.move k144) ?_
   refine FL.v (E.lenP te44 rfl p1) ?_
   refine FL.v (E.lssT rfl rfl (lss_len hx26)) ?_
   refine FL.nil ?_
   refine FW.condT rfl rfl ?_
   refine FW.skip (FW.seq (FW.block (FW.seq ?_)))
   refine FW.draw (fun w' => Run w140.heap.size H137 w140 H137 w') (by kernel_rfl) (by kernel_rfl) (run_drew S138.sl) ?_
   refine FD.val rfl rfl rfl (fun w' hw' => (E.move k143)) ?_
   refine FD.val rfl rfl rfl (fun w' hw' => (E.move k144)) ?_
   refine FD.val rfl rfl rfl (fun w' hw' => (E.move k142)) ?_
   obtain ⟨p146, cs147, pt148, l149, at150, rel151⟩ := p1.at (ix_nat hx26)
   obtain rfl := eI_open rel151
   refine FD.val rfl rfl rfl (fun w' hw' => (E.indexAddr te44 rfl rfl pt148)) ?_
   refine FD.val rfl rfl rfl (fun w' hw' => (E.load rfl (run_load0 Tryz.isAgg3 ((at150.mono i139).now (S138.call hw').sl) rfl))) ?_
   refine FD.call rfl rfl rfl (fun w' hw' => (E.call Tryz.call133 (A2 rfl rfl))) (fun w' hw' => Calls.cls hw' (w_spec_l2Lit (S138.call hw').sl a0 y25)) ?_
   refine FD.val rfl rfl rfl (fun w' hw' => (E.not rfl)) ?_
   refine FD.val rfl rfl rfl (fun w' hw' => (E.move (v := Value.bool (!(PF.spec_l2Lit a0 y25))) rfl)) ?_
   obtain ⟨t192, hqt192, hp⟩ := bnd hp
   refine FD.cut 17 (fun f => f 0 = Value.int .i64 a0 ∧ f 1 = v1 ∧ f 5 = Value.int .i64 ((i26 : Nat) : Int) ∧ f 39 = Value.bool t192) ?_ ?_
   ·
    clear hp; have hp := hqt192; clear hqt192
    rcases ifB hp with ⟨c198, hp⟩ | ⟨c198, hp⟩
    ·
     refine FD.skip (wF_no rfl rfl rfl c198) rfl ?_
     refine FD.skip (wF_no rfl rfl rfl c198) rfl ?_
     refine FD.skip (wF_no rfl rfl rfl c198) rfl ?_
     refine FD.skip (wF_undef rfl rfl rfl) rfl ?_
     refine FD.skip (wF_undef rfl rfl rfl) rfl ?_
     refine FD.skip (wF_undef rfl rfl rfl) rfl ?_
     refine FD.skip (wF_undef rfl rfl rfl) rfl ?_
     refine FD.skip (wF_undef rfl rfl rfl) rfl ?_
     refine FD.skip (wF_undef rfl rfl rfl) rfl ?_
     refine FD.skip (wF_undef rfl rfl rfl) rfl ?_
     refine FD.skip (wF_undef rfl rfl rfl) rfl ?_
     refine FD.skip (wF_undef rfl rfl rfl) rfl ?_
     refine FD.skip (wF_undef rfl rfl rfl) rfl ?_
     refine FD.skip (wF_undef rfl rfl rfl) rfl ?_
     refine FD.skip (wF_undef rfl rfl rfl) rfl ?_
     refine FD.skip (wF_no rfl rfl rfl c198) rfl ?_
     obtain rfl := Option.some.inj hp
     refine FD.val rfl rfl rfl (fun w' hw' => (E.pickT rfl c198 rfl)) ?_
     exact FD.nil ⟨k143, k144, k142, rfl⟩
    ·
     refine FD.val (wF_yes rfl rfl rfl c198) rfl rfl (fun w' hw' => (E.move k142)) ?_
     refine FD.val (wF_yes rfl rfl rfl c198) rfl rfl (fun w' hw' => (E.gtr rfl rfl)) ?_
     refine FD.val (wF_yes rfl rfl rfl c198) rfl rfl (fun w' hw' => (E.move (v := Value.bool (decide (0 < ((i26 : Nat) : Int)))) rfl)) ?_
     obtain ⟨t213, hqt213, hp⟩ := bnd hp
     refine FD.cut 13 (fun f => f 0 = Value.int .i64 a0 ∧ f 1 = v1 ∧ f 5 = Value.int .i64 ((i26 : Nat) : Int) ∧ f 22 = Value.bool (!(PF.spec_l2Lit a0 y25)) ∧ f 38 = Value.bool t213) ?_ ?_
     ·
      clear hp; have hp := hqt213; clear hqt213
      rcases ifB hp with ⟨c219, hp⟩ | ⟨c219, hp⟩
      ·
       refine FD.val (wF_yes rfl rfl rfl c219) rfl rfl (fun w' hw' => (E.move k144)) ?_
       refine FD.val (wF_yes rfl rfl rfl c219) rfl rfl (fun w' hw' => (E.move k142)) ?_
       refine FD.val (wF_yes rfl rfl rfl c219) rfl rfl (fun w' hw' => (E.sub rfl rfl)) ?_
       obtain ⟨x226, hx227, hp⟩ := bnd hp
       obtain ⟨p220, cs221, pt222, l223, at224, rel225⟩ := p1.at hx227
       obtain rfl := eI_open rel225
       refine FD.val (wF_yes rfl rfl rfl c219) rfl rfl (fun w' hw' => (E.indexAddr te44 rfl rfl pt222)) ?_
       refine FD.val (wF_yes rfl rfl rfl c219) rfl rfl (fun w' hw' => (E.load rfl (run_load0 Tryz.isAgg3 ((at224.mono i139).now (S138.call hw').sl) rfl))) ?_
       refine FD.call (wF_yes rfl rfl rfl c219) rfl rfl (fun w' hw' => (E.call Tryz.call75 (A1 rfl))) (fun w' hw' => Calls.cls hw' (w_spec_l2Var (S138.call hw').sl x226)) ?_
       refine FD.val (wF_yes rfl rfl rfl c219) rfl rfl (fun w' hw' => (E.move k144)) ?_
       refine FD.val (wF_yes rfl rfl rfl c219) rfl rfl (fun w' hw' => (E.move k142)) ?_
       obtain ⟨p228, cs229, pt230, l231, at232, rel233⟩ := p1.at (ix_nat hx26)
       obtain rfl := eI_open rel233
       refine FD.val (wF_yes rfl rfl rfl c219) rfl rfl (fun w' hw' => (E.indexAddr te44 rfl rfl pt230)) ?_
       refine FD.val (wF_yes rfl rfl rfl c219) rfl rfl (fun w' hw' => (E.load rfl (run_load0 Tryz.isAgg3 ((at232.mono i139).now (S138.call hw').sl) rfl))) ?_
       refine FD.call (wF_yes rfl rfl rfl c219) rfl rfl (fun w' hw' => (E.call Tryz.call75 (A1 rfl))) (fun w' hw' => Calls.cls hw' (w_spec_l2Var (S138.call hw').sl y25)) ?_
       refine FD.val (wF_yes rfl rfl rfl c219) rfl rfl (fun w' hw' => (E.geq rfl rfl)) ?_
       obtain rfl := Option.some.inj hp
       refine FD.val (wF_yes rfl rfl rfl c198) rfl rfl (fun w' hw' => (E.pickT rfl c219 rfl)) ?_
       exact FD.nil ⟨k143, k144, k142, rfl, rfl⟩
      ·
       refine FD.skip (wF_no rfl rfl rfl c219) rfl ?_
       refine FD.skip (wF_no rfl rfl rfl c219) rfl ?_
       refine FD.skip (wF_no rfl rfl rfl c219) rfl ?_
       refine FD.skip (wF_no rfl rfl rfl c219) rfl ?_
       refine FD.skip (wF_no rfl rfl rfl c219) rfl ?_
       refine FD.skip (wF_no rfl rfl rfl c219) rfl ?_
       refine FD.skip (wF_no rfl rfl rfl c219) rfl ?_
       refine FD.skip (wF_no rfl rfl rfl c219) rfl ?_
       refine FD.skip (wF_no rfl rfl rfl c219) rfl ?_
       refine FD.skip (wF_no rfl rfl rfl c219) rfl ?_
       refine FD.skip (wF_no rfl rfl rfl c219) rfl ?_
       refine FD.skip (wF_no rfl rfl rfl c219) rfl ?_
       obtain rfl := Option.some.inj hp
       refine FD.val (wF_yes rfl rfl rfl c198) rfl rfl (fun w' hw' => (E.pickF rfl c219 rfl)) ?_
       exact FD.nil ⟨k143, k144, k142, rfl, rfl⟩
     rintro f218 ⟨k234, k235, k236, k237, k238⟩
     obtain rfl := Option.some.inj hp
     refine FD.val rfl rfl rfl (fun w' hw' => (E.pickF k237 c198 k238)) ?_
     exact FD.nil ⟨k234, k235, k236, rfl⟩
   rintro f197 ⟨k239, k240, k241, k242⟩
   refine FD.nil ?_
   intro w243 r245
   have S244 := S138.call r245
   rcases ifB hp with ⟨c246, hp⟩ | ⟨c246, hp⟩
   ·
    refine FW.condT k242 c246 ?_
    refine FW.seq (FW.region ?_)
    refine FL.v (E.assign (v := Value.bool false) rfl) ?_
    refine FL.nil ?_
    refine FW.ret ?_
    obtain rfl := Option.some.inj hp
    exact ⟨nofun, rfl, ⟨.inr rfl, res1 rfl rfl ⟨rfl, S244.back⟩⟩⟩
   ·
    refine FW.condF k242 c246 ?_
    refine FW.skip (FW.region ?_)
    refine FL.v (E.move k241) ?_
    refine FL.v (E.add rfl rfl) ?_
    refine FL.v (E.assign (v := Value.int .i64 (wr (((i26 : Nat) : Int) + 1))) rfl) ?_
    refine FL.nil ?_
    obtain rfl := Option.some.inj hp
    exact ⟨rfl, ⟨_, S244, i139, (nat_succ rfl (lt_of_get hx26) (p1.mono i139).le), k239, k240⟩⟩
  ·
   clear hp hq
   rintro s26 f257 w256 ⟨H253, S254, i255, k258, k259, k260⟩
   refine FW.seq (FW.seq (FW.region ?_))
   refine FL.v (E.move k258) ?_
   refine FL.v (E.move k260) ?_
   refine FL.v (E.lenP te44 rfl p1) ?_
   refine FL.v (E.lss rfl rfl) ?_
   refine FL.nil ?_
   refine FW.condF rfl dlt_len ?_
   refine FW.exit ?_
   exact ⟨nofun, rfl, ⟨_, S254, i255⟩⟩
  ·
   clear hq
   intro e f252 w251 hD
   rcases q26 with s26 | x26
   ·
    obtain ⟨rfl, hD⟩ := hD
    obtain ⟨H248, S249, i250⟩ := hD
    replace hp := el_go hp
    refine FW.seq (FW.region ?_)
    refine FL.v (E.assign (v := Value.bool true) rfl) ?_
    refine FL.nil ?_
    refine FW.ret ?_
    obtain rfl := Option.some.inj hp
    exact ⟨.inr rfl, res1 rfl rfl ⟨rfl, S249.back⟩⟩
   ·
    obtain ⟨he, hL⟩ := hD
    replace hp := el_rt hp
    obtain rfl := Option.some.inj hp
    subst he
    exact hL

theorem w_spec_l2Good {Ha : GH} {wa : World} (hs : Sl Ha wa) (a0 : Cnf) (v0_1 : Value) (p0_1 : RSl Ha (eL eI 1) 1 v0_1 a0.clauses) {r : Bool} (hp : (PF.spec_l2Good a0) = some r) :
  Calls Tryz.prog 101 #[Value.agg #[Value.int .i64 a0.vars, v0_1]] wa (Sc Ha wa (Value.bool r)) := by
 unfold PF.spec_l2Good at hp
 have S0 := St.init hs
 refine calls_go (N := 30) (args := [Value.agg #[Value.int .i64 a0.vars, v0_1]]) Tryz.func101 rfl rfl rfl ?_
 refine FW.seq (FW.region ?_)
 obtain ⟨b21, w22, run23, S24⟩ := S0.box (P := Tryz.prog) 28 [Value.int .i64 a0.vars, v0_1] (v := Value.agg #[Value.int .i64 a0.vars, v0_1]) rfl (ones_cons rfl (ones_cons p0_1.one ones_nil))
 refine FL.v (E.box rfl run23) ?_
 obtain ⟨H25, S26, i27, at28⟩ := S24.sealBox (i := 0) (l' := []) rfl rfl
 refine FL.v (E.assign (v := Value.bool false) rfl) ?_
 refine FL.nil (FW.seq (FW.seq (FW.region ?_)))
 refine FL.v (E.fieldAddr tf28_0 rfl) ?_
 refine FL.v (E.load rfl (run_load1 Tryz.isAgg3 (at28.now S26.sl) rfl)) ?_
 refine FL.call rfl rfl rfl (E.call Tryz.call132 (A1 rfl)) (w_spec_l2Vars S26.sl a0.vars) ?_
 rintro e w29 ⟨rfl, r30⟩
 refine ⟨_, rfl, ?_⟩
 have S31 := S26.call r30
 refine FL.v (E.not rfl) ?_
 refine FL.v (E.move (v := Value.bool (!(PF.spec_l2Vars a0.vars))) rfl) ?_
 refine FL.cut 5 (fun f w => ∃ H : GH, St Ha wa H w [] ∧ Inc H25 H ∧ f 1 = Value.pointer (some ⟨b21, 0, none⟩) ∧ f 13 = Value.bool (bif (!(PF.spec_l2Vars a0.vars)) then true else (decide (60 < (len a0.clauses))))) ?_ ?_
 ·
  rcases bcase (!(PF.spec_l2Vars a0.vars)) with c38 | c38
  ·
   refine FL.skip (wF_no rfl rfl rfl c38) rfl ?_
   refine FL.skip (wF_no rfl rfl rfl c38) rfl ?_
   refine FL.skip (wF_no rfl rfl rfl c38) rfl ?_
   refine FL.skip (wF_no rfl rfl rfl c38) rfl ?_
   refine FL.v (E.pickT rfl c38 rfl) ?_
   exact FL.nil ⟨rfl, _, S31, (Inc.rfl _), rfl, (congrArg Value.bool (bifT c38).symm)⟩
  ·
   refine FL.val (wF_yes rfl rfl rfl c38) rfl rfl (E.fieldAddr tf28_1 rfl) ?_
   refine FL.val (wF_yes rfl rfl rfl c38) rfl rfl (E.load rfl (run_load1 Tryz.isAgg22 (at28.now S31.sl) rfl)) ?_
   refine FL.val (wF_yes rfl rfl rfl c38) rfl rfl (E.lenP te22 rfl p0_1) ?_
   refine FL.val (wF_yes rfl rfl rfl c38) rfl rfl (E.gtr rfl rfl) ?_
   refine FL.v (E.pickF rfl c38 rfl) ?_
   exact FL.nil ⟨rfl, _, S31, (Inc.rfl _), rfl, (congrArg Value.bool (bifF c38).symm)⟩
 rintro f37 w36 ⟨H33, S34, i35, k39, k40⟩
 refine FL.nil ?_
 rcases ifB hp with ⟨c41, hp⟩ | ⟨c41, hp⟩
 ·
  refine FW.condT k40 c41 ?_
  refine FW.seq (FW.region ?_)
  refine FL.v (E.assign (v := Value.bool false) rfl) ?_
  refine FL.nil ?_
  refine FW.ret ?_
  obtain rfl := Option.some.inj hp
  exact ⟨.inr rfl, res1 rfl rfl ⟨rfl, S34.back⟩⟩
 ·
  refine FW.condF k40 c41 ?_
  refine FW.skip (FW.seq (FW.seq (FW.region ?_)))
  refine FL.v (E.assign (v := Value.int .i64 0) rfl) ?_
  refine FL.nil ?_
  obtain ⟨q42, hq, hp⟩ := bndR hp
  refine FW.block ?_
  refine FW.mono (FW.iter (S := Int) (X := Bool) (fun (s42 : Int) f w => ∃ H : GH, St Ha wa H w [] ∧ Inc H33 H ∧ f 1 = Value.pointer (some ⟨b21, 0, none⟩) ∧ f 3 = Value.int .i64 s42) (fun q e f w => match q with | .go s42 => e = Exit.exit 0 ∧ (∃ H : GH, St Ha wa H w [] ∧ Inc H33 H) | .rt x => ((e = Exit.ret) ∧ (fun e f w => (e = Exit.normal ∨ e = Exit.ret) ∧ ∀ a, Fr (δ := []) 30 a f → ∃ v, (results Tryz.f101 a.tmps).run Tryz.prog w = .ok v w ∧ (Sc Ha wa (Value.bool x)) (.returned v) w) e f w)) hq ⟨_, S34, (Inc.rfl _), k39, rfl⟩ ?_) ?_
  ·
   clear hp hq
   rintro s42 f72 w71 ⟨H68, S69, i70, k73, k74⟩ o93 hp
   refine FW.seq (FW.seq (FW.region ?_))
   refine FL.v (E.move k74) ?_
   refine FL.v (E.fieldAddr tf28_1 k73) ?_
   refine FL.v (E.load rfl (run_load1 Tryz.isAgg22 ((at28.mono (i35.tr i70)).now S69.sl) rfl)) ?_
   refine FL.v (E.lenP te22 rfl p0_1) ?_
   refine FL.v (E.lss rfl rfl) ?_
   refine FL.nil ?_
   rcases ifB hp with ⟨c75, hp⟩ | ⟨c75, hp⟩
   ·
    refine FW.condT rfl c75 ?_
    refine FW.skip (FW.seq (FW.block (FW.seq ?_)))
    refine FW.draw (fun w' => Run w71.heap.size H68 w71 H68 w') (by kernel_rfl) (by kernel_rfl) (run_drew S69.sl) ?_
    refine FD.val rfl rfl rfl (fun w' hw' => (E.fieldAddr tf28_0 k73)) ?_
    refine FD.val rfl rfl rfl (fun w' hw' => (E.load rfl (run_load1 Tryz.isAgg3 ((at28.mono (i35.tr i70)).now (S69.call hw').sl) rfl))) ?_
    refine FD.val rfl rfl rfl (fun w' hw' => (E.fieldAddr tf28_1 k73)) ?_
    refine FD.val rfl rfl rfl (fun w' hw' => (E.load rfl (run_load1 Tryz.isAgg22 ((at28.mono (i35.tr i70)).now (S69.call hw').sl) rfl))) ?_
    refine FD.val rfl rfl rfl (fun w' hw' => (E.move k74)) ?_
    obtain ⟨x83, hx84, hp⟩ := bnd hp
    obtain ⟨p77, cs78, pt79, l80, at81, rel82⟩ := p0_1.at hx84
    obtain ⟨v85, rfl, h86⟩ := eL_open rel82
    refine FD.val rfl rfl rfl (fun w' hw' => (E.indexAddr te22 rfl rfl pt79)) ?_
    refine FD.val rfl rfl rfl (fun w' hw' => (E.load rfl (run_load0 Tryz.isAgg44 ((at81.mono ((i27.tr i35).tr i70)).now (S69.call hw').sl) rfl))) ?_
    obtain ⟨r87, hr88, hp⟩ := bnd hp
    refine FD.call rfl rfl rfl (fun w' hw' => (E.call Tryz.call102 (A2 rfl rfl))) (fun w' hw' => Calls.cls hw' (w_spec_l2Clause (S69.call hw').sl a0.vars v85 x83 (h86.mono ((i27.tr i35).tr i70)) hr88)) ?_
    refine FD.val rfl rfl rfl (fun w' hw' => (E.not rfl)) ?_
    refine FD.nil ?_
    intro w89 r91
    have S90 := S69.call r91
    rcases ifB hp with ⟨c92, hp⟩ | ⟨c92, hp⟩
    ·
     refine FW.condT rfl c92 ?_
     refine FW.seq (FW.region ?_)
     refine FL.v (E.assign (v := Value.bool false) rfl) ?_
     refine FL.nil ?_
     refine FW.ret ?_
     obtain rfl := Option.some.inj hp
     exact ⟨nofun, rfl, ⟨.inr rfl, res1 rfl rfl ⟨rfl, S90.back⟩⟩⟩
    ·
     refine FW.condF rfl c92 ?_
     refine FW.skip (FW.region ?_)
     refine FL.v (E.move k74) ?_
     refine FL.v (E.add rfl rfl) ?_
     refine FL.v (E.assign (v := Value.int .i64 (wr (s42 + 1))) rfl) ?_
     refine FL.nil ?_
     obtain rfl := Option.some.inj hp
     exact ⟨rfl, ⟨_, S90, i70, k73, rfl⟩⟩
   ·
    refine FW.condF rfl c75 ?_
    refine FW.exit ?_
    obtain rfl := Option.some.inj hp
    exact ⟨nofun, rfl, ⟨_, S69, i70⟩⟩
  ·
   clear hq
   intro e f98 w97 hD
   rcases q42 with s42 | x42
   ·
    obtain ⟨rfl, hD⟩ := hD
    obtain ⟨H94, S95, i96⟩ := hD
    replace hp := el_go hp
    refine FW.seq (FW.region ?_)
    refine FL.v (E.assign (v := Value.bool true) rfl) ?_
    refine FL.nil ?_
    refine FW.ret ?_
    obtain rfl := Option.some.inj hp
    exact ⟨.inr rfl, res1 rfl rfl ⟨rfl, S95.back⟩⟩
   ·
    obtain ⟨he, hL⟩ := hD
    replace hp := el_rt hp
    obtain rfl := Option.some.inj hp
    subst he
    exact hL

theorem w_spec_l11Takes {Ha : GH} {wa : World} (hs : Sl Ha wa) (a0 : Cnf) (v0_1 : Value) (p0_1 : RSl Ha (eL eI 1) 1 v0_1 a0.clauses) (v1 : Value) (a1 : List (List Int)) (p1 : RSl Ha (eL eI 1) 1 v1 a1) {r : Bool} (hp : (PF.spec_l11Takes a0 a1) = some r) :
  Calls Tryz.prog 69 #[Value.agg #[Value.int .i64 a0.vars, v0_1], v1] wa (Sc Ha wa (Value.bool r)) := by
 unfold PF.spec_l11Takes at hp
 have S0 := St.init hs
 refine calls_go (N := 28) (args := [Value.agg #[Value.int .i64 a0.vars, v0_1], v1]) Tryz.func69 rfl rfl rfl ?_
 refine FW.seq (FW.region ?_)
 obtain ⟨b21, w22, run23, S24⟩ := S0.box (P := Tryz.prog) 28 [Value.int .i64 a0.vars, v0_1] (v := Value.agg #[Value.int .i64 a0.vars, v0_1]) rfl (ones_cons rfl (ones_cons p0_1.one ones_nil))
 refine FL.v (E.box rfl run23) ?_
 obtain ⟨H25, S26, i27, at28⟩ := S24.sealBox (i := 0) (l' := []) rfl rfl
 refine FL.v (E.assign (v := Value.bool false) rfl) ?_
 refine FL.nil (FW.seq (FW.seq (FW.region ?_)))
 refine FL.v (E.load rfl (run_loadA Tryz.isAgg28 Tryz.sizeOf28 (at28.now S26.sl) rfl)) ?_
 obtain ⟨r29, hr30, hp⟩ := bnd hp
 refine FL.call rfl rfl rfl (E.call Tryz.call101 (A1 rfl)) (w_spec_l2Good S26.sl a0 v0_1 (p0_1.mono i27) hr30) ?_
 rintro e w31 ⟨rfl, r32⟩
 refine ⟨_, rfl, ?_⟩
 have S33 := S26.call r32
 refine FL.v (E.not rfl) ?_
 refine FL.v (E.move (v := Value.bool (!r29)) rfl) ?_
 refine FL.cut 4 (fun f w => ∃ H : GH, St Ha wa H w [] ∧ Inc H25 H ∧ f 1 = v1 ∧ f 2 = Value.pointer (some ⟨b21, 0, none⟩) ∧ f 13 = Value.bool (bif (!r29) then true else (decide (60 < (len a1))))) ?_ ?_
 ·
  rcases bcase (!r29) with c40 | c40
  ·
   refine FL.skip (wF_no rfl rfl rfl c40) rfl ?_
   refine FL.skip (wF_no rfl rfl rfl c40) rfl ?_
   refine FL.skip (wF_no rfl rfl rfl c40) rfl ?_
   refine FL.v (E.pickT rfl c40 rfl) ?_
   exact FL.nil ⟨rfl, _, S33, (Inc.rfl _), rfl, rfl, (congrArg Value.bool (bifT c40).symm)⟩
  ·
   refine FL.val (wF_yes rfl rfl rfl c40) rfl rfl (E.move (v := v1) rfl) ?_
   refine FL.val (wF_yes rfl rfl rfl c40) rfl rfl (E.lenP te22 rfl p1) ?_
   refine FL.val (wF_yes rfl rfl rfl c40) rfl rfl (E.gtr rfl rfl) ?_
   refine FL.v (E.pickF rfl c40 rfl) ?_
   exact FL.nil ⟨rfl, _, S33, (Inc.rfl _), rfl, rfl, (congrArg Value.bool (bifF c40).symm)⟩
 rintro f39 w38 ⟨H35, S36, i37, k41, k42, k43⟩
 refine FL.nil ?_
 rcases ifB hp with ⟨c44, hp⟩ | ⟨c44, hp⟩
 ·
  refine FW.condT k43 c44 ?_
  refine FW.seq (FW.region ?_)
  refine FL.v (E.assign (v := Value.bool false) rfl) ?_
  refine FL.nil ?_
  refine FW.ret ?_
  obtain rfl := Option.some.inj hp
  exact ⟨.inr rfl, res1 rfl rfl ⟨rfl, S36.back⟩⟩
 ·
  refine FW.condF k43 c44 ?_
  refine FW.skip (FW.seq (FW.seq (FW.region ?_)))
  refine FL.v (E.assign (v := Value.int .i64 0) rfl) ?_
  refine FL.nil ?_
  obtain ⟨q46, hq, hp⟩ := bndR hp
  refine FW.block ?_
  refine FW.mono (FW.forL (S := Unit) (X := Bool) (fun (i46 : Nat) (s46 : Unit) f w => ∃ H : GH, St Ha wa H w [] ∧ Inc H35 H ∧ f 5 = Value.int .i64 ((i46 : Nat) : Int) ∧ f 1 = v1 ∧ f 2 = Value.pointer (some ⟨b21, 0, none⟩)) (fun q e f w => match q with | .go s46 => e = Exit.exit 0 ∧ (∃ H : GH, St Ha wa H w [] ∧ Inc H35 H) | .rt x => ((e = Exit.ret) ∧ (fun e f w => (e = Exit.normal ∨ e = Exit.ret) ∧ ∀ a, Fr (δ := []) 28 a f → ∃ v, (results Tryz.f69 a.tmps).run Tryz.prog w = .ok v w ∧ (Sc Ha wa (Value.bool x)) (.returned v) w) e f w)) hq ⟨_, S36, (Inc.rfl _), rfl, k41, k42⟩ ?_ ?_) ?_
  ·
   clear hp hq
   rintro i46 y45 s46 f74 w73 ⟨H70, S71, i72, k75, k76, k77⟩ hx46 o93 hp
   refine FW.seq (FW.seq (FW.region ?_))
   refine FL.v (E.move k75) ?_
   refine FL.v (E.move k76) ?_
   refine FL.v (E.lenP te22 rfl p1) ?_
   refine FL.v (E.lssT rfl rfl (lss_len hx46)) ?_
   refine FL.nil ?_
   refine FW.condT rfl rfl ?_
   refine FW.skip (FW.seq (FW.block (FW.seq ?_)))
   refine FW.draw (fun w' => Run w73.heap.size H70 w73 H70 w') (by kernel_rfl) (by kernel_rfl) (run_drew S71.sl) ?_
   refine FD.val rfl rfl rfl (fun w' hw' => (E.fieldAddr tf28_0 k77)) ?_
   refine FD.val rfl rfl rfl (fun w' hw' => (E.load rfl (run_load1 Tryz.isAgg3 ((at28.mono (i37.tr i72)).now (S71.call hw').sl) rfl))) ?_
   refine FD.val rfl rfl rfl (fun w' hw' => (E.move k76)) ?_
   refine FD.val rfl rfl rfl (fun w' hw' => (E.move k75)) ?_
   obtain ⟨p79, cs80, pt81, l82, at83, rel84⟩ := p1.at (ix_nat hx46)
   obtain ⟨v85, rfl, h86⟩ := eL_open rel84
   refine FD.val rfl rfl rfl (fun w' hw' => (E.indexAddr te22 rfl rfl pt81)) ?_
   refine FD.val rfl rfl rfl (fun w' hw' => (E.load rfl (run_load0 Tryz.isAgg44 ((at83.mono ((i27.tr i37).tr i72)).now (S71.call hw').sl) rfl))) ?_
   obtain ⟨r87, hr88, hp⟩ := bnd hp
   refine FD.call rfl rfl rfl (fun w' hw' => (E.call Tryz.call102 (A2 rfl rfl))) (fun w' hw' => Calls.cls hw' (w_spec_l2Clause (S71.call hw').sl a0.vars v85 y45 (h86.mono ((i27.tr i37).tr i72)) hr88)) ?_
   refine FD.val rfl rfl rfl (fun w' hw' => (E.not rfl)) ?_
   refine FD.nil ?_
   intro w89 r91
   have S90 := S71.call r91
   rcases ifB hp with ⟨c92, hp⟩ | ⟨c92, hp⟩
   ·
    refine FW.condT rfl c92 ?_
    refine FW.seq (FW.region ?_)
    refine FL.v (E.assign (v := Value.bool false) rfl) ?_
    refine FL.nil ?_
    refine FW.ret ?_
    obtain rfl := Option.some.inj hp
    exact ⟨nofun, rfl, ⟨.inr rfl, res1 rfl rfl ⟨rfl, S90.back⟩⟩⟩
   ·
    refine FW.condF rfl c92 ?_
    refine FW.skip (FW.region ?_)
    refine FL.v (E.move k75) ?_
    refine FL.v (E.add rfl rfl) ?_
    refine FL.v (E.assign (v := Value.int .i64 (wr (((i46 : Nat) : Int) + 1))) rfl) ?_
    refine FL.nil ?_
    obtain rfl := Option.some.inj hp
    exact ⟨rfl, ⟨_, S90, i72, (nat_succ rfl (lt_of_get hx46) (p1.mono ((i27.tr i37).tr i72)).le), k76, k77⟩⟩
  ·
   clear hp hq
   rintro s46 f103 w102 ⟨H99, S100, i101, k104, k105, k106⟩
   refine FW.seq (FW.seq (FW.region ?_))
   refine FL.v (E.move k104) ?_
   refine FL.v (E.move k105) ?_
   refine FL.v (E.lenP te22 rfl p1) ?_
   refine FL.v (E.lss rfl rfl) ?_
   refine FL.nil ?_
   refine FW.condF rfl dlt_len ?_
   refine FW.exit ?_
   exact ⟨nofun, rfl, ⟨_, S100, i101⟩⟩
  ·
   clear hq
   intro e f98 w97 hD
   rcases q46 with s46 | x46
   ·
    obtain ⟨rfl, hD⟩ := hD
    obtain ⟨H94, S95, i96⟩ := hD
    replace hp := el_go hp
    refine FW.seq (FW.region ?_)
    refine FL.v (E.assign (v := Value.bool true) rfl) ?_
    refine FL.nil ?_
    refine FW.ret ?_
    obtain rfl := Option.some.inj hp
    exact ⟨.inr rfl, res1 rfl rfl ⟨rfl, S95.back⟩⟩
   ·
    obtain ⟨he, hL⟩ := hD
    replace hp := el_rt hp
    obtain rfl := Option.some.inj hp
    subst he
    exact hL

@[reducible] def p_spec_l11With (Ha : GH) (wa : World) (r : Cnf) : Ending → World → Prop :=
 fun e w' => ∃ H' : GH, ∃ v0_1 : Value, e = .returned (Value.agg #[Value.int .i64 r.vars, v0_1]) ∧ Run wa.heap.size Ha wa H' w' ∧ RSl H' (eL eI 1) 1 v0_1 r.clauses
theorem w_spec_l11With {Ha : GH} {wa : World} (hs : Sl Ha wa) (a0 : Cnf) (v0_1 : Value) (p0_1 : RSl Ha (eL eI 1) 1 v0_1 a0.clauses) (v1 : Value) (a1 : List (List Int)) (p1 : RSl Ha (eL eI 1) 1 v1 a1) {r : Cnf} (hp : (PF.spec_l11With a0 a1) = some r) :
  Calls Tryz.prog 72 #[Value.agg #[Value.int .i64 a0.vars, v0_1], v1] wa (p_spec_l11With Ha wa r) := by
 unfold PF.spec_l11With at hp
 have S0 := St.init hs
 refine calls_go (N := 14) (args := [Value.agg #[Value.int .i64 a0.vars, v0_1], v1]) Tryz.func72 rfl rfl rfl ?_
 refine FW.seq (FW.region ?_)
 obtain ⟨b21, w22, run23, S24⟩ := S0.box (P := Tryz.prog) 28 [Value.int .i64 a0.vars, v0_1] (v := Value.agg #[Value.int .i64 a0.vars, v0_1]) rfl (ones_cons rfl (ones_cons p0_1.one ones_nil))
 refine FL.v (E.box rfl run23) ?_
 obtain ⟨H25, S26, i27, at28⟩ := S24.sealBox (i := 0) (l' := []) rfl rfl
 obtain ⟨b29, w30, run31, S32⟩ := S26.alloc (P := Tryz.prog) 28 [Value.int .i64 0, Value.slice none 0 0] Tryz.zeroValue28 rfl (ones_cons rfl (ones_cons rfl ones_nil))
 refine FL.v (E.alloc run31) ?_
 refine FL.nil (FW.seq ?_)
 obtain ⟨xs41, hz42, hp⟩ := bnd hp
 obtain ⟨xs50, hz51, hp⟩ := bnd hp
 refine FW.drawB (Sl H25) (fun f w => ∃ H : GH, ∃ v66 : Value, St Ha wa H w [.box b29 28 [Value.int .i64 a0.vars, v66]] ∧ Inc H25 H ∧ RSl H (eL eI 1) 1 v66 xs50 ∧ f 4 = Value.pointer (some (⟨b29, 0, none⟩ : Addr))) (by kernel_rfl) S32.sl ?_ ?_
 ·
  intro w33 r34
  have S35 := S32.call r34
  refine FB.t (i := 0) (bs 10 1) rfl (SP.nil S35.sl) rfl (fun w' hw' => (E.fieldAddr tf28_0 rfl)) ?_
  refine FB.t (i := 1) (bs 10 3) rfl (SP.nil S35.sl) rfl (fun w' hw' => (E.load rfl (run_load1 Tryz.isAgg3 (at28.now hw') rfl))) ?_
  refine FB.t (i := 3) (bs 10 11) rfl (SP.nil S35.sl) rfl (fun w' hw' => (E.fieldAddr tf28_1 rfl)) ?_
  refine FB.t (i := 4) (bs 10 27) rfl (SP.nil S35.sl) rfl (fun w' hw' => (E.load rfl (run_load1 Tryz.isAgg22 (at28.now hw') rfl))) ?_
  refine FB.t (i := 6) (bs 10 91) rfl (SP.nil S35.sl) rfl (fun w' hw' => (E.move (v := v1) rfl)) ?_
  refine FB.all1 (i := 2) (by kernel_rfl) ?_
  ·
   obtain ⟨v36, w37, run38, S39⟩ := S35.buildSlice (P := Tryz.prog) te22 [] (parts := #[]) (cells := []) rfl szs_nil fc_nil ones_nil (Nat.le_of_ble_eq_true rfl)
   have els40 : Els (up wa.heap.size H25) (eL eI 1) 1 [] [] := Els.nil
   refine FC.val (l' := (bs 10 95)) rfl (by kernel_rfl) rfl rfl rfl (E.buildSlice (B0) run38) ?_
   refine ⟨(SP.nil S39.sl), ?_⟩
   refine FB.all1 (i := 5) (by kernel_rfl) ?_
   ·
    obtain ⟨v43, w46, n44, cs45, run47, S48, els49⟩ := S39.appendP (P := Tryz.prog) (Inc.rfl _) te22 (i := 0) rfl (els40.mono upI) (p0_1.mono i27) hz42
    have S48 : St Ha wa H25 w46 [.row 44 1 v43 n44 cs45, .box b29 28 [Value.int .i64 0, Value.slice none 0 0]] := S48
    refine FC.val (l' := (bs 10 127)) rfl (by kernel_rfl) rfl rfl rfl (E.append rfl rfl run47) ?_
    refine ⟨(SP.nil S48.sl), ?_⟩
    refine FB.all1 (i := 7) (by kernel_rfl) ?_
    ·
     obtain ⟨v52, w55, n53, cs54, run56, S57, els58⟩ := S48.appendP (P := Tryz.prog) (Inc.rfl _) te22 (i := 0) rfl els49 (p1.mono i27) hz51
     have S57 : St Ha wa H25 w55 [.row 44 1 v52 n53 cs54, .box b29 28 [Value.int .i64 0, Value.slice none 0 0]] := S57
     refine FC.val (l' := (bs 10 255)) rfl (by kernel_rfl) rfl rfl rfl (E.append rfl rfl run56) ?_
     refine ⟨(SP.nil S57.sl), ?_⟩
     obtain ⟨H59, S60, i61, h62⟩ := S57.sealRow (i := 0) (l' := [.box b29 28 [Value.int .i64 0, Value.slice none 0 0]]) rfl els58 (by decide) rfl
     refine FB.t (i := 8) (bs 10 511) rfl (SP.nil S57.sl) rfl (fun w' hw' => (E.build (B2 rfl rfl) (run_build _ 28 #[(0, Value.int .i64 a0.vars), (1, v52)] #[Value.int .i64 a0.vars, v52] (by obtain ⟨_, _, rfl⟩ := RSl.ln h62; rfl)))) ?_
     refine FB.all1 (i := 9) (by kernel_rfl) ?_
     ·
      obtain ⟨w63, run64, S65⟩ := S60.store0 (P := Tryz.prog) (t := 28) (i := 0) (cs' := [Value.int .i64 a0.vars, v52]) (l' := [.box b29 28 [Value.int .i64 a0.vars, v52]]) (v := Value.agg #[Value.int .i64 a0.vars, v52]) (c := [Value.int .i64 a0.vars, v52]) rfl Tryz.sizeOf28 rfl rfl (ones_cons rfl (ones_cons h62.one ones_nil)) (Nat.le_of_ble_eq_true rfl) rfl rfl
      refine FC.act (l' := (bs 10 1023)) rfl (by kernel_rfl) rfl rfl (E.store rfl rfl run64) ?_
      refine ⟨(SP.nil (Sl.of_inc i61 S65.sl)), ?_⟩
      exact FB.done (by kernel_rfl) ⟨_, _, S65, i61, h62, rfl⟩
 ·
  rintro f72 w71 ⟨H68, v66, S69, i70, h67, k73⟩
  refine FW.ret ?_
  obtain rfl := Option.some.inj hp
  exact ⟨.inr rfl, resC rfl k73 (loadVar_A Tryz.isAgg28 Tryz.sizeOf28 (S69.box_now (i := 0) rfl) rfl) ⟨_, _, rfl, S69.run, h67⟩⟩

@[reducible] def p_spec_l11Deny (Ha : GH) (wa : World) (r : (List Int)) : Ending → World → Prop :=
  fun e w' => ∃ H' : GH, ∃ v0 : Value, ∃ n0 : Nat, ∃ c0 : List Value, e = .returned (v0) ∧ St Ha wa H' w' [.row 3 1 v0 n0 c0] ∧ Els (up wa.heap.size H') eI 1 c0 r
theorem w_spec_l11Deny {Ha : GH} {wa : World} (hs : Sl Ha wa) (v0 : Value) (a0 : List Int) (p0 : RSl Ha eI 1 v0 a0) {r : (List Int)} (hp : (PF.spec_l11Deny a0) = some r) :
    Calls Tryz.prog 105 #[v0] wa (p_spec_l11Deny Ha wa r) := by
  unfold PF.spec_l11Deny at hp
  have S0 := St.init hs
  refine calls_go (N := 21) (args := [v0]) Tryz.func105 rfl rfl rfl ?_
  refine FW.seq (FW.region ?_)
  refine FL.v (E.assign (v := Value.slice none 0 0) rfl) ?_
  refine FL.nil (FW.seq (FW.region ?_))
  obtain ⟨v21, w22, run23, S24⟩ := S0.buildSlice (P := Tryz.prog) te44 [] (parts := #[]) (cells := []) rfl szs_nil fc_nil ones_nil (Nat.le_of_ble_eq_true rfl)
  have els25 : Els (up wa.heap.size Ha) eI 1 [] [] := Els.nil
  refine FL.v (E.buildSlice (B0) run23) ?_
  refine FL.v (E.assign (v := v21) rfl) ?_
  refine FL.nil (FW.seq (FW.seq (FW.region ?_)))
  refine FL.v (E.assign (v := Value.int .i64 0) rfl) ?_
  refine FL.nil ?_
  obtain ⟨q27, hq, hp⟩ := bndR hp
  refine FW.block ?_
  refine FW.mono (FW.forL (S := (List Int)) (X := Empty) (fun (i27 : Nat) (s27 : (List Int)) f w => ∃ H : GH, ∃ v28 : Value, ∃ n29 : Nat, ∃ cs30 : List Value, St Ha wa H w [.row 3 1 v28 n29 cs30] ∧ Inc Ha H ∧ Els (up wa.heap.size H) eI 1 cs30 s27 ∧ f 4 = Value.int .i64 ((i27 : Nat) : Int) ∧ f 0 = v0 ∧ f 3 = v28) (fun (q : Rs (List Int) Empty) e f w => match q with | .go s27 => e = Exit.exit 0 ∧ (∃ H : GH, ∃ v28 : Value, ∃ n29 : Nat, ∃ cs30 : List Value, St Ha wa H w [.row 3 1 v28 n29 cs30] ∧ Inc Ha H ∧ Els (up wa.heap.size H) eI 1 cs30 s27 ∧ f 3 = v28) | .rt x => x.elim) hq ⟨_, _, _, _, S24, (Inc.rfl _), els25, rfl, rfl, rfl⟩ ?_ ?_) ?_
  ·
    clear hp hq
    rintro i27 y26 s27 f66 w65 ⟨H62, v28, n29, cs30, S63, i64, els31, k67, k68, k69⟩ hx27 o92 hp
    refine FW.seq (FW.seq (FW.region ?_))
    refine FL.v (E.move k67) ?_
    refine FL.v (E.move k68) ?_
    refine FL.v (E.lenP te44 rfl p0) ?_
    refine FL.v (E.lssT rfl rfl (lss_len hx27)) ?_
    refine FL.nil ?_
    refine FW.condT rfl rfl ?_
    refine FW.skip (FW.seq (FW.block (FW.region ?_)))
    refine FL.v (E.move k69) ?_
    refine FL.v (E.move k68) ?_
    refine FL.v (E.move k67) ?_
    obtain ⟨p70, cs71, pt72, l73, at74, rel75⟩ := p0.at (ix_nat hx27)
    obtain rfl := eI_open rel75
    refine FL.v (E.indexAddr te44 rfl rfl pt72) ?_
    refine FL.v (E.load rfl (run_load0 Tryz.isAgg3 ((at74.mono i64).now S63.sl) rfl)) ?_
    refine FL.v (E.neg rfl) ?_
    obtain ⟨v76, w77, run78, S79⟩ := S63.buildSlice (P := Tryz.prog) te44 [Value.int .i64 (wr (-y26))] (parts := #[(0, Value.int .i64 (wr (-y26)))]) (cells := [Value.int .i64 (wr (-y26))]) rfl (szs_cons rfl szs_nil) (fc_cons rfl fc_nil) (ones_cons rfl ones_nil) (Nat.le_of_ble_eq_true rfl)
    have els80 : Els (up wa.heap.size H62) eI 1 [Value.int .i64 (wr (-y26))] [(wr (-y26))] := (Els.snoc (H := (up wa.heap.size H62)) (E := eI) (k := 1) (c := [Value.int .i64 (wr (-y26))]) (x := (wr (-y26))) Els.nil rfl rfl)
    refine FL.v (E.buildSlice (B1 rfl) run78) ?_
    obtain ⟨xs81, hz82, hp⟩ := bnd hp
    obtain ⟨v83, w86, n84, cs85, run87, S88, els89, ce90⟩ := S79.appendO (P := Tryz.prog) te44 (i := 1) (j := 0) rfl els31 rfl els80 hz82
    have S88 : St Ha wa H62 w86 [.row 3 1 v76 1 [Value.int .i64 (wr (-y26))], .row 3 1 v83 n84 cs85] := S88
    have S91 : St Ha wa H62 w86 [.row 3 1 v83 n84 cs85] := S88.drop 0
    refine FL.v (E.append rfl rfl run87) ?_
    refine FL.v (E.assign (v := v83) rfl) ?_
    refine FL.nil (FW.region ?_)
    refine FL.v (E.move k67) ?_
    refine FL.v (E.add rfl rfl) ?_
    refine FL.v (E.assign (v := Value.int .i64 (wr (((i27 : Nat) : Int) + 1))) rfl) ?_
    refine FL.nil ?_
    obtain rfl := Option.some.inj hp
    exact ⟨rfl, ⟨_, _, _, _, S91, i64, els89, (nat_succ rfl (lt_of_get hx27) (p0.mono i64).le), k68, rfl⟩⟩
  ·
    clear hp hq
    rintro s27 f103 w102 ⟨H99, v28, n29, cs30, S100, i101, els31, k104, k105, k106⟩
    refine FW.seq (FW.seq (FW.region ?_))
    refine FL.v (E.move k104) ?_
    refine FL.v (E.move k105) ?_
    refine FL.v (E.lenP te44 rfl p0) ?_
    refine FL.v (E.lss rfl rfl) ?_
    refine FL.nil ?_
    refine FW.condF rfl dlt_len ?_
    refine FW.exit ?_
    exact ⟨nofun, rfl, ⟨_, _, _, _, S100, i101, els31, k106⟩⟩
  ·
    clear hq
    intro e f97 w96 hD
    rcases q27 with s27 | x27
    ·
      obtain ⟨rfl, hD⟩ := hD
      obtain ⟨H93, v28, n29, cs30, S94, i95, els31, k98⟩ := hD
      replace hp := el_go hp
      refine FW.seq (FW.region ?_)
      refine FL.v (E.move k98) ?_
      refine FL.v (E.assign (v := v28) rfl) ?_
      refine FL.nil ?_
      refine FW.ret ?_
      obtain rfl := Option.some.inj hp
      exact ⟨.inr rfl, res1 rfl rfl ⟨_, _, _, _, rfl, S94, els31⟩⟩
    · exact x27.elim

@[reducible] def p_spec_l1Own (Ha : GH) (wa : World) (r : (List Int)) : Ending → World → Prop :=
 fun e w' => ∃ H' : GH, ∃ v0 : Value, ∃ n0 : Nat, ∃ c0 : List Value, e = .returned (v0) ∧ St Ha wa H' w' [.row 3 1 v0 n0 c0] ∧ Els (up wa.heap.size H') eI 1 c0 r
theorem w_spec_l1Own {Ha : GH} {wa : World} (hs : Sl Ha wa) (v0 : Value) (a0 : List Int) (p0 : RSl Ha eI 1 v0 a0) {r : (List Int)} (hp : (PF.spec_l1Own a0) = some r) :
  Calls Tryz.prog 64 #[v0] wa (p_spec_l1Own Ha wa r) := by
 unfold PF.spec_l1Own at hp
 have S0 := St.init hs
 refine calls_go (N := 6) (args := [v0]) Tryz.func64 rfl rfl rfl ?_
 refine FW.seq (FW.region ?_)
 refine FL.v (E.assign (v := Value.slice none 0 0) rfl) ?_
 refine FL.nil (FW.seq (FW.region ?_))
 obtain ⟨v21, w22, run23, S24⟩ := S0.buildSlice (P := Tryz.prog) te44 [] (parts := #[]) (cells := []) rfl szs_nil fc_nil ones_nil (Nat.le_of_ble_eq_true rfl)
 have els25 : Els (up wa.heap.size Ha) eI 1 [] [] := Els.nil
 refine FL.v (E.buildSlice (B0) run23) ?_
 refine FL.v (E.move (v := v0) rfl) ?_
 obtain ⟨xs26, hz27, hp⟩ := bnd hp
 obtain ⟨v28, w31, n29, cs30, run32, S33, els34⟩ := S24.appendP (P := Tryz.prog) (Inc.rfl _) te44 (i := 0) rfl (els25.mono upI) p0 hz27
 have S33 : St Ha wa Ha w31 [.row 3 1 v28 n29 cs30] := S33
 have els34 : Els (up wa.heap.size Ha) eI 1 cs30 xs26 := els34.any (fun _ _ _ _ h => h)
 refine FL.v (E.append rfl rfl run32) ?_
 refine FL.v (E.assign (v := v28) rfl) ?_
 refine FL.nil ?_
 refine FW.ret ?_
 obtain rfl := Option.some.inj hp
 exact ⟨.inr rfl, res1 rfl rfl ⟨_, _, _, _, rfl, S33, els34⟩⟩

theorem w_spec_l1Has {Ha : GH} {wa : World} (hs : Sl Ha wa) (v0 : Value) (a0 : List Int) (p0 : RSl Ha eI 1 v0 a0) (a1 : Int) {r : Bool} (hp : (PF.spec_l1Has a0 a1) = some r) :
  Calls Tryz.prog 107 #[v0, Value.int .i64 a1] wa (Sc Ha wa (Value.bool r)) := by
 unfold PF.spec_l1Has at hp
 have S0 := St.init hs
 refine calls_go (N := 18) (args := [v0, Value.int .i64 a1]) Tryz.func107 rfl rfl rfl ?_
 refine FW.seq (FW.region ?_)
 refine FL.v (E.assign (v := Value.bool false) rfl) ?_
 refine FL.nil (FW.seq (FW.seq (FW.region ?_)))
 refine FL.v (E.assign (v := Value.int .i64 0) rfl) ?_
 refine FL.nil ?_
 obtain ⟨q22, hq, hp⟩ := bndR hp
 refine FW.block ?_
 refine FW.mono (FW.forL (S := Unit) (X := Bool) (fun (i22 : Nat) (s22 : Unit) f w => ∃ H : GH, St Ha wa H w [] ∧ Inc Ha H ∧ f 5 = Value.int .i64 ((i22 : Nat) : Int) ∧ f 0 = v0 ∧ f 1 = Value.int .i64 a1) (fun q e f w => match q with | .go s22 => e = Exit.exit 0 ∧ (∃ H : GH, St Ha wa H w [] ∧ Inc Ha H) | .rt x => ((e = Exit.ret) ∧ (fun e f w => (e = Exit.normal ∨ e = Exit.ret) ∧ ∀ a, Fr (δ := []) 18 a f → ∃ v, (results Tryz.f107 a.tmps).run Tryz.prog w = .ok v w ∧ (Sc Ha wa (Value.bool x)) (.returned v) w) e f w)) hq ⟨_, S0, (Inc.rfl _), rfl, rfl, rfl⟩ ?_ ?_) ?_
 ·
  clear hp hq
  rintro i22 y21 s22 f42 w41 ⟨H38, S39, i40, k43, k44, k45⟩ hx22 o53 hp
  refine FW.seq (FW.seq (FW.region ?_))
  refine FL.v (E.move k43) ?_
  refine FL.v (E.move k44) ?_
  refine FL.v (E.lenP te44 rfl p0) ?_
  refine FL.v (E.lssT rfl rfl (lss_len hx22)) ?_
  refine FL.nil ?_
  refine FW.condT rfl rfl ?_
  refine FW.skip (FW.seq (FW.block (FW.seq (FW.region ?_))))
  refine FL.v (E.move k44) ?_
  refine FL.v (E.move k43) ?_
  obtain ⟨p46, cs47, pt48, l49, at50, rel51⟩ := p0.at (ix_nat hx22)
  obtain rfl := eI_open rel51
  refine FL.v (E.indexAddr te44 rfl rfl pt48) ?_
  refine FL.v (E.load rfl (run_load0 Tryz.isAgg3 ((at50.mono i40).now S39.sl) rfl)) ?_
  refine FL.v (E.move k45) ?_
  refine FL.v (E.eql rfl rfl) ?_
  refine FL.nil ?_
  rcases ifB hp with ⟨c52, hp⟩ | ⟨c52, hp⟩
  ·
   refine FW.condT rfl c52 ?_
   refine FW.seq (FW.region ?_)
   refine FL.v (E.assign (v := Value.bool true) rfl) ?_
   refine FL.nil ?_
   refine FW.ret ?_
   obtain rfl := Option.some.inj hp
   exact ⟨nofun, rfl, ⟨.inr rfl, res1 rfl rfl ⟨rfl, S39.back⟩⟩⟩
  ·
   refine FW.condF rfl c52 ?_
   refine FW.skip (FW.region ?_)
   refine FL.v (E.move k43) ?_
   refine FL.v (E.add rfl rfl) ?_
   refine FL.v (E.assign (v := Value.int .i64 (wr (((i22 : Nat) : Int) + 1))) rfl) ?_
   refine FL.nil ?_
   obtain rfl := Option.some.inj hp
   exact ⟨rfl, ⟨_, S39, i40, (nat_succ rfl (lt_of_get hx22) (p0.mono i40).le), k44, k45⟩⟩
 ·
  clear hp hq
  rintro s22 f63 w62 ⟨H59, S60, i61, k64, k65, k66⟩
  refine FW.seq (FW.seq (FW.region ?_))
  refine FL.v (E.move k64) ?_
  refine FL.v (E.move k65) ?_
  refine FL.v (E.lenP te44 rfl p0) ?_
  refine FL.v (E.lss rfl rfl) ?_
  refine FL.nil ?_
  refine FW.condF rfl dlt_len ?_
  refine FW.exit ?_
  exact ⟨nofun, rfl, ⟨_, S60, i61⟩⟩
 ·
  clear hq
  intro e f58 w57 hD
  rcases q22 with s22 | x22
  ·
   obtain ⟨rfl, hD⟩ := hD
   obtain ⟨H54, S55, i56⟩ := hD
   replace hp := el_go hp
   refine FW.seq (FW.region ?_)
   refine FL.v (E.assign (v := Value.bool false) rfl) ?_
   refine FL.nil ?_
   refine FW.ret ?_
   obtain rfl := Option.some.inj hp
   exact ⟨.inr rfl, res1 rfl rfl ⟨rfl, S55.back⟩⟩
  ·
   obtain ⟨he, hL⟩ := hD
   replace hp := el_rt hp
   obtain rfl := Option.some.inj hp
   subst he
   exact hL

theorem w_spec_l2Has {Ha : GH} {wa : World} (hs : Sl Ha wa) (v0 : Value) (a0 : List Int) (p0 : RSl Ha eI 1 v0 a0) (a1 : Int) {r : Bool} (hp : (PF.spec_l2Has a0 a1) = some r) :
  Calls Tryz.prog 73 #[v0, Value.int .i64 a1] wa (Sc Ha wa (Value.bool r)) := by
 unfold PF.spec_l2Has at hp
 have S0 := St.init hs
 refine calls_go (N := 8) (args := [v0, Value.int .i64 a1]) Tryz.func73 rfl rfl rfl ?_
 refine FW.seq (FW.region ?_)
 refine FL.v (E.assign (v := Value.bool false) rfl) ?_
 refine FL.nil (FW.seq (FW.region ?_))
 refine FL.v (E.move (v := v0) rfl) ?_
 refine FL.v (E.move (v := Value.int .i64 a1) rfl) ?_
 obtain ⟨r21, hr22, hp⟩ := bnd hp
 refine FL.call rfl rfl rfl (E.call Tryz.call107 (A2 rfl rfl)) (w_spec_l1Has S0.sl v0 a0 p0 a1 hr22) ?_
 rintro e w23 ⟨rfl, r24⟩
 refine ⟨_, rfl, ?_⟩
 have S25 := S0.call r24
 refine FL.v (E.assign (v := Value.bool r21) rfl) ?_
 refine FL.nil ?_
 refine FW.ret ?_
 obtain rfl := Option.some.inj hp
 exact ⟨.inr rfl, res1 rfl rfl ⟨rfl, S25.back⟩⟩

theorem w_spec_l3Value {Ha : GH} {wa : World} (hs : Sl Ha wa) (v0 : Value) (a0 : List Int) (p0 : RSl Ha eI 1 v0 a0) (v1 : Value) (a1 : List Int) (p1 : RSl Ha eI 1 v1 a1) {r : Int} (hp : (PF.spec_l3Value a0 a1) = some r) :
  Calls Tryz.prog 137 #[v0, v1] wa (Sc Ha wa (Value.int .i64 r)) := by
 unfold PF.spec_l3Value at hp
 have S0 := St.init hs
 refine calls_go (N := 28) (args := [v0, v1]) Tryz.func137 rfl rfl rfl ?_
 refine FW.seq (FW.region ?_)
 refine FL.v (E.assign (v := Value.int .i64 0) rfl) ?_
 refine FL.nil (FW.seq (FW.region ?_))
 refine FL.v (E.assign (v := Value.int .i64 (-1)) rfl) ?_
 refine FL.nil (FW.seq (FW.seq (FW.region ?_)))
 refine FL.v (E.assign (v := Value.int .i64 0) rfl) ?_
 refine FL.nil ?_
 obtain ⟨q22, hq, hp⟩ := bndR hp
 refine FW.block ?_
 refine FW.mono (FW.forL (S := Int) (X := Int) (fun (i22 : Nat) (s22 : Int) f w => ∃ H : GH, St Ha wa H w [] ∧ Inc Ha H ∧ f 6 = Value.int .i64 ((i22 : Nat) : Int) ∧ f 0 = v0 ∧ f 1 = v1 ∧ f 5 = Value.int .i64 s22) (fun q e f w => match q with | .go s22 => e = Exit.exit 0 ∧ (∃ H : GH, St Ha wa H w [] ∧ Inc Ha H ∧ f 5 = Value.int .i64 s22) | .rt x => ((e = Exit.ret) ∧ (fun e f w => (e = Exit.normal ∨ e = Exit.ret) ∧ ∀ a, Fr (δ := []) 28 a f → ∃ v, (results Tryz.f137 a.tmps).run Tryz.prog w = .ok v w ∧ (Sc Ha wa (Value.int .i64 x)) (.returned v) w) e f w)) hq ⟨_, S0, (Inc.rfl _), rfl, rfl, rfl, rfl⟩ ?_ ?_) ?_
 ·
  clear hp hq
  rintro i22 y21 s22 f60 w59 ⟨H56, S57, i58, k61, k62, k63, k64⟩ hx22 o89 hp
  refine FW.seq (FW.seq (FW.region ?_))
  refine FL.v (E.move k61) ?_
  refine FL.v (E.move k62) ?_
  refine FL.v (E.lenP te44 rfl p0) ?_
  refine FL.v (E.lssT rfl rfl (lss_len hx22)) ?_
  refine FL.nil ?_
  refine FW.condT rfl rfl ?_
  refine FW.skip (FW.seq (FW.block (FW.seq (FW.seq (FW.region ?_)))))
  refine FL.v (E.move k63) ?_
  refine FL.v (E.move k62) ?_
  refine FL.v (E.move k61) ?_
  obtain ⟨p65, cs66, pt67, l68, at69, rel70⟩ := p0.at (ix_nat hx22)
  obtain rfl := eI_open rel70
  refine FL.v (E.indexAddr te44 rfl rfl pt67) ?_
  refine FL.v (E.load rfl (run_load0 Tryz.isAgg3 ((at69.mono i58).now S57.sl) rfl)) ?_
  obtain ⟨r71, hr72, hp⟩ := bnd hp
  refine FL.call rfl rfl rfl (E.call Tryz.call73 (A2 rfl rfl)) (w_spec_l2Has S57.sl v1 a1 (p1.mono i58) y21 hr72) ?_
  rintro e w73 ⟨rfl, r74⟩
  refine ⟨_, rfl, ?_⟩
  have S75 := S57.call r74
  refine FL.nil ?_
  rcases ifB hp with ⟨c76, hp⟩ | ⟨c76, hp⟩
  ·
   refine FW.condT rfl c76 ?_
   refine FW.seq (FW.region ?_)
   refine FL.v (E.assign (v := Value.int .i64 1) rfl) ?_
   refine FL.nil ?_
   refine FW.ret ?_
   obtain rfl := Option.some.inj hp
   exact ⟨nofun, rfl, ⟨.inr rfl, res1 rfl rfl ⟨rfl, S75.back⟩⟩⟩
  ·
   refine FW.condF rfl c76 ?_
   refine FW.skip (FW.seq (FW.region ?_))
   refine FL.v (E.move k63) ?_
   refine FL.v (E.move k62) ?_
   refine FL.v (E.move k61) ?_
   obtain ⟨p77, cs78, pt79, l80, at81, rel82⟩ := p0.at (ix_nat hx22)
   obtain rfl := eI_open rel82
   refine FL.v (E.indexAddr te44 rfl rfl pt79) ?_
   refine FL.v (E.load rfl (run_load0 Tryz.isAgg3 ((at81.mono i58).now S75.sl) rfl)) ?_
   refine FL.v (E.neg rfl) ?_
   obtain ⟨r83, hr84, hp⟩ := bnd hp
   refine FL.call rfl rfl rfl (E.call Tryz.call73 (A2 rfl rfl)) (w_spec_l2Has S75.sl v1 a1 (p1.mono i58) (wr (-y21)) hr84) ?_
   rintro e w85 ⟨rfl, r86⟩
   refine ⟨_, rfl, ?_⟩
   have S87 := S75.call r86
   refine FL.v (E.not rfl) ?_
   refine FL.nil ?_
   rcases ifB hp with ⟨c88, hp⟩ | ⟨c88, hp⟩
   ·
    refine FW.condT rfl c88 ?_
    refine FW.region ?_
    refine FL.v (E.assign (v := Value.int .i64 0) rfl) ?_
    refine FL.nil (FW.region ?_)
    refine FL.v (E.move k61) ?_
    refine FL.v (E.add rfl rfl) ?_
    refine FL.v (E.assign (v := Value.int .i64 (wr (((i22 : Nat) : Int) + 1))) rfl) ?_
    refine FL.nil ?_
    obtain rfl := Option.some.inj hp
    exact ⟨rfl, ⟨_, S87, i58, (nat_succ rfl (lt_of_get hx22) (p0.mono i58).le), k62, k63, rfl⟩⟩
   ·
    refine FW.condF rfl c88 ?_
    refine FW.skip (FW.region ?_)
    refine FL.v (E.move k61) ?_
    refine FL.v (E.add rfl rfl) ?_
    refine FL.v (E.assign (v := Value.int .i64 (wr (((i22 : Nat) : Int) + 1))) rfl) ?_
    refine FL.nil ?_
    obtain rfl := Option.some.inj hp
    exact ⟨rfl, ⟨_, S87, i58, (nat_succ rfl (lt_of_get hx22) (p0.mono i58).le), k62, k63, k64⟩⟩
 ·
  clear hp hq
  rintro s22 f100 w99 ⟨H96, S97, i98, k101, k102, k103, k104⟩
  refine FW.seq (FW.seq (FW.region ?_))
  refine FL.v (E.move k101) ?_
  refine FL.v (E.move k102) ?_
  refine FL.v (E.lenP te44 rfl p0) ?_
  refine FL.v (E.lss rfl rfl) ?_
  refine FL.nil ?_
  refine FW.condF rfl dlt_len ?_
  refine FW.exit ?_
  exact ⟨nofun, rfl, ⟨_, S97, i98, k104⟩⟩
 ·
  clear hq
  intro e f94 w93 hD
  rcases q22 with s22 | x22
  ·
   obtain ⟨rfl, hD⟩ := hD
   obtain ⟨H90, S91, i92, k95⟩ := hD
   replace hp := el_go hp
   refine FW.seq (FW.region ?_)
   refine FL.v (E.move k95) ?_
   refine FL.v (E.assign (v := Value.int .i64 s22) rfl) ?_
   refine FL.nil ?_
   refine FW.ret ?_
   obtain rfl := Option.some.inj hp
   exact ⟨.inr rfl, res1 rfl rfl ⟨rfl, S91.back⟩⟩
  ·
   obtain ⟨he, hL⟩ := hD
   replace hp := el_rt hp
   obtain rfl := Option.some.inj hp
   subst he
   exact hL

theorem w_spec_l1Least {Ha : GH} {wa : World} (hs : Sl Ha wa) (a0 : Int) (a1 : Int) :
  Calls Tryz.prog 168 #[Value.int .i64 a0, Value.int .i64 a1] wa (Sc Ha wa (Value.int .i64 (PF.spec_l1Least a0 a1))) := by
 obtain ⟨r, hp⟩ : ∃ r, (PF.spec_l1Least a0 a1) = r := ⟨_, rfl⟩
 rw [hp]
 unfold PF.spec_l1Least at hp
 have S0 := St.init hs
 refine calls_go (N := 10) (args := [Value.int .i64 a0, Value.int .i64 a1]) Tryz.func168 rfl rfl rfl ?_
 refine FW.seq (FW.region ?_)
 refine FL.v (E.assign (v := Value.int .i64 0) rfl) ?_
 refine FL.nil (FW.seq (FW.seq (FW.region ?_)))
 refine FL.v (E.move (v := Value.int .i64 a0) rfl) ?_
 refine FL.v (E.move (v := Value.int .i64 a1) rfl) ?_
 refine FL.v (E.lss rfl rfl) ?_
 refine FL.nil ?_
 rcases ifT hp with ⟨c21, hp⟩ | ⟨c21, hp⟩
 ·
  refine FW.condT rfl c21 ?_
  refine FW.seq (FW.region ?_)
  refine FL.v (E.move (v := Value.int .i64 a0) rfl) ?_
  refine FL.v (E.assign (v := Value.int .i64 a0) rfl) ?_
  refine FL.nil ?_
  refine FW.ret ?_
  obtain rfl := hp
  exact ⟨.inr rfl, res1 rfl rfl ⟨rfl, S0.back⟩⟩
 ·
  refine FW.condF rfl c21 ?_
  refine FW.skip (FW.seq (FW.region ?_))
  refine FL.v (E.move (v := Value.int .i64 a1) rfl) ?_
  refine FL.v (E.assign (v := Value.int .i64 a1) rfl) ?_
  refine FL.nil ?_
  refine FW.ret ?_
  obtain rfl := hp
  exact ⟨.inr rfl, res1 rfl rfl ⟨rfl, S0.back⟩⟩

theorem w_spec_l3CnfValue {Ha : GH} {wa : World} (hs : Sl Ha wa) (a0 : Cnf) (v0_1 : Value) (p0_1 : RSl Ha (eL eI 1) 1 v0_1 a0.clauses) (v1 : Value) (a1 : List Int) (p1 : RSl Ha eI 1 v1 a1) {r : Int} (hp : (PF.spec_l3CnfValue a0 a1) = some r) :
    Calls Tryz.prog 134 #[Value.agg #[Value.int .i64 a0.vars, v0_1], v1] wa (Sc Ha wa (Value.int .i64 r)) := by
  unfold PF.spec_l3CnfValue at hp
  have S0 := St.init hs
  refine calls_go (N := 24) (args := [Value.agg #[Value.int .i64 a0.vars, v0_1], v1]) Tryz.func134 rfl rfl rfl ?_
  refine FW.seq (FW.region ?_)
  obtain ⟨b21, w22, run23, S24⟩ := S0.box (P := Tryz.prog) 28 [Value.int .i64 a0.vars, v0_1] (v := Value.agg #[Value.int .i64 a0.vars, v0_1]) rfl (ones_cons rfl (ones_cons p0_1.one ones_nil))
  refine FL.v (E.box rfl run23) ?_
  obtain ⟨H25, S26, i27, at28⟩ := S24.sealBox (i := 0) (l' := []) rfl rfl
  refine FL.v (E.assign (v := Value.int .i64 0) rfl) ?_
  refine FL.nil (FW.seq (FW.region ?_))
  refine FL.v (E.assign (v := Value.int .i64 1) rfl) ?_
  refine FL.nil (FW.seq (FW.seq (FW.region ?_)))
  refine FL.v (E.assign (v := Value.int .i64 0) rfl) ?_
  refine FL.nil ?_
  obtain ⟨q29, hq, hp⟩ := bndR hp
  refine FW.block ?_
  refine FW.mono (FW.iter (S := (Int × Int)) (X := Empty) (fun (s29 : (Int × Int)) f w => ∃ H : GH, St Ha wa H w [] ∧ Inc H25 H ∧ f 1 = v1 ∧ f 2 = Value.pointer (some ⟨b21, 0, none⟩) ∧ f 5 = Value.int .i64 s29.1 ∧ f 6 = Value.int .i64 s29.2) (fun (q : Rs (Int × Int) Empty) e f w => match q with | .go s29 => e = Exit.exit 0 ∧ (∃ H : GH, St Ha wa H w [] ∧ Inc H25 H ∧ f 5 = Value.int .i64 s29.1) | .rt x => x.elim) hq ⟨_, S26, (Inc.rfl _), rfl, rfl, rfl, rfl⟩ ?_) ?_
  ·
    clear hp hq
    rintro s29 f62 w61 ⟨H58, S59, i60, k63, k64, k65, k66⟩ o86 hp
    refine FW.seq (FW.seq (FW.region ?_))
    refine FL.v (E.move k66) ?_
    refine FL.v (E.fieldAddr tf28_1 k64) ?_
    refine FL.v (E.load rfl (run_load1 Tryz.isAgg22 ((at28.mono i60).now S59.sl) rfl)) ?_
    refine FL.v (E.lenP te22 rfl p0_1) ?_
    refine FL.v (E.lss rfl rfl) ?_
    refine FL.nil ?_
    rcases ifB hp with ⟨c67, hp⟩ | ⟨c67, hp⟩
    ·
      refine FW.condT rfl c67 ?_
      refine FW.skip (FW.seq (FW.block (FW.region ?_)))
      refine FL.v (E.move k65) ?_
      refine FL.v (E.fieldAddr tf28_1 k64) ?_
      refine FL.v (E.load rfl (run_load1 Tryz.isAgg22 ((at28.mono i60).now S59.sl) rfl)) ?_
      refine FL.v (E.move k66) ?_
      obtain ⟨x74, hx75, hp⟩ := bnd hp
      obtain ⟨p68, cs69, pt70, l71, at72, rel73⟩ := p0_1.at hx75
      obtain ⟨v76, rfl, h77⟩ := eL_open rel73
      refine FL.v (E.indexAddr te22 rfl rfl pt70) ?_
      refine FL.v (E.load rfl (run_load0 Tryz.isAgg44 ((at72.mono (i27.tr i60)).now S59.sl) rfl)) ?_
      refine FL.v (E.move k63) ?_
      obtain ⟨r78, hr79, hp⟩ := bnd hp
      refine FL.call rfl rfl rfl (E.call Tryz.call137 (A2 rfl rfl)) (w_spec_l3Value S59.sl v76 x74 (h77.mono (i27.tr i60)) v1 a1 (p1.mono (i27.tr i60)) hr79) ?_
      rintro e w80 ⟨rfl, r81⟩
      refine ⟨_, rfl, ?_⟩
      have S82 := S59.call r81
      refine FL.call rfl rfl rfl (E.call Tryz.call168 (A2 rfl rfl)) (w_spec_l1Least S82.sl s29.1 r78) ?_
      rintro e w83 ⟨rfl, r84⟩
      refine ⟨_, rfl, ?_⟩
      have S85 := S82.call r84
      refine FL.v (E.assign (v := Value.int .i64 (PF.spec_l1Least s29.1 r78)) rfl) ?_
      refine FL.nil (FW.region ?_)
      refine FL.v (E.move k66) ?_
      refine FL.v (E.add rfl rfl) ?_
      refine FL.v (E.assign (v := Value.int .i64 (wr (s29.2 + 1))) rfl) ?_
      refine FL.nil ?_
      obtain rfl := Option.some.inj hp
      exact ⟨rfl, ⟨_, S85, i60, k63, k64, rfl, rfl⟩⟩
    ·
      refine FW.condF rfl c67 ?_
      refine FW.exit ?_
      obtain rfl := Option.some.inj hp
      exact ⟨nofun, rfl, ⟨_, S59, i60, k65⟩⟩
  ·
    clear hq
    intro e f91 w90 hD
    rcases q29 with s29 | x29
    ·
      obtain ⟨rfl, hD⟩ := hD
      obtain ⟨H87, S88, i89, k92⟩ := hD
      replace hp := el_go hp
      refine FW.seq (FW.region ?_)
      refine FL.v (E.move k92) ?_
      refine FL.v (E.assign (v := Value.int .i64 s29.1) rfl) ?_
      refine FL.nil ?_
      refine FW.ret ?_
      obtain rfl := Option.some.inj hp
      exact ⟨.inr rfl, res1 rfl rfl ⟨rfl, S88.back⟩⟩
    · exact x29.elim

@[reducible] def p_spec_l3Left (Ha : GH) (wa : World) (r : (List Int)) : Ending → World → Prop :=
  fun e w' => ∃ H' : GH, ∃ v0 : Value, ∃ n0 : Nat, ∃ c0 : List Value, e = .returned (v0) ∧ St Ha wa H' w' [.row 3 1 v0 n0 c0] ∧ Els (up wa.heap.size H') eI 1 c0 r
theorem w_spec_l3Left {Ha : GH} {wa : World} (hs : Sl Ha wa) (v0 : Value) (a0 : List Int) (p0 : RSl Ha eI 1 v0 a0) (v1 : Value) (a1 : List Int) (p1 : RSl Ha eI 1 v1 a1) {r : (List Int)} (hp : (PF.spec_l3Left a0 a1) = some r) :
    Calls Tryz.prog 169 #[v0, v1] wa (p_spec_l3Left Ha wa r) := by
  unfold PF.spec_l3Left at hp
  have S0 := St.init hs
  refine calls_go (N := 30) (args := [v0, v1]) Tryz.func169 rfl rfl rfl ?_
  refine FW.seq (FW.region ?_)
  refine FL.v (E.assign (v := Value.slice none 0 0) rfl) ?_
  refine FL.nil (FW.seq (FW.region ?_))
  obtain ⟨v21, w22, run23, S24⟩ := S0.buildSlice (P := Tryz.prog) te44 [] (parts := #[]) (cells := []) rfl szs_nil fc_nil ones_nil (Nat.le_of_ble_eq_true rfl)
  have els25 : Els (up wa.heap.size Ha) eI 1 [] [] := Els.nil
  refine FL.v (E.buildSlice (B0) run23) ?_
  refine FL.v (E.assign (v := v21) rfl) ?_
  refine FL.nil (FW.seq (FW.seq (FW.region ?_)))
  refine FL.v (E.assign (v := Value.int .i64 0) rfl) ?_
  refine FL.nil ?_
  obtain ⟨q27, hq, hp⟩ := bndR hp
  refine FW.block ?_
  refine FW.mono (FW.forL (S := (List Int)) (X := Empty) (fun (i27 : Nat) (s27 : (List Int)) f w => ∃ H : GH, ∃ v28 : Value, ∃ n29 : Nat, ∃ cs30 : List Value, St Ha wa H w [.row 3 1 v28 n29 cs30] ∧ Inc Ha H ∧ Els (up wa.heap.size H) eI 1 cs30 s27 ∧ f 6 = Value.int .i64 ((i27 : Nat) : Int) ∧ f 0 = v0 ∧ f 1 = v1 ∧ f 5 = v28) (fun (q : Rs (List Int) Empty) e f w => match q with | .go s27 => e = Exit.exit 0 ∧ (∃ H : GH, ∃ v28 : Value, ∃ n29 : Nat, ∃ cs30 : List Value, St Ha wa H w [.row 3 1 v28 n29 cs30] ∧ Inc Ha H ∧ Els (up wa.heap.size H) eI 1 cs30 s27 ∧ f 5 = v28) | .rt x => x.elim) hq ⟨_, _, _, _, S24, (Inc.rfl _), els25, rfl, rfl, rfl, rfl⟩ ?_ ?_) ?_
  ·
    clear hp hq
    rintro i27 y26 s27 f79 w78 ⟨H75, v28, n29, cs30, S76, i77, els31, k80, k81, k82, k83⟩ hx27 o118 hp
    refine FW.seq (FW.seq (FW.region ?_))
    refine FL.v (E.move k80) ?_
    refine FL.v (E.move k81) ?_
    refine FL.v (E.lenP te44 rfl p0) ?_
    refine FL.v (E.lssT rfl rfl (lss_len hx27)) ?_
    refine FL.nil ?_
    refine FW.condT rfl rfl ?_
    refine FW.skip (FW.seq (FW.block (FW.seq (FW.region ?_))))
    refine FL.v (E.move k82) ?_
    refine FL.v (E.move k81) ?_
    refine FL.v (E.move k80) ?_
    obtain ⟨p84, cs85, pt86, l87, at88, rel89⟩ := p0.at (ix_nat hx27)
    obtain rfl := eI_open rel89
    refine FL.v (E.indexAddr te44 rfl rfl pt86) ?_
    refine FL.v (E.load rfl (run_load0 Tryz.isAgg3 ((at88.mono i77).now S76.sl) rfl)) ?_
    refine FL.v (E.neg rfl) ?_
    obtain ⟨r90, hr91, hp⟩ := bnd hp
    refine FL.call rfl rfl rfl (E.call Tryz.call73 (A2 rfl rfl)) (w_spec_l2Has S76.sl v1 a1 (p1.mono i77) (wr (-y26)) hr91) ?_
    rintro e w92 ⟨rfl, r93⟩
    refine ⟨_, rfl, ?_⟩
    have S94 := S76.call r93
    refine FL.v (E.not rfl) ?_
    refine FL.nil ?_
    rcases ifB hp with ⟨c95, hp⟩ | ⟨c95, hp⟩
    ·
      refine FW.condT rfl c95 ?_
      refine FW.region ?_
      refine FL.v (E.move k83) ?_
      refine FL.v (E.move k81) ?_
      refine FL.v (E.move k80) ?_
      obtain ⟨p96, cs97, pt98, l99, at100, rel101⟩ := p0.at (ix_nat hx27)
      obtain rfl := eI_open rel101
      refine FL.v (E.indexAddr te44 rfl rfl pt98) ?_
      refine FL.v (E.load rfl (run_load0 Tryz.isAgg3 ((at100.mono i77).now S94.sl) rfl)) ?_
      obtain ⟨v102, w103, run104, S105⟩ := S94.buildSlice (P := Tryz.prog) te44 [Value.int .i64 y26] (parts := #[(0, Value.int .i64 y26)]) (cells := [Value.int .i64 y26]) rfl (szs_cons rfl szs_nil) (fc_cons rfl fc_nil) (ones_cons rfl ones_nil) (Nat.le_of_ble_eq_true rfl)
      have els106 : Els (up wa.heap.size H75) eI 1 [Value.int .i64 y26] [y26] := (Els.snoc (H := (up wa.heap.size H75)) (E := eI) (k := 1) (c := [Value.int .i64 y26]) (x := y26) Els.nil rfl rfl)
      refine FL.v (E.buildSlice (B1 rfl) run104) ?_
      obtain ⟨xs107, hz108, hp⟩ := bnd hp
      obtain ⟨v109, w112, n110, cs111, run113, S114, els115, ce116⟩ := S105.appendO (P := Tryz.prog) te44 (i := 1) (j := 0) rfl els31 rfl els106 hz108
      have S114 : St Ha wa H75 w112 [.row 3 1 v102 1 [Value.int .i64 y26], .row 3 1 v109 n110 cs111] := S114
      have S117 : St Ha wa H75 w112 [.row 3 1 v109 n110 cs111] := S114.drop 0
      refine FL.v (E.append rfl rfl run113) ?_
      refine FL.v (E.assign (v := v109) rfl) ?_
      refine FL.nil (FW.region ?_)
      refine FL.v (E.move k80) ?_
      refine FL.v (E.add rfl rfl) ?_
      refine FL.v (E.assign (v := Value.int .i64 (wr (((i27 : Nat) : Int) + 1))) rfl) ?_
      refine FL.nil ?_
      obtain rfl := Option.some.inj hp
      exact ⟨rfl, ⟨_, _, _, _, S117, i77, els115, (nat_succ rfl (lt_of_get hx27) (p0.mono i77).le), k81, k82, rfl⟩⟩
    ·
      refine FW.condF rfl c95 ?_
      refine FW.skip (FW.region ?_)
      refine FL.v (E.move k80) ?_
      refine FL.v (E.add rfl rfl) ?_
      refine FL.v (E.assign (v := Value.int .i64 (wr (((i27 : Nat) : Int) + 1))) rfl) ?_
      refine FL.nil ?_
      obtain rfl := Option.some.inj hp
      exact ⟨rfl, ⟨_, _, _, _, S94, i77, els31, (nat_succ rfl (lt_of_get hx27) (p0.mono i77).le), k81, k82, k83⟩⟩
  ·
    clear hp hq
    rintro s27 f129 w128 ⟨H125, v28, n29, cs30, S126, i127, els31, k130, k131, k132, k133⟩
    refine FW.seq (FW.seq (FW.region ?_))
    refine FL.v (E.move k130) ?_
    refine FL.v (E.move k131) ?_
    refine FL.v (E.lenP te44 rfl p0) ?_
    refine FL.v (E.lss rfl rfl) ?_
    refine FL.nil ?_
    refine FW.condF rfl dlt_len ?_
    refine FW.exit ?_
    exact ⟨nofun, rfl, ⟨_, _, _, _, S126, i127, els31, k133⟩⟩
  ·
    clear hq
    intro e f123 w122 hD
    rcases q27 with s27 | x27
    ·
      obtain ⟨rfl, hD⟩ := hD
      obtain ⟨H119, v28, n29, cs30, S120, i121, els31, k124⟩ := hD
      replace hp := el_go hp
      refine FW.seq (FW.region ?_)
      refine FL.v (E.move k124) ?_
      refine FL.v (E.assign (v := v28) rfl) ?_
      refine FL.nil ?_
      refine FW.ret ?_
      obtain rfl := Option.some.inj hp
      exact ⟨.inr rfl, res1 rfl rfl ⟨_, _, _, _, rfl, S120, els31⟩⟩
    · exact x27.elim

theorem w_spec_l3Unit {Ha : GH} {wa : World} (hs : Sl Ha wa) (v0 : Value) (a0 : List Int) (p0 : RSl Ha eI 1 v0 a0) (v1 : Value) (a1 : List Int) (p1 : RSl Ha eI 1 v1 a1) {r : Int} (hp : (PF.spec_l3Unit a0 a1) = some r) :
  Calls Tryz.prog 135 #[v0, v1] wa (Sc Ha wa (Value.int .i64 r)) := by
 unfold PF.spec_l3Unit at hp
 have S0 := St.init hs
 refine calls_go (N := 21) (args := [v0, v1]) Tryz.func135 rfl rfl rfl ?_
 refine FW.seq (FW.region ?_)
 refine FL.v (E.assign (v := Value.int .i64 0) rfl) ?_
 refine FL.nil (FW.seq (FW.region ?_))
 refine FL.v (E.move (v := v0) rfl) ?_
 refine FL.v (E.move (v := v1) rfl) ?_
 obtain ⟨r21, hr22, hp⟩ := bnd hp
 refine FL.call rfl rfl rfl (E.call Tryz.call169 (A2 rfl rfl)) (w_spec_l3Left S0.sl v0 a0 p0 v1 a1 p1 hr22) ?_
 rintro e w24 ⟨H23, v27, n28, cs29, rfl, r26, els30⟩
 refine ⟨_, rfl, ?_⟩
 have els30 := els30.mono (up_le S0.size)
 have S25 := S0.join (l' := [.row 3 1 v27 n28 cs29]) r26 rfl
 refine FL.v (E.assign (v := v27) rfl) ?_
 refine FL.nil (FW.seq (FW.seq (FW.region ?_)))
 refine FL.v (E.move (v := v0) rfl) ?_
 refine FL.v (E.move (v := v1) rfl) ?_
 obtain ⟨r31, hr32, hp⟩ := bnd hp
 refine FL.call rfl rfl rfl (E.call Tryz.call137 (A2 rfl rfl)) (w_spec_l3Value S25.sl v0 a0 (p0.mono r26.run.inc) v1 a1 (p1.mono r26.run.inc) hr32) ?_
 rintro e w33 ⟨rfl, r34⟩
 refine ⟨_, rfl, ?_⟩
 have S35 := S25.call r34
 refine FL.v (E.neq rfl rfl) ?_
 refine FL.v (E.move (v := Value.bool (!(r31 == 0))) rfl) ?_
 refine FL.cut 4 (fun f w => ∃ H : GH, St Ha wa H w [.row 3 1 v27 n28 cs29] ∧ Inc H23 H ∧ f 5 = v27 ∧ f 17 = Value.bool (bif (!(r31 == 0)) then true else (!((len r21) == 1)))) ?_ ?_
 ·
  rcases bcase (!(r31 == 0)) with c42 | c42
  ·
   refine FL.skip (wF_no rfl rfl rfl c42) rfl ?_
   refine FL.skip (wF_no rfl rfl rfl c42) rfl ?_
   refine FL.skip (wF_no rfl rfl rfl c42) rfl ?_
   refine FL.v (E.pickT rfl c42 rfl) ?_
   exact FL.nil ⟨rfl, _, S35, (Inc.rfl _), rfl, (congrArg Value.bool (bifT c42).symm)⟩
  ·
   refine FL.val (wF_yes rfl rfl rfl c42) rfl rfl (E.move (v := v27) rfl) ?_
   refine FL.val (wF_yes rfl rfl rfl c42) rfl rfl (E.lenO te44 rfl S35 (i := 0) rfl els30 (by decide)) ?_
   refine FL.val (wF_yes rfl rfl rfl c42) rfl rfl (E.neq rfl rfl) ?_
   refine FL.v (E.pickF rfl c42 rfl) ?_
   exact FL.nil ⟨rfl, _, S35, (Inc.rfl _), rfl, (congrArg Value.bool (bifF c42).symm)⟩
 rintro f41 w40 ⟨H37, S38, i39, k43, k44⟩
 refine FL.nil ?_
 rcases ifB hp with ⟨c45, hp⟩ | ⟨c45, hp⟩
 ·
  refine FW.condT k44 c45 ?_
  refine FW.seq (FW.region ?_)
  refine FL.v (E.assign (v := Value.int .i64 0) rfl) ?_
  refine FL.nil ?_
  refine FW.ret ?_
  obtain rfl := Option.some.inj hp
  exact ⟨.inr rfl, res1 rfl rfl ⟨rfl, S38.back⟩⟩
 ·
  refine FW.condF k44 c45 ?_
  refine FW.skip (FW.seq (FW.region ?_))
  refine FL.v (E.move k43) ?_
  obtain ⟨x52, hx53, hp⟩ := bnd hp
  obtain ⟨p46, cs47, pt48, l49, at50, rel51⟩ := S38.row_at (i := 0) rfl els30 (by decide) hx53
  obtain rfl := eI_open rel51
  refine FL.v (E.indexAddr te44 rfl rfl pt48) ?_
  refine FL.v (E.load rfl (run_load0 Tryz.isAgg3 at50 rfl)) ?_
  refine FL.v (E.assign (v := Value.int .i64 x52) rfl) ?_
  refine FL.nil ?_
  refine FW.ret ?_
  obtain rfl := Option.some.inj hp
  exact ⟨.inr rfl, res1 rfl rfl ⟨rfl, S38.back⟩⟩

@[reducible] def p_spec_l2Without (Ha : GH) (wa : World) (r : (List Int)) : Ending → World → Prop :=
  fun e w' => ∃ H' : GH, ∃ v0 : Value, ∃ n0 : Nat, ∃ c0 : List Value, e = .returned (v0) ∧ St Ha wa H' w' [.row 3 1 v0 n0 c0] ∧ Els (up wa.heap.size H') eI 1 c0 r
theorem w_spec_l2Without {Ha : GH} {wa : World} (hs : Sl Ha wa) (v0 : Value) (a0 : List Int) (p0 : RSl Ha eI 1 v0 a0) (a1 : Int) {r : (List Int)} (hp : (PF.spec_l2Without a0 a1) = some r) :
    Calls Tryz.prog 109 #[v0, Value.int .i64 a1] wa (p_spec_l2Without Ha wa r) := by
  unfold PF.spec_l2Without at hp
  have S0 := St.init hs
  refine calls_go (N := 29) (args := [v0, Value.int .i64 a1]) Tryz.func109 rfl rfl rfl ?_
  refine FW.seq (FW.region ?_)
  refine FL.v (E.assign (v := Value.slice none 0 0) rfl) ?_
  refine FL.nil (FW.seq (FW.region ?_))
  obtain ⟨v21, w22, run23, S24⟩ := S0.buildSlice (P := Tryz.prog) te44 [] (parts := #[]) (cells := []) rfl szs_nil fc_nil ones_nil (Nat.le_of_ble_eq_true rfl)
  have els25 : Els (up wa.heap.size Ha) eI 1 [] [] := Els.nil
  refine FL.v (E.buildSlice (B0) run23) ?_
  refine FL.v (E.assign (v := v21) rfl) ?_
  refine FL.nil (FW.seq (FW.seq (FW.region ?_)))
  refine FL.v (E.assign (v := Value.int .i64 0) rfl) ?_
  refine FL.nil ?_
  obtain ⟨q27, hq, hp⟩ := bndR hp
  refine FW.block ?_
  refine FW.mono (FW.forL (S := (List Int)) (X := Empty) (fun (i27 : Nat) (s27 : (List Int)) f w => ∃ H : GH, ∃ v28 : Value, ∃ n29 : Nat, ∃ cs30 : List Value, St Ha wa H w [.row 3 1 v28 n29 cs30] ∧ Inc Ha H ∧ Els (up wa.heap.size H) eI 1 cs30 s27 ∧ f 6 = Value.int .i64 ((i27 : Nat) : Int) ∧ f 0 = v0 ∧ f 1 = Value.int .i64 a1 ∧ f 5 = v28) (fun (q : Rs (List Int) Empty) e f w => match q with | .go s27 => e = Exit.exit 0 ∧ (∃ H : GH, ∃ v28 : Value, ∃ n29 : Nat, ∃ cs30 : List Value, St Ha wa H w [.row 3 1 v28 n29 cs30] ∧ Inc Ha H ∧ Els (up wa.heap.size H) eI 1 cs30 s27 ∧ f 5 = v28) | .rt x => x.elim) hq ⟨_, _, _, _, S24, (Inc.rfl _), els25, rfl, rfl, rfl, rfl⟩ ?_ ?_) ?_
  ·
    clear hp hq
    rintro i27 y26 s27 f77 w76 ⟨H73, v28, n29, cs30, S74, i75, els31, k78, k79, k80, k81⟩ hx27 o114 hp
    refine FW.seq (FW.seq (FW.region ?_))
    refine FL.v (E.move k78) ?_
    refine FL.v (E.move k79) ?_
    refine FL.v (E.lenP te44 rfl p0) ?_
    refine FL.v (E.lssT rfl rfl (lss_len hx27)) ?_
    refine FL.nil ?_
    refine FW.condT rfl rfl ?_
    refine FW.skip (FW.seq (FW.block (FW.seq (FW.region ?_))))
    refine FL.v (E.move k79) ?_
    refine FL.v (E.move k78) ?_
    obtain ⟨p82, cs83, pt84, l85, at86, rel87⟩ := p0.at (ix_nat hx27)
    obtain rfl := eI_open rel87
    refine FL.v (E.indexAddr te44 rfl rfl pt84) ?_
    refine FL.v (E.load rfl (run_load0 Tryz.isAgg3 ((at86.mono i75).now S74.sl) rfl)) ?_
    refine FL.call rfl rfl rfl (E.call Tryz.call75 (A1 rfl)) (w_spec_l2Var S74.sl y26) ?_
    rintro e w88 ⟨rfl, r89⟩
    refine ⟨_, rfl, ?_⟩
    have S90 := S74.call r89
    refine FL.v (E.move k80) ?_
    refine FL.v (E.neq rfl rfl) ?_
    refine FL.nil ?_
    rcases ifB hp with ⟨c91, hp⟩ | ⟨c91, hp⟩
    ·
      refine FW.condT rfl c91 ?_
      refine FW.region ?_
      refine FL.v (E.move k81) ?_
      refine FL.v (E.move k79) ?_
      refine FL.v (E.move k78) ?_
      obtain ⟨p92, cs93, pt94, l95, at96, rel97⟩ := p0.at (ix_nat hx27)
      obtain rfl := eI_open rel97
      refine FL.v (E.indexAddr te44 rfl rfl pt94) ?_
      refine FL.v (E.load rfl (run_load0 Tryz.isAgg3 ((at96.mono i75).now S90.sl) rfl)) ?_
      obtain ⟨v98, w99, run100, S101⟩ := S90.buildSlice (P := Tryz.prog) te44 [Value.int .i64 y26] (parts := #[(0, Value.int .i64 y26)]) (cells := [Value.int .i64 y26]) rfl (szs_cons rfl szs_nil) (fc_cons rfl fc_nil) (ones_cons rfl ones_nil) (Nat.le_of_ble_eq_true rfl)
      have els102 : Els (up wa.heap.size H73) eI 1 [Value.int .i64 y26] [y26] := (Els.snoc (H := (up wa.heap.size H73)) (E := eI) (k := 1) (c := [Value.int .i64 y26]) (x := y26) Els.nil rfl rfl)
      refine FL.v (E.buildSlice (B1 rfl) run100) ?_
      obtain ⟨xs103, hz104, hp⟩ := bnd hp
      obtain ⟨v105, w108, n106, cs107, run109, S110, els111, ce112⟩ := S101.appendO (P := Tryz.prog) te44 (i := 1) (j := 0) rfl els31 rfl els102 hz104
      have S110 : St Ha wa H73 w108 [.row 3 1 v98 1 [Value.int .i64 y26], .row 3 1 v105 n106 cs107] := S110
      have S113 : St Ha wa H73 w108 [.row 3 1 v105 n106 cs107] := S110.drop 0
      refine FL.v (E.append rfl rfl run109) ?_
      refine FL.v (E.assign (v := v105) rfl) ?_
      refine FL.nil (FW.region ?_)
      refine FL.v (E.move k78) ?_
      refine FL.v (E.add rfl rfl) ?_
      refine FL.v (E.assign (v := Value.int .i64 (wr (((i27 : Nat) : Int) + 1))) rfl) ?_
      refine FL.nil ?_
      obtain rfl := Option.some.inj hp
      exact ⟨rfl, ⟨_, _, _, _, S113, i75, els111, (nat_succ rfl (lt_of_get hx27) (p0.mono i75).le), k79, k80, rfl⟩⟩
    ·
      refine FW.condF rfl c91 ?_
      refine FW.skip (FW.region ?_)
      refine FL.v (E.move k78) ?_
      refine FL.v (E.add rfl rfl) ?_
      refine FL.v (E.assign (v := Value.int .i64 (wr (((i27 : Nat) : Int) + 1))) rfl) ?_
      refine FL.nil ?_
      obtain rfl := Option.some.inj hp
      exact ⟨rfl, ⟨_, _, _, _, S90, i75, els31, (nat_succ rfl (lt_of_get hx27) (p0.mono i75).le), k79, k80, k81⟩⟩
  ·
    clear hp hq
    rintro s27 f125 w124 ⟨H121, v28, n29, cs30, S122, i123, els31, k126, k127, k128, k129⟩
    refine FW.seq (FW.seq (FW.region ?_))
    refine FL.v (E.move k126) ?_
    refine FL.v (E.move k127) ?_
    refine FL.v (E.lenP te44 rfl p0) ?_
    refine FL.v (E.lss rfl rfl) ?_
    refine FL.nil ?_
    refine FW.condF rfl dlt_len ?_
    refine FW.exit ?_
    exact ⟨nofun, rfl, ⟨_, _, _, _, S122, i123, els31, k129⟩⟩
  ·
    clear hq
    intro e f119 w118 hD
    rcases q27 with s27 | x27
    ·
      obtain ⟨rfl, hD⟩ := hD
      obtain ⟨H115, v28, n29, cs30, S116, i117, els31, k120⟩ := hD
      replace hp := el_go hp
      refine FW.seq (FW.region ?_)
      refine FL.v (E.move k120) ?_
      refine FL.v (E.assign (v := v28) rfl) ?_
      refine FL.nil ?_
      refine FW.ret ?_
      obtain rfl := Option.some.inj hp
      exact ⟨.inr rfl, res1 rfl rfl ⟨_, _, _, _, rfl, S116, els31⟩⟩
    · exact x27.elim

@[reducible] def p_spec_l2Put (Ha : GH) (wa : World) (r : (List Int)) : Ending → World → Prop :=
  fun e w' => ∃ H' : GH, ∃ v0 : Value, ∃ n0 : Nat, ∃ c0 : List Value, e = .returned (v0) ∧ St Ha wa H' w' [.row 3 1 v0 n0 c0] ∧ Els (up wa.heap.size H') eI 1 c0 r
theorem w_spec_l2Put {Ha : GH} {wa : World} (hs : Sl Ha wa) (v0 : Value) (a0 : List Int) (p0 : RSl Ha eI 1 v0 a0) (a1 : Int) {r : (List Int)} (hp : (PF.spec_l2Put a0 a1) = some r) :
    Calls Tryz.prog 138 #[v0, Value.int .i64 a1] wa (p_spec_l2Put Ha wa r) := by
  unfold PF.spec_l2Put at hp
  have S0 := St.init hs
  refine calls_go (N := 33) (args := [v0, Value.int .i64 a1]) Tryz.func138 rfl rfl rfl ?_
  refine FW.seq (FW.region ?_)
  refine FL.v (E.assign (v := Value.slice none 0 0) rfl) ?_
  refine FL.nil (FW.seq (FW.region ?_))
  refine FL.v (E.assign (v := Value.int .i64 0) rfl) ?_
  refine FL.nil (FW.seq ?_)
  obtain ⟨q21, hq, hp⟩ := bndR hp
  refine FW.block ?_
  refine FW.mono (FW.iter (S := Int) (X := Empty) (fun (s21 : Int) f w => ∃ H : GH, St Ha wa H w [] ∧ Inc Ha H ∧ f 0 = v0 ∧ f 1 = Value.int .i64 a1 ∧ f 5 = Value.int .i64 s21) (fun (q : Rs Int Empty) e f w => match q with | .go s21 => e = Exit.exit 0 ∧ (∃ H : GH, St Ha wa H w [] ∧ Inc Ha H ∧ f 0 = v0 ∧ f 1 = Value.int .i64 a1 ∧ f 5 = Value.int .i64 s21) | .rt x => x.elim) hq ⟨_, S0, (Inc.rfl _), rfl, rfl, rfl⟩ ?_) ?_
  ·
    clear hp hq
    rintro s21 f74 w73 ⟨H70, S71, i72, k75, k76, k77⟩ o118 hp
    refine FW.seq (FW.seq (FW.region ?_))
    refine FL.v (E.move k77) ?_
    refine FL.v (E.move k75) ?_
    refine FL.v (E.lenP te44 rfl p0) ?_
    refine FL.v (E.lss rfl rfl) ?_
    refine FL.v (E.move (v := Value.bool (decide (s21 < (len a0)))) rfl) ?_
    obtain ⟨t92, hqt92, hp⟩ := bnd hp
    refine FL.cut 9 (fun f w => ∃ H : GH, St Ha wa H w [] ∧ Inc H70 H ∧ f 0 = v0 ∧ f 1 = Value.int .i64 a1 ∧ f 5 = Value.int .i64 s21 ∧ f 19 = Value.bool t92) ?_ ?_
    ·
      clear hp; have hp := hqt92; clear hqt92
      rcases ifB hp with ⟨c98, hp⟩ | ⟨c98, hp⟩
      ·
        refine FL.val (wF_yes rfl rfl rfl c98) rfl rfl (E.move k75) ?_
        refine FL.val (wF_yes rfl rfl rfl c98) rfl rfl (E.move k77) ?_
        obtain ⟨x105, hx106, hp⟩ := bnd hp
        obtain ⟨p99, cs100, pt101, l102, at103, rel104⟩ := p0.at hx106
        obtain rfl := eI_open rel104
        refine FL.val (wF_yes rfl rfl rfl c98) rfl rfl (E.indexAddr te44 rfl rfl pt101) ?_
        refine FL.val (wF_yes rfl rfl rfl c98) rfl rfl (E.load rfl (run_load0 Tryz.isAgg3 ((at103.mono i72).now S71.sl) rfl)) ?_
        refine FL.call (wF_yes rfl rfl rfl c98) rfl rfl (E.call Tryz.call75 (A1 rfl)) (w_spec_l2Var S71.sl x105) ?_
        rintro e w107 ⟨rfl, r108⟩
        refine ⟨_, rfl, ?_⟩
        have S109 := S71.call r108
        refine FL.val (wF_yes rfl rfl rfl c98) rfl rfl (E.move k76) ?_
        refine FL.call (wF_yes rfl rfl rfl c98) rfl rfl (E.call Tryz.call75 (A1 rfl)) (w_spec_l2Var S109.sl a1) ?_
        rintro e w110 ⟨rfl, r111⟩
        refine ⟨_, rfl, ?_⟩
        have S112 := S109.call r111
        refine FL.val (wF_yes rfl rfl rfl c98) rfl rfl (E.lss rfl rfl) ?_
        obtain rfl := Option.some.inj hp
        refine FL.v (E.pickT rfl c98 rfl) ?_
        exact FL.nil ⟨rfl, _, S112, (Inc.rfl _), k75, k76, k77, rfl⟩
      ·
        refine FL.skip (wF_no rfl rfl rfl c98) rfl ?_
        refine FL.skip (wF_no rfl rfl rfl c98) rfl ?_
        refine FL.skip (wF_no rfl rfl rfl c98) rfl ?_
        refine FL.skip (wF_no rfl rfl rfl c98) rfl ?_
        refine FL.skip (wF_no rfl rfl rfl c98) rfl ?_
        refine FL.skip (wF_no rfl rfl rfl c98) rfl ?_
        refine FL.skip (wF_no rfl rfl rfl c98) rfl ?_
        refine FL.skip (wF_no rfl rfl rfl c98) rfl ?_
        obtain rfl := Option.some.inj hp
        refine FL.v (E.pickF rfl c98 rfl) ?_
        exact FL.nil ⟨rfl, _, S71, (Inc.rfl _), k75, k76, k77, rfl⟩
    rintro f97 w96 ⟨H93, S94, i95, k113, k114, k115, k116⟩
    refine FL.nil ?_
    rcases ifB hp with ⟨c117, hp⟩ | ⟨c117, hp⟩
    ·
      refine FW.condT k116 c117 ?_
      refine FW.skip (FW.block (FW.region ?_))
      refine FL.v (E.move k115) ?_
      refine FL.v (E.add rfl rfl) ?_
      refine FL.v (E.assign (v := Value.int .i64 (wr (s21 + 1))) rfl) ?_
      refine FL.nil ?_
      obtain rfl := Option.some.inj hp
      exact ⟨rfl, ⟨_, S94, (i72.tr i95), k113, k114, rfl⟩⟩
    ·
      refine FW.condF k116 c117 ?_
      refine FW.exit ?_
      obtain rfl := Option.some.inj hp
      exact ⟨nofun, rfl, ⟨_, S94, (i72.tr i95), k113, k114, k115⟩⟩
  ·
    clear hq
    intro e f123 w122 hD
    rcases q21 with s21 | x21
    ·
      obtain ⟨rfl, hD⟩ := hD
      obtain ⟨H119, S120, i121, k124, k125, k126⟩ := hD
      replace hp := el_go hp
      refine FW.seq ?_
      obtain ⟨xs22, hc23, hp⟩ := bnd hp
      obtain ⟨r27, hr28, hp⟩ := bnd hp
      obtain ⟨xs42, hz43, hp⟩ := bnd hp
      obtain ⟨xs54, hc55, hp⟩ := bnd hp
      obtain ⟨xs59, hz60, hp⟩ := bnd hp
      refine FW.drawB (Sl H119) (fun f w => ∃ H : GH, ∃ v68 : Value, ∃ n69 : Nat, ∃ cs78 : List Value, St Ha wa H w [.row 3 1 v68 n69 cs78] ∧ Inc H119 H ∧ Els (up wa.heap.size H) eI 1 cs78 xs59 ∧ f 4 = v68) (by kernel_rfl) S120.sl ?_ ?_
      ·
        intro w127 r128
        have S129 := S120.call r128
        refine FB.t (i := 0) (bs 12 1) rfl (SP.nil S129.sl) rfl (fun w' hw' => (E.move k124)) ?_
        refine FB.t (i := 1) (bs 12 3) rfl (SP.nil S129.sl) rfl (fun w' hw' => (E.move k126)) ?_
        obtain ⟨v24, run25, h26⟩ := p0.cut te44 hc23 (lo := none) (hi := some (Value.int .i64 s21)) (.inl ⟨rfl, rfl⟩) (.inr ⟨_, rfl⟩)
        refine FB.t (i := 2) (bs 12 7) rfl (SP.nil S129.sl) rfl (fun w' hw' => (E.slice te44 rfl rfl (congrArg some rfl) rfl (run25 _))) ?_
        refine FB.t (i := 4) (bs 12 23) rfl (SP.nil S129.sl) rfl (fun w' hw' => (E.move k125)) ?_
        refine FB.t (i := 7) (bs 12 151) rfl (SP.nil S129.sl) rfl (fun w' hw' => (E.move k124)) ?_
        refine FB.t (i := 8) (bs 12 407) rfl (SP.nil S129.sl) rfl (fun w' hw' => (E.move k126)) ?_
        obtain ⟨v56, run57, h58⟩ := p0.cut te44 hc55 (lo := some (Value.int .i64 s21)) (hi := none) (.inr ⟨_, rfl⟩) (.inl ⟨rfl, rfl⟩)
        refine FB.t (i := 9) (bs 12 919) rfl (SP.nil S129.sl) rfl (fun w' hw' => (E.slice te44 rfl (congrArg some rfl) rfl rfl (run57 _))) ?_
        refine FB.all2 (i := 3) (j := 5) (by kernel_rfl) ?_ ?_
        ·
          refine FC.call (l' := (bs 12 927)) rfl (by kernel_rfl) rfl rfl rfl (E.call Tryz.call64 (A1 rfl)) (w_spec_l1Own S129.sl v24 xs22 (h26.mono i121) hr28) ?_
          rintro e w30 ⟨H29, v33, n34, cs35, rfl, r32, els36⟩
          refine ⟨_, rfl, ?_⟩
          have els36 := els36.mono (up_le S129.size)
          have S31 := S129.join (l' := [.row 3 1 v33 n34 cs35]) r32 rfl
          refine ⟨(SP.nil (Sl.of_inc r32.run.inc S31.sl)), ?_⟩
          refine FB.all1 (i := 5) (by kernel_rfl) ?_
          ·
            obtain ⟨v37, w38, run39, S40⟩ := S31.buildSlice (P := Tryz.prog) te44 [Value.int .i64 a1] (parts := #[(0, Value.int .i64 a1)]) (cells := [Value.int .i64 a1]) rfl (szs_cons rfl szs_nil) (fc_cons rfl fc_nil) (ones_cons rfl ones_nil) (Nat.le_of_ble_eq_true rfl)
            have els41 : Els (up wa.heap.size H29) eI 1 [Value.int .i64 a1] [a1] := (Els.snoc (H := (up wa.heap.size H29)) (E := eI) (k := 1) (c := [Value.int .i64 a1]) (x := a1) Els.nil rfl rfl)
            refine FC.val (l' := (bs 12 959)) rfl (by kernel_rfl) rfl rfl rfl (E.buildSlice (B1 rfl) run39) ?_
            refine ⟨(SP.nil (Sl.of_inc r32.run.inc S40.sl)), ?_⟩
            refine FB.all1 (i := 6) (by kernel_rfl) ?_
            ·
              obtain ⟨v45, w48, n46, cs47, run49, S50, els51, ce52⟩ := S40.appendO (P := Tryz.prog) te44 (i := 1) (j := 0) rfl els36 rfl els41 hz43
              have S50 : St Ha wa H29 w48 [.row 3 1 v37 1 [Value.int .i64 a1], .row 3 1 v45 n46 cs47] := S50
              have S53 : St Ha wa H29 w48 [.row 3 1 v45 n46 cs47] := S50.drop 0
              refine FC.val (l' := (bs 12 1023)) rfl (by kernel_rfl) rfl rfl rfl (E.append rfl rfl run49) ?_
              refine ⟨(SP.nil (Sl.of_inc r32.run.inc S53.sl)), ?_⟩
              refine FB.all1 (i := 10) (by kernel_rfl) ?_
              ·
                obtain ⟨v61, w64, n62, cs63, run65, S66, els67⟩ := S53.appendP (P := Tryz.prog) (Inc.rfl _) te44 (i := 0) rfl (els51.mono upI) (h58.mono (i121.tr r32.run.inc)) hz60
                have S66 : St Ha wa H29 w64 [.row 3 1 v61 n62 cs63] := S66
                have els67 : Els (up wa.heap.size H29) eI 1 cs63 xs59 := els67.any (fun _ _ _ _ h => h)
                refine FC.val (l' := (bs 12 2047)) rfl (by kernel_rfl) rfl rfl rfl (E.append rfl rfl run65) ?_
                refine ⟨(SP.nil (Sl.of_inc r32.run.inc S66.sl)), ?_⟩
                refine FB.t (i := 11) (bs 12 4095) rfl (SP.nil (Sl.of_inc r32.run.inc S66.sl)) rfl (fun w' hw' => (E.assign (v := v61) rfl)) ?_
                exact FB.done (by kernel_rfl) ⟨_, _, _, _, S66, r32.run.inc, els67, rfl⟩
        ·
          obtain ⟨v37, w38, run39, S40⟩ := S129.buildSlice (P := Tryz.prog) te44 [Value.int .i64 a1] (parts := #[(0, Value.int .i64 a1)]) (cells := [Value.int .i64 a1]) rfl (szs_cons rfl szs_nil) (fc_cons rfl fc_nil) (ones_cons rfl ones_nil) (Nat.le_of_ble_eq_true rfl)
          have els41 : Els (up wa.heap.size H119) eI 1 [Value.int .i64 a1] [a1] := (Els.snoc (H := (up wa.heap.size H119)) (E := eI) (k := 1) (c := [Value.int .i64 a1]) (x := a1) Els.nil rfl rfl)
          refine FC.val (l' := (bs 12 951)) rfl (by kernel_rfl) rfl rfl rfl (E.buildSlice (B1 rfl) run39) ?_
          refine ⟨(SP.nil S40.sl), ?_⟩
          refine FB.all1 (i := 3) (by kernel_rfl) ?_
          ·
            refine FC.call (l' := (bs 12 959)) rfl (by kernel_rfl) rfl rfl rfl (E.call Tryz.call64 (A1 rfl)) (w_spec_l1Own S40.sl v24 xs22 (h26.mono i121) hr28) ?_
            rintro e w30 ⟨H29, v33, n34, cs35, rfl, r32, els36⟩
            refine ⟨_, rfl, ?_⟩
            have els36 := els36.mono (up_le S40.size)
            have S31 := S40.join (l' := [.row 3 1 v33 n34 cs35, .row 3 1 v37 1 [Value.int .i64 a1]]) r32 rfl
            refine ⟨(SP.nil (Sl.of_inc r32.run.inc S31.sl)), ?_⟩
            refine FB.all1 (i := 6) (by kernel_rfl) ?_
            ·
              obtain ⟨v45, w48, n46, cs47, run49, S50, els51, ce52⟩ := S31.appendO (P := Tryz.prog) te44 (i := 0) (j := 1) rfl els36 rfl (els41.mono (up_mono r32.run.inc)) hz43
              have S50 : St Ha wa H29 w48 [.row 3 1 v45 n46 cs47, .row 3 1 v37 1 [Value.int .i64 a1]] := S50
              have S53 : St Ha wa H29 w48 [.row 3 1 v45 n46 cs47] := S50.drop 1
              refine FC.val (l' := (bs 12 1023)) rfl (by kernel_rfl) rfl rfl rfl (E.append rfl rfl run49) ?_
              refine ⟨(SP.nil (Sl.of_inc r32.run.inc S53.sl)), ?_⟩
              refine FB.all1 (i := 10) (by kernel_rfl) ?_
              ·
                obtain ⟨v61, w64, n62, cs63, run65, S66, els67⟩ := S53.appendP (P := Tryz.prog) (Inc.rfl _) te44 (i := 0) rfl (els51.mono upI) (h58.mono (i121.tr r32.run.inc)) hz60
                have S66 : St Ha wa H29 w64 [.row 3 1 v61 n62 cs63] := S66
                have els67 : Els (up wa.heap.size H29) eI 1 cs63 xs59 := els67.any (fun _ _ _ _ h => h)
                refine FC.val (l' := (bs 12 2047)) rfl (by kernel_rfl) rfl rfl rfl (E.append rfl rfl run65) ?_
                refine ⟨(SP.nil (Sl.of_inc r32.run.inc S66.sl)), ?_⟩
                refine FB.t (i := 11) (bs 12 4095) rfl (SP.nil (Sl.of_inc r32.run.inc S66.sl)) rfl (fun w' hw' => (E.assign (v := v61) rfl)) ?_
                exact FB.done (by kernel_rfl) ⟨_, _, _, _, S66, r32.run.inc, els67, rfl⟩
      ·
        rintro f84 w83 ⟨H80, v68, n69, cs78, S81, i82, els79, k85⟩
        refine FW.ret ?_
        obtain rfl := Option.some.inj hp
        exact ⟨.inr rfl, res1 rfl k85 ⟨_, _, _, _, rfl, S81, els79⟩⟩
    · exact x21.elim

@[reducible] def p_spec_l3Set (Ha : GH) (wa : World) (r : (List Int)) : Ending → World → Prop :=
 fun e w' => ∃ H' : GH, ∃ v0 : Value, ∃ n0 : Nat, ∃ c0 : List Value, e = .returned (v0) ∧ St Ha wa H' w' [.row 3 1 v0 n0 c0] ∧ Els (up wa.heap.size H') eI 1 c0 r
theorem w_spec_l3Set {Ha : GH} {wa : World} (hs : Sl Ha wa) (v0 : Value) (a0 : List Int) (p0 : RSl Ha eI 1 v0 a0) (a1 : Int) {r : (List Int)} (hp : (PF.spec_l3Set a0 a1) = some r) :
  Calls Tryz.prog 136 #[v0, Value.int .i64 a1] wa (p_spec_l3Set Ha wa r) := by
 unfold PF.spec_l3Set at hp
 have S0 := St.init hs
 refine calls_go (N := 11) (args := [v0, Value.int .i64 a1]) Tryz.func136 rfl rfl rfl ?_
 refine FW.seq (FW.region ?_)
 refine FL.v (E.assign (v := Value.slice none 0 0) rfl) ?_
 refine FL.nil (FW.seq (FW.region ?_))
 refine FL.v (E.move (v := v0) rfl) ?_
 refine FL.v (E.move (v := Value.int .i64 a1) rfl) ?_
 refine FL.call rfl rfl rfl (E.call Tryz.call75 (A1 rfl)) (w_spec_l2Var S0.sl a1) ?_
 rintro e w21 ⟨rfl, r22⟩
 refine ⟨_, rfl, ?_⟩
 have S23 := S0.call r22
 obtain ⟨r24, hr25, hp⟩ := bnd hp
 refine FL.call rfl rfl rfl (E.call Tryz.call109 (A2 rfl rfl)) (w_spec_l2Without S23.sl v0 a0 p0 (PF.spec_l2Var a1) hr25) ?_
 rintro e w27 ⟨H26, v30, n31, cs32, rfl, r29, els33⟩
 refine ⟨_, rfl, ?_⟩
 have els33 := els33.mono (up_le S23.size)
 have S28 := S23.join (l' := [.row 3 1 v30 n31 cs32]) r29 rfl
 refine FL.v (E.move (v := Value.int .i64 a1) rfl) ?_
 obtain ⟨H34, S35, i36, h37, nv38⟩ := S28.sealRowU (i := 0) (l' := []) rfl els33 (by decide) rfl
 obtain ⟨r39, hr40, hp⟩ := bnd hp
 refine FL.call rfl rfl rfl (E.call Tryz.call138 (A2 rfl rfl)) (w_spec_l2Put S35.sl v30 r24 (h37.mono upI) a1 hr40) ?_
 rintro e w42 ⟨H41, v47, n48, cs49, rfl, r44, els50⟩
 refine ⟨_, rfl, ?_⟩
 obtain ⟨H45, r44, hU46⟩ := St.lendX i36 S28.sl r44
 have els50 := els50.mono (hU46.tr (up_le S28.size))
 have S43 := S28.join (l' := [.row 3 1 v47 n48 cs49, .row 3 1 v30 n31 cs32]) r44 rfl
 refine FL.v (E.assign (v := v47) rfl) ?_
 refine FL.nil ?_
 refine FW.ret ?_
 obtain rfl := Option.some.inj hp
 exact ⟨.inr rfl, res1 rfl rfl ⟨_, _, _, _, rfl, (S43.sel [0] (by decide) rfl), els50⟩⟩

@[reducible] def p_spec_l3Steps (Ha : GH) (wa : World) (r : ((List (Int × Int)) × (List Int) × Bool)) : Ending → World → Prop :=
  fun e w' => ∃ H' : GH, ∃ v0 : Value, ∃ n0 : Nat, ∃ c0 : List Value, ∃ v1 : Value, ∃ n1 : Nat, ∃ c1 : List Value, e = .returned (Value.tuple #[v0, v1, Value.bool r.2.2]) ∧ St Ha wa H' w' [.row 99 2 v0 n0 c0, .row 3 1 v1 n1 c1] ∧ Els (up wa.heap.size H') eI2 2 c0 r.1 ∧ Els (up wa.heap.size H') eI 1 c1 r.2.1
theorem w_spec_l3Steps {Ha : GH} {wa : World} (hs : Sl Ha wa) (a0 : Cnf) (v0_1 : Value) (p0_1 : RSl Ha (eL eI 1) 1 v0_1 a0.clauses) (v1 : Value) (a1 : List Int) (p1 : RSl Ha eI 1 v1 a1) {r : ((List (Int × Int)) × (List Int) × Bool)} (hp : (PF.spec_l3Steps a0 a1) = some r) :
    Calls Tryz.prog 104 #[Value.agg #[Value.int .i64 a0.vars, v0_1], v1] wa (p_spec_l3Steps Ha wa r) := by
  unfold PF.spec_l3Steps at hp
  have S0 := St.init hs
  refine calls_go (N := 58) (args := [Value.agg #[Value.int .i64 a0.vars, v0_1], v1]) Tryz.func104 rfl rfl rfl ?_
  refine FW.seq (FW.region ?_)
  obtain ⟨b21, w22, run23, S24⟩ := S0.box (P := Tryz.prog) 28 [Value.int .i64 a0.vars, v0_1] (v := Value.agg #[Value.int .i64 a0.vars, v0_1]) rfl (ones_cons rfl (ones_cons p0_1.one ones_nil))
  refine FL.v (E.box rfl run23) ?_
  obtain ⟨H25, S26, i27, at28⟩ := S24.sealBox (i := 0) (l' := []) rfl rfl
  refine FL.v (E.assign (v := Value.slice none 0 0) rfl) ?_
  refine FL.v (E.assign (v := Value.slice none 0 0) rfl) ?_
  refine FL.v (E.assign (v := Value.bool false) rfl) ?_
  refine FL.nil (FW.seq (FW.region ?_))
  obtain ⟨v29, w30, run31, S32⟩ := S26.buildSlice (P := Tryz.prog) te95 [] (parts := #[]) (cells := []) rfl szs_nil fc_nil ones_nil (Nat.le_of_ble_eq_true rfl)
  have els33 : Els (up wa.heap.size H25) eI2 2 [] [] := Els.nil
  refine FL.v (E.buildSlice (B0) run31) ?_
  refine FL.v (E.move (v := v1) rfl) ?_
  obtain ⟨r34, hr35, hp⟩ := bnd hp
  refine FL.call rfl rfl rfl (E.call Tryz.call64 (A1 rfl)) (w_spec_l1Own S32.sl v1 a1 (p1.mono i27) hr35) ?_
  rintro e w37 ⟨H36, v40, n41, cs42, rfl, r39, els43⟩
  refine ⟨_, rfl, ?_⟩
  have els43 := els43.mono (up_le S32.size)
  have S38 := S32.join (l' := [.row 3 1 v40 n41 cs42, .row 99 2 v29 0 []]) r39 rfl
  refine FL.v (E.assign (v := v29) rfl) ?_
  refine FL.v (E.assign (v := v40) rfl) ?_
  refine FL.nil (FW.seq ?_)
  obtain ⟨q44, hq, hp⟩ := bndR hp
  refine FW.block ?_
  refine FW.mono (FW.iter (S := ((List (Int × Int)) × (List Int))) (X := ((List (Int × Int)) × (List Int) × Bool)) (fun (s44 : ((List (Int × Int)) × (List Int))) f w => ∃ H : GH, ∃ v178 : Value, ∃ n179 : Nat, ∃ cs180 : List Value, ∃ v182 : Value, ∃ n183 : Nat, ∃ cs184 : List Value, St Ha wa H w [.row 99 2 v178 n179 cs180, .row 3 1 v182 n183 cs184] ∧ Inc H36 H ∧ Els (up wa.heap.size H) eI2 2 cs180 s44.1 ∧ Els (up wa.heap.size H) eI 1 cs184 s44.2 ∧ f 2 = Value.pointer (some ⟨b21, 0, none⟩) ∧ f 7 = v178 ∧ f 8 = v182) (fun q e f w => match q with | .go s44 => e = Exit.exit 0 ∧ (∃ H : GH, ∃ v178 : Value, ∃ n179 : Nat, ∃ cs180 : List Value, ∃ v182 : Value, ∃ n183 : Nat, ∃ cs184 : List Value, St Ha wa H w [.row 99 2 v178 n179 cs180, .row 3 1 v182 n183 cs184] ∧ Inc H36 H ∧ Els (up wa.heap.size H) eI2 2 cs180 s44.1 ∧ Els (up wa.heap.size H) eI 1 cs184 s44.2 ∧ f 7 = v178 ∧ f 8 = v182) | .rt x => ((e = Exit.ret) ∧ (fun e f w => (e = Exit.normal ∨ e = Exit.ret) ∧ ∀ a, Fr (δ := []) 58 a f → ∃ v, (results Tryz.f104 a.tmps).run Tryz.prog w = .ok v w ∧ (p_spec_l3Steps Ha wa x) (.returned v) w) e f w)) hq ⟨_, _, _, _, _, _, _, (S38.sel [1, 0] (by decide) rfl), (Inc.rfl _), (els33.mono (up_mono r39.run.inc)), els43, rfl, rfl, rfl⟩ ?_) ?_
  ·
    clear hp hq
    rintro s44 f315 w314 ⟨H311, v178, n179, cs180, v182, n183, cs184, S312, i313, els181, els185, k316, k317, k318⟩ o459 hp
    refine FW.seq (FW.seq (FW.region ?_))
    refine FL.v (E.load k316 (run_loadA Tryz.isAgg28 Tryz.sizeOf28 ((at28.mono (r39.run.inc.tr i313)).now S312.sl) rfl)) ?_
    refine FL.v (E.move k318) ?_
    obtain ⟨H319, S320, i321, h322, nv323⟩ := S312.sealRowU (i := 1) (l' := [.row 99 2 v178 n179 cs180]) rfl els185 (by decide) rfl
    obtain ⟨r324, hr325, hp⟩ := bnd hp
    refine FL.call rfl rfl rfl (E.call Tryz.call134 (A2 rfl rfl)) (w_spec_l3CnfValue S320.sl a0 v0_1 (p0_1.mono (((i27.tr r39.run.inc).tr i313).tr i321)) v182 s44.2 (h322.mono upI) hr325) ?_
    rintro e w326 ⟨rfl, r327⟩
    refine ⟨_, rfl, ?_⟩
    have r327 := Run.lend i321 S312.sl r327
    have S328 := S312.call r327
    refine FL.v (E.geq rfl rfl) ?_
    refine FL.nil ?_
    rcases ifB hp with ⟨c329, hp⟩ | ⟨c329, hp⟩
    ·
      refine FW.condT rfl c329 ?_
      refine FW.skip (FW.block (FW.seq (FW.region ?_)))
      refine FL.v (E.assign (v := Value.int .i64 (-1)) rfl) ?_
      refine FL.nil (FW.seq (FW.seq (FW.region ?_)))
      refine FL.v (E.fieldAddr tf28_1 k316) ?_
      refine FL.v (E.load rfl (run_load1 Tryz.isAgg22 ((at28.mono (r39.run.inc.tr i313)).now S328.sl) rfl)) ?_
      refine FL.v (E.lenP te22 rfl p0_1) ?_
      refine FL.v (E.sub rfl rfl) ?_
      refine FL.v (E.assign (v := Value.int .i64 (wr ((len a0.clauses) - 1))) rfl) ?_
      refine FL.nil ?_
      obtain ⟨q330, hq, hp⟩ := bndR hp
      refine FW.block ?_
      refine FW.mono (FW.iter (S := (Int × Int)) (X := Empty) (fun (s330 : (Int × Int)) f w => ∃ H : GH, St Ha wa H w [.row 99 2 v178 n179 cs180, .row 3 1 v182 n183 cs184] ∧ Inc H311 H ∧ f 2 = Value.pointer (some ⟨b21, 0, none⟩) ∧ f 7 = v178 ∧ f 8 = v182 ∧ f 9 = Value.int .i64 s330.1 ∧ f 10 = Value.int .i64 s330.2) (fun (q : Rs (Int × Int) Empty) e f w => match q with | .go s330 => e = Exit.exit 2 ∧ (∃ H : GH, St Ha wa H w [.row 99 2 v178 n179 cs180, .row 3 1 v182 n183 cs184] ∧ Inc H311 H ∧ f 2 = Value.pointer (some ⟨b21, 0, none⟩) ∧ f 7 = v178 ∧ f 8 = v182 ∧ f 9 = Value.int .i64 s330.1) | .rt x => x.elim) hq ⟨_, S328, (Inc.rfl _), k316, k317, k318, rfl, rfl⟩ ?_) ?_
      ·
        clear hp hq
        rintro s330 f367 w366 ⟨H363, S364, i365, k368, k369, k370, k371, k372⟩ o395 hp
        refine FW.seq (FW.seq (FW.region ?_))
        refine FL.v (E.move k372) ?_
        refine FL.v (E.geq rfl rfl) ?_
        refine FL.nil ?_
        rcases ifB hp with ⟨c373, hp⟩ | ⟨c373, hp⟩
        ·
          refine FW.condT rfl c373 ?_
          refine FW.skip (FW.seq (FW.block (FW.seq (FW.region ?_))))
          refine FL.v (E.fieldAddr tf28_1 k368) ?_
          refine FL.v (E.load rfl (run_load1 Tryz.isAgg22 ((at28.mono ((r39.run.inc.tr i313).tr i365)).now S364.sl) rfl)) ?_
          refine FL.v (E.move k372) ?_
          obtain ⟨x380, hx381, hp⟩ := bnd hp
          obtain ⟨p374, cs375, pt376, l377, at378, rel379⟩ := p0_1.at hx381
          obtain ⟨v382, rfl, h383⟩ := eL_open rel379
          refine FL.v (E.indexAddr te22 rfl rfl pt376) ?_
          refine FL.v (E.load rfl (run_load0 Tryz.isAgg44 ((at378.mono (((i27.tr r39.run.inc).tr i313).tr i365)).now S364.sl) rfl)) ?_
          refine FL.v (E.move k370) ?_
          obtain ⟨H384, S385, i386, h387, nv388⟩ := S364.sealRowU (i := 1) (l' := [.row 99 2 v178 n179 cs180]) rfl (els185.mono (up_mono i365)) (by decide) rfl
          obtain ⟨r389, hr390, hp⟩ := bnd hp
          refine FL.call rfl rfl rfl (E.call Tryz.call135 (A2 rfl rfl)) (w_spec_l3Unit S385.sl v382 x380 (h383.mono ((((i27.tr r39.run.inc).tr i313).tr i365).tr i386)) v182 s44.2 (h387.mono upI) hr390) ?_
          rintro e w391 ⟨rfl, r392⟩
          refine ⟨_, rfl, ?_⟩
          have r392 := Run.lend i386 S364.sl r392
          have S393 := S364.call r392
          refine FL.v (E.neq rfl rfl) ?_
          refine FL.nil ?_
          rcases ifB hp with ⟨c394, hp⟩ | ⟨c394, hp⟩
          ·
            refine FW.condT rfl c394 ?_
            refine FW.region ?_
            refine FL.v (E.move k372) ?_
            refine FL.v (E.assign (v := Value.int .i64 s330.2) rfl) ?_
            refine FL.nil (FW.region ?_)
            refine FL.v (E.move k372) ?_
            refine FL.v (E.sub rfl rfl) ?_
            refine FL.v (E.assign (v := Value.int .i64 (wr (s330.2 - 1))) rfl) ?_
            refine FL.nil ?_
            obtain rfl := Option.some.inj hp
            exact ⟨rfl, ⟨_, S393, i365, k368, k369, k370, rfl, rfl⟩⟩
          ·
            refine FW.condF rfl c394 ?_
            refine FW.skip (FW.region ?_)
            refine FL.v (E.move k372) ?_
            refine FL.v (E.sub rfl rfl) ?_
            refine FL.v (E.assign (v := Value.int .i64 (wr (s330.2 - 1))) rfl) ?_
            refine FL.nil ?_
            obtain rfl := Option.some.inj hp
            exact ⟨rfl, ⟨_, S393, i365, k368, k369, k370, k371, rfl⟩⟩
        ·
          refine FW.condF rfl c373 ?_
          refine FW.exit ?_
          obtain rfl := Option.some.inj hp
          exact ⟨nofun, rfl, ⟨_, S364, i365, k368, k369, k370, k371⟩⟩
      ·
        clear hq
        intro e f400 w399 hD
        rcases q330 with s330 | x330
        ·
          obtain ⟨rfl, hD⟩ := hD
          obtain ⟨H396, S397, i398, k401, k402, k403, k404⟩ := hD
          replace hp := el_go hp
          refine FW.seq (FW.seq (FW.region ?_))
          refine FL.v (E.move k404) ?_
          refine FL.v (E.lss rfl rfl) ?_
          refine FL.nil ?_
          rcases ifB hp with ⟨c405, hp⟩ | ⟨c405, hp⟩
          ·
            refine FW.condT rfl c405 ?_
            refine FW.seq (FW.region ?_)
            refine FL.v (E.move k402) ?_
            refine FL.v (E.move k403) ?_
            refine FL.v (E.assign (v := v178) rfl) ?_
            refine FL.v (E.assign (v := v182) rfl) ?_
            refine FL.v (E.assign (v := Value.bool false) rfl) ?_
            refine FL.nil ?_
            refine FW.ret ?_
            obtain rfl := Option.some.inj hp
            exact ⟨nofun, rfl, ⟨.inr rfl, res3 rfl rfl rfl rfl ⟨_, _, _, _, _, _, _, rfl, S397, (els181.mono (up_mono i398)), (els185.mono (up_mono i398))⟩⟩⟩
          ·
            refine FW.condF rfl c405 ?_
            refine FW.skip (FW.seq (FW.region ?_))
            refine FL.v (E.fieldAddr tf28_1 k401) ?_
            refine FL.v (E.load rfl (run_load1 Tryz.isAgg22 ((at28.mono ((r39.run.inc.tr i313).tr i398)).now S397.sl) rfl)) ?_
            refine FL.v (E.move k404) ?_
            obtain ⟨x412, hx413, hp⟩ := bnd hp
            obtain ⟨p406, cs407, pt408, l409, at410, rel411⟩ := p0_1.at hx413
            obtain ⟨v414, rfl, h415⟩ := eL_open rel411
            refine FL.v (E.indexAddr te22 rfl rfl pt408) ?_
            refine FL.v (E.load rfl (run_load0 Tryz.isAgg44 ((at410.mono (((i27.tr r39.run.inc).tr i313).tr i398)).now S397.sl) rfl)) ?_
            refine FL.v (E.move k403) ?_
            obtain ⟨H416, S417, i418, h419, nv420⟩ := S397.sealRowU (i := 1) (l' := [.row 99 2 v178 n179 cs180]) rfl (els185.mono (up_mono i398)) (by decide) rfl
            obtain ⟨r421, hr422, hp⟩ := bnd hp
            refine FL.call rfl rfl rfl (E.call Tryz.call135 (A2 rfl rfl)) (w_spec_l3Unit S417.sl v414 x412 (h415.mono ((((i27.tr r39.run.inc).tr i313).tr i398).tr i418)) v182 s44.2 (h419.mono upI) hr422) ?_
            rintro e w423 ⟨rfl, r424⟩
            refine ⟨_, rfl, ?_⟩
            have r424 := Run.lend i418 S397.sl r424
            have S425 := S397.call r424
            refine FL.v (E.assign (v := Value.int .i64 r421) rfl) ?_
            refine FL.nil (FW.seq (FW.region ?_))
            refine FL.v (E.move k402) ?_
            refine FL.v (E.move (v := Value.int .i64 r421) rfl) ?_
            refine FL.v (E.move k404) ?_
            refine FL.v (E.build (B2 rfl rfl) (run_build _ 99 #[(0, Value.int .i64 r421), (1, Value.int .i64 s330.1)] #[Value.int .i64 r421, Value.int .i64 s330.1] (by rfl))) ?_
            obtain ⟨v426, w427, run428, S429⟩ := S425.buildSlice (P := Tryz.prog) te95 [Value.agg #[Value.int .i64 r421, Value.int .i64 s330.1]] (parts := #[(0, Value.agg #[Value.int .i64 r421, Value.int .i64 s330.1])]) (cells := [Value.int .i64 r421, Value.int .i64 s330.1]) rfl (szs_cons rfl szs_nil) (fc_cons rfl fc_nil) (ones_cons rfl (ones_cons rfl ones_nil)) (Nat.le_of_ble_eq_true rfl)
            have els430 : Els (up wa.heap.size H396) eI2 2 [Value.int .i64 r421, Value.int .i64 s330.1] [(r421, s330.1)] := (Els.snoc (H := (up wa.heap.size H396)) (E := eI2) (k := 2) (c := [Value.int .i64 r421, Value.int .i64 s330.1]) (x := (r421, s330.1)) Els.nil rfl rfl)
            refine FL.v (E.buildSlice (B1 rfl) run428) ?_
            obtain ⟨xs431, hz432, hp⟩ := bnd hp
            obtain ⟨v433, w436, n434, cs435, run437, S438, els439, ce440⟩ := S429.appendO (P := Tryz.prog) te95 (i := 1) (j := 0) rfl (els181.mono (up_mono i398)) rfl els430 hz432
            have S438 : St Ha wa H396 w436 [.row 99 2 v426 1 [Value.int .i64 r421, Value.int .i64 s330.1], .row 99 2 v433 n434 cs435, .row 3 1 v182 n183 cs184] := S438
            have S441 : St Ha wa H396 w436 [.row 99 2 v433 n434 cs435, .row 3 1 v182 n183 cs184] := S438.drop 0
            refine FL.v (E.append rfl rfl run437) ?_
            refine FL.v (E.assign (v := v433) rfl) ?_
            refine FL.nil (FW.region ?_)
            refine FL.v (E.move k403) ?_
            refine FL.v (E.move (v := Value.int .i64 r421) rfl) ?_
            obtain ⟨H442, S443, i444, h445, nv446⟩ := S441.sealRowU (i := 1) (l' := [.row 99 2 v433 n434 cs435]) rfl (els185.mono (up_mono i398)) (by decide) rfl
            obtain ⟨r447, hr448, hp⟩ := bnd hp
            refine FL.call rfl rfl rfl (E.call Tryz.call136 (A2 rfl rfl)) (w_spec_l3Set S443.sl v182 s44.2 (h445.mono upI) r421 hr448) ?_
            rintro e w450 ⟨H449, v455, n456, cs457, rfl, r452, els458⟩
            refine ⟨_, rfl, ?_⟩
            obtain ⟨H453, r452, hU454⟩ := St.lendX i444 S441.sl r452
            have els458 := els458.mono (hU454.tr (up_le S441.size))
            have S451 := S441.join (l' := [.row 3 1 v455 n456 cs457, .row 99 2 v433 n434 cs435, .row 3 1 v182 n183 cs184]) r452 rfl
            refine FL.v (E.assign (v := v455) rfl) ?_
            refine FL.nil ?_
            obtain rfl := Option.some.inj hp
            exact ⟨rfl, ⟨_, _, _, _, _, _, _, (S451.sel [1, 0] (by decide) rfl), ((i313.tr i398).tr r452.run.inc), (els439.mono (up_mono r452.run.inc)), els458, k401, rfl, rfl⟩⟩
        · exact x330.elim
    ·
      refine FW.condF rfl c329 ?_
      refine FW.exit ?_
      obtain rfl := Option.some.inj hp
      exact ⟨nofun, rfl, ⟨_, _, _, _, _, _, _, S328, i313, els181, els185, k317, k318⟩⟩
  ·
    clear hq
    intro e f464 w463 hD
    rcases q44 with s44 | x44
    ·
      obtain ⟨rfl, hD⟩ := hD
      obtain ⟨H460, v178, n179, cs180, v182, n183, cs184, S461, i462, els181, els185, k465, k466⟩ := hD
      replace hp := el_go hp
      refine FW.seq (FW.region ?_)
      refine FL.v (E.move k465) ?_
      refine FL.v (E.move k466) ?_
      refine FL.v (E.assign (v := v178) rfl) ?_
      refine FL.v (E.assign (v := v182) rfl) ?_
      refine FL.v (E.assign (v := Value.bool true) rfl) ?_
      refine FL.nil ?_
      refine FW.ret ?_
      obtain rfl := Option.some.inj hp
      exact ⟨.inr rfl, res3 rfl rfl rfl rfl ⟨_, _, _, _, _, _, _, rfl, S461, els181, els185⟩⟩
    ·
      obtain ⟨he, hL⟩ := hD
      replace hp := el_rt hp
      obtain rfl := Option.some.inj hp
      subst he
      exact hL

theorem w_spec_l11Follows {Ha : GH} {wa : World} (hs : Sl Ha wa) (a0 : Cnf) (v0_1 : Value) (p0_1 : RSl Ha (eL eI 1) 1 v0_1 a0.clauses) (v1 : Value) (a1 : List Int) (p1 : RSl Ha eI 1 v1 a1) {r : Bool} (hp : (PF.spec_l11Follows a0 a1) = some r) :
  Calls Tryz.prog 103 #[Value.agg #[Value.int .i64 a0.vars, v0_1], v1] wa (Sc Ha wa (Value.bool r)) := by
 unfold PF.spec_l11Follows at hp
 have S0 := St.init hs
 refine calls_go (N := 17) (args := [Value.agg #[Value.int .i64 a0.vars, v0_1], v1]) Tryz.func103 rfl rfl rfl ?_
 refine FW.seq (FW.region ?_)
 obtain ⟨b21, w22, run23, S24⟩ := S0.box (P := Tryz.prog) 28 [Value.int .i64 a0.vars, v0_1] (v := Value.agg #[Value.int .i64 a0.vars, v0_1]) rfl (ones_cons rfl (ones_cons p0_1.one ones_nil))
 refine FL.v (E.box rfl run23) ?_
 obtain ⟨H25, S26, i27, at28⟩ := S24.sealBox (i := 0) (l' := []) rfl rfl
 refine FL.v (E.assign (v := Value.bool false) rfl) ?_
 refine FL.nil (FW.seq ?_)
 obtain ⟨r32, hr33, hp⟩ := bnd hp
 obtain ⟨r47, hr48, hp⟩ := bnd hp
 refine FW.drawB (Sl H25) (fun f w => ∃ H : GH, St Ha wa H w [] ∧ Inc H25 H ∧ f 7 = Value.bool r47.2.2) (by kernel_rfl) S26.sl ?_ ?_
 ·
  intro w29 r30
  have S31 := S26.call r30
  refine FB.t (i := 0) (bs 11 1) rfl (SP.nil S31.sl) rfl (fun w' hw' => (E.load rfl (run_loadA Tryz.isAgg28 Tryz.sizeOf28 (at28.now hw') rfl))) ?_
  refine FB.t (i := 1) (bs 11 3) rfl (SP.nil S31.sl) rfl (fun w' hw' => (E.move (v := v1) rfl)) ?_
  refine FB.all1 (i := 2) (by kernel_rfl) ?_
  ·
   refine FC.call (l' := (bs 11 7)) rfl (by kernel_rfl) rfl rfl rfl (E.call Tryz.call105 (A1 rfl)) (w_spec_l11Deny S31.sl v1 a1 (p1.mono i27) hr33) ?_
   rintro e w35 ⟨H34, v38, n39, cs40, rfl, r37, els41⟩
   refine ⟨_, rfl, ?_⟩
   have els41 := els41.mono (up_le S31.size)
   have S36 := S31.join (l' := [.row 3 1 v38 n39 cs40]) r37 rfl
   refine ⟨(SP.nil (Sl.of_inc r37.run.inc S36.sl)), ?_⟩
   refine FB.all1 (i := 3) (by kernel_rfl) ?_
   ·
    obtain ⟨H42, S43, i44, h45, nv46⟩ := S36.sealRowU (i := 0) (l' := []) rfl els41 (by decide) rfl
    refine FC.call (l' := (bs 11 15)) rfl (by kernel_rfl) rfl rfl rfl (E.call Tryz.call104 (A2 rfl rfl)) (w_spec_l3Steps S43.sl a0 v0_1 (p0_1.mono ((i27.tr r37.run.inc).tr i44)) v38 r32 (h45.mono upI) hr48) ?_
    rintro e w50 ⟨H49, v55, n56, cs57, v59, n60, cs61, rfl, r52, els58, els62⟩
    refine ⟨_, rfl, ?_⟩
    obtain ⟨H53, r52, hU54⟩ := St.lendX i44 S36.sl r52
    have els58 := els58.mono (hU54.tr (up_le S36.size))
    have els62 := els62.mono (hU54.tr (up_le S36.size))
    have S51 := S36.join (l' := [.row 99 2 v55 n56 cs57, .row 3 1 v59 n60 cs61, .row 3 1 v38 n39 cs40]) r52 rfl
    refine ⟨(SP.nil (Sl.of_inc (r37.run.inc.tr r52.run.inc) S51.sl)), ?_⟩
    refine FB.t (i := 4) (bs 11 31) rfl (SP.nil (Sl.of_inc (r37.run.inc.tr r52.run.inc) S51.sl)) rfl (fun w' hw' => (E.move (v := Value.tuple #[v55, v59, Value.bool r47.2.2]) rfl)) ?_
    refine FB.t (i := 5) (bs 11 63) rfl (SP.nil (Sl.of_inc (r37.run.inc.tr r52.run.inc) S51.sl)) rfl (fun w' hw' => (E.extract (i := 0) rfl rfl)) ?_
    refine FB.t (i := 6) (bs 11 127) rfl (SP.nil (Sl.of_inc (r37.run.inc.tr r52.run.inc) S51.sl)) rfl (fun w' hw' => (E.extract (i := 1) rfl rfl)) ?_
    refine FB.t (i := 7) (bs 11 255) rfl (SP.nil (Sl.of_inc (r37.run.inc.tr r52.run.inc) S51.sl)) rfl (fun w' hw' => (E.extract (i := 2) rfl rfl)) ?_
    refine FB.t (i := 8) (bs 11 511) rfl (SP.nil (Sl.of_inc (r37.run.inc.tr r52.run.inc) S51.sl)) rfl (fun w' hw' => (E.assign (v := v55) rfl)) ?_
    refine FB.t (i := 9) (bs 11 1023) rfl (SP.nil (Sl.of_inc (r37.run.inc.tr r52.run.inc) S51.sl)) rfl (fun w' hw' => (E.assign (v := v59) rfl)) ?_
    refine FB.t (i := 10) (bs 11 2047) rfl (SP.nil (Sl.of_inc (r37.run.inc.tr r52.run.inc) S51.sl)) rfl (fun w' hw' => (E.assign (v := Value.bool r47.2.2) rfl)) ?_
    exact FB.done (by kernel_rfl) ⟨_, (S51.sel [] (by decide) rfl), (r37.run.inc.tr r52.run.inc), rfl⟩
 ·
  rintro f67 w66 ⟨H63, S64, i65, k68⟩
  refine FW.seq (FW.region ?_)
  refine FL.v (E.move k68) ?_
  refine FL.v (E.assign (v := Value.bool r47.2.2) rfl) ?_
  refine FL.nil ?_
  refine FW.ret ?_
  obtain rfl := Option.some.inj hp
  exact ⟨.inr rfl, res1 rfl rfl ⟨rfl, S64.back⟩⟩

theorem w_spec_l11First {Ha : GH} {wa : World} (hs : Sl Ha wa) (a0 : Cnf) (v0_1 : Value) (p0_1 : RSl Ha (eL eI 1) 1 v0_1 a0.clauses) (v1 : Value) (a1 : List (List Int)) (p1 : RSl Ha (eL eI 1) 1 v1 a1) {r : Int} (hp : (PF.spec_l11First a0 a1) = some r) :
  Calls Tryz.prog 70 #[Value.agg #[Value.int .i64 a0.vars, v0_1], v1] wa (Sc Ha wa (Value.int .i64 r)) := by
 unfold PF.spec_l11First at hp
 have S0 := St.init hs
 refine calls_go (N := 24) (args := [Value.agg #[Value.int .i64 a0.vars, v0_1], v1]) Tryz.func70 rfl rfl rfl ?_
 refine FW.seq (FW.region ?_)
 obtain ⟨b21, w22, run23, S24⟩ := S0.box (P := Tryz.prog) 28 [Value.int .i64 a0.vars, v0_1] (v := Value.agg #[Value.int .i64 a0.vars, v0_1]) rfl (ones_cons rfl (ones_cons p0_1.one ones_nil))
 refine FL.v (E.box rfl run23) ?_
 obtain ⟨H25, S26, i27, at28⟩ := S24.sealBox (i := 0) (l' := []) rfl rfl
 refine FL.v (E.assign (v := Value.int .i64 0) rfl) ?_
 refine FL.nil (FW.seq (FW.seq (FW.region ?_)))
 refine FL.v (E.assign (v := Value.int .i64 0) rfl) ?_
 refine FL.nil ?_
 obtain ⟨q30, hq, hp⟩ := bndR hp
 refine FW.block ?_
 refine FW.mono (FW.forL (S := Unit) (X := Int) (fun (i30 : Nat) (s30 : Unit) f w => ∃ H : GH, St Ha wa H w [] ∧ Inc H25 H ∧ f 5 = Value.int .i64 ((i30 : Nat) : Int) ∧ f 1 = v1 ∧ f 2 = Value.pointer (some ⟨b21, 0, none⟩)) (fun q e f w => match q with | .go s30 => e = Exit.exit 0 ∧ (∃ H : GH, St Ha wa H w [] ∧ Inc H25 H) | .rt x => ((e = Exit.ret) ∧ (fun e f w => (e = Exit.normal ∨ e = Exit.ret) ∧ ∀ a, Fr (δ := []) 24 a f → ∃ v, (results Tryz.f70 a.tmps).run Tryz.prog w = .ok v w ∧ (Sc Ha wa (Value.int .i64 x)) (.returned v) w) e f w)) hq ⟨_, S26, (Inc.rfl _), rfl, rfl, rfl⟩ ?_ ?_) ?_
 ·
  clear hp hq
  rintro i30 y29 s30 f35 w34 ⟨H31, S32, i33, k36, k37, k38⟩ hx30 o78 hp
  refine FW.seq (FW.seq (FW.region ?_))
  refine FL.v (E.move k36) ?_
  refine FL.v (E.move k37) ?_
  refine FL.v (E.lenP te22 rfl p1) ?_
  refine FL.v (E.lssT rfl rfl (lss_len hx30)) ?_
  refine FL.nil ?_
  refine FW.condT rfl rfl ?_
  refine FW.skip (FW.seq (FW.block (FW.seq ?_)))
  obtain ⟨xs42, hc43, hp⟩ := bnd hp
  obtain ⟨r47, hr48, hp⟩ := bnd hp
  obtain ⟨r63, hr64, hp⟩ := bnd hp
  refine FW.drawB (Sl H31) (fun f w => ∃ H : GH, St Ha wa H w [] ∧ Inc H31 H ∧ f 1 = v1 ∧ f 2 = Value.pointer (some ⟨b21, 0, none⟩) ∧ f 5 = Value.int .i64 ((i30 : Nat) : Int) ∧ f 22 = Value.bool (!r63)) (by kernel_rfl) S32.sl ?_ ?_
  ·
   intro w39 r40
   have S41 := S32.call r40
   refine FB.t (i := 0) (bs 11 1) rfl (SP.nil S41.sl) rfl (fun w' hw' => (E.load k38 (run_loadA Tryz.isAgg28 Tryz.sizeOf28 ((at28.mono i33).now hw') rfl))) ?_
   refine FB.t (i := 1) (bs 11 3) rfl (SP.nil S41.sl) rfl (fun w' hw' => (E.move k37)) ?_
   refine FB.t (i := 2) (bs 11 7) rfl (SP.nil S41.sl) rfl (fun w' hw' => (E.move k36)) ?_
   obtain ⟨v44, run45, h46⟩ := p1.cut te22 hc43 (lo := none) (hi := some (Value.int .i64 ((i30 : Nat) : Int))) (.inl ⟨rfl, rfl⟩) (.inr ⟨_, rfl⟩)
   refine FB.t (i := 3) (bs 11 15) rfl (SP.nil S41.sl) rfl (fun w' hw' => (E.slice te22 rfl rfl (congrArg some rfl) rfl (run45 _))) ?_
   refine FB.t (i := 5) (bs 11 47) rfl (SP.nil S41.sl) rfl (fun w' hw' => (E.move k37)) ?_
   refine FB.t (i := 6) (bs 11 111) rfl (SP.nil S41.sl) rfl (fun w' hw' => (E.move k36)) ?_
   obtain ⟨p55, cs56, pt57, l58, at59, rel60⟩ := p1.at (ix_nat hx30)
   obtain ⟨v61, rfl, h62⟩ := eL_open rel60
   refine FB.t (i := 7) (bs 11 239) rfl (SP.nil S41.sl) rfl (fun w' hw' => (E.indexAddr te22 rfl rfl pt57)) ?_
   refine FB.t (i := 8) (bs 11 495) rfl (SP.nil S41.sl) rfl (fun w' hw' => (E.load rfl (run_load0 Tryz.isAgg44 ((at59.mono (i27.tr i33)).now hw') rfl))) ?_
   refine FB.all1 (i := 4) (by kernel_rfl) ?_
   ·
    refine FC.call (l' := (bs 11 511)) rfl (by kernel_rfl) rfl rfl rfl (E.call Tryz.call72 (A2 rfl rfl)) (w_spec_l11With S41.sl a0 v0_1 (p0_1.mono (i27.tr i33)) v44 xs42 (h46.mono (i27.tr i33)) hr48) ?_
    rintro e w50 ⟨H49, v53, rfl, r52, h54⟩
    refine ⟨_, rfl, ?_⟩
    have S51 := S41.call r52
    refine ⟨(SP.nil (Sl.of_inc r52.inc S51.sl)), ?_⟩
    refine FB.all1 (i := 9) (by kernel_rfl) ?_
    ·
     refine FC.call (l' := (bs 11 1023)) rfl (by kernel_rfl) rfl rfl rfl (E.call Tryz.call103 (A2 rfl rfl)) (w_spec_l11Follows S51.sl r47 v53 h54 v61 y29 (h62.mono ((i27.tr i33).tr r52.inc)) hr64) ?_
     rintro e w65 ⟨rfl, r66⟩
     refine ⟨_, rfl, ?_⟩
     have S67 := S51.call r66
     refine ⟨(SP.nil (Sl.of_inc r52.inc S67.sl)), ?_⟩
     refine FB.t (i := 10) (bs 11 2047) rfl (SP.nil (Sl.of_inc r52.inc S67.sl)) rfl (fun w' hw' => (E.not rfl)) ?_
     exact FB.done (by kernel_rfl) ⟨_, S67, r52.inc, k37, k38, k36, rfl⟩
  ·
   rintro f72 w71 ⟨H68, S69, i70, k73, k74, k75, k76⟩
   rcases ifB hp with ⟨c77, hp⟩ | ⟨c77, hp⟩
   ·
    refine FW.condT k76 c77 ?_
    refine FW.seq (FW.region ?_)
    refine FL.v (E.move k75) ?_
    refine FL.v (E.assign (v := Value.int .i64 ((i30 : Nat) : Int)) rfl) ?_
    refine FL.nil ?_
    refine FW.ret ?_
    obtain rfl := Option.some.inj hp
    exact ⟨nofun, rfl, ⟨.inr rfl, res1 rfl rfl ⟨rfl, S69.back⟩⟩⟩
   ·
    refine FW.condF k76 c77 ?_
    refine FW.skip (FW.region ?_)
    refine FL.v (E.move k75) ?_
    refine FL.v (E.add rfl rfl) ?_
    refine FL.v (E.assign (v := Value.int .i64 (wr (((i30 : Nat) : Int) + 1))) rfl) ?_
    refine FL.nil ?_
    obtain rfl := Option.some.inj hp
    exact ⟨rfl, ⟨_, S69, (i33.tr i70), (nat_succ rfl (lt_of_get hx30) (p1.mono ((i27.tr i33).tr i70)).le), k73, k74⟩⟩
 ·
  clear hp hq
  rintro s30 f88 w87 ⟨H84, S85, i86, k89, k90, k91⟩
  refine FW.seq (FW.seq (FW.region ?_))
  refine FL.v (E.move k89) ?_
  refine FL.v (E.move k90) ?_
  refine FL.v (E.lenP te22 rfl p1) ?_
  refine FL.v (E.lss rfl rfl) ?_
  refine FL.nil ?_
  refine FW.condF rfl dlt_len ?_
  refine FW.exit ?_
  exact ⟨nofun, rfl, ⟨_, S85, i86⟩⟩
 ·
  clear hq
  intro e f83 w82 hD
  rcases q30 with s30 | x30
  ·
   obtain ⟨rfl, hD⟩ := hD
   obtain ⟨H79, S80, i81⟩ := hD
   replace hp := el_go hp
   refine FW.seq (FW.region ?_)
   refine FL.v (E.assign (v := Value.int .i64 (-1)) rfl) ?_
   refine FL.nil ?_
   refine FW.ret ?_
   obtain rfl := Option.some.inj hp
   exact ⟨.inr rfl, res1 rfl rfl ⟨rfl, S80.back⟩⟩
  ·
   obtain ⟨he, hL⟩ := hD
   replace hp := el_rt hp
   obtain rfl := Option.some.inj hp
   subst he
   exact hL

theorem w_spec_l11Good {Ha : GH} {wa : World} (hs : Sl Ha wa) (a0 : Cnf) (v0_1 : Value) (p0_1 : RSl Ha (eL eI 1) 1 v0_1 a0.clauses) (v1 : Value) (a1 : List (List Int)) (p1 : RSl Ha (eL eI 1) 1 v1 a1) {r : Bool} (hp : (PF.spec_l11Good a0 a1) = some r) :
  Calls Tryz.prog 46 #[Value.agg #[Value.int .i64 a0.vars, v0_1], v1] wa (Sc Ha wa (Value.bool r)) := by
 unfold PF.spec_l11Good at hp
 have S0 := St.init hs
 refine calls_go (N := 14) (args := [Value.agg #[Value.int .i64 a0.vars, v0_1], v1]) Tryz.func46 rfl rfl rfl ?_
 refine FW.seq (FW.region ?_)
 obtain ⟨b21, w22, run23, S24⟩ := S0.box (P := Tryz.prog) 28 [Value.int .i64 a0.vars, v0_1] (v := Value.agg #[Value.int .i64 a0.vars, v0_1]) rfl (ones_cons rfl (ones_cons p0_1.one ones_nil))
 refine FL.v (E.box rfl run23) ?_
 obtain ⟨H25, S26, i27, at28⟩ := S24.sealBox (i := 0) (l' := []) rfl rfl
 refine FL.v (E.assign (v := Value.bool false) rfl) ?_
 refine FL.nil (FW.seq (FW.region ?_))
 refine FL.v (E.load rfl (run_loadA Tryz.isAgg28 Tryz.sizeOf28 (at28.now S26.sl) rfl)) ?_
 refine FL.v (E.move (v := v1) rfl) ?_
 obtain ⟨r29, hr30, hp⟩ := bnd hp
 refine FL.call rfl rfl rfl (E.call Tryz.call69 (A2 rfl rfl)) (w_spec_l11Takes S26.sl a0 v0_1 (p0_1.mono i27) v1 a1 (p1.mono i27) hr30) ?_
 rintro e w31 ⟨rfl, r32⟩
 refine ⟨_, rfl, ?_⟩
 have S33 := S26.call r32
 refine FL.v (E.move (v := Value.bool r29) rfl) ?_
 obtain ⟨t39, hqt39, hp⟩ := bnd hp
 refine FL.cut 5 (fun f w => ∃ H : GH, St Ha wa H w [] ∧ Inc H25 H ∧ f 13 = Value.bool t39) ?_ ?_
 ·
  clear hp; have hp := hqt39; clear hqt39
  rcases ifB hp with ⟨c45, hp⟩ | ⟨c45, hp⟩
  ·
   refine FL.val (wF_yes rfl rfl rfl c45) rfl rfl (E.load rfl (run_loadA Tryz.isAgg28 Tryz.sizeOf28 (at28.now S33.sl) rfl)) ?_
   refine FL.val (wF_yes rfl rfl rfl c45) rfl rfl (E.move (v := v1) rfl) ?_
   obtain ⟨r46, hr47, hp⟩ := bnd hp
   refine FL.call (wF_yes rfl rfl rfl c45) rfl rfl (E.call Tryz.call70 (A2 rfl rfl)) (w_spec_l11First S33.sl a0 v0_1 (p0_1.mono i27) v1 a1 (p1.mono i27) hr47) ?_
   rintro e w48 ⟨rfl, r49⟩
   refine ⟨_, rfl, ?_⟩
   have S50 := S33.call r49
   refine FL.val (wF_yes rfl rfl rfl c45) rfl rfl (E.lss rfl rfl) ?_
   obtain rfl := Option.some.inj hp
   refine FL.v (E.pickT rfl c45 rfl) ?_
   exact FL.nil ⟨rfl, _, S50, (Inc.rfl _), rfl⟩
  ·
   refine FL.skip (wF_no rfl rfl rfl c45) rfl ?_
   refine FL.skip (wF_no rfl rfl rfl c45) rfl ?_
   refine FL.skip (wF_no rfl rfl rfl c45) rfl ?_
   refine FL.skip (wF_no rfl rfl rfl c45) rfl ?_
   obtain rfl := Option.some.inj hp
   refine FL.v (E.pickF rfl c45 rfl) ?_
   exact FL.nil ⟨rfl, _, S33, (Inc.rfl _), rfl⟩
 rintro f44 w43 ⟨H40, S41, i42, k51⟩
 refine FL.v (E.assign k51) ?_
 refine FL.nil ?_
 refine FW.ret ?_
 obtain rfl := Option.some.inj hp
 exact ⟨.inr rfl, res1 rfl rfl ⟨rfl, S41.back⟩⟩

theorem w_spec_l9False {Ha : GH} {wa : World} (hs : Sl Ha wa) (a0 : Cnf) (v0_1 : Value) (p0_1 : RSl Ha (eL eI 1) 1 v0_1 a0.clauses) (v1 : Value) (a1 : List Int) (p1 : RSl Ha eI 1 v1 a1) {r : Int} (hp : (PF.spec_l9False a0 a1) = some r) :
  Calls Tryz.prog 106 #[Value.agg #[Value.int .i64 a0.vars, v0_1], v1] wa (Sc Ha wa (Value.int .i64 r)) := by
 unfold PF.spec_l9False at hp
 have S0 := St.init hs
 refine calls_go (N := 22) (args := [Value.agg #[Value.int .i64 a0.vars, v0_1], v1]) Tryz.func106 rfl rfl rfl ?_
 refine FW.seq (FW.region ?_)
 obtain ⟨b21, w22, run23, S24⟩ := S0.box (P := Tryz.prog) 28 [Value.int .i64 a0.vars, v0_1] (v := Value.agg #[Value.int .i64 a0.vars, v0_1]) rfl (ones_cons rfl (ones_cons p0_1.one ones_nil))
 refine FL.v (E.box rfl run23) ?_
 obtain ⟨H25, S26, i27, at28⟩ := S24.sealBox (i := 0) (l' := []) rfl rfl
 refine FL.v (E.assign (v := Value.int .i64 0) rfl) ?_
 refine FL.nil (FW.seq (FW.seq (FW.region ?_)))
 refine FL.v (E.assign (v := Value.int .i64 0) rfl) ?_
 refine FL.nil ?_
 obtain ⟨q29, hq, hp⟩ := bndR hp
 refine FW.block ?_
 refine FW.mono (FW.iter (S := Int) (X := Int) (fun (s29 : Int) f w => ∃ H : GH, St Ha wa H w [] ∧ Inc H25 H ∧ f 1 = v1 ∧ f 2 = Value.pointer (some ⟨b21, 0, none⟩) ∧ f 5 = Value.int .i64 s29) (fun q e f w => match q with | .go s29 => e = Exit.exit 0 ∧ (∃ H : GH, St Ha wa H w [] ∧ Inc H25 H) | .rt x => ((e = Exit.ret) ∧ (fun e f w => (e = Exit.normal ∨ e = Exit.ret) ∧ ∀ a, Fr (δ := []) 22 a f → ∃ v, (results Tryz.f106 a.tmps).run Tryz.prog w = .ok v w ∧ (Sc Ha wa (Value.int .i64 x)) (.returned v) w) e f w)) hq ⟨_, S26, (Inc.rfl _), rfl, rfl, rfl⟩ ?_) ?_
 ·
  clear hp hq
  rintro s29 f59 w58 ⟨H55, S56, i57, k60, k61, k62⟩ o80 hp
  refine FW.seq (FW.seq (FW.region ?_))
  refine FL.v (E.move k62) ?_
  refine FL.v (E.fieldAddr tf28_1 k61) ?_
  refine FL.v (E.load rfl (run_load1 Tryz.isAgg22 ((at28.mono i57).now S56.sl) rfl)) ?_
  refine FL.v (E.lenP te22 rfl p0_1) ?_
  refine FL.v (E.lss rfl rfl) ?_
  refine FL.nil ?_
  rcases ifB hp with ⟨c63, hp⟩ | ⟨c63, hp⟩
  ·
   refine FW.condT rfl c63 ?_
   refine FW.skip (FW.seq (FW.block (FW.seq (FW.region ?_))))
   refine FL.v (E.fieldAddr tf28_1 k61) ?_
   refine FL.v (E.load rfl (run_load1 Tryz.isAgg22 ((at28.mono i57).now S56.sl) rfl)) ?_
   refine FL.v (E.move k62) ?_
   obtain ⟨x70, hx71, hp⟩ := bnd hp
   obtain ⟨p64, cs65, pt66, l67, at68, rel69⟩ := p0_1.at hx71
   obtain ⟨v72, rfl, h73⟩ := eL_open rel69
   refine FL.v (E.indexAddr te22 rfl rfl pt66) ?_
   refine FL.v (E.load rfl (run_load0 Tryz.isAgg44 ((at68.mono (i27.tr i57)).now S56.sl) rfl)) ?_
   refine FL.v (E.move k60) ?_
   obtain ⟨r74, hr75, hp⟩ := bnd hp
   refine FL.call rfl rfl rfl (E.call Tryz.call137 (A2 rfl rfl)) (w_spec_l3Value S56.sl v72 x70 (h73.mono (i27.tr i57)) v1 a1 (p1.mono (i27.tr i57)) hr75) ?_
   rintro e w76 ⟨rfl, r77⟩
   refine ⟨_, rfl, ?_⟩
   have S78 := S56.call r77
   refine FL.v (E.lss rfl rfl) ?_
   refine FL.nil ?_
   rcases ifB hp with ⟨c79, hp⟩ | ⟨c79, hp⟩
   ·
    refine FW.condT rfl c79 ?_
    refine FW.seq (FW.region ?_)
    refine FL.v (E.move k62) ?_
    refine FL.v (E.assign (v := Value.int .i64 s29) rfl) ?_
    refine FL.nil ?_
    refine FW.ret ?_
    obtain rfl := Option.some.inj hp
    exact ⟨nofun, rfl, ⟨.inr rfl, res1 rfl rfl ⟨rfl, S78.back⟩⟩⟩
   ·
    refine FW.condF rfl c79 ?_
    refine FW.skip (FW.region ?_)
    refine FL.v (E.move k62) ?_
    refine FL.v (E.add rfl rfl) ?_
    refine FL.v (E.assign (v := Value.int .i64 (wr (s29 + 1))) rfl) ?_
    refine FL.nil ?_
    obtain rfl := Option.some.inj hp
    exact ⟨rfl, ⟨_, S78, i57, k60, k61, rfl⟩⟩
  ·
   refine FW.condF rfl c63 ?_
   refine FW.exit ?_
   obtain rfl := Option.some.inj hp
   exact ⟨nofun, rfl, ⟨_, S56, i57⟩⟩
 ·
  clear hq
  intro e f85 w84 hD
  rcases q29 with s29 | x29
  ·
   obtain ⟨rfl, hD⟩ := hD
   obtain ⟨H81, S82, i83⟩ := hD
   replace hp := el_go hp
   refine FW.seq (FW.region ?_)
   refine FL.v (E.assign (v := Value.int .i64 (-1)) rfl) ?_
   refine FL.nil ?_
   refine FW.ret ?_
   obtain rfl := Option.some.inj hp
   exact ⟨.inr rfl, res1 rfl rfl ⟨rfl, S82.back⟩⟩
  ·
   obtain ⟨he, hL⟩ := hD
   replace hp := el_rt hp
   obtain rfl := Option.some.inj hp
   subst he
   exact hL

@[reducible] def p_spec_l11Trail (Ha : GH) (wa : World) (r : ((List (Int × Int)) × Int)) : Ending → World → Prop :=
 fun e w' => ∃ H' : GH, ∃ v0 : Value, ∃ n0 : Nat, ∃ c0 : List Value, e = .returned (Value.tuple #[v0, Value.int .i64 r.2]) ∧ St Ha wa H' w' [.row 99 2 v0 n0 c0] ∧ Els (up wa.heap.size H') eI2 2 c0 r.1
theorem w_spec_l11Trail {Ha : GH} {wa : World} (hs : Sl Ha wa) (a0 : Cnf) (v0_1 : Value) (p0_1 : RSl Ha (eL eI 1) 1 v0_1 a0.clauses) (v1 : Value) (a1 : List (List Int)) (p1 : RSl Ha (eL eI 1) 1 v1 a1) (a2 : Int) {r : ((List (Int × Int)) × Int)} (hp : (PF.spec_l11Trail a0 a1 a2) = some r) :
  Calls Tryz.prog 71 #[Value.agg #[Value.int .i64 a0.vars, v0_1], v1, Value.int .i64 a2] wa (p_spec_l11Trail Ha wa r) := by
 unfold PF.spec_l11Trail at hp
 have S0 := St.init hs
 refine calls_go (N := 32) (args := [Value.agg #[Value.int .i64 a0.vars, v0_1], v1, Value.int .i64 a2]) Tryz.func71 rfl rfl rfl ?_
 refine FW.seq (FW.region ?_)
 obtain ⟨b21, w22, run23, S24⟩ := S0.box (P := Tryz.prog) 28 [Value.int .i64 a0.vars, v0_1] (v := Value.agg #[Value.int .i64 a0.vars, v0_1]) rfl (ones_cons rfl (ones_cons p0_1.one ones_nil))
 refine FL.v (E.box rfl run23) ?_
 obtain ⟨H25, S26, i27, at28⟩ := S24.sealBox (i := 0) (l' := []) rfl rfl
 refine FL.v (E.assign (v := Value.slice none 0 0) rfl) ?_
 refine FL.v (E.assign (v := Value.int .i64 0) rfl) ?_
 refine FL.nil (FW.seq ?_)
 obtain ⟨xs32, hc33, hp⟩ := bnd hp
 obtain ⟨r37, hr38, hp⟩ := bnd hp
 refine FW.drawB (Sl H25) (fun f w => ∃ H : GH, ∃ q56 : Addr, ∃ v58 : Value, St Ha wa H w [] ∧ Inc H25 H ∧ RSl H (eL eI 1) 1 v58 r37.clauses ∧ CAt H q56 [Value.int .i64 r37.vars, v58] ∧ f 1 = v1 ∧ f 2 = Value.int .i64 a2 ∧ f 8 = Value.pointer (some q56)) (by kernel_rfl) S26.sl ?_ ?_
 ·
  intro w29 r30
  have S31 := S26.call r30
  refine FB.t (i := 0) (bs 7 1) rfl (SP.nil S31.sl) rfl (fun w' hw' => (E.load rfl (run_loadA Tryz.isAgg28 Tryz.sizeOf28 (at28.now hw') rfl))) ?_
  refine FB.t (i := 1) (bs 7 3) rfl (SP.nil S31.sl) rfl (fun w' hw' => (E.move (v := v1) rfl)) ?_
  refine FB.t (i := 2) (bs 7 7) rfl (SP.nil S31.sl) rfl (fun w' hw' => (E.move (v := Value.int .i64 a2) rfl)) ?_
  obtain ⟨v34, run35, h36⟩ := p1.cut te22 hc33 (lo := none) (hi := some (Value.int .i64 a2)) (.inl ⟨rfl, rfl⟩) (.inr ⟨_, rfl⟩)
  refine FB.t (i := 3) (bs 7 15) rfl (SP.nil S31.sl) rfl (fun w' hw' => (E.slice te22 rfl rfl (congrArg some rfl) rfl (run35 _))) ?_
  refine FB.all2 (i := 4) (j := 5) (by kernel_rfl) ?_ ?_
  ·
   refine FC.call (l' := (bs 7 31)) rfl (by kernel_rfl) rfl rfl rfl (E.call Tryz.call72 (A2 rfl rfl)) (w_spec_l11With S31.sl a0 v0_1 (p0_1.mono i27) v34 xs32 (h36.mono i27) hr38) ?_
   rintro e w40 ⟨H39, v43, rfl, r42, h44⟩
   refine ⟨_, rfl, ?_⟩
   have S41 := S31.call r42
   refine ⟨(SP.nil (Sl.of_inc r42.inc S41.sl)), ?_⟩
   refine FB.all1 (i := 5) (by kernel_rfl) ?_
   ·
    obtain ⟨b45, w46, run47, S48⟩ := S41.alloc (P := Tryz.prog) 28 [Value.int .i64 0, Value.slice none 0 0] Tryz.zeroValue28 rfl (ones_cons rfl (ones_cons rfl ones_nil))
    refine FC.val (l' := (bs 7 63)) rfl (by kernel_rfl) rfl rfl rfl (E.alloc run47) ?_
    refine ⟨(SP.nil (Sl.of_inc r42.inc S48.sl)), ?_⟩
    refine FB.all1 (i := 6) (by kernel_rfl) ?_
    ·
     obtain ⟨w49, run50, S51⟩ := S48.store0 (P := Tryz.prog) (t := 28) (i := 0) (cs' := [Value.int .i64 r37.vars, v43]) (l' := [.box b45 28 [Value.int .i64 r37.vars, v43]]) (v := Value.agg #[Value.int .i64 r37.vars, v43]) (c := [Value.int .i64 r37.vars, v43]) rfl Tryz.sizeOf28 rfl rfl (ones_cons rfl (ones_cons h44.one ones_nil)) (Nat.le_of_ble_eq_true rfl) rfl rfl
     refine FC.act (l' := (bs 7 127)) rfl (by kernel_rfl) rfl rfl (E.store rfl rfl run50) ?_
     obtain ⟨H52, S53, i54, at55⟩ := S51.sealBox (i := 0) (l' := []) rfl rfl
     refine ⟨(SP.nil (Sl.of_inc (r42.inc.tr i54) S53.sl)), ?_⟩
     exact FB.done (by kernel_rfl) ⟨_, _, _, S53, (r42.inc.tr i54), (h44.mono i54), at55, rfl, rfl, rfl⟩
  ·
   obtain ⟨b45, w46, run47, S48⟩ := S31.alloc (P := Tryz.prog) 28 [Value.int .i64 0, Value.slice none 0 0] Tryz.zeroValue28 rfl (ones_cons rfl (ones_cons rfl ones_nil))
   refine FC.val (l' := (bs 7 47)) rfl (by kernel_rfl) rfl rfl rfl (E.alloc run47) ?_
   refine ⟨(SP.nil S48.sl), ?_⟩
   refine FB.all1 (i := 4) (by kernel_rfl) ?_
   ·
    refine FC.call (l' := (bs 7 63)) rfl (by kernel_rfl) rfl rfl rfl (E.call Tryz.call72 (A2 rfl rfl)) (w_spec_l11With S48.sl a0 v0_1 (p0_1.mono i27) v34 xs32 (h36.mono i27) hr38) ?_
    rintro e w40 ⟨H39, v43, rfl, r42, h44⟩
    refine ⟨_, rfl, ?_⟩
    have S41 := S48.call r42
    refine ⟨(SP.nil (Sl.of_inc r42.inc S41.sl)), ?_⟩
    refine FB.all1 (i := 6) (by kernel_rfl) ?_
    ·
     obtain ⟨w49, run50, S51⟩ := S41.store0 (P := Tryz.prog) (t := 28) (i := 0) (cs' := [Value.int .i64 r37.vars, v43]) (l' := [.box b45 28 [Value.int .i64 r37.vars, v43]]) (v := Value.agg #[Value.int .i64 r37.vars, v43]) (c := [Value.int .i64 r37.vars, v43]) rfl Tryz.sizeOf28 rfl rfl (ones_cons rfl (ones_cons h44.one ones_nil)) (Nat.le_of_ble_eq_true rfl) rfl rfl
     refine FC.act (l' := (bs 7 127)) rfl (by kernel_rfl) rfl rfl (E.store rfl rfl run50) ?_
     obtain ⟨H52, S53, i54, at55⟩ := S51.sealBox (i := 0) (l' := []) rfl rfl
     refine ⟨(SP.nil (Sl.of_inc (r42.inc.tr i54) S53.sl)), ?_⟩
     exact FB.done (by kernel_rfl) ⟨_, _, _, S53, (r42.inc.tr i54), (h44.mono i54), at55, rfl, rfl, rfl⟩
 ·
  rintro f64 w63 ⟨H60, q56, v58, S61, i62, h59, at57, k65, k66, k67⟩
  refine FW.seq ?_
  obtain ⟨x77, hx78, hp⟩ := bnd hp
  obtain ⟨r81, hr82, hp⟩ := bnd hp
  obtain ⟨r96, hr97, hp⟩ := bnd hp
  refine FW.drawB (Sl H60) (fun f w => ∃ H : GH, ∃ v112 : Value, ∃ n113 : Nat, ∃ cs114 : List Value, ∃ v116 : Value, ∃ n117 : Nat, ∃ cs118 : List Value, St Ha wa H w [.row 99 2 v112 n113 cs114, .row 3 1 v116 n117 cs118] ∧ Inc H60 H ∧ Els (up wa.heap.size H) eI2 2 cs114 r96.1 ∧ Els (up wa.heap.size H) eI 1 cs118 r96.2.1 ∧ f 8 = Value.pointer (some q56) ∧ f 9 = v112 ∧ f 10 = v116) (by kernel_rfl) S61.sl ?_ ?_
  ·
   intro w68 r69
   have S70 := S61.call r69
   refine FB.t (i := 0) (bs 14 1) rfl (SP.nil S70.sl) rfl (fun w' hw' => (E.load k67 (run_loadA Tryz.isAgg28 Tryz.sizeOf28 (at57.now hw') rfl))) ?_
   refine FB.t (i := 1) (bs 14 3) rfl (SP.nil S70.sl) rfl (fun w' hw' => (E.move k65)) ?_
   refine FB.t (i := 2) (bs 14 7) rfl (SP.nil S70.sl) rfl (fun w' hw' => (E.move k66)) ?_
   obtain ⟨p71, cs72, pt73, l74, at75, rel76⟩ := p1.at hx78
   obtain ⟨v79, rfl, h80⟩ := eL_open rel76
   refine FB.t (i := 3) (bs 14 15) rfl (SP.nil S70.sl) rfl (fun w' hw' => (E.indexAddr te22 rfl rfl pt73)) ?_
   refine FB.t (i := 4) (bs 14 31) rfl (SP.nil S70.sl) rfl (fun w' hw' => (E.load rfl (run_load0 Tryz.isAgg44 ((at75.mono (i27.tr i62)).now hw') rfl))) ?_
   refine FB.all1 (i := 5) (by kernel_rfl) ?_
   ·
    refine FC.call (l' := (bs 14 63)) rfl (by kernel_rfl) rfl rfl rfl (E.call Tryz.call105 (A1 rfl)) (w_spec_l11Deny S70.sl v79 x77 (h80.mono (i27.tr i62)) hr82) ?_
    rintro e w84 ⟨H83, v87, n88, cs89, rfl, r86, els90⟩
    refine ⟨_, rfl, ?_⟩
    have els90 := els90.mono (up_le S70.size)
    have S85 := S70.join (l' := [.row 3 1 v87 n88 cs89]) r86 rfl
    refine ⟨(SP.nil (Sl.of_inc r86.run.inc S85.sl)), ?_⟩
    refine FB.all1 (i := 6) (by kernel_rfl) ?_
    ·
     obtain ⟨H91, S92, i93, h94, nv95⟩ := S85.sealRowU (i := 0) (l' := []) rfl els90 (by decide) rfl
     refine FC.call (l' := (bs 14 127)) rfl (by kernel_rfl) rfl rfl rfl (E.call Tryz.call104 (A2 rfl rfl)) (w_spec_l3Steps S92.sl r37 v58 (h59.mono (r86.run.inc.tr i93)) v87 r81 (h94.mono upI) hr97) ?_
     rintro e w99 ⟨H98, v104, n105, cs106, v108, n109, cs110, rfl, r101, els107, els111⟩
     refine ⟨_, rfl, ?_⟩
     obtain ⟨H102, r101, hU103⟩ := St.lendX i93 S85.sl r101
     have els107 := els107.mono (hU103.tr (up_le S85.size))
     have els111 := els111.mono (hU103.tr (up_le S85.size))
     have S100 := S85.join (l' := [.row 99 2 v104 n105 cs106, .row 3 1 v108 n109 cs110, .row 3 1 v87 n88 cs89]) r101 rfl
     refine ⟨(SP.nil (Sl.of_inc (r86.run.inc.tr r101.run.inc) S100.sl)), ?_⟩
     refine FB.t (i := 7) (bs 14 255) rfl (SP.nil (Sl.of_inc (r86.run.inc.tr r101.run.inc) S100.sl)) rfl (fun w' hw' => (E.move (v := Value.tuple #[v104, v108, Value.bool r96.2.2]) rfl)) ?_
     refine FB.t (i := 8) (bs 14 511) rfl (SP.nil (Sl.of_inc (r86.run.inc.tr r101.run.inc) S100.sl)) rfl (fun w' hw' => (E.extract (i := 0) rfl rfl)) ?_
     refine FB.t (i := 9) (bs 14 1023) rfl (SP.nil (Sl.of_inc (r86.run.inc.tr r101.run.inc) S100.sl)) rfl (fun w' hw' => (E.extract (i := 1) rfl rfl)) ?_
     refine FB.t (i := 10) (bs 14 2047) rfl (SP.nil (Sl.of_inc (r86.run.inc.tr r101.run.inc) S100.sl)) rfl (fun w' hw' => (E.extract (i := 2) rfl rfl)) ?_
     refine FB.t (i := 11) (bs 14 4095) rfl (SP.nil (Sl.of_inc (r86.run.inc.tr r101.run.inc) S100.sl)) rfl (fun w' hw' => (E.assign (v := v104) rfl)) ?_
     refine FB.t (i := 12) (bs 14 8191) rfl (SP.nil (Sl.of_inc (r86.run.inc.tr r101.run.inc) S100.sl)) rfl (fun w' hw' => (E.assign (v := v108) rfl)) ?_
     refine FB.t (i := 13) (bs 14 16383) rfl (SP.nil (Sl.of_inc (r86.run.inc.tr r101.run.inc) S100.sl)) rfl (fun w' hw' => (E.assign (v := Value.bool r96.2.2) rfl)) ?_
     exact FB.done (by kernel_rfl) ⟨_, _, _, _, _, _, _, (S100.sel [0, 1] (by decide) rfl), (r86.run.inc.tr r101.run.inc), els107, els111, k67, rfl, rfl⟩
  ·
   rintro f124 w123 ⟨H120, v112, n113, cs114, v116, n117, cs118, S121, i122, els115, els119, k125, k126, k127⟩
   refine FW.seq (FW.region ?_)
   refine FL.v (E.move k126) ?_
   refine FL.v (E.load k125 (run_loadA Tryz.isAgg28 Tryz.sizeOf28 ((at57.mono i122).now S121.sl) rfl)) ?_
   refine FL.v (E.move k127) ?_
   obtain ⟨H128, S129, i130, h131, nv132⟩ := S121.sealRowU (i := 1) (l' := [.row 99 2 v112 n113 cs114]) rfl els119 (by decide) rfl
   obtain ⟨r133, hr134, hp⟩ := bnd hp
   refine FL.call rfl rfl rfl (E.call Tryz.call106 (A2 rfl rfl)) (w_spec_l9False S129.sl r37 v58 (h59.mono (i122.tr i130)) v116 r96.2.1 (h131.mono upI) hr134) ?_
   rintro e w135 ⟨rfl, r136⟩
   refine ⟨_, rfl, ?_⟩
   have r136 := Run.lend i130 S121.sl r136
   have S137 := S121.call r136
   refine FL.v (E.assign (v := v112) rfl) ?_
   refine FL.v (E.assign (v := Value.int .i64 r133) rfl) ?_
   refine FL.nil ?_
   refine FW.ret ?_
   obtain rfl := Option.some.inj hp
   exact ⟨.inr rfl, res2 rfl rfl rfl ⟨_, _, _, _, rfl, (S137.sel [0] (by decide) rfl), els115⟩⟩

@[reducible] def p_spec_l2Join (Ha : GH) (wa : World) (r : ((List Int) × Bool)) : Ending → World → Prop :=
 fun e w' => ∃ H' : GH, ∃ v0 : Value, ∃ n0 : Nat, ∃ c0 : List Value, e = .returned (Value.tuple #[v0, Value.bool r.2]) ∧ St Ha wa H' w' [.row 3 1 v0 n0 c0] ∧ Els (up wa.heap.size H') eI 1 c0 r.1
theorem w_spec_l2Join {Ha : GH} {wa : World} (hs : Sl Ha wa) (v0 : Value) (a0 : List Int) (p0 : RSl Ha eI 1 v0 a0) (v1 : Value) (a1 : List Int) (p1 : RSl Ha eI 1 v1 a1) {r : ((List Int) × Bool)} (hp : (PF.spec_l2Join a0 a1) = some r) :
  Calls Tryz.prog 108 #[v0, v1] wa (p_spec_l2Join Ha wa r) := by
 unfold PF.spec_l2Join at hp
 have S0 := St.init hs
 refine calls_go (N := 38) (args := [v0, v1]) Tryz.func108 rfl rfl rfl ?_
 refine FW.seq (FW.region ?_)
 refine FL.v (E.assign (v := Value.slice none 0 0) rfl) ?_
 refine FL.v (E.assign (v := Value.bool false) rfl) ?_
 refine FL.nil (FW.seq (FW.region ?_))
 refine FL.v (E.move (v := v0) rfl) ?_
 obtain ⟨r21, hr22, hp⟩ := bnd hp
 refine FL.call rfl rfl rfl (E.call Tryz.call64 (A1 rfl)) (w_spec_l1Own S0.sl v0 a0 p0 hr22) ?_
 rintro e w24 ⟨H23, v27, n28, cs29, rfl, r26, els30⟩
 refine ⟨_, rfl, ?_⟩
 have els30 := els30.mono (up_le S0.size)
 have S25 := S0.join (l' := [.row 3 1 v27 n28 cs29]) r26 rfl
 refine FL.v (E.assign (v := v27) rfl) ?_
 refine FL.nil (FW.seq (FW.seq (FW.region ?_)))
 refine FL.v (E.assign (v := Value.int .i64 0) rfl) ?_
 refine FL.nil ?_
 obtain ⟨q32, hq, hp⟩ := bndR hp
 refine FW.block ?_
 refine FW.mono (FW.forL (S := (List Int)) (X := ((List Int) × Bool)) (fun (i32 : Nat) (s32 : (List Int)) f w => ∃ H : GH, ∃ v107 : Value, ∃ n108 : Nat, ∃ cs109 : List Value, St Ha wa H w [.row 3 1 v107 n108 cs109] ∧ Inc H23 H ∧ Els (up wa.heap.size H) eI 1 cs109 s32 ∧ f 7 = Value.int .i64 ((i32 : Nat) : Int) ∧ f 1 = v1 ∧ f 6 = v107) (fun q e f w => match q with | .go s32 => e = Exit.exit 0 ∧ (∃ H : GH, ∃ v107 : Value, ∃ n108 : Nat, ∃ cs109 : List Value, St Ha wa H w [.row 3 1 v107 n108 cs109] ∧ Inc H23 H ∧ Els (up wa.heap.size H) eI 1 cs109 s32 ∧ f 6 = v107) | .rt x => ((e = Exit.ret) ∧ (fun e f w => (e = Exit.normal ∨ e = Exit.ret) ∧ ∀ a, Fr (δ := []) 38 a f → ∃ v, (results Tryz.f108 a.tmps).run Tryz.prog w = .ok v w ∧ (p_spec_l2Join Ha wa x) (.returned v) w) e f w)) hq ⟨_, _, _, _, S25, (Inc.rfl _), els30, rfl, rfl, rfl⟩ ?_ ?_) ?_
 ·
  clear hp hq
  rintro i32 y31 s32 f185 w184 ⟨H181, v107, n108, cs109, S182, i183, els110, k186, k187, k188⟩ hx32 o251 hp
  refine FW.seq (FW.seq (FW.region ?_))
  refine FL.v (E.move k186) ?_
  refine FL.v (E.move k187) ?_
  refine FL.v (E.lenP te44 rfl p1) ?_
  refine FL.v (E.lssT rfl rfl (lss_len hx32)) ?_
  refine FL.nil ?_
  refine FW.condT rfl rfl ?_
  refine FW.skip (FW.seq (FW.block (FW.seq (FW.seq (FW.region ?_)))))
  refine FL.v (E.move k188) ?_
  refine FL.v (E.move k187) ?_
  refine FL.v (E.move k186) ?_
  obtain ⟨p189, cs190, pt191, l192, at193, rel194⟩ := p1.at (ix_nat hx32)
  obtain rfl := eI_open rel194
  refine FL.v (E.indexAddr te44 rfl rfl pt191) ?_
  refine FL.v (E.load rfl (run_load0 Tryz.isAgg3 ((at193.mono (r26.run.inc.tr i183)).now S182.sl) rfl)) ?_
  refine FL.v (E.neg rfl) ?_
  obtain ⟨H195, S196, i197, h198, nv199⟩ := S182.sealRowU (i := 0) (l' := []) rfl els110 (by decide) rfl
  obtain ⟨r200, hr201, hp⟩ := bnd hp
  refine FL.call rfl rfl rfl (E.call Tryz.call73 (A2 rfl rfl)) (w_spec_l2Has S196.sl v107 s32 (h198.mono upI) (wr (-y31)) hr201) ?_
  rintro e w202 ⟨rfl, r203⟩
  refine ⟨_, rfl, ?_⟩
  have r203 := Run.lend i197 S182.sl r203
  have S204 := S182.call r203
  refine FL.nil ?_
  rcases ifB hp with ⟨c205, hp⟩ | ⟨c205, hp⟩
  ·
   refine FW.condT rfl c205 ?_
   refine FW.seq (FW.region ?_)
   obtain ⟨v206, w207, run208, S209⟩ := S204.buildSlice (P := Tryz.prog) te44 [] (parts := #[]) (cells := []) rfl szs_nil fc_nil ones_nil (Nat.le_of_ble_eq_true rfl)
   have els210 : Els (up wa.heap.size H181) eI 1 [] [] := Els.nil
   refine FL.v (E.buildSlice (B0) run208) ?_
   refine FL.v (E.assign (v := v206) rfl) ?_
   refine FL.v (E.assign (v := Value.bool false) rfl) ?_
   refine FL.nil ?_
   refine FW.ret ?_
   obtain rfl := Option.some.inj hp
   exact ⟨nofun, rfl, ⟨.inr rfl, res2 rfl rfl rfl ⟨_, _, _, _, rfl, (S209.sel [0] (by decide) rfl), els210⟩⟩⟩
  ·
   refine FW.condF rfl c205 ?_
   refine FW.skip (FW.seq (FW.region ?_))
   refine FL.v (E.move k188) ?_
   refine FL.v (E.move k187) ?_
   refine FL.v (E.move k186) ?_
   obtain ⟨p211, cs212, pt213, l214, at215, rel216⟩ := p1.at (ix_nat hx32)
   obtain rfl := eI_open rel216
   refine FL.v (E.indexAddr te44 rfl rfl pt213) ?_
   refine FL.v (E.load rfl (run_load0 Tryz.isAgg3 ((at215.mono (r26.run.inc.tr i183)).now S204.sl) rfl)) ?_
   obtain ⟨H217, S218, i219, h220, nv221⟩ := S204.sealRowU (i := 0) (l' := []) rfl els110 (by decide) rfl
   obtain ⟨r222, hr223, hp⟩ := bnd hp
   refine FL.call rfl rfl rfl (E.call Tryz.call73 (A2 rfl rfl)) (w_spec_l2Has S218.sl v107 s32 (h220.mono upI) y31 hr223) ?_
   rintro e w224 ⟨rfl, r225⟩
   refine ⟨_, rfl, ?_⟩
   have r225 := Run.lend i219 S204.sl r225
   have S226 := S204.call r225
   refine FL.v (E.not rfl) ?_
   refine FL.nil ?_
   rcases ifB hp with ⟨c227, hp⟩ | ⟨c227, hp⟩
   ·
    refine FW.condT rfl c227 ?_
    refine FW.region ?_
    refine FL.v (E.move k188) ?_
    refine FL.v (E.move k187) ?_
    refine FL.v (E.move k186) ?_
    obtain ⟨p228, cs229, pt230, l231, at232, rel233⟩ := p1.at (ix_nat hx32)
    obtain rfl := eI_open rel233
    refine FL.v (E.indexAddr te44 rfl rfl pt230) ?_
    refine FL.v (E.load rfl (run_load0 Tryz.isAgg3 ((at232.mono (r26.run.inc.tr i183)).now S226.sl) rfl)) ?_
    obtain ⟨H234, S235, i236, h237, nv238⟩ := S226.sealRowU (i := 0) (l' := []) rfl els110 (by decide) rfl
    obtain ⟨r239, hr240, hp⟩ := bnd hp
    refine FL.call rfl rfl rfl (E.call Tryz.call138 (A2 rfl rfl)) (w_spec_l2Put S235.sl v107 s32 (h237.mono upI) y31 hr240) ?_
    rintro e w242 ⟨H241, v247, n248, cs249, rfl, r244, els250⟩
    refine ⟨_, rfl, ?_⟩
    obtain ⟨H245, r244, hU246⟩ := St.lendX i236 S226.sl r244
    have els250 := els250.mono (hU246.tr (up_le S226.size))
    have S243 := S226.join (l' := [.row 3 1 v247 n248 cs249, .row 3 1 v107 n108 cs109]) r244 rfl
    refine FL.v (E.assign (v := v247) rfl) ?_
    refine FL.nil (FW.region ?_)
    refine FL.v (E.move k186) ?_
    refine FL.v (E.add rfl rfl) ?_
    refine FL.v (E.assign (v := Value.int .i64 (wr (((i32 : Nat) : Int) + 1))) rfl) ?_
    refine FL.nil ?_
    obtain rfl := Option.some.inj hp
    exact ⟨rfl, ⟨_, _, _, _, (S243.sel [0] (by decide) rfl), (i183.tr r244.run.inc), els250, (nat_succ rfl (lt_of_get hx32) (p1.mono ((r26.run.inc.tr i183).tr r244.run.inc)).le), k187, rfl⟩⟩
   ·
    refine FW.condF rfl c227 ?_
    refine FW.skip (FW.region ?_)
    refine FL.v (E.move k186) ?_
    refine FL.v (E.add rfl rfl) ?_
    refine FL.v (E.assign (v := Value.int .i64 (wr (((i32 : Nat) : Int) + 1))) rfl) ?_
    refine FL.nil ?_
    obtain rfl := Option.some.inj hp
    exact ⟨rfl, ⟨_, _, _, _, S226, i183, els110, (nat_succ rfl (lt_of_get hx32) (p1.mono (r26.run.inc.tr i183)).le), k187, k188⟩⟩
 ·
  clear hp hq
  rintro s32 f262 w261 ⟨H258, v107, n108, cs109, S259, i260, els110, k263, k264, k265⟩
  refine FW.seq (FW.seq (FW.region ?_))
  refine FL.v (E.move k263) ?_
  refine FL.v (E.move k264) ?_
  refine FL.v (E.lenP te44 rfl p1) ?_
  refine FL.v (E.lss rfl rfl) ?_
  refine FL.nil ?_
  refine FW.condF rfl dlt_len ?_
  refine FW.exit ?_
  exact ⟨nofun, rfl, ⟨_, _, _, _, S259, i260, els110, k265⟩⟩
 ·
  clear hq
  intro e f256 w255 hD
  rcases q32 with s32 | x32
  ·
   obtain ⟨rfl, hD⟩ := hD
   obtain ⟨H252, v107, n108, cs109, S253, i254, els110, k257⟩ := hD
   replace hp := el_go hp
   refine FW.seq (FW.region ?_)
   refine FL.v (E.move k257) ?_
   refine FL.v (E.assign (v := v107) rfl) ?_
   refine FL.v (E.assign (v := Value.bool true) rfl) ?_
   refine FL.nil ?_
   refine FW.ret ?_
   obtain rfl := Option.some.inj hp
   exact ⟨.inr rfl, res2 rfl rfl rfl ⟨_, _, _, _, rfl, S253, els110⟩⟩
  ·
   obtain ⟨he, hL⟩ := hD
   replace hp := el_rt hp
   obtain rfl := Option.some.inj hp
   subst he
   exact hL

@[reducible] def p_spec_l2Resolve (Ha : GH) (wa : World) (r : ((List Int) × Bool)) : Ending → World → Prop :=
 fun e w' => ∃ H' : GH, ∃ v0 : Value, ∃ n0 : Nat, ∃ c0 : List Value, e = .returned (Value.tuple #[v0, Value.bool r.2]) ∧ St Ha wa H' w' [.row 3 1 v0 n0 c0] ∧ Els (up wa.heap.size H') eI 1 c0 r.1
theorem w_spec_l2Resolve {Ha : GH} {wa : World} (hs : Sl Ha wa) (v0 : Value) (a0 : List Int) (p0 : RSl Ha eI 1 v0 a0) (v1 : Value) (a1 : List Int) (p1 : RSl Ha eI 1 v1 a1) (a2 : Int) {r : ((List Int) × Bool)} (hp : (PF.spec_l2Resolve a0 a1 a2) = some r) :
  Calls Tryz.prog 74 #[v0, v1, Value.int .i64 a2] wa (p_spec_l2Resolve Ha wa r) := by
 unfold PF.spec_l2Resolve at hp
 have S0 := St.init hs
 refine calls_go (N := 29) (args := [v0, v1, Value.int .i64 a2]) Tryz.func74 rfl rfl rfl ?_
 refine FW.seq (FW.region ?_)
 refine FL.v (E.assign (v := Value.slice none 0 0) rfl) ?_
 refine FL.v (E.assign (v := Value.bool false) rfl) ?_
 refine FL.nil (FW.seq (FW.seq (FW.region ?_)))
 refine FL.v (E.move (v := v0) rfl) ?_
 refine FL.v (E.move (v := Value.int .i64 a2) rfl) ?_
 obtain ⟨r21, hr22, hp⟩ := bnd hp
 refine FL.call rfl rfl rfl (E.call Tryz.call73 (A2 rfl rfl)) (w_spec_l2Has S0.sl v0 a0 p0 a2 hr22) ?_
 rintro e w23 ⟨rfl, r24⟩
 refine ⟨_, rfl, ?_⟩
 have S25 := S0.call r24
 refine FL.v (E.not rfl) ?_
 refine FL.v (E.move (v := Value.bool (!r21)) rfl) ?_
 obtain ⟨t31, hqt31, hp⟩ := bnd hp
 refine FL.cut 6 (fun f w => ∃ H : GH, St Ha wa H w [] ∧ Inc Ha H ∧ f 0 = v0 ∧ f 1 = v1 ∧ f 2 = Value.int .i64 a2 ∧ f 18 = Value.bool t31) ?_ ?_
 ·
  clear hp; have hp := hqt31; clear hqt31
  rcases ifB hp with ⟨c37, hp⟩ | ⟨c37, hp⟩
  ·
   refine FL.skip (wF_no rfl rfl rfl c37) rfl ?_
   refine FL.skip (wF_no rfl rfl rfl c37) rfl ?_
   refine FL.skip (wF_no rfl rfl rfl c37) rfl ?_
   refine FL.skip (wF_no rfl rfl rfl c37) rfl ?_
   refine FL.skip (wF_no rfl rfl rfl c37) rfl ?_
   obtain rfl := Option.some.inj hp
   refine FL.v (E.pickT rfl c37 rfl) ?_
   exact FL.nil ⟨rfl, _, S25, (Inc.rfl _), rfl, rfl, rfl, rfl⟩
  ·
   refine FL.val (wF_yes rfl rfl rfl c37) rfl rfl (E.move (v := v1) rfl) ?_
   refine FL.val (wF_yes rfl rfl rfl c37) rfl rfl (E.move (v := Value.int .i64 a2) rfl) ?_
   refine FL.val (wF_yes rfl rfl rfl c37) rfl rfl (E.neg rfl) ?_
   obtain ⟨r38, hr39, hp⟩ := bnd hp
   refine FL.call (wF_yes rfl rfl rfl c37) rfl rfl (E.call Tryz.call73 (A2 rfl rfl)) (w_spec_l2Has S25.sl v1 a1 p1 (wr (-a2)) hr39) ?_
   rintro e w40 ⟨rfl, r41⟩
   refine ⟨_, rfl, ?_⟩
   have S42 := S25.call r41
   refine FL.val (wF_yes rfl rfl rfl c37) rfl rfl (E.not rfl) ?_
   obtain rfl := Option.some.inj hp
   refine FL.v (E.pickF rfl c37 rfl) ?_
   exact FL.nil ⟨rfl, _, S42, (Inc.rfl _), rfl, rfl, rfl, rfl⟩
 rintro f36 w35 ⟨H32, S33, i34, k43, k44, k45, k46⟩
 refine FL.nil ?_
 rcases ifB hp with ⟨c47, hp⟩ | ⟨c47, hp⟩
 ·
  refine FW.condT k46 c47 ?_
  refine FW.seq (FW.region ?_)
  obtain ⟨v48, w49, run50, S51⟩ := S33.buildSlice (P := Tryz.prog) te44 [] (parts := #[]) (cells := []) rfl szs_nil fc_nil ones_nil (Nat.le_of_ble_eq_true rfl)
  have els52 : Els (up wa.heap.size H32) eI 1 [] [] := Els.nil
  refine FL.v (E.buildSlice (B0) run50) ?_
  refine FL.v (E.assign (v := v48) rfl) ?_
  refine FL.v (E.assign (v := Value.bool false) rfl) ?_
  refine FL.nil ?_
  refine FW.ret ?_
  obtain rfl := Option.some.inj hp
  exact ⟨.inr rfl, res2 rfl rfl rfl ⟨_, _, _, _, rfl, S51, els52⟩⟩
 ·
  refine FW.condF k46 c47 ?_
  refine FW.skip (FW.seq (FW.region ?_))
  refine FL.v (E.move k43) ?_
  refine FL.v (E.move k45) ?_
  obtain ⟨r53, hr54, hp⟩ := bnd hp
  refine FL.call rfl rfl rfl (E.call Tryz.call109 (A2 rfl rfl)) (w_spec_l2Without S33.sl v0 a0 (p0.mono i34) a2 hr54) ?_
  rintro e w56 ⟨H55, v59, n60, cs61, rfl, r58, els62⟩
  refine ⟨_, rfl, ?_⟩
  have els62 := els62.mono (up_le S33.size)
  have S57 := S33.join (l' := [.row 3 1 v59 n60 cs61]) r58 rfl
  refine FL.v (E.move k44) ?_
  refine FL.v (E.move k45) ?_
  obtain ⟨r63, hr64, hp⟩ := bnd hp
  refine FL.call rfl rfl rfl (E.call Tryz.call109 (A2 rfl rfl)) (w_spec_l2Without S57.sl v1 a1 (p1.mono (i34.tr r58.run.inc)) a2 hr64) ?_
  rintro e w66 ⟨H65, v69, n70, cs71, rfl, r68, els72⟩
  refine ⟨_, rfl, ?_⟩
  have els72 := els72.mono (up_le S57.size)
  have S67 := S57.join (l' := [.row 3 1 v69 n70 cs71, .row 3 1 v59 n60 cs61]) r68 rfl
  obtain ⟨H73, S74, i75, h76, nv77⟩ := S67.sealRowU (i := 1) (l' := [.row 3 1 v69 n70 cs71]) rfl (els62.mono (up_mono r68.run.inc)) (by decide) rfl
  obtain ⟨H78, S79, i80, h81, nv82⟩ := S74.sealRowU (i := 0) (l' := []) rfl (els72.mono (up_mono i75)) (by decide) rfl
  obtain ⟨r83, hr84, hp⟩ := bnd hp
  refine FL.call rfl rfl rfl (E.call Tryz.call108 (A2 rfl rfl)) (w_spec_l2Join S79.sl v59 r53 (h76.mono (upI.tr i80)) v69 r63 (h81.mono upI) hr84) ?_
  rintro e w86 ⟨H85, v91, n92, cs93, rfl, r88, els94⟩
  refine ⟨_, rfl, ?_⟩
  obtain ⟨H89, r88, hU90⟩ := St.lendX (i75.tr i80) S67.sl r88
  have els94 := els94.mono (hU90.tr (up_le S67.size))
  have S87 := S67.join (l' := [.row 3 1 v91 n92 cs93, .row 3 1 v69 n70 cs71, .row 3 1 v59 n60 cs61]) r88 rfl
  refine FL.v (E.extract (i := 0) rfl rfl) ?_
  refine FL.v (E.extract (i := 1) rfl rfl) ?_
  refine FL.v (E.assign (v := v91) rfl) ?_
  refine FL.v (E.assign (v := Value.bool r83.2) rfl) ?_
  refine FL.nil ?_
  refine FW.ret ?_
  obtain rfl := Option.some.inj hp
  exact ⟨.inr rfl, res2 rfl rfl rfl ⟨_, _, _, _, rfl, (S87.sel [0] (by decide) rfl), els94⟩⟩

@[reducible] def p_spec_l11Analyse (Ha : GH) (wa : World) (r : (Int × (List l11Use))) : Ending → World → Prop :=
  fun e w' => ∃ H' : GH, ∃ v1 : Value, ∃ n1 : Nat, ∃ c1 : List Value, e = .returned (Value.tuple #[Value.int .i64 r.1, v1]) ∧ St Ha wa H' w' [.row 105 3 v1 n1 c1] ∧ Els (up wa.heap.size H') el11Use 3 c1 r.2 ∧ (bl c1).Nodup
set_option maxHeartbeats 4000000 in
theorem w_spec_l11Analyse {Ha : GH} {wa : World} (hs : Sl Ha wa) (a0 : Cnf) (v0_1 : Value) (p0_1 : RSl Ha (eL eI 1) 1 v0_1 a0.clauses) (v1 : Value) (a1 : List (List Int)) (p1 : RSl Ha (eL eI 1) 1 v1 a1) (a2 : Int) {r : (Int × (List l11Use))} (hp : (PF.spec_l11Analyse a0 a1 a2) = some r) :
    Calls Tryz.prog 48 #[Value.agg #[Value.int .i64 a0.vars, v0_1], v1, Value.int .i64 a2] wa (p_spec_l11Analyse Ha wa r) := by
  unfold PF.spec_l11Analyse at hp
  have S0 := St.init hs
  refine calls_go (N := 91) (args := [Value.agg #[Value.int .i64 a0.vars, v0_1], v1, Value.int .i64 a2]) Tryz.func48 rfl rfl rfl ?_
  refine FW.seq (FW.region ?_)
  obtain ⟨b21, w22, run23, S24⟩ := S0.box (P := Tryz.prog) 28 [Value.int .i64 a0.vars, v0_1] (v := Value.agg #[Value.int .i64 a0.vars, v0_1]) rfl (ones_cons rfl (ones_cons p0_1.one ones_nil))
  refine FL.v (E.box rfl run23) ?_
  obtain ⟨H25, S26, i27, at28⟩ := S24.sealBox (i := 0) (l' := []) rfl rfl
  refine FL.v (E.assign (v := Value.int .i64 0) rfl) ?_
  refine FL.v (E.assign (v := Value.slice none 0 0) rfl) ?_
  refine FL.nil (FW.seq (FW.region ?_))
  refine FL.v (E.load rfl (run_loadA Tryz.isAgg28 Tryz.sizeOf28 (at28.now S26.sl) rfl)) ?_
  refine FL.v (E.move (v := v1) rfl) ?_
  refine FL.v (E.move (v := Value.int .i64 a2) rfl) ?_
  obtain ⟨r29, hr30, hp⟩ := bnd hp
  refine FL.call rfl rfl rfl (E.call Tryz.call71 (A3 rfl rfl rfl)) (w_spec_l11Trail S26.sl a0 v0_1 (p0_1.mono i27) v1 a1 (p1.mono i27) a2 hr30) ?_
  rintro e w32 ⟨H31, v35, n36, cs37, rfl, r34, els38⟩
  refine ⟨_, rfl, ?_⟩
  have els38 := els38.mono (up_le S26.size)
  have S33 := S26.join (l' := [.row 99 2 v35 n36 cs37]) r34 rfl
  refine FL.v (E.move (v := Value.tuple #[v35, Value.int .i64 r29.2]) rfl) ?_
  refine FL.v (E.extract (i := 0) rfl rfl) ?_
  refine FL.v (E.extract (i := 1) rfl rfl) ?_
  refine FL.v (E.assign (v := v35) rfl) ?_
  refine FL.v (E.assign (v := Value.int .i64 r29.2) rfl) ?_
  refine FL.nil (FW.seq ?_)
  obtain ⟨xs42, hc43, hp⟩ := bnd hp
  obtain ⟨r47, hr48, hp⟩ := bnd hp
  refine FW.drawB (Sl H31) (fun f w => ∃ H : GH, ∃ q66 : Addr, ∃ v68 : Value, St Ha wa H w [.row 99 2 v35 n36 cs37] ∧ Inc H31 H ∧ RSl H (eL eI 1) 1 v68 r47.clauses ∧ CAt H q66 [Value.int .i64 r47.vars, v68] ∧ f 8 = v35 ∧ f 9 = Value.int .i64 r29.2 ∧ f 10 = Value.pointer (some q66)) (by kernel_rfl) S33.sl ?_ ?_
  ·
    intro w39 r40
    have S41 := S33.call r40
    refine FB.t (i := 0) (bs 7 1) rfl (SP.nil S41.sl) rfl (fun w' hw' => (E.load rfl (run_loadA Tryz.isAgg28 Tryz.sizeOf28 ((at28.mono r34.run.inc).now hw') rfl))) ?_
    refine FB.t (i := 1) (bs 7 3) rfl (SP.nil S41.sl) rfl (fun w' hw' => (E.move (v := v1) rfl)) ?_
    refine FB.t (i := 2) (bs 7 7) rfl (SP.nil S41.sl) rfl (fun w' hw' => (E.move (v := Value.int .i64 a2) rfl)) ?_
    obtain ⟨v44, run45, h46⟩ := p1.cut te22 hc43 (lo := none) (hi := some (Value.int .i64 a2)) (.inl ⟨rfl, rfl⟩) (.inr ⟨_, rfl⟩)
    refine FB.t (i := 3) (bs 7 15) rfl (SP.nil S41.sl) rfl (fun w' hw' => (E.slice te22 rfl rfl (congrArg some rfl) rfl (run45 _))) ?_
    refine FB.all2 (i := 4) (j := 5) (by kernel_rfl) ?_ ?_
    ·
      refine FC.call (l' := (bs 7 31)) rfl (by kernel_rfl) rfl rfl rfl (E.call Tryz.call72 (A2 rfl rfl)) (w_spec_l11With S41.sl a0 v0_1 (p0_1.mono (i27.tr r34.run.inc)) v44 xs42 (h46.mono (i27.tr r34.run.inc)) hr48) ?_
      rintro e w50 ⟨H49, v53, rfl, r52, h54⟩
      refine ⟨_, rfl, ?_⟩
      have S51 := S41.call r52
      refine ⟨(SP.nil (Sl.of_inc r52.inc S51.sl)), ?_⟩
      refine FB.all1 (i := 5) (by kernel_rfl) ?_
      ·
        obtain ⟨b55, w56, run57, S58⟩ := S51.alloc (P := Tryz.prog) 28 [Value.int .i64 0, Value.slice none 0 0] Tryz.zeroValue28 rfl (ones_cons rfl (ones_cons rfl ones_nil))
        refine FC.val (l' := (bs 7 63)) rfl (by kernel_rfl) rfl rfl rfl (E.alloc run57) ?_
        refine ⟨(SP.nil (Sl.of_inc r52.inc S58.sl)), ?_⟩
        refine FB.all1 (i := 6) (by kernel_rfl) ?_
        ·
          obtain ⟨w59, run60, S61⟩ := S58.store0 (P := Tryz.prog) (t := 28) (i := 0) (cs' := [Value.int .i64 r47.vars, v53]) (l' := [.box b55 28 [Value.int .i64 r47.vars, v53], .row 99 2 v35 n36 cs37]) (v := Value.agg #[Value.int .i64 r47.vars, v53]) (c := [Value.int .i64 r47.vars, v53]) rfl Tryz.sizeOf28 rfl rfl (ones_cons rfl (ones_cons h54.one ones_nil)) (Nat.le_of_ble_eq_true rfl) rfl rfl
          refine FC.act (l' := (bs 7 127)) rfl (by kernel_rfl) rfl rfl (E.store rfl rfl run60) ?_
          obtain ⟨H62, S63, i64, at65⟩ := S61.sealBox (i := 0) (l' := [.row 99 2 v35 n36 cs37]) rfl rfl
          refine ⟨(SP.nil (Sl.of_inc (r52.inc.tr i64) S63.sl)), ?_⟩
          exact FB.done (by kernel_rfl) ⟨_, _, _, S63, (r52.inc.tr i64), (h54.mono i64), at65, rfl, rfl, rfl⟩
    ·
      obtain ⟨b55, w56, run57, S58⟩ := S41.alloc (P := Tryz.prog) 28 [Value.int .i64 0, Value.slice none 0 0] Tryz.zeroValue28 rfl (ones_cons rfl (ones_cons rfl ones_nil))
      refine FC.val (l' := (bs 7 47)) rfl (by kernel_rfl) rfl rfl rfl (E.alloc run57) ?_
      refine ⟨(SP.nil S58.sl), ?_⟩
      refine FB.all1 (i := 4) (by kernel_rfl) ?_
      ·
        refine FC.call (l' := (bs 7 63)) rfl (by kernel_rfl) rfl rfl rfl (E.call Tryz.call72 (A2 rfl rfl)) (w_spec_l11With S58.sl a0 v0_1 (p0_1.mono (i27.tr r34.run.inc)) v44 xs42 (h46.mono (i27.tr r34.run.inc)) hr48) ?_
        rintro e w50 ⟨H49, v53, rfl, r52, h54⟩
        refine ⟨_, rfl, ?_⟩
        have S51 := S58.call r52
        refine ⟨(SP.nil (Sl.of_inc r52.inc S51.sl)), ?_⟩
        refine FB.all1 (i := 6) (by kernel_rfl) ?_
        ·
          obtain ⟨w59, run60, S61⟩ := S51.store0 (P := Tryz.prog) (t := 28) (i := 0) (cs' := [Value.int .i64 r47.vars, v53]) (l' := [.box b55 28 [Value.int .i64 r47.vars, v53], .row 99 2 v35 n36 cs37]) (v := Value.agg #[Value.int .i64 r47.vars, v53]) (c := [Value.int .i64 r47.vars, v53]) rfl Tryz.sizeOf28 rfl rfl (ones_cons rfl (ones_cons h54.one ones_nil)) (Nat.le_of_ble_eq_true rfl) rfl rfl
          refine FC.act (l' := (bs 7 127)) rfl (by kernel_rfl) rfl rfl (E.store rfl rfl run60) ?_
          obtain ⟨H62, S63, i64, at65⟩ := S61.sealBox (i := 0) (l' := [.row 99 2 v35 n36 cs37]) rfl rfl
          refine ⟨(SP.nil (Sl.of_inc (r52.inc.tr i64) S63.sl)), ?_⟩
          exact FB.done (by kernel_rfl) ⟨_, _, _, S63, (r52.inc.tr i64), (h54.mono i64), at65, rfl, rfl, rfl⟩
  ·
    rintro f75 w74 ⟨H71, q66, v68, S72, i73, h70, at67, k76, k77, k78⟩
    refine FW.seq (FW.region ?_)
    refine FL.v (E.fieldAddr tf28_1 k78) ?_
    refine FL.v (E.load rfl (run_load1 Tryz.isAgg22 (at67.now S72.sl) rfl)) ?_
    refine FL.v (E.move k77) ?_
    obtain ⟨x85, hx86, hp⟩ := bnd hp
    obtain ⟨p79, cs80, pt81, l82, at83, rel84⟩ := h70.at hx86
    obtain ⟨v87, rfl, h88⟩ := eL_open rel84
    refine FL.v (E.indexAddr te22 rfl rfl pt81) ?_
    refine FL.v (E.load rfl (run_load0 Tryz.isAgg44 (at83.now S72.sl) rfl)) ?_
    obtain ⟨v89, w90, run91, S92⟩ := S72.buildSlice (P := Tryz.prog) te69 [] (parts := #[]) (cells := []) rfl szs_nil fc_nil ones_nil (Nat.le_of_ble_eq_true rfl)
    have els93 : Els (up wa.heap.size H71) el11Use 3 [] [] := Els.nil
    refine FL.v (E.buildSlice (B0) run91) ?_
    refine FL.v (E.assign (v := v87) rfl) ?_
    refine FL.v (E.assign (v := v89) rfl) ?_
    refine FL.nil (FW.seq (FW.seq (FW.region ?_)))
    refine FL.v (E.move k76) ?_
    refine FL.v (E.lenO te95 rfl S92 (i := 1) rfl els38 (by decide)) ?_
    refine FL.v (E.sub rfl rfl) ?_
    refine FL.v (E.assign (v := Value.int .i64 (wr ((len r29.1) - 1))) rfl) ?_
    refine FL.nil ?_
    obtain ⟨q94, hq, hp⟩ := bndR hp
    refine FW.block ?_
    refine FW.mono (FW.iter (S := ((List l11Use) × (List Int) × Int)) (X := Empty) (fun (s94 : ((List l11Use) × (List Int) × Int)) f w => ∃ H : GH, ∃ v96 : Value, ∃ n97 : Nat, ∃ cs98 : List Value, ∃ v101 : Value, St Ha wa H w [.row 105 3 v96 n97 cs98, .row 99 2 v35 n36 cs37] ∧ Inc H71 H ∧ Els (up wa.heap.size H) el11Use 3 cs98 s94.1 ∧ RSl H eI 1 v101 s94.2.1 ∧ (bl cs98).Nodup ∧ f 8 = v35 ∧ f 9 = Value.int .i64 r29.2 ∧ f 10 = Value.pointer (some q66) ∧ f 11 = v101 ∧ f 12 = v96 ∧ f 13 = Value.int .i64 s94.2.2) (fun (q : Rs ((List l11Use) × (List Int) × Int) Empty) e f w => match q with | .go s94 => e = Exit.exit 0 ∧ (∃ H : GH, ∃ v96 : Value, ∃ n97 : Nat, ∃ cs98 : List Value, ∃ v101 : Value, St Ha wa H w [.row 105 3 v96 n97 cs98, .row 99 2 v35 n36 cs37] ∧ Inc H71 H ∧ Els (up wa.heap.size H) el11Use 3 cs98 s94.1 ∧ RSl H eI 1 v101 s94.2.1 ∧ (bl cs98).Nodup ∧ f 9 = Value.int .i64 r29.2 ∧ f 12 = v96) | .rt x => x.elim) hq ⟨_, _, _, _, _, S92, (Inc.rfl _), els93, h88, (show (bl []).Nodup from List.nodup_nil), k76, k77, k78, rfl, rfl, rfl⟩ ?_) ?_
    ·
      clear hp hq
      rintro s94 f107 w106 ⟨H103, v96, n97, cs98, v101, S104, i105, els99, h102, nd100, k108, k109, k110, k111, k112, k113⟩ o233 hp
      refine FW.seq (FW.seq (FW.region ?_))
      refine FL.v (E.move k113) ?_
      refine FL.v (E.geq rfl rfl) ?_
      refine FL.nil ?_
      rcases ifB hp with ⟨c114, hp⟩ | ⟨c114, hp⟩
      ·
        refine FW.condT rfl c114 ?_
        refine FW.skip (FW.seq (FW.block (FW.seq ?_)))
        refine FW.draw (fun w' => Run w106.heap.size H103 w106 H103 w') (by kernel_rfl) (by kernel_rfl) (run_drew S104.sl) ?_
        refine FD.val rfl rfl rfl (fun w' hw' => (E.move k108)) ?_
        refine FD.val rfl rfl rfl (fun w' hw' => (E.move k113)) ?_
        obtain ⟨x121, hx122, hp⟩ := bnd hp
        obtain ⟨p115, cs116, pt117, l118, at119, rel120⟩ := S104.row_at (i := 1) rfl els38 (by decide) hx122
        obtain rfl := eI2_open rel120
        refine FD.val rfl rfl rfl (fun w' hw' => (E.indexAddr te95 rfl rfl pt117)) ?_
        refine FD.val rfl rfl rfl (fun w' hw' => (E.indexArr (j := 0) (k := 1) (off := 0) Tryz.runUnderlying99 Tryz.sizeOf3 rfl rfl (by decide) rfl)) ?_
        refine FD.val rfl rfl rfl (fun w' hw' => (E.load rfl (run_load1 Tryz.isAgg3 (at119.cls hw') rfl))) ?_
        refine FD.val rfl rfl rfl (fun w' hw' => (E.move k108)) ?_
        refine FD.val rfl rfl rfl (fun w' hw' => (E.move k113)) ?_
        obtain ⟨x129, hx130, hp⟩ := bnd hp
        obtain ⟨p123, cs124, pt125, l126, at127, rel128⟩ := S104.row_at (i := 1) rfl els38 (by decide) hx130
        obtain rfl := eI2_open rel128
        refine FD.val rfl rfl rfl (fun w' hw' => (E.indexAddr te95 rfl rfl pt125)) ?_
        refine FD.val rfl rfl rfl (fun w' hw' => (E.indexArr (j := 1) (k := 1) (off := 1) Tryz.runUnderlying99 Tryz.sizeOf3 rfl rfl (by decide) rfl)) ?_
        refine FD.val rfl rfl rfl (fun w' hw' => (E.load rfl (run_load1 Tryz.isAgg3 (at127.cls hw') rfl))) ?_
        refine FD.val rfl rfl rfl (fun w' hw' => (E.assign (v := Value.int .i64 x121.1) rfl)) ?_
        refine FD.val rfl rfl rfl (fun w' hw' => (E.assign (v := Value.int .i64 x129.2) rfl)) ?_
        refine FD.nil ?_
        intro w131 r133
        have S132 := S104.call r133
        refine FW.seq (FW.seq (FW.region ?_))
        refine FL.v (E.move k111) ?_
        refine FL.v (E.move (v := Value.int .i64 x121.1) rfl) ?_
        refine FL.v (E.neg rfl) ?_
        obtain ⟨r134, hr135, hp⟩ := bnd hp
        refine FL.call rfl rfl rfl (E.call Tryz.call73 (A2 rfl rfl)) (w_spec_l2Has S132.sl v101 s94.2.1 h102 (wr (-x121.1)) hr135) ?_
        rintro e w136 ⟨rfl, r137⟩
        refine ⟨_, rfl, ?_⟩
        have S138 := S132.call r137
        refine FL.v (E.not rfl) ?_
        refine FL.nil ?_
        rcases ifB hp with ⟨c139, hp⟩ | ⟨c139, hp⟩
        ·
          refine FW.condT rfl c139 ?_
          refine FW.exit ?_
          refine FW.region ?_
          refine FL.v (E.move k113) ?_
          refine FL.v (E.sub rfl rfl) ?_
          refine FL.v (E.assign (v := Value.int .i64 (wr (s94.2.2 - 1))) rfl) ?_
          refine FL.nil ?_
          obtain rfl := Option.some.inj hp
          exact ⟨rfl, ⟨_, _, _, _, _, S138, i105, els99, h102, nd100, k108, k109, k110, k111, k112, rfl⟩⟩
        ·
          refine FW.condF rfl c139 ?_
          refine FW.skip (FW.seq (FW.seq (FW.region ?_)))
          refine FL.v (E.move (v := Value.int .i64 x121.1) rfl) ?_
          refine FL.v (E.lss rfl rfl) ?_
          refine FL.nil ?_
          rcases ifB hp with ⟨c140, hp⟩ | ⟨c140, hp⟩
          ·
            refine FW.condT rfl c140 ?_
            refine FW.region ?_
            refine FL.v (E.move k111) ?_
            refine FL.v (E.fieldAddr tf28_1 k110) ?_
            refine FL.v (E.load rfl (run_load1 Tryz.isAgg22 ((at67.mono i105).now S138.sl) rfl)) ?_
            refine FL.v (E.move (v := Value.int .i64 x129.2) rfl) ?_
            obtain ⟨x147, hx148, hp⟩ := bnd hp
            obtain ⟨p141, cs142, pt143, l144, at145, rel146⟩ := h70.at hx148
            obtain ⟨v149, rfl, h150⟩ := eL_open rel146
            refine FL.v (E.indexAddr te22 rfl rfl pt143) ?_
            refine FL.v (E.load rfl (run_load0 Tryz.isAgg44 ((at145.mono i105).now S138.sl) rfl)) ?_
            refine FL.v (E.move (v := Value.int .i64 x121.1) rfl) ?_
            refine FL.v (E.neg rfl) ?_
            obtain ⟨r151, hr152, hp⟩ := bnd hp
            refine FL.call rfl rfl rfl (E.call Tryz.call74 (A3 rfl rfl rfl)) (w_spec_l2Resolve S138.sl v101 s94.2.1 h102 v149 x147 (h150.mono i105) (wr (-x121.1)) hr152) ?_
            rintro e w154 ⟨H153, v157, n158, cs159, rfl, r156, els160⟩
            refine ⟨_, rfl, ?_⟩
            have els160 := els160.mono (up_le S138.size)
            have S155 := S138.join (l' := [.row 3 1 v157 n158 cs159, .row 105 3 v96 n97 cs98, .row 99 2 v35 n36 cs37]) r156 rfl
            refine FL.v (E.move (v := Value.tuple #[v157, Value.bool r151.2]) rfl) ?_
            refine FL.v (E.extract (i := 0) rfl rfl) ?_
            refine FL.v (E.extract (i := 1) rfl rfl) ?_
            refine FL.v (E.assign (v := v157) rfl) ?_
            refine FL.nil (FW.region ?_)
            refine FL.v (E.move k112) ?_
            refine FL.v (E.move (v := Value.int .i64 x129.2) rfl) ?_
            refine FL.v (E.move (v := Value.int .i64 x121.1) rfl) ?_
            refine FL.call rfl rfl rfl (E.call Tryz.call75 (A1 rfl)) (w_spec_l2Var S155.sl x121.1) ?_
            rintro e w161 ⟨rfl, r162⟩
            refine ⟨_, rfl, ?_⟩
            have S163 := S155.call r162
            refine FL.v (E.move (v := v157) rfl) ?_
            refine FL.v (E.build (B3 rfl rfl rfl) (run_build _ 105 #[(0, Value.int .i64 x129.2), (1, Value.int .i64 (PF.spec_l2Var x121.1)), (2, v157)] #[Value.int .i64 x129.2, Value.int .i64 (PF.spec_l2Var x121.1), v157] (by obtain ⟨_, _, rfl⟩ := S163.row_ln (i := 0) rfl; rfl))) ?_
            obtain ⟨H164, S165, i166, h167, nv168⟩ := S163.sealRowU (i := 0) (l' := [.row 105 3 v96 n97 cs98, .row 99 2 v35 n36 cs37]) rfl els160 (by decide) rfl
            obtain ⟨v169, w170, run171, S172⟩ := S165.buildSlice (P := Tryz.prog) te69 [Value.agg #[Value.int .i64 x129.2, Value.int .i64 (PF.spec_l2Var x121.1), v157]] (parts := #[(0, Value.agg #[Value.int .i64 x129.2, Value.int .i64 (PF.spec_l2Var x121.1), v157])]) (cells := [Value.int .i64 x129.2, Value.int .i64 (PF.spec_l2Var x121.1), v157]) rfl (szs_cons rfl szs_nil) (fc_cons rfl fc_nil) (ones_cons rfl (ones_cons rfl (ones_cons h167.one ones_nil))) (Nat.le_of_ble_eq_true rfl)
            have els173 : Els (up wa.heap.size H164) el11Use 3 [Value.int .i64 x129.2, Value.int .i64 (PF.spec_l2Var x121.1), v157] [(l11Use.mk x129.2 (PF.spec_l2Var x121.1) r151.1)] := (Els.snoc (H := (up wa.heap.size H164)) (E := el11Use) (k := 3) (c := [Value.int .i64 x129.2, Value.int .i64 (PF.spec_l2Var x121.1), v157]) (x := (l11Use.mk x129.2 (PF.spec_l2Var x121.1) r151.1)) Els.nil rfl ⟨_, rfl, h167⟩)
            have nd174 : (bl [Value.int .i64 x129.2, Value.int .i64 (PF.spec_l2Var x121.1), v157]).Nodup := by exact nd_one v157
            refine FL.v (E.buildSlice (B1 rfl) run171) ?_
            obtain ⟨xs175, hz176, hp⟩ := bnd hp
            obtain ⟨v177, w180, n178, cs179, run181, S182, els183, ce184⟩ := S172.appendO (P := Tryz.prog) te69 (i := 1) (j := 0) rfl (els99.mono (up_mono (r156.run.inc.tr i166))) rfl els173 hz176
            have S182 : St Ha wa H164 w180 [.row 105 3 v169 1 [Value.int .i64 x129.2, Value.int .i64 (PF.spec_l2Var x121.1), v157], .row 105 3 v177 n178 cs179, .row 99 2 v35 n36 cs37] := S182
            have nd185 : (bl cs179).Nodup := by rw [ce184]; exact nd_app nd100 nd174 (Els.dom (els99.mono (upI.tr r156.run.inc))) (by exact nv168)
            have S186 : St Ha wa H164 w180 [.row 105 3 v177 n178 cs179, .row 99 2 v35 n36 cs37] := S182.drop 0
            refine FL.v (E.append rfl rfl run181) ?_
            refine FL.v (E.assign (v := v177) rfl) ?_
            refine FL.nil (FW.region ?_)
            refine FL.v (E.move k113) ?_
            refine FL.v (E.sub rfl rfl) ?_
            refine FL.v (E.assign (v := Value.int .i64 (wr (s94.2.2 - 1))) rfl) ?_
            refine FL.nil ?_
            obtain rfl := Option.some.inj hp
            exact ⟨rfl, ⟨_, _, _, _, _, S186, ((i105.tr r156.run.inc).tr i166), els183, (h167.mono upI), nd185, k108, k109, k110, rfl, rfl, rfl⟩⟩
          ·
            refine FW.condF rfl c140 ?_
            refine FW.region ?_
            refine FL.v (E.fieldAddr tf28_1 k110) ?_
            refine FL.v (E.load rfl (run_load1 Tryz.isAgg22 ((at67.mono i105).now S138.sl) rfl)) ?_
            refine FL.v (E.move (v := Value.int .i64 x129.2) rfl) ?_
            obtain ⟨x193, hx194, hp⟩ := bnd hp
            obtain ⟨p187, cs188, pt189, l190, at191, rel192⟩ := h70.at hx194
            obtain ⟨v195, rfl, h196⟩ := eL_open rel192
            refine FL.v (E.indexAddr te22 rfl rfl pt189) ?_
            refine FL.v (E.load rfl (run_load0 Tryz.isAgg44 ((at191.mono i105).now S138.sl) rfl)) ?_
            refine FL.v (E.move k111) ?_
            refine FL.v (E.move (v := Value.int .i64 x121.1) rfl) ?_
            obtain ⟨r197, hr198, hp⟩ := bnd hp
            refine FL.call rfl rfl rfl (E.call Tryz.call74 (A3 rfl rfl rfl)) (w_spec_l2Resolve S138.sl v195 x193 (h196.mono i105) v101 s94.2.1 h102 x121.1 hr198) ?_
            rintro e w200 ⟨H199, v203, n204, cs205, rfl, r202, els206⟩
            refine ⟨_, rfl, ?_⟩
            have els206 := els206.mono (up_le S138.size)
            have S201 := S138.join (l' := [.row 3 1 v203 n204 cs205, .row 105 3 v96 n97 cs98, .row 99 2 v35 n36 cs37]) r202 rfl
            refine FL.v (E.move (v := Value.tuple #[v203, Value.bool r197.2]) rfl) ?_
            refine FL.v (E.extract (i := 0) rfl rfl) ?_
            refine FL.v (E.extract (i := 1) rfl rfl) ?_
            refine FL.v (E.assign (v := v203) rfl) ?_
            refine FL.nil (FW.region ?_)
            refine FL.v (E.move k112) ?_
            refine FL.v (E.move (v := Value.int .i64 x129.2) rfl) ?_
            refine FL.v (E.move (v := Value.int .i64 x121.1) rfl) ?_
            refine FL.call rfl rfl rfl (E.call Tryz.call75 (A1 rfl)) (w_spec_l2Var S201.sl x121.1) ?_
            rintro e w207 ⟨rfl, r208⟩
            refine ⟨_, rfl, ?_⟩
            have S209 := S201.call r208
            refine FL.v (E.move (v := v203) rfl) ?_
            refine FL.v (E.build (B3 rfl rfl rfl) (run_build _ 105 #[(0, Value.int .i64 x129.2), (1, Value.int .i64 (PF.spec_l2Var x121.1)), (2, v203)] #[Value.int .i64 x129.2, Value.int .i64 (PF.spec_l2Var x121.1), v203] (by obtain ⟨_, _, rfl⟩ := S209.row_ln (i := 0) rfl; rfl))) ?_
            obtain ⟨H210, S211, i212, h213, nv214⟩ := S209.sealRowU (i := 0) (l' := [.row 105 3 v96 n97 cs98, .row 99 2 v35 n36 cs37]) rfl els206 (by decide) rfl
            obtain ⟨v215, w216, run217, S218⟩ := S211.buildSlice (P := Tryz.prog) te69 [Value.agg #[Value.int .i64 x129.2, Value.int .i64 (PF.spec_l2Var x121.1), v203]] (parts := #[(0, Value.agg #[Value.int .i64 x129.2, Value.int .i64 (PF.spec_l2Var x121.1), v203])]) (cells := [Value.int .i64 x129.2, Value.int .i64 (PF.spec_l2Var x121.1), v203]) rfl (szs_cons rfl szs_nil) (fc_cons rfl fc_nil) (ones_cons rfl (ones_cons rfl (ones_cons h213.one ones_nil))) (Nat.le_of_ble_eq_true rfl)
            have els219 : Els (up wa.heap.size H210) el11Use 3 [Value.int .i64 x129.2, Value.int .i64 (PF.spec_l2Var x121.1), v203] [(l11Use.mk x129.2 (PF.spec_l2Var x121.1) r197.1)] := (Els.snoc (H := (up wa.heap.size H210)) (E := el11Use) (k := 3) (c := [Value.int .i64 x129.2, Value.int .i64 (PF.spec_l2Var x121.1), v203]) (x := (l11Use.mk x129.2 (PF.spec_l2Var x121.1) r197.1)) Els.nil rfl ⟨_, rfl, h213⟩)
            have nd220 : (bl [Value.int .i64 x129.2, Value.int .i64 (PF.spec_l2Var x121.1), v203]).Nodup := by exact nd_one v203
            refine FL.v (E.buildSlice (B1 rfl) run217) ?_
            obtain ⟨xs221, hz222, hp⟩ := bnd hp
            obtain ⟨v223, w226, n224, cs225, run227, S228, els229, ce230⟩ := S218.appendO (P := Tryz.prog) te69 (i := 1) (j := 0) rfl (els99.mono (up_mono (r202.run.inc.tr i212))) rfl els219 hz222
            have S228 : St Ha wa H210 w226 [.row 105 3 v215 1 [Value.int .i64 x129.2, Value.int .i64 (PF.spec_l2Var x121.1), v203], .row 105 3 v223 n224 cs225, .row 99 2 v35 n36 cs37] := S228
            have nd231 : (bl cs225).Nodup := by rw [ce230]; exact nd_app nd100 nd220 (Els.dom (els99.mono (upI.tr r202.run.inc))) (by exact nv214)
            have S232 : St Ha wa H210 w226 [.row 105 3 v223 n224 cs225, .row 99 2 v35 n36 cs37] := S228.drop 0
            refine FL.v (E.append rfl rfl run227) ?_
            refine FL.v (E.assign (v := v223) rfl) ?_
            refine FL.nil (FW.region ?_)
            refine FL.v (E.move k113) ?_
            refine FL.v (E.sub rfl rfl) ?_
            refine FL.v (E.assign (v := Value.int .i64 (wr (s94.2.2 - 1))) rfl) ?_
            refine FL.nil ?_
            obtain rfl := Option.some.inj hp
            exact ⟨rfl, ⟨_, _, _, _, _, S232, ((i105.tr r202.run.inc).tr i212), els229, (h213.mono upI), nd231, k108, k109, k110, rfl, rfl, rfl⟩⟩
      ·
        refine FW.condF rfl c114 ?_
        refine FW.exit ?_
        obtain rfl := Option.some.inj hp
        exact ⟨nofun, rfl, ⟨_, _, _, _, _, S104, i105, els99, h102, nd100, k109, k112⟩⟩
    ·
      clear hq
      intro e f238 w237 hD
      rcases q94 with s94 | x94
      ·
        obtain ⟨rfl, hD⟩ := hD
        obtain ⟨H234, v96, n97, cs98, v101, S235, i236, els99, h102, nd100, k239, k240⟩ := hD
        replace hp := el_go hp
        refine FW.seq (FW.region ?_)
        refine FL.v (E.move k239) ?_
        refine FL.v (E.move k240) ?_
        refine FL.v (E.assign (v := Value.int .i64 r29.2) rfl) ?_
        refine FL.v (E.assign (v := v96) rfl) ?_
        refine FL.nil ?_
        refine FW.ret ?_
        obtain rfl := Option.some.inj hp
        exact ⟨.inr rfl, res2 rfl rfl rfl ⟨_, _, _, _, rfl, (S235.sel [0] (by decide) rfl), els99, nd100⟩⟩
      · exact x94.elim

@[reducible] def p_spec_l1Put (Ha : GH) (wa : World) (r : (List Int)) : Ending → World → Prop :=
  fun e w' => ∃ H' : GH, ∃ v0 : Value, e = .returned (v0) ∧ Run wa.heap.size Ha wa H' w' ∧ RSl H' eI 1 v0 r
set_option maxHeartbeats 4000000 in
theorem w_spec_l1Put {Ha : GH} {wa : World} (hs : Sl Ha wa) (v0 : Value) (a0 : List Int) (p0 : RSl Ha eI 1 v0 a0) (a1 : Int) {r : (List Int)} (hp : (PF.spec_l1Put a0 a1) = some r) :
    Calls Tryz.prog 76 #[v0, Value.int .i64 a1] wa (p_spec_l1Put Ha wa r) := by
  unfold PF.spec_l1Put at hp
  have S0 := St.init hs
  refine calls_go (N := 45) (args := [v0, Value.int .i64 a1]) Tryz.func76 rfl rfl rfl ?_
  refine FW.seq (FW.region ?_)
  refine FL.v (E.assign (v := Value.slice none 0 0) rfl) ?_
  refine FL.nil (FW.seq (FW.region ?_))
  refine FL.v (E.assign (v := Value.int .i64 0) rfl) ?_
  refine FL.nil (FW.seq ?_)
  obtain ⟨q21, hq, hp⟩ := bndR hp
  refine FW.block ?_
  refine FW.mono (FW.iter (S := Int) (X := Empty) (fun (s21 : Int) f w => ∃ H : GH, St Ha wa H w [] ∧ Inc Ha H ∧ f 0 = v0 ∧ f 1 = Value.int .i64 a1 ∧ f 5 = Value.int .i64 s21) (fun (q : Rs Int Empty) e f w => match q with | .go s21 => e = Exit.exit 0 ∧ (∃ H : GH, St Ha wa H w [] ∧ Inc Ha H ∧ f 0 = v0 ∧ f 1 = Value.int .i64 a1 ∧ f 5 = Value.int .i64 s21) | .rt x => x.elim) hq ⟨_, S0, (Inc.rfl _), rfl, rfl, rfl⟩ ?_) ?_
  ·
    clear hp hq
    rintro s21 f62 w61 ⟨H58, S59, i60, k63, k64, k65⟩ o94 hp
    refine FW.seq (FW.seq (FW.region ?_))
    refine FL.v (E.move k65) ?_
    refine FL.v (E.move k63) ?_
    refine FL.v (E.lenP te44 rfl p0) ?_
    refine FL.v (E.lss rfl rfl) ?_
    refine FL.v (E.move (v := Value.bool (decide (s21 < (len a0)))) rfl) ?_
    obtain ⟨t74, hqt74, hp⟩ := bnd hp
    refine FL.cut 7 (fun f w => ∃ H : GH, St Ha wa H w [] ∧ Inc H58 H ∧ f 0 = v0 ∧ f 1 = Value.int .i64 a1 ∧ f 5 = Value.int .i64 s21 ∧ f 17 = Value.bool t74) ?_ ?_
    ·
      clear hp; have hp := hqt74; clear hqt74
      rcases ifB hp with ⟨c80, hp⟩ | ⟨c80, hp⟩
      ·
        refine FL.val (wF_yes rfl rfl rfl c80) rfl rfl (E.move k63) ?_
        refine FL.val (wF_yes rfl rfl rfl c80) rfl rfl (E.move k65) ?_
        obtain ⟨x87, hx88, hp⟩ := bnd hp
        obtain ⟨p81, cs82, pt83, l84, at85, rel86⟩ := p0.at hx88
        obtain rfl := eI_open rel86
        refine FL.val (wF_yes rfl rfl rfl c80) rfl rfl (E.indexAddr te44 rfl rfl pt83) ?_
        refine FL.val (wF_yes rfl rfl rfl c80) rfl rfl (E.load rfl (run_load0 Tryz.isAgg3 ((at85.mono i60).now S59.sl) rfl)) ?_
        refine FL.val (wF_yes rfl rfl rfl c80) rfl rfl (E.move k64) ?_
        refine FL.val (wF_yes rfl rfl rfl c80) rfl rfl (E.lss rfl rfl) ?_
        obtain rfl := Option.some.inj hp
        refine FL.v (E.pickT rfl c80 rfl) ?_
        exact FL.nil ⟨rfl, _, S59, (Inc.rfl _), k63, k64, k65, rfl⟩
      ·
        refine FL.skip (wF_no rfl rfl rfl c80) rfl ?_
        refine FL.skip (wF_no rfl rfl rfl c80) rfl ?_
        refine FL.skip (wF_no rfl rfl rfl c80) rfl ?_
        refine FL.skip (wF_no rfl rfl rfl c80) rfl ?_
        refine FL.skip (wF_no rfl rfl rfl c80) rfl ?_
        refine FL.skip (wF_no rfl rfl rfl c80) rfl ?_
        obtain rfl := Option.some.inj hp
        refine FL.v (E.pickF rfl c80 rfl) ?_
        exact FL.nil ⟨rfl, _, S59, (Inc.rfl _), k63, k64, k65, rfl⟩
    rintro f79 w78 ⟨H75, S76, i77, k89, k90, k91, k92⟩
    refine FL.nil ?_
    rcases ifB hp with ⟨c93, hp⟩ | ⟨c93, hp⟩
    ·
      refine FW.condT k92 c93 ?_
      refine FW.skip (FW.block (FW.region ?_))
      refine FL.v (E.move k91) ?_
      refine FL.v (E.add rfl rfl) ?_
      refine FL.v (E.assign (v := Value.int .i64 (wr (s21 + 1))) rfl) ?_
      refine FL.nil ?_
      obtain rfl := Option.some.inj hp
      exact ⟨rfl, ⟨_, S76, (i60.tr i77), k89, k90, rfl⟩⟩
    ·
      refine FW.condF k92 c93 ?_
      refine FW.exit ?_
      obtain rfl := Option.some.inj hp
      exact ⟨nofun, rfl, ⟨_, S76, (i60.tr i77), k89, k90, k91⟩⟩
  ·
    clear hq
    intro e f99 w98 hD
    rcases q21 with s21 | x21
    ·
      obtain ⟨rfl, hD⟩ := hD
      obtain ⟨H95, S96, i97, k100, k101, k102⟩ := hD
      replace hp := el_go hp
      refine FW.seq (FW.seq (FW.region ?_))
      refine FL.v (E.move k102) ?_
      refine FL.v (E.move k100) ?_
      refine FL.v (E.lenP te44 rfl p0) ?_
      refine FL.v (E.lss rfl rfl) ?_
      refine FL.v (E.move (v := Value.bool (decide (s21 < (len a0)))) rfl) ?_
      obtain ⟨t111, hqt111, hp⟩ := bnd hp
      refine FL.cut 7 (fun f w => ∃ H : GH, St Ha wa H w [] ∧ Inc H95 H ∧ f 0 = v0 ∧ f 1 = Value.int .i64 a1 ∧ f 5 = Value.int .i64 s21 ∧ f 31 = Value.bool t111) ?_ ?_
      ·
        clear hp; have hp := hqt111; clear hqt111
        rcases ifB hp with ⟨c117, hp⟩ | ⟨c117, hp⟩
        ·
          refine FL.val (wF_yes rfl rfl rfl c117) rfl rfl (E.move k100) ?_
          refine FL.val (wF_yes rfl rfl rfl c117) rfl rfl (E.move k102) ?_
          obtain ⟨x124, hx125, hp⟩ := bnd hp
          obtain ⟨p118, cs119, pt120, l121, at122, rel123⟩ := p0.at hx125
          obtain rfl := eI_open rel123
          refine FL.val (wF_yes rfl rfl rfl c117) rfl rfl (E.indexAddr te44 rfl rfl pt120) ?_
          refine FL.val (wF_yes rfl rfl rfl c117) rfl rfl (E.load rfl (run_load0 Tryz.isAgg3 ((at122.mono i97).now S96.sl) rfl)) ?_
          refine FL.val (wF_yes rfl rfl rfl c117) rfl rfl (E.move k101) ?_
          refine FL.val (wF_yes rfl rfl rfl c117) rfl rfl (E.eql rfl rfl) ?_
          obtain rfl := Option.some.inj hp
          refine FL.v (E.pickT rfl c117 rfl) ?_
          exact FL.nil ⟨rfl, _, S96, (Inc.rfl _), k100, k101, k102, rfl⟩
        ·
          refine FL.skip (wF_no rfl rfl rfl c117) rfl ?_
          refine FL.skip (wF_no rfl rfl rfl c117) rfl ?_
          refine FL.skip (wF_no rfl rfl rfl c117) rfl ?_
          refine FL.skip (wF_no rfl rfl rfl c117) rfl ?_
          refine FL.skip (wF_no rfl rfl rfl c117) rfl ?_
          refine FL.skip (wF_no rfl rfl rfl c117) rfl ?_
          obtain rfl := Option.some.inj hp
          refine FL.v (E.pickF rfl c117 rfl) ?_
          exact FL.nil ⟨rfl, _, S96, (Inc.rfl _), k100, k101, k102, rfl⟩
      rintro f116 w115 ⟨H112, S113, i114, k126, k127, k128, k129⟩
      refine FL.nil ?_
      rcases ifB hp with ⟨c130, hp⟩ | ⟨c130, hp⟩
      ·
        refine FW.condT k129 c130 ?_
        refine FW.seq (FW.region ?_)
        refine FL.v (E.move k126) ?_
        refine FL.v (E.assign (v := v0) rfl) ?_
        refine FL.nil ?_
        refine FW.ret ?_
        obtain rfl := Option.some.inj hp
        exact ⟨.inr rfl, res1 rfl rfl ⟨_, _, rfl, S113.run, (p0.mono (i97.tr i114))⟩⟩
      ·
        refine FW.condF k129 c130 ?_
        refine FW.skip (FW.seq ?_)
        obtain ⟨xs27, hc28, hp⟩ := bnd hp
        obtain ⟨xs32, hz33, hp⟩ := bnd hp
        obtain ⟨xs47, hz48, hp⟩ := bnd hp
        obtain ⟨xs66, hc67, hp⟩ := bnd hp
        obtain ⟨xs71, hz72, hp⟩ := bnd hp
        refine FW.drawB (Sl H112) (fun f w => ∃ H : GH, ∃ v109 : Value, ∃ n110 : Nat, ∃ cs134 : List Value, St Ha wa H w [.row 3 1 v109 n110 cs134] ∧ Inc H112 H ∧ Els (up wa.heap.size H) eI 1 cs134 xs71 ∧ f 4 = v109) (by kernel_rfl) S113.sl ?_ ?_
        ·
          intro w131 r132
          have S133 := S113.call r132
          refine FB.t (i := 1) (bs 13 2) rfl (SP.nil S133.sl) rfl (fun w' hw' => (E.move k126)) ?_
          refine FB.t (i := 2) (bs 13 6) rfl (SP.nil S133.sl) rfl (fun w' hw' => (E.move k128)) ?_
          obtain ⟨v29, run30, h31⟩ := p0.cut te44 hc28 (lo := none) (hi := some (Value.int .i64 s21)) (.inl ⟨rfl, rfl⟩) (.inr ⟨_, rfl⟩)
          refine FB.t (i := 3) (bs 13 14) rfl (SP.nil S133.sl) rfl (fun w' hw' => (E.slice te44 rfl rfl (congrArg some rfl) rfl (run30 _))) ?_
          refine FB.t (i := 5) (bs 13 46) rfl (SP.nil S133.sl) rfl (fun w' hw' => (E.move k127)) ?_
          refine FB.t (i := 8) (bs 13 302) rfl (SP.nil S133.sl) rfl (fun w' hw' => (E.move k126)) ?_
          refine FB.t (i := 9) (bs 13 814) rfl (SP.nil S133.sl) rfl (fun w' hw' => (E.move k128)) ?_
          obtain ⟨v68, run69, h70⟩ := p0.cut te44 hc67 (lo := some (Value.int .i64 s21)) (hi := none) (.inr ⟨_, rfl⟩) (.inl ⟨rfl, rfl⟩)
          refine FB.t (i := 10) (bs 13 1838) rfl (SP.nil S133.sl) rfl (fun w' hw' => (E.slice te44 rfl (congrArg some rfl) rfl rfl (run69 _))) ?_
          refine FB.all2 (i := 0) (j := 6) (by kernel_rfl) ?_ ?_
          ·
            obtain ⟨v22, w23, run24, S25⟩ := S133.buildSlice (P := Tryz.prog) te44 [] (parts := #[]) (cells := []) rfl szs_nil fc_nil ones_nil (Nat.le_of_ble_eq_true rfl)
            have els26 : Els (up wa.heap.size H112) eI 1 [] [] := Els.nil
            refine FC.val (l' := (bs 13 1839)) rfl (by kernel_rfl) rfl rfl rfl (E.buildSlice (B0) run24) ?_
            refine ⟨(SP.nil S25.sl), ?_⟩
            refine FB.all2 (i := 4) (j := 6) (by kernel_rfl) ?_ ?_
            ·
              obtain ⟨v34, w37, n35, cs36, run38, S39, els40⟩ := S25.appendP (P := Tryz.prog) (Inc.rfl _) te44 (i := 0) rfl (els26.mono upI) (h31.mono (i97.tr i114)) hz33
              have S39 : St Ha wa H112 w37 [.row 3 1 v34 n35 cs36] := S39
              have els40 : Els (up wa.heap.size H112) eI 1 cs36 xs32 := els40.any (fun _ _ _ _ h => h)
              refine FC.val (l' := (bs 13 1855)) rfl (by kernel_rfl) rfl rfl rfl (E.append rfl rfl run38) ?_
              refine ⟨(SP.nil S39.sl), ?_⟩
              refine FB.all1 (i := 6) (by kernel_rfl) ?_
              ·
                obtain ⟨v41, w42, run43, S45⟩ := S39.buildSlice (P := Tryz.prog) te44 [Value.int .i64 a1] (parts := #[(0, Value.int .i64 a1)]) (cells := [Value.int .i64 a1]) rfl (szs_cons rfl szs_nil) (fc_cons rfl fc_nil) (ones_cons rfl ones_nil) (Nat.le_of_ble_eq_true rfl)
                have els46 : Els (up wa.heap.size H112) eI 1 [Value.int .i64 a1] [a1] := (Els.snoc (H := (up wa.heap.size H112)) (E := eI) (k := 1) (c := [Value.int .i64 a1]) (x := a1) Els.nil rfl rfl)
                refine FC.val (l' := (bs 13 1919)) rfl (by kernel_rfl) rfl rfl rfl (E.buildSlice (B1 rfl) run43) ?_
                refine ⟨(SP.nil S45.sl), ?_⟩
                refine FB.all1 (i := 7) (by kernel_rfl) ?_
                ·
                  obtain ⟨v49, w52, n50, cs51, run53, S54, els55, ce56⟩ := S45.appendO (P := Tryz.prog) te44 (i := 1) (j := 0) rfl els40 rfl els46 hz48
                  have S54 : St Ha wa H112 w52 [.row 3 1 v41 1 [Value.int .i64 a1], .row 3 1 v49 n50 cs51] := S54
                  have S57 : St Ha wa H112 w52 [.row 3 1 v49 n50 cs51] := S54.drop 0
                  refine FC.val (l' := (bs 13 2047)) rfl (by kernel_rfl) rfl rfl rfl (E.append rfl rfl run53) ?_
                  refine ⟨(SP.nil S57.sl), ?_⟩
                  refine FB.all1 (i := 11) (by kernel_rfl) ?_
                  ·
                    obtain ⟨v73, w105, n103, cs104, run106, S107, els108⟩ := S57.appendP (P := Tryz.prog) (Inc.rfl _) te44 (i := 0) rfl (els55.mono upI) (h70.mono (i97.tr i114)) hz72
                    have S107 : St Ha wa H112 w105 [.row 3 1 v73 n103 cs104] := S107
                    have els108 : Els (up wa.heap.size H112) eI 1 cs104 xs71 := els108.any (fun _ _ _ _ h => h)
                    refine FC.val (l' := (bs 13 4095)) rfl (by kernel_rfl) rfl rfl rfl (E.append rfl rfl run106) ?_
                    refine ⟨(SP.nil S107.sl), ?_⟩
                    refine FB.t (i := 12) (bs 13 8191) rfl (SP.nil S107.sl) rfl (fun w' hw' => (E.assign (v := v73) rfl)) ?_
                    exact FB.done (by kernel_rfl) ⟨_, _, _, _, S107, (Inc.rfl _), els108, rfl⟩
            ·
              obtain ⟨v41, w42, run43, S45⟩ := S25.buildSlice (P := Tryz.prog) te44 [Value.int .i64 a1] (parts := #[(0, Value.int .i64 a1)]) (cells := [Value.int .i64 a1]) rfl (szs_cons rfl szs_nil) (fc_cons rfl fc_nil) (ones_cons rfl ones_nil) (Nat.le_of_ble_eq_true rfl)
              have els46 : Els (up wa.heap.size H112) eI 1 [Value.int .i64 a1] [a1] := (Els.snoc (H := (up wa.heap.size H112)) (E := eI) (k := 1) (c := [Value.int .i64 a1]) (x := a1) Els.nil rfl rfl)
              refine FC.val (l' := (bs 13 1903)) rfl (by kernel_rfl) rfl rfl rfl (E.buildSlice (B1 rfl) run43) ?_
              refine ⟨(SP.nil S45.sl), ?_⟩
              refine FB.all1 (i := 4) (by kernel_rfl) ?_
              ·
                obtain ⟨v34, w37, n35, cs36, run38, S39, els40⟩ := S45.appendP (P := Tryz.prog) (Inc.rfl _) te44 (i := 1) rfl (els26.mono upI) (h31.mono (i97.tr i114)) hz33
                have S39 : St Ha wa H112 w37 [.row 3 1 v41 1 [Value.int .i64 a1], .row 3 1 v34 n35 cs36] := S39
                have els40 : Els (up wa.heap.size H112) eI 1 cs36 xs32 := els40.any (fun _ _ _ _ h => h)
                refine FC.val (l' := (bs 13 1919)) rfl (by kernel_rfl) rfl rfl rfl (E.append rfl rfl run38) ?_
                refine ⟨(SP.nil S39.sl), ?_⟩
                refine FB.all1 (i := 7) (by kernel_rfl) ?_
                ·
                  obtain ⟨v49, w52, n50, cs51, run53, S54, els55, ce56⟩ := S39.appendO (P := Tryz.prog) te44 (i := 1) (j := 0) rfl els40 rfl els46 hz48
                  have S54 : St Ha wa H112 w52 [.row 3 1 v41 1 [Value.int .i64 a1], .row 3 1 v49 n50 cs51] := S54
                  have S57 : St Ha wa H112 w52 [.row 3 1 v49 n50 cs51] := S54.drop 0
                  refine FC.val (l' := (bs 13 2047)) rfl (by kernel_rfl) rfl rfl rfl (E.append rfl rfl run53) ?_
                  refine ⟨(SP.nil S57.sl), ?_⟩
                  refine FB.all1 (i := 11) (by kernel_rfl) ?_
                  ·
                    obtain ⟨v73, w105, n103, cs104, run106, S107, els108⟩ := S57.appendP (P := Tryz.prog) (Inc.rfl _) te44 (i := 0) rfl (els55.mono upI) (h70.mono (i97.tr i114)) hz72
                    have S107 : St Ha wa H112 w105 [.row 3 1 v73 n103 cs104] := S107
                    have els108 : Els (up wa.heap.size H112) eI 1 cs104 xs71 := els108.any (fun _ _ _ _ h => h)
                    refine FC.val (l' := (bs 13 4095)) rfl (by kernel_rfl) rfl rfl rfl (E.append rfl rfl run106) ?_
                    refine ⟨(SP.nil S107.sl), ?_⟩
                    refine FB.t (i := 12) (bs 13 8191) rfl (SP.nil S107.sl) rfl (fun w' hw' => (E.assign (v := v73) rfl)) ?_
                    exact FB.done (by kernel_rfl) ⟨_, _, _, _, S107, (Inc.rfl _), els108, rfl⟩
          ·
            obtain ⟨v41, w42, run43, S45⟩ := S133.buildSlice (P := Tryz.prog) te44 [Value.int .i64 a1] (parts := #[(0, Value.int .i64 a1)]) (cells := [Value.int .i64 a1]) rfl (szs_cons rfl szs_nil) (fc_cons rfl fc_nil) (ones_cons rfl ones_nil) (Nat.le_of_ble_eq_true rfl)
            have els46 : Els (up wa.heap.size H112) eI 1 [Value.int .i64 a1] [a1] := (Els.snoc (H := (up wa.heap.size H112)) (E := eI) (k := 1) (c := [Value.int .i64 a1]) (x := a1) Els.nil rfl rfl)
            refine FC.val (l' := (bs 13 1902)) rfl (by kernel_rfl) rfl rfl rfl (E.buildSlice (B1 rfl) run43) ?_
            refine ⟨(SP.nil S45.sl), ?_⟩
            refine FB.all1 (i := 0) (by kernel_rfl) ?_
            ·
              obtain ⟨v22, w23, run24, S25⟩ := S45.buildSlice (P := Tryz.prog) te44 [] (parts := #[]) (cells := []) rfl szs_nil fc_nil ones_nil (Nat.le_of_ble_eq_true rfl)
              have els26 : Els (up wa.heap.size H112) eI 1 [] [] := Els.nil
              refine FC.val (l' := (bs 13 1903)) rfl (by kernel_rfl) rfl rfl rfl (E.buildSlice (B0) run24) ?_
              refine ⟨(SP.nil S25.sl), ?_⟩
              refine FB.all1 (i := 4) (by kernel_rfl) ?_
              ·
                obtain ⟨v34, w37, n35, cs36, run38, S39, els40⟩ := S25.appendP (P := Tryz.prog) (Inc.rfl _) te44 (i := 0) rfl (els26.mono upI) (h31.mono (i97.tr i114)) hz33
                have S39 : St Ha wa H112 w37 [.row 3 1 v34 n35 cs36, .row 3 1 v41 1 [Value.int .i64 a1]] := S39
                have els40 : Els (up wa.heap.size H112) eI 1 cs36 xs32 := els40.any (fun _ _ _ _ h => h)
                refine FC.val (l' := (bs 13 1919)) rfl (by kernel_rfl) rfl rfl rfl (E.append rfl rfl run38) ?_
                refine ⟨(SP.nil S39.sl), ?_⟩
                refine FB.all1 (i := 7) (by kernel_rfl) ?_
                ·
                  obtain ⟨v49, w52, n50, cs51, run53, S54, els55, ce56⟩ := S39.appendO (P := Tryz.prog) te44 (i := 0) (j := 1) rfl els40 rfl els46 hz48
                  have S54 : St Ha wa H112 w52 [.row 3 1 v49 n50 cs51, .row 3 1 v41 1 [Value.int .i64 a1]] := S54
                  have S57 : St Ha wa H112 w52 [.row 3 1 v49 n50 cs51] := S54.drop 1
                  refine FC.val (l' := (bs 13 2047)) rfl (by kernel_rfl) rfl rfl rfl (E.append rfl rfl run53) ?_
                  refine ⟨(SP.nil S57.sl), ?_⟩
                  refine FB.all1 (i := 11) (by kernel_rfl) ?_
                  ·
                    obtain ⟨v73, w105, n103, cs104, run106, S107, els108⟩ := S57.appendP (P := Tryz.prog) (Inc.rfl _) te44 (i := 0) rfl (els55.mono upI) (h70.mono (i97.tr i114)) hz72
                    have S107 : St Ha wa H112 w105 [.row 3 1 v73 n103 cs104] := S107
                    have els108 : Els (up wa.heap.size H112) eI 1 cs104 xs71 := els108.any (fun _ _ _ _ h => h)
                    refine FC.val (l' := (bs 13 4095)) rfl (by kernel_rfl) rfl rfl rfl (E.append rfl rfl run106) ?_
                    refine ⟨(SP.nil S107.sl), ?_⟩
                    refine FB.t (i := 12) (bs 13 8191) rfl (SP.nil S107.sl) rfl (fun w' hw' => (E.assign (v := v73) rfl)) ?_
                    exact FB.done (by kernel_rfl) ⟨_, _, _, _, S107, (Inc.rfl _), els108, rfl⟩
        ·
          rintro f140 w139 ⟨H136, v109, n110, cs134, S137, i138, els135, k141⟩
          refine FW.ret ?_
          obtain ⟨H142, S143, i144, h145, nv146⟩ := S137.sealRowU (i := 0) (l' := []) rfl els135 (by decide) rfl
          obtain rfl := Option.some.inj hp
          exact ⟨.inr rfl, res1 rfl k141 ⟨_, _, rfl, S143.run, (h145.mono upI)⟩⟩
    · exact x21.elim

@[reducible] def p_spec_l11Used (Ha : GH) (wa : World) (r : (List Int)) : Ending → World → Prop :=
  fun e w' => ∃ H' : GH, ∃ v0 : Value, e = .returned (v0) ∧ Run wa.heap.size Ha wa H' w' ∧ RSl H' eI 1 v0 r
theorem w_spec_l11Used {Ha : GH} {wa : World} (hs : Sl Ha wa) (a0 : Int) (v1 : Value) (a1 : List l11Use) (p1 : RSl Ha el11Use 3 v1 a1) {r : (List Int)} (hp : (PF.spec_l11Used a0 a1) = some r) :
    Calls Tryz.prog 50 #[Value.int .i64 a0, v1] wa (p_spec_l11Used Ha wa r) := by
  unfold PF.spec_l11Used at hp
  have S0 := St.init hs
  refine calls_go (N := 23) (args := [Value.int .i64 a0, v1]) Tryz.func50 rfl rfl rfl ?_
  refine FW.seq (FW.region ?_)
  refine FL.v (E.assign (v := Value.slice none 0 0) rfl) ?_
  refine FL.nil (FW.seq (FW.region ?_))
  refine FL.v (E.move (v := Value.int .i64 a0) rfl) ?_
  obtain ⟨v21, w22, run23, S24⟩ := S0.buildSlice (P := Tryz.prog) te44 [Value.int .i64 a0] (parts := #[(0, Value.int .i64 a0)]) (cells := [Value.int .i64 a0]) rfl (szs_cons rfl szs_nil) (fc_cons rfl fc_nil) (ones_cons rfl ones_nil) (Nat.le_of_ble_eq_true rfl)
  have els25 : Els (up wa.heap.size Ha) eI 1 [Value.int .i64 a0] [a0] := (Els.snoc (H := (up wa.heap.size Ha)) (E := eI) (k := 1) (c := [Value.int .i64 a0]) (x := a0) Els.nil rfl rfl)
  refine FL.v (E.buildSlice (B1 rfl) run23) ?_
  refine FL.v (E.assign (v := v21) rfl) ?_
  refine FL.nil (FW.seq (FW.seq (FW.region ?_)))
  refine FL.v (E.assign (v := Value.int .i64 0) rfl) ?_
  refine FL.nil ?_
  obtain ⟨H27, S28, i29, h30, nv31⟩ := S24.sealRowU (i := 0) (l' := []) rfl els25 (by decide) rfl
  obtain ⟨q32, hq, hp⟩ := bndR hp
  refine FW.block ?_
  refine FW.mono (FW.forL (S := (List Int)) (X := Empty) (fun (i32 : Nat) (s32 : (List Int)) f w => ∃ H : GH, ∃ v33 : Value, St Ha wa H w [] ∧ Inc H27 H ∧ RSl H eI 1 v33 s32 ∧ f 6 = Value.int .i64 ((i32 : Nat) : Int) ∧ f 1 = v1 ∧ f 5 = v33) (fun (q : Rs (List Int) Empty) e f w => match q with | .go s32 => e = Exit.exit 0 ∧ (∃ H : GH, ∃ v33 : Value, St Ha wa H w [] ∧ Inc H27 H ∧ RSl H eI 1 v33 s32 ∧ f 5 = v33) | .rt x => x.elim) hq ⟨_, _, S28, (Inc.rfl _), (h30.mono upI), rfl, rfl, rfl⟩ ?_ ?_) ?_
  ·
    clear hp hq
    rintro i32 y26 s32 f63 w62 ⟨H59, v33, S60, i61, h34, k64, k65, k66⟩ hx32 o83 hp
    refine FW.seq (FW.seq (FW.region ?_))
    refine FL.v (E.move k64) ?_
    refine FL.v (E.move k65) ?_
    refine FL.v (E.lenP te69 rfl p1) ?_
    refine FL.v (E.lssT rfl rfl (lss_len hx32)) ?_
    refine FL.nil ?_
    refine FW.condT rfl rfl ?_
    refine FW.skip (FW.seq (FW.block (FW.region ?_)))
    refine FL.v (E.move k66) ?_
    refine FL.v (E.move k65) ?_
    refine FL.v (E.move k64) ?_
    obtain ⟨p67, cs68, pt69, l70, at71, rel72⟩ := p1.at (ix_nat hx32)
    obtain ⟨v73, rfl, h74⟩ := el11Use_open rel72
    refine FL.v (E.indexAddr te69 rfl rfl pt69) ?_
    refine FL.v (E.fieldAddr tf105_0 rfl) ?_
    refine FL.v (E.load rfl (run_load1 Tryz.isAgg3 ((at71.mono (i29.tr i61)).now S60.sl) rfl)) ?_
    obtain ⟨r75, hr76, hp⟩ := bnd hp
    refine FL.call rfl rfl rfl (E.call Tryz.call76 (A2 rfl rfl)) (w_spec_l1Put S60.sl v33 s32 h34 y26.reason hr76) ?_
    rintro e w78 ⟨H77, v81, rfl, r80, h82⟩
    refine ⟨_, rfl, ?_⟩
    have S79 := S60.call r80
    refine FL.v (E.assign (v := v81) rfl) ?_
    refine FL.nil (FW.region ?_)
    refine FL.v (E.move k64) ?_
    refine FL.v (E.add rfl rfl) ?_
    refine FL.v (E.assign (v := Value.int .i64 (wr (((i32 : Nat) : Int) + 1))) rfl) ?_
    refine FL.nil ?_
    obtain rfl := Option.some.inj hp
    exact ⟨rfl, ⟨_, _, S79, (i61.tr r80.inc), h82, (nat_succ rfl (lt_of_get hx32) (p1.mono ((i29.tr i61).tr r80.inc)).le), k65, rfl⟩⟩
  ·
    clear hp hq
    rintro s32 f94 w93 ⟨H90, v33, S91, i92, h34, k95, k96, k97⟩
    refine FW.seq (FW.seq (FW.region ?_))
    refine FL.v (E.move k95) ?_
    refine FL.v (E.move k96) ?_
    refine FL.v (E.lenP te69 rfl p1) ?_
    refine FL.v (E.lss rfl rfl) ?_
    refine FL.nil ?_
    refine FW.condF rfl dlt_len ?_
    refine FW.exit ?_
    exact ⟨nofun, rfl, ⟨_, _, S91, i92, h34, k97⟩⟩
  ·
    clear hq
    intro e f88 w87 hD
    rcases q32 with s32 | x32
    ·
      obtain ⟨rfl, hD⟩ := hD
      obtain ⟨H84, v33, S85, i86, h34, k89⟩ := hD
      replace hp := el_go hp
      refine FW.seq (FW.region ?_)
      refine FL.v (E.move k89) ?_
      refine FL.v (E.assign (v := v33) rfl) ?_
      refine FL.nil ?_
      refine FW.ret ?_
      obtain rfl := Option.some.inj hp
      exact ⟨.inr rfl, res1 rfl rfl ⟨_, _, rfl, S85.run, h34⟩⟩
    · exact x32.elim

@[reducible] def p_spec_TrimLearned (Ha : GH) (wa : World) (r : ((List (List Int)) × Bool)) : Ending → World → Prop :=
  fun e w' => ∃ H' : GH, ∃ v0 : Value, ∃ n0 : Nat, ∃ c0 : List Value, e = .returned (Value.tuple #[v0, Value.bool r.2]) ∧ St Ha wa H' w' [.row 44 1 v0 n0 c0] ∧ Els (up wa.heap.size H') (eL eI 1) 1 c0 r.1 ∧ (bl c0).Nodup
set_option maxHeartbeats 4000000 in
theorem w_spec_TrimLearned {Ha : GH} {wa : World} (hs : Sl Ha wa) (a0 : Cnf) (v0_1 : Value) (p0_1 : RSl Ha (eL eI 1) 1 v0_1 a0.clauses) (v1 : Value) (a1 : List (List Int)) (p1 : RSl Ha (eL eI 1) 1 v1 a1) {r : ((List (List Int)) × Bool)} (hp : (PF.spec_TrimLearned a0 a1) = some r) :
    Calls Tryz.prog 29 #[Value.agg #[Value.int .i64 a0.vars, v0_1], v1] wa (p_spec_TrimLearned Ha wa r) := by
  unfold PF.spec_TrimLearned at hp
  have S0 := St.init hs
  refine calls_go (N := 99) (args := [Value.agg #[Value.int .i64 a0.vars, v0_1], v1]) Tryz.func29 rfl rfl rfl ?_
  refine FW.seq (FW.region ?_)
  obtain ⟨b21, w22, run23, S24⟩ := S0.box (P := Tryz.prog) 28 [Value.int .i64 a0.vars, v0_1] (v := Value.agg #[Value.int .i64 a0.vars, v0_1]) rfl (ones_cons rfl (ones_cons p0_1.one ones_nil))
  refine FL.v (E.box rfl run23) ?_
  obtain ⟨H25, S26, i27, at28⟩ := S24.sealBox (i := 0) (l' := []) rfl rfl
  refine FL.v (E.assign (v := Value.slice none 0 0) rfl) ?_
  refine FL.v (E.assign (v := Value.bool false) rfl) ?_
  refine FL.nil (FW.seq (FW.region ?_))
  obtain ⟨v29, w30, run31, S32⟩ := S26.buildSlice (P := Tryz.prog) te22 [] (parts := #[]) (cells := []) rfl szs_nil fc_nil ones_nil (Nat.le_of_ble_eq_true rfl)
  have els33 : Els (up wa.heap.size H25) (eL eI 1) 1 [] [] := Els.nil
  refine FL.v (E.buildSlice (B0) run31) ?_
  refine FL.v (E.assign (v := v29) rfl) ?_
  refine FL.nil (FW.seq (FW.seq (FW.region ?_)))
  refine FL.v (E.load rfl (run_loadA Tryz.isAgg28 Tryz.sizeOf28 (at28.now S32.sl) rfl)) ?_
  refine FL.v (E.move (v := v1) rfl) ?_
  obtain ⟨r34, hr35, hp⟩ := bnd hp
  refine FL.call rfl rfl rfl (E.call Tryz.call46 (A2 rfl rfl)) (w_spec_l11Good S32.sl a0 v0_1 (p0_1.mono i27) v1 a1 (p1.mono i27) hr35) ?_
  rintro e w36 ⟨rfl, r37⟩
  refine ⟨_, rfl, ?_⟩
  have S38 := S32.call r37
  refine FL.v (E.not rfl) ?_
  refine FL.v (E.move (v := Value.bool (!r34)) rfl) ?_
  refine FL.cut 4 (fun f w => ∃ H : GH, St Ha wa H w [.row 44 1 v29 0 []] ∧ Inc H25 H ∧ f 1 = v1 ∧ f 2 = Value.pointer (some ⟨b21, 0, none⟩) ∧ f 6 = v29 ∧ f 23 = Value.bool (bif (!r34) then true else ((len a1) == 0))) ?_ ?_
  ·
    rcases bcase (!r34) with c45 | c45
    ·
      refine FL.skip (wF_no rfl rfl rfl c45) rfl ?_
      refine FL.skip (wF_no rfl rfl rfl c45) rfl ?_
      refine FL.skip (wF_no rfl rfl rfl c45) rfl ?_
      refine FL.v (E.pickT rfl c45 rfl) ?_
      exact FL.nil ⟨rfl, _, S38, (Inc.rfl _), rfl, rfl, rfl, (congrArg Value.bool (bifT c45).symm)⟩
    ·
      refine FL.val (wF_yes rfl rfl rfl c45) rfl rfl (E.move (v := v1) rfl) ?_
      refine FL.val (wF_yes rfl rfl rfl c45) rfl rfl (E.lenP te22 rfl p1) ?_
      refine FL.val (wF_yes rfl rfl rfl c45) rfl rfl (E.eql rfl rfl) ?_
      refine FL.v (E.pickF rfl c45 rfl) ?_
      exact FL.nil ⟨rfl, _, S38, (Inc.rfl _), rfl, rfl, rfl, (congrArg Value.bool (bifF c45).symm)⟩
  rintro f44 w43 ⟨H40, S41, i42, k46, k47, k48, k49⟩
  refine FL.nil ?_
  rcases ifB hp with ⟨c50, hp⟩ | ⟨c50, hp⟩
  ·
    refine FW.condT k49 c50 ?_
    refine FW.seq (FW.region ?_)
    refine FL.v (E.move k48) ?_
    refine FL.v (E.assign (v := v29) rfl) ?_
    refine FL.v (E.assign (v := Value.bool false) rfl) ?_
    refine FL.nil ?_
    refine FW.ret ?_
    obtain rfl := Option.some.inj hp
    exact ⟨.inr rfl, res2 rfl rfl rfl ⟨_, _, _, _, rfl, S41, (els33.mono (up_mono i42)), (show (bl []).Nodup from List.nodup_nil)⟩⟩
  ·
    refine FW.condF k49 c50 ?_
    refine FW.skip (FW.seq (FW.region ?_))
    refine FL.v (E.move k46) ?_
    refine FL.v (E.lenP te22 rfl p1) ?_
    obtain ⟨xs51, hm52, hp⟩ := bnd hp
    obtain ⟨v53, w54, n58, cs59, run55, S56, els57, hbl60⟩ := S41.makeEls (P := Tryz.prog) te77 (G := (up wa.heap.size H40)) (En := eB) (x0 := (false : Bool)) hm52 rfl (ones_cons rfl ones_nil) .i64 .i64
    refine FL.v (E.makeSlice rfl rfl run55) ?_
    refine FL.v (E.assign (v := v53) rfl) ?_
    refine FL.nil (FW.seq (FW.region ?_))
    refine FL.v (E.move (v := v53) rfl) ?_
    refine FL.v (E.move k46) ?_
    refine FL.v (E.lenP te22 rfl p1) ?_
    refine FL.v (E.sub rfl rfl) ?_
    obtain ⟨x67, hx68, hp⟩ := bnd hp
    obtain ⟨p61, cs62, pt63, l64, at65, rel66⟩ := S56.row_at (i := 0) rfl els57 (by decide) hx68
    obtain rfl := eB_open rel66
    refine FL.v (E.indexAddr te77 rfl rfl pt63) ?_
    obtain ⟨xs72, hput73, hp⟩ := bnd hp
    obtain ⟨w69, cs75, run70, S71, els74, ce76⟩ := S56.putEls (P := Tryz.prog) (t := 4) (i := 0) rfl els57 hput73 pt63 Tryz.sizeOf4 (u := Value.bool true) (c := [Value.bool true]) rfl rfl (ones_cons rfl ones_nil) rfl
    have S71 : St Ha wa H40 w69 [.row 4 1 v53 n58 cs75, .row 44 1 v29 0 []] := S71
    refine FL.act rfl rfl (E.store rfl rfl run70) ?_
    refine FL.nil (FW.seq (FW.seq (FW.region ?_)))
    refine FL.v (E.move k46) ?_
    refine FL.v (E.lenP te22 rfl p1) ?_
    refine FL.v (E.sub rfl rfl) ?_
    refine FL.v (E.assign (v := Value.int .i64 (wr ((len a1) - 1))) rfl) ?_
    refine FL.nil ?_
    obtain ⟨q77, hq, hp⟩ := bndR hp
    refine FW.block ?_
    refine FW.mono (FW.iter (S := ((List Bool) × Int)) (X := Empty) (fun (s77 : ((List Bool) × Int)) f w => ∃ H : GH, ∃ v39 : Value, ∃ n78 : Nat, ∃ cs79 : List Value, St Ha wa H w [.row 4 1 v39 n78 cs79, .row 44 1 v29 0 []] ∧ Inc H40 H ∧ Els (up wa.heap.size H) eB 1 cs79 s77.1 ∧ f 1 = v1 ∧ f 2 = Value.pointer (some ⟨b21, 0, none⟩) ∧ f 6 = v29 ∧ f 7 = v39 ∧ f 8 = Value.int .i64 s77.2) (fun (q : Rs ((List Bool) × Int) Empty) e f w => match q with | .go s77 => e = Exit.exit 0 ∧ (∃ H : GH, ∃ v39 : Value, ∃ n78 : Nat, ∃ cs79 : List Value, St Ha wa H w [.row 4 1 v39 n78 cs79, .row 44 1 v29 0 []] ∧ Inc H40 H ∧ Els (up wa.heap.size H) eB 1 cs79 s77.1 ∧ f 1 = v1 ∧ f 6 = v29 ∧ f 7 = v39) | .rt x => x.elim) hq ⟨_, _, _, _, S71, (Inc.rfl _), els74, k46, k47, k48, rfl, rfl⟩ ?_) ?_
    ·
      clear hp hq
      rintro s77 f85 w84 ⟨H81, v39, n78, cs79, S82, i83, els80, k86, k87, k88, k89, k90⟩ o220 hp
      refine FW.seq (FW.seq (FW.region ?_))
      refine FL.v (E.move k90) ?_
      refine FL.v (E.geq rfl rfl) ?_
      refine FL.nil ?_
      rcases ifB hp with ⟨c91, hp⟩ | ⟨c91, hp⟩
      ·
        refine FW.condT rfl c91 ?_
        refine FW.skip (FW.seq (FW.block (FW.seq (FW.seq (FW.region ?_)))))
        refine FL.v (E.move k89) ?_
        refine FL.v (E.move k90) ?_
        obtain ⟨x98, hx99, hp⟩ := bnd hp
        obtain ⟨p92, cs93, pt94, l95, at96, rel97⟩ := S82.row_at (i := 0) rfl els80 (by decide) hx99
        obtain rfl := eB_open rel97
        refine FL.v (E.indexAddr te77 rfl rfl pt94) ?_
        refine FL.v (E.load rfl (run_load0 Tryz.isAgg4 at96 rfl)) ?_
        refine FL.v (E.not rfl) ?_
        refine FL.nil ?_
        rcases ifB hp with ⟨c100, hp⟩ | ⟨c100, hp⟩
        ·
          refine FW.condT rfl c100 ?_
          refine FW.exit ?_
          refine FW.region ?_
          refine FL.v (E.move k90) ?_
          refine FL.v (E.sub rfl rfl) ?_
          refine FL.v (E.assign (v := Value.int .i64 (wr (s77.2 - 1))) rfl) ?_
          refine FL.nil ?_
          obtain rfl := Option.some.inj hp
          exact ⟨rfl, ⟨_, _, _, _, S82, i83, els80, k86, k87, k88, k89, rfl⟩⟩
        ·
          refine FW.condF rfl c100 ?_
          refine FW.skip (FW.seq (FW.region ?_))
          refine FL.v (E.load k87 (run_loadA Tryz.isAgg28 Tryz.sizeOf28 ((at28.mono (i42.tr i83)).now S82.sl) rfl)) ?_
          refine FL.v (E.move k86) ?_
          refine FL.v (E.move k90) ?_
          obtain ⟨r101, hr102, hp⟩ := bnd hp
          refine FL.call rfl rfl rfl (E.call Tryz.call48 (A3 rfl rfl rfl)) (w_spec_l11Analyse S82.sl a0 v0_1 (p0_1.mono ((i27.tr i42).tr i83)) v1 a1 (p1.mono ((i27.tr i42).tr i83)) s77.2 hr102) ?_
          rintro e w104 ⟨H103, v107, n108, cs109, rfl, r106, els110, nd111⟩
          refine ⟨_, rfl, ?_⟩
          have nv112 : New H81 cs109 := New.of_up S82.sl els110.dom
          have els110 := els110.mono (up_le S82.size)
          have S105 := S82.join (l' := [.row 105 3 v107 n108 cs109, .row 4 1 v39 n78 cs79, .row 44 1 v29 0 []]) r106 rfl
          refine FL.v (E.move (v := Value.tuple #[Value.int .i64 r101.1, v107]) rfl) ?_
          refine FL.v (E.extract (i := 0) rfl rfl) ?_
          refine FL.v (E.extract (i := 1) rfl rfl) ?_
          refine FL.v (E.assign (v := Value.int .i64 r101.1) rfl) ?_
          refine FL.v (E.assign (v := v107) rfl) ?_
          refine FL.nil (FW.seq (FW.region ?_))
          refine FL.v (E.move (v := Value.int .i64 r101.1) rfl) ?_
          refine FL.v (E.move (v := v107) rfl) ?_
          obtain ⟨H113, S114, i115, ns118, nv117⟩ := S105.sealRowN (i := 0) (l' := [.row 4 1 v39 n78 cs79, .row 44 1 v29 0 []]) rfl els110 nd111 (by decide) rfl
          have h116 := ns118.rsl
          obtain ⟨r119, hr120, hp⟩ := bnd hp
          refine FL.call rfl rfl rfl (E.call Tryz.call50 (A2 rfl rfl)) (w_spec_l11Used S114.sl r101.1 v107 r101.2 (h116.mono upI) hr120) ?_
          rintro e w122 ⟨H121, v125, rfl, r124, h126⟩
          refine ⟨_, rfl, ?_⟩
          have S123 := S114.call r124
          refine FL.v (E.assign (v := v125) rfl) ?_
          refine FL.nil (FW.seq (FW.region ?_))
          refine FL.v (E.assign (v := Value.int .i64 0) rfl) ?_
          refine FL.nil ?_
          obtain ⟨q128, hq, hp⟩ := bndR hp
          refine FW.block ?_
          refine FW.mono (FW.forL (S := (List Bool)) (X := Empty) (fun (i128 : Nat) (s128 : (List Bool)) f w => ∃ H : GH, ∃ v129 : Value, ∃ n130 : Nat, ∃ cs131 : List Value, St Ha wa H w [.row 4 1 v129 n130 cs131, .row 44 1 v29 0 []] ∧ Inc H121 H ∧ Els (up wa.heap.size H) eB 1 cs131 s128 ∧ f 12 = Value.int .i64 ((i128 : Nat) : Int) ∧ f 1 = v1 ∧ f 2 = Value.pointer (some ⟨b21, 0, none⟩) ∧ f 6 = v29 ∧ f 7 = v129 ∧ f 8 = Value.int .i64 s77.2 ∧ f 11 = v125) (fun (q : Rs (List Bool) Empty) e f w => match q with | .go s128 => e = Exit.exit 2 ∧ (∃ H : GH, ∃ v129 : Value, ∃ n130 : Nat, ∃ cs131 : List Value, St Ha wa H w [.row 4 1 v129 n130 cs131, .row 44 1 v29 0 []] ∧ Inc H121 H ∧ Els (up wa.heap.size H) eB 1 cs131 s128 ∧ f 1 = v1 ∧ f 2 = Value.pointer (some ⟨b21, 0, none⟩) ∧ f 6 = v29 ∧ f 7 = v129 ∧ f 8 = Value.int .i64 s77.2) | .rt x => x.elim) hq ⟨_, _, _, _, S123, (Inc.rfl _), (els80.mono (up_mono ((r106.run.inc.tr i115).tr r124.inc))), rfl, k86, k87, k88, k89, k90, rfl⟩ ?_ ?_) ?_
          ·
            clear hp hq
            rintro i128 y127 s128 f137 w136 ⟨H133, v129, n130, cs131, S134, i135, els132, k138, k139, k140, k141, k142, k143, k144⟩ hx128 o197 hp
            refine FW.seq (FW.seq (FW.region ?_))
            refine FL.v (E.move k138) ?_
            refine FL.v (E.move k144) ?_
            refine FL.v (E.lenP te44 rfl h126) ?_
            refine FL.v (E.lssT rfl rfl (lss_len hx128)) ?_
            refine FL.nil ?_
            refine FW.condT rfl rfl ?_
            refine FW.skip (FW.seq (FW.block (FW.seq ?_)))
            refine FW.draw (fun w' => Run w136.heap.size H133 w136 H133 w') (by kernel_rfl) (by kernel_rfl) (run_drew S134.sl) ?_
            refine FD.val rfl rfl rfl (fun w' hw' => (E.move k144)) ?_
            refine FD.val rfl rfl rfl (fun w' hw' => (E.move k138)) ?_
            obtain ⟨p145, cs146, pt147, l148, at149, rel150⟩ := h126.at (ix_nat hx128)
            obtain rfl := eI_open rel150
            refine FD.val rfl rfl rfl (fun w' hw' => (E.indexAddr te44 rfl rfl pt147)) ?_
            refine FD.val rfl rfl rfl (fun w' hw' => (E.load rfl (run_load0 Tryz.isAgg3 ((at149.mono i135).now (S134.call hw').sl) rfl))) ?_
            refine FD.val rfl rfl rfl (fun w' hw' => (E.fieldAddr tf28_1 k140)) ?_
            refine FD.val rfl rfl rfl (fun w' hw' => (E.load rfl (run_load1 Tryz.isAgg22 ((at28.mono (((((i42.tr i83).tr r106.run.inc).tr i115).tr r124.inc).tr i135)).now (S134.call hw').sl) rfl))) ?_
            refine FD.val rfl rfl rfl (fun w' hw' => (E.lenP te22 rfl p0_1)) ?_
            refine FD.val rfl rfl rfl (fun w' hw' => (E.geq rfl rfl)) ?_
            refine FD.nil ?_
            intro w151 r153
            have S152 := S134.call r153
            rcases ifB hp with ⟨c154, hp⟩ | ⟨c154, hp⟩
            ·
              refine FW.condT rfl c154 ?_
              obtain ⟨x170, hx171, hp⟩ := bnd hp
              obtain ⟨xs176, hput177, hp⟩ := bnd hp
              refine FW.drawB (Sl H133) (fun f w => ∃ H : GH, ∃ v181 : Value, ∃ n182 : Nat, ∃ cs183 : List Value, St Ha wa H w [.row 4 1 v181 n182 cs183, .row 44 1 v29 0 []] ∧ Inc H133 H ∧ Els (up wa.heap.size H) eB 1 cs183 xs176 ∧ f 1 = v1 ∧ f 2 = Value.pointer (some ⟨b21, 0, none⟩) ∧ f 6 = v29 ∧ f 7 = v181 ∧ f 8 = Value.int .i64 s77.2 ∧ f 11 = v125 ∧ f 12 = Value.int .i64 ((i128 : Nat) : Int)) (by kernel_rfl) S152.sl ?_ ?_
              ·
                intro w155 r156
                have S157 := S152.call r156
                refine FB.t (i := 0) (bs 11 1) rfl (SP.nil S157.sl) rfl (fun w' hw' => (E.move k142)) ?_
                refine FB.t (i := 1) (bs 11 3) rfl (SP.nil S157.sl) rfl (fun w' hw' => (E.move k144)) ?_
                refine FB.t (i := 2) (bs 11 7) rfl (SP.nil S157.sl) rfl (fun w' hw' => (E.move k138)) ?_
                obtain ⟨p158, cs159, pt160, l161, at162, rel163⟩ := h126.at (ix_nat hx128)
                obtain rfl := eI_open rel163
                refine FB.t (i := 3) (bs 11 15) rfl (SP.nil S157.sl) rfl (fun w' hw' => (E.indexAddr te44 rfl rfl pt160)) ?_
                refine FB.t (i := 4) (bs 11 31) rfl (SP.nil S157.sl) rfl (fun w' hw' => (E.load rfl (run_load0 Tryz.isAgg3 ((at162.mono i135).now hw') rfl))) ?_
                refine FB.t (i := 5) (bs 11 63) rfl (SP.nil S157.sl) rfl (fun w' hw' => (E.fieldAddr tf28_1 k140)) ?_
                refine FB.t (i := 6) (bs 11 127) rfl (SP.nil S157.sl) rfl (fun w' hw' => (E.load rfl (run_load1 Tryz.isAgg22 ((at28.mono (((((i42.tr i83).tr r106.run.inc).tr i115).tr r124.inc).tr i135)).now hw') rfl))) ?_
                refine FB.t (i := 7) (bs 11 255) rfl (SP.nil S157.sl) rfl (fun w' hw' => (E.lenP te22 rfl p0_1)) ?_
                refine FB.t (i := 8) (bs 11 511) rfl (SP.nil S157.sl) rfl (fun w' hw' => (E.sub rfl rfl)) ?_
                obtain ⟨p164, cs165, pt166, l167, at168, rel169, hall172⟩ := S157.row_atA (i := 0) rfl els132 (by decide) hx171
                obtain rfl := eB_open rel169
                refine FB.t (i := 9) (bs 11 1023) rfl (SP.nil S157.sl) rfl (fun w' hw' => (E.indexAddr te77 rfl rfl pt166)) ?_
                refine FB.all1 (i := 10) (by kernel_rfl) ?_
                ·
                  obtain ⟨w173, cs179, run174, S175, els178, ce180⟩ := S157.putEls (P := Tryz.prog) (t := 4) (i := 0) rfl els132 hput177 pt166 Tryz.sizeOf4 (u := Value.bool true) (c := [Value.bool true]) rfl rfl (ones_cons rfl ones_nil) rfl
                  have S175 : St Ha wa H133 w173 [.row 4 1 v129 n130 cs179, .row 44 1 v29 0 []] := S175
                  refine FC.act (l' := (bs 11 2047)) rfl (by kernel_rfl) rfl rfl (E.store rfl rfl run174) ?_
                  refine ⟨(SP.nil S175.sl), ?_⟩
                  exact FB.done (by kernel_rfl) ⟨_, _, _, _, S175, (Inc.rfl _), els178, k139, k140, k141, k142, k143, k144, k138⟩
              ·
                rintro f189 w188 ⟨H185, v181, n182, cs183, S186, i187, els184, k190, k191, k192, k193, k194, k195, k196⟩
                refine FW.region ?_
                refine FL.v (E.move k196) ?_
                refine FL.v (E.add rfl rfl) ?_
                refine FL.v (E.assign (v := Value.int .i64 (wr (((i128 : Nat) : Int) + 1))) rfl) ?_
                refine FL.nil ?_
                obtain rfl := Option.some.inj hp
                exact ⟨rfl, ⟨_, _, _, _, S186, (i135.tr i187), els184, (nat_succ rfl (lt_of_get hx128) (h126.mono (i135.tr i187)).le), k190, k191, k192, k193, k194, k195⟩⟩
            ·
              refine FW.condF rfl c154 ?_
              refine FW.skip (FW.region ?_)
              refine FL.v (E.move k138) ?_
              refine FL.v (E.add rfl rfl) ?_
              refine FL.v (E.assign (v := Value.int .i64 (wr (((i128 : Nat) : Int) + 1))) rfl) ?_
              refine FL.nil ?_
              obtain rfl := Option.some.inj hp
              exact ⟨rfl, ⟨_, _, _, _, S152, i135, els132, (nat_succ rfl (lt_of_get hx128) (h126.mono i135).le), k139, k140, k141, k142, k143, k144⟩⟩
          ·
            clear hp hq
            rintro s128 f212 w211 ⟨H208, v129, n130, cs131, S209, i210, els132, k213, k214, k215, k216, k217, k218, k219⟩
            refine FW.seq (FW.seq (FW.region ?_))
            refine FL.v (E.move k213) ?_
            refine FL.v (E.move k219) ?_
            refine FL.v (E.lenP te44 rfl h126) ?_
            refine FL.v (E.lss rfl rfl) ?_
            refine FL.nil ?_
            refine FW.condF rfl dlt_len ?_
            refine FW.exit ?_
            exact ⟨nofun, rfl, ⟨_, _, _, _, S209, i210, els132, k214, k215, k216, k217, k218⟩⟩
          ·
            clear hq
            intro e f202 w201 hD
            rcases q128 with s128 | x128
            ·
              obtain ⟨rfl, hD⟩ := hD
              obtain ⟨H198, v129, n130, cs131, S199, i200, els132, k203, k204, k205, k206, k207⟩ := hD
              replace hp := el_go hp
              refine FW.region ?_
              refine FL.v (E.move k207) ?_
              refine FL.v (E.sub rfl rfl) ?_
              refine FL.v (E.assign (v := Value.int .i64 (wr (s77.2 - 1))) rfl) ?_
              refine FL.nil ?_
              obtain rfl := Option.some.inj hp
              exact ⟨rfl, ⟨_, _, _, _, S199, ((((i83.tr r106.run.inc).tr i115).tr r124.inc).tr i200), els132, k203, k204, k205, k206, rfl⟩⟩
            · exact x128.elim
      ·
        refine FW.condF rfl c91 ?_
        refine FW.exit ?_
        obtain rfl := Option.some.inj hp
        exact ⟨nofun, rfl, ⟨_, _, _, _, S82, i83, els80, k86, k88, k89⟩⟩
    ·
      clear hq
      intro e f225 w224 hD
      rcases q77 with s77 | x77
      ·
        obtain ⟨rfl, hD⟩ := hD
        obtain ⟨H221, v39, n78, cs79, S222, i223, els80, k226, k227, k228⟩ := hD
        replace hp := el_go hp
        refine FW.seq (FW.seq (FW.region ?_))
        refine FL.v (E.assign (v := Value.int .i64 0) rfl) ?_
        refine FL.nil ?_
        obtain ⟨q230, hq, hp⟩ := bndR hp
        refine FW.block ?_
        refine FW.mono (FW.forL (S := (List (List Int))) (X := Empty) (fun (i230 : Nat) (s230 : (List (List Int))) f w => ∃ H : GH, ∃ v231 : Value, ∃ n232 : Nat, ∃ cs233 : List Value, St Ha wa H w [.row 4 1 v39 n78 cs79, .row 44 1 v231 n232 cs233] ∧ Inc H221 H ∧ Els (up wa.heap.size H) (eL eI 1) 1 cs233 s230 ∧ (bl cs233).Nodup ∧ f 13 = Value.int .i64 ((i230 : Nat) : Int) ∧ f 1 = v1 ∧ f 6 = v231 ∧ f 7 = v39) (fun (q : Rs (List (List Int)) Empty) e f w => match q with | .go s230 => e = Exit.exit 4 ∧ (∃ H : GH, ∃ v231 : Value, ∃ n232 : Nat, ∃ cs233 : List Value, St Ha wa H w [.row 4 1 v39 n78 cs79, .row 44 1 v231 n232 cs233] ∧ Inc H221 H ∧ Els (up wa.heap.size H) (eL eI 1) 1 cs233 s230 ∧ (bl cs233).Nodup ∧ f 6 = v231) | .rt x => x.elim) hq ⟨_, _, _, _, S222, (Inc.rfl _), (els33.mono (up_mono (i42.tr i223))), (show (bl []).Nodup from List.nodup_nil), rfl, k226, k227, k228⟩ ?_ ?_) ?_
        ·
          clear hp hq
          rintro i230 y229 s230 f240 w239 ⟨H236, v231, n232, cs233, S237, i238, els234, nd235, k241, k242, k243, k244⟩ hx230 o299 hp
          refine FW.seq (FW.seq (FW.region ?_))
          refine FL.v (E.move k241) ?_
          refine FL.v (E.move k242) ?_
          refine FL.v (E.lenP te22 rfl p1) ?_
          refine FL.v (E.lssT rfl rfl (lss_len hx230)) ?_
          refine FL.nil ?_
          refine FW.condT rfl rfl ?_
          refine FW.skip (FW.seq (FW.block (FW.seq (FW.region ?_))))
          refine FL.v (E.move k244) ?_
          refine FL.v (E.move k241) ?_
          obtain ⟨x251, hx252, hp⟩ := bnd hp
          obtain ⟨p245, cs246, pt247, l248, at249, rel250⟩ := S237.row_at (i := 0) rfl els80 (by decide) hx252
          obtain rfl := eB_open rel250
          refine FL.v (E.indexAddr te77 rfl rfl pt247) ?_
          refine FL.v (E.load rfl (run_load0 Tryz.isAgg4 at249 rfl)) ?_
          refine FL.nil ?_
          rcases ifB hp with ⟨c253, hp⟩ | ⟨c253, hp⟩
          ·
            refine FW.condT rfl c253 ?_
            refine FW.region ?_
            refine FL.v (E.move k243) ?_
            obtain ⟨v254, w255, run256, S257⟩ := S237.buildSlice (P := Tryz.prog) te44 [] (parts := #[]) (cells := []) rfl szs_nil fc_nil ones_nil (Nat.le_of_ble_eq_true rfl)
            have els258 : Els (up wa.heap.size H236) eI 1 [] [] := Els.nil
            refine FL.v (E.buildSlice (B0) run256) ?_
            refine FL.v (E.move k242) ?_
            refine FL.v (E.move k241) ?_
            obtain ⟨p259, cs260, pt261, l262, at263, rel264⟩ := p1.at (ix_nat hx230)
            obtain ⟨v265, rfl, h266⟩ := eL_open rel264
            refine FL.v (E.indexAddr te22 rfl rfl pt261) ?_
            refine FL.v (E.load rfl (run_load0 Tryz.isAgg44 ((at263.mono (((i27.tr i42).tr i223).tr i238)).now S257.sl) rfl)) ?_
            obtain ⟨xs267, hz268, hp⟩ := bnd hp
            obtain ⟨v269, w272, n270, cs271, run273, S274, els275⟩ := S257.appendP (P := Tryz.prog) (Inc.rfl _) te44 (i := 0) rfl (els258.mono upI) (h266.mono (((i27.tr i42).tr i223).tr i238)) hz268
            have S274 : St Ha wa H236 w272 [.row 3 1 v269 n270 cs271, .row 4 1 v39 n78 cs79, .row 44 1 v231 n232 cs233] := S274
            have els275 : Els (up wa.heap.size H236) eI 1 cs271 xs267 := els275.any (fun _ _ _ _ h => h)
            refine FL.v (E.append rfl rfl run273) ?_
            obtain ⟨H276, S277, i278, h279, nv280⟩ := S274.sealRowU (i := 0) (l' := [.row 4 1 v39 n78 cs79, .row 44 1 v231 n232 cs233]) rfl els275 (by decide) rfl
            obtain ⟨v281, w282, run283, S284⟩ := S277.buildSlice (P := Tryz.prog) te22 [v269] (parts := #[(0, v269)]) (cells := [v269]) rfl (szs_cons (cells_size h279.cells) szs_nil) (fc_cons h279.cells fc_nil) (ones_cons h279.one ones_nil) (Nat.le_of_ble_eq_true rfl)
            have els285 : Els (up wa.heap.size H276) (eL eI 1) 1 [v269] [xs267] := (Els.snoc (H := (up wa.heap.size H276)) (E := (eL eI 1)) (k := 1) (c := [v269]) (x := xs267) Els.nil rfl ⟨_, rfl, h279⟩)
            have nd286 : (bl [v269]).Nodup := by exact nd_one v269
            refine FL.v (E.buildSlice (B1 rfl) run283) ?_
            obtain ⟨xs287, hz288, hp⟩ := bnd hp
            obtain ⟨v289, w292, n290, cs291, run293, S294, els295, ce296⟩ := S284.appendO (P := Tryz.prog) te22 (i := 2) (j := 0) rfl (els234.mono (up_mono i278)) rfl els285 hz288
            have S294 : St Ha wa H276 w292 [.row 44 1 v281 1 [v269], .row 4 1 v39 n78 cs79, .row 44 1 v289 n290 cs291] := S294
            have nd297 : (bl cs291).Nodup := by rw [ce296]; exact nd_app nd235 nd286 (Els.dom (els234.mono (upI.tr (Inc.rfl _)))) (by exact nv280)
            have S298 : St Ha wa H276 w292 [.row 4 1 v39 n78 cs79, .row 44 1 v289 n290 cs291] := S294.drop 0
            refine FL.v (E.append rfl rfl run293) ?_
            refine FL.v (E.assign (v := v289) rfl) ?_
            refine FL.nil (FW.region ?_)
            refine FL.v (E.move k241) ?_
            refine FL.v (E.add rfl rfl) ?_
            refine FL.v (E.assign (v := Value.int .i64 (wr (((i230 : Nat) : Int) + 1))) rfl) ?_
            refine FL.nil ?_
            obtain rfl := Option.some.inj hp
            exact ⟨rfl, ⟨_, _, _, _, S298, (i238.tr i278), els295, nd297, (nat_succ rfl (lt_of_get hx230) (p1.mono ((((i27.tr i42).tr i223).tr i238).tr i278)).le), k242, rfl, k244⟩⟩
          ·
            refine FW.condF rfl c253 ?_
            refine FW.skip (FW.region ?_)
            refine FL.v (E.move k241) ?_
            refine FL.v (E.add rfl rfl) ?_
            refine FL.v (E.assign (v := Value.int .i64 (wr (((i230 : Nat) : Int) + 1))) rfl) ?_
            refine FL.nil ?_
            obtain rfl := Option.some.inj hp
            exact ⟨rfl, ⟨_, _, _, _, S237, i238, els234, nd235, (nat_succ rfl (lt_of_get hx230) (p1.mono (((i27.tr i42).tr i223).tr i238)).le), k242, k243, k244⟩⟩
        ·
          clear hp hq
          rintro s230 f310 w309 ⟨H306, v231, n232, cs233, S307, i308, els234, nd235, k311, k312, k313, k314⟩
          refine FW.seq (FW.seq (FW.region ?_))
          refine FL.v (E.move k311) ?_
          refine FL.v (E.move k312) ?_
          refine FL.v (E.lenP te22 rfl p1) ?_
          refine FL.v (E.lss rfl rfl) ?_
          refine FL.nil ?_
          refine FW.condF rfl dlt_len ?_
          refine FW.exit ?_
          exact ⟨nofun, rfl, ⟨_, _, _, _, S307, i308, els234, nd235, k313⟩⟩
        ·
          clear hq
          intro e f304 w303 hD
          rcases q230 with s230 | x230
          ·
            obtain ⟨rfl, hD⟩ := hD
            obtain ⟨H300, v231, n232, cs233, S301, i302, els234, nd235, k305⟩ := hD
            replace hp := el_go hp
            refine FW.seq (FW.region ?_)
            refine FL.v (E.move k305) ?_
            refine FL.v (E.assign (v := v231) rfl) ?_
            refine FL.v (E.assign (v := Value.bool true) rfl) ?_
            refine FL.nil ?_
            refine FW.ret ?_
            obtain rfl := Option.some.inj hp
            exact ⟨.inr rfl, res2 rfl rfl rfl ⟨_, _, _, _, rfl, (S301.sel [1] (by decide) rfl), els234, nd235⟩⟩
          · exact x230.elim
      · exact x77.elim

theorem w_impl_within {Ha : GH} {wa : World} (hs : Sl Ha wa) (a0 : Int) (a1 : Int) (a2 : Int) :
  Calls Tryz.prog 53 #[Value.int .i64 a0, Value.int .i64 a1, Value.int .i64 a2] wa (Sc Ha wa (Value.bool (PF.impl_within a0 a1 a2))) := by
 obtain ⟨r, hp⟩ : ∃ r, (PF.impl_within a0 a1 a2) = r := ⟨_, rfl⟩
 rw [hp]
 unfold PF.impl_within at hp
 have S0 := St.init hs
 refine calls_go (N := 15) (args := [Value.int .i64 a0, Value.int .i64 a1, Value.int .i64 a2]) Tryz.func53 rfl rfl rfl ?_
 refine FW.seq (FW.region ?_)
 refine FL.v (E.assign (v := Value.bool false) rfl) ?_
 refine FL.nil (FW.seq (FW.region ?_))
 refine FL.v (E.move (v := Value.int .i64 a0) rfl) ?_
 refine FL.v (E.move (v := Value.int .i64 a1) rfl) ?_
 refine FL.v (E.geq rfl rfl) ?_
 refine FL.v (E.move (v := Value.bool (decide (a1 ≤ a0))) rfl) ?_
 refine FL.cut 4 (fun f w => ∃ H : GH, St Ha wa H w [] ∧ Inc Ha H ∧ f 14 = Value.bool (bif (decide (a1 ≤ a0)) then (decide (a0 ≤ a2)) else false)) ?_ ?_
 ·
  rcases bcase (decide (a1 ≤ a0)) with c27 | c27
  ·
   refine FL.val (wF_yes rfl rfl rfl c27) rfl rfl (E.move (v := Value.int .i64 a0) rfl) ?_
   refine FL.val (wF_yes rfl rfl rfl c27) rfl rfl (E.move (v := Value.int .i64 a2) rfl) ?_
   refine FL.val (wF_yes rfl rfl rfl c27) rfl rfl (E.leq rfl rfl) ?_
   refine FL.v (E.pickT rfl c27 rfl) ?_
   exact FL.nil ⟨rfl, _, S0, (Inc.rfl _), (congrArg Value.bool (bifT c27).symm)⟩
  ·
   refine FL.skip (wF_no rfl rfl rfl c27) rfl ?_
   refine FL.skip (wF_no rfl rfl rfl c27) rfl ?_
   refine FL.skip (wF_no rfl rfl rfl c27) rfl ?_
   refine FL.v (E.pickF rfl c27 rfl) ?_
   exact FL.nil ⟨rfl, _, S0, (Inc.rfl _), (congrArg Value.bool (bifF c27).symm)⟩
 rintro f26 w25 ⟨H22, S23, i24, k28⟩
 refine FL.v (E.assign k28) ?_
 refine FL.nil ?_
 refine FW.ret ?_
 obtain rfl := hp
 exact ⟨.inr rfl, res1 rfl rfl ⟨rfl, S23.back⟩⟩

theorem w_impl_isLiteral {Ha : GH} {wa : World} (hs : Sl Ha wa) (a0 : Int) (a1 : Int) :
  Calls Tryz.prog 140 #[Value.int .i64 a0, Value.int .i64 a1] wa (Sc Ha wa (Value.bool (PF.impl_isLiteral a0 a1))) := by
 obtain ⟨r, hp⟩ : ∃ r, (PF.impl_isLiteral a0 a1) = r := ⟨_, rfl⟩
 rw [hp]
 unfold PF.impl_isLiteral at hp
 have S0 := St.init hs
 refine calls_go (N := 14) (args := [Value.int .i64 a0, Value.int .i64 a1]) Tryz.func140 rfl rfl rfl ?_
 refine FW.seq (FW.region ?_)
 refine FL.v (E.assign (v := Value.bool false) rfl) ?_
 refine FL.nil (FW.seq (FW.region ?_))
 refine FL.v (E.move (v := Value.int .i64 a1) rfl) ?_
 refine FL.v (E.neq rfl rfl) ?_
 refine FL.v (E.move (v := Value.bool (!(a1 == 0))) rfl) ?_
 refine FL.cut 6 (fun f w => ∃ H : GH, St Ha wa H w [] ∧ Inc Ha H ∧ f 13 = Value.bool (bif (!(a1 == 0)) then (PF.impl_within a1 (wr (-a0)) a0) else false)) ?_ ?_
 ·
  rcases bcase (!(a1 == 0)) with c30 | c30
  ·
   refine FL.val (wF_yes rfl rfl rfl c30) rfl rfl (E.move (v := Value.int .i64 a1) rfl) ?_
   refine FL.val (wF_yes rfl rfl rfl c30) rfl rfl (E.move (v := Value.int .i64 a0) rfl) ?_
   refine FL.val (wF_yes rfl rfl rfl c30) rfl rfl (E.neg rfl) ?_
   refine FL.val (wF_yes rfl rfl rfl c30) rfl rfl (E.move (v := Value.int .i64 a0) rfl) ?_
   refine FL.call (wF_yes rfl rfl rfl c30) rfl rfl (E.call Tryz.call53 (A3 rfl rfl rfl)) (w_impl_within S0.sl a1 (wr (-a0)) a0) ?_
   rintro e w31 ⟨rfl, r32⟩
   refine ⟨_, rfl, ?_⟩
   have S33 := S0.call r32
   refine FL.v (E.pickT rfl c30 rfl) ?_
   exact FL.nil ⟨rfl, _, S33, (Inc.rfl _), (congrArg Value.bool (bifT c30).symm)⟩
  ·
   refine FL.skip (wF_no rfl rfl rfl c30) rfl ?_
   refine FL.skip (wF_no rfl rfl rfl c30) rfl ?_
   refine FL.skip (wF_no rfl rfl rfl c30) rfl ?_
   refine FL.skip (wF_no rfl rfl rfl c30) rfl ?_
   refine FL.skip (wF_no rfl rfl rfl c30) rfl ?_
   refine FL.v (E.pickF rfl c30 rfl) ?_
   exact FL.nil ⟨rfl, _, S0, (Inc.rfl _), (congrArg Value.bool (bifF c30).symm)⟩
 rintro f29 w28 ⟨H25, S26, i27, k34⟩
 refine FL.v (E.assign k34) ?_
 refine FL.nil ?_
 refine FW.ret ?_
 obtain rfl := hp
 exact ⟨.inr rfl, res1 rfl rfl ⟨rfl, S26.back⟩⟩

theorem w_impl_abs {Ha : GH} {wa : World} (hs : Sl Ha wa) (a0 : Int) :
  Calls Tryz.prog 91 #[Value.int .i64 a0] wa (Sc Ha wa (Value.int .i64 (PF.impl_abs a0))) := by
 obtain ⟨r, hp⟩ : ∃ r, (PF.impl_abs a0) = r := ⟨_, rfl⟩
 rw [hp]
 unfold PF.impl_abs at hp
 have S0 := St.init hs
 refine calls_go (N := 7) (args := [Value.int .i64 a0]) Tryz.func91 rfl rfl rfl ?_
 refine FW.seq (FW.region ?_)
 refine FL.v (E.assign (v := Value.int .i64 0) rfl) ?_
 refine FL.nil (FW.seq (FW.region ?_))
 refine FL.v (E.move (v := Value.int .i64 a0) rfl) ?_
 refine FL.v (E.move (v := Value.int .i64 a0) rfl) ?_
 refine FL.v (E.neg rfl) ?_
 refine FL.v (E.max2 rfl rfl) ?_
 refine FL.v (E.assign (v := Value.int .i64 (mx a0 (wr (-a0)))) rfl) ?_
 refine FL.nil ?_
 refine FW.ret ?_
 obtain rfl := hp
 exact ⟨.inr rfl, res1 rfl rfl ⟨rfl, S0.back⟩⟩

theorem w_impl_varsOk {Ha : GH} {wa : World} (hs : Sl Ha wa) (a0 : Int) :
  Calls Tryz.prog 130 #[Value.int .i64 a0] wa (Sc Ha wa (Value.bool (PF.impl_varsOk a0))) := by
 obtain ⟨r, hp⟩ : ∃ r, (PF.impl_varsOk a0) = r := ⟨_, rfl⟩
 rw [hp]
 unfold PF.impl_varsOk at hp
 have S0 := St.init hs
 refine calls_go (N := 5) (args := [Value.int .i64 a0]) Tryz.func130 rfl rfl rfl ?_
 refine FW.seq (FW.region ?_)
 refine FL.v (E.assign (v := Value.bool false) rfl) ?_
 refine FL.nil (FW.seq (FW.region ?_))
 refine FL.v (E.move (v := Value.int .i64 a0) rfl) ?_
 refine FL.call rfl rfl rfl (E.call Tryz.call53 (A3 rfl rfl rfl)) (w_impl_within S0.sl a0 0 12) ?_
 rintro e w21 ⟨rfl, r22⟩
 refine ⟨_, rfl, ?_⟩
 have S23 := S0.call r22
 refine FL.v (E.assign (v := Value.bool (PF.impl_within a0 0 12)) rfl) ?_
 refine FL.nil ?_
 refine FW.ret ?_
 obtain rfl := hp
 exact ⟨.inr rfl, res1 rfl rfl ⟨rfl, S23.back⟩⟩

theorem w_impl_IsClause {Ha : GH} {wa : World} (hs : Sl Ha wa) (a0 : Int) (v1 : Value) (a1 : List Int) (p1 : RSl Ha eI 1 v1 a1) {r : Bool} (hp : (PF.impl_IsClause a0 a1) = some r) :
  Calls Tryz.prog 112 #[Value.int .i64 a0, v1] wa (Sc Ha wa (Value.bool r)) := by
 unfold PF.impl_IsClause at hp
 have S0 := St.init hs
 refine calls_go (N := 36) (args := [Value.int .i64 a0, v1]) Tryz.func112 rfl rfl rfl ?_
 refine FW.seq (FW.region ?_)
 refine FL.v (E.assign (v := Value.bool false) rfl) ?_
 refine FL.nil (FW.seq (FW.seq (FW.region ?_)))
 refine FL.v (E.move (v := v1) rfl) ?_
 refine FL.v (E.lenP te44 rfl p1) ?_
 refine FL.v (E.move (v := Value.int .i64 0) rfl) ?_
 refine FL.nil ?_
 obtain ⟨q22, hq, hp⟩ := bndR hp
 refine FW.block ?_
 refine FW.mono (FW.forL (S := Unit) (X := Bool) (fun (i22 : Nat) (s22 : Unit) f w => ∃ H : GH, St Ha wa H w [] ∧ Inc Ha H ∧ f 9 = Value.int .i64 ((i22 : Nat) : Int) ∧ f 0 = Value.int .i64 a0 ∧ f 1 = v1 ∧ f 7 = v1 ∧ f 8 = Value.int .i64 (len a1)) (fun q e f w => match q with | .go s22 => e = Exit.exit 0 ∧ (∃ H : GH, St Ha wa H w [] ∧ Inc Ha H ∧ f 0 = Value.int .i64 a0) | .rt x => ((e = Exit.ret) ∧ (fun e f w => (e = Exit.normal ∨ e = Exit.ret) ∧ ∀ a, Fr (δ := []) 36 a f → ∃ v, (results Tryz.f112 a.tmps).run Tryz.prog w = .ok v w ∧ (Sc Ha wa (Value.bool x)) (.returned v) w) e f w)) hq ⟨_, S0, (Inc.rfl _), rfl, rfl, rfl, rfl, rfl⟩ ?_ ?_) ?_
 ·
  clear hp hq
  rintro i22 y21 s22 f121 w120 ⟨H117, S118, i119, k122, k123, k124, k125, k126⟩ hx22 o211 hp
  refine FW.seq (FW.region ?_)
  refine FL.v (E.lssT k122 k126 (lss_len hx22)) ?_
  refine FL.nil (FW.seq ?_)
  refine FW.condT rfl rfl ?_
  refine FW.skip (FW.seq (FW.block (FW.seq (FW.region ?_))))
  refine FL.v (E.move k122) ?_
  obtain ⟨p127, cs128, pt129, l130, at131, rel132⟩ := p1.at (ix_nat hx22)
  obtain rfl := eI_open rel132
  refine FL.v (E.indexAddr te44 k125 k122 pt129) ?_
  refine FL.v (E.load rfl (run_load0 Tryz.isAgg3 ((at131.mono i119).now S118.sl) rfl)) ?_
  refine FL.v (E.assign (v := Value.int .i64 ((i22 : Nat) : Int)) rfl) ?_
  refine FL.v (E.assign (v := Value.int .i64 y21) rfl) ?_
  refine FL.nil (FW.seq ?_)
  refine FW.draw (fun w' => Run w120.heap.size H117 w120 H117 w') (by kernel_rfl) (by kernel_rfl) (run_drew S118.sl) ?_
  refine FD.val rfl rfl rfl (fun w' hw' => (E.move k123)) ?_
  refine FD.val rfl rfl rfl (fun w' hw' => (E.move (v := Value.int .i64 y21) rfl)) ?_
  refine FD.call rfl rfl rfl (fun w' hw' => (E.call Tryz.call140 (A2 rfl rfl))) (fun w' hw' => Calls.cls hw' (w_impl_isLiteral (S118.call hw').sl a0 y21)) ?_
  refine FD.val rfl rfl rfl (fun w' hw' => (E.not rfl)) ?_
  refine FD.val rfl rfl rfl (fun w' hw' => (E.move (v := Value.bool (!(PF.impl_isLiteral a0 y21))) rfl)) ?_
  obtain ⟨t164, hqt164, hp⟩ := bnd hp
  refine FD.cut 14 (fun f => f 0 = Value.int .i64 a0 ∧ f 1 = v1 ∧ f 7 = v1 ∧ f 8 = Value.int .i64 (len a1) ∧ f 9 = Value.int .i64 ((i22 : Nat) : Int) ∧ f 32 = Value.bool t164) ?_ ?_
  ·
   clear hp; have hp := hqt164; clear hqt164
   rcases ifB hp with ⟨c170, hp⟩ | ⟨c170, hp⟩
   ·
    refine FD.skip (wF_no rfl rfl rfl c170) rfl ?_
    refine FD.skip (wF_no rfl rfl rfl c170) rfl ?_
    refine FD.skip (wF_no rfl rfl rfl c170) rfl ?_
    refine FD.skip (wF_undef rfl rfl rfl) rfl ?_
    refine FD.skip (wF_undef rfl rfl rfl) rfl ?_
    refine FD.skip (wF_undef rfl rfl rfl) rfl ?_
    refine FD.skip (wF_undef rfl rfl rfl) rfl ?_
    refine FD.skip (wF_undef rfl rfl rfl) rfl ?_
    refine FD.skip (wF_undef rfl rfl rfl) rfl ?_
    refine FD.skip (wF_undef rfl rfl rfl) rfl ?_
    refine FD.skip (wF_undef rfl rfl rfl) rfl ?_
    refine FD.skip (wF_undef rfl rfl rfl) rfl ?_
    refine FD.skip (wF_no rfl rfl rfl c170) rfl ?_
    obtain rfl := Option.some.inj hp
    refine FD.val rfl rfl rfl (fun w' hw' => (E.pickT rfl c170 rfl)) ?_
    exact FD.nil ⟨k123, k124, k125, k126, k122, rfl⟩
   ·
    refine FD.val (wF_yes rfl rfl rfl c170) rfl rfl (fun w' hw' => (E.move (v := Value.int .i64 ((i22 : Nat) : Int)) rfl)) ?_
    refine FD.val (wF_yes rfl rfl rfl c170) rfl rfl (fun w' hw' => (E.gtr rfl rfl)) ?_
    refine FD.val (wF_yes rfl rfl rfl c170) rfl rfl (fun w' hw' => (E.move (v := Value.bool (decide (0 < ((i22 : Nat) : Int)))) rfl)) ?_
    obtain ⟨t179, hqt179, hp⟩ := bnd hp
    refine FD.cut 10 (fun f => f 0 = Value.int .i64 a0 ∧ f 1 = v1 ∧ f 7 = v1 ∧ f 8 = Value.int .i64 (len a1) ∧ f 9 = Value.int .i64 ((i22 : Nat) : Int) ∧ f 18 = Value.bool (!(PF.impl_isLiteral a0 y21)) ∧ f 31 = Value.bool t179) ?_ ?_
    ·
     clear hp; have hp := hqt179; clear hqt179
     rcases ifB hp with ⟨c185, hp⟩ | ⟨c185, hp⟩
     ·
      refine FD.val (wF_yes rfl rfl rfl c185) rfl rfl (fun w' hw' => (E.move (v := Value.int .i64 y21) rfl)) ?_
      refine FD.call (wF_yes rfl rfl rfl c185) rfl rfl (fun w' hw' => (E.call Tryz.call91 (A1 rfl))) (fun w' hw' => Calls.cls hw' (w_impl_abs (S118.call hw').sl y21)) ?_
      refine FD.val (wF_yes rfl rfl rfl c185) rfl rfl (fun w' hw' => (E.move k124)) ?_
      refine FD.val (wF_yes rfl rfl rfl c185) rfl rfl (fun w' hw' => (E.move (v := Value.int .i64 ((i22 : Nat) : Int)) rfl)) ?_
      refine FD.val (wF_yes rfl rfl rfl c185) rfl rfl (fun w' hw' => (E.sub rfl rfl)) ?_
      obtain ⟨x192, hx193, hp⟩ := bnd hp
      obtain ⟨p186, cs187, pt188, l189, at190, rel191⟩ := p1.at hx193
      obtain rfl := eI_open rel191
      refine FD.val (wF_yes rfl rfl rfl c185) rfl rfl (fun w' hw' => (E.indexAddr te44 rfl rfl pt188)) ?_
      refine FD.val (wF_yes rfl rfl rfl c185) rfl rfl (fun w' hw' => (E.load rfl (run_load0 Tryz.isAgg3 ((at190.mono i119).now (S118.call hw').sl) rfl))) ?_
      refine FD.call (wF_yes rfl rfl rfl c185) rfl rfl (fun w' hw' => (E.call Tryz.call91 (A1 rfl))) (fun w' hw' => Calls.cls hw' (w_impl_abs (S118.call hw').sl x192)) ?_
      refine FD.val (wF_yes rfl rfl rfl c185) rfl rfl (fun w' hw' => (E.leq rfl rfl)) ?_
      obtain rfl := Option.some.inj hp
      refine FD.val (wF_yes rfl rfl rfl c170) rfl rfl (fun w' hw' => (E.pickT rfl c185 rfl)) ?_
      exact FD.nil ⟨k123, k124, k125, k126, k122, rfl, rfl⟩
     ·
      refine FD.skip (wF_no rfl rfl rfl c185) rfl ?_
      refine FD.skip (wF_no rfl rfl rfl c185) rfl ?_
      refine FD.skip (wF_no rfl rfl rfl c185) rfl ?_
      refine FD.skip (wF_no rfl rfl rfl c185) rfl ?_
      refine FD.skip (wF_no rfl rfl rfl c185) rfl ?_
      refine FD.skip (wF_no rfl rfl rfl c185) rfl ?_
      refine FD.skip (wF_no rfl rfl rfl c185) rfl ?_
      refine FD.skip (wF_no rfl rfl rfl c185) rfl ?_
      refine FD.skip (wF_no rfl rfl rfl c185) rfl ?_
      obtain rfl := Option.some.inj hp
      refine FD.val (wF_yes rfl rfl rfl c170) rfl rfl (fun w' hw' => (E.pickF rfl c185 rfl)) ?_
      exact FD.nil ⟨k123, k124, k125, k126, k122, rfl, rfl⟩
    rintro f184 ⟨k194, k195, k196, k197, k198, k199, k200⟩
    obtain rfl := Option.some.inj hp
    refine FD.val rfl rfl rfl (fun w' hw' => (E.pickF k199 c170 k200)) ?_
    exact FD.nil ⟨k194, k195, k196, k197, k198, rfl⟩
  rintro f169 ⟨k201, k202, k203, k204, k205, k206⟩
  refine FD.nil ?_
  intro w207 r209
  have S208 := S118.call r209
  rcases ifB hp with ⟨c210, hp⟩ | ⟨c210, hp⟩
  ·
   refine FW.condT k206 c210 ?_
   refine FW.seq (FW.region ?_)
   refine FL.v (E.assign (v := Value.bool false) rfl) ?_
   refine FL.nil ?_
   refine FW.ret ?_
   obtain rfl := Option.some.inj hp
   exact ⟨nofun, rfl, ⟨.inr rfl, res1 rfl rfl ⟨rfl, S208.back⟩⟩⟩
  ·
   refine FW.condF k206 c210 ?_
   refine FW.skip (FW.region ?_)
   refine FL.v (E.add k205 rfl) ?_
   refine FL.v (E.move (v := Value.int .i64 (wr (((i22 : Nat) : Int) + 1))) rfl) ?_
   refine FL.nil ?_
   obtain rfl := Option.some.inj hp
   exact ⟨rfl, ⟨_, S208, i119, (nat_succ rfl (lt_of_get hx22) (p1.mono i119).le), k201, k202, k203, k204⟩⟩
 ·
  clear hp hq
  rintro s22 f225 w224 ⟨H221, S222, i223, k226, k227, k228, k229, k230⟩
  refine FW.seq (FW.region ?_)
  refine FL.v (E.lss k226 k230) ?_
  refine FL.nil (FW.seq ?_)
  refine FW.condF rfl dlt_len ?_
  refine FW.exit ?_
  exact ⟨nofun, rfl, ⟨_, S222, i223, k227⟩⟩
 ·
  clear hq
  intro e f216 w215 hD
  rcases q22 with s22 | x22
  ·
   obtain ⟨rfl, hD⟩ := hD
   obtain ⟨H212, S213, i214, k217⟩ := hD
   replace hp := el_go hp
   refine FW.seq (FW.region ?_)
   refine FL.v (E.move k217) ?_
   refine FL.call rfl rfl rfl (E.call Tryz.call130 (A1 rfl)) (w_impl_varsOk S213.sl a0) ?_
   rintro e w218 ⟨rfl, r219⟩
   refine ⟨_, rfl, ?_⟩
   have S220 := S213.call r219
   refine FL.v (E.assign (v := Value.bool (PF.impl_varsOk a0)) rfl) ?_
   refine FL.nil ?_
   refine FW.ret ?_
   obtain rfl := Option.some.inj hp
   exact ⟨.inr rfl, res1 rfl rfl ⟨rfl, S220.back⟩⟩
  ·
   obtain ⟨he, hL⟩ := hD
   replace hp := el_rt hp
   obtain rfl := Option.some.inj hp
   subst he
   exact hL

theorem w_impl_IsCnf {Ha : GH} {wa : World} (hs : Sl Ha wa) (a0 : Cnf) (v0_1 : Value) (p0_1 : RSl Ha (eL eI 1) 1 v0_1 a0.clauses) {r : Bool} (hp : (PF.impl_IsCnf a0) = some r) :
  Calls Tryz.prog 99 #[Value.agg #[Value.int .i64 a0.vars, v0_1]] wa (Sc Ha wa (Value.bool r)) := by
 unfold PF.impl_IsCnf at hp
 have S0 := St.init hs
 refine calls_go (N := 27) (args := [Value.agg #[Value.int .i64 a0.vars, v0_1]]) Tryz.func99 rfl rfl rfl ?_
 refine FW.seq (FW.region ?_)
 obtain ⟨b21, w22, run23, S24⟩ := S0.box (P := Tryz.prog) 28 [Value.int .i64 a0.vars, v0_1] (v := Value.agg #[Value.int .i64 a0.vars, v0_1]) rfl (ones_cons rfl (ones_cons p0_1.one ones_nil))
 refine FL.v (E.box rfl run23) ?_
 obtain ⟨H25, S26, i27, at28⟩ := S24.sealBox (i := 0) (l' := []) rfl rfl
 refine FL.v (E.assign (v := Value.bool false) rfl) ?_
 refine FL.nil (FW.seq (FW.seq (FW.region ?_)))
 refine FL.v (E.fieldAddr tf28_1 rfl) ?_
 refine FL.v (E.load rfl (run_load1 Tryz.isAgg22 (at28.now S26.sl) rfl)) ?_
 refine FL.v (E.lenP te22 rfl p0_1) ?_
 refine FL.v (E.move (v := Value.int .i64 0) rfl) ?_
 refine FL.nil ?_
 obtain ⟨q30, hq, hp⟩ := bndR hp
 refine FW.block ?_
 refine FW.mono (FW.forL (S := Unit) (X := Bool) (fun (i30 : Nat) (s30 : Unit) f w => ∃ H : GH, St Ha wa H w [] ∧ Inc H25 H ∧ f 8 = Value.int .i64 ((i30 : Nat) : Int) ∧ f 1 = Value.pointer (some ⟨b21, 0, none⟩) ∧ f 6 = v0_1 ∧ f 7 = Value.int .i64 (len a0.clauses)) (fun q e f w => match q with | .go s30 => e = Exit.exit 0 ∧ (∃ H : GH, St Ha wa H w [] ∧ Inc H25 H ∧ f 1 = Value.pointer (some ⟨b21, 0, none⟩)) | .rt x => ((e = Exit.ret) ∧ (fun e f w => (e = Exit.normal ∨ e = Exit.ret) ∧ ∀ a, Fr (δ := []) 27 a f → ∃ v, (results Tryz.f99 a.tmps).run Tryz.prog w = .ok v w ∧ (Sc Ha wa (Value.bool x)) (.returned v) w) e f w)) hq ⟨_, S26, (Inc.rfl _), rfl, rfl, rfl, rfl⟩ ?_ ?_) ?_
 ·
  clear hp hq
  rintro i30 y29 s30 f58 w57 ⟨H54, S55, i56, k59, k60, k61, k62⟩ hx30 o77 hp
  refine FW.seq (FW.region ?_)
  refine FL.v (E.lssT k59 k62 (lss_len hx30)) ?_
  refine FL.nil (FW.seq ?_)
  refine FW.condT rfl rfl ?_
  refine FW.skip (FW.seq (FW.block (FW.seq (FW.region ?_))))
  obtain ⟨p63, cs64, pt65, l66, at67, rel68⟩ := p0_1.at (ix_nat hx30)
  obtain ⟨v69, rfl, h70⟩ := eL_open rel68
  refine FL.v (E.indexAddr te22 k61 k59 pt65) ?_
  refine FL.v (E.load rfl (run_load0 Tryz.isAgg44 ((at67.mono (i27.tr i56)).now S55.sl) rfl)) ?_
  refine FL.v (E.assign (v := v69) rfl) ?_
  refine FL.nil (FW.seq (FW.region ?_))
  refine FL.v (E.fieldAddr tf28_0 k60) ?_
  refine FL.v (E.load rfl (run_load1 Tryz.isAgg3 ((at28.mono i56).now S55.sl) rfl)) ?_
  refine FL.v (E.move (v := v69) rfl) ?_
  obtain ⟨r71, hr72, hp⟩ := bnd hp
  refine FL.call rfl rfl rfl (E.call Tryz.call112 (A2 rfl rfl)) (w_impl_IsClause S55.sl a0.vars v69 y29 (h70.mono (i27.tr i56)) hr72) ?_
  rintro e w73 ⟨rfl, r74⟩
  refine ⟨_, rfl, ?_⟩
  have S75 := S55.call r74
  refine FL.v (E.not rfl) ?_
  refine FL.nil ?_
  rcases ifB hp with ⟨c76, hp⟩ | ⟨c76, hp⟩
  ·
   refine FW.condT rfl c76 ?_
   refine FW.seq (FW.region ?_)
   refine FL.v (E.assign (v := Value.bool false) rfl) ?_
   refine FL.nil ?_
   refine FW.ret ?_
   obtain rfl := Option.some.inj hp
   exact ⟨nofun, rfl, ⟨.inr rfl, res1 rfl rfl ⟨rfl, S75.back⟩⟩⟩
  ·
   refine FW.condF rfl c76 ?_
   refine FW.skip (FW.region ?_)
   refine FL.v (E.add k59 rfl) ?_
   refine FL.v (E.move (v := Value.int .i64 (wr (((i30 : Nat) : Int) + 1))) rfl) ?_
   refine FL.nil ?_
   obtain rfl := Option.some.inj hp
   exact ⟨rfl, ⟨_, S75, i56, (nat_succ rfl (lt_of_get hx30) (p0_1.mono (i27.tr i56)).le), k60, k61, k62⟩⟩
 ·
  clear hp hq
  rintro s30 f99 w98 ⟨H95, S96, i97, k100, k101, k102, k103⟩
  refine FW.seq (FW.region ?_)
  refine FL.v (E.lss k100 k103) ?_
  refine FL.nil (FW.seq ?_)
  refine FW.condF rfl dlt_len ?_
  refine FW.exit ?_
  exact ⟨nofun, rfl, ⟨_, S96, i97, k101⟩⟩
 ·
  clear hq
  intro e f82 w81 hD
  rcases q30 with s30 | x30
  ·
   obtain ⟨rfl, hD⟩ := hD
   obtain ⟨H78, S79, i80, k83⟩ := hD
   replace hp := el_go hp
   refine FW.seq (FW.region ?_)
   refine FL.v (E.fieldAddr tf28_0 k83) ?_
   refine FL.v (E.load rfl (run_load1 Tryz.isAgg3 ((at28.mono i80).now S79.sl) rfl)) ?_
   refine FL.call rfl rfl rfl (E.call Tryz.call130 (A1 rfl)) (w_impl_varsOk S79.sl a0.vars) ?_
   rintro e w84 ⟨rfl, r85⟩
   refine ⟨_, rfl, ?_⟩
   have S86 := S79.call r85
   refine FL.v (E.move (v := Value.bool (PF.impl_varsOk a0.vars)) rfl) ?_
   refine FL.cut 5 (fun f w => ∃ H : GH, St Ha wa H w [] ∧ Inc H78 H ∧ f 26 = Value.bool (bif (PF.impl_varsOk a0.vars) then (decide ((len a0.clauses) ≤ 60)) else false)) ?_ ?_
   ·
    rcases bcase (PF.impl_varsOk a0.vars) with c93 | c93
    ·
     refine FL.val (wF_yes rfl rfl rfl c93) rfl rfl (E.fieldAddr tf28_1 k83) ?_
     refine FL.val (wF_yes rfl rfl rfl c93) rfl rfl (E.load rfl (run_load1 Tryz.isAgg22 ((at28.mono i80).now S86.sl) rfl)) ?_
     refine FL.val (wF_yes rfl rfl rfl c93) rfl rfl (E.lenP te22 rfl p0_1) ?_
     refine FL.val (wF_yes rfl rfl rfl c93) rfl rfl (E.leq rfl rfl) ?_
     refine FL.v (E.pickT rfl c93 rfl) ?_
     exact FL.nil ⟨rfl, _, S86, (Inc.rfl _), (congrArg Value.bool (bifT c93).symm)⟩
    ·
     refine FL.skip (wF_no rfl rfl rfl c93) rfl ?_
     refine FL.skip (wF_no rfl rfl rfl c93) rfl ?_
     refine FL.skip (wF_no rfl rfl rfl c93) rfl ?_
     refine FL.skip (wF_no rfl rfl rfl c93) rfl ?_
     refine FL.v (E.pickF rfl c93 rfl) ?_
     exact FL.nil ⟨rfl, _, S86, (Inc.rfl _), (congrArg Value.bool (bifF c93).symm)⟩
   rintro f92 w91 ⟨H88, S89, i90, k94⟩
   refine FL.v (E.assign k94) ?_
   refine FL.nil ?_
   refine FW.ret ?_
   obtain rfl := Option.some.inj hp
   exact ⟨.inr rfl, res1 rfl rfl ⟨rfl, S89.back⟩⟩
  ·
   obtain ⟨he, hL⟩ := hD
   replace hp := el_rt hp
   obtain rfl := Option.some.inj hp
   subst he
   exact hL

end Go.Proofs
