/- Part of the walks and plain laws behind the claim: it proves helpers, under no condition beyond their own. -/
import Derived.Test.YtjkdeonnohadeaaGreatMr16
import Derived.Test.YtjkdeonnohadeaaGreatMr14
import Derived.Test.YtjkdeonnohadeaaGreatMr19
import Derived.Test.YtjkdeonnohadeaaGreatMr20
import Derived.Test.YtjkdeonnohadeaaGreatMr21
import Derived.Test.YtjkdeonnohadeaaGreatMr22
import Derived.Test.YtjkdeonnohadeaaGreatMr23
import Derived.Test.YtjkdeonnohadeaaGreatMr24
import Derived.Test.YtjkdeonnohadeaaGreatMr25
import Derived.Test.YtjkdeonnohadeaaGreatMr26
import Derived.Test.YtjkdeonnohadeaaGreatMr27
import Derived.Test.YtjkdeonnohadeaaGreatMr28
import Derived.Test.YtjkdeonnohadeaaGreatMr29
import Derived.Test.YtjkdeonnohadeaaGreatLpSh
import Derived.Test.YtjkdeonnohadeaaGreatLpPf
import Derived.Test.YtjkdeonnohadeaaGreatProg
set_option linter.unusedVariables false
set_option maxRecDepth 100000
namespace Go.Proofs
open Go.Mr Go.Pu Go.PF Go.RowKit Tryz

def eCnf : Enc Cnf := ⟨fun H cs s => ∃ v0, cs = [vI s.vars, v0] ∧ RSl H (eL eI 1) 1 v0 s.clauses, fun hi ⟨v0, h, h0⟩ => ⟨_, h, h0.mono hi⟩, by rintro H cs s ⟨v0, rfl, h0⟩; exact (ones_cons rfl (ones_cons h0.one ones_nil)), by rintro H cs s ⟨v0, rfl, h0⟩ b hb; obtain ⟨u, hu, hn⟩ := mem_bl hb; simp only [List.mem_cons, List.not_mem_nil, or_false] at hu; rcases hu with rfl | rfl <;> first | (cases hn; done) | exact h0.dom b (mem_bl1 hn)⟩
theorem eCnf_open {H : GH} {cs : List Value} {s : Cnf} (h : eCnf.rel H cs s) : ∃ v0, cs = [vI s.vars, v0] ∧ RSl H (eL eI 1) 1 v0 s.clauses := h

def eResStep : Enc ResStep := ⟨fun H cs s => ∃ v0, cs = [v0, vI s.left, vI s.right, vI s.pivot] ∧ RSl H eI 1 v0 s.clause, fun hi ⟨v0, h, h0⟩ => ⟨_, h, h0.mono hi⟩, by rintro H cs s ⟨v0, rfl, h0⟩; exact (ones_cons h0.one (ones_cons rfl (ones_cons rfl (ones_cons rfl ones_nil)))), by rintro H cs s ⟨v0, rfl, h0⟩ b hb; obtain ⟨u, hu, hn⟩ := mem_bl hb; simp only [List.mem_cons, List.not_mem_nil, or_false] at hu; rcases hu with rfl | rfl | rfl | rfl <;> first | (cases hn; done) | exact h0.dom b (mem_bl1 hn)⟩
theorem eResStep_open {H : GH} {cs : List Value} {s : ResStep} (h : eResStep.rel H cs s) : ∃ v0, cs = [v0, vI s.left, vI s.right, vI s.pivot] ∧ RSl H eI 1 v0 s.clause := h

theorem eResStep_loc : LocE eResStep := by rintro H H' cs x ⟨v0, rfl, h0⟩ hb; exact ⟨_, rfl, h0.only eI_flat.rel (fun b q => hb b (bl_get (i := 0) rfl b q))⟩

def eBench : Enc Bench := ⟨fun H cs s => ∃ v0 v1, cs = [vI s.stage, vI s.formula.vars, v0, v1, vI s.wide, vI s.count] ∧ RSl H (eL eI 1) 1 v0 s.formula.clauses ∧ RSl H eResStep 4 v1 s.steps, fun hi ⟨v0, v1, h, h0, h1⟩ => ⟨_, _, h, h0.mono hi, h1.mono hi⟩, by rintro H cs s ⟨v0, v1, rfl, h0, h1⟩; exact (ones_cons rfl (ones_cons rfl (ones_cons h0.one (ones_cons h1.one (ones_cons rfl (ones_cons rfl ones_nil)))))), by rintro H cs s ⟨v0, v1, rfl, h0, h1⟩ b hb; obtain ⟨u, hu, hn⟩ := mem_bl hb; simp only [List.mem_cons, List.not_mem_nil, or_false] at hu; rcases hu with rfl | rfl | rfl | rfl | rfl | rfl <;> first | (cases hn; done) | exact h0.dom b (mem_bl1 hn) | exact h1.dom b (mem_bl1 hn)⟩
theorem eBench_open {H : GH} {cs : List Value} {s : Bench} (h : eBench.rel H cs s) : ∃ v0 v1, cs = [vI s.stage, vI s.formula.vars, v0, v1, vI s.wide, vI s.count] ∧ RSl H (eL eI 1) 1 v0 s.formula.clauses ∧ RSl H eResStep 4 v1 s.steps := h

def eweaver : Enc weaver := ⟨fun H cs s => ∃ v0 v1, cs = [v0, v1] ∧ RSl H eResStep 4 v0 s.steps ∧ RSl H eI 1 v1 s.became, fun hi ⟨v0, v1, h, h0, h1⟩ => ⟨_, _, h, h0.mono hi, h1.mono hi⟩, by rintro H cs s ⟨v0, v1, rfl, h0, h1⟩; exact (ones_cons h0.one (ones_cons h1.one ones_nil)), by rintro H cs s ⟨v0, v1, rfl, h0, h1⟩ b hb; obtain ⟨u, hu, hn⟩ := mem_bl hb; simp only [List.mem_cons, List.not_mem_nil, or_false] at hu; rcases hu with rfl | rfl <;> first | (cases hn; done) | exact h0.dom b (mem_bl1 hn) | exact h1.dom b (mem_bl1 hn)⟩
theorem eweaver_open {H : GH} {cs : List Value} {s : weaver} (h : eweaver.rel H cs s) : ∃ v0 v1, cs = [v0, v1] ∧ RSl H eResStep 4 v0 s.steps ∧ RSl H eI 1 v1 s.became := h

def el11Use : Enc l11Use := ⟨fun H cs s => ∃ v0, cs = [vI s.reason, vI s.v, v0] ∧ RSl H eI 1 v0 s.clause, fun hi ⟨v0, h, h0⟩ => ⟨_, h, h0.mono hi⟩, by rintro H cs s ⟨v0, rfl, h0⟩; exact (ones_cons rfl (ones_cons rfl (ones_cons h0.one ones_nil))), by rintro H cs s ⟨v0, rfl, h0⟩ b hb; obtain ⟨u, hu, hn⟩ := mem_bl hb; simp only [List.mem_cons, List.not_mem_nil, or_false] at hu; rcases hu with rfl | rfl | rfl <;> first | (cases hn; done) | exact h0.dom b (mem_bl1 hn)⟩
theorem el11Use_open {H : GH} {cs : List Value} {s : l11Use} (h : el11Use.rel H cs s) : ∃ v0, cs = [vI s.reason, vI s.v, v0] ∧ RSl H eI 1 v0 s.clause := h

theorem el11Use_loc : LocE el11Use := by rintro H H' cs x ⟨v0, rfl, h0⟩ hb; exact ⟨_, rfl, h0.only eI_flat.rel (fun b q => hb b (bl_get (i := 2) rfl b q))⟩

def Fn_List_Int_to_B (P : Program) (H : GH) (v : Value) (p : (List Int) → Option Bool) : Prop :=
 ∀ (H' : GH) (w' : World), Inc H H' → Sl H' w' → ∀ (x0 : List Int) (y0_0 : Value) (_z0_0 : RSl H' eI 1 y0_0 x0) (r : Bool), p x0 = some r →
  ∃ (fid : Nat) (cs : Array Value), v = Value.func (.func fid) #[] cs ∧ (∀ args w, (callFunc fid args).run P w = .ok (.enter fid args) w) ∧ Calls P fid (#[y0_0] ++ cs) w' (Sc H' w' (vB r))
theorem Fn_List_Int_to_B.mono {P : Program} {H H' : GH} {v : Value} {p : (List Int) → Option Bool} (h : Fn_List_Int_to_B P H v p) (hi : Inc H H') : Fn_List_Int_to_B P H' v p :=
 fun H2 w2 h2 => h H2 w2 (hi.tr h2)

def Fn_I_to_B (P : Program) (H : GH) (v : Value) (p : Int → Option Bool) : Prop :=
 ∀ (H' : GH) (w' : World), Inc H H' → Sl H' w' → ∀ (x0 : Int) (r : Bool), p x0 = some r →
  ∃ (fid : Nat) (cs : Array Value), v = Value.func (.func fid) #[] cs ∧ (∀ args w, (callFunc fid args).run P w = .ok (.enter fid args) w) ∧ Calls P fid (#[vI x0] ++ cs) w' (Sc H' w' (vB r))
theorem Fn_I_to_B.mono {P : Program} {H H' : GH} {v : Value} {p : Int → Option Bool} (h : Fn_I_to_B P H v p) (hi : Inc H H') : Fn_I_to_B P H' v p :=
 fun H2 w2 h2 => h H2 w2 (hi.tr h2)

def Fn_I_I_to_I (P : Program) (H : GH) (v : Value) (p : Int → Int → Option Int) : Prop :=
 ∀ (H' : GH) (w' : World), Inc H H' → Sl H' w' → ∀ (x0 : Int) (x1 : Int) (r : Int), p x0 x1 = some r →
  ∃ (fid : Nat) (cs : Array Value), v = Value.func (.func fid) #[] cs ∧ (∀ args w, (callFunc fid args).run P w = .ok (.enter fid args) w) ∧ Calls P fid (#[vI x0, vI x1] ++ cs) w' (Sc H' w' (vI r))
theorem Fn_I_I_to_I.mono {P : Program} {H H' : GH} {v : Value} {p : Int → Int → Option Int} (h : Fn_I_I_to_I P H v p) (hi : Inc H H') : Fn_I_I_to_I P H' v p :=
 fun H2 w2 h2 => h H2 w2 (hi.tr h2)

def Fn_I_to_I (P : Program) (H : GH) (v : Value) (p : Int → Option Int) : Prop :=
 ∀ (H' : GH) (w' : World), Inc H H' → Sl H' w' → ∀ (x0 : Int) (r : Int), p x0 = some r →
  ∃ (fid : Nat) (cs : Array Value), v = Value.func (.func fid) #[] cs ∧ (∀ args w, (callFunc fid args).run P w = .ok (.enter fid args) w) ∧ Calls P fid (#[vI x0] ++ cs) w' (Sc H' w' (vI r))
theorem Fn_I_to_I.mono {P : Program} {H H' : GH} {v : Value} {p : Int → Option Int} (h : Fn_I_to_I P H v p) (hi : Inc H H') : Fn_I_to_I P H' v p :=
 fun H2 w2 h2 => h H2 w2 (hi.tr h2)

theorem te170 : TE prog 170 22 1 (.slice none 0 0) := ⟨Tryz.underlying170, ⟨Tryz.t22, Tryz.type22, rfl, rfl, by decide⟩, rfl, by decide⟩
theorem te22 : TE prog 22 44 1 (.slice none 0 0) := ⟨Tryz.underlying22, ⟨Tryz.t44, Tryz.type44, rfl, rfl, by decide⟩, rfl, by decide⟩
theorem te29 : TE prog 29 63 4 (.agg #[(.slice none 0 0), (.int .i64 0), (.int .i64 0), (.int .i64 0)]) := ⟨Tryz.underlying29, ⟨Tryz.t63, Tryz.type63, rfl, rfl, by decide⟩, rfl, by decide⟩
theorem te44 : TE prog 44 3 1 (.int .i64 0) := ⟨Tryz.underlying44, ⟨Tryz.t3, Tryz.type3, rfl, rfl, by decide⟩, rfl, by decide⟩
theorem te69 : TE prog 69 105 3 (.agg #[(.int .i64 0), (.int .i64 0), (.slice none 0 0)]) := ⟨Tryz.underlying69, ⟨Tryz.t105, Tryz.type105, rfl, rfl, by decide⟩, rfl, by decide⟩
theorem te77 : TE prog 77 4 1 (.bool false) := ⟨Tryz.underlying77, ⟨Tryz.t4, Tryz.type4, rfl, rfl, by decide⟩, rfl, by decide⟩
theorem te95 : TE prog 95 99 2 (.agg #[(.int .i64 0), (.int .i64 0)]) := ⟨Tryz.underlying95, ⟨Tryz.t99, Tryz.type99, rfl, rfl, by decide⟩, rfl, by decide⟩
theorem tf105_0 : TF prog 105 0 0 := ⟨_, _, _, Tryz.underlying105, rfl, rfl, Tryz.sizeOf3, by decide⟩
theorem tf105_1 : TF prog 105 1 1 := ⟨_, _, _, Tryz.underlying105, rfl, rfl, Tryz.sizeOf3, by decide⟩
theorem tf105_2 : TF prog 105 2 2 := ⟨_, _, _, Tryz.underlying105, rfl, rfl, Tryz.sizeOf44, by decide⟩
theorem tf24_0 : TF prog 24 0 0 := ⟨_, _, _, Tryz.underlying24, rfl, rfl, Tryz.sizeOf3, by decide⟩
theorem tf24_1 : TF prog 24 1 1 := ⟨_, _, _, Tryz.underlying24, rfl, rfl, Tryz.sizeOf22, by decide⟩
theorem tf28_0 : TF prog 28 0 0 := ⟨_, _, _, Tryz.underlying28, rfl, rfl, Tryz.sizeOf3, by decide⟩
theorem tf28_1 : TF prog 28 1 1 := ⟨_, _, _, Tryz.underlying28, rfl, rfl, Tryz.sizeOf22, by decide⟩
theorem tf63_0 : TF prog 63 0 0 := ⟨_, _, _, Tryz.underlying63, rfl, rfl, Tryz.sizeOf44, by decide⟩
theorem tf63_1 : TF prog 63 1 1 := ⟨_, _, _, Tryz.underlying63, rfl, rfl, Tryz.sizeOf3, by decide⟩
theorem tf63_2 : TF prog 63 2 2 := ⟨_, _, _, Tryz.underlying63, rfl, rfl, Tryz.sizeOf3, by decide⟩
theorem tf63_3 : TF prog 63 3 3 := ⟨_, _, _, Tryz.underlying63, rfl, rfl, Tryz.sizeOf3, by decide⟩
theorem tf87_0 : TF prog 87 0 0 := ⟨_, _, _, Tryz.underlying87, rfl, rfl, Tryz.sizeOf29, by decide⟩
theorem tf89_0 : TF prog 89 0 0 := ⟨_, _, _, Tryz.underlying89, rfl, rfl, Tryz.sizeOf87, by decide⟩
theorem tf89_1 : TF prog 89 1 2 := ⟨_, _, _, Tryz.underlying89, rfl, rfl, Tryz.sizeOf28, by decide⟩
theorem tf89_2 : TF prog 89 2 4 := ⟨_, _, _, Tryz.underlying89, rfl, rfl, Tryz.sizeOf85, by decide⟩
theorem w_laws_szIntS {Ha : GH} {wa : World} (hs : Sl Ha wa) (v0 : Value) (a0 : List Int) (p0 : RSl Ha eI 1 v0 a0) (a1 : Int) :
  Calls prog 45 #[v0, vI a1] wa (Sc Ha wa (vI (PF.laws_szIntS a0 a1))) := by
 obtain ⟨r, hp⟩ : ∃ r, (PF.laws_szIntS a0 a1) = r := ⟨_, rfl⟩; rw [hp]; unfold PF.laws_szIntS at hp; have S0 := St.init hs; refine calls_go (N := 12) (args := [v0, vI a1]) func45 rfl rfl rfl ?_; refine FW.sr ?_; refine FL.as (v := vI 0) rfl ?_; refine FL.nil (FW.sr ?_); refine FL.mv (v := vI a1) rfl ?_; refine FL.mv (v := v0) rfl ?_; refine FL.v (E.lenP te44 rfl p0) ?_; refine FL.v (E.sub rfl rfl) ?_; refine FL.as (v := vI (wr (a1 - (len a0)))) rfl ?_; refine FL.nil (FW.seq (FW.sr ?_)); refine FL.mv (v := vI (wr (a1 - (len a0)))) rfl ?_; refine FL.v (E.lss rfl rfl) ?_; refine FL.nil ?_; rcases ifT hp with ⟨c21, hp⟩ | ⟨c21, hp⟩
 ·
  refine FW.condT rfl c21 ?_; refine FW.sr ?_; refine FL.as (v := vI (-1)) rfl ?_; refine FL.nil (FW.ret ?_); obtain rfl := hp; exact ⟨.inr rfl, res1 rfl rfl ⟨rfl, S0.back⟩⟩
 ·
  refine FW.condF rfl c21 ?_; refine FW.skip (FW.sr ?_); refine FL.mv (v := vI (wr (a1 - (len a0)))) rfl ?_; refine FL.as (v := vI (wr (a1 - (len a0)))) rfl ?_; refine FL.nil (FW.ret ?_); obtain rfl := hp; exact ⟨.inr rfl, res1 rfl rfl ⟨rfl, S0.back⟩⟩

theorem w_laws_szIntSS {Ha : GH} {wa : World} (hs : Sl Ha wa) (v0 : Value) (a0 : List (List Int)) (p0 : RSl Ha (eL eI 1) 1 v0 a0) (a1 : Int) {r : Int} (hp : (PF.laws_szIntSS a0 a1) = some r) :
  Calls prog 20 #[v0, vI a1] wa (Sc Ha wa (vI r)) := by
 unfold PF.laws_szIntSS at hp; have S0 := St.init hs; refine calls_go (N := 27) (args := [v0, vI a1]) func20 rfl rfl rfl ?_; refine FW.sr ?_; refine FL.as (v := vI 0) rfl ?_; refine FL.nil (FW.sr ?_); refine FL.mv (v := vI a1) rfl ?_; refine FL.mv (v := v0) rfl ?_; refine FL.v (E.lenP te22 rfl p0) ?_; refine FL.v (E.sub rfl rfl) ?_; refine FL.as (v := vI (wr (a1 - (len a0)))) rfl ?_; refine FL.nil (FW.seq (FW.sr ?_)); refine FL.mv (v := vI (wr (a1 - (len a0)))) rfl ?_; refine FL.v (E.lss rfl rfl) ?_; refine FL.nil ?_; rcases ifB hp with ⟨c21, hp⟩ | ⟨c21, hp⟩
 ·
  refine FW.condT rfl c21 ?_; refine FW.sr ?_; refine FL.as (v := vI (-1)) rfl ?_; refine FL.nil (FW.ret ?_); cases hp; exact ⟨.inr rfl, res1 rfl rfl ⟨rfl, S0.back⟩⟩
 ·
  refine FW.condF rfl c21 ?_; refine FW.skip (FW.seq (FW.sr ?_)); refine FL.as (v := vI 0) rfl ?_; refine FL.nil ?_; obtain ⟨q23, hq, hp⟩ := bndR hp; refine FW.block ?_; refine FW.mono (FW.forL (S := Int) (X := Int) (fun (i23 : Nat) (s23 : Int) f w => ∃ H : GH, St Ha wa H w [] ∧ Inc Ha H ∧ f 5 = vI ((i23 : Nat) : Int) ∧ f 0 = v0 ∧ f 1 = vI s23) (fun q e f w => match q with | .go s23 => e = Exit.exit 0 ∧ (∃ H : GH, St Ha wa H w [] ∧ Inc Ha H ∧ f 1 = vI s23) | .rt x => ((e = Exit.ret) ∧ (fun e f w => (e = Exit.normal ∨ e = Exit.ret) ∧ ∀ a, Fr (δ := []) 27 a f → ∃ v, (results Tryz.f20 a.tmps).run prog w = .ok v w ∧ (Sc Ha wa (vI x)) (.returned v) w) e f w)) hq ⟨_, S0, I0, rfl, rfl, rfl⟩ ?_ ?_) ?_
  ·
   clear hp hq; rintro i23 y22 s23 f48 w47 ⟨H44, S45, i46, k49, k50, k51⟩ hx23 o64 hp; refine FW.seq (FW.sr ?_); refine FL.mv k49 ?_; refine FL.mv k50 ?_; refine FL.v (E.lenP te22 rfl p0) ?_; refine FL.v (E.lssT rfl rfl (lss_len hx23)) ?_; refine FL.nil ?_; refine FW.condT rfl rfl ?_; refine FW.skip (FW.seq (FW.block (FW.sr ?_))); refine FL.mv k50 ?_; refine FL.mv k49 ?_; obtain ⟨p52, cs53, pt54, l55, at56, rel57⟩ := p0.at (ix_nat hx23); obtain ⟨v58, rfl, h59⟩ := eL_open rel57; refine FL.v (E.indexAddr te22 rfl rfl pt54) ?_; refine FL.v (E.load rfl (run_load0 isAgg44 ((at56.mono i46).now S45.sl) rfl)) ?_; refine FL.mv k51 ?_; refine FL.c (E.call call45 (A2 rfl rfl)) (w_laws_szIntS S45.sl v58 y22 (h59.mono i46) s23) ?_; rintro e w60 ⟨rfl, r61⟩; refine ⟨_, rfl, ?_⟩; have S62 := S45.call r61; refine FL.as (v := vI (PF.laws_szIntS y22 s23)) rfl ?_; refine FL.nil (FW.sr ?_); refine FL.mv (v := vI (PF.laws_szIntS y22 s23)) rfl ?_; refine FL.v (E.lss rfl rfl) ?_; refine FL.nil ?_; rcases ifB hp with ⟨c63, hp⟩ | ⟨c63, hp⟩
   ·
    refine FW.condT rfl c63 ?_; refine FW.sr ?_; refine FL.as (v := vI (-1)) rfl ?_; refine FL.nil (FW.ret ?_); cases hp; exact ⟨nofun, rfl, ⟨.inr rfl, res1 rfl rfl ⟨rfl, S62.back⟩⟩⟩
   ·
    refine FW.condF rfl c63 ?_; refine FW.skip (FW.region ?_); refine FL.mv k49 ?_; refine FL.v (E.add rfl rfl) ?_; refine FL.as (v := vI (wr (((i23 : Nat) : Int) + 1))) rfl ?_; refine FL.nil ?_; cases hp; exact ⟨rfl, ⟨_, S62, i46, (nat_succ rfl (lt_of_get hx23) (p0.mono i46).le), k50, rfl⟩⟩
  ·
   clear hp hq; rintro s23 f75 w74 ⟨H71, S72, i73, k76, k77, k78⟩; refine FW.seq (FW.sr ?_); refine FL.mv k76 ?_; refine FL.mv k77 ?_; refine FL.v (E.lenP te22 rfl p0) ?_; refine FL.v (E.lss rfl rfl) ?_; refine FL.nil ?_; refine FW.condF rfl dlt_len ?_; refine FW.exit ?_; exact ⟨nofun, rfl, ⟨_, S72, i73, k78⟩⟩
  ·
   clear hq; intro e f69 w68 hD; rcases q23 with s23 | x23
   ·
    obtain ⟨rfl, hD⟩ := hD; obtain ⟨H65, S66, i67, k70⟩ := hD; replace hp := el_go hp; refine FW.sr ?_; refine FL.mv k70 ?_; refine FL.as (v := vI s23) rfl ?_; refine FL.nil (FW.ret ?_); cases hp; exact ⟨.inr rfl, res1 rfl rfl ⟨rfl, S66.back⟩⟩
   ·
    obtain ⟨he, hL⟩ := hD; replace hp := el_rt hp; cases hp; subst he; exact hL

theorem w_laws_szCnf {Ha : GH} {wa : World} (hs : Sl Ha wa) (a0 : Cnf) (v0_1 : Value) (p0_1 : RSl Ha (eL eI 1) 1 v0_1 a0.clauses) (a1 : Int) {r : Int} (hp : (PF.laws_szCnf a0 a1) = some r) :
  Calls prog 7 #[vA #[vI a0.vars, v0_1], vI a1] wa (Sc Ha wa (vI r)) := by
 unfold PF.laws_szCnf at hp; have S0 := St.init hs; refine calls_go (N := 12) (args := [vA #[vI a0.vars, v0_1], vI a1]) func7 rfl rfl rfl ?_; refine FW.sr ?_; obtain ⟨b21, w22, run23, S24⟩ := S0.box (P := prog) 24 [vI a0.vars, v0_1] (v := vA #[vI a0.vars, v0_1]) rfl (oC rfl (oC p0_1.one ones_nil)); refine FL.v (E.box rfl run23) ?_; obtain ⟨H25, S26, i27, at28⟩ := S24.sealBox (i := 0) (l' := []) rfl rfl; refine FL.as (v := vI 0) rfl ?_; refine FL.nil (FW.sr ?_); refine FL.v (E.fieldAddr tf24_1 rfl) ?_; refine FL.v (E.load rfl (run_load1 isAgg22 (at28.now S26.sl) rfl)) ?_; refine FL.mv (v := vI a1) rfl ?_; obtain ⟨r29, hr30, hp⟩ := bnd hp; refine FL.c (E.call call20 (A2 rfl rfl)) (w_laws_szIntSS S26.sl v0_1 a0.clauses (p0_1.mono i27) a1 hr30) ?_; rintro e w31 ⟨rfl, r32⟩; refine ⟨_, rfl, ?_⟩; have S33 := S26.call r32; refine FL.as (v := vI r29) rfl ?_; refine FL.nil (FW.seq (FW.sr ?_)); refine FL.mv (v := vI r29) rfl ?_; refine FL.v (E.lss rfl rfl) ?_; refine FL.nil ?_; rcases ifB hp with ⟨c34, hp⟩ | ⟨c34, hp⟩
 ·
  refine FW.condT rfl c34 ?_; refine FW.sr ?_; refine FL.as (v := vI (-1)) rfl ?_; refine FL.nil (FW.ret ?_); cases hp; exact ⟨.inr rfl, res1 rfl rfl ⟨rfl, S33.back⟩⟩
 ·
  refine FW.condF rfl c34 ?_; refine FW.skip (FW.sr ?_); refine FL.mv (v := vI r29) rfl ?_; refine FL.as (v := vI r29) rfl ?_; refine FL.nil (FW.ret ?_); cases hp; exact ⟨.inr rfl, res1 rfl rfl ⟨rfl, S33.back⟩⟩

@[reducible] def p_laws_toIntS (Ha : GH) (wa : World) (r : (List Int)) : Ending → World → Prop :=
  fun e w' => ∃ H' : GH, ∃ v0 : Value, ∃ n0 : Nat, ∃ c0 : List Value, e = .returned (v0) ∧ St Ha wa H' w' [.row 3 1 v0 n0 c0] ∧ Els (up wa.heap.size H') eI 1 c0 r
theorem w_laws_toIntS {Ha : GH} {wa : World} (hs : Sl Ha wa) (v0 : Value) (a0 : List Int) (p0 : RSl Ha eI 1 v0 a0) {r : (List Int)} (hp : (PF.laws_toIntS a0) = some r) :
    Calls prog 51 #[v0] wa (p_laws_toIntS Ha wa r) := by
  unfold PF.laws_toIntS at hp
  have S0 := St.init hs
  refine calls_go (N := 22) (args := [v0]) Tryz.func51 rfl rfl rfl ?_
  refine FW.seq (FW.region ?_)
  refine FL.v (E.assign (v := vN) rfl) ?_
  refine FL.nil (FW.seq (FW.region ?_))
  refine FL.v (E.move (v := v0) rfl) ?_
  refine FL.v (E.lenP te44 rfl p0) ?_
  obtain ⟨xs21, hm22, hp⟩ := bnd hp
  obtain ⟨v23, w24, n28, cs29, run25, S26, els27, hbl30⟩ := S0.makeEls (P := prog) te44 (G := (up wa.heap.size Ha)) (En := eI) (x0 := (0 : Int)) hm22 rfl (ones_cons rfl ones_nil) .i64 .i64
  refine FL.v (E.makeSlice rfl rfl run25) ?_
  refine FL.v (E.assign (v := v23) rfl) ?_
  refine FL.nil (FW.seq (FW.seq (FW.region ?_)))
  refine FL.v (E.assign (v := vI 0) rfl) ?_
  refine FL.nil ?_
  obtain ⟨q32, hq, hp⟩ := bndR hp
  refine FW.block ?_
  refine FW.mono (FW.forL (S := (List Int)) (X := Empty) (fun (i32 : Nat) (s32 : (List Int)) f w => ∃ H : GH, ∃ v63 : Value, ∃ n64 : Nat, ∃ cs65 : List Value, St Ha wa H w [.row 3 1 v63 n64 cs65] ∧ Inc Ha H ∧ Els (up wa.heap.size H) eI 1 cs65 s32 ∧ f 4 = vI ((i32 : Nat) : Int) ∧ f 0 = v0 ∧ f 3 = v63) (fun (q : Rs (List Int) Empty) e f w => match q with | .go s32 => e = Exit.exit 0 ∧ (∃ H : GH, ∃ v63 : Value, ∃ n64 : Nat, ∃ cs65 : List Value, St Ha wa H w [.row 3 1 v63 n64 cs65] ∧ Inc Ha H ∧ Els (up wa.heap.size H) eI 1 cs65 s32 ∧ f 3 = v63) | .rt x => x.elim) hq ⟨_, _, _, _, S26, (Inc.rfl _), els27, rfl, rfl, rfl⟩ ?_ ?_) ?_
  ·
    clear hp hq
    rintro i32 y31 s32 f101 w100 ⟨H97, v63, n64, cs65, S98, i99, els66, k102, k103, k104⟩ hx32 o127 hp
    refine FW.seq (FW.seq (FW.region ?_))
    refine FL.v (E.move k102) ?_
    refine FL.v (E.move k103) ?_
    refine FL.v (E.lenP te44 rfl p0) ?_
    refine FL.v (E.lssT rfl rfl (lss_len hx32)) ?_
    refine FL.nil ?_
    refine FW.condT rfl rfl ?_
    refine FW.skip (FW.seq (FW.block (FW.region ?_)))
    refine FL.v (E.move k104) ?_
    refine FL.v (E.move k102) ?_
    refine FL.v (E.move k103) ?_
    refine FL.v (E.move k102) ?_
    obtain ⟨p105, cs106, pt107, l108, at109, rel110⟩ := p0.at (ix_nat hx32)
    obtain rfl := eI_open rel110
    refine FL.v (E.indexAddr te44 rfl rfl pt107) ?_
    refine FL.v (E.load rfl (run_load0 Tryz.isAgg3 ((at109.mono i99).now S98.sl) rfl)) ?_
    obtain ⟨x117, hx118, hp⟩ := bnd hp
    obtain ⟨p111, cs112, pt113, l114, at115, rel116⟩ := S98.row_at (i := 0) rfl els66 (by decide) hx118
    obtain rfl := eI_open rel116
    refine FL.v (E.indexAddr te44 rfl rfl pt113) ?_
    obtain ⟨xs122, hput123, hp⟩ := bnd hp
    obtain ⟨w119, cs125, run120, S121, els124, ce126⟩ := S98.putEls (P := prog) (t := 3) (i := 0) rfl els66 hput123 pt113 Tryz.sizeOf3 (u := vI y31) (c := [vI y31]) rfl rfl (ones_cons rfl ones_nil) rfl
    have S121 : St Ha wa H97 w119 [.row 3 1 v63 n64 cs125] := S121
    refine FL.act rfl rfl (E.store rfl rfl run120) ?_
    refine FL.nil (FW.region ?_)
    refine FL.v (E.move k102) ?_
    refine FL.v (E.add rfl rfl) ?_
    refine FL.v (E.assign (v := vI (wr (((i32 : Nat) : Int) + 1))) rfl) ?_
    refine FL.nil ?_
    obtain rfl := Option.some.inj hp
    exact ⟨rfl, ⟨_, _, _, _, S121, i99, els124, (nat_succ rfl (lt_of_get hx32) (p0.mono i99).le), k103, k104⟩⟩
  ·
    clear hp hq
    rintro s32 f138 w137 ⟨H134, v63, n64, cs65, S135, i136, els66, k139, k140, k141⟩
    refine FW.seq (FW.seq (FW.region ?_))
    refine FL.v (E.move k139) ?_
    refine FL.v (E.move k140) ?_
    refine FL.v (E.lenP te44 rfl p0) ?_
    refine FL.v (E.lss rfl rfl) ?_
    refine FL.nil ?_
    refine FW.condF rfl dlt_len ?_
    refine FW.exit ?_
    exact ⟨nofun, rfl, ⟨_, _, _, _, S135, i136, els66, k141⟩⟩
  ·
    clear hq
    intro e f132 w131 hD
    rcases q32 with s32 | x32
    ·
      obtain ⟨rfl, hD⟩ := hD
      obtain ⟨H128, v63, n64, cs65, S129, i130, els66, k133⟩ := hD
      replace hp := el_go hp
      refine FW.seq (FW.region ?_)
      refine FL.v (E.move k133) ?_
      refine FL.v (E.assign (v := v63) rfl) ?_
      refine FL.nil ?_
      refine FW.ret ?_
      obtain rfl := Option.some.inj hp
      exact ⟨.inr rfl, res1 rfl rfl ⟨_, _, _, _, rfl, S129, els66⟩⟩
    · exact x32.elim

@[reducible] def p_laws_toIntSS (Ha : GH) (wa : World) (r : (List (List Int))) : Ending → World → Prop :=
  fun e w' => ∃ H' : GH, ∃ v0 : Value, ∃ n0 : Nat, ∃ c0 : List Value, e = .returned (v0) ∧ St Ha wa H' w' [.row 44 1 v0 n0 c0] ∧ Els (up wa.heap.size H') (eL eI 1) 1 c0 r ∧ (bl c0).Nodup
theorem w_laws_toIntSS {Ha : GH} {wa : World} (hs : Sl Ha wa) (v0 : Value) (a0 : List (List Int)) (p0 : RSl Ha (eL eI 1) 1 v0 a0) {r : (List (List Int))} (hp : (PF.laws_toIntSS a0) = some r) :
    Calls prog 22 #[v0] wa (p_laws_toIntSS Ha wa r) := by
  unfold PF.laws_toIntSS at hp
  have S0 := St.init hs
  refine calls_go (N := 23) (args := [v0]) Tryz.func22 rfl rfl rfl ?_
  refine FW.seq (FW.region ?_)
  refine FL.v (E.assign (v := vN) rfl) ?_
  refine FL.nil (FW.seq (FW.region ?_))
  refine FL.v (E.move (v := v0) rfl) ?_
  refine FL.v (E.lenP te22 rfl p0) ?_
  obtain ⟨xs21, hm22, hp⟩ := bnd hp
  obtain ⟨v23, w24, n28, cs29, run25, S26, els27, hbl30⟩ := S0.makeEls (P := prog) te22 (G := (up wa.heap.size Ha)) (En := (eL eI 1)) (x0 := ([] : List Int)) hm22 ⟨_, rfl, RSl.nil _ _ _⟩ (ones_cons rfl ones_nil) .i64 .i64
  have nd31 : (bl cs29).Nodup := by rw [hbl30 (by simp [Value.cells, neb])]; exact List.nodup_nil
  refine FL.v (E.makeSlice rfl rfl run25) ?_
  refine FL.v (E.assign (v := v23) rfl) ?_
  refine FL.nil (FW.seq (FW.seq (FW.region ?_)))
  refine FL.v (E.assign (v := vI 0) rfl) ?_
  refine FL.nil ?_
  obtain ⟨q33, hq, hp⟩ := bndR hp
  refine FW.block ?_
  refine FW.mono (FW.forL (S := (List (List Int))) (X := Empty) (fun (i33 : Nat) (s33 : (List (List Int))) f w => ∃ H : GH, ∃ v84 : Value, ∃ n85 : Nat, ∃ cs86 : List Value, St Ha wa H w [.row 44 1 v84 n85 cs86] ∧ Inc Ha H ∧ Els (up wa.heap.size H) (eL eI 1) 1 cs86 s33 ∧ (bl cs86).Nodup ∧ f 4 = vI ((i33 : Nat) : Int) ∧ f 0 = v0 ∧ f 3 = v84) (fun (q : Rs (List (List Int)) Empty) e f w => match q with | .go s33 => e = Exit.exit 0 ∧ (∃ H : GH, ∃ v84 : Value, ∃ n85 : Nat, ∃ cs86 : List Value, St Ha wa H w [.row 44 1 v84 n85 cs86] ∧ Inc Ha H ∧ Els (up wa.heap.size H) (eL eI 1) 1 cs86 s33 ∧ (bl cs86).Nodup ∧ f 3 = v84) | .rt x => x.elim) hq ⟨_, _, _, _, S26, (Inc.rfl _), els27, nd31, rfl, rfl, rfl⟩ ?_ ?_) ?_
  ·
    clear hp hq
    rintro i33 y32 s33 f143 w142 ⟨H139, v84, n85, cs86, S140, i141, els87, nd88, k144, k145, k146⟩ hx33 o189 hp
    refine FW.seq (FW.seq (FW.region ?_))
    refine FL.v (E.move k144) ?_
    refine FL.v (E.move k145) ?_
    refine FL.v (E.lenP te22 rfl p0) ?_
    refine FL.v (E.lssT rfl rfl (lss_len hx33)) ?_
    refine FL.nil ?_
    refine FW.condT rfl rfl ?_
    refine FW.skip (FW.seq (FW.block (FW.region ?_)))
    refine FL.v (E.move k146) ?_
    refine FL.v (E.move k144) ?_
    refine FL.v (E.move k145) ?_
    refine FL.v (E.move k144) ?_
    obtain ⟨p147, cs148, pt149, l150, at151, rel152⟩ := p0.at (ix_nat hx33)
    obtain ⟨v153, rfl, h154⟩ := eL_open rel152
    refine FL.v (E.indexAddr te22 rfl rfl pt149) ?_
    refine FL.v (E.load rfl (run_load0 Tryz.isAgg44 ((at151.mono i141).now S140.sl) rfl)) ?_
    obtain ⟨r155, hr156, hp⟩ := bnd hp
    refine FL.call rfl rfl rfl (E.call Tryz.call51 (A1 rfl)) (w_laws_toIntS S140.sl v153 y32 (h154.mono i141) hr156) ?_
    rintro e w158 ⟨H157, v161, n162, cs163, rfl, r160, els164⟩
    refine ⟨_, rfl, ?_⟩
    have els164 := els164.mono (up_le S140.size)
    have S159 := S140.join (l' := [.row 3 1 v161 n162 cs163, .row 44 1 v84 n85 cs86]) r160 rfl
    obtain ⟨x171, hx172, hp⟩ := bnd hp
    obtain ⟨p165, cs166, pt167, l168, at169, rel170⟩ := S159.row_at (i := 1) rfl els87 (by decide) hx172
    obtain ⟨v173, rfl, h174⟩ := eL_open rel170
    refine FL.v (E.indexAddr te22 rfl rfl pt167) ?_
    obtain ⟨H175, S176, i177, h178, nv179⟩ := S159.sealRowU (i := 0) (l' := [.row 44 1 v84 n85 cs86]) rfl els164 (by decide) rfl
    obtain ⟨xs183, hput184, hp⟩ := bnd hp
    obtain ⟨w180, cs186, run181, S182, els185, ce187⟩ := S176.putEls (P := prog) (t := 44) (i := 0) rfl (els87.mono (up_mono (r160.run.inc.tr i177))) hput184 pt167 Tryz.sizeOf44 (u := v161) (c := [v161]) h178.cells rfl (ones_cons h178.one ones_nil) ⟨_, rfl, h178⟩
    have S182 : St Ha wa H175 w180 [.row 44 1 v84 n85 cs186] := S182
    have nd188 : (bl cs186).Nodup := by rw [ce187]; exact nd_put (Nat.le_add_right _ _) nd88 (by exact nd_one v161) (Els.dom (els87.mono (upI.tr r160.run.inc))) (by exact nv179)
    refine FL.act rfl rfl (E.store rfl rfl run181) ?_
    refine FL.nil (FW.region ?_)
    refine FL.v (E.move k144) ?_
    refine FL.v (E.add rfl rfl) ?_
    refine FL.v (E.assign (v := vI (wr (((i33 : Nat) : Int) + 1))) rfl) ?_
    refine FL.nil ?_
    obtain rfl := Option.some.inj hp
    exact ⟨rfl, ⟨_, _, _, _, S182, ((i141.tr r160.run.inc).tr i177), els185, nd188, (nat_succ rfl (lt_of_get hx33) (p0.mono ((i141.tr r160.run.inc).tr i177)).le), k145, k146⟩⟩
  ·
    clear hp hq
    rintro s33 f200 w199 ⟨H196, v84, n85, cs86, S197, i198, els87, nd88, k201, k202, k203⟩
    refine FW.seq (FW.seq (FW.region ?_))
    refine FL.v (E.move k201) ?_
    refine FL.v (E.move k202) ?_
    refine FL.v (E.lenP te22 rfl p0) ?_
    refine FL.v (E.lss rfl rfl) ?_
    refine FL.nil ?_
    refine FW.condF rfl dlt_len ?_
    refine FW.exit ?_
    exact ⟨nofun, rfl, ⟨_, _, _, _, S197, i198, els87, nd88, k203⟩⟩
  ·
    clear hq
    intro e f194 w193 hD
    rcases q33 with s33 | x33
    ·
      obtain ⟨rfl, hD⟩ := hD
      obtain ⟨H190, v84, n85, cs86, S191, i192, els87, nd88, k195⟩ := hD
      replace hp := el_go hp
      refine FW.seq (FW.region ?_)
      refine FL.v (E.move k195) ?_
      refine FL.v (E.assign (v := v84) rfl) ?_
      refine FL.nil ?_
      refine FW.ret ?_
      obtain rfl := Option.some.inj hp
      exact ⟨.inr rfl, res1 rfl rfl ⟨_, _, _, _, rfl, S191, els87, nd88⟩⟩
    · exact x33.elim

@[reducible] def p_laws_toCnf (Ha : GH) (wa : World) (r : Cnf) : Ending → World → Prop :=
 fun e w' => ∃ H' : GH, ∃ v0_1 : Value, e = .returned (vA #[vI r.vars, v0_1]) ∧ Run wa.heap.size Ha wa H' w' ∧ (∃ c, Nest (up wa.heap.size H') (eL eI 1) 1 v0_1 r.clauses c)
theorem w_laws_toCnf {Ha : GH} {wa : World} (hs : Sl Ha wa) (a0 : Cnf) (v0_1 : Value) (p0_1 : RSl Ha (eL eI 1) 1 v0_1 a0.clauses) {r : Cnf} (hp : (PF.laws_toCnf a0) = some r) :
  Calls prog 10 #[vA #[vI a0.vars, v0_1]] wa (p_laws_toCnf Ha wa r) := by
 unfold PF.laws_toCnf at hp; have S0 := St.init hs; refine calls_go (N := 12) (args := [vA #[vI a0.vars, v0_1]]) func10 rfl rfl rfl ?_; refine FW.sr ?_; obtain ⟨b21, w22, run23, S24⟩ := S0.box (P := prog) 24 [vI a0.vars, v0_1] (v := vA #[vI a0.vars, v0_1]) rfl (oC rfl (oC p0_1.one ones_nil)); refine FL.v (E.box rfl run23) ?_; obtain ⟨H25, S26, i27, at28⟩ := S24.sealBox (i := 0) (l' := []) rfl rfl; obtain ⟨b29, w30, run31, S32⟩ := S26.alloc (P := prog) 28 [vI 0, vN] zeroValue28 rfl (oC rfl (oC rfl ones_nil)); refine FL.v (E.alloc run31) ?_; refine FL.nil (FW.sr ?_); obtain ⟨b33, w34, run35, S36⟩ := S32.alloc (P := prog) 28 [vI 0, vN] zeroValue28 rfl (oC rfl (oC rfl ones_nil)); refine FL.v (E.alloc run35) ?_; refine FL.nil (FW.sr ?_); refine FL.v (E.fieldAddr tf24_0 rfl) ?_; refine FL.v (E.load rfl (run_load1 isAgg3 (at28.now S36.sl) rfl)) ?_; refine FL.v (E.fieldAddr tf28_0 rfl) ?_; obtain ⟨w37, run38, S39⟩ := S36.store (P := prog) (t := 3) (i := 0) (j := 0) (cs' := [vI a0.vars, vN]) (l' := [.box b33 28 [vI a0.vars, vN], .box b29 28 [vI 0, vN]]) (v := vI a0.vars) (c := [vI a0.vars]) rfl sizeOf3 rfl rfl (oC rfl ones_nil) (nB rfl) rfl rfl; refine FL.act rfl rfl (E.store rfl rfl run38) ?_; refine FL.nil (FW.sr ?_); refine FL.v (E.fieldAddr tf24_1 rfl) ?_; refine FL.v (E.load rfl (run_load1 isAgg22 (at28.now S39.sl) rfl)) ?_; obtain ⟨r40, hr41, hp⟩ := bnd hp; refine FL.c (E.call call22 (A1 rfl)) (w_laws_toIntSS S39.sl v0_1 a0.clauses (p0_1.mono i27) hr41) ?_; rintro e w43 ⟨H42, v46, n47, cs48, rfl, r45, els49, nd50⟩; refine ⟨_, rfl, ?_⟩; have nv51 : New H25 cs48 := New.of_up S39.sl els49.dom; have els49 := els49.mono (up_le S39.size); have S44 := S39.join (l' := [.row 44 1 v46 n47 cs48, .box b33 28 [vI a0.vars, vN], .box b29 28 [vI 0, vN]]) r45 rfl; refine FL.v (E.fieldAddr tf28_1 rfl) ?_; obtain ⟨w52, run53, S54⟩ := S44.store (P := prog) (t := 22) (i := 1) (j := 1) (cs' := [vI a0.vars, v46]) (l' := [.row 44 1 v46 n47 cs48, .box b33 28 [vI a0.vars, v46], .box b29 28 [vI 0, vN]]) (v := v46) (c := [v46]) rfl sizeOf22 (Ln.cells (S44.row_ln (i := 0) rfl)) rfl (oC (Ln.one (S44.row_ln (i := 0) rfl)) ones_nil) (nB rfl) rfl rfl; refine FL.act rfl rfl (E.store rfl rfl run53) ?_; obtain ⟨H55, S56, i57, ns60, nv59⟩ := S54.sealRowN (i := 0) (l' := [.box b33 28 [vI a0.vars, v46], .box b29 28 [vI 0, vN]]) rfl els49 nd50 (by decide) rfl; have h58 := ns60.rsl; obtain ⟨H61, S62, i63, at64⟩ := S56.sealBox (i := 0) (l' := [.box b29 28 [vI 0, vN]]) rfl rfl; refine FL.nil (FW.sr ?_); refine FL.v (E.load rfl (run_loadA isAgg28 sizeOf28 (at64.now S62.sl) rfl)) ?_; obtain ⟨w65, run66, S67⟩ := S62.store0 (P := prog) (t := 28) (i := 0) (cs' := [vI a0.vars, v46]) (l' := [.box b29 28 [vI a0.vars, v46]]) (v := vA #[vI a0.vars, v46]) (c := [vI a0.vars, v46]) rfl sizeOf28 rfl rfl (oC rfl (oC h58.one ones_nil)) (nB rfl) rfl rfl; refine FL.act rfl rfl (E.store rfl rfl run66) ?_; obtain ⟨H68, S69, i70, at71⟩ := S67.sealBox (i := 0) (l' := []) rfl rfl; refine FL.nil (FW.ret ?_); cases hp; exact ⟨.inr rfl, resC rfl rfl (loadVar_A isAgg28 sizeOf28 (at71.now S69.sl) rfl) ⟨_, _, rfl, S69.run, ⟨_, (ns60.mono (up_mono (i63.tr i70)))⟩⟩⟩

theorem w_spec_l1In {Ha : GH} {wa : World} (hs : Sl Ha wa) (a0 : Int) (a1 : Int) (a2 : Int) :
  Calls prog 47 #[vI a0, vI a1, vI a2] wa (Sc Ha wa (vB (PF.spec_l1In a0 a1 a2))) := by
 obtain ⟨r, hp⟩ : ∃ r, (PF.spec_l1In a0 a1 a2) = r := ⟨_, rfl⟩; rw [hp]; unfold PF.spec_l1In at hp; have S0 := St.init hs; refine calls_go (N := 15) (args := [vI a0, vI a1, vI a2]) func47 rfl rfl rfl ?_; refine FW.sr ?_; refine FL.as (v := vB false) rfl ?_; refine FL.nil (FW.sr ?_); refine FL.mv (v := vI a0) rfl ?_; refine FL.mv (v := vI a1) rfl ?_; refine FL.v (E.geq rfl rfl) ?_; refine FL.mv (v := vB (decide (a1 ≤ a0))) rfl ?_; refine FL.cut 4 (fun f w => ∃ H : GH, St Ha wa H w [] ∧ Inc Ha H ∧ f 14 = vB (bif (decide (a1 ≤ a0)) then (decide (a0 ≤ a2)) else false)) ?_ ?_
 ·
  rcases bcase (decide (a1 ≤ a0)) with c27 | c27
  ·
   refine FL.y (wY c27) (E.move (v := vI a0) rfl) ?_; refine FL.y (wY c27) (E.move (v := vI a2) rfl) ?_; refine FL.y (wY c27) (E.leq rfl rfl) ?_; refine FL.v (E.pickT rfl c27 rfl) ?_; exact FL.nil ⟨rfl, _, S0, I0, (congrArg vB (bifT c27).symm)⟩
  ·
   refine FL.skip (wN c27) rfl ?_; refine FL.skip (wN c27) rfl ?_; refine FL.skip (wN c27) rfl ?_; refine FL.v (E.pickF rfl c27 rfl) ?_; exact FL.nil ⟨rfl, _, S0, I0, (congrArg vB (bifF c27).symm)⟩
 rintro f26 w25 ⟨H22, S23, i24, k28⟩; refine FL.as k28 ?_; refine FL.nil (FW.ret ?_); obtain rfl := hp; exact ⟨.inr rfl, res1 rfl rfl ⟨rfl, S23.back⟩⟩

theorem w_spec_l2Vars {Ha : GH} {wa : World} (hs : Sl Ha wa) (a0 : Int) :
  Calls prog 132 #[vI a0] wa (Sc Ha wa (vB (PF.spec_l2Vars a0))) := by
 obtain ⟨r, hp⟩ : ∃ r, (PF.spec_l2Vars a0) = r := ⟨_, rfl⟩; rw [hp]; unfold PF.spec_l2Vars at hp; have S0 := St.init hs; refine calls_go (N := 5) (args := [vI a0]) func132 rfl rfl rfl ?_; refine FW.sr ?_; refine FL.as (v := vB false) rfl ?_; refine FL.nil (FW.sr ?_); refine FL.mv (v := vI a0) rfl ?_; refine FL.c (E.call call47 (A3 rfl rfl rfl)) (w_spec_l1In S0.sl a0 0 12) ?_; rintro e w21 ⟨rfl, r22⟩; refine ⟨_, rfl, ?_⟩; have S23 := S0.call r22; refine FL.as (v := vB (PF.spec_l1In a0 0 12)) rfl ?_; refine FL.nil (FW.ret ?_); obtain rfl := hp; exact ⟨.inr rfl, res1 rfl rfl ⟨rfl, S23.back⟩⟩

theorem w_spec_l2Lit {Ha : GH} {wa : World} (hs : Sl Ha wa) (a0 : Int) (a1 : Int) :
  Calls prog 133 #[vI a0, vI a1] wa (Sc Ha wa (vB (PF.spec_l2Lit a0 a1))) := by
 obtain ⟨r, hp⟩ : ∃ r, (PF.spec_l2Lit a0 a1) = r := ⟨_, rfl⟩; rw [hp]; unfold PF.spec_l2Lit at hp; have S0 := St.init hs; refine calls_go (N := 14) (args := [vI a0, vI a1]) func133 rfl rfl rfl ?_; refine FW.sr ?_; refine FL.as (v := vB false) rfl ?_; refine FL.nil (FW.sr ?_); refine FL.mv (v := vI a1) rfl ?_; refine FL.mv (v := vI a0) rfl ?_; refine FL.v (E.neg rfl) ?_; refine FL.mv (v := vI a0) rfl ?_; refine FL.c (E.call call47 (A3 rfl rfl rfl)) (w_spec_l1In S0.sl a1 (wr (-a0)) a0) ?_; rintro e w21 ⟨rfl, r22⟩; refine ⟨_, rfl, ?_⟩; have S23 := S0.call r22; refine FL.mv (v := vB (PF.spec_l1In a1 (wr (-a0)) a0)) rfl ?_; refine FL.cut 3 (fun f w => ∃ H : GH, St Ha wa H w [] ∧ Inc Ha H ∧ f 13 = vB (bif (PF.spec_l1In a1 (wr (-a0)) a0) then (!(a1 == 0)) else false)) ?_ ?_
 ·
  rcases bcase (PF.spec_l1In a1 (wr (-a0)) a0) with c30 | c30
  ·
   refine FL.y (wY c30) (E.move (v := vI a1) rfl) ?_; refine FL.y (wY c30) (E.neq rfl rfl) ?_; refine FL.v (E.pickT rfl c30 rfl) ?_; exact FL.nil ⟨rfl, _, S23, I0, (congrArg vB (bifT c30).symm)⟩
  ·
   refine FL.skip (wN c30) rfl ?_; refine FL.skip (wN c30) rfl ?_; refine FL.v (E.pickF rfl c30 rfl) ?_; exact FL.nil ⟨rfl, _, S23, I0, (congrArg vB (bifF c30).symm)⟩
 rintro f29 w28 ⟨H25, S26, i27, k31⟩; refine FL.as k31 ?_; refine FL.nil (FW.ret ?_); obtain rfl := hp; exact ⟨.inr rfl, res1 rfl rfl ⟨rfl, S26.back⟩⟩

theorem w_spec_l2Var {Ha : GH} {wa : World} (hs : Sl Ha wa) (a0 : Int) :
  Calls prog 75 #[vI a0] wa (Sc Ha wa (vI (PF.spec_l2Var a0))) := by
 obtain ⟨r, hp⟩ : ∃ r, (PF.spec_l2Var a0) = r := ⟨_, rfl⟩; rw [hp]; unfold PF.spec_l2Var at hp; have S0 := St.init hs; refine calls_go (N := 8) (args := [vI a0]) func75 rfl rfl rfl ?_; refine FW.sr ?_; refine FL.as (v := vI 0) rfl ?_; refine FL.nil (FW.seq (FW.sr ?_)); refine FL.mv (v := vI a0) rfl ?_; refine FL.v (E.lss rfl rfl) ?_; refine FL.nil ?_; rcases ifT hp with ⟨c21, hp⟩ | ⟨c21, hp⟩
 ·
  refine FW.condT rfl c21 ?_; refine FW.sr ?_; refine FL.mv (v := vI a0) rfl ?_; refine FL.v (E.neg rfl) ?_; refine FL.as (v := vI (wr (-a0))) rfl ?_; refine FL.nil (FW.ret ?_); obtain rfl := hp; exact ⟨.inr rfl, res1 rfl rfl ⟨rfl, S0.back⟩⟩
 ·
  refine FW.condF rfl c21 ?_; refine FW.skip (FW.sr ?_); refine FL.mv (v := vI a0) rfl ?_; refine FL.as (v := vI a0) rfl ?_; refine FL.nil (FW.ret ?_); obtain rfl := hp; exact ⟨.inr rfl, res1 rfl rfl ⟨rfl, S0.back⟩⟩

theorem w_spec_l2Clause {Ha : GH} {wa : World} (hs : Sl Ha wa) (a0 : Int) (v1 : Value) (a1 : List Int) (p1 : RSl Ha eI 1 v1 a1) {r : Bool} (hp : (PF.spec_l2Clause a0 a1) = some r) :
  Calls prog 102 #[vI a0, v1] wa (Sc Ha wa (vB r)) := by
 unfold PF.spec_l2Clause at hp; have S0 := St.init hs; refine calls_go (N := 40) (args := [vI a0, v1]) func102 rfl rfl rfl ?_; refine FW.sr ?_; refine FL.as (v := vB false) rfl ?_; refine FL.nil (FW.seq (FW.sr ?_)); refine FL.mv (v := vI a0) rfl ?_; refine FL.c (E.call call132 (A1 rfl)) (w_spec_l2Vars S0.sl a0) ?_; rintro e w21 ⟨rfl, r22⟩; refine ⟨_, rfl, ?_⟩; have S23 := S0.call r22; refine FL.v (E.not rfl) ?_; refine FL.nil ?_; rcases ifB hp with ⟨c24, hp⟩ | ⟨c24, hp⟩
 ·
  refine FW.condT rfl c24 ?_; refine FW.sr ?_; refine FL.as (v := vB false) rfl ?_; refine FL.nil (FW.ret ?_); cases hp; exact ⟨.inr rfl, res1 rfl rfl ⟨rfl, S23.back⟩⟩
 ·
  refine FW.condF rfl c24 ?_; refine FW.skip (FW.seq (FW.sr ?_)); refine FL.as (v := vI 0) rfl ?_; refine FL.nil ?_; obtain ⟨q26, hq, hp⟩ := bndR hp; refine FW.block ?_; refine FW.mono (FW.forL (S := Unit) (X := Bool) (fun (i26 : Nat) (s26 : Unit) f w => ∃ H : GH, St Ha wa H w [] ∧ Inc Ha H ∧ f 5 = vI ((i26 : Nat) : Int) ∧ f 0 = vI a0 ∧ f 1 = v1) (fun q e f w => match q with | .go s26 => e = Exit.exit 0 ∧ (∃ H : GH, St Ha wa H w [] ∧ Inc Ha H) | .rt x => ((e = Exit.ret) ∧ (fun e f w => (e = Exit.normal ∨ e = Exit.ret) ∧ ∀ a, Fr (δ := []) 40 a f → ∃ v, (results Tryz.f102 a.tmps).run prog w = .ok v w ∧ (Sc Ha wa (vB x)) (.returned v) w) e f w)) hq ⟨_, S23, I0, rfl, rfl, rfl⟩ ?_ ?_) ?_
  ·
   clear hp hq; rintro i26 y25 s26 f141 w140 ⟨H137, S138, i139, k142, k143, k144⟩ hx26 o247 hp; refine FW.seq (FW.sr ?_); refine FL.mv k142 ?_; refine FL.mv k144 ?_; refine FL.v (E.lenP te44 rfl p1) ?_; refine FL.v (E.lssT rfl rfl (lss_len hx26)) ?_; refine FL.nil ?_; refine FW.condT rfl rfl ?_; refine FW.skip (FW.seq (FW.block (FW.seq ?_))); refine FW.draw (fun w' => Run w140.heap.size H137 w140 H137 w') (by kernel_rfl) (by kernel_rfl) (run_drew S138.sl) ?_; refine FD.v (fun _ z => (E.move k143)) ?_; refine FD.v (fun _ z => (E.move k144)) ?_; refine FD.v (fun _ z => (E.move k142)) ?_; obtain ⟨p146, cs147, pt148, l149, at150, rel151⟩ := p1.at (ix_nat hx26); obtain rfl := eI_open rel151; refine FD.v (fun _ z => (E.indexAddr te44 rfl rfl pt148)) ?_; refine FD.v (fun _ z => (E.load rfl (run_load0 isAgg3 ((at150.mono i139).now (S138.call z).sl) rfl))) ?_; refine FD.call rfl rfl rfl (fun _ z => (E.call call133 (A2 rfl rfl))) (fun _ z => Calls.cls z (w_spec_l2Lit (S138.call z).sl a0 y25)) ?_; refine FD.v (fun _ z => (E.not rfl)) ?_; refine FD.v (fun _ z => (E.move (v := vB (!(PF.spec_l2Lit a0 y25))) rfl)) ?_; obtain ⟨t192, hqt192, hp⟩ := bnd hp; refine FD.cut 17 (fun f => f 0 = vI a0 ∧ f 1 = v1 ∧ f 5 = vI ((i26 : Nat) : Int) ∧ f 39 = vB t192) ?_ ?_
   ·
    clear hp; have hp := hqt192; clear hqt192; rcases ifB hp with ⟨c198, hp⟩ | ⟨c198, hp⟩
    ·
     refine FD.skip (wN c198) rfl ?_; refine FD.skip (wN c198) rfl ?_; refine FD.skip (wN c198) rfl ?_; refine FD.skip (wF_undef rfl rfl rfl) rfl ?_; refine FD.skip (wF_undef rfl rfl rfl) rfl ?_; refine FD.skip (wF_undef rfl rfl rfl) rfl ?_; refine FD.skip (wF_undef rfl rfl rfl) rfl ?_; refine FD.skip (wF_undef rfl rfl rfl) rfl ?_; refine FD.skip (wF_undef rfl rfl rfl) rfl ?_; refine FD.skip (wF_undef rfl rfl rfl) rfl ?_; refine FD.skip (wF_undef rfl rfl rfl) rfl ?_; refine FD.skip (wF_undef rfl rfl rfl) rfl ?_; refine FD.skip (wF_undef rfl rfl rfl) rfl ?_; refine FD.skip (wF_undef rfl rfl rfl) rfl ?_; refine FD.skip (wF_undef rfl rfl rfl) rfl ?_; refine FD.skip (wN c198) rfl ?_; cases hp; refine FD.v (fun _ z => (E.pickT rfl c198 rfl)) ?_; exact FD.nil ⟨k143, k144, k142, rfl⟩
    ·
     refine FD.y (wY c198) (fun _ z => (E.move k142)) ?_; refine FD.y (wY c198) (fun _ z => (E.gtr rfl rfl)) ?_; refine FD.y (wY c198) (fun _ z => (E.move (v := vB (decide (0 < ((i26 : Nat) : Int)))) rfl)) ?_; obtain ⟨t213, hqt213, hp⟩ := bnd hp; refine FD.cut 13 (fun f => f 0 = vI a0 ∧ f 1 = v1 ∧ f 5 = vI ((i26 : Nat) : Int) ∧ f 22 = vB (!(PF.spec_l2Lit a0 y25)) ∧ f 38 = vB t213) ?_ ?_
     ·
      clear hp; have hp := hqt213; clear hqt213; rcases ifB hp with ⟨c219, hp⟩ | ⟨c219, hp⟩
      ·
       refine FD.y (wY c219) (fun _ z => (E.move k144)) ?_; refine FD.y (wY c219) (fun _ z => (E.move k142)) ?_; refine FD.y (wY c219) (fun _ z => (E.sub rfl rfl)) ?_; obtain ⟨x226, hx227, hp⟩ := bnd hp; obtain ⟨p220, cs221, pt222, l223, at224, rel225⟩ := p1.at hx227; obtain rfl := eI_open rel225; refine FD.y (wY c219) (fun _ z => (E.indexAddr te44 rfl rfl pt222)) ?_; refine FD.y (wY c219) (fun _ z => (E.load rfl (run_load0 isAgg3 ((at224.mono i139).now (S138.call z).sl) rfl))) ?_; refine FD.call (wY c219) rfl rfl (fun _ z => (E.call call75 (A1 rfl))) (fun _ z => Calls.cls z (w_spec_l2Var (S138.call z).sl x226)) ?_; refine FD.y (wY c219) (fun _ z => (E.move k144)) ?_; refine FD.y (wY c219) (fun _ z => (E.move k142)) ?_; obtain ⟨p228, cs229, pt230, l231, at232, rel233⟩ := p1.at (ix_nat hx26); obtain rfl := eI_open rel233; refine FD.y (wY c219) (fun _ z => (E.indexAddr te44 rfl rfl pt230)) ?_; refine FD.y (wY c219) (fun _ z => (E.load rfl (run_load0 isAgg3 ((at232.mono i139).now (S138.call z).sl) rfl))) ?_; refine FD.call (wY c219) rfl rfl (fun _ z => (E.call call75 (A1 rfl))) (fun _ z => Calls.cls z (w_spec_l2Var (S138.call z).sl y25)) ?_; refine FD.y (wY c219) (fun _ z => (E.geq rfl rfl)) ?_; cases hp; refine FD.y (wY c198) (fun _ z => (E.pickT rfl c219 rfl)) ?_; exact FD.nil ⟨k143, k144, k142, rfl, rfl⟩
      ·
       refine FD.skip (wN c219) rfl ?_; refine FD.skip (wN c219) rfl ?_; refine FD.skip (wN c219) rfl ?_; refine FD.skip (wN c219) rfl ?_; refine FD.skip (wN c219) rfl ?_; refine FD.skip (wN c219) rfl ?_; refine FD.skip (wN c219) rfl ?_; refine FD.skip (wN c219) rfl ?_; refine FD.skip (wN c219) rfl ?_; refine FD.skip (wN c219) rfl ?_; refine FD.skip (wN c219) rfl ?_; refine FD.skip (wN c219) rfl ?_; cases hp; refine FD.y (wY c198) (fun _ z => (E.pickF rfl c219 rfl)) ?_; exact FD.nil ⟨k143, k144, k142, rfl, rfl⟩
     rintro f218 ⟨k234, k235, k236, k237, k238⟩; cases hp; refine FD.v (fun _ z => (E.pickF k237 c198 k238)) ?_; exact FD.nil ⟨k234, k235, k236, rfl⟩
   rintro f197 ⟨k239, k240, k241, k242⟩; refine FD.nil ?_; intro w243 r245; have S244 := S138.call r245; rcases ifB hp with ⟨c246, hp⟩ | ⟨c246, hp⟩
   ·
    refine FW.condT k242 c246 ?_; refine FW.sr ?_; refine FL.as (v := vB false) rfl ?_; refine FL.nil (FW.ret ?_); cases hp; exact ⟨nofun, rfl, ⟨.inr rfl, res1 rfl rfl ⟨rfl, S244.back⟩⟩⟩
   ·
    refine FW.condF k242 c246 ?_; refine FW.skip (FW.region ?_); refine FL.mv k241 ?_; refine FL.v (E.add rfl rfl) ?_; refine FL.as (v := vI (wr (((i26 : Nat) : Int) + 1))) rfl ?_; refine FL.nil ?_; cases hp; exact ⟨rfl, ⟨_, S244, i139, (nat_succ rfl (lt_of_get hx26) (p1.mono i139).le), k239, k240⟩⟩
  ·
   clear hp hq; rintro s26 f257 w256 ⟨H253, S254, i255, k258, k259, k260⟩; refine FW.seq (FW.sr ?_); refine FL.mv k258 ?_; refine FL.mv k260 ?_; refine FL.v (E.lenP te44 rfl p1) ?_; refine FL.v (E.lss rfl rfl) ?_; refine FL.nil ?_; refine FW.condF rfl dlt_len ?_; refine FW.exit ?_; exact ⟨nofun, rfl, ⟨_, S254, i255⟩⟩
  ·
   clear hq; intro e f252 w251 hD; rcases q26 with s26 | x26
   ·
    obtain ⟨rfl, hD⟩ := hD; obtain ⟨H248, S249, i250⟩ := hD; replace hp := el_go hp; refine FW.sr ?_; refine FL.as (v := vB true) rfl ?_; refine FL.nil (FW.ret ?_); cases hp; exact ⟨.inr rfl, res1 rfl rfl ⟨rfl, S249.back⟩⟩
   ·
    obtain ⟨he, hL⟩ := hD; replace hp := el_rt hp; cases hp; subst he; exact hL

theorem w_spec_l2Good {Ha : GH} {wa : World} (hs : Sl Ha wa) (a0 : Cnf) (v0_1 : Value) (p0_1 : RSl Ha (eL eI 1) 1 v0_1 a0.clauses) {r : Bool} (hp : (PF.spec_l2Good a0) = some r) :
  Calls prog 101 #[vA #[vI a0.vars, v0_1]] wa (Sc Ha wa (vB r)) := by
 unfold PF.spec_l2Good at hp; have S0 := St.init hs; refine calls_go (N := 30) (args := [vA #[vI a0.vars, v0_1]]) func101 rfl rfl rfl ?_; refine FW.sr ?_; obtain ⟨b21, w22, run23, S24⟩ := S0.box (P := prog) 28 [vI a0.vars, v0_1] (v := vA #[vI a0.vars, v0_1]) rfl (oC rfl (oC p0_1.one ones_nil)); refine FL.v (E.box rfl run23) ?_; obtain ⟨H25, S26, i27, at28⟩ := S24.sealBox (i := 0) (l' := []) rfl rfl; refine FL.as (v := vB false) rfl ?_; refine FL.nil (FW.seq (FW.sr ?_)); refine FL.v (E.fieldAddr tf28_0 rfl) ?_; refine FL.v (E.load rfl (run_load1 isAgg3 (at28.now S26.sl) rfl)) ?_; refine FL.c (E.call call132 (A1 rfl)) (w_spec_l2Vars S26.sl a0.vars) ?_; rintro e w29 ⟨rfl, r30⟩; refine ⟨_, rfl, ?_⟩; have S31 := S26.call r30; refine FL.v (E.not rfl) ?_; refine FL.mv (v := vB (!(PF.spec_l2Vars a0.vars))) rfl ?_; refine FL.cut 5 (fun f w => ∃ H : GH, St Ha wa H w [] ∧ Inc H25 H ∧ f 1 = vP (⟨b21, 0, none⟩) ∧ f 13 = vB (bif (!(PF.spec_l2Vars a0.vars)) then true else (decide (60 < (len a0.clauses))))) ?_ ?_
 ·
  rcases bcase (!(PF.spec_l2Vars a0.vars)) with c38 | c38
  ·
   refine FL.skip (wN c38) rfl ?_; refine FL.skip (wN c38) rfl ?_; refine FL.skip (wN c38) rfl ?_; refine FL.skip (wN c38) rfl ?_; refine FL.v (E.pickT rfl c38 rfl) ?_; exact FL.nil ⟨rfl, _, S31, I0, rfl, (congrArg vB (bifT c38).symm)⟩
  ·
   refine FL.y (wY c38) (E.fieldAddr tf28_1 rfl) ?_; refine FL.y (wY c38) (E.load rfl (run_load1 isAgg22 (at28.now S31.sl) rfl)) ?_; refine FL.y (wY c38) (E.lenP te22 rfl p0_1) ?_; refine FL.y (wY c38) (E.gtr rfl rfl) ?_; refine FL.v (E.pickF rfl c38 rfl) ?_; exact FL.nil ⟨rfl, _, S31, I0, rfl, (congrArg vB (bifF c38).symm)⟩
 rintro f37 w36 ⟨H33, S34, i35, k39, k40⟩; refine FL.nil ?_; rcases ifB hp with ⟨c41, hp⟩ | ⟨c41, hp⟩
 ·
  refine FW.condT k40 c41 ?_; refine FW.sr ?_; refine FL.as (v := vB false) rfl ?_; refine FL.nil (FW.ret ?_); cases hp; exact ⟨.inr rfl, res1 rfl rfl ⟨rfl, S34.back⟩⟩
 ·
  refine FW.condF k40 c41 ?_; refine FW.skip (FW.seq (FW.sr ?_)); refine FL.as (v := vI 0) rfl ?_; refine FL.nil ?_; obtain ⟨q42, hq, hp⟩ := bndR hp; refine FW.block ?_; refine FW.mono (FW.iter (S := Int) (X := Bool) (fun (s42 : Int) f w => ∃ H : GH, St Ha wa H w [] ∧ Inc H33 H ∧ f 1 = vP (⟨b21, 0, none⟩) ∧ f 3 = vI s42) (fun q e f w => match q with | .go s42 => e = Exit.exit 0 ∧ (∃ H : GH, St Ha wa H w [] ∧ Inc H33 H) | .rt x => ((e = Exit.ret) ∧ (fun e f w => (e = Exit.normal ∨ e = Exit.ret) ∧ ∀ a, Fr (δ := []) 30 a f → ∃ v, (results Tryz.f101 a.tmps).run prog w = .ok v w ∧ (Sc Ha wa (vB x)) (.returned v) w) e f w)) hq ⟨_, S34, I0, k39, rfl⟩ ?_) ?_
  ·
   clear hp hq; rintro s42 f72 w71 ⟨H68, S69, i70, k73, k74⟩ o93 hp; refine FW.seq (FW.sr ?_); refine FL.mv k74 ?_; refine FL.v (E.fieldAddr tf28_1 k73) ?_; refine FL.v (E.load rfl (run_load1 isAgg22 ((at28.mono (i35.tr i70)).now S69.sl) rfl)) ?_; refine FL.v (E.lenP te22 rfl p0_1) ?_; refine FL.v (E.lss rfl rfl) ?_; refine FL.nil ?_; rcases ifB hp with ⟨c75, hp⟩ | ⟨c75, hp⟩
   ·
    refine FW.condT rfl c75 ?_; refine FW.skip (FW.seq (FW.block (FW.seq ?_))); refine FW.draw (fun w' => Run w71.heap.size H68 w71 H68 w') (by kernel_rfl) (by kernel_rfl) (run_drew S69.sl) ?_; refine FD.v (fun _ z => (E.fieldAddr tf28_0 k73)) ?_; refine FD.v (fun _ z => (E.load rfl (run_load1 isAgg3 ((at28.mono (i35.tr i70)).now (S69.call z).sl) rfl))) ?_; refine FD.v (fun _ z => (E.fieldAddr tf28_1 k73)) ?_; refine FD.v (fun _ z => (E.load rfl (run_load1 isAgg22 ((at28.mono (i35.tr i70)).now (S69.call z).sl) rfl))) ?_; refine FD.v (fun _ z => (E.move k74)) ?_; obtain ⟨x83, hx84, hp⟩ := bnd hp; obtain ⟨p77, cs78, pt79, l80, at81, rel82⟩ := p0_1.at hx84; obtain ⟨v85, rfl, h86⟩ := eL_open rel82; refine FD.v (fun _ z => (E.indexAddr te22 rfl rfl pt79)) ?_; refine FD.v (fun _ z => (E.load rfl (run_load0 isAgg44 ((at81.mono ((i27.tr i35).tr i70)).now (S69.call z).sl) rfl))) ?_; obtain ⟨r87, hr88, hp⟩ := bnd hp; refine FD.call rfl rfl rfl (fun _ z => (E.call call102 (A2 rfl rfl))) (fun _ z => Calls.cls z (w_spec_l2Clause (S69.call z).sl a0.vars v85 x83 (h86.mono ((i27.tr i35).tr i70)) hr88)) ?_; refine FD.v (fun _ z => (E.not rfl)) ?_; refine FD.nil ?_; intro w89 r91; have S90 := S69.call r91; rcases ifB hp with ⟨c92, hp⟩ | ⟨c92, hp⟩
    ·
     refine FW.condT rfl c92 ?_; refine FW.sr ?_; refine FL.as (v := vB false) rfl ?_; refine FL.nil (FW.ret ?_); cases hp; exact ⟨nofun, rfl, ⟨.inr rfl, res1 rfl rfl ⟨rfl, S90.back⟩⟩⟩
    ·
     refine FW.condF rfl c92 ?_; refine FW.skip (FW.region ?_); refine FL.mv k74 ?_; refine FL.v (E.add rfl rfl) ?_; refine FL.as (v := vI (wr (s42 + 1))) rfl ?_; refine FL.nil ?_; cases hp; exact ⟨rfl, ⟨_, S90, i70, k73, rfl⟩⟩
   ·
    refine FW.condF rfl c75 ?_; refine FW.exit ?_; cases hp; exact ⟨nofun, rfl, ⟨_, S69, i70⟩⟩
  ·
   clear hq; intro e f98 w97 hD; rcases q42 with s42 | x42
   ·
    obtain ⟨rfl, hD⟩ := hD; obtain ⟨H94, S95, i96⟩ := hD; replace hp := el_go hp; refine FW.sr ?_; refine FL.as (v := vB true) rfl ?_; refine FL.nil (FW.ret ?_); cases hp; exact ⟨.inr rfl, res1 rfl rfl ⟨rfl, S95.back⟩⟩
   ·
    obtain ⟨he, hL⟩ := hD; replace hp := el_rt hp; cases hp; subst he; exact hL

theorem w_spec_l11Takes {Ha : GH} {wa : World} (hs : Sl Ha wa) (a0 : Cnf) (v0_1 : Value) (p0_1 : RSl Ha (eL eI 1) 1 v0_1 a0.clauses) (v1 : Value) (a1 : List (List Int)) (p1 : RSl Ha (eL eI 1) 1 v1 a1) {r : Bool} (hp : (PF.spec_l11Takes a0 a1) = some r) :
  Calls prog 69 #[vA #[vI a0.vars, v0_1], v1] wa (Sc Ha wa (vB r)) := by
 unfold PF.spec_l11Takes at hp; have S0 := St.init hs; refine calls_go (N := 28) (args := [vA #[vI a0.vars, v0_1], v1]) func69 rfl rfl rfl ?_; refine FW.sr ?_; obtain ⟨b21, w22, run23, S24⟩ := S0.box (P := prog) 28 [vI a0.vars, v0_1] (v := vA #[vI a0.vars, v0_1]) rfl (oC rfl (oC p0_1.one ones_nil)); refine FL.v (E.box rfl run23) ?_; obtain ⟨H25, S26, i27, at28⟩ := S24.sealBox (i := 0) (l' := []) rfl rfl; refine FL.as (v := vB false) rfl ?_; refine FL.nil (FW.seq (FW.sr ?_)); refine FL.v (E.load rfl (run_loadA isAgg28 sizeOf28 (at28.now S26.sl) rfl)) ?_; obtain ⟨r29, hr30, hp⟩ := bnd hp; refine FL.c (E.call call101 (A1 rfl)) (w_spec_l2Good S26.sl a0 v0_1 (p0_1.mono i27) hr30) ?_; rintro e w31 ⟨rfl, r32⟩; refine ⟨_, rfl, ?_⟩; have S33 := S26.call r32; refine FL.v (E.not rfl) ?_; refine FL.mv (v := vB (!r29)) rfl ?_; refine FL.cut 4 (fun f w => ∃ H : GH, St Ha wa H w [] ∧ Inc H25 H ∧ f 1 = v1 ∧ f 2 = vP (⟨b21, 0, none⟩) ∧ f 13 = vB (bif (!r29) then true else (decide (60 < (len a1))))) ?_ ?_
 ·
  rcases bcase (!r29) with c40 | c40
  ·
   refine FL.skip (wN c40) rfl ?_; refine FL.skip (wN c40) rfl ?_; refine FL.skip (wN c40) rfl ?_; refine FL.v (E.pickT rfl c40 rfl) ?_; exact FL.nil ⟨rfl, _, S33, I0, rfl, rfl, (congrArg vB (bifT c40).symm)⟩
  ·
   refine FL.y (wY c40) (E.move (v := v1) rfl) ?_; refine FL.y (wY c40) (E.lenP te22 rfl p1) ?_; refine FL.y (wY c40) (E.gtr rfl rfl) ?_; refine FL.v (E.pickF rfl c40 rfl) ?_; exact FL.nil ⟨rfl, _, S33, I0, rfl, rfl, (congrArg vB (bifF c40).symm)⟩
 rintro f39 w38 ⟨H35, S36, i37, k41, k42, k43⟩; refine FL.nil ?_; rcases ifB hp with ⟨c44, hp⟩ | ⟨c44, hp⟩
 ·
  refine FW.condT k43 c44 ?_; refine FW.sr ?_; refine FL.as (v := vB false) rfl ?_; refine FL.nil (FW.ret ?_); cases hp; exact ⟨.inr rfl, res1 rfl rfl ⟨rfl, S36.back⟩⟩
 ·
  refine FW.condF k43 c44 ?_; refine FW.skip (FW.seq (FW.sr ?_)); refine FL.as (v := vI 0) rfl ?_; refine FL.nil ?_; obtain ⟨q46, hq, hp⟩ := bndR hp; refine FW.block ?_; refine FW.mono (FW.forL (S := Unit) (X := Bool) (fun (i46 : Nat) (s46 : Unit) f w => ∃ H : GH, St Ha wa H w [] ∧ Inc H35 H ∧ f 5 = vI ((i46 : Nat) : Int) ∧ f 1 = v1 ∧ f 2 = vP (⟨b21, 0, none⟩)) (fun q e f w => match q with | .go s46 => e = Exit.exit 0 ∧ (∃ H : GH, St Ha wa H w [] ∧ Inc H35 H) | .rt x => ((e = Exit.ret) ∧ (fun e f w => (e = Exit.normal ∨ e = Exit.ret) ∧ ∀ a, Fr (δ := []) 28 a f → ∃ v, (results Tryz.f69 a.tmps).run prog w = .ok v w ∧ (Sc Ha wa (vB x)) (.returned v) w) e f w)) hq ⟨_, S36, I0, rfl, k41, k42⟩ ?_ ?_) ?_
  ·
   clear hp hq; rintro i46 y45 s46 f74 w73 ⟨H70, S71, i72, k75, k76, k77⟩ hx46 o93 hp; refine FW.seq (FW.sr ?_); refine FL.mv k75 ?_; refine FL.mv k76 ?_; refine FL.v (E.lenP te22 rfl p1) ?_; refine FL.v (E.lssT rfl rfl (lss_len hx46)) ?_; refine FL.nil ?_; refine FW.condT rfl rfl ?_; refine FW.skip (FW.seq (FW.block (FW.seq ?_))); refine FW.draw (fun w' => Run w73.heap.size H70 w73 H70 w') (by kernel_rfl) (by kernel_rfl) (run_drew S71.sl) ?_; refine FD.v (fun _ z => (E.fieldAddr tf28_0 k77)) ?_; refine FD.v (fun _ z => (E.load rfl (run_load1 isAgg3 ((at28.mono (i37.tr i72)).now (S71.call z).sl) rfl))) ?_; refine FD.v (fun _ z => (E.move k76)) ?_; refine FD.v (fun _ z => (E.move k75)) ?_; obtain ⟨p79, cs80, pt81, l82, at83, rel84⟩ := p1.at (ix_nat hx46); obtain ⟨v85, rfl, h86⟩ := eL_open rel84; refine FD.v (fun _ z => (E.indexAddr te22 rfl rfl pt81)) ?_; refine FD.v (fun _ z => (E.load rfl (run_load0 isAgg44 ((at83.mono ((i27.tr i37).tr i72)).now (S71.call z).sl) rfl))) ?_; obtain ⟨r87, hr88, hp⟩ := bnd hp; refine FD.call rfl rfl rfl (fun _ z => (E.call call102 (A2 rfl rfl))) (fun _ z => Calls.cls z (w_spec_l2Clause (S71.call z).sl a0.vars v85 y45 (h86.mono ((i27.tr i37).tr i72)) hr88)) ?_; refine FD.v (fun _ z => (E.not rfl)) ?_; refine FD.nil ?_; intro w89 r91; have S90 := S71.call r91; rcases ifB hp with ⟨c92, hp⟩ | ⟨c92, hp⟩
   ·
    refine FW.condT rfl c92 ?_; refine FW.sr ?_; refine FL.as (v := vB false) rfl ?_; refine FL.nil (FW.ret ?_); cases hp; exact ⟨nofun, rfl, ⟨.inr rfl, res1 rfl rfl ⟨rfl, S90.back⟩⟩⟩
   ·
    refine FW.condF rfl c92 ?_; refine FW.skip (FW.region ?_); refine FL.mv k75 ?_; refine FL.v (E.add rfl rfl) ?_; refine FL.as (v := vI (wr (((i46 : Nat) : Int) + 1))) rfl ?_; refine FL.nil ?_; cases hp; exact ⟨rfl, ⟨_, S90, i72, (nat_succ rfl (lt_of_get hx46) (p1.mono ((i27.tr i37).tr i72)).le), k76, k77⟩⟩
  ·
   clear hp hq; rintro s46 f103 w102 ⟨H99, S100, i101, k104, k105, k106⟩; refine FW.seq (FW.sr ?_); refine FL.mv k104 ?_; refine FL.mv k105 ?_; refine FL.v (E.lenP te22 rfl p1) ?_; refine FL.v (E.lss rfl rfl) ?_; refine FL.nil ?_; refine FW.condF rfl dlt_len ?_; refine FW.exit ?_; exact ⟨nofun, rfl, ⟨_, S100, i101⟩⟩
  ·
   clear hq; intro e f98 w97 hD; rcases q46 with s46 | x46
   ·
    obtain ⟨rfl, hD⟩ := hD; obtain ⟨H94, S95, i96⟩ := hD; replace hp := el_go hp; refine FW.sr ?_; refine FL.as (v := vB true) rfl ?_; refine FL.nil (FW.ret ?_); cases hp; exact ⟨.inr rfl, res1 rfl rfl ⟨rfl, S95.back⟩⟩
   ·
    obtain ⟨he, hL⟩ := hD; replace hp := el_rt hp; cases hp; subst he; exact hL

@[reducible] def p_spec_l11With (Ha : GH) (wa : World) (r : Cnf) : Ending → World → Prop :=
 fun e w' => ∃ H' : GH, ∃ v0_1 : Value, e = .returned (vA #[vI r.vars, v0_1]) ∧ Run wa.heap.size Ha wa H' w' ∧ RSl H' (eL eI 1) 1 v0_1 r.clauses
theorem w_spec_l11With {Ha : GH} {wa : World} (hs : Sl Ha wa) (a0 : Cnf) (v0_1 : Value) (p0_1 : RSl Ha (eL eI 1) 1 v0_1 a0.clauses) (v1 : Value) (a1 : List (List Int)) (p1 : RSl Ha (eL eI 1) 1 v1 a1) {r : Cnf} (hp : (PF.spec_l11With a0 a1) = some r) :
  Calls prog 72 #[vA #[vI a0.vars, v0_1], v1] wa (p_spec_l11With Ha wa r) := by
 unfold PF.spec_l11With at hp; have S0 := St.init hs; refine calls_go (N := 14) (args := [vA #[vI a0.vars, v0_1], v1]) func72 rfl rfl rfl ?_; refine FW.sr ?_; obtain ⟨b21, w22, run23, S24⟩ := S0.box (P := prog) 28 [vI a0.vars, v0_1] (v := vA #[vI a0.vars, v0_1]) rfl (oC rfl (oC p0_1.one ones_nil)); refine FL.v (E.box rfl run23) ?_; obtain ⟨H25, S26, i27, at28⟩ := S24.sealBox (i := 0) (l' := []) rfl rfl; obtain ⟨b29, w30, run31, S32⟩ := S26.alloc (P := prog) 28 [vI 0, vN] zeroValue28 rfl (oC rfl (oC rfl ones_nil)); refine FL.v (E.alloc run31) ?_; refine FL.nil (FW.seq ?_); obtain ⟨xs41, hz42, hp⟩ := bnd hp; obtain ⟨xs50, hz51, hp⟩ := bnd hp; refine FW.drawB (Sl H25) (fun f w => ∃ H : GH, ∃ v66 : Value, St Ha wa H w [.box b29 28 [vI a0.vars, v66]] ∧ Inc H25 H ∧ RSl H (eL eI 1) 1 v66 xs50 ∧ f 4 = vP ((⟨b29, 0, none⟩ : Addr))) (by kernel_rfl) S32.sl ?_ ?_
 ·
  intro w33 r34; have S35 := S32.call r34; refine FB.T 0 10 1 rfl S35.sl rfl (fun _ z => (E.fieldAddr tf28_0 rfl)) ?_; refine FB.T 1 10 3 rfl S35.sl rfl (fun _ z => (E.load rfl (run_load1 isAgg3 (at28.now z) rfl))) ?_; refine FB.T 3 10 11 rfl S35.sl rfl (fun _ z => (E.fieldAddr tf28_1 rfl)) ?_; refine FB.T 4 10 27 rfl S35.sl rfl (fun _ z => (E.load rfl (run_load1 isAgg22 (at28.now z) rfl))) ?_; refine FB.T 6 10 91 rfl S35.sl rfl (fun _ z => (E.move (v := v1) rfl)) ?_; refine FB.all1 (i := 2) (by kernel_rfl) ?_
  ·
   obtain ⟨v36, w37, run38, S39⟩ := S35.buildSlice (P := prog) te22 [] (parts := #[]) (cells := []) rfl szs_nil fc_nil ones_nil (nB rfl); have els40 : Els (up wa.heap.size H25) (eL eI 1) 1 [] [] := Els.nil; refine FC.val (l' := (bs 10 95)) rfl (by kernel_rfl) rfl rfl rfl (E.buildSlice (B0) run38) ?_; refine ⟨(SP.nil S39.sl), ?_⟩; refine FB.all1 (i := 5) (by kernel_rfl) ?_
   ·
    obtain ⟨v43, w46, n44, cs45, run47, S48, els49⟩ := S39.appendP (P := prog) I0 te22 (i := 0) rfl (els40.mono upI) (p0_1.mono i27) hz42; have S48 : St Ha wa H25 w46 [.row 44 1 v43 n44 cs45, .box b29 28 [vI 0, vN]] := S48; refine FC.val (l' := (bs 10 127)) rfl (by kernel_rfl) rfl rfl rfl (E.append rfl rfl run47) ?_; refine ⟨(SP.nil S48.sl), ?_⟩; refine FB.all1 (i := 7) (by kernel_rfl) ?_
    ·
     obtain ⟨v52, w55, n53, cs54, run56, S57, els58⟩ := S48.appendP (P := prog) I0 te22 (i := 0) rfl els49 (p1.mono i27) hz51; have S57 : St Ha wa H25 w55 [.row 44 1 v52 n53 cs54, .box b29 28 [vI 0, vN]] := S57; refine FC.val (l' := (bs 10 255)) rfl (by kernel_rfl) rfl rfl rfl (E.append rfl rfl run56) ?_; refine ⟨(SP.nil S57.sl), ?_⟩; obtain ⟨H59, S60, i61, h62⟩ := S57.sealRow (i := 0) (l' := [.box b29 28 [vI 0, vN]]) rfl els58 (by decide) rfl; refine FB.T 8 10 511 rfl S57.sl rfl (fun _ z => (E.build (B2 rfl rfl) (run_build _ 28 #[(0, vI a0.vars), (1, v52)] #[vI a0.vars, v52] (by obtain ⟨_, _, rfl⟩ := RSl.ln h62; rfl)))) ?_; refine FB.all1 (i := 9) (by kernel_rfl) ?_
     ·
      obtain ⟨w63, run64, S65⟩ := S60.store0 (P := prog) (t := 28) (i := 0) (cs' := [vI a0.vars, v52]) (l' := [.box b29 28 [vI a0.vars, v52]]) (v := vA #[vI a0.vars, v52]) (c := [vI a0.vars, v52]) rfl sizeOf28 rfl rfl (oC rfl (oC h62.one ones_nil)) (nB rfl) rfl rfl; refine FC.act (l' := (bs 10 1023)) rfl (by kernel_rfl) rfl rfl (E.store rfl rfl run64) ?_; refine ⟨(SP.nil (Sl.of_inc i61 S65.sl)), ?_⟩; exact FB.done (by kernel_rfl) ⟨_, _, S65, i61, h62, rfl⟩
 ·
  rintro f72 w71 ⟨H68, v66, S69, i70, h67, k73⟩; refine FW.ret ?_; cases hp; exact ⟨.inr rfl, resC rfl k73 (loadVar_A isAgg28 sizeOf28 (S69.box_now (i := 0) rfl) rfl) ⟨_, _, rfl, S69.run, h67⟩⟩

@[reducible] def p_spec_l11Deny (Ha : GH) (wa : World) (r : (List Int)) : Ending → World → Prop :=
  fun e w' => ∃ H' : GH, ∃ v0 : Value, ∃ n0 : Nat, ∃ c0 : List Value, e = .returned (v0) ∧ St Ha wa H' w' [.row 3 1 v0 n0 c0] ∧ Els (up wa.heap.size H') eI 1 c0 r
theorem w_spec_l11Deny {Ha : GH} {wa : World} (hs : Sl Ha wa) (v0 : Value) (a0 : List Int) (p0 : RSl Ha eI 1 v0 a0) {r : (List Int)} (hp : (PF.spec_l11Deny a0) = some r) :
    Calls prog 105 #[v0] wa (p_spec_l11Deny Ha wa r) := by
  unfold PF.spec_l11Deny at hp
  have S0 := St.init hs
  refine calls_go (N := 21) (args := [v0]) Tryz.func105 rfl rfl rfl ?_
  refine FW.seq (FW.region ?_)
  refine FL.v (E.assign (v := vN) rfl) ?_
  refine FL.nil (FW.seq (FW.region ?_))
  obtain ⟨v21, w22, run23, S24⟩ := S0.buildSlice (P := prog) te44 [] (parts := #[]) (cells := []) rfl szs_nil fc_nil ones_nil (Nat.le_of_ble_eq_true rfl)
  have els25 : Els (up wa.heap.size Ha) eI 1 [] [] := Els.nil
  refine FL.v (E.buildSlice (B0) run23) ?_
  refine FL.v (E.assign (v := v21) rfl) ?_
  refine FL.nil (FW.seq (FW.seq (FW.region ?_)))
  refine FL.v (E.assign (v := vI 0) rfl) ?_
  refine FL.nil ?_
  obtain ⟨q27, hq, hp⟩ := bndR hp
  refine FW.block ?_
  refine FW.mono (FW.forL (S := (List Int)) (X := Empty) (fun (i27 : Nat) (s27 : (List Int)) f w => ∃ H : GH, ∃ v28 : Value, ∃ n29 : Nat, ∃ cs30 : List Value, St Ha wa H w [.row 3 1 v28 n29 cs30] ∧ Inc Ha H ∧ Els (up wa.heap.size H) eI 1 cs30 s27 ∧ f 4 = vI ((i27 : Nat) : Int) ∧ f 0 = v0 ∧ f 3 = v28) (fun (q : Rs (List Int) Empty) e f w => match q with | .go s27 => e = Exit.exit 0 ∧ (∃ H : GH, ∃ v28 : Value, ∃ n29 : Nat, ∃ cs30 : List Value, St Ha wa H w [.row 3 1 v28 n29 cs30] ∧ Inc Ha H ∧ Els (up wa.heap.size H) eI 1 cs30 s27 ∧ f 3 = v28) | .rt x => x.elim) hq ⟨_, _, _, _, S24, (Inc.rfl _), els25, rfl, rfl, rfl⟩ ?_ ?_) ?_
  ·
    clear hp hq
    rintro i27 y26 s27 f66 w65 ⟨H62, v28, n29, cs30, S63, i64, els31, k67, k68, k69⟩ hx27 o92 hp
    refine FW.seq (FW.seq (FW.region ?_))
    refine FL.v (E.move k67) ?_
    refine FL.v (E.move k68) ?_
    refine FL.v (E.lenP te44 rfl p0) ?_
    refine FL.v (E.lssT rfl rfl (lss_len hx27)) ?_
    refine FL.nil ?_
    refine FW.condT rfl rfl ?_
    refine FW.skip (FW.seq (FW.block (FW.region ?_)))
    refine FL.v (E.move k69) ?_
    refine FL.v (E.move k68) ?_
    refine FL.v (E.move k67) ?_
    obtain ⟨p70, cs71, pt72, l73, at74, rel75⟩ := p0.at (ix_nat hx27)
    obtain rfl := eI_open rel75
    refine FL.v (E.indexAddr te44 rfl rfl pt72) ?_
    refine FL.v (E.load rfl (run_load0 Tryz.isAgg3 ((at74.mono i64).now S63.sl) rfl)) ?_
    refine FL.v (E.neg rfl) ?_
    obtain ⟨v76, w77, run78, S79⟩ := S63.buildSlice (P := prog) te44 [vI (wr (-y26))] (parts := #[(0, vI (wr (-y26)))]) (cells := [vI (wr (-y26))]) rfl (szs_cons rfl szs_nil) (fc_cons rfl fc_nil) (ones_cons rfl ones_nil) (Nat.le_of_ble_eq_true rfl)
    have els80 : Els (up wa.heap.size H62) eI 1 [vI (wr (-y26))] [(wr (-y26))] := (Els.snoc (H := (up wa.heap.size H62)) (E := eI) (k := 1) (c := [vI (wr (-y26))]) (x := (wr (-y26))) Els.nil rfl rfl)
    refine FL.v (E.buildSlice (B1 rfl) run78) ?_
    obtain ⟨xs81, hz82, hp⟩ := bnd hp
    obtain ⟨v83, w86, n84, cs85, run87, S88, els89, ce90⟩ := S79.appendO (P := prog) te44 (i := 1) (j := 0) rfl els31 rfl els80 hz82
    have S88 : St Ha wa H62 w86 [.row 3 1 v76 1 [vI (wr (-y26))], .row 3 1 v83 n84 cs85] := S88
    have S91 : St Ha wa H62 w86 [.row 3 1 v83 n84 cs85] := S88.drop 0
    refine FL.v (E.append rfl rfl run87) ?_
    refine FL.v (E.assign (v := v83) rfl) ?_
    refine FL.nil (FW.region ?_)
    refine FL.v (E.move k67) ?_
    refine FL.v (E.add rfl rfl) ?_
    refine FL.v (E.assign (v := vI (wr (((i27 : Nat) : Int) + 1))) rfl) ?_
    refine FL.nil ?_
    obtain rfl := Option.some.inj hp
    exact ⟨rfl, ⟨_, _, _, _, S91, i64, els89, (nat_succ rfl (lt_of_get hx27) (p0.mono i64).le), k68, rfl⟩⟩
  ·
    clear hp hq
    rintro s27 f103 w102 ⟨H99, v28, n29, cs30, S100, i101, els31, k104, k105, k106⟩
    refine FW.seq (FW.seq (FW.region ?_))
    refine FL.v (E.move k104) ?_
    refine FL.v (E.move k105) ?_
    refine FL.v (E.lenP te44 rfl p0) ?_
    refine FL.v (E.lss rfl rfl) ?_
    refine FL.nil ?_
    refine FW.condF rfl dlt_len ?_
    refine FW.exit ?_
    exact ⟨nofun, rfl, ⟨_, _, _, _, S100, i101, els31, k106⟩⟩
  ·
    clear hq
    intro e f97 w96 hD
    rcases q27 with s27 | x27
    ·
      obtain ⟨rfl, hD⟩ := hD
      obtain ⟨H93, v28, n29, cs30, S94, i95, els31, k98⟩ := hD
      replace hp := el_go hp
      refine FW.seq (FW.region ?_)
      refine FL.v (E.move k98) ?_
      refine FL.v (E.assign (v := v28) rfl) ?_
      refine FL.nil ?_
      refine FW.ret ?_
      obtain rfl := Option.some.inj hp
      exact ⟨.inr rfl, res1 rfl rfl ⟨_, _, _, _, rfl, S94, els31⟩⟩
    · exact x27.elim

@[reducible] def p_spec_l1Own (Ha : GH) (wa : World) (r : (List Int)) : Ending → World → Prop :=
 fun e w' => ∃ H' : GH, ∃ v0 : Value, ∃ n0 : Nat, ∃ c0 : List Value, e = .returned (v0) ∧ St Ha wa H' w' [.row 3 1 v0 n0 c0] ∧ Els (up wa.heap.size H') eI 1 c0 r
theorem w_spec_l1Own {Ha : GH} {wa : World} (hs : Sl Ha wa) (v0 : Value) (a0 : List Int) (p0 : RSl Ha eI 1 v0 a0) {r : (List Int)} (hp : (PF.spec_l1Own a0) = some r) :
  Calls prog 64 #[v0] wa (p_spec_l1Own Ha wa r) := by
 unfold PF.spec_l1Own at hp; have S0 := St.init hs; refine calls_go (N := 6) (args := [v0]) func64 rfl rfl rfl ?_; refine FW.sr ?_; refine FL.as (v := vN) rfl ?_; refine FL.nil (FW.sr ?_); obtain ⟨v21, w22, run23, S24⟩ := S0.buildSlice (P := prog) te44 [] (parts := #[]) (cells := []) rfl szs_nil fc_nil ones_nil (nB rfl); have els25 : Els (up wa.heap.size Ha) eI 1 [] [] := Els.nil; refine FL.v (E.buildSlice (B0) run23) ?_; refine FL.mv (v := v0) rfl ?_; obtain ⟨xs26, hz27, hp⟩ := bnd hp; obtain ⟨v28, w31, n29, cs30, run32, S33, els34⟩ := S24.appendP (P := prog) I0 te44 (i := 0) rfl (els25.mono upI) p0 hz27; have S33 : St Ha wa Ha w31 [.row 3 1 v28 n29 cs30] := S33; have els34 : Els (up wa.heap.size Ha) eI 1 cs30 xs26 := els34.any (fun _ _ _ _ h => h); refine FL.v (E.append rfl rfl run32) ?_; refine FL.as (v := v28) rfl ?_; refine FL.nil (FW.ret ?_); cases hp; exact ⟨.inr rfl, res1 rfl rfl ⟨_, _, _, _, rfl, S33, els34⟩⟩

theorem w_spec_l1Has {Ha : GH} {wa : World} (hs : Sl Ha wa) (v0 : Value) (a0 : List Int) (p0 : RSl Ha eI 1 v0 a0) (a1 : Int) {r : Bool} (hp : (PF.spec_l1Has a0 a1) = some r) :
  Calls prog 107 #[v0, vI a1] wa (Sc Ha wa (vB r)) := by
 unfold PF.spec_l1Has at hp; have S0 := St.init hs; refine calls_go (N := 18) (args := [v0, vI a1]) func107 rfl rfl rfl ?_; refine FW.sr ?_; refine FL.as (v := vB false) rfl ?_; refine FL.nil (FW.seq (FW.sr ?_)); refine FL.as (v := vI 0) rfl ?_; refine FL.nil ?_; obtain ⟨q22, hq, hp⟩ := bndR hp; refine FW.block ?_; refine FW.mono (FW.forL (S := Unit) (X := Bool) (fun (i22 : Nat) (s22 : Unit) f w => ∃ H : GH, St Ha wa H w [] ∧ Inc Ha H ∧ f 5 = vI ((i22 : Nat) : Int) ∧ f 0 = v0 ∧ f 1 = vI a1) (fun q e f w => match q with | .go s22 => e = Exit.exit 0 ∧ (∃ H : GH, St Ha wa H w [] ∧ Inc Ha H) | .rt x => ((e = Exit.ret) ∧ (fun e f w => (e = Exit.normal ∨ e = Exit.ret) ∧ ∀ a, Fr (δ := []) 18 a f → ∃ v, (results Tryz.f107 a.tmps).run prog w = .ok v w ∧ (Sc Ha wa (vB x)) (.returned v) w) e f w)) hq ⟨_, S0, I0, rfl, rfl, rfl⟩ ?_ ?_) ?_
 ·
  clear hp hq; rintro i22 y21 s22 f42 w41 ⟨H38, S39, i40, k43, k44, k45⟩ hx22 o53 hp; refine FW.seq (FW.sr ?_); refine FL.mv k43 ?_; refine FL.mv k44 ?_; refine FL.v (E.lenP te44 rfl p0) ?_; refine FL.v (E.lssT rfl rfl (lss_len hx22)) ?_; refine FL.nil ?_; refine FW.condT rfl rfl ?_; refine FW.skip (FW.seq (FW.block (FW.sr ?_))); refine FL.mv k44 ?_; refine FL.mv k43 ?_; obtain ⟨p46, cs47, pt48, l49, at50, rel51⟩ := p0.at (ix_nat hx22); obtain rfl := eI_open rel51; refine FL.v (E.indexAddr te44 rfl rfl pt48) ?_; refine FL.v (E.load rfl (run_load0 isAgg3 ((at50.mono i40).now S39.sl) rfl)) ?_; refine FL.mv k45 ?_; refine FL.v (E.eql rfl rfl) ?_; refine FL.nil ?_; rcases ifB hp with ⟨c52, hp⟩ | ⟨c52, hp⟩
  ·
   refine FW.condT rfl c52 ?_; refine FW.sr ?_; refine FL.as (v := vB true) rfl ?_; refine FL.nil (FW.ret ?_); cases hp; exact ⟨nofun, rfl, ⟨.inr rfl, res1 rfl rfl ⟨rfl, S39.back⟩⟩⟩
  ·
   refine FW.condF rfl c52 ?_; refine FW.skip (FW.region ?_); refine FL.mv k43 ?_; refine FL.v (E.add rfl rfl) ?_; refine FL.as (v := vI (wr (((i22 : Nat) : Int) + 1))) rfl ?_; refine FL.nil ?_; cases hp; exact ⟨rfl, ⟨_, S39, i40, (nat_succ rfl (lt_of_get hx22) (p0.mono i40).le), k44, k45⟩⟩
 ·
  clear hp hq; rintro s22 f63 w62 ⟨H59, S60, i61, k64, k65, k66⟩; refine FW.seq (FW.sr ?_); refine FL.mv k64 ?_; refine FL.mv k65 ?_; refine FL.v (E.lenP te44 rfl p0) ?_; refine FL.v (E.lss rfl rfl) ?_; refine FL.nil ?_; refine FW.condF rfl dlt_len ?_; refine FW.exit ?_; exact ⟨nofun, rfl, ⟨_, S60, i61⟩⟩
 ·
  clear hq; intro e f58 w57 hD; rcases q22 with s22 | x22
  ·
   obtain ⟨rfl, hD⟩ := hD; obtain ⟨H54, S55, i56⟩ := hD; replace hp := el_go hp; refine FW.sr ?_; refine FL.as (v := vB false) rfl ?_; refine FL.nil (FW.ret ?_); cases hp; exact ⟨.inr rfl, res1 rfl rfl ⟨rfl, S55.back⟩⟩
  ·
   obtain ⟨he, hL⟩ := hD; replace hp := el_rt hp; cases hp; subst he; exact hL

theorem w_spec_l2Has {Ha : GH} {wa : World} (hs : Sl Ha wa) (v0 : Value) (a0 : List Int) (p0 : RSl Ha eI 1 v0 a0) (a1 : Int) {r : Bool} (hp : (PF.spec_l2Has a0 a1) = some r) :
  Calls prog 73 #[v0, vI a1] wa (Sc Ha wa (vB r)) := by
 unfold PF.spec_l2Has at hp; have S0 := St.init hs; refine calls_go (N := 8) (args := [v0, vI a1]) func73 rfl rfl rfl ?_; refine FW.sr ?_; refine FL.as (v := vB false) rfl ?_; refine FL.nil (FW.sr ?_); refine FL.mv (v := v0) rfl ?_; refine FL.mv (v := vI a1) rfl ?_; obtain ⟨r21, hr22, hp⟩ := bnd hp; refine FL.c (E.call call107 (A2 rfl rfl)) (w_spec_l1Has S0.sl v0 a0 p0 a1 hr22) ?_; rintro e w23 ⟨rfl, r24⟩; refine ⟨_, rfl, ?_⟩; have S25 := S0.call r24; refine FL.as (v := vB r21) rfl ?_; refine FL.nil (FW.ret ?_); cases hp; exact ⟨.inr rfl, res1 rfl rfl ⟨rfl, S25.back⟩⟩

theorem w_spec_l3Value {Ha : GH} {wa : World} (hs : Sl Ha wa) (v0 : Value) (a0 : List Int) (p0 : RSl Ha eI 1 v0 a0) (v1 : Value) (a1 : List Int) (p1 : RSl Ha eI 1 v1 a1) {r : Int} (hp : (PF.spec_l3Value a0 a1) = some r) :
  Calls prog 137 #[v0, v1] wa (Sc Ha wa (vI r)) := by
 unfold PF.spec_l3Value at hp; have S0 := St.init hs; refine calls_go (N := 28) (args := [v0, v1]) func137 rfl rfl rfl ?_; refine FW.sr ?_; refine FL.as (v := vI 0) rfl ?_; refine FL.nil (FW.sr ?_); refine FL.as (v := vI (-1)) rfl ?_; refine FL.nil (FW.seq (FW.sr ?_)); refine FL.as (v := vI 0) rfl ?_; refine FL.nil ?_; obtain ⟨q22, hq, hp⟩ := bndR hp; refine FW.block ?_; refine FW.mono (FW.forL (S := Int) (X := Int) (fun (i22 : Nat) (s22 : Int) f w => ∃ H : GH, St Ha wa H w [] ∧ Inc Ha H ∧ f 6 = vI ((i22 : Nat) : Int) ∧ f 0 = v0 ∧ f 1 = v1 ∧ f 5 = vI s22) (fun q e f w => match q with | .go s22 => e = Exit.exit 0 ∧ (∃ H : GH, St Ha wa H w [] ∧ Inc Ha H ∧ f 5 = vI s22) | .rt x => ((e = Exit.ret) ∧ (fun e f w => (e = Exit.normal ∨ e = Exit.ret) ∧ ∀ a, Fr (δ := []) 28 a f → ∃ v, (results Tryz.f137 a.tmps).run prog w = .ok v w ∧ (Sc Ha wa (vI x)) (.returned v) w) e f w)) hq ⟨_, S0, I0, rfl, rfl, rfl, rfl⟩ ?_ ?_) ?_
 ·
  clear hp hq; rintro i22 y21 s22 f60 w59 ⟨H56, S57, i58, k61, k62, k63, k64⟩ hx22 o89 hp; refine FW.seq (FW.sr ?_); refine FL.mv k61 ?_; refine FL.mv k62 ?_; refine FL.v (E.lenP te44 rfl p0) ?_; refine FL.v (E.lssT rfl rfl (lss_len hx22)) ?_; refine FL.nil ?_; refine FW.condT rfl rfl ?_; refine FW.skip (FW.seq (FW.block (FW.seq (FW.sr ?_)))); refine FL.mv k63 ?_; refine FL.mv k62 ?_; refine FL.mv k61 ?_; obtain ⟨p65, cs66, pt67, l68, at69, rel70⟩ := p0.at (ix_nat hx22); obtain rfl := eI_open rel70; refine FL.v (E.indexAddr te44 rfl rfl pt67) ?_; refine FL.v (E.load rfl (run_load0 isAgg3 ((at69.mono i58).now S57.sl) rfl)) ?_; obtain ⟨r71, hr72, hp⟩ := bnd hp; refine FL.c (E.call call73 (A2 rfl rfl)) (w_spec_l2Has S57.sl v1 a1 (p1.mono i58) y21 hr72) ?_; rintro e w73 ⟨rfl, r74⟩; refine ⟨_, rfl, ?_⟩; have S75 := S57.call r74; refine FL.nil ?_; rcases ifB hp with ⟨c76, hp⟩ | ⟨c76, hp⟩
  ·
   refine FW.condT rfl c76 ?_; refine FW.sr ?_; refine FL.as (v := vI 1) rfl ?_; refine FL.nil (FW.ret ?_); cases hp; exact ⟨nofun, rfl, ⟨.inr rfl, res1 rfl rfl ⟨rfl, S75.back⟩⟩⟩
  ·
   refine FW.condF rfl c76 ?_; refine FW.skip (FW.sr ?_); refine FL.mv k63 ?_; refine FL.mv k62 ?_; refine FL.mv k61 ?_; obtain ⟨p77, cs78, pt79, l80, at81, rel82⟩ := p0.at (ix_nat hx22); obtain rfl := eI_open rel82; refine FL.v (E.indexAddr te44 rfl rfl pt79) ?_; refine FL.v (E.load rfl (run_load0 isAgg3 ((at81.mono i58).now S75.sl) rfl)) ?_; refine FL.v (E.neg rfl) ?_; obtain ⟨r83, hr84, hp⟩ := bnd hp; refine FL.c (E.call call73 (A2 rfl rfl)) (w_spec_l2Has S75.sl v1 a1 (p1.mono i58) (wr (-y21)) hr84) ?_; rintro e w85 ⟨rfl, r86⟩; refine ⟨_, rfl, ?_⟩; have S87 := S75.call r86; refine FL.v (E.not rfl) ?_; refine FL.nil ?_; rcases ifB hp with ⟨c88, hp⟩ | ⟨c88, hp⟩
   ·
    refine FW.condT rfl c88 ?_; refine FW.region ?_; refine FL.as (v := vI 0) rfl ?_; refine FL.nil (FW.region ?_); refine FL.mv k61 ?_; refine FL.v (E.add rfl rfl) ?_; refine FL.as (v := vI (wr (((i22 : Nat) : Int) + 1))) rfl ?_; refine FL.nil ?_; cases hp; exact ⟨rfl, ⟨_, S87, i58, (nat_succ rfl (lt_of_get hx22) (p0.mono i58).le), k62, k63, rfl⟩⟩
   ·
    refine FW.condF rfl c88 ?_; refine FW.skip (FW.region ?_); refine FL.mv k61 ?_; refine FL.v (E.add rfl rfl) ?_; refine FL.as (v := vI (wr (((i22 : Nat) : Int) + 1))) rfl ?_; refine FL.nil ?_; cases hp; exact ⟨rfl, ⟨_, S87, i58, (nat_succ rfl (lt_of_get hx22) (p0.mono i58).le), k62, k63, k64⟩⟩
 ·
  clear hp hq; rintro s22 f100 w99 ⟨H96, S97, i98, k101, k102, k103, k104⟩; refine FW.seq (FW.sr ?_); refine FL.mv k101 ?_; refine FL.mv k102 ?_; refine FL.v (E.lenP te44 rfl p0) ?_; refine FL.v (E.lss rfl rfl) ?_; refine FL.nil ?_; refine FW.condF rfl dlt_len ?_; refine FW.exit ?_; exact ⟨nofun, rfl, ⟨_, S97, i98, k104⟩⟩
 ·
  clear hq; intro e f94 w93 hD; rcases q22 with s22 | x22
  ·
   obtain ⟨rfl, hD⟩ := hD; obtain ⟨H90, S91, i92, k95⟩ := hD; replace hp := el_go hp; refine FW.sr ?_; refine FL.mv k95 ?_; refine FL.as (v := vI s22) rfl ?_; refine FL.nil (FW.ret ?_); cases hp; exact ⟨.inr rfl, res1 rfl rfl ⟨rfl, S91.back⟩⟩
  ·
   obtain ⟨he, hL⟩ := hD; replace hp := el_rt hp; cases hp; subst he; exact hL

theorem w_spec_l1Least {Ha : GH} {wa : World} (hs : Sl Ha wa) (a0 : Int) (a1 : Int) :
  Calls prog 168 #[vI a0, vI a1] wa (Sc Ha wa (vI (PF.spec_l1Least a0 a1))) := by
 obtain ⟨r, hp⟩ : ∃ r, (PF.spec_l1Least a0 a1) = r := ⟨_, rfl⟩; rw [hp]; unfold PF.spec_l1Least at hp; have S0 := St.init hs; refine calls_go (N := 10) (args := [vI a0, vI a1]) func168 rfl rfl rfl ?_; refine FW.sr ?_; refine FL.as (v := vI 0) rfl ?_; refine FL.nil (FW.seq (FW.sr ?_)); refine FL.mv (v := vI a0) rfl ?_; refine FL.mv (v := vI a1) rfl ?_; refine FL.v (E.lss rfl rfl) ?_; refine FL.nil ?_; rcases ifT hp with ⟨c21, hp⟩ | ⟨c21, hp⟩
 ·
  refine FW.condT rfl c21 ?_; refine FW.sr ?_; refine FL.mv (v := vI a0) rfl ?_; refine FL.as (v := vI a0) rfl ?_; refine FL.nil (FW.ret ?_); obtain rfl := hp; exact ⟨.inr rfl, res1 rfl rfl ⟨rfl, S0.back⟩⟩
 ·
  refine FW.condF rfl c21 ?_; refine FW.skip (FW.sr ?_); refine FL.mv (v := vI a1) rfl ?_; refine FL.as (v := vI a1) rfl ?_; refine FL.nil (FW.ret ?_); obtain rfl := hp; exact ⟨.inr rfl, res1 rfl rfl ⟨rfl, S0.back⟩⟩

theorem w_spec_l3CnfValue {Ha : GH} {wa : World} (hs : Sl Ha wa) (a0 : Cnf) (v0_1 : Value) (p0_1 : RSl Ha (eL eI 1) 1 v0_1 a0.clauses) (v1 : Value) (a1 : List Int) (p1 : RSl Ha eI 1 v1 a1) {r : Int} (hp : (PF.spec_l3CnfValue a0 a1) = some r) :
    Calls prog 134 #[vA #[vI a0.vars, v0_1], v1] wa (Sc Ha wa (vI r)) := by
  unfold PF.spec_l3CnfValue at hp
  have S0 := St.init hs
  refine calls_go (N := 24) (args := [vA #[vI a0.vars, v0_1], v1]) Tryz.func134 rfl rfl rfl ?_
  refine FW.seq (FW.region ?_)
  obtain ⟨b21, w22, run23, S24⟩ := S0.box (P := prog) 28 [vI a0.vars, v0_1] (v := vA #[vI a0.vars, v0_1]) rfl (ones_cons rfl (ones_cons p0_1.one ones_nil))
  refine FL.v (E.box rfl run23) ?_
  obtain ⟨H25, S26, i27, at28⟩ := S24.sealBox (i := 0) (l' := []) rfl rfl
  refine FL.v (E.assign (v := vI 0) rfl) ?_
  refine FL.nil (FW.seq (FW.region ?_))
  refine FL.v (E.assign (v := vI 1) rfl) ?_
  refine FL.nil (FW.seq (FW.seq (FW.region ?_)))
  refine FL.v (E.assign (v := vI 0) rfl) ?_
  refine FL.nil ?_
  obtain ⟨q29, hq, hp⟩ := bndR hp
  refine FW.block ?_
  refine FW.mono (FW.iter (S := (Int × Int)) (X := Empty) (fun (s29 : (Int × Int)) f w => ∃ H : GH, St Ha wa H w [] ∧ Inc H25 H ∧ f 1 = v1 ∧ f 2 = vP (⟨b21, 0, none⟩) ∧ f 5 = vI s29.1 ∧ f 6 = vI s29.2) (fun (q : Rs (Int × Int) Empty) e f w => match q with | .go s29 => e = Exit.exit 0 ∧ (∃ H : GH, St Ha wa H w [] ∧ Inc H25 H ∧ f 5 = vI s29.1) | .rt x => x.elim) hq ⟨_, S26, (Inc.rfl _), rfl, rfl, rfl, rfl⟩ ?_) ?_
  ·
    clear hp hq
    rintro s29 f62 w61 ⟨H58, S59, i60, k63, k64, k65, k66⟩ o86 hp
    refine FW.seq (FW.seq (FW.region ?_))
    refine FL.v (E.move k66) ?_
    refine FL.v (E.fieldAddr tf28_1 k64) ?_
    refine FL.v (E.load rfl (run_load1 Tryz.isAgg22 ((at28.mono i60).now S59.sl) rfl)) ?_
    refine FL.v (E.lenP te22 rfl p0_1) ?_
    refine FL.v (E.lss rfl rfl) ?_
    refine FL.nil ?_
    rcases ifB hp with ⟨c67, hp⟩ | ⟨c67, hp⟩
    ·
      refine FW.condT rfl c67 ?_
      refine FW.skip (FW.seq (FW.block (FW.region ?_)))
      refine FL.v (E.move k65) ?_
      refine FL.v (E.fieldAddr tf28_1 k64) ?_
      refine FL.v (E.load rfl (run_load1 Tryz.isAgg22 ((at28.mono i60).now S59.sl) rfl)) ?_
      refine FL.v (E.move k66) ?_
      obtain ⟨x74, hx75, hp⟩ := bnd hp
      obtain ⟨p68, cs69, pt70, l71, at72, rel73⟩ := p0_1.at hx75
      obtain ⟨v76, rfl, h77⟩ := eL_open rel73
      refine FL.v (E.indexAddr te22 rfl rfl pt70) ?_
      refine FL.v (E.load rfl (run_load0 Tryz.isAgg44 ((at72.mono (i27.tr i60)).now S59.sl) rfl)) ?_
      refine FL.v (E.move k63) ?_
      obtain ⟨r78, hr79, hp⟩ := bnd hp
      refine FL.call rfl rfl rfl (E.call Tryz.call137 (A2 rfl rfl)) (w_spec_l3Value S59.sl v76 x74 (h77.mono (i27.tr i60)) v1 a1 (p1.mono (i27.tr i60)) hr79) ?_
      rintro e w80 ⟨rfl, r81⟩
      refine ⟨_, rfl, ?_⟩
      have S82 := S59.call r81
      refine FL.call rfl rfl rfl (E.call Tryz.call168 (A2 rfl rfl)) (w_spec_l1Least S82.sl s29.1 r78) ?_
      rintro e w83 ⟨rfl, r84⟩
      refine ⟨_, rfl, ?_⟩
      have S85 := S82.call r84
      refine FL.v (E.assign (v := vI (PF.spec_l1Least s29.1 r78)) rfl) ?_
      refine FL.nil (FW.region ?_)
      refine FL.v (E.move k66) ?_
      refine FL.v (E.add rfl rfl) ?_
      refine FL.v (E.assign (v := vI (wr (s29.2 + 1))) rfl) ?_
      refine FL.nil ?_
      obtain rfl := Option.some.inj hp
      exact ⟨rfl, ⟨_, S85, i60, k63, k64, rfl, rfl⟩⟩
    ·
      refine FW.condF rfl c67 ?_
      refine FW.exit ?_
      obtain rfl := Option.some.inj hp
      exact ⟨nofun, rfl, ⟨_, S59, i60, k65⟩⟩
  ·
    clear hq
    intro e f91 w90 hD
    rcases q29 with s29 | x29
    ·
      obtain ⟨rfl, hD⟩ := hD
      obtain ⟨H87, S88, i89, k92⟩ := hD
      replace hp := el_go hp
      refine FW.seq (FW.region ?_)
      refine FL.v (E.move k92) ?_
      refine FL.v (E.assign (v := vI s29.1) rfl) ?_
      refine FL.nil ?_
      refine FW.ret ?_
      obtain rfl := Option.some.inj hp
      exact ⟨.inr rfl, res1 rfl rfl ⟨rfl, S88.back⟩⟩
    · exact x29.elim

@[reducible] def p_spec_l3Left (Ha : GH) (wa : World) (r : (List Int)) : Ending → World → Prop :=
  fun e w' => ∃ H' : GH, ∃ v0 : Value, ∃ n0 : Nat, ∃ c0 : List Value, e = .returned (v0) ∧ St Ha wa H' w' [.row 3 1 v0 n0 c0] ∧ Els (up wa.heap.size H') eI 1 c0 r
theorem w_spec_l3Left {Ha : GH} {wa : World} (hs : Sl Ha wa) (v0 : Value) (a0 : List Int) (p0 : RSl Ha eI 1 v0 a0) (v1 : Value) (a1 : List Int) (p1 : RSl Ha eI 1 v1 a1) {r : (List Int)} (hp : (PF.spec_l3Left a0 a1) = some r) :
    Calls prog 169 #[v0, v1] wa (p_spec_l3Left Ha wa r) := by
  unfold PF.spec_l3Left at hp
  have S0 := St.init hs
  refine calls_go (N := 30) (args := [v0, v1]) Tryz.func169 rfl rfl rfl ?_
  refine FW.seq (FW.region ?_)
  refine FL.v (E.assign (v := vN) rfl) ?_
  refine FL.nil (FW.seq (FW.region ?_))
  obtain ⟨v21, w22, run23, S24⟩ := S0.buildSlice (P := prog) te44 [] (parts := #[]) (cells := []) rfl szs_nil fc_nil ones_nil (Nat.le_of_ble_eq_true rfl)
  have els25 : Els (up wa.heap.size Ha) eI 1 [] [] := Els.nil
  refine FL.v (E.buildSlice (B0) run23) ?_
  refine FL.v (E.assign (v := v21) rfl) ?_
  refine FL.nil (FW.seq (FW.seq (FW.region ?_)))
  refine FL.v (E.assign (v := vI 0) rfl) ?_
  refine FL.nil ?_
  obtain ⟨q27, hq, hp⟩ := bndR hp
  refine FW.block ?_
  refine FW.mono (FW.forL (S := (List Int)) (X := Empty) (fun (i27 : Nat) (s27 : (List Int)) f w => ∃ H : GH, ∃ v28 : Value, ∃ n29 : Nat, ∃ cs30 : List Value, St Ha wa H w [.row 3 1 v28 n29 cs30] ∧ Inc Ha H ∧ Els (up wa.heap.size H) eI 1 cs30 s27 ∧ f 6 = vI ((i27 : Nat) : Int) ∧ f 0 = v0 ∧ f 1 = v1 ∧ f 5 = v28) (fun (q : Rs (List Int) Empty) e f w => match q with | .go s27 => e = Exit.exit 0 ∧ (∃ H : GH, ∃ v28 : Value, ∃ n29 : Nat, ∃ cs30 : List Value, St Ha wa H w [.row 3 1 v28 n29 cs30] ∧ Inc Ha H ∧ Els (up wa.heap.size H) eI 1 cs30 s27 ∧ f 5 = v28) | .rt x => x.elim) hq ⟨_, _, _, _, S24, (Inc.rfl _), els25, rfl, rfl, rfl, rfl⟩ ?_ ?_) ?_
  ·
    clear hp hq
    rintro i27 y26 s27 f79 w78 ⟨H75, v28, n29, cs30, S76, i77, els31, k80, k81, k82, k83⟩ hx27 o118 hp
    refine FW.seq (FW.seq (FW.region ?_))
    refine FL.v (E.move k80) ?_
    refine FL.v (E.move k81) ?_
    refine FL.v (E.lenP te44 rfl p0) ?_
    refine FL.v (E.lssT rfl rfl (lss_len hx27)) ?_
    refine FL.nil ?_
    refine FW.condT rfl rfl ?_
    refine FW.skip (FW.seq (FW.block (FW.seq (FW.region ?_))))
    refine FL.v (E.move k82) ?_
    refine FL.v (E.move k81) ?_
    refine FL.v (E.move k80) ?_
    obtain ⟨p84, cs85, pt86, l87, at88, rel89⟩ := p0.at (ix_nat hx27)
    obtain rfl := eI_open rel89
    refine FL.v (E.indexAddr te44 rfl rfl pt86) ?_
    refine FL.v (E.load rfl (run_load0 Tryz.isAgg3 ((at88.mono i77).now S76.sl) rfl)) ?_
    refine FL.v (E.neg rfl) ?_
    obtain ⟨r90, hr91, hp⟩ := bnd hp
    refine FL.call rfl rfl rfl (E.call Tryz.call73 (A2 rfl rfl)) (w_spec_l2Has S76.sl v1 a1 (p1.mono i77) (wr (-y26)) hr91) ?_
    rintro e w92 ⟨rfl, r93⟩
    refine ⟨_, rfl, ?_⟩
    have S94 := S76.call r93
    refine FL.v (E.not rfl) ?_
    refine FL.nil ?_
    rcases ifB hp with ⟨c95, hp⟩ | ⟨c95, hp⟩
    ·
      refine FW.condT rfl c95 ?_
      refine FW.region ?_
      refine FL.v (E.move k83) ?_
      refine FL.v (E.move k81) ?_
      refine FL.v (E.move k80) ?_
      obtain ⟨p96, cs97, pt98, l99, at100, rel101⟩ := p0.at (ix_nat hx27)
      obtain rfl := eI_open rel101
      refine FL.v (E.indexAddr te44 rfl rfl pt98) ?_
      refine FL.v (E.load rfl (run_load0 Tryz.isAgg3 ((at100.mono i77).now S94.sl) rfl)) ?_
      obtain ⟨v102, w103, run104, S105⟩ := S94.buildSlice (P := prog) te44 [vI y26] (parts := #[(0, vI y26)]) (cells := [vI y26]) rfl (szs_cons rfl szs_nil) (fc_cons rfl fc_nil) (ones_cons rfl ones_nil) (Nat.le_of_ble_eq_true rfl)
      have els106 : Els (up wa.heap.size H75) eI 1 [vI y26] [y26] := (Els.snoc (H := (up wa.heap.size H75)) (E := eI) (k := 1) (c := [vI y26]) (x := y26) Els.nil rfl rfl)
      refine FL.v (E.buildSlice (B1 rfl) run104) ?_
      obtain ⟨xs107, hz108, hp⟩ := bnd hp
      obtain ⟨v109, w112, n110, cs111, run113, S114, els115, ce116⟩ := S105.appendO (P := prog) te44 (i := 1) (j := 0) rfl els31 rfl els106 hz108
      have S114 : St Ha wa H75 w112 [.row 3 1 v102 1 [vI y26], .row 3 1 v109 n110 cs111] := S114
      have S117 : St Ha wa H75 w112 [.row 3 1 v109 n110 cs111] := S114.drop 0
      refine FL.v (E.append rfl rfl run113) ?_
      refine FL.v (E.assign (v := v109) rfl) ?_
      refine FL.nil (FW.region ?_)
      refine FL.v (E.move k80) ?_
      refine FL.v (E.add rfl rfl) ?_
      refine FL.v (E.assign (v := vI (wr (((i27 : Nat) : Int) + 1))) rfl) ?_
      refine FL.nil ?_
      obtain rfl := Option.some.inj hp
      exact ⟨rfl, ⟨_, _, _, _, S117, i77, els115, (nat_succ rfl (lt_of_get hx27) (p0.mono i77).le), k81, k82, rfl⟩⟩
    ·
      refine FW.condF rfl c95 ?_
      refine FW.skip (FW.region ?_)
      refine FL.v (E.move k80) ?_
      refine FL.v (E.add rfl rfl) ?_
      refine FL.v (E.assign (v := vI (wr (((i27 : Nat) : Int) + 1))) rfl) ?_
      refine FL.nil ?_
      obtain rfl := Option.some.inj hp
      exact ⟨rfl, ⟨_, _, _, _, S94, i77, els31, (nat_succ rfl (lt_of_get hx27) (p0.mono i77).le), k81, k82, k83⟩⟩
  ·
    clear hp hq
    rintro s27 f129 w128 ⟨H125, v28, n29, cs30, S126, i127, els31, k130, k131, k132, k133⟩
    refine FW.seq (FW.seq (FW.region ?_))
    refine FL.v (E.move k130) ?_
    refine FL.v (E.move k131) ?_
    refine FL.v (E.lenP te44 rfl p0) ?_
    refine FL.v (E.lss rfl rfl) ?_
    refine FL.nil ?_
    refine FW.condF rfl dlt_len ?_
    refine FW.exit ?_
    exact ⟨nofun, rfl, ⟨_, _, _, _, S126, i127, els31, k133⟩⟩
  ·
    clear hq
    intro e f123 w122 hD
    rcases q27 with s27 | x27
    ·
      obtain ⟨rfl, hD⟩ := hD
      obtain ⟨H119, v28, n29, cs30, S120, i121, els31, k124⟩ := hD
      replace hp := el_go hp
      refine FW.seq (FW.region ?_)
      refine FL.v (E.move k124) ?_
      refine FL.v (E.assign (v := v28) rfl) ?_
      refine FL.nil ?_
      refine FW.ret ?_
      obtain rfl := Option.some.inj hp
      exact ⟨.inr rfl, res1 rfl rfl ⟨_, _, _, _, rfl, S120, els31⟩⟩
    · exact x27.elim

theorem w_spec_l3Unit {Ha : GH} {wa : World} (hs : Sl Ha wa) (v0 : Value) (a0 : List Int) (p0 : RSl Ha eI 1 v0 a0) (v1 : Value) (a1 : List Int) (p1 : RSl Ha eI 1 v1 a1) {r : Int} (hp : (PF.spec_l3Unit a0 a1) = some r) :
  Calls prog 135 #[v0, v1] wa (Sc Ha wa (vI r)) := by
 unfold PF.spec_l3Unit at hp; have S0 := St.init hs; refine calls_go (N := 21) (args := [v0, v1]) func135 rfl rfl rfl ?_; refine FW.sr ?_; refine FL.as (v := vI 0) rfl ?_; refine FL.nil (FW.sr ?_); refine FL.mv (v := v0) rfl ?_; refine FL.mv (v := v1) rfl ?_; obtain ⟨r21, hr22, hp⟩ := bnd hp; refine FL.c (E.call call169 (A2 rfl rfl)) (w_spec_l3Left S0.sl v0 a0 p0 v1 a1 p1 hr22) ?_; rintro e w24 ⟨H23, v27, n28, cs29, rfl, r26, els30⟩; refine ⟨_, rfl, ?_⟩; have els30 := els30.mono (up_le S0.size); have S25 := S0.join (l' := [.row 3 1 v27 n28 cs29]) r26 rfl; refine FL.as (v := v27) rfl ?_; refine FL.nil (FW.seq (FW.sr ?_)); refine FL.mv (v := v0) rfl ?_; refine FL.mv (v := v1) rfl ?_; obtain ⟨r31, hr32, hp⟩ := bnd hp; refine FL.c (E.call call137 (A2 rfl rfl)) (w_spec_l3Value S25.sl v0 a0 (p0.mono r26.run.inc) v1 a1 (p1.mono r26.run.inc) hr32) ?_; rintro e w33 ⟨rfl, r34⟩; refine ⟨_, rfl, ?_⟩; have S35 := S25.call r34; refine FL.v (E.neq rfl rfl) ?_; refine FL.mv (v := vB (!(r31 == 0))) rfl ?_; refine FL.cut 4 (fun f w => ∃ H : GH, St Ha wa H w [.row 3 1 v27 n28 cs29] ∧ Inc H23 H ∧ f 5 = v27 ∧ f 17 = vB (bif (!(r31 == 0)) then true else (!((len r21) == 1)))) ?_ ?_
 ·
  rcases bcase (!(r31 == 0)) with c42 | c42
  ·
   refine FL.skip (wN c42) rfl ?_; refine FL.skip (wN c42) rfl ?_; refine FL.skip (wN c42) rfl ?_; refine FL.v (E.pickT rfl c42 rfl) ?_; exact FL.nil ⟨rfl, _, S35, I0, rfl, (congrArg vB (bifT c42).symm)⟩
  ·
   refine FL.y (wY c42) (E.move (v := v27) rfl) ?_; refine FL.y (wY c42) (E.lenO te44 rfl S35 (i := 0) rfl els30 (by decide)) ?_; refine FL.y (wY c42) (E.neq rfl rfl) ?_; refine FL.v (E.pickF rfl c42 rfl) ?_; exact FL.nil ⟨rfl, _, S35, I0, rfl, (congrArg vB (bifF c42).symm)⟩
 rintro f41 w40 ⟨H37, S38, i39, k43, k44⟩; refine FL.nil ?_; rcases ifB hp with ⟨c45, hp⟩ | ⟨c45, hp⟩
 ·
  refine FW.condT k44 c45 ?_; refine FW.sr ?_; refine FL.as (v := vI 0) rfl ?_; refine FL.nil (FW.ret ?_); cases hp; exact ⟨.inr rfl, res1 rfl rfl ⟨rfl, S38.back⟩⟩
 ·
  refine FW.condF k44 c45 ?_; refine FW.skip (FW.sr ?_); refine FL.mv k43 ?_; obtain ⟨x52, hx53, hp⟩ := bnd hp; obtain ⟨p46, cs47, pt48, l49, at50, rel51⟩ := S38.row_at (i := 0) rfl els30 (by decide) hx53; obtain rfl := eI_open rel51; refine FL.v (E.indexAddr te44 rfl rfl pt48) ?_; refine FL.v (E.load rfl (run_load0 isAgg3 at50 rfl)) ?_; refine FL.as (v := vI x52) rfl ?_; refine FL.nil (FW.ret ?_); cases hp; exact ⟨.inr rfl, res1 rfl rfl ⟨rfl, S38.back⟩⟩

@[reducible] def p_spec_l2Without (Ha : GH) (wa : World) (r : (List Int)) : Ending → World → Prop :=
  fun e w' => ∃ H' : GH, ∃ v0 : Value, ∃ n0 : Nat, ∃ c0 : List Value, e = .returned (v0) ∧ St Ha wa H' w' [.row 3 1 v0 n0 c0] ∧ Els (up wa.heap.size H') eI 1 c0 r
theorem w_spec_l2Without {Ha : GH} {wa : World} (hs : Sl Ha wa) (v0 : Value) (a0 : List Int) (p0 : RSl Ha eI 1 v0 a0) (a1 : Int) {r : (List Int)} (hp : (PF.spec_l2Without a0 a1) = some r) :
    Calls prog 109 #[v0, vI a1] wa (p_spec_l2Without Ha wa r) := by
  unfold PF.spec_l2Without at hp
  have S0 := St.init hs
  refine calls_go (N := 29) (args := [v0, vI a1]) Tryz.func109 rfl rfl rfl ?_
  refine FW.seq (FW.region ?_)
  refine FL.v (E.assign (v := vN) rfl) ?_
  refine FL.nil (FW.seq (FW.region ?_))
  obtain ⟨v21, w22, run23, S24⟩ := S0.buildSlice (P := prog) te44 [] (parts := #[]) (cells := []) rfl szs_nil fc_nil ones_nil (Nat.le_of_ble_eq_true rfl)
  have els25 : Els (up wa.heap.size Ha) eI 1 [] [] := Els.nil
  refine FL.v (E.buildSlice (B0) run23) ?_
  refine FL.v (E.assign (v := v21) rfl) ?_
  refine FL.nil (FW.seq (FW.seq (FW.region ?_)))
  refine FL.v (E.assign (v := vI 0) rfl) ?_
  refine FL.nil ?_
  obtain ⟨q27, hq, hp⟩ := bndR hp
  refine FW.block ?_
  refine FW.mono (FW.forL (S := (List Int)) (X := Empty) (fun (i27 : Nat) (s27 : (List Int)) f w => ∃ H : GH, ∃ v28 : Value, ∃ n29 : Nat, ∃ cs30 : List Value, St Ha wa H w [.row 3 1 v28 n29 cs30] ∧ Inc Ha H ∧ Els (up wa.heap.size H) eI 1 cs30 s27 ∧ f 6 = vI ((i27 : Nat) : Int) ∧ f 0 = v0 ∧ f 1 = vI a1 ∧ f 5 = v28) (fun (q : Rs (List Int) Empty) e f w => match q with | .go s27 => e = Exit.exit 0 ∧ (∃ H : GH, ∃ v28 : Value, ∃ n29 : Nat, ∃ cs30 : List Value, St Ha wa H w [.row 3 1 v28 n29 cs30] ∧ Inc Ha H ∧ Els (up wa.heap.size H) eI 1 cs30 s27 ∧ f 5 = v28) | .rt x => x.elim) hq ⟨_, _, _, _, S24, (Inc.rfl _), els25, rfl, rfl, rfl, rfl⟩ ?_ ?_) ?_
  ·
    clear hp hq
    rintro i27 y26 s27 f77 w76 ⟨H73, v28, n29, cs30, S74, i75, els31, k78, k79, k80, k81⟩ hx27 o114 hp
    refine FW.seq (FW.seq (FW.region ?_))
    refine FL.v (E.move k78) ?_
    refine FL.v (E.move k79) ?_
    refine FL.v (E.lenP te44 rfl p0) ?_
    refine FL.v (E.lssT rfl rfl (lss_len hx27)) ?_
    refine FL.nil ?_
    refine FW.condT rfl rfl ?_
    refine FW.skip (FW.seq (FW.block (FW.seq (FW.region ?_))))
    refine FL.v (E.move k79) ?_
    refine FL.v (E.move k78) ?_
    obtain ⟨p82, cs83, pt84, l85, at86, rel87⟩ := p0.at (ix_nat hx27)
    obtain rfl := eI_open rel87
    refine FL.v (E.indexAddr te44 rfl rfl pt84) ?_
    refine FL.v (E.load rfl (run_load0 Tryz.isAgg3 ((at86.mono i75).now S74.sl) rfl)) ?_
    refine FL.call rfl rfl rfl (E.call Tryz.call75 (A1 rfl)) (w_spec_l2Var S74.sl y26) ?_
    rintro e w88 ⟨rfl, r89⟩
    refine ⟨_, rfl, ?_⟩
    have S90 := S74.call r89
    refine FL.v (E.move k80) ?_
    refine FL.v (E.neq rfl rfl) ?_
    refine FL.nil ?_
    rcases ifB hp with ⟨c91, hp⟩ | ⟨c91, hp⟩
    ·
      refine FW.condT rfl c91 ?_
      refine FW.region ?_
      refine FL.v (E.move k81) ?_
      refine FL.v (E.move k79) ?_
      refine FL.v (E.move k78) ?_
      obtain ⟨p92, cs93, pt94, l95, at96, rel97⟩ := p0.at (ix_nat hx27)
      obtain rfl := eI_open rel97
      refine FL.v (E.indexAddr te44 rfl rfl pt94) ?_
      refine FL.v (E.load rfl (run_load0 Tryz.isAgg3 ((at96.mono i75).now S90.sl) rfl)) ?_
      obtain ⟨v98, w99, run100, S101⟩ := S90.buildSlice (P := prog) te44 [vI y26] (parts := #[(0, vI y26)]) (cells := [vI y26]) rfl (szs_cons rfl szs_nil) (fc_cons rfl fc_nil) (ones_cons rfl ones_nil) (Nat.le_of_ble_eq_true rfl)
      have els102 : Els (up wa.heap.size H73) eI 1 [vI y26] [y26] := (Els.snoc (H := (up wa.heap.size H73)) (E := eI) (k := 1) (c := [vI y26]) (x := y26) Els.nil rfl rfl)
      refine FL.v (E.buildSlice (B1 rfl) run100) ?_
      obtain ⟨xs103, hz104, hp⟩ := bnd hp
      obtain ⟨v105, w108, n106, cs107, run109, S110, els111, ce112⟩ := S101.appendO (P := prog) te44 (i := 1) (j := 0) rfl els31 rfl els102 hz104
      have S110 : St Ha wa H73 w108 [.row 3 1 v98 1 [vI y26], .row 3 1 v105 n106 cs107] := S110
      have S113 : St Ha wa H73 w108 [.row 3 1 v105 n106 cs107] := S110.drop 0
      refine FL.v (E.append rfl rfl run109) ?_
      refine FL.v (E.assign (v := v105) rfl) ?_
      refine FL.nil (FW.region ?_)
      refine FL.v (E.move k78) ?_
      refine FL.v (E.add rfl rfl) ?_
      refine FL.v (E.assign (v := vI (wr (((i27 : Nat) : Int) + 1))) rfl) ?_
      refine FL.nil ?_
      obtain rfl := Option.some.inj hp
      exact ⟨rfl, ⟨_, _, _, _, S113, i75, els111, (nat_succ rfl (lt_of_get hx27) (p0.mono i75).le), k79, k80, rfl⟩⟩
    ·
      refine FW.condF rfl c91 ?_
      refine FW.skip (FW.region ?_)
      refine FL.v (E.move k78) ?_
      refine FL.v (E.add rfl rfl) ?_
      refine FL.v (E.assign (v := vI (wr (((i27 : Nat) : Int) + 1))) rfl) ?_
      refine FL.nil ?_
      obtain rfl := Option.some.inj hp
      exact ⟨rfl, ⟨_, _, _, _, S90, i75, els31, (nat_succ rfl (lt_of_get hx27) (p0.mono i75).le), k79, k80, k81⟩⟩
  ·
    clear hp hq
    rintro s27 f125 w124 ⟨H121, v28, n29, cs30, S122, i123, els31, k126, k127, k128, k129⟩
    refine FW.seq (FW.seq (FW.region ?_))
    refine FL.v (E.move k126) ?_
    refine FL.v (E.move k127) ?_
    refine FL.v (E.lenP te44 rfl p0) ?_
    refine FL.v (E.lss rfl rfl) ?_
    refine FL.nil ?_
    refine FW.condF rfl dlt_len ?_
    refine FW.exit ?_
    exact ⟨nofun, rfl, ⟨_, _, _, _, S122, i123, els31, k129⟩⟩
  ·
    clear hq
    intro e f119 w118 hD
    rcases q27 with s27 | x27
    ·
      obtain ⟨rfl, hD⟩ := hD
      obtain ⟨H115, v28, n29, cs30, S116, i117, els31, k120⟩ := hD
      replace hp := el_go hp
      refine FW.seq (FW.region ?_)
      refine FL.v (E.move k120) ?_
      refine FL.v (E.assign (v := v28) rfl) ?_
      refine FL.nil ?_
      refine FW.ret ?_
      obtain rfl := Option.some.inj hp
      exact ⟨.inr rfl, res1 rfl rfl ⟨_, _, _, _, rfl, S116, els31⟩⟩
    · exact x27.elim

@[reducible] def p_spec_l2Put (Ha : GH) (wa : World) (r : (List Int)) : Ending → World → Prop :=
  fun e w' => ∃ H' : GH, ∃ v0 : Value, ∃ n0 : Nat, ∃ c0 : List Value, e = .returned (v0) ∧ St Ha wa H' w' [.row 3 1 v0 n0 c0] ∧ Els (up wa.heap.size H') eI 1 c0 r
theorem w_spec_l2Put {Ha : GH} {wa : World} (hs : Sl Ha wa) (v0 : Value) (a0 : List Int) (p0 : RSl Ha eI 1 v0 a0) (a1 : Int) {r : (List Int)} (hp : (PF.spec_l2Put a0 a1) = some r) :
    Calls prog 138 #[v0, vI a1] wa (p_spec_l2Put Ha wa r) := by
  unfold PF.spec_l2Put at hp
  have S0 := St.init hs
  refine calls_go (N := 33) (args := [v0, vI a1]) Tryz.func138 rfl rfl rfl ?_
  refine FW.seq (FW.region ?_)
  refine FL.v (E.assign (v := vN) rfl) ?_
  refine FL.nil (FW.seq (FW.region ?_))
  refine FL.v (E.assign (v := vI 0) rfl) ?_
  refine FL.nil (FW.seq ?_)
  obtain ⟨q21, hq, hp⟩ := bndR hp
  refine FW.block ?_
  refine FW.mono (FW.iter (S := Int) (X := Empty) (fun (s21 : Int) f w => ∃ H : GH, St Ha wa H w [] ∧ Inc Ha H ∧ f 0 = v0 ∧ f 1 = vI a1 ∧ f 5 = vI s21) (fun (q : Rs Int Empty) e f w => match q with | .go s21 => e = Exit.exit 0 ∧ (∃ H : GH, St Ha wa H w [] ∧ Inc Ha H ∧ f 0 = v0 ∧ f 1 = vI a1 ∧ f 5 = vI s21) | .rt x => x.elim) hq ⟨_, S0, (Inc.rfl _), rfl, rfl, rfl⟩ ?_) ?_
  ·
    clear hp hq
    rintro s21 f74 w73 ⟨H70, S71, i72, k75, k76, k77⟩ o118 hp
    refine FW.seq (FW.seq (FW.region ?_))
    refine FL.v (E.move k77) ?_
    refine FL.v (E.move k75) ?_
    refine FL.v (E.lenP te44 rfl p0) ?_
    refine FL.v (E.lss rfl rfl) ?_
    refine FL.v (E.move (v := vB (decide (s21 < (len a0)))) rfl) ?_
    obtain ⟨t92, hqt92, hp⟩ := bnd hp
    refine FL.cut 9 (fun f w => ∃ H : GH, St Ha wa H w [] ∧ Inc H70 H ∧ f 0 = v0 ∧ f 1 = vI a1 ∧ f 5 = vI s21 ∧ f 19 = vB t92) ?_ ?_
    ·
      clear hp; have hp := hqt92; clear hqt92
      rcases ifB hp with ⟨c98, hp⟩ | ⟨c98, hp⟩
      ·
        refine FL.val (wF_yes rfl rfl rfl c98) rfl rfl (E.move k75) ?_
        refine FL.val (wF_yes rfl rfl rfl c98) rfl rfl (E.move k77) ?_
        obtain ⟨x105, hx106, hp⟩ := bnd hp
        obtain ⟨p99, cs100, pt101, l102, at103, rel104⟩ := p0.at hx106
        obtain rfl := eI_open rel104
        refine FL.val (wF_yes rfl rfl rfl c98) rfl rfl (E.indexAddr te44 rfl rfl pt101) ?_
        refine FL.val (wF_yes rfl rfl rfl c98) rfl rfl (E.load rfl (run_load0 Tryz.isAgg3 ((at103.mono i72).now S71.sl) rfl)) ?_
        refine FL.call (wF_yes rfl rfl rfl c98) rfl rfl (E.call Tryz.call75 (A1 rfl)) (w_spec_l2Var S71.sl x105) ?_
        rintro e w107 ⟨rfl, r108⟩
        refine ⟨_, rfl, ?_⟩
        have S109 := S71.call r108
        refine FL.val (wF_yes rfl rfl rfl c98) rfl rfl (E.move k76) ?_
        refine FL.call (wF_yes rfl rfl rfl c98) rfl rfl (E.call Tryz.call75 (A1 rfl)) (w_spec_l2Var S109.sl a1) ?_
        rintro e w110 ⟨rfl, r111⟩
        refine ⟨_, rfl, ?_⟩
        have S112 := S109.call r111
        refine FL.val (wF_yes rfl rfl rfl c98) rfl rfl (E.lss rfl rfl) ?_
        obtain rfl := Option.some.inj hp
        refine FL.v (E.pickT rfl c98 rfl) ?_
        exact FL.nil ⟨rfl, _, S112, (Inc.rfl _), k75, k76, k77, rfl⟩
      ·
        refine FL.skip (wF_no rfl rfl rfl c98) rfl ?_
        refine FL.skip (wF_no rfl rfl rfl c98) rfl ?_
        refine FL.skip (wF_no rfl rfl rfl c98) rfl ?_
        refine FL.skip (wF_no rfl rfl rfl c98) rfl ?_
        refine FL.skip (wF_no rfl rfl rfl c98) rfl ?_
        refine FL.skip (wF_no rfl rfl rfl c98) rfl ?_
        refine FL.skip (wF_no rfl rfl rfl c98) rfl ?_
        refine FL.skip (wF_no rfl rfl rfl c98) rfl ?_
        obtain rfl := Option.some.inj hp
        refine FL.v (E.pickF rfl c98 rfl) ?_
        exact FL.nil ⟨rfl, _, S71, (Inc.rfl _), k75, k76, k77, rfl⟩
    rintro f97 w96 ⟨H93, S94, i95, k113, k114, k115, k116⟩
    refine FL.nil ?_
    rcases ifB hp with ⟨c117, hp⟩ | ⟨c117, hp⟩
    ·
      refine FW.condT k116 c117 ?_
      refine FW.skip (FW.block (FW.region ?_))
      refine FL.v (E.move k115) ?_
      refine FL.v (E.add rfl rfl) ?_
      refine FL.v (E.assign (v := vI (wr (s21 + 1))) rfl) ?_
      refine FL.nil ?_
      obtain rfl := Option.some.inj hp
      exact ⟨rfl, ⟨_, S94, (i72.tr i95), k113, k114, rfl⟩⟩
    ·
      refine FW.condF k116 c117 ?_
      refine FW.exit ?_
      obtain rfl := Option.some.inj hp
      exact ⟨nofun, rfl, ⟨_, S94, (i72.tr i95), k113, k114, k115⟩⟩
  ·
    clear hq
    intro e f123 w122 hD
    rcases q21 with s21 | x21
    ·
      obtain ⟨rfl, hD⟩ := hD
      obtain ⟨H119, S120, i121, k124, k125, k126⟩ := hD
      replace hp := el_go hp
      refine FW.seq ?_
      obtain ⟨xs22, hc23, hp⟩ := bnd hp
      obtain ⟨r27, hr28, hp⟩ := bnd hp
      obtain ⟨xs42, hz43, hp⟩ := bnd hp
      obtain ⟨xs54, hc55, hp⟩ := bnd hp
      obtain ⟨xs59, hz60, hp⟩ := bnd hp
      refine FW.drawB (Sl H119) (fun f w => ∃ H : GH, ∃ v68 : Value, ∃ n69 : Nat, ∃ cs78 : List Value, St Ha wa H w [.row 3 1 v68 n69 cs78] ∧ Inc H119 H ∧ Els (up wa.heap.size H) eI 1 cs78 xs59 ∧ f 4 = v68) (by kernel_rfl) S120.sl ?_ ?_
      ·
        intro w127 r128
        have S129 := S120.call r128
        refine FB.t (i := 0) (bs 12 1) rfl (SP.nil S129.sl) rfl (fun _ z => (E.move k124)) ?_
        refine FB.t (i := 1) (bs 12 3) rfl (SP.nil S129.sl) rfl (fun _ z => (E.move k126)) ?_
        obtain ⟨v24, run25, h26⟩ := p0.cut te44 hc23 (lo := none) (hi := some (vI s21)) (.inl ⟨rfl, rfl⟩) (.inr ⟨_, rfl⟩)
        refine FB.t (i := 2) (bs 12 7) rfl (SP.nil S129.sl) rfl (fun _ z => (E.slice te44 rfl rfl (congrArg some rfl) rfl (run25 _))) ?_
        refine FB.t (i := 4) (bs 12 23) rfl (SP.nil S129.sl) rfl (fun _ z => (E.move k125)) ?_
        refine FB.t (i := 7) (bs 12 151) rfl (SP.nil S129.sl) rfl (fun _ z => (E.move k124)) ?_
        refine FB.t (i := 8) (bs 12 407) rfl (SP.nil S129.sl) rfl (fun _ z => (E.move k126)) ?_
        obtain ⟨v56, run57, h58⟩ := p0.cut te44 hc55 (lo := some (vI s21)) (hi := none) (.inr ⟨_, rfl⟩) (.inl ⟨rfl, rfl⟩)
        refine FB.t (i := 9) (bs 12 919) rfl (SP.nil S129.sl) rfl (fun _ z => (E.slice te44 rfl (congrArg some rfl) rfl rfl (run57 _))) ?_
        refine FB.all2 (i := 3) (j := 5) (by kernel_rfl) ?_ ?_
        ·
          refine FC.call (l' := (bs 12 927)) rfl (by kernel_rfl) rfl rfl rfl (E.call Tryz.call64 (A1 rfl)) (w_spec_l1Own S129.sl v24 xs22 (h26.mono i121) hr28) ?_
          rintro e w30 ⟨H29, v33, n34, cs35, rfl, r32, els36⟩
          refine ⟨_, rfl, ?_⟩
          have els36 := els36.mono (up_le S129.size)
          have S31 := S129.join (l' := [.row 3 1 v33 n34 cs35]) r32 rfl
          refine ⟨(SP.nil (Sl.of_inc r32.run.inc S31.sl)), ?_⟩
          refine FB.all1 (i := 5) (by kernel_rfl) ?_
          ·
            obtain ⟨v37, w38, run39, S40⟩ := S31.buildSlice (P := prog) te44 [vI a1] (parts := #[(0, vI a1)]) (cells := [vI a1]) rfl (szs_cons rfl szs_nil) (fc_cons rfl fc_nil) (ones_cons rfl ones_nil) (Nat.le_of_ble_eq_true rfl)
            have els41 : Els (up wa.heap.size H29) eI 1 [vI a1] [a1] := (Els.snoc (H := (up wa.heap.size H29)) (E := eI) (k := 1) (c := [vI a1]) (x := a1) Els.nil rfl rfl)
            refine FC.val (l' := (bs 12 959)) rfl (by kernel_rfl) rfl rfl rfl (E.buildSlice (B1 rfl) run39) ?_
            refine ⟨(SP.nil (Sl.of_inc r32.run.inc S40.sl)), ?_⟩
            refine FB.all1 (i := 6) (by kernel_rfl) ?_
            ·
              obtain ⟨v45, w48, n46, cs47, run49, S50, els51, ce52⟩ := S40.appendO (P := prog) te44 (i := 1) (j := 0) rfl els36 rfl els41 hz43
              have S50 : St Ha wa H29 w48 [.row 3 1 v37 1 [vI a1], .row 3 1 v45 n46 cs47] := S50
              have S53 : St Ha wa H29 w48 [.row 3 1 v45 n46 cs47] := S50.drop 0
              refine FC.val (l' := (bs 12 1023)) rfl (by kernel_rfl) rfl rfl rfl (E.append rfl rfl run49) ?_
              refine ⟨(SP.nil (Sl.of_inc r32.run.inc S53.sl)), ?_⟩
              refine FB.all1 (i := 10) (by kernel_rfl) ?_
              ·
                obtain ⟨v61, w64, n62, cs63, run65, S66, els67⟩ := S53.appendP (P := prog) (Inc.rfl _) te44 (i := 0) rfl (els51.mono upI) (h58.mono (i121.tr r32.run.inc)) hz60
                have S66 : St Ha wa H29 w64 [.row 3 1 v61 n62 cs63] := S66
                have els67 : Els (up wa.heap.size H29) eI 1 cs63 xs59 := els67.any (fun _ _ _ _ h => h)
                refine FC.val (l' := (bs 12 2047)) rfl (by kernel_rfl) rfl rfl rfl (E.append rfl rfl run65) ?_
                refine ⟨(SP.nil (Sl.of_inc r32.run.inc S66.sl)), ?_⟩
                refine FB.t (i := 11) (bs 12 4095) rfl (SP.nil (Sl.of_inc r32.run.inc S66.sl)) rfl (fun _ z => (E.assign (v := v61) rfl)) ?_
                exact FB.done (by kernel_rfl) ⟨_, _, _, _, S66, r32.run.inc, els67, rfl⟩
        ·
          obtain ⟨v37, w38, run39, S40⟩ := S129.buildSlice (P := prog) te44 [vI a1] (parts := #[(0, vI a1)]) (cells := [vI a1]) rfl (szs_cons rfl szs_nil) (fc_cons rfl fc_nil) (ones_cons rfl ones_nil) (Nat.le_of_ble_eq_true rfl)
          have els41 : Els (up wa.heap.size H119) eI 1 [vI a1] [a1] := (Els.snoc (H := (up wa.heap.size H119)) (E := eI) (k := 1) (c := [vI a1]) (x := a1) Els.nil rfl rfl)
          refine FC.val (l' := (bs 12 951)) rfl (by kernel_rfl) rfl rfl rfl (E.buildSlice (B1 rfl) run39) ?_
          refine ⟨(SP.nil S40.sl), ?_⟩
          refine FB.all1 (i := 3) (by kernel_rfl) ?_
          ·
            refine FC.call (l' := (bs 12 959)) rfl (by kernel_rfl) rfl rfl rfl (E.call Tryz.call64 (A1 rfl)) (w_spec_l1Own S40.sl v24 xs22 (h26.mono i121) hr28) ?_
            rintro e w30 ⟨H29, v33, n34, cs35, rfl, r32, els36⟩
            refine ⟨_, rfl, ?_⟩
            have els36 := els36.mono (up_le S40.size)
            have S31 := S40.join (l' := [.row 3 1 v33 n34 cs35, .row 3 1 v37 1 [vI a1]]) r32 rfl
            refine ⟨(SP.nil (Sl.of_inc r32.run.inc S31.sl)), ?_⟩
            refine FB.all1 (i := 6) (by kernel_rfl) ?_
            ·
              obtain ⟨v45, w48, n46, cs47, run49, S50, els51, ce52⟩ := S31.appendO (P := prog) te44 (i := 0) (j := 1) rfl els36 rfl (els41.mono (up_mono r32.run.inc)) hz43
              have S50 : St Ha wa H29 w48 [.row 3 1 v45 n46 cs47, .row 3 1 v37 1 [vI a1]] := S50
              have S53 : St Ha wa H29 w48 [.row 3 1 v45 n46 cs47] := S50.drop 1
              refine FC.val (l' := (bs 12 1023)) rfl (by kernel_rfl) rfl rfl rfl (E.append rfl rfl run49) ?_
              refine ⟨(SP.nil (Sl.of_inc r32.run.inc S53.sl)), ?_⟩
              refine FB.all1 (i := 10) (by kernel_rfl) ?_
              ·
                obtain ⟨v61, w64, n62, cs63, run65, S66, els67⟩ := S53.appendP (P := prog) (Inc.rfl _) te44 (i := 0) rfl (els51.mono upI) (h58.mono (i121.tr r32.run.inc)) hz60
                have S66 : St Ha wa H29 w64 [.row 3 1 v61 n62 cs63] := S66
                have els67 : Els (up wa.heap.size H29) eI 1 cs63 xs59 := els67.any (fun _ _ _ _ h => h)
                refine FC.val (l' := (bs 12 2047)) rfl (by kernel_rfl) rfl rfl rfl (E.append rfl rfl run65) ?_
                refine ⟨(SP.nil (Sl.of_inc r32.run.inc S66.sl)), ?_⟩
                refine FB.t (i := 11) (bs 12 4095) rfl (SP.nil (Sl.of_inc r32.run.inc S66.sl)) rfl (fun _ z => (E.assign (v := v61) rfl)) ?_
                exact FB.done (by kernel_rfl) ⟨_, _, _, _, S66, r32.run.inc, els67, rfl⟩
      ·
        rintro f84 w83 ⟨H80, v68, n69, cs78, S81, i82, els79, k85⟩
        refine FW.ret ?_
        obtain rfl := Option.some.inj hp
        exact ⟨.inr rfl, res1 rfl k85 ⟨_, _, _, _, rfl, S81, els79⟩⟩
    · exact x21.elim

@[reducible] def p_spec_l3Set (Ha : GH) (wa : World) (r : (List Int)) : Ending → World → Prop :=
 fun e w' => ∃ H' : GH, ∃ v0 : Value, ∃ n0 : Nat, ∃ c0 : List Value, e = .returned (v0) ∧ St Ha wa H' w' [.row 3 1 v0 n0 c0] ∧ Els (up wa.heap.size H') eI 1 c0 r
theorem w_spec_l3Set {Ha : GH} {wa : World} (hs : Sl Ha wa) (v0 : Value) (a0 : List Int) (p0 : RSl Ha eI 1 v0 a0) (a1 : Int) {r : (List Int)} (hp : (PF.spec_l3Set a0 a1) = some r) :
  Calls prog 136 #[v0, vI a1] wa (p_spec_l3Set Ha wa r) := by
 unfold PF.spec_l3Set at hp; have S0 := St.init hs; refine calls_go (N := 11) (args := [v0, vI a1]) func136 rfl rfl rfl ?_; refine FW.sr ?_; refine FL.as (v := vN) rfl ?_; refine FL.nil (FW.sr ?_); refine FL.mv (v := v0) rfl ?_; refine FL.mv (v := vI a1) rfl ?_; refine FL.c (E.call call75 (A1 rfl)) (w_spec_l2Var S0.sl a1) ?_; rintro e w21 ⟨rfl, r22⟩; refine ⟨_, rfl, ?_⟩; have S23 := S0.call r22; obtain ⟨r24, hr25, hp⟩ := bnd hp; refine FL.c (E.call call109 (A2 rfl rfl)) (w_spec_l2Without S23.sl v0 a0 p0 (PF.spec_l2Var a1) hr25) ?_; rintro e w27 ⟨H26, v30, n31, cs32, rfl, r29, els33⟩; refine ⟨_, rfl, ?_⟩; have els33 := els33.mono (up_le S23.size); have S28 := S23.join (l' := [.row 3 1 v30 n31 cs32]) r29 rfl; refine FL.mv (v := vI a1) rfl ?_; obtain ⟨H34, S35, i36, h37, nv38⟩ := S28.sealRowU (i := 0) (l' := []) rfl els33 (by decide) rfl; obtain ⟨r39, hr40, hp⟩ := bnd hp; refine FL.c (E.call call138 (A2 rfl rfl)) (w_spec_l2Put S35.sl v30 r24 (h37.mono upI) a1 hr40) ?_; rintro e w42 ⟨H41, v47, n48, cs49, rfl, r44, els50⟩; refine ⟨_, rfl, ?_⟩; obtain ⟨H45, r44, hU46⟩ := St.lendX i36 S28.sl r44; have els50 := els50.mono (hU46.tr (up_le S28.size)); have S43 := S28.join (l' := [.row 3 1 v47 n48 cs49, .row 3 1 v30 n31 cs32]) r44 rfl; refine FL.as (v := v47) rfl ?_; refine FL.nil (FW.ret ?_); cases hp; exact ⟨.inr rfl, res1 rfl rfl ⟨_, _, _, _, rfl, (S43.sel [0] (by decide) rfl), els50⟩⟩

@[reducible] def p_spec_l3Steps (Ha : GH) (wa : World) (r : ((List (Int × Int)) × (List Int) × Bool)) : Ending → World → Prop :=
  fun e w' => ∃ H' : GH, ∃ v0 : Value, ∃ n0 : Nat, ∃ c0 : List Value, ∃ v1 : Value, ∃ n1 : Nat, ∃ c1 : List Value, e = .returned (Value.tuple #[v0, v1, vB r.2.2]) ∧ St Ha wa H' w' [.row 99 2 v0 n0 c0, .row 3 1 v1 n1 c1] ∧ Els (up wa.heap.size H') eI2 2 c0 r.1 ∧ Els (up wa.heap.size H') eI 1 c1 r.2.1
theorem w_spec_l3Steps {Ha : GH} {wa : World} (hs : Sl Ha wa) (a0 : Cnf) (v0_1 : Value) (p0_1 : RSl Ha (eL eI 1) 1 v0_1 a0.clauses) (v1 : Value) (a1 : List Int) (p1 : RSl Ha eI 1 v1 a1) {r : ((List (Int × Int)) × (List Int) × Bool)} (hp : (PF.spec_l3Steps a0 a1) = some r) :
    Calls prog 104 #[vA #[vI a0.vars, v0_1], v1] wa (p_spec_l3Steps Ha wa r) := by
  unfold PF.spec_l3Steps at hp
  have S0 := St.init hs
  refine calls_go (N := 58) (args := [vA #[vI a0.vars, v0_1], v1]) Tryz.func104 rfl rfl rfl ?_
  refine FW.seq (FW.region ?_)
  obtain ⟨b21, w22, run23, S24⟩ := S0.box (P := prog) 28 [vI a0.vars, v0_1] (v := vA #[vI a0.vars, v0_1]) rfl (ones_cons rfl (ones_cons p0_1.one ones_nil))
  refine FL.v (E.box rfl run23) ?_
  obtain ⟨H25, S26, i27, at28⟩ := S24.sealBox (i := 0) (l' := []) rfl rfl
  refine FL.v (E.assign (v := vN) rfl) ?_
  refine FL.v (E.assign (v := vN) rfl) ?_
  refine FL.v (E.assign (v := vB false) rfl) ?_
  refine FL.nil (FW.seq (FW.region ?_))
  obtain ⟨v29, w30, run31, S32⟩ := S26.buildSlice (P := prog) te95 [] (parts := #[]) (cells := []) rfl szs_nil fc_nil ones_nil (Nat.le_of_ble_eq_true rfl)
  have els33 : Els (up wa.heap.size H25) eI2 2 [] [] := Els.nil
  refine FL.v (E.buildSlice (B0) run31) ?_
  refine FL.v (E.move (v := v1) rfl) ?_
  obtain ⟨r34, hr35, hp⟩ := bnd hp
  refine FL.call rfl rfl rfl (E.call Tryz.call64 (A1 rfl)) (w_spec_l1Own S32.sl v1 a1 (p1.mono i27) hr35) ?_
  rintro e w37 ⟨H36, v40, n41, cs42, rfl, r39, els43⟩
  refine ⟨_, rfl, ?_⟩
  have els43 := els43.mono (up_le S32.size)
  have S38 := S32.join (l' := [.row 3 1 v40 n41 cs42, .row 99 2 v29 0 []]) r39 rfl
  refine FL.v (E.assign (v := v29) rfl) ?_
  refine FL.v (E.assign (v := v40) rfl) ?_
  refine FL.nil (FW.seq ?_)
  obtain ⟨q44, hq, hp⟩ := bndR hp
  refine FW.block ?_
  refine FW.mono (FW.iter (S := ((List (Int × Int)) × (List Int))) (X := ((List (Int × Int)) × (List Int) × Bool)) (fun (s44 : ((List (Int × Int)) × (List Int))) f w => ∃ H : GH, ∃ v178 : Value, ∃ n179 : Nat, ∃ cs180 : List Value, ∃ v182 : Value, ∃ n183 : Nat, ∃ cs184 : List Value, St Ha wa H w [.row 99 2 v178 n179 cs180, .row 3 1 v182 n183 cs184] ∧ Inc H36 H ∧ Els (up wa.heap.size H) eI2 2 cs180 s44.1 ∧ Els (up wa.heap.size H) eI 1 cs184 s44.2 ∧ f 2 = vP (⟨b21, 0, none⟩) ∧ f 7 = v178 ∧ f 8 = v182) (fun q e f w => match q with | .go s44 => e = Exit.exit 0 ∧ (∃ H : GH, ∃ v178 : Value, ∃ n179 : Nat, ∃ cs180 : List Value, ∃ v182 : Value, ∃ n183 : Nat, ∃ cs184 : List Value, St Ha wa H w [.row 99 2 v178 n179 cs180, .row 3 1 v182 n183 cs184] ∧ Inc H36 H ∧ Els (up wa.heap.size H) eI2 2 cs180 s44.1 ∧ Els (up wa.heap.size H) eI 1 cs184 s44.2 ∧ f 7 = v178 ∧ f 8 = v182) | .rt x => ((e = Exit.ret) ∧ (fun e f w => (e = Exit.normal ∨ e = Exit.ret) ∧ ∀ a, Fr (δ := []) 58 a f → ∃ v, (results Tryz.f104 a.tmps).run prog w = .ok v w ∧ (p_spec_l3Steps Ha wa x) (.returned v) w) e f w)) hq ⟨_, _, _, _, _, _, _, (S38.sel [1, 0] (by decide) rfl), (Inc.rfl _), (els33.mono (up_mono r39.run.inc)), els43, rfl, rfl, rfl⟩ ?_) ?_
  ·
    clear hp hq
    rintro s44 f315 w314 ⟨H311, v178, n179, cs180, v182, n183, cs184, S312, i313, els181, els185, k316, k317, k318⟩ o459 hp
    refine FW.seq (FW.seq (FW.region ?_))
    refine FL.v (E.load k316 (run_loadA Tryz.isAgg28 Tryz.sizeOf28 ((at28.mono (r39.run.inc.tr i313)).now S312.sl) rfl)) ?_
    refine FL.v (E.move k318) ?_
    obtain ⟨H319, S320, i321, h322, nv323⟩ := S312.sealRowU (i := 1) (l' := [.row 99 2 v178 n179 cs180]) rfl els185 (by decide) rfl
    obtain ⟨r324, hr325, hp⟩ := bnd hp
    refine FL.call rfl rfl rfl (E.call Tryz.call134 (A2 rfl rfl)) (w_spec_l3CnfValue S320.sl a0 v0_1 (p0_1.mono (((i27.tr r39.run.inc).tr i313).tr i321)) v182 s44.2 (h322.mono upI) hr325) ?_
    rintro e w326 ⟨rfl, r327⟩
    refine ⟨_, rfl, ?_⟩
    have r327 := Run.lend i321 S312.sl r327
    have S328 := S312.call r327
    refine FL.v (E.geq rfl rfl) ?_
    refine FL.nil ?_
    rcases ifB hp with ⟨c329, hp⟩ | ⟨c329, hp⟩
    ·
      refine FW.condT rfl c329 ?_
      refine FW.skip (FW.block (FW.seq (FW.region ?_)))
      refine FL.v (E.assign (v := vI (-1)) rfl) ?_
      refine FL.nil (FW.seq (FW.seq (FW.region ?_)))
      refine FL.v (E.fieldAddr tf28_1 k316) ?_
      refine FL.v (E.load rfl (run_load1 Tryz.isAgg22 ((at28.mono (r39.run.inc.tr i313)).now S328.sl) rfl)) ?_
      refine FL.v (E.lenP te22 rfl p0_1) ?_
      refine FL.v (E.sub rfl rfl) ?_
      refine FL.v (E.assign (v := vI (wr ((len a0.clauses) - 1))) rfl) ?_
      refine FL.nil ?_
      obtain ⟨q330, hq, hp⟩ := bndR hp
      refine FW.block ?_
      refine FW.mono (FW.iter (S := (Int × Int)) (X := Empty) (fun (s330 : (Int × Int)) f w => ∃ H : GH, St Ha wa H w [.row 99 2 v178 n179 cs180, .row 3 1 v182 n183 cs184] ∧ Inc H311 H ∧ f 2 = vP (⟨b21, 0, none⟩) ∧ f 7 = v178 ∧ f 8 = v182 ∧ f 9 = vI s330.1 ∧ f 10 = vI s330.2) (fun (q : Rs (Int × Int) Empty) e f w => match q with | .go s330 => e = Exit.exit 2 ∧ (∃ H : GH, St Ha wa H w [.row 99 2 v178 n179 cs180, .row 3 1 v182 n183 cs184] ∧ Inc H311 H ∧ f 2 = vP (⟨b21, 0, none⟩) ∧ f 7 = v178 ∧ f 8 = v182 ∧ f 9 = vI s330.1) | .rt x => x.elim) hq ⟨_, S328, (Inc.rfl _), k316, k317, k318, rfl, rfl⟩ ?_) ?_
      ·
        clear hp hq
        rintro s330 f367 w366 ⟨H363, S364, i365, k368, k369, k370, k371, k372⟩ o395 hp
        refine FW.seq (FW.seq (FW.region ?_))
        refine FL.v (E.move k372) ?_
        refine FL.v (E.geq rfl rfl) ?_
        refine FL.nil ?_
        rcases ifB hp with ⟨c373, hp⟩ | ⟨c373, hp⟩
        ·
          refine FW.condT rfl c373 ?_
          refine FW.skip (FW.seq (FW.block (FW.seq (FW.region ?_))))
          refine FL.v (E.fieldAddr tf28_1 k368) ?_
          refine FL.v (E.load rfl (run_load1 Tryz.isAgg22 ((at28.mono ((r39.run.inc.tr i313).tr i365)).now S364.sl) rfl)) ?_
          refine FL.v (E.move k372) ?_
          obtain ⟨x380, hx381, hp⟩ := bnd hp
          obtain ⟨p374, cs375, pt376, l377, at378, rel379⟩ := p0_1.at hx381
          obtain ⟨v382, rfl, h383⟩ := eL_open rel379
          refine FL.v (E.indexAddr te22 rfl rfl pt376) ?_
          refine FL.v (E.load rfl (run_load0 Tryz.isAgg44 ((at378.mono (((i27.tr r39.run.inc).tr i313).tr i365)).now S364.sl) rfl)) ?_
          refine FL.v (E.move k370) ?_
          obtain ⟨H384, S385, i386, h387, nv388⟩ := S364.sealRowU (i := 1) (l' := [.row 99 2 v178 n179 cs180]) rfl (els185.mono (up_mono i365)) (by decide) rfl
          obtain ⟨r389, hr390, hp⟩ := bnd hp
          refine FL.call rfl rfl rfl (E.call Tryz.call135 (A2 rfl rfl)) (w_spec_l3Unit S385.sl v382 x380 (h383.mono ((((i27.tr r39.run.inc).tr i313).tr i365).tr i386)) v182 s44.2 (h387.mono upI) hr390) ?_
          rintro e w391 ⟨rfl, r392⟩
          refine ⟨_, rfl, ?_⟩
          have r392 := Run.lend i386 S364.sl r392
          have S393 := S364.call r392
          refine FL.v (E.neq rfl rfl) ?_
          refine FL.nil ?_
          rcases ifB hp with ⟨c394, hp⟩ | ⟨c394, hp⟩
          ·
            refine FW.condT rfl c394 ?_
            refine FW.region ?_
            refine FL.v (E.move k372) ?_
            refine FL.v (E.assign (v := vI s330.2) rfl) ?_
            refine FL.nil (FW.region ?_)
            refine FL.v (E.move k372) ?_
            refine FL.v (E.sub rfl rfl) ?_
            refine FL.v (E.assign (v := vI (wr (s330.2 - 1))) rfl) ?_
            refine FL.nil ?_
            obtain rfl := Option.some.inj hp
            exact ⟨rfl, ⟨_, S393, i365, k368, k369, k370, rfl, rfl⟩⟩
          ·
            refine FW.condF rfl c394 ?_
            refine FW.skip (FW.region ?_)
            refine FL.v (E.move k372) ?_
            refine FL.v (E.sub rfl rfl) ?_
            refine FL.v (E.assign (v := vI (wr (s330.2 - 1))) rfl) ?_
            refine FL.nil ?_
            obtain rfl := Option.some.inj hp
            exact ⟨rfl, ⟨_, S393, i365, k368, k369, k370, k371, rfl⟩⟩
        ·
          refine FW.condF rfl c373 ?_
          refine FW.exit ?_
          obtain rfl := Option.some.inj hp
          exact ⟨nofun, rfl, ⟨_, S364, i365, k368, k369, k370, k371⟩⟩
      ·
        clear hq
        intro e f400 w399 hD
        rcases q330 with s330 | x330
        ·
          obtain ⟨rfl, hD⟩ := hD
          obtain ⟨H396, S397, i398, k401, k402, k403, k404⟩ := hD
          replace hp := el_go hp
          refine FW.seq (FW.seq (FW.region ?_))
          refine FL.v (E.move k404) ?_
          refine FL.v (E.lss rfl rfl) ?_
          refine FL.nil ?_
          rcases ifB hp with ⟨c405, hp⟩ | ⟨c405, hp⟩
          ·
            refine FW.condT rfl c405 ?_
            refine FW.seq (FW.region ?_)
            refine FL.v (E.move k402) ?_
            refine FL.v (E.move k403) ?_
            refine FL.v (E.assign (v := v178) rfl) ?_
            refine FL.v (E.assign (v := v182) rfl) ?_
            refine FL.v (E.assign (v := vB false) rfl) ?_
            refine FL.nil ?_
            refine FW.ret ?_
            obtain rfl := Option.some.inj hp
            exact ⟨nofun, rfl, ⟨.inr rfl, res3 rfl rfl rfl rfl ⟨_, _, _, _, _, _, _, rfl, S397, (els181.mono (up_mono i398)), (els185.mono (up_mono i398))⟩⟩⟩
          ·
            refine FW.condF rfl c405 ?_
            refine FW.skip (FW.seq (FW.region ?_))
            refine FL.v (E.fieldAddr tf28_1 k401) ?_
            refine FL.v (E.load rfl (run_load1 Tryz.isAgg22 ((at28.mono ((r39.run.inc.tr i313).tr i398)).now S397.sl) rfl)) ?_
            refine FL.v (E.move k404) ?_
            obtain ⟨x412, hx413, hp⟩ := bnd hp
            obtain ⟨p406, cs407, pt408, l409, at410, rel411⟩ := p0_1.at hx413
            obtain ⟨v414, rfl, h415⟩ := eL_open rel411
            refine FL.v (E.indexAddr te22 rfl rfl pt408) ?_
            refine FL.v (E.load rfl (run_load0 Tryz.isAgg44 ((at410.mono (((i27.tr r39.run.inc).tr i313).tr i398)).now S397.sl) rfl)) ?_
            refine FL.v (E.move k403) ?_
            obtain ⟨H416, S417, i418, h419, nv420⟩ := S397.sealRowU (i := 1) (l' := [.row 99 2 v178 n179 cs180]) rfl (els185.mono (up_mono i398)) (by decide) rfl
            obtain ⟨r421, hr422, hp⟩ := bnd hp
            refine FL.call rfl rfl rfl (E.call Tryz.call135 (A2 rfl rfl)) (w_spec_l3Unit S417.sl v414 x412 (h415.mono ((((i27.tr r39.run.inc).tr i313).tr i398).tr i418)) v182 s44.2 (h419.mono upI) hr422) ?_
            rintro e w423 ⟨rfl, r424⟩
            refine ⟨_, rfl, ?_⟩
            have r424 := Run.lend i418 S397.sl r424
            have S425 := S397.call r424
            refine FL.v (E.assign (v := vI r421) rfl) ?_
            refine FL.nil (FW.seq (FW.region ?_))
            refine FL.v (E.move k402) ?_
            refine FL.v (E.move (v := vI r421) rfl) ?_
            refine FL.v (E.move k404) ?_
            refine FL.v (E.build (B2 rfl rfl) (run_build _ 99 #[(0, vI r421), (1, vI s330.1)] #[vI r421, vI s330.1] (by rfl))) ?_
            obtain ⟨v426, w427, run428, S429⟩ := S425.buildSlice (P := prog) te95 [vA #[vI r421, vI s330.1]] (parts := #[(0, vA #[vI r421, vI s330.1])]) (cells := [vI r421, vI s330.1]) rfl (szs_cons rfl szs_nil) (fc_cons rfl fc_nil) (ones_cons rfl (ones_cons rfl ones_nil)) (Nat.le_of_ble_eq_true rfl)
            have els430 : Els (up wa.heap.size H396) eI2 2 [vI r421, vI s330.1] [(r421, s330.1)] := (Els.snoc (H := (up wa.heap.size H396)) (E := eI2) (k := 2) (c := [vI r421, vI s330.1]) (x := (r421, s330.1)) Els.nil rfl rfl)
            refine FL.v (E.buildSlice (B1 rfl) run428) ?_
            obtain ⟨xs431, hz432, hp⟩ := bnd hp
            obtain ⟨v433, w436, n434, cs435, run437, S438, els439, ce440⟩ := S429.appendO (P := prog) te95 (i := 1) (j := 0) rfl (els181.mono (up_mono i398)) rfl els430 hz432
            have S438 : St Ha wa H396 w436 [.row 99 2 v426 1 [vI r421, vI s330.1], .row 99 2 v433 n434 cs435, .row 3 1 v182 n183 cs184] := S438
            have S441 : St Ha wa H396 w436 [.row 99 2 v433 n434 cs435, .row 3 1 v182 n183 cs184] := S438.drop 0
            refine FL.v (E.append rfl rfl run437) ?_
            refine FL.v (E.assign (v := v433) rfl) ?_
            refine FL.nil (FW.region ?_)
            refine FL.v (E.move k403) ?_
            refine FL.v (E.move (v := vI r421) rfl) ?_
            obtain ⟨H442, S443, i444, h445, nv446⟩ := S441.sealRowU (i := 1) (l' := [.row 99 2 v433 n434 cs435]) rfl (els185.mono (up_mono i398)) (by decide) rfl
            obtain ⟨r447, hr448, hp⟩ := bnd hp
            refine FL.call rfl rfl rfl (E.call Tryz.call136 (A2 rfl rfl)) (w_spec_l3Set S443.sl v182 s44.2 (h445.mono upI) r421 hr448) ?_
            rintro e w450 ⟨H449, v455, n456, cs457, rfl, r452, els458⟩
            refine ⟨_, rfl, ?_⟩
            obtain ⟨H453, r452, hU454⟩ := St.lendX i444 S441.sl r452
            have els458 := els458.mono (hU454.tr (up_le S441.size))
            have S451 := S441.join (l' := [.row 3 1 v455 n456 cs457, .row 99 2 v433 n434 cs435, .row 3 1 v182 n183 cs184]) r452 rfl
            refine FL.v (E.assign (v := v455) rfl) ?_
            refine FL.nil ?_
            obtain rfl := Option.some.inj hp
            exact ⟨rfl, ⟨_, _, _, _, _, _, _, (S451.sel [1, 0] (by decide) rfl), ((i313.tr i398).tr r452.run.inc), (els439.mono (up_mono r452.run.inc)), els458, k401, rfl, rfl⟩⟩
        · exact x330.elim
    ·
      refine FW.condF rfl c329 ?_
      refine FW.exit ?_
      obtain rfl := Option.some.inj hp
      exact ⟨nofun, rfl, ⟨_, _, _, _, _, _, _, S328, i313, els181, els185, k317, k318⟩⟩
  ·
    clear hq
    intro e f464 w463 hD
    rcases q44 with s44 | x44
    ·
      obtain ⟨rfl, hD⟩ := hD
      obtain ⟨H460, v178, n179, cs180, v182, n183, cs184, S461, i462, els181, els185, k465, k466⟩ := hD
      replace hp := el_go hp
      refine FW.seq (FW.region ?_)
      refine FL.v (E.move k465) ?_
      refine FL.v (E.move k466) ?_
      refine FL.v (E.assign (v := v178) rfl) ?_
      refine FL.v (E.assign (v := v182) rfl) ?_
      refine FL.v (E.assign (v := vB true) rfl) ?_
      refine FL.nil ?_
      refine FW.ret ?_
      obtain rfl := Option.some.inj hp
      exact ⟨.inr rfl, res3 rfl rfl rfl rfl ⟨_, _, _, _, _, _, _, rfl, S461, els181, els185⟩⟩
    ·
      obtain ⟨he, hL⟩ := hD
      replace hp := el_rt hp
      obtain rfl := Option.some.inj hp
      subst he
      exact hL

theorem w_spec_l11Follows {Ha : GH} {wa : World} (hs : Sl Ha wa) (a0 : Cnf) (v0_1 : Value) (p0_1 : RSl Ha (eL eI 1) 1 v0_1 a0.clauses) (v1 : Value) (a1 : List Int) (p1 : RSl Ha eI 1 v1 a1) {r : Bool} (hp : (PF.spec_l11Follows a0 a1) = some r) :
  Calls prog 103 #[vA #[vI a0.vars, v0_1], v1] wa (Sc Ha wa (vB r)) := by
 unfold PF.spec_l11Follows at hp; have S0 := St.init hs; refine calls_go (N := 17) (args := [vA #[vI a0.vars, v0_1], v1]) func103 rfl rfl rfl ?_; refine FW.sr ?_; obtain ⟨b21, w22, run23, S24⟩ := S0.box (P := prog) 28 [vI a0.vars, v0_1] (v := vA #[vI a0.vars, v0_1]) rfl (oC rfl (oC p0_1.one ones_nil)); refine FL.v (E.box rfl run23) ?_; obtain ⟨H25, S26, i27, at28⟩ := S24.sealBox (i := 0) (l' := []) rfl rfl; refine FL.as (v := vB false) rfl ?_; refine FL.nil (FW.seq ?_); obtain ⟨r32, hr33, hp⟩ := bnd hp; obtain ⟨r47, hr48, hp⟩ := bnd hp; refine FW.drawB (Sl H25) (fun f w => ∃ H : GH, St Ha wa H w [] ∧ Inc H25 H ∧ f 7 = vB r47.2.2) (by kernel_rfl) S26.sl ?_ ?_
 ·
  intro w29 r30; have S31 := S26.call r30; refine FB.T 0 11 1 rfl S31.sl rfl (fun _ z => (E.load rfl (run_loadA isAgg28 sizeOf28 (at28.now z) rfl))) ?_; refine FB.T 1 11 3 rfl S31.sl rfl (fun _ z => (E.move (v := v1) rfl)) ?_; refine FB.all1 (i := 2) (by kernel_rfl) ?_
  ·
   refine FC.call (l' := (bs 11 7)) rfl (by kernel_rfl) rfl rfl rfl (E.call call105 (A1 rfl)) (w_spec_l11Deny S31.sl v1 a1 (p1.mono i27) hr33) ?_; rintro e w35 ⟨H34, v38, n39, cs40, rfl, r37, els41⟩; refine ⟨_, rfl, ?_⟩; have els41 := els41.mono (up_le S31.size); have S36 := S31.join (l' := [.row 3 1 v38 n39 cs40]) r37 rfl; refine ⟨(SP.nil (Sl.of_inc r37.run.inc S36.sl)), ?_⟩; refine FB.all1 (i := 3) (by kernel_rfl) ?_
   ·
    obtain ⟨H42, S43, i44, h45, nv46⟩ := S36.sealRowU (i := 0) (l' := []) rfl els41 (by decide) rfl; refine FC.call (l' := (bs 11 15)) rfl (by kernel_rfl) rfl rfl rfl (E.call call104 (A2 rfl rfl)) (w_spec_l3Steps S43.sl a0 v0_1 (p0_1.mono ((i27.tr r37.run.inc).tr i44)) v38 r32 (h45.mono upI) hr48) ?_; rintro e w50 ⟨H49, v55, n56, cs57, v59, n60, cs61, rfl, r52, els58, els62⟩; refine ⟨_, rfl, ?_⟩; obtain ⟨H53, r52, hU54⟩ := St.lendX i44 S36.sl r52; have els58 := els58.mono (hU54.tr (up_le S36.size)); have els62 := els62.mono (hU54.tr (up_le S36.size)); have S51 := S36.join (l' := [.row 99 2 v55 n56 cs57, .row 3 1 v59 n60 cs61, .row 3 1 v38 n39 cs40]) r52 rfl; refine ⟨(SP.nil (Sl.of_inc (r37.run.inc.tr r52.run.inc) S51.sl)), ?_⟩; refine FB.T 4 11 31 rfl (Sl.of_inc (r37.run.inc.tr r52.run.inc) S51.sl) rfl (fun _ z => (E.move (v := Value.tuple #[v55, v59, vB r47.2.2]) rfl)) ?_; refine FB.T 5 11 63 rfl (Sl.of_inc (r37.run.inc.tr r52.run.inc) S51.sl) rfl (fun _ z => (E.extract (i := 0) rfl rfl)) ?_; refine FB.T 6 11 127 rfl (Sl.of_inc (r37.run.inc.tr r52.run.inc) S51.sl) rfl (fun _ z => (E.extract (i := 1) rfl rfl)) ?_; refine FB.T 7 11 255 rfl (Sl.of_inc (r37.run.inc.tr r52.run.inc) S51.sl) rfl (fun _ z => (E.extract (i := 2) rfl rfl)) ?_; refine FB.T 8 11 511 rfl (Sl.of_inc (r37.run.inc.tr r52.run.inc) S51.sl) rfl (fun _ z => (E.assign (v := v55) rfl)) ?_; refine FB.T 9 11 1023 rfl (Sl.of_inc (r37.run.inc.tr r52.run.inc) S51.sl) rfl (fun _ z => (E.assign (v := v59) rfl)) ?_; refine FB.T 10 11 2047 rfl (Sl.of_inc (r37.run.inc.tr r52.run.inc) S51.sl) rfl (fun _ z => (E.assign (v := vB r47.2.2) rfl)) ?_; exact FB.done (by kernel_rfl) ⟨_, (S51.sel [] (by decide) rfl), (r37.run.inc.tr r52.run.inc), rfl⟩
 ·
  rintro f67 w66 ⟨H63, S64, i65, k68⟩; refine FW.sr ?_; refine FL.mv k68 ?_; refine FL.as (v := vB r47.2.2) rfl ?_; refine FL.nil (FW.ret ?_); cases hp; exact ⟨.inr rfl, res1 rfl rfl ⟨rfl, S64.back⟩⟩

theorem w_spec_l11First {Ha : GH} {wa : World} (hs : Sl Ha wa) (a0 : Cnf) (v0_1 : Value) (p0_1 : RSl Ha (eL eI 1) 1 v0_1 a0.clauses) (v1 : Value) (a1 : List (List Int)) (p1 : RSl Ha (eL eI 1) 1 v1 a1) {r : Int} (hp : (PF.spec_l11First a0 a1) = some r) :
  Calls prog 70 #[vA #[vI a0.vars, v0_1], v1] wa (Sc Ha wa (vI r)) := by
 unfold PF.spec_l11First at hp; have S0 := St.init hs; refine calls_go (N := 24) (args := [vA #[vI a0.vars, v0_1], v1]) func70 rfl rfl rfl ?_; refine FW.sr ?_; obtain ⟨b21, w22, run23, S24⟩ := S0.box (P := prog) 28 [vI a0.vars, v0_1] (v := vA #[vI a0.vars, v0_1]) rfl (oC rfl (oC p0_1.one ones_nil)); refine FL.v (E.box rfl run23) ?_; obtain ⟨H25, S26, i27, at28⟩ := S24.sealBox (i := 0) (l' := []) rfl rfl; refine FL.as (v := vI 0) rfl ?_; refine FL.nil (FW.seq (FW.sr ?_)); refine FL.as (v := vI 0) rfl ?_; refine FL.nil ?_; obtain ⟨q30, hq, hp⟩ := bndR hp; refine FW.block ?_; refine FW.mono (FW.forL (S := Unit) (X := Int) (fun (i30 : Nat) (s30 : Unit) f w => ∃ H : GH, St Ha wa H w [] ∧ Inc H25 H ∧ f 5 = vI ((i30 : Nat) : Int) ∧ f 1 = v1 ∧ f 2 = vP (⟨b21, 0, none⟩)) (fun q e f w => match q with | .go s30 => e = Exit.exit 0 ∧ (∃ H : GH, St Ha wa H w [] ∧ Inc H25 H) | .rt x => ((e = Exit.ret) ∧ (fun e f w => (e = Exit.normal ∨ e = Exit.ret) ∧ ∀ a, Fr (δ := []) 24 a f → ∃ v, (results Tryz.f70 a.tmps).run prog w = .ok v w ∧ (Sc Ha wa (vI x)) (.returned v) w) e f w)) hq ⟨_, S26, I0, rfl, rfl, rfl⟩ ?_ ?_) ?_
 ·
  clear hp hq; rintro i30 y29 s30 f35 w34 ⟨H31, S32, i33, k36, k37, k38⟩ hx30 o78 hp; refine FW.seq (FW.sr ?_); refine FL.mv k36 ?_; refine FL.mv k37 ?_; refine FL.v (E.lenP te22 rfl p1) ?_; refine FL.v (E.lssT rfl rfl (lss_len hx30)) ?_; refine FL.nil ?_; refine FW.condT rfl rfl ?_; refine FW.skip (FW.seq (FW.block (FW.seq ?_))); obtain ⟨xs42, hc43, hp⟩ := bnd hp; obtain ⟨r47, hr48, hp⟩ := bnd hp; obtain ⟨r63, hr64, hp⟩ := bnd hp; refine FW.drawB (Sl H31) (fun f w => ∃ H : GH, St Ha wa H w [] ∧ Inc H31 H ∧ f 1 = v1 ∧ f 2 = vP (⟨b21, 0, none⟩) ∧ f 5 = vI ((i30 : Nat) : Int) ∧ f 22 = vB (!r63)) (by kernel_rfl) S32.sl ?_ ?_
  ·
   intro w39 r40; have S41 := S32.call r40; refine FB.T 0 11 1 rfl S41.sl rfl (fun _ z => (E.load k38 (run_loadA isAgg28 sizeOf28 ((at28.mono i33).now z) rfl))) ?_; refine FB.T 1 11 3 rfl S41.sl rfl (fun _ z => (E.move k37)) ?_; refine FB.T 2 11 7 rfl S41.sl rfl (fun _ z => (E.move k36)) ?_; obtain ⟨v44, run45, h46⟩ := p1.cut te22 hc43 (lo := none) (hi := some (vI ((i30 : Nat) : Int))) (.inl ⟨rfl, rfl⟩) (.inr ⟨_, rfl⟩); refine FB.T 3 11 15 rfl S41.sl rfl (fun _ z => (E.slice te22 rfl rfl (congrArg some rfl) rfl (run45 _))) ?_; refine FB.T 5 11 47 rfl S41.sl rfl (fun _ z => (E.move k37)) ?_; refine FB.T 6 11 111 rfl S41.sl rfl (fun _ z => (E.move k36)) ?_; obtain ⟨p55, cs56, pt57, l58, at59, rel60⟩ := p1.at (ix_nat hx30); obtain ⟨v61, rfl, h62⟩ := eL_open rel60; refine FB.T 7 11 239 rfl S41.sl rfl (fun _ z => (E.indexAddr te22 rfl rfl pt57)) ?_; refine FB.T 8 11 495 rfl S41.sl rfl (fun _ z => (E.load rfl (run_load0 isAgg44 ((at59.mono (i27.tr i33)).now z) rfl))) ?_; refine FB.all1 (i := 4) (by kernel_rfl) ?_
   ·
    refine FC.call (l' := (bs 11 511)) rfl (by kernel_rfl) rfl rfl rfl (E.call call72 (A2 rfl rfl)) (w_spec_l11With S41.sl a0 v0_1 (p0_1.mono (i27.tr i33)) v44 xs42 (h46.mono (i27.tr i33)) hr48) ?_; rintro e w50 ⟨H49, v53, rfl, r52, h54⟩; refine ⟨_, rfl, ?_⟩; have S51 := S41.call r52; refine ⟨(SP.nil (Sl.of_inc r52.inc S51.sl)), ?_⟩; refine FB.all1 (i := 9) (by kernel_rfl) ?_
    ·
     refine FC.call (l' := (bs 11 1023)) rfl (by kernel_rfl) rfl rfl rfl (E.call call103 (A2 rfl rfl)) (w_spec_l11Follows S51.sl r47 v53 h54 v61 y29 (h62.mono ((i27.tr i33).tr r52.inc)) hr64) ?_; rintro e w65 ⟨rfl, r66⟩; refine ⟨_, rfl, ?_⟩; have S67 := S51.call r66; refine ⟨(SP.nil (Sl.of_inc r52.inc S67.sl)), ?_⟩; refine FB.T 10 11 2047 rfl (Sl.of_inc r52.inc S67.sl) rfl (fun _ z => (E.not rfl)) ?_; exact FB.done (by kernel_rfl) ⟨_, S67, r52.inc, k37, k38, k36, rfl⟩
  ·
   rintro f72 w71 ⟨H68, S69, i70, k73, k74, k75, k76⟩; rcases ifB hp with ⟨c77, hp⟩ | ⟨c77, hp⟩
   ·
    refine FW.condT k76 c77 ?_; refine FW.sr ?_; refine FL.mv k75 ?_; refine FL.as (v := vI ((i30 : Nat) : Int)) rfl ?_; refine FL.nil (FW.ret ?_); cases hp; exact ⟨nofun, rfl, ⟨.inr rfl, res1 rfl rfl ⟨rfl, S69.back⟩⟩⟩
   ·
    refine FW.condF k76 c77 ?_; refine FW.skip (FW.region ?_); refine FL.mv k75 ?_; refine FL.v (E.add rfl rfl) ?_; refine FL.as (v := vI (wr (((i30 : Nat) : Int) + 1))) rfl ?_; refine FL.nil ?_; cases hp; exact ⟨rfl, ⟨_, S69, (i33.tr i70), (nat_succ rfl (lt_of_get hx30) (p1.mono ((i27.tr i33).tr i70)).le), k73, k74⟩⟩
 ·
  clear hp hq; rintro s30 f88 w87 ⟨H84, S85, i86, k89, k90, k91⟩; refine FW.seq (FW.sr ?_); refine FL.mv k89 ?_; refine FL.mv k90 ?_; refine FL.v (E.lenP te22 rfl p1) ?_; refine FL.v (E.lss rfl rfl) ?_; refine FL.nil ?_; refine FW.condF rfl dlt_len ?_; refine FW.exit ?_; exact ⟨nofun, rfl, ⟨_, S85, i86⟩⟩
 ·
  clear hq; intro e f83 w82 hD; rcases q30 with s30 | x30
  ·
   obtain ⟨rfl, hD⟩ := hD; obtain ⟨H79, S80, i81⟩ := hD; replace hp := el_go hp; refine FW.sr ?_; refine FL.as (v := vI (-1)) rfl ?_; refine FL.nil (FW.ret ?_); cases hp; exact ⟨.inr rfl, res1 rfl rfl ⟨rfl, S80.back⟩⟩
  ·
   obtain ⟨he, hL⟩ := hD; replace hp := el_rt hp; cases hp; subst he; exact hL

theorem w_spec_l11Good {Ha : GH} {wa : World} (hs : Sl Ha wa) (a0 : Cnf) (v0_1 : Value) (p0_1 : RSl Ha (eL eI 1) 1 v0_1 a0.clauses) (v1 : Value) (a1 : List (List Int)) (p1 : RSl Ha (eL eI 1) 1 v1 a1) {r : Bool} (hp : (PF.spec_l11Good a0 a1) = some r) :
  Calls prog 46 #[vA #[vI a0.vars, v0_1], v1] wa (Sc Ha wa (vB r)) := by
 unfold PF.spec_l11Good at hp; have S0 := St.init hs; refine calls_go (N := 14) (args := [vA #[vI a0.vars, v0_1], v1]) func46 rfl rfl rfl ?_; refine FW.sr ?_; obtain ⟨b21, w22, run23, S24⟩ := S0.box (P := prog) 28 [vI a0.vars, v0_1] (v := vA #[vI a0.vars, v0_1]) rfl (oC rfl (oC p0_1.one ones_nil)); refine FL.v (E.box rfl run23) ?_; obtain ⟨H25, S26, i27, at28⟩ := S24.sealBox (i := 0) (l' := []) rfl rfl; refine FL.as (v := vB false) rfl ?_; refine FL.nil (FW.sr ?_); refine FL.v (E.load rfl (run_loadA isAgg28 sizeOf28 (at28.now S26.sl) rfl)) ?_; refine FL.mv (v := v1) rfl ?_; obtain ⟨r29, hr30, hp⟩ := bnd hp; refine FL.c (E.call call69 (A2 rfl rfl)) (w_spec_l11Takes S26.sl a0 v0_1 (p0_1.mono i27) v1 a1 (p1.mono i27) hr30) ?_; rintro e w31 ⟨rfl, r32⟩; refine ⟨_, rfl, ?_⟩; have S33 := S26.call r32; refine FL.mv (v := vB r29) rfl ?_; obtain ⟨t39, hqt39, hp⟩ := bnd hp; refine FL.cut 5 (fun f w => ∃ H : GH, St Ha wa H w [] ∧ Inc H25 H ∧ f 13 = vB t39) ?_ ?_
 ·
  clear hp; have hp := hqt39; clear hqt39; rcases ifB hp with ⟨c45, hp⟩ | ⟨c45, hp⟩
  ·
   refine FL.y (wY c45) (E.load rfl (run_loadA isAgg28 sizeOf28 (at28.now S33.sl) rfl)) ?_; refine FL.y (wY c45) (E.move (v := v1) rfl) ?_; obtain ⟨r46, hr47, hp⟩ := bnd hp; refine FL.call (wY c45) rfl rfl (E.call call70 (A2 rfl rfl)) (w_spec_l11First S33.sl a0 v0_1 (p0_1.mono i27) v1 a1 (p1.mono i27) hr47) ?_; rintro e w48 ⟨rfl, r49⟩; refine ⟨_, rfl, ?_⟩; have S50 := S33.call r49; refine FL.y (wY c45) (E.lss rfl rfl) ?_; cases hp; refine FL.v (E.pickT rfl c45 rfl) ?_; exact FL.nil ⟨rfl, _, S50, I0, rfl⟩
  ·
   refine FL.skip (wN c45) rfl ?_; refine FL.skip (wN c45) rfl ?_; refine FL.skip (wN c45) rfl ?_; refine FL.skip (wN c45) rfl ?_; cases hp; refine FL.v (E.pickF rfl c45 rfl) ?_; exact FL.nil ⟨rfl, _, S33, I0, rfl⟩
 rintro f44 w43 ⟨H40, S41, i42, k51⟩; refine FL.as k51 ?_; refine FL.nil (FW.ret ?_); cases hp; exact ⟨.inr rfl, res1 rfl rfl ⟨rfl, S41.back⟩⟩

theorem w_spec_l9False {Ha : GH} {wa : World} (hs : Sl Ha wa) (a0 : Cnf) (v0_1 : Value) (p0_1 : RSl Ha (eL eI 1) 1 v0_1 a0.clauses) (v1 : Value) (a1 : List Int) (p1 : RSl Ha eI 1 v1 a1) {r : Int} (hp : (PF.spec_l9False a0 a1) = some r) :
  Calls prog 106 #[vA #[vI a0.vars, v0_1], v1] wa (Sc Ha wa (vI r)) := by
 unfold PF.spec_l9False at hp; have S0 := St.init hs; refine calls_go (N := 22) (args := [vA #[vI a0.vars, v0_1], v1]) func106 rfl rfl rfl ?_; refine FW.sr ?_; obtain ⟨b21, w22, run23, S24⟩ := S0.box (P := prog) 28 [vI a0.vars, v0_1] (v := vA #[vI a0.vars, v0_1]) rfl (oC rfl (oC p0_1.one ones_nil)); refine FL.v (E.box rfl run23) ?_; obtain ⟨H25, S26, i27, at28⟩ := S24.sealBox (i := 0) (l' := []) rfl rfl; refine FL.as (v := vI 0) rfl ?_; refine FL.nil (FW.seq (FW.sr ?_)); refine FL.as (v := vI 0) rfl ?_; refine FL.nil ?_; obtain ⟨q29, hq, hp⟩ := bndR hp; refine FW.block ?_; refine FW.mono (FW.iter (S := Int) (X := Int) (fun (s29 : Int) f w => ∃ H : GH, St Ha wa H w [] ∧ Inc H25 H ∧ f 1 = v1 ∧ f 2 = vP (⟨b21, 0, none⟩) ∧ f 5 = vI s29) (fun q e f w => match q with | .go s29 => e = Exit.exit 0 ∧ (∃ H : GH, St Ha wa H w [] ∧ Inc H25 H) | .rt x => ((e = Exit.ret) ∧ (fun e f w => (e = Exit.normal ∨ e = Exit.ret) ∧ ∀ a, Fr (δ := []) 22 a f → ∃ v, (results Tryz.f106 a.tmps).run prog w = .ok v w ∧ (Sc Ha wa (vI x)) (.returned v) w) e f w)) hq ⟨_, S26, I0, rfl, rfl, rfl⟩ ?_) ?_
 ·
  clear hp hq; rintro s29 f59 w58 ⟨H55, S56, i57, k60, k61, k62⟩ o80 hp; refine FW.seq (FW.sr ?_); refine FL.mv k62 ?_; refine FL.v (E.fieldAddr tf28_1 k61) ?_; refine FL.v (E.load rfl (run_load1 isAgg22 ((at28.mono i57).now S56.sl) rfl)) ?_; refine FL.v (E.lenP te22 rfl p0_1) ?_; refine FL.v (E.lss rfl rfl) ?_; refine FL.nil ?_; rcases ifB hp with ⟨c63, hp⟩ | ⟨c63, hp⟩
  ·
   refine FW.condT rfl c63 ?_; refine FW.skip (FW.seq (FW.block (FW.sr ?_))); refine FL.v (E.fieldAddr tf28_1 k61) ?_; refine FL.v (E.load rfl (run_load1 isAgg22 ((at28.mono i57).now S56.sl) rfl)) ?_; refine FL.mv k62 ?_; obtain ⟨x70, hx71, hp⟩ := bnd hp; obtain ⟨p64, cs65, pt66, l67, at68, rel69⟩ := p0_1.at hx71; obtain ⟨v72, rfl, h73⟩ := eL_open rel69; refine FL.v (E.indexAddr te22 rfl rfl pt66) ?_; refine FL.v (E.load rfl (run_load0 isAgg44 ((at68.mono (i27.tr i57)).now S56.sl) rfl)) ?_; refine FL.mv k60 ?_; obtain ⟨r74, hr75, hp⟩ := bnd hp; refine FL.c (E.call call137 (A2 rfl rfl)) (w_spec_l3Value S56.sl v72 x70 (h73.mono (i27.tr i57)) v1 a1 (p1.mono (i27.tr i57)) hr75) ?_; rintro e w76 ⟨rfl, r77⟩; refine ⟨_, rfl, ?_⟩; have S78 := S56.call r77; refine FL.v (E.lss rfl rfl) ?_; refine FL.nil ?_; rcases ifB hp with ⟨c79, hp⟩ | ⟨c79, hp⟩
   ·
    refine FW.condT rfl c79 ?_; refine FW.sr ?_; refine FL.mv k62 ?_; refine FL.as (v := vI s29) rfl ?_; refine FL.nil (FW.ret ?_); cases hp; exact ⟨nofun, rfl, ⟨.inr rfl, res1 rfl rfl ⟨rfl, S78.back⟩⟩⟩
   ·
    refine FW.condF rfl c79 ?_; refine FW.skip (FW.region ?_); refine FL.mv k62 ?_; refine FL.v (E.add rfl rfl) ?_; refine FL.as (v := vI (wr (s29 + 1))) rfl ?_; refine FL.nil ?_; cases hp; exact ⟨rfl, ⟨_, S78, i57, k60, k61, rfl⟩⟩
  ·
   refine FW.condF rfl c63 ?_; refine FW.exit ?_; cases hp; exact ⟨nofun, rfl, ⟨_, S56, i57⟩⟩
 ·
  clear hq; intro e f85 w84 hD; rcases q29 with s29 | x29
  ·
   obtain ⟨rfl, hD⟩ := hD; obtain ⟨H81, S82, i83⟩ := hD; replace hp := el_go hp; refine FW.sr ?_; refine FL.as (v := vI (-1)) rfl ?_; refine FL.nil (FW.ret ?_); cases hp; exact ⟨.inr rfl, res1 rfl rfl ⟨rfl, S82.back⟩⟩
  ·
   obtain ⟨he, hL⟩ := hD; replace hp := el_rt hp; cases hp; subst he; exact hL

@[reducible] def p_spec_l11Trail (Ha : GH) (wa : World) (r : ((List (Int × Int)) × Int)) : Ending → World → Prop :=
 fun e w' => ∃ H' : GH, ∃ v0 : Value, ∃ n0 : Nat, ∃ c0 : List Value, e = .returned (Value.tuple #[v0, vI r.2]) ∧ St Ha wa H' w' [.row 99 2 v0 n0 c0] ∧ Els (up wa.heap.size H') eI2 2 c0 r.1
theorem w_spec_l11Trail {Ha : GH} {wa : World} (hs : Sl Ha wa) (a0 : Cnf) (v0_1 : Value) (p0_1 : RSl Ha (eL eI 1) 1 v0_1 a0.clauses) (v1 : Value) (a1 : List (List Int)) (p1 : RSl Ha (eL eI 1) 1 v1 a1) (a2 : Int) {r : ((List (Int × Int)) × Int)} (hp : (PF.spec_l11Trail a0 a1 a2) = some r) :
  Calls prog 71 #[vA #[vI a0.vars, v0_1], v1, vI a2] wa (p_spec_l11Trail Ha wa r) := by
 unfold PF.spec_l11Trail at hp; have S0 := St.init hs; refine calls_go (N := 32) (args := [vA #[vI a0.vars, v0_1], v1, vI a2]) func71 rfl rfl rfl ?_; refine FW.sr ?_; obtain ⟨b21, w22, run23, S24⟩ := S0.box (P := prog) 28 [vI a0.vars, v0_1] (v := vA #[vI a0.vars, v0_1]) rfl (oC rfl (oC p0_1.one ones_nil)); refine FL.v (E.box rfl run23) ?_; obtain ⟨H25, S26, i27, at28⟩ := S24.sealBox (i := 0) (l' := []) rfl rfl; refine FL.as (v := vN) rfl ?_; refine FL.as (v := vI 0) rfl ?_; refine FL.nil (FW.seq ?_); obtain ⟨xs32, hc33, hp⟩ := bnd hp; obtain ⟨r37, hr38, hp⟩ := bnd hp; refine FW.drawB (Sl H25) (fun f w => ∃ H : GH, ∃ q56 : Addr, ∃ v58 : Value, St Ha wa H w [] ∧ Inc H25 H ∧ RSl H (eL eI 1) 1 v58 r37.clauses ∧ CAt H q56 [vI r37.vars, v58] ∧ f 1 = v1 ∧ f 2 = vI a2 ∧ f 8 = vP (q56)) (by kernel_rfl) S26.sl ?_ ?_
 ·
  intro w29 r30; have S31 := S26.call r30; refine FB.T 0 7 1 rfl S31.sl rfl (fun _ z => (E.load rfl (run_loadA isAgg28 sizeOf28 (at28.now z) rfl))) ?_; refine FB.T 1 7 3 rfl S31.sl rfl (fun _ z => (E.move (v := v1) rfl)) ?_; refine FB.T 2 7 7 rfl S31.sl rfl (fun _ z => (E.move (v := vI a2) rfl)) ?_; obtain ⟨v34, run35, h36⟩ := p1.cut te22 hc33 (lo := none) (hi := some (vI a2)) (.inl ⟨rfl, rfl⟩) (.inr ⟨_, rfl⟩); refine FB.T 3 7 15 rfl S31.sl rfl (fun _ z => (E.slice te22 rfl rfl (congrArg some rfl) rfl (run35 _))) ?_; refine FB.all2 (i := 4) (j := 5) (by kernel_rfl) ?_ ?_
  ·
   refine FC.call (l' := (bs 7 31)) rfl (by kernel_rfl) rfl rfl rfl (E.call call72 (A2 rfl rfl)) (w_spec_l11With S31.sl a0 v0_1 (p0_1.mono i27) v34 xs32 (h36.mono i27) hr38) ?_; rintro e w40 ⟨H39, v43, rfl, r42, h44⟩; refine ⟨_, rfl, ?_⟩; have S41 := S31.call r42; refine ⟨(SP.nil (Sl.of_inc r42.inc S41.sl)), ?_⟩; refine FB.all1 (i := 5) (by kernel_rfl) ?_
   ·
    obtain ⟨b45, w46, run47, S48⟩ := S41.alloc (P := prog) 28 [vI 0, vN] zeroValue28 rfl (oC rfl (oC rfl ones_nil)); refine FC.val (l' := (bs 7 63)) rfl (by kernel_rfl) rfl rfl rfl (E.alloc run47) ?_; refine ⟨(SP.nil (Sl.of_inc r42.inc S48.sl)), ?_⟩; refine FB.all1 (i := 6) (by kernel_rfl) ?_
    ·
     obtain ⟨w49, run50, S51⟩ := S48.store0 (P := prog) (t := 28) (i := 0) (cs' := [vI r37.vars, v43]) (l' := [.box b45 28 [vI r37.vars, v43]]) (v := vA #[vI r37.vars, v43]) (c := [vI r37.vars, v43]) rfl sizeOf28 rfl rfl (oC rfl (oC h44.one ones_nil)) (nB rfl) rfl rfl; refine FC.act (l' := (bs 7 127)) rfl (by kernel_rfl) rfl rfl (E.store rfl rfl run50) ?_; obtain ⟨H52, S53, i54, at55⟩ := S51.sealBox (i := 0) (l' := []) rfl rfl; refine ⟨(SP.nil (Sl.of_inc (r42.inc.tr i54) S53.sl)), ?_⟩; exact FB.done (by kernel_rfl) ⟨_, _, _, S53, (r42.inc.tr i54), (h44.mono i54), at55, rfl, rfl, rfl⟩
  ·
   obtain ⟨b45, w46, run47, S48⟩ := S31.alloc (P := prog) 28 [vI 0, vN] zeroValue28 rfl (oC rfl (oC rfl ones_nil)); refine FC.val (l' := (bs 7 47)) rfl (by kernel_rfl) rfl rfl rfl (E.alloc run47) ?_; refine ⟨(SP.nil S48.sl), ?_⟩; refine FB.all1 (i := 4) (by kernel_rfl) ?_
   ·
    refine FC.call (l' := (bs 7 63)) rfl (by kernel_rfl) rfl rfl rfl (E.call call72 (A2 rfl rfl)) (w_spec_l11With S48.sl a0 v0_1 (p0_1.mono i27) v34 xs32 (h36.mono i27) hr38) ?_; rintro e w40 ⟨H39, v43, rfl, r42, h44⟩; refine ⟨_, rfl, ?_⟩; have S41 := S48.call r42; refine ⟨(SP.nil (Sl.of_inc r42.inc S41.sl)), ?_⟩; refine FB.all1 (i := 6) (by kernel_rfl) ?_
    ·
     obtain ⟨w49, run50, S51⟩ := S41.store0 (P := prog) (t := 28) (i := 0) (cs' := [vI r37.vars, v43]) (l' := [.box b45 28 [vI r37.vars, v43]]) (v := vA #[vI r37.vars, v43]) (c := [vI r37.vars, v43]) rfl sizeOf28 rfl rfl (oC rfl (oC h44.one ones_nil)) (nB rfl) rfl rfl; refine FC.act (l' := (bs 7 127)) rfl (by kernel_rfl) rfl rfl (E.store rfl rfl run50) ?_; obtain ⟨H52, S53, i54, at55⟩ := S51.sealBox (i := 0) (l' := []) rfl rfl; refine ⟨(SP.nil (Sl.of_inc (r42.inc.tr i54) S53.sl)), ?_⟩; exact FB.done (by kernel_rfl) ⟨_, _, _, S53, (r42.inc.tr i54), (h44.mono i54), at55, rfl, rfl, rfl⟩
 ·
  rintro f64 w63 ⟨H60, q56, v58, S61, i62, h59, at57, k65, k66, k67⟩; refine FW.seq ?_; obtain ⟨x77, hx78, hp⟩ := bnd hp; obtain ⟨r81, hr82, hp⟩ := bnd hp; obtain ⟨r96, hr97, hp⟩ := bnd hp; refine FW.drawB (Sl H60) (fun f w => ∃ H : GH, ∃ v112 : Value, ∃ n113 : Nat, ∃ cs114 : List Value, ∃ v116 : Value, ∃ n117 : Nat, ∃ cs118 : List Value, St Ha wa H w [.row 99 2 v112 n113 cs114, .row 3 1 v116 n117 cs118] ∧ Inc H60 H ∧ Els (up wa.heap.size H) eI2 2 cs114 r96.1 ∧ Els (up wa.heap.size H) eI 1 cs118 r96.2.1 ∧ f 8 = vP (q56) ∧ f 9 = v112 ∧ f 10 = v116) (by kernel_rfl) S61.sl ?_ ?_
  ·
   intro w68 r69; have S70 := S61.call r69; refine FB.T 0 14 1 rfl S70.sl rfl (fun _ z => (E.load k67 (run_loadA isAgg28 sizeOf28 (at57.now z) rfl))) ?_; refine FB.T 1 14 3 rfl S70.sl rfl (fun _ z => (E.move k65)) ?_; refine FB.T 2 14 7 rfl S70.sl rfl (fun _ z => (E.move k66)) ?_; obtain ⟨p71, cs72, pt73, l74, at75, rel76⟩ := p1.at hx78; obtain ⟨v79, rfl, h80⟩ := eL_open rel76; refine FB.T 3 14 15 rfl S70.sl rfl (fun _ z => (E.indexAddr te22 rfl rfl pt73)) ?_; refine FB.T 4 14 31 rfl S70.sl rfl (fun _ z => (E.load rfl (run_load0 isAgg44 ((at75.mono (i27.tr i62)).now z) rfl))) ?_; refine FB.all1 (i := 5) (by kernel_rfl) ?_
   ·
    refine FC.call (l' := (bs 14 63)) rfl (by kernel_rfl) rfl rfl rfl (E.call call105 (A1 rfl)) (w_spec_l11Deny S70.sl v79 x77 (h80.mono (i27.tr i62)) hr82) ?_; rintro e w84 ⟨H83, v87, n88, cs89, rfl, r86, els90⟩; refine ⟨_, rfl, ?_⟩; have els90 := els90.mono (up_le S70.size); have S85 := S70.join (l' := [.row 3 1 v87 n88 cs89]) r86 rfl; refine ⟨(SP.nil (Sl.of_inc r86.run.inc S85.sl)), ?_⟩; refine FB.all1 (i := 6) (by kernel_rfl) ?_
    ·
     obtain ⟨H91, S92, i93, h94, nv95⟩ := S85.sealRowU (i := 0) (l' := []) rfl els90 (by decide) rfl; refine FC.call (l' := (bs 14 127)) rfl (by kernel_rfl) rfl rfl rfl (E.call call104 (A2 rfl rfl)) (w_spec_l3Steps S92.sl r37 v58 (h59.mono (r86.run.inc.tr i93)) v87 r81 (h94.mono upI) hr97) ?_; rintro e w99 ⟨H98, v104, n105, cs106, v108, n109, cs110, rfl, r101, els107, els111⟩; refine ⟨_, rfl, ?_⟩; obtain ⟨H102, r101, hU103⟩ := St.lendX i93 S85.sl r101; have els107 := els107.mono (hU103.tr (up_le S85.size)); have els111 := els111.mono (hU103.tr (up_le S85.size)); have S100 := S85.join (l' := [.row 99 2 v104 n105 cs106, .row 3 1 v108 n109 cs110, .row 3 1 v87 n88 cs89]) r101 rfl; refine ⟨(SP.nil (Sl.of_inc (r86.run.inc.tr r101.run.inc) S100.sl)), ?_⟩; refine FB.T 7 14 255 rfl (Sl.of_inc (r86.run.inc.tr r101.run.inc) S100.sl) rfl (fun _ z => (E.move (v := Value.tuple #[v104, v108, vB r96.2.2]) rfl)) ?_; refine FB.T 8 14 511 rfl (Sl.of_inc (r86.run.inc.tr r101.run.inc) S100.sl) rfl (fun _ z => (E.extract (i := 0) rfl rfl)) ?_; refine FB.T 9 14 1023 rfl (Sl.of_inc (r86.run.inc.tr r101.run.inc) S100.sl) rfl (fun _ z => (E.extract (i := 1) rfl rfl)) ?_; refine FB.T 10 14 2047 rfl (Sl.of_inc (r86.run.inc.tr r101.run.inc) S100.sl) rfl (fun _ z => (E.extract (i := 2) rfl rfl)) ?_; refine FB.T 11 14 4095 rfl (Sl.of_inc (r86.run.inc.tr r101.run.inc) S100.sl) rfl (fun _ z => (E.assign (v := v104) rfl)) ?_; refine FB.T 12 14 8191 rfl (Sl.of_inc (r86.run.inc.tr r101.run.inc) S100.sl) rfl (fun _ z => (E.assign (v := v108) rfl)) ?_; refine FB.T 13 14 16383 rfl (Sl.of_inc (r86.run.inc.tr r101.run.inc) S100.sl) rfl (fun _ z => (E.assign (v := vB r96.2.2) rfl)) ?_; exact FB.done (by kernel_rfl) ⟨_, _, _, _, _, _, _, (S100.sel [0, 1] (by decide) rfl), (r86.run.inc.tr r101.run.inc), els107, els111, k67, rfl, rfl⟩
  ·
   rintro f124 w123 ⟨H120, v112, n113, cs114, v116, n117, cs118, S121, i122, els115, els119, k125, k126, k127⟩; refine FW.sr ?_; refine FL.mv k126 ?_; refine FL.v (E.load k125 (run_loadA isAgg28 sizeOf28 ((at57.mono i122).now S121.sl) rfl)) ?_; refine FL.mv k127 ?_; obtain ⟨H128, S129, i130, h131, nv132⟩ := S121.sealRowU (i := 1) (l' := [.row 99 2 v112 n113 cs114]) rfl els119 (by decide) rfl; obtain ⟨r133, hr134, hp⟩ := bnd hp; refine FL.c (E.call call106 (A2 rfl rfl)) (w_spec_l9False S129.sl r37 v58 (h59.mono (i122.tr i130)) v116 r96.2.1 (h131.mono upI) hr134) ?_; rintro e w135 ⟨rfl, r136⟩; refine ⟨_, rfl, ?_⟩; have r136 := Run.lend i130 S121.sl r136; have S137 := S121.call r136; refine FL.as (v := v112) rfl ?_; refine FL.as (v := vI r133) rfl ?_; refine FL.nil (FW.ret ?_); cases hp; exact ⟨.inr rfl, res2 rfl rfl rfl ⟨_, _, _, _, rfl, (S137.sel [0] (by decide) rfl), els115⟩⟩

@[reducible] def p_spec_l2Join (Ha : GH) (wa : World) (r : ((List Int) × Bool)) : Ending → World → Prop :=
 fun e w' => ∃ H' : GH, ∃ v0 : Value, ∃ n0 : Nat, ∃ c0 : List Value, e = .returned (Value.tuple #[v0, vB r.2]) ∧ St Ha wa H' w' [.row 3 1 v0 n0 c0] ∧ Els (up wa.heap.size H') eI 1 c0 r.1
theorem w_spec_l2Join {Ha : GH} {wa : World} (hs : Sl Ha wa) (v0 : Value) (a0 : List Int) (p0 : RSl Ha eI 1 v0 a0) (v1 : Value) (a1 : List Int) (p1 : RSl Ha eI 1 v1 a1) {r : ((List Int) × Bool)} (hp : (PF.spec_l2Join a0 a1) = some r) :
  Calls prog 108 #[v0, v1] wa (p_spec_l2Join Ha wa r) := by
 unfold PF.spec_l2Join at hp; have S0 := St.init hs; refine calls_go (N := 38) (args := [v0, v1]) func108 rfl rfl rfl ?_; refine FW.sr ?_; refine FL.as (v := vN) rfl ?_; refine FL.as (v := vB false) rfl ?_; refine FL.nil (FW.sr ?_); refine FL.mv (v := v0) rfl ?_; obtain ⟨r21, hr22, hp⟩ := bnd hp; refine FL.c (E.call call64 (A1 rfl)) (w_spec_l1Own S0.sl v0 a0 p0 hr22) ?_; rintro e w24 ⟨H23, v27, n28, cs29, rfl, r26, els30⟩; refine ⟨_, rfl, ?_⟩; have els30 := els30.mono (up_le S0.size); have S25 := S0.join (l' := [.row 3 1 v27 n28 cs29]) r26 rfl; refine FL.as (v := v27) rfl ?_; refine FL.nil (FW.seq (FW.sr ?_)); refine FL.as (v := vI 0) rfl ?_; refine FL.nil ?_; obtain ⟨q32, hq, hp⟩ := bndR hp; refine FW.block ?_; refine FW.mono (FW.forL (S := (List Int)) (X := ((List Int) × Bool)) (fun (i32 : Nat) (s32 : (List Int)) f w => ∃ H : GH, ∃ v107 : Value, ∃ n108 : Nat, ∃ cs109 : List Value, St Ha wa H w [.row 3 1 v107 n108 cs109] ∧ Inc H23 H ∧ Els (up wa.heap.size H) eI 1 cs109 s32 ∧ f 7 = vI ((i32 : Nat) : Int) ∧ f 1 = v1 ∧ f 6 = v107) (fun q e f w => match q with | .go s32 => e = Exit.exit 0 ∧ (∃ H : GH, ∃ v107 : Value, ∃ n108 : Nat, ∃ cs109 : List Value, St Ha wa H w [.row 3 1 v107 n108 cs109] ∧ Inc H23 H ∧ Els (up wa.heap.size H) eI 1 cs109 s32 ∧ f 6 = v107) | .rt x => ((e = Exit.ret) ∧ (fun e f w => (e = Exit.normal ∨ e = Exit.ret) ∧ ∀ a, Fr (δ := []) 38 a f → ∃ v, (results Tryz.f108 a.tmps).run prog w = .ok v w ∧ (p_spec_l2Join Ha wa x) (.returned v) w) e f w)) hq ⟨_, _, _, _, S25, I0, els30, rfl, rfl, rfl⟩ ?_ ?_) ?_
 ·
  clear hp hq; rintro i32 y31 s32 f185 w184 ⟨H181, v107, n108, cs109, S182, i183, els110, k186, k187, k188⟩ hx32 o251 hp; refine FW.seq (FW.sr ?_); refine FL.mv k186 ?_; refine FL.mv k187 ?_; refine FL.v (E.lenP te44 rfl p1) ?_; refine FL.v (E.lssT rfl rfl (lss_len hx32)) ?_; refine FL.nil ?_; refine FW.condT rfl rfl ?_; refine FW.skip (FW.seq (FW.block (FW.seq (FW.sr ?_)))); refine FL.mv k188 ?_; refine FL.mv k187 ?_; refine FL.mv k186 ?_; obtain ⟨p189, cs190, pt191, l192, at193, rel194⟩ := p1.at (ix_nat hx32); obtain rfl := eI_open rel194; refine FL.v (E.indexAddr te44 rfl rfl pt191) ?_; refine FL.v (E.load rfl (run_load0 isAgg3 ((at193.mono (r26.run.inc.tr i183)).now S182.sl) rfl)) ?_; refine FL.v (E.neg rfl) ?_; obtain ⟨H195, S196, i197, h198, nv199⟩ := S182.sealRowU (i := 0) (l' := []) rfl els110 (by decide) rfl; obtain ⟨r200, hr201, hp⟩ := bnd hp; refine FL.c (E.call call73 (A2 rfl rfl)) (w_spec_l2Has S196.sl v107 s32 (h198.mono upI) (wr (-y31)) hr201) ?_; rintro e w202 ⟨rfl, r203⟩; refine ⟨_, rfl, ?_⟩; have r203 := Run.lend i197 S182.sl r203; have S204 := S182.call r203; refine FL.nil ?_; rcases ifB hp with ⟨c205, hp⟩ | ⟨c205, hp⟩
  ·
   refine FW.condT rfl c205 ?_; refine FW.sr ?_; obtain ⟨v206, w207, run208, S209⟩ := S204.buildSlice (P := prog) te44 [] (parts := #[]) (cells := []) rfl szs_nil fc_nil ones_nil (nB rfl); have els210 : Els (up wa.heap.size H181) eI 1 [] [] := Els.nil; refine FL.v (E.buildSlice (B0) run208) ?_; refine FL.as (v := v206) rfl ?_; refine FL.as (v := vB false) rfl ?_; refine FL.nil (FW.ret ?_); cases hp; exact ⟨nofun, rfl, ⟨.inr rfl, res2 rfl rfl rfl ⟨_, _, _, _, rfl, (S209.sel [0] (by decide) rfl), els210⟩⟩⟩
  ·
   refine FW.condF rfl c205 ?_; refine FW.skip (FW.sr ?_); refine FL.mv k188 ?_; refine FL.mv k187 ?_; refine FL.mv k186 ?_; obtain ⟨p211, cs212, pt213, l214, at215, rel216⟩ := p1.at (ix_nat hx32); obtain rfl := eI_open rel216; refine FL.v (E.indexAddr te44 rfl rfl pt213) ?_; refine FL.v (E.load rfl (run_load0 isAgg3 ((at215.mono (r26.run.inc.tr i183)).now S204.sl) rfl)) ?_; obtain ⟨H217, S218, i219, h220, nv221⟩ := S204.sealRowU (i := 0) (l' := []) rfl els110 (by decide) rfl; obtain ⟨r222, hr223, hp⟩ := bnd hp; refine FL.c (E.call call73 (A2 rfl rfl)) (w_spec_l2Has S218.sl v107 s32 (h220.mono upI) y31 hr223) ?_; rintro e w224 ⟨rfl, r225⟩; refine ⟨_, rfl, ?_⟩; have r225 := Run.lend i219 S204.sl r225; have S226 := S204.call r225; refine FL.v (E.not rfl) ?_; refine FL.nil ?_; rcases ifB hp with ⟨c227, hp⟩ | ⟨c227, hp⟩
   ·
    refine FW.condT rfl c227 ?_; refine FW.region ?_; refine FL.mv k188 ?_; refine FL.mv k187 ?_; refine FL.mv k186 ?_; obtain ⟨p228, cs229, pt230, l231, at232, rel233⟩ := p1.at (ix_nat hx32); obtain rfl := eI_open rel233; refine FL.v (E.indexAddr te44 rfl rfl pt230) ?_; refine FL.v (E.load rfl (run_load0 isAgg3 ((at232.mono (r26.run.inc.tr i183)).now S226.sl) rfl)) ?_; obtain ⟨H234, S235, i236, h237, nv238⟩ := S226.sealRowU (i := 0) (l' := []) rfl els110 (by decide) rfl; obtain ⟨r239, hr240, hp⟩ := bnd hp; refine FL.c (E.call call138 (A2 rfl rfl)) (w_spec_l2Put S235.sl v107 s32 (h237.mono upI) y31 hr240) ?_; rintro e w242 ⟨H241, v247, n248, cs249, rfl, r244, els250⟩; refine ⟨_, rfl, ?_⟩; obtain ⟨H245, r244, hU246⟩ := St.lendX i236 S226.sl r244; have els250 := els250.mono (hU246.tr (up_le S226.size)); have S243 := S226.join (l' := [.row 3 1 v247 n248 cs249, .row 3 1 v107 n108 cs109]) r244 rfl; refine FL.as (v := v247) rfl ?_; refine FL.nil (FW.region ?_); refine FL.mv k186 ?_; refine FL.v (E.add rfl rfl) ?_; refine FL.as (v := vI (wr (((i32 : Nat) : Int) + 1))) rfl ?_; refine FL.nil ?_; cases hp; exact ⟨rfl, ⟨_, _, _, _, (S243.sel [0] (by decide) rfl), (i183.tr r244.run.inc), els250, (nat_succ rfl (lt_of_get hx32) (p1.mono ((r26.run.inc.tr i183).tr r244.run.inc)).le), k187, rfl⟩⟩
   ·
    refine FW.condF rfl c227 ?_; refine FW.skip (FW.region ?_); refine FL.mv k186 ?_; refine FL.v (E.add rfl rfl) ?_; refine FL.as (v := vI (wr (((i32 : Nat) : Int) + 1))) rfl ?_; refine FL.nil ?_; cases hp; exact ⟨rfl, ⟨_, _, _, _, S226, i183, els110, (nat_succ rfl (lt_of_get hx32) (p1.mono (r26.run.inc.tr i183)).le), k187, k188⟩⟩
 ·
  clear hp hq; rintro s32 f262 w261 ⟨H258, v107, n108, cs109, S259, i260, els110, k263, k264, k265⟩; refine FW.seq (FW.sr ?_); refine FL.mv k263 ?_; refine FL.mv k264 ?_; refine FL.v (E.lenP te44 rfl p1) ?_; refine FL.v (E.lss rfl rfl) ?_; refine FL.nil ?_; refine FW.condF rfl dlt_len ?_; refine FW.exit ?_; exact ⟨nofun, rfl, ⟨_, _, _, _, S259, i260, els110, k265⟩⟩
 ·
  clear hq; intro e f256 w255 hD; rcases q32 with s32 | x32
  ·
   obtain ⟨rfl, hD⟩ := hD; obtain ⟨H252, v107, n108, cs109, S253, i254, els110, k257⟩ := hD; replace hp := el_go hp; refine FW.sr ?_; refine FL.mv k257 ?_; refine FL.as (v := v107) rfl ?_; refine FL.as (v := vB true) rfl ?_; refine FL.nil (FW.ret ?_); cases hp; exact ⟨.inr rfl, res2 rfl rfl rfl ⟨_, _, _, _, rfl, S253, els110⟩⟩
  ·
   obtain ⟨he, hL⟩ := hD; replace hp := el_rt hp; cases hp; subst he; exact hL

@[reducible] def p_spec_l2Resolve (Ha : GH) (wa : World) (r : ((List Int) × Bool)) : Ending → World → Prop :=
 fun e w' => ∃ H' : GH, ∃ v0 : Value, ∃ n0 : Nat, ∃ c0 : List Value, e = .returned (Value.tuple #[v0, vB r.2]) ∧ St Ha wa H' w' [.row 3 1 v0 n0 c0] ∧ Els (up wa.heap.size H') eI 1 c0 r.1
theorem w_spec_l2Resolve {Ha : GH} {wa : World} (hs : Sl Ha wa) (v0 : Value) (a0 : List Int) (p0 : RSl Ha eI 1 v0 a0) (v1 : Value) (a1 : List Int) (p1 : RSl Ha eI 1 v1 a1) (a2 : Int) {r : ((List Int) × Bool)} (hp : (PF.spec_l2Resolve a0 a1 a2) = some r) :
  Calls prog 74 #[v0, v1, vI a2] wa (p_spec_l2Resolve Ha wa r) := by
 unfold PF.spec_l2Resolve at hp; have S0 := St.init hs; refine calls_go (N := 29) (args := [v0, v1, vI a2]) func74 rfl rfl rfl ?_; refine FW.sr ?_; refine FL.as (v := vN) rfl ?_; refine FL.as (v := vB false) rfl ?_; refine FL.nil (FW.seq (FW.sr ?_)); refine FL.mv (v := v0) rfl ?_; refine FL.mv (v := vI a2) rfl ?_; obtain ⟨r21, hr22, hp⟩ := bnd hp; refine FL.c (E.call call73 (A2 rfl rfl)) (w_spec_l2Has S0.sl v0 a0 p0 a2 hr22) ?_; rintro e w23 ⟨rfl, r24⟩; refine ⟨_, rfl, ?_⟩; have S25 := S0.call r24; refine FL.v (E.not rfl) ?_; refine FL.mv (v := vB (!r21)) rfl ?_; obtain ⟨t31, hqt31, hp⟩ := bnd hp; refine FL.cut 6 (fun f w => ∃ H : GH, St Ha wa H w [] ∧ Inc Ha H ∧ f 0 = v0 ∧ f 1 = v1 ∧ f 2 = vI a2 ∧ f 18 = vB t31) ?_ ?_
 ·
  clear hp; have hp := hqt31; clear hqt31; rcases ifB hp with ⟨c37, hp⟩ | ⟨c37, hp⟩
  ·
   refine FL.skip (wN c37) rfl ?_; refine FL.skip (wN c37) rfl ?_; refine FL.skip (wN c37) rfl ?_; refine FL.skip (wN c37) rfl ?_; refine FL.skip (wN c37) rfl ?_; cases hp; refine FL.v (E.pickT rfl c37 rfl) ?_; exact FL.nil ⟨rfl, _, S25, I0, rfl, rfl, rfl, rfl⟩
  ·
   refine FL.y (wY c37) (E.move (v := v1) rfl) ?_; refine FL.y (wY c37) (E.move (v := vI a2) rfl) ?_; refine FL.y (wY c37) (E.neg rfl) ?_; obtain ⟨r38, hr39, hp⟩ := bnd hp; refine FL.call (wY c37) rfl rfl (E.call call73 (A2 rfl rfl)) (w_spec_l2Has S25.sl v1 a1 p1 (wr (-a2)) hr39) ?_; rintro e w40 ⟨rfl, r41⟩; refine ⟨_, rfl, ?_⟩; have S42 := S25.call r41; refine FL.y (wY c37) (E.not rfl) ?_; cases hp; refine FL.v (E.pickF rfl c37 rfl) ?_; exact FL.nil ⟨rfl, _, S42, I0, rfl, rfl, rfl, rfl⟩
 rintro f36 w35 ⟨H32, S33, i34, k43, k44, k45, k46⟩; refine FL.nil ?_; rcases ifB hp with ⟨c47, hp⟩ | ⟨c47, hp⟩
 ·
  refine FW.condT k46 c47 ?_; refine FW.sr ?_; obtain ⟨v48, w49, run50, S51⟩ := S33.buildSlice (P := prog) te44 [] (parts := #[]) (cells := []) rfl szs_nil fc_nil ones_nil (nB rfl); have els52 : Els (up wa.heap.size H32) eI 1 [] [] := Els.nil; refine FL.v (E.buildSlice (B0) run50) ?_; refine FL.as (v := v48) rfl ?_; refine FL.as (v := vB false) rfl ?_; refine FL.nil (FW.ret ?_); cases hp; exact ⟨.inr rfl, res2 rfl rfl rfl ⟨_, _, _, _, rfl, S51, els52⟩⟩
 ·
  refine FW.condF k46 c47 ?_; refine FW.skip (FW.sr ?_); refine FL.mv k43 ?_; refine FL.mv k45 ?_; obtain ⟨r53, hr54, hp⟩ := bnd hp; refine FL.c (E.call call109 (A2 rfl rfl)) (w_spec_l2Without S33.sl v0 a0 (p0.mono i34) a2 hr54) ?_; rintro e w56 ⟨H55, v59, n60, cs61, rfl, r58, els62⟩; refine ⟨_, rfl, ?_⟩; have els62 := els62.mono (up_le S33.size); have S57 := S33.join (l' := [.row 3 1 v59 n60 cs61]) r58 rfl; refine FL.mv k44 ?_; refine FL.mv k45 ?_; obtain ⟨r63, hr64, hp⟩ := bnd hp; refine FL.c (E.call call109 (A2 rfl rfl)) (w_spec_l2Without S57.sl v1 a1 (p1.mono (i34.tr r58.run.inc)) a2 hr64) ?_; rintro e w66 ⟨H65, v69, n70, cs71, rfl, r68, els72⟩; refine ⟨_, rfl, ?_⟩; have els72 := els72.mono (up_le S57.size); have S67 := S57.join (l' := [.row 3 1 v69 n70 cs71, .row 3 1 v59 n60 cs61]) r68 rfl; obtain ⟨H73, S74, i75, h76, nv77⟩ := S67.sealRowU (i := 1) (l' := [.row 3 1 v69 n70 cs71]) rfl (els62.mono (up_mono r68.run.inc)) (by decide) rfl; obtain ⟨H78, S79, i80, h81, nv82⟩ := S74.sealRowU (i := 0) (l' := []) rfl (els72.mono (up_mono i75)) (by decide) rfl; obtain ⟨r83, hr84, hp⟩ := bnd hp; refine FL.c (E.call call108 (A2 rfl rfl)) (w_spec_l2Join S79.sl v59 r53 (h76.mono (upI.tr i80)) v69 r63 (h81.mono upI) hr84) ?_; rintro e w86 ⟨H85, v91, n92, cs93, rfl, r88, els94⟩; refine ⟨_, rfl, ?_⟩; obtain ⟨H89, r88, hU90⟩ := St.lendX (i75.tr i80) S67.sl r88; have els94 := els94.mono (hU90.tr (up_le S67.size)); have S87 := S67.join (l' := [.row 3 1 v91 n92 cs93, .row 3 1 v69 n70 cs71, .row 3 1 v59 n60 cs61]) r88 rfl; refine FL.v (E.extract (i := 0) rfl rfl) ?_; refine FL.v (E.extract (i := 1) rfl rfl) ?_; refine FL.as (v := v91) rfl ?_; refine FL.as (v := vB r83.2) rfl ?_; refine FL.nil (FW.ret ?_); cases hp; exact ⟨.inr rfl, res2 rfl rfl rfl ⟨_, _, _, _, rfl, (S87.sel [0] (by decide) rfl), els94⟩⟩

@[reducible] def p_spec_l11Analyse (Ha : GH) (wa : World) (r : (Int × (List l11Use))) : Ending → World → Prop :=
  fun e w' => ∃ H' : GH, ∃ v1 : Value, ∃ n1 : Nat, ∃ c1 : List Value, e = .returned (Value.tuple #[vI r.1, v1]) ∧ St Ha wa H' w' [.row 105 3 v1 n1 c1] ∧ Els (up wa.heap.size H') el11Use 3 c1 r.2 ∧ (bl c1).Nodup
set_option maxHeartbeats 4000000 in
theorem w_spec_l11Analyse {Ha : GH} {wa : World} (hs : Sl Ha wa) (a0 : Cnf) (v0_1 : Value) (p0_1 : RSl Ha (eL eI 1) 1 v0_1 a0.clauses) (v1 : Value) (a1 : List (List Int)) (p1 : RSl Ha (eL eI 1) 1 v1 a1) (a2 : Int) {r : (Int × (List l11Use))} (hp : (PF.spec_l11Analyse a0 a1 a2) = some r) :
    Calls prog 48 #[vA #[vI a0.vars, v0_1], v1, vI a2] wa (p_spec_l11Analyse Ha wa r) := by
  unfold PF.spec_l11Analyse at hp
  have S0 := St.init hs
  refine calls_go (N := 91) (args := [vA #[vI a0.vars, v0_1], v1, vI a2]) Tryz.func48 rfl rfl rfl ?_
  refine FW.seq (FW.region ?_)
  obtain ⟨b21, w22, run23, S24⟩ := S0.box (P := prog) 28 [vI a0.vars, v0_1] (v := vA #[vI a0.vars, v0_1]) rfl (ones_cons rfl (ones_cons p0_1.one ones_nil))
  refine FL.v (E.box rfl run23) ?_
  obtain ⟨H25, S26, i27, at28⟩ := S24.sealBox (i := 0) (l' := []) rfl rfl
  refine FL.v (E.assign (v := vI 0) rfl) ?_
  refine FL.v (E.assign (v := vN) rfl) ?_
  refine FL.nil (FW.seq (FW.region ?_))
  refine FL.v (E.load rfl (run_loadA Tryz.isAgg28 Tryz.sizeOf28 (at28.now S26.sl) rfl)) ?_
  refine FL.v (E.move (v := v1) rfl) ?_
  refine FL.v (E.move (v := vI a2) rfl) ?_
  obtain ⟨r29, hr30, hp⟩ := bnd hp
  refine FL.call rfl rfl rfl (E.call Tryz.call71 (A3 rfl rfl rfl)) (w_spec_l11Trail S26.sl a0 v0_1 (p0_1.mono i27) v1 a1 (p1.mono i27) a2 hr30) ?_
  rintro e w32 ⟨H31, v35, n36, cs37, rfl, r34, els38⟩
  refine ⟨_, rfl, ?_⟩
  have els38 := els38.mono (up_le S26.size)
  have S33 := S26.join (l' := [.row 99 2 v35 n36 cs37]) r34 rfl
  refine FL.v (E.move (v := Value.tuple #[v35, vI r29.2]) rfl) ?_
  refine FL.v (E.extract (i := 0) rfl rfl) ?_
  refine FL.v (E.extract (i := 1) rfl rfl) ?_
  refine FL.v (E.assign (v := v35) rfl) ?_
  refine FL.v (E.assign (v := vI r29.2) rfl) ?_
  refine FL.nil (FW.seq ?_)
  obtain ⟨xs42, hc43, hp⟩ := bnd hp
  obtain ⟨r47, hr48, hp⟩ := bnd hp
  refine FW.drawB (Sl H31) (fun f w => ∃ H : GH, ∃ q66 : Addr, ∃ v68 : Value, St Ha wa H w [.row 99 2 v35 n36 cs37] ∧ Inc H31 H ∧ RSl H (eL eI 1) 1 v68 r47.clauses ∧ CAt H q66 [vI r47.vars, v68] ∧ f 8 = v35 ∧ f 9 = vI r29.2 ∧ f 10 = vP (q66)) (by kernel_rfl) S33.sl ?_ ?_
  ·
    intro w39 r40
    have S41 := S33.call r40
    refine FB.t (i := 0) (bs 7 1) rfl (SP.nil S41.sl) rfl (fun _ z => (E.load rfl (run_loadA Tryz.isAgg28 Tryz.sizeOf28 ((at28.mono r34.run.inc).now z) rfl))) ?_
    refine FB.t (i := 1) (bs 7 3) rfl (SP.nil S41.sl) rfl (fun _ z => (E.move (v := v1) rfl)) ?_
    refine FB.t (i := 2) (bs 7 7) rfl (SP.nil S41.sl) rfl (fun _ z => (E.move (v := vI a2) rfl)) ?_
    obtain ⟨v44, run45, h46⟩ := p1.cut te22 hc43 (lo := none) (hi := some (vI a2)) (.inl ⟨rfl, rfl⟩) (.inr ⟨_, rfl⟩)
    refine FB.t (i := 3) (bs 7 15) rfl (SP.nil S41.sl) rfl (fun _ z => (E.slice te22 rfl rfl (congrArg some rfl) rfl (run45 _))) ?_
    refine FB.all2 (i := 4) (j := 5) (by kernel_rfl) ?_ ?_
    ·
      refine FC.call (l' := (bs 7 31)) rfl (by kernel_rfl) rfl rfl rfl (E.call Tryz.call72 (A2 rfl rfl)) (w_spec_l11With S41.sl a0 v0_1 (p0_1.mono (i27.tr r34.run.inc)) v44 xs42 (h46.mono (i27.tr r34.run.inc)) hr48) ?_
      rintro e w50 ⟨H49, v53, rfl, r52, h54⟩
      refine ⟨_, rfl, ?_⟩
      have S51 := S41.call r52
      refine ⟨(SP.nil (Sl.of_inc r52.inc S51.sl)), ?_⟩
      refine FB.all1 (i := 5) (by kernel_rfl) ?_
      ·
        obtain ⟨b55, w56, run57, S58⟩ := S51.alloc (P := prog) 28 [vI 0, vN] Tryz.zeroValue28 rfl (ones_cons rfl (ones_cons rfl ones_nil))
        refine FC.val (l' := (bs 7 63)) rfl (by kernel_rfl) rfl rfl rfl (E.alloc run57) ?_
        refine ⟨(SP.nil (Sl.of_inc r52.inc S58.sl)), ?_⟩
        refine FB.all1 (i := 6) (by kernel_rfl) ?_
        ·
          obtain ⟨w59, run60, S61⟩ := S58.store0 (P := prog) (t := 28) (i := 0) (cs' := [vI r47.vars, v53]) (l' := [.box b55 28 [vI r47.vars, v53], .row 99 2 v35 n36 cs37]) (v := vA #[vI r47.vars, v53]) (c := [vI r47.vars, v53]) rfl Tryz.sizeOf28 rfl rfl (ones_cons rfl (ones_cons h54.one ones_nil)) (Nat.le_of_ble_eq_true rfl) rfl rfl
          refine FC.act (l' := (bs 7 127)) rfl (by kernel_rfl) rfl rfl (E.store rfl rfl run60) ?_
          obtain ⟨H62, S63, i64, at65⟩ := S61.sealBox (i := 0) (l' := [.row 99 2 v35 n36 cs37]) rfl rfl
          refine ⟨(SP.nil (Sl.of_inc (r52.inc.tr i64) S63.sl)), ?_⟩
          exact FB.done (by kernel_rfl) ⟨_, _, _, S63, (r52.inc.tr i64), (h54.mono i64), at65, rfl, rfl, rfl⟩
    ·
      obtain ⟨b55, w56, run57, S58⟩ := S41.alloc (P := prog) 28 [vI 0, vN] Tryz.zeroValue28 rfl (ones_cons rfl (ones_cons rfl ones_nil))
      refine FC.val (l' := (bs 7 47)) rfl (by kernel_rfl) rfl rfl rfl (E.alloc run57) ?_
      refine ⟨(SP.nil S58.sl), ?_⟩
      refine FB.all1 (i := 4) (by kernel_rfl) ?_
      ·
        refine FC.call (l' := (bs 7 63)) rfl (by kernel_rfl) rfl rfl rfl (E.call Tryz.call72 (A2 rfl rfl)) (w_spec_l11With S58.sl a0 v0_1 (p0_1.mono (i27.tr r34.run.inc)) v44 xs42 (h46.mono (i27.tr r34.run.inc)) hr48) ?_
        rintro e w50 ⟨H49, v53, rfl, r52, h54⟩
        refine ⟨_, rfl, ?_⟩
        have S51 := S58.call r52
        refine ⟨(SP.nil (Sl.of_inc r52.inc S51.sl)), ?_⟩
        refine FB.all1 (i := 6) (by kernel_rfl) ?_
        ·
          obtain ⟨w59, run60, S61⟩ := S51.store0 (P := prog) (t := 28) (i := 0) (cs' := [vI r47.vars, v53]) (l' := [.box b55 28 [vI r47.vars, v53], .row 99 2 v35 n36 cs37]) (v := vA #[vI r47.vars, v53]) (c := [vI r47.vars, v53]) rfl Tryz.sizeOf28 rfl rfl (ones_cons rfl (ones_cons h54.one ones_nil)) (Nat.le_of_ble_eq_true rfl) rfl rfl
          refine FC.act (l' := (bs 7 127)) rfl (by kernel_rfl) rfl rfl (E.store rfl rfl run60) ?_
          obtain ⟨H62, S63, i64, at65⟩ := S61.sealBox (i := 0) (l' := [.row 99 2 v35 n36 cs37]) rfl rfl
          refine ⟨(SP.nil (Sl.of_inc (r52.inc.tr i64) S63.sl)), ?_⟩
          exact FB.done (by kernel_rfl) ⟨_, _, _, S63, (r52.inc.tr i64), (h54.mono i64), at65, rfl, rfl, rfl⟩
  ·
    rintro f75 w74 ⟨H71, q66, v68, S72, i73, h70, at67, k76, k77, k78⟩
    refine FW.seq (FW.region ?_)
    refine FL.v (E.fieldAddr tf28_1 k78) ?_
    refine FL.v (E.load rfl (run_load1 Tryz.isAgg22 (at67.now S72.sl) rfl)) ?_
    refine FL.v (E.move k77) ?_
    obtain ⟨x85, hx86, hp⟩ := bnd hp
    obtain ⟨p79, cs80, pt81, l82, at83, rel84⟩ := h70.at hx86
    obtain ⟨v87, rfl, h88⟩ := eL_open rel84
    refine FL.v (E.indexAddr te22 rfl rfl pt81) ?_
    refine FL.v (E.load rfl (run_load0 Tryz.isAgg44 (at83.now S72.sl) rfl)) ?_
    obtain ⟨v89, w90, run91, S92⟩ := S72.buildSlice (P := prog) te69 [] (parts := #[]) (cells := []) rfl szs_nil fc_nil ones_nil (Nat.le_of_ble_eq_true rfl)
    have els93 : Els (up wa.heap.size H71) el11Use 3 [] [] := Els.nil
    refine FL.v (E.buildSlice (B0) run91) ?_
    refine FL.v (E.assign (v := v87) rfl) ?_
    refine FL.v (E.assign (v := v89) rfl) ?_
    refine FL.nil (FW.seq (FW.seq (FW.region ?_)))
    refine FL.v (E.move k76) ?_
    refine FL.v (E.lenO te95 rfl S92 (i := 1) rfl els38 (by decide)) ?_
    refine FL.v (E.sub rfl rfl) ?_
    refine FL.v (E.assign (v := vI (wr ((len r29.1) - 1))) rfl) ?_
    refine FL.nil ?_
    obtain ⟨q94, hq, hp⟩ := bndR hp
    refine FW.block ?_
    refine FW.mono (FW.iter (S := ((List l11Use) × (List Int) × Int)) (X := Empty) (fun (s94 : ((List l11Use) × (List Int) × Int)) f w => ∃ H : GH, ∃ v96 : Value, ∃ n97 : Nat, ∃ cs98 : List Value, ∃ v101 : Value, St Ha wa H w [.row 105 3 v96 n97 cs98, .row 99 2 v35 n36 cs37] ∧ Inc H71 H ∧ Els (up wa.heap.size H) el11Use 3 cs98 s94.1 ∧ RSl H eI 1 v101 s94.2.1 ∧ (bl cs98).Nodup ∧ f 8 = v35 ∧ f 9 = vI r29.2 ∧ f 10 = vP (q66) ∧ f 11 = v101 ∧ f 12 = v96 ∧ f 13 = vI s94.2.2) (fun (q : Rs ((List l11Use) × (List Int) × Int) Empty) e f w => match q with | .go s94 => e = Exit.exit 0 ∧ (∃ H : GH, ∃ v96 : Value, ∃ n97 : Nat, ∃ cs98 : List Value, ∃ v101 : Value, St Ha wa H w [.row 105 3 v96 n97 cs98, .row 99 2 v35 n36 cs37] ∧ Inc H71 H ∧ Els (up wa.heap.size H) el11Use 3 cs98 s94.1 ∧ RSl H eI 1 v101 s94.2.1 ∧ (bl cs98).Nodup ∧ f 9 = vI r29.2 ∧ f 12 = v96) | .rt x => x.elim) hq ⟨_, _, _, _, _, S92, (Inc.rfl _), els93, h88, (show (bl []).Nodup from List.nodup_nil), k76, k77, k78, rfl, rfl, rfl⟩ ?_) ?_
    ·
      clear hp hq
      rintro s94 f107 w106 ⟨H103, v96, n97, cs98, v101, S104, i105, els99, h102, nd100, k108, k109, k110, k111, k112, k113⟩ o233 hp
      refine FW.seq (FW.seq (FW.region ?_))
      refine FL.v (E.move k113) ?_
      refine FL.v (E.geq rfl rfl) ?_
      refine FL.nil ?_
      rcases ifB hp with ⟨c114, hp⟩ | ⟨c114, hp⟩
      ·
        refine FW.condT rfl c114 ?_
        refine FW.skip (FW.seq (FW.block (FW.seq ?_)))
        refine FW.draw (fun w' => Run w106.heap.size H103 w106 H103 w') (by kernel_rfl) (by kernel_rfl) (run_drew S104.sl) ?_
        refine FD.val rfl rfl rfl (fun _ z => (E.move k108)) ?_
        refine FD.val rfl rfl rfl (fun _ z => (E.move k113)) ?_
        obtain ⟨x121, hx122, hp⟩ := bnd hp
        obtain ⟨p115, cs116, pt117, l118, at119, rel120⟩ := S104.row_at (i := 1) rfl els38 (by decide) hx122
        obtain rfl := eI2_open rel120
        refine FD.val rfl rfl rfl (fun _ z => (E.indexAddr te95 rfl rfl pt117)) ?_
        refine FD.val rfl rfl rfl (fun _ z => (E.indexArr (j := 0) (k := 1) (off := 0) Tryz.runUnderlying99 Tryz.sizeOf3 rfl rfl (by decide) rfl)) ?_
        refine FD.val rfl rfl rfl (fun _ z => (E.load rfl (run_load1 Tryz.isAgg3 (at119.cls z) rfl))) ?_
        refine FD.val rfl rfl rfl (fun _ z => (E.move k108)) ?_
        refine FD.val rfl rfl rfl (fun _ z => (E.move k113)) ?_
        obtain ⟨x129, hx130, hp⟩ := bnd hp
        obtain ⟨p123, cs124, pt125, l126, at127, rel128⟩ := S104.row_at (i := 1) rfl els38 (by decide) hx130
        obtain rfl := eI2_open rel128
        refine FD.val rfl rfl rfl (fun _ z => (E.indexAddr te95 rfl rfl pt125)) ?_
        refine FD.val rfl rfl rfl (fun _ z => (E.indexArr (j := 1) (k := 1) (off := 1) Tryz.runUnderlying99 Tryz.sizeOf3 rfl rfl (by decide) rfl)) ?_
        refine FD.val rfl rfl rfl (fun _ z => (E.load rfl (run_load1 Tryz.isAgg3 (at127.cls z) rfl))) ?_
        refine FD.val rfl rfl rfl (fun _ z => (E.assign (v := vI x121.1) rfl)) ?_
        refine FD.val rfl rfl rfl (fun _ z => (E.assign (v := vI x129.2) rfl)) ?_
        refine FD.nil ?_
        intro w131 r133
        have S132 := S104.call r133
        refine FW.seq (FW.seq (FW.region ?_))
        refine FL.v (E.move k111) ?_
        refine FL.v (E.move (v := vI x121.1) rfl) ?_
        refine FL.v (E.neg rfl) ?_
        obtain ⟨r134, hr135, hp⟩ := bnd hp
        refine FL.call rfl rfl rfl (E.call Tryz.call73 (A2 rfl rfl)) (w_spec_l2Has S132.sl v101 s94.2.1 h102 (wr (-x121.1)) hr135) ?_
        rintro e w136 ⟨rfl, r137⟩
        refine ⟨_, rfl, ?_⟩
        have S138 := S132.call r137
        refine FL.v (E.not rfl) ?_
        refine FL.nil ?_
        rcases ifB hp with ⟨c139, hp⟩ | ⟨c139, hp⟩
        ·
          refine FW.condT rfl c139 ?_
          refine FW.exit ?_
          refine FW.region ?_
          refine FL.v (E.move k113) ?_
          refine FL.v (E.sub rfl rfl) ?_
          refine FL.v (E.assign (v := vI (wr (s94.2.2 - 1))) rfl) ?_
          refine FL.nil ?_
          obtain rfl := Option.some.inj hp
          exact ⟨rfl, ⟨_, _, _, _, _, S138, i105, els99, h102, nd100, k108, k109, k110, k111, k112, rfl⟩⟩
        ·
          refine FW.condF rfl c139 ?_
          refine FW.skip (FW.seq (FW.seq (FW.region ?_)))
          refine FL.v (E.move (v := vI x121.1) rfl) ?_
          refine FL.v (E.lss rfl rfl) ?_
          refine FL.nil ?_
          rcases ifB hp with ⟨c140, hp⟩ | ⟨c140, hp⟩
          ·
            refine FW.condT rfl c140 ?_
            refine FW.region ?_
            refine FL.v (E.move k111) ?_
            refine FL.v (E.fieldAddr tf28_1 k110) ?_
            refine FL.v (E.load rfl (run_load1 Tryz.isAgg22 ((at67.mono i105).now S138.sl) rfl)) ?_
            refine FL.v (E.move (v := vI x129.2) rfl) ?_
            obtain ⟨x147, hx148, hp⟩ := bnd hp
            obtain ⟨p141, cs142, pt143, l144, at145, rel146⟩ := h70.at hx148
            obtain ⟨v149, rfl, h150⟩ := eL_open rel146
            refine FL.v (E.indexAddr te22 rfl rfl pt143) ?_
            refine FL.v (E.load rfl (run_load0 Tryz.isAgg44 ((at145.mono i105).now S138.sl) rfl)) ?_
            refine FL.v (E.move (v := vI x121.1) rfl) ?_
            refine FL.v (E.neg rfl) ?_
            obtain ⟨r151, hr152, hp⟩ := bnd hp
            refine FL.call rfl rfl rfl (E.call Tryz.call74 (A3 rfl rfl rfl)) (w_spec_l2Resolve S138.sl v101 s94.2.1 h102 v149 x147 (h150.mono i105) (wr (-x121.1)) hr152) ?_
            rintro e w154 ⟨H153, v157, n158, cs159, rfl, r156, els160⟩
            refine ⟨_, rfl, ?_⟩
            have els160 := els160.mono (up_le S138.size)
            have S155 := S138.join (l' := [.row 3 1 v157 n158 cs159, .row 105 3 v96 n97 cs98, .row 99 2 v35 n36 cs37]) r156 rfl
            refine FL.v (E.move (v := Value.tuple #[v157, vB r151.2]) rfl) ?_
            refine FL.v (E.extract (i := 0) rfl rfl) ?_
            refine FL.v (E.extract (i := 1) rfl rfl) ?_
            refine FL.v (E.assign (v := v157) rfl) ?_
            refine FL.nil (FW.region ?_)
            refine FL.v (E.move k112) ?_
            refine FL.v (E.move (v := vI x129.2) rfl) ?_
            refine FL.v (E.move (v := vI x121.1) rfl) ?_
            refine FL.call rfl rfl rfl (E.call Tryz.call75 (A1 rfl)) (w_spec_l2Var S155.sl x121.1) ?_
            rintro e w161 ⟨rfl, r162⟩
            refine ⟨_, rfl, ?_⟩
            have S163 := S155.call r162
            refine FL.v (E.move (v := v157) rfl) ?_
            refine FL.v (E.build (B3 rfl rfl rfl) (run_build _ 105 #[(0, vI x129.2), (1, vI (PF.spec_l2Var x121.1)), (2, v157)] #[vI x129.2, vI (PF.spec_l2Var x121.1), v157] (by obtain ⟨_, _, rfl⟩ := S163.row_ln (i := 0) rfl; rfl))) ?_
            obtain ⟨H164, S165, i166, h167, nv168⟩ := S163.sealRowU (i := 0) (l' := [.row 105 3 v96 n97 cs98, .row 99 2 v35 n36 cs37]) rfl els160 (by decide) rfl
            obtain ⟨v169, w170, run171, S172⟩ := S165.buildSlice (P := prog) te69 [vA #[vI x129.2, vI (PF.spec_l2Var x121.1), v157]] (parts := #[(0, vA #[vI x129.2, vI (PF.spec_l2Var x121.1), v157])]) (cells := [vI x129.2, vI (PF.spec_l2Var x121.1), v157]) rfl (szs_cons rfl szs_nil) (fc_cons rfl fc_nil) (ones_cons rfl (ones_cons rfl (ones_cons h167.one ones_nil))) (Nat.le_of_ble_eq_true rfl)
            have els173 : Els (up wa.heap.size H164) el11Use 3 [vI x129.2, vI (PF.spec_l2Var x121.1), v157] [(l11Use.mk x129.2 (PF.spec_l2Var x121.1) r151.1)] := (Els.snoc (H := (up wa.heap.size H164)) (E := el11Use) (k := 3) (c := [vI x129.2, vI (PF.spec_l2Var x121.1), v157]) (x := (l11Use.mk x129.2 (PF.spec_l2Var x121.1) r151.1)) Els.nil rfl ⟨_, rfl, h167⟩)
            have nd174 : (bl [vI x129.2, vI (PF.spec_l2Var x121.1), v157]).Nodup := by exact nd_one v157
            refine FL.v (E.buildSlice (B1 rfl) run171) ?_
            obtain ⟨xs175, hz176, hp⟩ := bnd hp
            obtain ⟨v177, w180, n178, cs179, run181, S182, els183, ce184⟩ := S172.appendO (P := prog) te69 (i := 1) (j := 0) rfl (els99.mono (up_mono (r156.run.inc.tr i166))) rfl els173 hz176
            have S182 : St Ha wa H164 w180 [.row 105 3 v169 1 [vI x129.2, vI (PF.spec_l2Var x121.1), v157], .row 105 3 v177 n178 cs179, .row 99 2 v35 n36 cs37] := S182
            have nd185 : (bl cs179).Nodup := by rw [ce184]; exact nd_app nd100 nd174 (Els.dom (els99.mono (upI.tr r156.run.inc))) (by exact nv168)
            have S186 : St Ha wa H164 w180 [.row 105 3 v177 n178 cs179, .row 99 2 v35 n36 cs37] := S182.drop 0
            refine FL.v (E.append rfl rfl run181) ?_
            refine FL.v (E.assign (v := v177) rfl) ?_
            refine FL.nil (FW.region ?_)
            refine FL.v (E.move k113) ?_
            refine FL.v (E.sub rfl rfl) ?_
            refine FL.v (E.assign (v := vI (wr (s94.2.2 - 1))) rfl) ?_
            refine FL.nil ?_
            obtain rfl := Option.some.inj hp
            exact ⟨rfl, ⟨_, _, _, _, _, S186, ((i105.tr r156.run.inc).tr i166), els183, (h167.mono upI), nd185, k108, k109, k110, rfl, rfl, rfl⟩⟩
          ·
            refine FW.condF rfl c140 ?_
            refine FW.region ?_
            refine FL.v (E.fieldAddr tf28_1 k110) ?_
            refine FL.v (E.load rfl (run_load1 Tryz.isAgg22 ((at67.mono i105).now S138.sl) rfl)) ?_
            refine FL.v (E.move (v := vI x129.2) rfl) ?_
            obtain ⟨x193, hx194, hp⟩ := bnd hp
            obtain ⟨p187, cs188, pt189, l190, at191, rel192⟩ := h70.at hx194
            obtain ⟨v195, rfl, h196⟩ := eL_open rel192
            refine FL.v (E.indexAddr te22 rfl rfl pt189) ?_
            refine FL.v (E.load rfl (run_load0 Tryz.isAgg44 ((at191.mono i105).now S138.sl) rfl)) ?_
            refine FL.v (E.move k111) ?_
            refine FL.v (E.move (v := vI x121.1) rfl) ?_
            obtain ⟨r197, hr198, hp⟩ := bnd hp
            refine FL.call rfl rfl rfl (E.call Tryz.call74 (A3 rfl rfl rfl)) (w_spec_l2Resolve S138.sl v195 x193 (h196.mono i105) v101 s94.2.1 h102 x121.1 hr198) ?_
            rintro e w200 ⟨H199, v203, n204, cs205, rfl, r202, els206⟩
            refine ⟨_, rfl, ?_⟩
            have els206 := els206.mono (up_le S138.size)
            have S201 := S138.join (l' := [.row 3 1 v203 n204 cs205, .row 105 3 v96 n97 cs98, .row 99 2 v35 n36 cs37]) r202 rfl
            refine FL.v (E.move (v := Value.tuple #[v203, vB r197.2]) rfl) ?_
            refine FL.v (E.extract (i := 0) rfl rfl) ?_
            refine FL.v (E.extract (i := 1) rfl rfl) ?_
            refine FL.v (E.assign (v := v203) rfl) ?_
            refine FL.nil (FW.region ?_)
            refine FL.v (E.move k112) ?_
            refine FL.v (E.move (v := vI x129.2) rfl) ?_
            refine FL.v (E.move (v := vI x121.1) rfl) ?_
            refine FL.call rfl rfl rfl (E.call Tryz.call75 (A1 rfl)) (w_spec_l2Var S201.sl x121.1) ?_
            rintro e w207 ⟨rfl, r208⟩
            refine ⟨_, rfl, ?_⟩
            have S209 := S201.call r208
            refine FL.v (E.move (v := v203) rfl) ?_
            refine FL.v (E.build (B3 rfl rfl rfl) (run_build _ 105 #[(0, vI x129.2), (1, vI (PF.spec_l2Var x121.1)), (2, v203)] #[vI x129.2, vI (PF.spec_l2Var x121.1), v203] (by obtain ⟨_, _, rfl⟩ := S209.row_ln (i := 0) rfl; rfl))) ?_
            obtain ⟨H210, S211, i212, h213, nv214⟩ := S209.sealRowU (i := 0) (l' := [.row 105 3 v96 n97 cs98, .row 99 2 v35 n36 cs37]) rfl els206 (by decide) rfl
            obtain ⟨v215, w216, run217, S218⟩ := S211.buildSlice (P := prog) te69 [vA #[vI x129.2, vI (PF.spec_l2Var x121.1), v203]] (parts := #[(0, vA #[vI x129.2, vI (PF.spec_l2Var x121.1), v203])]) (cells := [vI x129.2, vI (PF.spec_l2Var x121.1), v203]) rfl (szs_cons rfl szs_nil) (fc_cons rfl fc_nil) (ones_cons rfl (ones_cons rfl (ones_cons h213.one ones_nil))) (Nat.le_of_ble_eq_true rfl)
            have els219 : Els (up wa.heap.size H210) el11Use 3 [vI x129.2, vI (PF.spec_l2Var x121.1), v203] [(l11Use.mk x129.2 (PF.spec_l2Var x121.1) r197.1)] := (Els.snoc (H := (up wa.heap.size H210)) (E := el11Use) (k := 3) (c := [vI x129.2, vI (PF.spec_l2Var x121.1), v203]) (x := (l11Use.mk x129.2 (PF.spec_l2Var x121.1) r197.1)) Els.nil rfl ⟨_, rfl, h213⟩)
            have nd220 : (bl [vI x129.2, vI (PF.spec_l2Var x121.1), v203]).Nodup := by exact nd_one v203
            refine FL.v (E.buildSlice (B1 rfl) run217) ?_
            obtain ⟨xs221, hz222, hp⟩ := bnd hp
            obtain ⟨v223, w226, n224, cs225, run227, S228, els229, ce230⟩ := S218.appendO (P := prog) te69 (i := 1) (j := 0) rfl (els99.mono (up_mono (r202.run.inc.tr i212))) rfl els219 hz222
            have S228 : St Ha wa H210 w226 [.row 105 3 v215 1 [vI x129.2, vI (PF.spec_l2Var x121.1), v203], .row 105 3 v223 n224 cs225, .row 99 2 v35 n36 cs37] := S228
            have nd231 : (bl cs225).Nodup := by rw [ce230]; exact nd_app nd100 nd220 (Els.dom (els99.mono (upI.tr r202.run.inc))) (by exact nv214)
            have S232 : St Ha wa H210 w226 [.row 105 3 v223 n224 cs225, .row 99 2 v35 n36 cs37] := S228.drop 0
            refine FL.v (E.append rfl rfl run227) ?_
            refine FL.v (E.assign (v := v223) rfl) ?_
            refine FL.nil (FW.region ?_)
            refine FL.v (E.move k113) ?_
            refine FL.v (E.sub rfl rfl) ?_
            refine FL.v (E.assign (v := vI (wr (s94.2.2 - 1))) rfl) ?_
            refine FL.nil ?_
            obtain rfl := Option.some.inj hp
            exact ⟨rfl, ⟨_, _, _, _, _, S232, ((i105.tr r202.run.inc).tr i212), els229, (h213.mono upI), nd231, k108, k109, k110, rfl, rfl, rfl⟩⟩
      ·
        refine FW.condF rfl c114 ?_
        refine FW.exit ?_
        obtain rfl := Option.some.inj hp
        exact ⟨nofun, rfl, ⟨_, _, _, _, _, S104, i105, els99, h102, nd100, k109, k112⟩⟩
    ·
      clear hq
      intro e f238 w237 hD
      rcases q94 with s94 | x94
      ·
        obtain ⟨rfl, hD⟩ := hD
        obtain ⟨H234, v96, n97, cs98, v101, S235, i236, els99, h102, nd100, k239, k240⟩ := hD
        replace hp := el_go hp
        refine FW.seq (FW.region ?_)
        refine FL.v (E.move k239) ?_
        refine FL.v (E.move k240) ?_
        refine FL.v (E.assign (v := vI r29.2) rfl) ?_
        refine FL.v (E.assign (v := v96) rfl) ?_
        refine FL.nil ?_
        refine FW.ret ?_
        obtain rfl := Option.some.inj hp
        exact ⟨.inr rfl, res2 rfl rfl rfl ⟨_, _, _, _, rfl, (S235.sel [0] (by decide) rfl), els99, nd100⟩⟩
      · exact x94.elim

@[reducible] def p_spec_l11Axiom (H0 : GH) (w0 : World) (Ha : GH) (L : List MO) (r : ((List ResStep) × (List Int))) : Ending → World → Prop :=
 fun e w' => ∃ H' : GH, ∃ v0r : Value, ∃ n0r : Nat, ∃ c0r : List Value, ∃ v1r : Value, ∃ n1r : Nat, ∃ c1r : List Value, e = .returned (Value.tuple #[v0r, v1r]) ∧ (St H0 w0 H' w' (.row 63 4 v0r n0r c0r :: .row 3 1 v1r n1r c1r :: L) ∧ Inc Ha H') ∧ Els (up w0.heap.size H') eResStep 4 c0r r.1 ∧ (bl c0r).Nodup ∧ Els (up w0.heap.size H') eI 1 c1r r.2
theorem w_spec_l11Axiom {H0 Ha : GH} {w0 wa : World} {L : List MO} {v2 : Value} {n2 : Nat} {k2 : List Value} {v3 : Value} {n3 : Nat} {k3 : List Value} (S0 : St H0 w0 Ha wa (.row 63 4 v2 n2 k2 :: .row 3 1 v3 n3 k3 :: L)) (a0 : Cnf) (v0_1 : Value) (p0_1 : RSl Ha (eL eI 1) 1 v0_1 a0.clauses) (a1 : Int) (a2 : List ResStep) (p2 : Els (up w0.heap.size Ha) eResStep 4 k2 a2) (d2 : (bl k2).Nodup) (a3 : List Int) (p3 : Els (up w0.heap.size Ha) eI 1 k3 a3) {r : ((List ResStep) × (List Int))} (hp : (PF.spec_l11Axiom a0 a1 a2 a3) = some r) :
  Calls prog 84 #[vA #[vI a0.vars, v0_1], vI a1, v2, v3] wa (p_spec_l11Axiom H0 w0 Ha L r) := by
 unfold PF.spec_l11Axiom at hp; refine calls_go (N := 35) (args := [vA #[vI a0.vars, v0_1], vI a1, v2, v3]) func84 rfl rfl rfl ?_; refine FW.sr ?_; obtain ⟨b21, w22, run23, S24⟩ := S0.box (P := prog) 28 [vI a0.vars, v0_1] (v := vA #[vI a0.vars, v0_1]) rfl (oC rfl (oC p0_1.one ones_nil)); refine FL.v (E.box rfl run23) ?_; obtain ⟨H25, S26, i27, at28⟩ := S24.sealBox (i := 0) (l' := (.row 63 4 v2 n2 k2 :: .row 3 1 v3 n3 k3 :: L)) rfl rfl; refine FL.as (v := vN) rfl ?_; refine FL.as (v := vN) rfl ?_; refine FL.nil (FW.seq (FW.sr ?_)); refine FL.mv (v := v3) rfl ?_; refine FL.mv (v := vI a1) rfl ?_; obtain ⟨x35, hx36, hp⟩ := bnd hp; obtain ⟨p29, cs30, pt31, l32, at33, rel34⟩ := S26.row_at (i := 1) rfl p3 (by decide) hx36; obtain rfl := eI_open rel34; refine FL.v (E.indexAddr te44 rfl rfl pt31) ?_; refine FL.v (E.load rfl (run_load0 isAgg3 at33 rfl)) ?_; refine FL.v (E.geq rfl rfl) ?_; refine FL.nil ?_; rcases ifB hp with ⟨c37, hp⟩ | ⟨c37, hp⟩
 ·
  refine FW.condT rfl c37 ?_; refine FW.sr ?_; refine FL.mv (v := v2) rfl ?_; refine FL.mv (v := v3) rfl ?_; refine FL.as (v := v2) rfl ?_; refine FL.as (v := v3) rfl ?_; refine FL.nil (FW.ret ?_); cases hp; exact ⟨.inr rfl, res2 rfl rfl rfl ⟨_, _, _, _, _, _, _, rfl, ⟨S26, i27⟩, (p2.mono (up_mono i27)), d2, (p3.mono (up_mono i27))⟩⟩
 ·
  refine FW.condF rfl c37 ?_; refine FW.skip (FW.sr ?_); refine FL.mv (v := v3) rfl ?_; refine FL.mv (v := vI a1) rfl ?_; refine FL.mv (v := v2) rfl ?_; refine FL.v (E.lenO te29 rfl S26 (i := 0) rfl p2 (by decide)) ?_; obtain ⟨x44, hx45, hp⟩ := bnd hp; obtain ⟨p38, cs39, pt40, l41, at42, rel43⟩ := S26.row_at (i := 1) rfl p3 (by decide) hx45; obtain rfl := eI_open rel43; refine FL.v (E.indexAddr te44 rfl rfl pt40) ?_; obtain ⟨xs49, hput50, hp⟩ := bnd hp; obtain ⟨w46, cs52, run47, S48, els51, ce53⟩ := S26.putEls (P := prog) (t := 3) (i := 1) rfl (p3.mono (up_mono i27)) hput50 pt40 sizeOf3 (u := vI (len a2)) (c := [vI (len a2)]) rfl rfl (oC rfl ones_nil) rfl; have S48 : St H0 w0 H25 w46 (.row 63 4 v2 n2 k2 :: .row 3 1 v3 n3 cs52 :: L) := S48; refine FL.act rfl rfl (E.store rfl rfl run47) ?_; refine FL.nil (FW.sr ?_); refine FL.mv (v := v2) rfl ?_; obtain ⟨v54, w55, run56, S57⟩ := S48.buildSlice (P := prog) te44 [] (parts := #[]) (cells := []) rfl szs_nil fc_nil ones_nil (nB rfl); have els58 : Els (up w0.heap.size H25) eI 1 [] [] := Els.nil; refine FL.v (E.buildSlice (B0) run56) ?_; refine FL.v (E.fieldAddr tf28_1 rfl) ?_; refine FL.v (E.load rfl (run_load1 isAgg22 (at28.now S57.sl) rfl)) ?_; refine FL.mv (v := vI a1) rfl ?_; obtain ⟨x65, hx66, hp⟩ := bnd hp; obtain ⟨p59, cs60, pt61, l62, at63, rel64⟩ := p0_1.at hx66; obtain ⟨v67, rfl, h68⟩ := eL_open rel64; refine FL.v (E.indexAddr te22 rfl rfl pt61) ?_; refine FL.v (E.load rfl (run_load0 isAgg44 ((at63.mono i27).now S57.sl) rfl)) ?_; obtain ⟨xs69, hz70, hp⟩ := bnd hp; obtain ⟨v71, w74, n72, cs73, run75, S76, els77⟩ := S57.appendP (P := prog) I0 te44 (i := 0) rfl (els58.mono upI) (h68.mono i27) hz70; have S76 : St H0 w0 H25 w74 (.row 3 1 v71 n72 cs73 :: .row 63 4 v2 n2 k2 :: .row 3 1 v3 n3 cs52 :: L) := S76; have els77 : Els (up w0.heap.size H25) eI 1 cs73 xs69 := els77.any (fun _ _ _ _ h => h); refine FL.v (E.append rfl rfl run75) ?_; refine FL.mv (v := vI a1) rfl ?_; refine FL.v (E.build (B3 rfl rfl rfl) (run_build _ 63 #[(0, v71), (1, vI (-1)), (2, vI a1)] #[v71, vI (-1), vI a1, vI 0] (by obtain ⟨_, _, rfl⟩ := S76.row_ln (i := 0) rfl; rfl))) ?_; obtain ⟨H79, S80, i81, h82, nv83⟩ := S76.sealRowU (i := 0) (l' := (.row 63 4 v2 n2 k2 :: .row 3 1 v3 n3 cs52 :: L)) rfl els77 (by decide) rfl; obtain ⟨v84, w85, run86, S87⟩ := S80.buildSlice (P := prog) te29 [vA #[v71, vI (-1), vI a1, vI 0]] (parts := #[(0, vA #[v71, vI (-1), vI a1, vI 0])]) (cells := [v71, vI (-1), vI a1, vI 0]) rfl (szs_cons rfl szs_nil) (fc_cons rfl fc_nil) (oC h82.one (oC rfl (oC rfl (oC rfl ones_nil)))) (nB rfl); have els88 : Els (up w0.heap.size H79) eResStep 4 [v71, vI (-1), vI a1, vI 0] [(ResStep.mk xs69 (-1) a1 0)] := (Els.snoc (H := (up w0.heap.size H79)) (E := eResStep) (k := 4) (c := [v71, vI (-1), vI a1, vI 0]) (x := (ResStep.mk xs69 (-1) a1 0)) Els.nil rfl ⟨_, rfl, h82⟩); have nd89 : (bl [v71, vI (-1), vI a1, vI 0]).Nodup := by exact nd_one v71
  refine FL.v (E.buildSlice (B1 rfl) run86) ?_; obtain ⟨xs90, hz91, hp⟩ := bnd hp; obtain ⟨v92, w95, n93, cs94, run96, S97, els98, ce99⟩ := S87.appendO (P := prog) te29 (i := 1) (j := 0) rfl (p2.mono (up_mono (i27.tr i81))) rfl els88 hz91; have S97 : St H0 w0 H79 w95 (.row 63 4 v84 1 [v71, vI (-1), vI a1, vI 0] :: .row 63 4 v92 n93 cs94 :: .row 3 1 v3 n3 cs52 :: L) := S97; have nd100 : (bl cs94).Nodup := by rw [ce99]; exact nd_app d2 nd89 (Els.dom (p2.mono (upI.tr i27))) (by exact nv83)
  have S101 : St H0 w0 H79 w95 (.row 63 4 v92 n93 cs94 :: .row 3 1 v3 n3 cs52 :: L) := S97.drop 0; refine FL.v (E.append rfl rfl run96) ?_; refine FL.mv (v := v3) rfl ?_; refine FL.as (v := v92) rfl ?_; refine FL.as (v := v3) rfl ?_; refine FL.nil (FW.ret ?_); cases hp; exact ⟨.inr rfl, res2 rfl rfl rfl ⟨_, _, _, _, _, _, _, rfl, ⟨S101, (i27.tr i81)⟩, els98, nd100, (els51.mono (up_mono i81))⟩⟩

theorem w_spec_l1Same {Ha : GH} {wa : World} (hs : Sl Ha wa) (v0 : Value) (a0 : List Int) (p0 : RSl Ha eI 1 v0 a0) (v1 : Value) (a1 : List Int) (p1 : RSl Ha eI 1 v1 a1) {r : Bool} (hp : (PF.spec_l1Same a0 a1) = some r) :
  Calls prog 85 #[v0, v1] wa (Sc Ha wa (vB r)) := by
 unfold PF.spec_l1Same at hp; have S0 := St.init hs; refine calls_go (N := 26) (args := [v0, v1]) func85 rfl rfl rfl ?_; refine FW.sr ?_; refine FL.as (v := vB false) rfl ?_; refine FL.nil (FW.seq (FW.sr ?_)); refine FL.mv (v := v0) rfl ?_; refine FL.v (E.lenP te44 rfl p0) ?_; refine FL.mv (v := v1) rfl ?_; refine FL.v (E.lenP te44 rfl p1) ?_; refine FL.v (E.neq rfl rfl) ?_; refine FL.nil ?_; rcases ifB hp with ⟨c21, hp⟩ | ⟨c21, hp⟩
 ·
  refine FW.condT rfl c21 ?_; refine FW.sr ?_; refine FL.as (v := vB false) rfl ?_; refine FL.nil (FW.ret ?_); cases hp; exact ⟨.inr rfl, res1 rfl rfl ⟨rfl, S0.back⟩⟩
 ·
  refine FW.condF rfl c21 ?_; refine FW.skip (FW.seq (FW.sr ?_)); refine FL.as (v := vI 0) rfl ?_; refine FL.nil ?_; obtain ⟨q23, hq, hp⟩ := bndR hp; refine FW.block ?_; refine FW.mono (FW.forL (S := Unit) (X := Bool) (fun (i23 : Nat) (s23 : Unit) f w => ∃ H : GH, St Ha wa H w [] ∧ Inc Ha H ∧ f 5 = vI ((i23 : Nat) : Int) ∧ f 0 = v0 ∧ f 1 = v1) (fun q e f w => match q with | .go s23 => e = Exit.exit 0 ∧ (∃ H : GH, St Ha wa H w [] ∧ Inc Ha H) | .rt x => ((e = Exit.ret) ∧ (fun e f w => (e = Exit.normal ∨ e = Exit.ret) ∧ ∀ a, Fr (δ := []) 26 a f → ∃ v, (results Tryz.f85 a.tmps).run prog w = .ok v w ∧ (Sc Ha wa (vB x)) (.returned v) w) e f w)) hq ⟨_, S0, I0, rfl, rfl, rfl⟩ ?_ ?_) ?_
  ·
   clear hp hq; rintro i23 y22 s23 f55 w54 ⟨H51, S52, i53, k56, k57, k58⟩ hx23 o78 hp; refine FW.seq (FW.sr ?_); refine FL.mv k56 ?_; refine FL.mv k57 ?_; refine FL.v (E.lenP te44 rfl p0) ?_; refine FL.v (E.lssT rfl rfl (lss_len hx23)) ?_; refine FL.nil ?_; refine FW.condT rfl rfl ?_; refine FW.skip (FW.seq (FW.block (FW.seq ?_))); refine FW.draw (fun w' => Run w54.heap.size H51 w54 H51 w') (by kernel_rfl) (by kernel_rfl) (run_drew S52.sl) ?_; refine FD.v (fun _ z => (E.move k57)) ?_; refine FD.v (fun _ z => (E.move k56)) ?_; obtain ⟨p60, cs61, pt62, l63, at64, rel65⟩ := p0.at (ix_nat hx23); obtain rfl := eI_open rel65; refine FD.v (fun _ z => (E.indexAddr te44 rfl rfl pt62)) ?_; refine FD.v (fun _ z => (E.load rfl (run_load0 isAgg3 ((at64.mono i53).now (S52.call z).sl) rfl))) ?_; refine FD.v (fun _ z => (E.move k58)) ?_; refine FD.v (fun _ z => (E.move k56)) ?_; obtain ⟨x72, hx73, hp⟩ := bnd hp; obtain ⟨p66, cs67, pt68, l69, at70, rel71⟩ := p1.at hx73; obtain rfl := eI_open rel71; refine FD.v (fun _ z => (E.indexAddr te44 rfl rfl pt68)) ?_; refine FD.v (fun _ z => (E.load rfl (run_load0 isAgg3 ((at70.mono i53).now (S52.call z).sl) rfl))) ?_; refine FD.v (fun _ z => (E.neq rfl rfl)) ?_; refine FD.nil ?_; intro w74 r76; have S75 := S52.call r76; rcases ifB hp with ⟨c77, hp⟩ | ⟨c77, hp⟩
   ·
    refine FW.condT rfl c77 ?_; refine FW.sr ?_; refine FL.as (v := vB false) rfl ?_; refine FL.nil (FW.ret ?_); cases hp; exact ⟨nofun, rfl, ⟨.inr rfl, res1 rfl rfl ⟨rfl, S75.back⟩⟩⟩
   ·
    refine FW.condF rfl c77 ?_; refine FW.skip (FW.region ?_); refine FL.mv k56 ?_; refine FL.v (E.add rfl rfl) ?_; refine FL.as (v := vI (wr (((i23 : Nat) : Int) + 1))) rfl ?_; refine FL.nil ?_; cases hp; exact ⟨rfl, ⟨_, S75, i53, (nat_succ rfl (lt_of_get hx23) (p0.mono i53).le), k57, k58⟩⟩
  ·
   clear hp hq; rintro s23 f88 w87 ⟨H84, S85, i86, k89, k90, k91⟩; refine FW.seq (FW.sr ?_); refine FL.mv k89 ?_; refine FL.mv k90 ?_; refine FL.v (E.lenP te44 rfl p0) ?_; refine FL.v (E.lss rfl rfl) ?_; refine FL.nil ?_; refine FW.condF rfl dlt_len ?_; refine FW.exit ?_; exact ⟨nofun, rfl, ⟨_, S85, i86⟩⟩
  ·
   clear hq; intro e f83 w82 hD; rcases q23 with s23 | x23
   ·
    obtain ⟨rfl, hD⟩ := hD; obtain ⟨H79, S80, i81⟩ := hD; replace hp := el_go hp; refine FW.sr ?_; refine FL.as (v := vB true) rfl ?_; refine FL.nil (FW.ret ?_); cases hp; exact ⟨.inr rfl, res1 rfl rfl ⟨rfl, S80.back⟩⟩
   ·
    obtain ⟨he, hL⟩ := hD; replace hp := el_rt hp; cases hp; subst he; exact hL

end Go.Proofs
