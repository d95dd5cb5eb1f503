/- Part of the walks and plain laws behind the claim: it proves helpers, under no condition beyond their own. -/
import Derived.Test.YtjpjbfbloplacaaGreatTdMr16
import Derived.Test.YtjpjbfbloplacaaGreatTdMr14
import Derived.Test.YtjpjbfbloplacaaGreatTdMr19
import Derived.Test.YtjpjbfbloplacaaGreatTdMr20
import Derived.Test.YtjpjbfbloplacaaGreatTdMr21
import Derived.Test.YtjpjbfbloplacaaGreatTdMr22
import Derived.Test.YtjpjbfbloplacaaGreatTdMr23
import Derived.Test.YtjpjbfbloplacaaGreatTdMr24
import Derived.Test.YtjpjbfbloplacaaGreatTdMr25
import Derived.Test.YtjpjbfbloplacaaGreatTdMr26
import Derived.Test.YtjpjbfbloplacaaGreatTdMr27
import Derived.Test.YtjpjbfbloplacaaGreatTdMr28
import Derived.Test.YtjpjbfbloplacaaGreatTdSh
import Derived.Test.YtjpjbfbloplacaaGreatTdPf
import Derived.Test.YtjpjbfbloplacaaGreatProg
set_option linter.unusedVariables false
set_option maxRecDepth 100000
namespace Go.Proofs
open Go.Mr Go.Pu Go.PF Go.RowKit Tryz

def eCnf : Enc Cnf := ⟨fun H cs s => ∃ v0, cs = [vI s.vars, v0] ∧ RSl H (eL eI 1) 1 v0 s.clauses, fun hi ⟨v0, h, h0⟩ => ⟨_, h, h0.mono hi⟩, by rintro H cs s ⟨v0, rfl, h0⟩; exact (ones_cons rfl (ones_cons h0.one ones_nil)), by rintro H cs s ⟨v0, rfl, h0⟩ b hb; obtain ⟨u, hu, hn⟩ := mem_bl hb; simp only [List.mem_cons, List.not_mem_nil, or_false] at hu; rcases hu with rfl | rfl <;> first | (cases hn; done) | exact h0.dom b (mem_bl1 hn)⟩
theorem eCnf_open {H : GH} {cs : List Value} {s : Cnf} (h : eCnf.rel H cs s) : ∃ v0, cs = [vI s.vars, v0] ∧ RSl H (eL eI 1) 1 v0 s.clauses := h

def eResStep : Enc ResStep := ⟨fun H cs s => ∃ v0, cs = [v0, vI s.left, vI s.right, vI s.pivot] ∧ RSl H eI 1 v0 s.clause, fun hi ⟨v0, h, h0⟩ => ⟨_, h, h0.mono hi⟩, by rintro H cs s ⟨v0, rfl, h0⟩; exact (ones_cons h0.one (ones_cons rfl (ones_cons rfl (ones_cons rfl ones_nil)))), by rintro H cs s ⟨v0, rfl, h0⟩ b hb; obtain ⟨u, hu, hn⟩ := mem_bl hb; simp only [List.mem_cons, List.not_mem_nil, or_false] at hu; rcases hu with rfl | rfl | rfl | rfl <;> first | (cases hn; done) | exact h0.dom b (mem_bl1 hn)⟩
theorem eResStep_open {H : GH} {cs : List Value} {s : ResStep} (h : eResStep.rel H cs s) : ∃ v0, cs = [v0, vI s.left, vI s.right, vI s.pivot] ∧ RSl H eI 1 v0 s.clause := h

def eTerm : Enc Term := ⟨fun H cs s => cs = [vI s.mono, vI s.coeff], fun _ h => h, by rintro H cs s rfl; exact (ones_cons rfl (ones_cons rfl ones_nil)), by rintro H cs s rfl b hb; obtain ⟨u, hu, hn⟩ := mem_bl hb; simp only [List.mem_cons, List.not_mem_nil, or_false] at hu; rcases hu with rfl | rfl <;> cases hn⟩
theorem eTerm_open {H : GH} {cs : List Value} {s : Term} (h : eTerm.rel H cs s) : cs = [vI s.mono, vI s.coeff] := h

def ePcStep : Enc PcStep := ⟨fun H cs s => ∃ v0, cs = [vI s.kind, v0, vI s.a, vI s.b, vI s.x, vI s.y] ∧ RSl H eTerm 2 v0 s.poly, fun hi ⟨v0, h, h0⟩ => ⟨_, h, h0.mono hi⟩, by rintro H cs s ⟨v0, rfl, h0⟩; exact (ones_cons rfl (ones_cons h0.one (ones_cons rfl (ones_cons rfl (ones_cons rfl (ones_cons rfl ones_nil)))))), by rintro H cs s ⟨v0, rfl, h0⟩ b hb; obtain ⟨u, hu, hn⟩ := mem_bl hb; simp only [List.mem_cons, List.not_mem_nil, or_false] at hu; rcases hu with rfl | rfl | rfl | rfl | rfl | rfl <;> first | (cases hn; done) | exact h0.dom b (mem_bl1 hn)⟩
theorem ePcStep_open {H : GH} {cs : List Value} {s : PcStep} (h : ePcStep.rel H cs s) : ∃ v0, cs = [vI s.kind, v0, vI s.a, vI s.b, vI s.x, vI s.y] ∧ RSl H eTerm 2 v0 s.poly := h

def Fn_I_to_B (P : Program) (H : GH) (v : Value) (p : Int → Option Bool) : Prop :=
 ∀ (H' : GH) (w' : World), Inc H H' → Sl H' w' → ∀ (x0 : Int) (r : Bool), p x0 = some r →
  ∃ (fid : Nat) (cs : Array Value), v = Value.func (.func fid) #[] cs ∧ (∀ args w, (callFunc fid args).run P w = .ok (.enter fid args) w) ∧ Calls P fid (#[vI x0] ++ cs) w' (Sc H' w' (vB r))
theorem Fn_I_to_B.mono {P : Program} {H H' : GH} {v : Value} {p : Int → Option Bool} (h : Fn_I_to_B P H v p) (hi : Inc H H') : Fn_I_to_B P H' v p :=
 fun H2 w2 h2 => h H2 w2 (hi.tr h2)

def Fn_I_I_to_I (P : Program) (H : GH) (v : Value) (p : Int → Int → Option Int) : Prop :=
 ∀ (H' : GH) (w' : World), Inc H H' → Sl H' w' → ∀ (x0 : Int) (x1 : Int) (r : Int), p x0 x1 = some r →
  ∃ (fid : Nat) (cs : Array Value), v = Value.func (.func fid) #[] cs ∧ (∀ args w, (callFunc fid args).run P w = .ok (.enter fid args) w) ∧ Calls P fid (#[vI x0, vI x1] ++ cs) w' (Sc H' w' (vI r))
theorem fd168_0 {cs : List Value} {c : Value} (h : cs[0]? = some c) : ∃ fields fd, prog.underlying 168 = some (.struct fields) ∧ fields[0]? = some fd ∧ (∀ w, (isAgg fd.type).run prog w = .ok false w) ∧ cs[fd.offset]? = some c := ⟨_, _, Tryz.underlying168, rfl, Tryz.isAgg36, h⟩
theorem sg108 : prog.eqGuardType prog.depth 108 = false := by kernel_rfl
set_option linter.unusedSimpArgs false in
theorem sq108 (a0 : Int) (a1 : Int) (b0 : Int) (b1 : Int) (w : World) : (Op.equalIn 10000 108 (.agg #[vI a0, vI a1]) (.agg #[vI b0, vI b1])).run prog w = .ok ((a0 == b0) && (a1 == b1)) w := by
 have u3 := underlying3; have i3 := isAgg3; have z3 := sizeOf3; have hS : prog.underlying 108 = some (.struct (prog.fieldsOf 108)) := by kernel_rfl
 rw [show (10000 : Nat) = 9999 + 1 from rfl, run_equalIn_agg w 9999 108 _ _ hS (by kernel_rfl)]; simp only [Program.fieldsOf, underlying108]; go_simp; by_cases h0 : a0 = b0 <;> by_cases h1 : a1 = b1 <;> simp [h0, h1]
theorem te103 : TE prog 103 99 1 (.slice none 0 0) := ⟨Tryz.underlying103, ⟨Tryz.t99, Tryz.type99, rfl, rfl, by decide⟩, rfl, by decide⟩
theorem te22 : TE prog 22 73 1 (.slice none 0 0) := ⟨Tryz.underlying22, ⟨Tryz.t73, Tryz.type73, rfl, rfl, by decide⟩, rfl, by decide⟩
theorem te25 : TE prog 25 81 4 (.agg #[(.slice none 0 0), (.int .i64 0), (.int .i64 0), (.int .i64 0)]) := ⟨Tryz.underlying25, ⟨Tryz.t81, Tryz.type81, rfl, rfl, by decide⟩, rfl, by decide⟩
theorem te34 : TE prog 34 88 4 (.agg #[(.slice none 0 0), (.int .i64 0), (.int .i64 0), (.int .i64 0)]) := ⟨Tryz.underlying34, ⟨Tryz.t88, Tryz.type88, rfl, rfl, by decide⟩, rfl, by decide⟩
theorem te36 : TE prog 36 90 6 (.agg #[(.int .i64 0), (.slice none 0 0), (.int .i64 0), (.int .i64 0), (.int .i64 0), (.int .i64 0)]) := ⟨Tryz.underlying36, ⟨Tryz.t90, Tryz.type90, rfl, rfl, by decide⟩, rfl, by decide⟩
theorem te55 : TE prog 55 108 2 (.agg #[(.int .i64 0), (.int .i64 0)]) := ⟨Tryz.underlying55, ⟨Tryz.t108, Tryz.type108, rfl, rfl, by decide⟩, rfl, by decide⟩
theorem te73 : TE prog 73 3 1 (.int .i64 0) := ⟨Tryz.underlying73, ⟨Tryz.t3, Tryz.type3, rfl, rfl, by decide⟩, rfl, by decide⟩
theorem te99 : TE prog 99 3 1 (.int .i64 0) := ⟨Tryz.underlying99, ⟨Tryz.t3, Tryz.type3, rfl, rfl, by decide⟩, rfl, by decide⟩
theorem tf102_0 : TF prog 102 0 0 := ⟨_, _, _, Tryz.underlying102, rfl, rfl, Tryz.sizeOf3, by decide⟩
theorem tf102_1 : TF prog 102 1 1 := ⟨_, _, _, Tryz.underlying102, rfl, rfl, Tryz.sizeOf3, by decide⟩
theorem tf105_0 : TF prog 105 0 0 := ⟨_, _, _, Tryz.underlying105, rfl, rfl, Tryz.sizeOf102, by decide⟩
theorem tf105_2 : TF prog 105 2 4 := ⟨_, _, _, Tryz.underlying105, rfl, rfl, Tryz.sizeOf103, by decide⟩
theorem tf108_0 : TF prog 108 0 0 := ⟨_, _, _, Tryz.underlying108, rfl, rfl, Tryz.sizeOf3, by decide⟩
theorem tf108_1 : TF prog 108 1 1 := ⟨_, _, _, Tryz.underlying108, rfl, rfl, Tryz.sizeOf3, by decide⟩
theorem tf168_0 : TF prog 168 0 0 := ⟨_, _, _, Tryz.underlying168, rfl, rfl, Tryz.sizeOf36, by decide⟩
theorem tf168_1 : TF prog 168 1 1 := ⟨_, _, _, Tryz.underlying168, rfl, rfl, Tryz.sizeOf73, by decide⟩
theorem tf175_0 : TF prog 175 0 0 := ⟨_, _, _, Tryz.underlying175, rfl, rfl, Tryz.sizeOf94, by decide⟩
theorem tf175_1 : TF prog 175 1 1 := ⟨_, _, _, Tryz.underlying175, rfl, rfl, Tryz.sizeOf36, by decide⟩
theorem tf175_2 : TF prog 175 2 2 := ⟨_, _, _, Tryz.underlying175, rfl, rfl, Tryz.sizeOf103, by decide⟩
theorem tf175_3 : TF prog 175 3 3 := ⟨_, _, _, Tryz.underlying175, rfl, rfl, Tryz.sizeOf73, by decide⟩
theorem tf24_0 : TF prog 24 0 0 := ⟨_, _, _, Tryz.underlying24, rfl, rfl, Tryz.sizeOf3, by decide⟩
theorem tf24_1 : TF prog 24 1 1 := ⟨_, _, _, Tryz.underlying24, rfl, rfl, Tryz.sizeOf22, by decide⟩
theorem tf32_0 : TF prog 32 0 0 := ⟨_, _, _, Tryz.underlying32, rfl, rfl, Tryz.sizeOf3, by decide⟩
theorem tf32_1 : TF prog 32 1 1 := ⟨_, _, _, Tryz.underlying32, rfl, rfl, Tryz.sizeOf22, by decide⟩
theorem tf81_0 : TF prog 81 0 0 := ⟨_, _, _, Tryz.underlying81, rfl, rfl, Tryz.sizeOf73, by decide⟩
theorem tf81_1 : TF prog 81 1 1 := ⟨_, _, _, Tryz.underlying81, rfl, rfl, Tryz.sizeOf3, by decide⟩
theorem tf81_2 : TF prog 81 2 2 := ⟨_, _, _, Tryz.underlying81, rfl, rfl, Tryz.sizeOf3, by decide⟩
theorem tf81_3 : TF prog 81 3 3 := ⟨_, _, _, Tryz.underlying81, rfl, rfl, Tryz.sizeOf3, by decide⟩
theorem tf88_0 : TF prog 88 0 0 := ⟨_, _, _, Tryz.underlying88, rfl, rfl, Tryz.sizeOf73, by decide⟩
theorem tf88_1 : TF prog 88 1 1 := ⟨_, _, _, Tryz.underlying88, rfl, rfl, Tryz.sizeOf3, by decide⟩
theorem tf88_2 : TF prog 88 2 2 := ⟨_, _, _, Tryz.underlying88, rfl, rfl, Tryz.sizeOf3, by decide⟩
theorem tf88_3 : TF prog 88 3 3 := ⟨_, _, _, Tryz.underlying88, rfl, rfl, Tryz.sizeOf3, by decide⟩
theorem tf90_0 : TF prog 90 0 0 := ⟨_, _, _, Tryz.underlying90, rfl, rfl, Tryz.sizeOf3, by decide⟩
theorem tf90_1 : TF prog 90 1 1 := ⟨_, _, _, Tryz.underlying90, rfl, rfl, Tryz.sizeOf55, by decide⟩
theorem tf90_2 : TF prog 90 2 2 := ⟨_, _, _, Tryz.underlying90, rfl, rfl, Tryz.sizeOf3, by decide⟩
theorem tf90_3 : TF prog 90 3 3 := ⟨_, _, _, Tryz.underlying90, rfl, rfl, Tryz.sizeOf3, by decide⟩
theorem tf90_4 : TF prog 90 4 4 := ⟨_, _, _, Tryz.underlying90, rfl, rfl, Tryz.sizeOf3, by decide⟩
theorem tf90_5 : TF prog 90 5 5 := ⟨_, _, _, Tryz.underlying90, rfl, rfl, Tryz.sizeOf3, by decide⟩
theorem w_laws_szIntS {Ha : GH} {wa : World} (hs : Sl Ha wa) (v0 : Value) (a0 : List Int) (p0 : RSl Ha eI 1 v0 a0) (a1 : Int) :
  Calls prog 113 #[v0, vI a1] wa (Sc Ha wa (vI (PF.laws_szIntS a0 a1))) := by
 obtain ⟨r, hp⟩ : ∃ r, (PF.laws_szIntS a0 a1) = r := ⟨_, rfl⟩; rw [hp]; unfold PF.laws_szIntS at hp; have S0 := St.init hs; refine calls_go (N := 12) (args := [v0, vI a1]) func113 rfl rfl rfl ?_; refine FW.sr ?_; refine FL.as (v := vI 0) rfl ?_; refine FL.nil (FW.sr ?_); refine FL.mv (v := vI a1) rfl ?_; refine FL.mv (v := v0) rfl ?_; refine FL.v (E.lenP te73 rfl p0) ?_; refine FL.v (E.sub rfl rfl) ?_; refine FL.as (v := vI (wr (a1 - (len a0)))) rfl ?_; refine FL.nil (FW.seq (FW.sr ?_)); refine FL.mv (v := vI (wr (a1 - (len a0)))) rfl ?_; refine FL.v (E.lss rfl rfl) ?_; refine FL.nil ?_; rcases ifT hp with ⟨c21, hp⟩ | ⟨c21, hp⟩
 ·
  refine FW.condT rfl c21 ?_; refine FW.sr ?_; refine FL.as (v := vI (-1)) rfl ?_; refine FL.nil (FW.ret ?_); obtain rfl := hp; exact ⟨.inr rfl, res1 rfl rfl ⟨rfl, S0.back⟩⟩
 ·
  refine FW.condF rfl c21 ?_; refine FW.skip (FW.sr ?_); refine FL.mv (v := vI (wr (a1 - (len a0)))) rfl ?_; refine FL.as (v := vI (wr (a1 - (len a0)))) rfl ?_; refine FL.nil (FW.ret ?_); obtain rfl := hp; exact ⟨.inr rfl, res1 rfl rfl ⟨rfl, S0.back⟩⟩

theorem w_laws_szIntSS {Ha : GH} {wa : World} (hs : Sl Ha wa) (v0 : Value) (a0 : List (List Int)) (p0 : RSl Ha (eL eI 1) 1 v0 a0) (a1 : Int) {r : Int} (hp : (PF.laws_szIntSS a0 a1) = some r) :
  Calls prog 55 #[v0, vI a1] wa (Sc Ha wa (vI r)) := by
 unfold PF.laws_szIntSS at hp; have S0 := St.init hs; refine calls_go (N := 27) (args := [v0, vI a1]) func55 rfl rfl rfl ?_; refine FW.sr ?_; refine FL.as (v := vI 0) rfl ?_; refine FL.nil (FW.sr ?_); refine FL.mv (v := vI a1) rfl ?_; refine FL.mv (v := v0) rfl ?_; refine FL.v (E.lenP te22 rfl p0) ?_; refine FL.v (E.sub rfl rfl) ?_; refine FL.as (v := vI (wr (a1 - (len a0)))) rfl ?_; refine FL.nil (FW.seq (FW.sr ?_)); refine FL.mv (v := vI (wr (a1 - (len a0)))) rfl ?_; refine FL.v (E.lss rfl rfl) ?_; refine FL.nil ?_; rcases ifB hp with ⟨c21, hp⟩ | ⟨c21, hp⟩
 ·
  refine FW.condT rfl c21 ?_; refine FW.sr ?_; refine FL.as (v := vI (-1)) rfl ?_; refine FL.nil (FW.ret ?_); cases hp; exact ⟨.inr rfl, res1 rfl rfl ⟨rfl, S0.back⟩⟩
 ·
  refine FW.condF rfl c21 ?_; refine FW.skip (FW.seq (FW.sr ?_)); refine FL.as (v := vI 0) rfl ?_; refine FL.nil ?_; obtain ⟨q23, hq, hp⟩ := bndR hp; refine FW.block ?_; refine FW.mono (FW.forL (S := Int) (X := Int) (fun (i23 : Nat) (s23 : Int) f w => ∃ H : GH, St Ha wa H w [] ∧ Inc Ha H ∧ f 5 = vI ((i23 : Nat) : Int) ∧ f 0 = v0 ∧ f 1 = vI s23) (fun q e f w => match q with | .go s23 => e = Exit.exit 0 ∧ (∃ H : GH, St Ha wa H w [] ∧ Inc Ha H ∧ f 1 = vI s23) | .rt x => ((e = Exit.ret) ∧ (fun e f w => (e = Exit.normal ∨ e = Exit.ret) ∧ ∀ a, Fr (δ := []) 27 a f → ∃ v, (results Tryz.f55 a.tmps).run prog w = .ok v w ∧ (Sc Ha wa (vI x)) (.returned v) w) e f w)) hq ⟨_, S0, I0, rfl, rfl, rfl⟩ ?_ ?_) ?_
  ·
   clear hp hq; rintro i23 y22 s23 f48 w47 ⟨H44, S45, i46, k49, k50, k51⟩ hx23 o64 hp; refine FW.seq (FW.sr ?_); refine FL.mv k49 ?_; refine FL.mv k50 ?_; refine FL.v (E.lenP te22 rfl p0) ?_; refine FL.v (E.lssT rfl rfl (lss_len hx23)) ?_; refine FL.nil ?_; refine FW.condT rfl rfl ?_; refine FW.skip (FW.seq (FW.block (FW.sr ?_))); refine FL.mv k50 ?_; refine FL.mv k49 ?_; obtain ⟨p52, cs53, pt54, l55, at56, rel57⟩ := p0.at (ix_nat hx23); obtain ⟨v58, rfl, h59⟩ := eL_open rel57; refine FL.v (E.indexAddr te22 rfl rfl pt54) ?_; refine FL.v (E.load rfl (run_load0 isAgg73 ((at56.mono i46).now S45.sl) rfl)) ?_; refine FL.mv k51 ?_; refine FL.c (E.call call113 (A2 rfl rfl)) (w_laws_szIntS S45.sl v58 y22 (h59.mono i46) s23) ?_; rintro e w60 ⟨rfl, r61⟩; refine ⟨_, rfl, ?_⟩; have S62 := S45.call r61; refine FL.as (v := vI (PF.laws_szIntS y22 s23)) rfl ?_; refine FL.nil (FW.sr ?_); refine FL.mv (v := vI (PF.laws_szIntS y22 s23)) rfl ?_; refine FL.v (E.lss rfl rfl) ?_; refine FL.nil ?_; rcases ifB hp with ⟨c63, hp⟩ | ⟨c63, hp⟩
   ·
    refine FW.condT rfl c63 ?_; refine FW.sr ?_; refine FL.as (v := vI (-1)) rfl ?_; refine FL.nil (FW.ret ?_); cases hp; exact ⟨nofun, rfl, ⟨.inr rfl, res1 rfl rfl ⟨rfl, S62.back⟩⟩⟩
   ·
    refine FW.condF rfl c63 ?_; refine FW.skip (FW.region ?_); refine FL.mv k49 ?_; refine FL.v (E.add rfl rfl) ?_; refine FL.as (v := vI (wr (((i23 : Nat) : Int) + 1))) rfl ?_; refine FL.nil ?_; cases hp; exact ⟨rfl, ⟨_, S62, i46, (nat_succ rfl (lt_of_get hx23) (p0.mono i46).le), k50, rfl⟩⟩
  ·
   clear hp hq; rintro s23 f75 w74 ⟨H71, S72, i73, k76, k77, k78⟩; refine FW.seq (FW.sr ?_); refine FL.mv k76 ?_; refine FL.mv k77 ?_; refine FL.v (E.lenP te22 rfl p0) ?_; refine FL.v (E.lss rfl rfl) ?_; refine FL.nil ?_; refine FW.condF rfl dlt_len ?_; refine FW.exit ?_; exact ⟨nofun, rfl, ⟨_, S72, i73, k78⟩⟩
  ·
   clear hq; intro e f69 w68 hD; rcases q23 with s23 | x23
   ·
    obtain ⟨rfl, hD⟩ := hD; obtain ⟨H65, S66, i67, k70⟩ := hD; replace hp := el_go hp; refine FW.sr ?_; refine FL.mv k70 ?_; refine FL.as (v := vI s23) rfl ?_; refine FL.nil (FW.ret ?_); cases hp; exact ⟨.inr rfl, res1 rfl rfl ⟨rfl, S66.back⟩⟩
   ·
    obtain ⟨he, hL⟩ := hD; replace hp := el_rt hp; cases hp; subst he; exact hL

theorem w_laws_szCnf {Ha : GH} {wa : World} (hs : Sl Ha wa) (a0 : Cnf) (v0_1 : Value) (p0_1 : RSl Ha (eL eI 1) 1 v0_1 a0.clauses) (a1 : Int) {r : Int} (hp : (PF.laws_szCnf a0 a1) = some r) :
  Calls prog 11 #[vA #[vI a0.vars, v0_1], vI a1] wa (Sc Ha wa (vI r)) := by
 unfold PF.laws_szCnf at hp; have S0 := St.init hs; refine calls_go (N := 12) (args := [vA #[vI a0.vars, v0_1], vI a1]) func11 rfl rfl rfl ?_; refine FW.sr ?_; obtain ⟨b21, w22, run23, S24⟩ := S0.box (P := prog) 24 [vI a0.vars, v0_1] (v := vA #[vI a0.vars, v0_1]) rfl (oC rfl (oC p0_1.one ones_nil)); refine FL.v (E.box rfl run23) ?_; obtain ⟨H25, S26, i27, at28⟩ := S24.sealBox (i := 0) (l' := []) rfl rfl; refine FL.as (v := vI 0) rfl ?_; refine FL.nil (FW.sr ?_); refine FL.v (E.fieldAddr tf24_1 rfl) ?_; refine FL.v (E.load rfl (run_load1 isAgg22 (at28.now S26.sl) rfl)) ?_; refine FL.mv (v := vI a1) rfl ?_; obtain ⟨r29, hr30, hp⟩ := bnd hp; refine FL.c (E.call call55 (A2 rfl rfl)) (w_laws_szIntSS S26.sl v0_1 a0.clauses (p0_1.mono i27) a1 hr30) ?_; rintro e w31 ⟨rfl, r32⟩; refine ⟨_, rfl, ?_⟩; have S33 := S26.call r32; refine FL.as (v := vI r29) rfl ?_; refine FL.nil (FW.seq (FW.sr ?_)); refine FL.mv (v := vI r29) rfl ?_; refine FL.v (E.lss rfl rfl) ?_; refine FL.nil ?_; rcases ifB hp with ⟨c34, hp⟩ | ⟨c34, hp⟩
 ·
  refine FW.condT rfl c34 ?_; refine FW.sr ?_; refine FL.as (v := vI (-1)) rfl ?_; refine FL.nil (FW.ret ?_); cases hp; exact ⟨.inr rfl, res1 rfl rfl ⟨rfl, S33.back⟩⟩
 ·
  refine FW.condF rfl c34 ?_; refine FW.skip (FW.sr ?_); refine FL.mv (v := vI r29) rfl ?_; refine FL.as (v := vI r29) rfl ?_; refine FL.nil (FW.ret ?_); cases hp; exact ⟨.inr rfl, res1 rfl rfl ⟨rfl, S33.back⟩⟩

theorem w_laws_szResStep {Ha : GH} {wa : World} (hs : Sl Ha wa) (a0 : ResStep) (v0_0 : Value) (p0_0 : RSl Ha eI 1 v0_0 a0.clause) (a1 : Int) :
  Calls prog 56 #[vA #[v0_0, vI a0.left, vI a0.right, vI a0.pivot], vI a1] wa (Sc Ha wa (vI (PF.laws_szResStep a0 a1))) := by
 obtain ⟨r, hp⟩ : ∃ r, (PF.laws_szResStep a0 a1) = r := ⟨_, rfl⟩; rw [hp]; unfold PF.laws_szResStep at hp; have S0 := St.init hs; refine calls_go (N := 12) (args := [vA #[v0_0, vI a0.left, vI a0.right, vI a0.pivot], vI a1]) func56 rfl rfl rfl ?_; refine FW.sr ?_; obtain ⟨b21, w22, run23, S24⟩ := S0.box (P := prog) 81 [v0_0, vI a0.left, vI a0.right, vI a0.pivot] (v := vA #[v0_0, vI a0.left, vI a0.right, vI a0.pivot]) rfl (oC p0_0.one (oC rfl (oC rfl (oC rfl ones_nil)))); refine FL.v (E.box rfl run23) ?_; obtain ⟨H25, S26, i27, at28⟩ := S24.sealBox (i := 0) (l' := []) rfl rfl; refine FL.as (v := vI 0) rfl ?_; refine FL.nil (FW.sr ?_); refine FL.v (E.fieldAddr tf81_0 rfl) ?_; refine FL.v (E.load rfl (run_load1 isAgg73 (at28.now S26.sl) rfl)) ?_; refine FL.mv (v := vI a1) rfl ?_; refine FL.c (E.call call113 (A2 rfl rfl)) (w_laws_szIntS S26.sl v0_0 a0.clause (p0_0.mono i27) a1) ?_; rintro e w29 ⟨rfl, r30⟩; refine ⟨_, rfl, ?_⟩; have S31 := S26.call r30; refine FL.as (v := vI (PF.laws_szIntS a0.clause a1)) rfl ?_; refine FL.nil (FW.seq (FW.sr ?_)); refine FL.mv (v := vI (PF.laws_szIntS a0.clause a1)) rfl ?_; refine FL.v (E.lss rfl rfl) ?_; refine FL.nil ?_; rcases ifT hp with ⟨c32, hp⟩ | ⟨c32, hp⟩
 ·
  refine FW.condT rfl c32 ?_; refine FW.sr ?_; refine FL.as (v := vI (-1)) rfl ?_; refine FL.nil (FW.ret ?_); obtain rfl := hp; exact ⟨.inr rfl, res1 rfl rfl ⟨rfl, S31.back⟩⟩
 ·
  refine FW.condF rfl c32 ?_; refine FW.skip (FW.sr ?_); refine FL.mv (v := vI (PF.laws_szIntS a0.clause a1)) rfl ?_; refine FL.as (v := vI (PF.laws_szIntS a0.clause a1)) rfl ?_; refine FL.nil (FW.ret ?_); obtain rfl := hp; exact ⟨.inr rfl, res1 rfl rfl ⟨rfl, S31.back⟩⟩

theorem w_laws_szResStepS {Ha : GH} {wa : World} (hs : Sl Ha wa) (v0 : Value) (a0 : List ResStep) (p0 : RSl Ha eResStep 4 v0 a0) (a1 : Int) {r : Int} (hp : (PF.laws_szResStepS a0 a1) = some r) :
  Calls prog 12 #[v0, vI a1] wa (Sc Ha wa (vI r)) := by
 unfold PF.laws_szResStepS at hp; have S0 := St.init hs; refine calls_go (N := 27) (args := [v0, vI a1]) func12 rfl rfl rfl ?_; refine FW.sr ?_; refine FL.as (v := vI 0) rfl ?_; refine FL.nil (FW.sr ?_); refine FL.mv (v := vI a1) rfl ?_; refine FL.mv (v := v0) rfl ?_; refine FL.v (E.lenP te25 rfl p0) ?_; refine FL.v (E.sub rfl rfl) ?_; refine FL.as (v := vI (wr (a1 - (len a0)))) rfl ?_; refine FL.nil (FW.seq (FW.sr ?_)); refine FL.mv (v := vI (wr (a1 - (len a0)))) rfl ?_; refine FL.v (E.lss rfl rfl) ?_; refine FL.nil ?_; rcases ifB hp with ⟨c21, hp⟩ | ⟨c21, hp⟩
 ·
  refine FW.condT rfl c21 ?_; refine FW.sr ?_; refine FL.as (v := vI (-1)) rfl ?_; refine FL.nil (FW.ret ?_); cases hp; exact ⟨.inr rfl, res1 rfl rfl ⟨rfl, S0.back⟩⟩
 ·
  refine FW.condF rfl c21 ?_; refine FW.skip (FW.seq (FW.sr ?_)); refine FL.as (v := vI 0) rfl ?_; refine FL.nil ?_; obtain ⟨q23, hq, hp⟩ := bndR hp; refine FW.block ?_; refine FW.mono (FW.forL (S := Int) (X := Int) (fun (i23 : Nat) (s23 : Int) f w => ∃ H : GH, St Ha wa H w [] ∧ Inc Ha H ∧ f 5 = vI ((i23 : Nat) : Int) ∧ f 0 = v0 ∧ f 1 = vI s23) (fun q e f w => match q with | .go s23 => e = Exit.exit 0 ∧ (∃ H : GH, St Ha wa H w [] ∧ Inc Ha H ∧ f 1 = vI s23) | .rt x => ((e = Exit.ret) ∧ (fun e f w => (e = Exit.normal ∨ e = Exit.ret) ∧ ∀ a, Fr (δ := []) 27 a f → ∃ v, (results Tryz.f12 a.tmps).run prog w = .ok v w ∧ (Sc Ha wa (vI x)) (.returned v) w) e f w)) hq ⟨_, S0, I0, rfl, rfl, rfl⟩ ?_ ?_) ?_
  ·
   clear hp hq; rintro i23 y22 s23 f48 w47 ⟨H44, S45, i46, k49, k50, k51⟩ hx23 o64 hp; refine FW.seq (FW.sr ?_); refine FL.mv k49 ?_; refine FL.mv k50 ?_; refine FL.v (E.lenP te25 rfl p0) ?_; refine FL.v (E.lssT rfl rfl (lss_len hx23)) ?_; refine FL.nil ?_; refine FW.condT rfl rfl ?_; refine FW.skip (FW.seq (FW.block (FW.sr ?_))); refine FL.mv k50 ?_; refine FL.mv k49 ?_; obtain ⟨p52, cs53, pt54, l55, at56, rel57⟩ := p0.at (ix_nat hx23); obtain ⟨v58, rfl, h59⟩ := eResStep_open rel57; refine FL.v (E.indexAddr te25 rfl rfl pt54) ?_; refine FL.v (E.load rfl (run_loadA isAgg81 sizeOf81 ((at56.mono i46).now S45.sl) rfl)) ?_; refine FL.mv k51 ?_; refine FL.c (E.call call56 (A2 rfl rfl)) (w_laws_szResStep S45.sl y22 v58 (h59.mono i46) s23) ?_; rintro e w60 ⟨rfl, r61⟩; refine ⟨_, rfl, ?_⟩; have S62 := S45.call r61; refine FL.as (v := vI (PF.laws_szResStep y22 s23)) rfl ?_; refine FL.nil (FW.sr ?_); refine FL.mv (v := vI (PF.laws_szResStep y22 s23)) rfl ?_; refine FL.v (E.lss rfl rfl) ?_; refine FL.nil ?_; rcases ifB hp with ⟨c63, hp⟩ | ⟨c63, hp⟩
   ·
    refine FW.condT rfl c63 ?_; refine FW.sr ?_; refine FL.as (v := vI (-1)) rfl ?_; refine FL.nil (FW.ret ?_); cases hp; exact ⟨nofun, rfl, ⟨.inr rfl, res1 rfl rfl ⟨rfl, S62.back⟩⟩⟩
   ·
    refine FW.condF rfl c63 ?_; refine FW.skip (FW.region ?_); refine FL.mv k49 ?_; refine FL.v (E.add rfl rfl) ?_; refine FL.as (v := vI (wr (((i23 : Nat) : Int) + 1))) rfl ?_; refine FL.nil ?_; cases hp; exact ⟨rfl, ⟨_, S62, i46, (nat_succ rfl (lt_of_get hx23) (p0.mono i46).le), k50, rfl⟩⟩
  ·
   clear hp hq; rintro s23 f75 w74 ⟨H71, S72, i73, k76, k77, k78⟩; refine FW.seq (FW.sr ?_); refine FL.mv k76 ?_; refine FL.mv k77 ?_; refine FL.v (E.lenP te25 rfl p0) ?_; refine FL.v (E.lss rfl rfl) ?_; refine FL.nil ?_; refine FW.condF rfl dlt_len ?_; refine FW.exit ?_; exact ⟨nofun, rfl, ⟨_, S72, i73, k78⟩⟩
  ·
   clear hq; intro e f69 w68 hD; rcases q23 with s23 | x23
   ·
    obtain ⟨rfl, hD⟩ := hD; obtain ⟨H65, S66, i67, k70⟩ := hD; replace hp := el_go hp; refine FW.sr ?_; refine FL.mv k70 ?_; refine FL.as (v := vI s23) rfl ?_; refine FL.nil (FW.ret ?_); cases hp; exact ⟨.inr rfl, res1 rfl rfl ⟨rfl, S66.back⟩⟩
   ·
    obtain ⟨he, hL⟩ := hD; replace hp := el_rt hp; cases hp; subst he; exact hL

@[reducible] def p_laws_toIntS (Ha : GH) (wa : World) (r : (List Int)) : Ending → World → Prop :=
  fun e w' => ∃ H' : GH, ∃ v0 : Value, ∃ n0 : Nat, ∃ c0 : List Value, e = .returned (v0) ∧ St Ha wa H' w' [.row 3 1 v0 n0 c0] ∧ Els (up wa.heap.size H') eI 1 c0 r
theorem w_laws_toIntS {Ha : GH} {wa : World} (hs : Sl Ha wa) (v0 : Value) (a0 : List Int) (p0 : RSl Ha eI 1 v0 a0) {r : (List Int)} (hp : (PF.laws_toIntS a0) = some r) :
    Calls prog 118 #[v0] wa (p_laws_toIntS Ha wa r) := by
  unfold PF.laws_toIntS at hp
  have S0 := St.init hs
  refine calls_go (N := 22) (args := [v0]) Tryz.func118 rfl rfl rfl ?_
  refine FW.seq (FW.region ?_)
  refine FL.v (E.assign (v := vN) rfl) ?_
  refine FL.nil (FW.seq (FW.region ?_))
  refine FL.v (E.move (v := v0) rfl) ?_
  refine FL.v (E.lenP te73 rfl p0) ?_
  obtain ⟨xs21, hm22, hp⟩ := bnd hp
  obtain ⟨v23, w24, n28, cs29, run25, S26, els27, hbl30⟩ := S0.makeEls (P := prog) te73 (G := (up wa.heap.size Ha)) (En := eI) (x0 := (0 : Int)) hm22 rfl (ones_cons rfl ones_nil) .i64 .i64
  refine FL.v (E.makeSlice rfl rfl run25) ?_
  refine FL.v (E.assign (v := v23) rfl) ?_
  refine FL.nil (FW.seq (FW.seq (FW.region ?_)))
  refine FL.v (E.assign (v := vI 0) rfl) ?_
  refine FL.nil ?_
  obtain ⟨q32, hq, hp⟩ := bndR hp
  refine FW.block ?_
  refine FW.mono (FW.forL (S := (List Int)) (X := Empty) (fun (i32 : Nat) (s32 : (List Int)) f w => ∃ H : GH, ∃ v63 : Value, ∃ n64 : Nat, ∃ cs65 : List Value, St Ha wa H w [.row 3 1 v63 n64 cs65] ∧ Inc Ha H ∧ Els (up wa.heap.size H) eI 1 cs65 s32 ∧ f 4 = vI ((i32 : Nat) : Int) ∧ f 0 = v0 ∧ f 3 = v63) (fun (q : Rs (List Int) Empty) e f w => match q with | .go s32 => e = Exit.exit 0 ∧ (∃ H : GH, ∃ v63 : Value, ∃ n64 : Nat, ∃ cs65 : List Value, St Ha wa H w [.row 3 1 v63 n64 cs65] ∧ Inc Ha H ∧ Els (up wa.heap.size H) eI 1 cs65 s32 ∧ f 3 = v63) | .rt x => x.elim) hq ⟨_, _, _, _, S26, (Inc.rfl _), els27, rfl, rfl, rfl⟩ ?_ ?_) ?_
  ·
    clear hp hq
    rintro i32 y31 s32 f101 w100 ⟨H97, v63, n64, cs65, S98, i99, els66, k102, k103, k104⟩ hx32 o127 hp
    refine FW.seq (FW.seq (FW.region ?_))
    refine FL.v (E.move k102) ?_
    refine FL.v (E.move k103) ?_
    refine FL.v (E.lenP te73 rfl p0) ?_
    refine FL.v (E.lssT rfl rfl (lss_len hx32)) ?_
    refine FL.nil ?_
    refine FW.condT rfl rfl ?_
    refine FW.skip (FW.seq (FW.block (FW.region ?_)))
    refine FL.v (E.move k104) ?_
    refine FL.v (E.move k102) ?_
    refine FL.v (E.move k103) ?_
    refine FL.v (E.move k102) ?_
    obtain ⟨p105, cs106, pt107, l108, at109, rel110⟩ := p0.at (ix_nat hx32)
    obtain rfl := eI_open rel110
    refine FL.v (E.indexAddr te73 rfl rfl pt107) ?_
    refine FL.v (E.load rfl (run_load0 Tryz.isAgg3 ((at109.mono i99).now S98.sl) rfl)) ?_
    obtain ⟨x117, hx118, hp⟩ := bnd hp
    obtain ⟨p111, cs112, pt113, l114, at115, rel116⟩ := S98.row_at (i := 0) rfl els66 (by decide) hx118
    obtain rfl := eI_open rel116
    refine FL.v (E.indexAddr te73 rfl rfl pt113) ?_
    obtain ⟨xs122, hput123, hp⟩ := bnd hp
    obtain ⟨w119, cs125, run120, S121, els124, ce126⟩ := S98.putEls (P := prog) (t := 3) (i := 0) rfl els66 hput123 pt113 Tryz.sizeOf3 (u := vI y31) (c := [vI y31]) rfl rfl (ones_cons rfl ones_nil) rfl
    have S121 : St Ha wa H97 w119 [.row 3 1 v63 n64 cs125] := S121
    refine FL.act rfl rfl (E.store rfl rfl run120) ?_
    refine FL.nil (FW.region ?_)
    refine FL.v (E.move k102) ?_
    refine FL.v (E.add rfl rfl) ?_
    refine FL.v (E.assign (v := vI (wr (((i32 : Nat) : Int) + 1))) rfl) ?_
    refine FL.nil ?_
    obtain rfl := Option.some.inj hp
    exact ⟨rfl, ⟨_, _, _, _, S121, i99, els124, (nat_succ rfl (lt_of_get hx32) (p0.mono i99).le), k103, k104⟩⟩
  ·
    clear hp hq
    rintro s32 f138 w137 ⟨H134, v63, n64, cs65, S135, i136, els66, k139, k140, k141⟩
    refine FW.seq (FW.seq (FW.region ?_))
    refine FL.v (E.move k139) ?_
    refine FL.v (E.move k140) ?_
    refine FL.v (E.lenP te73 rfl p0) ?_
    refine FL.v (E.lss rfl rfl) ?_
    refine FL.nil ?_
    refine FW.condF rfl dlt_len ?_
    refine FW.exit ?_
    exact ⟨nofun, rfl, ⟨_, _, _, _, S135, i136, els66, k141⟩⟩
  ·
    clear hq
    intro e f132 w131 hD
    rcases q32 with s32 | x32
    ·
      obtain ⟨rfl, hD⟩ := hD
      obtain ⟨H128, v63, n64, cs65, S129, i130, els66, k133⟩ := hD
      replace hp := el_go hp
      refine FW.seq (FW.region ?_)
      refine FL.v (E.move k133) ?_
      refine FL.v (E.assign (v := v63) rfl) ?_
      refine FL.nil ?_
      refine FW.ret ?_
      obtain rfl := Option.some.inj hp
      exact ⟨.inr rfl, res1 rfl rfl ⟨_, _, _, _, rfl, S129, els66⟩⟩
    · exact x32.elim

@[reducible] def p_laws_toIntSS (Ha : GH) (wa : World) (r : (List (List Int))) : Ending → World → Prop :=
  fun e w' => ∃ H' : GH, ∃ v0 : Value, ∃ n0 : Nat, ∃ c0 : List Value, e = .returned (v0) ∧ St Ha wa H' w' [.row 73 1 v0 n0 c0] ∧ Els (up wa.heap.size H') (eL eI 1) 1 c0 r ∧ (bl c0).Nodup
theorem w_laws_toIntSS {Ha : GH} {wa : World} (hs : Sl Ha wa) (v0 : Value) (a0 : List (List Int)) (p0 : RSl Ha (eL eI 1) 1 v0 a0) {r : (List (List Int))} (hp : (PF.laws_toIntSS a0) = some r) :
    Calls prog 62 #[v0] wa (p_laws_toIntSS Ha wa r) := by
  unfold PF.laws_toIntSS at hp
  have S0 := St.init hs
  refine calls_go (N := 23) (args := [v0]) Tryz.func62 rfl rfl rfl ?_
  refine FW.seq (FW.region ?_)
  refine FL.v (E.assign (v := vN) rfl) ?_
  refine FL.nil (FW.seq (FW.region ?_))
  refine FL.v (E.move (v := v0) rfl) ?_
  refine FL.v (E.lenP te22 rfl p0) ?_
  obtain ⟨xs21, hm22, hp⟩ := bnd hp
  obtain ⟨v23, w24, n28, cs29, run25, S26, els27, hbl30⟩ := S0.makeEls (P := prog) te22 (G := (up wa.heap.size Ha)) (En := (eL eI 1)) (x0 := ([] : List Int)) hm22 ⟨_, rfl, RSl.nil _ _ _⟩ (ones_cons rfl ones_nil) .i64 .i64
  have nd31 : (bl cs29).Nodup := by rw [hbl30 (by simp [Value.cells, neb])]; exact List.nodup_nil
  refine FL.v (E.makeSlice rfl rfl run25) ?_
  refine FL.v (E.assign (v := v23) rfl) ?_
  refine FL.nil (FW.seq (FW.seq (FW.region ?_)))
  refine FL.v (E.assign (v := vI 0) rfl) ?_
  refine FL.nil ?_
  obtain ⟨q33, hq, hp⟩ := bndR hp
  refine FW.block ?_
  refine FW.mono (FW.forL (S := (List (List Int))) (X := Empty) (fun (i33 : Nat) (s33 : (List (List Int))) f w => ∃ H : GH, ∃ v84 : Value, ∃ n85 : Nat, ∃ cs86 : List Value, St Ha wa H w [.row 73 1 v84 n85 cs86] ∧ Inc Ha H ∧ Els (up wa.heap.size H) (eL eI 1) 1 cs86 s33 ∧ (bl cs86).Nodup ∧ f 4 = vI ((i33 : Nat) : Int) ∧ f 0 = v0 ∧ f 3 = v84) (fun (q : Rs (List (List Int)) Empty) e f w => match q with | .go s33 => e = Exit.exit 0 ∧ (∃ H : GH, ∃ v84 : Value, ∃ n85 : Nat, ∃ cs86 : List Value, St Ha wa H w [.row 73 1 v84 n85 cs86] ∧ Inc Ha H ∧ Els (up wa.heap.size H) (eL eI 1) 1 cs86 s33 ∧ (bl cs86).Nodup ∧ f 3 = v84) | .rt x => x.elim) hq ⟨_, _, _, _, S26, (Inc.rfl _), els27, nd31, rfl, rfl, rfl⟩ ?_ ?_) ?_
  ·
    clear hp hq
    rintro i33 y32 s33 f143 w142 ⟨H139, v84, n85, cs86, S140, i141, els87, nd88, k144, k145, k146⟩ hx33 o189 hp
    refine FW.seq (FW.seq (FW.region ?_))
    refine FL.v (E.move k144) ?_
    refine FL.v (E.move k145) ?_
    refine FL.v (E.lenP te22 rfl p0) ?_
    refine FL.v (E.lssT rfl rfl (lss_len hx33)) ?_
    refine FL.nil ?_
    refine FW.condT rfl rfl ?_
    refine FW.skip (FW.seq (FW.block (FW.region ?_)))
    refine FL.v (E.move k146) ?_
    refine FL.v (E.move k144) ?_
    refine FL.v (E.move k145) ?_
    refine FL.v (E.move k144) ?_
    obtain ⟨p147, cs148, pt149, l150, at151, rel152⟩ := p0.at (ix_nat hx33)
    obtain ⟨v153, rfl, h154⟩ := eL_open rel152
    refine FL.v (E.indexAddr te22 rfl rfl pt149) ?_
    refine FL.v (E.load rfl (run_load0 Tryz.isAgg73 ((at151.mono i141).now S140.sl) rfl)) ?_
    obtain ⟨r155, hr156, hp⟩ := bnd hp
    refine FL.call rfl rfl rfl (E.call Tryz.call118 (A1 rfl)) (w_laws_toIntS S140.sl v153 y32 (h154.mono i141) hr156) ?_
    rintro e w158 ⟨H157, v161, n162, cs163, rfl, r160, els164⟩
    refine ⟨_, rfl, ?_⟩
    have els164 := els164.mono (up_le S140.size)
    have S159 := S140.join (l' := [.row 3 1 v161 n162 cs163, .row 73 1 v84 n85 cs86]) r160 rfl
    obtain ⟨x171, hx172, hp⟩ := bnd hp
    obtain ⟨p165, cs166, pt167, l168, at169, rel170⟩ := S159.row_at (i := 1) rfl els87 (by decide) hx172
    obtain ⟨v173, rfl, h174⟩ := eL_open rel170
    refine FL.v (E.indexAddr te22 rfl rfl pt167) ?_
    obtain ⟨H175, S176, i177, h178, nv179⟩ := S159.sealRowU (i := 0) (l' := [.row 73 1 v84 n85 cs86]) rfl els164 (by decide) rfl
    obtain ⟨xs183, hput184, hp⟩ := bnd hp
    obtain ⟨w180, cs186, run181, S182, els185, ce187⟩ := S176.putEls (P := prog) (t := 73) (i := 0) rfl (els87.mono (up_mono (r160.run.inc.tr i177))) hput184 pt167 Tryz.sizeOf73 (u := v161) (c := [v161]) h178.cells rfl (ones_cons h178.one ones_nil) ⟨_, rfl, h178⟩
    have S182 : St Ha wa H175 w180 [.row 73 1 v84 n85 cs186] := S182
    have nd188 : (bl cs186).Nodup := by rw [ce187]; exact nd_put (Nat.le_add_right _ _) nd88 (by exact nd_one v161) (Els.dom (els87.mono (upI.tr r160.run.inc))) (by exact nv179)
    refine FL.act rfl rfl (E.store rfl rfl run181) ?_
    refine FL.nil (FW.region ?_)
    refine FL.v (E.move k144) ?_
    refine FL.v (E.add rfl rfl) ?_
    refine FL.v (E.assign (v := vI (wr (((i33 : Nat) : Int) + 1))) rfl) ?_
    refine FL.nil ?_
    obtain rfl := Option.some.inj hp
    exact ⟨rfl, ⟨_, _, _, _, S182, ((i141.tr r160.run.inc).tr i177), els185, nd188, (nat_succ rfl (lt_of_get hx33) (p0.mono ((i141.tr r160.run.inc).tr i177)).le), k145, k146⟩⟩
  ·
    clear hp hq
    rintro s33 f200 w199 ⟨H196, v84, n85, cs86, S197, i198, els87, nd88, k201, k202, k203⟩
    refine FW.seq (FW.seq (FW.region ?_))
    refine FL.v (E.move k201) ?_
    refine FL.v (E.move k202) ?_
    refine FL.v (E.lenP te22 rfl p0) ?_
    refine FL.v (E.lss rfl rfl) ?_
    refine FL.nil ?_
    refine FW.condF rfl dlt_len ?_
    refine FW.exit ?_
    exact ⟨nofun, rfl, ⟨_, _, _, _, S197, i198, els87, nd88, k203⟩⟩
  ·
    clear hq
    intro e f194 w193 hD
    rcases q33 with s33 | x33
    ·
      obtain ⟨rfl, hD⟩ := hD
      obtain ⟨H190, v84, n85, cs86, S191, i192, els87, nd88, k195⟩ := hD
      replace hp := el_go hp
      refine FW.seq (FW.region ?_)
      refine FL.v (E.move k195) ?_
      refine FL.v (E.assign (v := v84) rfl) ?_
      refine FL.nil ?_
      refine FW.ret ?_
      obtain rfl := Option.some.inj hp
      exact ⟨.inr rfl, res1 rfl rfl ⟨_, _, _, _, rfl, S191, els87, nd88⟩⟩
    · exact x33.elim

@[reducible] def p_laws_toCnf (Ha : GH) (wa : World) (r : Cnf) : Ending → World → Prop :=
 fun e w' => ∃ H' : GH, ∃ v0_1 : Value, e = .returned (vA #[vI r.vars, v0_1]) ∧ Run wa.heap.size Ha wa H' w' ∧ (∃ c, Nest (up wa.heap.size H') (eL eI 1) 1 v0_1 r.clauses c)
theorem w_laws_toCnf {Ha : GH} {wa : World} (hs : Sl Ha wa) (a0 : Cnf) (v0_1 : Value) (p0_1 : RSl Ha (eL eI 1) 1 v0_1 a0.clauses) {r : Cnf} (hp : (PF.laws_toCnf a0) = some r) :
  Calls prog 15 #[vA #[vI a0.vars, v0_1]] wa (p_laws_toCnf Ha wa r) := by
 unfold PF.laws_toCnf at hp; have S0 := St.init hs; refine calls_go (N := 12) (args := [vA #[vI a0.vars, v0_1]]) func15 rfl rfl rfl ?_; refine FW.sr ?_; obtain ⟨b21, w22, run23, S24⟩ := S0.box (P := prog) 24 [vI a0.vars, v0_1] (v := vA #[vI a0.vars, v0_1]) rfl (oC rfl (oC p0_1.one ones_nil)); refine FL.v (E.box rfl run23) ?_; obtain ⟨H25, S26, i27, at28⟩ := S24.sealBox (i := 0) (l' := []) rfl rfl; obtain ⟨b29, w30, run31, S32⟩ := S26.alloc (P := prog) 32 [vI 0, vN] zeroValue32 rfl (oC rfl (oC rfl ones_nil)); refine FL.v (E.alloc run31) ?_; refine FL.nil (FW.sr ?_); obtain ⟨b33, w34, run35, S36⟩ := S32.alloc (P := prog) 32 [vI 0, vN] zeroValue32 rfl (oC rfl (oC rfl ones_nil)); refine FL.v (E.alloc run35) ?_; refine FL.nil (FW.sr ?_); refine FL.v (E.fieldAddr tf24_0 rfl) ?_; refine FL.v (E.load rfl (run_load1 isAgg3 (at28.now S36.sl) rfl)) ?_; refine FL.v (E.fieldAddr tf32_0 rfl) ?_; obtain ⟨w37, run38, S39⟩ := S36.store (P := prog) (t := 3) (i := 0) (j := 0) (cs' := [vI a0.vars, vN]) (l' := [.box b33 32 [vI a0.vars, vN], .box b29 32 [vI 0, vN]]) (v := vI a0.vars) (c := [vI a0.vars]) rfl sizeOf3 rfl rfl (oC rfl ones_nil) (nB rfl) rfl rfl; refine FL.act rfl rfl (E.store rfl rfl run38) ?_; refine FL.nil (FW.sr ?_); refine FL.v (E.fieldAddr tf24_1 rfl) ?_; refine FL.v (E.load rfl (run_load1 isAgg22 (at28.now S39.sl) rfl)) ?_; obtain ⟨r40, hr41, hp⟩ := bnd hp; refine FL.c (E.call call62 (A1 rfl)) (w_laws_toIntSS S39.sl v0_1 a0.clauses (p0_1.mono i27) hr41) ?_; rintro e w43 ⟨H42, v46, n47, cs48, rfl, r45, els49, nd50⟩; refine ⟨_, rfl, ?_⟩; have nv51 : New H25 cs48 := New.of_up S39.sl els49.dom; have els49 := els49.mono (up_le S39.size); have S44 := S39.join (l' := [.row 73 1 v46 n47 cs48, .box b33 32 [vI a0.vars, vN], .box b29 32 [vI 0, vN]]) r45 rfl; refine FL.v (E.fieldAddr tf32_1 rfl) ?_; obtain ⟨w52, run53, S54⟩ := S44.store (P := prog) (t := 22) (i := 1) (j := 1) (cs' := [vI a0.vars, v46]) (l' := [.row 73 1 v46 n47 cs48, .box b33 32 [vI a0.vars, v46], .box b29 32 [vI 0, vN]]) (v := v46) (c := [v46]) rfl sizeOf22 (Ln.cells (S44.row_ln (i := 0) rfl)) rfl (oC (Ln.one (S44.row_ln (i := 0) rfl)) ones_nil) (nB rfl) rfl rfl; refine FL.act rfl rfl (E.store rfl rfl run53) ?_; obtain ⟨H55, S56, i57, ns60, nv59⟩ := S54.sealRowN (i := 0) (l' := [.box b33 32 [vI a0.vars, v46], .box b29 32 [vI 0, vN]]) rfl els49 nd50 (by decide) rfl; have h58 := ns60.rsl; obtain ⟨H61, S62, i63, at64⟩ := S56.sealBox (i := 0) (l' := [.box b29 32 [vI 0, vN]]) rfl rfl; refine FL.nil (FW.sr ?_); refine FL.v (E.load rfl (run_loadA isAgg32 sizeOf32 (at64.now S62.sl) rfl)) ?_; obtain ⟨w65, run66, S67⟩ := S62.store0 (P := prog) (t := 32) (i := 0) (cs' := [vI a0.vars, v46]) (l' := [.box b29 32 [vI a0.vars, v46]]) (v := vA #[vI a0.vars, v46]) (c := [vI a0.vars, v46]) rfl sizeOf32 rfl rfl (oC rfl (oC h58.one ones_nil)) (nB rfl) rfl rfl; refine FL.act rfl rfl (E.store rfl rfl run66) ?_; obtain ⟨H68, S69, i70, at71⟩ := S67.sealBox (i := 0) (l' := []) rfl rfl; refine FL.nil (FW.ret ?_); cases hp; exact ⟨.inr rfl, resC rfl rfl (loadVar_A isAgg32 sizeOf32 (at71.now S69.sl) rfl) ⟨_, _, rfl, S69.run, ⟨_, (ns60.mono (up_mono (i63.tr i70)))⟩⟩⟩

@[reducible] def p_laws_toResStep (Ha : GH) (wa : World) (r : ResStep) : Ending → World → Prop :=
 fun e w' => ∃ H' : GH, ∃ v0_0 : Value, e = .returned (vA #[v0_0, vI r.left, vI r.right, vI r.pivot]) ∧ Run wa.heap.size Ha wa H' w' ∧ RSl (up wa.heap.size H') eI 1 v0_0 r.clause
theorem w_laws_toResStep {Ha : GH} {wa : World} (hs : Sl Ha wa) (a0 : ResStep) (v0_0 : Value) (p0_0 : RSl Ha eI 1 v0_0 a0.clause) {r : ResStep} (hp : (PF.laws_toResStep a0) = some r) :
  Calls prog 63 #[vA #[v0_0, vI a0.left, vI a0.right, vI a0.pivot]] wa (p_laws_toResStep Ha wa r) := by
 unfold PF.laws_toResStep at hp; have S0 := St.init hs; refine calls_go (N := 18) (args := [vA #[v0_0, vI a0.left, vI a0.right, vI a0.pivot]]) func63 rfl rfl rfl ?_; refine FW.sr ?_; obtain ⟨b21, w22, run23, S24⟩ := S0.box (P := prog) 81 [v0_0, vI a0.left, vI a0.right, vI a0.pivot] (v := vA #[v0_0, vI a0.left, vI a0.right, vI a0.pivot]) rfl (oC p0_0.one (oC rfl (oC rfl (oC rfl ones_nil)))); refine FL.v (E.box rfl run23) ?_; obtain ⟨H25, S26, i27, at28⟩ := S24.sealBox (i := 0) (l' := []) rfl rfl; obtain ⟨b29, w30, run31, S32⟩ := S26.alloc (P := prog) 88 [vN, vI 0, vI 0, vI 0] zeroValue88 rfl (oC rfl (oC rfl (oC rfl (oC rfl ones_nil)))); refine FL.v (E.alloc run31) ?_; refine FL.nil (FW.sr ?_); obtain ⟨b33, w34, run35, S36⟩ := S32.alloc (P := prog) 88 [vN, vI 0, vI 0, vI 0] zeroValue88 rfl (oC rfl (oC rfl (oC rfl (oC rfl ones_nil)))); refine FL.v (E.alloc run35) ?_; refine FL.nil (FW.sr ?_); refine FL.v (E.fieldAddr tf81_0 rfl) ?_; refine FL.v (E.load rfl (run_load1 isAgg73 (at28.now S36.sl) rfl)) ?_; obtain ⟨r37, hr38, hp⟩ := bnd hp; refine FL.c (E.call call118 (A1 rfl)) (w_laws_toIntS S36.sl v0_0 a0.clause (p0_0.mono i27) hr38) ?_; rintro e w40 ⟨H39, v43, n44, cs45, rfl, r42, els46⟩; refine ⟨_, rfl, ?_⟩; have els46 := els46.mono (up_le S36.size); have S41 := S36.join (l' := [.row 3 1 v43 n44 cs45, .box b33 88 [vN, vI 0, vI 0, vI 0], .box b29 88 [vN, vI 0, vI 0, vI 0]]) r42 rfl; refine FL.v (E.fieldAddr tf88_0 rfl) ?_; obtain ⟨w47, run48, S49⟩ := S41.store (P := prog) (t := 73) (i := 1) (j := 0) (cs' := [v43, vI 0, vI 0, vI 0]) (l' := [.row 3 1 v43 n44 cs45, .box b33 88 [v43, vI 0, vI 0, vI 0], .box b29 88 [vN, vI 0, vI 0, vI 0]]) (v := v43) (c := [v43]) rfl sizeOf73 (Ln.cells (S41.row_ln (i := 0) rfl)) rfl (oC (Ln.one (S41.row_ln (i := 0) rfl)) ones_nil) (nB rfl) rfl rfl; refine FL.act rfl rfl (E.store rfl rfl run48) ?_; refine FL.nil (FW.sr ?_); refine FL.v (E.fieldAddr tf81_1 rfl) ?_; refine FL.v (E.load rfl (run_load1 isAgg3 ((at28.mono r42.run.inc).now S49.sl) rfl)) ?_; refine FL.v (E.fieldAddr tf88_1 rfl) ?_; obtain ⟨w50, run51, S52⟩ := S49.store (P := prog) (t := 3) (i := 1) (j := 1) (cs' := [v43, vI a0.left, vI 0, vI 0]) (l' := [.row 3 1 v43 n44 cs45, .box b33 88 [v43, vI a0.left, vI 0, vI 0], .box b29 88 [vN, vI 0, vI 0, vI 0]]) (v := vI a0.left) (c := [vI a0.left]) rfl sizeOf3 rfl rfl (oC rfl ones_nil) (nB rfl) rfl rfl; refine FL.act rfl rfl (E.store rfl rfl run51) ?_; refine FL.nil (FW.sr ?_); refine FL.v (E.fieldAddr tf81_2 rfl) ?_; refine FL.v (E.load rfl (run_load1 isAgg3 ((at28.mono r42.run.inc).now S52.sl) rfl)) ?_; refine FL.v (E.fieldAddr tf88_2 rfl) ?_; obtain ⟨w53, run54, S55⟩ := S52.store (P := prog) (t := 3) (i := 1) (j := 2) (cs' := [v43, vI a0.left, vI a0.right, vI 0]) (l' := [.row 3 1 v43 n44 cs45, .box b33 88 [v43, vI a0.left, vI a0.right, vI 0], .box b29 88 [vN, vI 0, vI 0, vI 0]]) (v := vI a0.right) (c := [vI a0.right]) rfl sizeOf3 rfl rfl (oC rfl ones_nil) (nB rfl) rfl rfl; refine FL.act rfl rfl (E.store rfl rfl run54) ?_; refine FL.nil (FW.sr ?_); refine FL.v (E.fieldAddr tf81_3 rfl) ?_; refine FL.v (E.load rfl (run_load1 isAgg3 ((at28.mono r42.run.inc).now S55.sl) rfl)) ?_; refine FL.v (E.fieldAddr tf88_3 rfl) ?_; obtain ⟨w56, run57, S58⟩ := S55.store (P := prog) (t := 3) (i := 1) (j := 3) (cs' := [v43, vI a0.left, vI a0.right, vI a0.pivot]) (l' := [.row 3 1 v43 n44 cs45, .box b33 88 [v43, vI a0.left, vI a0.right, vI a0.pivot], .box b29 88 [vN, vI 0, vI 0, vI 0]]) (v := vI a0.pivot) (c := [vI a0.pivot]) rfl sizeOf3 rfl rfl (oC rfl ones_nil) (nB rfl) rfl rfl; refine FL.act rfl rfl (E.store rfl rfl run57) ?_; obtain ⟨H59, S60, i61, h62, nv63⟩ := S58.sealRowU (i := 0) (l' := [.box b33 88 [v43, vI a0.left, vI a0.right, vI a0.pivot], .box b29 88 [vN, vI 0, vI 0, vI 0]]) rfl els46 (by decide) rfl; obtain ⟨H64, S65, i66, at67⟩ := S60.sealBox (i := 0) (l' := [.box b29 88 [vN, vI 0, vI 0, vI 0]]) rfl rfl; refine FL.nil (FW.sr ?_); refine FL.v (E.load rfl (run_loadA isAgg88 sizeOf88 (at67.now S65.sl) rfl)) ?_
 obtain ⟨w68, run69, S70⟩ := S65.store0 (P := prog) (t := 88) (i := 0) (cs' := [v43, vI a0.left, vI a0.right, vI a0.pivot]) (l' := [.box b29 88 [v43, vI a0.left, vI a0.right, vI a0.pivot]]) (v := vA #[v43, vI a0.left, vI a0.right, vI a0.pivot]) (c := [v43, vI a0.left, vI a0.right, vI a0.pivot]) rfl sizeOf88 rfl rfl (oC h62.one (oC rfl (oC rfl (oC rfl ones_nil)))) (nB rfl) rfl rfl; refine FL.act rfl rfl (E.store rfl rfl run69) ?_; obtain ⟨H71, S72, i73, at74⟩ := S70.sealBox (i := 0) (l' := []) rfl rfl; refine FL.nil (FW.ret ?_); cases hp; exact ⟨.inr rfl, resC rfl rfl (loadVar_A isAgg88 sizeOf88 (at74.now S72.sl) rfl) ⟨_, _, rfl, S72.run, (h62.mono (up_mono (i66.tr i73)))⟩⟩

@[reducible] def p_laws_toResStepS (Ha : GH) (wa : World) (r : (List ResStep)) : Ending → World → Prop :=
  fun e w' => ∃ H' : GH, ∃ v0 : Value, ∃ n0 : Nat, ∃ c0 : List Value, e = .returned (v0) ∧ St Ha wa H' w' [.row 88 4 v0 n0 c0] ∧ Els (up wa.heap.size H') eResStep 4 c0 r ∧ (bl c0).Nodup
theorem w_laws_toResStepS {Ha : GH} {wa : World} (hs : Sl Ha wa) (v0 : Value) (a0 : List ResStep) (p0 : RSl Ha eResStep 4 v0 a0) {r : (List ResStep)} (hp : (PF.laws_toResStepS a0) = some r) :
    Calls prog 16 #[v0] wa (p_laws_toResStepS Ha wa r) := by
  unfold PF.laws_toResStepS at hp
  have S0 := St.init hs
  refine calls_go (N := 23) (args := [v0]) Tryz.func16 rfl rfl rfl ?_
  refine FW.seq (FW.region ?_)
  refine FL.v (E.assign (v := vN) rfl) ?_
  refine FL.nil (FW.seq (FW.region ?_))
  refine FL.v (E.move (v := v0) rfl) ?_
  refine FL.v (E.lenP te25 rfl p0) ?_
  obtain ⟨xs21, hm22, hp⟩ := bnd hp
  obtain ⟨v23, w24, n28, cs29, run25, S26, els27, hbl30⟩ := S0.makeEls (P := prog) te34 (G := (up wa.heap.size Ha)) (En := eResStep) (x0 := ((ResStep.mk [] 0 0 0) : ResStep)) hm22 ⟨_, rfl, (RSl.nil _ _ _)⟩ (ones_cons rfl (ones_cons rfl (ones_cons rfl (ones_cons rfl ones_nil)))) .i64 .i64
  have nd31 : (bl cs29).Nodup := by rw [hbl30 (by simp [Value.cells, neb])]; exact List.nodup_nil
  refine FL.v (E.makeSlice rfl rfl run25) ?_
  refine FL.v (E.assign (v := v23) rfl) ?_
  refine FL.nil (FW.seq (FW.seq (FW.region ?_)))
  refine FL.v (E.assign (v := vI 0) rfl) ?_
  refine FL.nil ?_
  obtain ⟨q33, hq, hp⟩ := bndR hp
  refine FW.block ?_
  refine FW.mono (FW.forL (S := (List ResStep)) (X := Empty) (fun (i33 : Nat) (s33 : (List ResStep)) f w => ∃ H : GH, ∃ v78 : Value, ∃ n79 : Nat, ∃ cs80 : List Value, St Ha wa H w [.row 88 4 v78 n79 cs80] ∧ Inc Ha H ∧ Els (up wa.heap.size H) eResStep 4 cs80 s33 ∧ (bl cs80).Nodup ∧ f 4 = vI ((i33 : Nat) : Int) ∧ f 0 = v0 ∧ f 3 = v78) (fun (q : Rs (List ResStep) Empty) e f w => match q with | .go s33 => e = Exit.exit 0 ∧ (∃ H : GH, ∃ v78 : Value, ∃ n79 : Nat, ∃ cs80 : List Value, St Ha wa H w [.row 88 4 v78 n79 cs80] ∧ Inc Ha H ∧ Els (up wa.heap.size H) eResStep 4 cs80 s33 ∧ (bl cs80).Nodup ∧ f 3 = v78) | .rt x => x.elim) hq ⟨_, _, _, _, S26, (Inc.rfl _), els27, nd31, rfl, rfl, rfl⟩ ?_ ?_) ?_
  ·
    clear hp hq
    rintro i33 y32 s33 f131 w130 ⟨H127, v78, n79, cs80, S128, i129, els81, nd82, k132, k133, k134⟩ hx33 o171 hp
    refine FW.seq (FW.seq (FW.region ?_))
    refine FL.v (E.move k132) ?_
    refine FL.v (E.move k133) ?_
    refine FL.v (E.lenP te25 rfl p0) ?_
    refine FL.v (E.lssT rfl rfl (lss_len hx33)) ?_
    refine FL.nil ?_
    refine FW.condT rfl rfl ?_
    refine FW.skip (FW.seq (FW.block (FW.region ?_)))
    refine FL.v (E.move k134) ?_
    refine FL.v (E.move k132) ?_
    refine FL.v (E.move k133) ?_
    refine FL.v (E.move k132) ?_
    obtain ⟨p135, cs136, pt137, l138, at139, rel140⟩ := p0.at (ix_nat hx33)
    obtain ⟨v141, rfl, h142⟩ := eResStep_open rel140
    refine FL.v (E.indexAddr te25 rfl rfl pt137) ?_
    refine FL.v (E.load rfl (run_loadA Tryz.isAgg81 Tryz.sizeOf81 ((at139.mono i129).now S128.sl) rfl)) ?_
    obtain ⟨r143, hr144, hp⟩ := bnd hp
    refine FL.call rfl rfl rfl (E.call Tryz.call63 (A1 rfl)) (w_laws_toResStep S128.sl y32 v141 (h142.mono i129) hr144) ?_
    rintro e w146 ⟨H145, v149, rfl, r148, h150⟩
    refine ⟨_, rfl, ?_⟩
    have nv151 : New H127 [v149] := New.of_up S128.sl h150.dom
    have h150 := h150.mono (up_le S128.size)
    have S147 := S128.call r148
    obtain ⟨x158, hx159, hp⟩ := bnd hp
    obtain ⟨p152, cs153, pt154, l155, at156, rel157⟩ := S147.row_at (i := 0) rfl els81 (by decide) hx159
    obtain ⟨v160, rfl, h161⟩ := eResStep_open rel157
    refine FL.v (E.indexAddr te34 rfl rfl pt154) ?_
    obtain ⟨xs165, hput166, hp⟩ := bnd hp
    obtain ⟨w162, cs168, run163, S164, els167, ce169⟩ := S147.putEls (P := prog) (t := 88) (i := 0) rfl (els81.mono (up_mono r148.inc)) hput166 pt154 Tryz.sizeOf88 (u := vA #[v149, vI r143.left, vI r143.right, vI r143.pivot]) (c := [v149, vI r143.left, vI r143.right, vI r143.pivot]) rfl rfl (ones_cons h150.one (ones_cons rfl (ones_cons rfl (ones_cons rfl ones_nil)))) ⟨_, rfl, h150⟩
    have S164 : St Ha wa H145 w162 [.row 88 4 v78 n79 cs168] := S164
    have nd170 : (bl cs168).Nodup := by rw [ce169]; exact nd_put (Nat.le_add_right _ _) nd82 (by exact nd_one v149) (Els.dom (els81.mono (upI.tr (Inc.rfl _)))) (by exact nv151)
    refine FL.act rfl rfl (E.store rfl rfl run163) ?_
    refine FL.nil (FW.region ?_)
    refine FL.v (E.move k132) ?_
    refine FL.v (E.add rfl rfl) ?_
    refine FL.v (E.assign (v := vI (wr (((i33 : Nat) : Int) + 1))) rfl) ?_
    refine FL.nil ?_
    obtain rfl := Option.some.inj hp
    exact ⟨rfl, ⟨_, _, _, _, S164, (i129.tr r148.inc), els167, nd170, (nat_succ rfl (lt_of_get hx33) (p0.mono (i129.tr r148.inc)).le), k133, k134⟩⟩
  ·
    clear hp hq
    rintro s33 f182 w181 ⟨H178, v78, n79, cs80, S179, i180, els81, nd82, k183, k184, k185⟩
    refine FW.seq (FW.seq (FW.region ?_))
    refine FL.v (E.move k183) ?_
    refine FL.v (E.move k184) ?_
    refine FL.v (E.lenP te25 rfl p0) ?_
    refine FL.v (E.lss rfl rfl) ?_
    refine FL.nil ?_
    refine FW.condF rfl dlt_len ?_
    refine FW.exit ?_
    exact ⟨nofun, rfl, ⟨_, _, _, _, S179, i180, els81, nd82, k185⟩⟩
  ·
    clear hq
    intro e f176 w175 hD
    rcases q33 with s33 | x33
    ·
      obtain ⟨rfl, hD⟩ := hD
      obtain ⟨H172, v78, n79, cs80, S173, i174, els81, nd82, k177⟩ := hD
      replace hp := el_go hp
      refine FW.seq (FW.region ?_)
      refine FL.v (E.move k177) ?_
      refine FL.v (E.assign (v := v78) rfl) ?_
      refine FL.nil ?_
      refine FW.ret ?_
      obtain rfl := Option.some.inj hp
      exact ⟨.inr rfl, res1 rfl rfl ⟨_, _, _, _, rfl, S173, els81, nd82⟩⟩
    · exact x33.elim

theorem w_spec_l1In {Ha : GH} {wa : World} (hs : Sl Ha wa) (a0 : Int) (a1 : Int) (a2 : Int) :
  Calls prog 153 #[vI a0, vI a1, vI a2] wa (Sc Ha wa (vB (PF.spec_l1In a0 a1 a2))) := by
 obtain ⟨r, hp⟩ : ∃ r, (PF.spec_l1In a0 a1 a2) = r := ⟨_, rfl⟩; rw [hp]; unfold PF.spec_l1In at hp; have S0 := St.init hs; refine calls_go (N := 15) (args := [vI a0, vI a1, vI a2]) func153 rfl rfl rfl ?_; refine FW.sr ?_; refine FL.as (v := vB false) rfl ?_; refine FL.nil (FW.sr ?_); refine FL.mv (v := vI a0) rfl ?_; refine FL.mv (v := vI a1) rfl ?_; refine FL.v (E.geq rfl rfl) ?_; refine FL.mv (v := vB (decide (a1 ≤ a0))) rfl ?_; refine FL.cut 4 (fun f w => ∃ H : GH, St Ha wa H w [] ∧ Inc Ha H ∧ f 14 = vB (bif (decide (a1 ≤ a0)) then (decide (a0 ≤ a2)) else false)) ?_ ?_
 ·
  rcases bcase (decide (a1 ≤ a0)) with c27 | c27
  ·
   refine FL.y (wY c27) (E.move (v := vI a0) rfl) ?_; refine FL.y (wY c27) (E.move (v := vI a2) rfl) ?_; refine FL.y (wY c27) (E.leq rfl rfl) ?_; refine FL.v (E.pickT rfl c27 rfl) ?_; exact FL.nil ⟨rfl, _, S0, I0, (congrArg vB (bifT c27).symm)⟩
  ·
   refine FL.skip (wN c27) rfl ?_; refine FL.skip (wN c27) rfl ?_; refine FL.skip (wN c27) rfl ?_; refine FL.v (E.pickF rfl c27 rfl) ?_; exact FL.nil ⟨rfl, _, S0, I0, (congrArg vB (bifF c27).symm)⟩
 rintro f26 w25 ⟨H22, S23, i24, k28⟩; refine FL.as k28 ?_; refine FL.nil (FW.ret ?_); obtain rfl := hp; exact ⟨.inr rfl, res1 rfl rfl ⟨rfl, S23.back⟩⟩

theorem w_spec_l18Prime {Ha : GH} {wa : World} (hs : Sl Ha wa) (a0 : Int) (a1 : Int) :
  Calls prog 151 #[vI a0, vI a1] wa (Sc Ha wa (vB (PF.spec_l18Prime a0 a1))) := by
 obtain ⟨r, hp⟩ : ∃ r, (PF.spec_l18Prime a0 a1) = r := ⟨_, rfl⟩; rw [hp]; unfold PF.spec_l18Prime at hp; have S0 := St.init hs; refine calls_go (N := 19) (args := [vI a0, vI a1]) func151 rfl rfl rfl ?_; refine FW.sr ?_; refine FL.as (v := vB false) rfl ?_; refine FL.nil (FW.sr ?_); refine FL.mv (v := vI a0) rfl ?_; refine FL.v (E.eql rfl rfl) ?_; refine FL.mv (v := vB (a0 == 2)) rfl ?_; refine FL.cut 3 (fun f w => ∃ H : GH, St Ha wa H w [] ∧ Inc Ha H ∧ f 0 = vI a0 ∧ f 1 = vI a1 ∧ f 10 = vB (bif (a0 == 2) then true else (a0 == 3))) ?_ ?_
 ·
  rcases bcase (a0 == 2) with c27 | c27
  ·
   refine FL.skip (wN c27) rfl ?_; refine FL.skip (wN c27) rfl ?_; refine FL.v (E.pickT rfl c27 rfl) ?_; exact FL.nil ⟨rfl, _, S0, I0, rfl, rfl, (congrArg vB (bifT c27).symm)⟩
  ·
   refine FL.y (wY c27) (E.move (v := vI a0) rfl) ?_; refine FL.y (wY c27) (E.eql rfl rfl) ?_; refine FL.v (E.pickF rfl c27 rfl) ?_; exact FL.nil ⟨rfl, _, S0, I0, rfl, rfl, (congrArg vB (bifF c27).symm)⟩
 rintro f26 w25 ⟨H22, S23, i24, k28, k29, k30⟩; refine FL.mv k30 ?_; refine FL.cut 3 (fun f w => ∃ H : GH, St Ha wa H w [] ∧ Inc H22 H ∧ f 1 = vI a1 ∧ f 14 = vB (bif (bif (a0 == 2) then true else (a0 == 3)) then true else (a0 == 5))) ?_ ?_
 ·
  rcases bcase (bif (a0 == 2) then true else (a0 == 3)) with c37 | c37
  ·
   refine FL.skip (wN c37) rfl ?_; refine FL.skip (wN c37) rfl ?_; refine FL.v (E.pickT rfl c37 rfl) ?_; exact FL.nil ⟨rfl, _, S23, I0, k29, (congrArg vB (bifT c37).symm)⟩
  ·
   refine FL.y (wY c37) (E.move k28) ?_; refine FL.y (wY c37) (E.eql rfl rfl) ?_; refine FL.v (E.pickF rfl c37 rfl) ?_; exact FL.nil ⟨rfl, _, S23, I0, k29, (congrArg vB (bifF c37).symm)⟩
 rintro f36 w35 ⟨H32, S33, i34, k38, k39⟩; refine FL.mv k39 ?_; refine FL.cut 3 (fun f w => ∃ H : GH, St Ha wa H w [] ∧ Inc H32 H ∧ f 18 = vB (bif (bif (bif (a0 == 2) then true else (a0 == 3)) then true else (a0 == 5)) then (PF.spec_l1In a1 0 6) else false)) ?_ ?_
 ·
  rcases bcase (bif (bif (a0 == 2) then true else (a0 == 3)) then true else (a0 == 5)) with c49 | c49
  ·
   refine FL.y (wY c49) (E.move k38) ?_; refine FL.call (wY c49) rfl rfl (E.call call153 (A3 rfl rfl rfl)) (w_spec_l1In S33.sl a1 0 6) ?_; rintro e w50 ⟨rfl, r51⟩; refine ⟨_, rfl, ?_⟩; have S52 := S33.call r51; refine FL.v (E.pickT rfl c49 rfl) ?_; exact FL.nil ⟨rfl, _, S52, I0, (congrArg vB (bifT c49).symm)⟩
  ·
   refine FL.skip (wN c49) rfl ?_; refine FL.skip (wN c49) rfl ?_; refine FL.v (E.pickF rfl c49 rfl) ?_; exact FL.nil ⟨rfl, _, S33, I0, (congrArg vB (bifF c49).symm)⟩
 rintro f48 w47 ⟨H44, S45, i46, k53⟩; refine FL.as k53 ?_; refine FL.nil (FW.ret ?_); obtain rfl := hp; exact ⟨.inr rfl, res1 rfl rfl ⟨rfl, S45.back⟩⟩

theorem w_spec_l2Vars {Ha : GH} {wa : World} (hs : Sl Ha wa) (a0 : Int) :
  Calls prog 201 #[vI a0] wa (Sc Ha wa (vB (PF.spec_l2Vars a0))) := by
 obtain ⟨r, hp⟩ : ∃ r, (PF.spec_l2Vars a0) = r := ⟨_, rfl⟩; rw [hp]; unfold PF.spec_l2Vars at hp; have S0 := St.init hs; refine calls_go (N := 5) (args := [vI a0]) func201 rfl rfl rfl ?_; refine FW.sr ?_; refine FL.as (v := vB false) rfl ?_; refine FL.nil (FW.sr ?_); refine FL.mv (v := vI a0) rfl ?_; refine FL.c (E.call call153 (A3 rfl rfl rfl)) (w_spec_l1In S0.sl a0 0 12) ?_; rintro e w21 ⟨rfl, r22⟩; refine ⟨_, rfl, ?_⟩; have S23 := S0.call r22; refine FL.as (v := vB (PF.spec_l1In a0 0 12)) rfl ?_; refine FL.nil (FW.ret ?_); obtain rfl := hp; exact ⟨.inr rfl, res1 rfl rfl ⟨rfl, S23.back⟩⟩

theorem w_spec_l2Lit {Ha : GH} {wa : World} (hs : Sl Ha wa) (a0 : Int) (a1 : Int) :
  Calls prog 244 #[vI a0, vI a1] wa (Sc Ha wa (vB (PF.spec_l2Lit a0 a1))) := by
 obtain ⟨r, hp⟩ : ∃ r, (PF.spec_l2Lit a0 a1) = r := ⟨_, rfl⟩; rw [hp]; unfold PF.spec_l2Lit at hp; have S0 := St.init hs; refine calls_go (N := 14) (args := [vI a0, vI a1]) func244 rfl rfl rfl ?_; refine FW.sr ?_; refine FL.as (v := vB false) rfl ?_; refine FL.nil (FW.sr ?_); refine FL.mv (v := vI a1) rfl ?_; refine FL.mv (v := vI a0) rfl ?_; refine FL.v (E.neg rfl) ?_; refine FL.mv (v := vI a0) rfl ?_; refine FL.c (E.call call153 (A3 rfl rfl rfl)) (w_spec_l1In S0.sl a1 (wr (-a0)) a0) ?_; rintro e w21 ⟨rfl, r22⟩; refine ⟨_, rfl, ?_⟩; have S23 := S0.call r22; refine FL.mv (v := vB (PF.spec_l1In a1 (wr (-a0)) a0)) rfl ?_; refine FL.cut 3 (fun f w => ∃ H : GH, St Ha wa H w [] ∧ Inc Ha H ∧ f 13 = vB (bif (PF.spec_l1In a1 (wr (-a0)) a0) then (!(a1 == 0)) else false)) ?_ ?_
 ·
  rcases bcase (PF.spec_l1In a1 (wr (-a0)) a0) with c30 | c30
  ·
   refine FL.y (wY c30) (E.move (v := vI a1) rfl) ?_; refine FL.y (wY c30) (E.neq rfl rfl) ?_; refine FL.v (E.pickT rfl c30 rfl) ?_; exact FL.nil ⟨rfl, _, S23, I0, (congrArg vB (bifT c30).symm)⟩
  ·
   refine FL.skip (wN c30) rfl ?_; refine FL.skip (wN c30) rfl ?_; refine FL.v (E.pickF rfl c30 rfl) ?_; exact FL.nil ⟨rfl, _, S23, I0, (congrArg vB (bifF c30).symm)⟩
 rintro f29 w28 ⟨H25, S26, i27, k31⟩; refine FL.as k31 ?_; refine FL.nil (FW.ret ?_); obtain rfl := hp; exact ⟨.inr rfl, res1 rfl rfl ⟨rfl, S26.back⟩⟩

theorem w_spec_l2Var {Ha : GH} {wa : World} (hs : Sl Ha wa) (a0 : Int) :
  Calls prog 116 #[vI a0] wa (Sc Ha wa (vI (PF.spec_l2Var a0))) := by
 obtain ⟨r, hp⟩ : ∃ r, (PF.spec_l2Var a0) = r := ⟨_, rfl⟩; rw [hp]; unfold PF.spec_l2Var at hp; have S0 := St.init hs; refine calls_go (N := 8) (args := [vI a0]) func116 rfl rfl rfl ?_; refine FW.sr ?_; refine FL.as (v := vI 0) rfl ?_; refine FL.nil (FW.seq (FW.sr ?_)); refine FL.mv (v := vI a0) rfl ?_; refine FL.v (E.lss rfl rfl) ?_; refine FL.nil ?_; rcases ifT hp with ⟨c21, hp⟩ | ⟨c21, hp⟩
 ·
  refine FW.condT rfl c21 ?_; refine FW.sr ?_; refine FL.mv (v := vI a0) rfl ?_; refine FL.v (E.neg rfl) ?_; refine FL.as (v := vI (wr (-a0))) rfl ?_; refine FL.nil (FW.ret ?_); obtain rfl := hp; exact ⟨.inr rfl, res1 rfl rfl ⟨rfl, S0.back⟩⟩
 ·
  refine FW.condF rfl c21 ?_; refine FW.skip (FW.sr ?_); refine FL.mv (v := vI a0) rfl ?_; refine FL.as (v := vI a0) rfl ?_; refine FL.nil (FW.ret ?_); obtain rfl := hp; exact ⟨.inr rfl, res1 rfl rfl ⟨rfl, S0.back⟩⟩

theorem w_spec_l2Clause {Ha : GH} {wa : World} (hs : Sl Ha wa) (a0 : Int) (v1 : Value) (a1 : List Int) (p1 : RSl Ha eI 1 v1 a1) {r : Bool} (hp : (PF.spec_l2Clause a0 a1) = some r) :
  Calls prog 202 #[vI a0, v1] wa (Sc Ha wa (vB r)) := by
 unfold PF.spec_l2Clause at hp; have S0 := St.init hs; refine calls_go (N := 40) (args := [vI a0, v1]) func202 rfl rfl rfl ?_; refine FW.sr ?_; refine FL.as (v := vB false) rfl ?_; refine FL.nil (FW.seq (FW.sr ?_)); refine FL.mv (v := vI a0) rfl ?_; refine FL.c (E.call call201 (A1 rfl)) (w_spec_l2Vars S0.sl a0) ?_; rintro e w21 ⟨rfl, r22⟩; refine ⟨_, rfl, ?_⟩; have S23 := S0.call r22; refine FL.v (E.not rfl) ?_; refine FL.nil ?_; rcases ifB hp with ⟨c24, hp⟩ | ⟨c24, hp⟩
 ·
  refine FW.condT rfl c24 ?_; refine FW.sr ?_; refine FL.as (v := vB false) rfl ?_; refine FL.nil (FW.ret ?_); cases hp; exact ⟨.inr rfl, res1 rfl rfl ⟨rfl, S23.back⟩⟩
 ·
  refine FW.condF rfl c24 ?_; refine FW.skip (FW.seq (FW.sr ?_)); refine FL.as (v := vI 0) rfl ?_; refine FL.nil ?_; obtain ⟨q26, hq, hp⟩ := bndR hp; refine FW.block ?_; refine FW.mono (FW.forL (S := Unit) (X := Bool) (fun (i26 : Nat) (s26 : Unit) f w => ∃ H : GH, St Ha wa H w [] ∧ Inc Ha H ∧ f 5 = vI ((i26 : Nat) : Int) ∧ f 0 = vI a0 ∧ f 1 = v1) (fun q e f w => match q with | .go s26 => e = Exit.exit 0 ∧ (∃ H : GH, St Ha wa H w [] ∧ Inc Ha H) | .rt x => ((e = Exit.ret) ∧ (fun e f w => (e = Exit.normal ∨ e = Exit.ret) ∧ ∀ a, Fr (δ := []) 40 a f → ∃ v, (results Tryz.f202 a.tmps).run prog w = .ok v w ∧ (Sc Ha wa (vB x)) (.returned v) w) e f w)) hq ⟨_, S23, I0, rfl, rfl, rfl⟩ ?_ ?_) ?_
  ·
   clear hp hq; rintro i26 y25 s26 f141 w140 ⟨H137, S138, i139, k142, k143, k144⟩ hx26 o247 hp; refine FW.seq (FW.sr ?_); refine FL.mv k142 ?_; refine FL.mv k144 ?_; refine FL.v (E.lenP te73 rfl p1) ?_; refine FL.v (E.lssT rfl rfl (lss_len hx26)) ?_; refine FL.nil ?_; refine FW.condT rfl rfl ?_; refine FW.skip (FW.seq (FW.block (FW.seq ?_))); refine FW.draw (fun w' => Run w140.heap.size H137 w140 H137 w') (by kernel_rfl) (by kernel_rfl) (run_drew S138.sl) ?_; refine FD.v (fun _ z => (E.move k143)) ?_; refine FD.v (fun _ z => (E.move k144)) ?_; refine FD.v (fun _ z => (E.move k142)) ?_; obtain ⟨p146, cs147, pt148, l149, at150, rel151⟩ := p1.at (ix_nat hx26); obtain rfl := eI_open rel151; refine FD.v (fun _ z => (E.indexAddr te73 rfl rfl pt148)) ?_; refine FD.v (fun _ z => (E.load rfl (run_load0 isAgg3 ((at150.mono i139).now (S138.call z).sl) rfl))) ?_; refine FD.call rfl rfl rfl (fun _ z => (E.call call244 (A2 rfl rfl))) (fun _ z => Calls.cls z (w_spec_l2Lit (S138.call z).sl a0 y25)) ?_; refine FD.v (fun _ z => (E.not rfl)) ?_; refine FD.v (fun _ z => (E.move (v := vB (!(PF.spec_l2Lit a0 y25))) rfl)) ?_; obtain ⟨t192, hqt192, hp⟩ := bnd hp; refine FD.cut 17 (fun f => f 0 = vI a0 ∧ f 1 = v1 ∧ f 5 = vI ((i26 : Nat) : Int) ∧ f 39 = vB t192) ?_ ?_
   ·
    clear hp; have hp := hqt192; clear hqt192; rcases ifB hp with ⟨c198, hp⟩ | ⟨c198, hp⟩
    ·
     refine FD.skip (wN c198) rfl ?_; refine FD.skip (wN c198) rfl ?_; refine FD.skip (wN c198) rfl ?_; refine FD.skip (wF_undef rfl rfl rfl) rfl ?_; refine FD.skip (wF_undef rfl rfl rfl) rfl ?_; refine FD.skip (wF_undef rfl rfl rfl) rfl ?_; refine FD.skip (wF_undef rfl rfl rfl) rfl ?_; refine FD.skip (wF_undef rfl rfl rfl) rfl ?_; refine FD.skip (wF_undef rfl rfl rfl) rfl ?_; refine FD.skip (wF_undef rfl rfl rfl) rfl ?_; refine FD.skip (wF_undef rfl rfl rfl) rfl ?_; refine FD.skip (wF_undef rfl rfl rfl) rfl ?_; refine FD.skip (wF_undef rfl rfl rfl) rfl ?_; refine FD.skip (wF_undef rfl rfl rfl) rfl ?_; refine FD.skip (wF_undef rfl rfl rfl) rfl ?_; refine FD.skip (wN c198) rfl ?_; cases hp; refine FD.v (fun _ z => (E.pickT rfl c198 rfl)) ?_; exact FD.nil ⟨k143, k144, k142, rfl⟩
    ·
     refine FD.y (wY c198) (fun _ z => (E.move k142)) ?_; refine FD.y (wY c198) (fun _ z => (E.gtr rfl rfl)) ?_; refine FD.y (wY c198) (fun _ z => (E.move (v := vB (decide (0 < ((i26 : Nat) : Int)))) rfl)) ?_; obtain ⟨t213, hqt213, hp⟩ := bnd hp; refine FD.cut 13 (fun f => f 0 = vI a0 ∧ f 1 = v1 ∧ f 5 = vI ((i26 : Nat) : Int) ∧ f 22 = vB (!(PF.spec_l2Lit a0 y25)) ∧ f 38 = vB t213) ?_ ?_
     ·
      clear hp; have hp := hqt213; clear hqt213; rcases ifB hp with ⟨c219, hp⟩ | ⟨c219, hp⟩
      ·
       refine FD.y (wY c219) (fun _ z => (E.move k144)) ?_; refine FD.y (wY c219) (fun _ z => (E.move k142)) ?_; refine FD.y (wY c219) (fun _ z => (E.sub rfl rfl)) ?_; obtain ⟨x226, hx227, hp⟩ := bnd hp; obtain ⟨p220, cs221, pt222, l223, at224, rel225⟩ := p1.at hx227; obtain rfl := eI_open rel225; refine FD.y (wY c219) (fun _ z => (E.indexAddr te73 rfl rfl pt222)) ?_; refine FD.y (wY c219) (fun _ z => (E.load rfl (run_load0 isAgg3 ((at224.mono i139).now (S138.call z).sl) rfl))) ?_; refine FD.call (wY c219) rfl rfl (fun _ z => (E.call call116 (A1 rfl))) (fun _ z => Calls.cls z (w_spec_l2Var (S138.call z).sl x226)) ?_; refine FD.y (wY c219) (fun _ z => (E.move k144)) ?_; refine FD.y (wY c219) (fun _ z => (E.move k142)) ?_; obtain ⟨p228, cs229, pt230, l231, at232, rel233⟩ := p1.at (ix_nat hx26); obtain rfl := eI_open rel233; refine FD.y (wY c219) (fun _ z => (E.indexAddr te73 rfl rfl pt230)) ?_; refine FD.y (wY c219) (fun _ z => (E.load rfl (run_load0 isAgg3 ((at232.mono i139).now (S138.call z).sl) rfl))) ?_; refine FD.call (wY c219) rfl rfl (fun _ z => (E.call call116 (A1 rfl))) (fun _ z => Calls.cls z (w_spec_l2Var (S138.call z).sl y25)) ?_; refine FD.y (wY c219) (fun _ z => (E.geq rfl rfl)) ?_; cases hp; refine FD.y (wY c198) (fun _ z => (E.pickT rfl c219 rfl)) ?_; exact FD.nil ⟨k143, k144, k142, rfl, rfl⟩
      ·
       refine FD.skip (wN c219) rfl ?_; refine FD.skip (wN c219) rfl ?_; refine FD.skip (wN c219) rfl ?_; refine FD.skip (wN c219) rfl ?_; refine FD.skip (wN c219) rfl ?_; refine FD.skip (wN c219) rfl ?_; refine FD.skip (wN c219) rfl ?_; refine FD.skip (wN c219) rfl ?_; refine FD.skip (wN c219) rfl ?_; refine FD.skip (wN c219) rfl ?_; refine FD.skip (wN c219) rfl ?_; refine FD.skip (wN c219) rfl ?_; cases hp; refine FD.y (wY c198) (fun _ z => (E.pickF rfl c219 rfl)) ?_; exact FD.nil ⟨k143, k144, k142, rfl, rfl⟩
     rintro f218 ⟨k234, k235, k236, k237, k238⟩; cases hp; refine FD.v (fun _ z => (E.pickF k237 c198 k238)) ?_; exact FD.nil ⟨k234, k235, k236, rfl⟩
   rintro f197 ⟨k239, k240, k241, k242⟩; refine FD.nil ?_; intro w243 r245; have S244 := S138.call r245; rcases ifB hp with ⟨c246, hp⟩ | ⟨c246, hp⟩
   ·
    refine FW.condT k242 c246 ?_; refine FW.sr ?_; refine FL.as (v := vB false) rfl ?_; refine FL.nil (FW.ret ?_); cases hp; exact ⟨nofun, rfl, ⟨.inr rfl, res1 rfl rfl ⟨rfl, S244.back⟩⟩⟩
   ·
    refine FW.condF k242 c246 ?_; refine FW.skip (FW.region ?_); refine FL.mv k241 ?_; refine FL.v (E.add rfl rfl) ?_; refine FL.as (v := vI (wr (((i26 : Nat) : Int) + 1))) rfl ?_; refine FL.nil ?_; cases hp; exact ⟨rfl, ⟨_, S244, i139, (nat_succ rfl (lt_of_get hx26) (p1.mono i139).le), k239, k240⟩⟩
  ·
   clear hp hq; rintro s26 f257 w256 ⟨H253, S254, i255, k258, k259, k260⟩; refine FW.seq (FW.sr ?_); refine FL.mv k258 ?_; refine FL.mv k260 ?_; refine FL.v (E.lenP te73 rfl p1) ?_; refine FL.v (E.lss rfl rfl) ?_; refine FL.nil ?_; refine FW.condF rfl dlt_len ?_; refine FW.exit ?_; exact ⟨nofun, rfl, ⟨_, S254, i255⟩⟩
  ·
   clear hq; intro e f252 w251 hD; rcases q26 with s26 | x26
   ·
    obtain ⟨rfl, hD⟩ := hD; obtain ⟨H248, S249, i250⟩ := hD; replace hp := el_go hp; refine FW.sr ?_; refine FL.as (v := vB true) rfl ?_; refine FL.nil (FW.ret ?_); cases hp; exact ⟨.inr rfl, res1 rfl rfl ⟨rfl, S249.back⟩⟩
   ·
    obtain ⟨he, hL⟩ := hD; replace hp := el_rt hp; cases hp; subst he; exact hL

theorem w_spec_l2Good {Ha : GH} {wa : World} (hs : Sl Ha wa) (a0 : Cnf) (v0_1 : Value) (p0_1 : RSl Ha (eL eI 1) 1 v0_1 a0.clauses) {r : Bool} (hp : (PF.spec_l2Good a0) = some r) :
  Calls prog 152 #[vA #[vI a0.vars, v0_1]] wa (Sc Ha wa (vB r)) := by
 unfold PF.spec_l2Good at hp; have S0 := St.init hs; refine calls_go (N := 30) (args := [vA #[vI a0.vars, v0_1]]) func152 rfl rfl rfl ?_; refine FW.sr ?_; obtain ⟨b21, w22, run23, S24⟩ := S0.box (P := prog) 32 [vI a0.vars, v0_1] (v := vA #[vI a0.vars, v0_1]) rfl (oC rfl (oC p0_1.one ones_nil)); refine FL.v (E.box rfl run23) ?_; obtain ⟨H25, S26, i27, at28⟩ := S24.sealBox (i := 0) (l' := []) rfl rfl; refine FL.as (v := vB false) rfl ?_; refine FL.nil (FW.seq (FW.sr ?_)); refine FL.v (E.fieldAddr tf32_0 rfl) ?_; refine FL.v (E.load rfl (run_load1 isAgg3 (at28.now S26.sl) rfl)) ?_; refine FL.c (E.call call201 (A1 rfl)) (w_spec_l2Vars S26.sl a0.vars) ?_; rintro e w29 ⟨rfl, r30⟩; refine ⟨_, rfl, ?_⟩; have S31 := S26.call r30; refine FL.v (E.not rfl) ?_; refine FL.mv (v := vB (!(PF.spec_l2Vars a0.vars))) rfl ?_; refine FL.cut 5 (fun f w => ∃ H : GH, St Ha wa H w [] ∧ Inc H25 H ∧ f 1 = vP (⟨b21, 0, none⟩) ∧ f 13 = vB (bif (!(PF.spec_l2Vars a0.vars)) then true else (decide (60 < (len a0.clauses))))) ?_ ?_
 ·
  rcases bcase (!(PF.spec_l2Vars a0.vars)) with c38 | c38
  ·
   refine FL.skip (wN c38) rfl ?_; refine FL.skip (wN c38) rfl ?_; refine FL.skip (wN c38) rfl ?_; refine FL.skip (wN c38) rfl ?_; refine FL.v (E.pickT rfl c38 rfl) ?_; exact FL.nil ⟨rfl, _, S31, I0, rfl, (congrArg vB (bifT c38).symm)⟩
  ·
   refine FL.y (wY c38) (E.fieldAddr tf32_1 rfl) ?_; refine FL.y (wY c38) (E.load rfl (run_load1 isAgg22 (at28.now S31.sl) rfl)) ?_; refine FL.y (wY c38) (E.lenP te22 rfl p0_1) ?_; refine FL.y (wY c38) (E.gtr rfl rfl) ?_; refine FL.v (E.pickF rfl c38 rfl) ?_; exact FL.nil ⟨rfl, _, S31, I0, rfl, (congrArg vB (bifF c38).symm)⟩
 rintro f37 w36 ⟨H33, S34, i35, k39, k40⟩; refine FL.nil ?_; rcases ifB hp with ⟨c41, hp⟩ | ⟨c41, hp⟩
 ·
  refine FW.condT k40 c41 ?_; refine FW.sr ?_; refine FL.as (v := vB false) rfl ?_; refine FL.nil (FW.ret ?_); cases hp; exact ⟨.inr rfl, res1 rfl rfl ⟨rfl, S34.back⟩⟩
 ·
  refine FW.condF k40 c41 ?_; refine FW.skip (FW.seq (FW.sr ?_)); refine FL.as (v := vI 0) rfl ?_; refine FL.nil ?_; obtain ⟨q42, hq, hp⟩ := bndR hp; refine FW.block ?_; refine FW.mono (FW.iter (S := Int) (X := Bool) (fun (s42 : Int) f w => ∃ H : GH, St Ha wa H w [] ∧ Inc H33 H ∧ f 1 = vP (⟨b21, 0, none⟩) ∧ f 3 = vI s42) (fun q e f w => match q with | .go s42 => e = Exit.exit 0 ∧ (∃ H : GH, St Ha wa H w [] ∧ Inc H33 H) | .rt x => ((e = Exit.ret) ∧ (fun e f w => (e = Exit.normal ∨ e = Exit.ret) ∧ ∀ a, Fr (δ := []) 30 a f → ∃ v, (results Tryz.f152 a.tmps).run prog w = .ok v w ∧ (Sc Ha wa (vB x)) (.returned v) w) e f w)) hq ⟨_, S34, I0, k39, rfl⟩ ?_) ?_
  ·
   clear hp hq; rintro s42 f72 w71 ⟨H68, S69, i70, k73, k74⟩ o93 hp; refine FW.seq (FW.sr ?_); refine FL.mv k74 ?_; refine FL.v (E.fieldAddr tf32_1 k73) ?_; refine FL.v (E.load rfl (run_load1 isAgg22 ((at28.mono (i35.tr i70)).now S69.sl) rfl)) ?_; refine FL.v (E.lenP te22 rfl p0_1) ?_; refine FL.v (E.lss rfl rfl) ?_; refine FL.nil ?_; rcases ifB hp with ⟨c75, hp⟩ | ⟨c75, hp⟩
   ·
    refine FW.condT rfl c75 ?_; refine FW.skip (FW.seq (FW.block (FW.seq ?_))); refine FW.draw (fun w' => Run w71.heap.size H68 w71 H68 w') (by kernel_rfl) (by kernel_rfl) (run_drew S69.sl) ?_; refine FD.v (fun _ z => (E.fieldAddr tf32_0 k73)) ?_; refine FD.v (fun _ z => (E.load rfl (run_load1 isAgg3 ((at28.mono (i35.tr i70)).now (S69.call z).sl) rfl))) ?_; refine FD.v (fun _ z => (E.fieldAddr tf32_1 k73)) ?_; refine FD.v (fun _ z => (E.load rfl (run_load1 isAgg22 ((at28.mono (i35.tr i70)).now (S69.call z).sl) rfl))) ?_; refine FD.v (fun _ z => (E.move k74)) ?_; obtain ⟨x83, hx84, hp⟩ := bnd hp; obtain ⟨p77, cs78, pt79, l80, at81, rel82⟩ := p0_1.at hx84; obtain ⟨v85, rfl, h86⟩ := eL_open rel82; refine FD.v (fun _ z => (E.indexAddr te22 rfl rfl pt79)) ?_; refine FD.v (fun _ z => (E.load rfl (run_load0 isAgg73 ((at81.mono ((i27.tr i35).tr i70)).now (S69.call z).sl) rfl))) ?_; obtain ⟨r87, hr88, hp⟩ := bnd hp; refine FD.call rfl rfl rfl (fun _ z => (E.call call202 (A2 rfl rfl))) (fun _ z => Calls.cls z (w_spec_l2Clause (S69.call z).sl a0.vars v85 x83 (h86.mono ((i27.tr i35).tr i70)) hr88)) ?_; refine FD.v (fun _ z => (E.not rfl)) ?_; refine FD.nil ?_; intro w89 r91; have S90 := S69.call r91; rcases ifB hp with ⟨c92, hp⟩ | ⟨c92, hp⟩
    ·
     refine FW.condT rfl c92 ?_; refine FW.sr ?_; refine FL.as (v := vB false) rfl ?_; refine FL.nil (FW.ret ?_); cases hp; exact ⟨nofun, rfl, ⟨.inr rfl, res1 rfl rfl ⟨rfl, S90.back⟩⟩⟩
    ·
     refine FW.condF rfl c92 ?_; refine FW.skip (FW.region ?_); refine FL.mv k74 ?_; refine FL.v (E.add rfl rfl) ?_; refine FL.as (v := vI (wr (s42 + 1))) rfl ?_; refine FL.nil ?_; cases hp; exact ⟨rfl, ⟨_, S90, i70, k73, rfl⟩⟩
   ·
    refine FW.condF rfl c75 ?_; refine FW.exit ?_; cases hp; exact ⟨nofun, rfl, ⟨_, S69, i70⟩⟩
  ·
   clear hq; intro e f98 w97 hD; rcases q42 with s42 | x42
   ·
    obtain ⟨rfl, hD⟩ := hD; obtain ⟨H94, S95, i96⟩ := hD; replace hp := el_go hp; refine FW.sr ?_; refine FL.as (v := vB true) rfl ?_; refine FL.nil (FW.ret ?_); cases hp; exact ⟨.inr rfl, res1 rfl rfl ⟨rfl, S95.back⟩⟩
   ·
    obtain ⟨he, hL⟩ := hD; replace hp := el_rt hp; cases hp; subst he; exact hL

theorem w_spec_l20Asked {Ha : GH} {wa : World} (hs : Sl Ha wa) (a0 : Int) (a1 : Cnf) (v1_1 : Value) (p1_1 : RSl Ha (eL eI 1) 1 v1_1 a1.clauses) {r : Bool} (hp : (PF.spec_l20Asked a0 a1) = some r) :
  Calls prog 90 #[vI a0, vA #[vI a1.vars, v1_1]] wa (Sc Ha wa (vB r)) := by
 unfold PF.spec_l20Asked at hp; have S0 := St.init hs; refine calls_go (N := 13) (args := [vI a0, vA #[vI a1.vars, v1_1]]) func90 rfl rfl rfl ?_; refine FW.sr ?_; obtain ⟨b21, w22, run23, S24⟩ := S0.box (P := prog) 32 [vI a1.vars, v1_1] (v := vA #[vI a1.vars, v1_1]) rfl (oC rfl (oC p1_1.one ones_nil)); refine FL.v (E.box rfl run23) ?_; obtain ⟨H25, S26, i27, at28⟩ := S24.sealBox (i := 0) (l' := []) rfl rfl; refine FL.as (v := vB false) rfl ?_; refine FL.nil (FW.sr ?_); refine FL.mv (v := vI a0) rfl ?_; refine FL.v (E.fieldAddr tf32_0 rfl) ?_; refine FL.v (E.load rfl (run_load1 isAgg3 (at28.now S26.sl) rfl)) ?_; refine FL.c (E.call call151 (A2 rfl rfl)) (w_spec_l18Prime S26.sl a0 a1.vars) ?_; rintro e w29 ⟨rfl, r30⟩; refine ⟨_, rfl, ?_⟩; have S31 := S26.call r30; refine FL.mv (v := vB (PF.spec_l18Prime a0 a1.vars)) rfl ?_; obtain ⟨t37, hqt37, hp⟩ := bnd hp; refine FL.cut 3 (fun f w => ∃ H : GH, St Ha wa H w [] ∧ Inc H25 H ∧ f 12 = vB t37) ?_ ?_
 ·
  clear hp; have hp := hqt37; clear hqt37; rcases ifB hp with ⟨c43, hp⟩ | ⟨c43, hp⟩
  ·
   refine FL.y (wY c43) (E.load rfl (run_loadA isAgg32 sizeOf32 (at28.now S31.sl) rfl)) ?_; obtain ⟨r44, hr45, hp⟩ := bnd hp; refine FL.call (wY c43) rfl rfl (E.call call152 (A1 rfl)) (w_spec_l2Good S31.sl a1 v1_1 (p1_1.mono i27) hr45) ?_; rintro e w46 ⟨rfl, r47⟩; refine ⟨_, rfl, ?_⟩; have S48 := S31.call r47; cases hp; refine FL.v (E.pickT rfl c43 rfl) ?_; exact FL.nil ⟨rfl, _, S48, I0, rfl⟩
  ·
   refine FL.skip (wN c43) rfl ?_; refine FL.skip (wN c43) rfl ?_; cases hp; refine FL.v (E.pickF rfl c43 rfl) ?_; exact FL.nil ⟨rfl, _, S31, I0, rfl⟩
 rintro f42 w41 ⟨H38, S39, i40, k49⟩; refine FL.as k49 ?_; refine FL.nil (FW.ret ?_); cases hp; exact ⟨.inr rfl, res1 rfl rfl ⟨rfl, S39.back⟩⟩

theorem w_spec_l7Asked {Ha : GH} {wa : World} (hs : Sl Ha wa) (a0 : Cnf) (v0_1 : Value) (p0_1 : RSl Ha (eL eI 1) 1 v0_1 a0.clauses) (v1 : Value) (a1 : List ResStep) (p1 : RSl Ha eResStep 4 v1 a1) {r : Bool} (hp : (PF.spec_l7Asked a0 a1) = some r) :
  Calls prog 176 #[vA #[vI a0.vars, v0_1], v1] wa (Sc Ha wa (vB r)) := by
 unfold PF.spec_l7Asked at hp; have S0 := St.init hs; refine calls_go (N := 12) (args := [vA #[vI a0.vars, v0_1], v1]) func176 rfl rfl rfl ?_; refine FW.sr ?_; obtain ⟨b21, w22, run23, S24⟩ := S0.box (P := prog) 32 [vI a0.vars, v0_1] (v := vA #[vI a0.vars, v0_1]) rfl (oC rfl (oC p0_1.one ones_nil)); refine FL.v (E.box rfl run23) ?_; obtain ⟨H25, S26, i27, at28⟩ := S24.sealBox (i := 0) (l' := []) rfl rfl; refine FL.as (v := vB false) rfl ?_; refine FL.nil (FW.sr ?_); refine FL.mv (v := v1) rfl ?_; refine FL.v (E.lenP te34 rfl p1) ?_; refine FL.v (E.leq rfl rfl) ?_; refine FL.mv (v := vB (decide ((len a1) ≤ 200))) rfl ?_; obtain ⟨t34, hqt34, hp⟩ := bnd hp; refine FL.cut 3 (fun f w => ∃ H : GH, St Ha wa H w [] ∧ Inc H25 H ∧ f 11 = vB t34) ?_ ?_
 ·
  clear hp; have hp := hqt34; clear hqt34; rcases ifB hp with ⟨c40, hp⟩ | ⟨c40, hp⟩
  ·
   refine FL.y (wY c40) (E.load rfl (run_loadA isAgg32 sizeOf32 (at28.now S26.sl) rfl)) ?_; obtain ⟨r41, hr42, hp⟩ := bnd hp; refine FL.call (wY c40) rfl rfl (E.call call152 (A1 rfl)) (w_spec_l2Good S26.sl a0 v0_1 (p0_1.mono i27) hr42) ?_; rintro e w43 ⟨rfl, r44⟩; refine ⟨_, rfl, ?_⟩; have S45 := S26.call r44; cases hp; refine FL.v (E.pickT rfl c40 rfl) ?_; exact FL.nil ⟨rfl, _, S45, I0, rfl⟩
  ·
   refine FL.skip (wN c40) rfl ?_; refine FL.skip (wN c40) rfl ?_; cases hp; refine FL.v (E.pickF rfl c40 rfl) ?_; exact FL.nil ⟨rfl, _, S26, I0, rfl⟩
 rintro f39 w38 ⟨H35, S36, i37, k46⟩; refine FL.as k46 ?_; refine FL.nil (FW.ret ?_); cases hp; exact ⟨.inr rfl, res1 rfl rfl ⟨rfl, S36.back⟩⟩

theorem w_spec_l1Same {Ha : GH} {wa : World} (hs : Sl Ha wa) (v0 : Value) (a0 : List Int) (p0 : RSl Ha eI 1 v0 a0) (v1 : Value) (a1 : List Int) (p1 : RSl Ha eI 1 v1 a1) {r : Bool} (hp : (PF.spec_l1Same a0 a1) = some r) :
  Calls prog 167 #[v0, v1] wa (Sc Ha wa (vB r)) := by
 unfold PF.spec_l1Same at hp; have S0 := St.init hs; refine calls_go (N := 26) (args := [v0, v1]) func167 rfl rfl rfl ?_; refine FW.sr ?_; refine FL.as (v := vB false) rfl ?_; refine FL.nil (FW.seq (FW.sr ?_)); refine FL.mv (v := v0) rfl ?_; refine FL.v (E.lenP te73 rfl p0) ?_; refine FL.mv (v := v1) rfl ?_; refine FL.v (E.lenP te73 rfl p1) ?_; refine FL.v (E.neq rfl rfl) ?_; refine FL.nil ?_; rcases ifB hp with ⟨c21, hp⟩ | ⟨c21, hp⟩
 ·
  refine FW.condT rfl c21 ?_; refine FW.sr ?_; refine FL.as (v := vB false) rfl ?_; refine FL.nil (FW.ret ?_); cases hp; exact ⟨.inr rfl, res1 rfl rfl ⟨rfl, S0.back⟩⟩
 ·
  refine FW.condF rfl c21 ?_; refine FW.skip (FW.seq (FW.sr ?_)); refine FL.as (v := vI 0) rfl ?_; refine FL.nil ?_; obtain ⟨q23, hq, hp⟩ := bndR hp; refine FW.block ?_; refine FW.mono (FW.forL (S := Unit) (X := Bool) (fun (i23 : Nat) (s23 : Unit) f w => ∃ H : GH, St Ha wa H w [] ∧ Inc Ha H ∧ f 5 = vI ((i23 : Nat) : Int) ∧ f 0 = v0 ∧ f 1 = v1) (fun q e f w => match q with | .go s23 => e = Exit.exit 0 ∧ (∃ H : GH, St Ha wa H w [] ∧ Inc Ha H) | .rt x => ((e = Exit.ret) ∧ (fun e f w => (e = Exit.normal ∨ e = Exit.ret) ∧ ∀ a, Fr (δ := []) 26 a f → ∃ v, (results Tryz.f167 a.tmps).run prog w = .ok v w ∧ (Sc Ha wa (vB x)) (.returned v) w) e f w)) hq ⟨_, S0, I0, rfl, rfl, rfl⟩ ?_ ?_) ?_
  ·
   clear hp hq; rintro i23 y22 s23 f55 w54 ⟨H51, S52, i53, k56, k57, k58⟩ hx23 o78 hp; refine FW.seq (FW.sr ?_); refine FL.mv k56 ?_; refine FL.mv k57 ?_; refine FL.v (E.lenP te73 rfl p0) ?_; refine FL.v (E.lssT rfl rfl (lss_len hx23)) ?_; refine FL.nil ?_; refine FW.condT rfl rfl ?_; refine FW.skip (FW.seq (FW.block (FW.seq ?_))); refine FW.draw (fun w' => Run w54.heap.size H51 w54 H51 w') (by kernel_rfl) (by kernel_rfl) (run_drew S52.sl) ?_; refine FD.v (fun _ z => (E.move k57)) ?_; refine FD.v (fun _ z => (E.move k56)) ?_; obtain ⟨p60, cs61, pt62, l63, at64, rel65⟩ := p0.at (ix_nat hx23); obtain rfl := eI_open rel65; refine FD.v (fun _ z => (E.indexAddr te73 rfl rfl pt62)) ?_; refine FD.v (fun _ z => (E.load rfl (run_load0 isAgg3 ((at64.mono i53).now (S52.call z).sl) rfl))) ?_; refine FD.v (fun _ z => (E.move k58)) ?_; refine FD.v (fun _ z => (E.move k56)) ?_; obtain ⟨x72, hx73, hp⟩ := bnd hp; obtain ⟨p66, cs67, pt68, l69, at70, rel71⟩ := p1.at hx73; obtain rfl := eI_open rel71; refine FD.v (fun _ z => (E.indexAddr te73 rfl rfl pt68)) ?_; refine FD.v (fun _ z => (E.load rfl (run_load0 isAgg3 ((at70.mono i53).now (S52.call z).sl) rfl))) ?_; refine FD.v (fun _ z => (E.neq rfl rfl)) ?_; refine FD.nil ?_; intro w74 r76; have S75 := S52.call r76; rcases ifB hp with ⟨c77, hp⟩ | ⟨c77, hp⟩
   ·
    refine FW.condT rfl c77 ?_; refine FW.sr ?_; refine FL.as (v := vB false) rfl ?_; refine FL.nil (FW.ret ?_); cases hp; exact ⟨nofun, rfl, ⟨.inr rfl, res1 rfl rfl ⟨rfl, S75.back⟩⟩⟩
   ·
    refine FW.condF rfl c77 ?_; refine FW.skip (FW.region ?_); refine FL.mv k56 ?_; refine FL.v (E.add rfl rfl) ?_; refine FL.as (v := vI (wr (((i23 : Nat) : Int) + 1))) rfl ?_; refine FL.nil ?_; cases hp; exact ⟨rfl, ⟨_, S75, i53, (nat_succ rfl (lt_of_get hx23) (p0.mono i53).le), k57, k58⟩⟩
  ·
   clear hp hq; rintro s23 f88 w87 ⟨H84, S85, i86, k89, k90, k91⟩; refine FW.seq (FW.sr ?_); refine FL.mv k89 ?_; refine FL.mv k90 ?_; refine FL.v (E.lenP te73 rfl p0) ?_; refine FL.v (E.lss rfl rfl) ?_; refine FL.nil ?_; refine FW.condF rfl dlt_len ?_; refine FW.exit ?_; exact ⟨nofun, rfl, ⟨_, S85, i86⟩⟩
  ·
   clear hq; intro e f83 w82 hD; rcases q23 with s23 | x23
   ·
    obtain ⟨rfl, hD⟩ := hD; obtain ⟨H79, S80, i81⟩ := hD; replace hp := el_go hp; refine FW.sr ?_; refine FL.as (v := vB true) rfl ?_; refine FL.nil (FW.ret ?_); cases hp; exact ⟨.inr rfl, res1 rfl rfl ⟨rfl, S80.back⟩⟩
   ·
    obtain ⟨he, hL⟩ := hD; replace hp := el_rt hp; cases hp; subst he; exact hL

theorem w_spec_l7Clause {Ha : GH} {wa : World} (hs : Sl Ha wa) (a0 : Cnf) (v0_1 : Value) (p0_1 : RSl Ha (eL eI 1) 1 v0_1 a0.clauses) (v1 : Value) (a1 : List ResStep) (p1 : RSl Ha eResStep 4 v1 a1) (a2 : Int) (a3 : Int) {r : Bool} (hp : (PF.spec_l7Clause a0 a1 a2 a3) = some r) :
  Calls prog 253 #[vA #[vI a0.vars, v0_1], v1, vI a2, vI a3] wa (Sc Ha wa (vB r)) := by
 unfold PF.spec_l7Clause at hp; have S0 := St.init hs; refine calls_go (N := 23) (args := [vA #[vI a0.vars, v0_1], v1, vI a2, vI a3]) func253 rfl rfl rfl ?_; refine FW.sr ?_; obtain ⟨b21, w22, run23, S24⟩ := S0.box (P := prog) 32 [vI a0.vars, v0_1] (v := vA #[vI a0.vars, v0_1]) rfl (oC rfl (oC p0_1.one ones_nil)); refine FL.v (E.box rfl run23) ?_; obtain ⟨H25, S26, i27, at28⟩ := S24.sealBox (i := 0) (l' := []) rfl rfl; refine FL.as (v := vB false) rfl ?_; refine FL.nil (FW.seq ?_); refine FW.draw (fun w' => Run w22.heap.size H25 w22 H25 w') (by kernel_rfl) (by kernel_rfl) (run_drew S26.sl) ?_; refine FD.v (fun _ z => (E.move (v := vI a3) rfl)) ?_; refine FD.v (fun _ z => (E.move (v := vI a2) rfl)) ?_; refine FD.v (fun _ z => (E.sub rfl rfl)) ?_; refine FD.call rfl rfl rfl (fun _ z => (E.call call153 (A3 rfl rfl rfl))) (fun _ z => Calls.cls z (w_spec_l1In (S26.call z).sl a3 0 (wr (a2 - 1)))) ?_; refine FD.v (fun _ z => (E.move (v := vB (PF.spec_l1In a3 0 (wr (a2 - 1)))) rfl)) ?_; obtain ⟨t42, hqt42, hp⟩ := bnd hp; refine FD.cut 9 (fun f => f 22 = vB t42) ?_ ?_
 ·
  clear hp; have hp := hqt42; clear hqt42; rcases ifB hp with ⟨c48, hp⟩ | ⟨c48, hp⟩
  ·
   refine FD.y (wY c48) (fun _ z => (E.fieldAddr tf32_0 rfl)) ?_; refine FD.y (wY c48) (fun _ z => (E.load rfl (run_load1 isAgg3 (at28.now (S26.call z).sl) rfl))) ?_; refine FD.y (wY c48) (fun _ z => (E.move (v := v1) rfl)) ?_; refine FD.y (wY c48) (fun _ z => (E.move (v := vI a3) rfl)) ?_; obtain ⟨x55, hx56, hp⟩ := bnd hp; obtain ⟨p49, cs50, pt51, l52, at53, rel54⟩ := p1.at hx56; obtain ⟨v57, rfl, h58⟩ := eResStep_open rel54; refine FD.y (wY c48) (fun _ z => (E.indexAddr te34 rfl rfl pt51)) ?_; refine FD.y (wY c48) (fun _ z => (E.fieldAddr tf88_0 rfl)) ?_; refine FD.y (wY c48) (fun _ z => (E.load rfl (run_load1 isAgg73 ((at53.mono i27).now (S26.call z).sl) rfl))) ?_; obtain ⟨r59, hr60, hp⟩ := bnd hp; refine FD.call (wY c48) rfl rfl (fun _ z => (E.call call202 (A2 rfl rfl))) (fun _ z => Calls.cls z (w_spec_l2Clause (S26.call z).sl a0.vars v57 x55.clause (h58.mono i27) hr60)) ?_; cases hp; refine FD.v (fun _ z => (E.pickT rfl c48 rfl)) ?_; exact FD.nil rfl
  ·
   refine FD.skip (wN c48) rfl ?_; refine FD.skip (wN c48) rfl ?_; refine FD.skip (wN c48) rfl ?_; refine FD.skip (wN c48) rfl ?_; refine FD.skip (wN c48) rfl ?_; refine FD.skip (wN c48) rfl ?_; refine FD.skip (wN c48) rfl ?_; refine FD.skip (wN c48) rfl ?_; cases hp; refine FD.v (fun _ z => (E.pickF rfl c48 rfl)) ?_; exact FD.nil rfl
 intro f47 k61; refine FD.v (fun _ z => (E.assign k61)) ?_; refine FD.nil ?_; intro w62 r64; have S63 := S26.call r64; refine FW.ret ?_; cases hp; exact ⟨.inr rfl, res1 rfl rfl ⟨rfl, S63.back⟩⟩

theorem w_spec_l1Has {Ha : GH} {wa : World} (hs : Sl Ha wa) (v0 : Value) (a0 : List Int) (p0 : RSl Ha eI 1 v0 a0) (a1 : Int) {r : Bool} (hp : (PF.spec_l1Has a0 a1) = some r) :
  Calls prog 243 #[v0, vI a1] wa (Sc Ha wa (vB r)) := by
 unfold PF.spec_l1Has at hp; have S0 := St.init hs; refine calls_go (N := 18) (args := [v0, vI a1]) func243 rfl rfl rfl ?_; refine FW.sr ?_; refine FL.as (v := vB false) rfl ?_; refine FL.nil (FW.seq (FW.sr ?_)); refine FL.as (v := vI 0) rfl ?_; refine FL.nil ?_; obtain ⟨q22, hq, hp⟩ := bndR hp; refine FW.block ?_; refine FW.mono (FW.forL (S := Unit) (X := Bool) (fun (i22 : Nat) (s22 : Unit) f w => ∃ H : GH, St Ha wa H w [] ∧ Inc Ha H ∧ f 5 = vI ((i22 : Nat) : Int) ∧ f 0 = v0 ∧ f 1 = vI a1) (fun q e f w => match q with | .go s22 => e = Exit.exit 0 ∧ (∃ H : GH, St Ha wa H w [] ∧ Inc Ha H) | .rt x => ((e = Exit.ret) ∧ (fun e f w => (e = Exit.normal ∨ e = Exit.ret) ∧ ∀ a, Fr (δ := []) 18 a f → ∃ v, (results Tryz.f243 a.tmps).run prog w = .ok v w ∧ (Sc Ha wa (vB x)) (.returned v) w) e f w)) hq ⟨_, S0, I0, rfl, rfl, rfl⟩ ?_ ?_) ?_
 ·
  clear hp hq; rintro i22 y21 s22 f42 w41 ⟨H38, S39, i40, k43, k44, k45⟩ hx22 o53 hp; refine FW.seq (FW.sr ?_); refine FL.mv k43 ?_; refine FL.mv k44 ?_; refine FL.v (E.lenP te73 rfl p0) ?_; refine FL.v (E.lssT rfl rfl (lss_len hx22)) ?_; refine FL.nil ?_; refine FW.condT rfl rfl ?_; refine FW.skip (FW.seq (FW.block (FW.sr ?_))); refine FL.mv k44 ?_; refine FL.mv k43 ?_; obtain ⟨p46, cs47, pt48, l49, at50, rel51⟩ := p0.at (ix_nat hx22); obtain rfl := eI_open rel51; refine FL.v (E.indexAddr te73 rfl rfl pt48) ?_; refine FL.v (E.load rfl (run_load0 isAgg3 ((at50.mono i40).now S39.sl) rfl)) ?_; refine FL.mv k45 ?_; refine FL.v (E.eql rfl rfl) ?_; refine FL.nil ?_; rcases ifB hp with ⟨c52, hp⟩ | ⟨c52, hp⟩
  ·
   refine FW.condT rfl c52 ?_; refine FW.sr ?_; refine FL.as (v := vB true) rfl ?_; refine FL.nil (FW.ret ?_); cases hp; exact ⟨nofun, rfl, ⟨.inr rfl, res1 rfl rfl ⟨rfl, S39.back⟩⟩⟩
  ·
   refine FW.condF rfl c52 ?_; refine FW.skip (FW.region ?_); refine FL.mv k43 ?_; refine FL.v (E.add rfl rfl) ?_; refine FL.as (v := vI (wr (((i22 : Nat) : Int) + 1))) rfl ?_; refine FL.nil ?_; cases hp; exact ⟨rfl, ⟨_, S39, i40, (nat_succ rfl (lt_of_get hx22) (p0.mono i40).le), k44, k45⟩⟩
 ·
  clear hp hq; rintro s22 f63 w62 ⟨H59, S60, i61, k64, k65, k66⟩; refine FW.seq (FW.sr ?_); refine FL.mv k64 ?_; refine FL.mv k65 ?_; refine FL.v (E.lenP te73 rfl p0) ?_; refine FL.v (E.lss rfl rfl) ?_; refine FL.nil ?_; refine FW.condF rfl dlt_len ?_; refine FW.exit ?_; exact ⟨nofun, rfl, ⟨_, S60, i61⟩⟩
 ·
  clear hq; intro e f58 w57 hD; rcases q22 with s22 | x22
  ·
   obtain ⟨rfl, hD⟩ := hD; obtain ⟨H54, S55, i56⟩ := hD; replace hp := el_go hp; refine FW.sr ?_; refine FL.as (v := vB false) rfl ?_; refine FL.nil (FW.ret ?_); cases hp; exact ⟨.inr rfl, res1 rfl rfl ⟨rfl, S55.back⟩⟩
  ·
   obtain ⟨he, hL⟩ := hD; replace hp := el_rt hp; cases hp; subst he; exact hL

theorem w_spec_l2Has {Ha : GH} {wa : World} (hs : Sl Ha wa) (v0 : Value) (a0 : List Int) (p0 : RSl Ha eI 1 v0 a0) (a1 : Int) {r : Bool} (hp : (PF.spec_l2Has a0 a1) = some r) :
  Calls prog 190 #[v0, vI a1] wa (Sc Ha wa (vB r)) := by
 unfold PF.spec_l2Has at hp; have S0 := St.init hs; refine calls_go (N := 8) (args := [v0, vI a1]) func190 rfl rfl rfl ?_; refine FW.sr ?_; refine FL.as (v := vB false) rfl ?_; refine FL.nil (FW.sr ?_); refine FL.mv (v := v0) rfl ?_; refine FL.mv (v := vI a1) rfl ?_; obtain ⟨r21, hr22, hp⟩ := bnd hp; refine FL.c (E.call call243 (A2 rfl rfl)) (w_spec_l1Has S0.sl v0 a0 p0 a1 hr22) ?_; rintro e w23 ⟨rfl, r24⟩; refine ⟨_, rfl, ?_⟩; have S25 := S0.call r24; refine FL.as (v := vB r21) rfl ?_; refine FL.nil (FW.ret ?_); cases hp; exact ⟨.inr rfl, res1 rfl rfl ⟨rfl, S25.back⟩⟩

theorem w_spec_l2Sub {Ha : GH} {wa : World} (hs : Sl Ha wa) (v0 : Value) (a0 : List Int) (p0 : RSl Ha eI 1 v0 a0) (v1 : Value) (a1 : List Int) (p1 : RSl Ha eI 1 v1 a1) {r : Bool} (hp : (PF.spec_l2Sub a0 a1) = some r) :
  Calls prog 254 #[v0, v1] wa (Sc Ha wa (vB r)) := by
 unfold PF.spec_l2Sub at hp; have S0 := St.init hs; refine calls_go (N := 19) (args := [v0, v1]) func254 rfl rfl rfl ?_; refine FW.sr ?_; refine FL.as (v := vB false) rfl ?_; refine FL.nil (FW.seq (FW.sr ?_)); refine FL.as (v := vI 0) rfl ?_; refine FL.nil ?_; obtain ⟨q22, hq, hp⟩ := bndR hp; refine FW.block ?_; refine FW.mono (FW.forL (S := Unit) (X := Bool) (fun (i22 : Nat) (s22 : Unit) f w => ∃ H : GH, St Ha wa H w [] ∧ Inc Ha H ∧ f 5 = vI ((i22 : Nat) : Int) ∧ f 0 = v0 ∧ f 1 = v1) (fun q e f w => match q with | .go s22 => e = Exit.exit 0 ∧ (∃ H : GH, St Ha wa H w [] ∧ Inc Ha H) | .rt x => ((e = Exit.ret) ∧ (fun e f w => (e = Exit.normal ∨ e = Exit.ret) ∧ ∀ a, Fr (δ := []) 19 a f → ∃ v, (results Tryz.f254 a.tmps).run prog w = .ok v w ∧ (Sc Ha wa (vB x)) (.returned v) w) e f w)) hq ⟨_, S0, I0, rfl, rfl, rfl⟩ ?_ ?_) ?_
 ·
  clear hp hq; rintro i22 y21 s22 f47 w46 ⟨H43, S44, i45, k48, k49, k50⟩ hx22 o63 hp; refine FW.seq (FW.sr ?_); refine FL.mv k48 ?_; refine FL.mv k49 ?_; refine FL.v (E.lenP te73 rfl p0) ?_; refine FL.v (E.lssT rfl rfl (lss_len hx22)) ?_; refine FL.nil ?_; refine FW.condT rfl rfl ?_; refine FW.skip (FW.seq (FW.block (FW.sr ?_))); refine FL.mv k50 ?_; refine FL.mv k49 ?_; refine FL.mv k48 ?_; obtain ⟨p51, cs52, pt53, l54, at55, rel56⟩ := p0.at (ix_nat hx22); obtain rfl := eI_open rel56; refine FL.v (E.indexAddr te73 rfl rfl pt53) ?_; refine FL.v (E.load rfl (run_load0 isAgg3 ((at55.mono i45).now S44.sl) rfl)) ?_; obtain ⟨r57, hr58, hp⟩ := bnd hp; refine FL.c (E.call call190 (A2 rfl rfl)) (w_spec_l2Has S44.sl v1 a1 (p1.mono i45) y21 hr58) ?_; rintro e w59 ⟨rfl, r60⟩; refine ⟨_, rfl, ?_⟩; have S61 := S44.call r60; refine FL.v (E.not rfl) ?_; refine FL.nil ?_; rcases ifB hp with ⟨c62, hp⟩ | ⟨c62, hp⟩
  ·
   refine FW.condT rfl c62 ?_; refine FW.sr ?_; refine FL.as (v := vB false) rfl ?_; refine FL.nil (FW.ret ?_); cases hp; exact ⟨nofun, rfl, ⟨.inr rfl, res1 rfl rfl ⟨rfl, S61.back⟩⟩⟩
  ·
   refine FW.condF rfl c62 ?_; refine FW.skip (FW.region ?_); refine FL.mv k48 ?_; refine FL.v (E.add rfl rfl) ?_; refine FL.as (v := vI (wr (((i22 : Nat) : Int) + 1))) rfl ?_; refine FL.nil ?_; cases hp; exact ⟨rfl, ⟨_, S61, i45, (nat_succ rfl (lt_of_get hx22) (p0.mono i45).le), k49, k50⟩⟩
 ·
  clear hp hq; rintro s22 f73 w72 ⟨H69, S70, i71, k74, k75, k76⟩; refine FW.seq (FW.sr ?_); refine FL.mv k74 ?_; refine FL.mv k75 ?_; refine FL.v (E.lenP te73 rfl p0) ?_; refine FL.v (E.lss rfl rfl) ?_; refine FL.nil ?_; refine FW.condF rfl dlt_len ?_; refine FW.exit ?_; exact ⟨nofun, rfl, ⟨_, S70, i71⟩⟩
 ·
  clear hq; intro e f68 w67 hD; rcases q22 with s22 | x22
  ·
   obtain ⟨rfl, hD⟩ := hD; obtain ⟨H64, S65, i66⟩ := hD; replace hp := el_go hp; refine FW.sr ?_; refine FL.as (v := vB true) rfl ?_; refine FL.nil (FW.ret ?_); cases hp; exact ⟨.inr rfl, res1 rfl rfl ⟨rfl, S65.back⟩⟩
  ·
   obtain ⟨he, hL⟩ := hD; replace hp := el_rt hp; cases hp; subst he; exact hL

@[reducible] def p_spec_l2Without (Ha : GH) (wa : World) (r : (List Int)) : Ending → World → Prop :=
  fun e w' => ∃ H' : GH, ∃ v0 : Value, ∃ n0 : Nat, ∃ c0 : List Value, e = .returned (v0) ∧ St Ha wa H' w' [.row 3 1 v0 n0 c0] ∧ Els (up wa.heap.size H') eI 1 c0 r
theorem w_spec_l2Without {Ha : GH} {wa : World} (hs : Sl Ha wa) (v0 : Value) (a0 : List Int) (p0 : RSl Ha eI 1 v0 a0) (a1 : Int) {r : (List Int)} (hp : (PF.spec_l2Without a0 a1) = some r) :
    Calls prog 273 #[v0, vI a1] wa (p_spec_l2Without Ha wa r) := by
  unfold PF.spec_l2Without at hp
  have S0 := St.init hs
  refine calls_go (N := 29) (args := [v0, vI a1]) Tryz.func273 rfl rfl rfl ?_
  refine FW.seq (FW.region ?_)
  refine FL.v (E.assign (v := vN) rfl) ?_
  refine FL.nil (FW.seq (FW.region ?_))
  obtain ⟨v21, w22, run23, S24⟩ := S0.buildSlice (P := prog) te73 [] (parts := #[]) (cells := []) rfl szs_nil fc_nil ones_nil (Nat.le_of_ble_eq_true rfl)
  have els25 : Els (up wa.heap.size Ha) eI 1 [] [] := Els.nil
  refine FL.v (E.buildSlice (B0) run23) ?_
  refine FL.v (E.assign (v := v21) rfl) ?_
  refine FL.nil (FW.seq (FW.seq (FW.region ?_)))
  refine FL.v (E.assign (v := vI 0) rfl) ?_
  refine FL.nil ?_
  obtain ⟨q27, hq, hp⟩ := bndR hp
  refine FW.block ?_
  refine FW.mono (FW.forL (S := (List Int)) (X := Empty) (fun (i27 : Nat) (s27 : (List Int)) f w => ∃ H : GH, ∃ v28 : Value, ∃ n29 : Nat, ∃ cs30 : List Value, St Ha wa H w [.row 3 1 v28 n29 cs30] ∧ Inc Ha H ∧ Els (up wa.heap.size H) eI 1 cs30 s27 ∧ f 6 = vI ((i27 : Nat) : Int) ∧ f 0 = v0 ∧ f 1 = vI a1 ∧ f 5 = v28) (fun (q : Rs (List Int) Empty) e f w => match q with | .go s27 => e = Exit.exit 0 ∧ (∃ H : GH, ∃ v28 : Value, ∃ n29 : Nat, ∃ cs30 : List Value, St Ha wa H w [.row 3 1 v28 n29 cs30] ∧ Inc Ha H ∧ Els (up wa.heap.size H) eI 1 cs30 s27 ∧ f 5 = v28) | .rt x => x.elim) hq ⟨_, _, _, _, S24, (Inc.rfl _), els25, rfl, rfl, rfl, rfl⟩ ?_ ?_) ?_
  ·
    clear hp hq
    rintro i27 y26 s27 f77 w76 ⟨H73, v28, n29, cs30, S74, i75, els31, k78, k79, k80, k81⟩ hx27 o114 hp
    refine FW.seq (FW.seq (FW.region ?_))
    refine FL.v (E.move k78) ?_
    refine FL.v (E.move k79) ?_
    refine FL.v (E.lenP te73 rfl p0) ?_
    refine FL.v (E.lssT rfl rfl (lss_len hx27)) ?_
    refine FL.nil ?_
    refine FW.condT rfl rfl ?_
    refine FW.skip (FW.seq (FW.block (FW.seq (FW.region ?_))))
    refine FL.v (E.move k79) ?_
    refine FL.v (E.move k78) ?_
    obtain ⟨p82, cs83, pt84, l85, at86, rel87⟩ := p0.at (ix_nat hx27)
    obtain rfl := eI_open rel87
    refine FL.v (E.indexAddr te73 rfl rfl pt84) ?_
    refine FL.v (E.load rfl (run_load0 Tryz.isAgg3 ((at86.mono i75).now S74.sl) rfl)) ?_
    refine FL.call rfl rfl rfl (E.call Tryz.call116 (A1 rfl)) (w_spec_l2Var S74.sl y26) ?_
    rintro e w88 ⟨rfl, r89⟩
    refine ⟨_, rfl, ?_⟩
    have S90 := S74.call r89
    refine FL.v (E.move k80) ?_
    refine FL.v (E.neq rfl rfl) ?_
    refine FL.nil ?_
    rcases ifB hp with ⟨c91, hp⟩ | ⟨c91, hp⟩
    ·
      refine FW.condT rfl c91 ?_
      refine FW.region ?_
      refine FL.v (E.move k81) ?_
      refine FL.v (E.move k79) ?_
      refine FL.v (E.move k78) ?_
      obtain ⟨p92, cs93, pt94, l95, at96, rel97⟩ := p0.at (ix_nat hx27)
      obtain rfl := eI_open rel97
      refine FL.v (E.indexAddr te73 rfl rfl pt94) ?_
      refine FL.v (E.load rfl (run_load0 Tryz.isAgg3 ((at96.mono i75).now S90.sl) rfl)) ?_
      obtain ⟨v98, w99, run100, S101⟩ := S90.buildSlice (P := prog) te73 [vI y26] (parts := #[(0, vI y26)]) (cells := [vI y26]) rfl (szs_cons rfl szs_nil) (fc_cons rfl fc_nil) (ones_cons rfl ones_nil) (Nat.le_of_ble_eq_true rfl)
      have els102 : Els (up wa.heap.size H73) eI 1 [vI y26] [y26] := (Els.snoc (H := (up wa.heap.size H73)) (E := eI) (k := 1) (c := [vI y26]) (x := y26) Els.nil rfl rfl)
      refine FL.v (E.buildSlice (B1 rfl) run100) ?_
      obtain ⟨xs103, hz104, hp⟩ := bnd hp
      obtain ⟨v105, w108, n106, cs107, run109, S110, els111, ce112⟩ := S101.appendO (P := prog) te73 (i := 1) (j := 0) rfl els31 rfl els102 hz104
      have S110 : St Ha wa H73 w108 [.row 3 1 v98 1 [vI y26], .row 3 1 v105 n106 cs107] := S110
      have S113 : St Ha wa H73 w108 [.row 3 1 v105 n106 cs107] := S110.drop 0
      refine FL.v (E.append rfl rfl run109) ?_
      refine FL.v (E.assign (v := v105) rfl) ?_
      refine FL.nil (FW.region ?_)
      refine FL.v (E.move k78) ?_
      refine FL.v (E.add rfl rfl) ?_
      refine FL.v (E.assign (v := vI (wr (((i27 : Nat) : Int) + 1))) rfl) ?_
      refine FL.nil ?_
      obtain rfl := Option.some.inj hp
      exact ⟨rfl, ⟨_, _, _, _, S113, i75, els111, (nat_succ rfl (lt_of_get hx27) (p0.mono i75).le), k79, k80, rfl⟩⟩
    ·
      refine FW.condF rfl c91 ?_
      refine FW.skip (FW.region ?_)
      refine FL.v (E.move k78) ?_
      refine FL.v (E.add rfl rfl) ?_
      refine FL.v (E.assign (v := vI (wr (((i27 : Nat) : Int) + 1))) rfl) ?_
      refine FL.nil ?_
      obtain rfl := Option.some.inj hp
      exact ⟨rfl, ⟨_, _, _, _, S90, i75, els31, (nat_succ rfl (lt_of_get hx27) (p0.mono i75).le), k79, k80, k81⟩⟩
  ·
    clear hp hq
    rintro s27 f125 w124 ⟨H121, v28, n29, cs30, S122, i123, els31, k126, k127, k128, k129⟩
    refine FW.seq (FW.seq (FW.region ?_))
    refine FL.v (E.move k126) ?_
    refine FL.v (E.move k127) ?_
    refine FL.v (E.lenP te73 rfl p0) ?_
    refine FL.v (E.lss rfl rfl) ?_
    refine FL.nil ?_
    refine FW.condF rfl dlt_len ?_
    refine FW.exit ?_
    exact ⟨nofun, rfl, ⟨_, _, _, _, S122, i123, els31, k129⟩⟩
  ·
    clear hq
    intro e f119 w118 hD
    rcases q27 with s27 | x27
    ·
      obtain ⟨rfl, hD⟩ := hD
      obtain ⟨H115, v28, n29, cs30, S116, i117, els31, k120⟩ := hD
      replace hp := el_go hp
      refine FW.seq (FW.region ?_)
      refine FL.v (E.move k120) ?_
      refine FL.v (E.assign (v := v28) rfl) ?_
      refine FL.nil ?_
      refine FW.ret ?_
      obtain rfl := Option.some.inj hp
      exact ⟨.inr rfl, res1 rfl rfl ⟨_, _, _, _, rfl, S116, els31⟩⟩
    · exact x27.elim

@[reducible] def p_spec_l1Own (Ha : GH) (wa : World) (r : (List Int)) : Ending → World → Prop :=
 fun e w' => ∃ H' : GH, ∃ v0 : Value, ∃ n0 : Nat, ∃ c0 : List Value, e = .returned (v0) ∧ St Ha wa H' w' [.row 3 1 v0 n0 c0] ∧ Els (up wa.heap.size H') eI 1 c0 r
theorem w_spec_l1Own {Ha : GH} {wa : World} (hs : Sl Ha wa) (v0 : Value) (a0 : List Int) (p0 : RSl Ha eI 1 v0 a0) {r : (List Int)} (hp : (PF.spec_l1Own a0) = some r) :
  Calls prog 280 #[v0] wa (p_spec_l1Own Ha wa r) := by
 unfold PF.spec_l1Own at hp; have S0 := St.init hs; refine calls_go (N := 6) (args := [v0]) func280 rfl rfl rfl ?_; refine FW.sr ?_; refine FL.as (v := vN) rfl ?_; refine FL.nil (FW.sr ?_); obtain ⟨v21, w22, run23, S24⟩ := S0.buildSlice (P := prog) te73 [] (parts := #[]) (cells := []) rfl szs_nil fc_nil ones_nil (nB rfl); have els25 : Els (up wa.heap.size Ha) eI 1 [] [] := Els.nil; refine FL.v (E.buildSlice (B0) run23) ?_; refine FL.mv (v := v0) rfl ?_; obtain ⟨xs26, hz27, hp⟩ := bnd hp; obtain ⟨v28, w31, n29, cs30, run32, S33, els34⟩ := S24.appendP (P := prog) I0 te73 (i := 0) rfl (els25.mono upI) p0 hz27; have S33 : St Ha wa Ha w31 [.row 3 1 v28 n29 cs30] := S33; have els34 : Els (up wa.heap.size Ha) eI 1 cs30 xs26 := els34.any (fun _ _ _ _ h => h); refine FL.v (E.append rfl rfl run32) ?_; refine FL.as (v := v28) rfl ?_; refine FL.nil (FW.ret ?_); cases hp; exact ⟨.inr rfl, res1 rfl rfl ⟨_, _, _, _, rfl, S33, els34⟩⟩

@[reducible] def p_spec_l2Put (Ha : GH) (wa : World) (r : (List Int)) : Ending → World → Prop :=
  fun e w' => ∃ H' : GH, ∃ v0 : Value, ∃ n0 : Nat, ∃ c0 : List Value, e = .returned (v0) ∧ St Ha wa H' w' [.row 3 1 v0 n0 c0] ∧ Els (up wa.heap.size H') eI 1 c0 r
theorem w_spec_l2Put {Ha : GH} {wa : World} (hs : Sl Ha wa) (v0 : Value) (a0 : List Int) (p0 : RSl Ha eI 1 v0 a0) (a1 : Int) {r : (List Int)} (hp : (PF.spec_l2Put a0 a1) = some r) :
    Calls prog 281 #[v0, vI a1] wa (p_spec_l2Put Ha wa r) := by
  unfold PF.spec_l2Put at hp
  have S0 := St.init hs
  refine calls_go (N := 33) (args := [v0, vI a1]) Tryz.func281 rfl rfl rfl ?_
  refine FW.seq (FW.region ?_)
  refine FL.v (E.assign (v := vN) rfl) ?_
  refine FL.nil (FW.seq (FW.region ?_))
  refine FL.v (E.assign (v := vI 0) rfl) ?_
  refine FL.nil (FW.seq ?_)
  obtain ⟨q21, hq, hp⟩ := bndR hp
  refine FW.block ?_
  refine FW.mono (FW.iter (S := Int) (X := Empty) (fun (s21 : Int) f w => ∃ H : GH, St Ha wa H w [] ∧ Inc Ha H ∧ f 0 = v0 ∧ f 1 = vI a1 ∧ f 5 = vI s21) (fun (q : Rs Int Empty) e f w => match q with | .go s21 => e = Exit.exit 0 ∧ (∃ H : GH, St Ha wa H w [] ∧ Inc Ha H ∧ f 0 = v0 ∧ f 1 = vI a1 ∧ f 5 = vI s21) | .rt x => x.elim) hq ⟨_, S0, (Inc.rfl _), rfl, rfl, rfl⟩ ?_) ?_
  ·
    clear hp hq
    rintro s21 f74 w73 ⟨H70, S71, i72, k75, k76, k77⟩ o118 hp
    refine FW.seq (FW.seq (FW.region ?_))
    refine FL.v (E.move k77) ?_
    refine FL.v (E.move k75) ?_
    refine FL.v (E.lenP te73 rfl p0) ?_
    refine FL.v (E.lss rfl rfl) ?_
    refine FL.v (E.move (v := vB (decide (s21 < (len a0)))) rfl) ?_
    obtain ⟨t92, hqt92, hp⟩ := bnd hp
    refine FL.cut 9 (fun f w => ∃ H : GH, St Ha wa H w [] ∧ Inc H70 H ∧ f 0 = v0 ∧ f 1 = vI a1 ∧ f 5 = vI s21 ∧ f 19 = vB t92) ?_ ?_
    ·
      clear hp; have hp := hqt92; clear hqt92
      rcases ifB hp with ⟨c98, hp⟩ | ⟨c98, hp⟩
      ·
        refine FL.val (wF_yes rfl rfl rfl c98) rfl rfl (E.move k75) ?_
        refine FL.val (wF_yes rfl rfl rfl c98) rfl rfl (E.move k77) ?_
        obtain ⟨x105, hx106, hp⟩ := bnd hp
        obtain ⟨p99, cs100, pt101, l102, at103, rel104⟩ := p0.at hx106
        obtain rfl := eI_open rel104
        refine FL.val (wF_yes rfl rfl rfl c98) rfl rfl (E.indexAddr te73 rfl rfl pt101) ?_
        refine FL.val (wF_yes rfl rfl rfl c98) rfl rfl (E.load rfl (run_load0 Tryz.isAgg3 ((at103.mono i72).now S71.sl) rfl)) ?_
        refine FL.call (wF_yes rfl rfl rfl c98) rfl rfl (E.call Tryz.call116 (A1 rfl)) (w_spec_l2Var S71.sl x105) ?_
        rintro e w107 ⟨rfl, r108⟩
        refine ⟨_, rfl, ?_⟩
        have S109 := S71.call r108
        refine FL.val (wF_yes rfl rfl rfl c98) rfl rfl (E.move k76) ?_
        refine FL.call (wF_yes rfl rfl rfl c98) rfl rfl (E.call Tryz.call116 (A1 rfl)) (w_spec_l2Var S109.sl a1) ?_
        rintro e w110 ⟨rfl, r111⟩
        refine ⟨_, rfl, ?_⟩
        have S112 := S109.call r111
        refine FL.val (wF_yes rfl rfl rfl c98) rfl rfl (E.lss rfl rfl) ?_
        obtain rfl := Option.some.inj hp
        refine FL.v (E.pickT rfl c98 rfl) ?_
        exact FL.nil ⟨rfl, _, S112, (Inc.rfl _), k75, k76, k77, rfl⟩
      ·
        refine FL.skip (wF_no rfl rfl rfl c98) rfl ?_
        refine FL.skip (wF_no rfl rfl rfl c98) rfl ?_
        refine FL.skip (wF_no rfl rfl rfl c98) rfl ?_
        refine FL.skip (wF_no rfl rfl rfl c98) rfl ?_
        refine FL.skip (wF_no rfl rfl rfl c98) rfl ?_
        refine FL.skip (wF_no rfl rfl rfl c98) rfl ?_
        refine FL.skip (wF_no rfl rfl rfl c98) rfl ?_
        refine FL.skip (wF_no rfl rfl rfl c98) rfl ?_
        obtain rfl := Option.some.inj hp
        refine FL.v (E.pickF rfl c98 rfl) ?_
        exact FL.nil ⟨rfl, _, S71, (Inc.rfl _), k75, k76, k77, rfl⟩
    rintro f97 w96 ⟨H93, S94, i95, k113, k114, k115, k116⟩
    refine FL.nil ?_
    rcases ifB hp with ⟨c117, hp⟩ | ⟨c117, hp⟩
    ·
      refine FW.condT k116 c117 ?_
      refine FW.skip (FW.block (FW.region ?_))
      refine FL.v (E.move k115) ?_
      refine FL.v (E.add rfl rfl) ?_
      refine FL.v (E.assign (v := vI (wr (s21 + 1))) rfl) ?_
      refine FL.nil ?_
      obtain rfl := Option.some.inj hp
      exact ⟨rfl, ⟨_, S94, (i72.tr i95), k113, k114, rfl⟩⟩
    ·
      refine FW.condF k116 c117 ?_
      refine FW.exit ?_
      obtain rfl := Option.some.inj hp
      exact ⟨nofun, rfl, ⟨_, S94, (i72.tr i95), k113, k114, k115⟩⟩
  ·
    clear hq
    intro e f123 w122 hD
    rcases q21 with s21 | x21
    ·
      obtain ⟨rfl, hD⟩ := hD
      obtain ⟨H119, S120, i121, k124, k125, k126⟩ := hD
      replace hp := el_go hp
      refine FW.seq ?_
      obtain ⟨xs22, hc23, hp⟩ := bnd hp
      obtain ⟨r27, hr28, hp⟩ := bnd hp
      obtain ⟨xs42, hz43, hp⟩ := bnd hp
      obtain ⟨xs53, hc54, hp⟩ := bnd hp
      obtain ⟨xs58, hz59, hp⟩ := bnd hp
      refine FW.drawB (Sl H119) (fun f w => ∃ H : GH, ∃ v67 : Value, ∃ n68 : Nat, ∃ cs69 : List Value, St Ha wa H w [.row 3 1 v67 n68 cs69] ∧ Inc H119 H ∧ Els (up wa.heap.size H) eI 1 cs69 xs58 ∧ f 4 = v67) (by kernel_rfl) S120.sl ?_ ?_
      ·
        intro w127 r128
        have S129 := S120.call r128
        refine FB.t (i := 0) (bs 12 1) rfl (SP.nil S129.sl) rfl (fun _ z => (E.move k124)) ?_
        refine FB.t (i := 1) (bs 12 3) rfl (SP.nil S129.sl) rfl (fun _ z => (E.move k126)) ?_
        obtain ⟨v24, run25, h26⟩ := p0.cut te73 hc23 (lo := none) (hi := some (vI s21)) (.inl ⟨rfl, rfl⟩) (.inr ⟨_, rfl⟩)
        refine FB.t (i := 2) (bs 12 7) rfl (SP.nil S129.sl) rfl (fun _ z => (E.slice te73 rfl rfl (congrArg some rfl) rfl (run25 _))) ?_
        refine FB.t (i := 4) (bs 12 23) rfl (SP.nil S129.sl) rfl (fun _ z => (E.move k125)) ?_
        refine FB.t (i := 7) (bs 12 151) rfl (SP.nil S129.sl) rfl (fun _ z => (E.move k124)) ?_
        refine FB.t (i := 8) (bs 12 407) rfl (SP.nil S129.sl) rfl (fun _ z => (E.move k126)) ?_
        obtain ⟨v55, run56, h57⟩ := p0.cut te73 hc54 (lo := some (vI s21)) (hi := none) (.inr ⟨_, rfl⟩) (.inl ⟨rfl, rfl⟩)
        refine FB.t (i := 9) (bs 12 919) rfl (SP.nil S129.sl) rfl (fun _ z => (E.slice te73 rfl (congrArg some rfl) rfl rfl (run56 _))) ?_
        refine FB.all2 (i := 3) (j := 5) (by kernel_rfl) ?_ ?_
        ·
          refine FC.call (l' := (bs 12 927)) rfl (by kernel_rfl) rfl rfl rfl (E.call Tryz.call280 (A1 rfl)) (w_spec_l1Own S129.sl v24 xs22 (h26.mono i121) hr28) ?_
          rintro e w30 ⟨H29, v33, n34, cs35, rfl, r32, els36⟩
          refine ⟨_, rfl, ?_⟩
          have els36 := els36.mono (up_le S129.size)
          have S31 := S129.join (l' := [.row 3 1 v33 n34 cs35]) r32 rfl
          refine ⟨(SP.nil (Sl.of_inc r32.run.inc S31.sl)), ?_⟩
          refine FB.all1 (i := 5) (by kernel_rfl) ?_
          ·
            obtain ⟨v37, w38, run39, S40⟩ := S31.buildSlice (P := prog) te73 [vI a1] (parts := #[(0, vI a1)]) (cells := [vI a1]) rfl (szs_cons rfl szs_nil) (fc_cons rfl fc_nil) (ones_cons rfl ones_nil) (Nat.le_of_ble_eq_true rfl)
            have els41 : Els (up wa.heap.size H29) eI 1 [vI a1] [a1] := (Els.snoc (H := (up wa.heap.size H29)) (E := eI) (k := 1) (c := [vI a1]) (x := a1) Els.nil rfl rfl)
            refine FC.val (l' := (bs 12 959)) rfl (by kernel_rfl) rfl rfl rfl (E.buildSlice (B1 rfl) run39) ?_
            refine ⟨(SP.nil (Sl.of_inc r32.run.inc S40.sl)), ?_⟩
            refine FB.all1 (i := 6) (by kernel_rfl) ?_
            ·
              obtain ⟨v44, w47, n45, cs46, run48, S49, els50, ce51⟩ := S40.appendO (P := prog) te73 (i := 1) (j := 0) rfl els36 rfl els41 hz43
              have S49 : St Ha wa H29 w47 [.row 3 1 v37 1 [vI a1], .row 3 1 v44 n45 cs46] := S49
              have S52 : St Ha wa H29 w47 [.row 3 1 v44 n45 cs46] := S49.drop 0
              refine FC.val (l' := (bs 12 1023)) rfl (by kernel_rfl) rfl rfl rfl (E.append rfl rfl run48) ?_
              refine ⟨(SP.nil (Sl.of_inc r32.run.inc S52.sl)), ?_⟩
              refine FB.all1 (i := 10) (by kernel_rfl) ?_
              ·
                obtain ⟨v60, w63, n61, cs62, run64, S65, els66⟩ := S52.appendP (P := prog) (Inc.rfl _) te73 (i := 0) rfl (els50.mono upI) (h57.mono (i121.tr r32.run.inc)) hz59
                have S65 : St Ha wa H29 w63 [.row 3 1 v60 n61 cs62] := S65
                have els66 : Els (up wa.heap.size H29) eI 1 cs62 xs58 := els66.any (fun _ _ _ _ h => h)
                refine FC.val (l' := (bs 12 2047)) rfl (by kernel_rfl) rfl rfl rfl (E.append rfl rfl run64) ?_
                refine ⟨(SP.nil (Sl.of_inc r32.run.inc S65.sl)), ?_⟩
                refine FB.t (i := 11) (bs 12 4095) rfl (SP.nil (Sl.of_inc r32.run.inc S65.sl)) rfl (fun _ z => (E.assign (v := v60) rfl)) ?_
                exact FB.done (by kernel_rfl) ⟨_, _, _, _, S65, r32.run.inc, els66, rfl⟩
        ·
          obtain ⟨v37, w38, run39, S40⟩ := S129.buildSlice (P := prog) te73 [vI a1] (parts := #[(0, vI a1)]) (cells := [vI a1]) rfl (szs_cons rfl szs_nil) (fc_cons rfl fc_nil) (ones_cons rfl ones_nil) (Nat.le_of_ble_eq_true rfl)
          have els41 : Els (up wa.heap.size H119) eI 1 [vI a1] [a1] := (Els.snoc (H := (up wa.heap.size H119)) (E := eI) (k := 1) (c := [vI a1]) (x := a1) Els.nil rfl rfl)
          refine FC.val (l' := (bs 12 951)) rfl (by kernel_rfl) rfl rfl rfl (E.buildSlice (B1 rfl) run39) ?_
          refine ⟨(SP.nil S40.sl), ?_⟩
          refine FB.all1 (i := 3) (by kernel_rfl) ?_
          ·
            refine FC.call (l' := (bs 12 959)) rfl (by kernel_rfl) rfl rfl rfl (E.call Tryz.call280 (A1 rfl)) (w_spec_l1Own S40.sl v24 xs22 (h26.mono i121) hr28) ?_
            rintro e w30 ⟨H29, v33, n34, cs35, rfl, r32, els36⟩
            refine ⟨_, rfl, ?_⟩
            have els36 := els36.mono (up_le S40.size)
            have S31 := S40.join (l' := [.row 3 1 v33 n34 cs35, .row 3 1 v37 1 [vI a1]]) r32 rfl
            refine ⟨(SP.nil (Sl.of_inc r32.run.inc S31.sl)), ?_⟩
            refine FB.all1 (i := 6) (by kernel_rfl) ?_
            ·
              obtain ⟨v44, w47, n45, cs46, run48, S49, els50, ce51⟩ := S31.appendO (P := prog) te73 (i := 0) (j := 1) rfl els36 rfl (els41.mono (up_mono r32.run.inc)) hz43
              have S49 : St Ha wa H29 w47 [.row 3 1 v44 n45 cs46, .row 3 1 v37 1 [vI a1]] := S49
              have S52 : St Ha wa H29 w47 [.row 3 1 v44 n45 cs46] := S49.drop 1
              refine FC.val (l' := (bs 12 1023)) rfl (by kernel_rfl) rfl rfl rfl (E.append rfl rfl run48) ?_
              refine ⟨(SP.nil (Sl.of_inc r32.run.inc S52.sl)), ?_⟩
              refine FB.all1 (i := 10) (by kernel_rfl) ?_
              ·
                obtain ⟨v60, w63, n61, cs62, run64, S65, els66⟩ := S52.appendP (P := prog) (Inc.rfl _) te73 (i := 0) rfl (els50.mono upI) (h57.mono (i121.tr r32.run.inc)) hz59
                have S65 : St Ha wa H29 w63 [.row 3 1 v60 n61 cs62] := S65
                have els66 : Els (up wa.heap.size H29) eI 1 cs62 xs58 := els66.any (fun _ _ _ _ h => h)
                refine FC.val (l' := (bs 12 2047)) rfl (by kernel_rfl) rfl rfl rfl (E.append rfl rfl run64) ?_
                refine ⟨(SP.nil (Sl.of_inc r32.run.inc S65.sl)), ?_⟩
                refine FB.t (i := 11) (bs 12 4095) rfl (SP.nil (Sl.of_inc r32.run.inc S65.sl)) rfl (fun _ z => (E.assign (v := v60) rfl)) ?_
                exact FB.done (by kernel_rfl) ⟨_, _, _, _, S65, r32.run.inc, els66, rfl⟩
      ·
        rintro f83 w82 ⟨H79, v67, n68, cs69, S80, i81, els78, k84⟩
        refine FW.ret ?_
        obtain rfl := Option.some.inj hp
        exact ⟨.inr rfl, res1 rfl k84 ⟨_, _, _, _, rfl, S80, els78⟩⟩
    · exact x21.elim

@[reducible] def p_spec_l2Join (Ha : GH) (wa : World) (r : ((List Int) × Bool)) : Ending → World → Prop :=
 fun e w' => ∃ H' : GH, ∃ v0 : Value, ∃ n0 : Nat, ∃ c0 : List Value, e = .returned (Value.tuple #[v0, vB r.2]) ∧ St Ha wa H' w' [.row 3 1 v0 n0 c0] ∧ Els (up wa.heap.size H') eI 1 c0 r.1
theorem w_spec_l2Join {Ha : GH} {wa : World} (hs : Sl Ha wa) (v0 : Value) (a0 : List Int) (p0 : RSl Ha eI 1 v0 a0) (v1 : Value) (a1 : List Int) (p1 : RSl Ha eI 1 v1 a1) {r : ((List Int) × Bool)} (hp : (PF.spec_l2Join a0 a1) = some r) :
  Calls prog 272 #[v0, v1] wa (p_spec_l2Join Ha wa r) := by
 unfold PF.spec_l2Join at hp; have S0 := St.init hs; refine calls_go (N := 38) (args := [v0, v1]) func272 rfl rfl rfl ?_; refine FW.sr ?_; refine FL.as (v := vN) rfl ?_; refine FL.as (v := vB false) rfl ?_; refine FL.nil (FW.sr ?_); refine FL.mv (v := v0) rfl ?_; obtain ⟨r21, hr22, hp⟩ := bnd hp; refine FL.c (E.call call280 (A1 rfl)) (w_spec_l1Own S0.sl v0 a0 p0 hr22) ?_; rintro e w24 ⟨H23, v27, n28, cs29, rfl, r26, els30⟩; refine ⟨_, rfl, ?_⟩; have els30 := els30.mono (up_le S0.size); have S25 := S0.join (l' := [.row 3 1 v27 n28 cs29]) r26 rfl; refine FL.as (v := v27) rfl ?_; refine FL.nil (FW.seq (FW.sr ?_)); refine FL.as (v := vI 0) rfl ?_; refine FL.nil ?_; obtain ⟨q32, hq, hp⟩ := bndR hp; refine FW.block ?_; refine FW.mono (FW.forL (S := (List Int)) (X := ((List Int) × Bool)) (fun (i32 : Nat) (s32 : (List Int)) f w => ∃ H : GH, ∃ v107 : Value, ∃ n108 : Nat, ∃ cs109 : List Value, St Ha wa H w [.row 3 1 v107 n108 cs109] ∧ Inc H23 H ∧ Els (up wa.heap.size H) eI 1 cs109 s32 ∧ f 7 = vI ((i32 : Nat) : Int) ∧ f 1 = v1 ∧ f 6 = v107) (fun q e f w => match q with | .go s32 => e = Exit.exit 0 ∧ (∃ H : GH, ∃ v107 : Value, ∃ n108 : Nat, ∃ cs109 : List Value, St Ha wa H w [.row 3 1 v107 n108 cs109] ∧ Inc H23 H ∧ Els (up wa.heap.size H) eI 1 cs109 s32 ∧ f 6 = v107) | .rt x => ((e = Exit.ret) ∧ (fun e f w => (e = Exit.normal ∨ e = Exit.ret) ∧ ∀ a, Fr (δ := []) 38 a f → ∃ v, (results Tryz.f272 a.tmps).run prog w = .ok v w ∧ (p_spec_l2Join Ha wa x) (.returned v) w) e f w)) hq ⟨_, _, _, _, S25, I0, els30, rfl, rfl, rfl⟩ ?_ ?_) ?_
 ·
  clear hp hq; rintro i32 y31 s32 f185 w184 ⟨H181, v107, n108, cs109, S182, i183, els110, k186, k187, k188⟩ hx32 o251 hp; refine FW.seq (FW.sr ?_); refine FL.mv k186 ?_; refine FL.mv k187 ?_; refine FL.v (E.lenP te73 rfl p1) ?_; refine FL.v (E.lssT rfl rfl (lss_len hx32)) ?_; refine FL.nil ?_; refine FW.condT rfl rfl ?_; refine FW.skip (FW.seq (FW.block (FW.seq (FW.sr ?_)))); refine FL.mv k188 ?_; refine FL.mv k187 ?_; refine FL.mv k186 ?_; obtain ⟨p189, cs190, pt191, l192, at193, rel194⟩ := p1.at (ix_nat hx32); obtain rfl := eI_open rel194; refine FL.v (E.indexAddr te73 rfl rfl pt191) ?_; refine FL.v (E.load rfl (run_load0 isAgg3 ((at193.mono (r26.run.inc.tr i183)).now S182.sl) rfl)) ?_; refine FL.v (E.neg rfl) ?_; obtain ⟨H195, S196, i197, h198, nv199⟩ := S182.sealRowU (i := 0) (l' := []) rfl els110 (by decide) rfl; obtain ⟨r200, hr201, hp⟩ := bnd hp; refine FL.c (E.call call190 (A2 rfl rfl)) (w_spec_l2Has S196.sl v107 s32 (h198.mono upI) (wr (-y31)) hr201) ?_; rintro e w202 ⟨rfl, r203⟩; refine ⟨_, rfl, ?_⟩; have r203 := Run.lend i197 S182.sl r203; have S204 := S182.call r203; refine FL.nil ?_; rcases ifB hp with ⟨c205, hp⟩ | ⟨c205, hp⟩
  ·
   refine FW.condT rfl c205 ?_; refine FW.sr ?_; obtain ⟨v206, w207, run208, S209⟩ := S204.buildSlice (P := prog) te73 [] (parts := #[]) (cells := []) rfl szs_nil fc_nil ones_nil (nB rfl); have els210 : Els (up wa.heap.size H181) eI 1 [] [] := Els.nil; refine FL.v (E.buildSlice (B0) run208) ?_; refine FL.as (v := v206) rfl ?_; refine FL.as (v := vB false) rfl ?_; refine FL.nil (FW.ret ?_); cases hp; exact ⟨nofun, rfl, ⟨.inr rfl, res2 rfl rfl rfl ⟨_, _, _, _, rfl, (S209.sel [0] (by decide) rfl), els210⟩⟩⟩
  ·
   refine FW.condF rfl c205 ?_; refine FW.skip (FW.sr ?_); refine FL.mv k188 ?_; refine FL.mv k187 ?_; refine FL.mv k186 ?_; obtain ⟨p211, cs212, pt213, l214, at215, rel216⟩ := p1.at (ix_nat hx32); obtain rfl := eI_open rel216; refine FL.v (E.indexAddr te73 rfl rfl pt213) ?_; refine FL.v (E.load rfl (run_load0 isAgg3 ((at215.mono (r26.run.inc.tr i183)).now S204.sl) rfl)) ?_; obtain ⟨H217, S218, i219, h220, nv221⟩ := S204.sealRowU (i := 0) (l' := []) rfl els110 (by decide) rfl; obtain ⟨r222, hr223, hp⟩ := bnd hp; refine FL.c (E.call call190 (A2 rfl rfl)) (w_spec_l2Has S218.sl v107 s32 (h220.mono upI) y31 hr223) ?_; rintro e w224 ⟨rfl, r225⟩; refine ⟨_, rfl, ?_⟩; have r225 := Run.lend i219 S204.sl r225; have S226 := S204.call r225; refine FL.v (E.not rfl) ?_; refine FL.nil ?_; rcases ifB hp with ⟨c227, hp⟩ | ⟨c227, hp⟩
   ·
    refine FW.condT rfl c227 ?_; refine FW.region ?_; refine FL.mv k188 ?_; refine FL.mv k187 ?_; refine FL.mv k186 ?_; obtain ⟨p228, cs229, pt230, l231, at232, rel233⟩ := p1.at (ix_nat hx32); obtain rfl := eI_open rel233; refine FL.v (E.indexAddr te73 rfl rfl pt230) ?_; refine FL.v (E.load rfl (run_load0 isAgg3 ((at232.mono (r26.run.inc.tr i183)).now S226.sl) rfl)) ?_; obtain ⟨H234, S235, i236, h237, nv238⟩ := S226.sealRowU (i := 0) (l' := []) rfl els110 (by decide) rfl; obtain ⟨r239, hr240, hp⟩ := bnd hp; refine FL.c (E.call call281 (A2 rfl rfl)) (w_spec_l2Put S235.sl v107 s32 (h237.mono upI) y31 hr240) ?_; rintro e w242 ⟨H241, v247, n248, cs249, rfl, r244, els250⟩; refine ⟨_, rfl, ?_⟩; obtain ⟨H245, r244, hU246⟩ := St.lendX i236 S226.sl r244; have els250 := els250.mono (hU246.tr (up_le S226.size)); have S243 := S226.join (l' := [.row 3 1 v247 n248 cs249, .row 3 1 v107 n108 cs109]) r244 rfl; refine FL.as (v := v247) rfl ?_; refine FL.nil (FW.region ?_); refine FL.mv k186 ?_; refine FL.v (E.add rfl rfl) ?_; refine FL.as (v := vI (wr (((i32 : Nat) : Int) + 1))) rfl ?_; refine FL.nil ?_; cases hp; exact ⟨rfl, ⟨_, _, _, _, (S243.sel [0] (by decide) rfl), (i183.tr r244.run.inc), els250, (nat_succ rfl (lt_of_get hx32) (p1.mono ((r26.run.inc.tr i183).tr r244.run.inc)).le), k187, rfl⟩⟩
   ·
    refine FW.condF rfl c227 ?_; refine FW.skip (FW.region ?_); refine FL.mv k186 ?_; refine FL.v (E.add rfl rfl) ?_; refine FL.as (v := vI (wr (((i32 : Nat) : Int) + 1))) rfl ?_; refine FL.nil ?_; cases hp; exact ⟨rfl, ⟨_, _, _, _, S226, i183, els110, (nat_succ rfl (lt_of_get hx32) (p1.mono (r26.run.inc.tr i183)).le), k187, k188⟩⟩
 ·
  clear hp hq; rintro s32 f262 w261 ⟨H258, v107, n108, cs109, S259, i260, els110, k263, k264, k265⟩; refine FW.seq (FW.sr ?_); refine FL.mv k263 ?_; refine FL.mv k264 ?_; refine FL.v (E.lenP te73 rfl p1) ?_; refine FL.v (E.lss rfl rfl) ?_; refine FL.nil ?_; refine FW.condF rfl dlt_len ?_; refine FW.exit ?_; exact ⟨nofun, rfl, ⟨_, _, _, _, S259, i260, els110, k265⟩⟩
 ·
  clear hq; intro e f256 w255 hD; rcases q32 with s32 | x32
  ·
   obtain ⟨rfl, hD⟩ := hD; obtain ⟨H252, v107, n108, cs109, S253, i254, els110, k257⟩ := hD; replace hp := el_go hp; refine FW.sr ?_; refine FL.mv k257 ?_; refine FL.as (v := v107) rfl ?_; refine FL.as (v := vB true) rfl ?_; refine FL.nil (FW.ret ?_); cases hp; exact ⟨.inr rfl, res2 rfl rfl rfl ⟨_, _, _, _, rfl, S253, els110⟩⟩
  ·
   obtain ⟨he, hL⟩ := hD; replace hp := el_rt hp; cases hp; subst he; exact hL

@[reducible] def p_spec_l2Resolve (Ha : GH) (wa : World) (r : ((List Int) × Bool)) : Ending → World → Prop :=
 fun e w' => ∃ H' : GH, ∃ v0 : Value, ∃ n0 : Nat, ∃ c0 : List Value, e = .returned (Value.tuple #[v0, vB r.2]) ∧ St Ha wa H' w' [.row 3 1 v0 n0 c0] ∧ Els (up wa.heap.size H') eI 1 c0 r.1
theorem w_spec_l2Resolve {Ha : GH} {wa : World} (hs : Sl Ha wa) (v0 : Value) (a0 : List Int) (p0 : RSl Ha eI 1 v0 a0) (v1 : Value) (a1 : List Int) (p1 : RSl Ha eI 1 v1 a1) (a2 : Int) {r : ((List Int) × Bool)} (hp : (PF.spec_l2Resolve a0 a1 a2) = some r) :
  Calls prog 255 #[v0, v1, vI a2] wa (p_spec_l2Resolve Ha wa r) := by
 unfold PF.spec_l2Resolve at hp; have S0 := St.init hs; refine calls_go (N := 29) (args := [v0, v1, vI a2]) func255 rfl rfl rfl ?_; refine FW.sr ?_; refine FL.as (v := vN) rfl ?_; refine FL.as (v := vB false) rfl ?_; refine FL.nil (FW.seq (FW.sr ?_)); refine FL.mv (v := v0) rfl ?_; refine FL.mv (v := vI a2) rfl ?_; obtain ⟨r21, hr22, hp⟩ := bnd hp; refine FL.c (E.call call190 (A2 rfl rfl)) (w_spec_l2Has S0.sl v0 a0 p0 a2 hr22) ?_; rintro e w23 ⟨rfl, r24⟩; refine ⟨_, rfl, ?_⟩; have S25 := S0.call r24; refine FL.v (E.not rfl) ?_; refine FL.mv (v := vB (!r21)) rfl ?_; obtain ⟨t31, hqt31, hp⟩ := bnd hp; refine FL.cut 6 (fun f w => ∃ H : GH, St Ha wa H w [] ∧ Inc Ha H ∧ f 0 = v0 ∧ f 1 = v1 ∧ f 2 = vI a2 ∧ f 18 = vB t31) ?_ ?_
 ·
  clear hp; have hp := hqt31; clear hqt31; rcases ifB hp with ⟨c37, hp⟩ | ⟨c37, hp⟩
  ·
   refine FL.skip (wN c37) rfl ?_; refine FL.skip (wN c37) rfl ?_; refine FL.skip (wN c37) rfl ?_; refine FL.skip (wN c37) rfl ?_; refine FL.skip (wN c37) rfl ?_; cases hp; refine FL.v (E.pickT rfl c37 rfl) ?_; exact FL.nil ⟨rfl, _, S25, I0, rfl, rfl, rfl, rfl⟩
  ·
   refine FL.y (wY c37) (E.move (v := v1) rfl) ?_; refine FL.y (wY c37) (E.move (v := vI a2) rfl) ?_; refine FL.y (wY c37) (E.neg rfl) ?_; obtain ⟨r38, hr39, hp⟩ := bnd hp; refine FL.call (wY c37) rfl rfl (E.call call190 (A2 rfl rfl)) (w_spec_l2Has S25.sl v1 a1 p1 (wr (-a2)) hr39) ?_; rintro e w40 ⟨rfl, r41⟩; refine ⟨_, rfl, ?_⟩; have S42 := S25.call r41; refine FL.y (wY c37) (E.not rfl) ?_; cases hp; refine FL.v (E.pickF rfl c37 rfl) ?_; exact FL.nil ⟨rfl, _, S42, I0, rfl, rfl, rfl, rfl⟩
 rintro f36 w35 ⟨H32, S33, i34, k43, k44, k45, k46⟩; refine FL.nil ?_; rcases ifB hp with ⟨c47, hp⟩ | ⟨c47, hp⟩
 ·
  refine FW.condT k46 c47 ?_; refine FW.sr ?_; obtain ⟨v48, w49, run50, S51⟩ := S33.buildSlice (P := prog) te73 [] (parts := #[]) (cells := []) rfl szs_nil fc_nil ones_nil (nB rfl); have els52 : Els (up wa.heap.size H32) eI 1 [] [] := Els.nil; refine FL.v (E.buildSlice (B0) run50) ?_; refine FL.as (v := v48) rfl ?_; refine FL.as (v := vB false) rfl ?_; refine FL.nil (FW.ret ?_); cases hp; exact ⟨.inr rfl, res2 rfl rfl rfl ⟨_, _, _, _, rfl, S51, els52⟩⟩
 ·
  refine FW.condF k46 c47 ?_; refine FW.skip (FW.sr ?_); refine FL.mv k43 ?_; refine FL.mv k45 ?_; obtain ⟨r53, hr54, hp⟩ := bnd hp; refine FL.c (E.call call273 (A2 rfl rfl)) (w_spec_l2Without S33.sl v0 a0 (p0.mono i34) a2 hr54) ?_; rintro e w56 ⟨H55, v59, n60, cs61, rfl, r58, els62⟩; refine ⟨_, rfl, ?_⟩; have els62 := els62.mono (up_le S33.size); have S57 := S33.join (l' := [.row 3 1 v59 n60 cs61]) r58 rfl; refine FL.mv k44 ?_; refine FL.mv k45 ?_; obtain ⟨r63, hr64, hp⟩ := bnd hp; refine FL.c (E.call call273 (A2 rfl rfl)) (w_spec_l2Without S57.sl v1 a1 (p1.mono (i34.tr r58.run.inc)) a2 hr64) ?_; rintro e w66 ⟨H65, v69, n70, cs71, rfl, r68, els72⟩; refine ⟨_, rfl, ?_⟩; have els72 := els72.mono (up_le S57.size); have S67 := S57.join (l' := [.row 3 1 v69 n70 cs71, .row 3 1 v59 n60 cs61]) r68 rfl; obtain ⟨H73, S74, i75, h76, nv77⟩ := S67.sealRowU (i := 1) (l' := [.row 3 1 v69 n70 cs71]) rfl (els62.mono (up_mono r68.run.inc)) (by decide) rfl; obtain ⟨H78, S79, i80, h81, nv82⟩ := S74.sealRowU (i := 0) (l' := []) rfl (els72.mono (up_mono i75)) (by decide) rfl; obtain ⟨r83, hr84, hp⟩ := bnd hp; refine FL.c (E.call call272 (A2 rfl rfl)) (w_spec_l2Join S79.sl v59 r53 (h76.mono (upI.tr i80)) v69 r63 (h81.mono upI) hr84) ?_; rintro e w86 ⟨H85, v91, n92, cs93, rfl, r88, els94⟩; refine ⟨_, rfl, ?_⟩; obtain ⟨H89, r88, hU90⟩ := St.lendX (i75.tr i80) S67.sl r88; have els94 := els94.mono (hU90.tr (up_le S67.size)); have S87 := S67.join (l' := [.row 3 1 v91 n92 cs93, .row 3 1 v69 n70 cs71, .row 3 1 v59 n60 cs61]) r88 rfl; refine FL.v (E.extract (i := 0) rfl rfl) ?_; refine FL.v (E.extract (i := 1) rfl rfl) ?_; refine FL.as (v := v91) rfl ?_; refine FL.as (v := vB r83.2) rfl ?_; refine FL.nil (FW.ret ?_); cases hp; exact ⟨.inr rfl, res2 rfl rfl rfl ⟨_, _, _, _, rfl, (S87.sel [0] (by decide) rfl), els94⟩⟩

set_option maxHeartbeats 4000000 in
theorem w_spec_l7Correct {Ha : GH} {wa : World} (hs : Sl Ha wa) (a0 : Cnf) (v0_1 : Value) (p0_1 : RSl Ha (eL eI 1) 1 v0_1 a0.clauses) (v1 : Value) (a1 : List ResStep) (p1 : RSl Ha eResStep 4 v1 a1) (a2 : Int) {r : Bool} (hp : (PF.spec_l7Correct a0 a1 a2) = some r) :
  Calls prog 227 #[vA #[vI a0.vars, v0_1], v1, vI a2] wa (Sc Ha wa (vB r)) := by
 unfold PF.spec_l7Correct at hp; have S0 := St.init hs; refine calls_go (N := 110) (args := [vA #[vI a0.vars, v0_1], v1, vI a2]) func227 rfl rfl rfl ?_; refine FW.sr ?_; obtain ⟨b21, w22, run23, S24⟩ := S0.box (P := prog) 32 [vI a0.vars, v0_1] (v := vA #[vI a0.vars, v0_1]) rfl (oC rfl (oC p0_1.one ones_nil)); refine FL.v (E.box rfl run23) ?_; obtain ⟨H25, S26, i27, at28⟩ := S24.sealBox (i := 0) (l' := []) rfl rfl; refine FL.as (v := vB false) rfl ?_; refine FL.nil (FW.sr ?_); refine FL.mv (v := v1) rfl ?_; refine FL.mv (v := vI a2) rfl ?_; obtain ⟨x35, hx36, hp⟩ := bnd hp; obtain ⟨p29, cs30, pt31, l32, at33, rel34⟩ := p1.at hx36; obtain ⟨v37, rfl, h38⟩ := eResStep_open rel34; refine FL.v (E.indexAddr te34 rfl rfl pt31) ?_; refine FL.v (E.load rfl (run_loadA isAgg88 sizeOf88 ((at33.mono i27).now S26.sl) rfl)) ?_; obtain ⟨b39, w40, run41, S42⟩ := S26.alloc (P := prog) 88 [vN, vI 0, vI 0, vI 0] zeroValue88 rfl (oC rfl (oC rfl (oC rfl (oC rfl ones_nil)))); refine FL.v (E.alloc run41) ?_; obtain ⟨w43, run44, S45⟩ := S42.store0 (P := prog) (t := 88) (i := 0) (cs' := [v37, vI x35.left, vI x35.right, vI x35.pivot]) (l' := [.box b39 88 [v37, vI x35.left, vI x35.right, vI x35.pivot]]) (v := vA #[v37, vI x35.left, vI x35.right, vI x35.pivot]) (c := [v37, vI x35.left, vI x35.right, vI x35.pivot]) rfl sizeOf88 rfl rfl (oC h38.one (oC rfl (oC rfl (oC rfl ones_nil)))) (nB rfl) rfl rfl; refine FL.act rfl rfl (E.store rfl rfl run44) ?_; obtain ⟨H46, S47, i48, at49⟩ := S45.sealBox (i := 0) (l' := []) rfl rfl; refine FL.nil (FW.seq (FW.sr ?_)); refine FL.v (E.fieldAddr tf32_0 rfl) ?_; refine FL.v (E.load rfl (run_load1 isAgg3 ((at28.mono i48).now S47.sl) rfl)) ?_; refine FL.v (E.fieldAddr tf88_0 rfl) ?_; refine FL.v (E.load rfl (run_load1 isAgg73 (at49.now S47.sl) rfl)) ?_; obtain ⟨r50, hr51, hp⟩ := bnd hp; refine FL.c (E.call call202 (A2 rfl rfl)) (w_spec_l2Clause S47.sl a0.vars v37 x35.clause (h38.mono (i27.tr i48)) hr51) ?_; rintro e w52 ⟨rfl, r53⟩; refine ⟨_, rfl, ?_⟩; have S54 := S47.call r53; refine FL.v (E.not rfl) ?_; refine FL.nil ?_; rcases ifB hp with ⟨c55, hp⟩ | ⟨c55, hp⟩
 ·
  refine FW.condT rfl c55 ?_; refine FW.sr ?_; refine FL.as (v := vB false) rfl ?_; refine FL.nil (FW.ret ?_); cases hp; exact ⟨.inr rfl, res1 rfl rfl ⟨rfl, S54.back⟩⟩
 ·
  refine FW.condF rfl c55 ?_; refine FW.skip (FW.seq (FW.sr ?_)); refine FL.v (E.fieldAddr tf88_1 rfl) ?_; refine FL.v (E.load rfl (run_load1 isAgg3 (at49.now S54.sl) rfl)) ?_; refine FL.v (E.eql rfl rfl) ?_; refine FL.nil ?_; rcases ifB hp with ⟨c56, hp⟩ | ⟨c56, hp⟩
  ·
   refine FW.condT rfl c56 ?_; refine FW.seq ?_; refine FW.draw (fun w' => Run w52.heap.size H46 w52 H46 w') (by kernel_rfl) (by kernel_rfl) (run_drew S54.sl) ?_; refine FD.v (fun _ z => (E.fieldAddr tf88_3 rfl)) ?_; refine FD.v (fun _ z => (E.load rfl (run_load1 isAgg3 (at49.now (S54.call z).sl) rfl))) ?_; refine FD.v (fun _ z => (E.eql rfl rfl)) ?_; refine FD.v (fun _ z => (E.move (v := vB (x35.pivot == 0)) rfl)) ?_; refine FD.cut 8 (fun f => f 3 = vP (⟨b21, 0, none⟩) ∧ f 7 = vP (⟨b39, 0, none⟩) ∧ f 34 = vB (bif (x35.pivot == 0) then (PF.spec_l1In x35.right 0 (wr ((len a0.clauses) - 1))) else false)) ?_ ?_
   ·
    rcases bcase (x35.pivot == 0) with c64 | c64
    ·
     refine FD.y (wY c64) (fun _ z => (E.fieldAddr tf88_2 rfl)) ?_; refine FD.y (wY c64) (fun _ z => (E.load rfl (run_load1 isAgg3 (at49.now (S54.call z).sl) rfl))) ?_; refine FD.y (wY c64) (fun _ z => (E.fieldAddr tf32_1 rfl)) ?_; refine FD.y (wY c64) (fun _ z => (E.load rfl (run_load1 isAgg22 ((at28.mono i48).now (S54.call z).sl) rfl))) ?_; refine FD.y (wY c64) (fun _ z => (E.lenP te22 rfl p0_1)) ?_; refine FD.y (wY c64) (fun _ z => (E.sub rfl rfl)) ?_; refine FD.call (wY c64) rfl rfl (fun _ z => (E.call call153 (A3 rfl rfl rfl))) (fun _ z => Calls.cls z (w_spec_l1In (S54.call z).sl x35.right 0 (wr ((len a0.clauses) - 1)))) ?_; refine FD.v (fun _ z => (E.pickT rfl c64 rfl)) ?_; exact FD.nil ⟨rfl, rfl, (congrArg vB (bifT c64).symm)⟩
    ·
     refine FD.skip (wN c64) rfl ?_; refine FD.skip (wN c64) rfl ?_; refine FD.skip (wN c64) rfl ?_; refine FD.skip (wN c64) rfl ?_; refine FD.skip (wN c64) rfl ?_; refine FD.skip (wN c64) rfl ?_; refine FD.skip (wN c64) rfl ?_; refine FD.v (fun _ z => (E.pickF rfl c64 rfl)) ?_; exact FD.nil ⟨rfl, rfl, (congrArg vB (bifF c64).symm)⟩
   rintro f63 ⟨k65, k66, k67⟩; refine FD.v (fun _ z => (E.move k67)) ?_; obtain ⟨t80, hqt80, hp⟩ := bnd hp; refine FD.cut 10 (fun f => f 45 = vB t80) ?_ ?_
   ·
    clear hp; have hp := hqt80; clear hqt80; rcases ifB hp with ⟨c86, hp⟩ | ⟨c86, hp⟩
    ·
     refine FD.y (wY c86) (fun _ z => (E.fieldAddr tf32_1 k65)) ?_; refine FD.y (wY c86) (fun _ z => (E.load rfl (run_load1 isAgg22 ((at28.mono i48).now (S54.call z).sl) rfl))) ?_; refine FD.y (wY c86) (fun _ z => (E.fieldAddr tf88_2 k66)) ?_; refine FD.y (wY c86) (fun _ z => (E.load rfl (run_load1 isAgg3 (at49.now (S54.call z).sl) rfl))) ?_; obtain ⟨x93, hx94, hp⟩ := bnd hp; obtain ⟨p87, cs88, pt89, l90, at91, rel92⟩ := p0_1.at hx94; obtain ⟨v95, rfl, h96⟩ := eL_open rel92; refine FD.y (wY c86) (fun _ z => (E.indexAddr te22 rfl rfl pt89)) ?_; refine FD.y (wY c86) (fun _ z => (E.load rfl (run_load0 isAgg73 ((at91.mono (i27.tr i48)).now (S54.call z).sl) rfl))) ?_; refine FD.y (wY c86) (fun _ z => (E.fieldAddr tf88_0 k66)) ?_; refine FD.y (wY c86) (fun _ z => (E.load rfl (run_load1 isAgg73 (at49.now (S54.call z).sl) rfl))) ?_; obtain ⟨r97, hr98, hp⟩ := bnd hp; refine FD.call (wY c86) rfl rfl (fun _ z => (E.call call167 (A2 rfl rfl))) (fun _ z => Calls.cls z (w_spec_l1Same (S54.call z).sl v95 x93 (h96.mono (i27.tr i48)) v37 x35.clause (h38.mono (i27.tr i48)) hr98)) ?_; cases hp; refine FD.v (fun _ z => (E.pickT rfl c86 rfl)) ?_; exact FD.nil rfl
    ·
     refine FD.skip (wN c86) rfl ?_; refine FD.skip (wN c86) rfl ?_; refine FD.skip (wN c86) rfl ?_; refine FD.skip (wN c86) rfl ?_; refine FD.skip (wN c86) rfl ?_; refine FD.skip (wN c86) rfl ?_; refine FD.skip (wN c86) rfl ?_; refine FD.skip (wN c86) rfl ?_; refine FD.skip (wN c86) rfl ?_; cases hp; refine FD.v (fun _ z => (E.pickF rfl c86 rfl)) ?_; exact FD.nil rfl
   intro f85 k99; refine FD.v (fun _ z => (E.assign k99)) ?_; refine FD.nil ?_; intro w100 r102; have S101 := S54.call r102; refine FW.ret ?_; cases hp; exact ⟨.inr rfl, res1 rfl rfl ⟨rfl, S101.back⟩⟩
  ·
   refine FW.condF rfl c56 ?_; refine FW.skip (FW.seq (FW.sr ?_)); refine FL.v (E.load rfl (run_loadA isAgg32 sizeOf32 ((at28.mono i48).now S54.sl) rfl)) ?_; refine FL.mv (v := v1) rfl ?_; refine FL.mv (v := vI a2) rfl ?_; refine FL.v (E.fieldAddr tf88_1 rfl) ?_; refine FL.v (E.load rfl (run_load1 isAgg3 (at49.now S54.sl) rfl)) ?_; obtain ⟨r103, hr104, hp⟩ := bnd hp; refine FL.c (E.call call253 (A4 rfl rfl rfl rfl)) (w_spec_l7Clause S54.sl a0 v0_1 (p0_1.mono (i27.tr i48)) v1 a1 (p1.mono (i27.tr i48)) a2 x35.left hr104) ?_; rintro e w105 ⟨rfl, r106⟩; refine ⟨_, rfl, ?_⟩; have S107 := S54.call r106; refine FL.v (E.not rfl) ?_; refine FL.nil ?_; rcases ifB hp with ⟨c108, hp⟩ | ⟨c108, hp⟩
   ·
    refine FW.condT rfl c108 ?_; refine FW.sr ?_; refine FL.as (v := vB false) rfl ?_; refine FL.nil (FW.ret ?_); cases hp; exact ⟨.inr rfl, res1 rfl rfl ⟨rfl, S107.back⟩⟩
   ·
    refine FW.condF rfl c108 ?_; refine FW.skip (FW.seq (FW.sr ?_)); refine FL.v (E.fieldAddr tf88_2 rfl) ?_; refine FL.v (E.load rfl (run_load1 isAgg3 (at49.now S107.sl) rfl)) ?_; refine FL.v (E.eql rfl rfl) ?_; refine FL.nil ?_; rcases ifB hp with ⟨c109, hp⟩ | ⟨c109, hp⟩
    ·
     refine FW.condT rfl c109 ?_; refine FW.seq ?_; refine FW.draw (fun w' => Run w105.heap.size H46 w105 H46 w') (by kernel_rfl) (by kernel_rfl) (run_drew S107.sl) ?_; refine FD.v (fun _ z => (E.fieldAddr tf88_3 rfl)) ?_; refine FD.v (fun _ z => (E.load rfl (run_load1 isAgg3 (at49.now (S107.call z).sl) rfl))) ?_; refine FD.v (fun _ z => (E.eql rfl rfl)) ?_; refine FD.v (fun _ z => (E.move (v := vB (x35.pivot == 0)) rfl)) ?_; obtain ⟨t123, hqt123, hp⟩ := bnd hp; refine FD.cut 10 (fun f => f 69 = vB t123) ?_ ?_
     ·
      clear hp; have hp := hqt123; clear hqt123; rcases ifB hp with ⟨c129, hp⟩ | ⟨c129, hp⟩
      ·
       refine FD.y (wY c129) (fun _ z => (E.move (v := v1) rfl)) ?_; refine FD.y (wY c129) (fun _ z => (E.fieldAddr tf88_1 rfl)) ?_; refine FD.y (wY c129) (fun _ z => (E.load rfl (run_load1 isAgg3 (at49.now (S107.call z).sl) rfl))) ?_; obtain ⟨x136, hx137, hp⟩ := bnd hp; obtain ⟨p130, cs131, pt132, l133, at134, rel135⟩ := p1.at hx137; obtain ⟨v138, rfl, h139⟩ := eResStep_open rel135; refine FD.y (wY c129) (fun _ z => (E.indexAddr te34 rfl rfl pt132)) ?_; refine FD.y (wY c129) (fun _ z => (E.fieldAddr tf88_0 rfl)) ?_; refine FD.y (wY c129) (fun _ z => (E.load rfl (run_load1 isAgg73 ((at134.mono (i27.tr i48)).now (S107.call z).sl) rfl))) ?_; refine FD.y (wY c129) (fun _ z => (E.fieldAddr tf88_0 rfl)) ?_; refine FD.y (wY c129) (fun _ z => (E.load rfl (run_load1 isAgg73 (at49.now (S107.call z).sl) rfl))) ?_; obtain ⟨r140, hr141, hp⟩ := bnd hp; refine FD.call (wY c129) rfl rfl (fun _ z => (E.call call254 (A2 rfl rfl))) (fun _ z => Calls.cls z (w_spec_l2Sub (S107.call z).sl v138 x136.clause (h139.mono (i27.tr i48)) v37 x35.clause (h38.mono (i27.tr i48)) hr141)) ?_; cases hp; refine FD.v (fun _ z => (E.pickT rfl c129 rfl)) ?_; exact FD.nil rfl
      ·
       refine FD.skip (wN c129) rfl ?_; refine FD.skip (wN c129) rfl ?_; refine FD.skip (wN c129) rfl ?_; refine FD.skip (wN c129) rfl ?_; refine FD.skip (wN c129) rfl ?_; refine FD.skip (wN c129) rfl ?_; refine FD.skip (wN c129) rfl ?_; refine FD.skip (wN c129) rfl ?_; refine FD.skip (wN c129) rfl ?_; cases hp; refine FD.v (fun _ z => (E.pickF rfl c129 rfl)) ?_; exact FD.nil rfl
     intro f128 k142; refine FD.v (fun _ z => (E.assign k142)) ?_; refine FD.nil ?_; intro w143 r145; have S144 := S107.call r145; refine FW.ret ?_; cases hp; exact ⟨.inr rfl, res1 rfl rfl ⟨rfl, S144.back⟩⟩
    ·
     refine FW.condF rfl c109 ?_; refine FW.skip (FW.seq (FW.sr ?_)); refine FL.v (E.load rfl (run_loadA isAgg32 sizeOf32 ((at28.mono i48).now S107.sl) rfl)) ?_; refine FL.mv (v := v1) rfl ?_; refine FL.mv (v := vI a2) rfl ?_; refine FL.v (E.fieldAddr tf88_2 rfl) ?_; refine FL.v (E.load rfl (run_load1 isAgg3 (at49.now S107.sl) rfl)) ?_; obtain ⟨r146, hr147, hp⟩ := bnd hp; refine FL.c (E.call call253 (A4 rfl rfl rfl rfl)) (w_spec_l7Clause S107.sl a0 v0_1 (p0_1.mono (i27.tr i48)) v1 a1 (p1.mono (i27.tr i48)) a2 x35.right hr147) ?_; rintro e w148 ⟨rfl, r149⟩; refine ⟨_, rfl, ?_⟩; have S150 := S107.call r149; refine FL.v (E.not rfl) ?_; refine FL.mv (v := vB (!r146)) rfl ?_; refine FL.cut 7 (fun f w => ∃ H : GH, St Ha wa H w [] ∧ Inc H46 H ∧ f 1 = v1 ∧ f 7 = vP (⟨b39, 0, none⟩) ∧ f 84 = vB (bif (!r146) then true else (!(PF.spec_l1In x35.pivot 1 a0.vars)))) ?_ ?_
     ·
      rcases bcase (!r146) with c160 | c160
      ·
       refine FL.skip (wN c160) rfl ?_; refine FL.skip (wN c160) rfl ?_; refine FL.skip (wN c160) rfl ?_; refine FL.skip (wN c160) rfl ?_; refine FL.skip (wN c160) rfl ?_; refine FL.skip (wN c160) rfl ?_; refine FL.v (E.pickT rfl c160 rfl) ?_; exact FL.nil ⟨rfl, _, S150, I0, rfl, rfl, (congrArg vB (bifT c160).symm)⟩
      ·
       refine FL.y (wY c160) (E.fieldAddr tf88_3 rfl) ?_; refine FL.y (wY c160) (E.load rfl (run_load1 isAgg3 (at49.now S150.sl) rfl)) ?_; refine FL.y (wY c160) (E.fieldAddr tf32_0 rfl) ?_; refine FL.y (wY c160) (E.load rfl (run_load1 isAgg3 ((at28.mono i48).now S150.sl) rfl)) ?_; refine FL.call (wY c160) rfl rfl (E.call call153 (A3 rfl rfl rfl)) (w_spec_l1In S150.sl x35.pivot 1 a0.vars) ?_; rintro e w161 ⟨rfl, r162⟩; refine ⟨_, rfl, ?_⟩; have S163 := S150.call r162; refine FL.y (wY c160) (E.not rfl) ?_; refine FL.v (E.pickF rfl c160 rfl) ?_; exact FL.nil ⟨rfl, _, S163, I0, rfl, rfl, (congrArg vB (bifF c160).symm)⟩
     rintro f159 w158 ⟨H155, S156, i157, k164, k165, k166⟩; refine FL.nil ?_; rcases ifB hp with ⟨c167, hp⟩ | ⟨c167, hp⟩
     ·
      refine FW.condT k166 c167 ?_; refine FW.sr ?_; refine FL.as (v := vB false) rfl ?_; refine FL.nil (FW.ret ?_); cases hp; exact ⟨.inr rfl, res1 rfl rfl ⟨rfl, S156.back⟩⟩
     ·
      refine FW.condF k166 c167 ?_; refine FW.skip (FW.seq ?_); obtain ⟨x68, hx69, hp⟩ := bnd hp; obtain ⟨x78, hx79, hp⟩ := bnd hp; obtain ⟨r83, hr84, hp⟩ := bnd hp; refine FW.drawB (Sl H155) (fun f w => ∃ H : GH, ∃ v118 : Value, ∃ n119 : Nat, ∃ cs120 : List Value, St Ha wa H w [.row 3 1 v118 n119 cs120] ∧ Inc H155 H ∧ Els (up wa.heap.size H) eI 1 cs120 r83.1 ∧ f 7 = vP (⟨b39, 0, none⟩) ∧ f 8 = v118 ∧ f 9 = vB r83.2) (by kernel_rfl) S156.sl ?_ ?_
      ·
       intro w168 r169; have S170 := S156.call r169; refine FB.T 0 20 1 rfl S170.sl rfl (fun _ z => (E.move k164)) ?_; refine FB.T 1 20 3 rfl S170.sl rfl (fun _ z => (E.fieldAddr tf88_1 k165)) ?_; refine FB.T 2 20 7 rfl S170.sl rfl (fun _ z => (E.load rfl (run_load1 isAgg3 ((at49.mono i157).now z) rfl))) ?_; obtain ⟨p57, cs58, pt59, l60, at61, rel62⟩ := p1.at hx69; obtain ⟨v70, rfl, h71⟩ := eResStep_open rel62; refine FB.T 3 20 15 rfl S170.sl rfl (fun _ z => (E.indexAddr te34 rfl rfl pt59)) ?_; refine FB.T 4 20 31 rfl S170.sl rfl (fun _ z => (E.fieldAddr tf88_0 rfl)) ?_; refine FB.T 5 20 63 rfl S170.sl rfl (fun _ z => (E.load rfl (run_load1 isAgg73 ((at61.mono ((i27.tr i48).tr i157)).now z) rfl))) ?_; refine FB.T 6 20 127 rfl S170.sl rfl (fun _ z => (E.move k164)) ?_; refine FB.T 7 20 255 rfl S170.sl rfl (fun _ z => (E.fieldAddr tf88_2 k165)) ?_; refine FB.T 8 20 511 rfl S170.sl rfl (fun _ z => (E.load rfl (run_load1 isAgg3 ((at49.mono i157).now z) rfl))) ?_; obtain ⟨p72, cs73, pt74, l75, at76, rel77⟩ := p1.at hx79; obtain ⟨v81, rfl, h82⟩ := eResStep_open rel77; refine FB.T 9 20 1023 rfl S170.sl rfl (fun _ z => (E.indexAddr te34 rfl rfl pt74)) ?_; refine FB.T 10 20 2047 rfl S170.sl rfl (fun _ z => (E.fieldAddr tf88_0 rfl)) ?_; refine FB.T 11 20 4095 rfl S170.sl rfl (fun _ z => (E.load rfl (run_load1 isAgg73 ((at76.mono ((i27.tr i48).tr i157)).now z) rfl))) ?_; refine FB.T 12 20 8191 rfl S170.sl rfl (fun _ z => (E.fieldAddr tf88_3 k165)) ?_; refine FB.T 13 20 16383 rfl S170.sl rfl (fun _ z => (E.load rfl (run_load1 isAgg3 ((at49.mono i157).now z) rfl))) ?_; refine FB.all1 (i := 14) (by kernel_rfl) ?_
       ·
        refine FC.call (l' := (bs 20 32767)) rfl (by kernel_rfl) rfl rfl rfl (E.call call255 (A3 rfl rfl rfl)) (w_spec_l2Resolve S170.sl v70 x68.clause (h71.mono ((i27.tr i48).tr i157)) v81 x78.clause (h82.mono ((i27.tr i48).tr i157)) x35.pivot hr84) ?_; rintro e w111 ⟨H110, v114, n115, cs116, rfl, r113, els117⟩; refine ⟨_, rfl, ?_⟩; have els117 := els117.mono (up_le S170.size); have S112 := S170.join (l' := [.row 3 1 v114 n115 cs116]) r113 rfl; refine ⟨(SP.nil (Sl.of_inc r113.run.inc S112.sl)), ?_⟩; refine FB.T 15 20 65535 rfl (Sl.of_inc r113.run.inc S112.sl) rfl (fun _ z => (E.move (v := Value.tuple #[v114, vB r83.2]) rfl)) ?_; refine FB.T 16 20 131071 rfl (Sl.of_inc r113.run.inc S112.sl) rfl (fun _ z => (E.extract (i := 0) rfl rfl)) ?_; refine FB.T 17 20 262143 rfl (Sl.of_inc r113.run.inc S112.sl) rfl (fun _ z => (E.extract (i := 1) rfl rfl)) ?_; refine FB.T 18 20 524287 rfl (Sl.of_inc r113.run.inc S112.sl) rfl (fun _ z => (E.assign (v := v114) rfl)) ?_; refine FB.T 19 20 1048575 rfl (Sl.of_inc r113.run.inc S112.sl) rfl (fun _ z => (E.assign (v := vB r83.2) rfl)) ?_; exact FB.done (by kernel_rfl) ⟨_, _, _, _, S112, r113.run.inc, els117, k165, rfl, rfl⟩
      ·
       rintro f127 w126 ⟨H122, v118, n119, cs120, S124, i125, els121, k151, k152, k153⟩; refine FW.sr ?_; refine FL.mv k153 ?_; refine FL.mv (v := vB r83.2) rfl ?_; obtain ⟨t154, hqt154, hp⟩ := bnd hp; refine FL.cut 5 (fun f w => ∃ H : GH, St Ha wa H w [.row 3 1 v118 n119 cs120] ∧ Inc H122 H ∧ f 109 = vB t154) ?_ ?_
       ·
        clear hp; have hp := hqt154; clear hqt154; rcases ifB hp with ⟨c176, hp⟩ | ⟨c176, hp⟩
        ·
         refine FL.y (wY c176) (E.move k152) ?_; refine FL.y (wY c176) (E.fieldAddr tf88_0 k151) ?_; refine FL.y (wY c176) (E.load rfl (run_load1 isAgg73 ((at49.mono (i157.tr i125)).now S124.sl) rfl)) ?_; obtain ⟨H177, S178, i179, h180, nv181⟩ := S124.sealRowU (i := 0) (l' := []) rfl els121 (by decide) rfl; obtain ⟨r182, hr183, hp⟩ := bnd hp; refine FL.call (wY c176) rfl rfl (E.call call167 (A2 rfl rfl)) (w_spec_l1Same S178.sl v118 r83.1 (h180.mono upI) v37 x35.clause (h38.mono ((((i27.tr i48).tr i157).tr i125).tr i179)) hr183) ?_; rintro e w184 ⟨rfl, r185⟩; refine ⟨_, rfl, ?_⟩; have r185 := Run.lend i179 S124.sl r185; have S186 := S124.call r185; cases hp; refine FL.v (E.pickT rfl c176 rfl) ?_; exact FL.nil ⟨rfl, _, S186, I0, rfl⟩
        ·
         refine FL.skip (wN c176) rfl ?_; refine FL.skip (wN c176) rfl ?_; refine FL.skip (wN c176) rfl ?_; refine FL.skip (wN c176) rfl ?_; cases hp; refine FL.v (E.pickF rfl c176 rfl) ?_; exact FL.nil ⟨rfl, _, S124, I0, rfl⟩
       rintro f175 w174 ⟨H171, S172, i173, k187⟩; refine FL.as k187 ?_; refine FL.nil (FW.ret ?_); cases hp; exact ⟨.inr rfl, res1 rfl rfl ⟨rfl, S172.back⟩⟩

theorem w_spec_l7Wrong {Ha : GH} {wa : World} (hs : Sl Ha wa) (a0 : Cnf) (v0_1 : Value) (p0_1 : RSl Ha (eL eI 1) 1 v0_1 a0.clauses) (v1 : Value) (a1 : List ResStep) (p1 : RSl Ha eResStep 4 v1 a1) {r : Int} (hp : (PF.spec_l7Wrong a0 a1) = some r) :
  Calls prog 177 #[vA #[vI a0.vars, v0_1], v1] wa (Sc Ha wa (vI r)) := by
 unfold PF.spec_l7Wrong at hp; have S0 := St.init hs; refine calls_go (N := 18) (args := [vA #[vI a0.vars, v0_1], v1]) func177 rfl rfl rfl ?_; refine FW.sr ?_; obtain ⟨b21, w22, run23, S24⟩ := S0.box (P := prog) 32 [vI a0.vars, v0_1] (v := vA #[vI a0.vars, v0_1]) rfl (oC rfl (oC p0_1.one ones_nil)); refine FL.v (E.box rfl run23) ?_; obtain ⟨H25, S26, i27, at28⟩ := S24.sealBox (i := 0) (l' := []) rfl rfl; refine FL.as (v := vI 0) rfl ?_; refine FL.nil (FW.seq (FW.sr ?_)); refine FL.as (v := vI 0) rfl ?_; refine FL.nil ?_; obtain ⟨q30, hq, hp⟩ := bndR hp; refine FW.block ?_; refine FW.mono (FW.forL (S := Unit) (X := Int) (fun (i30 : Nat) (s30 : Unit) f w => ∃ H : GH, St Ha wa H w [] ∧ Inc H25 H ∧ f 5 = vI ((i30 : Nat) : Int) ∧ f 1 = v1 ∧ f 2 = vP (⟨b21, 0, none⟩)) (fun q e f w => match q with | .go s30 => e = Exit.exit 0 ∧ (∃ H : GH, St Ha wa H w [] ∧ Inc H25 H) | .rt x => ((e = Exit.ret) ∧ (fun e f w => (e = Exit.normal ∨ e = Exit.ret) ∧ ∀ a, Fr (δ := []) 18 a f → ∃ v, (results Tryz.f177 a.tmps).run prog w = .ok v w ∧ (Sc Ha wa (vI x)) (.returned v) w) e f w)) hq ⟨_, S26, I0, rfl, rfl, rfl⟩ ?_ ?_) ?_
 ·
  clear hp hq; rintro i30 y29 s30 f49 w48 ⟨H45, S46, i47, k50, k51, k52⟩ hx30 o59 hp; refine FW.seq (FW.sr ?_); refine FL.mv k50 ?_; refine FL.mv k51 ?_; refine FL.v (E.lenP te34 rfl p1) ?_; refine FL.v (E.lssT rfl rfl (lss_len hx30)) ?_; refine FL.nil ?_; refine FW.condT rfl rfl ?_; refine FW.skip (FW.seq (FW.block (FW.sr ?_))); refine FL.v (E.load k52 (run_loadA isAgg32 sizeOf32 ((at28.mono i47).now S46.sl) rfl)) ?_; refine FL.mv k51 ?_; refine FL.mv k50 ?_; obtain ⟨r53, hr54, hp⟩ := bnd hp; refine FL.c (E.call call227 (A3 rfl rfl rfl)) (w_spec_l7Correct S46.sl a0 v0_1 (p0_1.mono (i27.tr i47)) v1 a1 (p1.mono (i27.tr i47)) ((i30 : Nat) : Int) hr54) ?_; rintro e w55 ⟨rfl, r56⟩; refine ⟨_, rfl, ?_⟩; have S57 := S46.call r56; refine FL.v (E.not rfl) ?_; refine FL.nil ?_; rcases ifB hp with ⟨c58, hp⟩ | ⟨c58, hp⟩
  ·
   refine FW.condT rfl c58 ?_; refine FW.sr ?_; refine FL.mv k50 ?_; refine FL.as (v := vI ((i30 : Nat) : Int)) rfl ?_; refine FL.nil (FW.ret ?_); cases hp; exact ⟨nofun, rfl, ⟨.inr rfl, res1 rfl rfl ⟨rfl, S57.back⟩⟩⟩
  ·
   refine FW.condF rfl c58 ?_; refine FW.skip (FW.region ?_); refine FL.mv k50 ?_; refine FL.v (E.add rfl rfl) ?_; refine FL.as (v := vI (wr (((i30 : Nat) : Int) + 1))) rfl ?_; refine FL.nil ?_; cases hp; exact ⟨rfl, ⟨_, S57, i47, (nat_succ rfl (lt_of_get hx30) (p1.mono (i27.tr i47)).le), k51, k52⟩⟩
 ·
  clear hp hq; rintro s30 f69 w68 ⟨H65, S66, i67, k70, k71, k72⟩; refine FW.seq (FW.sr ?_); refine FL.mv k70 ?_; refine FL.mv k71 ?_; refine FL.v (E.lenP te34 rfl p1) ?_; refine FL.v (E.lss rfl rfl) ?_; refine FL.nil ?_; refine FW.condF rfl dlt_len ?_; refine FW.exit ?_; exact ⟨nofun, rfl, ⟨_, S66, i67⟩⟩
 ·
  clear hq; intro e f64 w63 hD; rcases q30 with s30 | x30
  ·
   obtain ⟨rfl, hD⟩ := hD; obtain ⟨H60, S61, i62⟩ := hD; replace hp := el_go hp; refine FW.sr ?_; refine FL.as (v := vI (-1)) rfl ?_; refine FL.nil (FW.ret ?_); cases hp; exact ⟨.inr rfl, res1 rfl rfl ⟨rfl, S61.back⟩⟩
  ·
   obtain ⟨he, hL⟩ := hD; replace hp := el_rt hp; cases hp; subst he; exact hL

theorem w_spec_l7Good {Ha : GH} {wa : World} (hs : Sl Ha wa) (a0 : Cnf) (v0_1 : Value) (p0_1 : RSl Ha (eL eI 1) 1 v0_1 a0.clauses) (v1 : Value) (a1 : List ResStep) (p1 : RSl Ha eResStep 4 v1 a1) {r : Bool} (hp : (PF.spec_l7Good a0 a1) = some r) :
  Calls prog 114 #[vA #[vI a0.vars, v0_1], v1] wa (Sc Ha wa (vB r)) := by
 unfold PF.spec_l7Good at hp; have S0 := St.init hs; refine calls_go (N := 14) (args := [vA #[vI a0.vars, v0_1], v1]) func114 rfl rfl rfl ?_; refine FW.sr ?_; obtain ⟨b21, w22, run23, S24⟩ := S0.box (P := prog) 32 [vI a0.vars, v0_1] (v := vA #[vI a0.vars, v0_1]) rfl (oC rfl (oC p0_1.one ones_nil)); refine FL.v (E.box rfl run23) ?_; obtain ⟨H25, S26, i27, at28⟩ := S24.sealBox (i := 0) (l' := []) rfl rfl; refine FL.as (v := vB false) rfl ?_; refine FL.nil (FW.sr ?_); refine FL.v (E.load rfl (run_loadA isAgg32 sizeOf32 (at28.now S26.sl) rfl)) ?_; refine FL.mv (v := v1) rfl ?_; obtain ⟨r29, hr30, hp⟩ := bnd hp; refine FL.c (E.call call176 (A2 rfl rfl)) (w_spec_l7Asked S26.sl a0 v0_1 (p0_1.mono i27) v1 a1 (p1.mono i27) hr30) ?_; rintro e w31 ⟨rfl, r32⟩; refine ⟨_, rfl, ?_⟩; have S33 := S26.call r32; refine FL.mv (v := vB r29) rfl ?_; obtain ⟨t39, hqt39, hp⟩ := bnd hp; refine FL.cut 5 (fun f w => ∃ H : GH, St Ha wa H w [] ∧ Inc H25 H ∧ f 13 = vB t39) ?_ ?_
 ·
  clear hp; have hp := hqt39; clear hqt39; rcases ifB hp with ⟨c45, hp⟩ | ⟨c45, hp⟩
  ·
   refine FL.y (wY c45) (E.load rfl (run_loadA isAgg32 sizeOf32 (at28.now S33.sl) rfl)) ?_; refine FL.y (wY c45) (E.move (v := v1) rfl) ?_; obtain ⟨r46, hr47, hp⟩ := bnd hp; refine FL.call (wY c45) rfl rfl (E.call call177 (A2 rfl rfl)) (w_spec_l7Wrong S33.sl a0 v0_1 (p0_1.mono i27) v1 a1 (p1.mono i27) hr47) ?_; rintro e w48 ⟨rfl, r49⟩; refine ⟨_, rfl, ?_⟩; have S50 := S33.call r49; refine FL.y (wY c45) (E.lss rfl rfl) ?_; cases hp; refine FL.v (E.pickT rfl c45 rfl) ?_; exact FL.nil ⟨rfl, _, S50, I0, rfl⟩
  ·
   refine FL.skip (wN c45) rfl ?_; refine FL.skip (wN c45) rfl ?_; refine FL.skip (wN c45) rfl ?_; refine FL.skip (wN c45) rfl ?_; cases hp; refine FL.v (E.pickF rfl c45 rfl) ?_; exact FL.nil ⟨rfl, _, S33, I0, rfl⟩
 rintro f44 w43 ⟨H40, S41, i42, k51⟩; refine FL.as k51 ?_; refine FL.nil (FW.ret ?_); cases hp; exact ⟨.inr rfl, res1 rfl rfl ⟨rfl, S41.back⟩⟩

theorem w_spec_l21Asked {Ha : GH} {wa : World} (hs : Sl Ha wa) (a0 : Int) (a1 : Cnf) (v1_1 : Value) (p1_1 : RSl Ha (eL eI 1) 1 v1_1 a1.clauses) (v2 : Value) (a2 : List ResStep) (p2 : RSl Ha eResStep 4 v2 a2) {r : Bool} (hp : (PF.spec_l21Asked a0 a1 a2) = some r) :
  Calls prog 58 #[vI a0, vA #[vI a1.vars, v1_1], v2] wa (Sc Ha wa (vB r)) := by
 unfold PF.spec_l21Asked at hp; have S0 := St.init hs; refine calls_go (N := 15) (args := [vI a0, vA #[vI a1.vars, v1_1], v2]) func58 rfl rfl rfl ?_; refine FW.sr ?_; obtain ⟨b21, w22, run23, S24⟩ := S0.box (P := prog) 32 [vI a1.vars, v1_1] (v := vA #[vI a1.vars, v1_1]) rfl (oC rfl (oC p1_1.one ones_nil)); refine FL.v (E.box rfl run23) ?_; obtain ⟨H25, S26, i27, at28⟩ := S24.sealBox (i := 0) (l' := []) rfl rfl; refine FL.as (v := vB false) rfl ?_; refine FL.nil (FW.sr ?_); refine FL.mv (v := vI a0) rfl ?_; refine FL.v (E.load rfl (run_loadA isAgg32 sizeOf32 (at28.now S26.sl) rfl)) ?_; obtain ⟨r29, hr30, hp⟩ := bnd hp; refine FL.c (E.call call90 (A2 rfl rfl)) (w_spec_l20Asked S26.sl a0 a1 v1_1 (p1_1.mono i27) hr30) ?_; rintro e w31 ⟨rfl, r32⟩; refine ⟨_, rfl, ?_⟩; have S33 := S26.call r32; refine FL.mv (v := vB r29) rfl ?_; obtain ⟨t39, hqt39, hp⟩ := bnd hp; refine FL.cut 4 (fun f w => ∃ H : GH, St Ha wa H w [] ∧ Inc H25 H ∧ f 14 = vB t39) ?_ ?_
 ·
  clear hp; have hp := hqt39; clear hqt39; rcases ifB hp with ⟨c45, hp⟩ | ⟨c45, hp⟩
  ·
   refine FL.y (wY c45) (E.load rfl (run_loadA isAgg32 sizeOf32 (at28.now S33.sl) rfl)) ?_; refine FL.y (wY c45) (E.move (v := v2) rfl) ?_; obtain ⟨r46, hr47, hp⟩ := bnd hp; refine FL.call (wY c45) rfl rfl (E.call call114 (A2 rfl rfl)) (w_spec_l7Good S33.sl a1 v1_1 (p1_1.mono i27) v2 a2 (p2.mono i27) hr47) ?_; rintro e w48 ⟨rfl, r49⟩; refine ⟨_, rfl, ?_⟩; have S50 := S33.call r49; cases hp; refine FL.v (E.pickT rfl c45 rfl) ?_; exact FL.nil ⟨rfl, _, S50, I0, rfl⟩
  ·
   refine FL.skip (wN c45) rfl ?_; refine FL.skip (wN c45) rfl ?_; refine FL.skip (wN c45) rfl ?_; cases hp; refine FL.v (E.pickF rfl c45 rfl) ?_; exact FL.nil ⟨rfl, _, S33, I0, rfl⟩
 rintro f44 w43 ⟨H40, S41, i42, k51⟩; refine FL.as k51 ?_; refine FL.nil (FW.ret ?_); cases hp; exact ⟨.inr rfl, res1 rfl rfl ⟨rfl, S41.back⟩⟩

@[reducible] def p_spec_l18Sparse (Ha : GH) (wa : World) (r : (List Term)) : Ending → World → Prop :=
  fun e w' => ∃ H' : GH, ∃ v0 : Value, ∃ n0 : Nat, ∃ c0 : List Value, e = .returned (v0) ∧ St Ha wa H' w' [.row 108 2 v0 n0 c0] ∧ Els (up wa.heap.size H') eTerm 2 c0 r
theorem w_spec_l18Sparse {Ha : GH} {wa : World} (hs : Sl Ha wa) (a0 : Int) (v1 : Value) (a1 : List Int) (p1 : RSl Ha eI 1 v1 a1) {r : (List Term)} (hp : (PF.spec_l18Sparse a0 a1) = some r) :
    Calls prog 179 #[vI a0, v1] wa (p_spec_l18Sparse Ha wa r) := by
  unfold PF.spec_l18Sparse at hp
  have S0 := St.init hs
  refine calls_go (N := 30) (args := [vI a0, v1]) Tryz.func179 rfl rfl rfl ?_
  refine FW.seq (FW.region ?_)
  refine FL.v (E.assign (v := vN) rfl) ?_
  refine FL.nil (FW.seq (FW.region ?_))
  obtain ⟨v21, w22, run23, S24⟩ := S0.buildSlice (P := prog) te55 [] (parts := #[]) (cells := []) rfl szs_nil fc_nil ones_nil (Nat.le_of_ble_eq_true rfl)
  have els25 : Els (up wa.heap.size Ha) eTerm 2 [] [] := Els.nil
  refine FL.v (E.buildSlice (B0) run23) ?_
  refine FL.v (E.assign (v := v21) rfl) ?_
  refine FL.nil (FW.seq (FW.seq (FW.region ?_)))
  refine FL.v (E.assign (v := vI 0) rfl) ?_
  refine FL.nil ?_
  obtain ⟨q27, hq, hp⟩ := bndR hp
  refine FW.block ?_
  refine FW.mono (FW.forL (S := (List Term)) (X := Empty) (fun (i27 : Nat) (s27 : (List Term)) f w => ∃ H : GH, ∃ v28 : Value, ∃ n29 : Nat, ∃ cs30 : List Value, St Ha wa H w [.row 108 2 v28 n29 cs30] ∧ Inc Ha H ∧ Els (up wa.heap.size H) eTerm 2 cs30 s27 ∧ f 6 = vI ((i27 : Nat) : Int) ∧ f 0 = vI a0 ∧ f 1 = v1 ∧ f 5 = v28) (fun (q : Rs (List Term) Empty) e f w => match q with | .go s27 => e = Exit.exit 0 ∧ (∃ H : GH, ∃ v28 : Value, ∃ n29 : Nat, ∃ cs30 : List Value, St Ha wa H w [.row 108 2 v28 n29 cs30] ∧ Inc Ha H ∧ Els (up wa.heap.size H) eTerm 2 cs30 s27 ∧ f 5 = v28) | .rt x => x.elim) hq ⟨_, _, _, _, S24, (Inc.rfl _), els25, rfl, rfl, rfl, rfl⟩ ?_ ?_) ?_
  ·
    clear hp hq
    rintro i27 y26 s27 f70 w69 ⟨H66, v28, n29, cs30, S67, i68, els31, k71, k72, k73, k74⟩ hx27 o100 hp
    refine FW.seq (FW.seq (FW.region ?_))
    refine FL.v (E.move k71) ?_
    refine FL.v (E.move k73) ?_
    refine FL.v (E.lenP te73 rfl p1) ?_
    refine FL.v (E.lssT rfl rfl (lss_len hx27)) ?_
    refine FL.nil ?_
    refine FW.condT rfl rfl ?_
    refine FW.skip (FW.seq (FW.block (FW.seq (FW.region ?_))))
    refine FL.v (E.move k73) ?_
    refine FL.v (E.move k71) ?_
    obtain ⟨p75, cs76, pt77, l78, at79, rel80⟩ := p1.at (ix_nat hx27)
    obtain rfl := eI_open rel80
    refine FL.v (E.indexAddr te73 rfl rfl pt77) ?_
    refine FL.v (E.load rfl (run_load0 Tryz.isAgg3 ((at79.mono i68).now S67.sl) rfl)) ?_
    refine FL.v (E.move k72) ?_
    obtain ⟨u82, z81, hp⟩ := bnd hp
    refine FL.v (E.rem rfl rfl (nz_ne z81)) ?_
    refine FL.v (E.assign (v := vI (y26.tmod a0)) rfl) ?_
    refine FL.nil (FW.seq (FW.region ?_))
    refine FL.v (E.move (v := vI (y26.tmod a0)) rfl) ?_
    refine FL.v (E.neq rfl rfl) ?_
    refine FL.nil ?_
    rcases ifB hp with ⟨c83, hp⟩ | ⟨c83, hp⟩
    ·
      refine FW.condT rfl c83 ?_
      refine FW.region ?_
      refine FL.v (E.move k74) ?_
      refine FL.v (E.move k71) ?_
      refine FL.v (E.move (v := vI (y26.tmod a0)) rfl) ?_
      refine FL.v (E.build (B2 rfl rfl) (run_build _ 108 #[(0, vI ((i27 : Nat) : Int)), (1, vI (y26.tmod a0))] #[vI ((i27 : Nat) : Int), vI (y26.tmod a0)] (by rfl))) ?_
      obtain ⟨v84, w85, run86, S87⟩ := S67.buildSlice (P := prog) te55 [vA #[vI ((i27 : Nat) : Int), vI (y26.tmod a0)]] (parts := #[(0, vA #[vI ((i27 : Nat) : Int), vI (y26.tmod a0)])]) (cells := [vI ((i27 : Nat) : Int), vI (y26.tmod a0)]) rfl (szs_cons rfl szs_nil) (fc_cons rfl fc_nil) (ones_cons rfl (ones_cons rfl ones_nil)) (Nat.le_of_ble_eq_true rfl)
      have els88 : Els (up wa.heap.size H66) eTerm 2 [vI ((i27 : Nat) : Int), vI (y26.tmod a0)] [(Term.mk ((i27 : Nat) : Int) (y26.tmod a0))] := (Els.snoc (H := (up wa.heap.size H66)) (E := eTerm) (k := 2) (c := [vI ((i27 : Nat) : Int), vI (y26.tmod a0)]) (x := (Term.mk ((i27 : Nat) : Int) (y26.tmod a0))) Els.nil rfl rfl)
      refine FL.v (E.buildSlice (B1 rfl) run86) ?_
      obtain ⟨xs89, hz90, hp⟩ := bnd hp
      obtain ⟨v91, w94, n92, cs93, run95, S96, els97, ce98⟩ := S87.appendO (P := prog) te55 (i := 1) (j := 0) rfl els31 rfl els88 hz90
      have S96 : St Ha wa H66 w94 [.row 108 2 v84 1 [vI ((i27 : Nat) : Int), vI (y26.tmod a0)], .row 108 2 v91 n92 cs93] := S96
      have S99 : St Ha wa H66 w94 [.row 108 2 v91 n92 cs93] := S96.drop 0
      refine FL.v (E.append rfl rfl run95) ?_
      refine FL.v (E.assign (v := v91) rfl) ?_
      refine FL.nil (FW.region ?_)
      refine FL.v (E.move k71) ?_
      refine FL.v (E.add rfl rfl) ?_
      refine FL.v (E.assign (v := vI (wr (((i27 : Nat) : Int) + 1))) rfl) ?_
      refine FL.nil ?_
      obtain rfl := Option.some.inj hp
      exact ⟨rfl, ⟨_, _, _, _, S99, i68, els97, (nat_succ rfl (lt_of_get hx27) (p1.mono i68).le), k72, k73, rfl⟩⟩
    ·
      refine FW.condF rfl c83 ?_
      refine FW.skip (FW.region ?_)
      refine FL.v (E.move k71) ?_
      refine FL.v (E.add rfl rfl) ?_
      refine FL.v (E.assign (v := vI (wr (((i27 : Nat) : Int) + 1))) rfl) ?_
      refine FL.nil ?_
      obtain rfl := Option.some.inj hp
      exact ⟨rfl, ⟨_, _, _, _, S67, i68, els31, (nat_succ rfl (lt_of_get hx27) (p1.mono i68).le), k72, k73, k74⟩⟩
  ·
    clear hp hq
    rintro s27 f111 w110 ⟨H107, v28, n29, cs30, S108, i109, els31, k112, k113, k114, k115⟩
    refine FW.seq (FW.seq (FW.region ?_))
    refine FL.v (E.move k112) ?_
    refine FL.v (E.move k114) ?_
    refine FL.v (E.lenP te73 rfl p1) ?_
    refine FL.v (E.lss rfl rfl) ?_
    refine FL.nil ?_
    refine FW.condF rfl dlt_len ?_
    refine FW.exit ?_
    exact ⟨nofun, rfl, ⟨_, _, _, _, S108, i109, els31, k115⟩⟩
  ·
    clear hq
    intro e f105 w104 hD
    rcases q27 with s27 | x27
    ·
      obtain ⟨rfl, hD⟩ := hD
      obtain ⟨H101, v28, n29, cs30, S102, i103, els31, k106⟩ := hD
      replace hp := el_go hp
      refine FW.seq (FW.region ?_)
      refine FL.v (E.move k106) ?_
      refine FL.v (E.assign (v := v28) rfl) ?_
      refine FL.nil ?_
      refine FW.ret ?_
      obtain rfl := Option.some.inj hp
      exact ⟨.inr rfl, res1 rfl rfl ⟨_, _, _, _, rfl, S102, els31⟩⟩
    · exact x27.elim

@[reducible] def p_spec_l18Mul (Ha : GH) (wa : World) (r : (List Term)) : Ending → World → Prop :=
  fun e w' => ∃ H' : GH, ∃ v0 : Value, ∃ n0 : Nat, ∃ c0 : List Value, e = .returned (v0) ∧ St Ha wa H' w' [.row 108 2 v0 n0 c0] ∧ Els (up wa.heap.size H') eTerm 2 c0 r
theorem w_spec_l18Mul {Ha : GH} {wa : World} (hs : Sl Ha wa) (a0 : Int) (a1 : Int) (v2 : Value) (a2 : List Term) (p2 : RSl Ha eTerm 2 v2 a2) (v3 : Value) (a3 : List Term) (p3 : RSl Ha eTerm 2 v3 a3) {r : (List Term)} (hp : (PF.spec_l18Mul a0 a1 a2 a3) = some r) :
    Calls prog 117 #[vI a0, vI a1, v2, v3] wa (p_spec_l18Mul Ha wa r) := by
  unfold PF.spec_l18Mul at hp
  have S0 := St.init hs
  refine calls_go (N := 63) (args := [vI a0, vI a1, v2, v3]) Tryz.func117 rfl rfl rfl ?_
  refine FW.seq (FW.region ?_)
  refine FL.v (E.assign (v := vN) rfl) ?_
  refine FL.nil (FW.seq (FW.region ?_))
  refine FL.v (E.move (v := vI a1) rfl) ?_
  obtain ⟨u22, z21, hp⟩ := bnd hp
  refine FL.v (E.shl rfl rfl (nn_ge z21)) ?_
  obtain ⟨xs23, hm24, hp⟩ := bnd hp
  obtain ⟨v25, w26, n30, cs31, run27, S28, els29, hbl32⟩ := S0.makeEls (P := prog) te73 (G := (up wa.heap.size Ha)) (En := eI) (x0 := (0 : Int)) hm24 rfl (ones_cons rfl ones_nil) .i64 .i64
  refine FL.v (E.makeSlice rfl rfl run27) ?_
  refine FL.v (E.assign (v := v25) rfl) ?_
  refine FL.nil (FW.seq (FW.seq (FW.region ?_)))
  refine FL.v (E.assign (v := vI 0) rfl) ?_
  refine FL.nil ?_
  obtain ⟨q34, hq, hp⟩ := bndR hp
  refine FW.block ?_
  refine FW.mono (FW.forL (S := (List Int)) (X := Empty) (fun (i34 : Nat) (s34 : (List Int)) f w => ∃ H : GH, ∃ v35 : Value, ∃ n36 : Nat, ∃ cs37 : List Value, St Ha wa H w [.row 3 1 v35 n36 cs37] ∧ Inc Ha H ∧ Els (up wa.heap.size H) eI 1 cs37 s34 ∧ f 10 = vI ((i34 : Nat) : Int) ∧ f 0 = vI a0 ∧ f 2 = v2 ∧ f 3 = v3 ∧ f 9 = v35) (fun (q : Rs (List Int) Empty) e f w => match q with | .go s34 => e = Exit.exit 0 ∧ (∃ H : GH, ∃ v35 : Value, ∃ n36 : Nat, ∃ cs37 : List Value, St Ha wa H w [.row 3 1 v35 n36 cs37] ∧ Inc Ha H ∧ Els (up wa.heap.size H) eI 1 cs37 s34 ∧ f 0 = vI a0 ∧ f 9 = v35) | .rt x => x.elim) hq ⟨_, _, _, _, S28, (Inc.rfl _), els29, rfl, rfl, rfl, rfl, rfl⟩ ?_ ?_) ?_
  ·
    clear hp hq
    rintro i34 y33 s34 f43 w42 ⟨H39, v35, n36, cs37, S40, i41, els38, k44, k45, k46, k47, k48⟩ hx34 o164 hp
    refine FW.seq (FW.seq (FW.region ?_))
    refine FL.v (E.move k44) ?_
    refine FL.v (E.move k46) ?_
    refine FL.v (E.lenP te55 rfl p2) ?_
    refine FL.v (E.lssT rfl rfl (lss_len hx34)) ?_
    refine FL.nil ?_
    refine FW.condT rfl rfl ?_
    refine FW.skip (FW.seq (FW.block (FW.seq (FW.region ?_))))
    refine FL.v (E.assign (v := vI 0) rfl) ?_
    refine FL.nil ?_
    obtain ⟨q50, hq, hp⟩ := bndR hp
    refine FW.block ?_
    refine FW.mono (FW.forL (S := (List Int)) (X := Empty) (fun (i50 : Nat) (s50 : (List Int)) f w => ∃ H : GH, ∃ v51 : Value, ∃ n52 : Nat, ∃ cs53 : List Value, St Ha wa H w [.row 3 1 v51 n52 cs53] ∧ Inc H39 H ∧ Els (up wa.heap.size H) eI 1 cs53 s50 ∧ f 11 = vI ((i50 : Nat) : Int) ∧ f 0 = vI a0 ∧ f 2 = v2 ∧ f 3 = v3 ∧ f 9 = v51 ∧ f 10 = vI ((i34 : Nat) : Int)) (fun (q : Rs (List Int) Empty) e f w => match q with | .go s50 => e = Exit.exit 2 ∧ (∃ H : GH, ∃ v51 : Value, ∃ n52 : Nat, ∃ cs53 : List Value, St Ha wa H w [.row 3 1 v51 n52 cs53] ∧ Inc H39 H ∧ Els (up wa.heap.size H) eI 1 cs53 s50 ∧ f 0 = vI a0 ∧ f 2 = v2 ∧ f 3 = v3 ∧ f 9 = v51 ∧ f 10 = vI ((i34 : Nat) : Int)) | .rt x => x.elim) hq ⟨_, _, _, _, S40, (Inc.rfl _), els38, rfl, k45, k46, k47, k48, k44⟩ ?_ ?_) ?_
    ·
      clear hp hq
      rintro i50 y49 s50 f60 w59 ⟨H56, v51, n52, cs53, S57, i58, els54, k61, k62, k63, k64, k65, k66⟩ hx50 o142 hp
      refine FW.seq (FW.seq (FW.region ?_))
      refine FL.v (E.move k61) ?_
      refine FL.v (E.move k64) ?_
      refine FL.v (E.lenP te55 rfl p3) ?_
      refine FL.v (E.lssT rfl rfl (lss_len hx50)) ?_
      refine FL.nil ?_
      refine FW.condT rfl rfl ?_
      refine FW.skip (FW.seq (FW.block (FW.seq ?_)))
      refine FW.draw (fun w' => Run w59.heap.size H56 w59 H56 w') (by kernel_rfl) (by kernel_rfl) (run_drew S57.sl) ?_
      refine FD.val rfl rfl rfl (fun _ z => (E.move k63)) ?_
      refine FD.val rfl rfl rfl (fun _ z => (E.move k66)) ?_
      obtain ⟨p67, cs68, pt69, l70, at71, rel72⟩ := p2.at (ix_nat hx34)
      obtain rfl := eTerm_open rel72
      refine FD.val rfl rfl rfl (fun _ z => (E.indexAddr te55 rfl rfl pt69)) ?_
      refine FD.val rfl rfl rfl (fun _ z => (E.fieldAddr tf108_0 rfl)) ?_
      refine FD.val rfl rfl rfl (fun _ z => (E.load rfl (run_load1 Tryz.isAgg3 ((at71.mono (i41.tr i58)).now (S57.call z).sl) rfl))) ?_
      refine FD.val rfl rfl rfl (fun _ z => (E.move k64)) ?_
      refine FD.val rfl rfl rfl (fun _ z => (E.move k61)) ?_
      obtain ⟨p74, cs75, pt76, l77, at78, rel79⟩ := p3.at (ix_nat hx50)
      obtain rfl := eTerm_open rel79
      refine FD.val rfl rfl rfl (fun _ z => (E.indexAddr te55 rfl rfl pt76)) ?_
      refine FD.val rfl rfl rfl (fun _ z => (E.fieldAddr tf108_0 rfl)) ?_
      refine FD.val rfl rfl rfl (fun _ z => (E.load rfl (run_load1 Tryz.isAgg3 ((at78.mono (i41.tr i58)).now (S57.call z).sl) rfl))) ?_
      refine FD.val rfl rfl rfl (fun _ z => (E.or rfl rfl)) ?_
      refine FD.val rfl rfl rfl (fun _ z => (E.assign (v := vI (orK true 64 y33.mono y49.mono)) rfl)) ?_
      refine FD.nil ?_
      intro w80 r82
      have S81 := S57.call r82
      obtain ⟨x92, hx93, hp⟩ := bnd hp
      obtain ⟨u109, z107, hp⟩ := bnd hp
      obtain ⟨x116, hx117, hp⟩ := bnd hp
      obtain ⟨xs122, hput123, hp⟩ := bnd hp
      refine FW.drawB (Sl H56) (fun f w => ∃ H : GH, ∃ v127 : Value, ∃ n128 : Nat, ∃ cs129 : List Value, St Ha wa H w [.row 3 1 v127 n128 cs129] ∧ Inc H56 H ∧ Els (up wa.heap.size H) eI 1 cs129 xs122 ∧ f 0 = vI a0 ∧ f 2 = v2 ∧ f 3 = v3 ∧ f 9 = v127 ∧ f 10 = vI ((i34 : Nat) : Int) ∧ f 11 = vI ((i50 : Nat) : Int)) (by kernel_rfl) S81.sl ?_ ?_
      ·
        intro w83 r84
        have S85 := S81.call r84
        refine FB.t (i := 0) (bs 22 1) rfl (SP.nil S85.sl) rfl (fun _ z => (E.move k65)) ?_
        refine FB.t (i := 1) (bs 22 3) rfl (SP.nil S85.sl) rfl (fun _ z => (E.move (v := vI (orK true 64 y33.mono y49.mono)) rfl)) ?_
        refine FB.t (i := 2) (bs 22 7) rfl (SP.nil S85.sl) rfl (fun _ z => (E.move k65)) ?_
        refine FB.t (i := 3) (bs 22 15) rfl (SP.nil S85.sl) rfl (fun _ z => (E.move (v := vI (orK true 64 y33.mono y49.mono)) rfl)) ?_
        obtain ⟨p86, cs87, pt88, l89, at90, rel91, hall94⟩ := S85.row_atA (i := 0) rfl els54 (by decide) hx93
        obtain rfl := eI_open rel91
        refine FB.t (i := 4) (bs 22 31) rfl (SP.nil S85.sl) rfl (fun _ z => (E.indexAddr te73 rfl rfl pt88)) ?_
        refine FB.phase [21] (fun w' => WAt w' p86 [vI x92]) ?_
        refine FB.p (i := 5) (bs 22 63) 0 [17, 19, 20, 21] rfl (SP.on (hall94 _ _ _ 0 S85 rfl) (SP.nil S85.sl)) rfl rfl (fun _ z => (E.load rfl (run_load0 Tryz.isAgg3 z rfl))) ?_
        refine FB.t (i := 6) (bs 22 127) rfl (SP.on (hall94 _ _ _ 0 S85 rfl) (SP.nil S85.sl)) rfl (fun _ z => (E.move k63)) ?_
        refine FB.t (i := 7) (bs 22 255) rfl (SP.on (hall94 _ _ _ 0 S85 rfl) (SP.nil S85.sl)) rfl (fun _ z => (E.move k66)) ?_
        obtain ⟨p95, cs96, pt97, l98, at99, rel100⟩ := p2.at (ix_nat hx34)
        obtain rfl := eTerm_open rel100
        refine FB.t (i := 8) (bs 22 511) rfl (SP.on (hall94 _ _ _ 0 S85 rfl) (SP.nil S85.sl)) rfl (fun _ z => (E.indexAddr te55 rfl rfl pt97)) ?_
        refine FB.t (i := 9) (bs 22 1023) rfl (SP.on (hall94 _ _ _ 0 S85 rfl) (SP.nil S85.sl)) rfl (fun _ z => (E.fieldAddr tf108_1 rfl)) ?_
        refine FB.t (i := 10) (bs 22 2047) rfl (SP.on (hall94 _ _ _ 0 S85 rfl) (SP.nil S85.sl)) rfl (fun _ z => (E.load rfl (run_load1 Tryz.isAgg3 ((at99.mono (i41.tr i58)).now z) rfl))) ?_
        refine FB.t (i := 11) (bs 22 4095) rfl (SP.on (hall94 _ _ _ 0 S85 rfl) (SP.nil S85.sl)) rfl (fun _ z => (E.move k64)) ?_
        refine FB.t (i := 12) (bs 22 8191) rfl (SP.on (hall94 _ _ _ 0 S85 rfl) (SP.nil S85.sl)) rfl (fun _ z => (E.move k61)) ?_
        obtain ⟨p101, cs102, pt103, l104, at105, rel106⟩ := p3.at (ix_nat hx50)
        obtain rfl := eTerm_open rel106
        refine FB.t (i := 13) (bs 22 16383) rfl (SP.on (hall94 _ _ _ 0 S85 rfl) (SP.nil S85.sl)) rfl (fun _ z => (E.indexAddr te55 rfl rfl pt103)) ?_
        refine FB.t (i := 14) (bs 22 32767) rfl (SP.on (hall94 _ _ _ 0 S85 rfl) (SP.nil S85.sl)) rfl (fun _ z => (E.fieldAddr tf108_1 rfl)) ?_
        refine FB.t (i := 15) (bs 22 65535) rfl (SP.on (hall94 _ _ _ 0 S85 rfl) (SP.nil S85.sl)) rfl (fun _ z => (E.load rfl (run_load1 Tryz.isAgg3 ((at105.mono (i41.tr i58)).now z) rfl))) ?_
        refine FB.t (i := 16) (bs 22 131071) rfl (SP.on (hall94 _ _ _ 0 S85 rfl) (SP.nil S85.sl)) rfl (fun _ z => (E.mul rfl rfl)) ?_
        refine FB.t (i := 17) (bs 22 262143) rfl (SP.on (hall94 _ _ _ 0 S85 rfl) (SP.nil S85.sl)) rfl (fun _ z => (E.add rfl rfl)) ?_
        refine FB.t (i := 18) (bs 22 524287) rfl (SP.on (hall94 _ _ _ 0 S85 rfl) (SP.nil S85.sl)) rfl (fun _ z => (E.move k62)) ?_
        refine FB.t (i := 19) (bs 22 1048575) rfl (SP.on (hall94 _ _ _ 0 S85 rfl) (SP.nil S85.sl)) rfl (fun _ z => (E.rem rfl rfl (nz_ne z107))) ?_
        obtain ⟨p110, cs111, pt112, l113, at114, rel115, hall118⟩ := S85.row_atA (i := 0) rfl els54 (by decide) hx117
        obtain rfl := eI_open rel115
        refine FB.t (i := 20) (bs 22 2097151) rfl (SP.on (hall94 _ _ _ 0 S85 rfl) (SP.nil S85.sl)) rfl (fun _ z => (E.indexAddr te73 rfl rfl pt112)) ?_
        refine FB.all1 (i := 21) (by kernel_rfl) ?_
        ·
          obtain ⟨w119, cs125, run120, S121, els124, ce126⟩ := S85.putEls (P := prog) (t := 3) (i := 0) rfl els54 hput123 pt112 Tryz.sizeOf3 (u := vI ((wr (x92 + (wr (y33.coeff * y49.coeff)))).tmod a0)) (c := [vI ((wr (x92 + (wr (y33.coeff * y49.coeff)))).tmod a0)]) rfl rfl (ones_cons rfl ones_nil) rfl
          have S121 : St Ha wa H56 w119 [.row 3 1 v51 n52 cs125] := S121
          refine FC.act (l' := (bs 22 4194303)) rfl (by kernel_rfl) rfl rfl (E.store rfl rfl run120) ?_
          refine ⟨(SP.o (SP.nil S121.sl)), ?_⟩
          exact FB.done (by kernel_rfl) ⟨_, _, _, _, S121, (Inc.rfl _), els124, k62, k63, k64, k65, k66, k61⟩
      ·
        rintro f135 w134 ⟨H131, v127, n128, cs129, S132, i133, els130, k136, k137, k138, k139, k140, k141⟩
        refine FW.region ?_
        refine FL.v (E.move k141) ?_
        refine FL.v (E.add rfl rfl) ?_
        refine FL.v (E.assign (v := vI (wr (((i50 : Nat) : Int) + 1))) rfl) ?_
        refine FL.nil ?_
        obtain rfl := Option.some.inj hp
        exact ⟨rfl, ⟨_, _, _, _, S132, (i58.tr i133), els130, (nat_succ rfl (lt_of_get hx50) (p3.mono ((i41.tr i58).tr i133)).le), k136, k137, k138, k139, k140⟩⟩
    ·
      clear hp hq
      rintro s50 f157 w156 ⟨H153, v51, n52, cs53, S154, i155, els54, k158, k159, k160, k161, k162, k163⟩
      refine FW.seq (FW.seq (FW.region ?_))
      refine FL.v (E.move k158) ?_
      refine FL.v (E.move k161) ?_
      refine FL.v (E.lenP te55 rfl p3) ?_
      refine FL.v (E.lss rfl rfl) ?_
      refine FL.nil ?_
      refine FW.condF rfl dlt_len ?_
      refine FW.exit ?_
      exact ⟨nofun, rfl, ⟨_, _, _, _, S154, i155, els54, k159, k160, k161, k162, k163⟩⟩
    ·
      clear hq
      intro e f147 w146 hD
      rcases q50 with s50 | x50
      ·
        obtain ⟨rfl, hD⟩ := hD
        obtain ⟨H143, v51, n52, cs53, S144, i145, els54, k148, k149, k150, k151, k152⟩ := hD
        replace hp := el_go hp
        refine FW.region ?_
        refine FL.v (E.move k152) ?_
        refine FL.v (E.add rfl rfl) ?_
        refine FL.v (E.assign (v := vI (wr (((i34 : Nat) : Int) + 1))) rfl) ?_
        refine FL.nil ?_
        obtain rfl := Option.some.inj hp
        exact ⟨rfl, ⟨_, _, _, _, S144, (i41.tr i145), els54, (nat_succ rfl (lt_of_get hx34) (p2.mono (i41.tr i145)).le), k148, k149, k150, k151⟩⟩
      · exact x50.elim
  ·
    clear hp hq
    rintro s34 f193 w192 ⟨H189, v35, n36, cs37, S190, i191, els38, k194, k195, k196, k197, k198⟩
    refine FW.seq (FW.seq (FW.region ?_))
    refine FL.v (E.move k194) ?_
    refine FL.v (E.move k196) ?_
    refine FL.v (E.lenP te55 rfl p2) ?_
    refine FL.v (E.lss rfl rfl) ?_
    refine FL.nil ?_
    refine FW.condF rfl dlt_len ?_
    refine FW.exit ?_
    exact ⟨nofun, rfl, ⟨_, _, _, _, S190, i191, els38, k195, k198⟩⟩
  ·
    clear hq
    intro e f169 w168 hD
    rcases q34 with s34 | x34
    ·
      obtain ⟨rfl, hD⟩ := hD
      obtain ⟨H165, v35, n36, cs37, S166, i167, els38, k170, k171⟩ := hD
      replace hp := el_go hp
      refine FW.seq (FW.region ?_)
      refine FL.v (E.move k170) ?_
      refine FL.v (E.move k171) ?_
      obtain ⟨H172, S173, i174, h175, nv176⟩ := S166.sealRowU (i := 0) (l' := []) rfl els38 (by decide) rfl
      obtain ⟨r177, hr178, hp⟩ := bnd hp
      refine FL.call rfl rfl rfl (E.call Tryz.call179 (A2 rfl rfl)) (w_spec_l18Sparse S173.sl a0 v35 s34 (h175.mono upI) hr178) ?_
      rintro e w180 ⟨H179, v185, n186, cs187, rfl, r182, els188⟩
      refine ⟨_, rfl, ?_⟩
      obtain ⟨H183, r182, hU184⟩ := St.lendX i174 S166.sl r182
      have els188 := els188.mono (hU184.tr (up_le S166.size))
      have S181 := S166.join (l' := [.row 108 2 v185 n186 cs187, .row 3 1 v35 n36 cs37]) r182 rfl
      refine FL.v (E.assign (v := v185) rfl) ?_
      refine FL.nil ?_
      refine FW.ret ?_
      obtain rfl := Option.some.inj hp
      exact ⟨.inr rfl, res1 rfl rfl ⟨_, _, _, _, rfl, (S181.sel [0] (by decide) rfl), els188⟩⟩
    · exact x34.elim

@[reducible] def p_spec_l18Clause (Ha : GH) (wa : World) (r : (List Term)) : Ending → World → Prop :=
  fun e w' => ∃ H' : GH, ∃ v0 : Value, ∃ n0 : Nat, ∃ c0 : List Value, e = .returned (v0) ∧ St Ha wa H' w' [.row 108 2 v0 n0 c0] ∧ Els (up wa.heap.size H') eTerm 2 c0 r
theorem w_spec_l18Clause {Ha : GH} {wa : World} (hs : Sl Ha wa) (a0 : Int) (a1 : Int) (v2 : Value) (a2 : List Int) (p2 : RSl Ha eI 1 v2 a2) {r : (List Term)} (hp : (PF.spec_l18Clause a0 a1 a2) = some r) :
    Calls prog 60 #[vI a0, vI a1, v2] wa (p_spec_l18Clause Ha wa r) := by
  unfold PF.spec_l18Clause at hp
  have S0 := St.init hs
  refine calls_go (N := 49) (args := [vI a0, vI a1, v2]) Tryz.func60 rfl rfl rfl ?_
  refine FW.seq (FW.region ?_)
  refine FL.v (E.assign (v := vN) rfl) ?_
  refine FL.nil (FW.seq (FW.region ?_))
  refine FL.v (E.build (B2 rfl rfl) (run_build _ 108 #[(0, vI 0), (1, vI 1)] #[vI 0, vI 1] (by rfl))) ?_
  obtain ⟨v21, w22, run23, S24⟩ := S0.buildSlice (P := prog) te55 [vA #[vI 0, vI 1]] (parts := #[(0, vA #[vI 0, vI 1])]) (cells := [vI 0, vI 1]) rfl (szs_cons rfl szs_nil) (fc_cons rfl fc_nil) (ones_cons rfl (ones_cons rfl ones_nil)) (Nat.le_of_ble_eq_true rfl)
  have els25 : Els (up wa.heap.size Ha) eTerm 2 [vI 0, vI 1] [(Term.mk 0 1)] := (Els.snoc (H := (up wa.heap.size Ha)) (E := eTerm) (k := 2) (c := [vI 0, vI 1]) (x := (Term.mk 0 1)) Els.nil rfl rfl)
  refine FL.v (E.buildSlice (B1 rfl) run23) ?_
  refine FL.v (E.assign (v := v21) rfl) ?_
  refine FL.nil (FW.seq (FW.seq (FW.region ?_)))
  refine FL.v (E.assign (v := vI 0) rfl) ?_
  refine FL.nil ?_
  obtain ⟨q27, hq, hp⟩ := bndR hp
  refine FW.block ?_
  refine FW.mono (FW.forL (S := (List Term)) (X := Empty) (fun (i27 : Nat) (s27 : (List Term)) f w => ∃ H : GH, ∃ v125 : Value, ∃ n126 : Nat, ∃ cs127 : List Value, St Ha wa H w [.row 108 2 v125 n126 cs127] ∧ Inc Ha H ∧ Els (up wa.heap.size H) eTerm 2 cs127 s27 ∧ f 8 = vI ((i27 : Nat) : Int) ∧ f 0 = vI a0 ∧ f 1 = vI a1 ∧ f 2 = v2 ∧ f 7 = v125) (fun (q : Rs (List Term) Empty) e f w => match q with | .go s27 => e = Exit.exit 0 ∧ (∃ H : GH, ∃ v125 : Value, ∃ n126 : Nat, ∃ cs127 : List Value, St Ha wa H w [.row 108 2 v125 n126 cs127] ∧ Inc Ha H ∧ Els (up wa.heap.size H) eTerm 2 cs127 s27 ∧ f 7 = v125) | .rt x => x.elim) hq ⟨_, _, _, _, S24, (Inc.rfl _), els25, rfl, rfl, rfl, rfl, rfl⟩ ?_ ?_) ?_
  ·
    clear hp hq
    rintro i27 y26 s27 f226 w225 ⟨H222, v125, n126, cs127, S223, i224, els128, k227, k228, k229, k230, k231⟩ hx27 o315 hp
    refine FW.seq (FW.seq (FW.region ?_))
    refine FL.v (E.move k227) ?_
    refine FL.v (E.move k230) ?_
    refine FL.v (E.lenP te73 rfl p2) ?_
    refine FL.v (E.lssT rfl rfl (lss_len hx27)) ?_
    refine FL.nil ?_
    refine FW.condT rfl rfl ?_
    refine FW.skip (FW.seq (FW.block (FW.seq (FW.region ?_))))
    refine FL.v (E.move k230) ?_
    refine FL.v (E.move k227) ?_
    obtain ⟨p232, cs233, pt234, l235, at236, rel237⟩ := p2.at (ix_nat hx27)
    obtain rfl := eI_open rel237
    refine FL.v (E.indexAddr te73 rfl rfl pt234) ?_
    refine FL.v (E.load rfl (run_load0 Tryz.isAgg3 ((at236.mono i224).now S223.sl) rfl)) ?_
    refine FL.call rfl rfl rfl (E.call Tryz.call116 (A1 rfl)) (w_spec_l2Var S223.sl y26) ?_
    rintro e w238 ⟨rfl, r239⟩
    refine ⟨_, rfl, ?_⟩
    have S240 := S223.call r239
    refine FL.v (E.sub rfl rfl) ?_
    obtain ⟨u242, z241, hp⟩ := bnd hp
    refine FL.v (E.shl rfl rfl (nn_ge z241)) ?_
    refine FL.v (E.build (B2 rfl rfl) (run_build _ 108 #[(0, vI (shlK true 64 1 (wr ((PF.spec_l2Var y26) - 1)))), (1, vI 1)] #[vI (shlK true 64 1 (wr ((PF.spec_l2Var y26) - 1))), vI 1] (by rfl))) ?_
    obtain ⟨b243, w244, run245, S246⟩ := S240.alloc (P := prog) 108 [vI 0, vI 0] Tryz.zeroValue108 rfl (ones_cons rfl (ones_cons rfl ones_nil))
    refine FL.v (E.alloc run245) ?_
    obtain ⟨w247, run248, S249⟩ := S246.store0 (P := prog) (t := 108) (i := 0) (cs' := [vI (shlK true 64 1 (wr ((PF.spec_l2Var y26) - 1))), vI 1]) (l' := [.box b243 108 [vI (shlK true 64 1 (wr ((PF.spec_l2Var y26) - 1))), vI 1], .row 108 2 v125 n126 cs127]) (v := vA #[vI (shlK true 64 1 (wr ((PF.spec_l2Var y26) - 1))), vI 1]) (c := [vI (shlK true 64 1 (wr ((PF.spec_l2Var y26) - 1))), vI 1]) rfl Tryz.sizeOf108 rfl rfl (ones_cons rfl (ones_cons rfl ones_nil)) (Nat.le_of_ble_eq_true rfl) rfl rfl
    refine FL.act rfl rfl (E.store rfl rfl run248) ?_
    obtain ⟨H250, S251, i252, at253⟩ := S249.sealBox (i := 0) (l' := [.row 108 2 v125 n126 cs127]) rfl rfl
    refine FL.nil (FW.seq (FW.region ?_))
    refine FL.v (E.move k230) ?_
    refine FL.v (E.move k227) ?_
    obtain ⟨p254, cs255, pt256, l257, at258, rel259⟩ := p2.at (ix_nat hx27)
    obtain rfl := eI_open rel259
    refine FL.v (E.indexAddr te73 rfl rfl pt256) ?_
    refine FL.v (E.load rfl (run_load0 Tryz.isAgg3 ((at258.mono (i224.tr i252)).now S251.sl) rfl)) ?_
    refine FL.v (E.lss rfl rfl) ?_
    refine FL.nil ?_
    rcases ifB hp with ⟨c260, hp⟩ | ⟨c260, hp⟩
    ·
      refine FW.condT rfl c260 ?_
      refine FW.region ?_
      refine FL.v (E.move k228) ?_
      refine FL.v (E.move k229) ?_
      refine FL.v (E.move k231) ?_
      refine FL.v (E.load rfl (run_loadA Tryz.isAgg108 Tryz.sizeOf108 (at253.now S251.sl) rfl)) ?_
      obtain ⟨v261, w262, run263, S264⟩ := S251.buildSlice (P := prog) te55 [vA #[vI (shlK true 64 1 (wr ((PF.spec_l2Var y26) - 1))), vI 1]] (parts := #[(0, vA #[vI (shlK true 64 1 (wr ((PF.spec_l2Var y26) - 1))), vI 1])]) (cells := [vI (shlK true 64 1 (wr ((PF.spec_l2Var y26) - 1))), vI 1]) rfl (szs_cons rfl szs_nil) (fc_cons rfl fc_nil) (ones_cons rfl (ones_cons rfl ones_nil)) (Nat.le_of_ble_eq_true rfl)
      have els265 : Els (up wa.heap.size H250) eTerm 2 [vI (shlK true 64 1 (wr ((PF.spec_l2Var y26) - 1))), vI 1] [(Term.mk (shlK true 64 1 (wr ((PF.spec_l2Var y26) - 1))) 1)] := (Els.snoc (H := (up wa.heap.size H250)) (E := eTerm) (k := 2) (c := [vI (shlK true 64 1 (wr ((PF.spec_l2Var y26) - 1))), vI 1]) (x := (Term.mk (shlK true 64 1 (wr ((PF.spec_l2Var y26) - 1))) 1)) Els.nil rfl rfl)
      refine FL.v (E.buildSlice (B1 rfl) run263) ?_
      obtain ⟨H266, S267, i268, h269, nv270⟩ := S264.sealRowU (i := 1) (l' := [.row 108 2 v261 1 [vI (shlK true 64 1 (wr ((PF.spec_l2Var y26) - 1))), vI 1]]) rfl (els128.mono (up_mono i252)) (by decide) rfl
      obtain ⟨H271, S272, i273, h274, nv275⟩ := S267.sealRowU (i := 0) (l' := []) rfl (els265.mono (up_mono i268)) (by decide) rfl
      obtain ⟨r276, hr277, hp⟩ := bnd hp
      refine FL.call rfl rfl rfl (E.call Tryz.call117 (A4 rfl rfl rfl rfl)) (w_spec_l18Mul S272.sl a0 a1 v125 s27 (h269.mono (upI.tr i273)) v261 [(Term.mk (shlK true 64 1 (wr ((PF.spec_l2Var y26) - 1))) 1)] (h274.mono upI) hr277) ?_
      rintro e w279 ⟨H278, v284, n285, cs286, rfl, r281, els287⟩
      refine ⟨_, rfl, ?_⟩
      obtain ⟨H282, r281, hU283⟩ := St.lendX (i268.tr i273) S264.sl r281
      have els287 := els287.mono (hU283.tr (up_le S264.size))
      have S280 := S264.join (l' := [.row 108 2 v284 n285 cs286, .row 108 2 v261 1 [vI (shlK true 64 1 (wr ((PF.spec_l2Var y26) - 1))), vI 1], .row 108 2 v125 n126 cs127]) r281 rfl
      refine FL.v (E.assign (v := v284) rfl) ?_
      refine FL.nil (FW.region ?_)
      refine FL.v (E.move k227) ?_
      refine FL.v (E.add rfl rfl) ?_
      refine FL.v (E.assign (v := vI (wr (((i27 : Nat) : Int) + 1))) rfl) ?_
      refine FL.nil ?_
      obtain rfl := Option.some.inj hp
      exact ⟨rfl, ⟨_, _, _, _, (S280.sel [0] (by decide) rfl), ((i224.tr i252).tr r281.run.inc), els287, (nat_succ rfl (lt_of_get hx27) (p2.mono ((i224.tr i252).tr r281.run.inc)).le), k228, k229, k230, rfl⟩⟩
    ·
      refine FW.condF rfl c260 ?_
      refine FW.region ?_
      refine FL.v (E.move k228) ?_
      refine FL.v (E.move k229) ?_
      refine FL.v (E.move k231) ?_
      refine FL.v (E.build (B2 rfl rfl) (run_build _ 108 #[(0, vI 0), (1, vI 1)] #[vI 0, vI 1] (by rfl))) ?_
      refine FL.v (E.fieldAddr tf108_0 rfl) ?_
      refine FL.v (E.load rfl (run_load1 Tryz.isAgg3 (at253.now S251.sl) rfl)) ?_
      refine FL.v (E.move k228) ?_
      refine FL.v (E.sub rfl rfl) ?_
      refine FL.v (E.build (B2 rfl rfl) (run_build _ 108 #[(0, vI (shlK true 64 1 (wr ((PF.spec_l2Var y26) - 1)))), (1, vI (wr (a0 - 1)))] #[vI (shlK true 64 1 (wr ((PF.spec_l2Var y26) - 1))), vI (wr (a0 - 1))] (by rfl))) ?_
      obtain ⟨v288, w289, run290, S291⟩ := S251.buildSlice (P := prog) te55 [vA #[vI 0, vI 1], vA #[vI (shlK true 64 1 (wr ((PF.spec_l2Var y26) - 1))), vI (wr (a0 - 1))]] (parts := #[(0, vA #[vI 0, vI 1]), (1, vA #[vI (shlK true 64 1 (wr ((PF.spec_l2Var y26) - 1))), vI (wr (a0 - 1))])]) (cells := [vI 0, vI 1, vI (shlK true 64 1 (wr ((PF.spec_l2Var y26) - 1))), vI (wr (a0 - 1))]) rfl (szs_cons rfl (szs_cons rfl szs_nil)) (fc_cons rfl (fc_cons rfl fc_nil)) (ones_cons rfl (ones_cons rfl (ones_cons rfl (ones_cons rfl ones_nil)))) (Nat.le_of_ble_eq_true rfl)
      have els292 : Els (up wa.heap.size H250) eTerm 2 [vI 0, vI 1, vI (shlK true 64 1 (wr ((PF.spec_l2Var y26) - 1))), vI (wr (a0 - 1))] [(Term.mk 0 1), (Term.mk (shlK true 64 1 (wr ((PF.spec_l2Var y26) - 1))) (wr (a0 - 1)))] := (Els.snoc (H := (up wa.heap.size H250)) (E := eTerm) (k := 2) (c := [vI (shlK true 64 1 (wr ((PF.spec_l2Var y26) - 1))), vI (wr (a0 - 1))]) (x := (Term.mk (shlK true 64 1 (wr ((PF.spec_l2Var y26) - 1))) (wr (a0 - 1)))) (Els.snoc (H := (up wa.heap.size H250)) (E := eTerm) (k := 2) (c := [vI 0, vI 1]) (x := (Term.mk 0 1)) Els.nil rfl rfl) rfl rfl)
      refine FL.v (E.buildSlice (B2 rfl rfl) run290) ?_
      obtain ⟨H293, S294, i295, h296, nv297⟩ := S291.sealRowU (i := 1) (l' := [.row 108 2 v288 2 [vI 0, vI 1, vI (shlK true 64 1 (wr ((PF.spec_l2Var y26) - 1))), vI (wr (a0 - 1))]]) rfl (els128.mono (up_mono i252)) (by decide) rfl
      obtain ⟨H298, S299, i300, h301, nv302⟩ := S294.sealRowU (i := 0) (l' := []) rfl (els292.mono (up_mono i295)) (by decide) rfl
      obtain ⟨r303, hr304, hp⟩ := bnd hp
      refine FL.call rfl rfl rfl (E.call Tryz.call117 (A4 rfl rfl rfl rfl)) (w_spec_l18Mul S299.sl a0 a1 v125 s27 (h296.mono (upI.tr i300)) v288 [(Term.mk 0 1), (Term.mk (shlK true 64 1 (wr ((PF.spec_l2Var y26) - 1))) (wr (a0 - 1)))] (h301.mono upI) hr304) ?_
      rintro e w306 ⟨H305, v311, n312, cs313, rfl, r308, els314⟩
      refine ⟨_, rfl, ?_⟩
      obtain ⟨H309, r308, hU310⟩ := St.lendX (i295.tr i300) S291.sl r308
      have els314 := els314.mono (hU310.tr (up_le S291.size))
      have S307 := S291.join (l' := [.row 108 2 v311 n312 cs313, .row 108 2 v288 2 [vI 0, vI 1, vI (shlK true 64 1 (wr ((PF.spec_l2Var y26) - 1))), vI (wr (a0 - 1))], .row 108 2 v125 n126 cs127]) r308 rfl
      refine FL.v (E.assign (v := v311) rfl) ?_
      refine FL.nil (FW.region ?_)
      refine FL.v (E.move k227) ?_
      refine FL.v (E.add rfl rfl) ?_
      refine FL.v (E.assign (v := vI (wr (((i27 : Nat) : Int) + 1))) rfl) ?_
      refine FL.nil ?_
      obtain rfl := Option.some.inj hp
      exact ⟨rfl, ⟨_, _, _, _, (S307.sel [0] (by decide) rfl), ((i224.tr i252).tr r308.run.inc), els314, (nat_succ rfl (lt_of_get hx27) (p2.mono ((i224.tr i252).tr r308.run.inc)).le), k228, k229, k230, rfl⟩⟩
  ·
    clear hp hq
    rintro s27 f326 w325 ⟨H322, v125, n126, cs127, S323, i324, els128, k327, k328, k329, k330, k331⟩
    refine FW.seq (FW.seq (FW.region ?_))
    refine FL.v (E.move k327) ?_
    refine FL.v (E.move k330) ?_
    refine FL.v (E.lenP te73 rfl p2) ?_
    refine FL.v (E.lss rfl rfl) ?_
    refine FL.nil ?_
    refine FW.condF rfl dlt_len ?_
    refine FW.exit ?_
    exact ⟨nofun, rfl, ⟨_, _, _, _, S323, i324, els128, k331⟩⟩
  ·
    clear hq
    intro e f320 w319 hD
    rcases q27 with s27 | x27
    ·
      obtain ⟨rfl, hD⟩ := hD
      obtain ⟨H316, v125, n126, cs127, S317, i318, els128, k321⟩ := hD
      replace hp := el_go hp
      refine FW.seq (FW.region ?_)
      refine FL.v (E.move k321) ?_
      refine FL.v (E.assign (v := v125) rfl) ?_
      refine FL.nil ?_
      refine FW.ret ?_
      obtain rfl := Option.some.inj hp
      exact ⟨.inr rfl, res1 rfl rfl ⟨_, _, _, _, rfl, S317, els128⟩⟩
    · exact x27.elim

@[reducible] def p_spec_l20Times (Ha : GH) (wa : World) (r : (List Term)) : Ending → World → Prop :=
 fun e w' => ∃ H' : GH, ∃ v0 : Value, ∃ n0 : Nat, ∃ c0 : List Value, e = .returned (v0) ∧ St Ha wa H' w' [.row 108 2 v0 n0 c0] ∧ Els (up wa.heap.size H') eTerm 2 c0 r
theorem w_spec_l20Times {Ha : GH} {wa : World} (hs : Sl Ha wa) (a0 : Int) (a1 : Int) (v2 : Value) (a2 : List Term) (p2 : RSl Ha eTerm 2 v2 a2) (a3 : Int) {r : (List Term)} (hp : (PF.spec_l20Times a0 a1 a2 a3) = some r) :
  Calls prog 158 #[vI a0, vI a1, v2, vI a3] wa (p_spec_l20Times Ha wa r) := by
 unfold PF.spec_l20Times at hp; have S0 := St.init hs; refine calls_go (N := 18) (args := [vI a0, vI a1, v2, vI a3]) func158 rfl rfl rfl ?_; refine FW.sr ?_; refine FL.as (v := vN) rfl ?_; refine FL.nil (FW.sr ?_); refine FL.mv (v := vI a0) rfl ?_; refine FL.mv (v := vI a1) rfl ?_; refine FL.mv (v := v2) rfl ?_; refine FL.mv (v := vI a3) rfl ?_; refine FL.v (E.sub rfl rfl) ?_; obtain ⟨u22, z21, hp⟩ := bnd hp; refine FL.v (E.shl rfl rfl (nn_ge z21)) ?_; refine FL.v (E.build (B2 rfl rfl) (run_build _ 108 #[(0, vI (shlK true 64 1 (wr (a3 - 1)))), (1, vI 1)] #[vI (shlK true 64 1 (wr (a3 - 1))), vI 1] (by rfl))) ?_; obtain ⟨v23, w24, run25, S26⟩ := S0.buildSlice (P := prog) te55 [vA #[vI (shlK true 64 1 (wr (a3 - 1))), vI 1]] (parts := #[(0, vA #[vI (shlK true 64 1 (wr (a3 - 1))), vI 1])]) (cells := [vI (shlK true 64 1 (wr (a3 - 1))), vI 1]) rfl (szs_cons rfl szs_nil) (fc_cons rfl fc_nil) (oC rfl (oC rfl ones_nil)) (nB rfl); have els27 : Els (up wa.heap.size Ha) eTerm 2 [vI (shlK true 64 1 (wr (a3 - 1))), vI 1] [(Term.mk (shlK true 64 1 (wr (a3 - 1))) 1)] := (Els.snoc (H := (up wa.heap.size Ha)) (E := eTerm) (k := 2) (c := [vI (shlK true 64 1 (wr (a3 - 1))), vI 1]) (x := (Term.mk (shlK true 64 1 (wr (a3 - 1))) 1)) Els.nil rfl rfl); refine FL.v (E.buildSlice (B1 rfl) run25) ?_; obtain ⟨H28, S29, i30, h31, nv32⟩ := S26.sealRowU (i := 0) (l' := []) rfl els27 (by decide) rfl; obtain ⟨r33, hr34, hp⟩ := bnd hp; refine FL.c (E.call call117 (A4 rfl rfl rfl rfl)) (w_spec_l18Mul S29.sl a0 a1 v2 a2 (p2.mono i30) v23 [(Term.mk (shlK true 64 1 (wr (a3 - 1))) 1)] (h31.mono upI) hr34) ?_; rintro e w36 ⟨H35, v41, n42, cs43, rfl, r38, els44⟩; refine ⟨_, rfl, ?_⟩; obtain ⟨H39, r38, hU40⟩ := St.lendX i30 S26.sl r38; have els44 := els44.mono (hU40.tr (up_le S26.size)); have S37 := S26.join (l' := [.row 108 2 v41 n42 cs43, .row 108 2 v23 1 [vI (shlK true 64 1 (wr (a3 - 1))), vI 1]]) r38 rfl; refine FL.as (v := v41) rfl ?_; refine FL.nil (FW.ret ?_); cases hp; exact ⟨.inr rfl, res1 rfl rfl ⟨_, _, _, _, rfl, (S37.sel [0] (by decide) rfl), els44⟩⟩

@[reducible] def p_spec_l18Dense (Ha : GH) (wa : World) (r : (List Int)) : Ending → World → Prop :=
  fun e w' => ∃ H' : GH, ∃ v0 : Value, ∃ n0 : Nat, ∃ c0 : List Value, e = .returned (v0) ∧ St Ha wa H' w' [.row 3 1 v0 n0 c0] ∧ Els (up wa.heap.size H') eI 1 c0 r
theorem w_spec_l18Dense {Ha : GH} {wa : World} (hs : Sl Ha wa) (a0 : Int) (v1 : Value) (a1 : List Term) (p1 : RSl Ha eTerm 2 v1 a1) {r : (List Int)} (hp : (PF.spec_l18Dense a0 a1) = some r) :
    Calls prog 204 #[vI a0, v1] wa (p_spec_l18Dense Ha wa r) := by
  unfold PF.spec_l18Dense at hp
  have S0 := St.init hs
  refine calls_go (N := 29) (args := [vI a0, v1]) Tryz.func204 rfl rfl rfl ?_
  refine FW.seq (FW.region ?_)
  refine FL.v (E.assign (v := vN) rfl) ?_
  refine FL.nil (FW.seq (FW.region ?_))
  refine FL.v (E.move (v := vI a0) rfl) ?_
  obtain ⟨u22, z21, hp⟩ := bnd hp
  refine FL.v (E.shl rfl rfl (nn_ge z21)) ?_
  obtain ⟨xs23, hm24, hp⟩ := bnd hp
  obtain ⟨v25, w26, n30, cs31, run27, S28, els29, hbl32⟩ := S0.makeEls (P := prog) te73 (G := (up wa.heap.size Ha)) (En := eI) (x0 := (0 : Int)) hm24 rfl (ones_cons rfl ones_nil) .i64 .i64
  refine FL.v (E.makeSlice rfl rfl run27) ?_
  refine FL.v (E.assign (v := v25) rfl) ?_
  refine FL.nil (FW.seq (FW.seq (FW.region ?_)))
  refine FL.v (E.assign (v := vI 0) rfl) ?_
  refine FL.nil ?_
  obtain ⟨q34, hq, hp⟩ := bndR hp
  refine FW.block ?_
  refine FW.mono (FW.forL (S := (List Int)) (X := Empty) (fun (i34 : Nat) (s34 : (List Int)) f w => ∃ H : GH, ∃ v35 : Value, ∃ n36 : Nat, ∃ cs37 : List Value, St Ha wa H w [.row 3 1 v35 n36 cs37] ∧ Inc Ha H ∧ Els (up wa.heap.size H) eI 1 cs37 s34 ∧ f 6 = vI ((i34 : Nat) : Int) ∧ f 1 = v1 ∧ f 5 = v35) (fun (q : Rs (List Int) Empty) e f w => match q with | .go s34 => e = Exit.exit 0 ∧ (∃ H : GH, ∃ v35 : Value, ∃ n36 : Nat, ∃ cs37 : List Value, St Ha wa H w [.row 3 1 v35 n36 cs37] ∧ Inc Ha H ∧ Els (up wa.heap.size H) eI 1 cs37 s34 ∧ f 5 = v35) | .rt x => x.elim) hq ⟨_, _, _, _, S28, (Inc.rfl _), els29, rfl, rfl, rfl⟩ ?_ ?_) ?_
  ·
    clear hp hq
    rintro i34 y33 s34 f43 w42 ⟨H39, v35, n36, cs37, S40, i41, els38, k44, k45, k46⟩ hx34 o93 hp
    refine FW.seq (FW.seq (FW.region ?_))
    refine FL.v (E.move k44) ?_
    refine FL.v (E.move k45) ?_
    refine FL.v (E.lenP te55 rfl p1) ?_
    refine FL.v (E.lssT rfl rfl (lss_len hx34)) ?_
    refine FL.nil ?_
    refine FW.condT rfl rfl ?_
    refine FW.skip (FW.seq (FW.block ?_))
    obtain ⟨x69, hx70, hp⟩ := bnd hp
    obtain ⟨xs76, hput77, hp⟩ := bnd hp
    refine FW.drawB (Sl H39) (fun f w => ∃ H : GH, ∃ v81 : Value, ∃ n82 : Nat, ∃ cs83 : List Value, St Ha wa H w [.row 3 1 v81 n82 cs83] ∧ Inc H39 H ∧ Els (up wa.heap.size H) eI 1 cs83 xs76 ∧ f 1 = v1 ∧ f 5 = v81 ∧ f 6 = vI ((i34 : Nat) : Int)) (by kernel_rfl) S40.sl ?_ ?_
    ·
      intro w47 r48
      have S49 := S40.call r48
      refine FB.t (i := 0) (bs 13 1) rfl (SP.nil S49.sl) rfl (fun _ z => (E.move k46)) ?_
      refine FB.t (i := 1) (bs 13 3) rfl (SP.nil S49.sl) rfl (fun _ z => (E.move k45)) ?_
      refine FB.t (i := 2) (bs 13 7) rfl (SP.nil S49.sl) rfl (fun _ z => (E.move k44)) ?_
      obtain ⟨p50, cs51, pt52, l53, at54, rel56⟩ := p1.at (ix_nat hx34)
      obtain rfl := eTerm_open rel56
      refine FB.t (i := 3) (bs 13 15) rfl (SP.nil S49.sl) rfl (fun _ z => (E.indexAddr te55 rfl rfl pt52)) ?_
      refine FB.t (i := 4) (bs 13 31) rfl (SP.nil S49.sl) rfl (fun _ z => (E.fieldAddr tf108_0 rfl)) ?_
      refine FB.t (i := 5) (bs 13 63) rfl (SP.nil S49.sl) rfl (fun _ z => (E.load rfl (run_load1 Tryz.isAgg3 ((at54.mono i41).now z) rfl))) ?_
      refine FB.t (i := 6) (bs 13 127) rfl (SP.nil S49.sl) rfl (fun _ z => (E.move k45)) ?_
      refine FB.t (i := 7) (bs 13 255) rfl (SP.nil S49.sl) rfl (fun _ z => (E.move k44)) ?_
      obtain ⟨p57, cs58, pt59, l60, at61, rel62⟩ := p1.at (ix_nat hx34)
      obtain rfl := eTerm_open rel62
      refine FB.t (i := 8) (bs 13 511) rfl (SP.nil S49.sl) rfl (fun _ z => (E.indexAddr te55 rfl rfl pt59)) ?_
      refine FB.t (i := 9) (bs 13 1023) rfl (SP.nil S49.sl) rfl (fun _ z => (E.fieldAddr tf108_1 rfl)) ?_
      refine FB.t (i := 10) (bs 13 2047) rfl (SP.nil S49.sl) rfl (fun _ z => (E.load rfl (run_load1 Tryz.isAgg3 ((at61.mono i41).now z) rfl))) ?_
      obtain ⟨p63, cs64, pt65, l66, at67, rel68, hall71⟩ := S49.row_atA (i := 0) rfl els38 (by decide) hx70
      obtain rfl := eI_open rel68
      refine FB.t (i := 11) (bs 13 4095) rfl (SP.nil S49.sl) rfl (fun _ z => (E.indexAddr te73 rfl rfl pt65)) ?_
      refine FB.all1 (i := 12) (by kernel_rfl) ?_
      ·
        obtain ⟨w72, cs79, run74, S75, els78, ce80⟩ := S49.putEls (P := prog) (t := 3) (i := 0) rfl els38 hput77 pt65 Tryz.sizeOf3 (u := vI y33.coeff) (c := [vI y33.coeff]) rfl rfl (ones_cons rfl ones_nil) rfl
        have S75 : St Ha wa H39 w72 [.row 3 1 v35 n36 cs79] := S75
        refine FC.act (l' := (bs 13 8191)) rfl (by kernel_rfl) rfl rfl (E.store rfl rfl run74) ?_
        refine ⟨(SP.nil S75.sl), ?_⟩
        exact FB.done (by kernel_rfl) ⟨_, _, _, _, S75, (Inc.rfl _), els78, k45, k46, k44⟩
    ·
      rintro f89 w88 ⟨H85, v81, n82, cs83, S86, i87, els84, k90, k91, k92⟩
      refine FW.region ?_
      refine FL.v (E.move k92) ?_
      refine FL.v (E.add rfl rfl) ?_
      refine FL.v (E.assign (v := vI (wr (((i34 : Nat) : Int) + 1))) rfl) ?_
      refine FL.nil ?_
      obtain rfl := Option.some.inj hp
      exact ⟨rfl, ⟨_, _, _, _, S86, (i41.tr i87), els84, (nat_succ rfl (lt_of_get hx34) (p1.mono (i41.tr i87)).le), k90, k91⟩⟩
  ·
    clear hp hq
    rintro s34 f104 w103 ⟨H100, v35, n36, cs37, S101, i102, els38, k105, k106, k107⟩
    refine FW.seq (FW.seq (FW.region ?_))
    refine FL.v (E.move k105) ?_
    refine FL.v (E.move k106) ?_
    refine FL.v (E.lenP te55 rfl p1) ?_
    refine FL.v (E.lss rfl rfl) ?_
    refine FL.nil ?_
    refine FW.condF rfl dlt_len ?_
    refine FW.exit ?_
    exact ⟨nofun, rfl, ⟨_, _, _, _, S101, i102, els38, k107⟩⟩
  ·
    clear hq
    intro e f98 w97 hD
    rcases q34 with s34 | x34
    ·
      obtain ⟨rfl, hD⟩ := hD
      obtain ⟨H94, v35, n36, cs37, S95, i96, els38, k99⟩ := hD
      replace hp := el_go hp
      refine FW.seq (FW.region ?_)
      refine FL.v (E.move k99) ?_
      refine FL.v (E.assign (v := v35) rfl) ?_
      refine FL.nil ?_
      refine FW.ret ?_
      obtain rfl := Option.some.inj hp
      exact ⟨.inr rfl, res1 rfl rfl ⟨_, _, _, _, rfl, S95, els38⟩⟩
    · exact x34.elim

@[reducible] def p_spec_l18Add (Ha : GH) (wa : World) (r : (List Term)) : Ending → World → Prop :=
  fun e w' => ∃ H' : GH, ∃ v0 : Value, ∃ n0 : Nat, ∃ c0 : List Value, e = .returned (v0) ∧ St Ha wa H' w' [.row 108 2 v0 n0 c0] ∧ Els (up wa.heap.size H') eTerm 2 c0 r
theorem w_spec_l18Add {Ha : GH} {wa : World} (hs : Sl Ha wa) (a0 : Int) (a1 : Int) (v2 : Value) (a2 : List Term) (p2 : RSl Ha eTerm 2 v2 a2) (v3 : Value) (a3 : List Term) (p3 : RSl Ha eTerm 2 v3 a3) (a4 : Int) {r : (List Term)} (hp : (PF.spec_l18Add a0 a1 a2 a3 a4) = some r) :
    Calls prog 156 #[vI a0, vI a1, v2, v3, vI a4] wa (p_spec_l18Add Ha wa r) := by
  unfold PF.spec_l18Add at hp
  have S0 := St.init hs
  refine calls_go (N := 43) (args := [vI a0, vI a1, v2, v3, vI a4]) Tryz.func156 rfl rfl rfl ?_
  refine FW.seq (FW.region ?_)
  refine FL.v (E.assign (v := vN) rfl) ?_
  refine FL.nil (FW.seq (FW.region ?_))
  refine FL.v (E.move (v := vI a1) rfl) ?_
  refine FL.v (E.move (v := v2) rfl) ?_
  obtain ⟨r21, hr22, hp⟩ := bnd hp
  refine FL.call rfl rfl rfl (E.call Tryz.call204 (A2 rfl rfl)) (w_spec_l18Dense S0.sl a1 v2 a2 p2 hr22) ?_
  rintro e w24 ⟨H23, v27, n28, cs29, rfl, r26, els30⟩
  refine ⟨_, rfl, ?_⟩
  have els30 := els30.mono (up_le S0.size)
  have S25 := S0.join (l' := [.row 3 1 v27 n28 cs29]) r26 rfl
  refine FL.v (E.move (v := vI a1) rfl) ?_
  refine FL.v (E.move (v := v3) rfl) ?_
  obtain ⟨r31, hr32, hp⟩ := bnd hp
  refine FL.call rfl rfl rfl (E.call Tryz.call204 (A2 rfl rfl)) (w_spec_l18Dense S25.sl a1 v3 a3 (p3.mono r26.run.inc) hr32) ?_
  rintro e w34 ⟨H33, v37, n38, cs39, rfl, r36, els40⟩
  refine ⟨_, rfl, ?_⟩
  have els40 := els40.mono (up_le S25.size)
  have S35 := S25.join (l' := [.row 3 1 v37 n38 cs39, .row 3 1 v27 n28 cs29]) r36 rfl
  refine FL.v (E.assign (v := v27) rfl) ?_
  refine FL.v (E.assign (v := v37) rfl) ?_
  refine FL.nil (FW.seq (FW.seq (FW.region ?_)))
  refine FL.v (E.assign (v := vI 0) rfl) ?_
  refine FL.nil ?_
  obtain ⟨q41, hq, hp⟩ := bndR hp
  refine FW.block ?_
  refine FW.mono (FW.iter (S := ((List Int) × Int)) (X := Empty) (fun (s41 : ((List Int) × Int)) f w => ∃ H : GH, ∃ v42 : Value, ∃ n43 : Nat, ∃ cs44 : List Value, St Ha wa H w [.row 3 1 v37 n38 cs39, .row 3 1 v42 n43 cs44] ∧ Inc H33 H ∧ Els (up wa.heap.size H) eI 1 cs44 s41.1 ∧ f 0 = vI a0 ∧ f 4 = vI a4 ∧ f 11 = v42 ∧ f 12 = v37 ∧ f 13 = vI s41.2) (fun (q : Rs ((List Int) × Int) Empty) e f w => match q with | .go s41 => e = Exit.exit 0 ∧ (∃ H : GH, ∃ v42 : Value, ∃ n43 : Nat, ∃ cs44 : List Value, St Ha wa H w [.row 3 1 v37 n38 cs39, .row 3 1 v42 n43 cs44] ∧ Inc H33 H ∧ Els (up wa.heap.size H) eI 1 cs44 s41.1 ∧ f 0 = vI a0 ∧ f 11 = v42) | .rt x => x.elim) hq ⟨_, _, _, _, S35, (Inc.rfl _), (els30.mono (up_mono r36.run.inc)), rfl, rfl, rfl, rfl, rfl⟩ ?_) ?_
  ·
    clear hp hq
    rintro s41 f50 w49 ⟨H46, v42, n43, cs44, S47, i48, els45, k51, k52, k53, k54, k55⟩ o110 hp
    refine FW.seq (FW.seq (FW.region ?_))
    refine FL.v (E.move k55) ?_
    refine FL.v (E.move k53) ?_
    refine FL.v (E.lenO te73 rfl S47 (i := 1) rfl els45 (by decide)) ?_
    refine FL.v (E.lss rfl rfl) ?_
    refine FL.nil ?_
    rcases ifB hp with ⟨c56, hp⟩ | ⟨c56, hp⟩
    ·
      refine FW.condT rfl c56 ?_
      refine FW.skip (FW.seq (FW.block ?_))
      obtain ⟨x66, hx67, hp⟩ := bnd hp
      obtain ⟨x76, hx77, hp⟩ := bnd hp
      obtain ⟨x85, hx86, hp⟩ := bnd hp
      obtain ⟨xs91, hput92, hp⟩ := bnd hp
      refine FW.drawB (SX Ha wa H46 [.row 3 1 v37 n38 cs39]) (fun f w => ∃ H : GH, ∃ v96 : Value, ∃ n97 : Nat, ∃ cs98 : List Value, St Ha wa H w [.row 3 1 v37 n38 cs39, .row 3 1 v96 n97 cs98] ∧ Inc H46 H ∧ Els (up wa.heap.size H) eI 1 cs98 xs91 ∧ f 0 = vI a0 ∧ f 4 = vI a4 ∧ f 11 = v96 ∧ f 12 = v37 ∧ f 13 = vI s41.2) (by kernel_rfl) S47.sl ?_ ?_
      ·
        intro w57 r58
        have S59 := S47.call r58
        refine FB.t (i := 0) (bs 15 1) rfl (SP.nil ⟨_, (S59.sel [0] (by decide) rfl), (Inc.rfl _)⟩) rfl (fun _ z => (E.move k53)) ?_
        refine FB.t (i := 1) (bs 15 3) rfl (SP.nil ⟨_, (S59.sel [0] (by decide) rfl), (Inc.rfl _)⟩) rfl (fun _ z => (E.move k55)) ?_
        refine FB.t (i := 2) (bs 15 7) rfl (SP.nil ⟨_, (S59.sel [0] (by decide) rfl), (Inc.rfl _)⟩) rfl (fun _ z => (E.move k53)) ?_
        refine FB.t (i := 3) (bs 15 15) rfl (SP.nil ⟨_, (S59.sel [0] (by decide) rfl), (Inc.rfl _)⟩) rfl (fun _ z => (E.move k55)) ?_
        obtain ⟨p60, cs61, pt62, l63, at64, rel65, hall68⟩ := S59.row_atA (i := 1) rfl els45 (by decide) hx67
        obtain rfl := eI_open rel65
        refine FB.t (i := 4) (bs 15 31) rfl (SP.nil ⟨_, (S59.sel [0] (by decide) rfl), (Inc.rfl _)⟩) rfl (fun _ z => (E.indexAddr te73 rfl rfl pt62)) ?_
        refine FB.phase [14] (fun w' => WAt w' p60 [vI x66]) ?_
        refine FB.p (i := 5) (bs 15 63) 0 [12, 13, 14] rfl (SP.on (hall68 _ _ _ 1 S59 rfl) (SP.nil ⟨_, (S59.sel [0] (by decide) rfl), (Inc.rfl _)⟩)) rfl rfl (fun _ z => (E.load rfl (run_load0 Tryz.isAgg3 z rfl))) ?_
        refine FB.t (i := 6) (bs 15 127) rfl (SP.on (hall68 _ _ _ 1 S59 rfl) (SP.nil ⟨_, (S59.sel [0] (by decide) rfl), (Inc.rfl _)⟩)) rfl (fun _ z => (E.move k52)) ?_
        refine FB.t (i := 7) (bs 15 255) rfl (SP.on (hall68 _ _ _ 1 S59 rfl) (SP.nil ⟨_, (S59.sel [0] (by decide) rfl), (Inc.rfl _)⟩)) rfl (fun _ z => (E.move k54)) ?_
        refine FB.t (i := 8) (bs 15 511) rfl (SP.on (hall68 _ _ _ 1 S59 rfl) (SP.nil ⟨_, (S59.sel [0] (by decide) rfl), (Inc.rfl _)⟩)) rfl (fun _ z => (E.move k55)) ?_
        obtain ⟨p69, cs70, pt71, l72, at74, rel75, hall78⟩ := S59.row_atA (i := 0) rfl els40 (by decide) hx77
        obtain rfl := eI_open rel75
        refine FB.t (i := 9) (bs 15 1023) rfl (SP.on (hall68 _ _ _ 1 S59 rfl) (SP.nil ⟨_, (S59.sel [0] (by decide) rfl), (Inc.rfl _)⟩)) rfl (fun _ z => (E.indexAddr te73 rfl rfl pt71)) ?_
        refine FB.t (i := 10) (bs 15 2047) rfl (SP.on (hall68 _ _ _ 1 S59 rfl) (SP.nil ⟨_, (S59.sel [0] (by decide) rfl), (Inc.rfl _)⟩)) rfl (fun _ z => (E.load rfl (run_load0 Tryz.isAgg3 (z.use fun _ st => hall78 _ _ _ 0 st rfl) rfl))) ?_
        refine FB.t (i := 11) (bs 15 4095) rfl (SP.on (hall68 _ _ _ 1 S59 rfl) (SP.nil ⟨_, (S59.sel [0] (by decide) rfl), (Inc.rfl _)⟩)) rfl (fun _ z => (E.mul rfl rfl)) ?_
        refine FB.t (i := 12) (bs 15 8191) rfl (SP.on (hall68 _ _ _ 1 S59 rfl) (SP.nil ⟨_, (S59.sel [0] (by decide) rfl), (Inc.rfl _)⟩)) rfl (fun _ z => (E.add rfl rfl)) ?_
        obtain ⟨p79, cs80, pt81, l82, at83, rel84, hall87⟩ := S59.row_atA (i := 1) rfl els45 (by decide) hx86
        obtain rfl := eI_open rel84
        refine FB.t (i := 13) (bs 15 16383) rfl (SP.on (hall68 _ _ _ 1 S59 rfl) (SP.nil ⟨_, (S59.sel [0] (by decide) rfl), (Inc.rfl _)⟩)) rfl (fun _ z => (E.indexAddr te73 rfl rfl pt81)) ?_
        refine FB.all1 (i := 14) (by kernel_rfl) ?_
        ·
          obtain ⟨w88, cs94, run89, S90, els93, ce95⟩ := S59.putEls (P := prog) (t := 3) (i := 1) rfl els45 hput92 pt81 Tryz.sizeOf3 (u := vI (wr (x66 + (wr (a4 * x76))))) (c := [vI (wr (x66 + (wr (a4 * x76))))]) rfl rfl (ones_cons rfl ones_nil) rfl
          have S90 : St Ha wa H46 w88 [.row 3 1 v37 n38 cs39, .row 3 1 v42 n43 cs94] := S90
          refine FC.act (l' := (bs 15 32767)) rfl (by kernel_rfl) rfl rfl (E.store rfl rfl run89) ?_
          refine ⟨(SP.o (SP.nil ⟨_, (S90.sel [0] (by decide) rfl), (Inc.rfl _)⟩)), ?_⟩
          exact FB.done (by kernel_rfl) ⟨_, _, _, _, S90, (Inc.rfl _), els93, k51, k52, k53, k54, k55⟩
      ·
        rintro f104 w103 ⟨H100, v96, n97, cs98, S101, i102, els99, k105, k106, k107, k108, k109⟩
        refine FW.region ?_
        refine FL.v (E.move k109) ?_
        refine FL.v (E.add rfl rfl) ?_
        refine FL.v (E.assign (v := vI (wr (s41.2 + 1))) rfl) ?_
        refine FL.nil ?_
        obtain rfl := Option.some.inj hp
        exact ⟨rfl, ⟨_, _, _, _, S101, (i48.tr i102), els99, k105, k106, k107, k108, rfl⟩⟩
    ·
      refine FW.condF rfl c56 ?_
      refine FW.exit ?_
      obtain rfl := Option.some.inj hp
      exact ⟨nofun, rfl, ⟨_, _, _, _, S47, i48, els45, k51, k53⟩⟩
  ·
    clear hq
    intro e f115 w114 hD
    rcases q41 with s41 | x41
    ·
      obtain ⟨rfl, hD⟩ := hD
      obtain ⟨H111, v42, n43, cs44, S112, i113, els45, k116, k117⟩ := hD
      replace hp := el_go hp
      refine FW.seq (FW.region ?_)
      refine FL.v (E.move k116) ?_
      refine FL.v (E.move k117) ?_
      obtain ⟨H118, S119, i120, h121, nv122⟩ := S112.sealRowU (i := 1) (l' := [.row 3 1 v37 n38 cs39]) rfl els45 (by decide) rfl
      obtain ⟨r123, hr124, hp⟩ := bnd hp
      refine FL.call rfl rfl rfl (E.call Tryz.call179 (A2 rfl rfl)) (w_spec_l18Sparse S119.sl a0 v42 s41.1 (h121.mono upI) hr124) ?_
      rintro e w126 ⟨H125, v131, n132, cs133, rfl, r128, els134⟩
      refine ⟨_, rfl, ?_⟩
      obtain ⟨H129, r128, hU130⟩ := St.lendX i120 S112.sl r128
      have els134 := els134.mono (hU130.tr (up_le S112.size))
      have S127 := S112.join (l' := [.row 108 2 v131 n132 cs133, .row 3 1 v37 n38 cs39, .row 3 1 v42 n43 cs44]) r128 rfl
      refine FL.v (E.assign (v := v131) rfl) ?_
      refine FL.nil ?_
      refine FW.ret ?_
      obtain rfl := Option.some.inj hp
      exact ⟨.inr rfl, res1 rfl rfl ⟨_, _, _, _, rfl, (S127.sel [0] (by decide) rfl), els134⟩⟩
    · exact x41.elim

@[reducible] def p_spec_l20Sum (Ha : GH) (wa : World) (r : (List Term)) : Ending → World → Prop :=
 fun e w' => ∃ H' : GH, ∃ v0 : Value, ∃ n0 : Nat, ∃ c0 : List Value, e = .returned (v0) ∧ St Ha wa H' w' [.row 108 2 v0 n0 c0] ∧ Els (up wa.heap.size H') eTerm 2 c0 r
theorem w_spec_l20Sum {Ha : GH} {wa : World} (hs : Sl Ha wa) (a0 : Int) (a1 : Int) (v2 : Value) (a2 : List Term) (p2 : RSl Ha eTerm 2 v2 a2) (a3 : Int) (v4 : Value) (a4 : List Term) (p4 : RSl Ha eTerm 2 v4 a4) (a5 : Int) {r : (List Term)} (hp : (PF.spec_l20Sum a0 a1 a2 a3 a4 a5) = some r) :
  Calls prog 185 #[vI a0, vI a1, v2, vI a3, v4, vI a5] wa (p_spec_l20Sum Ha wa r) := by
 unfold PF.spec_l20Sum at hp; have S0 := St.init hs; refine calls_go (N := 24) (args := [vI a0, vI a1, v2, vI a3, v4, vI a5]) func185 rfl rfl rfl ?_; refine FW.sr ?_; refine FL.as (v := vN) rfl ?_; refine FL.nil (FW.sr ?_); refine FL.mv (v := vI a0) rfl ?_; refine FL.mv (v := vI a1) rfl ?_; refine FL.mv (v := vI a0) rfl ?_; refine FL.mv (v := vI a1) rfl ?_; obtain ⟨v21, w22, run23, S24⟩ := S0.buildSlice (P := prog) te55 [] (parts := #[]) (cells := []) rfl szs_nil fc_nil ones_nil (nB rfl); have els25 : Els (up wa.heap.size Ha) eTerm 2 [] [] := Els.nil; refine FL.v (E.buildSlice (B0) run23) ?_; refine FL.mv (v := v2) rfl ?_; refine FL.mv (v := vI a3) rfl ?_; obtain ⟨H26, S27, i28, h29, nv30⟩ := S24.sealRowU (i := 0) (l' := []) rfl els25 (by decide) rfl; obtain ⟨r31, hr32, hp⟩ := bnd hp; refine FL.c (E.call call156 (A5 rfl rfl rfl rfl rfl)) (w_spec_l18Add S27.sl a0 a1 v21 [] (h29.mono upI) v2 a2 (p2.mono i28) a3 hr32) ?_; rintro e w34 ⟨H33, v39, n40, cs41, rfl, r36, els42⟩; refine ⟨_, rfl, ?_⟩; obtain ⟨H37, r36, hU38⟩ := St.lendX i28 S24.sl r36; have els42 := els42.mono (hU38.tr (up_le S24.size)); have S35 := S24.join (l' := [.row 108 2 v39 n40 cs41, .row 108 2 v21 0 []]) r36 rfl; refine FL.mv (v := v4) rfl ?_; refine FL.mv (v := vI a5) rfl ?_; obtain ⟨H43, S44, i45, h46, nv47⟩ := S35.sealRowU (i := 0) (l' := [.row 108 2 v21 0 []]) rfl els42 (by decide) rfl; obtain ⟨r48, hr49, hp⟩ := bnd hp; refine FL.c (E.call call156 (A5 rfl rfl rfl rfl rfl)) (w_spec_l18Add S44.sl a0 a1 v39 r31 (h46.mono upI) v4 a4 (p4.mono (r36.run.inc.tr i45)) a5 hr49) ?_; rintro e w51 ⟨H50, v56, n57, cs58, rfl, r53, els59⟩; refine ⟨_, rfl, ?_⟩; obtain ⟨H54, r53, hU55⟩ := St.lendX i45 S35.sl r53; have els59 := els59.mono (hU55.tr (up_le S35.size)); have S52 := S35.join (l' := [.row 108 2 v56 n57 cs58, .row 108 2 v39 n40 cs41, .row 108 2 v21 0 []]) r53 rfl; refine FL.as (v := v56) rfl ?_; refine FL.nil (FW.ret ?_); cases hp; exact ⟨.inr rfl, res1 rfl rfl ⟨_, _, _, _, rfl, (S52.sel [0] (by decide) rfl), els59⟩⟩

@[reducible] def p_spec_l20Terms (Ha : GH) (wa : World) (r : (List Term)) : Ending → World → Prop :=
 fun e w' => ∃ H' : GH, ∃ v0 : Value, ∃ n0 : Nat, ∃ c0 : List Value, e = .returned (v0) ∧ St Ha wa H' w' [.row 108 2 v0 n0 c0] ∧ Els (up wa.heap.size H') eTerm 2 c0 r
theorem w_spec_l20Terms {Ha : GH} {wa : World} (hs : Sl Ha wa) (v0 : Value) (a0 : List Term) (p0 : RSl Ha eTerm 2 v0 a0) {r : (List Term)} (hp : (PF.spec_l20Terms a0) = some r) :
  Calls prog 93 #[v0] wa (p_spec_l20Terms Ha wa r) := by
 unfold PF.spec_l20Terms at hp; have S0 := St.init hs; refine calls_go (N := 6) (args := [v0]) func93 rfl rfl rfl ?_; refine FW.sr ?_; refine FL.as (v := vN) rfl ?_; refine FL.nil (FW.sr ?_); obtain ⟨v21, w22, run23, S24⟩ := S0.buildSlice (P := prog) te55 [] (parts := #[]) (cells := []) rfl szs_nil fc_nil ones_nil (nB rfl); have els25 : Els (up wa.heap.size Ha) eTerm 2 [] [] := Els.nil; refine FL.v (E.buildSlice (B0) run23) ?_; refine FL.mv (v := v0) rfl ?_; obtain ⟨xs26, hz27, hp⟩ := bnd hp; obtain ⟨v28, w31, n29, cs30, run32, S33, els34⟩ := S24.appendP (P := prog) I0 te55 (i := 0) rfl (els25.mono upI) p0 hz27; have S33 : St Ha wa Ha w31 [.row 108 2 v28 n29 cs30] := S33; have els34 : Els (up wa.heap.size Ha) eTerm 2 cs30 xs26 := els34.any (fun _ _ _ _ h => h); refine FL.v (E.append rfl rfl run32) ?_; refine FL.as (v := v28) rfl ?_; refine FL.nil (FW.ret ?_); cases hp; exact ⟨.inr rfl, res1 rfl rfl ⟨_, _, _, _, rfl, S33, els34⟩⟩

end Go.Proofs
