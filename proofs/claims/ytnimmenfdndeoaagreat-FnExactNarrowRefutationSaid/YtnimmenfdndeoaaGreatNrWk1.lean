/- Part of the walks and plain laws behind the claim: it proves helpers, under no condition beyond their own. -/
import Derived.Test.YtnimmenfdndeoaaGreatNrLC
import Derived.Test.YtnimmenfdndeoaaGreatNrLB
import Derived.Shelf.SlSortCmp.WholeK
import Derived.Test.YtnimmenfdndeoaaGreatNrSh
import Derived.Test.YtnimmenfdndeoaaGreatNrPf
import Derived.Test.YtnimmenfdndeoaaGreatProg
set_option linter.unusedVariables false
set_option maxRecDepth 100000
namespace Go.Proofs
open Go.Mr Go.Pu Go.PF Go.RowKit

def eCnf : Enc Cnf := ⟨fun H cs s => ∃ v0, cs = [Value.int .i64 s.vars, v0] ∧ RSl H (eL eI 1) 1 v0 s.clauses, fun hi ⟨v0, h, h0⟩ => ⟨_, h, h0.mono hi⟩, by rintro H cs s ⟨v0, rfl, h0⟩; exact (ones_cons rfl (ones_cons h0.one ones_nil)), by rintro H cs s ⟨v0, rfl, h0⟩ b hb; obtain ⟨u, hu, hn⟩ := mem_bl hb; simp only [List.mem_cons, List.not_mem_nil, or_false] at hu; rcases hu with rfl | rfl <;> first | (cases hn; done) | exact h0.dom b (mem_bl1 hn)⟩
theorem eCnf_open {H : GH} {cs : List Value} {s : Cnf} (h : eCnf.rel H cs s) : ∃ v0, cs = [Value.int .i64 s.vars, v0] ∧ RSl H (eL eI 1) 1 v0 s.clauses := h

def eResStep : Enc ResStep := ⟨fun H cs s => ∃ v0, cs = [v0, Value.int .i64 s.left, Value.int .i64 s.right, Value.int .i64 s.pivot] ∧ RSl H eI 1 v0 s.clause, fun hi ⟨v0, h, h0⟩ => ⟨_, h, h0.mono hi⟩, by rintro H cs s ⟨v0, rfl, h0⟩; exact (ones_cons h0.one (ones_cons rfl (ones_cons rfl (ones_cons rfl ones_nil)))), by rintro H cs s ⟨v0, rfl, h0⟩ b hb; obtain ⟨u, hu, hn⟩ := mem_bl hb; simp only [List.mem_cons, List.not_mem_nil, or_false] at hu; rcases hu with rfl | rfl | rfl | rfl <;> first | (cases hn; done) | exact h0.dom b (mem_bl1 hn)⟩
theorem eResStep_open {H : GH} {cs : List Value} {s : ResStep} (h : eResStep.rel H cs s) : ∃ v0, cs = [v0, Value.int .i64 s.left, Value.int .i64 s.right, Value.int .i64 s.pivot] ∧ RSl H eI 1 v0 s.clause := h

theorem eResStep_loc : LocE eResStep := by rintro H H' cs x ⟨v0, rfl, h0⟩ hb; exact ⟨_, rfl, h0.only eI_flat.rel (fun b q => hb b (bl_get (i := 0) rfl b q))⟩

def esourced : Enc sourced := ⟨fun H cs s => ∃ v0 v1 v2, cs = [v0, v1, v2, Value.int .i64 s.v] ∧ RSl H eI 1 v0 s.clause ∧ RSl H eI 1 v1 s.a ∧ RSl H eI 1 v2 s.b, fun hi ⟨v0, v1, v2, h, h0, h1, h2⟩ => ⟨_, _, _, h, h0.mono hi, h1.mono hi, h2.mono hi⟩, by rintro H cs s ⟨v0, v1, v2, rfl, h0, h1, h2⟩; exact (ones_cons h0.one (ones_cons h1.one (ones_cons h2.one (ones_cons rfl ones_nil)))), by rintro H cs s ⟨v0, v1, v2, rfl, h0, h1, h2⟩ b hb; obtain ⟨u, hu, hn⟩ := mem_bl hb; simp only [List.mem_cons, List.not_mem_nil, or_false] at hu; rcases hu with rfl | rfl | rfl | rfl <;> first | (cases hn; done) | exact h0.dom b (mem_bl1 hn) | exact h1.dom b (mem_bl1 hn) | exact h2.dom b (mem_bl1 hn)⟩
theorem esourced_open {H : GH} {cs : List Value} {s : sourced} (h : esourced.rel H cs s) : ∃ v0 v1 v2, cs = [v0, v1, v2, Value.int .i64 s.v] ∧ RSl H eI 1 v0 s.clause ∧ RSl H eI 1 v1 s.a ∧ RSl H eI 1 v2 s.b := h

def Fn_List_Int_List_Int_to_I (P : Program) (H : GH) (v : Value) (p : (List Int) → (List Int) → Option Int) : Prop :=
 ∀ (H' : GH) (w' : World), Inc H H' → Sl H' w' → ∀ (x0 : List Int) (y0_0 : Value) (_z0_0 : RSl H' eI 1 y0_0 x0) (x1 : List Int) (y1_0 : Value) (_z1_0 : RSl H' eI 1 y1_0 x1) (r : Int), p x0 x1 = some r →
  ∃ (fid : Nat) (cs : Array Value), v = Value.func (.func fid) #[] cs ∧ (∀ args w, (callFunc fid args).run P w = .ok (.enter fid args) w) ∧ Calls P fid (#[y0_0, y1_0] ++ cs) w' (Sc H' w' (Value.int .i64 r))
def Fn_I_I_to_I (P : Program) (H : GH) (v : Value) (p : Int → Int → Option Int) : Prop :=
 ∀ (H' : GH) (w' : World), Inc H H' → Sl H' w' → ∀ (x0 : Int) (x1 : Int) (r : Int), p x0 x1 = some r →
  ∃ (fid : Nat) (cs : Array Value), v = Value.func (.func fid) #[] cs ∧ (∀ args w, (callFunc fid args).run P w = .ok (.enter fid args) w) ∧ Calls P fid (#[Value.int .i64 x0, Value.int .i64 x1] ++ cs) w' (Sc H' w' (Value.int .i64 r))
theorem Fn_I_I_to_I.mono {P : Program} {H H' : GH} {v : Value} {p : Int → Int → Option Int} (h : Fn_I_I_to_I P H v p) (hi : Inc H H') : Fn_I_I_to_I P H' v p :=
 fun H2 w2 h2 => h H2 w2 (hi.tr h2)

def Fn_List_Int_to_B (P : Program) (H : GH) (v : Value) (p : (List Int) → Option Bool) : Prop :=
 ∀ (H' : GH) (w' : World), Inc H H' → Sl H' w' → ∀ (x0 : List Int) (y0_0 : Value) (_z0_0 : RSl H' eI 1 y0_0 x0) (r : Bool), p x0 = some r →
  ∃ (fid : Nat) (cs : Array Value), v = Value.func (.func fid) #[] cs ∧ (∀ args w, (callFunc fid args).run P w = .ok (.enter fid args) w) ∧ Calls P fid (#[y0_0] ++ cs) w' (Sc H' w' (Value.bool r))
theorem Fn_List_Int_to_B.mono {P : Program} {H H' : GH} {v : Value} {p : (List Int) → Option Bool} (h : Fn_List_Int_to_B P H v p) (hi : Inc H H') : Fn_List_Int_to_B P H' v p :=
 fun H2 w2 h2 => h H2 w2 (hi.tr h2)

def Fn_sourced_sourced_to_I (P : Program) (H : GH) (v : Value) (p : sourced → sourced → Option Int) : Prop :=
 ∀ (H' : GH) (w' : World), Inc H H' → Sl H' w' → ∀ (x0 : sourced) (y0_0 : Value) (_z0_0 : RSl H' eI 1 y0_0 x0.clause) (y0_1 : Value) (_z0_1 : RSl H' eI 1 y0_1 x0.a) (y0_2 : Value) (_z0_2 : RSl H' eI 1 y0_2 x0.b) (x1 : sourced) (y1_0 : Value) (_z1_0 : RSl H' eI 1 y1_0 x1.clause) (y1_1 : Value) (_z1_1 : RSl H' eI 1 y1_1 x1.a) (y1_2 : Value) (_z1_2 : RSl H' eI 1 y1_2 x1.b) (r : Int), p x0 x1 = some r →
  ∃ (fid : Nat) (cs : Array Value), v = Value.func (.func fid) #[] cs ∧ (∀ args w, (callFunc fid args).run P w = .ok (.enter fid args) w) ∧ Calls P fid (#[Value.agg #[y0_0, y0_1, y0_2, Value.int .i64 x0.v], Value.agg #[y1_0, y1_1, y1_2, Value.int .i64 x1.v]] ++ cs) w' (Sc H' w' (Value.int .i64 r))
def Fn_ResStep_to_B (P : Program) (H : GH) (v : Value) (p : ResStep → Option Bool) : Prop :=
 ∀ (H' : GH) (w' : World), Inc H H' → Sl H' w' → ∀ (x0 : ResStep) (y0_0 : Value) (_z0_0 : RSl H' eI 1 y0_0 x0.clause) (r : Bool), p x0 = some r →
  ∃ (fid : Nat) (cs : Array Value), v = Value.func (.func fid) #[] cs ∧ (∀ args w, (callFunc fid args).run P w = .ok (.enter fid args) w) ∧ Calls P fid (#[Value.agg #[y0_0, Value.int .i64 x0.left, Value.int .i64 x0.right, Value.int .i64 x0.pivot]] ++ cs) w' (Sc H' w' (Value.bool r))
theorem Fn_ResStep_to_B.mono {P : Program} {H H' : GH} {v : Value} {p : ResStep → Option Bool} (h : Fn_ResStep_to_B P H v p) (hi : Inc H H') : Fn_ResStep_to_B P H' v p :=
 fun H2 w2 h2 => h H2 w2 (hi.tr h2)

theorem fd163_5 {cs : List Value} {c : Value} (h : cs[5]? = some c) : ∃ fields fd, Tryz.prog.underlying 163 = some (.struct fields) ∧ fields[5]? = some fd ∧ (∀ w, (isAgg fd.type).run Tryz.prog w = .ok false w) ∧ cs[fd.offset]? = some c := ⟨_, _, Tryz.underlying163, rfl, Tryz.isAgg22, h⟩
theorem te116 : TE Tryz.prog 116 4 1 (.bool false) := ⟨Tryz.underlying116, ⟨Tryz.t4, Tryz.type4, rfl, rfl, by decide⟩, rfl, by decide⟩
theorem te168 : TE Tryz.prog 168 173 1 (.int .u16 0) := ⟨Tryz.underlying168, ⟨Tryz.t173, Tryz.type173, rfl, rfl, by decide⟩, rfl, by decide⟩
theorem te178 : TE Tryz.prog 178 182 4 (.agg #[(.slice none 0 0), (.slice none 0 0), (.slice none 0 0), (.int .i64 0)]) := ⟨Tryz.underlying178, ⟨Tryz.t182, Tryz.type182, rfl, rfl, by decide⟩, rfl, by decide⟩
theorem te22 : TE Tryz.prog 22 25 1 (.slice none 0 0) := ⟨Tryz.underlying22, ⟨Tryz.t25, Tryz.type25, rfl, rfl, by decide⟩, rfl, by decide⟩
theorem te25 : TE Tryz.prog 25 3 1 (.int .i64 0) := ⟨Tryz.underlying25, ⟨Tryz.t3, Tryz.type3, rfl, rfl, by decide⟩, rfl, by decide⟩
theorem te27 : TE Tryz.prog 27 98 4 (.agg #[(.slice none 0 0), (.int .i64 0), (.int .i64 0), (.int .i64 0)]) := ⟨Tryz.underlying27, ⟨Tryz.t98, Tryz.type98, rfl, rfl, by decide⟩, rfl, by decide⟩
theorem tf163_0 : TF Tryz.prog 163 0 0 := ⟨_, _, _, Tryz.underlying163, rfl, rfl, Tryz.sizeOf22, by decide⟩
theorem tf163_1 : TF Tryz.prog 163 1 1 := ⟨_, _, _, Tryz.underlying163, rfl, rfl, Tryz.sizeOf25, by decide⟩
theorem tf163_2 : TF Tryz.prog 163 2 2 := ⟨_, _, _, Tryz.underlying163, rfl, rfl, Tryz.sizeOf25, by decide⟩
theorem tf163_3 : TF Tryz.prog 163 3 3 := ⟨_, _, _, Tryz.underlying163, rfl, rfl, Tryz.sizeOf25, by decide⟩
theorem tf163_4 : TF Tryz.prog 163 4 4 := ⟨_, _, _, Tryz.underlying163, rfl, rfl, Tryz.sizeOf25, by decide⟩
theorem tf163_5 : TF Tryz.prog 163 5 5 := ⟨_, _, _, Tryz.underlying163, rfl, rfl, Tryz.sizeOf22, by decide⟩
theorem tf170_0 : TF Tryz.prog 170 0 0 := ⟨_, _, _, Tryz.underlying170, rfl, rfl, Tryz.sizeOf168, by decide⟩
theorem tf170_1 : TF Tryz.prog 170 1 1 := ⟨_, _, _, Tryz.underlying170, rfl, rfl, Tryz.sizeOf167, by decide⟩
theorem tf170_2 : TF Tryz.prog 170 2 2 := ⟨_, _, _, Tryz.underlying170, rfl, rfl, Tryz.sizeOf3, by decide⟩
theorem tf182_0 : TF Tryz.prog 182 0 0 := ⟨_, _, _, Tryz.underlying182, rfl, rfl, Tryz.sizeOf25, by decide⟩
theorem tf182_1 : TF Tryz.prog 182 1 1 := ⟨_, _, _, Tryz.underlying182, rfl, rfl, Tryz.sizeOf25, by decide⟩
theorem tf182_2 : TF Tryz.prog 182 2 2 := ⟨_, _, _, Tryz.underlying182, rfl, rfl, Tryz.sizeOf25, by decide⟩
theorem tf182_3 : TF Tryz.prog 182 3 3 := ⟨_, _, _, Tryz.underlying182, rfl, rfl, Tryz.sizeOf3, by decide⟩
theorem tf24_0 : TF Tryz.prog 24 0 0 := ⟨_, _, _, Tryz.underlying24, rfl, rfl, Tryz.sizeOf3, by decide⟩
theorem tf24_1 : TF Tryz.prog 24 1 1 := ⟨_, _, _, Tryz.underlying24, rfl, rfl, Tryz.sizeOf22, by decide⟩
theorem tf30_0 : TF Tryz.prog 30 0 0 := ⟨_, _, _, Tryz.underlying30, rfl, rfl, Tryz.sizeOf3, by decide⟩
theorem tf30_1 : TF Tryz.prog 30 1 1 := ⟨_, _, _, Tryz.underlying30, rfl, rfl, Tryz.sizeOf22, by decide⟩
theorem tf98_0 : TF Tryz.prog 98 0 0 := ⟨_, _, _, Tryz.underlying98, rfl, rfl, Tryz.sizeOf25, by decide⟩
theorem tf98_1 : TF Tryz.prog 98 1 1 := ⟨_, _, _, Tryz.underlying98, rfl, rfl, Tryz.sizeOf3, by decide⟩
theorem tf98_2 : TF Tryz.prog 98 2 2 := ⟨_, _, _, Tryz.underlying98, rfl, rfl, Tryz.sizeOf3, by decide⟩
theorem tf98_3 : TF Tryz.prog 98 3 3 := ⟨_, _, _, Tryz.underlying98, rfl, rfl, Tryz.sizeOf3, by decide⟩
theorem w_laws_szIntS {Ha : GH} {wa : World} (hs : Sl Ha wa) (v0 : Value) (a0 : List Int) (p0 : RSl Ha eI 1 v0 a0) (a1 : Int) :
  Calls Tryz.prog 163 #[v0, Value.int .i64 a1] wa (Sc Ha wa (Value.int .i64 (PF.laws_szIntS a0 a1))) := by
 obtain ⟨r, hp⟩ : ∃ r, (PF.laws_szIntS a0 a1) = r := ⟨_, rfl⟩
 rw [hp]
 unfold PF.laws_szIntS at hp
 have S0 := St.init hs
 refine calls_go (N := 12) (args := [v0, Value.int .i64 a1]) Tryz.func163 rfl rfl rfl ?_
 refine FW.seq (FW.region ?_)
 refine FL.v (E.assign (v := Value.int .i64 0) rfl) ?_
 refine FL.nil (FW.seq (FW.region ?_))
 refine FL.v (E.move (v := Value.int .i64 a1) rfl) ?_
 refine FL.v (E.move (v := v0) rfl) ?_
 refine FL.v (E.lenP te25 rfl p0) ?_
 refine FL.v (E.sub rfl rfl) ?_
 refine FL.v (E.assign (v := Value.int .i64 (wr (a1 - (len a0)))) rfl) ?_
 refine FL.nil (FW.seq (FW.seq (FW.region ?_)))
 refine FL.v (E.move (v := Value.int .i64 (wr (a1 - (len a0)))) rfl) ?_
 refine FL.v (E.lss rfl rfl) ?_
 refine FL.nil ?_
 rcases ifT hp with ⟨c21, hp⟩ | ⟨c21, hp⟩
 ·
  refine FW.condT rfl c21 ?_
  refine FW.seq (FW.region ?_)
  refine FL.v (E.assign (v := Value.int .i64 (-1)) rfl) ?_
  refine FL.nil ?_
  refine FW.ret ?_
  obtain rfl := hp
  exact ⟨.inr rfl, res1 rfl rfl ⟨rfl, S0.back⟩⟩
 ·
  refine FW.condF rfl c21 ?_
  refine FW.skip (FW.seq (FW.region ?_))
  refine FL.v (E.move (v := Value.int .i64 (wr (a1 - (len a0)))) rfl) ?_
  refine FL.v (E.assign (v := Value.int .i64 (wr (a1 - (len a0)))) rfl) ?_
  refine FL.nil ?_
  refine FW.ret ?_
  obtain rfl := hp
  exact ⟨.inr rfl, res1 rfl rfl ⟨rfl, S0.back⟩⟩

set_option maxHeartbeats 4000000 in
theorem w_laws_szIntSS {Ha : GH} {wa : World} (hs : Sl Ha wa) (v0 : Value) (a0 : List (List Int)) (p0 : RSl Ha (eL eI 1) 1 v0 a0) (a1 : Int) {r : Int} (hp : (PF.laws_szIntSS a0 a1) = some r) :
  Calls Tryz.prog 77 #[v0, Value.int .i64 a1] wa (Sc Ha wa (Value.int .i64 r)) := by
 unfold PF.laws_szIntSS at hp
 have S0 := St.init hs
 refine calls_go (N := 27) (args := [v0, Value.int .i64 a1]) Tryz.func77 rfl rfl rfl ?_
 refine FW.seq (FW.region ?_)
 refine FL.v (E.assign (v := Value.int .i64 0) rfl) ?_
 refine FL.nil (FW.seq (FW.region ?_))
 refine FL.v (E.move (v := Value.int .i64 a1) rfl) ?_
 refine FL.v (E.move (v := v0) rfl) ?_
 refine FL.v (E.lenP te22 rfl p0) ?_
 refine FL.v (E.sub rfl rfl) ?_
 refine FL.v (E.assign (v := Value.int .i64 (wr (a1 - (len a0)))) rfl) ?_
 refine FL.nil (FW.seq (FW.seq (FW.region ?_)))
 refine FL.v (E.move (v := Value.int .i64 (wr (a1 - (len a0)))) rfl) ?_
 refine FL.v (E.lss rfl rfl) ?_
 refine FL.nil ?_
 rcases ifB hp with ⟨c21, hp⟩ | ⟨c21, hp⟩
 ·
  refine FW.condT rfl c21 ?_
  refine FW.seq (FW.region ?_)
  refine FL.v (E.assign (v := Value.int .i64 (-1)) rfl) ?_
  refine FL.nil ?_
  refine FW.ret ?_
  obtain rfl := Option.some.inj hp
  exact ⟨.inr rfl, res1 rfl rfl ⟨rfl, S0.back⟩⟩
 ·
  refine FW.condF rfl c21 ?_
  refine FW.skip (FW.seq (FW.seq (FW.region ?_)))
  refine FL.v (E.assign (v := Value.int .i64 0) rfl) ?_
  refine FL.nil ?_
  obtain ⟨q23, hq, hp⟩ := bndR hp
  refine FW.block ?_
  refine FW.mono (FW.forL (S := Int) (X := Int) (fun (i23 : Nat) (s23 : Int) f w => ∃ H : GH, St Ha wa H w [] ∧ Inc Ha H ∧ f 5 = Value.int .i64 ((i23 : Nat) : Int) ∧ f 0 = v0 ∧ f 1 = Value.int .i64 s23) (fun q e f w => match q with | .go s23 => e = Exit.exit 0 ∧ (∃ H : GH, St Ha wa H w [] ∧ Inc Ha H ∧ f 1 = Value.int .i64 s23) | .rt x => ((e = Exit.ret) ∧ (fun e f w => (e = Exit.normal ∨ e = Exit.ret) ∧ ∀ a, Fr (δ := []) 27 a f → ∃ v, (results Tryz.f77 a.tmps).run Tryz.prog w = .ok v w ∧ (Sc Ha wa (Value.int .i64 x)) (.returned v) w) e f w)) hq ⟨_, S0, (Inc.rfl _), rfl, rfl, rfl⟩ ?_ ?_) ?_
  ·
   clear hp hq
   rintro i23 y22 s23 f48 w47 ⟨H44, S45, i46, k49, k50, k51⟩ hx23 o64 hp
   refine FW.seq (FW.seq (FW.region ?_))
   refine FL.v (E.move k49) ?_
   refine FL.v (E.move k50) ?_
   refine FL.v (E.lenP te22 rfl p0) ?_
   refine FL.v (E.lssT rfl rfl (lss_len hx23)) ?_
   refine FL.nil ?_
   refine FW.condT rfl rfl ?_
   refine FW.skip (FW.seq (FW.block (FW.seq (FW.region ?_))))
   refine FL.v (E.move k50) ?_
   refine FL.v (E.move k49) ?_
   obtain ⟨p52, cs53, pt54, l55, at56, rel57⟩ := p0.at (ix_nat hx23)
   obtain ⟨v58, rfl, h59⟩ := eL_open rel57
   refine FL.v (E.indexAddr te22 rfl rfl pt54) ?_
   refine FL.v (E.load rfl (run_load0 Tryz.isAgg25 ((at56.mono i46).now S45.sl) rfl)) ?_
   refine FL.v (E.move k51) ?_
   refine FL.call rfl rfl rfl (E.call Tryz.call163 (A2 rfl rfl)) (w_laws_szIntS S45.sl v58 y22 (h59.mono i46) s23) ?_
   rintro e w60 ⟨rfl, r61⟩
   refine ⟨_, rfl, ?_⟩
   have S62 := S45.call r61
   refine FL.v (E.assign (v := Value.int .i64 (PF.laws_szIntS y22 s23)) rfl) ?_
   refine FL.nil (FW.seq (FW.region ?_))
   refine FL.v (E.move (v := Value.int .i64 (PF.laws_szIntS y22 s23)) rfl) ?_
   refine FL.v (E.lss rfl rfl) ?_
   refine FL.nil ?_
   rcases ifB hp with ⟨c63, hp⟩ | ⟨c63, hp⟩
   ·
    refine FW.condT rfl c63 ?_
    refine FW.seq (FW.region ?_)
    refine FL.v (E.assign (v := Value.int .i64 (-1)) rfl) ?_
    refine FL.nil ?_
    refine FW.ret ?_
    obtain rfl := Option.some.inj hp
    exact ⟨nofun, rfl, ⟨.inr rfl, res1 rfl rfl ⟨rfl, S62.back⟩⟩⟩
   ·
    refine FW.condF rfl c63 ?_
    refine FW.skip (FW.region ?_)
    refine FL.v (E.move k49) ?_
    refine FL.v (E.add rfl rfl) ?_
    refine FL.v (E.assign (v := Value.int .i64 (wr (((i23 : Nat) : Int) + 1))) rfl) ?_
    refine FL.nil ?_
    obtain rfl := Option.some.inj hp
    exact ⟨rfl, ⟨_, S62, i46, (nat_succ rfl (lt_of_get hx23) (p0.mono i46).le), k50, rfl⟩⟩
  ·
   clear hp hq
   rintro s23 f75 w74 ⟨H71, S72, i73, k76, k77, k78⟩
   refine FW.seq (FW.seq (FW.region ?_))
   refine FL.v (E.move k76) ?_
   refine FL.v (E.move k77) ?_
   refine FL.v (E.lenP te22 rfl p0) ?_
   refine FL.v (E.lss rfl rfl) ?_
   refine FL.nil ?_
   refine FW.condF rfl dlt_len ?_
   refine FW.exit ?_
   exact ⟨nofun, rfl, ⟨_, S72, i73, k78⟩⟩
  ·
   clear hq
   intro e f69 w68 hD
   rcases q23 with s23 | x23
   ·
    obtain ⟨rfl, hD⟩ := hD
    obtain ⟨H65, S66, i67, k70⟩ := hD
    replace hp := el_go hp
    refine FW.seq (FW.region ?_)
    refine FL.v (E.move k70) ?_
    refine FL.v (E.assign (v := Value.int .i64 s23) rfl) ?_
    refine FL.nil ?_
    refine FW.ret ?_
    obtain rfl := Option.some.inj hp
    exact ⟨.inr rfl, res1 rfl rfl ⟨rfl, S66.back⟩⟩
   ·
    obtain ⟨he, hL⟩ := hD
    replace hp := el_rt hp
    obtain rfl := Option.some.inj hp
    subst he
    exact hL

theorem w_laws_szCnf {Ha : GH} {wa : World} (hs : Sl Ha wa) (a0 : Cnf) (v0_1 : Value) (p0_1 : RSl Ha (eL eI 1) 1 v0_1 a0.clauses) (a1 : Int) {r : Int} (hp : (PF.laws_szCnf a0 a1) = some r) :
  Calls Tryz.prog 11 #[Value.agg #[Value.int .i64 a0.vars, v0_1], Value.int .i64 a1] wa (Sc Ha wa (Value.int .i64 r)) := by
 unfold PF.laws_szCnf at hp
 have S0 := St.init hs
 refine calls_go (N := 12) (args := [Value.agg #[Value.int .i64 a0.vars, v0_1], Value.int .i64 a1]) Tryz.func11 rfl rfl rfl ?_
 refine FW.seq (FW.region ?_)
 obtain ⟨b21, w22, run23, S24⟩ := S0.box (P := Tryz.prog) 24 [Value.int .i64 a0.vars, v0_1] (v := Value.agg #[Value.int .i64 a0.vars, v0_1]) rfl (ones_cons rfl (ones_cons p0_1.one ones_nil))
 refine FL.v (E.box rfl run23) ?_
 obtain ⟨H25, S26, i27, at28⟩ := S24.sealBox (i := 0) (l' := []) rfl rfl
 refine FL.v (E.assign (v := Value.int .i64 0) rfl) ?_
 refine FL.nil (FW.seq (FW.region ?_))
 refine FL.v (E.fieldAddr tf24_1 rfl) ?_
 refine FL.v (E.load rfl (run_load1 Tryz.isAgg22 (at28.now S26.sl) rfl)) ?_
 refine FL.v (E.move (v := Value.int .i64 a1) rfl) ?_
 obtain ⟨r29, hr30, hp⟩ := bnd hp
 refine FL.call rfl rfl rfl (E.call Tryz.call77 (A2 rfl rfl)) (w_laws_szIntSS S26.sl v0_1 a0.clauses (p0_1.mono i27) a1 hr30) ?_
 rintro e w31 ⟨rfl, r32⟩
 refine ⟨_, rfl, ?_⟩
 have S33 := S26.call r32
 refine FL.v (E.assign (v := Value.int .i64 r29) rfl) ?_
 refine FL.nil (FW.seq (FW.seq (FW.region ?_)))
 refine FL.v (E.move (v := Value.int .i64 r29) rfl) ?_
 refine FL.v (E.lss rfl rfl) ?_
 refine FL.nil ?_
 rcases ifB hp with ⟨c34, hp⟩ | ⟨c34, hp⟩
 ·
  refine FW.condT rfl c34 ?_
  refine FW.seq (FW.region ?_)
  refine FL.v (E.assign (v := Value.int .i64 (-1)) rfl) ?_
  refine FL.nil ?_
  refine FW.ret ?_
  obtain rfl := Option.some.inj hp
  exact ⟨.inr rfl, res1 rfl rfl ⟨rfl, S33.back⟩⟩
 ·
  refine FW.condF rfl c34 ?_
  refine FW.skip (FW.seq (FW.region ?_))
  refine FL.v (E.move (v := Value.int .i64 r29) rfl) ?_
  refine FL.v (E.assign (v := Value.int .i64 r29) rfl) ?_
  refine FL.nil ?_
  refine FW.ret ?_
  obtain rfl := Option.some.inj hp
  exact ⟨.inr rfl, res1 rfl rfl ⟨rfl, S33.back⟩⟩

@[reducible] def p_laws_toIntS (Ha : GH) (wa : World) (r : (List Int)) : Ending → World → Prop :=
 fun e w' => ∃ H' : GH, ∃ v0 : Value, ∃ n0 : Nat, ∃ c0 : List Value, e = .returned (v0) ∧ St Ha wa H' w' [.row 3 1 v0 n0 c0] ∧ Els (up wa.heap.size H') eI 1 c0 r
theorem w_laws_toIntS {Ha : GH} {wa : World} (hs : Sl Ha wa) (v0 : Value) (a0 : List Int) (p0 : RSl Ha eI 1 v0 a0) {r : (List Int)} (hp : (PF.laws_toIntS a0) = some r) :
  Calls Tryz.prog 14 #[v0] wa (p_laws_toIntS Ha wa r) := by
 unfold PF.laws_toIntS at hp
 have S0 := St.init hs
 refine calls_go (N := 22) (args := [v0]) Tryz.func14 rfl rfl rfl ?_
 refine FW.seq (FW.region ?_)
 refine FL.v (E.assign (v := Value.slice none 0 0) rfl) ?_
 refine FL.nil (FW.seq (FW.region ?_))
 refine FL.v (E.move (v := v0) rfl) ?_
 refine FL.v (E.lenP te25 rfl p0) ?_
 obtain ⟨xs21, hm22, hp⟩ := bnd hp
 obtain ⟨v23, w24, n28, cs29, run25, S26, els27, hbl30⟩ := S0.makeEls (P := Tryz.prog) te25 (G := (up wa.heap.size Ha)) (En := eI) (x0 := (0 : Int)) hm22 rfl (ones_cons rfl ones_nil) .i64 .i64
 refine FL.v (E.makeSlice rfl rfl run25) ?_
 refine FL.v (E.assign (v := v23) rfl) ?_
 refine FL.nil (FW.seq (FW.seq (FW.region ?_)))
 refine FL.v (E.assign (v := Value.int .i64 0) rfl) ?_
 refine FL.nil ?_
 obtain ⟨q32, hq, hp⟩ := bndR hp
 refine FW.block ?_
 refine FW.mono (FW.forL (S := (List Int)) (X := Empty) (fun (i32 : Nat) (s32 : (List Int)) f w => ∃ H : GH, ∃ v63 : Value, ∃ n64 : Nat, ∃ cs65 : List Value, St Ha wa H w [.row 3 1 v63 n64 cs65] ∧ Inc Ha H ∧ Els (up wa.heap.size H) eI 1 cs65 s32 ∧ f 4 = Value.int .i64 ((i32 : Nat) : Int) ∧ f 0 = v0 ∧ f 3 = v63) (fun (q : Rs (List Int) Empty) e f w => match q with | .go s32 => e = Exit.exit 0 ∧ (∃ H : GH, ∃ v63 : Value, ∃ n64 : Nat, ∃ cs65 : List Value, St Ha wa H w [.row 3 1 v63 n64 cs65] ∧ Inc Ha H ∧ Els (up wa.heap.size H) eI 1 cs65 s32 ∧ f 3 = v63) | .rt x => x.elim) hq ⟨_, _, _, _, S26, (Inc.rfl _), els27, rfl, rfl, rfl⟩ ?_ ?_) ?_
 ·
  clear hp hq
  rintro i32 y31 s32 f101 w100 ⟨H97, v63, n64, cs65, S98, i99, els66, k102, k103, k104⟩ hx32 o127 hp
  refine FW.seq (FW.seq (FW.region ?_))
  refine FL.v (E.move k102) ?_
  refine FL.v (E.move k103) ?_
  refine FL.v (E.lenP te25 rfl p0) ?_
  refine FL.v (E.lssT rfl rfl (lss_len hx32)) ?_
  refine FL.nil ?_
  refine FW.condT rfl rfl ?_
  refine FW.skip (FW.seq (FW.block (FW.region ?_)))
  refine FL.v (E.move k104) ?_
  refine FL.v (E.move k102) ?_
  refine FL.v (E.move k103) ?_
  refine FL.v (E.move k102) ?_
  obtain ⟨p105, cs106, pt107, l108, at109, rel110⟩ := p0.at (ix_nat hx32)
  obtain rfl := eI_open rel110
  refine FL.v (E.indexAddr te25 rfl rfl pt107) ?_
  refine FL.v (E.load rfl (run_load0 Tryz.isAgg3 ((at109.mono i99).now S98.sl) rfl)) ?_
  obtain ⟨x117, hx118, hp⟩ := bnd hp
  obtain ⟨p111, cs112, pt113, l114, at115, rel116⟩ := S98.row_at (i := 0) rfl els66 (by decide) hx118
  obtain rfl := eI_open rel116
  refine FL.v (E.indexAddr te25 rfl rfl pt113) ?_
  obtain ⟨xs122, hput123, hp⟩ := bnd hp
  obtain ⟨w119, cs125, run120, S121, els124, ce126⟩ := S98.putEls (P := Tryz.prog) (t := 3) (i := 0) rfl els66 hput123 pt113 Tryz.sizeOf3 (u := Value.int .i64 y31) (c := [Value.int .i64 y31]) rfl rfl (ones_cons rfl ones_nil) rfl
  have S121 : St Ha wa H97 w119 [.row 3 1 v63 n64 cs125] := S121
  refine FL.act rfl rfl (E.store rfl rfl run120) ?_
  refine FL.nil (FW.region ?_)
  refine FL.v (E.move k102) ?_
  refine FL.v (E.add rfl rfl) ?_
  refine FL.v (E.assign (v := Value.int .i64 (wr (((i32 : Nat) : Int) + 1))) rfl) ?_
  refine FL.nil ?_
  obtain rfl := Option.some.inj hp
  exact ⟨rfl, ⟨_, _, _, _, S121, i99, els124, (nat_succ rfl (lt_of_get hx32) (p0.mono i99).le), k103, k104⟩⟩
 ·
  clear hp hq
  rintro s32 f138 w137 ⟨H134, v63, n64, cs65, S135, i136, els66, k139, k140, k141⟩
  refine FW.seq (FW.seq (FW.region ?_))
  refine FL.v (E.move k139) ?_
  refine FL.v (E.move k140) ?_
  refine FL.v (E.lenP te25 rfl p0) ?_
  refine FL.v (E.lss rfl rfl) ?_
  refine FL.nil ?_
  refine FW.condF rfl dlt_len ?_
  refine FW.exit ?_
  exact ⟨nofun, rfl, ⟨_, _, _, _, S135, i136, els66, k141⟩⟩
 ·
  clear hq
  intro e f132 w131 hD
  rcases q32 with s32 | x32
  ·
   obtain ⟨rfl, hD⟩ := hD
   obtain ⟨H128, v63, n64, cs65, S129, i130, els66, k133⟩ := hD
   replace hp := el_go hp
   refine FW.seq (FW.region ?_)
   refine FL.v (E.move k133) ?_
   refine FL.v (E.assign (v := v63) rfl) ?_
   refine FL.nil ?_
   refine FW.ret ?_
   obtain rfl := Option.some.inj hp
   exact ⟨.inr rfl, res1 rfl rfl ⟨_, _, _, _, rfl, S129, els66⟩⟩
  ·
   exact x32.elim

@[reducible] def p_laws_toIntSS (Ha : GH) (wa : World) (r : (List (List Int))) : Ending → World → Prop :=
 fun e w' => ∃ H' : GH, ∃ v0 : Value, ∃ n0 : Nat, ∃ c0 : List Value, e = .returned (v0) ∧ St Ha wa H' w' [.row 25 1 v0 n0 c0] ∧ Els (up wa.heap.size H') (eL eI 1) 1 c0 r ∧ (bl c0).Nodup
set_option maxHeartbeats 4000000 in
theorem w_laws_toIntSS {Ha : GH} {wa : World} (hs : Sl Ha wa) (v0 : Value) (a0 : List (List Int)) (p0 : RSl Ha (eL eI 1) 1 v0 a0) {r : (List (List Int))} (hp : (PF.laws_toIntSS a0) = some r) :
  Calls Tryz.prog 82 #[v0] wa (p_laws_toIntSS Ha wa r) := by
 unfold PF.laws_toIntSS at hp
 have S0 := St.init hs
 refine calls_go (N := 23) (args := [v0]) Tryz.func82 rfl rfl rfl ?_
 refine FW.seq (FW.region ?_)
 refine FL.v (E.assign (v := Value.slice none 0 0) rfl) ?_
 refine FL.nil (FW.seq (FW.region ?_))
 refine FL.v (E.move (v := v0) rfl) ?_
 refine FL.v (E.lenP te22 rfl p0) ?_
 obtain ⟨xs21, hm22, hp⟩ := bnd hp
 obtain ⟨v23, w24, n28, cs29, run25, S26, els27, hbl30⟩ := S0.makeEls (P := Tryz.prog) te22 (G := (up wa.heap.size Ha)) (En := (eL eI 1)) (x0 := ([] : List Int)) hm22 ⟨_, rfl, RSl.nil _ _ _⟩ (ones_cons rfl ones_nil) .i64 .i64
 have nd31 : (bl cs29).Nodup := by rw [hbl30 (by simp [Value.cells, neb])]; exact List.nodup_nil
 refine FL.v (E.makeSlice rfl rfl run25) ?_
 refine FL.v (E.assign (v := v23) rfl) ?_
 refine FL.nil (FW.seq (FW.seq (FW.region ?_)))
 refine FL.v (E.assign (v := Value.int .i64 0) rfl) ?_
 refine FL.nil ?_
 obtain ⟨q33, hq, hp⟩ := bndR hp
 refine FW.block ?_
 refine FW.mono (FW.forL (S := (List (List Int))) (X := Empty) (fun (i33 : Nat) (s33 : (List (List Int))) f w => ∃ H : GH, ∃ v84 : Value, ∃ n85 : Nat, ∃ cs86 : List Value, St Ha wa H w [.row 25 1 v84 n85 cs86] ∧ Inc Ha H ∧ Els (up wa.heap.size H) (eL eI 1) 1 cs86 s33 ∧ (bl cs86).Nodup ∧ f 4 = Value.int .i64 ((i33 : Nat) : Int) ∧ f 0 = v0 ∧ f 3 = v84) (fun (q : Rs (List (List Int)) Empty) e f w => match q with | .go s33 => e = Exit.exit 0 ∧ (∃ H : GH, ∃ v84 : Value, ∃ n85 : Nat, ∃ cs86 : List Value, St Ha wa H w [.row 25 1 v84 n85 cs86] ∧ Inc Ha H ∧ Els (up wa.heap.size H) (eL eI 1) 1 cs86 s33 ∧ (bl cs86).Nodup ∧ f 3 = v84) | .rt x => x.elim) hq ⟨_, _, _, _, S26, (Inc.rfl _), els27, nd31, rfl, rfl, rfl⟩ ?_ ?_) ?_
 ·
  clear hp hq
  rintro i33 y32 s33 f143 w142 ⟨H139, v84, n85, cs86, S140, i141, els87, nd88, k144, k145, k146⟩ hx33 o189 hp
  refine FW.seq (FW.seq (FW.region ?_))
  refine FL.v (E.move k144) ?_
  refine FL.v (E.move k145) ?_
  refine FL.v (E.lenP te22 rfl p0) ?_
  refine FL.v (E.lssT rfl rfl (lss_len hx33)) ?_
  refine FL.nil ?_
  refine FW.condT rfl rfl ?_
  refine FW.skip (FW.seq (FW.block (FW.region ?_)))
  refine FL.v (E.move k146) ?_
  refine FL.v (E.move k144) ?_
  refine FL.v (E.move k145) ?_
  refine FL.v (E.move k144) ?_
  obtain ⟨p147, cs148, pt149, l150, at151, rel152⟩ := p0.at (ix_nat hx33)
  obtain ⟨v153, rfl, h154⟩ := eL_open rel152
  refine FL.v (E.indexAddr te22 rfl rfl pt149) ?_
  refine FL.v (E.load rfl (run_load0 Tryz.isAgg25 ((at151.mono i141).now S140.sl) rfl)) ?_
  obtain ⟨r155, hr156, hp⟩ := bnd hp
  refine FL.call rfl rfl rfl (E.call Tryz.call14 (A1 rfl)) (w_laws_toIntS S140.sl v153 y32 (h154.mono i141) hr156) ?_
  rintro e w158 ⟨H157, v161, n162, cs163, rfl, r160, els164⟩
  refine ⟨_, rfl, ?_⟩
  have els164 := els164.mono (up_le S140.size)
  have S159 := S140.join (l' := [.row 3 1 v161 n162 cs163, .row 25 1 v84 n85 cs86]) r160 rfl
  obtain ⟨x171, hx172, hp⟩ := bnd hp
  obtain ⟨p165, cs166, pt167, l168, at169, rel170⟩ := S159.row_at (i := 1) rfl els87 (by decide) hx172
  obtain ⟨v173, rfl, h174⟩ := eL_open rel170
  refine FL.v (E.indexAddr te22 rfl rfl pt167) ?_
  obtain ⟨H175, S176, i177, h178, nv179⟩ := S159.sealRowU (i := 0) (l' := [.row 25 1 v84 n85 cs86]) rfl els164 (by decide) rfl
  obtain ⟨xs183, hput184, hp⟩ := bnd hp
  obtain ⟨w180, cs186, run181, S182, els185, ce187⟩ := S176.putEls (P := Tryz.prog) (t := 25) (i := 0) rfl (els87.mono (up_mono (r160.run.inc.tr i177))) hput184 pt167 Tryz.sizeOf25 (u := v161) (c := [v161]) h178.cells rfl (ones_cons h178.one ones_nil) ⟨_, rfl, h178⟩
  have S182 : St Ha wa H175 w180 [.row 25 1 v84 n85 cs186] := S182
  have nd188 : (bl cs186).Nodup := by rw [ce187]; exact nd_put (Nat.le_add_right _ _) nd88 (by exact nd_one v161) (Els.dom (els87.mono (upI.tr r160.run.inc))) (by exact nv179)
  refine FL.act rfl rfl (E.store rfl rfl run181) ?_
  refine FL.nil (FW.region ?_)
  refine FL.v (E.move k144) ?_
  refine FL.v (E.add rfl rfl) ?_
  refine FL.v (E.assign (v := Value.int .i64 (wr (((i33 : Nat) : Int) + 1))) rfl) ?_
  refine FL.nil ?_
  obtain rfl := Option.some.inj hp
  exact ⟨rfl, ⟨_, _, _, _, S182, ((i141.tr r160.run.inc).tr i177), els185, nd188, (nat_succ rfl (lt_of_get hx33) (p0.mono ((i141.tr r160.run.inc).tr i177)).le), k145, k146⟩⟩
 ·
  clear hp hq
  rintro s33 f200 w199 ⟨H196, v84, n85, cs86, S197, i198, els87, nd88, k201, k202, k203⟩
  refine FW.seq (FW.seq (FW.region ?_))
  refine FL.v (E.move k201) ?_
  refine FL.v (E.move k202) ?_
  refine FL.v (E.lenP te22 rfl p0) ?_
  refine FL.v (E.lss rfl rfl) ?_
  refine FL.nil ?_
  refine FW.condF rfl dlt_len ?_
  refine FW.exit ?_
  exact ⟨nofun, rfl, ⟨_, _, _, _, S197, i198, els87, nd88, k203⟩⟩
 ·
  clear hq
  intro e f194 w193 hD
  rcases q33 with s33 | x33
  ·
   obtain ⟨rfl, hD⟩ := hD
   obtain ⟨H190, v84, n85, cs86, S191, i192, els87, nd88, k195⟩ := hD
   replace hp := el_go hp
   refine FW.seq (FW.region ?_)
   refine FL.v (E.move k195) ?_
   refine FL.v (E.assign (v := v84) rfl) ?_
   refine FL.nil ?_
   refine FW.ret ?_
   obtain rfl := Option.some.inj hp
   exact ⟨.inr rfl, res1 rfl rfl ⟨_, _, _, _, rfl, S191, els87, nd88⟩⟩
  ·
   exact x33.elim

@[reducible] def p_laws_toCnf (Ha : GH) (wa : World) (r : Cnf) : Ending → World → Prop :=
 fun e w' => ∃ H' : GH, ∃ v0_1 : Value, e = .returned (Value.agg #[Value.int .i64 r.vars, v0_1]) ∧ Run wa.heap.size Ha wa H' w' ∧ (∃ c, Nest (up wa.heap.size H') (eL eI 1) 1 v0_1 r.clauses c)
theorem w_laws_toCnf {Ha : GH} {wa : World} (hs : Sl Ha wa) (a0 : Cnf) (v0_1 : Value) (p0_1 : RSl Ha (eL eI 1) 1 v0_1 a0.clauses) {r : Cnf} (hp : (PF.laws_toCnf a0) = some r) :
  Calls Tryz.prog 13 #[Value.agg #[Value.int .i64 a0.vars, v0_1]] wa (p_laws_toCnf Ha wa r) := by
 unfold PF.laws_toCnf at hp
 have S0 := St.init hs
 refine calls_go (N := 12) (args := [Value.agg #[Value.int .i64 a0.vars, v0_1]]) Tryz.func13 rfl rfl rfl ?_
 refine FW.seq (FW.region ?_)
 obtain ⟨b21, w22, run23, S24⟩ := S0.box (P := Tryz.prog) 24 [Value.int .i64 a0.vars, v0_1] (v := Value.agg #[Value.int .i64 a0.vars, v0_1]) rfl (ones_cons rfl (ones_cons p0_1.one ones_nil))
 refine FL.v (E.box rfl run23) ?_
 obtain ⟨H25, S26, i27, at28⟩ := S24.sealBox (i := 0) (l' := []) rfl rfl
 obtain ⟨b29, w30, run31, S32⟩ := S26.alloc (P := Tryz.prog) 30 [Value.int .i64 0, Value.slice none 0 0] Tryz.zeroValue30 rfl (ones_cons rfl (ones_cons rfl ones_nil))
 refine FL.v (E.alloc run31) ?_
 refine FL.nil (FW.seq (FW.region ?_))
 obtain ⟨b33, w34, run35, S36⟩ := S32.alloc (P := Tryz.prog) 30 [Value.int .i64 0, Value.slice none 0 0] Tryz.zeroValue30 rfl (ones_cons rfl (ones_cons rfl ones_nil))
 refine FL.v (E.alloc run35) ?_
 refine FL.nil (FW.seq (FW.region ?_))
 refine FL.v (E.fieldAddr tf24_0 rfl) ?_
 refine FL.v (E.load rfl (run_load1 Tryz.isAgg3 (at28.now S36.sl) rfl)) ?_
 refine FL.v (E.fieldAddr tf30_0 rfl) ?_
 obtain ⟨w37, run38, S39⟩ := S36.store (P := Tryz.prog) (t := 3) (i := 0) (j := 0) (cs' := [Value.int .i64 a0.vars, Value.slice none 0 0]) (l' := [.box b33 30 [Value.int .i64 a0.vars, Value.slice none 0 0], .box b29 30 [Value.int .i64 0, Value.slice none 0 0]]) (v := Value.int .i64 a0.vars) (c := [Value.int .i64 a0.vars]) rfl Tryz.sizeOf3 rfl rfl (ones_cons rfl ones_nil) (Nat.le_of_ble_eq_true rfl) rfl rfl
 refine FL.act rfl rfl (E.store rfl rfl run38) ?_
 refine FL.nil (FW.seq (FW.region ?_))
 refine FL.v (E.fieldAddr tf24_1 rfl) ?_
 refine FL.v (E.load rfl (run_load1 Tryz.isAgg22 (at28.now S39.sl) rfl)) ?_
 obtain ⟨r40, hr41, hp⟩ := bnd hp
 refine FL.call rfl rfl rfl (E.call Tryz.call82 (A1 rfl)) (w_laws_toIntSS S39.sl v0_1 a0.clauses (p0_1.mono i27) hr41) ?_
 rintro e w43 ⟨H42, v46, n47, cs48, rfl, r45, els49, nd50⟩
 refine ⟨_, rfl, ?_⟩
 have nv51 : New H25 cs48 := New.of_up S39.sl els49.dom
 have els49 := els49.mono (up_le S39.size)
 have S44 := S39.join (l' := [.row 25 1 v46 n47 cs48, .box b33 30 [Value.int .i64 a0.vars, Value.slice none 0 0], .box b29 30 [Value.int .i64 0, Value.slice none 0 0]]) r45 rfl
 refine FL.v (E.fieldAddr tf30_1 rfl) ?_
 obtain ⟨w52, run53, S54⟩ := S44.store (P := Tryz.prog) (t := 22) (i := 1) (j := 1) (cs' := [Value.int .i64 a0.vars, v46]) (l' := [.row 25 1 v46 n47 cs48, .box b33 30 [Value.int .i64 a0.vars, v46], .box b29 30 [Value.int .i64 0, Value.slice none 0 0]]) (v := v46) (c := [v46]) rfl Tryz.sizeOf22 (Ln.cells (S44.row_ln (i := 0) rfl)) rfl (ones_cons (Ln.one (S44.row_ln (i := 0) rfl)) ones_nil) (Nat.le_of_ble_eq_true rfl) rfl rfl
 refine FL.act rfl rfl (E.store rfl rfl run53) ?_
 obtain ⟨H55, S56, i57, ns60, nv59⟩ := S54.sealRowN (i := 0) (l' := [.box b33 30 [Value.int .i64 a0.vars, v46], .box b29 30 [Value.int .i64 0, Value.slice none 0 0]]) rfl els49 nd50 (by decide) rfl
 have h58 := ns60.rsl
 obtain ⟨H61, S62, i63, at64⟩ := S56.sealBox (i := 0) (l' := [.box b29 30 [Value.int .i64 0, Value.slice none 0 0]]) rfl rfl
 refine FL.nil (FW.seq (FW.region ?_))
 refine FL.v (E.load rfl (run_loadA Tryz.isAgg30 Tryz.sizeOf30 (at64.now S62.sl) rfl)) ?_
 obtain ⟨w65, run66, S67⟩ := S62.store0 (P := Tryz.prog) (t := 30) (i := 0) (cs' := [Value.int .i64 a0.vars, v46]) (l' := [.box b29 30 [Value.int .i64 a0.vars, v46]]) (v := Value.agg #[Value.int .i64 a0.vars, v46]) (c := [Value.int .i64 a0.vars, v46]) rfl Tryz.sizeOf30 rfl rfl (ones_cons rfl (ones_cons h58.one ones_nil)) (Nat.le_of_ble_eq_true rfl) rfl rfl
 refine FL.act rfl rfl (E.store rfl rfl run66) ?_
 obtain ⟨H68, S69, i70, at71⟩ := S67.sealBox (i := 0) (l' := []) rfl rfl
 refine FL.nil ?_
 refine FW.ret ?_
 obtain rfl := Option.some.inj hp
 exact ⟨.inr rfl, resC rfl rfl (loadVar_A Tryz.isAgg30 Tryz.sizeOf30 (at71.now S69.sl) rfl) ⟨_, _, rfl, S69.run, ⟨_, (ns60.mono (up_mono (i63.tr i70)))⟩⟩⟩

theorem w_spec_l1In {Ha : GH} {wa : World} (hs : Sl Ha wa) (a0 : Int) (a1 : Int) (a2 : Int) :
  Calls Tryz.prog 126 #[Value.int .i64 a0, Value.int .i64 a1, Value.int .i64 a2] wa (Sc Ha wa (Value.bool (PF.spec_l1In a0 a1 a2))) := by
 obtain ⟨r, hp⟩ : ∃ r, (PF.spec_l1In a0 a1 a2) = r := ⟨_, rfl⟩
 rw [hp]
 unfold PF.spec_l1In at hp
 have S0 := St.init hs
 refine calls_go (N := 15) (args := [Value.int .i64 a0, Value.int .i64 a1, Value.int .i64 a2]) Tryz.func126 rfl rfl rfl ?_
 refine FW.seq (FW.region ?_)
 refine FL.v (E.assign (v := Value.bool false) rfl) ?_
 refine FL.nil (FW.seq (FW.region ?_))
 refine FL.v (E.move (v := Value.int .i64 a0) rfl) ?_
 refine FL.v (E.move (v := Value.int .i64 a1) rfl) ?_
 refine FL.v (E.geq rfl rfl) ?_
 refine FL.v (E.move (v := Value.bool (decide (a1 ≤ a0))) rfl) ?_
 refine FL.cut 4 (fun f w => ∃ H : GH, St Ha wa H w [] ∧ Inc Ha H ∧ f 14 = Value.bool (bif (decide (a1 ≤ a0)) then (decide (a0 ≤ a2)) else false)) ?_ ?_
 ·
  rcases bcase (decide (a1 ≤ a0)) with c27 | c27
  ·
   refine FL.val (wF_yes rfl rfl rfl c27) rfl rfl (E.move (v := Value.int .i64 a0) rfl) ?_
   refine FL.val (wF_yes rfl rfl rfl c27) rfl rfl (E.move (v := Value.int .i64 a2) rfl) ?_
   refine FL.val (wF_yes rfl rfl rfl c27) rfl rfl (E.leq rfl rfl) ?_
   refine FL.v (E.pickT rfl c27 rfl) ?_
   exact FL.nil ⟨rfl, _, S0, (Inc.rfl _), (congrArg Value.bool (bifT c27).symm)⟩
  ·
   refine FL.skip (wF_no rfl rfl rfl c27) rfl ?_
   refine FL.skip (wF_no rfl rfl rfl c27) rfl ?_
   refine FL.skip (wF_no rfl rfl rfl c27) rfl ?_
   refine FL.v (E.pickF rfl c27 rfl) ?_
   exact FL.nil ⟨rfl, _, S0, (Inc.rfl _), (congrArg Value.bool (bifF c27).symm)⟩
 rintro f26 w25 ⟨H22, S23, i24, k28⟩
 refine FL.v (E.assign k28) ?_
 refine FL.nil ?_
 refine FW.ret ?_
 obtain rfl := hp
 exact ⟨.inr rfl, res1 rfl rfl ⟨rfl, S23.back⟩⟩

theorem w_spec_l2Vars {Ha : GH} {wa : World} (hs : Sl Ha wa) (a0 : Int) :
  Calls Tryz.prog 164 #[Value.int .i64 a0] wa (Sc Ha wa (Value.bool (PF.spec_l2Vars a0))) := by
 obtain ⟨r, hp⟩ : ∃ r, (PF.spec_l2Vars a0) = r := ⟨_, rfl⟩
 rw [hp]
 unfold PF.spec_l2Vars at hp
 have S0 := St.init hs
 refine calls_go (N := 5) (args := [Value.int .i64 a0]) Tryz.func164 rfl rfl rfl ?_
 refine FW.seq (FW.region ?_)
 refine FL.v (E.assign (v := Value.bool false) rfl) ?_
 refine FL.nil (FW.seq (FW.region ?_))
 refine FL.v (E.move (v := Value.int .i64 a0) rfl) ?_
 refine FL.call rfl rfl rfl (E.call Tryz.call126 (A3 rfl rfl rfl)) (w_spec_l1In S0.sl a0 0 12) ?_
 rintro e w21 ⟨rfl, r22⟩
 refine ⟨_, rfl, ?_⟩
 have S23 := S0.call r22
 refine FL.v (E.assign (v := Value.bool (PF.spec_l1In a0 0 12)) rfl) ?_
 refine FL.nil ?_
 refine FW.ret ?_
 obtain rfl := hp
 exact ⟨.inr rfl, res1 rfl rfl ⟨rfl, S23.back⟩⟩

theorem w_spec_l2Lit {Ha : GH} {wa : World} (hs : Sl Ha wa) (a0 : Int) (a1 : Int) :
  Calls Tryz.prog 165 #[Value.int .i64 a0, Value.int .i64 a1] wa (Sc Ha wa (Value.bool (PF.spec_l2Lit a0 a1))) := by
 obtain ⟨r, hp⟩ : ∃ r, (PF.spec_l2Lit a0 a1) = r := ⟨_, rfl⟩
 rw [hp]
 unfold PF.spec_l2Lit at hp
 have S0 := St.init hs
 refine calls_go (N := 14) (args := [Value.int .i64 a0, Value.int .i64 a1]) Tryz.func165 rfl rfl rfl ?_
 refine FW.seq (FW.region ?_)
 refine FL.v (E.assign (v := Value.bool false) rfl) ?_
 refine FL.nil (FW.seq (FW.region ?_))
 refine FL.v (E.move (v := Value.int .i64 a1) rfl) ?_
 refine FL.v (E.move (v := Value.int .i64 a0) rfl) ?_
 refine FL.v (E.neg rfl) ?_
 refine FL.v (E.move (v := Value.int .i64 a0) rfl) ?_
 refine FL.call rfl rfl rfl (E.call Tryz.call126 (A3 rfl rfl rfl)) (w_spec_l1In S0.sl a1 (wr (-a0)) a0) ?_
 rintro e w21 ⟨rfl, r22⟩
 refine ⟨_, rfl, ?_⟩
 have S23 := S0.call r22
 refine FL.v (E.move (v := Value.bool (PF.spec_l1In a1 (wr (-a0)) a0)) rfl) ?_
 refine FL.cut 3 (fun f w => ∃ H : GH, St Ha wa H w [] ∧ Inc Ha H ∧ f 13 = Value.bool (bif (PF.spec_l1In a1 (wr (-a0)) a0) then (!(a1 == 0)) else false)) ?_ ?_
 ·
  rcases bcase (PF.spec_l1In a1 (wr (-a0)) a0) with c30 | c30
  ·
   refine FL.val (wF_yes rfl rfl rfl c30) rfl rfl (E.move (v := Value.int .i64 a1) rfl) ?_
   refine FL.val (wF_yes rfl rfl rfl c30) rfl rfl (E.neq rfl rfl) ?_
   refine FL.v (E.pickT rfl c30 rfl) ?_
   exact FL.nil ⟨rfl, _, S23, (Inc.rfl _), (congrArg Value.bool (bifT c30).symm)⟩
  ·
   refine FL.skip (wF_no rfl rfl rfl c30) rfl ?_
   refine FL.skip (wF_no rfl rfl rfl c30) rfl ?_
   refine FL.v (E.pickF rfl c30 rfl) ?_
   exact FL.nil ⟨rfl, _, S23, (Inc.rfl _), (congrArg Value.bool (bifF c30).symm)⟩
 rintro f29 w28 ⟨H25, S26, i27, k31⟩
 refine FL.v (E.assign k31) ?_
 refine FL.nil ?_
 refine FW.ret ?_
 obtain rfl := hp
 exact ⟨.inr rfl, res1 rfl rfl ⟨rfl, S26.back⟩⟩

theorem w_spec_l2Var {Ha : GH} {wa : World} (hs : Sl Ha wa) (a0 : Int) :
  Calls Tryz.prog 166 #[Value.int .i64 a0] wa (Sc Ha wa (Value.int .i64 (PF.spec_l2Var a0))) := by
 obtain ⟨r, hp⟩ : ∃ r, (PF.spec_l2Var a0) = r := ⟨_, rfl⟩
 rw [hp]
 unfold PF.spec_l2Var at hp
 have S0 := St.init hs
 refine calls_go (N := 8) (args := [Value.int .i64 a0]) Tryz.func166 rfl rfl rfl ?_
 refine FW.seq (FW.region ?_)
 refine FL.v (E.assign (v := Value.int .i64 0) rfl) ?_
 refine FL.nil (FW.seq (FW.seq (FW.region ?_)))
 refine FL.v (E.move (v := Value.int .i64 a0) rfl) ?_
 refine FL.v (E.lss rfl rfl) ?_
 refine FL.nil ?_
 rcases ifT hp with ⟨c21, hp⟩ | ⟨c21, hp⟩
 ·
  refine FW.condT rfl c21 ?_
  refine FW.seq (FW.region ?_)
  refine FL.v (E.move (v := Value.int .i64 a0) rfl) ?_
  refine FL.v (E.neg rfl) ?_
  refine FL.v (E.assign (v := Value.int .i64 (wr (-a0))) rfl) ?_
  refine FL.nil ?_
  refine FW.ret ?_
  obtain rfl := hp
  exact ⟨.inr rfl, res1 rfl rfl ⟨rfl, S0.back⟩⟩
 ·
  refine FW.condF rfl c21 ?_
  refine FW.skip (FW.seq (FW.region ?_))
  refine FL.v (E.move (v := Value.int .i64 a0) rfl) ?_
  refine FL.v (E.assign (v := Value.int .i64 a0) rfl) ?_
  refine FL.nil ?_
  refine FW.ret ?_
  obtain rfl := hp
  exact ⟨.inr rfl, res1 rfl rfl ⟨rfl, S0.back⟩⟩

set_option maxHeartbeats 4000000 in
theorem w_spec_l2Clause {Ha : GH} {wa : World} (hs : Sl Ha wa) (a0 : Int) (v1 : Value) (a1 : List Int) (p1 : RSl Ha eI 1 v1 a1) {r : Bool} (hp : (PF.spec_l2Clause a0 a1) = some r) :
  Calls Tryz.prog 80 #[Value.int .i64 a0, v1] wa (Sc Ha wa (Value.bool r)) := by
 unfold PF.spec_l2Clause at hp
 have S0 := St.init hs
 refine calls_go (N := 40) (args := [Value.int .i64 a0, v1]) Tryz.func80 rfl rfl rfl ?_
 refine FW.seq (FW.region ?_)
 refine FL.v (E.assign (v := Value.bool false) rfl) ?_
 refine FL.nil (FW.seq (FW.seq (FW.region ?_)))
 refine FL.v (E.move (v := Value.int .i64 a0) rfl) ?_
 refine FL.call rfl rfl rfl (E.call Tryz.call164 (A1 rfl)) (w_spec_l2Vars S0.sl a0) ?_
 rintro e w21 ⟨rfl, r22⟩
 refine ⟨_, rfl, ?_⟩
 have S23 := S0.call r22
 refine FL.v (E.not rfl) ?_
 refine FL.nil ?_
 rcases ifB hp with ⟨c24, hp⟩ | ⟨c24, hp⟩
 ·
  refine FW.condT rfl c24 ?_
  refine FW.seq (FW.region ?_)
  refine FL.v (E.assign (v := Value.bool false) rfl) ?_
  refine FL.nil ?_
  refine FW.ret ?_
  obtain rfl := Option.some.inj hp
  exact ⟨.inr rfl, res1 rfl rfl ⟨rfl, S23.back⟩⟩
 ·
  refine FW.condF rfl c24 ?_
  refine FW.skip (FW.seq (FW.seq (FW.region ?_)))
  refine FL.v (E.assign (v := Value.int .i64 0) rfl) ?_
  refine FL.nil ?_
  obtain ⟨q26, hq, hp⟩ := bndR hp
  refine FW.block ?_
  refine FW.mono (FW.forL (S := Unit) (X := Bool) (fun (i26 : Nat) (s26 : Unit) f w => ∃ H : GH, St Ha wa H w [] ∧ Inc Ha H ∧ f 5 = Value.int .i64 ((i26 : Nat) : Int) ∧ f 0 = Value.int .i64 a0 ∧ f 1 = v1) (fun q e f w => match q with | .go s26 => e = Exit.exit 0 ∧ (∃ H : GH, St Ha wa H w [] ∧ Inc Ha H) | .rt x => ((e = Exit.ret) ∧ (fun e f w => (e = Exit.normal ∨ e = Exit.ret) ∧ ∀ a, Fr (δ := []) 40 a f → ∃ v, (results Tryz.f80 a.tmps).run Tryz.prog w = .ok v w ∧ (Sc Ha wa (Value.bool x)) (.returned v) w) e f w)) hq ⟨_, S23, (Inc.rfl _), rfl, rfl, rfl⟩ ?_ ?_) ?_
  ·
   clear hp hq
   rintro i26 y25 s26 f141 w140 ⟨H137, S138, i139, k142, k143, k144⟩ hx26 o247 hp
   refine FW.seq (FW.seq (FW.region ?_))
   refine FL.v (E.move k142) ?_
   refine FL.v (E.move k144) ?_
   refine FL.v (E.lenP te25 rfl p1) ?_
   refine FL.v (E.lssT rfl rfl (lss_len hx26)) ?_
   refine FL.nil ?_
   refine FW.condT rfl rfl ?_
   refine FW.skip (FW.seq (FW.block (FW.seq ?_)))
   refine FW.draw (fun w' => Run w140.heap.size H137 w140 H137 w') (by kernel_rfl) (by kernel_rfl) (run_drew S138.sl) ?_
   refine FD.val rfl rfl rfl (fun w' hw' => (E.move k143)) ?_
   refine FD.val rfl rfl rfl (fun w' hw' => (E.move k144)) ?_
   refine FD.val rfl rfl rfl (fun w' hw' => (E.move k142)) ?_
   obtain ⟨p146, cs147, pt148, l149, at150, rel151⟩ := p1.at (ix_nat hx26)
   obtain rfl := eI_open rel151
   refine FD.val rfl rfl rfl (fun w' hw' => (E.indexAddr te25 rfl rfl pt148)) ?_
   refine FD.val rfl rfl rfl (fun w' hw' => (E.load rfl (run_load0 Tryz.isAgg3 ((at150.mono i139).now (S138.call hw').sl) rfl))) ?_
   refine FD.call rfl rfl rfl (fun w' hw' => (E.call Tryz.call165 (A2 rfl rfl))) (fun w' hw' => Calls.cls hw' (w_spec_l2Lit (S138.call hw').sl a0 y25)) ?_
   refine FD.val rfl rfl rfl (fun w' hw' => (E.not rfl)) ?_
   refine FD.val rfl rfl rfl (fun w' hw' => (E.move (v := Value.bool (!(PF.spec_l2Lit a0 y25))) rfl)) ?_
   obtain ⟨t192, hqt192, hp⟩ := bnd hp
   refine FD.cut 17 (fun f => f 0 = Value.int .i64 a0 ∧ f 1 = v1 ∧ f 5 = Value.int .i64 ((i26 : Nat) : Int) ∧ f 39 = Value.bool t192) ?_ ?_
   ·
    clear hp; have hp := hqt192; clear hqt192
    rcases ifB hp with ⟨c198, hp⟩ | ⟨c198, hp⟩
    ·
     refine FD.skip (wF_no rfl rfl rfl c198) rfl ?_
     refine FD.skip (wF_no rfl rfl rfl c198) rfl ?_
     refine FD.skip (wF_no rfl rfl rfl c198) rfl ?_
     refine FD.skip (wF_undef rfl rfl rfl) rfl ?_
     refine FD.skip (wF_undef rfl rfl rfl) rfl ?_
     refine FD.skip (wF_undef rfl rfl rfl) rfl ?_
     refine FD.skip (wF_undef rfl rfl rfl) rfl ?_
     refine FD.skip (wF_undef rfl rfl rfl) rfl ?_
     refine FD.skip (wF_undef rfl rfl rfl) rfl ?_
     refine FD.skip (wF_undef rfl rfl rfl) rfl ?_
     refine FD.skip (wF_undef rfl rfl rfl) rfl ?_
     refine FD.skip (wF_undef rfl rfl rfl) rfl ?_
     refine FD.skip (wF_undef rfl rfl rfl) rfl ?_
     refine FD.skip (wF_undef rfl rfl rfl) rfl ?_
     refine FD.skip (wF_undef rfl rfl rfl) rfl ?_
     refine FD.skip (wF_no rfl rfl rfl c198) rfl ?_
     obtain rfl := Option.some.inj hp
     refine FD.val rfl rfl rfl (fun w' hw' => (E.pickT rfl c198 rfl)) ?_
     exact FD.nil ⟨k143, k144, k142, rfl⟩
    ·
     refine FD.val (wF_yes rfl rfl rfl c198) rfl rfl (fun w' hw' => (E.move k142)) ?_
     refine FD.val (wF_yes rfl rfl rfl c198) rfl rfl (fun w' hw' => (E.gtr rfl rfl)) ?_
     refine FD.val (wF_yes rfl rfl rfl c198) rfl rfl (fun w' hw' => (E.move (v := Value.bool (decide (0 < ((i26 : Nat) : Int)))) rfl)) ?_
     obtain ⟨t213, hqt213, hp⟩ := bnd hp
     refine FD.cut 13 (fun f => f 0 = Value.int .i64 a0 ∧ f 1 = v1 ∧ f 5 = Value.int .i64 ((i26 : Nat) : Int) ∧ f 22 = Value.bool (!(PF.spec_l2Lit a0 y25)) ∧ f 38 = Value.bool t213) ?_ ?_
     ·
      clear hp; have hp := hqt213; clear hqt213
      rcases ifB hp with ⟨c219, hp⟩ | ⟨c219, hp⟩
      ·
       refine FD.val (wF_yes rfl rfl rfl c219) rfl rfl (fun w' hw' => (E.move k144)) ?_
       refine FD.val (wF_yes rfl rfl rfl c219) rfl rfl (fun w' hw' => (E.move k142)) ?_
       refine FD.val (wF_yes rfl rfl rfl c219) rfl rfl (fun w' hw' => (E.sub rfl rfl)) ?_
       obtain ⟨x226, hx227, hp⟩ := bnd hp
       obtain ⟨p220, cs221, pt222, l223, at224, rel225⟩ := p1.at hx227
       obtain rfl := eI_open rel225
       refine FD.val (wF_yes rfl rfl rfl c219) rfl rfl (fun w' hw' => (E.indexAddr te25 rfl rfl pt222)) ?_
       refine FD.val (wF_yes rfl rfl rfl c219) rfl rfl (fun w' hw' => (E.load rfl (run_load0 Tryz.isAgg3 ((at224.mono i139).now (S138.call hw').sl) rfl))) ?_
       refine FD.call (wF_yes rfl rfl rfl c219) rfl rfl (fun w' hw' => (E.call Tryz.call166 (A1 rfl))) (fun w' hw' => Calls.cls hw' (w_spec_l2Var (S138.call hw').sl x226)) ?_
       refine FD.val (wF_yes rfl rfl rfl c219) rfl rfl (fun w' hw' => (E.move k144)) ?_
       refine FD.val (wF_yes rfl rfl rfl c219) rfl rfl (fun w' hw' => (E.move k142)) ?_
       obtain ⟨p228, cs229, pt230, l231, at232, rel233⟩ := p1.at (ix_nat hx26)
       obtain rfl := eI_open rel233
       refine FD.val (wF_yes rfl rfl rfl c219) rfl rfl (fun w' hw' => (E.indexAddr te25 rfl rfl pt230)) ?_
       refine FD.val (wF_yes rfl rfl rfl c219) rfl rfl (fun w' hw' => (E.load rfl (run_load0 Tryz.isAgg3 ((at232.mono i139).now (S138.call hw').sl) rfl))) ?_
       refine FD.call (wF_yes rfl rfl rfl c219) rfl rfl (fun w' hw' => (E.call Tryz.call166 (A1 rfl))) (fun w' hw' => Calls.cls hw' (w_spec_l2Var (S138.call hw').sl y25)) ?_
       refine FD.val (wF_yes rfl rfl rfl c219) rfl rfl (fun w' hw' => (E.geq rfl rfl)) ?_
       obtain rfl := Option.some.inj hp
       refine FD.val (wF_yes rfl rfl rfl c198) rfl rfl (fun w' hw' => (E.pickT rfl c219 rfl)) ?_
       exact FD.nil ⟨k143, k144, k142, rfl, rfl⟩
      ·
       refine FD.skip (wF_no rfl rfl rfl c219) rfl ?_
       refine FD.skip (wF_no rfl rfl rfl c219) rfl ?_
       refine FD.skip (wF_no rfl rfl rfl c219) rfl ?_
       refine FD.skip (wF_no rfl rfl rfl c219) rfl ?_
       refine FD.skip (wF_no rfl rfl rfl c219) rfl ?_
       refine FD.skip (wF_no rfl rfl rfl c219) rfl ?_
       refine FD.skip (wF_no rfl rfl rfl c219) rfl ?_
       refine FD.skip (wF_no rfl rfl rfl c219) rfl ?_
       refine FD.skip (wF_no rfl rfl rfl c219) rfl ?_
       refine FD.skip (wF_no rfl rfl rfl c219) rfl ?_
       refine FD.skip (wF_no rfl rfl rfl c219) rfl ?_
       refine FD.skip (wF_no rfl rfl rfl c219) rfl ?_
       obtain rfl := Option.some.inj hp
       refine FD.val (wF_yes rfl rfl rfl c198) rfl rfl (fun w' hw' => (E.pickF rfl c219 rfl)) ?_
       exact FD.nil ⟨k143, k144, k142, rfl, rfl⟩
     rintro f218 ⟨k234, k235, k236, k237, k238⟩
     obtain rfl := Option.some.inj hp
     refine FD.val rfl rfl rfl (fun w' hw' => (E.pickF k237 c198 k238)) ?_
     exact FD.nil ⟨k234, k235, k236, rfl⟩
   rintro f197 ⟨k239, k240, k241, k242⟩
   refine FD.nil ?_
   intro w243 r245
   have S244 := S138.call r245
   rcases ifB hp with ⟨c246, hp⟩ | ⟨c246, hp⟩
   ·
    refine FW.condT k242 c246 ?_
    refine FW.seq (FW.region ?_)
    refine FL.v (E.assign (v := Value.bool false) rfl) ?_
    refine FL.nil ?_
    refine FW.ret ?_
    obtain rfl := Option.some.inj hp
    exact ⟨nofun, rfl, ⟨.inr rfl, res1 rfl rfl ⟨rfl, S244.back⟩⟩⟩
   ·
    refine FW.condF k242 c246 ?_
    refine FW.skip (FW.region ?_)
    refine FL.v (E.move k241) ?_
    refine FL.v (E.add rfl rfl) ?_
    refine FL.v (E.assign (v := Value.int .i64 (wr (((i26 : Nat) : Int) + 1))) rfl) ?_
    refine FL.nil ?_
    obtain rfl := Option.some.inj hp
    exact ⟨rfl, ⟨_, S244, i139, (nat_succ rfl (lt_of_get hx26) (p1.mono i139).le), k239, k240⟩⟩
  ·
   clear hp hq
   rintro s26 f257 w256 ⟨H253, S254, i255, k258, k259, k260⟩
   refine FW.seq (FW.seq (FW.region ?_))
   refine FL.v (E.move k258) ?_
   refine FL.v (E.move k260) ?_
   refine FL.v (E.lenP te25 rfl p1) ?_
   refine FL.v (E.lss rfl rfl) ?_
   refine FL.nil ?_
   refine FW.condF rfl dlt_len ?_
   refine FW.exit ?_
   exact ⟨nofun, rfl, ⟨_, S254, i255⟩⟩
  ·
   clear hq
   intro e f252 w251 hD
   rcases q26 with s26 | x26
   ·
    obtain ⟨rfl, hD⟩ := hD
    obtain ⟨H248, S249, i250⟩ := hD
    replace hp := el_go hp
    refine FW.seq (FW.region ?_)
    refine FL.v (E.assign (v := Value.bool true) rfl) ?_
    refine FL.nil ?_
    refine FW.ret ?_
    obtain rfl := Option.some.inj hp
    exact ⟨.inr rfl, res1 rfl rfl ⟨rfl, S249.back⟩⟩
   ·
    obtain ⟨he, hL⟩ := hD
    replace hp := el_rt hp
    obtain rfl := Option.some.inj hp
    subst he
    exact hL

set_option maxHeartbeats 4000000 in
theorem w_spec_l2Good {Ha : GH} {wa : World} (hs : Sl Ha wa) (a0 : Cnf) (v0_1 : Value) (p0_1 : RSl Ha (eL eI 1) 1 v0_1 a0.clauses) {r : Bool} (hp : (PF.spec_l2Good a0) = some r) :
  Calls Tryz.prog 101 #[Value.agg #[Value.int .i64 a0.vars, v0_1]] wa (Sc Ha wa (Value.bool r)) := by
 unfold PF.spec_l2Good at hp
 have S0 := St.init hs
 refine calls_go (N := 30) (args := [Value.agg #[Value.int .i64 a0.vars, v0_1]]) Tryz.func101 rfl rfl rfl ?_
 refine FW.seq (FW.region ?_)
 obtain ⟨b21, w22, run23, S24⟩ := S0.box (P := Tryz.prog) 30 [Value.int .i64 a0.vars, v0_1] (v := Value.agg #[Value.int .i64 a0.vars, v0_1]) rfl (ones_cons rfl (ones_cons p0_1.one ones_nil))
 refine FL.v (E.box rfl run23) ?_
 obtain ⟨H25, S26, i27, at28⟩ := S24.sealBox (i := 0) (l' := []) rfl rfl
 refine FL.v (E.assign (v := Value.bool false) rfl) ?_
 refine FL.nil (FW.seq (FW.seq (FW.region ?_)))
 refine FL.v (E.fieldAddr tf30_0 rfl) ?_
 refine FL.v (E.load rfl (run_load1 Tryz.isAgg3 (at28.now S26.sl) rfl)) ?_
 refine FL.call rfl rfl rfl (E.call Tryz.call164 (A1 rfl)) (w_spec_l2Vars S26.sl a0.vars) ?_
 rintro e w29 ⟨rfl, r30⟩
 refine ⟨_, rfl, ?_⟩
 have S31 := S26.call r30
 refine FL.v (E.not rfl) ?_
 refine FL.v (E.move (v := Value.bool (!(PF.spec_l2Vars a0.vars))) rfl) ?_
 refine FL.cut 5 (fun f w => ∃ H : GH, St Ha wa H w [] ∧ Inc H25 H ∧ f 1 = Value.pointer (some ⟨b21, 0, none⟩) ∧ f 13 = Value.bool (bif (!(PF.spec_l2Vars a0.vars)) then true else (decide (60 < (len a0.clauses))))) ?_ ?_
 ·
  rcases bcase (!(PF.spec_l2Vars a0.vars)) with c38 | c38
  ·
   refine FL.skip (wF_no rfl rfl rfl c38) rfl ?_
   refine FL.skip (wF_no rfl rfl rfl c38) rfl ?_
   refine FL.skip (wF_no rfl rfl rfl c38) rfl ?_
   refine FL.skip (wF_no rfl rfl rfl c38) rfl ?_
   refine FL.v (E.pickT rfl c38 rfl) ?_
   exact FL.nil ⟨rfl, _, S31, (Inc.rfl _), rfl, (congrArg Value.bool (bifT c38).symm)⟩
  ·
   refine FL.val (wF_yes rfl rfl rfl c38) rfl rfl (E.fieldAddr tf30_1 rfl) ?_
   refine FL.val (wF_yes rfl rfl rfl c38) rfl rfl (E.load rfl (run_load1 Tryz.isAgg22 (at28.now S31.sl) rfl)) ?_
   refine FL.val (wF_yes rfl rfl rfl c38) rfl rfl (E.lenP te22 rfl p0_1) ?_
   refine FL.val (wF_yes rfl rfl rfl c38) rfl rfl (E.gtr rfl rfl) ?_
   refine FL.v (E.pickF rfl c38 rfl) ?_
   exact FL.nil ⟨rfl, _, S31, (Inc.rfl _), rfl, (congrArg Value.bool (bifF c38).symm)⟩
 rintro f37 w36 ⟨H33, S34, i35, k39, k40⟩
 refine FL.nil ?_
 rcases ifB hp with ⟨c41, hp⟩ | ⟨c41, hp⟩
 ·
  refine FW.condT k40 c41 ?_
  refine FW.seq (FW.region ?_)
  refine FL.v (E.assign (v := Value.bool false) rfl) ?_
  refine FL.nil ?_
  refine FW.ret ?_
  obtain rfl := Option.some.inj hp
  exact ⟨.inr rfl, res1 rfl rfl ⟨rfl, S34.back⟩⟩
 ·
  refine FW.condF k40 c41 ?_
  refine FW.skip (FW.seq (FW.seq (FW.region ?_)))
  refine FL.v (E.assign (v := Value.int .i64 0) rfl) ?_
  refine FL.nil ?_
  obtain ⟨q42, hq, hp⟩ := bndR hp
  refine FW.block ?_
  refine FW.mono (FW.iter (S := Int) (X := Bool) (fun (s42 : Int) f w => ∃ H : GH, St Ha wa H w [] ∧ Inc H33 H ∧ f 1 = Value.pointer (some ⟨b21, 0, none⟩) ∧ f 3 = Value.int .i64 s42) (fun q e f w => match q with | .go s42 => e = Exit.exit 0 ∧ (∃ H : GH, St Ha wa H w [] ∧ Inc H33 H) | .rt x => ((e = Exit.ret) ∧ (fun e f w => (e = Exit.normal ∨ e = Exit.ret) ∧ ∀ a, Fr (δ := []) 30 a f → ∃ v, (results Tryz.f101 a.tmps).run Tryz.prog w = .ok v w ∧ (Sc Ha wa (Value.bool x)) (.returned v) w) e f w)) hq ⟨_, S34, (Inc.rfl _), k39, rfl⟩ ?_) ?_
  ·
   clear hp hq
   rintro s42 f72 w71 ⟨H68, S69, i70, k73, k74⟩ o93 hp
   refine FW.seq (FW.seq (FW.region ?_))
   refine FL.v (E.move k74) ?_
   refine FL.v (E.fieldAddr tf30_1 k73) ?_
   refine FL.v (E.load rfl (run_load1 Tryz.isAgg22 ((at28.mono (i35.tr i70)).now S69.sl) rfl)) ?_
   refine FL.v (E.lenP te22 rfl p0_1) ?_
   refine FL.v (E.lss rfl rfl) ?_
   refine FL.nil ?_
   rcases ifB hp with ⟨c75, hp⟩ | ⟨c75, hp⟩
   ·
    refine FW.condT rfl c75 ?_
    refine FW.skip (FW.seq (FW.block (FW.seq ?_)))
    refine FW.draw (fun w' => Run w71.heap.size H68 w71 H68 w') (by kernel_rfl) (by kernel_rfl) (run_drew S69.sl) ?_
    refine FD.val rfl rfl rfl (fun w' hw' => (E.fieldAddr tf30_0 k73)) ?_
    refine FD.val rfl rfl rfl (fun w' hw' => (E.load rfl (run_load1 Tryz.isAgg3 ((at28.mono (i35.tr i70)).now (S69.call hw').sl) rfl))) ?_
    refine FD.val rfl rfl rfl (fun w' hw' => (E.fieldAddr tf30_1 k73)) ?_
    refine FD.val rfl rfl rfl (fun w' hw' => (E.load rfl (run_load1 Tryz.isAgg22 ((at28.mono (i35.tr i70)).now (S69.call hw').sl) rfl))) ?_
    refine FD.val rfl rfl rfl (fun w' hw' => (E.move k74)) ?_
    obtain ⟨x83, hx84, hp⟩ := bnd hp
    obtain ⟨p77, cs78, pt79, l80, at81, rel82⟩ := p0_1.at hx84
    obtain ⟨v85, rfl, h86⟩ := eL_open rel82
    refine FD.val rfl rfl rfl (fun w' hw' => (E.indexAddr te22 rfl rfl pt79)) ?_
    refine FD.val rfl rfl rfl (fun w' hw' => (E.load rfl (run_load0 Tryz.isAgg25 ((at81.mono ((i27.tr i35).tr i70)).now (S69.call hw').sl) rfl))) ?_
    obtain ⟨r87, hr88, hp⟩ := bnd hp
    refine FD.call rfl rfl rfl (fun w' hw' => (E.call Tryz.call80 (A2 rfl rfl))) (fun w' hw' => Calls.cls hw' (w_spec_l2Clause (S69.call hw').sl a0.vars v85 x83 (h86.mono ((i27.tr i35).tr i70)) hr88)) ?_
    refine FD.val rfl rfl rfl (fun w' hw' => (E.not rfl)) ?_
    refine FD.nil ?_
    intro w89 r91
    have S90 := S69.call r91
    rcases ifB hp with ⟨c92, hp⟩ | ⟨c92, hp⟩
    ·
     refine FW.condT rfl c92 ?_
     refine FW.seq (FW.region ?_)
     refine FL.v (E.assign (v := Value.bool false) rfl) ?_
     refine FL.nil ?_
     refine FW.ret ?_
     obtain rfl := Option.some.inj hp
     exact ⟨nofun, rfl, ⟨.inr rfl, res1 rfl rfl ⟨rfl, S90.back⟩⟩⟩
    ·
     refine FW.condF rfl c92 ?_
     refine FW.skip (FW.region ?_)
     refine FL.v (E.move k74) ?_
     refine FL.v (E.add rfl rfl) ?_
     refine FL.v (E.assign (v := Value.int .i64 (wr (s42 + 1))) rfl) ?_
     refine FL.nil ?_
     obtain rfl := Option.some.inj hp
     exact ⟨rfl, ⟨_, S90, i70, k73, rfl⟩⟩
   ·
    refine FW.condF rfl c75 ?_
    refine FW.exit ?_
    obtain rfl := Option.some.inj hp
    exact ⟨nofun, rfl, ⟨_, S69, i70⟩⟩
  ·
   clear hq
   intro e f98 w97 hD
   rcases q42 with s42 | x42
   ·
    obtain ⟨rfl, hD⟩ := hD
    obtain ⟨H94, S95, i96⟩ := hD
    replace hp := el_go hp
    refine FW.seq (FW.region ?_)
    refine FL.v (E.assign (v := Value.bool true) rfl) ?_
    refine FL.nil ?_
    refine FW.ret ?_
    obtain rfl := Option.some.inj hp
    exact ⟨.inr rfl, res1 rfl rfl ⟨rfl, S95.back⟩⟩
   ·
    obtain ⟨he, hL⟩ := hD
    replace hp := el_rt hp
    obtain rfl := Option.some.inj hp
    subst he
    exact hL

theorem w_spec_l10Good {Ha : GH} {wa : World} (hs : Sl Ha wa) (a0 : Cnf) (v0_1 : Value) (p0_1 : RSl Ha (eL eI 1) 1 v0_1 a0.clauses) {r : Bool} (hp : (PF.spec_l10Good a0) = some r) :
  Calls Tryz.prog 78 #[Value.agg #[Value.int .i64 a0.vars, v0_1]] wa (Sc Ha wa (Value.bool r)) := by
 unfold PF.spec_l10Good at hp
 have S0 := St.init hs
 refine calls_go (N := 10) (args := [Value.agg #[Value.int .i64 a0.vars, v0_1]]) Tryz.func78 rfl rfl rfl ?_
 refine FW.seq (FW.region ?_)
 obtain ⟨b21, w22, run23, S24⟩ := S0.box (P := Tryz.prog) 30 [Value.int .i64 a0.vars, v0_1] (v := Value.agg #[Value.int .i64 a0.vars, v0_1]) rfl (ones_cons rfl (ones_cons p0_1.one ones_nil))
 refine FL.v (E.box rfl run23) ?_
 obtain ⟨H25, S26, i27, at28⟩ := S24.sealBox (i := 0) (l' := []) rfl rfl
 refine FL.v (E.assign (v := Value.bool false) rfl) ?_
 refine FL.nil (FW.seq (FW.region ?_))
 refine FL.v (E.fieldAddr tf30_0 rfl) ?_
 refine FL.v (E.load rfl (run_load1 Tryz.isAgg3 (at28.now S26.sl) rfl)) ?_
 refine FL.v (E.leq rfl rfl) ?_
 refine FL.v (E.move (v := Value.bool (decide (a0.vars ≤ 6))) rfl) ?_
 obtain ⟨t34, hqt34, hp⟩ := bnd hp
 refine FL.cut 3 (fun f w => ∃ H : GH, St Ha wa H w [] ∧ Inc H25 H ∧ f 9 = Value.bool t34) ?_ ?_
 ·
  clear hp; have hp := hqt34; clear hqt34
  rcases ifB hp with ⟨c40, hp⟩ | ⟨c40, hp⟩
  ·
   refine FL.val (wF_yes rfl rfl rfl c40) rfl rfl (E.load rfl (run_loadA Tryz.isAgg30 Tryz.sizeOf30 (at28.now S26.sl) rfl)) ?_
   obtain ⟨r41, hr42, hp⟩ := bnd hp
   refine FL.call (wF_yes rfl rfl rfl c40) rfl rfl (E.call Tryz.call101 (A1 rfl)) (w_spec_l2Good S26.sl a0 v0_1 (p0_1.mono i27) hr42) ?_
   rintro e w43 ⟨rfl, r44⟩
   refine ⟨_, rfl, ?_⟩
   have S45 := S26.call r44
   obtain rfl := Option.some.inj hp
   refine FL.v (E.pickT rfl c40 rfl) ?_
   exact FL.nil ⟨rfl, _, S45, (Inc.rfl _), rfl⟩
  ·
   refine FL.skip (wF_no rfl rfl rfl c40) rfl ?_
   refine FL.skip (wF_no rfl rfl rfl c40) rfl ?_
   obtain rfl := Option.some.inj hp
   refine FL.v (E.pickF rfl c40 rfl) ?_
   exact FL.nil ⟨rfl, _, S26, (Inc.rfl _), rfl⟩
 rintro f39 w38 ⟨H35, S36, i37, k46⟩
 refine FL.v (E.assign k46) ?_
 refine FL.nil ?_
 refine FW.ret ?_
 obtain rfl := Option.some.inj hp
 exact ⟨.inr rfl, res1 rfl rfl ⟨rfl, S36.back⟩⟩

@[reducible] def p_spec_l1Own (Ha : GH) (wa : World) (r : (List Int)) : Ending → World → Prop :=
 fun e w' => ∃ H' : GH, ∃ v0 : Value, ∃ n0 : Nat, ∃ c0 : List Value, e = .returned (v0) ∧ St Ha wa H' w' [.row 3 1 v0 n0 c0] ∧ Els (up wa.heap.size H') eI 1 c0 r
theorem w_spec_l1Own {Ha : GH} {wa : World} (hs : Sl Ha wa) (v0 : Value) (a0 : List Int) (p0 : RSl Ha eI 1 v0 a0) {r : (List Int)} (hp : (PF.spec_l1Own a0) = some r) :
  Calls Tryz.prog 214 #[v0] wa (p_spec_l1Own Ha wa r) := by
 unfold PF.spec_l1Own at hp
 have S0 := St.init hs
 refine calls_go (N := 6) (args := [v0]) Tryz.func214 rfl rfl rfl ?_
 refine FW.seq (FW.region ?_)
 refine FL.v (E.assign (v := Value.slice none 0 0) rfl) ?_
 refine FL.nil (FW.seq (FW.region ?_))
 obtain ⟨v21, w22, run23, S24⟩ := S0.buildSlice (P := Tryz.prog) te25 [] (parts := #[]) (cells := []) rfl szs_nil fc_nil ones_nil (Nat.le_of_ble_eq_true rfl)
 have els25 : Els (up wa.heap.size Ha) eI 1 [] [] := Els.nil
 refine FL.v (E.buildSlice (B0) run23) ?_
 refine FL.v (E.move (v := v0) rfl) ?_
 obtain ⟨xs26, hz27, hp⟩ := bnd hp
 obtain ⟨v28, w31, n29, cs30, run32, S33, els34⟩ := S24.appendP (P := Tryz.prog) (Inc.rfl _) te25 (i := 0) rfl (els25.mono upI) p0 hz27
 have S33 : St Ha wa Ha w31 [.row 3 1 v28 n29 cs30] := S33
 have els34 : Els (up wa.heap.size Ha) eI 1 cs30 xs26 := els34.any (fun _ _ _ _ h => h)
 refine FL.v (E.append rfl rfl run32) ?_
 refine FL.v (E.assign (v := v28) rfl) ?_
 refine FL.nil ?_
 refine FW.ret ?_
 obtain rfl := Option.some.inj hp
 exact ⟨.inr rfl, res1 rfl rfl ⟨_, _, _, _, rfl, S33, els34⟩⟩

theorem w_spec_l2Key {Ha : GH} {wa : World} (hs : Sl Ha wa) (a0 : Int) :
  Calls Tryz.prog 293 #[Value.int .i64 a0] wa (Sc Ha wa (Value.int .i64 (PF.spec_l2Key a0))) := by
 obtain ⟨r, hp⟩ : ∃ r, (PF.spec_l2Key a0) = r := ⟨_, rfl⟩
 rw [hp]
 unfold PF.spec_l2Key at hp
 have S0 := St.init hs
 refine calls_go (N := 10) (args := [Value.int .i64 a0]) Tryz.func293 rfl rfl rfl ?_
 refine FW.seq (FW.region ?_)
 refine FL.v (E.assign (v := Value.int .i64 0) rfl) ?_
 refine FL.nil (FW.seq (FW.seq (FW.region ?_)))
 refine FL.v (E.move (v := Value.int .i64 a0) rfl) ?_
 refine FL.v (E.lss rfl rfl) ?_
 refine FL.nil ?_
 rcases ifT hp with ⟨c21, hp⟩ | ⟨c21, hp⟩
 ·
  refine FW.condT rfl c21 ?_
  refine FW.seq (FW.region ?_)
  refine FL.v (E.move (v := Value.int .i64 a0) rfl) ?_
  refine FL.v (E.mul rfl rfl) ?_
  refine FL.v (E.add rfl rfl) ?_
  refine FL.v (E.assign (v := Value.int .i64 (wr ((wr ((-2) * a0)) + 1))) rfl) ?_
  refine FL.nil ?_
  refine FW.ret ?_
  obtain rfl := hp
  exact ⟨.inr rfl, res1 rfl rfl ⟨rfl, S0.back⟩⟩
 ·
  refine FW.condF rfl c21 ?_
  refine FW.skip (FW.seq (FW.region ?_))
  refine FL.v (E.move (v := Value.int .i64 a0) rfl) ?_
  refine FL.v (E.mul rfl rfl) ?_
  refine FL.v (E.assign (v := Value.int .i64 (wr (2 * a0))) rfl) ?_
  refine FL.nil ?_
  refine FW.ret ?_
  obtain rfl := hp
  exact ⟨.inr rfl, res1 rfl rfl ⟨rfl, S0.back⟩⟩

set_option maxHeartbeats 4000000 in
theorem w_spec_l2Before {Ha : GH} {wa : World} (hs : Sl Ha wa) (v0 : Value) (a0 : List Int) (p0 : RSl Ha eI 1 v0 a0) (v1 : Value) (a1 : List Int) (p1 : RSl Ha eI 1 v1 a1) {r : Bool} (hp : (PF.spec_l2Before a0 a1) = some r) :
  Calls Tryz.prog 225 #[v0, v1] wa (Sc Ha wa (Value.bool r)) := by
 unfold PF.spec_l2Before at hp
 have S0 := St.init hs
 refine calls_go (N := 42) (args := [v0, v1]) Tryz.func225 rfl rfl rfl ?_
 refine FW.seq (FW.region ?_)
 refine FL.v (E.assign (v := Value.bool false) rfl) ?_
 refine FL.nil (FW.seq (FW.seq (FW.region ?_)))
 refine FL.v (E.move (v := v0) rfl) ?_
 refine FL.v (E.lenP te25 rfl p0) ?_
 refine FL.v (E.move (v := v1) rfl) ?_
 refine FL.v (E.lenP te25 rfl p1) ?_
 refine FL.v (E.neq rfl rfl) ?_
 refine FL.nil ?_
 rcases ifB hp with ⟨c21, hp⟩ | ⟨c21, hp⟩
 ·
  refine FW.condT rfl c21 ?_
  refine FW.seq (FW.region ?_)
  refine FL.v (E.move (v := v0) rfl) ?_
  refine FL.v (E.lenP te25 rfl p0) ?_
  refine FL.v (E.move (v := v1) rfl) ?_
  refine FL.v (E.lenP te25 rfl p1) ?_
  refine FL.v (E.lss rfl rfl) ?_
  refine FL.v (E.assign (v := Value.bool (decide ((len a0) < (len a1)))) rfl) ?_
  refine FL.nil ?_
  refine FW.ret ?_
  obtain rfl := Option.some.inj hp
  exact ⟨.inr rfl, res1 rfl rfl ⟨rfl, S0.back⟩⟩
 ·
  refine FW.condF rfl c21 ?_
  refine FW.skip (FW.seq (FW.seq (FW.region ?_)))
  refine FL.v (E.assign (v := Value.int .i64 0) rfl) ?_
  refine FL.nil ?_
  obtain ⟨q23, hq, hp⟩ := bndR hp
  refine FW.block ?_
  refine FW.mono (FW.forL (S := Unit) (X := Bool) (fun (i23 : Nat) (s23 : Unit) f w => ∃ H : GH, St Ha wa H w [] ∧ Inc Ha H ∧ f 5 = Value.int .i64 ((i23 : Nat) : Int) ∧ f 0 = v0 ∧ f 1 = v1) (fun q e f w => match q with | .go s23 => e = Exit.exit 0 ∧ (∃ H : GH, St Ha wa H w [] ∧ Inc Ha H) | .rt x => ((e = Exit.ret) ∧ (fun e f w => (e = Exit.normal ∨ e = Exit.ret) ∧ ∀ a, Fr (δ := []) 42 a f → ∃ v, (results Tryz.f225 a.tmps).run Tryz.prog w = .ok v w ∧ (Sc Ha wa (Value.bool x)) (.returned v) w) e f w)) hq ⟨_, S0, (Inc.rfl _), rfl, rfl, rfl⟩ ?_ ?_) ?_
  ·
   clear hp hq
   rintro i23 y22 s23 f73 w72 ⟨H69, S70, i71, k74, k75, k76⟩ hx23 o114 hp
   refine FW.seq (FW.seq (FW.region ?_))
   refine FL.v (E.move k74) ?_
   refine FL.v (E.move k75) ?_
   refine FL.v (E.lenP te25 rfl p0) ?_
   refine FL.v (E.lssT rfl rfl (lss_len hx23)) ?_
   refine FL.nil ?_
   refine FW.condT rfl rfl ?_
   refine FW.skip (FW.seq (FW.block (FW.seq ?_)))
   refine FW.draw (fun w' => Run w72.heap.size H69 w72 H69 w') (by kernel_rfl) (by kernel_rfl) (run_drew S70.sl) ?_
   refine FD.val rfl rfl rfl (fun w' hw' => (E.move k75)) ?_
   refine FD.val rfl rfl rfl (fun w' hw' => (E.move k74)) ?_
   obtain ⟨p78, cs79, pt80, l81, at82, rel83⟩ := p0.at (ix_nat hx23)
   obtain rfl := eI_open rel83
   refine FD.val rfl rfl rfl (fun w' hw' => (E.indexAddr te25 rfl rfl pt80)) ?_
   refine FD.val rfl rfl rfl (fun w' hw' => (E.load rfl (run_load0 Tryz.isAgg3 ((at82.mono i71).now (S70.call hw').sl) rfl))) ?_
   refine FD.val rfl rfl rfl (fun w' hw' => (E.move k76)) ?_
   refine FD.val rfl rfl rfl (fun w' hw' => (E.move k74)) ?_
   obtain ⟨x90, hx91, hp⟩ := bnd hp
   obtain ⟨p84, cs85, pt86, l87, at88, rel89⟩ := p1.at hx91
   obtain rfl := eI_open rel89
   refine FD.val rfl rfl rfl (fun w' hw' => (E.indexAddr te25 rfl rfl pt86)) ?_
   refine FD.val rfl rfl rfl (fun w' hw' => (E.load rfl (run_load0 Tryz.isAgg3 ((at88.mono i71).now (S70.call hw').sl) rfl))) ?_
   refine FD.val rfl rfl rfl (fun w' hw' => (E.neq rfl rfl)) ?_
   refine FD.nil ?_
   intro w92 r94
   have S93 := S70.call r94
   rcases ifB hp with ⟨c95, hp⟩ | ⟨c95, hp⟩
   ·
    refine FW.condT rfl c95 ?_
    refine FW.seq ?_
    refine FW.draw (fun w' => Run w92.heap.size H69 w92 H69 w') (by kernel_rfl) (by kernel_rfl) (run_drew S93.sl) ?_
    refine FD.val rfl rfl rfl (fun w' hw' => (E.move k75)) ?_
    refine FD.val rfl rfl rfl (fun w' hw' => (E.move k74)) ?_
    obtain ⟨p97, cs98, pt99, l100, at101, rel102⟩ := p0.at (ix_nat hx23)
    obtain rfl := eI_open rel102
    refine FD.val rfl rfl rfl (fun w' hw' => (E.indexAddr te25 rfl rfl pt99)) ?_
    refine FD.val rfl rfl rfl (fun w' hw' => (E.load rfl (run_load0 Tryz.isAgg3 ((at101.mono i71).now (S93.call hw').sl) rfl))) ?_
    refine FD.call rfl rfl rfl (fun w' hw' => (E.call Tryz.call293 (A1 rfl))) (fun w' hw' => Calls.cls hw' (w_spec_l2Key (S93.call hw').sl y22)) ?_
    refine FD.val rfl rfl rfl (fun w' hw' => (E.move k76)) ?_
    refine FD.val rfl rfl rfl (fun w' hw' => (E.move k74)) ?_
    obtain ⟨x109, hx110, hp⟩ := bnd hp
    obtain ⟨p103, cs104, pt105, l106, at107, rel108⟩ := p1.at hx110
    obtain rfl := eI_open rel108
    refine FD.val rfl rfl rfl (fun w' hw' => (E.indexAddr te25 rfl rfl pt105)) ?_
    refine FD.val rfl rfl rfl (fun w' hw' => (E.load rfl (run_load0 Tryz.isAgg3 ((at107.mono i71).now (S93.call hw').sl) rfl))) ?_
    refine FD.call rfl rfl rfl (fun w' hw' => (E.call Tryz.call293 (A1 rfl))) (fun w' hw' => Calls.cls hw' (w_spec_l2Key (S93.call hw').sl x109)) ?_
    refine FD.val rfl rfl rfl (fun w' hw' => (E.lss rfl rfl)) ?_
    refine FD.val rfl rfl rfl (fun w' hw' => (E.assign (v := Value.bool (decide ((PF.spec_l2Key y22) < (PF.spec_l2Key x109)))) rfl)) ?_
    refine FD.nil ?_
    intro w111 r113
    have S112 := S93.call r113
    refine FW.ret ?_
    obtain rfl := Option.some.inj hp
    exact ⟨nofun, rfl, ⟨.inr rfl, res1 rfl rfl ⟨rfl, S112.back⟩⟩⟩
   ·
    refine FW.condF rfl c95 ?_
    refine FW.skip (FW.region ?_)
    refine FL.v (E.move k74) ?_
    refine FL.v (E.add rfl rfl) ?_
    refine FL.v (E.assign (v := Value.int .i64 (wr (((i23 : Nat) : Int) + 1))) rfl) ?_
    refine FL.nil ?_
    obtain rfl := Option.some.inj hp
    exact ⟨rfl, ⟨_, S93, i71, (nat_succ rfl (lt_of_get hx23) (p0.mono i71).le), k75, k76⟩⟩
  ·
   clear hp hq
   rintro s23 f124 w123 ⟨H120, S121, i122, k125, k126, k127⟩
   refine FW.seq (FW.seq (FW.region ?_))
   refine FL.v (E.move k125) ?_
   refine FL.v (E.move k126) ?_
   refine FL.v (E.lenP te25 rfl p0) ?_
   refine FL.v (E.lss rfl rfl) ?_
   refine FL.nil ?_
   refine FW.condF rfl dlt_len ?_
   refine FW.exit ?_
   exact ⟨nofun, rfl, ⟨_, S121, i122⟩⟩
  ·
   clear hq
   intro e f119 w118 hD
   rcases q23 with s23 | x23
   ·
    obtain ⟨rfl, hD⟩ := hD
    obtain ⟨H115, S116, i117⟩ := hD
    replace hp := el_go hp
    refine FW.seq (FW.region ?_)
    refine FL.v (E.assign (v := Value.bool false) rfl) ?_
    refine FL.nil ?_
    refine FW.ret ?_
    obtain rfl := Option.some.inj hp
    exact ⟨.inr rfl, res1 rfl rfl ⟨rfl, S116.back⟩⟩
   ·
    obtain ⟨he, hL⟩ := hD
    replace hp := el_rt hp
    obtain rfl := Option.some.inj hp
    subst he
    exact hL

theorem w_spec_l2Place {Ha : GH} {wa : World} (hs : Sl Ha wa) (v0 : Value) (a0 : List (List Int)) (p0 : RSl Ha (eL eI 1) 1 v0 a0) (v1 : Value) (a1 : List Int) (p1 : RSl Ha eI 1 v1 a1) {r : Int} (hp : (PF.spec_l2Place a0 a1) = some r) :
  Calls Tryz.prog 281 #[v0, v1] wa (Sc Ha wa (Value.int .i64 r)) := by
 unfold PF.spec_l2Place at hp
 have S0 := St.init hs
 refine calls_go (N := 27) (args := [v0, v1]) Tryz.func281 rfl rfl rfl ?_
 refine FW.seq (FW.region ?_)
 refine FL.v (E.assign (v := Value.int .i64 0) rfl) ?_
 refine FL.nil (FW.seq (FW.region ?_))
 refine FL.v (E.move (v := v0) rfl) ?_
 refine FL.v (E.lenP te22 rfl p0) ?_
 refine FL.v (E.assign (v := Value.int .i64 0) rfl) ?_
 refine FL.v (E.assign (v := Value.int .i64 (len a0)) rfl) ?_
 refine FL.nil (FW.seq ?_)
 obtain ⟨q21, hq, hp⟩ := bndR hp
 refine FW.block ?_
 refine FW.mono (FW.iter (S := (Int × Int)) (X := Empty) (fun (s21 : (Int × Int)) f w => ∃ H : GH, St Ha wa H w [] ∧ Inc Ha H ∧ f 0 = v0 ∧ f 1 = v1 ∧ f 5 = Value.int .i64 s21.1 ∧ f 6 = Value.int .i64 s21.2) (fun (q : Rs (Int × Int) Empty) e f w => match q with | .go s21 => e = Exit.exit 0 ∧ (∃ H : GH, St Ha wa H w [] ∧ Inc Ha H ∧ f 5 = Value.int .i64 s21.1) | .rt x => x.elim) hq ⟨_, S0, (Inc.rfl _), rfl, rfl, rfl, rfl⟩ ?_) ?_
 ·
  clear hp hq
  rintro s21 f52 w51 ⟨H48, S49, i50, k53, k54, k55, k56⟩ o74 hp
  refine FW.seq (FW.seq (FW.region ?_))
  refine FL.v (E.move k55) ?_
  refine FL.v (E.move k56) ?_
  refine FL.v (E.lss rfl rfl) ?_
  refine FL.nil ?_
  rcases ifB hp with ⟨c57, hp⟩ | ⟨c57, hp⟩
  ·
   refine FW.condT rfl c57 ?_
   refine FW.skip (FW.block (FW.seq (FW.region ?_)))
   refine FL.v (E.move k55) ?_
   refine FL.v (E.move k56) ?_
   refine FL.v (E.add rfl rfl) ?_
   refine FL.v (E.quo rfl rfl (by decide)) ?_
   refine FL.v (E.assign (v := Value.int .i64 (wr ((wr (s21.1 + s21.2)).tdiv 2))) rfl) ?_
   refine FL.nil (FW.seq (FW.region ?_))
   refine FL.v (E.move k53) ?_
   refine FL.v (E.move (v := Value.int .i64 (wr ((wr (s21.1 + s21.2)).tdiv 2))) rfl) ?_
   obtain ⟨x64, hx65, hp⟩ := bnd hp
   obtain ⟨p58, cs59, pt60, l61, at62, rel63⟩ := p0.at hx65
   obtain ⟨v66, rfl, h67⟩ := eL_open rel63
   refine FL.v (E.indexAddr te22 rfl rfl pt60) ?_
   refine FL.v (E.load rfl (run_load0 Tryz.isAgg25 ((at62.mono i50).now S49.sl) rfl)) ?_
   refine FL.v (E.move k54) ?_
   obtain ⟨r68, hr69, hp⟩ := bnd hp
   refine FL.call rfl rfl rfl (E.call Tryz.call225 (A2 rfl rfl)) (w_spec_l2Before S49.sl v66 x64 (h67.mono i50) v1 a1 (p1.mono i50) hr69) ?_
   rintro e w70 ⟨rfl, r71⟩
   refine ⟨_, rfl, ?_⟩
   have S72 := S49.call r71
   refine FL.nil ?_
   rcases ifB hp with ⟨c73, hp⟩ | ⟨c73, hp⟩
   ·
    refine FW.condT rfl c73 ?_
    refine FW.region ?_
    refine FL.v (E.move (v := Value.int .i64 (wr ((wr (s21.1 + s21.2)).tdiv 2))) rfl) ?_
    refine FL.v (E.add rfl rfl) ?_
    refine FL.v (E.assign (v := Value.int .i64 (wr ((wr ((wr (s21.1 + s21.2)).tdiv 2)) + 1))) rfl) ?_
    refine FL.nil ?_
    obtain rfl := Option.some.inj hp
    exact ⟨rfl, ⟨_, S72, i50, k53, k54, rfl, k56⟩⟩
   ·
    refine FW.condF rfl c73 ?_
    refine FW.region ?_
    refine FL.v (E.move (v := Value.int .i64 (wr ((wr (s21.1 + s21.2)).tdiv 2))) rfl) ?_
    refine FL.v (E.assign (v := Value.int .i64 (wr ((wr (s21.1 + s21.2)).tdiv 2))) rfl) ?_
    refine FL.nil ?_
    obtain rfl := Option.some.inj hp
    exact ⟨rfl, ⟨_, S72, i50, k53, k54, k55, rfl⟩⟩
  ·
   refine FW.condF rfl c57 ?_
   refine FW.exit ?_
   obtain rfl := Option.some.inj hp
   exact ⟨nofun, rfl, ⟨_, S49, i50, k55⟩⟩
 ·
  clear hq
  intro e f79 w78 hD
  rcases q21 with s21 | x21
  ·
   obtain ⟨rfl, hD⟩ := hD
   obtain ⟨H75, S76, i77, k80⟩ := hD
   replace hp := el_go hp
   refine FW.seq (FW.region ?_)
   refine FL.v (E.move k80) ?_
   refine FL.v (E.assign (v := Value.int .i64 s21.1) rfl) ?_
   refine FL.nil ?_
   refine FW.ret ?_
   obtain rfl := Option.some.inj hp
   exact ⟨.inr rfl, res1 rfl rfl ⟨rfl, S76.back⟩⟩
  ·
   exact x21.elim

set_option maxHeartbeats 4000000 in
theorem w_spec_l1Same {Ha : GH} {wa : World} (hs : Sl Ha wa) (v0 : Value) (a0 : List Int) (p0 : RSl Ha eI 1 v0 a0) (v1 : Value) (a1 : List Int) (p1 : RSl Ha eI 1 v1 a1) {r : Bool} (hp : (PF.spec_l1Same a0 a1) = some r) :
  Calls Tryz.prog 255 #[v0, v1] wa (Sc Ha wa (Value.bool r)) := by
 unfold PF.spec_l1Same at hp
 have S0 := St.init hs
 refine calls_go (N := 26) (args := [v0, v1]) Tryz.func255 rfl rfl rfl ?_
 refine FW.seq (FW.region ?_)
 refine FL.v (E.assign (v := Value.bool false) rfl) ?_
 refine FL.nil (FW.seq (FW.seq (FW.region ?_)))
 refine FL.v (E.move (v := v0) rfl) ?_
 refine FL.v (E.lenP te25 rfl p0) ?_
 refine FL.v (E.move (v := v1) rfl) ?_
 refine FL.v (E.lenP te25 rfl p1) ?_
 refine FL.v (E.neq rfl rfl) ?_
 refine FL.nil ?_
 rcases ifB hp with ⟨c21, hp⟩ | ⟨c21, hp⟩
 ·
  refine FW.condT rfl c21 ?_
  refine FW.seq (FW.region ?_)
  refine FL.v (E.assign (v := Value.bool false) rfl) ?_
  refine FL.nil ?_
  refine FW.ret ?_
  obtain rfl := Option.some.inj hp
  exact ⟨.inr rfl, res1 rfl rfl ⟨rfl, S0.back⟩⟩
 ·
  refine FW.condF rfl c21 ?_
  refine FW.skip (FW.seq (FW.seq (FW.region ?_)))
  refine FL.v (E.assign (v := Value.int .i64 0) rfl) ?_
  refine FL.nil ?_
  obtain ⟨q23, hq, hp⟩ := bndR hp
  refine FW.block ?_
  refine FW.mono (FW.forL (S := Unit) (X := Bool) (fun (i23 : Nat) (s23 : Unit) f w => ∃ H : GH, St Ha wa H w [] ∧ Inc Ha H ∧ f 5 = Value.int .i64 ((i23 : Nat) : Int) ∧ f 0 = v0 ∧ f 1 = v1) (fun q e f w => match q with | .go s23 => e = Exit.exit 0 ∧ (∃ H : GH, St Ha wa H w [] ∧ Inc Ha H) | .rt x => ((e = Exit.ret) ∧ (fun e f w => (e = Exit.normal ∨ e = Exit.ret) ∧ ∀ a, Fr (δ := []) 26 a f → ∃ v, (results Tryz.f255 a.tmps).run Tryz.prog w = .ok v w ∧ (Sc Ha wa (Value.bool x)) (.returned v) w) e f w)) hq ⟨_, S0, (Inc.rfl _), rfl, rfl, rfl⟩ ?_ ?_) ?_
  ·
   clear hp hq
   rintro i23 y22 s23 f55 w54 ⟨H51, S52, i53, k56, k57, k58⟩ hx23 o78 hp
   refine FW.seq (FW.seq (FW.region ?_))
   refine FL.v (E.move k56) ?_
   refine FL.v (E.move k57) ?_
   refine FL.v (E.lenP te25 rfl p0) ?_
   refine FL.v (E.lssT rfl rfl (lss_len hx23)) ?_
   refine FL.nil ?_
   refine FW.condT rfl rfl ?_
   refine FW.skip (FW.seq (FW.block (FW.seq ?_)))
   refine FW.draw (fun w' => Run w54.heap.size H51 w54 H51 w') (by kernel_rfl) (by kernel_rfl) (run_drew S52.sl) ?_
   refine FD.val rfl rfl rfl (fun w' hw' => (E.move k57)) ?_
   refine FD.val rfl rfl rfl (fun w' hw' => (E.move k56)) ?_
   obtain ⟨p60, cs61, pt62, l63, at64, rel65⟩ := p0.at (ix_nat hx23)
   obtain rfl := eI_open rel65
   refine FD.val rfl rfl rfl (fun w' hw' => (E.indexAddr te25 rfl rfl pt62)) ?_
   refine FD.val rfl rfl rfl (fun w' hw' => (E.load rfl (run_load0 Tryz.isAgg3 ((at64.mono i53).now (S52.call hw').sl) rfl))) ?_
   refine FD.val rfl rfl rfl (fun w' hw' => (E.move k58)) ?_
   refine FD.val rfl rfl rfl (fun w' hw' => (E.move k56)) ?_
   obtain ⟨x72, hx73, hp⟩ := bnd hp
   obtain ⟨p66, cs67, pt68, l69, at70, rel71⟩ := p1.at hx73
   obtain rfl := eI_open rel71
   refine FD.val rfl rfl rfl (fun w' hw' => (E.indexAddr te25 rfl rfl pt68)) ?_
   refine FD.val rfl rfl rfl (fun w' hw' => (E.load rfl (run_load0 Tryz.isAgg3 ((at70.mono i53).now (S52.call hw').sl) rfl))) ?_
   refine FD.val rfl rfl rfl (fun w' hw' => (E.neq rfl rfl)) ?_
   refine FD.nil ?_
   intro w74 r76
   have S75 := S52.call r76
   rcases ifB hp with ⟨c77, hp⟩ | ⟨c77, hp⟩
   ·
    refine FW.condT rfl c77 ?_
    refine FW.seq (FW.region ?_)
    refine FL.v (E.assign (v := Value.bool false) rfl) ?_
    refine FL.nil ?_
    refine FW.ret ?_
    obtain rfl := Option.some.inj hp
    exact ⟨nofun, rfl, ⟨.inr rfl, res1 rfl rfl ⟨rfl, S75.back⟩⟩⟩
   ·
    refine FW.condF rfl c77 ?_
    refine FW.skip (FW.region ?_)
    refine FL.v (E.move k56) ?_
    refine FL.v (E.add rfl rfl) ?_
    refine FL.v (E.assign (v := Value.int .i64 (wr (((i23 : Nat) : Int) + 1))) rfl) ?_
    refine FL.nil ?_
    obtain rfl := Option.some.inj hp
    exact ⟨rfl, ⟨_, S75, i53, (nat_succ rfl (lt_of_get hx23) (p0.mono i53).le), k57, k58⟩⟩
  ·
   clear hp hq
   rintro s23 f88 w87 ⟨H84, S85, i86, k89, k90, k91⟩
   refine FW.seq (FW.seq (FW.region ?_))
   refine FL.v (E.move k89) ?_
   refine FL.v (E.move k90) ?_
   refine FL.v (E.lenP te25 rfl p0) ?_
   refine FL.v (E.lss rfl rfl) ?_
   refine FL.nil ?_
   refine FW.condF rfl dlt_len ?_
   refine FW.exit ?_
   exact ⟨nofun, rfl, ⟨_, S85, i86⟩⟩
  ·
   clear hq
   intro e f83 w82 hD
   rcases q23 with s23 | x23
   ·
    obtain ⟨rfl, hD⟩ := hD
    obtain ⟨H79, S80, i81⟩ := hD
    replace hp := el_go hp
    refine FW.seq (FW.region ?_)
    refine FL.v (E.assign (v := Value.bool true) rfl) ?_
    refine FL.nil ?_
    refine FW.ret ?_
    obtain rfl := Option.some.inj hp
    exact ⟨.inr rfl, res1 rfl rfl ⟨rfl, S80.back⟩⟩
   ·
    obtain ⟨he, hL⟩ := hD
    replace hp := el_rt hp
    obtain rfl := Option.some.inj hp
    subst he
    exact hL

@[reducible] def p_spec_l2Insert (Ha : GH) (wa : World) (r : (List (List Int))) : Ending → World → Prop :=
 fun e w' => ∃ H' : GH, ∃ v0 : Value, e = .returned (v0) ∧ Run wa.heap.size Ha wa H' w' ∧ RSl H' (eL eI 1) 1 v0 r
set_option maxHeartbeats 4000000 in
theorem w_spec_l2Insert {Ha : GH} {wa : World} (hs : Sl Ha wa) (v0 : Value) (a0 : List (List Int)) (p0 : RSl Ha (eL eI 1) 1 v0 a0) (v1 : Value) (a1 : List Int) (p1 : RSl Ha eI 1 v1 a1) {r : (List (List Int))} (hp : (PF.spec_l2Insert a0 a1) = some r) :
  Calls Tryz.prog 195 #[v0, v1] wa (p_spec_l2Insert Ha wa r) := by
 unfold PF.spec_l2Insert at hp
 have S0 := St.init hs
 refine calls_go (N := 34) (args := [v0, v1]) Tryz.func195 rfl rfl rfl ?_
 refine FW.seq (FW.region ?_)
 refine FL.v (E.assign (v := Value.slice none 0 0) rfl) ?_
 refine FL.nil (FW.seq (FW.region ?_))
 refine FL.v (E.move (v := v0) rfl) ?_
 refine FL.v (E.move (v := v1) rfl) ?_
 obtain ⟨r21, hr22, hp⟩ := bnd hp
 refine FL.call rfl rfl rfl (E.call Tryz.call281 (A2 rfl rfl)) (w_spec_l2Place S0.sl v0 a0 p0 v1 a1 p1 hr22) ?_
 rintro e w23 ⟨rfl, r24⟩
 refine ⟨_, rfl, ?_⟩
 have S25 := S0.call r24
 refine FL.v (E.assign (v := Value.int .i64 r21) rfl) ?_
 refine FL.nil (FW.seq (FW.seq (FW.region ?_)))
 refine FL.v (E.move (v := Value.int .i64 r21) rfl) ?_
 refine FL.v (E.move (v := v0) rfl) ?_
 refine FL.v (E.lenP te22 rfl p0) ?_
 refine FL.v (E.lss rfl rfl) ?_
 refine FL.v (E.move (v := Value.bool (decide (r21 < (len a0)))) rfl) ?_
 obtain ⟨t41, hqt41, hp⟩ := bnd hp
 refine FL.cut 7 (fun f w => ∃ H : GH, St Ha wa H w [] ∧ Inc Ha H ∧ f 0 = v0 ∧ f 1 = v1 ∧ f 5 = Value.int .i64 r21 ∧ f 20 = Value.bool t41) ?_ ?_
 ·
  clear hp; have hp := hqt41; clear hqt41
  rcases ifB hp with ⟨c47, hp⟩ | ⟨c47, hp⟩
  ·
   refine FL.val (wF_yes rfl rfl rfl c47) rfl rfl (E.move (v := v0) rfl) ?_
   refine FL.val (wF_yes rfl rfl rfl c47) rfl rfl (E.move (v := Value.int .i64 r21) rfl) ?_
   obtain ⟨x54, hx55, hp⟩ := bnd hp
   obtain ⟨p48, cs49, pt50, l51, at52, rel53⟩ := p0.at hx55
   obtain ⟨v56, rfl, h57⟩ := eL_open rel53
   refine FL.val (wF_yes rfl rfl rfl c47) rfl rfl (E.indexAddr te22 rfl rfl pt50) ?_
   refine FL.val (wF_yes rfl rfl rfl c47) rfl rfl (E.load rfl (run_load0 Tryz.isAgg25 (at52.now S25.sl) rfl)) ?_
   refine FL.val (wF_yes rfl rfl rfl c47) rfl rfl (E.move (v := v1) rfl) ?_
   obtain ⟨r58, hr59, hp⟩ := bnd hp
   refine FL.call (wF_yes rfl rfl rfl c47) rfl rfl (E.call Tryz.call255 (A2 rfl rfl)) (w_spec_l1Same S25.sl v56 x54 h57 v1 a1 p1 hr59) ?_
   rintro e w60 ⟨rfl, r61⟩
   refine ⟨_, rfl, ?_⟩
   have S62 := S25.call r61
   obtain rfl := Option.some.inj hp
   refine FL.v (E.pickT rfl c47 rfl) ?_
   exact FL.nil ⟨rfl, _, S62, (Inc.rfl _), rfl, rfl, rfl, rfl⟩
  ·
   refine FL.skip (wF_no rfl rfl rfl c47) rfl ?_
   refine FL.skip (wF_no rfl rfl rfl c47) rfl ?_
   refine FL.skip (wF_no rfl rfl rfl c47) rfl ?_
   refine FL.skip (wF_no rfl rfl rfl c47) rfl ?_
   refine FL.skip (wF_no rfl rfl rfl c47) rfl ?_
   refine FL.skip (wF_no rfl rfl rfl c47) rfl ?_
   obtain rfl := Option.some.inj hp
   refine FL.v (E.pickF rfl c47 rfl) ?_
   exact FL.nil ⟨rfl, _, S25, (Inc.rfl _), rfl, rfl, rfl, rfl⟩
 rintro f46 w45 ⟨H42, S43, i44, k63, k64, k65, k66⟩
 refine FL.nil ?_
 rcases ifB hp with ⟨c67, hp⟩ | ⟨c67, hp⟩
 ·
  refine FW.condT k66 c67 ?_
  refine FW.seq (FW.region ?_)
  refine FL.v (E.move k63) ?_
  refine FL.v (E.assign (v := v0) rfl) ?_
  refine FL.nil ?_
  refine FW.ret ?_
  obtain rfl := Option.some.inj hp
  exact ⟨.inr rfl, res1 rfl rfl ⟨_, _, rfl, S43.run, (p0.mono i44)⟩⟩
 ·
  refine FW.condF k66 c67 ?_
  refine FW.skip (FW.seq ?_)
  obtain ⟨xs31, hc32, hp⟩ := bnd hp
  obtain ⟨xs36, hz37, hp⟩ := bnd hp
  obtain ⟨xs80, hz81, hp⟩ := bnd hp
  obtain ⟨xs91, hc92, hp⟩ := bnd hp
  obtain ⟨xs96, hz97, hp⟩ := bnd hp
  refine FW.drawB (Sl H42) (fun f w => ∃ H : GH, ∃ v105 : Value, ∃ n106 : Nat, ∃ cs107 : List Value, St Ha wa H w [.row 25 1 v105 n106 cs107] ∧ Inc H42 H ∧ Els H (eL eI 1) 1 cs107 xs96 ∧ f 4 = v105) (by kernel_rfl) S43.sl ?_ ?_
  ·
   intro w68 r69
   have S70 := S43.call r69
   refine FB.t (i := 1) (bs 13 2) rfl (SP.nil S70.sl) rfl (fun w' hw' => (E.move k63)) ?_
   refine FB.t (i := 2) (bs 13 6) rfl (SP.nil S70.sl) rfl (fun w' hw' => (E.move k65)) ?_
   obtain ⟨v33, run34, h35⟩ := p0.cut te22 hc32 (lo := none) (hi := some (Value.int .i64 r21)) (.inl ⟨rfl, rfl⟩) (.inr ⟨_, rfl⟩)
   refine FB.t (i := 3) (bs 13 14) rfl (SP.nil S70.sl) rfl (fun w' hw' => (E.slice te22 rfl rfl (congrArg some rfl) rfl (run34 _))) ?_
   refine FB.t (i := 5) (bs 13 46) rfl (SP.nil S70.sl) rfl (fun w' hw' => (E.move k64)) ?_
   refine FB.t (i := 8) (bs 13 302) rfl (SP.nil S70.sl) rfl (fun w' hw' => (E.move k63)) ?_
   refine FB.t (i := 9) (bs 13 814) rfl (SP.nil S70.sl) rfl (fun w' hw' => (E.move k65)) ?_
   obtain ⟨v93, run94, h95⟩ := p0.cut te22 hc92 (lo := some (Value.int .i64 r21)) (hi := none) (.inr ⟨_, rfl⟩) (.inl ⟨rfl, rfl⟩)
   refine FB.t (i := 10) (bs 13 1838) rfl (SP.nil S70.sl) rfl (fun w' hw' => (E.slice te22 rfl (congrArg some rfl) rfl rfl (run94 _))) ?_
   refine FB.all2 (i := 0) (j := 6) (by kernel_rfl) ?_ ?_
   ·
    obtain ⟨v26, w27, run28, S29⟩ := S70.buildSlice (P := Tryz.prog) te22 [] (parts := #[]) (cells := []) rfl szs_nil fc_nil ones_nil (Nat.le_of_ble_eq_true rfl)
    have els30 : Els (up wa.heap.size H42) (eL eI 1) 1 [] [] := Els.nil
    refine FC.val (l' := (bs 13 1839)) rfl (by kernel_rfl) rfl rfl rfl (E.buildSlice (B0) run28) ?_
    refine ⟨(SP.nil S29.sl), ?_⟩
    refine FB.all2 (i := 4) (j := 6) (by kernel_rfl) ?_ ?_
    ·
     obtain ⟨v38, w71, n39, cs40, run72, S73, els74⟩ := S29.appendP (P := Tryz.prog) (Inc.rfl _) te22 (i := 0) rfl (els30.mono upI) (h35.mono i44) hz37
     have S73 : St Ha wa H42 w71 [.row 25 1 v38 n39 cs40] := S73
     refine FC.val (l' := (bs 13 1855)) rfl (by kernel_rfl) rfl rfl rfl (E.append rfl rfl run72) ?_
     refine ⟨(SP.nil S73.sl), ?_⟩
     refine FB.all1 (i := 6) (by kernel_rfl) ?_
     ·
      obtain ⟨v75, w76, run77, S78⟩ := S73.buildSlice (P := Tryz.prog) te22 [v1] (parts := #[(0, v1)]) (cells := [v1]) rfl (szs_cons (cells_size p1.cells) szs_nil) (fc_cons p1.cells fc_nil) (ones_cons p1.one ones_nil) (Nat.le_of_ble_eq_true rfl)
      have els79 : Els H42 (eL eI 1) 1 [v1] [a1] := (Els.snoc (H := H42) (E := (eL eI 1)) (k := 1) (c := [v1]) (x := a1) Els.nil rfl ⟨_, rfl, (p1.mono i44)⟩)
      refine FC.val (l' := (bs 13 1919)) rfl (by kernel_rfl) rfl rfl rfl (E.buildSlice (B1 rfl) run77) ?_
      refine ⟨(SP.nil S78.sl), ?_⟩
      refine FB.all1 (i := 7) (by kernel_rfl) ?_
      ·
       obtain ⟨v82, w85, n83, cs84, run86, S87, els88, ce89⟩ := S78.appendO (P := Tryz.prog) te22 (i := 1) (j := 0) rfl els74 rfl els79 hz81
       have S87 : St Ha wa H42 w85 [.row 25 1 v75 1 [v1], .row 25 1 v82 n83 cs84] := S87
       have S90 : St Ha wa H42 w85 [.row 25 1 v82 n83 cs84] := S87.drop 0
       refine FC.val (l' := (bs 13 2047)) rfl (by kernel_rfl) rfl rfl rfl (E.append rfl rfl run86) ?_
       refine ⟨(SP.nil S90.sl), ?_⟩
       refine FB.all1 (i := 11) (by kernel_rfl) ?_
       ·
        obtain ⟨v98, w101, n99, cs100, run102, S103, els104⟩ := S90.appendP (P := Tryz.prog) (Inc.rfl _) te22 (i := 0) rfl els88 (h95.mono i44) hz97
        have S103 : St Ha wa H42 w101 [.row 25 1 v98 n99 cs100] := S103
        refine FC.val (l' := (bs 13 4095)) rfl (by kernel_rfl) rfl rfl rfl (E.append rfl rfl run102) ?_
        refine ⟨(SP.nil S103.sl), ?_⟩
        refine FB.t (i := 12) (bs 13 8191) rfl (SP.nil S103.sl) rfl (fun w' hw' => (E.assign (v := v98) rfl)) ?_
        exact FB.done (by kernel_rfl) ⟨_, _, _, _, S103, (Inc.rfl _), els104, rfl⟩
    ·
     obtain ⟨v75, w76, run77, S78⟩ := S29.buildSlice (P := Tryz.prog) te22 [v1] (parts := #[(0, v1)]) (cells := [v1]) rfl (szs_cons (cells_size p1.cells) szs_nil) (fc_cons p1.cells fc_nil) (ones_cons p1.one ones_nil) (Nat.le_of_ble_eq_true rfl)
     have els79 : Els H42 (eL eI 1) 1 [v1] [a1] := (Els.snoc (H := H42) (E := (eL eI 1)) (k := 1) (c := [v1]) (x := a1) Els.nil rfl ⟨_, rfl, (p1.mono i44)⟩)
     refine FC.val (l' := (bs 13 1903)) rfl (by kernel_rfl) rfl rfl rfl (E.buildSlice (B1 rfl) run77) ?_
     refine ⟨(SP.nil S78.sl), ?_⟩
     refine FB.all1 (i := 4) (by kernel_rfl) ?_
     ·
      obtain ⟨v38, w71, n39, cs40, run72, S73, els74⟩ := S78.appendP (P := Tryz.prog) (Inc.rfl _) te22 (i := 1) rfl (els30.mono upI) (h35.mono i44) hz37
      have S73 : St Ha wa H42 w71 [.row 25 1 v75 1 [v1], .row 25 1 v38 n39 cs40] := S73
      refine FC.val (l' := (bs 13 1919)) rfl (by kernel_rfl) rfl rfl rfl (E.append rfl rfl run72) ?_
      refine ⟨(SP.nil S73.sl), ?_⟩
      refine FB.all1 (i := 7) (by kernel_rfl) ?_
      ·
       obtain ⟨v82, w85, n83, cs84, run86, S87, els88, ce89⟩ := S73.appendO (P := Tryz.prog) te22 (i := 1) (j := 0) rfl els74 rfl els79 hz81
       have S87 : St Ha wa H42 w85 [.row 25 1 v75 1 [v1], .row 25 1 v82 n83 cs84] := S87
       have S90 : St Ha wa H42 w85 [.row 25 1 v82 n83 cs84] := S87.drop 0
       refine FC.val (l' := (bs 13 2047)) rfl (by kernel_rfl) rfl rfl rfl (E.append rfl rfl run86) ?_
       refine ⟨(SP.nil S90.sl), ?_⟩
       refine FB.all1 (i := 11) (by kernel_rfl) ?_
       ·
        obtain ⟨v98, w101, n99, cs100, run102, S103, els104⟩ := S90.appendP (P := Tryz.prog) (Inc.rfl _) te22 (i := 0) rfl els88 (h95.mono i44) hz97
        have S103 : St Ha wa H42 w101 [.row 25 1 v98 n99 cs100] := S103
        refine FC.val (l' := (bs 13 4095)) rfl (by kernel_rfl) rfl rfl rfl (E.append rfl rfl run102) ?_
        refine ⟨(SP.nil S103.sl), ?_⟩
        refine FB.t (i := 12) (bs 13 8191) rfl (SP.nil S103.sl) rfl (fun w' hw' => (E.assign (v := v98) rfl)) ?_
        exact FB.done (by kernel_rfl) ⟨_, _, _, _, S103, (Inc.rfl _), els104, rfl⟩
   ·
    obtain ⟨v75, w76, run77, S78⟩ := S70.buildSlice (P := Tryz.prog) te22 [v1] (parts := #[(0, v1)]) (cells := [v1]) rfl (szs_cons (cells_size p1.cells) szs_nil) (fc_cons p1.cells fc_nil) (ones_cons p1.one ones_nil) (Nat.le_of_ble_eq_true rfl)
    have els79 : Els H42 (eL eI 1) 1 [v1] [a1] := (Els.snoc (H := H42) (E := (eL eI 1)) (k := 1) (c := [v1]) (x := a1) Els.nil rfl ⟨_, rfl, (p1.mono i44)⟩)
    refine FC.val (l' := (bs 13 1902)) rfl (by kernel_rfl) rfl rfl rfl (E.buildSlice (B1 rfl) run77) ?_
    refine ⟨(SP.nil S78.sl), ?_⟩
    refine FB.all1 (i := 0) (by kernel_rfl) ?_
    ·
     obtain ⟨v26, w27, run28, S29⟩ := S78.buildSlice (P := Tryz.prog) te22 [] (parts := #[]) (cells := []) rfl szs_nil fc_nil ones_nil (Nat.le_of_ble_eq_true rfl)
     have els30 : Els (up wa.heap.size H42) (eL eI 1) 1 [] [] := Els.nil
     refine FC.val (l' := (bs 13 1903)) rfl (by kernel_rfl) rfl rfl rfl (E.buildSlice (B0) run28) ?_
     refine ⟨(SP.nil S29.sl), ?_⟩
     refine FB.all1 (i := 4) (by kernel_rfl) ?_
     ·
      obtain ⟨v38, w71, n39, cs40, run72, S73, els74⟩ := S29.appendP (P := Tryz.prog) (Inc.rfl _) te22 (i := 0) rfl (els30.mono upI) (h35.mono i44) hz37
      have S73 : St Ha wa H42 w71 [.row 25 1 v38 n39 cs40, .row 25 1 v75 1 [v1]] := S73
      refine FC.val (l' := (bs 13 1919)) rfl (by kernel_rfl) rfl rfl rfl (E.append rfl rfl run72) ?_
      refine ⟨(SP.nil S73.sl), ?_⟩
      refine FB.all1 (i := 7) (by kernel_rfl) ?_
      ·
       obtain ⟨v82, w85, n83, cs84, run86, S87, els88, ce89⟩ := S73.appendO (P := Tryz.prog) te22 (i := 0) (j := 1) rfl els74 rfl els79 hz81
       have S87 : St Ha wa H42 w85 [.row 25 1 v82 n83 cs84, .row 25 1 v75 1 [v1]] := S87
       have S90 : St Ha wa H42 w85 [.row 25 1 v82 n83 cs84] := S87.drop 1
       refine FC.val (l' := (bs 13 2047)) rfl (by kernel_rfl) rfl rfl rfl (E.append rfl rfl run86) ?_
       refine ⟨(SP.nil S90.sl), ?_⟩
       refine FB.all1 (i := 11) (by kernel_rfl) ?_
       ·
        obtain ⟨v98, w101, n99, cs100, run102, S103, els104⟩ := S90.appendP (P := Tryz.prog) (Inc.rfl _) te22 (i := 0) rfl els88 (h95.mono i44) hz97
        have S103 : St Ha wa H42 w101 [.row 25 1 v98 n99 cs100] := S103
        refine FC.val (l' := (bs 13 4095)) rfl (by kernel_rfl) rfl rfl rfl (E.append rfl rfl run102) ?_
        refine ⟨(SP.nil S103.sl), ?_⟩
        refine FB.t (i := 12) (bs 13 8191) rfl (SP.nil S103.sl) rfl (fun w' hw' => (E.assign (v := v98) rfl)) ?_
        exact FB.done (by kernel_rfl) ⟨_, _, _, _, S103, (Inc.rfl _), els104, rfl⟩
  ·
   rintro f113 w112 ⟨H109, v105, n106, cs107, S110, i111, els108, k114⟩
   refine FW.ret ?_
   obtain ⟨H115, S116, i117, h118⟩ := S110.sealRow (i := 0) (l' := []) rfl els108 (by decide) rfl
   obtain rfl := Option.some.inj hp
   exact ⟨.inr rfl, res1 rfl k114 ⟨_, _, rfl, S116.run, h118⟩⟩

@[reducible] def p_spec_l10Order (Ha : GH) (wa : World) (r : (List Int)) : Ending → World → Prop :=
 fun e w' => ∃ H' : GH, ∃ v0 : Value, ∃ n0 : Nat, ∃ c0 : List Value, e = .returned (v0) ∧ St Ha wa H' w' [.row 3 1 v0 n0 c0] ∧ Els (up wa.heap.size H') eI 1 c0 r
set_option maxHeartbeats 4000000 in
theorem w_spec_l10Order {Ha : GH} {wa : World} (hs : Sl Ha wa) (a0 : l10Work) (v0_0 : Value) (p0_0 : RSl Ha (eL eI 1) 1 v0_0 a0.list) (v0_1 : Value) (p0_1 : RSl Ha eI 1 v0_1 a0.rounds) (v0_2 : Value) (p0_2 : RSl Ha eI 1 v0_2 a0.left) (v0_3 : Value) (p0_3 : RSl Ha eI 1 v0_3 a0.right) (v0_4 : Value) (p0_4 : RSl Ha eI 1 v0_4 a0.pivots) (v0_5 : Value) (p0_5 : RSl Ha (eL eI 1) 1 v0_5 a0.sorted) {r : (List Int)} (hp : (PF.spec_l10Order a0) = some r) :
  Calls Tryz.prog 309 #[Value.agg #[v0_0, v0_1, v0_2, v0_3, v0_4, v0_5]] wa (p_spec_l10Order Ha wa r) := by
 unfold PF.spec_l10Order at hp
 have S0 := St.init hs
 refine calls_go (N := 54) (args := [Value.agg #[v0_0, v0_1, v0_2, v0_3, v0_4, v0_5]]) Tryz.func309 rfl rfl rfl ?_
 refine FW.seq (FW.region ?_)
 obtain ⟨b21, w22, run23, S24⟩ := S0.box (P := Tryz.prog) 163 [v0_0, v0_1, v0_2, v0_3, v0_4, v0_5] (v := Value.agg #[v0_0, v0_1, v0_2, v0_3, v0_4, v0_5]) rfl (ones_cons p0_0.one (ones_cons p0_1.one (ones_cons p0_2.one (ones_cons p0_3.one (ones_cons p0_4.one (ones_cons p0_5.one ones_nil))))))
 refine FL.v (E.box rfl run23) ?_
 obtain ⟨H25, S26, i27, at28⟩ := S24.sealBox (i := 0) (l' := []) rfl rfl
 refine FL.v (E.assign (v := Value.slice none 0 0) rfl) ?_
 refine FL.nil (FW.seq (FW.region ?_))
 obtain ⟨v29, w30, run31, S32⟩ := S26.buildSlice (P := Tryz.prog) te25 [] (parts := #[]) (cells := []) rfl szs_nil fc_nil ones_nil (Nat.le_of_ble_eq_true rfl)
 have els33 : Els (up wa.heap.size H25) eI 1 [] [] := Els.nil
 refine FL.v (E.buildSlice (B0) run31) ?_
 refine FL.v (E.assign (v := v29) rfl) ?_
 refine FL.nil (FW.seq (FW.seq (FW.region ?_)))
 refine FL.v (E.assign (v := Value.int .i64 0) rfl) ?_
 refine FL.nil ?_
 obtain ⟨q34, hq, hp⟩ := bndR hp
 refine FW.block ?_
 refine FW.mono (FW.iter (S := ((List Int) × Int)) (X := Empty) (fun (s34 : ((List Int) × Int)) f w => ∃ H : GH, ∃ v35 : Value, ∃ n36 : Nat, ∃ cs37 : List Value, St Ha wa H w [.row 3 1 v35 n36 cs37] ∧ Inc H25 H ∧ Els (up wa.heap.size H) eI 1 cs37 s34.1 ∧ f 1 = Value.pointer (some ⟨b21, 0, none⟩) ∧ f 3 = v35 ∧ f 4 = Value.int .i64 s34.2) (fun (q : Rs ((List Int) × Int) Empty) e f w => match q with | .go s34 => e = Exit.exit 0 ∧ (∃ H : GH, ∃ v35 : Value, ∃ n36 : Nat, ∃ cs37 : List Value, St Ha wa H w [.row 3 1 v35 n36 cs37] ∧ Inc H25 H ∧ Els (up wa.heap.size H) eI 1 cs37 s34.1 ∧ f 3 = v35) | .rt x => x.elim) hq ⟨_, _, _, _, S32, (Inc.rfl _), els33, rfl, rfl, rfl⟩ ?_) ?_
 ·
  clear hp hq
  rintro s34 f43 w42 ⟨H39, v35, n36, cs37, S40, i41, els38, k44, k45, k46⟩ o175 hp
  refine FW.seq (FW.seq (FW.region ?_))
  refine FL.v (E.move k46) ?_
  refine FL.v (E.fieldAddr tf163_0 k44) ?_
  refine FL.v (E.load rfl (run_load1 Tryz.isAgg22 ((at28.mono i41).now S40.sl) rfl)) ?_
  refine FL.v (E.lenP te22 rfl p0_0) ?_
  refine FL.v (E.lss rfl rfl) ?_
  refine FL.nil ?_
  rcases ifB hp with ⟨c47, hp⟩ | ⟨c47, hp⟩
  ·
   refine FW.condT rfl c47 ?_
   refine FW.skip (FW.seq (FW.block (FW.seq (FW.region ?_))))
   refine FL.v (E.move k45) ?_
   refine FL.v (E.lenO te25 rfl S40 (i := 0) rfl els38 (by decide)) ?_
   refine FL.v (E.assign (v := Value.int .i64 0) rfl) ?_
   refine FL.v (E.assign (v := Value.int .i64 (len s34.1)) rfl) ?_
   refine FL.nil (FW.seq ?_)
   obtain ⟨q48, hq, hp⟩ := bndR hp
   refine FW.block ?_
   refine FW.mono (FW.iter (S := (Int × Int)) (X := Empty) (fun (s48 : (Int × Int)) f w => ∃ H : GH, St Ha wa H w [.row 3 1 v35 n36 cs37] ∧ Inc H39 H ∧ f 1 = Value.pointer (some ⟨b21, 0, none⟩) ∧ f 3 = v35 ∧ f 4 = Value.int .i64 s34.2 ∧ f 5 = Value.int .i64 s48.1 ∧ f 6 = Value.int .i64 s48.2) (fun (q : Rs (Int × Int) Empty) e f w => match q with | .go s48 => e = Exit.exit 2 ∧ (∃ H : GH, St Ha wa H w [.row 3 1 v35 n36 cs37] ∧ Inc H39 H ∧ f 1 = Value.pointer (some ⟨b21, 0, none⟩) ∧ f 3 = v35 ∧ f 4 = Value.int .i64 s34.2 ∧ f 5 = Value.int .i64 s48.1) | .rt x => x.elim) hq ⟨_, S40, (Inc.rfl _), k44, k45, k46, rfl, rfl⟩ ?_) ?_
   ·
    clear hp hq
    rintro s48 f53 w52 ⟨H49, S50, i51, k54, k55, k56, k57, k58⟩ o94 hp
    refine FW.seq (FW.seq (FW.region ?_))
    refine FL.v (E.move k57) ?_
    refine FL.v (E.move k58) ?_
    refine FL.v (E.lss rfl rfl) ?_
    refine FL.nil ?_
    rcases ifB hp with ⟨c59, hp⟩ | ⟨c59, hp⟩
    ·
     refine FW.condT rfl c59 ?_
     refine FW.skip (FW.block (FW.seq (FW.region ?_)))
     refine FL.v (E.move k57) ?_
     refine FL.v (E.move k58) ?_
     refine FL.v (E.add rfl rfl) ?_
     refine FL.v (E.quo rfl rfl (by decide)) ?_
     refine FL.v (E.assign (v := Value.int .i64 (wr ((wr (s48.1 + s48.2)).tdiv 2))) rfl) ?_
     refine FL.nil (FW.seq ?_)
     refine FW.draw (fun w' => Run w52.heap.size H49 w52 H49 w') (by kernel_rfl) (by kernel_rfl) (run_drew S50.sl) ?_
     refine FD.val rfl rfl rfl (fun w' hw' => (E.fieldAddr tf163_0 k54)) ?_
     refine FD.val rfl rfl rfl (fun w' hw' => (E.load rfl (run_load1 Tryz.isAgg22 ((at28.mono (i41.tr i51)).now (S50.call hw').sl) rfl))) ?_
     refine FD.val rfl rfl rfl (fun w' hw' => (E.move k55)) ?_
     refine FD.val rfl rfl rfl (fun w' hw' => (E.move (v := Value.int .i64 (wr ((wr (s48.1 + s48.2)).tdiv 2))) rfl)) ?_
     obtain ⟨x66, hx67, hp⟩ := bnd hp
     obtain ⟨p60, cs61, pt62, l63, at64, rel65⟩ := S50.row_at (i := 0) rfl els38 (by decide) hx67
     obtain rfl := eI_open rel65
     refine FD.val rfl rfl rfl (fun w' hw' => (E.indexAddr te25 rfl rfl pt62)) ?_
     refine FD.val rfl rfl rfl (fun w' hw' => (E.load rfl (run_load0 Tryz.isAgg3 (at64.cls hw') rfl))) ?_
     obtain ⟨x74, hx75, hp⟩ := bnd hp
     obtain ⟨p68, cs69, pt70, l71, at72, rel73⟩ := p0_0.at hx75
     obtain ⟨v76, rfl, h77⟩ := eL_open rel73
     refine FD.val rfl rfl rfl (fun w' hw' => (E.indexAddr te22 rfl rfl pt70)) ?_
     refine FD.val rfl rfl rfl (fun w' hw' => (E.load rfl (run_load0 Tryz.isAgg25 ((at72.mono ((i27.tr i41).tr i51)).now (S50.call hw').sl) rfl))) ?_
     refine FD.val rfl rfl rfl (fun w' hw' => (E.fieldAddr tf163_0 k54)) ?_
     refine FD.val rfl rfl rfl (fun w' hw' => (E.load rfl (run_load1 Tryz.isAgg22 ((at28.mono (i41.tr i51)).now (S50.call hw').sl) rfl))) ?_
     refine FD.val rfl rfl rfl (fun w' hw' => (E.move k56)) ?_
     obtain ⟨x84, hx85, hp⟩ := bnd hp
     obtain ⟨p78, cs79, pt80, l81, at82, rel83⟩ := p0_0.at hx85
     obtain ⟨v86, rfl, h87⟩ := eL_open rel83
     refine FD.val rfl rfl rfl (fun w' hw' => (E.indexAddr te22 rfl rfl pt80)) ?_
     refine FD.val rfl rfl rfl (fun w' hw' => (E.load rfl (run_load0 Tryz.isAgg25 ((at82.mono ((i27.tr i41).tr i51)).now (S50.call hw').sl) rfl))) ?_
     obtain ⟨r88, hr89, hp⟩ := bnd hp
     refine FD.call rfl rfl rfl (fun w' hw' => (E.call Tryz.call225 (A2 rfl rfl))) (fun w' hw' => Calls.cls hw' (w_spec_l2Before (S50.call hw').sl v76 x74 (h77.mono ((i27.tr i41).tr i51)) v86 x84 (h87.mono ((i27.tr i41).tr i51)) hr89)) ?_
     refine FD.nil ?_
     intro w90 r92
     have S91 := S50.call r92
     rcases ifB hp with ⟨c93, hp⟩ | ⟨c93, hp⟩
     ·
      refine FW.condT rfl c93 ?_
      refine FW.region ?_
      refine FL.v (E.move (v := Value.int .i64 (wr ((wr (s48.1 + s48.2)).tdiv 2))) rfl) ?_
      refine FL.v (E.add rfl rfl) ?_
      refine FL.v (E.assign (v := Value.int .i64 (wr ((wr ((wr (s48.1 + s48.2)).tdiv 2)) + 1))) rfl) ?_
      refine FL.nil ?_
      obtain rfl := Option.some.inj hp
      exact ⟨rfl, ⟨_, S91, i51, k54, k55, k56, rfl, k58⟩⟩
     ·
      refine FW.condF rfl c93 ?_
      refine FW.region ?_
      refine FL.v (E.move (v := Value.int .i64 (wr ((wr (s48.1 + s48.2)).tdiv 2))) rfl) ?_
      refine FL.v (E.assign (v := Value.int .i64 (wr ((wr (s48.1 + s48.2)).tdiv 2))) rfl) ?_
      refine FL.nil ?_
      obtain rfl := Option.some.inj hp
      exact ⟨rfl, ⟨_, S91, i51, k54, k55, k56, k57, rfl⟩⟩
    ·
     refine FW.condF rfl c59 ?_
     refine FW.exit ?_
     obtain rfl := Option.some.inj hp
     exact ⟨nofun, rfl, ⟨_, S50, i51, k54, k55, k56, k57⟩⟩
   ·
    clear hq
    intro e f99 w98 hD
    rcases q48 with s48 | x48
    ·
     obtain ⟨rfl, hD⟩ := hD
     obtain ⟨H95, S96, i97, k100, k101, k102, k103⟩ := hD
     replace hp := el_go hp
     obtain ⟨xs107, hc108, hp⟩ := bnd hp
     obtain ⟨r117, hr118, hp⟩ := bnd hp
     obtain ⟨xs132, hz133, hp⟩ := bnd hp
     obtain ⟨xs143, hc144, hp⟩ := bnd hp
     obtain ⟨xs153, hz154, hp⟩ := bnd hp
     refine FW.drawB (Sl H95) (fun f w => ∃ H : GH, ∃ v162 : Value, ∃ n164 : Nat, ∃ cs165 : List Value, St Ha wa H w [.row 3 1 v162 n164 cs165] ∧ Inc H95 H ∧ Els (up wa.heap.size H) eI 1 cs165 xs153 ∧ f 1 = Value.pointer (some ⟨b21, 0, none⟩) ∧ f 3 = v162 ∧ f 4 = Value.int .i64 s34.2) (by kernel_rfl) S96.sl ?_ ?_
     ·
      intro w104 r105
      have S106 := S96.call r105
      refine FB.t (i := 0) (bs 12 1) rfl (SP.nil S106.sl) rfl (fun w' hw' => (E.move k101)) ?_
      refine FB.t (i := 1) (bs 12 3) rfl (SP.nil S106.sl) rfl (fun w' hw' => (E.move k103)) ?_
      refine FB.t (i := 4) (bs 12 19) rfl (SP.nil S106.sl) rfl (fun w' hw' => (E.move k102)) ?_
      refine FB.t (i := 7) (bs 12 147) rfl (SP.nil S106.sl) rfl (fun w' hw' => (E.move k101)) ?_
      refine FB.t (i := 8) (bs 12 403) rfl (SP.nil S106.sl) rfl (fun w' hw' => (E.move k103)) ?_
      refine FB.all3 (i := 2) (j := 5) (k := 9) (by kernel_rfl) ?_ ?_ ?_
      ·
       obtain ⟨H109, S110, i111, h112, nv113⟩ := S106.sealRowU (i := 0) (l' := []) rfl (els38.mono (up_mono i97)) (by decide) rfl
       obtain ⟨v114, run115, h116⟩ := h112.cut te25 hc108 (lo := none) (hi := some (Value.int .i64 s48.1)) (.inl ⟨rfl, rfl⟩) (.inr ⟨_, rfl⟩)
       refine FC.val (l' := (bs 12 407)) rfl (by kernel_rfl) rfl rfl rfl (E.slice te25 rfl rfl (congrArg some rfl) rfl (run115 _)) ?_
       refine ⟨(SP.nil (Sl.of_inc i111 S110.sl)), ?_⟩
       obtain ⟨v145, run146, h147⟩ := h112.cut te25 hc144 (lo := some (Value.int .i64 s48.1)) (hi := none) (.inr ⟨_, rfl⟩) (.inl ⟨rfl, rfl⟩)
       refine FB.t (i := 9) (bs 12 919) rfl (SP.nil (Sl.of_inc i111 S110.sl)) rfl (fun w' hw' => (E.slice te25 rfl (congrArg some rfl) rfl rfl (run146 _))) ?_
       refine FB.all2 (i := 3) (j := 5) (by kernel_rfl) ?_ ?_
       ·
        refine FC.call (l' := (bs 12 927)) rfl (by kernel_rfl) rfl rfl rfl (E.call Tryz.call214 (A1 rfl)) (w_spec_l1Own S110.sl v114 xs107 (h116.mono upI) hr118) ?_
        rintro e w120 ⟨H119, v123, n124, cs125, rfl, r122, els126⟩
        refine ⟨_, rfl, ?_⟩
        have els126 := els126.mono (up_le S110.size)
        have S121 := S110.join (l' := [.row 3 1 v123 n124 cs125]) r122 rfl
        refine ⟨(SP.nil (Sl.of_inc (i111.tr r122.run.inc) S121.sl)), ?_⟩
        refine FB.all1 (i := 5) (by kernel_rfl) ?_
        ·
         obtain ⟨v127, w128, run129, S130, els131⟩ := S121.ints (P := Tryz.prog) te25 (up wa.heap.size H119) 1 [s34.2]
         refine FC.val (l' := (bs 12 959)) rfl (by kernel_rfl) rfl rfl rfl (E.buildSlice (B1 rfl) run129) ?_
         refine ⟨(SP.nil (Sl.of_inc (i111.tr r122.run.inc) S130.sl)), ?_⟩
         refine FB.all1 (i := 6) (by kernel_rfl) ?_
         ·
          obtain ⟨v134, w137, n135, cs136, run138, S139, els140, ce141⟩ := S130.appendO (P := Tryz.prog) te25 (i := 1) (j := 0) rfl els126 rfl els131 hz133
          have S139 : St Ha wa H119 w137 [.row 3 1 v127 1 (iC [s34.2]), .row 3 1 v134 n135 cs136] := S139
          have S142 : St Ha wa H119 w137 [.row 3 1 v134 n135 cs136] := S139.drop 0
          refine FC.val (l' := (bs 12 1023)) rfl (by kernel_rfl) rfl rfl rfl (E.append rfl rfl run138) ?_
          refine ⟨(SP.nil (Sl.of_inc (i111.tr r122.run.inc) S142.sl)), ?_⟩
          refine FB.all1 (i := 10) (by kernel_rfl) ?_
          ·
           obtain ⟨v155, w158, n156, cs157, run159, S160, els161⟩ := S142.appendP (P := Tryz.prog) upI te25 (i := 0) rfl els140 (h147.mono (up_mono r122.run.inc)) hz154
           have S160 : St Ha wa H119 w158 [.row 3 1 v155 n156 cs157] := S160
           refine FC.val (l' := (bs 12 2047)) rfl (by kernel_rfl) rfl rfl rfl (E.append rfl rfl run159) ?_
           refine ⟨(SP.nil (Sl.of_inc (i111.tr r122.run.inc) S160.sl)), ?_⟩
           refine FB.t (i := 11) (bs 12 4095) rfl (SP.nil (Sl.of_inc (i111.tr r122.run.inc) S160.sl)) rfl (fun w' hw' => (E.assign (v := v155) rfl)) ?_
           exact FB.done (by kernel_rfl) ⟨_, _, _, _, S160, (i111.tr r122.run.inc), els161, k100, rfl, k102⟩
       ·
        obtain ⟨v127, w128, run129, S130, els131⟩ := S110.ints (P := Tryz.prog) te25 (up wa.heap.size H109) 1 [s34.2]
        refine FC.val (l' := (bs 12 951)) rfl (by kernel_rfl) rfl rfl rfl (E.buildSlice (B1 rfl) run129) ?_
        refine ⟨(SP.nil (Sl.of_inc i111 S130.sl)), ?_⟩
        refine FB.all1 (i := 3) (by kernel_rfl) ?_
        ·
         refine FC.call (l' := (bs 12 959)) rfl (by kernel_rfl) rfl rfl rfl (E.call Tryz.call214 (A1 rfl)) (w_spec_l1Own S130.sl v114 xs107 (h116.mono upI) hr118) ?_
         rintro e w120 ⟨H119, v123, n124, cs125, rfl, r122, els126⟩
         refine ⟨_, rfl, ?_⟩
         have els126 := els126.mono (up_le S130.size)
         have S121 := S130.join (l' := [.row 3 1 v123 n124 cs125, .row 3 1 v127 1 (iC [s34.2])]) r122 rfl
         refine ⟨(SP.nil (Sl.of_inc (i111.tr r122.run.inc) S121.sl)), ?_⟩
         refine FB.all1 (i := 6) (by kernel_rfl) ?_
         ·
          obtain ⟨v134, w137, n135, cs136, run138, S139, els140, ce141⟩ := S121.appendO (P := Tryz.prog) te25 (i := 0) (j := 1) rfl els126 rfl (els131.mono (up_mono r122.run.inc)) hz133
          have S139 : St Ha wa H119 w137 [.row 3 1 v134 n135 cs136, .row 3 1 v127 1 (iC [s34.2])] := S139
          have S142 : St Ha wa H119 w137 [.row 3 1 v134 n135 cs136] := S139.drop 1
          refine FC.val (l' := (bs 12 1023)) rfl (by kernel_rfl) rfl rfl rfl (E.append rfl rfl run138) ?_
          refine ⟨(SP.nil (Sl.of_inc (i111.tr r122.run.inc) S142.sl)), ?_⟩
          refine FB.all1 (i := 10) (by kernel_rfl) ?_
          ·
           obtain ⟨v155, w158, n156, cs157, run159, S160, els161⟩ := S142.appendP (P := Tryz.prog) upI te25 (i := 0) rfl els140 (h147.mono (up_mono r122.run.inc)) hz154
           have S160 : St Ha wa H119 w158 [.row 3 1 v155 n156 cs157] := S160
           refine FC.val (l' := (bs 12 2047)) rfl (by kernel_rfl) rfl rfl rfl (E.append rfl rfl run159) ?_
           refine ⟨(SP.nil (Sl.of_inc (i111.tr r122.run.inc) S160.sl)), ?_⟩
           refine FB.t (i := 11) (bs 12 4095) rfl (SP.nil (Sl.of_inc (i111.tr r122.run.inc) S160.sl)) rfl (fun w' hw' => (E.assign (v := v155) rfl)) ?_
           exact FB.done (by kernel_rfl) ⟨_, _, _, _, S160, (i111.tr r122.run.inc), els161, k100, rfl, k102⟩
      ·
       obtain ⟨v127, w128, run129, S130, els131⟩ := S106.ints (P := Tryz.prog) te25 (up wa.heap.size H95) 1 [s34.2]
       refine FC.val (l' := (bs 12 435)) rfl (by kernel_rfl) rfl rfl rfl (E.buildSlice (B1 rfl) run129) ?_
       refine ⟨(SP.nil S130.sl), ?_⟩
       refine FB.phase [3, 6, 10] (fun w' => w' = w128) ?_
       obtain ⟨H109, S110, i111, h112, nv113⟩ := S130.sealRowU (i := 1) (l' := [.row 3 1 v127 1 (iC [s34.2])]) rfl (els38.mono (up_mono i97)) (by decide) rfl
       obtain ⟨v114, run115, h116⟩ := h112.cut te25 hc108 (lo := none) (hi := some (Value.int .i64 s48.1)) (.inl ⟨rfl, rfl⟩) (.inr ⟨_, rfl⟩)
       refine FB.u (i := 2) (bs 12 439) [3, 6, 10, 11] rfl (SP.on rfl (SP.nil S130.sl)) rfl (E.slice te25 rfl rfl (congrArg some rfl) rfl (run115 _)) ?_
       obtain ⟨v145, run146, h147⟩ := h112.cut te25 hc144 (lo := some (Value.int .i64 s48.1)) (hi := none) (.inr ⟨_, rfl⟩) (.inl ⟨rfl, rfl⟩)
       refine FB.t (i := 9) (bs 12 951) rfl (SP.on rfl (SP.nil (Sl.of_inc i111 S110.sl))) rfl (fun w' hw' => (E.slice te25 rfl (congrArg some rfl) rfl rfl (run146 _))) ?_
       refine FB.all1 (i := 3) (by kernel_rfl) ?_
       ·
        refine FC.call (l' := (bs 12 959)) rfl (by kernel_rfl) rfl rfl rfl (E.call Tryz.call214 (A1 rfl)) (w_spec_l1Own S110.sl v114 xs107 (h116.mono upI) hr118) ?_
        rintro e w120 ⟨H119, v123, n124, cs125, rfl, r122, els126⟩
        refine ⟨_, rfl, ?_⟩
        have els126 := els126.mono (up_le S110.size)
        have S121 := S110.join (l' := [.row 3 1 v123 n124 cs125, .row 3 1 v127 1 (iC [s34.2])]) r122 rfl
        refine ⟨(SP.o (SP.nil (Sl.of_inc (i111.tr r122.run.inc) S121.sl))), ?_⟩
        refine FB.all1 (i := 6) (by kernel_rfl) ?_
        ·
         obtain ⟨v134, w137, n135, cs136, run138, S139, els140, ce141⟩ := S121.appendO (P := Tryz.prog) te25 (i := 0) (j := 1) rfl els126 rfl (els131.mono (up_mono (i111.tr r122.run.inc))) hz133
         have S139 : St Ha wa H119 w137 [.row 3 1 v134 n135 cs136, .row 3 1 v127 1 (iC [s34.2])] := S139
         have S142 : St Ha wa H119 w137 [.row 3 1 v134 n135 cs136] := S139.drop 1
         refine FC.val (l' := (bs 12 1023)) rfl (by kernel_rfl) rfl rfl rfl (E.append rfl rfl run138) ?_
         refine ⟨(SP.o (SP.nil (Sl.of_inc (i111.tr r122.run.inc) S142.sl))), ?_⟩
         refine FB.all1 (i := 10) (by kernel_rfl) ?_
         ·
          obtain ⟨v155, w158, n156, cs157, run159, S160, els161⟩ := S142.appendP (P := Tryz.prog) upI te25 (i := 0) rfl els140 (h147.mono (up_mono r122.run.inc)) hz154
          have S160 : St Ha wa H119 w158 [.row 3 1 v155 n156 cs157] := S160
          refine FC.val (l' := (bs 12 2047)) rfl (by kernel_rfl) rfl rfl rfl (E.append rfl rfl run159) ?_
          refine ⟨(SP.o (SP.nil (Sl.of_inc (i111.tr r122.run.inc) S160.sl))), ?_⟩
          refine FB.t (i := 11) (bs 12 4095) rfl (SP.o (SP.nil (Sl.of_inc (i111.tr r122.run.inc) S160.sl))) rfl (fun w' hw' => (E.assign (v := v155) rfl)) ?_
          exact FB.done (by kernel_rfl) ⟨_, _, _, _, S160, (i111.tr r122.run.inc), els161, k100, rfl, k102⟩
      ·
       obtain ⟨H145, S146, i147, h148, nv149⟩ := S106.sealRowU (i := 0) (l' := []) rfl (els38.mono (up_mono i97)) (by decide) rfl
       obtain ⟨v150, run151, h152⟩ := h148.cut te25 hc144 (lo := some (Value.int .i64 s48.1)) (hi := none) (.inr ⟨_, rfl⟩) (.inl ⟨rfl, rfl⟩)
       refine FC.val (l' := (bs 12 915)) rfl (by kernel_rfl) rfl rfl rfl (E.slice te25 rfl (congrArg some rfl) rfl rfl (run151 _)) ?_
       refine ⟨(SP.nil (Sl.of_inc i147 S146.sl)), ?_⟩
       obtain ⟨v109, run110, h111⟩ := h148.cut te25 hc108 (lo := none) (hi := some (Value.int .i64 s48.1)) (.inl ⟨rfl, rfl⟩) (.inr ⟨_, rfl⟩)
       refine FB.t (i := 2) (bs 12 919) rfl (SP.nil (Sl.of_inc i147 S146.sl)) rfl (fun w' hw' => (E.slice te25 rfl rfl (congrArg some rfl) rfl (run110 _))) ?_
       refine FB.all2 (i := 3) (j := 5) (by kernel_rfl) ?_ ?_
       ·
        refine FC.call (l' := (bs 12 927)) rfl (by kernel_rfl) rfl rfl rfl (E.call Tryz.call214 (A1 rfl)) (w_spec_l1Own S146.sl v109 xs107 (h111.mono upI) hr118) ?_
        rintro e w120 ⟨H119, v123, n124, cs125, rfl, r122, els126⟩
        refine ⟨_, rfl, ?_⟩
        have els126 := els126.mono (up_le S146.size)
        have S121 := S146.join (l' := [.row 3 1 v123 n124 cs125]) r122 rfl
        refine ⟨(SP.nil (Sl.of_inc (i147.tr r122.run.inc) S121.sl)), ?_⟩
        refine FB.all1 (i := 5) (by kernel_rfl) ?_
        ·
         obtain ⟨v127, w128, run129, S130, els131⟩ := S121.ints (P := Tryz.prog) te25 (up wa.heap.size H119) 1 [s34.2]
         refine FC.val (l' := (bs 12 959)) rfl (by kernel_rfl) rfl rfl rfl (E.buildSlice (B1 rfl) run129) ?_
         refine ⟨(SP.nil (Sl.of_inc (i147.tr r122.run.inc) S130.sl)), ?_⟩
         refine FB.all1 (i := 6) (by kernel_rfl) ?_
         ·
          obtain ⟨v134, w137, n135, cs136, run138, S139, els140, ce141⟩ := S130.appendO (P := Tryz.prog) te25 (i := 1) (j := 0) rfl els126 rfl els131 hz133
          have S139 : St Ha wa H119 w137 [.row 3 1 v127 1 (iC [s34.2]), .row 3 1 v134 n135 cs136] := S139
          have S142 : St Ha wa H119 w137 [.row 3 1 v134 n135 cs136] := S139.drop 0
          refine FC.val (l' := (bs 12 1023)) rfl (by kernel_rfl) rfl rfl rfl (E.append rfl rfl run138) ?_
          refine ⟨(SP.nil (Sl.of_inc (i147.tr r122.run.inc) S142.sl)), ?_⟩
          refine FB.all1 (i := 10) (by kernel_rfl) ?_
          ·
           obtain ⟨v155, w158, n156, cs157, run159, S160, els161⟩ := S142.appendP (P := Tryz.prog) upI te25 (i := 0) rfl els140 (h152.mono (up_mono r122.run.inc)) hz154
           have S160 : St Ha wa H119 w158 [.row 3 1 v155 n156 cs157] := S160
           refine FC.val (l' := (bs 12 2047)) rfl (by kernel_rfl) rfl rfl rfl (E.append rfl rfl run159) ?_
           refine ⟨(SP.nil (Sl.of_inc (i147.tr r122.run.inc) S160.sl)), ?_⟩
           refine FB.t (i := 11) (bs 12 4095) rfl (SP.nil (Sl.of_inc (i147.tr r122.run.inc) S160.sl)) rfl (fun w' hw' => (E.assign (v := v155) rfl)) ?_
           exact FB.done (by kernel_rfl) ⟨_, _, _, _, S160, (i147.tr r122.run.inc), els161, k100, rfl, k102⟩
       ·
        obtain ⟨v127, w128, run129, S130, els131⟩ := S146.ints (P := Tryz.prog) te25 (up wa.heap.size H145) 1 [s34.2]
        refine FC.val (l' := (bs 12 951)) rfl (by kernel_rfl) rfl rfl rfl (E.buildSlice (B1 rfl) run129) ?_
        refine ⟨(SP.nil (Sl.of_inc i147 S130.sl)), ?_⟩
        refine FB.all1 (i := 3) (by kernel_rfl) ?_
        ·
         refine FC.call (l' := (bs 12 959)) rfl (by kernel_rfl) rfl rfl rfl (E.call Tryz.call214 (A1 rfl)) (w_spec_l1Own S130.sl v109 xs107 (h111.mono upI) hr118) ?_
         rintro e w120 ⟨H119, v123, n124, cs125, rfl, r122, els126⟩
         refine ⟨_, rfl, ?_⟩
         have els126 := els126.mono (up_le S130.size)
         have S121 := S130.join (l' := [.row 3 1 v123 n124 cs125, .row 3 1 v127 1 (iC [s34.2])]) r122 rfl
         refine ⟨(SP.nil (Sl.of_inc (i147.tr r122.run.inc) S121.sl)), ?_⟩
         refine FB.all1 (i := 6) (by kernel_rfl) ?_
         ·
          obtain ⟨v134, w137, n135, cs136, run138, S139, els140, ce141⟩ := S121.appendO (P := Tryz.prog) te25 (i := 0) (j := 1) rfl els126 rfl (els131.mono (up_mono r122.run.inc)) hz133
          have S139 : St Ha wa H119 w137 [.row 3 1 v134 n135 cs136, .row 3 1 v127 1 (iC [s34.2])] := S139
          have S142 : St Ha wa H119 w137 [.row 3 1 v134 n135 cs136] := S139.drop 1
          refine FC.val (l' := (bs 12 1023)) rfl (by kernel_rfl) rfl rfl rfl (E.append rfl rfl run138) ?_
          refine ⟨(SP.nil (Sl.of_inc (i147.tr r122.run.inc) S142.sl)), ?_⟩
          refine FB.all1 (i := 10) (by kernel_rfl) ?_
          ·
           obtain ⟨v155, w158, n156, cs157, run159, S160, els161⟩ := S142.appendP (P := Tryz.prog) upI te25 (i := 0) rfl els140 (h152.mono (up_mono r122.run.inc)) hz154
           have S160 : St Ha wa H119 w158 [.row 3 1 v155 n156 cs157] := S160
           refine FC.val (l' := (bs 12 2047)) rfl (by kernel_rfl) rfl rfl rfl (E.append rfl rfl run159) ?_
           refine ⟨(SP.nil (Sl.of_inc (i147.tr r122.run.inc) S160.sl)), ?_⟩
           refine FB.t (i := 11) (bs 12 4095) rfl (SP.nil (Sl.of_inc (i147.tr r122.run.inc) S160.sl)) rfl (fun w' hw' => (E.assign (v := v155) rfl)) ?_
           exact FB.done (by kernel_rfl) ⟨_, _, _, _, S160, (i147.tr r122.run.inc), els161, k100, rfl, k102⟩
     ·
      rintro f171 w170 ⟨H167, v162, n164, cs165, S168, i169, els166, k172, k173, k174⟩
      refine FW.region ?_
      refine FL.v (E.move k174) ?_
      refine FL.v (E.add rfl rfl) ?_
      refine FL.v (E.assign (v := Value.int .i64 (wr (s34.2 + 1))) rfl) ?_
      refine FL.nil ?_
      obtain rfl := Option.some.inj hp
      exact ⟨rfl, ⟨_, _, _, _, S168, ((i41.tr i97).tr i169), els166, k172, k173, rfl⟩⟩
    ·
     exact x48.elim
  ·
   refine FW.condF rfl c47 ?_
   refine FW.exit ?_
   obtain rfl := Option.some.inj hp
   exact ⟨nofun, rfl, ⟨_, _, _, _, S40, i41, els38, k45⟩⟩
 ·
  clear hq
  intro e f180 w179 hD
  rcases q34 with s34 | x34
  ·
   obtain ⟨rfl, hD⟩ := hD
   obtain ⟨H176, v35, n36, cs37, S177, i178, els38, k181⟩ := hD
   replace hp := el_go hp
   refine FW.seq (FW.region ?_)
   refine FL.v (E.move k181) ?_
   refine FL.v (E.assign (v := v35) rfl) ?_
   refine FL.nil ?_
   refine FW.ret ?_
   obtain rfl := Option.some.inj hp
   exact ⟨.inr rfl, res1 rfl rfl ⟨_, _, _, _, rfl, S177, els38⟩⟩
  ·
   exact x34.elim

theorem w_spec_l1Has {Ha : GH} {wa : World} (hs : Sl Ha wa) (v0 : Value) (a0 : List Int) (p0 : RSl Ha eI 1 v0 a0) (a1 : Int) {r : Bool} (hp : (PF.spec_l1Has a0 a1) = some r) :
  Calls Tryz.prog 249 #[v0, Value.int .i64 a1] wa (Sc Ha wa (Value.bool r)) := by
 unfold PF.spec_l1Has at hp
 have S0 := St.init hs
 refine calls_go (N := 18) (args := [v0, Value.int .i64 a1]) Tryz.func249 rfl rfl rfl ?_
 refine FW.seq (FW.region ?_)
 refine FL.v (E.assign (v := Value.bool false) rfl) ?_
 refine FL.nil (FW.seq (FW.seq (FW.region ?_)))
 refine FL.v (E.assign (v := Value.int .i64 0) rfl) ?_
 refine FL.nil ?_
 obtain ⟨q22, hq, hp⟩ := bndR hp
 refine FW.block ?_
 refine FW.mono (FW.forL (S := Unit) (X := Bool) (fun (i22 : Nat) (s22 : Unit) f w => ∃ H : GH, St Ha wa H w [] ∧ Inc Ha H ∧ f 5 = Value.int .i64 ((i22 : Nat) : Int) ∧ f 0 = v0 ∧ f 1 = Value.int .i64 a1) (fun q e f w => match q with | .go s22 => e = Exit.exit 0 ∧ (∃ H : GH, St Ha wa H w [] ∧ Inc Ha H) | .rt x => ((e = Exit.ret) ∧ (fun e f w => (e = Exit.normal ∨ e = Exit.ret) ∧ ∀ a, Fr (δ := []) 18 a f → ∃ v, (results Tryz.f249 a.tmps).run Tryz.prog w = .ok v w ∧ (Sc Ha wa (Value.bool x)) (.returned v) w) e f w)) hq ⟨_, S0, (Inc.rfl _), rfl, rfl, rfl⟩ ?_ ?_) ?_
 ·
  clear hp hq
  rintro i22 y21 s22 f42 w41 ⟨H38, S39, i40, k43, k44, k45⟩ hx22 o53 hp
  refine FW.seq (FW.seq (FW.region ?_))
  refine FL.v (E.move k43) ?_
  refine FL.v (E.move k44) ?_
  refine FL.v (E.lenP te25 rfl p0) ?_
  refine FL.v (E.lssT rfl rfl (lss_len hx22)) ?_
  refine FL.nil ?_
  refine FW.condT rfl rfl ?_
  refine FW.skip (FW.seq (FW.block (FW.seq (FW.region ?_))))
  refine FL.v (E.move k44) ?_
  refine FL.v (E.move k43) ?_
  obtain ⟨p46, cs47, pt48, l49, at50, rel51⟩ := p0.at (ix_nat hx22)
  obtain rfl := eI_open rel51
  refine FL.v (E.indexAddr te25 rfl rfl pt48) ?_
  refine FL.v (E.load rfl (run_load0 Tryz.isAgg3 ((at50.mono i40).now S39.sl) rfl)) ?_
  refine FL.v (E.move k45) ?_
  refine FL.v (E.eql rfl rfl) ?_
  refine FL.nil ?_
  rcases ifB hp with ⟨c52, hp⟩ | ⟨c52, hp⟩
  ·
   refine FW.condT rfl c52 ?_
   refine FW.seq (FW.region ?_)
   refine FL.v (E.assign (v := Value.bool true) rfl) ?_
   refine FL.nil ?_
   refine FW.ret ?_
   obtain rfl := Option.some.inj hp
   exact ⟨nofun, rfl, ⟨.inr rfl, res1 rfl rfl ⟨rfl, S39.back⟩⟩⟩
  ·
   refine FW.condF rfl c52 ?_
   refine FW.skip (FW.region ?_)
   refine FL.v (E.move k43) ?_
   refine FL.v (E.add rfl rfl) ?_
   refine FL.v (E.assign (v := Value.int .i64 (wr (((i22 : Nat) : Int) + 1))) rfl) ?_
   refine FL.nil ?_
   obtain rfl := Option.some.inj hp
   exact ⟨rfl, ⟨_, S39, i40, (nat_succ rfl (lt_of_get hx22) (p0.mono i40).le), k44, k45⟩⟩
 ·
  clear hp hq
  rintro s22 f63 w62 ⟨H59, S60, i61, k64, k65, k66⟩
  refine FW.seq (FW.seq (FW.region ?_))
  refine FL.v (E.move k64) ?_
  refine FL.v (E.move k65) ?_
  refine FL.v (E.lenP te25 rfl p0) ?_
  refine FL.v (E.lss rfl rfl) ?_
  refine FL.nil ?_
  refine FW.condF rfl dlt_len ?_
  refine FW.exit ?_
  exact ⟨nofun, rfl, ⟨_, S60, i61⟩⟩
 ·
  clear hq
  intro e f58 w57 hD
  rcases q22 with s22 | x22
  ·
   obtain ⟨rfl, hD⟩ := hD
   obtain ⟨H54, S55, i56⟩ := hD
   replace hp := el_go hp
   refine FW.seq (FW.region ?_)
   refine FL.v (E.assign (v := Value.bool false) rfl) ?_
   refine FL.nil ?_
   refine FW.ret ?_
   obtain rfl := Option.some.inj hp
   exact ⟨.inr rfl, res1 rfl rfl ⟨rfl, S55.back⟩⟩
  ·
   obtain ⟨he, hL⟩ := hD
   replace hp := el_rt hp
   obtain rfl := Option.some.inj hp
   subst he
   exact hL

theorem w_spec_l2Has {Ha : GH} {wa : World} (hs : Sl Ha wa) (v0 : Value) (a0 : List Int) (p0 : RSl Ha eI 1 v0 a0) (a1 : Int) {r : Bool} (hp : (PF.spec_l2Has a0 a1) = some r) :
  Calls Tryz.prog 196 #[v0, Value.int .i64 a1] wa (Sc Ha wa (Value.bool r)) := by
 unfold PF.spec_l2Has at hp
 have S0 := St.init hs
 refine calls_go (N := 8) (args := [v0, Value.int .i64 a1]) Tryz.func196 rfl rfl rfl ?_
 refine FW.seq (FW.region ?_)
 refine FL.v (E.assign (v := Value.bool false) rfl) ?_
 refine FL.nil (FW.seq (FW.region ?_))
 refine FL.v (E.move (v := v0) rfl) ?_
 refine FL.v (E.move (v := Value.int .i64 a1) rfl) ?_
 obtain ⟨r21, hr22, hp⟩ := bnd hp
 refine FL.call rfl rfl rfl (E.call Tryz.call249 (A2 rfl rfl)) (w_spec_l1Has S0.sl v0 a0 p0 a1 hr22) ?_
 rintro e w23 ⟨rfl, r24⟩
 refine ⟨_, rfl, ?_⟩
 have S25 := S0.call r24
 refine FL.v (E.assign (v := Value.bool r21) rfl) ?_
 refine FL.nil ?_
 refine FW.ret ?_
 obtain rfl := Option.some.inj hp
 exact ⟨.inr rfl, res1 rfl rfl ⟨rfl, S25.back⟩⟩

@[reducible] def p_spec_l2Without (Ha : GH) (wa : World) (r : (List Int)) : Ending → World → Prop :=
 fun e w' => ∃ H' : GH, ∃ v0 : Value, ∃ n0 : Nat, ∃ c0 : List Value, e = .returned (v0) ∧ St Ha wa H' w' [.row 3 1 v0 n0 c0] ∧ Els (up wa.heap.size H') eI 1 c0 r
set_option maxHeartbeats 4000000 in
theorem w_spec_l2Without {Ha : GH} {wa : World} (hs : Sl Ha wa) (v0 : Value) (a0 : List Int) (p0 : RSl Ha eI 1 v0 a0) (a1 : Int) {r : (List Int)} (hp : (PF.spec_l2Without a0 a1) = some r) :
  Calls Tryz.prog 287 #[v0, Value.int .i64 a1] wa (p_spec_l2Without Ha wa r) := by
 unfold PF.spec_l2Without at hp
 have S0 := St.init hs
 refine calls_go (N := 29) (args := [v0, Value.int .i64 a1]) Tryz.func287 rfl rfl rfl ?_
 refine FW.seq (FW.region ?_)
 refine FL.v (E.assign (v := Value.slice none 0 0) rfl) ?_
 refine FL.nil (FW.seq (FW.region ?_))
 obtain ⟨v21, w22, run23, S24⟩ := S0.buildSlice (P := Tryz.prog) te25 [] (parts := #[]) (cells := []) rfl szs_nil fc_nil ones_nil (Nat.le_of_ble_eq_true rfl)
 have els25 : Els (up wa.heap.size Ha) eI 1 [] [] := Els.nil
 refine FL.v (E.buildSlice (B0) run23) ?_
 refine FL.v (E.assign (v := v21) rfl) ?_
 refine FL.nil (FW.seq (FW.seq (FW.region ?_)))
 refine FL.v (E.assign (v := Value.int .i64 0) rfl) ?_
 refine FL.nil ?_
 obtain ⟨q27, hq, hp⟩ := bndR hp
 refine FW.block ?_
 refine FW.mono (FW.forL (S := (List Int)) (X := Empty) (fun (i27 : Nat) (s27 : (List Int)) f w => ∃ H : GH, ∃ v28 : Value, ∃ n29 : Nat, ∃ cs30 : List Value, St Ha wa H w [.row 3 1 v28 n29 cs30] ∧ Inc Ha H ∧ Els (up wa.heap.size H) eI 1 cs30 s27 ∧ f 6 = Value.int .i64 ((i27 : Nat) : Int) ∧ f 0 = v0 ∧ f 1 = Value.int .i64 a1 ∧ f 5 = v28) (fun (q : Rs (List Int) Empty) e f w => match q with | .go s27 => e = Exit.exit 0 ∧ (∃ H : GH, ∃ v28 : Value, ∃ n29 : Nat, ∃ cs30 : List Value, St Ha wa H w [.row 3 1 v28 n29 cs30] ∧ Inc Ha H ∧ Els (up wa.heap.size H) eI 1 cs30 s27 ∧ f 5 = v28) | .rt x => x.elim) hq ⟨_, _, _, _, S24, (Inc.rfl _), els25, rfl, rfl, rfl, rfl⟩ ?_ ?_) ?_
 ·
  clear hp hq
  rintro i27 y26 s27 f77 w76 ⟨H73, v28, n29, cs30, S74, i75, els31, k78, k79, k80, k81⟩ hx27 o114 hp
  refine FW.seq (FW.seq (FW.region ?_))
  refine FL.v (E.move k78) ?_
  refine FL.v (E.move k79) ?_
  refine FL.v (E.lenP te25 rfl p0) ?_
  refine FL.v (E.lssT rfl rfl (lss_len hx27)) ?_
  refine FL.nil ?_
  refine FW.condT rfl rfl ?_
  refine FW.skip (FW.seq (FW.block (FW.seq (FW.region ?_))))
  refine FL.v (E.move k79) ?_
  refine FL.v (E.move k78) ?_
  obtain ⟨p82, cs83, pt84, l85, at86, rel87⟩ := p0.at (ix_nat hx27)
  obtain rfl := eI_open rel87
  refine FL.v (E.indexAddr te25 rfl rfl pt84) ?_
  refine FL.v (E.load rfl (run_load0 Tryz.isAgg3 ((at86.mono i75).now S74.sl) rfl)) ?_
  refine FL.call rfl rfl rfl (E.call Tryz.call166 (A1 rfl)) (w_spec_l2Var S74.sl y26) ?_
  rintro e w88 ⟨rfl, r89⟩
  refine ⟨_, rfl, ?_⟩
  have S90 := S74.call r89
  refine FL.v (E.move k80) ?_
  refine FL.v (E.neq rfl rfl) ?_
  refine FL.nil ?_
  rcases ifB hp with ⟨c91, hp⟩ | ⟨c91, hp⟩
  ·
   refine FW.condT rfl c91 ?_
   refine FW.region ?_
   refine FL.v (E.move k81) ?_
   refine FL.v (E.move k79) ?_
   refine FL.v (E.move k78) ?_
   obtain ⟨p92, cs93, pt94, l95, at96, rel97⟩ := p0.at (ix_nat hx27)
   obtain rfl := eI_open rel97
   refine FL.v (E.indexAddr te25 rfl rfl pt94) ?_
   refine FL.v (E.load rfl (run_load0 Tryz.isAgg3 ((at96.mono i75).now S90.sl) rfl)) ?_
   obtain ⟨v98, w99, run100, S101, els102⟩ := S90.ints (P := Tryz.prog) te25 (up wa.heap.size H73) 1 [y26]
   refine FL.v (E.buildSlice (B1 rfl) run100) ?_
   obtain ⟨xs103, hz104, hp⟩ := bnd hp
   obtain ⟨v105, w108, n106, cs107, run109, S110, els111, ce112⟩ := S101.appendO (P := Tryz.prog) te25 (i := 1) (j := 0) rfl els31 rfl els102 hz104
   have S110 : St Ha wa H73 w108 [.row 3 1 v98 1 (iC [y26]), .row 3 1 v105 n106 cs107] := S110
   have S113 : St Ha wa H73 w108 [.row 3 1 v105 n106 cs107] := S110.drop 0
   refine FL.v (E.append rfl rfl run109) ?_
   refine FL.v (E.assign (v := v105) rfl) ?_
   refine FL.nil (FW.region ?_)
   refine FL.v (E.move k78) ?_
   refine FL.v (E.add rfl rfl) ?_
   refine FL.v (E.assign (v := Value.int .i64 (wr (((i27 : Nat) : Int) + 1))) rfl) ?_
   refine FL.nil ?_
   obtain rfl := Option.some.inj hp
   exact ⟨rfl, ⟨_, _, _, _, S113, i75, els111, (nat_succ rfl (lt_of_get hx27) (p0.mono i75).le), k79, k80, rfl⟩⟩
  ·
   refine FW.condF rfl c91 ?_
   refine FW.skip (FW.region ?_)
   refine FL.v (E.move k78) ?_
   refine FL.v (E.add rfl rfl) ?_
   refine FL.v (E.assign (v := Value.int .i64 (wr (((i27 : Nat) : Int) + 1))) rfl) ?_
   refine FL.nil ?_
   obtain rfl := Option.some.inj hp
   exact ⟨rfl, ⟨_, _, _, _, S90, i75, els31, (nat_succ rfl (lt_of_get hx27) (p0.mono i75).le), k79, k80, k81⟩⟩
 ·
  clear hp hq
  rintro s27 f125 w124 ⟨H121, v28, n29, cs30, S122, i123, els31, k126, k127, k128, k129⟩
  refine FW.seq (FW.seq (FW.region ?_))
  refine FL.v (E.move k126) ?_
  refine FL.v (E.move k127) ?_
  refine FL.v (E.lenP te25 rfl p0) ?_
  refine FL.v (E.lss rfl rfl) ?_
  refine FL.nil ?_
  refine FW.condF rfl dlt_len ?_
  refine FW.exit ?_
  exact ⟨nofun, rfl, ⟨_, _, _, _, S122, i123, els31, k129⟩⟩
 ·
  clear hq
  intro e f119 w118 hD
  rcases q27 with s27 | x27
  ·
   obtain ⟨rfl, hD⟩ := hD
   obtain ⟨H115, v28, n29, cs30, S116, i117, els31, k120⟩ := hD
   replace hp := el_go hp
   refine FW.seq (FW.region ?_)
   refine FL.v (E.move k120) ?_
   refine FL.v (E.assign (v := v28) rfl) ?_
   refine FL.nil ?_
   refine FW.ret ?_
   obtain rfl := Option.some.inj hp
   exact ⟨.inr rfl, res1 rfl rfl ⟨_, _, _, _, rfl, S116, els31⟩⟩
  ·
   exact x27.elim

@[reducible] def p_spec_l2Put (Ha : GH) (wa : World) (r : (List Int)) : Ending → World → Prop :=
 fun e w' => ∃ H' : GH, ∃ v0 : Value, ∃ n0 : Nat, ∃ c0 : List Value, e = .returned (v0) ∧ St Ha wa H' w' [.row 3 1 v0 n0 c0] ∧ Els (up wa.heap.size H') eI 1 c0 r
set_option maxHeartbeats 4000000 in
theorem w_spec_l2Put {Ha : GH} {wa : World} (hs : Sl Ha wa) (v0 : Value) (a0 : List Int) (p0 : RSl Ha eI 1 v0 a0) (a1 : Int) {r : (List Int)} (hp : (PF.spec_l2Put a0 a1) = some r) :
  Calls Tryz.prog 194 #[v0, Value.int .i64 a1] wa (p_spec_l2Put Ha wa r) := by
 unfold PF.spec_l2Put at hp
 have S0 := St.init hs
 refine calls_go (N := 33) (args := [v0, Value.int .i64 a1]) Tryz.func194 rfl rfl rfl ?_
 refine FW.seq (FW.region ?_)
 refine FL.v (E.assign (v := Value.slice none 0 0) rfl) ?_
 refine FL.nil (FW.seq (FW.region ?_))
 refine FL.v (E.assign (v := Value.int .i64 0) rfl) ?_
 refine FL.nil (FW.seq ?_)
 obtain ⟨q21, hq, hp⟩ := bndR hp
 refine FW.block ?_
 refine FW.mono (FW.iter (S := Int) (X := Empty) (fun (s21 : Int) f w => ∃ H : GH, St Ha wa H w [] ∧ Inc Ha H ∧ f 0 = v0 ∧ f 1 = Value.int .i64 a1 ∧ f 5 = Value.int .i64 s21) (fun (q : Rs Int Empty) e f w => match q with | .go s21 => e = Exit.exit 0 ∧ (∃ H : GH, St Ha wa H w [] ∧ Inc Ha H ∧ f 0 = v0 ∧ f 1 = Value.int .i64 a1 ∧ f 5 = Value.int .i64 s21) | .rt x => x.elim) hq ⟨_, S0, (Inc.rfl _), rfl, rfl, rfl⟩ ?_) ?_
 ·
  clear hp hq
  rintro s21 f74 w73 ⟨H70, S71, i72, k75, k76, k77⟩ o118 hp
  refine FW.seq (FW.seq (FW.region ?_))
  refine FL.v (E.move k77) ?_
  refine FL.v (E.move k75) ?_
  refine FL.v (E.lenP te25 rfl p0) ?_
  refine FL.v (E.lss rfl rfl) ?_
  refine FL.v (E.move (v := Value.bool (decide (s21 < (len a0)))) rfl) ?_
  obtain ⟨t92, hqt92, hp⟩ := bnd hp
  refine FL.cut 9 (fun f w => ∃ H : GH, St Ha wa H w [] ∧ Inc H70 H ∧ f 0 = v0 ∧ f 1 = Value.int .i64 a1 ∧ f 5 = Value.int .i64 s21 ∧ f 19 = Value.bool t92) ?_ ?_
  ·
   clear hp; have hp := hqt92; clear hqt92
   rcases ifB hp with ⟨c98, hp⟩ | ⟨c98, hp⟩
   ·
    refine FL.val (wF_yes rfl rfl rfl c98) rfl rfl (E.move k75) ?_
    refine FL.val (wF_yes rfl rfl rfl c98) rfl rfl (E.move k77) ?_
    obtain ⟨x105, hx106, hp⟩ := bnd hp
    obtain ⟨p99, cs100, pt101, l102, at103, rel104⟩ := p0.at hx106
    obtain rfl := eI_open rel104
    refine FL.val (wF_yes rfl rfl rfl c98) rfl rfl (E.indexAddr te25 rfl rfl pt101) ?_
    refine FL.val (wF_yes rfl rfl rfl c98) rfl rfl (E.load rfl (run_load0 Tryz.isAgg3 ((at103.mono i72).now S71.sl) rfl)) ?_
    refine FL.call (wF_yes rfl rfl rfl c98) rfl rfl (E.call Tryz.call166 (A1 rfl)) (w_spec_l2Var S71.sl x105) ?_
    rintro e w107 ⟨rfl, r108⟩
    refine ⟨_, rfl, ?_⟩
    have S109 := S71.call r108
    refine FL.val (wF_yes rfl rfl rfl c98) rfl rfl (E.move k76) ?_
    refine FL.call (wF_yes rfl rfl rfl c98) rfl rfl (E.call Tryz.call166 (A1 rfl)) (w_spec_l2Var S109.sl a1) ?_
    rintro e w110 ⟨rfl, r111⟩
    refine ⟨_, rfl, ?_⟩
    have S112 := S109.call r111
    refine FL.val (wF_yes rfl rfl rfl c98) rfl rfl (E.lss rfl rfl) ?_
    obtain rfl := Option.some.inj hp
    refine FL.v (E.pickT rfl c98 rfl) ?_
    exact FL.nil ⟨rfl, _, S112, (Inc.rfl _), k75, k76, k77, rfl⟩
   ·
    refine FL.skip (wF_no rfl rfl rfl c98) rfl ?_
    refine FL.skip (wF_no rfl rfl rfl c98) rfl ?_
    refine FL.skip (wF_no rfl rfl rfl c98) rfl ?_
    refine FL.skip (wF_no rfl rfl rfl c98) rfl ?_
    refine FL.skip (wF_no rfl rfl rfl c98) rfl ?_
    refine FL.skip (wF_no rfl rfl rfl c98) rfl ?_
    refine FL.skip (wF_no rfl rfl rfl c98) rfl ?_
    refine FL.skip (wF_no rfl rfl rfl c98) rfl ?_
    obtain rfl := Option.some.inj hp
    refine FL.v (E.pickF rfl c98 rfl) ?_
    exact FL.nil ⟨rfl, _, S71, (Inc.rfl _), k75, k76, k77, rfl⟩
  rintro f97 w96 ⟨H93, S94, i95, k113, k114, k115, k116⟩
  refine FL.nil ?_
  rcases ifB hp with ⟨c117, hp⟩ | ⟨c117, hp⟩
  ·
   refine FW.condT k116 c117 ?_
   refine FW.skip (FW.block (FW.region ?_))
   refine FL.v (E.move k115) ?_
   refine FL.v (E.add rfl rfl) ?_
   refine FL.v (E.assign (v := Value.int .i64 (wr (s21 + 1))) rfl) ?_
   refine FL.nil ?_
   obtain rfl := Option.some.inj hp
   exact ⟨rfl, ⟨_, S94, (i72.tr i95), k113, k114, rfl⟩⟩
  ·
   refine FW.condF k116 c117 ?_
   refine FW.exit ?_
   obtain rfl := Option.some.inj hp
   exact ⟨nofun, rfl, ⟨_, S94, (i72.tr i95), k113, k114, k115⟩⟩
 ·
  clear hq
  intro e f123 w122 hD
  rcases q21 with s21 | x21
  ·
   obtain ⟨rfl, hD⟩ := hD
   obtain ⟨H119, S120, i121, k124, k125, k126⟩ := hD
   replace hp := el_go hp
   refine FW.seq ?_
   obtain ⟨xs22, hc23, hp⟩ := bnd hp
   obtain ⟨r28, hr29, hp⟩ := bnd hp
   obtain ⟨xs43, hz44, hp⟩ := bnd hp
   obtain ⟨xs54, hc55, hp⟩ := bnd hp
   obtain ⟨xs59, hz60, hp⟩ := bnd hp
   refine FW.drawB (Sl H119) (fun f w => ∃ H : GH, ∃ v68 : Value, ∃ n69 : Nat, ∃ cs78 : List Value, St Ha wa H w [.row 3 1 v68 n69 cs78] ∧ Inc H119 H ∧ Els (up wa.heap.size H) eI 1 cs78 xs59 ∧ f 4 = v68) (by kernel_rfl) S120.sl ?_ ?_
   ·
    intro w127 r128
    have S129 := S120.call r128
    refine FB.t (i := 0) (bs 12 1) rfl (SP.nil S129.sl) rfl (fun w' hw' => (E.move k124)) ?_
    refine FB.t (i := 1) (bs 12 3) rfl (SP.nil S129.sl) rfl (fun w' hw' => (E.move k126)) ?_
    obtain ⟨v24, run26, h27⟩ := p0.cut te25 hc23 (lo := none) (hi := some (Value.int .i64 s21)) (.inl ⟨rfl, rfl⟩) (.inr ⟨_, rfl⟩)
    refine FB.t (i := 2) (bs 12 7) rfl (SP.nil S129.sl) rfl (fun w' hw' => (E.slice te25 rfl rfl (congrArg some rfl) rfl (run26 _))) ?_
    refine FB.t (i := 4) (bs 12 23) rfl (SP.nil S129.sl) rfl (fun w' hw' => (E.move k125)) ?_
    refine FB.t (i := 7) (bs 12 151) rfl (SP.nil S129.sl) rfl (fun w' hw' => (E.move k124)) ?_
    refine FB.t (i := 8) (bs 12 407) rfl (SP.nil S129.sl) rfl (fun w' hw' => (E.move k126)) ?_
    obtain ⟨v56, run57, h58⟩ := p0.cut te25 hc55 (lo := some (Value.int .i64 s21)) (hi := none) (.inr ⟨_, rfl⟩) (.inl ⟨rfl, rfl⟩)
    refine FB.t (i := 9) (bs 12 919) rfl (SP.nil S129.sl) rfl (fun w' hw' => (E.slice te25 rfl (congrArg some rfl) rfl rfl (run57 _))) ?_
    refine FB.all2 (i := 3) (j := 5) (by kernel_rfl) ?_ ?_
    ·
     refine FC.call (l' := (bs 12 927)) rfl (by kernel_rfl) rfl rfl rfl (E.call Tryz.call214 (A1 rfl)) (w_spec_l1Own S129.sl v24 xs22 (h27.mono i121) hr29) ?_
     rintro e w31 ⟨H30, v34, n35, cs36, rfl, r33, els37⟩
     refine ⟨_, rfl, ?_⟩
     have els37 := els37.mono (up_le S129.size)
     have S32 := S129.join (l' := [.row 3 1 v34 n35 cs36]) r33 rfl
     refine ⟨(SP.nil (Sl.of_inc r33.run.inc S32.sl)), ?_⟩
     refine FB.all1 (i := 5) (by kernel_rfl) ?_
     ·
      obtain ⟨v38, w39, run40, S41, els42⟩ := S32.ints (P := Tryz.prog) te25 (up wa.heap.size H30) 1 [a1]
      refine FC.val (l' := (bs 12 959)) rfl (by kernel_rfl) rfl rfl rfl (E.buildSlice (B1 rfl) run40) ?_
      refine ⟨(SP.nil (Sl.of_inc r33.run.inc S41.sl)), ?_⟩
      refine FB.all1 (i := 6) (by kernel_rfl) ?_
      ·
       obtain ⟨v45, w48, n46, cs47, run49, S50, els51, ce52⟩ := S41.appendO (P := Tryz.prog) te25 (i := 1) (j := 0) rfl els37 rfl els42 hz44
       have S50 : St Ha wa H30 w48 [.row 3 1 v38 1 (iC [a1]), .row 3 1 v45 n46 cs47] := S50
       have S53 : St Ha wa H30 w48 [.row 3 1 v45 n46 cs47] := S50.drop 0
       refine FC.val (l' := (bs 12 1023)) rfl (by kernel_rfl) rfl rfl rfl (E.append rfl rfl run49) ?_
       refine ⟨(SP.nil (Sl.of_inc r33.run.inc S53.sl)), ?_⟩
       refine FB.all1 (i := 10) (by kernel_rfl) ?_
       ·
        obtain ⟨v61, w64, n62, cs63, run65, S66, els67⟩ := S53.appendP (P := Tryz.prog) (Inc.rfl _) te25 (i := 0) rfl (els51.mono upI) (h58.mono (i121.tr r33.run.inc)) hz60
        have S66 : St Ha wa H30 w64 [.row 3 1 v61 n62 cs63] := S66
        have els67 : Els (up wa.heap.size H30) eI 1 cs63 xs59 := els67.any (fun _ _ _ _ h => h)
        refine FC.val (l' := (bs 12 2047)) rfl (by kernel_rfl) rfl rfl rfl (E.append rfl rfl run65) ?_
        refine ⟨(SP.nil (Sl.of_inc r33.run.inc S66.sl)), ?_⟩
        refine FB.t (i := 11) (bs 12 4095) rfl (SP.nil (Sl.of_inc r33.run.inc S66.sl)) rfl (fun w' hw' => (E.assign (v := v61) rfl)) ?_
        exact FB.done (by kernel_rfl) ⟨_, _, _, _, S66, r33.run.inc, els67, rfl⟩
    ·
     obtain ⟨v38, w39, run40, S41, els42⟩ := S129.ints (P := Tryz.prog) te25 (up wa.heap.size H119) 1 [a1]
     refine FC.val (l' := (bs 12 951)) rfl (by kernel_rfl) rfl rfl rfl (E.buildSlice (B1 rfl) run40) ?_
     refine ⟨(SP.nil S41.sl), ?_⟩
     refine FB.all1 (i := 3) (by kernel_rfl) ?_
     ·
      refine FC.call (l' := (bs 12 959)) rfl (by kernel_rfl) rfl rfl rfl (E.call Tryz.call214 (A1 rfl)) (w_spec_l1Own S41.sl v24 xs22 (h27.mono i121) hr29) ?_
      rintro e w31 ⟨H30, v34, n35, cs36, rfl, r33, els37⟩
      refine ⟨_, rfl, ?_⟩
      have els37 := els37.mono (up_le S41.size)
      have S32 := S41.join (l' := [.row 3 1 v34 n35 cs36, .row 3 1 v38 1 (iC [a1])]) r33 rfl
      refine ⟨(SP.nil (Sl.of_inc r33.run.inc S32.sl)), ?_⟩
      refine FB.all1 (i := 6) (by kernel_rfl) ?_
      ·
       obtain ⟨v45, w48, n46, cs47, run49, S50, els51, ce52⟩ := S32.appendO (P := Tryz.prog) te25 (i := 0) (j := 1) rfl els37 rfl (els42.mono (up_mono r33.run.inc)) hz44
       have S50 : St Ha wa H30 w48 [.row 3 1 v45 n46 cs47, .row 3 1 v38 1 (iC [a1])] := S50
       have S53 : St Ha wa H30 w48 [.row 3 1 v45 n46 cs47] := S50.drop 1
       refine FC.val (l' := (bs 12 1023)) rfl (by kernel_rfl) rfl rfl rfl (E.append rfl rfl run49) ?_
       refine ⟨(SP.nil (Sl.of_inc r33.run.inc S53.sl)), ?_⟩
       refine FB.all1 (i := 10) (by kernel_rfl) ?_
       ·
        obtain ⟨v61, w64, n62, cs63, run65, S66, els67⟩ := S53.appendP (P := Tryz.prog) (Inc.rfl _) te25 (i := 0) rfl (els51.mono upI) (h58.mono (i121.tr r33.run.inc)) hz60
        have S66 : St Ha wa H30 w64 [.row 3 1 v61 n62 cs63] := S66
        have els67 : Els (up wa.heap.size H30) eI 1 cs63 xs59 := els67.any (fun _ _ _ _ h => h)
        refine FC.val (l' := (bs 12 2047)) rfl (by kernel_rfl) rfl rfl rfl (E.append rfl rfl run65) ?_
        refine ⟨(SP.nil (Sl.of_inc r33.run.inc S66.sl)), ?_⟩
        refine FB.t (i := 11) (bs 12 4095) rfl (SP.nil (Sl.of_inc r33.run.inc S66.sl)) rfl (fun w' hw' => (E.assign (v := v61) rfl)) ?_
        exact FB.done (by kernel_rfl) ⟨_, _, _, _, S66, r33.run.inc, els67, rfl⟩
   ·
    rintro f84 w83 ⟨H80, v68, n69, cs78, S81, i82, els79, k85⟩
    refine FW.ret ?_
    obtain rfl := Option.some.inj hp
    exact ⟨.inr rfl, res1 rfl k85 ⟨_, _, _, _, rfl, S81, els79⟩⟩
  ·
   exact x21.elim

@[reducible] def p_spec_l2Join (Ha : GH) (wa : World) (r : ((List Int) × Bool)) : Ending → World → Prop :=
 fun e w' => ∃ H' : GH, ∃ v0 : Value, ∃ n0 : Nat, ∃ c0 : List Value, e = .returned (Value.tuple #[v0, Value.bool r.2]) ∧ St Ha wa H' w' [.row 3 1 v0 n0 c0] ∧ Els (up wa.heap.size H') eI 1 c0 r.1
set_option maxHeartbeats 4000000 in
theorem w_spec_l2Join {Ha : GH} {wa : World} (hs : Sl Ha wa) (v0 : Value) (a0 : List Int) (p0 : RSl Ha eI 1 v0 a0) (v1 : Value) (a1 : List Int) (p1 : RSl Ha eI 1 v1 a1) {r : ((List Int) × Bool)} (hp : (PF.spec_l2Join a0 a1) = some r) :
  Calls Tryz.prog 301 #[v0, v1] wa (p_spec_l2Join Ha wa r) := by
 unfold PF.spec_l2Join at hp
 have S0 := St.init hs
 refine calls_go (N := 38) (args := [v0, v1]) Tryz.func301 rfl rfl rfl ?_
 refine FW.seq (FW.region ?_)
 refine FL.v (E.assign (v := Value.slice none 0 0) rfl) ?_
 refine FL.v (E.assign (v := Value.bool false) rfl) ?_
 refine FL.nil (FW.seq (FW.region ?_))
 refine FL.v (E.move (v := v0) rfl) ?_
 obtain ⟨r21, hr22, hp⟩ := bnd hp
 refine FL.call rfl rfl rfl (E.call Tryz.call214 (A1 rfl)) (w_spec_l1Own S0.sl v0 a0 p0 hr22) ?_
 rintro e w24 ⟨H23, v27, n28, cs29, rfl, r26, els30⟩
 refine ⟨_, rfl, ?_⟩
 have els30 := els30.mono (up_le S0.size)
 have S25 := S0.join (l' := [.row 3 1 v27 n28 cs29]) r26 rfl
 refine FL.v (E.assign (v := v27) rfl) ?_
 refine FL.nil (FW.seq (FW.seq (FW.region ?_)))
 refine FL.v (E.assign (v := Value.int .i64 0) rfl) ?_
 refine FL.nil ?_
 obtain ⟨q32, hq, hp⟩ := bndR hp
 refine FW.block ?_
 refine FW.mono (FW.forL (S := (List Int)) (X := ((List Int) × Bool)) (fun (i32 : Nat) (s32 : (List Int)) f w => ∃ H : GH, ∃ v107 : Value, ∃ n108 : Nat, ∃ cs109 : List Value, St Ha wa H w [.row 3 1 v107 n108 cs109] ∧ Inc H23 H ∧ Els (up wa.heap.size H) eI 1 cs109 s32 ∧ f 7 = Value.int .i64 ((i32 : Nat) : Int) ∧ f 1 = v1 ∧ f 6 = v107) (fun q e f w => match q with | .go s32 => e = Exit.exit 0 ∧ (∃ H : GH, ∃ v107 : Value, ∃ n108 : Nat, ∃ cs109 : List Value, St Ha wa H w [.row 3 1 v107 n108 cs109] ∧ Inc H23 H ∧ Els (up wa.heap.size H) eI 1 cs109 s32 ∧ f 6 = v107) | .rt x => ((e = Exit.ret) ∧ (fun e f w => (e = Exit.normal ∨ e = Exit.ret) ∧ ∀ a, Fr (δ := []) 38 a f → ∃ v, (results Tryz.f301 a.tmps).run Tryz.prog w = .ok v w ∧ (p_spec_l2Join Ha wa x) (.returned v) w) e f w)) hq ⟨_, _, _, _, S25, (Inc.rfl _), els30, rfl, rfl, rfl⟩ ?_ ?_) ?_
 ·
  clear hp hq
  rintro i32 y31 s32 f185 w184 ⟨H181, v107, n108, cs109, S182, i183, els110, k186, k187, k188⟩ hx32 o251 hp
  refine FW.seq (FW.seq (FW.region ?_))
  refine FL.v (E.move k186) ?_
  refine FL.v (E.move k187) ?_
  refine FL.v (E.lenP te25 rfl p1) ?_
  refine FL.v (E.lssT rfl rfl (lss_len hx32)) ?_
  refine FL.nil ?_
  refine FW.condT rfl rfl ?_
  refine FW.skip (FW.seq (FW.block (FW.seq (FW.seq (FW.region ?_)))))
  refine FL.v (E.move k188) ?_
  refine FL.v (E.move k187) ?_
  refine FL.v (E.move k186) ?_
  obtain ⟨p189, cs190, pt191, l192, at193, rel194⟩ := p1.at (ix_nat hx32)
  obtain rfl := eI_open rel194
  refine FL.v (E.indexAddr te25 rfl rfl pt191) ?_
  refine FL.v (E.load rfl (run_load0 Tryz.isAgg3 ((at193.mono (r26.run.inc.tr i183)).now S182.sl) rfl)) ?_
  refine FL.v (E.neg rfl) ?_
  obtain ⟨H195, S196, i197, h198, nv199⟩ := S182.sealRowU (i := 0) (l' := []) rfl els110 (by decide) rfl
  obtain ⟨r200, hr201, hp⟩ := bnd hp
  refine FL.call rfl rfl rfl (E.call Tryz.call196 (A2 rfl rfl)) (w_spec_l2Has S196.sl v107 s32 (h198.mono upI) (wr (-y31)) hr201) ?_
  rintro e w202 ⟨rfl, r203⟩
  refine ⟨_, rfl, ?_⟩
  have r203 := Run.lend i197 S182.sl r203
  have S204 := S182.call r203
  refine FL.nil ?_
  rcases ifB hp with ⟨c205, hp⟩ | ⟨c205, hp⟩
  ·
   refine FW.condT rfl c205 ?_
   refine FW.seq (FW.region ?_)
   obtain ⟨v206, w207, run208, S209⟩ := S204.buildSlice (P := Tryz.prog) te25 [] (parts := #[]) (cells := []) rfl szs_nil fc_nil ones_nil (Nat.le_of_ble_eq_true rfl)
   have els210 : Els (up wa.heap.size H181) eI 1 [] [] := Els.nil
   refine FL.v (E.buildSlice (B0) run208) ?_
   refine FL.v (E.assign (v := v206) rfl) ?_
   refine FL.v (E.assign (v := Value.bool false) rfl) ?_
   refine FL.nil ?_
   refine FW.ret ?_
   obtain rfl := Option.some.inj hp
   exact ⟨nofun, rfl, ⟨.inr rfl, res2 rfl rfl rfl ⟨_, _, _, _, rfl, (S209.sel [0] (by decide) rfl), els210⟩⟩⟩
  ·
   refine FW.condF rfl c205 ?_
   refine FW.skip (FW.seq (FW.region ?_))
   refine FL.v (E.move k188) ?_
   refine FL.v (E.move k187) ?_
   refine FL.v (E.move k186) ?_
   obtain ⟨p211, cs212, pt213, l214, at215, rel216⟩ := p1.at (ix_nat hx32)
   obtain rfl := eI_open rel216
   refine FL.v (E.indexAddr te25 rfl rfl pt213) ?_
   refine FL.v (E.load rfl (run_load0 Tryz.isAgg3 ((at215.mono (r26.run.inc.tr i183)).now S204.sl) rfl)) ?_
   obtain ⟨H217, S218, i219, h220, nv221⟩ := S204.sealRowU (i := 0) (l' := []) rfl els110 (by decide) rfl
   obtain ⟨r222, hr223, hp⟩ := bnd hp
   refine FL.call rfl rfl rfl (E.call Tryz.call196 (A2 rfl rfl)) (w_spec_l2Has S218.sl v107 s32 (h220.mono upI) y31 hr223) ?_
   rintro e w224 ⟨rfl, r225⟩
   refine ⟨_, rfl, ?_⟩
   have r225 := Run.lend i219 S204.sl r225
   have S226 := S204.call r225
   refine FL.v (E.not rfl) ?_
   refine FL.nil ?_
   rcases ifB hp with ⟨c227, hp⟩ | ⟨c227, hp⟩
   ·
    refine FW.condT rfl c227 ?_
    refine FW.region ?_
    refine FL.v (E.move k188) ?_
    refine FL.v (E.move k187) ?_
    refine FL.v (E.move k186) ?_
    obtain ⟨p228, cs229, pt230, l231, at232, rel233⟩ := p1.at (ix_nat hx32)
    obtain rfl := eI_open rel233
    refine FL.v (E.indexAddr te25 rfl rfl pt230) ?_
    refine FL.v (E.load rfl (run_load0 Tryz.isAgg3 ((at232.mono (r26.run.inc.tr i183)).now S226.sl) rfl)) ?_
    obtain ⟨H234, S235, i236, h237, nv238⟩ := S226.sealRowU (i := 0) (l' := []) rfl els110 (by decide) rfl
    obtain ⟨r239, hr240, hp⟩ := bnd hp
    refine FL.call rfl rfl rfl (E.call Tryz.call194 (A2 rfl rfl)) (w_spec_l2Put S235.sl v107 s32 (h237.mono upI) y31 hr240) ?_
    rintro e w242 ⟨H241, v247, n248, cs249, rfl, r244, els250⟩
    refine ⟨_, rfl, ?_⟩
    obtain ⟨H245, r244, hU246⟩ := St.lendX i236 S226.sl r244
    have els250 := els250.mono (hU246.tr (up_le S226.size))
    have S243 := S226.join (l' := [.row 3 1 v247 n248 cs249, .row 3 1 v107 n108 cs109]) r244 rfl
    refine FL.v (E.assign (v := v247) rfl) ?_
    refine FL.nil (FW.region ?_)
    refine FL.v (E.move k186) ?_
    refine FL.v (E.add rfl rfl) ?_
    refine FL.v (E.assign (v := Value.int .i64 (wr (((i32 : Nat) : Int) + 1))) rfl) ?_
    refine FL.nil ?_
    obtain rfl := Option.some.inj hp
    exact ⟨rfl, ⟨_, _, _, _, (S243.sel [0] (by decide) rfl), (i183.tr r244.run.inc), els250, (nat_succ rfl (lt_of_get hx32) (p1.mono ((r26.run.inc.tr i183).tr r244.run.inc)).le), k187, rfl⟩⟩
   ·
    refine FW.condF rfl c227 ?_
    refine FW.skip (FW.region ?_)
    refine FL.v (E.move k186) ?_
    refine FL.v (E.add rfl rfl) ?_
    refine FL.v (E.assign (v := Value.int .i64 (wr (((i32 : Nat) : Int) + 1))) rfl) ?_
    refine FL.nil ?_
    obtain rfl := Option.some.inj hp
    exact ⟨rfl, ⟨_, _, _, _, S226, i183, els110, (nat_succ rfl (lt_of_get hx32) (p1.mono (r26.run.inc.tr i183)).le), k187, k188⟩⟩
 ·
  clear hp hq
  rintro s32 f262 w261 ⟨H258, v107, n108, cs109, S259, i260, els110, k263, k264, k265⟩
  refine FW.seq (FW.seq (FW.region ?_))
  refine FL.v (E.move k263) ?_
  refine FL.v (E.move k264) ?_
  refine FL.v (E.lenP te25 rfl p1) ?_
  refine FL.v (E.lss rfl rfl) ?_
  refine FL.nil ?_
  refine FW.condF rfl dlt_len ?_
  refine FW.exit ?_
  exact ⟨nofun, rfl, ⟨_, _, _, _, S259, i260, els110, k265⟩⟩
 ·
  clear hq
  intro e f256 w255 hD
  rcases q32 with s32 | x32
  ·
   obtain ⟨rfl, hD⟩ := hD
   obtain ⟨H252, v107, n108, cs109, S253, i254, els110, k257⟩ := hD
   replace hp := el_go hp
   refine FW.seq (FW.region ?_)
   refine FL.v (E.move k257) ?_
   refine FL.v (E.assign (v := v107) rfl) ?_
   refine FL.v (E.assign (v := Value.bool true) rfl) ?_
   refine FL.nil ?_
   refine FW.ret ?_
   obtain rfl := Option.some.inj hp
   exact ⟨.inr rfl, res2 rfl rfl rfl ⟨_, _, _, _, rfl, S253, els110⟩⟩
  ·
   obtain ⟨he, hL⟩ := hD
   replace hp := el_rt hp
   obtain rfl := Option.some.inj hp
   subst he
   exact hL

@[reducible] def p_spec_l2Resolve (Ha : GH) (wa : World) (r : ((List Int) × Bool)) : Ending → World → Prop :=
 fun e w' => ∃ H' : GH, ∃ v0 : Value, ∃ n0 : Nat, ∃ c0 : List Value, e = .returned (Value.tuple #[v0, Value.bool r.2]) ∧ St Ha wa H' w' [.row 3 1 v0 n0 c0] ∧ Els (up wa.heap.size H') eI 1 c0 r.1
theorem w_spec_l2Resolve {Ha : GH} {wa : World} (hs : Sl Ha wa) (v0 : Value) (a0 : List Int) (p0 : RSl Ha eI 1 v0 a0) (v1 : Value) (a1 : List Int) (p1 : RSl Ha eI 1 v1 a1) (a2 : Int) {r : ((List Int) × Bool)} (hp : (PF.spec_l2Resolve a0 a1 a2) = some r) :
  Calls Tryz.prog 235 #[v0, v1, Value.int .i64 a2] wa (p_spec_l2Resolve Ha wa r) := by
 unfold PF.spec_l2Resolve at hp
 have S0 := St.init hs
 refine calls_go (N := 29) (args := [v0, v1, Value.int .i64 a2]) Tryz.func235 rfl rfl rfl ?_
 refine FW.seq (FW.region ?_)
 refine FL.v (E.assign (v := Value.slice none 0 0) rfl) ?_
 refine FL.v (E.assign (v := Value.bool false) rfl) ?_
 refine FL.nil (FW.seq (FW.seq (FW.region ?_)))
 refine FL.v (E.move (v := v0) rfl) ?_
 refine FL.v (E.move (v := Value.int .i64 a2) rfl) ?_
 obtain ⟨r21, hr22, hp⟩ := bnd hp
 refine FL.call rfl rfl rfl (E.call Tryz.call196 (A2 rfl rfl)) (w_spec_l2Has S0.sl v0 a0 p0 a2 hr22) ?_
 rintro e w23 ⟨rfl, r24⟩
 refine ⟨_, rfl, ?_⟩
 have S25 := S0.call r24
 refine FL.v (E.not rfl) ?_
 refine FL.v (E.move (v := Value.bool (!r21)) rfl) ?_
 obtain ⟨t31, hqt31, hp⟩ := bnd hp
 refine FL.cut 6 (fun f w => ∃ H : GH, St Ha wa H w [] ∧ Inc Ha H ∧ f 0 = v0 ∧ f 1 = v1 ∧ f 2 = Value.int .i64 a2 ∧ f 18 = Value.bool t31) ?_ ?_
 ·
  clear hp; have hp := hqt31; clear hqt31
  rcases ifB hp with ⟨c37, hp⟩ | ⟨c37, hp⟩
  ·
   refine FL.skip (wF_no rfl rfl rfl c37) rfl ?_
   refine FL.skip (wF_no rfl rfl rfl c37) rfl ?_
   refine FL.skip (wF_no rfl rfl rfl c37) rfl ?_
   refine FL.skip (wF_no rfl rfl rfl c37) rfl ?_
   refine FL.skip (wF_no rfl rfl rfl c37) rfl ?_
   obtain rfl := Option.some.inj hp
   refine FL.v (E.pickT rfl c37 rfl) ?_
   exact FL.nil ⟨rfl, _, S25, (Inc.rfl _), rfl, rfl, rfl, rfl⟩
  ·
   refine FL.val (wF_yes rfl rfl rfl c37) rfl rfl (E.move (v := v1) rfl) ?_
   refine FL.val (wF_yes rfl rfl rfl c37) rfl rfl (E.move (v := Value.int .i64 a2) rfl) ?_
   refine FL.val (wF_yes rfl rfl rfl c37) rfl rfl (E.neg rfl) ?_
   obtain ⟨r38, hr39, hp⟩ := bnd hp
   refine FL.call (wF_yes rfl rfl rfl c37) rfl rfl (E.call Tryz.call196 (A2 rfl rfl)) (w_spec_l2Has S25.sl v1 a1 p1 (wr (-a2)) hr39) ?_
   rintro e w40 ⟨rfl, r41⟩
   refine ⟨_, rfl, ?_⟩
   have S42 := S25.call r41
   refine FL.val (wF_yes rfl rfl rfl c37) rfl rfl (E.not rfl) ?_
   obtain rfl := Option.some.inj hp
   refine FL.v (E.pickF rfl c37 rfl) ?_
   exact FL.nil ⟨rfl, _, S42, (Inc.rfl _), rfl, rfl, rfl, rfl⟩
 rintro f36 w35 ⟨H32, S33, i34, k43, k44, k45, k46⟩
 refine FL.nil ?_
 rcases ifB hp with ⟨c47, hp⟩ | ⟨c47, hp⟩
 ·
  refine FW.condT k46 c47 ?_
  refine FW.seq (FW.region ?_)
  obtain ⟨v48, w49, run50, S51⟩ := S33.buildSlice (P := Tryz.prog) te25 [] (parts := #[]) (cells := []) rfl szs_nil fc_nil ones_nil (Nat.le_of_ble_eq_true rfl)
  have els52 : Els (up wa.heap.size H32) eI 1 [] [] := Els.nil
  refine FL.v (E.buildSlice (B0) run50) ?_
  refine FL.v (E.assign (v := v48) rfl) ?_
  refine FL.v (E.assign (v := Value.bool false) rfl) ?_
  refine FL.nil ?_
  refine FW.ret ?_
  obtain rfl := Option.some.inj hp
  exact ⟨.inr rfl, res2 rfl rfl rfl ⟨_, _, _, _, rfl, S51, els52⟩⟩
 ·
  refine FW.condF k46 c47 ?_
  refine FW.skip (FW.seq (FW.region ?_))
  refine FL.v (E.move k43) ?_
  refine FL.v (E.move k45) ?_
  obtain ⟨r53, hr54, hp⟩ := bnd hp
  refine FL.call rfl rfl rfl (E.call Tryz.call287 (A2 rfl rfl)) (w_spec_l2Without S33.sl v0 a0 (p0.mono i34) a2 hr54) ?_
  rintro e w56 ⟨H55, v59, n60, cs61, rfl, r58, els62⟩
  refine ⟨_, rfl, ?_⟩
  have els62 := els62.mono (up_le S33.size)
  have S57 := S33.join (l' := [.row 3 1 v59 n60 cs61]) r58 rfl
  refine FL.v (E.move k44) ?_
  refine FL.v (E.move k45) ?_
  obtain ⟨r63, hr64, hp⟩ := bnd hp
  refine FL.call rfl rfl rfl (E.call Tryz.call287 (A2 rfl rfl)) (w_spec_l2Without S57.sl v1 a1 (p1.mono (i34.tr r58.run.inc)) a2 hr64) ?_
  rintro e w66 ⟨H65, v69, n70, cs71, rfl, r68, els72⟩
  refine ⟨_, rfl, ?_⟩
  have els72 := els72.mono (up_le S57.size)
  have S67 := S57.join (l' := [.row 3 1 v69 n70 cs71, .row 3 1 v59 n60 cs61]) r68 rfl
  obtain ⟨H73, S74, i75, h76, nv77⟩ := S67.sealRowU (i := 1) (l' := [.row 3 1 v69 n70 cs71]) rfl (els62.mono (up_mono r68.run.inc)) (by decide) rfl
  obtain ⟨H78, S79, i80, h81, nv82⟩ := S74.sealRowU (i := 0) (l' := []) rfl (els72.mono (up_mono i75)) (by decide) rfl
  obtain ⟨r83, hr84, hp⟩ := bnd hp
  refine FL.call rfl rfl rfl (E.call Tryz.call301 (A2 rfl rfl)) (w_spec_l2Join S79.sl v59 r53 (h76.mono (upI.tr i80)) v69 r63 (h81.mono upI) hr84) ?_
  rintro e w86 ⟨H85, v91, n92, cs93, rfl, r88, els94⟩
  refine ⟨_, rfl, ?_⟩
  obtain ⟨H89, r88, hU90⟩ := St.lendX (i75.tr i80) S67.sl r88
  have els94 := els94.mono (hU90.tr (up_le S67.size))
  have S87 := S67.join (l' := [.row 3 1 v91 n92 cs93, .row 3 1 v69 n70 cs71, .row 3 1 v59 n60 cs61]) r88 rfl
  refine FL.v (E.extract (i := 0) rfl rfl) ?_
  refine FL.v (E.extract (i := 1) rfl rfl) ?_
  refine FL.v (E.assign (v := v91) rfl) ?_
  refine FL.v (E.assign (v := Value.bool r83.2) rfl) ?_
  refine FL.nil ?_
  refine FW.ret ?_
  obtain rfl := Option.some.inj hp
  exact ⟨.inr rfl, res2 rfl rfl rfl ⟨_, _, _, _, rfl, (S87.sel [0] (by decide) rfl), els94⟩⟩

theorem w_spec_l2At {Ha : GH} {wa : World} (hs : Sl Ha wa) (v0 : Value) (a0 : List (List Int)) (p0 : RSl Ha (eL eI 1) 1 v0 a0) (v1 : Value) (a1 : List Int) (p1 : RSl Ha eI 1 v1 a1) {r : Int} (hp : (PF.spec_l2At a0 a1) = some r) :
  Calls Tryz.prog 234 #[v0, v1] wa (Sc Ha wa (Value.int .i64 r)) := by
 unfold PF.spec_l2At at hp
 have S0 := St.init hs
 refine calls_go (N := 22) (args := [v0, v1]) Tryz.func234 rfl rfl rfl ?_
 refine FW.seq (FW.region ?_)
 refine FL.v (E.assign (v := Value.int .i64 0) rfl) ?_
 refine FL.nil (FW.seq (FW.region ?_))
 refine FL.v (E.move (v := v0) rfl) ?_
 refine FL.v (E.move (v := v1) rfl) ?_
 obtain ⟨r21, hr22, hp⟩ := bnd hp
 refine FL.call rfl rfl rfl (E.call Tryz.call281 (A2 rfl rfl)) (w_spec_l2Place S0.sl v0 a0 p0 v1 a1 p1 hr22) ?_
 rintro e w23 ⟨rfl, r24⟩
 refine ⟨_, rfl, ?_⟩
 have S25 := S0.call r24
 refine FL.v (E.assign (v := Value.int .i64 r21) rfl) ?_
 refine FL.nil (FW.seq (FW.seq (FW.region ?_)))
 refine FL.v (E.move (v := Value.int .i64 r21) rfl) ?_
 refine FL.v (E.move (v := v0) rfl) ?_
 refine FL.v (E.lenP te22 rfl p0) ?_
 refine FL.v (E.lss rfl rfl) ?_
 refine FL.v (E.move (v := Value.bool (decide (r21 < (len a0)))) rfl) ?_
 obtain ⟨t41, hqt41, hp⟩ := bnd hp
 refine FL.cut 7 (fun f w => ∃ H : GH, St Ha wa H w [] ∧ Inc Ha H ∧ f 5 = Value.int .i64 r21 ∧ f 20 = Value.bool t41) ?_ ?_
 ·
  clear hp; have hp := hqt41; clear hqt41
  rcases ifB hp with ⟨c47, hp⟩ | ⟨c47, hp⟩
  ·
   refine FL.val (wF_yes rfl rfl rfl c47) rfl rfl (E.move (v := v0) rfl) ?_
   refine FL.val (wF_yes rfl rfl rfl c47) rfl rfl (E.move (v := Value.int .i64 r21) rfl) ?_
   obtain ⟨x54, hx55, hp⟩ := bnd hp
   obtain ⟨p48, cs49, pt50, l51, at52, rel53⟩ := p0.at hx55
   obtain ⟨v56, rfl, h57⟩ := eL_open rel53
   refine FL.val (wF_yes rfl rfl rfl c47) rfl rfl (E.indexAddr te22 rfl rfl pt50) ?_
   refine FL.val (wF_yes rfl rfl rfl c47) rfl rfl (E.load rfl (run_load0 Tryz.isAgg25 (at52.now S25.sl) rfl)) ?_
   refine FL.val (wF_yes rfl rfl rfl c47) rfl rfl (E.move (v := v1) rfl) ?_
   obtain ⟨r58, hr59, hp⟩ := bnd hp
   refine FL.call (wF_yes rfl rfl rfl c47) rfl rfl (E.call Tryz.call255 (A2 rfl rfl)) (w_spec_l1Same S25.sl v56 x54 h57 v1 a1 p1 hr59) ?_
   rintro e w60 ⟨rfl, r61⟩
   refine ⟨_, rfl, ?_⟩
   have S62 := S25.call r61
   obtain rfl := Option.some.inj hp
   refine FL.v (E.pickT rfl c47 rfl) ?_
   exact FL.nil ⟨rfl, _, S62, (Inc.rfl _), rfl, rfl⟩
  ·
   refine FL.skip (wF_no rfl rfl rfl c47) rfl ?_
   refine FL.skip (wF_no rfl rfl rfl c47) rfl ?_
   refine FL.skip (wF_no rfl rfl rfl c47) rfl ?_
   refine FL.skip (wF_no rfl rfl rfl c47) rfl ?_
   refine FL.skip (wF_no rfl rfl rfl c47) rfl ?_
   refine FL.skip (wF_no rfl rfl rfl c47) rfl ?_
   obtain rfl := Option.some.inj hp
   refine FL.v (E.pickF rfl c47 rfl) ?_
   exact FL.nil ⟨rfl, _, S25, (Inc.rfl _), rfl, rfl⟩
 rintro f46 w45 ⟨H42, S43, i44, k63, k64⟩
 refine FL.nil ?_
 rcases ifB hp with ⟨c65, hp⟩ | ⟨c65, hp⟩
 ·
  refine FW.condT k64 c65 ?_
  refine FW.seq (FW.region ?_)
  refine FL.v (E.move k63) ?_
  refine FL.v (E.assign (v := Value.int .i64 r21) rfl) ?_
  refine FL.nil ?_
  refine FW.ret ?_
  obtain rfl := Option.some.inj hp
  exact ⟨.inr rfl, res1 rfl rfl ⟨rfl, S43.back⟩⟩
 ·
  refine FW.condF k64 c65 ?_
  refine FW.skip (FW.seq (FW.region ?_))
  refine FL.v (E.assign (v := Value.int .i64 (-1)) rfl) ?_
  refine FL.nil ?_
  refine FW.ret ?_
  obtain rfl := Option.some.inj hp
  exact ⟨.inr rfl, res1 rfl rfl ⟨rfl, S43.back⟩⟩

end Go.Proofs
