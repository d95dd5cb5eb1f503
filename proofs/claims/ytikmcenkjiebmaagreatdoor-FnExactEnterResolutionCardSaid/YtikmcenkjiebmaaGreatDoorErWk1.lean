/- Part of the walks and plain laws behind the claim: it proves helpers, under no condition beyond their own. -/
import Derived.Test.YtikmcenkjiebmaaGreatDoorErLB
import Derived.Test.YtikmcenkjiebmaaGreatDoorErSh
import Derived.Test.YtikmcenkjiebmaaGreatDoorErPf
import Derived.Test.YtikmcenkjiebmaaGreatDoorProg
set_option linter.unusedVariables false
set_option maxRecDepth 100000
namespace Go.Proofs
open Go.Mr Go.Pu Go.PF Go.RowKit

def eCnf : Enc Cnf := ⟨fun H cs s => ∃ v0, cs = [Value.int .i64 s.vars, v0] ∧ RSl H (eL eI 1) 1 v0 s.clauses, fun hi ⟨v0, h, h0⟩ => ⟨_, h, h0.mono hi⟩, by rintro H cs s ⟨v0, rfl, h0⟩; exact (ones_cons rfl (ones_cons h0.one ones_nil)), by rintro H cs s ⟨v0, rfl, h0⟩ b hb; obtain ⟨u, hu, hn⟩ := mem_bl hb; simp only [List.mem_cons, List.not_mem_nil, or_false] at hu; rcases hu with rfl | rfl <;> first | (cases hn; done) | exact h0.dom b (mem_bl1 hn)⟩
theorem eCnf_open {H : GH} {cs : List Value} {s : Cnf} (h : eCnf.rel H cs s) : ∃ v0, cs = [Value.int .i64 s.vars, v0] ∧ RSl H (eL eI 1) 1 v0 s.clauses := h

def eRecord : Enc Record := ⟨fun H cs s => cs = [Value.string s.name, Value.int .i64 s.system, Value.int .i64 s.size, Value.int .i64 s.extra], fun _ h => h, by rintro H cs s rfl; exact (ones_cons rfl (ones_cons rfl (ones_cons rfl (ones_cons rfl ones_nil)))), by rintro H cs s rfl b hb; obtain ⟨u, hu, hn⟩ := mem_bl hb; simp only [List.mem_cons, List.not_mem_nil, or_false] at hu; rcases hu with rfl | rfl | rfl | rfl <;> cases hn⟩
theorem eRecord_open {H : GH} {cs : List Value} {s : Record} (h : eRecord.rel H cs s) : cs = [Value.string s.name, Value.int .i64 s.system, Value.int .i64 s.size, Value.int .i64 s.extra] := h

theorem eRecord_flat : FlatE eRecord := by rintro H H' cs x rfl; exact ⟨rfl, rfl⟩

def eResStep : Enc ResStep := ⟨fun H cs s => ∃ v0, cs = [v0, Value.int .i64 s.left, Value.int .i64 s.right, Value.int .i64 s.pivot] ∧ RSl H eI 1 v0 s.clause, fun hi ⟨v0, h, h0⟩ => ⟨_, h, h0.mono hi⟩, by rintro H cs s ⟨v0, rfl, h0⟩; exact (ones_cons h0.one (ones_cons rfl (ones_cons rfl (ones_cons rfl ones_nil)))), by rintro H cs s ⟨v0, rfl, h0⟩ b hb; obtain ⟨u, hu, hn⟩ := mem_bl hb; simp only [List.mem_cons, List.not_mem_nil, or_false] at hu; rcases hu with rfl | rfl | rfl | rfl <;> first | (cases hn; done) | exact h0.dom b (mem_bl1 hn)⟩
theorem eResStep_open {H : GH} {cs : List Value} {s : ResStep} (h : eResStep.rel H cs s) : ∃ v0, cs = [v0, Value.int .i64 s.left, Value.int .i64 s.right, Value.int .i64 s.pivot] ∧ RSl H eI 1 v0 s.clause := h

theorem eResStep_loc : LocE eResStep := by rintro H H' cs x ⟨v0, rfl, h0⟩ hb; exact ⟨_, rfl, h0.only eI_flat.rel (fun b q => hb b (bl_get (i := 0) rfl b q))⟩

def Fn_I_to_B (P : Program) (H : GH) (v : Value) (p : Int → Option Bool) : Prop :=
 ∀ (H' : GH) (w' : World), Inc H H' → Sl H' w' → ∀ (x0 : Int) (r : Bool), p x0 = some r →
  ∃ (fid : Nat) (cs : Array Value), v = Value.func (.func fid) #[] cs ∧ (∀ args w, (callFunc fid args).run P w = .ok (.enter fid args) w) ∧ Calls P fid (#[Value.int .i64 x0] ++ cs) w' (Sc H' w' (Value.bool r))
theorem Fn_I_to_B.mono {P : Program} {H H' : GH} {v : Value} {p : Int → Option Bool} (h : Fn_I_to_B P H v p) (hi : Inc H H') : Fn_I_to_B P H' v p :=
 fun H2 w2 h2 => h H2 w2 (hi.tr h2)

def Fn_I_I_to_I (P : Program) (H : GH) (v : Value) (p : Int → Int → Option Int) : Prop :=
 ∀ (H' : GH) (w' : World), Inc H H' → Sl H' w' → ∀ (x0 : Int) (x1 : Int) (r : Int), p x0 x1 = some r →
  ∃ (fid : Nat) (cs : Array Value), v = Value.func (.func fid) #[] cs ∧ (∀ args w, (callFunc fid args).run P w = .ok (.enter fid args) w) ∧ Calls P fid (#[Value.int .i64 x0, Value.int .i64 x1] ++ cs) w' (Sc H' w' (Value.int .i64 r))
def Fn_Record_Record_to_I (P : Program) (H : GH) (v : Value) (p : Record → Record → Option Int) : Prop :=
 ∀ (H' : GH) (w' : World), Inc H H' → Sl H' w' → ∀ (x0 : Record) (x1 : Record) (r : Int), p x0 x1 = some r →
  ∃ (fid : Nat) (cs : Array Value), v = Value.func (.func fid) #[] cs ∧ (∀ args w, (callFunc fid args).run P w = .ok (.enter fid args) w) ∧ Calls P fid (#[Value.agg #[Value.string x0.name, Value.int .i64 x0.system, Value.int .i64 x0.size, Value.int .i64 x0.extra], Value.agg #[Value.string x1.name, Value.int .i64 x1.system, Value.int .i64 x1.size, Value.int .i64 x1.extra]] ++ cs) w' (Sc H' w' (Value.int .i64 r))
theorem Fn_Record_Record_to_I.mono {P : Program} {H H' : GH} {v : Value} {p : Record → Record → Option Int} (h : Fn_Record_Record_to_I P H v p) (hi : Inc H H') : Fn_Record_Record_to_I P H' v p :=
 fun H2 w2 h2 => h H2 w2 (hi.tr h2)

theorem fd60_0 {cs : List Value} {c : Value} (h : cs[0]? = some c) : ∃ fields fd, Tryz.prog.underlying 60 = some (.struct fields) ∧ fields[0]? = some fd ∧ (∀ w, (isAgg fd.type).run Tryz.prog w = .ok false w) ∧ cs[fd.offset]? = some c := ⟨_, _, Tryz.underlying60, rfl, Tryz.isAgg50, h⟩
theorem te22 : TE Tryz.prog 22 47 4 (.agg #[(.string ByteArray.empty), (.int .i64 0), (.int .i64 0), (.int .i64 0)]) := ⟨Tryz.underlying22, ⟨Tryz.t47, Tryz.type47, rfl, rfl, by decide⟩, rfl, by decide⟩
theorem te23 : TE Tryz.prog 23 50 1 (.slice none 0 0) := ⟨Tryz.underlying23, ⟨Tryz.t50, Tryz.type50, rfl, rfl, by decide⟩, rfl, by decide⟩
theorem te26 : TE Tryz.prog 26 52 4 (.agg #[(.slice none 0 0), (.int .i64 0), (.int .i64 0), (.int .i64 0)]) := ⟨Tryz.underlying26, ⟨Tryz.t52, Tryz.type52, rfl, rfl, by decide⟩, rfl, by decide⟩
theorem te30 : TE Tryz.prog 30 57 4 (.agg #[(.string ByteArray.empty), (.int .i64 0), (.int .i64 0), (.int .i64 0)]) := ⟨Tryz.underlying30, ⟨Tryz.t57, Tryz.type57, rfl, rfl, by decide⟩, rfl, by decide⟩
theorem te36 : TE Tryz.prog 36 60 4 (.agg #[(.slice none 0 0), (.int .i64 0), (.int .i64 0), (.int .i64 0)]) := ⟨Tryz.underlying36, ⟨Tryz.t60, Tryz.type60, rfl, rfl, by decide⟩, rfl, by decide⟩
theorem te50 : TE Tryz.prog 50 3 1 (.int .i64 0) := ⟨Tryz.underlying50, ⟨Tryz.t3, Tryz.type3, rfl, rfl, by decide⟩, rfl, by decide⟩
theorem te83 : TE Tryz.prog 83 5 1 (.int .u8 0) := ⟨Tryz.underlying83, ⟨Tryz.t5, Tryz.type5, rfl, rfl, by decide⟩, rfl, by decide⟩
theorem tf25_0 : TF Tryz.prog 25 0 0 := ⟨_, _, _, Tryz.underlying25, rfl, rfl, Tryz.sizeOf3, by decide⟩
theorem tf25_1 : TF Tryz.prog 25 1 1 := ⟨_, _, _, Tryz.underlying25, rfl, rfl, Tryz.sizeOf23, by decide⟩
theorem tf34_0 : TF Tryz.prog 34 0 0 := ⟨_, _, _, Tryz.underlying34, rfl, rfl, Tryz.sizeOf3, by decide⟩
theorem tf34_1 : TF Tryz.prog 34 1 1 := ⟨_, _, _, Tryz.underlying34, rfl, rfl, Tryz.sizeOf23, by decide⟩
theorem tf47_0 : TF Tryz.prog 47 0 0 := ⟨_, _, _, Tryz.underlying47, rfl, rfl, Tryz.sizeOf9, by decide⟩
theorem tf47_1 : TF Tryz.prog 47 1 1 := ⟨_, _, _, Tryz.underlying47, rfl, rfl, Tryz.sizeOf3, by decide⟩
theorem tf47_2 : TF Tryz.prog 47 2 2 := ⟨_, _, _, Tryz.underlying47, rfl, rfl, Tryz.sizeOf3, by decide⟩
theorem tf47_3 : TF Tryz.prog 47 3 3 := ⟨_, _, _, Tryz.underlying47, rfl, rfl, Tryz.sizeOf3, by decide⟩
theorem tf52_0 : TF Tryz.prog 52 0 0 := ⟨_, _, _, Tryz.underlying52, rfl, rfl, Tryz.sizeOf50, by decide⟩
theorem tf52_1 : TF Tryz.prog 52 1 1 := ⟨_, _, _, Tryz.underlying52, rfl, rfl, Tryz.sizeOf3, by decide⟩
theorem tf52_2 : TF Tryz.prog 52 2 2 := ⟨_, _, _, Tryz.underlying52, rfl, rfl, Tryz.sizeOf3, by decide⟩
theorem tf52_3 : TF Tryz.prog 52 3 3 := ⟨_, _, _, Tryz.underlying52, rfl, rfl, Tryz.sizeOf3, by decide⟩
theorem tf57_0 : TF Tryz.prog 57 0 0 := ⟨_, _, _, Tryz.underlying57, rfl, rfl, Tryz.sizeOf9, by decide⟩
theorem tf57_1 : TF Tryz.prog 57 1 1 := ⟨_, _, _, Tryz.underlying57, rfl, rfl, Tryz.sizeOf3, by decide⟩
theorem tf57_2 : TF Tryz.prog 57 2 2 := ⟨_, _, _, Tryz.underlying57, rfl, rfl, Tryz.sizeOf3, by decide⟩
theorem tf57_3 : TF Tryz.prog 57 3 3 := ⟨_, _, _, Tryz.underlying57, rfl, rfl, Tryz.sizeOf3, by decide⟩
theorem tf60_0 : TF Tryz.prog 60 0 0 := ⟨_, _, _, Tryz.underlying60, rfl, rfl, Tryz.sizeOf50, by decide⟩
theorem tf60_1 : TF Tryz.prog 60 1 1 := ⟨_, _, _, Tryz.underlying60, rfl, rfl, Tryz.sizeOf3, by decide⟩
theorem tf60_2 : TF Tryz.prog 60 2 2 := ⟨_, _, _, Tryz.underlying60, rfl, rfl, Tryz.sizeOf3, by decide⟩
theorem tf60_3 : TF Tryz.prog 60 3 3 := ⟨_, _, _, Tryz.underlying60, rfl, rfl, Tryz.sizeOf3, by decide⟩
theorem w_laws_szRecord {Ha : GH} {wa : World} (hs : Sl Ha wa) (a0 : Record) (a1 : Int) :
  Calls Tryz.prog 19 #[Value.agg #[Value.string a0.name, Value.int .i64 a0.system, Value.int .i64 a0.size, Value.int .i64 a0.extra], Value.int .i64 a1] wa (Sc Ha wa (Value.int .i64 (PF.laws_szRecord a0 a1))) := by
 obtain ⟨r, hp⟩ : ∃ r, (PF.laws_szRecord a0 a1) = r := ⟨_, rfl⟩
 rw [hp]
 unfold PF.laws_szRecord at hp
 have S0 := St.init hs
 refine calls_go (N := 13) (args := [Value.agg #[Value.string a0.name, Value.int .i64 a0.system, Value.int .i64 a0.size, Value.int .i64 a0.extra], Value.int .i64 a1]) Tryz.func19 rfl rfl rfl ?_
 refine FW.seq (FW.region ?_)
 obtain ⟨b21, w22, run23, S24⟩ := S0.box (P := Tryz.prog) 47 [Value.string a0.name, Value.int .i64 a0.system, Value.int .i64 a0.size, Value.int .i64 a0.extra] (v := Value.agg #[Value.string a0.name, Value.int .i64 a0.system, Value.int .i64 a0.size, Value.int .i64 a0.extra]) rfl (ones_cons rfl (ones_cons rfl (ones_cons rfl (ones_cons rfl ones_nil))))
 refine FL.v (E.box rfl run23) ?_
 obtain ⟨H25, S26, i27, at28⟩ := S24.sealBox (i := 0) (l' := []) rfl rfl
 refine FL.v (E.assign (v := Value.int .i64 0) rfl) ?_
 refine FL.nil (FW.seq (FW.region ?_))
 refine FL.v (E.move (v := Value.int .i64 a1) rfl) ?_
 refine FL.v (E.fieldAddr tf47_0 rfl) ?_
 refine FL.v (E.load rfl (run_load1 Tryz.isAgg9 (at28.now S26.sl) rfl)) ?_
 refine FL.v (E.lenS Tryz.runUnderlying9 rfl) ?_
 refine FL.v (E.sub rfl rfl) ?_
 refine FL.v (E.assign (v := Value.int .i64 (wr (a1 - (a0.name.size : Int)))) rfl) ?_
 refine FL.nil (FW.seq (FW.seq (FW.region ?_)))
 refine FL.v (E.move (v := Value.int .i64 (wr (a1 - (a0.name.size : Int)))) rfl) ?_
 refine FL.v (E.lss rfl rfl) ?_
 refine FL.nil ?_
 rcases ifT hp with ⟨c29, hp⟩ | ⟨c29, hp⟩
 ·
  refine FW.condT rfl c29 ?_
  refine FW.seq (FW.region ?_)
  refine FL.v (E.assign (v := Value.int .i64 (-1)) rfl) ?_
  refine FL.nil ?_
  refine FW.ret ?_
  obtain rfl := hp
  exact ⟨.inr rfl, res1 rfl rfl ⟨rfl, S26.back⟩⟩
 ·
  refine FW.condF rfl c29 ?_
  refine FW.skip (FW.seq (FW.region ?_))
  refine FL.v (E.move (v := Value.int .i64 (wr (a1 - (a0.name.size : Int)))) rfl) ?_
  refine FL.v (E.assign (v := Value.int .i64 (wr (a1 - (a0.name.size : Int)))) rfl) ?_
  refine FL.nil ?_
  refine FW.ret ?_
  obtain rfl := hp
  exact ⟨.inr rfl, res1 rfl rfl ⟨rfl, S26.back⟩⟩

set_option maxHeartbeats 4000000 in
theorem w_laws_szRecordS {Ha : GH} {wa : World} (hs : Sl Ha wa) (v0 : Value) (a0 : List Record) (p0 : RSl Ha eRecord 4 v0 a0) (a1 : Int) {r : Int} (hp : (PF.laws_szRecordS a0 a1) = some r) :
  Calls Tryz.prog 4 #[v0, Value.int .i64 a1] wa (Sc Ha wa (Value.int .i64 r)) := by
 unfold PF.laws_szRecordS at hp
 have S0 := St.init hs
 refine calls_go (N := 27) (args := [v0, Value.int .i64 a1]) Tryz.func4 rfl rfl rfl ?_
 refine FW.seq (FW.region ?_)
 refine FL.v (E.assign (v := Value.int .i64 0) rfl) ?_
 refine FL.nil (FW.seq (FW.region ?_))
 refine FL.v (E.move (v := Value.int .i64 a1) rfl) ?_
 refine FL.v (E.move (v := v0) rfl) ?_
 refine FL.v (E.lenP te22 rfl p0) ?_
 refine FL.v (E.sub rfl rfl) ?_
 refine FL.v (E.assign (v := Value.int .i64 (wr (a1 - (len a0)))) rfl) ?_
 refine FL.nil (FW.seq (FW.seq (FW.region ?_)))
 refine FL.v (E.move (v := Value.int .i64 (wr (a1 - (len a0)))) rfl) ?_
 refine FL.v (E.lss rfl rfl) ?_
 refine FL.nil ?_
 rcases ifB hp with ⟨c21, hp⟩ | ⟨c21, hp⟩
 ·
  refine FW.condT rfl c21 ?_
  refine FW.seq (FW.region ?_)
  refine FL.v (E.assign (v := Value.int .i64 (-1)) rfl) ?_
  refine FL.nil ?_
  refine FW.ret ?_
  obtain rfl := Option.some.inj hp
  exact ⟨.inr rfl, res1 rfl rfl ⟨rfl, S0.back⟩⟩
 ·
  refine FW.condF rfl c21 ?_
  refine FW.skip (FW.seq (FW.seq (FW.region ?_)))
  refine FL.v (E.assign (v := Value.int .i64 0) rfl) ?_
  refine FL.nil ?_
  obtain ⟨q23, hq, hp⟩ := bndR hp
  refine FW.block ?_
  refine FW.mono (FW.forL (S := Int) (X := Int) (fun (i23 : Nat) (s23 : Int) f w => ∃ H : GH, St Ha wa H w [] ∧ Inc Ha H ∧ f 5 = Value.int .i64 ((i23 : Nat) : Int) ∧ f 0 = v0 ∧ f 1 = Value.int .i64 s23) (fun q e f w => match q with | .go s23 => e = Exit.exit 0 ∧ (∃ H : GH, St Ha wa H w [] ∧ Inc Ha H ∧ f 1 = Value.int .i64 s23) | .rt x => ((e = Exit.ret) ∧ (fun e f w => (e = Exit.normal ∨ e = Exit.ret) ∧ ∀ a, Fr (δ := []) 27 a f → ∃ v, (results Tryz.f4 a.tmps).run Tryz.prog w = .ok v w ∧ (Sc Ha wa (Value.int .i64 x)) (.returned v) w) e f w)) hq ⟨_, S0, (Inc.rfl _), rfl, rfl, rfl⟩ ?_ ?_) ?_
  ·
   clear hp hq
   rintro i23 y22 s23 f46 w45 ⟨H42, S43, i44, k47, k48, k49⟩ hx23 o60 hp
   refine FW.seq (FW.seq (FW.region ?_))
   refine FL.v (E.move k47) ?_
   refine FL.v (E.move k48) ?_
   refine FL.v (E.lenP te22 rfl p0) ?_
   refine FL.v (E.lssT rfl rfl (lss_len hx23)) ?_
   refine FL.nil ?_
   refine FW.condT rfl rfl ?_
   refine FW.skip (FW.seq (FW.block (FW.seq (FW.region ?_))))
   refine FL.v (E.move k48) ?_
   refine FL.v (E.move k47) ?_
   obtain ⟨p50, cs51, pt52, l53, at54, rel55⟩ := p0.at (ix_nat hx23)
   obtain rfl := eRecord_open rel55
   refine FL.v (E.indexAddr te22 rfl rfl pt52) ?_
   refine FL.v (E.load rfl (run_loadA Tryz.isAgg47 Tryz.sizeOf47 ((at54.mono i44).now S43.sl) rfl)) ?_
   refine FL.v (E.move k49) ?_
   refine FL.call rfl rfl rfl (E.call Tryz.call19 (A2 rfl rfl)) (w_laws_szRecord S43.sl y22 s23) ?_
   rintro e w56 ⟨rfl, r57⟩
   refine ⟨_, rfl, ?_⟩
   have S58 := S43.call r57
   refine FL.v (E.assign (v := Value.int .i64 (PF.laws_szRecord y22 s23)) rfl) ?_
   refine FL.nil (FW.seq (FW.region ?_))
   refine FL.v (E.move (v := Value.int .i64 (PF.laws_szRecord y22 s23)) rfl) ?_
   refine FL.v (E.lss rfl rfl) ?_
   refine FL.nil ?_
   rcases ifB hp with ⟨c59, hp⟩ | ⟨c59, hp⟩
   ·
    refine FW.condT rfl c59 ?_
    refine FW.seq (FW.region ?_)
    refine FL.v (E.assign (v := Value.int .i64 (-1)) rfl) ?_
    refine FL.nil ?_
    refine FW.ret ?_
    obtain rfl := Option.some.inj hp
    exact ⟨nofun, rfl, ⟨.inr rfl, res1 rfl rfl ⟨rfl, S58.back⟩⟩⟩
   ·
    refine FW.condF rfl c59 ?_
    refine FW.skip (FW.region ?_)
    refine FL.v (E.move k47) ?_
    refine FL.v (E.add rfl rfl) ?_
    refine FL.v (E.assign (v := Value.int .i64 (wr (((i23 : Nat) : Int) + 1))) rfl) ?_
    refine FL.nil ?_
    obtain rfl := Option.some.inj hp
    exact ⟨rfl, ⟨_, S58, i44, (nat_succ rfl (lt_of_get hx23) (p0.mono i44).le), k48, rfl⟩⟩
  ·
   clear hp hq
   rintro s23 f71 w70 ⟨H67, S68, i69, k72, k73, k74⟩
   refine FW.seq (FW.seq (FW.region ?_))
   refine FL.v (E.move k72) ?_
   refine FL.v (E.move k73) ?_
   refine FL.v (E.lenP te22 rfl p0) ?_
   refine FL.v (E.lss rfl rfl) ?_
   refine FL.nil ?_
   refine FW.condF rfl dlt_len ?_
   refine FW.exit ?_
   exact ⟨nofun, rfl, ⟨_, S68, i69, k74⟩⟩
  ·
   clear hq
   intro e f65 w64 hD
   rcases q23 with s23 | x23
   ·
    obtain ⟨rfl, hD⟩ := hD
    obtain ⟨H61, S62, i63, k66⟩ := hD
    replace hp := el_go hp
    refine FW.seq (FW.region ?_)
    refine FL.v (E.move k66) ?_
    refine FL.v (E.assign (v := Value.int .i64 s23) rfl) ?_
    refine FL.nil ?_
    refine FW.ret ?_
    obtain rfl := Option.some.inj hp
    exact ⟨.inr rfl, res1 rfl rfl ⟨rfl, S62.back⟩⟩
   ·
    obtain ⟨he, hL⟩ := hD
    replace hp := el_rt hp
    obtain rfl := Option.some.inj hp
    subst he
    exact hL

theorem w_laws_szIntS {Ha : GH} {wa : World} (hs : Sl Ha wa) (v0 : Value) (a0 : List Int) (p0 : RSl Ha eI 1 v0 a0) (a1 : Int) :
  Calls Tryz.prog 38 #[v0, Value.int .i64 a1] wa (Sc Ha wa (Value.int .i64 (PF.laws_szIntS a0 a1))) := by
 obtain ⟨r, hp⟩ : ∃ r, (PF.laws_szIntS a0 a1) = r := ⟨_, rfl⟩
 rw [hp]
 unfold PF.laws_szIntS at hp
 have S0 := St.init hs
 refine calls_go (N := 12) (args := [v0, Value.int .i64 a1]) Tryz.func38 rfl rfl rfl ?_
 refine FW.seq (FW.region ?_)
 refine FL.v (E.assign (v := Value.int .i64 0) rfl) ?_
 refine FL.nil (FW.seq (FW.region ?_))
 refine FL.v (E.move (v := Value.int .i64 a1) rfl) ?_
 refine FL.v (E.move (v := v0) rfl) ?_
 refine FL.v (E.lenP te50 rfl p0) ?_
 refine FL.v (E.sub rfl rfl) ?_
 refine FL.v (E.assign (v := Value.int .i64 (wr (a1 - (len a0)))) rfl) ?_
 refine FL.nil (FW.seq (FW.seq (FW.region ?_)))
 refine FL.v (E.move (v := Value.int .i64 (wr (a1 - (len a0)))) rfl) ?_
 refine FL.v (E.lss rfl rfl) ?_
 refine FL.nil ?_
 rcases ifT hp with ⟨c21, hp⟩ | ⟨c21, hp⟩
 ·
  refine FW.condT rfl c21 ?_
  refine FW.seq (FW.region ?_)
  refine FL.v (E.assign (v := Value.int .i64 (-1)) rfl) ?_
  refine FL.nil ?_
  refine FW.ret ?_
  obtain rfl := hp
  exact ⟨.inr rfl, res1 rfl rfl ⟨rfl, S0.back⟩⟩
 ·
  refine FW.condF rfl c21 ?_
  refine FW.skip (FW.seq (FW.region ?_))
  refine FL.v (E.move (v := Value.int .i64 (wr (a1 - (len a0)))) rfl) ?_
  refine FL.v (E.assign (v := Value.int .i64 (wr (a1 - (len a0)))) rfl) ?_
  refine FL.nil ?_
  refine FW.ret ?_
  obtain rfl := hp
  exact ⟨.inr rfl, res1 rfl rfl ⟨rfl, S0.back⟩⟩

set_option maxHeartbeats 4000000 in
theorem w_laws_szIntSS {Ha : GH} {wa : World} (hs : Sl Ha wa) (v0 : Value) (a0 : List (List Int)) (p0 : RSl Ha (eL eI 1) 1 v0 a0) (a1 : Int) {r : Int} (hp : (PF.laws_szIntSS a0 a1) = some r) :
  Calls Tryz.prog 20 #[v0, Value.int .i64 a1] wa (Sc Ha wa (Value.int .i64 r)) := by
 unfold PF.laws_szIntSS at hp
 have S0 := St.init hs
 refine calls_go (N := 27) (args := [v0, Value.int .i64 a1]) Tryz.func20 rfl rfl rfl ?_
 refine FW.seq (FW.region ?_)
 refine FL.v (E.assign (v := Value.int .i64 0) rfl) ?_
 refine FL.nil (FW.seq (FW.region ?_))
 refine FL.v (E.move (v := Value.int .i64 a1) rfl) ?_
 refine FL.v (E.move (v := v0) rfl) ?_
 refine FL.v (E.lenP te23 rfl p0) ?_
 refine FL.v (E.sub rfl rfl) ?_
 refine FL.v (E.assign (v := Value.int .i64 (wr (a1 - (len a0)))) rfl) ?_
 refine FL.nil (FW.seq (FW.seq (FW.region ?_)))
 refine FL.v (E.move (v := Value.int .i64 (wr (a1 - (len a0)))) rfl) ?_
 refine FL.v (E.lss rfl rfl) ?_
 refine FL.nil ?_
 rcases ifB hp with ⟨c21, hp⟩ | ⟨c21, hp⟩
 ·
  refine FW.condT rfl c21 ?_
  refine FW.seq (FW.region ?_)
  refine FL.v (E.assign (v := Value.int .i64 (-1)) rfl) ?_
  refine FL.nil ?_
  refine FW.ret ?_
  obtain rfl := Option.some.inj hp
  exact ⟨.inr rfl, res1 rfl rfl ⟨rfl, S0.back⟩⟩
 ·
  refine FW.condF rfl c21 ?_
  refine FW.skip (FW.seq (FW.seq (FW.region ?_)))
  refine FL.v (E.assign (v := Value.int .i64 0) rfl) ?_
  refine FL.nil ?_
  obtain ⟨q23, hq, hp⟩ := bndR hp
  refine FW.block ?_
  refine FW.mono (FW.forL (S := Int) (X := Int) (fun (i23 : Nat) (s23 : Int) f w => ∃ H : GH, St Ha wa H w [] ∧ Inc Ha H ∧ f 5 = Value.int .i64 ((i23 : Nat) : Int) ∧ f 0 = v0 ∧ f 1 = Value.int .i64 s23) (fun q e f w => match q with | .go s23 => e = Exit.exit 0 ∧ (∃ H : GH, St Ha wa H w [] ∧ Inc Ha H ∧ f 1 = Value.int .i64 s23) | .rt x => ((e = Exit.ret) ∧ (fun e f w => (e = Exit.normal ∨ e = Exit.ret) ∧ ∀ a, Fr (δ := []) 27 a f → ∃ v, (results Tryz.f20 a.tmps).run Tryz.prog w = .ok v w ∧ (Sc Ha wa (Value.int .i64 x)) (.returned v) w) e f w)) hq ⟨_, S0, (Inc.rfl _), rfl, rfl, rfl⟩ ?_ ?_) ?_
  ·
   clear hp hq
   rintro i23 y22 s23 f48 w47 ⟨H44, S45, i46, k49, k50, k51⟩ hx23 o64 hp
   refine FW.seq (FW.seq (FW.region ?_))
   refine FL.v (E.move k49) ?_
   refine FL.v (E.move k50) ?_
   refine FL.v (E.lenP te23 rfl p0) ?_
   refine FL.v (E.lssT rfl rfl (lss_len hx23)) ?_
   refine FL.nil ?_
   refine FW.condT rfl rfl ?_
   refine FW.skip (FW.seq (FW.block (FW.seq (FW.region ?_))))
   refine FL.v (E.move k50) ?_
   refine FL.v (E.move k49) ?_
   obtain ⟨p52, cs53, pt54, l55, at56, rel57⟩ := p0.at (ix_nat hx23)
   obtain ⟨v58, rfl, h59⟩ := eL_open rel57
   refine FL.v (E.indexAddr te23 rfl rfl pt54) ?_
   refine FL.v (E.load rfl (run_load0 Tryz.isAgg50 ((at56.mono i46).now S45.sl) rfl)) ?_
   refine FL.v (E.move k51) ?_
   refine FL.call rfl rfl rfl (E.call Tryz.call38 (A2 rfl rfl)) (w_laws_szIntS S45.sl v58 y22 (h59.mono i46) s23) ?_
   rintro e w60 ⟨rfl, r61⟩
   refine ⟨_, rfl, ?_⟩
   have S62 := S45.call r61
   refine FL.v (E.assign (v := Value.int .i64 (PF.laws_szIntS y22 s23)) rfl) ?_
   refine FL.nil (FW.seq (FW.region ?_))
   refine FL.v (E.move (v := Value.int .i64 (PF.laws_szIntS y22 s23)) rfl) ?_
   refine FL.v (E.lss rfl rfl) ?_
   refine FL.nil ?_
   rcases ifB hp with ⟨c63, hp⟩ | ⟨c63, hp⟩
   ·
    refine FW.condT rfl c63 ?_
    refine FW.seq (FW.region ?_)
    refine FL.v (E.assign (v := Value.int .i64 (-1)) rfl) ?_
    refine FL.nil ?_
    refine FW.ret ?_
    obtain rfl := Option.some.inj hp
    exact ⟨nofun, rfl, ⟨.inr rfl, res1 rfl rfl ⟨rfl, S62.back⟩⟩⟩
   ·
    refine FW.condF rfl c63 ?_
    refine FW.skip (FW.region ?_)
    refine FL.v (E.move k49) ?_
    refine FL.v (E.add rfl rfl) ?_
    refine FL.v (E.assign (v := Value.int .i64 (wr (((i23 : Nat) : Int) + 1))) rfl) ?_
    refine FL.nil ?_
    obtain rfl := Option.some.inj hp
    exact ⟨rfl, ⟨_, S62, i46, (nat_succ rfl (lt_of_get hx23) (p0.mono i46).le), k50, rfl⟩⟩
  ·
   clear hp hq
   rintro s23 f75 w74 ⟨H71, S72, i73, k76, k77, k78⟩
   refine FW.seq (FW.seq (FW.region ?_))
   refine FL.v (E.move k76) ?_
   refine FL.v (E.move k77) ?_
   refine FL.v (E.lenP te23 rfl p0) ?_
   refine FL.v (E.lss rfl rfl) ?_
   refine FL.nil ?_
   refine FW.condF rfl dlt_len ?_
   refine FW.exit ?_
   exact ⟨nofun, rfl, ⟨_, S72, i73, k78⟩⟩
  ·
   clear hq
   intro e f69 w68 hD
   rcases q23 with s23 | x23
   ·
    obtain ⟨rfl, hD⟩ := hD
    obtain ⟨H65, S66, i67, k70⟩ := hD
    replace hp := el_go hp
    refine FW.seq (FW.region ?_)
    refine FL.v (E.move k70) ?_
    refine FL.v (E.assign (v := Value.int .i64 s23) rfl) ?_
    refine FL.nil ?_
    refine FW.ret ?_
    obtain rfl := Option.some.inj hp
    exact ⟨.inr rfl, res1 rfl rfl ⟨rfl, S66.back⟩⟩
   ·
    obtain ⟨he, hL⟩ := hD
    replace hp := el_rt hp
    obtain rfl := Option.some.inj hp
    subst he
    exact hL

theorem w_laws_szCnf {Ha : GH} {wa : World} (hs : Sl Ha wa) (a0 : Cnf) (v0_1 : Value) (p0_1 : RSl Ha (eL eI 1) 1 v0_1 a0.clauses) (a1 : Int) {r : Int} (hp : (PF.laws_szCnf a0 a1) = some r) :
  Calls Tryz.prog 5 #[Value.agg #[Value.int .i64 a0.vars, v0_1], Value.int .i64 a1] wa (Sc Ha wa (Value.int .i64 r)) := by
 unfold PF.laws_szCnf at hp
 have S0 := St.init hs
 refine calls_go (N := 12) (args := [Value.agg #[Value.int .i64 a0.vars, v0_1], Value.int .i64 a1]) Tryz.func5 rfl rfl rfl ?_
 refine FW.seq (FW.region ?_)
 obtain ⟨b21, w22, run23, S24⟩ := S0.box (P := Tryz.prog) 25 [Value.int .i64 a0.vars, v0_1] (v := Value.agg #[Value.int .i64 a0.vars, v0_1]) rfl (ones_cons rfl (ones_cons p0_1.one ones_nil))
 refine FL.v (E.box rfl run23) ?_
 obtain ⟨H25, S26, i27, at28⟩ := S24.sealBox (i := 0) (l' := []) rfl rfl
 refine FL.v (E.assign (v := Value.int .i64 0) rfl) ?_
 refine FL.nil (FW.seq (FW.region ?_))
 refine FL.v (E.fieldAddr tf25_1 rfl) ?_
 refine FL.v (E.load rfl (run_load1 Tryz.isAgg23 (at28.now S26.sl) rfl)) ?_
 refine FL.v (E.move (v := Value.int .i64 a1) rfl) ?_
 obtain ⟨r29, hr30, hp⟩ := bnd hp
 refine FL.call rfl rfl rfl (E.call Tryz.call20 (A2 rfl rfl)) (w_laws_szIntSS S26.sl v0_1 a0.clauses (p0_1.mono i27) a1 hr30) ?_
 rintro e w31 ⟨rfl, r32⟩
 refine ⟨_, rfl, ?_⟩
 have S33 := S26.call r32
 refine FL.v (E.assign (v := Value.int .i64 r29) rfl) ?_
 refine FL.nil (FW.seq (FW.seq (FW.region ?_)))
 refine FL.v (E.move (v := Value.int .i64 r29) rfl) ?_
 refine FL.v (E.lss rfl rfl) ?_
 refine FL.nil ?_
 rcases ifB hp with ⟨c34, hp⟩ | ⟨c34, hp⟩
 ·
  refine FW.condT rfl c34 ?_
  refine FW.seq (FW.region ?_)
  refine FL.v (E.assign (v := Value.int .i64 (-1)) rfl) ?_
  refine FL.nil ?_
  refine FW.ret ?_
  obtain rfl := Option.some.inj hp
  exact ⟨.inr rfl, res1 rfl rfl ⟨rfl, S33.back⟩⟩
 ·
  refine FW.condF rfl c34 ?_
  refine FW.skip (FW.seq (FW.region ?_))
  refine FL.v (E.move (v := Value.int .i64 r29) rfl) ?_
  refine FL.v (E.assign (v := Value.int .i64 r29) rfl) ?_
  refine FL.nil ?_
  refine FW.ret ?_
  obtain rfl := Option.some.inj hp
  exact ⟨.inr rfl, res1 rfl rfl ⟨rfl, S33.back⟩⟩

theorem w_laws_szResStep {Ha : GH} {wa : World} (hs : Sl Ha wa) (a0 : ResStep) (v0_0 : Value) (p0_0 : RSl Ha eI 1 v0_0 a0.clause) (a1 : Int) :
  Calls Tryz.prog 21 #[Value.agg #[v0_0, Value.int .i64 a0.left, Value.int .i64 a0.right, Value.int .i64 a0.pivot], Value.int .i64 a1] wa (Sc Ha wa (Value.int .i64 (PF.laws_szResStep a0 a1))) := by
 obtain ⟨r, hp⟩ : ∃ r, (PF.laws_szResStep a0 a1) = r := ⟨_, rfl⟩
 rw [hp]
 unfold PF.laws_szResStep at hp
 have S0 := St.init hs
 refine calls_go (N := 12) (args := [Value.agg #[v0_0, Value.int .i64 a0.left, Value.int .i64 a0.right, Value.int .i64 a0.pivot], Value.int .i64 a1]) Tryz.func21 rfl rfl rfl ?_
 refine FW.seq (FW.region ?_)
 obtain ⟨b21, w22, run23, S24⟩ := S0.box (P := Tryz.prog) 52 [v0_0, Value.int .i64 a0.left, Value.int .i64 a0.right, Value.int .i64 a0.pivot] (v := Value.agg #[v0_0, Value.int .i64 a0.left, Value.int .i64 a0.right, Value.int .i64 a0.pivot]) rfl (ones_cons p0_0.one (ones_cons rfl (ones_cons rfl (ones_cons rfl ones_nil))))
 refine FL.v (E.box rfl run23) ?_
 obtain ⟨H25, S26, i27, at28⟩ := S24.sealBox (i := 0) (l' := []) rfl rfl
 refine FL.v (E.assign (v := Value.int .i64 0) rfl) ?_
 refine FL.nil (FW.seq (FW.region ?_))
 refine FL.v (E.fieldAddr tf52_0 rfl) ?_
 refine FL.v (E.load rfl (run_load1 Tryz.isAgg50 (at28.now S26.sl) rfl)) ?_
 refine FL.v (E.move (v := Value.int .i64 a1) rfl) ?_
 refine FL.call rfl rfl rfl (E.call Tryz.call38 (A2 rfl rfl)) (w_laws_szIntS S26.sl v0_0 a0.clause (p0_0.mono i27) a1) ?_
 rintro e w29 ⟨rfl, r30⟩
 refine ⟨_, rfl, ?_⟩
 have S31 := S26.call r30
 refine FL.v (E.assign (v := Value.int .i64 (PF.laws_szIntS a0.clause a1)) rfl) ?_
 refine FL.nil (FW.seq (FW.seq (FW.region ?_)))
 refine FL.v (E.move (v := Value.int .i64 (PF.laws_szIntS a0.clause a1)) rfl) ?_
 refine FL.v (E.lss rfl rfl) ?_
 refine FL.nil ?_
 rcases ifT hp with ⟨c32, hp⟩ | ⟨c32, hp⟩
 ·
  refine FW.condT rfl c32 ?_
  refine FW.seq (FW.region ?_)
  refine FL.v (E.assign (v := Value.int .i64 (-1)) rfl) ?_
  refine FL.nil ?_
  refine FW.ret ?_
  obtain rfl := hp
  exact ⟨.inr rfl, res1 rfl rfl ⟨rfl, S31.back⟩⟩
 ·
  refine FW.condF rfl c32 ?_
  refine FW.skip (FW.seq (FW.region ?_))
  refine FL.v (E.move (v := Value.int .i64 (PF.laws_szIntS a0.clause a1)) rfl) ?_
  refine FL.v (E.assign (v := Value.int .i64 (PF.laws_szIntS a0.clause a1)) rfl) ?_
  refine FL.nil ?_
  refine FW.ret ?_
  obtain rfl := hp
  exact ⟨.inr rfl, res1 rfl rfl ⟨rfl, S31.back⟩⟩

set_option maxHeartbeats 4000000 in
theorem w_laws_szResStepS {Ha : GH} {wa : World} (hs : Sl Ha wa) (v0 : Value) (a0 : List ResStep) (p0 : RSl Ha eResStep 4 v0 a0) (a1 : Int) {r : Int} (hp : (PF.laws_szResStepS a0 a1) = some r) :
  Calls Tryz.prog 6 #[v0, Value.int .i64 a1] wa (Sc Ha wa (Value.int .i64 r)) := by
 unfold PF.laws_szResStepS at hp
 have S0 := St.init hs
 refine calls_go (N := 27) (args := [v0, Value.int .i64 a1]) Tryz.func6 rfl rfl rfl ?_
 refine FW.seq (FW.region ?_)
 refine FL.v (E.assign (v := Value.int .i64 0) rfl) ?_
 refine FL.nil (FW.seq (FW.region ?_))
 refine FL.v (E.move (v := Value.int .i64 a1) rfl) ?_
 refine FL.v (E.move (v := v0) rfl) ?_
 refine FL.v (E.lenP te26 rfl p0) ?_
 refine FL.v (E.sub rfl rfl) ?_
 refine FL.v (E.assign (v := Value.int .i64 (wr (a1 - (len a0)))) rfl) ?_
 refine FL.nil (FW.seq (FW.seq (FW.region ?_)))
 refine FL.v (E.move (v := Value.int .i64 (wr (a1 - (len a0)))) rfl) ?_
 refine FL.v (E.lss rfl rfl) ?_
 refine FL.nil ?_
 rcases ifB hp with ⟨c21, hp⟩ | ⟨c21, hp⟩
 ·
  refine FW.condT rfl c21 ?_
  refine FW.seq (FW.region ?_)
  refine FL.v (E.assign (v := Value.int .i64 (-1)) rfl) ?_
  refine FL.nil ?_
  refine FW.ret ?_
  obtain rfl := Option.some.inj hp
  exact ⟨.inr rfl, res1 rfl rfl ⟨rfl, S0.back⟩⟩
 ·
  refine FW.condF rfl c21 ?_
  refine FW.skip (FW.seq (FW.seq (FW.region ?_)))
  refine FL.v (E.assign (v := Value.int .i64 0) rfl) ?_
  refine FL.nil ?_
  obtain ⟨q23, hq, hp⟩ := bndR hp
  refine FW.block ?_
  refine FW.mono (FW.forL (S := Int) (X := Int) (fun (i23 : Nat) (s23 : Int) f w => ∃ H : GH, St Ha wa H w [] ∧ Inc Ha H ∧ f 5 = Value.int .i64 ((i23 : Nat) : Int) ∧ f 0 = v0 ∧ f 1 = Value.int .i64 s23) (fun q e f w => match q with | .go s23 => e = Exit.exit 0 ∧ (∃ H : GH, St Ha wa H w [] ∧ Inc Ha H ∧ f 1 = Value.int .i64 s23) | .rt x => ((e = Exit.ret) ∧ (fun e f w => (e = Exit.normal ∨ e = Exit.ret) ∧ ∀ a, Fr (δ := []) 27 a f → ∃ v, (results Tryz.f6 a.tmps).run Tryz.prog w = .ok v w ∧ (Sc Ha wa (Value.int .i64 x)) (.returned v) w) e f w)) hq ⟨_, S0, (Inc.rfl _), rfl, rfl, rfl⟩ ?_ ?_) ?_
  ·
   clear hp hq
   rintro i23 y22 s23 f48 w47 ⟨H44, S45, i46, k49, k50, k51⟩ hx23 o64 hp
   refine FW.seq (FW.seq (FW.region ?_))
   refine FL.v (E.move k49) ?_
   refine FL.v (E.move k50) ?_
   refine FL.v (E.lenP te26 rfl p0) ?_
   refine FL.v (E.lssT rfl rfl (lss_len hx23)) ?_
   refine FL.nil ?_
   refine FW.condT rfl rfl ?_
   refine FW.skip (FW.seq (FW.block (FW.seq (FW.region ?_))))
   refine FL.v (E.move k50) ?_
   refine FL.v (E.move k49) ?_
   obtain ⟨p52, cs53, pt54, l55, at56, rel57⟩ := p0.at (ix_nat hx23)
   obtain ⟨v58, rfl, h59⟩ := eResStep_open rel57
   refine FL.v (E.indexAddr te26 rfl rfl pt54) ?_
   refine FL.v (E.load rfl (run_loadA Tryz.isAgg52 Tryz.sizeOf52 ((at56.mono i46).now S45.sl) rfl)) ?_
   refine FL.v (E.move k51) ?_
   refine FL.call rfl rfl rfl (E.call Tryz.call21 (A2 rfl rfl)) (w_laws_szResStep S45.sl y22 v58 (h59.mono i46) s23) ?_
   rintro e w60 ⟨rfl, r61⟩
   refine ⟨_, rfl, ?_⟩
   have S62 := S45.call r61
   refine FL.v (E.assign (v := Value.int .i64 (PF.laws_szResStep y22 s23)) rfl) ?_
   refine FL.nil (FW.seq (FW.region ?_))
   refine FL.v (E.move (v := Value.int .i64 (PF.laws_szResStep y22 s23)) rfl) ?_
   refine FL.v (E.lss rfl rfl) ?_
   refine FL.nil ?_
   rcases ifB hp with ⟨c63, hp⟩ | ⟨c63, hp⟩
   ·
    refine FW.condT rfl c63 ?_
    refine FW.seq (FW.region ?_)
    refine FL.v (E.assign (v := Value.int .i64 (-1)) rfl) ?_
    refine FL.nil ?_
    refine FW.ret ?_
    obtain rfl := Option.some.inj hp
    exact ⟨nofun, rfl, ⟨.inr rfl, res1 rfl rfl ⟨rfl, S62.back⟩⟩⟩
   ·
    refine FW.condF rfl c63 ?_
    refine FW.skip (FW.region ?_)
    refine FL.v (E.move k49) ?_
    refine FL.v (E.add rfl rfl) ?_
    refine FL.v (E.assign (v := Value.int .i64 (wr (((i23 : Nat) : Int) + 1))) rfl) ?_
    refine FL.nil ?_
    obtain rfl := Option.some.inj hp
    exact ⟨rfl, ⟨_, S62, i46, (nat_succ rfl (lt_of_get hx23) (p0.mono i46).le), k50, rfl⟩⟩
  ·
   clear hp hq
   rintro s23 f75 w74 ⟨H71, S72, i73, k76, k77, k78⟩
   refine FW.seq (FW.seq (FW.region ?_))
   refine FL.v (E.move k76) ?_
   refine FL.v (E.move k77) ?_
   refine FL.v (E.lenP te26 rfl p0) ?_
   refine FL.v (E.lss rfl rfl) ?_
   refine FL.nil ?_
   refine FW.condF rfl dlt_len ?_
   refine FW.exit ?_
   exact ⟨nofun, rfl, ⟨_, S72, i73, k78⟩⟩
  ·
   clear hq
   intro e f69 w68 hD
   rcases q23 with s23 | x23
   ·
    obtain ⟨rfl, hD⟩ := hD
    obtain ⟨H65, S66, i67, k70⟩ := hD
    replace hp := el_go hp
    refine FW.seq (FW.region ?_)
    refine FL.v (E.move k70) ?_
    refine FL.v (E.assign (v := Value.int .i64 s23) rfl) ?_
    refine FL.nil ?_
    refine FW.ret ?_
    obtain rfl := Option.some.inj hp
    exact ⟨.inr rfl, res1 rfl rfl ⟨rfl, S66.back⟩⟩
   ·
    obtain ⟨he, hL⟩ := hD
    replace hp := el_rt hp
    obtain rfl := Option.some.inj hp
    subst he
    exact hL

theorem w_laws_toRecord {Ha : GH} {wa : World} (hs : Sl Ha wa) (a0 : Record) :
  Calls Tryz.prog 26 #[Value.agg #[Value.string a0.name, Value.int .i64 a0.system, Value.int .i64 a0.size, Value.int .i64 a0.extra]] wa (Sc Ha wa (Value.agg #[Value.string ((PF.laws_toRecord a0).name), Value.int .i64 ((PF.laws_toRecord a0).system), Value.int .i64 ((PF.laws_toRecord a0).size), Value.int .i64 ((PF.laws_toRecord a0).extra)])) := by
 obtain ⟨r, hp⟩ : ∃ r, (PF.laws_toRecord a0) = r := ⟨_, rfl⟩
 rw [hp]
 unfold PF.laws_toRecord at hp
 have S0 := St.init hs
 refine calls_go (N := 17) (args := [Value.agg #[Value.string a0.name, Value.int .i64 a0.system, Value.int .i64 a0.size, Value.int .i64 a0.extra]]) Tryz.func26 rfl rfl rfl ?_
 refine FW.seq (FW.region ?_)
 obtain ⟨b21, w22, run23, S24⟩ := S0.box (P := Tryz.prog) 47 [Value.string a0.name, Value.int .i64 a0.system, Value.int .i64 a0.size, Value.int .i64 a0.extra] (v := Value.agg #[Value.string a0.name, Value.int .i64 a0.system, Value.int .i64 a0.size, Value.int .i64 a0.extra]) rfl (ones_cons rfl (ones_cons rfl (ones_cons rfl (ones_cons rfl ones_nil))))
 refine FL.v (E.box rfl run23) ?_
 obtain ⟨H25, S26, i27, at28⟩ := S24.sealBox (i := 0) (l' := []) rfl rfl
 obtain ⟨b29, w30, run31, S32⟩ := S26.alloc (P := Tryz.prog) 57 [Value.string ByteArray.empty, Value.int .i64 0, Value.int .i64 0, Value.int .i64 0] Tryz.zeroValue57 rfl (ones_cons rfl (ones_cons rfl (ones_cons rfl (ones_cons rfl ones_nil))))
 refine FL.v (E.alloc run31) ?_
 refine FL.nil (FW.seq (FW.region ?_))
 obtain ⟨b33, w34, run35, S36⟩ := S32.alloc (P := Tryz.prog) 57 [Value.string ByteArray.empty, Value.int .i64 0, Value.int .i64 0, Value.int .i64 0] Tryz.zeroValue57 rfl (ones_cons rfl (ones_cons rfl (ones_cons rfl (ones_cons rfl ones_nil))))
 refine FL.v (E.alloc run35) ?_
 refine FL.nil (FW.seq (FW.region ?_))
 refine FL.v (E.fieldAddr tf47_0 rfl) ?_
 refine FL.v (E.load rfl (run_load1 Tryz.isAgg9 (at28.now S36.sl) rfl)) ?_
 refine FL.v (E.fieldAddr tf57_0 rfl) ?_
 obtain ⟨w37, run38, S39⟩ := S36.store (P := Tryz.prog) (t := 9) (i := 0) (j := 0) (cs' := [Value.string a0.name, Value.int .i64 0, Value.int .i64 0, Value.int .i64 0]) (l' := [.box b33 57 [Value.string a0.name, Value.int .i64 0, Value.int .i64 0, Value.int .i64 0], .box b29 57 [Value.string ByteArray.empty, Value.int .i64 0, Value.int .i64 0, Value.int .i64 0]]) (v := Value.string a0.name) (c := [Value.string a0.name]) rfl Tryz.sizeOf9 rfl rfl (ones_cons rfl ones_nil) (Nat.le_of_ble_eq_true rfl) rfl rfl
 refine FL.act rfl rfl (E.store rfl rfl run38) ?_
 refine FL.nil (FW.seq (FW.region ?_))
 refine FL.v (E.fieldAddr tf47_1 rfl) ?_
 refine FL.v (E.load rfl (run_load1 Tryz.isAgg3 (at28.now S39.sl) rfl)) ?_
 refine FL.v (E.fieldAddr tf57_1 rfl) ?_
 obtain ⟨w40, run41, S42⟩ := S39.store (P := Tryz.prog) (t := 3) (i := 0) (j := 1) (cs' := [Value.string a0.name, Value.int .i64 a0.system, Value.int .i64 0, Value.int .i64 0]) (l' := [.box b33 57 [Value.string a0.name, Value.int .i64 a0.system, Value.int .i64 0, Value.int .i64 0], .box b29 57 [Value.string ByteArray.empty, Value.int .i64 0, Value.int .i64 0, Value.int .i64 0]]) (v := Value.int .i64 a0.system) (c := [Value.int .i64 a0.system]) rfl Tryz.sizeOf3 rfl rfl (ones_cons rfl ones_nil) (Nat.le_of_ble_eq_true rfl) rfl rfl
 refine FL.act rfl rfl (E.store rfl rfl run41) ?_
 refine FL.nil (FW.seq (FW.region ?_))
 refine FL.v (E.fieldAddr tf47_2 rfl) ?_
 refine FL.v (E.load rfl (run_load1 Tryz.isAgg3 (at28.now S42.sl) rfl)) ?_
 refine FL.v (E.fieldAddr tf57_2 rfl) ?_
 obtain ⟨w43, run44, S45⟩ := S42.store (P := Tryz.prog) (t := 3) (i := 0) (j := 2) (cs' := [Value.string a0.name, Value.int .i64 a0.system, Value.int .i64 a0.size, Value.int .i64 0]) (l' := [.box b33 57 [Value.string a0.name, Value.int .i64 a0.system, Value.int .i64 a0.size, Value.int .i64 0], .box b29 57 [Value.string ByteArray.empty, Value.int .i64 0, Value.int .i64 0, Value.int .i64 0]]) (v := Value.int .i64 a0.size) (c := [Value.int .i64 a0.size]) rfl Tryz.sizeOf3 rfl rfl (ones_cons rfl ones_nil) (Nat.le_of_ble_eq_true rfl) rfl rfl
 refine FL.act rfl rfl (E.store rfl rfl run44) ?_
 refine FL.nil (FW.seq (FW.region ?_))
 refine FL.v (E.fieldAddr tf47_3 rfl) ?_
 refine FL.v (E.load rfl (run_load1 Tryz.isAgg3 (at28.now S45.sl) rfl)) ?_
 refine FL.v (E.fieldAddr tf57_3 rfl) ?_
 obtain ⟨w46, run47, S48⟩ := S45.store (P := Tryz.prog) (t := 3) (i := 0) (j := 3) (cs' := [Value.string a0.name, Value.int .i64 a0.system, Value.int .i64 a0.size, Value.int .i64 a0.extra]) (l' := [.box b33 57 [Value.string a0.name, Value.int .i64 a0.system, Value.int .i64 a0.size, Value.int .i64 a0.extra], .box b29 57 [Value.string ByteArray.empty, Value.int .i64 0, Value.int .i64 0, Value.int .i64 0]]) (v := Value.int .i64 a0.extra) (c := [Value.int .i64 a0.extra]) rfl Tryz.sizeOf3 rfl rfl (ones_cons rfl ones_nil) (Nat.le_of_ble_eq_true rfl) rfl rfl
 refine FL.act rfl rfl (E.store rfl rfl run47) ?_
 obtain ⟨H49, S50, i51, at52⟩ := S48.sealBox (i := 0) (l' := [.box b29 57 [Value.string ByteArray.empty, Value.int .i64 0, Value.int .i64 0, Value.int .i64 0]]) rfl rfl
 refine FL.nil (FW.seq (FW.region ?_))
 refine FL.v (E.load rfl (run_loadA Tryz.isAgg57 Tryz.sizeOf57 (at52.now S50.sl) rfl)) ?_
 obtain ⟨w53, run54, S55⟩ := S50.store0 (P := Tryz.prog) (t := 57) (i := 0) (cs' := [Value.string a0.name, Value.int .i64 a0.system, Value.int .i64 a0.size, Value.int .i64 a0.extra]) (l' := [.box b29 57 [Value.string a0.name, Value.int .i64 a0.system, Value.int .i64 a0.size, Value.int .i64 a0.extra]]) (v := Value.agg #[Value.string a0.name, Value.int .i64 a0.system, Value.int .i64 a0.size, Value.int .i64 a0.extra]) (c := [Value.string a0.name, Value.int .i64 a0.system, Value.int .i64 a0.size, Value.int .i64 a0.extra]) rfl Tryz.sizeOf57 rfl rfl (ones_cons rfl (ones_cons rfl (ones_cons rfl (ones_cons rfl ones_nil)))) (Nat.le_of_ble_eq_true rfl) rfl rfl
 refine FL.act rfl rfl (E.store rfl rfl run54) ?_
 obtain ⟨H56, S57, i58, at59⟩ := S55.sealBox (i := 0) (l' := []) rfl rfl
 refine FL.nil ?_
 refine FW.ret ?_
 obtain rfl := hp
 exact ⟨.inr rfl, resC rfl rfl (loadVar_A Tryz.isAgg57 Tryz.sizeOf57 (at59.now S57.sl) rfl) ⟨rfl, S57.back⟩⟩

@[reducible] def p_laws_toRecordS (Ha : GH) (wa : World) (r : (List Record)) : Ending → World → Prop :=
 fun e w' => ∃ H' : GH, ∃ v0 : Value, ∃ n0 : Nat, ∃ c0 : List Value, e = .returned (v0) ∧ St Ha wa H' w' [.row 57 4 v0 n0 c0] ∧ Els (up wa.heap.size H') eRecord 4 c0 r
theorem w_laws_toRecordS {Ha : GH} {wa : World} (hs : Sl Ha wa) (v0 : Value) (a0 : List Record) (p0 : RSl Ha eRecord 4 v0 a0) {r : (List Record)} (hp : (PF.laws_toRecordS a0) = some r) :
  Calls Tryz.prog 8 #[v0] wa (p_laws_toRecordS Ha wa r) := by
 unfold PF.laws_toRecordS at hp
 have S0 := St.init hs
 refine calls_go (N := 23) (args := [v0]) Tryz.func8 rfl rfl rfl ?_
 refine FW.seq (FW.region ?_)
 refine FL.v (E.assign (v := Value.slice none 0 0) rfl) ?_
 refine FL.nil (FW.seq (FW.region ?_))
 refine FL.v (E.move (v := v0) rfl) ?_
 refine FL.v (E.lenP te22 rfl p0) ?_
 obtain ⟨xs21, hm22, hp⟩ := bnd hp
 obtain ⟨v23, w24, n28, cs29, run25, S26, els27, hbl30⟩ := S0.makeEls (P := Tryz.prog) te30 (G := (up wa.heap.size Ha)) (En := eRecord) (x0 := ((Record.mk ByteArray.empty 0 0 0) : Record)) hm22 rfl (ones_cons rfl (ones_cons rfl (ones_cons rfl (ones_cons rfl ones_nil)))) .i64 .i64
 refine FL.v (E.makeSlice rfl rfl run25) ?_
 refine FL.v (E.assign (v := v23) rfl) ?_
 refine FL.nil (FW.seq (FW.seq (FW.region ?_)))
 refine FL.v (E.assign (v := Value.int .i64 0) rfl) ?_
 refine FL.nil ?_
 obtain ⟨q32, hq, hp⟩ := bndR hp
 refine FW.block ?_
 refine FW.mono (FW.forL (S := (List Record)) (X := Empty) (fun (i32 : Nat) (s32 : (List Record)) f w => ∃ H : GH, ∃ v66 : Value, ∃ n67 : Nat, ∃ cs68 : List Value, St Ha wa H w [.row 57 4 v66 n67 cs68] ∧ Inc Ha H ∧ Els (up wa.heap.size H) eRecord 4 cs68 s32 ∧ f 4 = Value.int .i64 ((i32 : Nat) : Int) ∧ f 0 = v0 ∧ f 3 = v66) (fun (q : Rs (List Record) Empty) e f w => match q with | .go s32 => e = Exit.exit 0 ∧ (∃ H : GH, ∃ v66 : Value, ∃ n67 : Nat, ∃ cs68 : List Value, St Ha wa H w [.row 57 4 v66 n67 cs68] ∧ Inc Ha H ∧ Els (up wa.heap.size H) eRecord 4 cs68 s32 ∧ f 3 = v66) | .rt x => x.elim) hq ⟨_, _, _, _, S26, (Inc.rfl _), els27, rfl, rfl, rfl⟩ ?_ ?_) ?_
 ·
  clear hp hq
  rintro i32 y31 s32 f107 w106 ⟨H103, v66, n67, cs68, S104, i105, els69, k108, k109, k110⟩ hx32 o136 hp
  refine FW.seq (FW.seq (FW.region ?_))
  refine FL.v (E.move k108) ?_
  refine FL.v (E.move k109) ?_
  refine FL.v (E.lenP te22 rfl p0) ?_
  refine FL.v (E.lssT rfl rfl (lss_len hx32)) ?_
  refine FL.nil ?_
  refine FW.condT rfl rfl ?_
  refine FW.skip (FW.seq (FW.block (FW.region ?_)))
  refine FL.v (E.move k110) ?_
  refine FL.v (E.move k108) ?_
  refine FL.v (E.move k109) ?_
  refine FL.v (E.move k108) ?_
  obtain ⟨p111, cs112, pt113, l114, at115, rel116⟩ := p0.at (ix_nat hx32)
  obtain rfl := eRecord_open rel116
  refine FL.v (E.indexAddr te22 rfl rfl pt113) ?_
  refine FL.v (E.load rfl (run_loadA Tryz.isAgg47 Tryz.sizeOf47 ((at115.mono i105).now S104.sl) rfl)) ?_
  refine FL.call rfl rfl rfl (E.call Tryz.call26 (A1 rfl)) (w_laws_toRecord S104.sl y31) ?_
  rintro e w117 ⟨rfl, r118⟩
  refine ⟨_, rfl, ?_⟩
  have S119 := S104.call r118
  obtain ⟨x126, hx127, hp⟩ := bnd hp
  obtain ⟨p120, cs121, pt122, l123, at124, rel125⟩ := S119.row_at (i := 0) rfl els69 (by decide) hx127
  obtain rfl := eRecord_open rel125
  refine FL.v (E.indexAddr te30 rfl rfl pt122) ?_
  obtain ⟨xs131, hput132, hp⟩ := bnd hp
  obtain ⟨w128, cs134, run129, S130, els133, ce135⟩ := S119.putEls (P := Tryz.prog) (t := 57) (i := 0) rfl els69 hput132 pt122 Tryz.sizeOf57 (u := Value.agg #[Value.string ((PF.laws_toRecord y31).name), Value.int .i64 ((PF.laws_toRecord y31).system), Value.int .i64 ((PF.laws_toRecord y31).size), Value.int .i64 ((PF.laws_toRecord y31).extra)]) (c := [Value.string ((PF.laws_toRecord y31).name), Value.int .i64 ((PF.laws_toRecord y31).system), Value.int .i64 ((PF.laws_toRecord y31).size), Value.int .i64 ((PF.laws_toRecord y31).extra)]) rfl rfl (ones_cons rfl (ones_cons rfl (ones_cons rfl (ones_cons rfl ones_nil)))) rfl
  have S130 : St Ha wa H103 w128 [.row 57 4 v66 n67 cs134] := S130
  refine FL.act rfl rfl (E.store rfl rfl run129) ?_
  refine FL.nil (FW.region ?_)
  refine FL.v (E.move k108) ?_
  refine FL.v (E.add rfl rfl) ?_
  refine FL.v (E.assign (v := Value.int .i64 (wr (((i32 : Nat) : Int) + 1))) rfl) ?_
  refine FL.nil ?_
  obtain rfl := Option.some.inj hp
  exact ⟨rfl, ⟨_, _, _, _, S130, i105, els133, (nat_succ rfl (lt_of_get hx32) (p0.mono i105).le), k109, k110⟩⟩
 ·
  clear hp hq
  rintro s32 f147 w146 ⟨H143, v66, n67, cs68, S144, i145, els69, k148, k149, k150⟩
  refine FW.seq (FW.seq (FW.region ?_))
  refine FL.v (E.move k148) ?_
  refine FL.v (E.move k149) ?_
  refine FL.v (E.lenP te22 rfl p0) ?_
  refine FL.v (E.lss rfl rfl) ?_
  refine FL.nil ?_
  refine FW.condF rfl dlt_len ?_
  refine FW.exit ?_
  exact ⟨nofun, rfl, ⟨_, _, _, _, S144, i145, els69, k150⟩⟩
 ·
  clear hq
  intro e f141 w140 hD
  rcases q32 with s32 | x32
  ·
   obtain ⟨rfl, hD⟩ := hD
   obtain ⟨H137, v66, n67, cs68, S138, i139, els69, k142⟩ := hD
   replace hp := el_go hp
   refine FW.seq (FW.region ?_)
   refine FL.v (E.move k142) ?_
   refine FL.v (E.assign (v := v66) rfl) ?_
   refine FL.nil ?_
   refine FW.ret ?_
   obtain rfl := Option.some.inj hp
   exact ⟨.inr rfl, res1 rfl rfl ⟨_, _, _, _, rfl, S138, els69⟩⟩
  ·
   exact x32.elim

@[reducible] def p_laws_toIntS (Ha : GH) (wa : World) (r : (List Int)) : Ending → World → Prop :=
 fun e w' => ∃ H' : GH, ∃ v0 : Value, ∃ n0 : Nat, ∃ c0 : List Value, e = .returned (v0) ∧ St Ha wa H' w' [.row 3 1 v0 n0 c0] ∧ Els (up wa.heap.size H') eI 1 c0 r
theorem w_laws_toIntS {Ha : GH} {wa : World} (hs : Sl Ha wa) (v0 : Value) (a0 : List Int) (p0 : RSl Ha eI 1 v0 a0) {r : (List Int)} (hp : (PF.laws_toIntS a0) = some r) :
  Calls Tryz.prog 45 #[v0] wa (p_laws_toIntS Ha wa r) := by
 unfold PF.laws_toIntS at hp
 have S0 := St.init hs
 refine calls_go (N := 22) (args := [v0]) Tryz.func45 rfl rfl rfl ?_
 refine FW.seq (FW.region ?_)
 refine FL.v (E.assign (v := Value.slice none 0 0) rfl) ?_
 refine FL.nil (FW.seq (FW.region ?_))
 refine FL.v (E.move (v := v0) rfl) ?_
 refine FL.v (E.lenP te50 rfl p0) ?_
 obtain ⟨xs21, hm22, hp⟩ := bnd hp
 obtain ⟨v23, w24, n28, cs29, run25, S26, els27, hbl30⟩ := S0.makeEls (P := Tryz.prog) te50 (G := (up wa.heap.size Ha)) (En := eI) (x0 := (0 : Int)) hm22 rfl (ones_cons rfl ones_nil) .i64 .i64
 refine FL.v (E.makeSlice rfl rfl run25) ?_
 refine FL.v (E.assign (v := v23) rfl) ?_
 refine FL.nil (FW.seq (FW.seq (FW.region ?_)))
 refine FL.v (E.assign (v := Value.int .i64 0) rfl) ?_
 refine FL.nil ?_
 obtain ⟨q32, hq, hp⟩ := bndR hp
 refine FW.block ?_
 refine FW.mono (FW.forL (S := (List Int)) (X := Empty) (fun (i32 : Nat) (s32 : (List Int)) f w => ∃ H : GH, ∃ v63 : Value, ∃ n64 : Nat, ∃ cs65 : List Value, St Ha wa H w [.row 3 1 v63 n64 cs65] ∧ Inc Ha H ∧ Els (up wa.heap.size H) eI 1 cs65 s32 ∧ f 4 = Value.int .i64 ((i32 : Nat) : Int) ∧ f 0 = v0 ∧ f 3 = v63) (fun (q : Rs (List Int) Empty) e f w => match q with | .go s32 => e = Exit.exit 0 ∧ (∃ H : GH, ∃ v63 : Value, ∃ n64 : Nat, ∃ cs65 : List Value, St Ha wa H w [.row 3 1 v63 n64 cs65] ∧ Inc Ha H ∧ Els (up wa.heap.size H) eI 1 cs65 s32 ∧ f 3 = v63) | .rt x => x.elim) hq ⟨_, _, _, _, S26, (Inc.rfl _), els27, rfl, rfl, rfl⟩ ?_ ?_) ?_
 ·
  clear hp hq
  rintro i32 y31 s32 f101 w100 ⟨H97, v63, n64, cs65, S98, i99, els66, k102, k103, k104⟩ hx32 o127 hp
  refine FW.seq (FW.seq (FW.region ?_))
  refine FL.v (E.move k102) ?_
  refine FL.v (E.move k103) ?_
  refine FL.v (E.lenP te50 rfl p0) ?_
  refine FL.v (E.lssT rfl rfl (lss_len hx32)) ?_
  refine FL.nil ?_
  refine FW.condT rfl rfl ?_
  refine FW.skip (FW.seq (FW.block (FW.region ?_)))
  refine FL.v (E.move k104) ?_
  refine FL.v (E.move k102) ?_
  refine FL.v (E.move k103) ?_
  refine FL.v (E.move k102) ?_
  obtain ⟨p105, cs106, pt107, l108, at109, rel110⟩ := p0.at (ix_nat hx32)
  obtain rfl := eI_open rel110
  refine FL.v (E.indexAddr te50 rfl rfl pt107) ?_
  refine FL.v (E.load rfl (run_load0 Tryz.isAgg3 ((at109.mono i99).now S98.sl) rfl)) ?_
  obtain ⟨x117, hx118, hp⟩ := bnd hp
  obtain ⟨p111, cs112, pt113, l114, at115, rel116⟩ := S98.row_at (i := 0) rfl els66 (by decide) hx118
  obtain rfl := eI_open rel116
  refine FL.v (E.indexAddr te50 rfl rfl pt113) ?_
  obtain ⟨xs122, hput123, hp⟩ := bnd hp
  obtain ⟨w119, cs125, run120, S121, els124, ce126⟩ := S98.putEls (P := Tryz.prog) (t := 3) (i := 0) rfl els66 hput123 pt113 Tryz.sizeOf3 (u := Value.int .i64 y31) (c := [Value.int .i64 y31]) rfl rfl (ones_cons rfl ones_nil) rfl
  have S121 : St Ha wa H97 w119 [.row 3 1 v63 n64 cs125] := S121
  refine FL.act rfl rfl (E.store rfl rfl run120) ?_
  refine FL.nil (FW.region ?_)
  refine FL.v (E.move k102) ?_
  refine FL.v (E.add rfl rfl) ?_
  refine FL.v (E.assign (v := Value.int .i64 (wr (((i32 : Nat) : Int) + 1))) rfl) ?_
  refine FL.nil ?_
  obtain rfl := Option.some.inj hp
  exact ⟨rfl, ⟨_, _, _, _, S121, i99, els124, (nat_succ rfl (lt_of_get hx32) (p0.mono i99).le), k103, k104⟩⟩
 ·
  clear hp hq
  rintro s32 f138 w137 ⟨H134, v63, n64, cs65, S135, i136, els66, k139, k140, k141⟩
  refine FW.seq (FW.seq (FW.region ?_))
  refine FL.v (E.move k139) ?_
  refine FL.v (E.move k140) ?_
  refine FL.v (E.lenP te50 rfl p0) ?_
  refine FL.v (E.lss rfl rfl) ?_
  refine FL.nil ?_
  refine FW.condF rfl dlt_len ?_
  refine FW.exit ?_
  exact ⟨nofun, rfl, ⟨_, _, _, _, S135, i136, els66, k141⟩⟩
 ·
  clear hq
  intro e f132 w131 hD
  rcases q32 with s32 | x32
  ·
   obtain ⟨rfl, hD⟩ := hD
   obtain ⟨H128, v63, n64, cs65, S129, i130, els66, k133⟩ := hD
   replace hp := el_go hp
   refine FW.seq (FW.region ?_)
   refine FL.v (E.move k133) ?_
   refine FL.v (E.assign (v := v63) rfl) ?_
   refine FL.nil ?_
   refine FW.ret ?_
   obtain rfl := Option.some.inj hp
   exact ⟨.inr rfl, res1 rfl rfl ⟨_, _, _, _, rfl, S129, els66⟩⟩
  ·
   exact x32.elim

@[reducible] def p_laws_toIntSS (Ha : GH) (wa : World) (r : (List (List Int))) : Ending → World → Prop :=
 fun e w' => ∃ H' : GH, ∃ v0 : Value, ∃ n0 : Nat, ∃ c0 : List Value, e = .returned (v0) ∧ St Ha wa H' w' [.row 50 1 v0 n0 c0] ∧ Els (up wa.heap.size H') (eL eI 1) 1 c0 r ∧ (bl c0).Nodup
set_option maxHeartbeats 4000000 in
theorem w_laws_toIntSS {Ha : GH} {wa : World} (hs : Sl Ha wa) (v0 : Value) (a0 : List (List Int)) (p0 : RSl Ha (eL eI 1) 1 v0 a0) {r : (List (List Int))} (hp : (PF.laws_toIntSS a0) = some r) :
  Calls Tryz.prog 27 #[v0] wa (p_laws_toIntSS Ha wa r) := by
 unfold PF.laws_toIntSS at hp
 have S0 := St.init hs
 refine calls_go (N := 23) (args := [v0]) Tryz.func27 rfl rfl rfl ?_
 refine FW.seq (FW.region ?_)
 refine FL.v (E.assign (v := Value.slice none 0 0) rfl) ?_
 refine FL.nil (FW.seq (FW.region ?_))
 refine FL.v (E.move (v := v0) rfl) ?_
 refine FL.v (E.lenP te23 rfl p0) ?_
 obtain ⟨xs21, hm22, hp⟩ := bnd hp
 obtain ⟨v23, w24, n28, cs29, run25, S26, els27, hbl30⟩ := S0.makeEls (P := Tryz.prog) te23 (G := (up wa.heap.size Ha)) (En := (eL eI 1)) (x0 := ([] : List Int)) hm22 ⟨_, rfl, RSl.nil _ _ _⟩ (ones_cons rfl ones_nil) .i64 .i64
 have nd31 : (bl cs29).Nodup := by rw [hbl30 (by simp [Value.cells, neb])]; exact List.nodup_nil
 refine FL.v (E.makeSlice rfl rfl run25) ?_
 refine FL.v (E.assign (v := v23) rfl) ?_
 refine FL.nil (FW.seq (FW.seq (FW.region ?_)))
 refine FL.v (E.assign (v := Value.int .i64 0) rfl) ?_
 refine FL.nil ?_
 obtain ⟨q33, hq, hp⟩ := bndR hp
 refine FW.block ?_
 refine FW.mono (FW.forL (S := (List (List Int))) (X := Empty) (fun (i33 : Nat) (s33 : (List (List Int))) f w => ∃ H : GH, ∃ v84 : Value, ∃ n85 : Nat, ∃ cs86 : List Value, St Ha wa H w [.row 50 1 v84 n85 cs86] ∧ Inc Ha H ∧ Els (up wa.heap.size H) (eL eI 1) 1 cs86 s33 ∧ (bl cs86).Nodup ∧ f 4 = Value.int .i64 ((i33 : Nat) : Int) ∧ f 0 = v0 ∧ f 3 = v84) (fun (q : Rs (List (List Int)) Empty) e f w => match q with | .go s33 => e = Exit.exit 0 ∧ (∃ H : GH, ∃ v84 : Value, ∃ n85 : Nat, ∃ cs86 : List Value, St Ha wa H w [.row 50 1 v84 n85 cs86] ∧ Inc Ha H ∧ Els (up wa.heap.size H) (eL eI 1) 1 cs86 s33 ∧ (bl cs86).Nodup ∧ f 3 = v84) | .rt x => x.elim) hq ⟨_, _, _, _, S26, (Inc.rfl _), els27, nd31, rfl, rfl, rfl⟩ ?_ ?_) ?_
 ·
  clear hp hq
  rintro i33 y32 s33 f143 w142 ⟨H139, v84, n85, cs86, S140, i141, els87, nd88, k144, k145, k146⟩ hx33 o189 hp
  refine FW.seq (FW.seq (FW.region ?_))
  refine FL.v (E.move k144) ?_
  refine FL.v (E.move k145) ?_
  refine FL.v (E.lenP te23 rfl p0) ?_
  refine FL.v (E.lssT rfl rfl (lss_len hx33)) ?_
  refine FL.nil ?_
  refine FW.condT rfl rfl ?_
  refine FW.skip (FW.seq (FW.block (FW.region ?_)))
  refine FL.v (E.move k146) ?_
  refine FL.v (E.move k144) ?_
  refine FL.v (E.move k145) ?_
  refine FL.v (E.move k144) ?_
  obtain ⟨p147, cs148, pt149, l150, at151, rel152⟩ := p0.at (ix_nat hx33)
  obtain ⟨v153, rfl, h154⟩ := eL_open rel152
  refine FL.v (E.indexAddr te23 rfl rfl pt149) ?_
  refine FL.v (E.load rfl (run_load0 Tryz.isAgg50 ((at151.mono i141).now S140.sl) rfl)) ?_
  obtain ⟨r155, hr156, hp⟩ := bnd hp
  refine FL.call rfl rfl rfl (E.call Tryz.call45 (A1 rfl)) (w_laws_toIntS S140.sl v153 y32 (h154.mono i141) hr156) ?_
  rintro e w158 ⟨H157, v161, n162, cs163, rfl, r160, els164⟩
  refine ⟨_, rfl, ?_⟩
  have els164 := els164.mono (up_le S140.size)
  have S159 := S140.join (l' := [.row 3 1 v161 n162 cs163, .row 50 1 v84 n85 cs86]) r160 rfl
  obtain ⟨x171, hx172, hp⟩ := bnd hp
  obtain ⟨p165, cs166, pt167, l168, at169, rel170⟩ := S159.row_at (i := 1) rfl els87 (by decide) hx172
  obtain ⟨v173, rfl, h174⟩ := eL_open rel170
  refine FL.v (E.indexAddr te23 rfl rfl pt167) ?_
  obtain ⟨H175, S176, i177, h178, nv179⟩ := S159.sealRowU (i := 0) (l' := [.row 50 1 v84 n85 cs86]) rfl els164 (by decide) rfl
  obtain ⟨xs183, hput184, hp⟩ := bnd hp
  obtain ⟨w180, cs186, run181, S182, els185, ce187⟩ := S176.putEls (P := Tryz.prog) (t := 50) (i := 0) rfl (els87.mono (up_mono (r160.run.inc.tr i177))) hput184 pt167 Tryz.sizeOf50 (u := v161) (c := [v161]) h178.cells rfl (ones_cons h178.one ones_nil) ⟨_, rfl, h178⟩
  have S182 : St Ha wa H175 w180 [.row 50 1 v84 n85 cs186] := S182
  have nd188 : (bl cs186).Nodup := by rw [ce187]; exact nd_put (Nat.le_add_right _ _) nd88 (by exact nd_one v161) (Els.dom (els87.mono (upI.tr r160.run.inc))) (by exact nv179)
  refine FL.act rfl rfl (E.store rfl rfl run181) ?_
  refine FL.nil (FW.region ?_)
  refine FL.v (E.move k144) ?_
  refine FL.v (E.add rfl rfl) ?_
  refine FL.v (E.assign (v := Value.int .i64 (wr (((i33 : Nat) : Int) + 1))) rfl) ?_
  refine FL.nil ?_
  obtain rfl := Option.some.inj hp
  exact ⟨rfl, ⟨_, _, _, _, S182, ((i141.tr r160.run.inc).tr i177), els185, nd188, (nat_succ rfl (lt_of_get hx33) (p0.mono ((i141.tr r160.run.inc).tr i177)).le), k145, k146⟩⟩
 ·
  clear hp hq
  rintro s33 f200 w199 ⟨H196, v84, n85, cs86, S197, i198, els87, nd88, k201, k202, k203⟩
  refine FW.seq (FW.seq (FW.region ?_))
  refine FL.v (E.move k201) ?_
  refine FL.v (E.move k202) ?_
  refine FL.v (E.lenP te23 rfl p0) ?_
  refine FL.v (E.lss rfl rfl) ?_
  refine FL.nil ?_
  refine FW.condF rfl dlt_len ?_
  refine FW.exit ?_
  exact ⟨nofun, rfl, ⟨_, _, _, _, S197, i198, els87, nd88, k203⟩⟩
 ·
  clear hq
  intro e f194 w193 hD
  rcases q33 with s33 | x33
  ·
   obtain ⟨rfl, hD⟩ := hD
   obtain ⟨H190, v84, n85, cs86, S191, i192, els87, nd88, k195⟩ := hD
   replace hp := el_go hp
   refine FW.seq (FW.region ?_)
   refine FL.v (E.move k195) ?_
   refine FL.v (E.assign (v := v84) rfl) ?_
   refine FL.nil ?_
   refine FW.ret ?_
   obtain rfl := Option.some.inj hp
   exact ⟨.inr rfl, res1 rfl rfl ⟨_, _, _, _, rfl, S191, els87, nd88⟩⟩
  ·
   exact x33.elim

@[reducible] def p_laws_toCnf (Ha : GH) (wa : World) (r : Cnf) : Ending → World → Prop :=
 fun e w' => ∃ H' : GH, ∃ v0_1 : Value, e = .returned (Value.agg #[Value.int .i64 r.vars, v0_1]) ∧ Run wa.heap.size Ha wa H' w' ∧ (∃ c, Nest (up wa.heap.size H') (eL eI 1) 1 v0_1 r.clauses c)
theorem w_laws_toCnf {Ha : GH} {wa : World} (hs : Sl Ha wa) (a0 : Cnf) (v0_1 : Value) (p0_1 : RSl Ha (eL eI 1) 1 v0_1 a0.clauses) {r : Cnf} (hp : (PF.laws_toCnf a0) = some r) :
  Calls Tryz.prog 9 #[Value.agg #[Value.int .i64 a0.vars, v0_1]] wa (p_laws_toCnf Ha wa r) := by
 unfold PF.laws_toCnf at hp
 have S0 := St.init hs
 refine calls_go (N := 12) (args := [Value.agg #[Value.int .i64 a0.vars, v0_1]]) Tryz.func9 rfl rfl rfl ?_
 refine FW.seq (FW.region ?_)
 obtain ⟨b21, w22, run23, S24⟩ := S0.box (P := Tryz.prog) 25 [Value.int .i64 a0.vars, v0_1] (v := Value.agg #[Value.int .i64 a0.vars, v0_1]) rfl (ones_cons rfl (ones_cons p0_1.one ones_nil))
 refine FL.v (E.box rfl run23) ?_
 obtain ⟨H25, S26, i27, at28⟩ := S24.sealBox (i := 0) (l' := []) rfl rfl
 obtain ⟨b29, w30, run31, S32⟩ := S26.alloc (P := Tryz.prog) 34 [Value.int .i64 0, Value.slice none 0 0] Tryz.zeroValue34 rfl (ones_cons rfl (ones_cons rfl ones_nil))
 refine FL.v (E.alloc run31) ?_
 refine FL.nil (FW.seq (FW.region ?_))
 obtain ⟨b33, w34, run35, S36⟩ := S32.alloc (P := Tryz.prog) 34 [Value.int .i64 0, Value.slice none 0 0] Tryz.zeroValue34 rfl (ones_cons rfl (ones_cons rfl ones_nil))
 refine FL.v (E.alloc run35) ?_
 refine FL.nil (FW.seq (FW.region ?_))
 refine FL.v (E.fieldAddr tf25_0 rfl) ?_
 refine FL.v (E.load rfl (run_load1 Tryz.isAgg3 (at28.now S36.sl) rfl)) ?_
 refine FL.v (E.fieldAddr tf34_0 rfl) ?_
 obtain ⟨w37, run38, S39⟩ := S36.store (P := Tryz.prog) (t := 3) (i := 0) (j := 0) (cs' := [Value.int .i64 a0.vars, Value.slice none 0 0]) (l' := [.box b33 34 [Value.int .i64 a0.vars, Value.slice none 0 0], .box b29 34 [Value.int .i64 0, Value.slice none 0 0]]) (v := Value.int .i64 a0.vars) (c := [Value.int .i64 a0.vars]) rfl Tryz.sizeOf3 rfl rfl (ones_cons rfl ones_nil) (Nat.le_of_ble_eq_true rfl) rfl rfl
 refine FL.act rfl rfl (E.store rfl rfl run38) ?_
 refine FL.nil (FW.seq (FW.region ?_))
 refine FL.v (E.fieldAddr tf25_1 rfl) ?_
 refine FL.v (E.load rfl (run_load1 Tryz.isAgg23 (at28.now S39.sl) rfl)) ?_
 obtain ⟨r40, hr41, hp⟩ := bnd hp
 refine FL.call rfl rfl rfl (E.call Tryz.call27 (A1 rfl)) (w_laws_toIntSS S39.sl v0_1 a0.clauses (p0_1.mono i27) hr41) ?_
 rintro e w43 ⟨H42, v46, n47, cs48, rfl, r45, els49, nd50⟩
 refine ⟨_, rfl, ?_⟩
 have nv51 : New H25 cs48 := New.of_up S39.sl els49.dom
 have els49 := els49.mono (up_le S39.size)
 have S44 := S39.join (l' := [.row 50 1 v46 n47 cs48, .box b33 34 [Value.int .i64 a0.vars, Value.slice none 0 0], .box b29 34 [Value.int .i64 0, Value.slice none 0 0]]) r45 rfl
 refine FL.v (E.fieldAddr tf34_1 rfl) ?_
 obtain ⟨w52, run53, S54⟩ := S44.store (P := Tryz.prog) (t := 23) (i := 1) (j := 1) (cs' := [Value.int .i64 a0.vars, v46]) (l' := [.row 50 1 v46 n47 cs48, .box b33 34 [Value.int .i64 a0.vars, v46], .box b29 34 [Value.int .i64 0, Value.slice none 0 0]]) (v := v46) (c := [v46]) rfl Tryz.sizeOf23 (Ln.cells (S44.row_ln (i := 0) rfl)) rfl (ones_cons (Ln.one (S44.row_ln (i := 0) rfl)) ones_nil) (Nat.le_of_ble_eq_true rfl) rfl rfl
 refine FL.act rfl rfl (E.store rfl rfl run53) ?_
 obtain ⟨H55, S56, i57, ns60, nv59⟩ := S54.sealRowN (i := 0) (l' := [.box b33 34 [Value.int .i64 a0.vars, v46], .box b29 34 [Value.int .i64 0, Value.slice none 0 0]]) rfl els49 nd50 (by decide) rfl
 have h58 := ns60.rsl
 obtain ⟨H61, S62, i63, at64⟩ := S56.sealBox (i := 0) (l' := [.box b29 34 [Value.int .i64 0, Value.slice none 0 0]]) rfl rfl
 refine FL.nil (FW.seq (FW.region ?_))
 refine FL.v (E.load rfl (run_loadA Tryz.isAgg34 Tryz.sizeOf34 (at64.now S62.sl) rfl)) ?_
 obtain ⟨w65, run66, S67⟩ := S62.store0 (P := Tryz.prog) (t := 34) (i := 0) (cs' := [Value.int .i64 a0.vars, v46]) (l' := [.box b29 34 [Value.int .i64 a0.vars, v46]]) (v := Value.agg #[Value.int .i64 a0.vars, v46]) (c := [Value.int .i64 a0.vars, v46]) rfl Tryz.sizeOf34 rfl rfl (ones_cons rfl (ones_cons h58.one ones_nil)) (Nat.le_of_ble_eq_true rfl) rfl rfl
 refine FL.act rfl rfl (E.store rfl rfl run66) ?_
 obtain ⟨H68, S69, i70, at71⟩ := S67.sealBox (i := 0) (l' := []) rfl rfl
 refine FL.nil ?_
 refine FW.ret ?_
 obtain rfl := Option.some.inj hp
 exact ⟨.inr rfl, resC rfl rfl (loadVar_A Tryz.isAgg34 Tryz.sizeOf34 (at71.now S69.sl) rfl) ⟨_, _, rfl, S69.run, ⟨_, (ns60.mono (up_mono (i63.tr i70)))⟩⟩⟩

@[reducible] def p_laws_toResStep (Ha : GH) (wa : World) (r : ResStep) : Ending → World → Prop :=
 fun e w' => ∃ H' : GH, ∃ v0_0 : Value, e = .returned (Value.agg #[v0_0, Value.int .i64 r.left, Value.int .i64 r.right, Value.int .i64 r.pivot]) ∧ Run wa.heap.size Ha wa H' w' ∧ RSl (up wa.heap.size H') eI 1 v0_0 r.clause
theorem w_laws_toResStep {Ha : GH} {wa : World} (hs : Sl Ha wa) (a0 : ResStep) (v0_0 : Value) (p0_0 : RSl Ha eI 1 v0_0 a0.clause) {r : ResStep} (hp : (PF.laws_toResStep a0) = some r) :
  Calls Tryz.prog 28 #[Value.agg #[v0_0, Value.int .i64 a0.left, Value.int .i64 a0.right, Value.int .i64 a0.pivot]] wa (p_laws_toResStep Ha wa r) := by
 unfold PF.laws_toResStep at hp
 have S0 := St.init hs
 refine calls_go (N := 18) (args := [Value.agg #[v0_0, Value.int .i64 a0.left, Value.int .i64 a0.right, Value.int .i64 a0.pivot]]) Tryz.func28 rfl rfl rfl ?_
 refine FW.seq (FW.region ?_)
 obtain ⟨b21, w22, run23, S24⟩ := S0.box (P := Tryz.prog) 52 [v0_0, Value.int .i64 a0.left, Value.int .i64 a0.right, Value.int .i64 a0.pivot] (v := Value.agg #[v0_0, Value.int .i64 a0.left, Value.int .i64 a0.right, Value.int .i64 a0.pivot]) rfl (ones_cons p0_0.one (ones_cons rfl (ones_cons rfl (ones_cons rfl ones_nil))))
 refine FL.v (E.box rfl run23) ?_
 obtain ⟨H25, S26, i27, at28⟩ := S24.sealBox (i := 0) (l' := []) rfl rfl
 obtain ⟨b29, w30, run31, S32⟩ := S26.alloc (P := Tryz.prog) 60 [Value.slice none 0 0, Value.int .i64 0, Value.int .i64 0, Value.int .i64 0] Tryz.zeroValue60 rfl (ones_cons rfl (ones_cons rfl (ones_cons rfl (ones_cons rfl ones_nil))))
 refine FL.v (E.alloc run31) ?_
 refine FL.nil (FW.seq (FW.region ?_))
 obtain ⟨b33, w34, run35, S36⟩ := S32.alloc (P := Tryz.prog) 60 [Value.slice none 0 0, Value.int .i64 0, Value.int .i64 0, Value.int .i64 0] Tryz.zeroValue60 rfl (ones_cons rfl (ones_cons rfl (ones_cons rfl (ones_cons rfl ones_nil))))
 refine FL.v (E.alloc run35) ?_
 refine FL.nil (FW.seq (FW.region ?_))
 refine FL.v (E.fieldAddr tf52_0 rfl) ?_
 refine FL.v (E.load rfl (run_load1 Tryz.isAgg50 (at28.now S36.sl) rfl)) ?_
 obtain ⟨r37, hr38, hp⟩ := bnd hp
 refine FL.call rfl rfl rfl (E.call Tryz.call45 (A1 rfl)) (w_laws_toIntS S36.sl v0_0 a0.clause (p0_0.mono i27) hr38) ?_
 rintro e w40 ⟨H39, v43, n44, cs45, rfl, r42, els46⟩
 refine ⟨_, rfl, ?_⟩
 have els46 := els46.mono (up_le S36.size)
 have S41 := S36.join (l' := [.row 3 1 v43 n44 cs45, .box b33 60 [Value.slice none 0 0, Value.int .i64 0, Value.int .i64 0, Value.int .i64 0], .box b29 60 [Value.slice none 0 0, Value.int .i64 0, Value.int .i64 0, Value.int .i64 0]]) r42 rfl
 refine FL.v (E.fieldAddr tf60_0 rfl) ?_
 obtain ⟨w47, run48, S49⟩ := S41.store (P := Tryz.prog) (t := 50) (i := 1) (j := 0) (cs' := [v43, Value.int .i64 0, Value.int .i64 0, Value.int .i64 0]) (l' := [.row 3 1 v43 n44 cs45, .box b33 60 [v43, Value.int .i64 0, Value.int .i64 0, Value.int .i64 0], .box b29 60 [Value.slice none 0 0, Value.int .i64 0, Value.int .i64 0, Value.int .i64 0]]) (v := v43) (c := [v43]) rfl Tryz.sizeOf50 (Ln.cells (S41.row_ln (i := 0) rfl)) rfl (ones_cons (Ln.one (S41.row_ln (i := 0) rfl)) ones_nil) (Nat.le_of_ble_eq_true rfl) rfl rfl
 refine FL.act rfl rfl (E.store rfl rfl run48) ?_
 refine FL.nil (FW.seq (FW.region ?_))
 refine FL.v (E.fieldAddr tf52_1 rfl) ?_
 refine FL.v (E.load rfl (run_load1 Tryz.isAgg3 ((at28.mono r42.run.inc).now S49.sl) rfl)) ?_
 refine FL.v (E.fieldAddr tf60_1 rfl) ?_
 obtain ⟨w50, run51, S52⟩ := S49.store (P := Tryz.prog) (t := 3) (i := 1) (j := 1) (cs' := [v43, Value.int .i64 a0.left, Value.int .i64 0, Value.int .i64 0]) (l' := [.row 3 1 v43 n44 cs45, .box b33 60 [v43, Value.int .i64 a0.left, Value.int .i64 0, Value.int .i64 0], .box b29 60 [Value.slice none 0 0, Value.int .i64 0, Value.int .i64 0, Value.int .i64 0]]) (v := Value.int .i64 a0.left) (c := [Value.int .i64 a0.left]) rfl Tryz.sizeOf3 rfl rfl (ones_cons rfl ones_nil) (Nat.le_of_ble_eq_true rfl) rfl rfl
 refine FL.act rfl rfl (E.store rfl rfl run51) ?_
 refine FL.nil (FW.seq (FW.region ?_))
 refine FL.v (E.fieldAddr tf52_2 rfl) ?_
 refine FL.v (E.load rfl (run_load1 Tryz.isAgg3 ((at28.mono r42.run.inc).now S52.sl) rfl)) ?_
 refine FL.v (E.fieldAddr tf60_2 rfl) ?_
 obtain ⟨w53, run54, S55⟩ := S52.store (P := Tryz.prog) (t := 3) (i := 1) (j := 2) (cs' := [v43, Value.int .i64 a0.left, Value.int .i64 a0.right, Value.int .i64 0]) (l' := [.row 3 1 v43 n44 cs45, .box b33 60 [v43, Value.int .i64 a0.left, Value.int .i64 a0.right, Value.int .i64 0], .box b29 60 [Value.slice none 0 0, Value.int .i64 0, Value.int .i64 0, Value.int .i64 0]]) (v := Value.int .i64 a0.right) (c := [Value.int .i64 a0.right]) rfl Tryz.sizeOf3 rfl rfl (ones_cons rfl ones_nil) (Nat.le_of_ble_eq_true rfl) rfl rfl
 refine FL.act rfl rfl (E.store rfl rfl run54) ?_
 refine FL.nil (FW.seq (FW.region ?_))
 refine FL.v (E.fieldAddr tf52_3 rfl) ?_
 refine FL.v (E.load rfl (run_load1 Tryz.isAgg3 ((at28.mono r42.run.inc).now S55.sl) rfl)) ?_
 refine FL.v (E.fieldAddr tf60_3 rfl) ?_
 obtain ⟨w56, run57, S58⟩ := S55.store (P := Tryz.prog) (t := 3) (i := 1) (j := 3) (cs' := [v43, Value.int .i64 a0.left, Value.int .i64 a0.right, Value.int .i64 a0.pivot]) (l' := [.row 3 1 v43 n44 cs45, .box b33 60 [v43, Value.int .i64 a0.left, Value.int .i64 a0.right, Value.int .i64 a0.pivot], .box b29 60 [Value.slice none 0 0, Value.int .i64 0, Value.int .i64 0, Value.int .i64 0]]) (v := Value.int .i64 a0.pivot) (c := [Value.int .i64 a0.pivot]) rfl Tryz.sizeOf3 rfl rfl (ones_cons rfl ones_nil) (Nat.le_of_ble_eq_true rfl) rfl rfl
 refine FL.act rfl rfl (E.store rfl rfl run57) ?_
 obtain ⟨H59, S60, i61, h62, nv63⟩ := S58.sealRowU (i := 0) (l' := [.box b33 60 [v43, Value.int .i64 a0.left, Value.int .i64 a0.right, Value.int .i64 a0.pivot], .box b29 60 [Value.slice none 0 0, Value.int .i64 0, Value.int .i64 0, Value.int .i64 0]]) rfl els46 (by decide) rfl
 obtain ⟨H64, S65, i66, at67⟩ := S60.sealBox (i := 0) (l' := [.box b29 60 [Value.slice none 0 0, Value.int .i64 0, Value.int .i64 0, Value.int .i64 0]]) rfl rfl
 refine FL.nil (FW.seq (FW.region ?_))
 refine FL.v (E.load rfl (run_loadA Tryz.isAgg60 Tryz.sizeOf60 (at67.now S65.sl) rfl)) ?_
 obtain ⟨w68, run69, S70⟩ := S65.store0 (P := Tryz.prog) (t := 60) (i := 0) (cs' := [v43, Value.int .i64 a0.left, Value.int .i64 a0.right, Value.int .i64 a0.pivot]) (l' := [.box b29 60 [v43, Value.int .i64 a0.left, Value.int .i64 a0.right, Value.int .i64 a0.pivot]]) (v := Value.agg #[v43, Value.int .i64 a0.left, Value.int .i64 a0.right, Value.int .i64 a0.pivot]) (c := [v43, Value.int .i64 a0.left, Value.int .i64 a0.right, Value.int .i64 a0.pivot]) rfl Tryz.sizeOf60 rfl rfl (ones_cons h62.one (ones_cons rfl (ones_cons rfl (ones_cons rfl ones_nil)))) (Nat.le_of_ble_eq_true rfl) rfl rfl
 refine FL.act rfl rfl (E.store rfl rfl run69) ?_
 obtain ⟨H71, S72, i73, at74⟩ := S70.sealBox (i := 0) (l' := []) rfl rfl
 refine FL.nil ?_
 refine FW.ret ?_
 obtain rfl := Option.some.inj hp
 exact ⟨.inr rfl, resC rfl rfl (loadVar_A Tryz.isAgg60 Tryz.sizeOf60 (at74.now S72.sl) rfl) ⟨_, _, rfl, S72.run, (h62.mono (up_mono (i66.tr i73)))⟩⟩

@[reducible] def p_laws_toResStepS (Ha : GH) (wa : World) (r : (List ResStep)) : Ending → World → Prop :=
 fun e w' => ∃ H' : GH, ∃ v0 : Value, ∃ n0 : Nat, ∃ c0 : List Value, e = .returned (v0) ∧ St Ha wa H' w' [.row 60 4 v0 n0 c0] ∧ Els (up wa.heap.size H') eResStep 4 c0 r ∧ (bl c0).Nodup
set_option maxHeartbeats 4000000 in
theorem w_laws_toResStepS {Ha : GH} {wa : World} (hs : Sl Ha wa) (v0 : Value) (a0 : List ResStep) (p0 : RSl Ha eResStep 4 v0 a0) {r : (List ResStep)} (hp : (PF.laws_toResStepS a0) = some r) :
  Calls Tryz.prog 10 #[v0] wa (p_laws_toResStepS Ha wa r) := by
 unfold PF.laws_toResStepS at hp
 have S0 := St.init hs
 refine calls_go (N := 23) (args := [v0]) Tryz.func10 rfl rfl rfl ?_
 refine FW.seq (FW.region ?_)
 refine FL.v (E.assign (v := Value.slice none 0 0) rfl) ?_
 refine FL.nil (FW.seq (FW.region ?_))
 refine FL.v (E.move (v := v0) rfl) ?_
 refine FL.v (E.lenP te26 rfl p0) ?_
 obtain ⟨xs21, hm22, hp⟩ := bnd hp
 obtain ⟨v23, w24, n28, cs29, run25, S26, els27, hbl30⟩ := S0.makeEls (P := Tryz.prog) te36 (G := (up wa.heap.size Ha)) (En := eResStep) (x0 := ((ResStep.mk [] 0 0 0) : ResStep)) hm22 ⟨_, rfl, (RSl.nil _ _ _)⟩ (ones_cons rfl (ones_cons rfl (ones_cons rfl (ones_cons rfl ones_nil)))) .i64 .i64
 have nd31 : (bl cs29).Nodup := by rw [hbl30 (by simp [Value.cells, neb])]; exact List.nodup_nil
 refine FL.v (E.makeSlice rfl rfl run25) ?_
 refine FL.v (E.assign (v := v23) rfl) ?_
 refine FL.nil (FW.seq (FW.seq (FW.region ?_)))
 refine FL.v (E.assign (v := Value.int .i64 0) rfl) ?_
 refine FL.nil ?_
 obtain ⟨q33, hq, hp⟩ := bndR hp
 refine FW.block ?_
 refine FW.mono (FW.forL (S := (List ResStep)) (X := Empty) (fun (i33 : Nat) (s33 : (List ResStep)) f w => ∃ H : GH, ∃ v78 : Value, ∃ n79 : Nat, ∃ cs80 : List Value, St Ha wa H w [.row 60 4 v78 n79 cs80] ∧ Inc Ha H ∧ Els (up wa.heap.size H) eResStep 4 cs80 s33 ∧ (bl cs80).Nodup ∧ f 4 = Value.int .i64 ((i33 : Nat) : Int) ∧ f 0 = v0 ∧ f 3 = v78) (fun (q : Rs (List ResStep) Empty) e f w => match q with | .go s33 => e = Exit.exit 0 ∧ (∃ H : GH, ∃ v78 : Value, ∃ n79 : Nat, ∃ cs80 : List Value, St Ha wa H w [.row 60 4 v78 n79 cs80] ∧ Inc Ha H ∧ Els (up wa.heap.size H) eResStep 4 cs80 s33 ∧ (bl cs80).Nodup ∧ f 3 = v78) | .rt x => x.elim) hq ⟨_, _, _, _, S26, (Inc.rfl _), els27, nd31, rfl, rfl, rfl⟩ ?_ ?_) ?_
 ·
  clear hp hq
  rintro i33 y32 s33 f131 w130 ⟨H127, v78, n79, cs80, S128, i129, els81, nd82, k132, k133, k134⟩ hx33 o171 hp
  refine FW.seq (FW.seq (FW.region ?_))
  refine FL.v (E.move k132) ?_
  refine FL.v (E.move k133) ?_
  refine FL.v (E.lenP te26 rfl p0) ?_
  refine FL.v (E.lssT rfl rfl (lss_len hx33)) ?_
  refine FL.nil ?_
  refine FW.condT rfl rfl ?_
  refine FW.skip (FW.seq (FW.block (FW.region ?_)))
  refine FL.v (E.move k134) ?_
  refine FL.v (E.move k132) ?_
  refine FL.v (E.move k133) ?_
  refine FL.v (E.move k132) ?_
  obtain ⟨p135, cs136, pt137, l138, at139, rel140⟩ := p0.at (ix_nat hx33)
  obtain ⟨v141, rfl, h142⟩ := eResStep_open rel140
  refine FL.v (E.indexAddr te26 rfl rfl pt137) ?_
  refine FL.v (E.load rfl (run_loadA Tryz.isAgg52 Tryz.sizeOf52 ((at139.mono i129).now S128.sl) rfl)) ?_
  obtain ⟨r143, hr144, hp⟩ := bnd hp
  refine FL.call rfl rfl rfl (E.call Tryz.call28 (A1 rfl)) (w_laws_toResStep S128.sl y32 v141 (h142.mono i129) hr144) ?_
  rintro e w146 ⟨H145, v149, rfl, r148, h150⟩
  refine ⟨_, rfl, ?_⟩
  have nv151 : New H127 [v149] := New.of_up S128.sl h150.dom
  have h150 := h150.mono (up_le S128.size)
  have S147 := S128.call r148
  obtain ⟨x158, hx159, hp⟩ := bnd hp
  obtain ⟨p152, cs153, pt154, l155, at156, rel157⟩ := S147.row_at (i := 0) rfl els81 (by decide) hx159
  obtain ⟨v160, rfl, h161⟩ := eResStep_open rel157
  refine FL.v (E.indexAddr te36 rfl rfl pt154) ?_
  obtain ⟨xs165, hput166, hp⟩ := bnd hp
  obtain ⟨w162, cs168, run163, S164, els167, ce169⟩ := S147.putEls (P := Tryz.prog) (t := 60) (i := 0) rfl (els81.mono (up_mono r148.inc)) hput166 pt154 Tryz.sizeOf60 (u := Value.agg #[v149, Value.int .i64 r143.left, Value.int .i64 r143.right, Value.int .i64 r143.pivot]) (c := [v149, Value.int .i64 r143.left, Value.int .i64 r143.right, Value.int .i64 r143.pivot]) rfl rfl (ones_cons h150.one (ones_cons rfl (ones_cons rfl (ones_cons rfl ones_nil)))) ⟨_, rfl, h150⟩
  have S164 : St Ha wa H145 w162 [.row 60 4 v78 n79 cs168] := S164
  have nd170 : (bl cs168).Nodup := by rw [ce169]; exact nd_put (Nat.le_add_right _ _) nd82 (by exact nd_one v149) (Els.dom (els81.mono (upI.tr (Inc.rfl _)))) (by exact nv151)
  refine FL.act rfl rfl (E.store rfl rfl run163) ?_
  refine FL.nil (FW.region ?_)
  refine FL.v (E.move k132) ?_
  refine FL.v (E.add rfl rfl) ?_
  refine FL.v (E.assign (v := Value.int .i64 (wr (((i33 : Nat) : Int) + 1))) rfl) ?_
  refine FL.nil ?_
  obtain rfl := Option.some.inj hp
  exact ⟨rfl, ⟨_, _, _, _, S164, (i129.tr r148.inc), els167, nd170, (nat_succ rfl (lt_of_get hx33) (p0.mono (i129.tr r148.inc)).le), k133, k134⟩⟩
 ·
  clear hp hq
  rintro s33 f182 w181 ⟨H178, v78, n79, cs80, S179, i180, els81, nd82, k183, k184, k185⟩
  refine FW.seq (FW.seq (FW.region ?_))
  refine FL.v (E.move k183) ?_
  refine FL.v (E.move k184) ?_
  refine FL.v (E.lenP te26 rfl p0) ?_
  refine FL.v (E.lss rfl rfl) ?_
  refine FL.nil ?_
  refine FW.condF rfl dlt_len ?_
  refine FW.exit ?_
  exact ⟨nofun, rfl, ⟨_, _, _, _, S179, i180, els81, nd82, k185⟩⟩
 ·
  clear hq
  intro e f176 w175 hD
  rcases q33 with s33 | x33
  ·
   obtain ⟨rfl, hD⟩ := hD
   obtain ⟨H172, v78, n79, cs80, S173, i174, els81, nd82, k177⟩ := hD
   replace hp := el_go hp
   refine FW.seq (FW.region ?_)
   refine FL.v (E.move k177) ?_
   refine FL.v (E.assign (v := v78) rfl) ?_
   refine FL.nil ?_
   refine FW.ret ?_
   obtain rfl := Option.some.inj hp
   exact ⟨.inr rfl, res1 rfl rfl ⟨_, _, _, _, rfl, S173, els81, nd82⟩⟩
  ·
   exact x33.elim

theorem w_spec_l1In {Ha : GH} {wa : World} (hs : Sl Ha wa) (a0 : Int) (a1 : Int) (a2 : Int) :
  Calls Tryz.prog 53 #[Value.int .i64 a0, Value.int .i64 a1, Value.int .i64 a2] wa (Sc Ha wa (Value.bool (PF.spec_l1In a0 a1 a2))) := by
 obtain ⟨r, hp⟩ : ∃ r, (PF.spec_l1In a0 a1 a2) = r := ⟨_, rfl⟩
 rw [hp]
 unfold PF.spec_l1In at hp
 have S0 := St.init hs
 refine calls_go (N := 15) (args := [Value.int .i64 a0, Value.int .i64 a1, Value.int .i64 a2]) Tryz.func53 rfl rfl rfl ?_
 refine FW.seq (FW.region ?_)
 refine FL.v (E.assign (v := Value.bool false) rfl) ?_
 refine FL.nil (FW.seq (FW.region ?_))
 refine FL.v (E.move (v := Value.int .i64 a0) rfl) ?_
 refine FL.v (E.move (v := Value.int .i64 a1) rfl) ?_
 refine FL.v (E.geq rfl rfl) ?_
 refine FL.v (E.move (v := Value.bool (decide (a1 ≤ a0))) rfl) ?_
 refine FL.cut 4 (fun f w => ∃ H : GH, St Ha wa H w [] ∧ Inc Ha H ∧ f 14 = Value.bool (bif (decide (a1 ≤ a0)) then (decide (a0 ≤ a2)) else false)) ?_ ?_
 ·
  rcases bcase (decide (a1 ≤ a0)) with c27 | c27
  ·
   refine FL.val (wF_yes rfl rfl rfl c27) rfl rfl (E.move (v := Value.int .i64 a0) rfl) ?_
   refine FL.val (wF_yes rfl rfl rfl c27) rfl rfl (E.move (v := Value.int .i64 a2) rfl) ?_
   refine FL.val (wF_yes rfl rfl rfl c27) rfl rfl (E.leq rfl rfl) ?_
   refine FL.v (E.pickT rfl c27 rfl) ?_
   exact FL.nil ⟨rfl, _, S0, (Inc.rfl _), (congrArg Value.bool (bifT c27).symm)⟩
  ·
   refine FL.skip (wF_no rfl rfl rfl c27) rfl ?_
   refine FL.skip (wF_no rfl rfl rfl c27) rfl ?_
   refine FL.skip (wF_no rfl rfl rfl c27) rfl ?_
   refine FL.v (E.pickF rfl c27 rfl) ?_
   exact FL.nil ⟨rfl, _, S0, (Inc.rfl _), (congrArg Value.bool (bifF c27).symm)⟩
 rintro f26 w25 ⟨H22, S23, i24, k28⟩
 refine FL.v (E.assign k28) ?_
 refine FL.nil ?_
 refine FW.ret ?_
 obtain rfl := hp
 exact ⟨.inr rfl, res1 rfl rfl ⟨rfl, S23.back⟩⟩

set_option maxHeartbeats 4000000 in
theorem w_spec_l31Name {Ha : GH} {wa : World} (hs : Sl Ha wa) (a0 : ByteArray) {r : Bool} (hp : (PF.spec_l31Name a0) = some r) :
  Calls Tryz.prog 40 #[Value.string a0] wa (Sc Ha wa (Value.bool r)) := by
 unfold PF.spec_l31Name at hp
 have S0 := St.init hs
 refine calls_go (N := 36) (args := [Value.string a0]) Tryz.func40 rfl rfl rfl ?_
 refine FW.seq (FW.region ?_)
 refine FL.v (E.assign (v := Value.bool false) rfl) ?_
 refine FL.nil (FW.seq (FW.seq (FW.region ?_)))
 refine FL.v (E.move (v := Value.string a0) rfl) ?_
 refine FL.v (E.lenS Tryz.runUnderlying9 rfl) ?_
 refine FL.call rfl rfl rfl (E.call Tryz.call53 (A3 rfl rfl rfl)) (w_spec_l1In S0.sl (a0.size : Int) 1 12) ?_
 rintro e w21 ⟨rfl, r22⟩
 refine ⟨_, rfl, ?_⟩
 have S23 := S0.call r22
 refine FL.v (E.not rfl) ?_
 refine FL.nil ?_
 rcases ifB hp with ⟨c24, hp⟩ | ⟨c24, hp⟩
 ·
  refine FW.condT rfl c24 ?_
  refine FW.seq (FW.region ?_)
  refine FL.v (E.assign (v := Value.bool false) rfl) ?_
  refine FL.nil ?_
  refine FW.ret ?_
  obtain rfl := Option.some.inj hp
  exact ⟨.inr rfl, res1 rfl rfl ⟨rfl, S23.back⟩⟩
 ·
  refine FW.condF rfl c24 ?_
  refine FW.skip (FW.seq (FW.seq (FW.region ?_)))
  refine FL.v (E.assign (v := Value.int .i64 0) rfl) ?_
  refine FL.nil ?_
  obtain ⟨m25, hchk26, hp⟩ := bnd hp
  obtain ⟨q26, hq, hp⟩ := bndR hp
  refine FW.block ?_
  refine FW.mono (FW.forR (S := Unit) (X := Bool) (fun (i26 : Nat) (s26 : Unit) f w => ∃ H : GH, St Ha wa H w [] ∧ Inc Ha H ∧ f 3 = Value.int .i64 ((i26 : Nat) : Int) ∧ f 0 = Value.string a0) (fun q e f w => match q with | .go s26 => e = Exit.exit 0 ∧ (∃ H : GH, St Ha wa H w [] ∧ Inc Ha H) | .rt x => ((e = Exit.ret) ∧ (fun e f w => (e = Exit.normal ∨ e = Exit.ret) ∧ ∀ a, Fr (δ := []) 36 a f → ∃ v, (results Tryz.f40 a.tmps).run Tryz.prog w = .ok v w ∧ (Sc Ha wa (Value.bool x)) (.returned v) w) e f w)) hq ⟨_, S23, (Inc.rfl _), rfl, rfl⟩ ?_ ?_) ?_
  ·
   clear hp hq
   rintro i26 s26 f99 w98 ⟨H95, S96, i97, k100, k101⟩ hi26 hj26 o163 hp
   refine FW.seq (FW.seq (FW.region ?_))
   refine FL.v (E.move k100) ?_
   refine FL.v (E.move k101) ?_
   refine FL.v (E.lenS Tryz.runUnderlying9 rfl) ?_
   refine FL.v (E.lssT rfl rfl (lss_chk hj26 hchk26)) ?_
   refine FL.nil ?_
   refine FW.condT rfl rfl ?_
   refine FW.skip (FW.seq (FW.block (FW.seq (FW.region ?_))))
   refine FL.v (E.move k101) ?_
   refine FL.v (E.move k100) ?_
   obtain ⟨z102, h103, hp⟩ := bnd hp
   refine FL.v (E.ixS Tryz.runUnderlying9 rfl rfl h103) ?_
   refine FL.v (E.lss rfl rfl) ?_
   refine FL.v (E.move (v := Value.bool (decide (z102 < 97))) rfl) ?_
   obtain ⟨t106, hqt106, hp⟩ := bnd hp
   refine FL.cut 5 (fun f w => ∃ H : GH, St Ha wa H w [] ∧ Inc H95 H ∧ f 0 = Value.string a0 ∧ f 3 = Value.int .i64 ((i26 : Nat) : Int) ∧ f 23 = Value.bool t106) ?_ ?_
   ·
    clear hp; have hp := hqt106; clear hqt106
    rcases ifB hp with ⟨c112, hp⟩ | ⟨c112, hp⟩
    ·
     refine FL.skip (wF_no rfl rfl rfl c112) rfl ?_
     refine FL.skip (wF_no rfl rfl rfl c112) rfl ?_
     refine FL.skip (wF_no rfl rfl rfl c112) rfl ?_
     refine FL.skip (wF_no rfl rfl rfl c112) rfl ?_
     obtain rfl := Option.some.inj hp
     refine FL.v (E.pickT rfl c112 rfl) ?_
     exact FL.nil ⟨rfl, _, S96, (Inc.rfl _), k101, k100, rfl⟩
    ·
     refine FL.val (wF_yes rfl rfl rfl c112) rfl rfl (E.move k101) ?_
     refine FL.val (wF_yes rfl rfl rfl c112) rfl rfl (E.move k100) ?_
     obtain ⟨z113, h114, hp⟩ := bnd hp
     refine FL.val (wF_yes rfl rfl rfl c112) rfl rfl (E.ixS Tryz.runUnderlying9 rfl rfl h114) ?_
     refine FL.val (wF_yes rfl rfl rfl c112) rfl rfl (E.gtr rfl rfl) ?_
     obtain rfl := Option.some.inj hp
     refine FL.v (E.pickF rfl c112 rfl) ?_
     exact FL.nil ⟨rfl, _, S96, (Inc.rfl _), k101, k100, rfl⟩
   rintro f111 w110 ⟨H107, S108, i109, k115, k116, k117⟩
   refine FL.v (E.move k117) ?_
   obtain ⟨t135, hqt135, hp⟩ := bnd hp
   refine FL.cut 11 (fun f w => ∃ H : GH, St Ha wa H w [] ∧ Inc H107 H ∧ f 0 = Value.string a0 ∧ f 3 = Value.int .i64 ((i26 : Nat) : Int) ∧ f 35 = Value.bool t135) ?_ ?_
   ·
    clear hp; have hp := hqt135; clear hqt135
    rcases ifB hp with ⟨c141, hp⟩ | ⟨c141, hp⟩
    ·
     refine FL.val (wF_yes rfl rfl rfl c141) rfl rfl (E.move k115) ?_
     refine FL.val (wF_yes rfl rfl rfl c141) rfl rfl (E.move k116) ?_
     obtain ⟨z142, h143, hp⟩ := bnd hp
     refine FL.val (wF_yes rfl rfl rfl c141) rfl rfl (E.ixS Tryz.runUnderlying9 rfl rfl h143) ?_
     refine FL.val (wF_yes rfl rfl rfl c141) rfl rfl (E.lss rfl rfl) ?_
     refine FL.val (wF_yes rfl rfl rfl c141) rfl rfl (E.move (v := Value.bool (decide (z142 < 48))) rfl) ?_
     obtain ⟨t146, hqt146, hp⟩ := bnd hp
     refine FL.cut 5 (fun f w => ∃ H : GH, St Ha wa H w [] ∧ Inc H107 H ∧ f 0 = Value.string a0 ∧ f 3 = Value.int .i64 ((i26 : Nat) : Int) ∧ f 24 = Value.bool t106 ∧ f 34 = Value.bool t146) ?_ ?_
     ·
      clear hp; have hp := hqt146; clear hqt146
      rcases ifB hp with ⟨c152, hp⟩ | ⟨c152, hp⟩
      ·
       refine FL.skip (wF_no rfl rfl rfl c152) rfl ?_
       refine FL.skip (wF_no rfl rfl rfl c152) rfl ?_
       refine FL.skip (wF_no rfl rfl rfl c152) rfl ?_
       refine FL.skip (wF_no rfl rfl rfl c152) rfl ?_
       obtain rfl := Option.some.inj hp
       refine FL.val (wF_yes rfl rfl rfl c141) rfl rfl (E.pickT rfl c152 rfl) ?_
       exact FL.nil ⟨rfl, _, S108, (Inc.rfl _), k115, k116, rfl, rfl⟩
      ·
       refine FL.val (wF_yes rfl rfl rfl c152) rfl rfl (E.move k115) ?_
       refine FL.val (wF_yes rfl rfl rfl c152) rfl rfl (E.move k116) ?_
       obtain ⟨z153, h154, hp⟩ := bnd hp
       refine FL.val (wF_yes rfl rfl rfl c152) rfl rfl (E.ixS Tryz.runUnderlying9 rfl rfl h154) ?_
       refine FL.val (wF_yes rfl rfl rfl c152) rfl rfl (E.gtr rfl rfl) ?_
       obtain rfl := Option.some.inj hp
       refine FL.val (wF_yes rfl rfl rfl c141) rfl rfl (E.pickF rfl c152 rfl) ?_
       exact FL.nil ⟨rfl, _, S108, (Inc.rfl _), k115, k116, rfl, rfl⟩
     rintro f151 w150 ⟨H147, S148, i149, k155, k156, k157, k158⟩
     obtain rfl := Option.some.inj hp
     refine FL.v (E.pickT k157 c141 k158) ?_
     exact FL.nil ⟨rfl, _, S148, i149, k155, k156, rfl⟩
    ·
     refine FL.skip (wF_no rfl rfl rfl c141) rfl ?_
     refine FL.skip (wF_no rfl rfl rfl c141) rfl ?_
     refine FL.skip (wF_no rfl rfl rfl c141) rfl ?_
     refine FL.skip (wF_no rfl rfl rfl c141) rfl ?_
     refine FL.skip (wF_no rfl rfl rfl c141) rfl ?_
     refine FL.skip (wF_undef rfl rfl rfl) rfl ?_
     refine FL.skip (wF_undef rfl rfl rfl) rfl ?_
     refine FL.skip (wF_undef rfl rfl rfl) rfl ?_
     refine FL.skip (wF_undef rfl rfl rfl) rfl ?_
     refine FL.skip (wF_no rfl rfl rfl c141) rfl ?_
     obtain rfl := Option.some.inj hp
     refine FL.v (E.pickF rfl c141 rfl) ?_
     exact FL.nil ⟨rfl, _, S108, (Inc.rfl _), k115, k116, rfl⟩
   rintro f140 w139 ⟨H136, S137, i138, k159, k160, k161⟩
   refine FL.nil ?_
   rcases ifB hp with ⟨c162, hp⟩ | ⟨c162, hp⟩
   ·
    refine FW.condT k161 c162 ?_
    refine FW.seq (FW.region ?_)
    refine FL.v (E.assign (v := Value.bool false) rfl) ?_
    refine FL.nil ?_
    refine FW.ret ?_
    obtain rfl := Option.some.inj hp
    exact ⟨nofun, rfl, ⟨.inr rfl, res1 rfl rfl ⟨rfl, S137.back⟩⟩⟩
   ·
    refine FW.condF k161 c162 ?_
    refine FW.skip (FW.region ?_)
    refine FL.v (E.move k160) ?_
    refine FL.v (E.add rfl rfl) ?_
    refine FL.v (E.assign (v := Value.int .i64 (wr (((i26 : Nat) : Int) + 1))) rfl) ?_
    refine FL.nil ?_
    obtain rfl := Option.some.inj hp
    exact ⟨rfl, ⟨_, S137, ((i97.tr i109).tr i138), (nat_succ rfl hj26 (chk_le hchk26)), k159⟩⟩
  ·
   clear hp hq
   rintro s26 f173 w172 ⟨H169, S170, i171, k174, k175⟩
   refine FW.seq (FW.seq (FW.region ?_))
   refine FL.v (E.move k174) ?_
   refine FL.v (E.move k175) ?_
   refine FL.v (E.lenS Tryz.runUnderlying9 rfl) ?_
   refine FL.v (E.lss rfl rfl) ?_
   refine FL.nil ?_
   refine FW.condF rfl (dlt_maxchk hchk26) ?_
   refine FW.exit ?_
   exact ⟨nofun, rfl, ⟨_, S170, i171⟩⟩
  ·
   clear hq
   intro e f168 w167 hD
   rcases q26 with s26 | x26
   ·
    obtain ⟨rfl, hD⟩ := hD
    obtain ⟨H164, S165, i166⟩ := hD
    replace hp := el_go hp
    refine FW.seq (FW.region ?_)
    refine FL.v (E.assign (v := Value.bool true) rfl) ?_
    refine FL.nil ?_
    refine FW.ret ?_
    obtain rfl := Option.some.inj hp
    exact ⟨.inr rfl, res1 rfl rfl ⟨rfl, S165.back⟩⟩
   ·
    obtain ⟨he, hL⟩ := hD
    replace hp := el_rt hp
    obtain rfl := Option.some.inj hp
    subst he
    exact hL

theorem w_spec_l31System {Ha : GH} {wa : World} (hs : Sl Ha wa) (a0 : Int) :
  Calls Tryz.prog 52 #[Value.int .i64 a0] wa (Sc Ha wa (Value.bool (PF.spec_l31System a0))) := by
 obtain ⟨r, hp⟩ : ∃ r, (PF.spec_l31System a0) = r := ⟨_, rfl⟩
 rw [hp]
 unfold PF.spec_l31System at hp
 have S0 := St.init hs
 refine calls_go (N := 5) (args := [Value.int .i64 a0]) Tryz.func52 rfl rfl rfl ?_
 refine FW.seq (FW.region ?_)
 refine FL.v (E.assign (v := Value.bool false) rfl) ?_
 refine FL.nil (FW.seq (FW.region ?_))
 refine FL.v (E.move (v := Value.int .i64 a0) rfl) ?_
 refine FL.call rfl rfl rfl (E.call Tryz.call53 (A3 rfl rfl rfl)) (w_spec_l1In S0.sl a0 1 4) ?_
 rintro e w21 ⟨rfl, r22⟩
 refine ⟨_, rfl, ?_⟩
 have S23 := S0.call r22
 refine FL.v (E.assign (v := Value.bool (PF.spec_l1In a0 1 4)) rfl) ?_
 refine FL.nil ?_
 refine FW.ret ?_
 obtain rfl := hp
 exact ⟨.inr rfl, res1 rfl rfl ⟨rfl, S23.back⟩⟩

theorem w_spec_l31Before {Ha : GH} {wa : World} (hs : Sl Ha wa) (a0 : Record) (a1 : ByteArray) (a2 : Int) :
  Calls Tryz.prog 43 #[Value.agg #[Value.string a0.name, Value.int .i64 a0.system, Value.int .i64 a0.size, Value.int .i64 a0.extra], Value.string a1, Value.int .i64 a2] wa (Sc Ha wa (Value.bool (PF.spec_l31Before a0 a1 a2))) := by
 obtain ⟨r, hp⟩ : ∃ r, (PF.spec_l31Before a0 a1 a2) = r := ⟨_, rfl⟩
 rw [hp]
 unfold PF.spec_l31Before at hp
 have S0 := St.init hs
 refine calls_go (N := 23) (args := [Value.agg #[Value.string a0.name, Value.int .i64 a0.system, Value.int .i64 a0.size, Value.int .i64 a0.extra], Value.string a1, Value.int .i64 a2]) Tryz.func43 rfl rfl rfl ?_
 refine FW.seq (FW.region ?_)
 obtain ⟨b21, w22, run23, S24⟩ := S0.box (P := Tryz.prog) 57 [Value.string a0.name, Value.int .i64 a0.system, Value.int .i64 a0.size, Value.int .i64 a0.extra] (v := Value.agg #[Value.string a0.name, Value.int .i64 a0.system, Value.int .i64 a0.size, Value.int .i64 a0.extra]) rfl (ones_cons rfl (ones_cons rfl (ones_cons rfl (ones_cons rfl ones_nil))))
 refine FL.v (E.box rfl run23) ?_
 obtain ⟨H25, S26, i27, at28⟩ := S24.sealBox (i := 0) (l' := []) rfl rfl
 refine FL.v (E.assign (v := Value.bool false) rfl) ?_
 refine FL.nil (FW.seq (FW.region ?_))
 refine FL.v (E.fieldAddr tf57_0 rfl) ?_
 refine FL.v (E.load rfl (run_load1 Tryz.isAgg9 (at28.now S26.sl) rfl)) ?_
 refine FL.v (E.move (v := Value.string a1) rfl) ?_
 refine FL.v (E.lssS rfl rfl) ?_
 refine FL.v (E.move (v := Value.bool (ltS a0.name a1)) rfl) ?_
 refine FL.cut 11 (fun f w => ∃ H : GH, St Ha wa H w [] ∧ Inc H25 H ∧ f 22 = Value.bool (bif (ltS a0.name a1) then true else (bif (a0.name.toList == a1.toList) then (decide (a0.system < a2)) else false))) ?_ ?_
 ·
  rcases bcase (ltS a0.name a1) with c45 | c45
  ·
   refine FL.skip (wF_no rfl rfl rfl c45) rfl ?_
   refine FL.skip (wF_no rfl rfl rfl c45) rfl ?_
   refine FL.skip (wF_no rfl rfl rfl c45) rfl ?_
   refine FL.skip (wF_no rfl rfl rfl c45) rfl ?_
   refine FL.skip (wF_no rfl rfl rfl c45) rfl ?_
   refine FL.skip (wF_undef rfl rfl rfl) rfl ?_
   refine FL.skip (wF_undef rfl rfl rfl) rfl ?_
   refine FL.skip (wF_undef rfl rfl rfl) rfl ?_
   refine FL.skip (wF_undef rfl rfl rfl) rfl ?_
   refine FL.skip (wF_no rfl rfl rfl c45) rfl ?_
   refine FL.v (E.pickT rfl c45 rfl) ?_
   exact FL.nil ⟨rfl, _, S26, (Inc.rfl _), (congrArg Value.bool (bifT c45).symm)⟩
  ·
   refine FL.val (wF_yes rfl rfl rfl c45) rfl rfl (E.fieldAddr tf57_0 rfl) ?_
   refine FL.val (wF_yes rfl rfl rfl c45) rfl rfl (E.load rfl (run_load1 Tryz.isAgg9 (at28.now S26.sl) rfl)) ?_
   refine FL.val (wF_yes rfl rfl rfl c45) rfl rfl (E.move (v := Value.string a1) rfl) ?_
   refine FL.val (wF_yes rfl rfl rfl c45) rfl rfl (E.eqlS rfl rfl) ?_
   refine FL.val (wF_yes rfl rfl rfl c45) rfl rfl (E.move (v := Value.bool (a0.name.toList == a1.toList)) rfl) ?_
   refine FL.cut 5 (fun f w => ∃ H : GH, St Ha wa H w [] ∧ Inc H25 H ∧ f 6 = Value.bool false ∧ f 11 = Value.bool (ltS a0.name a1) ∧ f 21 = Value.bool (bif (a0.name.toList == a1.toList) then (decide (a0.system < a2)) else false)) ?_ ?_
   ·
    rcases bcase (a0.name.toList == a1.toList) with c52 | c52
    ·
     refine FL.val (wF_yes rfl rfl rfl c52) rfl rfl (E.fieldAddr tf57_1 rfl) ?_
     refine FL.val (wF_yes rfl rfl rfl c52) rfl rfl (E.load rfl (run_load1 Tryz.isAgg3 (at28.now S26.sl) rfl)) ?_
     refine FL.val (wF_yes rfl rfl rfl c52) rfl rfl (E.move (v := Value.int .i64 a2) rfl) ?_
     refine FL.val (wF_yes rfl rfl rfl c52) rfl rfl (E.lss rfl rfl) ?_
     refine FL.val (wF_yes rfl rfl rfl c45) rfl rfl (E.pickT rfl c52 rfl) ?_
     exact FL.nil ⟨rfl, _, S26, (Inc.rfl _), rfl, rfl, (congrArg Value.bool (bifT c52).symm)⟩
    ·
     refine FL.skip (wF_no rfl rfl rfl c52) rfl ?_
     refine FL.skip (wF_no rfl rfl rfl c52) rfl ?_
     refine FL.skip (wF_no rfl rfl rfl c52) rfl ?_
     refine FL.skip (wF_no rfl rfl rfl c52) rfl ?_
     refine FL.val (wF_yes rfl rfl rfl c45) rfl rfl (E.pickF rfl c52 rfl) ?_
     exact FL.nil ⟨rfl, _, S26, (Inc.rfl _), rfl, rfl, (congrArg Value.bool (bifF c52).symm)⟩
   rintro f51 w50 ⟨H47, S48, i49, k53, k54, k55⟩
   refine FL.v (E.pickF k54 c45 k55) ?_
   exact FL.nil ⟨rfl, _, S48, i49, (congrArg Value.bool (bifF c45).symm)⟩
 rintro f44 w43 ⟨H40, S41, i42, k56⟩
 refine FL.v (E.assign k56) ?_
 refine FL.nil ?_
 refine FW.ret ?_
 obtain rfl := hp
 exact ⟨.inr rfl, res1 rfl rfl ⟨rfl, S41.back⟩⟩

set_option maxHeartbeats 4000000 in
theorem w_spec_l31Good {Ha : GH} {wa : World} (hs : Sl Ha wa) (v0 : Value) (a0 : List Record) (p0 : RSl Ha eRecord 4 v0 a0) {r : Bool} (hp : (PF.spec_l31Good a0) = some r) :
  Calls Tryz.prog 39 #[v0] wa (Sc Ha wa (Value.bool r)) := by
 unfold PF.spec_l31Good at hp
 have S0 := St.init hs
 refine calls_go (N := 55) (args := [v0]) Tryz.func39 rfl rfl rfl ?_
 refine FW.seq (FW.region ?_)
 refine FL.v (E.assign (v := Value.bool false) rfl) ?_
 refine FL.nil (FW.seq (FW.seq (FW.region ?_)))
 refine FL.v (E.move (v := v0) rfl) ?_
 refine FL.v (E.lenP te30 rfl p0) ?_
 refine FL.v (E.gtr rfl rfl) ?_
 refine FL.nil ?_
 rcases ifB hp with ⟨c21, hp⟩ | ⟨c21, hp⟩
 ·
  refine FW.condT rfl c21 ?_
  refine FW.seq (FW.region ?_)
  refine FL.v (E.assign (v := Value.bool false) rfl) ?_
  refine FL.nil ?_
  refine FW.ret ?_
  obtain rfl := Option.some.inj hp
  exact ⟨.inr rfl, res1 rfl rfl ⟨rfl, S0.back⟩⟩
 ·
  refine FW.condF rfl c21 ?_
  refine FW.skip (FW.seq (FW.seq (FW.region ?_)))
  refine FL.v (E.assign (v := Value.int .i64 0) rfl) ?_
  refine FL.nil ?_
  obtain ⟨q23, hq, hp⟩ := bndR hp
  refine FW.block ?_
  refine FW.mono (FW.forL (S := Unit) (X := Bool) (fun (i23 : Nat) (s23 : Unit) f w => ∃ H : GH, St Ha wa H w [] ∧ Inc Ha H ∧ f 3 = Value.int .i64 ((i23 : Nat) : Int) ∧ f 0 = v0) (fun q e f w => match q with | .go s23 => e = Exit.exit 0 ∧ (∃ H : GH, St Ha wa H w [] ∧ Inc Ha H) | .rt x => ((e = Exit.ret) ∧ (fun e f w => (e = Exit.normal ∨ e = Exit.ret) ∧ ∀ a, Fr (δ := []) 55 a f → ∃ v, (results Tryz.f39 a.tmps).run Tryz.prog w = .ok v w ∧ (Sc Ha wa (Value.bool x)) (.returned v) w) e f w)) hq ⟨_, S0, (Inc.rfl _), rfl, rfl⟩ ?_ ?_) ?_
  ·
   clear hp hq
   rintro i23 y22 s23 f140 w139 ⟨H136, S137, i138, k141, k142⟩ hx23 o248 hp
   refine FW.seq (FW.seq (FW.region ?_))
   refine FL.v (E.move k141) ?_
   refine FL.v (E.move k142) ?_
   refine FL.v (E.lenP te30 rfl p0) ?_
   refine FL.v (E.lssT rfl rfl (lss_len hx23)) ?_
   refine FL.nil ?_
   refine FW.condT rfl rfl ?_
   refine FW.skip (FW.seq (FW.block (FW.seq (FW.region ?_))))
   refine FL.v (E.move k142) ?_
   refine FL.v (E.move k141) ?_
   obtain ⟨p143, cs144, pt145, l146, at147, rel148⟩ := p0.at (ix_nat hx23)
   obtain rfl := eRecord_open rel148
   refine FL.v (E.indexAddr te30 rfl rfl pt145) ?_
   refine FL.v (E.load rfl (run_loadA Tryz.isAgg57 Tryz.sizeOf57 ((at147.mono i138).now S137.sl) rfl)) ?_
   obtain ⟨b149, w150, run151, S152⟩ := S137.alloc (P := Tryz.prog) 57 [Value.string ByteArray.empty, Value.int .i64 0, Value.int .i64 0, Value.int .i64 0] Tryz.zeroValue57 rfl (ones_cons rfl (ones_cons rfl (ones_cons rfl (ones_cons rfl ones_nil))))
   refine FL.v (E.alloc run151) ?_
   obtain ⟨w153, run154, S155⟩ := S152.store0 (P := Tryz.prog) (t := 57) (i := 0) (cs' := [Value.string y22.name, Value.int .i64 y22.system, Value.int .i64 y22.size, Value.int .i64 y22.extra]) (l' := [.box b149 57 [Value.string y22.name, Value.int .i64 y22.system, Value.int .i64 y22.size, Value.int .i64 y22.extra]]) (v := Value.agg #[Value.string y22.name, Value.int .i64 y22.system, Value.int .i64 y22.size, Value.int .i64 y22.extra]) (c := [Value.string y22.name, Value.int .i64 y22.system, Value.int .i64 y22.size, Value.int .i64 y22.extra]) rfl Tryz.sizeOf57 rfl rfl (ones_cons rfl (ones_cons rfl (ones_cons rfl (ones_cons rfl ones_nil)))) (Nat.le_of_ble_eq_true rfl) rfl rfl
   refine FL.act rfl rfl (E.store rfl rfl run154) ?_
   obtain ⟨H156, S157, i158, at159⟩ := S155.sealBox (i := 0) (l' := []) rfl rfl
   refine FL.nil (FW.seq (FW.seq (FW.region ?_)))
   refine FL.v (E.fieldAddr tf57_0 rfl) ?_
   refine FL.v (E.load rfl (run_load1 Tryz.isAgg9 (at159.now S157.sl) rfl)) ?_
   obtain ⟨r160, hr161, hp⟩ := bnd hp
   refine FL.call rfl rfl rfl (E.call Tryz.call40 (A1 rfl)) (w_spec_l31Name S157.sl y22.name hr161) ?_
   rintro e w162 ⟨rfl, r163⟩
   refine ⟨_, rfl, ?_⟩
   have S164 := S157.call r163
   refine FL.v (E.not rfl) ?_
   refine FL.v (E.move (v := Value.bool (!r160)) rfl) ?_
   refine FL.cut 5 (fun f w => ∃ H : GH, St Ha wa H w [] ∧ Inc H156 H ∧ f 0 = v0 ∧ f 3 = Value.int .i64 ((i23 : Nat) : Int) ∧ f 4 = Value.pointer (some ⟨b149, 0, none⟩) ∧ f 27 = Value.bool (bif (!r160) then true else (!(PF.spec_l31System y22.system)))) ?_ ?_
   ·
    rcases bcase (!r160) with c174 | c174
    ·
     refine FL.skip (wF_no rfl rfl rfl c174) rfl ?_
     refine FL.skip (wF_no rfl rfl rfl c174) rfl ?_
     refine FL.skip (wF_no rfl rfl rfl c174) rfl ?_
     refine FL.skip (wF_no rfl rfl rfl c174) rfl ?_
     refine FL.v (E.pickT rfl c174 rfl) ?_
     exact FL.nil ⟨rfl, _, S164, (Inc.rfl _), k142, k141, rfl, (congrArg Value.bool (bifT c174).symm)⟩
    ·
     refine FL.val (wF_yes rfl rfl rfl c174) rfl rfl (E.fieldAddr tf57_1 rfl) ?_
     refine FL.val (wF_yes rfl rfl rfl c174) rfl rfl (E.load rfl (run_load1 Tryz.isAgg3 (at159.now S164.sl) rfl)) ?_
     refine FL.call (wF_yes rfl rfl rfl c174) rfl rfl (E.call Tryz.call52 (A1 rfl)) (w_spec_l31System S164.sl y22.system) ?_
     rintro e w175 ⟨rfl, r176⟩
     refine ⟨_, rfl, ?_⟩
     have S177 := S164.call r176
     refine FL.val (wF_yes rfl rfl rfl c174) rfl rfl (E.not rfl) ?_
     refine FL.v (E.pickF rfl c174 rfl) ?_
     exact FL.nil ⟨rfl, _, S177, (Inc.rfl _), k142, k141, rfl, (congrArg Value.bool (bifF c174).symm)⟩
   rintro f173 w172 ⟨H169, S170, i171, k178, k179, k180, k181⟩
   refine FL.v (E.move k181) ?_
   refine FL.cut 5 (fun f w => ∃ H : GH, St Ha wa H w [] ∧ Inc H169 H ∧ f 0 = v0 ∧ f 3 = Value.int .i64 ((i23 : Nat) : Int) ∧ f 4 = Value.pointer (some ⟨b149, 0, none⟩) ∧ f 33 = Value.bool (bif (bif (!r160) then true else (!(PF.spec_l31System y22.system))) then true else (!(PF.spec_l1In y22.size 1 9999)))) ?_ ?_
   ·
    rcases bcase (bif (!r160) then true else (!(PF.spec_l31System y22.system))) with c191 | c191
    ·
     refine FL.skip (wF_no rfl rfl rfl c191) rfl ?_
     refine FL.skip (wF_no rfl rfl rfl c191) rfl ?_
     refine FL.skip (wF_no rfl rfl rfl c191) rfl ?_
     refine FL.skip (wF_no rfl rfl rfl c191) rfl ?_
     refine FL.v (E.pickT rfl c191 rfl) ?_
     exact FL.nil ⟨rfl, _, S170, (Inc.rfl _), k178, k179, k180, (congrArg Value.bool (bifT c191).symm)⟩
    ·
     refine FL.val (wF_yes rfl rfl rfl c191) rfl rfl (E.fieldAddr tf57_2 k180) ?_
     refine FL.val (wF_yes rfl rfl rfl c191) rfl rfl (E.load rfl (run_load1 Tryz.isAgg3 ((at159.mono i171).now S170.sl) rfl)) ?_
     refine FL.call (wF_yes rfl rfl rfl c191) rfl rfl (E.call Tryz.call53 (A3 rfl rfl rfl)) (w_spec_l1In S170.sl y22.size 1 9999) ?_
     rintro e w192 ⟨rfl, r193⟩
     refine ⟨_, rfl, ?_⟩
     have S194 := S170.call r193
     refine FL.val (wF_yes rfl rfl rfl c191) rfl rfl (E.not rfl) ?_
     refine FL.v (E.pickF rfl c191 rfl) ?_
     exact FL.nil ⟨rfl, _, S194, (Inc.rfl _), k178, k179, k180, (congrArg Value.bool (bifF c191).symm)⟩
   rintro f190 w189 ⟨H186, S187, i188, k195, k196, k197, k198⟩
   refine FL.v (E.move k198) ?_
   refine FL.cut 5 (fun f w => ∃ H : GH, St Ha wa H w [] ∧ Inc H186 H ∧ f 0 = v0 ∧ f 3 = Value.int .i64 ((i23 : Nat) : Int) ∧ f 4 = Value.pointer (some ⟨b149, 0, none⟩) ∧ f 39 = Value.bool (bif (bif (bif (!r160) then true else (!(PF.spec_l31System y22.system))) then true else (!(PF.spec_l1In y22.size 1 9999))) then true else (!(PF.spec_l1In y22.extra 0 9999)))) ?_ ?_
   ·
    rcases bcase (bif (bif (!r160) then true else (!(PF.spec_l31System y22.system))) then true else (!(PF.spec_l1In y22.size 1 9999))) with c208 | c208
    ·
     refine FL.skip (wF_no rfl rfl rfl c208) rfl ?_
     refine FL.skip (wF_no rfl rfl rfl c208) rfl ?_
     refine FL.skip (wF_no rfl rfl rfl c208) rfl ?_
     refine FL.skip (wF_no rfl rfl rfl c208) rfl ?_
     refine FL.v (E.pickT rfl c208 rfl) ?_
     exact FL.nil ⟨rfl, _, S187, (Inc.rfl _), k195, k196, k197, (congrArg Value.bool (bifT c208).symm)⟩
    ·
     refine FL.val (wF_yes rfl rfl rfl c208) rfl rfl (E.fieldAddr tf57_3 k197) ?_
     refine FL.val (wF_yes rfl rfl rfl c208) rfl rfl (E.load rfl (run_load1 Tryz.isAgg3 ((at159.mono (i171.tr i188)).now S187.sl) rfl)) ?_
     refine FL.call (wF_yes rfl rfl rfl c208) rfl rfl (E.call Tryz.call53 (A3 rfl rfl rfl)) (w_spec_l1In S187.sl y22.extra 0 9999) ?_
     rintro e w209 ⟨rfl, r210⟩
     refine ⟨_, rfl, ?_⟩
     have S211 := S187.call r210
     refine FL.val (wF_yes rfl rfl rfl c208) rfl rfl (E.not rfl) ?_
     refine FL.v (E.pickF rfl c208 rfl) ?_
     exact FL.nil ⟨rfl, _, S211, (Inc.rfl _), k195, k196, k197, (congrArg Value.bool (bifF c208).symm)⟩
   rintro f207 w206 ⟨H203, S204, i205, k212, k213, k214, k215⟩
   refine FL.nil ?_
   rcases ifB hp with ⟨c216, hp⟩ | ⟨c216, hp⟩
   ·
    refine FW.condT k215 c216 ?_
    refine FW.seq (FW.region ?_)
    refine FL.v (E.assign (v := Value.bool false) rfl) ?_
    refine FL.nil ?_
    refine FW.ret ?_
    obtain rfl := Option.some.inj hp
    exact ⟨nofun, rfl, ⟨.inr rfl, res1 rfl rfl ⟨rfl, S204.back⟩⟩⟩
   ·
    refine FW.condF k215 c216 ?_
    refine FW.skip (FW.seq ?_)
    refine FW.draw (fun w' => Run w206.heap.size H203 w206 H203 w') (by kernel_rfl) (by kernel_rfl) (run_drew S204.sl) ?_
    refine FD.val rfl rfl rfl (fun w' hw' => (E.move k213)) ?_
    refine FD.val rfl rfl rfl (fun w' hw' => (E.gtr rfl rfl)) ?_
    refine FD.val rfl rfl rfl (fun w' hw' => (E.move (v := Value.bool (decide (0 < ((i23 : Nat) : Int)))) rfl)) ?_
    obtain ⟨t226, hqt226, hp⟩ := bnd hp
    refine FD.cut 12 (fun f => f 0 = v0 ∧ f 3 = Value.int .i64 ((i23 : Nat) : Int) ∧ f 54 = Value.bool t226) ?_ ?_
    ·
     clear hp; have hp := hqt226; clear hqt226
     rcases ifB hp with ⟨c232, hp⟩ | ⟨c232, hp⟩
     ·
      refine FD.val (wF_yes rfl rfl rfl c232) rfl rfl (fun w' hw' => (E.move k212)) ?_
      refine FD.val (wF_yes rfl rfl rfl c232) rfl rfl (fun w' hw' => (E.move k213)) ?_
      refine FD.val (wF_yes rfl rfl rfl c232) rfl rfl (fun w' hw' => (E.sub rfl rfl)) ?_
      obtain ⟨x239, hx240, hp⟩ := bnd hp
      obtain ⟨p233, cs234, pt235, l236, at237, rel238⟩ := p0.at hx240
      obtain rfl := eRecord_open rel238
      refine FD.val (wF_yes rfl rfl rfl c232) rfl rfl (fun w' hw' => (E.indexAddr te30 rfl rfl pt235)) ?_
      refine FD.val (wF_yes rfl rfl rfl c232) rfl rfl (fun w' hw' => (E.load rfl (run_loadA Tryz.isAgg57 Tryz.sizeOf57 ((at237.mono ((((i138.tr i158).tr i171).tr i188).tr i205)).now (S204.call hw').sl) rfl))) ?_
      refine FD.val (wF_yes rfl rfl rfl c232) rfl rfl (fun w' hw' => (E.fieldAddr tf57_0 k214)) ?_
      refine FD.val (wF_yes rfl rfl rfl c232) rfl rfl (fun w' hw' => (E.load rfl (run_load1 Tryz.isAgg9 ((at159.mono ((i171.tr i188).tr i205)).now (S204.call hw').sl) rfl))) ?_
      refine FD.val (wF_yes rfl rfl rfl c232) rfl rfl (fun w' hw' => (E.fieldAddr tf57_1 k214)) ?_
      refine FD.val (wF_yes rfl rfl rfl c232) rfl rfl (fun w' hw' => (E.load rfl (run_load1 Tryz.isAgg3 ((at159.mono ((i171.tr i188).tr i205)).now (S204.call hw').sl) rfl))) ?_
      refine FD.call (wF_yes rfl rfl rfl c232) rfl rfl (fun w' hw' => (E.call Tryz.call43 (A3 rfl rfl rfl))) (fun w' hw' => Calls.cls hw' (w_spec_l31Before (S204.call hw').sl x239 y22.name y22.system)) ?_
      refine FD.val (wF_yes rfl rfl rfl c232) rfl rfl (fun w' hw' => (E.not rfl)) ?_
      obtain rfl := Option.some.inj hp
      refine FD.val rfl rfl rfl (fun w' hw' => (E.pickT rfl c232 rfl)) ?_
      exact FD.nil ⟨k212, k213, rfl⟩
     ·
      refine FD.skip (wF_no rfl rfl rfl c232) rfl ?_
      refine FD.skip (wF_no rfl rfl rfl c232) rfl ?_
      refine FD.skip (wF_no rfl rfl rfl c232) rfl ?_
      refine FD.skip (wF_no rfl rfl rfl c232) rfl ?_
      refine FD.skip (wF_no rfl rfl rfl c232) rfl ?_
      refine FD.skip (wF_no rfl rfl rfl c232) rfl ?_
      refine FD.skip (wF_no rfl rfl rfl c232) rfl ?_
      refine FD.skip (wF_no rfl rfl rfl c232) rfl ?_
      refine FD.skip (wF_no rfl rfl rfl c232) rfl ?_
      refine FD.skip (wF_no rfl rfl rfl c232) rfl ?_
      refine FD.skip (wF_no rfl rfl rfl c232) rfl ?_
      obtain rfl := Option.some.inj hp
      refine FD.val rfl rfl rfl (fun w' hw' => (E.pickF rfl c232 rfl)) ?_
      exact FD.nil ⟨k212, k213, rfl⟩
    rintro f231 ⟨k241, k242, k243⟩
    refine FD.nil ?_
    intro w244 r246
    have S245 := S204.call r246
    rcases ifB hp with ⟨c247, hp⟩ | ⟨c247, hp⟩
    ·
     refine FW.condT k243 c247 ?_
     refine FW.seq (FW.region ?_)
     refine FL.v (E.assign (v := Value.bool false) rfl) ?_
     refine FL.nil ?_
     refine FW.ret ?_
     obtain rfl := Option.some.inj hp
     exact ⟨nofun, rfl, ⟨.inr rfl, res1 rfl rfl ⟨rfl, S245.back⟩⟩⟩
    ·
     refine FW.condF k243 c247 ?_
     refine FW.skip (FW.region ?_)
     refine FL.v (E.move k242) ?_
     refine FL.v (E.add rfl rfl) ?_
     refine FL.v (E.assign (v := Value.int .i64 (wr (((i23 : Nat) : Int) + 1))) rfl) ?_
     refine FL.nil ?_
     obtain rfl := Option.some.inj hp
     exact ⟨rfl, ⟨_, S245, ((((i138.tr i158).tr i171).tr i188).tr i205), (nat_succ rfl (lt_of_get hx23) (p0.mono ((((i138.tr i158).tr i171).tr i188).tr i205)).le), k241⟩⟩
  ·
   clear hp hq
   rintro s23 f258 w257 ⟨H254, S255, i256, k259, k260⟩
   refine FW.seq (FW.seq (FW.region ?_))
   refine FL.v (E.move k259) ?_
   refine FL.v (E.move k260) ?_
   refine FL.v (E.lenP te30 rfl p0) ?_
   refine FL.v (E.lss rfl rfl) ?_
   refine FL.nil ?_
   refine FW.condF rfl dlt_len ?_
   refine FW.exit ?_
   exact ⟨nofun, rfl, ⟨_, S255, i256⟩⟩
  ·
   clear hq
   intro e f253 w252 hD
   rcases q23 with s23 | x23
   ·
    obtain ⟨rfl, hD⟩ := hD
    obtain ⟨H249, S250, i251⟩ := hD
    replace hp := el_go hp
    refine FW.seq (FW.region ?_)
    refine FL.v (E.assign (v := Value.bool true) rfl) ?_
    refine FL.nil ?_
    refine FW.ret ?_
    obtain rfl := Option.some.inj hp
    exact ⟨.inr rfl, res1 rfl rfl ⟨rfl, S250.back⟩⟩
   ·
    obtain ⟨he, hL⟩ := hD
    replace hp := el_rt hp
    obtain rfl := Option.some.inj hp
    subst he
    exact hL

theorem w_spec_l31Takes {Ha : GH} {wa : World} (hs : Sl Ha wa) (v0 : Value) (a0 : List Record) (p0 : RSl Ha eRecord 4 v0 a0) (a1 : ByteArray) {r : Bool} (hp : (PF.spec_l31Takes a0 a1) = some r) :
  Calls Tryz.prog 22 #[v0, Value.string a1] wa (Sc Ha wa (Value.bool r)) := by
 unfold PF.spec_l31Takes at hp
 have S0 := St.init hs
 refine calls_go (N := 11) (args := [v0, Value.string a1]) Tryz.func22 rfl rfl rfl ?_
 refine FW.seq (FW.region ?_)
 refine FL.v (E.assign (v := Value.bool false) rfl) ?_
 refine FL.nil (FW.seq (FW.region ?_))
 refine FL.v (E.move (v := v0) rfl) ?_
 obtain ⟨r21, hr22, hp⟩ := bnd hp
 refine FL.call rfl rfl rfl (E.call Tryz.call39 (A1 rfl)) (w_spec_l31Good S0.sl v0 a0 p0 hr22) ?_
 rintro e w23 ⟨rfl, r24⟩
 refine ⟨_, rfl, ?_⟩
 have S25 := S0.call r24
 refine FL.v (E.move (v := Value.bool r21) rfl) ?_
 obtain ⟨t31, hqt31, hp⟩ := bnd hp
 refine FL.cut 3 (fun f w => ∃ H : GH, St Ha wa H w [] ∧ Inc Ha H ∧ f 10 = Value.bool t31) ?_ ?_
 ·
  clear hp; have hp := hqt31; clear hqt31
  rcases ifB hp with ⟨c37, hp⟩ | ⟨c37, hp⟩
  ·
   refine FL.val (wF_yes rfl rfl rfl c37) rfl rfl (E.move (v := Value.string a1) rfl) ?_
   obtain ⟨r38, hr39, hp⟩ := bnd hp
   refine FL.call (wF_yes rfl rfl rfl c37) rfl rfl (E.call Tryz.call40 (A1 rfl)) (w_spec_l31Name S25.sl a1 hr39) ?_
   rintro e w40 ⟨rfl, r41⟩
   refine ⟨_, rfl, ?_⟩
   have S42 := S25.call r41
   obtain rfl := Option.some.inj hp
   refine FL.v (E.pickT rfl c37 rfl) ?_
   exact FL.nil ⟨rfl, _, S42, (Inc.rfl _), rfl⟩
  ·
   refine FL.skip (wF_no rfl rfl rfl c37) rfl ?_
   refine FL.skip (wF_no rfl rfl rfl c37) rfl ?_
   obtain rfl := Option.some.inj hp
   refine FL.v (E.pickF rfl c37 rfl) ?_
   exact FL.nil ⟨rfl, _, S25, (Inc.rfl _), rfl⟩
 rintro f36 w35 ⟨H32, S33, i34, k43⟩
 refine FL.v (E.assign k43) ?_
 refine FL.nil ?_
 refine FW.ret ?_
 obtain rfl := Option.some.inj hp
 exact ⟨.inr rfl, res1 rfl rfl ⟨rfl, S33.back⟩⟩

theorem w_spec_l2Vars {Ha : GH} {wa : World} (hs : Sl Ha wa) (a0 : Int) :
  Calls Tryz.prog 78 #[Value.int .i64 a0] wa (Sc Ha wa (Value.bool (PF.spec_l2Vars a0))) := by
 obtain ⟨r, hp⟩ : ∃ r, (PF.spec_l2Vars a0) = r := ⟨_, rfl⟩
 rw [hp]
 unfold PF.spec_l2Vars at hp
 have S0 := St.init hs
 refine calls_go (N := 5) (args := [Value.int .i64 a0]) Tryz.func78 rfl rfl rfl ?_
 refine FW.seq (FW.region ?_)
 refine FL.v (E.assign (v := Value.bool false) rfl) ?_
 refine FL.nil (FW.seq (FW.region ?_))
 refine FL.v (E.move (v := Value.int .i64 a0) rfl) ?_
 refine FL.call rfl rfl rfl (E.call Tryz.call53 (A3 rfl rfl rfl)) (w_spec_l1In S0.sl a0 0 12) ?_
 rintro e w21 ⟨rfl, r22⟩
 refine ⟨_, rfl, ?_⟩
 have S23 := S0.call r22
 refine FL.v (E.assign (v := Value.bool (PF.spec_l1In a0 0 12)) rfl) ?_
 refine FL.nil ?_
 refine FW.ret ?_
 obtain rfl := hp
 exact ⟨.inr rfl, res1 rfl rfl ⟨rfl, S23.back⟩⟩

theorem w_spec_l2Lit {Ha : GH} {wa : World} (hs : Sl Ha wa) (a0 : Int) (a1 : Int) :
  Calls Tryz.prog 94 #[Value.int .i64 a0, Value.int .i64 a1] wa (Sc Ha wa (Value.bool (PF.spec_l2Lit a0 a1))) := by
 obtain ⟨r, hp⟩ : ∃ r, (PF.spec_l2Lit a0 a1) = r := ⟨_, rfl⟩
 rw [hp]
 unfold PF.spec_l2Lit at hp
 have S0 := St.init hs
 refine calls_go (N := 14) (args := [Value.int .i64 a0, Value.int .i64 a1]) Tryz.func94 rfl rfl rfl ?_
 refine FW.seq (FW.region ?_)
 refine FL.v (E.assign (v := Value.bool false) rfl) ?_
 refine FL.nil (FW.seq (FW.region ?_))
 refine FL.v (E.move (v := Value.int .i64 a1) rfl) ?_
 refine FL.v (E.move (v := Value.int .i64 a0) rfl) ?_
 refine FL.v (E.neg rfl) ?_
 refine FL.v (E.move (v := Value.int .i64 a0) rfl) ?_
 refine FL.call rfl rfl rfl (E.call Tryz.call53 (A3 rfl rfl rfl)) (w_spec_l1In S0.sl a1 (wr (-a0)) a0) ?_
 rintro e w21 ⟨rfl, r22⟩
 refine ⟨_, rfl, ?_⟩
 have S23 := S0.call r22
 refine FL.v (E.move (v := Value.bool (PF.spec_l1In a1 (wr (-a0)) a0)) rfl) ?_
 refine FL.cut 3 (fun f w => ∃ H : GH, St Ha wa H w [] ∧ Inc Ha H ∧ f 13 = Value.bool (bif (PF.spec_l1In a1 (wr (-a0)) a0) then (!(a1 == 0)) else false)) ?_ ?_
 ·
  rcases bcase (PF.spec_l1In a1 (wr (-a0)) a0) with c30 | c30
  ·
   refine FL.val (wF_yes rfl rfl rfl c30) rfl rfl (E.move (v := Value.int .i64 a1) rfl) ?_
   refine FL.val (wF_yes rfl rfl rfl c30) rfl rfl (E.neq rfl rfl) ?_
   refine FL.v (E.pickT rfl c30 rfl) ?_
   exact FL.nil ⟨rfl, _, S23, (Inc.rfl _), (congrArg Value.bool (bifT c30).symm)⟩
  ·
   refine FL.skip (wF_no rfl rfl rfl c30) rfl ?_
   refine FL.skip (wF_no rfl rfl rfl c30) rfl ?_
   refine FL.v (E.pickF rfl c30 rfl) ?_
   exact FL.nil ⟨rfl, _, S23, (Inc.rfl _), (congrArg Value.bool (bifF c30).symm)⟩
 rintro f29 w28 ⟨H25, S26, i27, k31⟩
 refine FL.v (E.assign k31) ?_
 refine FL.nil ?_
 refine FW.ret ?_
 obtain rfl := hp
 exact ⟨.inr rfl, res1 rfl rfl ⟨rfl, S26.back⟩⟩

theorem w_spec_l2Var {Ha : GH} {wa : World} (hs : Sl Ha wa) (a0 : Int) :
  Calls Tryz.prog 95 #[Value.int .i64 a0] wa (Sc Ha wa (Value.int .i64 (PF.spec_l2Var a0))) := by
 obtain ⟨r, hp⟩ : ∃ r, (PF.spec_l2Var a0) = r := ⟨_, rfl⟩
 rw [hp]
 unfold PF.spec_l2Var at hp
 have S0 := St.init hs
 refine calls_go (N := 8) (args := [Value.int .i64 a0]) Tryz.func95 rfl rfl rfl ?_
 refine FW.seq (FW.region ?_)
 refine FL.v (E.assign (v := Value.int .i64 0) rfl) ?_
 refine FL.nil (FW.seq (FW.seq (FW.region ?_)))
 refine FL.v (E.move (v := Value.int .i64 a0) rfl) ?_
 refine FL.v (E.lss rfl rfl) ?_
 refine FL.nil ?_
 rcases ifT hp with ⟨c21, hp⟩ | ⟨c21, hp⟩
 ·
  refine FW.condT rfl c21 ?_
  refine FW.seq (FW.region ?_)
  refine FL.v (E.move (v := Value.int .i64 a0) rfl) ?_
  refine FL.v (E.neg rfl) ?_
  refine FL.v (E.assign (v := Value.int .i64 (wr (-a0))) rfl) ?_
  refine FL.nil ?_
  refine FW.ret ?_
  obtain rfl := hp
  exact ⟨.inr rfl, res1 rfl rfl ⟨rfl, S0.back⟩⟩
 ·
  refine FW.condF rfl c21 ?_
  refine FW.skip (FW.seq (FW.region ?_))
  refine FL.v (E.move (v := Value.int .i64 a0) rfl) ?_
  refine FL.v (E.assign (v := Value.int .i64 a0) rfl) ?_
  refine FL.nil ?_
  refine FW.ret ?_
  obtain rfl := hp
  exact ⟨.inr rfl, res1 rfl rfl ⟨rfl, S0.back⟩⟩

set_option maxHeartbeats 4000000 in
theorem w_spec_l2Clause {Ha : GH} {wa : World} (hs : Sl Ha wa) (a0 : Int) (v1 : Value) (a1 : List Int) (p1 : RSl Ha eI 1 v1 a1) {r : Bool} (hp : (PF.spec_l2Clause a0 a1) = some r) :
  Calls Tryz.prog 79 #[Value.int .i64 a0, v1] wa (Sc Ha wa (Value.bool r)) := by
 unfold PF.spec_l2Clause at hp
 have S0 := St.init hs
 refine calls_go (N := 40) (args := [Value.int .i64 a0, v1]) Tryz.func79 rfl rfl rfl ?_
 refine FW.seq (FW.region ?_)
 refine FL.v (E.assign (v := Value.bool false) rfl) ?_
 refine FL.nil (FW.seq (FW.seq (FW.region ?_)))
 refine FL.v (E.move (v := Value.int .i64 a0) rfl) ?_
 refine FL.call rfl rfl rfl (E.call Tryz.call78 (A1 rfl)) (w_spec_l2Vars S0.sl a0) ?_
 rintro e w21 ⟨rfl, r22⟩
 refine ⟨_, rfl, ?_⟩
 have S23 := S0.call r22
 refine FL.v (E.not rfl) ?_
 refine FL.nil ?_
 rcases ifB hp with ⟨c24, hp⟩ | ⟨c24, hp⟩
 ·
  refine FW.condT rfl c24 ?_
  refine FW.seq (FW.region ?_)
  refine FL.v (E.assign (v := Value.bool false) rfl) ?_
  refine FL.nil ?_
  refine FW.ret ?_
  obtain rfl := Option.some.inj hp
  exact ⟨.inr rfl, res1 rfl rfl ⟨rfl, S23.back⟩⟩
 ·
  refine FW.condF rfl c24 ?_
  refine FW.skip (FW.seq (FW.seq (FW.region ?_)))
  refine FL.v (E.assign (v := Value.int .i64 0) rfl) ?_
  refine FL.nil ?_
  obtain ⟨q26, hq, hp⟩ := bndR hp
  refine FW.block ?_
  refine FW.mono (FW.forL (S := Unit) (X := Bool) (fun (i26 : Nat) (s26 : Unit) f w => ∃ H : GH, St Ha wa H w [] ∧ Inc Ha H ∧ f 5 = Value.int .i64 ((i26 : Nat) : Int) ∧ f 0 = Value.int .i64 a0 ∧ f 1 = v1) (fun q e f w => match q with | .go s26 => e = Exit.exit 0 ∧ (∃ H : GH, St Ha wa H w [] ∧ Inc Ha H) | .rt x => ((e = Exit.ret) ∧ (fun e f w => (e = Exit.normal ∨ e = Exit.ret) ∧ ∀ a, Fr (δ := []) 40 a f → ∃ v, (results Tryz.f79 a.tmps).run Tryz.prog w = .ok v w ∧ (Sc Ha wa (Value.bool x)) (.returned v) w) e f w)) hq ⟨_, S23, (Inc.rfl _), rfl, rfl, rfl⟩ ?_ ?_) ?_
  ·
   clear hp hq
   rintro i26 y25 s26 f141 w140 ⟨H137, S138, i139, k142, k143, k144⟩ hx26 o247 hp
   refine FW.seq (FW.seq (FW.region ?_))
   refine FL.v (E.move k142) ?_
   refine FL.v (E.move k144) ?_
   refine FL.v (E.lenP te50 rfl p1) ?_
   refine FL.v (E.lssT rfl rfl (lss_len hx26)) ?_
   refine FL.nil ?_
   refine FW.condT rfl rfl ?_
   refine FW.skip (FW.seq (FW.block (FW.seq ?_)))
   refine FW.draw (fun w' => Run w140.heap.size H137 w140 H137 w') (by kernel_rfl) (by kernel_rfl) (run_drew S138.sl) ?_
   refine FD.val rfl rfl rfl (fun w' hw' => (E.move k143)) ?_
   refine FD.val rfl rfl rfl (fun w' hw' => (E.move k144)) ?_
   refine FD.val rfl rfl rfl (fun w' hw' => (E.move k142)) ?_
   obtain ⟨p146, cs147, pt148, l149, at150, rel151⟩ := p1.at (ix_nat hx26)
   obtain rfl := eI_open rel151
   refine FD.val rfl rfl rfl (fun w' hw' => (E.indexAddr te50 rfl rfl pt148)) ?_
   refine FD.val rfl rfl rfl (fun w' hw' => (E.load rfl (run_load0 Tryz.isAgg3 ((at150.mono i139).now (S138.call hw').sl) rfl))) ?_
   refine FD.call rfl rfl rfl (fun w' hw' => (E.call Tryz.call94 (A2 rfl rfl))) (fun w' hw' => Calls.cls hw' (w_spec_l2Lit (S138.call hw').sl a0 y25)) ?_
   refine FD.val rfl rfl rfl (fun w' hw' => (E.not rfl)) ?_
   refine FD.val rfl rfl rfl (fun w' hw' => (E.move (v := Value.bool (!(PF.spec_l2Lit a0 y25))) rfl)) ?_
   obtain ⟨t192, hqt192, hp⟩ := bnd hp
   refine FD.cut 17 (fun f => f 0 = Value.int .i64 a0 ∧ f 1 = v1 ∧ f 5 = Value.int .i64 ((i26 : Nat) : Int) ∧ f 39 = Value.bool t192) ?_ ?_
   ·
    clear hp; have hp := hqt192; clear hqt192
    rcases ifB hp with ⟨c198, hp⟩ | ⟨c198, hp⟩
    ·
     refine FD.skip (wF_no rfl rfl rfl c198) rfl ?_
     refine FD.skip (wF_no rfl rfl rfl c198) rfl ?_
     refine FD.skip (wF_no rfl rfl rfl c198) rfl ?_
     refine FD.skip (wF_undef rfl rfl rfl) rfl ?_
     refine FD.skip (wF_undef rfl rfl rfl) rfl ?_
     refine FD.skip (wF_undef rfl rfl rfl) rfl ?_
     refine FD.skip (wF_undef rfl rfl rfl) rfl ?_
     refine FD.skip (wF_undef rfl rfl rfl) rfl ?_
     refine FD.skip (wF_undef rfl rfl rfl) rfl ?_
     refine FD.skip (wF_undef rfl rfl rfl) rfl ?_
     refine FD.skip (wF_undef rfl rfl rfl) rfl ?_
     refine FD.skip (wF_undef rfl rfl rfl) rfl ?_
     refine FD.skip (wF_undef rfl rfl rfl) rfl ?_
     refine FD.skip (wF_undef rfl rfl rfl) rfl ?_
     refine FD.skip (wF_undef rfl rfl rfl) rfl ?_
     refine FD.skip (wF_no rfl rfl rfl c198) rfl ?_
     obtain rfl := Option.some.inj hp
     refine FD.val rfl rfl rfl (fun w' hw' => (E.pickT rfl c198 rfl)) ?_
     exact FD.nil ⟨k143, k144, k142, rfl⟩
    ·
     refine FD.val (wF_yes rfl rfl rfl c198) rfl rfl (fun w' hw' => (E.move k142)) ?_
     refine FD.val (wF_yes rfl rfl rfl c198) rfl rfl (fun w' hw' => (E.gtr rfl rfl)) ?_
     refine FD.val (wF_yes rfl rfl rfl c198) rfl rfl (fun w' hw' => (E.move (v := Value.bool (decide (0 < ((i26 : Nat) : Int)))) rfl)) ?_
     obtain ⟨t213, hqt213, hp⟩ := bnd hp
     refine FD.cut 13 (fun f => f 0 = Value.int .i64 a0 ∧ f 1 = v1 ∧ f 5 = Value.int .i64 ((i26 : Nat) : Int) ∧ f 22 = Value.bool (!(PF.spec_l2Lit a0 y25)) ∧ f 38 = Value.bool t213) ?_ ?_
     ·
      clear hp; have hp := hqt213; clear hqt213
      rcases ifB hp with ⟨c219, hp⟩ | ⟨c219, hp⟩
      ·
       refine FD.val (wF_yes rfl rfl rfl c219) rfl rfl (fun w' hw' => (E.move k144)) ?_
       refine FD.val (wF_yes rfl rfl rfl c219) rfl rfl (fun w' hw' => (E.move k142)) ?_
       refine FD.val (wF_yes rfl rfl rfl c219) rfl rfl (fun w' hw' => (E.sub rfl rfl)) ?_
       obtain ⟨x226, hx227, hp⟩ := bnd hp
       obtain ⟨p220, cs221, pt222, l223, at224, rel225⟩ := p1.at hx227
       obtain rfl := eI_open rel225
       refine FD.val (wF_yes rfl rfl rfl c219) rfl rfl (fun w' hw' => (E.indexAddr te50 rfl rfl pt222)) ?_
       refine FD.val (wF_yes rfl rfl rfl c219) rfl rfl (fun w' hw' => (E.load rfl (run_load0 Tryz.isAgg3 ((at224.mono i139).now (S138.call hw').sl) rfl))) ?_
       refine FD.call (wF_yes rfl rfl rfl c219) rfl rfl (fun w' hw' => (E.call Tryz.call95 (A1 rfl))) (fun w' hw' => Calls.cls hw' (w_spec_l2Var (S138.call hw').sl x226)) ?_
       refine FD.val (wF_yes rfl rfl rfl c219) rfl rfl (fun w' hw' => (E.move k144)) ?_
       refine FD.val (wF_yes rfl rfl rfl c219) rfl rfl (fun w' hw' => (E.move k142)) ?_
       obtain ⟨p228, cs229, pt230, l231, at232, rel233⟩ := p1.at (ix_nat hx26)
       obtain rfl := eI_open rel233
       refine FD.val (wF_yes rfl rfl rfl c219) rfl rfl (fun w' hw' => (E.indexAddr te50 rfl rfl pt230)) ?_
       refine FD.val (wF_yes rfl rfl rfl c219) rfl rfl (fun w' hw' => (E.load rfl (run_load0 Tryz.isAgg3 ((at232.mono i139).now (S138.call hw').sl) rfl))) ?_
       refine FD.call (wF_yes rfl rfl rfl c219) rfl rfl (fun w' hw' => (E.call Tryz.call95 (A1 rfl))) (fun w' hw' => Calls.cls hw' (w_spec_l2Var (S138.call hw').sl y25)) ?_
       refine FD.val (wF_yes rfl rfl rfl c219) rfl rfl (fun w' hw' => (E.geq rfl rfl)) ?_
       obtain rfl := Option.some.inj hp
       refine FD.val (wF_yes rfl rfl rfl c198) rfl rfl (fun w' hw' => (E.pickT rfl c219 rfl)) ?_
       exact FD.nil ⟨k143, k144, k142, rfl, rfl⟩
      ·
       refine FD.skip (wF_no rfl rfl rfl c219) rfl ?_
       refine FD.skip (wF_no rfl rfl rfl c219) rfl ?_
       refine FD.skip (wF_no rfl rfl rfl c219) rfl ?_
       refine FD.skip (wF_no rfl rfl rfl c219) rfl ?_
       refine FD.skip (wF_no rfl rfl rfl c219) rfl ?_
       refine FD.skip (wF_no rfl rfl rfl c219) rfl ?_
       refine FD.skip (wF_no rfl rfl rfl c219) rfl ?_
       refine FD.skip (wF_no rfl rfl rfl c219) rfl ?_
       refine FD.skip (wF_no rfl rfl rfl c219) rfl ?_
       refine FD.skip (wF_no rfl rfl rfl c219) rfl ?_
       refine FD.skip (wF_no rfl rfl rfl c219) rfl ?_
       refine FD.skip (wF_no rfl rfl rfl c219) rfl ?_
       obtain rfl := Option.some.inj hp
       refine FD.val (wF_yes rfl rfl rfl c198) rfl rfl (fun w' hw' => (E.pickF rfl c219 rfl)) ?_
       exact FD.nil ⟨k143, k144, k142, rfl, rfl⟩
     rintro f218 ⟨k234, k235, k236, k237, k238⟩
     obtain rfl := Option.some.inj hp
     refine FD.val rfl rfl rfl (fun w' hw' => (E.pickF k237 c198 k238)) ?_
     exact FD.nil ⟨k234, k235, k236, rfl⟩
   rintro f197 ⟨k239, k240, k241, k242⟩
   refine FD.nil ?_
   intro w243 r245
   have S244 := S138.call r245
   rcases ifB hp with ⟨c246, hp⟩ | ⟨c246, hp⟩
   ·
    refine FW.condT k242 c246 ?_
    refine FW.seq (FW.region ?_)
    refine FL.v (E.assign (v := Value.bool false) rfl) ?_
    refine FL.nil ?_
    refine FW.ret ?_
    obtain rfl := Option.some.inj hp
    exact ⟨nofun, rfl, ⟨.inr rfl, res1 rfl rfl ⟨rfl, S244.back⟩⟩⟩
   ·
    refine FW.condF k242 c246 ?_
    refine FW.skip (FW.region ?_)
    refine FL.v (E.move k241) ?_
    refine FL.v (E.add rfl rfl) ?_
    refine FL.v (E.assign (v := Value.int .i64 (wr (((i26 : Nat) : Int) + 1))) rfl) ?_
    refine FL.nil ?_
    obtain rfl := Option.some.inj hp
    exact ⟨rfl, ⟨_, S244, i139, (nat_succ rfl (lt_of_get hx26) (p1.mono i139).le), k239, k240⟩⟩
  ·
   clear hp hq
   rintro s26 f257 w256 ⟨H253, S254, i255, k258, k259, k260⟩
   refine FW.seq (FW.seq (FW.region ?_))
   refine FL.v (E.move k258) ?_
   refine FL.v (E.move k260) ?_
   refine FL.v (E.lenP te50 rfl p1) ?_
   refine FL.v (E.lss rfl rfl) ?_
   refine FL.nil ?_
   refine FW.condF rfl dlt_len ?_
   refine FW.exit ?_
   exact ⟨nofun, rfl, ⟨_, S254, i255⟩⟩
  ·
   clear hq
   intro e f252 w251 hD
   rcases q26 with s26 | x26
   ·
    obtain ⟨rfl, hD⟩ := hD
    obtain ⟨H248, S249, i250⟩ := hD
    replace hp := el_go hp
    refine FW.seq (FW.region ?_)
    refine FL.v (E.assign (v := Value.bool true) rfl) ?_
    refine FL.nil ?_
    refine FW.ret ?_
    obtain rfl := Option.some.inj hp
    exact ⟨.inr rfl, res1 rfl rfl ⟨rfl, S249.back⟩⟩
   ·
    obtain ⟨he, hL⟩ := hD
    replace hp := el_rt hp
    obtain rfl := Option.some.inj hp
    subst he
    exact hL

set_option maxHeartbeats 4000000 in
theorem w_spec_l2Good {Ha : GH} {wa : World} (hs : Sl Ha wa) (a0 : Cnf) (v0_1 : Value) (p0_1 : RSl Ha (eL eI 1) 1 v0_1 a0.clauses) {r : Bool} (hp : (PF.spec_l2Good a0) = some r) :
  Calls Tryz.prog 65 #[Value.agg #[Value.int .i64 a0.vars, v0_1]] wa (Sc Ha wa (Value.bool r)) := by
 unfold PF.spec_l2Good at hp
 have S0 := St.init hs
 refine calls_go (N := 30) (args := [Value.agg #[Value.int .i64 a0.vars, v0_1]]) Tryz.func65 rfl rfl rfl ?_
 refine FW.seq (FW.region ?_)
 obtain ⟨b21, w22, run23, S24⟩ := S0.box (P := Tryz.prog) 34 [Value.int .i64 a0.vars, v0_1] (v := Value.agg #[Value.int .i64 a0.vars, v0_1]) rfl (ones_cons rfl (ones_cons p0_1.one ones_nil))
 refine FL.v (E.box rfl run23) ?_
 obtain ⟨H25, S26, i27, at28⟩ := S24.sealBox (i := 0) (l' := []) rfl rfl
 refine FL.v (E.assign (v := Value.bool false) rfl) ?_
 refine FL.nil (FW.seq (FW.seq (FW.region ?_)))
 refine FL.v (E.fieldAddr tf34_0 rfl) ?_
 refine FL.v (E.load rfl (run_load1 Tryz.isAgg3 (at28.now S26.sl) rfl)) ?_
 refine FL.call rfl rfl rfl (E.call Tryz.call78 (A1 rfl)) (w_spec_l2Vars S26.sl a0.vars) ?_
 rintro e w29 ⟨rfl, r30⟩
 refine ⟨_, rfl, ?_⟩
 have S31 := S26.call r30
 refine FL.v (E.not rfl) ?_
 refine FL.v (E.move (v := Value.bool (!(PF.spec_l2Vars a0.vars))) rfl) ?_
 refine FL.cut 5 (fun f w => ∃ H : GH, St Ha wa H w [] ∧ Inc H25 H ∧ f 1 = Value.pointer (some ⟨b21, 0, none⟩) ∧ f 13 = Value.bool (bif (!(PF.spec_l2Vars a0.vars)) then true else (decide (60 < (len a0.clauses))))) ?_ ?_
 ·
  rcases bcase (!(PF.spec_l2Vars a0.vars)) with c38 | c38
  ·
   refine FL.skip (wF_no rfl rfl rfl c38) rfl ?_
   refine FL.skip (wF_no rfl rfl rfl c38) rfl ?_
   refine FL.skip (wF_no rfl rfl rfl c38) rfl ?_
   refine FL.skip (wF_no rfl rfl rfl c38) rfl ?_
   refine FL.v (E.pickT rfl c38 rfl) ?_
   exact FL.nil ⟨rfl, _, S31, (Inc.rfl _), rfl, (congrArg Value.bool (bifT c38).symm)⟩
  ·
   refine FL.val (wF_yes rfl rfl rfl c38) rfl rfl (E.fieldAddr tf34_1 rfl) ?_
   refine FL.val (wF_yes rfl rfl rfl c38) rfl rfl (E.load rfl (run_load1 Tryz.isAgg23 (at28.now S31.sl) rfl)) ?_
   refine FL.val (wF_yes rfl rfl rfl c38) rfl rfl (E.lenP te23 rfl p0_1) ?_
   refine FL.val (wF_yes rfl rfl rfl c38) rfl rfl (E.gtr rfl rfl) ?_
   refine FL.v (E.pickF rfl c38 rfl) ?_
   exact FL.nil ⟨rfl, _, S31, (Inc.rfl _), rfl, (congrArg Value.bool (bifF c38).symm)⟩
 rintro f37 w36 ⟨H33, S34, i35, k39, k40⟩
 refine FL.nil ?_
 rcases ifB hp with ⟨c41, hp⟩ | ⟨c41, hp⟩
 ·
  refine FW.condT k40 c41 ?_
  refine FW.seq (FW.region ?_)
  refine FL.v (E.assign (v := Value.bool false) rfl) ?_
  refine FL.nil ?_
  refine FW.ret ?_
  obtain rfl := Option.some.inj hp
  exact ⟨.inr rfl, res1 rfl rfl ⟨rfl, S34.back⟩⟩
 ·
  refine FW.condF k40 c41 ?_
  refine FW.skip (FW.seq (FW.seq (FW.region ?_)))
  refine FL.v (E.assign (v := Value.int .i64 0) rfl) ?_
  refine FL.nil ?_
  obtain ⟨q42, hq, hp⟩ := bndR hp
  refine FW.block ?_
  refine FW.mono (FW.iter (S := Int) (X := Bool) (fun (s42 : Int) f w => ∃ H : GH, St Ha wa H w [] ∧ Inc H33 H ∧ f 1 = Value.pointer (some ⟨b21, 0, none⟩) ∧ f 3 = Value.int .i64 s42) (fun q e f w => match q with | .go s42 => e = Exit.exit 0 ∧ (∃ H : GH, St Ha wa H w [] ∧ Inc H33 H) | .rt x => ((e = Exit.ret) ∧ (fun e f w => (e = Exit.normal ∨ e = Exit.ret) ∧ ∀ a, Fr (δ := []) 30 a f → ∃ v, (results Tryz.f65 a.tmps).run Tryz.prog w = .ok v w ∧ (Sc Ha wa (Value.bool x)) (.returned v) w) e f w)) hq ⟨_, S34, (Inc.rfl _), k39, rfl⟩ ?_) ?_
  ·
   clear hp hq
   rintro s42 f72 w71 ⟨H68, S69, i70, k73, k74⟩ o93 hp
   refine FW.seq (FW.seq (FW.region ?_))
   refine FL.v (E.move k74) ?_
   refine FL.v (E.fieldAddr tf34_1 k73) ?_
   refine FL.v (E.load rfl (run_load1 Tryz.isAgg23 ((at28.mono (i35.tr i70)).now S69.sl) rfl)) ?_
   refine FL.v (E.lenP te23 rfl p0_1) ?_
   refine FL.v (E.lss rfl rfl) ?_
   refine FL.nil ?_
   rcases ifB hp with ⟨c75, hp⟩ | ⟨c75, hp⟩
   ·
    refine FW.condT rfl c75 ?_
    refine FW.skip (FW.seq (FW.block (FW.seq ?_)))
    refine FW.draw (fun w' => Run w71.heap.size H68 w71 H68 w') (by kernel_rfl) (by kernel_rfl) (run_drew S69.sl) ?_
    refine FD.val rfl rfl rfl (fun w' hw' => (E.fieldAddr tf34_0 k73)) ?_
    refine FD.val rfl rfl rfl (fun w' hw' => (E.load rfl (run_load1 Tryz.isAgg3 ((at28.mono (i35.tr i70)).now (S69.call hw').sl) rfl))) ?_
    refine FD.val rfl rfl rfl (fun w' hw' => (E.fieldAddr tf34_1 k73)) ?_
    refine FD.val rfl rfl rfl (fun w' hw' => (E.load rfl (run_load1 Tryz.isAgg23 ((at28.mono (i35.tr i70)).now (S69.call hw').sl) rfl))) ?_
    refine FD.val rfl rfl rfl (fun w' hw' => (E.move k74)) ?_
    obtain ⟨x83, hx84, hp⟩ := bnd hp
    obtain ⟨p77, cs78, pt79, l80, at81, rel82⟩ := p0_1.at hx84
    obtain ⟨v85, rfl, h86⟩ := eL_open rel82
    refine FD.val rfl rfl rfl (fun w' hw' => (E.indexAddr te23 rfl rfl pt79)) ?_
    refine FD.val rfl rfl rfl (fun w' hw' => (E.load rfl (run_load0 Tryz.isAgg50 ((at81.mono ((i27.tr i35).tr i70)).now (S69.call hw').sl) rfl))) ?_
    obtain ⟨r87, hr88, hp⟩ := bnd hp
    refine FD.call rfl rfl rfl (fun w' hw' => (E.call Tryz.call79 (A2 rfl rfl))) (fun w' hw' => Calls.cls hw' (w_spec_l2Clause (S69.call hw').sl a0.vars v85 x83 (h86.mono ((i27.tr i35).tr i70)) hr88)) ?_
    refine FD.val rfl rfl rfl (fun w' hw' => (E.not rfl)) ?_
    refine FD.nil ?_
    intro w89 r91
    have S90 := S69.call r91
    rcases ifB hp with ⟨c92, hp⟩ | ⟨c92, hp⟩
    ·
     refine FW.condT rfl c92 ?_
     refine FW.seq (FW.region ?_)
     refine FL.v (E.assign (v := Value.bool false) rfl) ?_
     refine FL.nil ?_
     refine FW.ret ?_
     obtain rfl := Option.some.inj hp
     exact ⟨nofun, rfl, ⟨.inr rfl, res1 rfl rfl ⟨rfl, S90.back⟩⟩⟩
    ·
     refine FW.condF rfl c92 ?_
     refine FW.skip (FW.region ?_)
     refine FL.v (E.move k74) ?_
     refine FL.v (E.add rfl rfl) ?_
     refine FL.v (E.assign (v := Value.int .i64 (wr (s42 + 1))) rfl) ?_
     refine FL.nil ?_
     obtain rfl := Option.some.inj hp
     exact ⟨rfl, ⟨_, S90, i70, k73, rfl⟩⟩
   ·
    refine FW.condF rfl c75 ?_
    refine FW.exit ?_
    obtain rfl := Option.some.inj hp
    exact ⟨nofun, rfl, ⟨_, S69, i70⟩⟩
  ·
   clear hq
   intro e f98 w97 hD
   rcases q42 with s42 | x42
   ·
    obtain ⟨rfl, hD⟩ := hD
    obtain ⟨H94, S95, i96⟩ := hD
    replace hp := el_go hp
    refine FW.seq (FW.region ?_)
    refine FL.v (E.assign (v := Value.bool true) rfl) ?_
    refine FL.nil ?_
    refine FW.ret ?_
    obtain rfl := Option.some.inj hp
    exact ⟨.inr rfl, res1 rfl rfl ⟨rfl, S95.back⟩⟩
   ·
    obtain ⟨he, hL⟩ := hD
    replace hp := el_rt hp
    obtain rfl := Option.some.inj hp
    subst he
    exact hL

theorem w_spec_l7Asked {Ha : GH} {wa : World} (hs : Sl Ha wa) (a0 : Cnf) (v0_1 : Value) (p0_1 : RSl Ha (eL eI 1) 1 v0_1 a0.clauses) (v1 : Value) (a1 : List ResStep) (p1 : RSl Ha eResStep 4 v1 a1) {r : Bool} (hp : (PF.spec_l7Asked a0 a1) = some r) :
  Calls Tryz.prog 54 #[Value.agg #[Value.int .i64 a0.vars, v0_1], v1] wa (Sc Ha wa (Value.bool r)) := by
 unfold PF.spec_l7Asked at hp
 have S0 := St.init hs
 refine calls_go (N := 12) (args := [Value.agg #[Value.int .i64 a0.vars, v0_1], v1]) Tryz.func54 rfl rfl rfl ?_
 refine FW.seq (FW.region ?_)
 obtain ⟨b21, w22, run23, S24⟩ := S0.box (P := Tryz.prog) 34 [Value.int .i64 a0.vars, v0_1] (v := Value.agg #[Value.int .i64 a0.vars, v0_1]) rfl (ones_cons rfl (ones_cons p0_1.one ones_nil))
 refine FL.v (E.box rfl run23) ?_
 obtain ⟨H25, S26, i27, at28⟩ := S24.sealBox (i := 0) (l' := []) rfl rfl
 refine FL.v (E.assign (v := Value.bool false) rfl) ?_
 refine FL.nil (FW.seq (FW.region ?_))
 refine FL.v (E.move (v := v1) rfl) ?_
 refine FL.v (E.lenP te36 rfl p1) ?_
 refine FL.v (E.leq rfl rfl) ?_
 refine FL.v (E.move (v := Value.bool (decide ((len a1) ≤ 200))) rfl) ?_
 obtain ⟨t34, hqt34, hp⟩ := bnd hp
 refine FL.cut 3 (fun f w => ∃ H : GH, St Ha wa H w [] ∧ Inc H25 H ∧ f 11 = Value.bool t34) ?_ ?_
 ·
  clear hp; have hp := hqt34; clear hqt34
  rcases ifB hp with ⟨c40, hp⟩ | ⟨c40, hp⟩
  ·
   refine FL.val (wF_yes rfl rfl rfl c40) rfl rfl (E.load rfl (run_loadA Tryz.isAgg34 Tryz.sizeOf34 (at28.now S26.sl) rfl)) ?_
   obtain ⟨r41, hr42, hp⟩ := bnd hp
   refine FL.call (wF_yes rfl rfl rfl c40) rfl rfl (E.call Tryz.call65 (A1 rfl)) (w_spec_l2Good S26.sl a0 v0_1 (p0_1.mono i27) hr42) ?_
   rintro e w43 ⟨rfl, r44⟩
   refine ⟨_, rfl, ?_⟩
   have S45 := S26.call r44
   obtain rfl := Option.some.inj hp
   refine FL.v (E.pickT rfl c40 rfl) ?_
   exact FL.nil ⟨rfl, _, S45, (Inc.rfl _), rfl⟩
  ·
   refine FL.skip (wF_no rfl rfl rfl c40) rfl ?_
   refine FL.skip (wF_no rfl rfl rfl c40) rfl ?_
   obtain rfl := Option.some.inj hp
   refine FL.v (E.pickF rfl c40 rfl) ?_
   exact FL.nil ⟨rfl, _, S26, (Inc.rfl _), rfl⟩
 rintro f39 w38 ⟨H35, S36, i37, k46⟩
 refine FL.v (E.assign k46) ?_
 refine FL.nil ?_
 refine FW.ret ?_
 obtain rfl := Option.some.inj hp
 exact ⟨.inr rfl, res1 rfl rfl ⟨rfl, S36.back⟩⟩

set_option maxHeartbeats 4000000 in
theorem w_spec_l1Same {Ha : GH} {wa : World} (hs : Sl Ha wa) (v0 : Value) (a0 : List Int) (p0 : RSl Ha eI 1 v0 a0) (v1 : Value) (a1 : List Int) (p1 : RSl Ha eI 1 v1 a1) {r : Bool} (hp : (PF.spec_l1Same a0 a1) = some r) :
  Calls Tryz.prog 80 #[v0, v1] wa (Sc Ha wa (Value.bool r)) := by
 unfold PF.spec_l1Same at hp
 have S0 := St.init hs
 refine calls_go (N := 26) (args := [v0, v1]) Tryz.func80 rfl rfl rfl ?_
 refine FW.seq (FW.region ?_)
 refine FL.v (E.assign (v := Value.bool false) rfl) ?_
 refine FL.nil (FW.seq (FW.seq (FW.region ?_)))
 refine FL.v (E.move (v := v0) rfl) ?_
 refine FL.v (E.lenP te50 rfl p0) ?_
 refine FL.v (E.move (v := v1) rfl) ?_
 refine FL.v (E.lenP te50 rfl p1) ?_
 refine FL.v (E.neq rfl rfl) ?_
 refine FL.nil ?_
 rcases ifB hp with ⟨c21, hp⟩ | ⟨c21, hp⟩
 ·
  refine FW.condT rfl c21 ?_
  refine FW.seq (FW.region ?_)
  refine FL.v (E.assign (v := Value.bool false) rfl) ?_
  refine FL.nil ?_
  refine FW.ret ?_
  obtain rfl := Option.some.inj hp
  exact ⟨.inr rfl, res1 rfl rfl ⟨rfl, S0.back⟩⟩
 ·
  refine FW.condF rfl c21 ?_
  refine FW.skip (FW.seq (FW.seq (FW.region ?_)))
  refine FL.v (E.assign (v := Value.int .i64 0) rfl) ?_
  refine FL.nil ?_
  obtain ⟨q23, hq, hp⟩ := bndR hp
  refine FW.block ?_
  refine FW.mono (FW.forL (S := Unit) (X := Bool) (fun (i23 : Nat) (s23 : Unit) f w => ∃ H : GH, St Ha wa H w [] ∧ Inc Ha H ∧ f 5 = Value.int .i64 ((i23 : Nat) : Int) ∧ f 0 = v0 ∧ f 1 = v1) (fun q e f w => match q with | .go s23 => e = Exit.exit 0 ∧ (∃ H : GH, St Ha wa H w [] ∧ Inc Ha H) | .rt x => ((e = Exit.ret) ∧ (fun e f w => (e = Exit.normal ∨ e = Exit.ret) ∧ ∀ a, Fr (δ := []) 26 a f → ∃ v, (results Tryz.f80 a.tmps).run Tryz.prog w = .ok v w ∧ (Sc Ha wa (Value.bool x)) (.returned v) w) e f w)) hq ⟨_, S0, (Inc.rfl _), rfl, rfl, rfl⟩ ?_ ?_) ?_
  ·
   clear hp hq
   rintro i23 y22 s23 f55 w54 ⟨H51, S52, i53, k56, k57, k58⟩ hx23 o78 hp
   refine FW.seq (FW.seq (FW.region ?_))
   refine FL.v (E.move k56) ?_
   refine FL.v (E.move k57) ?_
   refine FL.v (E.lenP te50 rfl p0) ?_
   refine FL.v (E.lssT rfl rfl (lss_len hx23)) ?_
   refine FL.nil ?_
   refine FW.condT rfl rfl ?_
   refine FW.skip (FW.seq (FW.block (FW.seq ?_)))
   refine FW.draw (fun w' => Run w54.heap.size H51 w54 H51 w') (by kernel_rfl) (by kernel_rfl) (run_drew S52.sl) ?_
   refine FD.val rfl rfl rfl (fun w' hw' => (E.move k57)) ?_
   refine FD.val rfl rfl rfl (fun w' hw' => (E.move k56)) ?_
   obtain ⟨p60, cs61, pt62, l63, at64, rel65⟩ := p0.at (ix_nat hx23)
   obtain rfl := eI_open rel65
   refine FD.val rfl rfl rfl (fun w' hw' => (E.indexAddr te50 rfl rfl pt62)) ?_
   refine FD.val rfl rfl rfl (fun w' hw' => (E.load rfl (run_load0 Tryz.isAgg3 ((at64.mono i53).now (S52.call hw').sl) rfl))) ?_
   refine FD.val rfl rfl rfl (fun w' hw' => (E.move k58)) ?_
   refine FD.val rfl rfl rfl (fun w' hw' => (E.move k56)) ?_
   obtain ⟨x72, hx73, hp⟩ := bnd hp
   obtain ⟨p66, cs67, pt68, l69, at70, rel71⟩ := p1.at hx73
   obtain rfl := eI_open rel71
   refine FD.val rfl rfl rfl (fun w' hw' => (E.indexAddr te50 rfl rfl pt68)) ?_
   refine FD.val rfl rfl rfl (fun w' hw' => (E.load rfl (run_load0 Tryz.isAgg3 ((at70.mono i53).now (S52.call hw').sl) rfl))) ?_
   refine FD.val rfl rfl rfl (fun w' hw' => (E.neq rfl rfl)) ?_
   refine FD.nil ?_
   intro w74 r76
   have S75 := S52.call r76
   rcases ifB hp with ⟨c77, hp⟩ | ⟨c77, hp⟩
   ·
    refine FW.condT rfl c77 ?_
    refine FW.seq (FW.region ?_)
    refine FL.v (E.assign (v := Value.bool false) rfl) ?_
    refine FL.nil ?_
    refine FW.ret ?_
    obtain rfl := Option.some.inj hp
    exact ⟨nofun, rfl, ⟨.inr rfl, res1 rfl rfl ⟨rfl, S75.back⟩⟩⟩
   ·
    refine FW.condF rfl c77 ?_
    refine FW.skip (FW.region ?_)
    refine FL.v (E.move k56) ?_
    refine FL.v (E.add rfl rfl) ?_
    refine FL.v (E.assign (v := Value.int .i64 (wr (((i23 : Nat) : Int) + 1))) rfl) ?_
    refine FL.nil ?_
    obtain rfl := Option.some.inj hp
    exact ⟨rfl, ⟨_, S75, i53, (nat_succ rfl (lt_of_get hx23) (p0.mono i53).le), k57, k58⟩⟩
  ·
   clear hp hq
   rintro s23 f88 w87 ⟨H84, S85, i86, k89, k90, k91⟩
   refine FW.seq (FW.seq (FW.region ?_))
   refine FL.v (E.move k89) ?_
   refine FL.v (E.move k90) ?_
   refine FL.v (E.lenP te50 rfl p0) ?_
   refine FL.v (E.lss rfl rfl) ?_
   refine FL.nil ?_
   refine FW.condF rfl dlt_len ?_
   refine FW.exit ?_
   exact ⟨nofun, rfl, ⟨_, S85, i86⟩⟩
  ·
   clear hq
   intro e f83 w82 hD
   rcases q23 with s23 | x23
   ·
    obtain ⟨rfl, hD⟩ := hD
    obtain ⟨H79, S80, i81⟩ := hD
    replace hp := el_go hp
    refine FW.seq (FW.region ?_)
    refine FL.v (E.assign (v := Value.bool true) rfl) ?_
    refine FL.nil ?_
    refine FW.ret ?_
    obtain rfl := Option.some.inj hp
    exact ⟨.inr rfl, res1 rfl rfl ⟨rfl, S80.back⟩⟩
   ·
    obtain ⟨he, hL⟩ := hD
    replace hp := el_rt hp
    obtain rfl := Option.some.inj hp
    subst he
    exact hL

theorem w_spec_l7Clause {Ha : GH} {wa : World} (hs : Sl Ha wa) (a0 : Cnf) (v0_1 : Value) (p0_1 : RSl Ha (eL eI 1) 1 v0_1 a0.clauses) (v1 : Value) (a1 : List ResStep) (p1 : RSl Ha eResStep 4 v1 a1) (a2 : Int) (a3 : Int) {r : Bool} (hp : (PF.spec_l7Clause a0 a1 a2 a3) = some r) :
  Calls Tryz.prog 81 #[Value.agg #[Value.int .i64 a0.vars, v0_1], v1, Value.int .i64 a2, Value.int .i64 a3] wa (Sc Ha wa (Value.bool r)) := by
 unfold PF.spec_l7Clause at hp
 have S0 := St.init hs
 refine calls_go (N := 23) (args := [Value.agg #[Value.int .i64 a0.vars, v0_1], v1, Value.int .i64 a2, Value.int .i64 a3]) Tryz.func81 rfl rfl rfl ?_
 refine FW.seq (FW.region ?_)
 obtain ⟨b21, w22, run23, S24⟩ := S0.box (P := Tryz.prog) 34 [Value.int .i64 a0.vars, v0_1] (v := Value.agg #[Value.int .i64 a0.vars, v0_1]) rfl (ones_cons rfl (ones_cons p0_1.one ones_nil))
 refine FL.v (E.box rfl run23) ?_
 obtain ⟨H25, S26, i27, at28⟩ := S24.sealBox (i := 0) (l' := []) rfl rfl
 refine FL.v (E.assign (v := Value.bool false) rfl) ?_
 refine FL.nil (FW.seq ?_)
 refine FW.draw (fun w' => Run w22.heap.size H25 w22 H25 w') (by kernel_rfl) (by kernel_rfl) (run_drew S26.sl) ?_
 refine FD.val rfl rfl rfl (fun w' hw' => (E.move (v := Value.int .i64 a3) rfl)) ?_
 refine FD.val rfl rfl rfl (fun w' hw' => (E.move (v := Value.int .i64 a2) rfl)) ?_
 refine FD.val rfl rfl rfl (fun w' hw' => (E.sub rfl rfl)) ?_
 refine FD.call rfl rfl rfl (fun w' hw' => (E.call Tryz.call53 (A3 rfl rfl rfl))) (fun w' hw' => Calls.cls hw' (w_spec_l1In (S26.call hw').sl a3 0 (wr (a2 - 1)))) ?_
 refine FD.val rfl rfl rfl (fun w' hw' => (E.move (v := Value.bool (PF.spec_l1In a3 0 (wr (a2 - 1)))) rfl)) ?_
 obtain ⟨t42, hqt42, hp⟩ := bnd hp
 refine FD.cut 9 (fun f => f 22 = Value.bool t42) ?_ ?_
 ·
  clear hp; have hp := hqt42; clear hqt42
  rcases ifB hp with ⟨c48, hp⟩ | ⟨c48, hp⟩
  ·
   refine FD.val (wF_yes rfl rfl rfl c48) rfl rfl (fun w' hw' => (E.fieldAddr tf34_0 rfl)) ?_
   refine FD.val (wF_yes rfl rfl rfl c48) rfl rfl (fun w' hw' => (E.load rfl (run_load1 Tryz.isAgg3 (at28.now (S26.call hw').sl) rfl))) ?_
   refine FD.val (wF_yes rfl rfl rfl c48) rfl rfl (fun w' hw' => (E.move (v := v1) rfl)) ?_
   refine FD.val (wF_yes rfl rfl rfl c48) rfl rfl (fun w' hw' => (E.move (v := Value.int .i64 a3) rfl)) ?_
   obtain ⟨x55, hx56, hp⟩ := bnd hp
   obtain ⟨p49, cs50, pt51, l52, at53, rel54⟩ := p1.at hx56
   obtain ⟨v57, rfl, h58⟩ := eResStep_open rel54
   refine FD.val (wF_yes rfl rfl rfl c48) rfl rfl (fun w' hw' => (E.indexAddr te36 rfl rfl pt51)) ?_
   refine FD.val (wF_yes rfl rfl rfl c48) rfl rfl (fun w' hw' => (E.fieldAddr tf60_0 rfl)) ?_
   refine FD.val (wF_yes rfl rfl rfl c48) rfl rfl (fun w' hw' => (E.load rfl (run_load1 Tryz.isAgg50 ((at53.mono i27).now (S26.call hw').sl) rfl))) ?_
   obtain ⟨r59, hr60, hp⟩ := bnd hp
   refine FD.call (wF_yes rfl rfl rfl c48) rfl rfl (fun w' hw' => (E.call Tryz.call79 (A2 rfl rfl))) (fun w' hw' => Calls.cls hw' (w_spec_l2Clause (S26.call hw').sl a0.vars v57 x55.clause (h58.mono i27) hr60)) ?_
   obtain rfl := Option.some.inj hp
   refine FD.val rfl rfl rfl (fun w' hw' => (E.pickT rfl c48 rfl)) ?_
   exact FD.nil rfl
  ·
   refine FD.skip (wF_no rfl rfl rfl c48) rfl ?_
   refine FD.skip (wF_no rfl rfl rfl c48) rfl ?_
   refine FD.skip (wF_no rfl rfl rfl c48) rfl ?_
   refine FD.skip (wF_no rfl rfl rfl c48) rfl ?_
   refine FD.skip (wF_no rfl rfl rfl c48) rfl ?_
   refine FD.skip (wF_no rfl rfl rfl c48) rfl ?_
   refine FD.skip (wF_no rfl rfl rfl c48) rfl ?_
   refine FD.skip (wF_no rfl rfl rfl c48) rfl ?_
   obtain rfl := Option.some.inj hp
   refine FD.val rfl rfl rfl (fun w' hw' => (E.pickF rfl c48 rfl)) ?_
   exact FD.nil rfl
 intro f47 k61
 refine FD.val rfl rfl rfl (fun w' hw' => (E.assign k61)) ?_
 refine FD.nil ?_
 intro w62 r64
 have S63 := S26.call r64
 refine FW.ret ?_
 obtain rfl := Option.some.inj hp
 exact ⟨.inr rfl, res1 rfl rfl ⟨rfl, S63.back⟩⟩

theorem w_spec_l1Has {Ha : GH} {wa : World} (hs : Sl Ha wa) (v0 : Value) (a0 : List Int) (p0 : RSl Ha eI 1 v0 a0) (a1 : Int) {r : Bool} (hp : (PF.spec_l1Has a0 a1) = some r) :
  Calls Tryz.prog 107 #[v0, Value.int .i64 a1] wa (Sc Ha wa (Value.bool r)) := by
 unfold PF.spec_l1Has at hp
 have S0 := St.init hs
 refine calls_go (N := 18) (args := [v0, Value.int .i64 a1]) Tryz.func107 rfl rfl rfl ?_
 refine FW.seq (FW.region ?_)
 refine FL.v (E.assign (v := Value.bool false) rfl) ?_
 refine FL.nil (FW.seq (FW.seq (FW.region ?_)))
 refine FL.v (E.assign (v := Value.int .i64 0) rfl) ?_
 refine FL.nil ?_
 obtain ⟨q22, hq, hp⟩ := bndR hp
 refine FW.block ?_
 refine FW.mono (FW.forL (S := Unit) (X := Bool) (fun (i22 : Nat) (s22 : Unit) f w => ∃ H : GH, St Ha wa H w [] ∧ Inc Ha H ∧ f 5 = Value.int .i64 ((i22 : Nat) : Int) ∧ f 0 = v0 ∧ f 1 = Value.int .i64 a1) (fun q e f w => match q with | .go s22 => e = Exit.exit 0 ∧ (∃ H : GH, St Ha wa H w [] ∧ Inc Ha H) | .rt x => ((e = Exit.ret) ∧ (fun e f w => (e = Exit.normal ∨ e = Exit.ret) ∧ ∀ a, Fr (δ := []) 18 a f → ∃ v, (results Tryz.f107 a.tmps).run Tryz.prog w = .ok v w ∧ (Sc Ha wa (Value.bool x)) (.returned v) w) e f w)) hq ⟨_, S0, (Inc.rfl _), rfl, rfl, rfl⟩ ?_ ?_) ?_
 ·
  clear hp hq
  rintro i22 y21 s22 f42 w41 ⟨H38, S39, i40, k43, k44, k45⟩ hx22 o53 hp
  refine FW.seq (FW.seq (FW.region ?_))
  refine FL.v (E.move k43) ?_
  refine FL.v (E.move k44) ?_
  refine FL.v (E.lenP te50 rfl p0) ?_
  refine FL.v (E.lssT rfl rfl (lss_len hx22)) ?_
  refine FL.nil ?_
  refine FW.condT rfl rfl ?_
  refine FW.skip (FW.seq (FW.block (FW.seq (FW.region ?_))))
  refine FL.v (E.move k44) ?_
  refine FL.v (E.move k43) ?_
  obtain ⟨p46, cs47, pt48, l49, at50, rel51⟩ := p0.at (ix_nat hx22)
  obtain rfl := eI_open rel51
  refine FL.v (E.indexAddr te50 rfl rfl pt48) ?_
  refine FL.v (E.load rfl (run_load0 Tryz.isAgg3 ((at50.mono i40).now S39.sl) rfl)) ?_
  refine FL.v (E.move k45) ?_
  refine FL.v (E.eql rfl rfl) ?_
  refine FL.nil ?_
  rcases ifB hp with ⟨c52, hp⟩ | ⟨c52, hp⟩
  ·
   refine FW.condT rfl c52 ?_
   refine FW.seq (FW.region ?_)
   refine FL.v (E.assign (v := Value.bool true) rfl) ?_
   refine FL.nil ?_
   refine FW.ret ?_
   obtain rfl := Option.some.inj hp
   exact ⟨nofun, rfl, ⟨.inr rfl, res1 rfl rfl ⟨rfl, S39.back⟩⟩⟩
  ·
   refine FW.condF rfl c52 ?_
   refine FW.skip (FW.region ?_)
   refine FL.v (E.move k43) ?_
   refine FL.v (E.add rfl rfl) ?_
   refine FL.v (E.assign (v := Value.int .i64 (wr (((i22 : Nat) : Int) + 1))) rfl) ?_
   refine FL.nil ?_
   obtain rfl := Option.some.inj hp
   exact ⟨rfl, ⟨_, S39, i40, (nat_succ rfl (lt_of_get hx22) (p0.mono i40).le), k44, k45⟩⟩
 ·
  clear hp hq
  rintro s22 f63 w62 ⟨H59, S60, i61, k64, k65, k66⟩
  refine FW.seq (FW.seq (FW.region ?_))
  refine FL.v (E.move k64) ?_
  refine FL.v (E.move k65) ?_
  refine FL.v (E.lenP te50 rfl p0) ?_
  refine FL.v (E.lss rfl rfl) ?_
  refine FL.nil ?_
  refine FW.condF rfl dlt_len ?_
  refine FW.exit ?_
  exact ⟨nofun, rfl, ⟨_, S60, i61⟩⟩
 ·
  clear hq
  intro e f58 w57 hD
  rcases q22 with s22 | x22
  ·
   obtain ⟨rfl, hD⟩ := hD
   obtain ⟨H54, S55, i56⟩ := hD
   replace hp := el_go hp
   refine FW.seq (FW.region ?_)
   refine FL.v (E.assign (v := Value.bool false) rfl) ?_
   refine FL.nil ?_
   refine FW.ret ?_
   obtain rfl := Option.some.inj hp
   exact ⟨.inr rfl, res1 rfl rfl ⟨rfl, S55.back⟩⟩
  ·
   obtain ⟨he, hL⟩ := hD
   replace hp := el_rt hp
   obtain rfl := Option.some.inj hp
   subst he
   exact hL

theorem w_spec_l2Has {Ha : GH} {wa : World} (hs : Sl Ha wa) (v0 : Value) (a0 : List Int) (p0 : RSl Ha eI 1 v0 a0) (a1 : Int) {r : Bool} (hp : (PF.spec_l2Has a0 a1) = some r) :
  Calls Tryz.prog 96 #[v0, Value.int .i64 a1] wa (Sc Ha wa (Value.bool r)) := by
 unfold PF.spec_l2Has at hp
 have S0 := St.init hs
 refine calls_go (N := 8) (args := [v0, Value.int .i64 a1]) Tryz.func96 rfl rfl rfl ?_
 refine FW.seq (FW.region ?_)
 refine FL.v (E.assign (v := Value.bool false) rfl) ?_
 refine FL.nil (FW.seq (FW.region ?_))
 refine FL.v (E.move (v := v0) rfl) ?_
 refine FL.v (E.move (v := Value.int .i64 a1) rfl) ?_
 obtain ⟨r21, hr22, hp⟩ := bnd hp
 refine FL.call rfl rfl rfl (E.call Tryz.call107 (A2 rfl rfl)) (w_spec_l1Has S0.sl v0 a0 p0 a1 hr22) ?_
 rintro e w23 ⟨rfl, r24⟩
 refine ⟨_, rfl, ?_⟩
 have S25 := S0.call r24
 refine FL.v (E.assign (v := Value.bool r21) rfl) ?_
 refine FL.nil ?_
 refine FW.ret ?_
 obtain rfl := Option.some.inj hp
 exact ⟨.inr rfl, res1 rfl rfl ⟨rfl, S25.back⟩⟩

theorem w_spec_l2Sub {Ha : GH} {wa : World} (hs : Sl Ha wa) (v0 : Value) (a0 : List Int) (p0 : RSl Ha eI 1 v0 a0) (v1 : Value) (a1 : List Int) (p1 : RSl Ha eI 1 v1 a1) {r : Bool} (hp : (PF.spec_l2Sub a0 a1) = some r) :
  Calls Tryz.prog 82 #[v0, v1] wa (Sc Ha wa (Value.bool r)) := by
 unfold PF.spec_l2Sub at hp
 have S0 := St.init hs
 refine calls_go (N := 19) (args := [v0, v1]) Tryz.func82 rfl rfl rfl ?_
 refine FW.seq (FW.region ?_)
 refine FL.v (E.assign (v := Value.bool false) rfl) ?_
 refine FL.nil (FW.seq (FW.seq (FW.region ?_)))
 refine FL.v (E.assign (v := Value.int .i64 0) rfl) ?_
 refine FL.nil ?_
 obtain ⟨q22, hq, hp⟩ := bndR hp
 refine FW.block ?_
 refine FW.mono (FW.forL (S := Unit) (X := Bool) (fun (i22 : Nat) (s22 : Unit) f w => ∃ H : GH, St Ha wa H w [] ∧ Inc Ha H ∧ f 5 = Value.int .i64 ((i22 : Nat) : Int) ∧ f 0 = v0 ∧ f 1 = v1) (fun q e f w => match q with | .go s22 => e = Exit.exit 0 ∧ (∃ H : GH, St Ha wa H w [] ∧ Inc Ha H) | .rt x => ((e = Exit.ret) ∧ (fun e f w => (e = Exit.normal ∨ e = Exit.ret) ∧ ∀ a, Fr (δ := []) 19 a f → ∃ v, (results Tryz.f82 a.tmps).run Tryz.prog w = .ok v w ∧ (Sc Ha wa (Value.bool x)) (.returned v) w) e f w)) hq ⟨_, S0, (Inc.rfl _), rfl, rfl, rfl⟩ ?_ ?_) ?_
 ·
  clear hp hq
  rintro i22 y21 s22 f47 w46 ⟨H43, S44, i45, k48, k49, k50⟩ hx22 o63 hp
  refine FW.seq (FW.seq (FW.region ?_))
  refine FL.v (E.move k48) ?_
  refine FL.v (E.move k49) ?_
  refine FL.v (E.lenP te50 rfl p0) ?_
  refine FL.v (E.lssT rfl rfl (lss_len hx22)) ?_
  refine FL.nil ?_
  refine FW.condT rfl rfl ?_
  refine FW.skip (FW.seq (FW.block (FW.seq (FW.region ?_))))
  refine FL.v (E.move k50) ?_
  refine FL.v (E.move k49) ?_
  refine FL.v (E.move k48) ?_
  obtain ⟨p51, cs52, pt53, l54, at55, rel56⟩ := p0.at (ix_nat hx22)
  obtain rfl := eI_open rel56
  refine FL.v (E.indexAddr te50 rfl rfl pt53) ?_
  refine FL.v (E.load rfl (run_load0 Tryz.isAgg3 ((at55.mono i45).now S44.sl) rfl)) ?_
  obtain ⟨r57, hr58, hp⟩ := bnd hp
  refine FL.call rfl rfl rfl (E.call Tryz.call96 (A2 rfl rfl)) (w_spec_l2Has S44.sl v1 a1 (p1.mono i45) y21 hr58) ?_
  rintro e w59 ⟨rfl, r60⟩
  refine ⟨_, rfl, ?_⟩
  have S61 := S44.call r60
  refine FL.v (E.not rfl) ?_
  refine FL.nil ?_
  rcases ifB hp with ⟨c62, hp⟩ | ⟨c62, hp⟩
  ·
   refine FW.condT rfl c62 ?_
   refine FW.seq (FW.region ?_)
   refine FL.v (E.assign (v := Value.bool false) rfl) ?_
   refine FL.nil ?_
   refine FW.ret ?_
   obtain rfl := Option.some.inj hp
   exact ⟨nofun, rfl, ⟨.inr rfl, res1 rfl rfl ⟨rfl, S61.back⟩⟩⟩
  ·
   refine FW.condF rfl c62 ?_
   refine FW.skip (FW.region ?_)
   refine FL.v (E.move k48) ?_
   refine FL.v (E.add rfl rfl) ?_
   refine FL.v (E.assign (v := Value.int .i64 (wr (((i22 : Nat) : Int) + 1))) rfl) ?_
   refine FL.nil ?_
   obtain rfl := Option.some.inj hp
   exact ⟨rfl, ⟨_, S61, i45, (nat_succ rfl (lt_of_get hx22) (p0.mono i45).le), k49, k50⟩⟩
 ·
  clear hp hq
  rintro s22 f73 w72 ⟨H69, S70, i71, k74, k75, k76⟩
  refine FW.seq (FW.seq (FW.region ?_))
  refine FL.v (E.move k74) ?_
  refine FL.v (E.move k75) ?_
  refine FL.v (E.lenP te50 rfl p0) ?_
  refine FL.v (E.lss rfl rfl) ?_
  refine FL.nil ?_
  refine FW.condF rfl dlt_len ?_
  refine FW.exit ?_
  exact ⟨nofun, rfl, ⟨_, S70, i71⟩⟩
 ·
  clear hq
  intro e f68 w67 hD
  rcases q22 with s22 | x22
  ·
   obtain ⟨rfl, hD⟩ := hD
   obtain ⟨H64, S65, i66⟩ := hD
   replace hp := el_go hp
   refine FW.seq (FW.region ?_)
   refine FL.v (E.assign (v := Value.bool true) rfl) ?_
   refine FL.nil ?_
   refine FW.ret ?_
   obtain rfl := Option.some.inj hp
   exact ⟨.inr rfl, res1 rfl rfl ⟨rfl, S65.back⟩⟩
  ·
   obtain ⟨he, hL⟩ := hD
   replace hp := el_rt hp
   obtain rfl := Option.some.inj hp
   subst he
   exact hL

@[reducible] def p_spec_l2Without (Ha : GH) (wa : World) (r : (List Int)) : Ending → World → Prop :=
 fun e w' => ∃ H' : GH, ∃ v0 : Value, ∃ n0 : Nat, ∃ c0 : List Value, e = .returned (v0) ∧ St Ha wa H' w' [.row 3 1 v0 n0 c0] ∧ Els (up wa.heap.size H') eI 1 c0 r
set_option maxHeartbeats 4000000 in
theorem w_spec_l2Without {Ha : GH} {wa : World} (hs : Sl Ha wa) (v0 : Value) (a0 : List Int) (p0 : RSl Ha eI 1 v0 a0) (a1 : Int) {r : (List Int)} (hp : (PF.spec_l2Without a0 a1) = some r) :
  Calls Tryz.prog 98 #[v0, Value.int .i64 a1] wa (p_spec_l2Without Ha wa r) := by
 unfold PF.spec_l2Without at hp
 have S0 := St.init hs
 refine calls_go (N := 29) (args := [v0, Value.int .i64 a1]) Tryz.func98 rfl rfl rfl ?_
 refine FW.seq (FW.region ?_)
 refine FL.v (E.assign (v := Value.slice none 0 0) rfl) ?_
 refine FL.nil (FW.seq (FW.region ?_))
 obtain ⟨v21, w22, run23, S24⟩ := S0.buildSlice (P := Tryz.prog) te50 [] (parts := #[]) (cells := []) rfl szs_nil fc_nil ones_nil (Nat.le_of_ble_eq_true rfl)
 have els25 : Els (up wa.heap.size Ha) eI 1 [] [] := Els.nil
 refine FL.v (E.buildSlice (B0) run23) ?_
 refine FL.v (E.assign (v := v21) rfl) ?_
 refine FL.nil (FW.seq (FW.seq (FW.region ?_)))
 refine FL.v (E.assign (v := Value.int .i64 0) rfl) ?_
 refine FL.nil ?_
 obtain ⟨q27, hq, hp⟩ := bndR hp
 refine FW.block ?_
 refine FW.mono (FW.forL (S := (List Int)) (X := Empty) (fun (i27 : Nat) (s27 : (List Int)) f w => ∃ H : GH, ∃ v28 : Value, ∃ n29 : Nat, ∃ cs30 : List Value, St Ha wa H w [.row 3 1 v28 n29 cs30] ∧ Inc Ha H ∧ Els (up wa.heap.size H) eI 1 cs30 s27 ∧ f 6 = Value.int .i64 ((i27 : Nat) : Int) ∧ f 0 = v0 ∧ f 1 = Value.int .i64 a1 ∧ f 5 = v28) (fun (q : Rs (List Int) Empty) e f w => match q with | .go s27 => e = Exit.exit 0 ∧ (∃ H : GH, ∃ v28 : Value, ∃ n29 : Nat, ∃ cs30 : List Value, St Ha wa H w [.row 3 1 v28 n29 cs30] ∧ Inc Ha H ∧ Els (up wa.heap.size H) eI 1 cs30 s27 ∧ f 5 = v28) | .rt x => x.elim) hq ⟨_, _, _, _, S24, (Inc.rfl _), els25, rfl, rfl, rfl, rfl⟩ ?_ ?_) ?_
 ·
  clear hp hq
  rintro i27 y26 s27 f77 w76 ⟨H73, v28, n29, cs30, S74, i75, els31, k78, k79, k80, k81⟩ hx27 o114 hp
  refine FW.seq (FW.seq (FW.region ?_))
  refine FL.v (E.move k78) ?_
  refine FL.v (E.move k79) ?_
  refine FL.v (E.lenP te50 rfl p0) ?_
  refine FL.v (E.lssT rfl rfl (lss_len hx27)) ?_
  refine FL.nil ?_
  refine FW.condT rfl rfl ?_
  refine FW.skip (FW.seq (FW.block (FW.seq (FW.region ?_))))
  refine FL.v (E.move k79) ?_
  refine FL.v (E.move k78) ?_
  obtain ⟨p82, cs83, pt84, l85, at86, rel87⟩ := p0.at (ix_nat hx27)
  obtain rfl := eI_open rel87
  refine FL.v (E.indexAddr te50 rfl rfl pt84) ?_
  refine FL.v (E.load rfl (run_load0 Tryz.isAgg3 ((at86.mono i75).now S74.sl) rfl)) ?_
  refine FL.call rfl rfl rfl (E.call Tryz.call95 (A1 rfl)) (w_spec_l2Var S74.sl y26) ?_
  rintro e w88 ⟨rfl, r89⟩
  refine ⟨_, rfl, ?_⟩
  have S90 := S74.call r89
  refine FL.v (E.move k80) ?_
  refine FL.v (E.neq rfl rfl) ?_
  refine FL.nil ?_
  rcases ifB hp with ⟨c91, hp⟩ | ⟨c91, hp⟩
  ·
   refine FW.condT rfl c91 ?_
   refine FW.region ?_
   refine FL.v (E.move k81) ?_
   refine FL.v (E.move k79) ?_
   refine FL.v (E.move k78) ?_
   obtain ⟨p92, cs93, pt94, l95, at96, rel97⟩ := p0.at (ix_nat hx27)
   obtain rfl := eI_open rel97
   refine FL.v (E.indexAddr te50 rfl rfl pt94) ?_
   refine FL.v (E.load rfl (run_load0 Tryz.isAgg3 ((at96.mono i75).now S90.sl) rfl)) ?_
   obtain ⟨v98, w99, run100, S101, els102⟩ := S90.ints (P := Tryz.prog) te50 (up wa.heap.size H73) 1 [y26]
   refine FL.v (E.buildSlice (B1 rfl) run100) ?_
   obtain ⟨xs103, hz104, hp⟩ := bnd hp
   obtain ⟨v105, w108, n106, cs107, run109, S110, els111, ce112⟩ := S101.appendO (P := Tryz.prog) te50 (i := 1) (j := 0) rfl els31 rfl els102 hz104
   have S110 : St Ha wa H73 w108 [.row 3 1 v98 1 (iC [y26]), .row 3 1 v105 n106 cs107] := S110
   have S113 : St Ha wa H73 w108 [.row 3 1 v105 n106 cs107] := S110.drop 0
   refine FL.v (E.append rfl rfl run109) ?_
   refine FL.v (E.assign (v := v105) rfl) ?_
   refine FL.nil (FW.region ?_)
   refine FL.v (E.move k78) ?_
   refine FL.v (E.add rfl rfl) ?_
   refine FL.v (E.assign (v := Value.int .i64 (wr (((i27 : Nat) : Int) + 1))) rfl) ?_
   refine FL.nil ?_
   obtain rfl := Option.some.inj hp
   exact ⟨rfl, ⟨_, _, _, _, S113, i75, els111, (nat_succ rfl (lt_of_get hx27) (p0.mono i75).le), k79, k80, rfl⟩⟩
  ·
   refine FW.condF rfl c91 ?_
   refine FW.skip (FW.region ?_)
   refine FL.v (E.move k78) ?_
   refine FL.v (E.add rfl rfl) ?_
   refine FL.v (E.assign (v := Value.int .i64 (wr (((i27 : Nat) : Int) + 1))) rfl) ?_
   refine FL.nil ?_
   obtain rfl := Option.some.inj hp
   exact ⟨rfl, ⟨_, _, _, _, S90, i75, els31, (nat_succ rfl (lt_of_get hx27) (p0.mono i75).le), k79, k80, k81⟩⟩
 ·
  clear hp hq
  rintro s27 f125 w124 ⟨H121, v28, n29, cs30, S122, i123, els31, k126, k127, k128, k129⟩
  refine FW.seq (FW.seq (FW.region ?_))
  refine FL.v (E.move k126) ?_
  refine FL.v (E.move k127) ?_
  refine FL.v (E.lenP te50 rfl p0) ?_
  refine FL.v (E.lss rfl rfl) ?_
  refine FL.nil ?_
  refine FW.condF rfl dlt_len ?_
  refine FW.exit ?_
  exact ⟨nofun, rfl, ⟨_, _, _, _, S122, i123, els31, k129⟩⟩
 ·
  clear hq
  intro e f119 w118 hD
  rcases q27 with s27 | x27
  ·
   obtain ⟨rfl, hD⟩ := hD
   obtain ⟨H115, v28, n29, cs30, S116, i117, els31, k120⟩ := hD
   replace hp := el_go hp
   refine FW.seq (FW.region ?_)
   refine FL.v (E.move k120) ?_
   refine FL.v (E.assign (v := v28) rfl) ?_
   refine FL.nil ?_
   refine FW.ret ?_
   obtain rfl := Option.some.inj hp
   exact ⟨.inr rfl, res1 rfl rfl ⟨_, _, _, _, rfl, S116, els31⟩⟩
  ·
   exact x27.elim

@[reducible] def p_spec_l1Own (Ha : GH) (wa : World) (r : (List Int)) : Ending → World → Prop :=
 fun e w' => ∃ H' : GH, ∃ v0 : Value, ∃ n0 : Nat, ∃ c0 : List Value, e = .returned (v0) ∧ St Ha wa H' w' [.row 3 1 v0 n0 c0] ∧ Els (up wa.heap.size H') eI 1 c0 r
theorem w_spec_l1Own {Ha : GH} {wa : World} (hs : Sl Ha wa) (v0 : Value) (a0 : List Int) (p0 : RSl Ha eI 1 v0 a0) {r : (List Int)} (hp : (PF.spec_l1Own a0) = some r) :
  Calls Tryz.prog 108 #[v0] wa (p_spec_l1Own Ha wa r) := by
 unfold PF.spec_l1Own at hp
 have S0 := St.init hs
 refine calls_go (N := 6) (args := [v0]) Tryz.func108 rfl rfl rfl ?_
 refine FW.seq (FW.region ?_)
 refine FL.v (E.assign (v := Value.slice none 0 0) rfl) ?_
 refine FL.nil (FW.seq (FW.region ?_))
 obtain ⟨v21, w22, run23, S24⟩ := S0.buildSlice (P := Tryz.prog) te50 [] (parts := #[]) (cells := []) rfl szs_nil fc_nil ones_nil (Nat.le_of_ble_eq_true rfl)
 have els25 : Els (up wa.heap.size Ha) eI 1 [] [] := Els.nil
 refine FL.v (E.buildSlice (B0) run23) ?_
 refine FL.v (E.move (v := v0) rfl) ?_
 obtain ⟨xs26, hz27, hp⟩ := bnd hp
 obtain ⟨v28, w31, n29, cs30, run32, S33, els34⟩ := S24.appendP (P := Tryz.prog) (Inc.rfl _) te50 (i := 0) rfl (els25.mono upI) p0 hz27
 have S33 : St Ha wa Ha w31 [.row 3 1 v28 n29 cs30] := S33
 have els34 : Els (up wa.heap.size Ha) eI 1 cs30 xs26 := els34.any (fun _ _ _ _ h => h)
 refine FL.v (E.append rfl rfl run32) ?_
 refine FL.v (E.assign (v := v28) rfl) ?_
 refine FL.nil ?_
 refine FW.ret ?_
 obtain rfl := Option.some.inj hp
 exact ⟨.inr rfl, res1 rfl rfl ⟨_, _, _, _, rfl, S33, els34⟩⟩

@[reducible] def p_spec_l2Put (Ha : GH) (wa : World) (r : (List Int)) : Ending → World → Prop :=
 fun e w' => ∃ H' : GH, ∃ v0 : Value, ∃ n0 : Nat, ∃ c0 : List Value, e = .returned (v0) ∧ St Ha wa H' w' [.row 3 1 v0 n0 c0] ∧ Els (up wa.heap.size H') eI 1 c0 r
set_option maxHeartbeats 4000000 in
theorem w_spec_l2Put {Ha : GH} {wa : World} (hs : Sl Ha wa) (v0 : Value) (a0 : List Int) (p0 : RSl Ha eI 1 v0 a0) (a1 : Int) {r : (List Int)} (hp : (PF.spec_l2Put a0 a1) = some r) :
  Calls Tryz.prog 109 #[v0, Value.int .i64 a1] wa (p_spec_l2Put Ha wa r) := by
 unfold PF.spec_l2Put at hp
 have S0 := St.init hs
 refine calls_go (N := 33) (args := [v0, Value.int .i64 a1]) Tryz.func109 rfl rfl rfl ?_
 refine FW.seq (FW.region ?_)
 refine FL.v (E.assign (v := Value.slice none 0 0) rfl) ?_
 refine FL.nil (FW.seq (FW.region ?_))
 refine FL.v (E.assign (v := Value.int .i64 0) rfl) ?_
 refine FL.nil (FW.seq ?_)
 obtain ⟨q21, hq, hp⟩ := bndR hp
 refine FW.block ?_
 refine FW.mono (FW.iter (S := Int) (X := Empty) (fun (s21 : Int) f w => ∃ H : GH, St Ha wa H w [] ∧ Inc Ha H ∧ f 0 = v0 ∧ f 1 = Value.int .i64 a1 ∧ f 5 = Value.int .i64 s21) (fun (q : Rs Int Empty) e f w => match q with | .go s21 => e = Exit.exit 0 ∧ (∃ H : GH, St Ha wa H w [] ∧ Inc Ha H ∧ f 0 = v0 ∧ f 1 = Value.int .i64 a1 ∧ f 5 = Value.int .i64 s21) | .rt x => x.elim) hq ⟨_, S0, (Inc.rfl _), rfl, rfl, rfl⟩ ?_) ?_
 ·
  clear hp hq
  rintro s21 f74 w73 ⟨H70, S71, i72, k75, k76, k77⟩ o118 hp
  refine FW.seq (FW.seq (FW.region ?_))
  refine FL.v (E.move k77) ?_
  refine FL.v (E.move k75) ?_
  refine FL.v (E.lenP te50 rfl p0) ?_
  refine FL.v (E.lss rfl rfl) ?_
  refine FL.v (E.move (v := Value.bool (decide (s21 < (len a0)))) rfl) ?_
  obtain ⟨t92, hqt92, hp⟩ := bnd hp
  refine FL.cut 9 (fun f w => ∃ H : GH, St Ha wa H w [] ∧ Inc H70 H ∧ f 0 = v0 ∧ f 1 = Value.int .i64 a1 ∧ f 5 = Value.int .i64 s21 ∧ f 19 = Value.bool t92) ?_ ?_
  ·
   clear hp; have hp := hqt92; clear hqt92
   rcases ifB hp with ⟨c98, hp⟩ | ⟨c98, hp⟩
   ·
    refine FL.val (wF_yes rfl rfl rfl c98) rfl rfl (E.move k75) ?_
    refine FL.val (wF_yes rfl rfl rfl c98) rfl rfl (E.move k77) ?_
    obtain ⟨x105, hx106, hp⟩ := bnd hp
    obtain ⟨p99, cs100, pt101, l102, at103, rel104⟩ := p0.at hx106
    obtain rfl := eI_open rel104
    refine FL.val (wF_yes rfl rfl rfl c98) rfl rfl (E.indexAddr te50 rfl rfl pt101) ?_
    refine FL.val (wF_yes rfl rfl rfl c98) rfl rfl (E.load rfl (run_load0 Tryz.isAgg3 ((at103.mono i72).now S71.sl) rfl)) ?_
    refine FL.call (wF_yes rfl rfl rfl c98) rfl rfl (E.call Tryz.call95 (A1 rfl)) (w_spec_l2Var S71.sl x105) ?_
    rintro e w107 ⟨rfl, r108⟩
    refine ⟨_, rfl, ?_⟩
    have S109 := S71.call r108
    refine FL.val (wF_yes rfl rfl rfl c98) rfl rfl (E.move k76) ?_
    refine FL.call (wF_yes rfl rfl rfl c98) rfl rfl (E.call Tryz.call95 (A1 rfl)) (w_spec_l2Var S109.sl a1) ?_
    rintro e w110 ⟨rfl, r111⟩
    refine ⟨_, rfl, ?_⟩
    have S112 := S109.call r111
    refine FL.val (wF_yes rfl rfl rfl c98) rfl rfl (E.lss rfl rfl) ?_
    obtain rfl := Option.some.inj hp
    refine FL.v (E.pickT rfl c98 rfl) ?_
    exact FL.nil ⟨rfl, _, S112, (Inc.rfl _), k75, k76, k77, rfl⟩
   ·
    refine FL.skip (wF_no rfl rfl rfl c98) rfl ?_
    refine FL.skip (wF_no rfl rfl rfl c98) rfl ?_
    refine FL.skip (wF_no rfl rfl rfl c98) rfl ?_
    refine FL.skip (wF_no rfl rfl rfl c98) rfl ?_
    refine FL.skip (wF_no rfl rfl rfl c98) rfl ?_
    refine FL.skip (wF_no rfl rfl rfl c98) rfl ?_
    refine FL.skip (wF_no rfl rfl rfl c98) rfl ?_
    refine FL.skip (wF_no rfl rfl rfl c98) rfl ?_
    obtain rfl := Option.some.inj hp
    refine FL.v (E.pickF rfl c98 rfl) ?_
    exact FL.nil ⟨rfl, _, S71, (Inc.rfl _), k75, k76, k77, rfl⟩
  rintro f97 w96 ⟨H93, S94, i95, k113, k114, k115, k116⟩
  refine FL.nil ?_
  rcases ifB hp with ⟨c117, hp⟩ | ⟨c117, hp⟩
  ·
   refine FW.condT k116 c117 ?_
   refine FW.skip (FW.block (FW.region ?_))
   refine FL.v (E.move k115) ?_
   refine FL.v (E.add rfl rfl) ?_
   refine FL.v (E.assign (v := Value.int .i64 (wr (s21 + 1))) rfl) ?_
   refine FL.nil ?_
   obtain rfl := Option.some.inj hp
   exact ⟨rfl, ⟨_, S94, (i72.tr i95), k113, k114, rfl⟩⟩
  ·
   refine FW.condF k116 c117 ?_
   refine FW.exit ?_
   obtain rfl := Option.some.inj hp
   exact ⟨nofun, rfl, ⟨_, S94, (i72.tr i95), k113, k114, k115⟩⟩
 ·
  clear hq
  intro e f123 w122 hD
  rcases q21 with s21 | x21
  ·
   obtain ⟨rfl, hD⟩ := hD
   obtain ⟨H119, S120, i121, k124, k125, k126⟩ := hD
   replace hp := el_go hp
   refine FW.seq ?_
   obtain ⟨xs22, hc23, hp⟩ := bnd hp
   obtain ⟨r27, hr28, hp⟩ := bnd hp
   obtain ⟨xs42, hz43, hp⟩ := bnd hp
   obtain ⟨xs54, hc55, hp⟩ := bnd hp
   obtain ⟨xs59, hz60, hp⟩ := bnd hp
   refine FW.drawB (Sl H119) (fun f w => ∃ H : GH, ∃ v68 : Value, ∃ n69 : Nat, ∃ cs78 : List Value, St Ha wa H w [.row 3 1 v68 n69 cs78] ∧ Inc H119 H ∧ Els (up wa.heap.size H) eI 1 cs78 xs59 ∧ f 4 = v68) (by kernel_rfl) S120.sl ?_ ?_
   ·
    intro w127 r128
    have S129 := S120.call r128
    refine FB.t (i := 0) (bs 12 1) rfl (SP.nil S129.sl) rfl (fun w' hw' => (E.move k124)) ?_
    refine FB.t (i := 1) (bs 12 3) rfl (SP.nil S129.sl) rfl (fun w' hw' => (E.move k126)) ?_
    obtain ⟨v24, run25, h26⟩ := p0.cut te50 hc23 (lo := none) (hi := some (Value.int .i64 s21)) (.inl ⟨rfl, rfl⟩) (.inr ⟨_, rfl⟩)
    refine FB.t (i := 2) (bs 12 7) rfl (SP.nil S129.sl) rfl (fun w' hw' => (E.slice te50 rfl rfl (congrArg some rfl) rfl (run25 _))) ?_
    refine FB.t (i := 4) (bs 12 23) rfl (SP.nil S129.sl) rfl (fun w' hw' => (E.move k125)) ?_
    refine FB.t (i := 7) (bs 12 151) rfl (SP.nil S129.sl) rfl (fun w' hw' => (E.move k124)) ?_
    refine FB.t (i := 8) (bs 12 407) rfl (SP.nil S129.sl) rfl (fun w' hw' => (E.move k126)) ?_
    obtain ⟨v56, run57, h58⟩ := p0.cut te50 hc55 (lo := some (Value.int .i64 s21)) (hi := none) (.inr ⟨_, rfl⟩) (.inl ⟨rfl, rfl⟩)
    refine FB.t (i := 9) (bs 12 919) rfl (SP.nil S129.sl) rfl (fun w' hw' => (E.slice te50 rfl (congrArg some rfl) rfl rfl (run57 _))) ?_
    refine FB.all2 (i := 3) (j := 5) (by kernel_rfl) ?_ ?_
    ·
     refine FC.call (l' := (bs 12 927)) rfl (by kernel_rfl) rfl rfl rfl (E.call Tryz.call108 (A1 rfl)) (w_spec_l1Own S129.sl v24 xs22 (h26.mono i121) hr28) ?_
     rintro e w30 ⟨H29, v33, n34, cs35, rfl, r32, els36⟩
     refine ⟨_, rfl, ?_⟩
     have els36 := els36.mono (up_le S129.size)
     have S31 := S129.join (l' := [.row 3 1 v33 n34 cs35]) r32 rfl
     refine ⟨(SP.nil (Sl.of_inc r32.run.inc S31.sl)), ?_⟩
     refine FB.all1 (i := 5) (by kernel_rfl) ?_
     ·
      obtain ⟨v37, w38, run39, S40, els41⟩ := S31.ints (P := Tryz.prog) te50 (up wa.heap.size H29) 1 [a1]
      refine FC.val (l' := (bs 12 959)) rfl (by kernel_rfl) rfl rfl rfl (E.buildSlice (B1 rfl) run39) ?_
      refine ⟨(SP.nil (Sl.of_inc r32.run.inc S40.sl)), ?_⟩
      refine FB.all1 (i := 6) (by kernel_rfl) ?_
      ·
       obtain ⟨v44, w47, n45, cs46, run48, S49, els51, ce52⟩ := S40.appendO (P := Tryz.prog) te50 (i := 1) (j := 0) rfl els36 rfl els41 hz43
       have S49 : St Ha wa H29 w47 [.row 3 1 v37 1 (iC [a1]), .row 3 1 v44 n45 cs46] := S49
       have S53 : St Ha wa H29 w47 [.row 3 1 v44 n45 cs46] := S49.drop 0
       refine FC.val (l' := (bs 12 1023)) rfl (by kernel_rfl) rfl rfl rfl (E.append rfl rfl run48) ?_
       refine ⟨(SP.nil (Sl.of_inc r32.run.inc S53.sl)), ?_⟩
       refine FB.all1 (i := 10) (by kernel_rfl) ?_
       ·
        obtain ⟨v61, w64, n62, cs63, run65, S66, els67⟩ := S53.appendP (P := Tryz.prog) (Inc.rfl _) te50 (i := 0) rfl (els51.mono upI) (h58.mono (i121.tr r32.run.inc)) hz60
        have S66 : St Ha wa H29 w64 [.row 3 1 v61 n62 cs63] := S66
        have els67 : Els (up wa.heap.size H29) eI 1 cs63 xs59 := els67.any (fun _ _ _ _ h => h)
        refine FC.val (l' := (bs 12 2047)) rfl (by kernel_rfl) rfl rfl rfl (E.append rfl rfl run65) ?_
        refine ⟨(SP.nil (Sl.of_inc r32.run.inc S66.sl)), ?_⟩
        refine FB.t (i := 11) (bs 12 4095) rfl (SP.nil (Sl.of_inc r32.run.inc S66.sl)) rfl (fun w' hw' => (E.assign (v := v61) rfl)) ?_
        exact FB.done (by kernel_rfl) ⟨_, _, _, _, S66, r32.run.inc, els67, rfl⟩
    ·
     obtain ⟨v37, w38, run39, S40, els41⟩ := S129.ints (P := Tryz.prog) te50 (up wa.heap.size H119) 1 [a1]
     refine FC.val (l' := (bs 12 951)) rfl (by kernel_rfl) rfl rfl rfl (E.buildSlice (B1 rfl) run39) ?_
     refine ⟨(SP.nil S40.sl), ?_⟩
     refine FB.all1 (i := 3) (by kernel_rfl) ?_
     ·
      refine FC.call (l' := (bs 12 959)) rfl (by kernel_rfl) rfl rfl rfl (E.call Tryz.call108 (A1 rfl)) (w_spec_l1Own S40.sl v24 xs22 (h26.mono i121) hr28) ?_
      rintro e w30 ⟨H29, v33, n34, cs35, rfl, r32, els36⟩
      refine ⟨_, rfl, ?_⟩
      have els36 := els36.mono (up_le S40.size)
      have S31 := S40.join (l' := [.row 3 1 v33 n34 cs35, .row 3 1 v37 1 (iC [a1])]) r32 rfl
      refine ⟨(SP.nil (Sl.of_inc r32.run.inc S31.sl)), ?_⟩
      refine FB.all1 (i := 6) (by kernel_rfl) ?_
      ·
       obtain ⟨v44, w47, n45, cs46, run48, S49, els51, ce52⟩ := S31.appendO (P := Tryz.prog) te50 (i := 0) (j := 1) rfl els36 rfl (els41.mono (up_mono r32.run.inc)) hz43
       have S49 : St Ha wa H29 w47 [.row 3 1 v44 n45 cs46, .row 3 1 v37 1 (iC [a1])] := S49
       have S53 : St Ha wa H29 w47 [.row 3 1 v44 n45 cs46] := S49.drop 1
       refine FC.val (l' := (bs 12 1023)) rfl (by kernel_rfl) rfl rfl rfl (E.append rfl rfl run48) ?_
       refine ⟨(SP.nil (Sl.of_inc r32.run.inc S53.sl)), ?_⟩
       refine FB.all1 (i := 10) (by kernel_rfl) ?_
       ·
        obtain ⟨v61, w64, n62, cs63, run65, S66, els67⟩ := S53.appendP (P := Tryz.prog) (Inc.rfl _) te50 (i := 0) rfl (els51.mono upI) (h58.mono (i121.tr r32.run.inc)) hz60
        have S66 : St Ha wa H29 w64 [.row 3 1 v61 n62 cs63] := S66
        have els67 : Els (up wa.heap.size H29) eI 1 cs63 xs59 := els67.any (fun _ _ _ _ h => h)
        refine FC.val (l' := (bs 12 2047)) rfl (by kernel_rfl) rfl rfl rfl (E.append rfl rfl run65) ?_
        refine ⟨(SP.nil (Sl.of_inc r32.run.inc S66.sl)), ?_⟩
        refine FB.t (i := 11) (bs 12 4095) rfl (SP.nil (Sl.of_inc r32.run.inc S66.sl)) rfl (fun w' hw' => (E.assign (v := v61) rfl)) ?_
        exact FB.done (by kernel_rfl) ⟨_, _, _, _, S66, r32.run.inc, els67, rfl⟩
   ·
    rintro f84 w83 ⟨H80, v68, n69, cs78, S81, i82, els79, k85⟩
    refine FW.ret ?_
    obtain rfl := Option.some.inj hp
    exact ⟨.inr rfl, res1 rfl k85 ⟨_, _, _, _, rfl, S81, els79⟩⟩
  ·
   exact x21.elim

@[reducible] def p_spec_l2Join (Ha : GH) (wa : World) (r : ((List Int) × Bool)) : Ending → World → Prop :=
 fun e w' => ∃ H' : GH, ∃ v0 : Value, ∃ n0 : Nat, ∃ c0 : List Value, e = .returned (Value.tuple #[v0, Value.bool r.2]) ∧ St Ha wa H' w' [.row 3 1 v0 n0 c0] ∧ Els (up wa.heap.size H') eI 1 c0 r.1
set_option maxHeartbeats 4000000 in
theorem w_spec_l2Join {Ha : GH} {wa : World} (hs : Sl Ha wa) (v0 : Value) (a0 : List Int) (p0 : RSl Ha eI 1 v0 a0) (v1 : Value) (a1 : List Int) (p1 : RSl Ha eI 1 v1 a1) {r : ((List Int) × Bool)} (hp : (PF.spec_l2Join a0 a1) = some r) :
  Calls Tryz.prog 97 #[v0, v1] wa (p_spec_l2Join Ha wa r) := by
 unfold PF.spec_l2Join at hp
 have S0 := St.init hs
 refine calls_go (N := 38) (args := [v0, v1]) Tryz.func97 rfl rfl rfl ?_
 refine FW.seq (FW.region ?_)
 refine FL.v (E.assign (v := Value.slice none 0 0) rfl) ?_
 refine FL.v (E.assign (v := Value.bool false) rfl) ?_
 refine FL.nil (FW.seq (FW.region ?_))
 refine FL.v (E.move (v := v0) rfl) ?_
 obtain ⟨r21, hr22, hp⟩ := bnd hp
 refine FL.call rfl rfl rfl (E.call Tryz.call108 (A1 rfl)) (w_spec_l1Own S0.sl v0 a0 p0 hr22) ?_
 rintro e w24 ⟨H23, v27, n28, cs29, rfl, r26, els30⟩
 refine ⟨_, rfl, ?_⟩
 have els30 := els30.mono (up_le S0.size)
 have S25 := S0.join (l' := [.row 3 1 v27 n28 cs29]) r26 rfl
 refine FL.v (E.assign (v := v27) rfl) ?_
 refine FL.nil (FW.seq (FW.seq (FW.region ?_)))
 refine FL.v (E.assign (v := Value.int .i64 0) rfl) ?_
 refine FL.nil ?_
 obtain ⟨q32, hq, hp⟩ := bndR hp
 refine FW.block ?_
 refine FW.mono (FW.forL (S := (List Int)) (X := ((List Int) × Bool)) (fun (i32 : Nat) (s32 : (List Int)) f w => ∃ H : GH, ∃ v107 : Value, ∃ n108 : Nat, ∃ cs109 : List Value, St Ha wa H w [.row 3 1 v107 n108 cs109] ∧ Inc H23 H ∧ Els (up wa.heap.size H) eI 1 cs109 s32 ∧ f 7 = Value.int .i64 ((i32 : Nat) : Int) ∧ f 1 = v1 ∧ f 6 = v107) (fun q e f w => match q with | .go s32 => e = Exit.exit 0 ∧ (∃ H : GH, ∃ v107 : Value, ∃ n108 : Nat, ∃ cs109 : List Value, St Ha wa H w [.row 3 1 v107 n108 cs109] ∧ Inc H23 H ∧ Els (up wa.heap.size H) eI 1 cs109 s32 ∧ f 6 = v107) | .rt x => ((e = Exit.ret) ∧ (fun e f w => (e = Exit.normal ∨ e = Exit.ret) ∧ ∀ a, Fr (δ := []) 38 a f → ∃ v, (results Tryz.f97 a.tmps).run Tryz.prog w = .ok v w ∧ (p_spec_l2Join Ha wa x) (.returned v) w) e f w)) hq ⟨_, _, _, _, S25, (Inc.rfl _), els30, rfl, rfl, rfl⟩ ?_ ?_) ?_
 ·
  clear hp hq
  rintro i32 y31 s32 f185 w184 ⟨H181, v107, n108, cs109, S182, i183, els110, k186, k187, k188⟩ hx32 o251 hp
  refine FW.seq (FW.seq (FW.region ?_))
  refine FL.v (E.move k186) ?_
  refine FL.v (E.move k187) ?_
  refine FL.v (E.lenP te50 rfl p1) ?_
  refine FL.v (E.lssT rfl rfl (lss_len hx32)) ?_
  refine FL.nil ?_
  refine FW.condT rfl rfl ?_
  refine FW.skip (FW.seq (FW.block (FW.seq (FW.seq (FW.region ?_)))))
  refine FL.v (E.move k188) ?_
  refine FL.v (E.move k187) ?_
  refine FL.v (E.move k186) ?_
  obtain ⟨p189, cs190, pt191, l192, at193, rel194⟩ := p1.at (ix_nat hx32)
  obtain rfl := eI_open rel194
  refine FL.v (E.indexAddr te50 rfl rfl pt191) ?_
  refine FL.v (E.load rfl (run_load0 Tryz.isAgg3 ((at193.mono (r26.run.inc.tr i183)).now S182.sl) rfl)) ?_
  refine FL.v (E.neg rfl) ?_
  obtain ⟨H195, S196, i197, h198, nv199⟩ := S182.sealRowU (i := 0) (l' := []) rfl els110 (by decide) rfl
  obtain ⟨r200, hr201, hp⟩ := bnd hp
  refine FL.call rfl rfl rfl (E.call Tryz.call96 (A2 rfl rfl)) (w_spec_l2Has S196.sl v107 s32 (h198.mono upI) (wr (-y31)) hr201) ?_
  rintro e w202 ⟨rfl, r203⟩
  refine ⟨_, rfl, ?_⟩
  have r203 := Run.lend i197 S182.sl r203
  have S204 := S182.call r203
  refine FL.nil ?_
  rcases ifB hp with ⟨c205, hp⟩ | ⟨c205, hp⟩
  ·
   refine FW.condT rfl c205 ?_
   refine FW.seq (FW.region ?_)
   obtain ⟨v206, w207, run208, S209⟩ := S204.buildSlice (P := Tryz.prog) te50 [] (parts := #[]) (cells := []) rfl szs_nil fc_nil ones_nil (Nat.le_of_ble_eq_true rfl)
   have els210 : Els (up wa.heap.size H181) eI 1 [] [] := Els.nil
   refine FL.v (E.buildSlice (B0) run208) ?_
   refine FL.v (E.assign (v := v206) rfl) ?_
   refine FL.v (E.assign (v := Value.bool false) rfl) ?_
   refine FL.nil ?_
   refine FW.ret ?_
   obtain rfl := Option.some.inj hp
   exact ⟨nofun, rfl, ⟨.inr rfl, res2 rfl rfl rfl ⟨_, _, _, _, rfl, (S209.sel [0] (by decide) rfl), els210⟩⟩⟩
  ·
   refine FW.condF rfl c205 ?_
   refine FW.skip (FW.seq (FW.region ?_))
   refine FL.v (E.move k188) ?_
   refine FL.v (E.move k187) ?_
   refine FL.v (E.move k186) ?_
   obtain ⟨p211, cs212, pt213, l214, at215, rel216⟩ := p1.at (ix_nat hx32)
   obtain rfl := eI_open rel216
   refine FL.v (E.indexAddr te50 rfl rfl pt213) ?_
   refine FL.v (E.load rfl (run_load0 Tryz.isAgg3 ((at215.mono (r26.run.inc.tr i183)).now S204.sl) rfl)) ?_
   obtain ⟨H217, S218, i219, h220, nv221⟩ := S204.sealRowU (i := 0) (l' := []) rfl els110 (by decide) rfl
   obtain ⟨r222, hr223, hp⟩ := bnd hp
   refine FL.call rfl rfl rfl (E.call Tryz.call96 (A2 rfl rfl)) (w_spec_l2Has S218.sl v107 s32 (h220.mono upI) y31 hr223) ?_
   rintro e w224 ⟨rfl, r225⟩
   refine ⟨_, rfl, ?_⟩
   have r225 := Run.lend i219 S204.sl r225
   have S226 := S204.call r225
   refine FL.v (E.not rfl) ?_
   refine FL.nil ?_
   rcases ifB hp with ⟨c227, hp⟩ | ⟨c227, hp⟩
   ·
    refine FW.condT rfl c227 ?_
    refine FW.region ?_
    refine FL.v (E.move k188) ?_
    refine FL.v (E.move k187) ?_
    refine FL.v (E.move k186) ?_
    obtain ⟨p228, cs229, pt230, l231, at232, rel233⟩ := p1.at (ix_nat hx32)
    obtain rfl := eI_open rel233
    refine FL.v (E.indexAddr te50 rfl rfl pt230) ?_
    refine FL.v (E.load rfl (run_load0 Tryz.isAgg3 ((at232.mono (r26.run.inc.tr i183)).now S226.sl) rfl)) ?_
    obtain ⟨H234, S235, i236, h237, nv238⟩ := S226.sealRowU (i := 0) (l' := []) rfl els110 (by decide) rfl
    obtain ⟨r239, hr240, hp⟩ := bnd hp
    refine FL.call rfl rfl rfl (E.call Tryz.call109 (A2 rfl rfl)) (w_spec_l2Put S235.sl v107 s32 (h237.mono upI) y31 hr240) ?_
    rintro e w242 ⟨H241, v247, n248, cs249, rfl, r244, els250⟩
    refine ⟨_, rfl, ?_⟩
    obtain ⟨H245, r244, hU246⟩ := St.lendX i236 S226.sl r244
    have els250 := els250.mono (hU246.tr (up_le S226.size))
    have S243 := S226.join (l' := [.row 3 1 v247 n248 cs249, .row 3 1 v107 n108 cs109]) r244 rfl
    refine FL.v (E.assign (v := v247) rfl) ?_
    refine FL.nil (FW.region ?_)
    refine FL.v (E.move k186) ?_
    refine FL.v (E.add rfl rfl) ?_
    refine FL.v (E.assign (v := Value.int .i64 (wr (((i32 : Nat) : Int) + 1))) rfl) ?_
    refine FL.nil ?_
    obtain rfl := Option.some.inj hp
    exact ⟨rfl, ⟨_, _, _, _, (S243.sel [0] (by decide) rfl), (i183.tr r244.run.inc), els250, (nat_succ rfl (lt_of_get hx32) (p1.mono ((r26.run.inc.tr i183).tr r244.run.inc)).le), k187, rfl⟩⟩
   ·
    refine FW.condF rfl c227 ?_
    refine FW.skip (FW.region ?_)
    refine FL.v (E.move k186) ?_
    refine FL.v (E.add rfl rfl) ?_
    refine FL.v (E.assign (v := Value.int .i64 (wr (((i32 : Nat) : Int) + 1))) rfl) ?_
    refine FL.nil ?_
    obtain rfl := Option.some.inj hp
    exact ⟨rfl, ⟨_, _, _, _, S226, i183, els110, (nat_succ rfl (lt_of_get hx32) (p1.mono (r26.run.inc.tr i183)).le), k187, k188⟩⟩
 ·
  clear hp hq
  rintro s32 f262 w261 ⟨H258, v107, n108, cs109, S259, i260, els110, k263, k264, k265⟩
  refine FW.seq (FW.seq (FW.region ?_))
  refine FL.v (E.move k263) ?_
  refine FL.v (E.move k264) ?_
  refine FL.v (E.lenP te50 rfl p1) ?_
  refine FL.v (E.lss rfl rfl) ?_
  refine FL.nil ?_
  refine FW.condF rfl dlt_len ?_
  refine FW.exit ?_
  exact ⟨nofun, rfl, ⟨_, _, _, _, S259, i260, els110, k265⟩⟩
 ·
  clear hq
  intro e f256 w255 hD
  rcases q32 with s32 | x32
  ·
   obtain ⟨rfl, hD⟩ := hD
   obtain ⟨H252, v107, n108, cs109, S253, i254, els110, k257⟩ := hD
   replace hp := el_go hp
   refine FW.seq (FW.region ?_)
   refine FL.v (E.move k257) ?_
   refine FL.v (E.assign (v := v107) rfl) ?_
   refine FL.v (E.assign (v := Value.bool true) rfl) ?_
   refine FL.nil ?_
   refine FW.ret ?_
   obtain rfl := Option.some.inj hp
   exact ⟨.inr rfl, res2 rfl rfl rfl ⟨_, _, _, _, rfl, S253, els110⟩⟩
  ·
   obtain ⟨he, hL⟩ := hD
   replace hp := el_rt hp
   obtain rfl := Option.some.inj hp
   subst he
   exact hL

@[reducible] def p_spec_l2Resolve (Ha : GH) (wa : World) (r : ((List Int) × Bool)) : Ending → World → Prop :=
 fun e w' => ∃ H' : GH, ∃ v0 : Value, ∃ n0 : Nat, ∃ c0 : List Value, e = .returned (Value.tuple #[v0, Value.bool r.2]) ∧ St Ha wa H' w' [.row 3 1 v0 n0 c0] ∧ Els (up wa.heap.size H') eI 1 c0 r.1
theorem w_spec_l2Resolve {Ha : GH} {wa : World} (hs : Sl Ha wa) (v0 : Value) (a0 : List Int) (p0 : RSl Ha eI 1 v0 a0) (v1 : Value) (a1 : List Int) (p1 : RSl Ha eI 1 v1 a1) (a2 : Int) {r : ((List Int) × Bool)} (hp : (PF.spec_l2Resolve a0 a1 a2) = some r) :
  Calls Tryz.prog 83 #[v0, v1, Value.int .i64 a2] wa (p_spec_l2Resolve Ha wa r) := by
 unfold PF.spec_l2Resolve at hp
 have S0 := St.init hs
 refine calls_go (N := 29) (args := [v0, v1, Value.int .i64 a2]) Tryz.func83 rfl rfl rfl ?_
 refine FW.seq (FW.region ?_)
 refine FL.v (E.assign (v := Value.slice none 0 0) rfl) ?_
 refine FL.v (E.assign (v := Value.bool false) rfl) ?_
 refine FL.nil (FW.seq (FW.seq (FW.region ?_)))
 refine FL.v (E.move (v := v0) rfl) ?_
 refine FL.v (E.move (v := Value.int .i64 a2) rfl) ?_
 obtain ⟨r21, hr22, hp⟩ := bnd hp
 refine FL.call rfl rfl rfl (E.call Tryz.call96 (A2 rfl rfl)) (w_spec_l2Has S0.sl v0 a0 p0 a2 hr22) ?_
 rintro e w23 ⟨rfl, r24⟩
 refine ⟨_, rfl, ?_⟩
 have S25 := S0.call r24
 refine FL.v (E.not rfl) ?_
 refine FL.v (E.move (v := Value.bool (!r21)) rfl) ?_
 obtain ⟨t31, hqt31, hp⟩ := bnd hp
 refine FL.cut 6 (fun f w => ∃ H : GH, St Ha wa H w [] ∧ Inc Ha H ∧ f 0 = v0 ∧ f 1 = v1 ∧ f 2 = Value.int .i64 a2 ∧ f 18 = Value.bool t31) ?_ ?_
 ·
  clear hp; have hp := hqt31; clear hqt31
  rcases ifB hp with ⟨c37, hp⟩ | ⟨c37, hp⟩
  ·
   refine FL.skip (wF_no rfl rfl rfl c37) rfl ?_
   refine FL.skip (wF_no rfl rfl rfl c37) rfl ?_
   refine FL.skip (wF_no rfl rfl rfl c37) rfl ?_
   refine FL.skip (wF_no rfl rfl rfl c37) rfl ?_
   refine FL.skip (wF_no rfl rfl rfl c37) rfl ?_
   obtain rfl := Option.some.inj hp
   refine FL.v (E.pickT rfl c37 rfl) ?_
   exact FL.nil ⟨rfl, _, S25, (Inc.rfl _), rfl, rfl, rfl, rfl⟩
  ·
   refine FL.val (wF_yes rfl rfl rfl c37) rfl rfl (E.move (v := v1) rfl) ?_
   refine FL.val (wF_yes rfl rfl rfl c37) rfl rfl (E.move (v := Value.int .i64 a2) rfl) ?_
   refine FL.val (wF_yes rfl rfl rfl c37) rfl rfl (E.neg rfl) ?_
   obtain ⟨r38, hr39, hp⟩ := bnd hp
   refine FL.call (wF_yes rfl rfl rfl c37) rfl rfl (E.call Tryz.call96 (A2 rfl rfl)) (w_spec_l2Has S25.sl v1 a1 p1 (wr (-a2)) hr39) ?_
   rintro e w40 ⟨rfl, r41⟩
   refine ⟨_, rfl, ?_⟩
   have S42 := S25.call r41
   refine FL.val (wF_yes rfl rfl rfl c37) rfl rfl (E.not rfl) ?_
   obtain rfl := Option.some.inj hp
   refine FL.v (E.pickF rfl c37 rfl) ?_
   exact FL.nil ⟨rfl, _, S42, (Inc.rfl _), rfl, rfl, rfl, rfl⟩
 rintro f36 w35 ⟨H32, S33, i34, k43, k44, k45, k46⟩
 refine FL.nil ?_
 rcases ifB hp with ⟨c47, hp⟩ | ⟨c47, hp⟩
 ·
  refine FW.condT k46 c47 ?_
  refine FW.seq (FW.region ?_)
  obtain ⟨v48, w49, run50, S51⟩ := S33.buildSlice (P := Tryz.prog) te50 [] (parts := #[]) (cells := []) rfl szs_nil fc_nil ones_nil (Nat.le_of_ble_eq_true rfl)
  have els52 : Els (up wa.heap.size H32) eI 1 [] [] := Els.nil
  refine FL.v (E.buildSlice (B0) run50) ?_
  refine FL.v (E.assign (v := v48) rfl) ?_
  refine FL.v (E.assign (v := Value.bool false) rfl) ?_
  refine FL.nil ?_
  refine FW.ret ?_
  obtain rfl := Option.some.inj hp
  exact ⟨.inr rfl, res2 rfl rfl rfl ⟨_, _, _, _, rfl, S51, els52⟩⟩
 ·
  refine FW.condF k46 c47 ?_
  refine FW.skip (FW.seq (FW.region ?_))
  refine FL.v (E.move k43) ?_
  refine FL.v (E.move k45) ?_
  obtain ⟨r53, hr54, hp⟩ := bnd hp
  refine FL.call rfl rfl rfl (E.call Tryz.call98 (A2 rfl rfl)) (w_spec_l2Without S33.sl v0 a0 (p0.mono i34) a2 hr54) ?_
  rintro e w56 ⟨H55, v59, n60, cs61, rfl, r58, els62⟩
  refine ⟨_, rfl, ?_⟩
  have els62 := els62.mono (up_le S33.size)
  have S57 := S33.join (l' := [.row 3 1 v59 n60 cs61]) r58 rfl
  refine FL.v (E.move k44) ?_
  refine FL.v (E.move k45) ?_
  obtain ⟨r63, hr64, hp⟩ := bnd hp
  refine FL.call rfl rfl rfl (E.call Tryz.call98 (A2 rfl rfl)) (w_spec_l2Without S57.sl v1 a1 (p1.mono (i34.tr r58.run.inc)) a2 hr64) ?_
  rintro e w66 ⟨H65, v69, n70, cs71, rfl, r68, els72⟩
  refine ⟨_, rfl, ?_⟩
  have els72 := els72.mono (up_le S57.size)
  have S67 := S57.join (l' := [.row 3 1 v69 n70 cs71, .row 3 1 v59 n60 cs61]) r68 rfl
  obtain ⟨H73, S74, i75, h76, nv77⟩ := S67.sealRowU (i := 1) (l' := [.row 3 1 v69 n70 cs71]) rfl (els62.mono (up_mono r68.run.inc)) (by decide) rfl
  obtain ⟨H78, S79, i80, h81, nv82⟩ := S74.sealRowU (i := 0) (l' := []) rfl (els72.mono (up_mono i75)) (by decide) rfl
  obtain ⟨r83, hr84, hp⟩ := bnd hp
  refine FL.call rfl rfl rfl (E.call Tryz.call97 (A2 rfl rfl)) (w_spec_l2Join S79.sl v59 r53 (h76.mono (upI.tr i80)) v69 r63 (h81.mono upI) hr84) ?_
  rintro e w86 ⟨H85, v91, n92, cs93, rfl, r88, els94⟩
  refine ⟨_, rfl, ?_⟩
  obtain ⟨H89, r88, hU90⟩ := St.lendX (i75.tr i80) S67.sl r88
  have els94 := els94.mono (hU90.tr (up_le S67.size))
  have S87 := S67.join (l' := [.row 3 1 v91 n92 cs93, .row 3 1 v69 n70 cs71, .row 3 1 v59 n60 cs61]) r88 rfl
  refine FL.v (E.extract (i := 0) rfl rfl) ?_
  refine FL.v (E.extract (i := 1) rfl rfl) ?_
  refine FL.v (E.assign (v := v91) rfl) ?_
  refine FL.v (E.assign (v := Value.bool r83.2) rfl) ?_
  refine FL.nil ?_
  refine FW.ret ?_
  obtain rfl := Option.some.inj hp
  exact ⟨.inr rfl, res2 rfl rfl rfl ⟨_, _, _, _, rfl, (S87.sel [0] (by decide) rfl), els94⟩⟩

set_option maxHeartbeats 4000000 in
theorem w_spec_l7Correct {Ha : GH} {wa : World} (hs : Sl Ha wa) (a0 : Cnf) (v0_1 : Value) (p0_1 : RSl Ha (eL eI 1) 1 v0_1 a0.clauses) (v1 : Value) (a1 : List ResStep) (p1 : RSl Ha eResStep 4 v1 a1) (a2 : Int) {r : Bool} (hp : (PF.spec_l7Correct a0 a1 a2) = some r) :
  Calls Tryz.prog 66 #[Value.agg #[Value.int .i64 a0.vars, v0_1], v1, Value.int .i64 a2] wa (Sc Ha wa (Value.bool r)) := by
 unfold PF.spec_l7Correct at hp
 have S0 := St.init hs
 refine calls_go (N := 110) (args := [Value.agg #[Value.int .i64 a0.vars, v0_1], v1, Value.int .i64 a2]) Tryz.func66 rfl rfl rfl ?_
 refine FW.seq (FW.region ?_)
 obtain ⟨b21, w22, run23, S24⟩ := S0.box (P := Tryz.prog) 34 [Value.int .i64 a0.vars, v0_1] (v := Value.agg #[Value.int .i64 a0.vars, v0_1]) rfl (ones_cons rfl (ones_cons p0_1.one ones_nil))
 refine FL.v (E.box rfl run23) ?_
 obtain ⟨H25, S26, i27, at28⟩ := S24.sealBox (i := 0) (l' := []) rfl rfl
 refine FL.v (E.assign (v := Value.bool false) rfl) ?_
 refine FL.nil (FW.seq (FW.region ?_))
 refine FL.v (E.move (v := v1) rfl) ?_
 refine FL.v (E.move (v := Value.int .i64 a2) rfl) ?_
 obtain ⟨x35, hx36, hp⟩ := bnd hp
 obtain ⟨p29, cs30, pt31, l32, at33, rel34⟩ := p1.at hx36
 obtain ⟨v37, rfl, h38⟩ := eResStep_open rel34
 refine FL.v (E.indexAddr te36 rfl rfl pt31) ?_
 refine FL.v (E.load rfl (run_loadA Tryz.isAgg60 Tryz.sizeOf60 ((at33.mono i27).now S26.sl) rfl)) ?_
 obtain ⟨b39, w40, run41, S42⟩ := S26.alloc (P := Tryz.prog) 60 [Value.slice none 0 0, Value.int .i64 0, Value.int .i64 0, Value.int .i64 0] Tryz.zeroValue60 rfl (ones_cons rfl (ones_cons rfl (ones_cons rfl (ones_cons rfl ones_nil))))
 refine FL.v (E.alloc run41) ?_
 obtain ⟨w43, run44, S45⟩ := S42.store0 (P := Tryz.prog) (t := 60) (i := 0) (cs' := [v37, Value.int .i64 x35.left, Value.int .i64 x35.right, Value.int .i64 x35.pivot]) (l' := [.box b39 60 [v37, Value.int .i64 x35.left, Value.int .i64 x35.right, Value.int .i64 x35.pivot]]) (v := Value.agg #[v37, Value.int .i64 x35.left, Value.int .i64 x35.right, Value.int .i64 x35.pivot]) (c := [v37, Value.int .i64 x35.left, Value.int .i64 x35.right, Value.int .i64 x35.pivot]) rfl Tryz.sizeOf60 rfl rfl (ones_cons h38.one (ones_cons rfl (ones_cons rfl (ones_cons rfl ones_nil)))) (Nat.le_of_ble_eq_true rfl) rfl rfl
 refine FL.act rfl rfl (E.store rfl rfl run44) ?_
 obtain ⟨H46, S47, i48, at49⟩ := S45.sealBox (i := 0) (l' := []) rfl rfl
 refine FL.nil (FW.seq (FW.seq (FW.region ?_)))
 refine FL.v (E.fieldAddr tf34_0 rfl) ?_
 refine FL.v (E.load rfl (run_load1 Tryz.isAgg3 ((at28.mono i48).now S47.sl) rfl)) ?_
 refine FL.v (E.fieldAddr tf60_0 rfl) ?_
 refine FL.v (E.load rfl (run_load1 Tryz.isAgg50 (at49.now S47.sl) rfl)) ?_
 obtain ⟨r50, hr51, hp⟩ := bnd hp
 refine FL.call rfl rfl rfl (E.call Tryz.call79 (A2 rfl rfl)) (w_spec_l2Clause S47.sl a0.vars v37 x35.clause (h38.mono (i27.tr i48)) hr51) ?_
 rintro e w52 ⟨rfl, r53⟩
 refine ⟨_, rfl, ?_⟩
 have S54 := S47.call r53
 refine FL.v (E.not rfl) ?_
 refine FL.nil ?_
 rcases ifB hp with ⟨c55, hp⟩ | ⟨c55, hp⟩
 ·
  refine FW.condT rfl c55 ?_
  refine FW.seq (FW.region ?_)
  refine FL.v (E.assign (v := Value.bool false) rfl) ?_
  refine FL.nil ?_
  refine FW.ret ?_
  obtain rfl := Option.some.inj hp
  exact ⟨.inr rfl, res1 rfl rfl ⟨rfl, S54.back⟩⟩
 ·
  refine FW.condF rfl c55 ?_
  refine FW.skip (FW.seq (FW.seq (FW.region ?_)))
  refine FL.v (E.fieldAddr tf60_1 rfl) ?_
  refine FL.v (E.load rfl (run_load1 Tryz.isAgg3 (at49.now S54.sl) rfl)) ?_
  refine FL.v (E.eql rfl rfl) ?_
  refine FL.nil ?_
  rcases ifB hp with ⟨c56, hp⟩ | ⟨c56, hp⟩
  ·
   refine FW.condT rfl c56 ?_
   refine FW.seq ?_
   refine FW.draw (fun w' => Run w52.heap.size H46 w52 H46 w') (by kernel_rfl) (by kernel_rfl) (run_drew S54.sl) ?_
   refine FD.val rfl rfl rfl (fun w' hw' => (E.fieldAddr tf60_3 rfl)) ?_
   refine FD.val rfl rfl rfl (fun w' hw' => (E.load rfl (run_load1 Tryz.isAgg3 (at49.now (S54.call hw').sl) rfl))) ?_
   refine FD.val rfl rfl rfl (fun w' hw' => (E.eql rfl rfl)) ?_
   refine FD.val rfl rfl rfl (fun w' hw' => (E.move (v := Value.bool (x35.pivot == 0)) rfl)) ?_
   refine FD.cut 8 (fun f => f 3 = Value.pointer (some ⟨b21, 0, none⟩) ∧ f 7 = Value.pointer (some ⟨b39, 0, none⟩) ∧ f 34 = Value.bool (bif (x35.pivot == 0) then (PF.spec_l1In x35.right 0 (wr ((len a0.clauses) - 1))) else false)) ?_ ?_
   ·
    rcases bcase (x35.pivot == 0) with c64 | c64
    ·
     refine FD.val (wF_yes rfl rfl rfl c64) rfl rfl (fun w' hw' => (E.fieldAddr tf60_2 rfl)) ?_
     refine FD.val (wF_yes rfl rfl rfl c64) rfl rfl (fun w' hw' => (E.load rfl (run_load1 Tryz.isAgg3 (at49.now (S54.call hw').sl) rfl))) ?_
     refine FD.val (wF_yes rfl rfl rfl c64) rfl rfl (fun w' hw' => (E.fieldAddr tf34_1 rfl)) ?_
     refine FD.val (wF_yes rfl rfl rfl c64) rfl rfl (fun w' hw' => (E.load rfl (run_load1 Tryz.isAgg23 ((at28.mono i48).now (S54.call hw').sl) rfl))) ?_
     refine FD.val (wF_yes rfl rfl rfl c64) rfl rfl (fun w' hw' => (E.lenP te23 rfl p0_1)) ?_
     refine FD.val (wF_yes rfl rfl rfl c64) rfl rfl (fun w' hw' => (E.sub rfl rfl)) ?_
     refine FD.call (wF_yes rfl rfl rfl c64) rfl rfl (fun w' hw' => (E.call Tryz.call53 (A3 rfl rfl rfl))) (fun w' hw' => Calls.cls hw' (w_spec_l1In (S54.call hw').sl x35.right 0 (wr ((len a0.clauses) - 1)))) ?_
     refine FD.val rfl rfl rfl (fun w' hw' => (E.pickT rfl c64 rfl)) ?_
     exact FD.nil ⟨rfl, rfl, (congrArg Value.bool (bifT c64).symm)⟩
    ·
     refine FD.skip (wF_no rfl rfl rfl c64) rfl ?_
     refine FD.skip (wF_no rfl rfl rfl c64) rfl ?_
     refine FD.skip (wF_no rfl rfl rfl c64) rfl ?_
     refine FD.skip (wF_no rfl rfl rfl c64) rfl ?_
     refine FD.skip (wF_no rfl rfl rfl c64) rfl ?_
     refine FD.skip (wF_no rfl rfl rfl c64) rfl ?_
     refine FD.skip (wF_no rfl rfl rfl c64) rfl ?_
     refine FD.val rfl rfl rfl (fun w' hw' => (E.pickF rfl c64 rfl)) ?_
     exact FD.nil ⟨rfl, rfl, (congrArg Value.bool (bifF c64).symm)⟩
   rintro f63 ⟨k65, k66, k67⟩
   refine FD.val rfl rfl rfl (fun w' hw' => (E.move k67)) ?_
   obtain ⟨t80, hqt80, hp⟩ := bnd hp
   refine FD.cut 10 (fun f => f 45 = Value.bool t80) ?_ ?_
   ·
    clear hp; have hp := hqt80; clear hqt80
    rcases ifB hp with ⟨c86, hp⟩ | ⟨c86, hp⟩
    ·
     refine FD.val (wF_yes rfl rfl rfl c86) rfl rfl (fun w' hw' => (E.fieldAddr tf34_1 k65)) ?_
     refine FD.val (wF_yes rfl rfl rfl c86) rfl rfl (fun w' hw' => (E.load rfl (run_load1 Tryz.isAgg23 ((at28.mono i48).now (S54.call hw').sl) rfl))) ?_
     refine FD.val (wF_yes rfl rfl rfl c86) rfl rfl (fun w' hw' => (E.fieldAddr tf60_2 k66)) ?_
     refine FD.val (wF_yes rfl rfl rfl c86) rfl rfl (fun w' hw' => (E.load rfl (run_load1 Tryz.isAgg3 (at49.now (S54.call hw').sl) rfl))) ?_
     obtain ⟨x93, hx94, hp⟩ := bnd hp
     obtain ⟨p87, cs88, pt89, l90, at91, rel92⟩ := p0_1.at hx94
     obtain ⟨v95, rfl, h96⟩ := eL_open rel92
     refine FD.val (wF_yes rfl rfl rfl c86) rfl rfl (fun w' hw' => (E.indexAddr te23 rfl rfl pt89)) ?_
     refine FD.val (wF_yes rfl rfl rfl c86) rfl rfl (fun w' hw' => (E.load rfl (run_load0 Tryz.isAgg50 ((at91.mono (i27.tr i48)).now (S54.call hw').sl) rfl))) ?_
     refine FD.val (wF_yes rfl rfl rfl c86) rfl rfl (fun w' hw' => (E.fieldAddr tf60_0 k66)) ?_
     refine FD.val (wF_yes rfl rfl rfl c86) rfl rfl (fun w' hw' => (E.load rfl (run_load1 Tryz.isAgg50 (at49.now (S54.call hw').sl) rfl))) ?_
     obtain ⟨r97, hr98, hp⟩ := bnd hp
     refine FD.call (wF_yes rfl rfl rfl c86) rfl rfl (fun w' hw' => (E.call Tryz.call80 (A2 rfl rfl))) (fun w' hw' => Calls.cls hw' (w_spec_l1Same (S54.call hw').sl v95 x93 (h96.mono (i27.tr i48)) v37 x35.clause (h38.mono (i27.tr i48)) hr98)) ?_
     obtain rfl := Option.some.inj hp
     refine FD.val rfl rfl rfl (fun w' hw' => (E.pickT rfl c86 rfl)) ?_
     exact FD.nil rfl
    ·
     refine FD.skip (wF_no rfl rfl rfl c86) rfl ?_
     refine FD.skip (wF_no rfl rfl rfl c86) rfl ?_
     refine FD.skip (wF_no rfl rfl rfl c86) rfl ?_
     refine FD.skip (wF_no rfl rfl rfl c86) rfl ?_
     refine FD.skip (wF_no rfl rfl rfl c86) rfl ?_
     refine FD.skip (wF_no rfl rfl rfl c86) rfl ?_
     refine FD.skip (wF_no rfl rfl rfl c86) rfl ?_
     refine FD.skip (wF_no rfl rfl rfl c86) rfl ?_
     refine FD.skip (wF_no rfl rfl rfl c86) rfl ?_
     obtain rfl := Option.some.inj hp
     refine FD.val rfl rfl rfl (fun w' hw' => (E.pickF rfl c86 rfl)) ?_
     exact FD.nil rfl
   intro f85 k99
   refine FD.val rfl rfl rfl (fun w' hw' => (E.assign k99)) ?_
   refine FD.nil ?_
   intro w100 r102
   have S101 := S54.call r102
   refine FW.ret ?_
   obtain rfl := Option.some.inj hp
   exact ⟨.inr rfl, res1 rfl rfl ⟨rfl, S101.back⟩⟩
  ·
   refine FW.condF rfl c56 ?_
   refine FW.skip (FW.seq (FW.seq (FW.region ?_)))
   refine FL.v (E.load rfl (run_loadA Tryz.isAgg34 Tryz.sizeOf34 ((at28.mono i48).now S54.sl) rfl)) ?_
   refine FL.v (E.move (v := v1) rfl) ?_
   refine FL.v (E.move (v := Value.int .i64 a2) rfl) ?_
   refine FL.v (E.fieldAddr tf60_1 rfl) ?_
   refine FL.v (E.load rfl (run_load1 Tryz.isAgg3 (at49.now S54.sl) rfl)) ?_
   obtain ⟨r103, hr104, hp⟩ := bnd hp
   refine FL.call rfl rfl rfl (E.call Tryz.call81 (A4 rfl rfl rfl rfl)) (w_spec_l7Clause S54.sl a0 v0_1 (p0_1.mono (i27.tr i48)) v1 a1 (p1.mono (i27.tr i48)) a2 x35.left hr104) ?_
   rintro e w105 ⟨rfl, r106⟩
   refine ⟨_, rfl, ?_⟩
   have S107 := S54.call r106
   refine FL.v (E.not rfl) ?_
   refine FL.nil ?_
   rcases ifB hp with ⟨c108, hp⟩ | ⟨c108, hp⟩
   ·
    refine FW.condT rfl c108 ?_
    refine FW.seq (FW.region ?_)
    refine FL.v (E.assign (v := Value.bool false) rfl) ?_
    refine FL.nil ?_
    refine FW.ret ?_
    obtain rfl := Option.some.inj hp
    exact ⟨.inr rfl, res1 rfl rfl ⟨rfl, S107.back⟩⟩
   ·
    refine FW.condF rfl c108 ?_
    refine FW.skip (FW.seq (FW.seq (FW.region ?_)))
    refine FL.v (E.fieldAddr tf60_2 rfl) ?_
    refine FL.v (E.load rfl (run_load1 Tryz.isAgg3 (at49.now S107.sl) rfl)) ?_
    refine FL.v (E.eql rfl rfl) ?_
    refine FL.nil ?_
    rcases ifB hp with ⟨c109, hp⟩ | ⟨c109, hp⟩
    ·
     refine FW.condT rfl c109 ?_
     refine FW.seq ?_
     refine FW.draw (fun w' => Run w105.heap.size H46 w105 H46 w') (by kernel_rfl) (by kernel_rfl) (run_drew S107.sl) ?_
     refine FD.val rfl rfl rfl (fun w' hw' => (E.fieldAddr tf60_3 rfl)) ?_
     refine FD.val rfl rfl rfl (fun w' hw' => (E.load rfl (run_load1 Tryz.isAgg3 (at49.now (S107.call hw').sl) rfl))) ?_
     refine FD.val rfl rfl rfl (fun w' hw' => (E.eql rfl rfl)) ?_
     refine FD.val rfl rfl rfl (fun w' hw' => (E.move (v := Value.bool (x35.pivot == 0)) rfl)) ?_
     obtain ⟨t123, hqt123, hp⟩ := bnd hp
     refine FD.cut 10 (fun f => f 69 = Value.bool t123) ?_ ?_
     ·
      clear hp; have hp := hqt123; clear hqt123
      rcases ifB hp with ⟨c129, hp⟩ | ⟨c129, hp⟩
      ·
       refine FD.val (wF_yes rfl rfl rfl c129) rfl rfl (fun w' hw' => (E.move (v := v1) rfl)) ?_
       refine FD.val (wF_yes rfl rfl rfl c129) rfl rfl (fun w' hw' => (E.fieldAddr tf60_1 rfl)) ?_
       refine FD.val (wF_yes rfl rfl rfl c129) rfl rfl (fun w' hw' => (E.load rfl (run_load1 Tryz.isAgg3 (at49.now (S107.call hw').sl) rfl))) ?_
       obtain ⟨x136, hx137, hp⟩ := bnd hp
       obtain ⟨p130, cs131, pt132, l133, at134, rel135⟩ := p1.at hx137
       obtain ⟨v138, rfl, h139⟩ := eResStep_open rel135
       refine FD.val (wF_yes rfl rfl rfl c129) rfl rfl (fun w' hw' => (E.indexAddr te36 rfl rfl pt132)) ?_
       refine FD.val (wF_yes rfl rfl rfl c129) rfl rfl (fun w' hw' => (E.fieldAddr tf60_0 rfl)) ?_
       refine FD.val (wF_yes rfl rfl rfl c129) rfl rfl (fun w' hw' => (E.load rfl (run_load1 Tryz.isAgg50 ((at134.mono (i27.tr i48)).now (S107.call hw').sl) rfl))) ?_
       refine FD.val (wF_yes rfl rfl rfl c129) rfl rfl (fun w' hw' => (E.fieldAddr tf60_0 rfl)) ?_
       refine FD.val (wF_yes rfl rfl rfl c129) rfl rfl (fun w' hw' => (E.load rfl (run_load1 Tryz.isAgg50 (at49.now (S107.call hw').sl) rfl))) ?_
       obtain ⟨r140, hr141, hp⟩ := bnd hp
       refine FD.call (wF_yes rfl rfl rfl c129) rfl rfl (fun w' hw' => (E.call Tryz.call82 (A2 rfl rfl))) (fun w' hw' => Calls.cls hw' (w_spec_l2Sub (S107.call hw').sl v138 x136.clause (h139.mono (i27.tr i48)) v37 x35.clause (h38.mono (i27.tr i48)) hr141)) ?_
       obtain rfl := Option.some.inj hp
       refine FD.val rfl rfl rfl (fun w' hw' => (E.pickT rfl c129 rfl)) ?_
       exact FD.nil rfl
      ·
       refine FD.skip (wF_no rfl rfl rfl c129) rfl ?_
       refine FD.skip (wF_no rfl rfl rfl c129) rfl ?_
       refine FD.skip (wF_no rfl rfl rfl c129) rfl ?_
       refine FD.skip (wF_no rfl rfl rfl c129) rfl ?_
       refine FD.skip (wF_no rfl rfl rfl c129) rfl ?_
       refine FD.skip (wF_no rfl rfl rfl c129) rfl ?_
       refine FD.skip (wF_no rfl rfl rfl c129) rfl ?_
       refine FD.skip (wF_no rfl rfl rfl c129) rfl ?_
       refine FD.skip (wF_no rfl rfl rfl c129) rfl ?_
       obtain rfl := Option.some.inj hp
       refine FD.val rfl rfl rfl (fun w' hw' => (E.pickF rfl c129 rfl)) ?_
       exact FD.nil rfl
     intro f128 k142
     refine FD.val rfl rfl rfl (fun w' hw' => (E.assign k142)) ?_
     refine FD.nil ?_
     intro w143 r145
     have S144 := S107.call r145
     refine FW.ret ?_
     obtain rfl := Option.some.inj hp
     exact ⟨.inr rfl, res1 rfl rfl ⟨rfl, S144.back⟩⟩
    ·
     refine FW.condF rfl c109 ?_
     refine FW.skip (FW.seq (FW.seq (FW.region ?_)))
     refine FL.v (E.load rfl (run_loadA Tryz.isAgg34 Tryz.sizeOf34 ((at28.mono i48).now S107.sl) rfl)) ?_
     refine FL.v (E.move (v := v1) rfl) ?_
     refine FL.v (E.move (v := Value.int .i64 a2) rfl) ?_
     refine FL.v (E.fieldAddr tf60_2 rfl) ?_
     refine FL.v (E.load rfl (run_load1 Tryz.isAgg3 (at49.now S107.sl) rfl)) ?_
     obtain ⟨r146, hr147, hp⟩ := bnd hp
     refine FL.call rfl rfl rfl (E.call Tryz.call81 (A4 rfl rfl rfl rfl)) (w_spec_l7Clause S107.sl a0 v0_1 (p0_1.mono (i27.tr i48)) v1 a1 (p1.mono (i27.tr i48)) a2 x35.right hr147) ?_
     rintro e w148 ⟨rfl, r149⟩
     refine ⟨_, rfl, ?_⟩
     have S150 := S107.call r149
     refine FL.v (E.not rfl) ?_
     refine FL.v (E.move (v := Value.bool (!r146)) rfl) ?_
     refine FL.cut 7 (fun f w => ∃ H : GH, St Ha wa H w [] ∧ Inc H46 H ∧ f 1 = v1 ∧ f 7 = Value.pointer (some ⟨b39, 0, none⟩) ∧ f 84 = Value.bool (bif (!r146) then true else (!(PF.spec_l1In x35.pivot 1 a0.vars)))) ?_ ?_
     ·
      rcases bcase (!r146) with c160 | c160
      ·
       refine FL.skip (wF_no rfl rfl rfl c160) rfl ?_
       refine FL.skip (wF_no rfl rfl rfl c160) rfl ?_
       refine FL.skip (wF_no rfl rfl rfl c160) rfl ?_
       refine FL.skip (wF_no rfl rfl rfl c160) rfl ?_
       refine FL.skip (wF_no rfl rfl rfl c160) rfl ?_
       refine FL.skip (wF_no rfl rfl rfl c160) rfl ?_
       refine FL.v (E.pickT rfl c160 rfl) ?_
       exact FL.nil ⟨rfl, _, S150, (Inc.rfl _), rfl, rfl, (congrArg Value.bool (bifT c160).symm)⟩
      ·
       refine FL.val (wF_yes rfl rfl rfl c160) rfl rfl (E.fieldAddr tf60_3 rfl) ?_
       refine FL.val (wF_yes rfl rfl rfl c160) rfl rfl (E.load rfl (run_load1 Tryz.isAgg3 (at49.now S150.sl) rfl)) ?_
       refine FL.val (wF_yes rfl rfl rfl c160) rfl rfl (E.fieldAddr tf34_0 rfl) ?_
       refine FL.val (wF_yes rfl rfl rfl c160) rfl rfl (E.load rfl (run_load1 Tryz.isAgg3 ((at28.mono i48).now S150.sl) rfl)) ?_
       refine FL.call (wF_yes rfl rfl rfl c160) rfl rfl (E.call Tryz.call53 (A3 rfl rfl rfl)) (w_spec_l1In S150.sl x35.pivot 1 a0.vars) ?_
       rintro e w161 ⟨rfl, r162⟩
       refine ⟨_, rfl, ?_⟩
       have S163 := S150.call r162
       refine FL.val (wF_yes rfl rfl rfl c160) rfl rfl (E.not rfl) ?_
       refine FL.v (E.pickF rfl c160 rfl) ?_
       exact FL.nil ⟨rfl, _, S163, (Inc.rfl _), rfl, rfl, (congrArg Value.bool (bifF c160).symm)⟩
     rintro f159 w158 ⟨H155, S156, i157, k164, k165, k166⟩
     refine FL.nil ?_
     rcases ifB hp with ⟨c167, hp⟩ | ⟨c167, hp⟩
     ·
      refine FW.condT k166 c167 ?_
      refine FW.seq (FW.region ?_)
      refine FL.v (E.assign (v := Value.bool false) rfl) ?_
      refine FL.nil ?_
      refine FW.ret ?_
      obtain rfl := Option.some.inj hp
      exact ⟨.inr rfl, res1 rfl rfl ⟨rfl, S156.back⟩⟩
     ·
      refine FW.condF k166 c167 ?_
      refine FW.skip (FW.seq ?_)
      obtain ⟨x69, hx70, hp⟩ := bnd hp
      obtain ⟨x79, hx81, hp⟩ := bnd hp
      obtain ⟨r84, hr110, hp⟩ := bnd hp
      refine FW.drawB (Sl H155) (fun f w => ∃ H : GH, ∃ v119 : Value, ∃ n120 : Nat, ∃ cs121 : List Value, St Ha wa H w [.row 3 1 v119 n120 cs121] ∧ Inc H155 H ∧ Els (up wa.heap.size H) eI 1 cs121 r84.1 ∧ f 7 = Value.pointer (some ⟨b39, 0, none⟩) ∧ f 8 = v119 ∧ f 9 = Value.bool r84.2) (by kernel_rfl) S156.sl ?_ ?_
      ·
       intro w168 r169
       have S170 := S156.call r169
       refine FB.t (i := 0) (bs 20 1) rfl (SP.nil S170.sl) rfl (fun w' hw' => (E.move k164)) ?_
       refine FB.t (i := 1) (bs 20 3) rfl (SP.nil S170.sl) rfl (fun w' hw' => (E.fieldAddr tf60_1 k165)) ?_
       refine FB.t (i := 2) (bs 20 7) rfl (SP.nil S170.sl) rfl (fun w' hw' => (E.load rfl (run_load1 Tryz.isAgg3 ((at49.mono i157).now hw') rfl))) ?_
       obtain ⟨p57, cs58, pt59, l61, at62, rel68⟩ := p1.at hx70
       obtain ⟨v71, rfl, h72⟩ := eResStep_open rel68
       refine FB.t (i := 3) (bs 20 15) rfl (SP.nil S170.sl) rfl (fun w' hw' => (E.indexAddr te36 rfl rfl pt59)) ?_
       refine FB.t (i := 4) (bs 20 31) rfl (SP.nil S170.sl) rfl (fun w' hw' => (E.fieldAddr tf60_0 rfl)) ?_
       refine FB.t (i := 5) (bs 20 63) rfl (SP.nil S170.sl) rfl (fun w' hw' => (E.load rfl (run_load1 Tryz.isAgg50 ((at62.mono ((i27.tr i48).tr i157)).now hw') rfl))) ?_
       refine FB.t (i := 6) (bs 20 127) rfl (SP.nil S170.sl) rfl (fun w' hw' => (E.move k164)) ?_
       refine FB.t (i := 7) (bs 20 255) rfl (SP.nil S170.sl) rfl (fun w' hw' => (E.fieldAddr tf60_2 k165)) ?_
       refine FB.t (i := 8) (bs 20 511) rfl (SP.nil S170.sl) rfl (fun w' hw' => (E.load rfl (run_load1 Tryz.isAgg3 ((at49.mono i157).now hw') rfl))) ?_
       obtain ⟨p73, cs74, pt75, l76, at77, rel78⟩ := p1.at hx81
       obtain ⟨v82, rfl, h83⟩ := eResStep_open rel78
       refine FB.t (i := 9) (bs 20 1023) rfl (SP.nil S170.sl) rfl (fun w' hw' => (E.indexAddr te36 rfl rfl pt75)) ?_
       refine FB.t (i := 10) (bs 20 2047) rfl (SP.nil S170.sl) rfl (fun w' hw' => (E.fieldAddr tf60_0 rfl)) ?_
       refine FB.t (i := 11) (bs 20 4095) rfl (SP.nil S170.sl) rfl (fun w' hw' => (E.load rfl (run_load1 Tryz.isAgg50 ((at77.mono ((i27.tr i48).tr i157)).now hw') rfl))) ?_
       refine FB.t (i := 12) (bs 20 8191) rfl (SP.nil S170.sl) rfl (fun w' hw' => (E.fieldAddr tf60_3 k165)) ?_
       refine FB.t (i := 13) (bs 20 16383) rfl (SP.nil S170.sl) rfl (fun w' hw' => (E.load rfl (run_load1 Tryz.isAgg3 ((at49.mono i157).now hw') rfl))) ?_
       refine FB.all1 (i := 14) (by kernel_rfl) ?_
       ·
        refine FC.call (l' := (bs 20 32767)) rfl (by kernel_rfl) rfl rfl rfl (E.call Tryz.call83 (A3 rfl rfl rfl)) (w_spec_l2Resolve S170.sl v71 x69.clause (h72.mono ((i27.tr i48).tr i157)) v82 x79.clause (h83.mono ((i27.tr i48).tr i157)) x35.pivot hr110) ?_
        rintro e w112 ⟨H111, v115, n116, cs117, rfl, r114, els118⟩
        refine ⟨_, rfl, ?_⟩
        have els118 := els118.mono (up_le S170.size)
        have S113 := S170.join (l' := [.row 3 1 v115 n116 cs117]) r114 rfl
        refine ⟨(SP.nil (Sl.of_inc r114.run.inc S113.sl)), ?_⟩
        refine FB.t (i := 15) (bs 20 65535) rfl (SP.nil (Sl.of_inc r114.run.inc S113.sl)) rfl (fun w' hw' => (E.move (v := Value.tuple #[v115, Value.bool r84.2]) rfl)) ?_
        refine FB.t (i := 16) (bs 20 131071) rfl (SP.nil (Sl.of_inc r114.run.inc S113.sl)) rfl (fun w' hw' => (E.extract (i := 0) rfl rfl)) ?_
        refine FB.t (i := 17) (bs 20 262143) rfl (SP.nil (Sl.of_inc r114.run.inc S113.sl)) rfl (fun w' hw' => (E.extract (i := 1) rfl rfl)) ?_
        refine FB.t (i := 18) (bs 20 524287) rfl (SP.nil (Sl.of_inc r114.run.inc S113.sl)) rfl (fun w' hw' => (E.assign (v := v115) rfl)) ?_
        refine FB.t (i := 19) (bs 20 1048575) rfl (SP.nil (Sl.of_inc r114.run.inc S113.sl)) rfl (fun w' hw' => (E.assign (v := Value.bool r84.2) rfl)) ?_
        exact FB.done (by kernel_rfl) ⟨_, _, _, _, S113, r114.run.inc, els118, k165, rfl, rfl⟩
      ·
       rintro f151 w127 ⟨H124, v119, n120, cs121, S125, i126, els122, k152, k153, k154⟩
       refine FW.seq (FW.region ?_)
       refine FL.v (E.move k154) ?_
       refine FL.v (E.move (v := Value.bool r84.2) rfl) ?_
       obtain ⟨t171, hqt171, hp⟩ := bnd hp
       refine FL.cut 5 (fun f w => ∃ H : GH, St Ha wa H w [.row 3 1 v119 n120 cs121] ∧ Inc H124 H ∧ f 109 = Value.bool t171) ?_ ?_
       ·
        clear hp; have hp := hqt171; clear hqt171
        rcases ifB hp with ⟨c177, hp⟩ | ⟨c177, hp⟩
        ·
         refine FL.val (wF_yes rfl rfl rfl c177) rfl rfl (E.move k153) ?_
         refine FL.val (wF_yes rfl rfl rfl c177) rfl rfl (E.fieldAddr tf60_0 k152) ?_
         refine FL.val (wF_yes rfl rfl rfl c177) rfl rfl (E.load rfl (run_load1 Tryz.isAgg50 ((at49.mono (i157.tr i126)).now S125.sl) rfl)) ?_
         obtain ⟨H178, S179, i180, h181, nv182⟩ := S125.sealRowU (i := 0) (l' := []) rfl els122 (by decide) rfl
         obtain ⟨r183, hr184, hp⟩ := bnd hp
         refine FL.call (wF_yes rfl rfl rfl c177) rfl rfl (E.call Tryz.call80 (A2 rfl rfl)) (w_spec_l1Same S179.sl v119 r84.1 (h181.mono upI) v37 x35.clause (h38.mono ((((i27.tr i48).tr i157).tr i126).tr i180)) hr184) ?_
         rintro e w185 ⟨rfl, r186⟩
         refine ⟨_, rfl, ?_⟩
         have r186 := Run.lend i180 S125.sl r186
         have S187 := S125.call r186
         obtain rfl := Option.some.inj hp
         refine FL.v (E.pickT rfl c177 rfl) ?_
         exact FL.nil ⟨rfl, _, S187, (Inc.rfl _), rfl⟩
        ·
         refine FL.skip (wF_no rfl rfl rfl c177) rfl ?_
         refine FL.skip (wF_no rfl rfl rfl c177) rfl ?_
         refine FL.skip (wF_no rfl rfl rfl c177) rfl ?_
         refine FL.skip (wF_no rfl rfl rfl c177) rfl ?_
         obtain rfl := Option.some.inj hp
         refine FL.v (E.pickF rfl c177 rfl) ?_
         exact FL.nil ⟨rfl, _, S125, (Inc.rfl _), rfl⟩
       rintro f176 w175 ⟨H172, S173, i174, k188⟩
       refine FL.v (E.assign k188) ?_
       refine FL.nil ?_
       refine FW.ret ?_
       obtain rfl := Option.some.inj hp
       exact ⟨.inr rfl, res1 rfl rfl ⟨rfl, S173.back⟩⟩

theorem w_spec_l7Wrong {Ha : GH} {wa : World} (hs : Sl Ha wa) (a0 : Cnf) (v0_1 : Value) (p0_1 : RSl Ha (eL eI 1) 1 v0_1 a0.clauses) (v1 : Value) (a1 : List ResStep) (p1 : RSl Ha eResStep 4 v1 a1) {r : Int} (hp : (PF.spec_l7Wrong a0 a1) = some r) :
  Calls Tryz.prog 55 #[Value.agg #[Value.int .i64 a0.vars, v0_1], v1] wa (Sc Ha wa (Value.int .i64 r)) := by
 unfold PF.spec_l7Wrong at hp
 have S0 := St.init hs
 refine calls_go (N := 18) (args := [Value.agg #[Value.int .i64 a0.vars, v0_1], v1]) Tryz.func55 rfl rfl rfl ?_
 refine FW.seq (FW.region ?_)
 obtain ⟨b21, w22, run23, S24⟩ := S0.box (P := Tryz.prog) 34 [Value.int .i64 a0.vars, v0_1] (v := Value.agg #[Value.int .i64 a0.vars, v0_1]) rfl (ones_cons rfl (ones_cons p0_1.one ones_nil))
 refine FL.v (E.box rfl run23) ?_
 obtain ⟨H25, S26, i27, at28⟩ := S24.sealBox (i := 0) (l' := []) rfl rfl
 refine FL.v (E.assign (v := Value.int .i64 0) rfl) ?_
 refine FL.nil (FW.seq (FW.seq (FW.region ?_)))
 refine FL.v (E.assign (v := Value.int .i64 0) rfl) ?_
 refine FL.nil ?_
 obtain ⟨q30, hq, hp⟩ := bndR hp
 refine FW.block ?_
 refine FW.mono (FW.forL (S := Unit) (X := Int) (fun (i30 : Nat) (s30 : Unit) f w => ∃ H : GH, St Ha wa H w [] ∧ Inc H25 H ∧ f 5 = Value.int .i64 ((i30 : Nat) : Int) ∧ f 1 = v1 ∧ f 2 = Value.pointer (some ⟨b21, 0, none⟩)) (fun q e f w => match q with | .go s30 => e = Exit.exit 0 ∧ (∃ H : GH, St Ha wa H w [] ∧ Inc H25 H) | .rt x => ((e = Exit.ret) ∧ (fun e f w => (e = Exit.normal ∨ e = Exit.ret) ∧ ∀ a, Fr (δ := []) 18 a f → ∃ v, (results Tryz.f55 a.tmps).run Tryz.prog w = .ok v w ∧ (Sc Ha wa (Value.int .i64 x)) (.returned v) w) e f w)) hq ⟨_, S26, (Inc.rfl _), rfl, rfl, rfl⟩ ?_ ?_) ?_
 ·
  clear hp hq
  rintro i30 y29 s30 f49 w48 ⟨H45, S46, i47, k50, k51, k52⟩ hx30 o59 hp
  refine FW.seq (FW.seq (FW.region ?_))
  refine FL.v (E.move k50) ?_
  refine FL.v (E.move k51) ?_
  refine FL.v (E.lenP te36 rfl p1) ?_
  refine FL.v (E.lssT rfl rfl (lss_len hx30)) ?_
  refine FL.nil ?_
  refine FW.condT rfl rfl ?_
  refine FW.skip (FW.seq (FW.block (FW.seq (FW.region ?_))))
  refine FL.v (E.load k52 (run_loadA Tryz.isAgg34 Tryz.sizeOf34 ((at28.mono i47).now S46.sl) rfl)) ?_
  refine FL.v (E.move k51) ?_
  refine FL.v (E.move k50) ?_
  obtain ⟨r53, hr54, hp⟩ := bnd hp
  refine FL.call rfl rfl rfl (E.call Tryz.call66 (A3 rfl rfl rfl)) (w_spec_l7Correct S46.sl a0 v0_1 (p0_1.mono (i27.tr i47)) v1 a1 (p1.mono (i27.tr i47)) ((i30 : Nat) : Int) hr54) ?_
  rintro e w55 ⟨rfl, r56⟩
  refine ⟨_, rfl, ?_⟩
  have S57 := S46.call r56
  refine FL.v (E.not rfl) ?_
  refine FL.nil ?_
  rcases ifB hp with ⟨c58, hp⟩ | ⟨c58, hp⟩
  ·
   refine FW.condT rfl c58 ?_
   refine FW.seq (FW.region ?_)
   refine FL.v (E.move k50) ?_
   refine FL.v (E.assign (v := Value.int .i64 ((i30 : Nat) : Int)) rfl) ?_
   refine FL.nil ?_
   refine FW.ret ?_
   obtain rfl := Option.some.inj hp
   exact ⟨nofun, rfl, ⟨.inr rfl, res1 rfl rfl ⟨rfl, S57.back⟩⟩⟩
  ·
   refine FW.condF rfl c58 ?_
   refine FW.skip (FW.region ?_)
   refine FL.v (E.move k50) ?_
   refine FL.v (E.add rfl rfl) ?_
   refine FL.v (E.assign (v := Value.int .i64 (wr (((i30 : Nat) : Int) + 1))) rfl) ?_
   refine FL.nil ?_
   obtain rfl := Option.some.inj hp
   exact ⟨rfl, ⟨_, S57, i47, (nat_succ rfl (lt_of_get hx30) (p1.mono (i27.tr i47)).le), k51, k52⟩⟩
 ·
  clear hp hq
  rintro s30 f69 w68 ⟨H65, S66, i67, k70, k71, k72⟩
  refine FW.seq (FW.seq (FW.region ?_))
  refine FL.v (E.move k70) ?_
  refine FL.v (E.move k71) ?_
  refine FL.v (E.lenP te36 rfl p1) ?_
  refine FL.v (E.lss rfl rfl) ?_
  refine FL.nil ?_
  refine FW.condF rfl dlt_len ?_
  refine FW.exit ?_
  exact ⟨nofun, rfl, ⟨_, S66, i67⟩⟩
 ·
  clear hq
  intro e f64 w63 hD
  rcases q30 with s30 | x30
  ·
   obtain ⟨rfl, hD⟩ := hD
   obtain ⟨H60, S61, i62⟩ := hD
   replace hp := el_go hp
   refine FW.seq (FW.region ?_)
   refine FL.v (E.assign (v := Value.int .i64 (-1)) rfl) ?_
   refine FL.nil ?_
   refine FW.ret ?_
   obtain rfl := Option.some.inj hp
   exact ⟨.inr rfl, res1 rfl rfl ⟨rfl, S61.back⟩⟩
  ·
   obtain ⟨he, hL⟩ := hD
   replace hp := el_rt hp
   obtain rfl := Option.some.inj hp
   subst he
   exact hL

theorem w_spec_l7Good {Ha : GH} {wa : World} (hs : Sl Ha wa) (a0 : Cnf) (v0_1 : Value) (p0_1 : RSl Ha (eL eI 1) 1 v0_1 a0.clauses) (v1 : Value) (a1 : List ResStep) (p1 : RSl Ha eResStep 4 v1 a1) {r : Bool} (hp : (PF.spec_l7Good a0 a1) = some r) :
  Calls Tryz.prog 41 #[Value.agg #[Value.int .i64 a0.vars, v0_1], v1] wa (Sc Ha wa (Value.bool r)) := by
 unfold PF.spec_l7Good at hp
 have S0 := St.init hs
 refine calls_go (N := 14) (args := [Value.agg #[Value.int .i64 a0.vars, v0_1], v1]) Tryz.func41 rfl rfl rfl ?_
 refine FW.seq (FW.region ?_)
 obtain ⟨b21, w22, run23, S24⟩ := S0.box (P := Tryz.prog) 34 [Value.int .i64 a0.vars, v0_1] (v := Value.agg #[Value.int .i64 a0.vars, v0_1]) rfl (ones_cons rfl (ones_cons p0_1.one ones_nil))
 refine FL.v (E.box rfl run23) ?_
 obtain ⟨H25, S26, i27, at28⟩ := S24.sealBox (i := 0) (l' := []) rfl rfl
 refine FL.v (E.assign (v := Value.bool false) rfl) ?_
 refine FL.nil (FW.seq (FW.region ?_))
 refine FL.v (E.load rfl (run_loadA Tryz.isAgg34 Tryz.sizeOf34 (at28.now S26.sl) rfl)) ?_
 refine FL.v (E.move (v := v1) rfl) ?_
 obtain ⟨r29, hr30, hp⟩ := bnd hp
 refine FL.call rfl rfl rfl (E.call Tryz.call54 (A2 rfl rfl)) (w_spec_l7Asked S26.sl a0 v0_1 (p0_1.mono i27) v1 a1 (p1.mono i27) hr30) ?_
 rintro e w31 ⟨rfl, r32⟩
 refine ⟨_, rfl, ?_⟩
 have S33 := S26.call r32
 refine FL.v (E.move (v := Value.bool r29) rfl) ?_
 obtain ⟨t39, hqt39, hp⟩ := bnd hp
 refine FL.cut 5 (fun f w => ∃ H : GH, St Ha wa H w [] ∧ Inc H25 H ∧ f 13 = Value.bool t39) ?_ ?_
 ·
  clear hp; have hp := hqt39; clear hqt39
  rcases ifB hp with ⟨c45, hp⟩ | ⟨c45, hp⟩
  ·
   refine FL.val (wF_yes rfl rfl rfl c45) rfl rfl (E.load rfl (run_loadA Tryz.isAgg34 Tryz.sizeOf34 (at28.now S33.sl) rfl)) ?_
   refine FL.val (wF_yes rfl rfl rfl c45) rfl rfl (E.move (v := v1) rfl) ?_
   obtain ⟨r46, hr47, hp⟩ := bnd hp
   refine FL.call (wF_yes rfl rfl rfl c45) rfl rfl (E.call Tryz.call55 (A2 rfl rfl)) (w_spec_l7Wrong S33.sl a0 v0_1 (p0_1.mono i27) v1 a1 (p1.mono i27) hr47) ?_
   rintro e w48 ⟨rfl, r49⟩
   refine ⟨_, rfl, ?_⟩
   have S50 := S33.call r49
   refine FL.val (wF_yes rfl rfl rfl c45) rfl rfl (E.lss rfl rfl) ?_
   obtain rfl := Option.some.inj hp
   refine FL.v (E.pickT rfl c45 rfl) ?_
   exact FL.nil ⟨rfl, _, S50, (Inc.rfl _), rfl⟩
  ·
   refine FL.skip (wF_no rfl rfl rfl c45) rfl ?_
   refine FL.skip (wF_no rfl rfl rfl c45) rfl ?_
   refine FL.skip (wF_no rfl rfl rfl c45) rfl ?_
   refine FL.skip (wF_no rfl rfl rfl c45) rfl ?_
   obtain rfl := Option.some.inj hp
   refine FL.v (E.pickF rfl c45 rfl) ?_
   exact FL.nil ⟨rfl, _, S33, (Inc.rfl _), rfl⟩
 rintro f44 w43 ⟨H40, S41, i42, k51⟩
 refine FL.v (E.assign k51) ?_
 refine FL.nil ?_
 refine FW.ret ?_
 obtain rfl := Option.some.inj hp
 exact ⟨.inr rfl, res1 rfl rfl ⟨rfl, S41.back⟩⟩

@[reducible] def p_spec_l7Last (Ha : GH) (wa : World) (r : (List Int)) : Ending → World → Prop :=
 fun e w' => ∃ H' : GH, ∃ v0 : Value, e = .returned (v0) ∧ Run wa.heap.size Ha wa H' w' ∧ RSl H' eI 1 v0 r
theorem w_spec_l7Last {Ha : GH} {wa : World} (hs : Sl Ha wa) (v0 : Value) (a0 : List ResStep) (p0 : RSl Ha eResStep 4 v0 a0) {r : (List Int)} (hp : (PF.spec_l7Last a0) = some r) :
  Calls Tryz.prog 42 #[v0] wa (p_spec_l7Last Ha wa r) := by
 unfold PF.spec_l7Last at hp
 have S0 := St.init hs
 refine calls_go (N := 10) (args := [v0]) Tryz.func42 rfl rfl rfl ?_
 refine FW.seq (FW.region ?_)
 refine FL.v (E.assign (v := Value.slice none 0 0) rfl) ?_
 refine FL.nil (FW.seq (FW.region ?_))
 refine FL.v (E.move (v := v0) rfl) ?_
 refine FL.v (E.move (v := v0) rfl) ?_
 refine FL.v (E.lenP te36 rfl p0) ?_
 refine FL.v (E.sub rfl rfl) ?_
 obtain ⟨x27, hx28, hp⟩ := bnd hp
 obtain ⟨p21, cs22, pt23, l24, at25, rel26⟩ := p0.at hx28
 obtain ⟨v29, rfl, h30⟩ := eResStep_open rel26
 refine FL.v (E.indexAddr te36 rfl rfl pt23) ?_
 refine FL.v (E.fieldAddr tf60_0 rfl) ?_
 refine FL.v (E.load rfl (run_load1 Tryz.isAgg50 (at25.now S0.sl) rfl)) ?_
 refine FL.v (E.assign (v := v29) rfl) ?_
 refine FL.nil ?_
 refine FW.ret ?_
 obtain rfl := Option.some.inj hp
 exact ⟨.inr rfl, res1 rfl rfl ⟨_, _, rfl, S0.run, h30⟩⟩

theorem w_spec_l7Refutes {Ha : GH} {wa : World} (hs : Sl Ha wa) (a0 : Cnf) (v0_1 : Value) (p0_1 : RSl Ha (eL eI 1) 1 v0_1 a0.clauses) (v1 : Value) (a1 : List ResStep) (p1 : RSl Ha eResStep 4 v1 a1) {r : Bool} (hp : (PF.spec_l7Refutes a0 a1) = some r) :
  Calls Tryz.prog 23 #[Value.agg #[Value.int .i64 a0.vars, v0_1], v1] wa (Sc Ha wa (Value.bool r)) := by
 unfold PF.spec_l7Refutes at hp
 have S0 := St.init hs
 refine calls_go (N := 19) (args := [Value.agg #[Value.int .i64 a0.vars, v0_1], v1]) Tryz.func23 rfl rfl rfl ?_
 refine FW.seq (FW.region ?_)
 obtain ⟨b21, w22, run23, S24⟩ := S0.box (P := Tryz.prog) 34 [Value.int .i64 a0.vars, v0_1] (v := Value.agg #[Value.int .i64 a0.vars, v0_1]) rfl (ones_cons rfl (ones_cons p0_1.one ones_nil))
 refine FL.v (E.box rfl run23) ?_
 obtain ⟨H25, S26, i27, at28⟩ := S24.sealBox (i := 0) (l' := []) rfl rfl
 refine FL.v (E.assign (v := Value.bool false) rfl) ?_
 refine FL.nil (FW.seq (FW.region ?_))
 refine FL.v (E.load rfl (run_loadA Tryz.isAgg34 Tryz.sizeOf34 (at28.now S26.sl) rfl)) ?_
 refine FL.v (E.move (v := v1) rfl) ?_
 obtain ⟨r29, hr30, hp⟩ := bnd hp
 refine FL.call rfl rfl rfl (E.call Tryz.call41 (A2 rfl rfl)) (w_spec_l7Good S26.sl a0 v0_1 (p0_1.mono i27) v1 a1 (p1.mono i27) hr30) ?_
 rintro e w31 ⟨rfl, r32⟩
 refine ⟨_, rfl, ?_⟩
 have S33 := S26.call r32
 refine FL.v (E.move (v := Value.bool r29) rfl) ?_
 refine FL.cut 4 (fun f w => ∃ H : GH, St Ha wa H w [] ∧ Inc H25 H ∧ f 1 = v1 ∧ f 12 = Value.bool (bif r29 then (decide (0 < (len a1))) else false)) ?_ ?_
 ·
  rcases bcase r29 with c40 | c40
  ·
   refine FL.val (wF_yes rfl rfl rfl c40) rfl rfl (E.move (v := v1) rfl) ?_
   refine FL.val (wF_yes rfl rfl rfl c40) rfl rfl (E.lenP te36 rfl p1) ?_
   refine FL.val (wF_yes rfl rfl rfl c40) rfl rfl (E.gtr rfl rfl) ?_
   refine FL.v (E.pickT rfl c40 rfl) ?_
   exact FL.nil ⟨rfl, _, S33, (Inc.rfl _), rfl, (congrArg Value.bool (bifT c40).symm)⟩
  ·
   refine FL.skip (wF_no rfl rfl rfl c40) rfl ?_
   refine FL.skip (wF_no rfl rfl rfl c40) rfl ?_
   refine FL.skip (wF_no rfl rfl rfl c40) rfl ?_
   refine FL.v (E.pickF rfl c40 rfl) ?_
   exact FL.nil ⟨rfl, _, S33, (Inc.rfl _), rfl, (congrArg Value.bool (bifF c40).symm)⟩
 rintro f39 w38 ⟨H35, S36, i37, k41, k42⟩
 refine FL.v (E.move k42) ?_
 obtain ⟨t51, hqt51, hp⟩ := bnd hp
 refine FL.cut 5 (fun f w => ∃ H : GH, St Ha wa H w [] ∧ Inc H35 H ∧ f 18 = Value.bool t51) ?_ ?_
 ·
  clear hp; have hp := hqt51; clear hqt51
  rcases ifB hp with ⟨c57, hp⟩ | ⟨c57, hp⟩
  ·
   refine FL.val (wF_yes rfl rfl rfl c57) rfl rfl (E.move k41) ?_
   obtain ⟨r58, hr59, hp⟩ := bnd hp
   refine FL.call (wF_yes rfl rfl rfl c57) rfl rfl (E.call Tryz.call42 (A1 rfl)) (w_spec_l7Last S36.sl v1 a1 (p1.mono (i27.tr i37)) hr59) ?_
   rintro e w61 ⟨H60, v64, rfl, r63, h65⟩
   refine ⟨_, rfl, ?_⟩
   have S62 := S36.call r63
   refine FL.val (wF_yes rfl rfl rfl c57) rfl rfl (E.lenP te50 rfl h65) ?_
   refine FL.val (wF_yes rfl rfl rfl c57) rfl rfl (E.eql rfl rfl) ?_
   obtain rfl := Option.some.inj hp
   refine FL.v (E.pickT rfl c57 rfl) ?_
   exact FL.nil ⟨rfl, _, S62, r63.inc, rfl⟩
  ·
   refine FL.skip (wF_no rfl rfl rfl c57) rfl ?_
   refine FL.skip (wF_no rfl rfl rfl c57) rfl ?_
   refine FL.skip (wF_no rfl rfl rfl c57) rfl ?_
   refine FL.skip (wF_no rfl rfl rfl c57) rfl ?_
   obtain rfl := Option.some.inj hp
   refine FL.v (E.pickF rfl c57 rfl) ?_
   exact FL.nil ⟨rfl, _, S36, (Inc.rfl _), rfl⟩
 rintro f56 w55 ⟨H52, S53, i54, k66⟩
 refine FL.v (E.assign k66) ?_
 refine FL.nil ?_
 refine FW.ret ?_
 obtain rfl := Option.some.inj hp
 exact ⟨.inr rfl, res1 rfl rfl ⟨rfl, S53.back⟩⟩

theorem w_spec_l1Most {Ha : GH} {wa : World} (hs : Sl Ha wa) (a0 : Int) (a1 : Int) :
  Calls Tryz.prog 44 #[Value.int .i64 a0, Value.int .i64 a1] wa (Sc Ha wa (Value.int .i64 (PF.spec_l1Most a0 a1))) := by
 obtain ⟨r, hp⟩ : ∃ r, (PF.spec_l1Most a0 a1) = r := ⟨_, rfl⟩
 rw [hp]
 unfold PF.spec_l1Most at hp
 have S0 := St.init hs
 refine calls_go (N := 10) (args := [Value.int .i64 a0, Value.int .i64 a1]) Tryz.func44 rfl rfl rfl ?_
 refine FW.seq (FW.region ?_)
 refine FL.v (E.assign (v := Value.int .i64 0) rfl) ?_
 refine FL.nil (FW.seq (FW.seq (FW.region ?_)))
 refine FL.v (E.move (v := Value.int .i64 a0) rfl) ?_
 refine FL.v (E.move (v := Value.int .i64 a1) rfl) ?_
 refine FL.v (E.gtr rfl rfl) ?_
 refine FL.nil ?_
 rcases ifT hp with ⟨c21, hp⟩ | ⟨c21, hp⟩
 ·
  refine FW.condT rfl c21 ?_
  refine FW.seq (FW.region ?_)
  refine FL.v (E.move (v := Value.int .i64 a0) rfl) ?_
  refine FL.v (E.assign (v := Value.int .i64 a0) rfl) ?_
  refine FL.nil ?_
  refine FW.ret ?_
  obtain rfl := hp
  exact ⟨.inr rfl, res1 rfl rfl ⟨rfl, S0.back⟩⟩
 ·
  refine FW.condF rfl c21 ?_
  refine FW.skip (FW.seq (FW.region ?_))
  refine FL.v (E.move (v := Value.int .i64 a1) rfl) ?_
  refine FL.v (E.assign (v := Value.int .i64 a1) rfl) ?_
  refine FL.nil ?_
  refine FW.ret ?_
  obtain rfl := hp
  exact ⟨.inr rfl, res1 rfl rfl ⟨rfl, S0.back⟩⟩

theorem w_spec_l31Width {Ha : GH} {wa : World} (hs : Sl Ha wa) (v0 : Value) (a0 : List ResStep) (p0 : RSl Ha eResStep 4 v0 a0) {r : Int} (hp : (PF.spec_l31Width a0) = some r) :
  Calls Tryz.prog 25 #[v0] wa (Sc Ha wa (Value.int .i64 r)) := by
 unfold PF.spec_l31Width at hp
 have S0 := St.init hs
 refine calls_go (N := 20) (args := [v0]) Tryz.func25 rfl rfl rfl ?_
 refine FW.seq (FW.region ?_)
 refine FL.v (E.assign (v := Value.int .i64 0) rfl) ?_
 refine FL.nil (FW.seq (FW.region ?_))
 refine FL.v (E.assign (v := Value.int .i64 0) rfl) ?_
 refine FL.nil (FW.seq (FW.seq (FW.region ?_)))
 refine FL.v (E.assign (v := Value.int .i64 0) rfl) ?_
 refine FL.nil ?_
 obtain ⟨q22, hq, hp⟩ := bndR hp
 refine FW.block ?_
 refine FW.mono (FW.forL (S := Int) (X := Empty) (fun (i22 : Nat) (s22 : Int) f w => ∃ H : GH, St Ha wa H w [] ∧ Inc Ha H ∧ f 4 = Value.int .i64 ((i22 : Nat) : Int) ∧ f 0 = v0 ∧ f 3 = Value.int .i64 s22) (fun (q : Rs Int Empty) e f w => match q with | .go s22 => e = Exit.exit 0 ∧ (∃ H : GH, St Ha wa H w [] ∧ Inc Ha H ∧ f 3 = Value.int .i64 s22) | .rt x => x.elim) hq ⟨_, S0, (Inc.rfl _), rfl, rfl, rfl⟩ ?_ ?_) ?_
 ·
  clear hp hq
  rintro i22 y21 s22 f46 w45 ⟨H42, S43, i44, k47, k48, k49⟩ hx22 o61 hp
  refine FW.seq (FW.seq (FW.region ?_))
  refine FL.v (E.move k47) ?_
  refine FL.v (E.move k48) ?_
  refine FL.v (E.lenP te36 rfl p0) ?_
  refine FL.v (E.lssT rfl rfl (lss_len hx22)) ?_
  refine FL.nil ?_
  refine FW.condT rfl rfl ?_
  refine FW.skip (FW.seq (FW.block (FW.region ?_)))
  refine FL.v (E.move k49) ?_
  refine FL.v (E.move k48) ?_
  refine FL.v (E.move k47) ?_
  obtain ⟨p50, cs51, pt52, l53, at54, rel55⟩ := p0.at (ix_nat hx22)
  obtain ⟨v56, rfl, h57⟩ := eResStep_open rel55
  refine FL.v (E.indexAddr te36 rfl rfl pt52) ?_
  refine FL.v (E.fieldAddr tf60_0 rfl) ?_
  refine FL.v (E.load rfl (run_load1 Tryz.isAgg50 ((at54.mono i44).now S43.sl) rfl)) ?_
  refine FL.v (E.lenP te50 rfl h57) ?_
  refine FL.call rfl rfl rfl (E.call Tryz.call44 (A2 rfl rfl)) (w_spec_l1Most S43.sl s22 (len y21.clause)) ?_
  rintro e w58 ⟨rfl, r59⟩
  refine ⟨_, rfl, ?_⟩
  have S60 := S43.call r59
  refine FL.v (E.assign (v := Value.int .i64 (PF.spec_l1Most s22 (len y21.clause))) rfl) ?_
  refine FL.nil (FW.region ?_)
  refine FL.v (E.move k47) ?_
  refine FL.v (E.add rfl rfl) ?_
  refine FL.v (E.assign (v := Value.int .i64 (wr (((i22 : Nat) : Int) + 1))) rfl) ?_
  refine FL.nil ?_
  obtain rfl := Option.some.inj hp
  exact ⟨rfl, ⟨_, S60, i44, (nat_succ rfl (lt_of_get hx22) (p0.mono i44).le), k48, rfl⟩⟩
 ·
  clear hp hq
  rintro s22 f72 w71 ⟨H68, S69, i70, k73, k74, k75⟩
  refine FW.seq (FW.seq (FW.region ?_))
  refine FL.v (E.move k73) ?_
  refine FL.v (E.move k74) ?_
  refine FL.v (E.lenP te36 rfl p0) ?_
  refine FL.v (E.lss rfl rfl) ?_
  refine FL.nil ?_
  refine FW.condF rfl dlt_len ?_
  refine FW.exit ?_
  exact ⟨nofun, rfl, ⟨_, S69, i70, k75⟩⟩
 ·
  clear hq
  intro e f66 w65 hD
  rcases q22 with s22 | x22
  ·
   obtain ⟨rfl, hD⟩ := hD
   obtain ⟨H62, S63, i64, k67⟩ := hD
   replace hp := el_go hp
   refine FW.seq (FW.region ?_)
   refine FL.v (E.move k67) ?_
   refine FL.v (E.assign (v := Value.int .i64 s22) rfl) ?_
   refine FL.nil ?_
   refine FW.ret ?_
   obtain rfl := Option.some.inj hp
   exact ⟨.inr rfl, res1 rfl rfl ⟨rfl, S63.back⟩⟩
  ·
   exact x22.elim

@[reducible] def p_spec_l31Enter (Ha : GH) (wa : World) (r : ((List Record) × Bool)) : Ending → World → Prop :=
 fun e w' => ∃ H' : GH, ∃ v0 : Value, ∃ n0 : Nat, ∃ c0 : List Value, e = .returned (Value.tuple #[v0, Value.bool r.2]) ∧ St Ha wa H' w' [.row 57 4 v0 n0 c0] ∧ Els (up wa.heap.size H') eRecord 4 c0 r.1
set_option maxHeartbeats 4000000 in
theorem w_spec_l31Enter {Ha : GH} {wa : World} (hs : Sl Ha wa) (v0 : Value) (a0 : List Record) (p0 : RSl Ha eRecord 4 v0 a0) (a1 : Record) {r : ((List Record) × Bool)} (hp : (PF.spec_l31Enter a0 a1) = some r) :
  Calls Tryz.prog 24 #[v0, Value.agg #[Value.string a1.name, Value.int .i64 a1.system, Value.int .i64 a1.size, Value.int .i64 a1.extra]] wa (p_spec_l31Enter Ha wa r) := by
 unfold PF.spec_l31Enter at hp
 have S0 := St.init hs
 refine calls_go (N := 101) (args := [v0, Value.agg #[Value.string a1.name, Value.int .i64 a1.system, Value.int .i64 a1.size, Value.int .i64 a1.extra]]) Tryz.func24 rfl rfl rfl ?_
 refine FW.seq (FW.region ?_)
 obtain ⟨b21, w22, run23, S24⟩ := S0.box (P := Tryz.prog) 57 [Value.string a1.name, Value.int .i64 a1.system, Value.int .i64 a1.size, Value.int .i64 a1.extra] (v := Value.agg #[Value.string a1.name, Value.int .i64 a1.system, Value.int .i64 a1.size, Value.int .i64 a1.extra]) rfl (ones_cons rfl (ones_cons rfl (ones_cons rfl (ones_cons rfl ones_nil))))
 refine FL.v (E.box rfl run23) ?_
 obtain ⟨H25, S26, i27, at28⟩ := S24.sealBox (i := 0) (l' := []) rfl rfl
 refine FL.v (E.assign (v := Value.slice none 0 0) rfl) ?_
 refine FL.v (E.assign (v := Value.bool false) rfl) ?_
 refine FL.nil (FW.seq (FW.region ?_))
 refine FL.v (E.assign (v := Value.int .i64 0) rfl) ?_
 refine FL.nil (FW.seq ?_)
 obtain ⟨q29, hq, hp⟩ := bndR hp
 refine FW.block ?_
 refine FW.mono (FW.iter (S := Int) (X := Empty) (fun (s29 : Int) f w => ∃ H : GH, St Ha wa H w [] ∧ Inc H25 H ∧ f 0 = v0 ∧ f 3 = Value.pointer (some ⟨b21, 0, none⟩) ∧ f 6 = Value.int .i64 s29) (fun (q : Rs Int Empty) e f w => match q with | .go s29 => e = Exit.exit 0 ∧ (∃ H : GH, St Ha wa H w [] ∧ Inc H25 H ∧ f 0 = v0 ∧ f 3 = Value.pointer (some ⟨b21, 0, none⟩) ∧ f 6 = Value.int .i64 s29) | .rt x => x.elim) hq ⟨_, S26, (Inc.rfl _), rfl, rfl, rfl⟩ ?_) ?_
 ·
  clear hp hq
  rintro s29 f74 w73 ⟨H70, S71, i72, k75, k76, k77⟩ o110 hp
  refine FW.seq (FW.seq ?_)
  refine FW.draw (fun w' => Run w73.heap.size H70 w73 H70 w') (by kernel_rfl) (by kernel_rfl) (run_drew S71.sl) ?_
  refine FD.val rfl rfl rfl (fun w' hw' => (E.move k77)) ?_
  refine FD.val rfl rfl rfl (fun w' hw' => (E.move k75)) ?_
  refine FD.val rfl rfl rfl (fun w' hw' => (E.lenP te30 rfl p0)) ?_
  refine FD.val rfl rfl rfl (fun w' hw' => (E.lss rfl rfl)) ?_
  refine FD.val rfl rfl rfl (fun w' hw' => (E.move (v := Value.bool (decide (s29 < (len a0)))) rfl)) ?_
  obtain ⟨t87, hqt87, hp⟩ := bnd hp
  refine FD.cut 10 (fun f => f 0 = v0 ∧ f 3 = Value.pointer (some ⟨b21, 0, none⟩) ∧ f 6 = Value.int .i64 s29 ∧ f 23 = Value.bool t87) ?_ ?_
  ·
   clear hp; have hp := hqt87; clear hqt87
   rcases ifB hp with ⟨c93, hp⟩ | ⟨c93, hp⟩
   ·
    refine FD.val (wF_yes rfl rfl rfl c93) rfl rfl (fun w' hw' => (E.move k75)) ?_
    refine FD.val (wF_yes rfl rfl rfl c93) rfl rfl (fun w' hw' => (E.move k77)) ?_
    obtain ⟨x100, hx101, hp⟩ := bnd hp
    obtain ⟨p94, cs95, pt96, l97, at98, rel99⟩ := p0.at hx101
    obtain rfl := eRecord_open rel99
    refine FD.val (wF_yes rfl rfl rfl c93) rfl rfl (fun w' hw' => (E.indexAddr te30 rfl rfl pt96)) ?_
    refine FD.val (wF_yes rfl rfl rfl c93) rfl rfl (fun w' hw' => (E.load rfl (run_loadA Tryz.isAgg57 Tryz.sizeOf57 ((at98.mono (i27.tr i72)).now (S71.call hw').sl) rfl))) ?_
    refine FD.val (wF_yes rfl rfl rfl c93) rfl rfl (fun w' hw' => (E.fieldAddr tf57_0 k76)) ?_
    refine FD.val (wF_yes rfl rfl rfl c93) rfl rfl (fun w' hw' => (E.load rfl (run_load1 Tryz.isAgg9 ((at28.mono i72).now (S71.call hw').sl) rfl))) ?_
    refine FD.val (wF_yes rfl rfl rfl c93) rfl rfl (fun w' hw' => (E.fieldAddr tf57_1 k76)) ?_
    refine FD.val (wF_yes rfl rfl rfl c93) rfl rfl (fun w' hw' => (E.load rfl (run_load1 Tryz.isAgg3 ((at28.mono i72).now (S71.call hw').sl) rfl))) ?_
    refine FD.call (wF_yes rfl rfl rfl c93) rfl rfl (fun w' hw' => (E.call Tryz.call43 (A3 rfl rfl rfl))) (fun w' hw' => Calls.cls hw' (w_spec_l31Before (S71.call hw').sl x100 a1.name a1.system)) ?_
    obtain rfl := Option.some.inj hp
    refine FD.val rfl rfl rfl (fun w' hw' => (E.pickT rfl c93 rfl)) ?_
    exact FD.nil ⟨k75, k76, k77, rfl⟩
   ·
    refine FD.skip (wF_no rfl rfl rfl c93) rfl ?_
    refine FD.skip (wF_no rfl rfl rfl c93) rfl ?_
    refine FD.skip (wF_no rfl rfl rfl c93) rfl ?_
    refine FD.skip (wF_no rfl rfl rfl c93) rfl ?_
    refine FD.skip (wF_no rfl rfl rfl c93) rfl ?_
    refine FD.skip (wF_no rfl rfl rfl c93) rfl ?_
    refine FD.skip (wF_no rfl rfl rfl c93) rfl ?_
    refine FD.skip (wF_no rfl rfl rfl c93) rfl ?_
    refine FD.skip (wF_no rfl rfl rfl c93) rfl ?_
    obtain rfl := Option.some.inj hp
    refine FD.val rfl rfl rfl (fun w' hw' => (E.pickF rfl c93 rfl)) ?_
    exact FD.nil ⟨k75, k76, k77, rfl⟩
  rintro f92 ⟨k102, k103, k104, k105⟩
  refine FD.nil ?_
  intro w106 r108
  have S107 := S71.call r108
  rcases ifB hp with ⟨c109, hp⟩ | ⟨c109, hp⟩
  ·
   refine FW.condT k105 c109 ?_
   refine FW.skip (FW.block (FW.region ?_))
   refine FL.v (E.move k104) ?_
   refine FL.v (E.add rfl rfl) ?_
   refine FL.v (E.assign (v := Value.int .i64 (wr (s29 + 1))) rfl) ?_
   refine FL.nil ?_
   obtain rfl := Option.some.inj hp
   exact ⟨rfl, ⟨_, S107, i72, k102, k103, rfl⟩⟩
  ·
   refine FW.condF k105 c109 ?_
   refine FW.exit ?_
   obtain rfl := Option.some.inj hp
   exact ⟨nofun, rfl, ⟨_, S107, i72, k102, k103, k104⟩⟩
 ·
  clear hq
  intro e f115 w114 hD
  rcases q29 with s29 | x29
  ·
   obtain ⟨rfl, hD⟩ := hD
   obtain ⟨H111, S112, i113, k116, k117, k118⟩ := hD
   replace hp := el_go hp
   refine FW.seq (FW.region ?_)
   obtain ⟨v119, w120, run121, S122⟩ := S112.buildSlice (P := Tryz.prog) te30 [] (parts := #[]) (cells := []) rfl szs_nil fc_nil ones_nil (Nat.le_of_ble_eq_true rfl)
   have els123 : Els (up wa.heap.size H111) eRecord 4 [] [] := Els.nil
   refine FL.v (E.buildSlice (B0) run121) ?_
   refine FL.v (E.move k116) ?_
   refine FL.v (E.move k118) ?_
   obtain ⟨xs124, hc125, hp⟩ := bnd hp
   obtain ⟨v126, run127, h128⟩ := p0.cut te30 hc125 (lo := none) (hi := some (Value.int .i64 s29)) (.inl ⟨rfl, rfl⟩) (.inr ⟨_, rfl⟩)
   refine FL.v (E.slice te30 rfl rfl (congrArg some rfl) rfl (run127 _)) ?_
   obtain ⟨xs129, hz130, hp⟩ := bnd hp
   obtain ⟨v131, w134, n132, cs133, run135, S136, els137⟩ := S122.appendP (P := Tryz.prog) (Inc.rfl _) te30 (i := 0) rfl (els123.mono upI) (h128.mono (i27.tr i113)) hz130
   have S136 : St Ha wa H111 w134 [.row 57 4 v131 n132 cs133] := S136
   have els137 : Els (up wa.heap.size H111) eRecord 4 cs133 xs129 := els137.any (fun _ _ _ _ h => h)
   refine FL.v (E.append rfl rfl run135) ?_
   refine FL.v (E.assign (v := v131) rfl) ?_
   refine FL.nil (FW.seq (FW.seq ?_))
   refine FW.draw (fun w' => Run w134.heap.size H111 w134 H111 w') (by kernel_rfl) (by kernel_rfl) (run_drew S136.sl) ?_
   refine FD.val rfl rfl rfl (fun w' hw' => (E.move k118)) ?_
   refine FD.val rfl rfl rfl (fun w' hw' => (E.move k116)) ?_
   refine FD.val rfl rfl rfl (fun w' hw' => (E.lenP te30 rfl p0)) ?_
   refine FD.val rfl rfl rfl (fun w' hw' => (E.lss rfl rfl)) ?_
   refine FD.val rfl rfl rfl (fun w' hw' => (E.move (v := Value.bool (decide (s29 < (len a0)))) rfl)) ?_
   obtain ⟨t148, hqt148, hp⟩ := bnd hp
   refine FD.cut 9 (fun f => f 0 = v0 ∧ f 3 = Value.pointer (some ⟨b21, 0, none⟩) ∧ f 6 = Value.int .i64 s29 ∧ f 7 = v131 ∧ f 44 = Value.bool t148) ?_ ?_
   ·
    clear hp; have hp := hqt148; clear hqt148
    rcases ifB hp with ⟨c154, hp⟩ | ⟨c154, hp⟩
    ·
     refine FD.val (wF_yes rfl rfl rfl c154) rfl rfl (fun w' hw' => (E.move k116)) ?_
     refine FD.val (wF_yes rfl rfl rfl c154) rfl rfl (fun w' hw' => (E.move k118)) ?_
     obtain ⟨x161, hx162, hp⟩ := bnd hp
     obtain ⟨p155, cs156, pt157, l158, at159, rel160⟩ := p0.at hx162
     obtain rfl := eRecord_open rel160
     refine FD.val (wF_yes rfl rfl rfl c154) rfl rfl (fun w' hw' => (E.indexAddr te30 rfl rfl pt157)) ?_
     refine FD.val (wF_yes rfl rfl rfl c154) rfl rfl (fun w' hw' => (E.fieldAddr tf57_0 rfl)) ?_
     refine FD.val (wF_yes rfl rfl rfl c154) rfl rfl (fun w' hw' => (E.load rfl (run_load1 Tryz.isAgg9 ((at159.mono (i27.tr i113)).now (S136.call hw').sl) rfl))) ?_
     refine FD.val (wF_yes rfl rfl rfl c154) rfl rfl (fun w' hw' => (E.fieldAddr tf57_0 k117)) ?_
     refine FD.val (wF_yes rfl rfl rfl c154) rfl rfl (fun w' hw' => (E.load rfl (run_load1 Tryz.isAgg9 ((at28.mono i113).now (S136.call hw').sl) rfl))) ?_
     refine FD.val (wF_yes rfl rfl rfl c154) rfl rfl (fun w' hw' => (E.eqlS rfl rfl)) ?_
     obtain rfl := Option.some.inj hp
     refine FD.val rfl rfl rfl (fun w' hw' => (E.pickT rfl c154 rfl)) ?_
     exact FD.nil ⟨k116, k117, k118, rfl, rfl⟩
    ·
     refine FD.skip (wF_no rfl rfl rfl c154) rfl ?_
     refine FD.skip (wF_no rfl rfl rfl c154) rfl ?_
     refine FD.skip (wF_no rfl rfl rfl c154) rfl ?_
     refine FD.skip (wF_no rfl rfl rfl c154) rfl ?_
     refine FD.skip (wF_no rfl rfl rfl c154) rfl ?_
     refine FD.skip (wF_no rfl rfl rfl c154) rfl ?_
     refine FD.skip (wF_no rfl rfl rfl c154) rfl ?_
     refine FD.skip (wF_no rfl rfl rfl c154) rfl ?_
     obtain rfl := Option.some.inj hp
     refine FD.val rfl rfl rfl (fun w' hw' => (E.pickF rfl c154 rfl)) ?_
     exact FD.nil ⟨k116, k117, k118, rfl, rfl⟩
   rintro f153 ⟨k163, k164, k165, k166, k167⟩
   refine FD.val rfl rfl rfl (fun w' hw' => (E.move k167)) ?_
   obtain ⟨t176, hqt176, hp⟩ := bnd hp
   refine FD.cut 9 (fun f => f 0 = v0 ∧ f 3 = Value.pointer (some ⟨b21, 0, none⟩) ∧ f 6 = Value.int .i64 s29 ∧ f 7 = v131 ∧ f 54 = Value.bool t176) ?_ ?_
   ·
    clear hp; have hp := hqt176; clear hqt176
    rcases ifB hp with ⟨c182, hp⟩ | ⟨c182, hp⟩
    ·
     refine FD.val (wF_yes rfl rfl rfl c182) rfl rfl (fun w' hw' => (E.move k163)) ?_
     refine FD.val (wF_yes rfl rfl rfl c182) rfl rfl (fun w' hw' => (E.move k165)) ?_
     obtain ⟨x189, hx190, hp⟩ := bnd hp
     obtain ⟨p183, cs184, pt185, l186, at187, rel188⟩ := p0.at hx190
     obtain rfl := eRecord_open rel188
     refine FD.val (wF_yes rfl rfl rfl c182) rfl rfl (fun w' hw' => (E.indexAddr te30 rfl rfl pt185)) ?_
     refine FD.val (wF_yes rfl rfl rfl c182) rfl rfl (fun w' hw' => (E.fieldAddr tf57_1 rfl)) ?_
     refine FD.val (wF_yes rfl rfl rfl c182) rfl rfl (fun w' hw' => (E.load rfl (run_load1 Tryz.isAgg3 ((at187.mono (i27.tr i113)).now (S136.call hw').sl) rfl))) ?_
     refine FD.val (wF_yes rfl rfl rfl c182) rfl rfl (fun w' hw' => (E.fieldAddr tf57_1 k164)) ?_
     refine FD.val (wF_yes rfl rfl rfl c182) rfl rfl (fun w' hw' => (E.load rfl (run_load1 Tryz.isAgg3 ((at28.mono i113).now (S136.call hw').sl) rfl))) ?_
     refine FD.val (wF_yes rfl rfl rfl c182) rfl rfl (fun w' hw' => (E.eql rfl rfl)) ?_
     obtain rfl := Option.some.inj hp
     refine FD.val rfl rfl rfl (fun w' hw' => (E.pickT rfl c182 rfl)) ?_
     exact FD.nil ⟨k163, k164, k165, k166, rfl⟩
    ·
     refine FD.skip (wF_no rfl rfl rfl c182) rfl ?_
     refine FD.skip (wF_no rfl rfl rfl c182) rfl ?_
     refine FD.skip (wF_no rfl rfl rfl c182) rfl ?_
     refine FD.skip (wF_no rfl rfl rfl c182) rfl ?_
     refine FD.skip (wF_no rfl rfl rfl c182) rfl ?_
     refine FD.skip (wF_no rfl rfl rfl c182) rfl ?_
     refine FD.skip (wF_no rfl rfl rfl c182) rfl ?_
     refine FD.skip (wF_no rfl rfl rfl c182) rfl ?_
     obtain rfl := Option.some.inj hp
     refine FD.val rfl rfl rfl (fun w' hw' => (E.pickF rfl c182 rfl)) ?_
     exact FD.nil ⟨k163, k164, k165, k166, rfl⟩
   rintro f181 ⟨k191, k192, k193, k194, k195⟩
   refine FD.nil ?_
   intro w196 r198
   have S197 := S136.call r198
   obtain ⟨q32, hq, hp⟩ := bndR hp
   refine FW.joinE (S := (List Record)) (X := Empty) (q := q32) (fun s31 f w => ∃ H : GH, ∃ v34 : Value, ∃ n35 : Nat, ∃ cs36 : List Value, St Ha wa H w [.row 57 4 v34 n35 cs36] ∧ Inc H111 H ∧ Els (up wa.heap.size H) eRecord 4 cs36 s31 ∧ f 7 = v34) (fun (_ : Empty) _ _ _ => False) ?_ ?_ ?_
   ·
    clear hp; have hp := hq; clear hq
    rcases ifB hp with ⟨c38, hp⟩ | ⟨c38, hp⟩
    ·
     refine FW.condT k195 c38 ?_
     refine FW.seq (FW.region ?_)
     refine FL.v (E.move k191) ?_
     refine FL.v (E.move k193) ?_
     obtain ⟨x45, hx46, hp⟩ := bnd hp
     obtain ⟨p39, cs40, pt41, l42, at43, rel44⟩ := p0.at hx46
     obtain rfl := eRecord_open rel44
     refine FL.v (E.indexAddr te30 rfl rfl pt41) ?_
     refine FL.v (E.load rfl (run_loadA Tryz.isAgg57 Tryz.sizeOf57 ((at43.mono (i27.tr i113)).now S197.sl) rfl)) ?_
     obtain ⟨b47, w48, run49, S50⟩ := S197.alloc (P := Tryz.prog) 57 [Value.string ByteArray.empty, Value.int .i64 0, Value.int .i64 0, Value.int .i64 0] Tryz.zeroValue57 rfl (ones_cons rfl (ones_cons rfl (ones_cons rfl (ones_cons rfl ones_nil))))
     refine FL.v (E.alloc run49) ?_
     obtain ⟨w51, run52, S53⟩ := S50.store0 (P := Tryz.prog) (t := 57) (i := 0) (cs' := [Value.string x45.name, Value.int .i64 x45.system, Value.int .i64 x45.size, Value.int .i64 x45.extra]) (l' := [.box b47 57 [Value.string x45.name, Value.int .i64 x45.system, Value.int .i64 x45.size, Value.int .i64 x45.extra], .row 57 4 v131 n132 cs133]) (v := Value.agg #[Value.string x45.name, Value.int .i64 x45.system, Value.int .i64 x45.size, Value.int .i64 x45.extra]) (c := [Value.string x45.name, Value.int .i64 x45.system, Value.int .i64 x45.size, Value.int .i64 x45.extra]) rfl Tryz.sizeOf57 rfl rfl (ones_cons rfl (ones_cons rfl (ones_cons rfl (ones_cons rfl ones_nil)))) (Nat.le_of_ble_eq_true rfl) rfl rfl
     refine FL.act rfl rfl (E.store rfl rfl run52) ?_
     refine FL.nil (FW.seq (FW.seq (FW.region ?_)))
     refine FL.v (E.fieldAddr tf57_2 rfl) ?_
     refine FL.v (E.load rfl (run_load1 Tryz.isAgg3 (S53.box_now (i := 0) rfl) rfl)) ?_
     refine FL.v (E.fieldAddr tf57_2 k192) ?_
     refine FL.v (E.load rfl (run_load1 Tryz.isAgg3 ((at28.mono i113).now S53.sl) rfl)) ?_
     refine FL.v (E.gtr rfl rfl) ?_
     refine FL.v (E.move (v := Value.bool (decide (a1.size < x45.size))) rfl) ?_
     refine FL.cut 13 (fun f w => ∃ H : GH, St Ha wa H w [.box b47 57 [Value.string x45.name, Value.int .i64 x45.system, Value.int .i64 x45.size, Value.int .i64 x45.extra], .row 57 4 v131 n132 cs133] ∧ Inc H111 H ∧ f 0 = v0 ∧ f 3 = Value.pointer (some ⟨b21, 0, none⟩) ∧ f 6 = Value.int .i64 s29 ∧ f 7 = v131 ∧ f 8 = Value.pointer (some (⟨b47, 0, none⟩ : Addr)) ∧ f 77 = Value.bool (bif (decide (a1.size < x45.size)) then true else (bif (x45.size == a1.size) then (decide (a1.extra < x45.extra)) else false))) ?_ ?_
     ·
      rcases bcase (decide (a1.size < x45.size)) with c60 | c60
      ·
       refine FL.skip (wF_no rfl rfl rfl c60) rfl ?_
       refine FL.skip (wF_no rfl rfl rfl c60) rfl ?_
       refine FL.skip (wF_no rfl rfl rfl c60) rfl ?_
       refine FL.skip (wF_no rfl rfl rfl c60) rfl ?_
       refine FL.skip (wF_no rfl rfl rfl c60) rfl ?_
       refine FL.skip (wF_no rfl rfl rfl c60) rfl ?_
       refine FL.skip (wF_undef rfl rfl rfl) rfl ?_
       refine FL.skip (wF_undef rfl rfl rfl) rfl ?_
       refine FL.skip (wF_undef rfl rfl rfl) rfl ?_
       refine FL.skip (wF_undef rfl rfl rfl) rfl ?_
       refine FL.skip (wF_undef rfl rfl rfl) rfl ?_
       refine FL.skip (wF_no rfl rfl rfl c60) rfl ?_
       refine FL.v (E.pickT rfl c60 rfl) ?_
       exact FL.nil ⟨rfl, _, S53, (Inc.rfl _), k191, k192, k193, k194, rfl, (congrArg Value.bool (bifT c60).symm)⟩
      ·
       refine FL.val (wF_yes rfl rfl rfl c60) rfl rfl (E.fieldAddr tf57_2 rfl) ?_
       refine FL.val (wF_yes rfl rfl rfl c60) rfl rfl (E.load rfl (run_load1 Tryz.isAgg3 (S53.box_now (i := 0) rfl) rfl)) ?_
       refine FL.val (wF_yes rfl rfl rfl c60) rfl rfl (E.fieldAddr tf57_2 k192) ?_
       refine FL.val (wF_yes rfl rfl rfl c60) rfl rfl (E.load rfl (run_load1 Tryz.isAgg3 ((at28.mono i113).now S53.sl) rfl)) ?_
       refine FL.val (wF_yes rfl rfl rfl c60) rfl rfl (E.eql rfl rfl) ?_
       refine FL.val (wF_yes rfl rfl rfl c60) rfl rfl (E.move (v := Value.bool (x45.size == a1.size)) rfl) ?_
       refine FL.cut 6 (fun f w => ∃ H : GH, St Ha wa H w [.box b47 57 [Value.string x45.name, Value.int .i64 x45.system, Value.int .i64 x45.size, Value.int .i64 x45.extra], .row 57 4 v131 n132 cs133] ∧ Inc H111 H ∧ f 0 = v0 ∧ f 3 = Value.pointer (some ⟨b21, 0, none⟩) ∧ f 6 = Value.int .i64 s29 ∧ f 7 = v131 ∧ f 8 = Value.pointer (some (⟨b47, 0, none⟩ : Addr)) ∧ f 64 = Value.bool (decide (a1.size < x45.size)) ∧ f 76 = Value.bool (bif (x45.size == a1.size) then (decide (a1.extra < x45.extra)) else false)) ?_ ?_
       ·
        rcases bcase (x45.size == a1.size) with c66 | c66
        ·
         refine FL.val (wF_yes rfl rfl rfl c66) rfl rfl (E.fieldAddr tf57_3 rfl) ?_
         refine FL.val (wF_yes rfl rfl rfl c66) rfl rfl (E.load rfl (run_load1 Tryz.isAgg3 (S53.box_now (i := 0) rfl) rfl)) ?_
         refine FL.val (wF_yes rfl rfl rfl c66) rfl rfl (E.fieldAddr tf57_3 k192) ?_
         refine FL.val (wF_yes rfl rfl rfl c66) rfl rfl (E.load rfl (run_load1 Tryz.isAgg3 ((at28.mono i113).now S53.sl) rfl)) ?_
         refine FL.val (wF_yes rfl rfl rfl c66) rfl rfl (E.gtr rfl rfl) ?_
         refine FL.val (wF_yes rfl rfl rfl c60) rfl rfl (E.pickT rfl c66 rfl) ?_
         exact FL.nil ⟨rfl, _, S53, (Inc.rfl _), k191, k192, k193, k194, rfl, rfl, (congrArg Value.bool (bifT c66).symm)⟩
        ·
         refine FL.skip (wF_no rfl rfl rfl c66) rfl ?_
         refine FL.skip (wF_no rfl rfl rfl c66) rfl ?_
         refine FL.skip (wF_no rfl rfl rfl c66) rfl ?_
         refine FL.skip (wF_no rfl rfl rfl c66) rfl ?_
         refine FL.skip (wF_no rfl rfl rfl c66) rfl ?_
         refine FL.val (wF_yes rfl rfl rfl c60) rfl rfl (E.pickF rfl c66 rfl) ?_
         exact FL.nil ⟨rfl, _, S53, (Inc.rfl _), k191, k192, k193, k194, rfl, rfl, (congrArg Value.bool (bifF c66).symm)⟩
       rintro f65 w64 ⟨H61, S62, i63, k67, k68, k69, k78, k79, k80, k81⟩
       refine FL.v (E.pickF k80 c60 k81) ?_
       exact FL.nil ⟨rfl, _, S62, i63, k67, k68, k69, k78, k79, (congrArg Value.bool (bifF c60).symm)⟩
     rintro f59 w58 ⟨H54, S55, i56, k82, k83, k84, k85, k86, k88⟩
     refine FL.nil ?_
     obtain ⟨q90, hq, hp⟩ := bndR hp
     refine FW.joinE (S := (ByteArray × Int × Int × Int)) (X := Empty) (q := q90) (fun s89 f w => ∃ H : GH, ∃ q138 : Addr, St Ha wa H w [.row 57 4 v131 n132 cs133] ∧ Inc H54 H ∧ CAt H q138 [Value.string s89.1, Value.int .i64 s89.2.1, Value.int .i64 s89.2.2.1, Value.int .i64 s89.2.2.2] ∧ f 0 = v0 ∧ f 6 = Value.int .i64 s29 ∧ f 7 = v131 ∧ f 8 = Value.pointer (some q138)) (fun (_ : Empty) _ _ _ => False) ?_ ?_ ?_
     ·
      clear hp; have hp := hq; clear hq
      rcases ifB hp with ⟨c140, hp⟩ | ⟨c140, hp⟩
      ·
       refine FW.condT k88 c140 ?_
       refine FW.region ?_
       refine FL.v (E.load k83 (run_loadA Tryz.isAgg57 Tryz.sizeOf57 ((at28.mono (i113.tr i56)).now S55.sl) rfl)) ?_
       obtain ⟨w141, run142, S143⟩ := S55.store0 (P := Tryz.prog) (t := 57) (i := 0) (cs' := [Value.string a1.name, Value.int .i64 a1.system, Value.int .i64 a1.size, Value.int .i64 a1.extra]) (l' := [.box b47 57 [Value.string a1.name, Value.int .i64 a1.system, Value.int .i64 a1.size, Value.int .i64 a1.extra], .row 57 4 v131 n132 cs133]) (v := Value.agg #[Value.string a1.name, Value.int .i64 a1.system, Value.int .i64 a1.size, Value.int .i64 a1.extra]) (c := [Value.string a1.name, Value.int .i64 a1.system, Value.int .i64 a1.size, Value.int .i64 a1.extra]) rfl Tryz.sizeOf57 rfl rfl (ones_cons rfl (ones_cons rfl (ones_cons rfl (ones_cons rfl ones_nil)))) (Nat.le_of_ble_eq_true rfl) rfl rfl
       refine FL.act rfl rfl (E.store k86 rfl run142) ?_
       obtain ⟨H144, S145, i146, at147⟩ := S143.sealBox (i := 0) (l' := [.row 57 4 v131 n132 cs133]) rfl rfl
       refine FL.nil ?_
       obtain rfl := Option.some.inj hp
       exact ⟨rfl, ⟨_, _, S145, i146, at147, k82, k84, k85, k86⟩⟩
      ·
       refine FW.condF k88 c140 ?_
       refine FW.skip ?_
       obtain ⟨H149, S150, i151, at152⟩ := S55.sealBox (i := 0) (l' := [.row 57 4 v131 n132 cs133]) rfl rfl
       obtain rfl := Option.some.inj hp
       exact ⟨rfl, ⟨_, _, S150, i151, at152, k82, k84, k85, k86⟩⟩
     ·
      rintro s89 rfl f172 w171 ⟨H168, q138, S169, i170, at139, k173, k174, k175, k177⟩
      replace hp := el_go hp
      obtain ⟨xs204, hz205, hp⟩ := bnd hp
      obtain ⟨xs215, hc216, hp⟩ := bnd hp
      obtain ⟨xs220, hz221, hp⟩ := bnd hp
      refine FW.drawB (Sl H168) (fun f w => ∃ H : GH, ∃ v229 : Value, ∃ n230 : Nat, ∃ cs231 : List Value, St Ha wa H w [.row 57 4 v229 n230 cs231] ∧ Inc H168 H ∧ Els (up wa.heap.size H) eRecord 4 cs231 xs220 ∧ f 7 = v229) (by kernel_rfl) S169.sl ?_ ?_
      ·
       intro w178 r179
       have S180 := S169.call r179
       refine FB.t (i := 0) (bs 10 1) rfl (SP.nil S180.sl) rfl (fun w' hw' => (E.move k175)) ?_
       refine FB.t (i := 1) (bs 10 3) rfl (SP.nil S180.sl) rfl (fun w' hw' => (E.load k177 (run_loadA Tryz.isAgg57 Tryz.sizeOf57 (at139.now hw') rfl))) ?_
       refine FB.t (i := 4) (bs 10 19) rfl (SP.nil S180.sl) rfl (fun w' hw' => (E.move k173)) ?_
       refine FB.t (i := 5) (bs 10 51) rfl (SP.nil S180.sl) rfl (fun w' hw' => (E.move k174)) ?_
       refine FB.t (i := 6) (bs 10 115) rfl (SP.nil S180.sl) rfl (fun w' hw' => (E.add rfl rfl)) ?_
       obtain ⟨v217, run218, h219⟩ := p0.cut te30 hc216 (lo := some (Value.int .i64 (wr (s29 + 1)))) (hi := none) (.inr ⟨_, rfl⟩) (.inl ⟨rfl, rfl⟩)
       refine FB.t (i := 7) (bs 10 243) rfl (SP.nil S180.sl) rfl (fun w' hw' => (E.slice te30 rfl (congrArg some rfl) rfl rfl (run218 _))) ?_
       refine FB.all1 (i := 2) (by kernel_rfl) ?_
       ·
        obtain ⟨v199, w200, run201, S202⟩ := S180.buildSlice (P := Tryz.prog) te30 [Value.agg #[Value.string s89.1, Value.int .i64 s89.2.1, Value.int .i64 s89.2.2.1, Value.int .i64 s89.2.2.2]] (parts := #[(0, Value.agg #[Value.string s89.1, Value.int .i64 s89.2.1, Value.int .i64 s89.2.2.1, Value.int .i64 s89.2.2.2])]) (cells := [Value.string s89.1, Value.int .i64 s89.2.1, Value.int .i64 s89.2.2.1, Value.int .i64 s89.2.2.2]) rfl (szs_cons rfl szs_nil) (fc_cons rfl fc_nil) (ones_cons rfl (ones_cons rfl (ones_cons rfl (ones_cons rfl ones_nil)))) (Nat.le_of_ble_eq_true rfl)
        have els203 : Els (up wa.heap.size H168) eRecord 4 [Value.string s89.1, Value.int .i64 s89.2.1, Value.int .i64 s89.2.2.1, Value.int .i64 s89.2.2.2] [(Record.mk s89.1 s89.2.1 s89.2.2.1 s89.2.2.2)] := (Els.snoc (H := (up wa.heap.size H168)) (E := eRecord) (k := 4) (c := [Value.string s89.1, Value.int .i64 s89.2.1, Value.int .i64 s89.2.2.1, Value.int .i64 s89.2.2.2]) (x := (Record.mk s89.1 s89.2.1 s89.2.2.1 s89.2.2.2)) Els.nil rfl rfl)
        refine FC.val (l' := (bs 10 247)) rfl (by kernel_rfl) rfl rfl rfl (E.buildSlice (B1 rfl) run201) ?_
        refine ⟨(SP.nil S202.sl), ?_⟩
        refine FB.all1 (i := 3) (by kernel_rfl) ?_
        ·
         obtain ⟨v206, w209, n207, cs208, run210, S211, els212, ce213⟩ := S202.appendO (P := Tryz.prog) te30 (i := 1) (j := 0) rfl (els137.mono (up_mono (i56.tr i170))) rfl els203 hz205
         have S211 : St Ha wa H168 w209 [.row 57 4 v199 1 [Value.string s89.1, Value.int .i64 s89.2.1, Value.int .i64 s89.2.2.1, Value.int .i64 s89.2.2.2], .row 57 4 v206 n207 cs208] := S211
         have S214 : St Ha wa H168 w209 [.row 57 4 v206 n207 cs208] := S211.drop 0
         refine FC.val (l' := (bs 10 255)) rfl (by kernel_rfl) rfl rfl rfl (E.append rfl rfl run210) ?_
         refine ⟨(SP.nil S214.sl), ?_⟩
         refine FB.all1 (i := 8) (by kernel_rfl) ?_
         ·
          obtain ⟨v222, w225, n223, cs224, run226, S227, els228⟩ := S214.appendP (P := Tryz.prog) (Inc.rfl _) te30 (i := 0) rfl (els212.mono upI) (h219.mono (((i27.tr i113).tr i56).tr i170)) hz221
          have S227 : St Ha wa H168 w225 [.row 57 4 v222 n223 cs224] := S227
          have els228 : Els (up wa.heap.size H168) eRecord 4 cs224 xs220 := els228.any (fun _ _ _ _ h => h)
          refine FC.val (l' := (bs 10 511)) rfl (by kernel_rfl) rfl rfl rfl (E.append rfl rfl run226) ?_
          refine ⟨(SP.nil S227.sl), ?_⟩
          refine FB.t (i := 9) (bs 10 1023) rfl (SP.nil S227.sl) rfl (fun w' hw' => (E.assign (v := v222) rfl)) ?_
          exact FB.done (by kernel_rfl) ⟨_, _, _, _, S227, (Inc.rfl _), els228, rfl⟩
      ·
       rintro f237 w236 ⟨H233, v229, n230, cs231, S234, i235, els232, k238⟩
       obtain rfl := Option.some.inj hp
       exact ⟨rfl, ⟨_, _, _, _, S234, ((i56.tr i170).tr i235), els232, k238⟩⟩
     ·
      intro x91; exact x91.elim
    ·
     refine FW.condF k195 c38 ?_
     obtain ⟨xs247, hz248, hp⟩ := bnd hp
     obtain ⟨xs258, hc259, hp⟩ := bnd hp
     obtain ⟨xs263, hz264, hp⟩ := bnd hp
     refine FW.drawB (Sl H111) (fun f w => ∃ H : GH, ∃ v272 : Value, ∃ n273 : Nat, ∃ cs274 : List Value, St Ha wa H w [.row 57 4 v272 n273 cs274] ∧ Inc H111 H ∧ Els (up wa.heap.size H) eRecord 4 cs274 xs263 ∧ f 7 = v272) (by kernel_rfl) S197.sl ?_ ?_
     ·
      intro w239 r240
      have S241 := S197.call r240
      refine FB.t (i := 0) (bs 9 1) rfl (SP.nil S241.sl) rfl (fun w' hw' => (E.move k194)) ?_
      refine FB.t (i := 1) (bs 9 3) rfl (SP.nil S241.sl) rfl (fun w' hw' => (E.load k192 (run_loadA Tryz.isAgg57 Tryz.sizeOf57 ((at28.mono i113).now hw') rfl))) ?_
      refine FB.t (i := 4) (bs 9 19) rfl (SP.nil S241.sl) rfl (fun w' hw' => (E.move k191)) ?_
      refine FB.t (i := 5) (bs 9 51) rfl (SP.nil S241.sl) rfl (fun w' hw' => (E.move k193)) ?_
      obtain ⟨v260, run261, h262⟩ := p0.cut te30 hc259 (lo := some (Value.int .i64 s29)) (hi := none) (.inr ⟨_, rfl⟩) (.inl ⟨rfl, rfl⟩)
      refine FB.t (i := 6) (bs 9 115) rfl (SP.nil S241.sl) rfl (fun w' hw' => (E.slice te30 rfl (congrArg some rfl) rfl rfl (run261 _))) ?_
      refine FB.all1 (i := 2) (by kernel_rfl) ?_
      ·
       obtain ⟨v242, w243, run244, S245⟩ := S241.buildSlice (P := Tryz.prog) te30 [Value.agg #[Value.string a1.name, Value.int .i64 a1.system, Value.int .i64 a1.size, Value.int .i64 a1.extra]] (parts := #[(0, Value.agg #[Value.string a1.name, Value.int .i64 a1.system, Value.int .i64 a1.size, Value.int .i64 a1.extra])]) (cells := [Value.string a1.name, Value.int .i64 a1.system, Value.int .i64 a1.size, Value.int .i64 a1.extra]) rfl (szs_cons rfl szs_nil) (fc_cons rfl fc_nil) (ones_cons rfl (ones_cons rfl (ones_cons rfl (ones_cons rfl ones_nil)))) (Nat.le_of_ble_eq_true rfl)
       have els246 : Els (up wa.heap.size H111) eRecord 4 [Value.string a1.name, Value.int .i64 a1.system, Value.int .i64 a1.size, Value.int .i64 a1.extra] [a1] := (Els.snoc (H := (up wa.heap.size H111)) (E := eRecord) (k := 4) (c := [Value.string a1.name, Value.int .i64 a1.system, Value.int .i64 a1.size, Value.int .i64 a1.extra]) (x := a1) Els.nil rfl rfl)
       refine FC.val (l' := (bs 9 119)) rfl (by kernel_rfl) rfl rfl rfl (E.buildSlice (B1 rfl) run244) ?_
       refine ⟨(SP.nil S245.sl), ?_⟩
       refine FB.all1 (i := 3) (by kernel_rfl) ?_
       ·
        obtain ⟨v249, w252, n250, cs251, run253, S254, els255, ce256⟩ := S245.appendO (P := Tryz.prog) te30 (i := 1) (j := 0) rfl els137 rfl els246 hz248
        have S254 : St Ha wa H111 w252 [.row 57 4 v242 1 [Value.string a1.name, Value.int .i64 a1.system, Value.int .i64 a1.size, Value.int .i64 a1.extra], .row 57 4 v249 n250 cs251] := S254
        have S257 : St Ha wa H111 w252 [.row 57 4 v249 n250 cs251] := S254.drop 0
        refine FC.val (l' := (bs 9 127)) rfl (by kernel_rfl) rfl rfl rfl (E.append rfl rfl run253) ?_
        refine ⟨(SP.nil S257.sl), ?_⟩
        refine FB.all1 (i := 7) (by kernel_rfl) ?_
        ·
         obtain ⟨v265, w268, n266, cs267, run269, S270, els271⟩ := S257.appendP (P := Tryz.prog) (Inc.rfl _) te30 (i := 0) rfl (els255.mono upI) (h262.mono (i27.tr i113)) hz264
         have S270 : St Ha wa H111 w268 [.row 57 4 v265 n266 cs267] := S270
         have els271 : Els (up wa.heap.size H111) eRecord 4 cs267 xs263 := els271.any (fun _ _ _ _ h => h)
         refine FC.val (l' := (bs 9 255)) rfl (by kernel_rfl) rfl rfl rfl (E.append rfl rfl run269) ?_
         refine ⟨(SP.nil S270.sl), ?_⟩
         refine FB.t (i := 8) (bs 9 511) rfl (SP.nil S270.sl) rfl (fun w' hw' => (E.assign (v := v265) rfl)) ?_
         exact FB.done (by kernel_rfl) ⟨_, _, _, _, S270, (Inc.rfl _), els271, rfl⟩
     ·
      rintro f280 w279 ⟨H276, v272, n273, cs274, S277, i278, els275, k281⟩
      obtain rfl := Option.some.inj hp
      exact ⟨rfl, ⟨_, _, _, _, S277, i278, els275, k281⟩⟩
   ·
    rintro s31 rfl f286 w285 ⟨H282, v34, n35, cs36, S283, i284, els37, k287⟩
    replace hp := el_go hp
    refine FW.seq (FW.seq (FW.region ?_))
    refine FL.v (E.move k287) ?_
    obtain ⟨H288, S289, i290, h291, nv292⟩ := S283.sealRowU (i := 0) (l' := []) rfl els37 (by decide) rfl
    obtain ⟨r293, hr294, hp⟩ := bnd hp
    refine FL.call rfl rfl rfl (E.call Tryz.call39 (A1 rfl)) (w_spec_l31Good S289.sl v34 s31 (h291.mono upI) hr294) ?_
    rintro e w295 ⟨rfl, r296⟩
    refine ⟨_, rfl, ?_⟩
    have r296 := Run.lend i290 S283.sl r296
    have S297 := S283.call r296
    refine FL.v (E.not rfl) ?_
    refine FL.nil ?_
    rcases ifB hp with ⟨c298, hp⟩ | ⟨c298, hp⟩
    ·
     refine FW.condT rfl c298 ?_
     refine FW.seq (FW.region ?_)
     obtain ⟨v299, w300, run301, S302⟩ := S297.buildSlice (P := Tryz.prog) te30 [] (parts := #[]) (cells := []) rfl szs_nil fc_nil ones_nil (Nat.le_of_ble_eq_true rfl)
     have els303 : Els (up wa.heap.size H282) eRecord 4 [] [] := Els.nil
     refine FL.v (E.buildSlice (B0) run301) ?_
     refine FL.v (E.assign (v := v299) rfl) ?_
     refine FL.v (E.assign (v := Value.bool false) rfl) ?_
     refine FL.nil ?_
     refine FW.ret ?_
     obtain rfl := Option.some.inj hp
     exact ⟨.inr rfl, res2 rfl rfl rfl ⟨_, _, _, _, rfl, (S302.sel [0] (by decide) rfl), els303⟩⟩
    ·
     refine FW.condF rfl c298 ?_
     refine FW.skip (FW.seq (FW.region ?_))
     refine FL.v (E.move k287) ?_
     refine FL.v (E.assign (v := v34) rfl) ?_
     refine FL.v (E.assign (v := Value.bool true) rfl) ?_
     refine FL.nil ?_
     refine FW.ret ?_
     obtain rfl := Option.some.inj hp
     exact ⟨.inr rfl, res2 rfl rfl rfl ⟨_, _, _, _, rfl, S297, els37⟩⟩
   ·
    intro x33; exact x33.elim
  ·
   exact x29.elim

@[reducible] def p_spec_EnterResolution (Ha : GH) (wa : World) (r : ((List Record) × Bool)) : Ending → World → Prop :=
 fun e w' => ∃ H' : GH, ∃ v0 : Value, ∃ n0 : Nat, ∃ c0 : List Value, e = .returned (Value.tuple #[v0, Value.bool r.2]) ∧ St Ha wa H' w' [.row 57 4 v0 n0 c0] ∧ Els (up wa.heap.size H') eRecord 4 c0 r.1
theorem w_spec_EnterResolution {Ha : GH} {wa : World} (hs : Sl Ha wa) (v0 : Value) (a0 : List Record) (p0 : RSl Ha eRecord 4 v0 a0) (a1 : ByteArray) (a2 : Cnf) (v2_1 : Value) (p2_1 : RSl Ha (eL eI 1) 1 v2_1 a2.clauses) (v3 : Value) (a3 : List ResStep) (p3 : RSl Ha eResStep 4 v3 a3) {r : ((List Record) × Bool)} (hp : (PF.spec_EnterResolution a0 a1 a2 a3) = some r) :
  Calls Tryz.prog 7 #[v0, Value.string a1, Value.agg #[Value.int .i64 a2.vars, v2_1], v3] wa (p_spec_EnterResolution Ha wa r) := by
 unfold PF.spec_EnterResolution at hp
 have S0 := St.init hs
 refine calls_go (N := 31) (args := [v0, Value.string a1, Value.agg #[Value.int .i64 a2.vars, v2_1], v3]) Tryz.func7 rfl rfl rfl ?_
 refine FW.seq (FW.region ?_)
 obtain ⟨b21, w22, run23, S24⟩ := S0.box (P := Tryz.prog) 34 [Value.int .i64 a2.vars, v2_1] (v := Value.agg #[Value.int .i64 a2.vars, v2_1]) rfl (ones_cons rfl (ones_cons p2_1.one ones_nil))
 refine FL.v (E.box rfl run23) ?_
 obtain ⟨H25, S26, i27, at28⟩ := S24.sealBox (i := 0) (l' := []) rfl rfl
 refine FL.v (E.assign (v := Value.slice none 0 0) rfl) ?_
 refine FL.v (E.assign (v := Value.bool false) rfl) ?_
 refine FL.nil (FW.seq (FW.seq (FW.region ?_)))
 refine FL.v (E.move (v := v0) rfl) ?_
 refine FL.v (E.move (v := Value.string a1) rfl) ?_
 obtain ⟨r29, hr30, hp⟩ := bnd hp
 refine FL.call rfl rfl rfl (E.call Tryz.call22 (A2 rfl rfl)) (w_spec_l31Takes S26.sl v0 a0 (p0.mono i27) a1 hr30) ?_
 rintro e w31 ⟨rfl, r32⟩
 refine ⟨_, rfl, ?_⟩
 have S33 := S26.call r32
 refine FL.v (E.not rfl) ?_
 refine FL.v (E.move (v := Value.bool (!r29)) rfl) ?_
 obtain ⟨t39, hqt39, hp⟩ := bnd hp
 refine FL.cut 5 (fun f w => ∃ H : GH, St Ha wa H w [] ∧ Inc H25 H ∧ f 0 = v0 ∧ f 1 = Value.string a1 ∧ f 3 = v3 ∧ f 19 = Value.bool t39) ?_ ?_
 ·
  clear hp; have hp := hqt39; clear hqt39
  rcases ifB hp with ⟨c45, hp⟩ | ⟨c45, hp⟩
  ·
   refine FL.skip (wF_no rfl rfl rfl c45) rfl ?_
   refine FL.skip (wF_no rfl rfl rfl c45) rfl ?_
   refine FL.skip (wF_no rfl rfl rfl c45) rfl ?_
   refine FL.skip (wF_no rfl rfl rfl c45) rfl ?_
   obtain rfl := Option.some.inj hp
   refine FL.v (E.pickT rfl c45 rfl) ?_
   exact FL.nil ⟨rfl, _, S33, (Inc.rfl _), rfl, rfl, rfl, rfl⟩
  ·
   refine FL.val (wF_yes rfl rfl rfl c45) rfl rfl (E.load rfl (run_loadA Tryz.isAgg34 Tryz.sizeOf34 (at28.now S33.sl) rfl)) ?_
   refine FL.val (wF_yes rfl rfl rfl c45) rfl rfl (E.move (v := v3) rfl) ?_
   obtain ⟨r46, hr47, hp⟩ := bnd hp
   refine FL.call (wF_yes rfl rfl rfl c45) rfl rfl (E.call Tryz.call23 (A2 rfl rfl)) (w_spec_l7Refutes S33.sl a2 v2_1 (p2_1.mono i27) v3 a3 (p3.mono i27) hr47) ?_
   rintro e w48 ⟨rfl, r49⟩
   refine ⟨_, rfl, ?_⟩
   have S50 := S33.call r49
   refine FL.val (wF_yes rfl rfl rfl c45) rfl rfl (E.not rfl) ?_
   obtain rfl := Option.some.inj hp
   refine FL.v (E.pickF rfl c45 rfl) ?_
   exact FL.nil ⟨rfl, _, S50, (Inc.rfl _), rfl, rfl, rfl, rfl⟩
 rintro f44 w43 ⟨H40, S41, i42, k51, k52, k53, k54⟩
 refine FL.nil ?_
 rcases ifB hp with ⟨c55, hp⟩ | ⟨c55, hp⟩
 ·
  refine FW.condT k54 c55 ?_
  refine FW.seq (FW.region ?_)
  obtain ⟨v56, w57, run58, S59⟩ := S41.buildSlice (P := Tryz.prog) te30 [] (parts := #[]) (cells := []) rfl szs_nil fc_nil ones_nil (Nat.le_of_ble_eq_true rfl)
  have els60 : Els (up wa.heap.size H40) eRecord 4 [] [] := Els.nil
  refine FL.v (E.buildSlice (B0) run58) ?_
  refine FL.v (E.assign (v := v56) rfl) ?_
  refine FL.v (E.assign (v := Value.bool false) rfl) ?_
  refine FL.nil ?_
  refine FW.ret ?_
  obtain rfl := Option.some.inj hp
  exact ⟨.inr rfl, res2 rfl rfl rfl ⟨_, _, _, _, rfl, S59, els60⟩⟩
 ·
  refine FW.condF k54 c55 ?_
  refine FW.skip (FW.seq (FW.region ?_))
  refine FL.v (E.move k51) ?_
  refine FL.v (E.move k52) ?_
  refine FL.v (E.move k53) ?_
  refine FL.v (E.lenP te36 rfl p3) ?_
  refine FL.v (E.move k53) ?_
  obtain ⟨r61, hr62, hp⟩ := bnd hp
  refine FL.call rfl rfl rfl (E.call Tryz.call25 (A1 rfl)) (w_spec_l31Width S41.sl v3 a3 (p3.mono (i27.tr i42)) hr62) ?_
  rintro e w63 ⟨rfl, r64⟩
  refine ⟨_, rfl, ?_⟩
  have S65 := S41.call r64
  refine FL.v (E.build (B4 rfl rfl rfl rfl) (run_build _ 57 #[(0, Value.string a1), (1, Value.int .i64 1), (2, Value.int .i64 (len a3)), (3, Value.int .i64 r61)] #[Value.string a1, Value.int .i64 1, Value.int .i64 (len a3), Value.int .i64 r61] (by rfl))) ?_
  obtain ⟨r66, hr67, hp⟩ := bnd hp
  refine FL.call rfl rfl rfl (E.call Tryz.call24 (A2 rfl rfl)) (w_spec_l31Enter S65.sl v0 a0 (p0.mono (i27.tr i42)) (Record.mk a1 1 (len a3) r61) hr67) ?_
  rintro e w69 ⟨H68, v72, n73, cs74, rfl, r71, els75⟩
  refine ⟨_, rfl, ?_⟩
  have els75 := els75.mono (up_le S65.size)
  have S70 := S65.join (l' := [.row 57 4 v72 n73 cs74]) r71 rfl
  refine FL.v (E.extract (i := 0) rfl rfl) ?_
  refine FL.v (E.extract (i := 1) rfl rfl) ?_
  refine FL.v (E.assign (v := v72) rfl) ?_
  refine FL.v (E.assign (v := Value.bool r66.2) rfl) ?_
  refine FL.nil ?_
  refine FW.ret ?_
  obtain rfl := Option.some.inj hp
  exact ⟨.inr rfl, res2 rfl rfl rfl ⟨_, _, _, _, rfl, S70, els75⟩⟩

theorem w_impl_within {Ha : GH} {wa : World} (hs : Sl Ha wa) (a0 : Int) (a1 : Int) (a2 : Int) :
  Calls Tryz.prog 72 #[Value.int .i64 a0, Value.int .i64 a1, Value.int .i64 a2] wa (Sc Ha wa (Value.bool (PF.impl_within a0 a1 a2))) := by
 obtain ⟨r, hp⟩ : ∃ r, (PF.impl_within a0 a1 a2) = r := ⟨_, rfl⟩
 rw [hp]
 unfold PF.impl_within at hp
 have S0 := St.init hs
 refine calls_go (N := 15) (args := [Value.int .i64 a0, Value.int .i64 a1, Value.int .i64 a2]) Tryz.func72 rfl rfl rfl ?_
 refine FW.seq (FW.region ?_)
 refine FL.v (E.assign (v := Value.bool false) rfl) ?_
 refine FL.nil (FW.seq (FW.region ?_))
 refine FL.v (E.move (v := Value.int .i64 a0) rfl) ?_
 refine FL.v (E.move (v := Value.int .i64 a1) rfl) ?_
 refine FL.v (E.geq rfl rfl) ?_
 refine FL.v (E.move (v := Value.bool (decide (a1 ≤ a0))) rfl) ?_
 refine FL.cut 4 (fun f w => ∃ H : GH, St Ha wa H w [] ∧ Inc Ha H ∧ f 14 = Value.bool (bif (decide (a1 ≤ a0)) then (decide (a0 ≤ a2)) else false)) ?_ ?_
 ·
  rcases bcase (decide (a1 ≤ a0)) with c27 | c27
  ·
   refine FL.val (wF_yes rfl rfl rfl c27) rfl rfl (E.move (v := Value.int .i64 a0) rfl) ?_
   refine FL.val (wF_yes rfl rfl rfl c27) rfl rfl (E.move (v := Value.int .i64 a2) rfl) ?_
   refine FL.val (wF_yes rfl rfl rfl c27) rfl rfl (E.leq rfl rfl) ?_
   refine FL.v (E.pickT rfl c27 rfl) ?_
   exact FL.nil ⟨rfl, _, S0, (Inc.rfl _), (congrArg Value.bool (bifT c27).symm)⟩
  ·
   refine FL.skip (wF_no rfl rfl rfl c27) rfl ?_
   refine FL.skip (wF_no rfl rfl rfl c27) rfl ?_
   refine FL.skip (wF_no rfl rfl rfl c27) rfl ?_
   refine FL.v (E.pickF rfl c27 rfl) ?_
   exact FL.nil ⟨rfl, _, S0, (Inc.rfl _), (congrArg Value.bool (bifF c27).symm)⟩
 rintro f26 w25 ⟨H22, S23, i24, k28⟩
 refine FL.v (E.assign k28) ?_
 refine FL.nil ?_
 refine FW.ret ?_
 obtain rfl := hp
 exact ⟨.inr rfl, res1 rfl rfl ⟨rfl, S23.back⟩⟩

theorem w_impl_isLiteral {Ha : GH} {wa : World} (hs : Sl Ha wa) (a0 : Int) (a1 : Int) :
  Calls Tryz.prog 84 #[Value.int .i64 a0, Value.int .i64 a1] wa (Sc Ha wa (Value.bool (PF.impl_isLiteral a0 a1))) := by
 obtain ⟨r, hp⟩ : ∃ r, (PF.impl_isLiteral a0 a1) = r := ⟨_, rfl⟩
 rw [hp]
 unfold PF.impl_isLiteral at hp
 have S0 := St.init hs
 refine calls_go (N := 14) (args := [Value.int .i64 a0, Value.int .i64 a1]) Tryz.func84 rfl rfl rfl ?_
 refine FW.seq (FW.region ?_)
 refine FL.v (E.assign (v := Value.bool false) rfl) ?_
 refine FL.nil (FW.seq (FW.region ?_))
 refine FL.v (E.move (v := Value.int .i64 a1) rfl) ?_
 refine FL.v (E.neq rfl rfl) ?_
 refine FL.v (E.move (v := Value.bool (!(a1 == 0))) rfl) ?_
 refine FL.cut 6 (fun f w => ∃ H : GH, St Ha wa H w [] ∧ Inc Ha H ∧ f 13 = Value.bool (bif (!(a1 == 0)) then (PF.impl_within a1 (wr (-a0)) a0) else false)) ?_ ?_
 ·
  rcases bcase (!(a1 == 0)) with c30 | c30
  ·
   refine FL.val (wF_yes rfl rfl rfl c30) rfl rfl (E.move (v := Value.int .i64 a1) rfl) ?_
   refine FL.val (wF_yes rfl rfl rfl c30) rfl rfl (E.move (v := Value.int .i64 a0) rfl) ?_
   refine FL.val (wF_yes rfl rfl rfl c30) rfl rfl (E.neg rfl) ?_
   refine FL.val (wF_yes rfl rfl rfl c30) rfl rfl (E.move (v := Value.int .i64 a0) rfl) ?_
   refine FL.call (wF_yes rfl rfl rfl c30) rfl rfl (E.call Tryz.call72 (A3 rfl rfl rfl)) (w_impl_within S0.sl a1 (wr (-a0)) a0) ?_
   rintro e w31 ⟨rfl, r32⟩
   refine ⟨_, rfl, ?_⟩
   have S33 := S0.call r32
   refine FL.v (E.pickT rfl c30 rfl) ?_
   exact FL.nil ⟨rfl, _, S33, (Inc.rfl _), (congrArg Value.bool (bifT c30).symm)⟩
  ·
   refine FL.skip (wF_no rfl rfl rfl c30) rfl ?_
   refine FL.skip (wF_no rfl rfl rfl c30) rfl ?_
   refine FL.skip (wF_no rfl rfl rfl c30) rfl ?_
   refine FL.skip (wF_no rfl rfl rfl c30) rfl ?_
   refine FL.skip (wF_no rfl rfl rfl c30) rfl ?_
   refine FL.v (E.pickF rfl c30 rfl) ?_
   exact FL.nil ⟨rfl, _, S0, (Inc.rfl _), (congrArg Value.bool (bifF c30).symm)⟩
 rintro f29 w28 ⟨H25, S26, i27, k34⟩
 refine FL.v (E.assign k34) ?_
 refine FL.nil ?_
 refine FW.ret ?_
 obtain rfl := hp
 exact ⟨.inr rfl, res1 rfl rfl ⟨rfl, S26.back⟩⟩

theorem w_impl_abs {Ha : GH} {wa : World} (hs : Sl Ha wa) (a0 : Int) :
  Calls Tryz.prog 85 #[Value.int .i64 a0] wa (Sc Ha wa (Value.int .i64 (PF.impl_abs a0))) := by
 obtain ⟨r, hp⟩ : ∃ r, (PF.impl_abs a0) = r := ⟨_, rfl⟩
 rw [hp]
 unfold PF.impl_abs at hp
 have S0 := St.init hs
 refine calls_go (N := 7) (args := [Value.int .i64 a0]) Tryz.func85 rfl rfl rfl ?_
 refine FW.seq (FW.region ?_)
 refine FL.v (E.assign (v := Value.int .i64 0) rfl) ?_
 refine FL.nil (FW.seq (FW.region ?_))
 refine FL.v (E.move (v := Value.int .i64 a0) rfl) ?_
 refine FL.v (E.move (v := Value.int .i64 a0) rfl) ?_
 refine FL.v (E.neg rfl) ?_
 refine FL.v (E.max2 rfl rfl) ?_
 refine FL.v (E.assign (v := Value.int .i64 (mx a0 (wr (-a0)))) rfl) ?_
 refine FL.nil ?_
 refine FW.ret ?_
 obtain rfl := hp
 exact ⟨.inr rfl, res1 rfl rfl ⟨rfl, S0.back⟩⟩

theorem w_impl_varsOk {Ha : GH} {wa : World} (hs : Sl Ha wa) (a0 : Int) :
  Calls Tryz.prog 68 #[Value.int .i64 a0] wa (Sc Ha wa (Value.bool (PF.impl_varsOk a0))) := by
 obtain ⟨r, hp⟩ : ∃ r, (PF.impl_varsOk a0) = r := ⟨_, rfl⟩
 rw [hp]
 unfold PF.impl_varsOk at hp
 have S0 := St.init hs
 refine calls_go (N := 5) (args := [Value.int .i64 a0]) Tryz.func68 rfl rfl rfl ?_
 refine FW.seq (FW.region ?_)
 refine FL.v (E.assign (v := Value.bool false) rfl) ?_
 refine FL.nil (FW.seq (FW.region ?_))
 refine FL.v (E.move (v := Value.int .i64 a0) rfl) ?_
 refine FL.call rfl rfl rfl (E.call Tryz.call72 (A3 rfl rfl rfl)) (w_impl_within S0.sl a0 0 12) ?_
 rintro e w21 ⟨rfl, r22⟩
 refine ⟨_, rfl, ?_⟩
 have S23 := S0.call r22
 refine FL.v (E.assign (v := Value.bool (PF.impl_within a0 0 12)) rfl) ?_
 refine FL.nil ?_
 refine FW.ret ?_
 obtain rfl := hp
 exact ⟨.inr rfl, res1 rfl rfl ⟨rfl, S23.back⟩⟩

set_option maxHeartbeats 4000000 in
theorem w_impl_IsClause {Ha : GH} {wa : World} (hs : Sl Ha wa) (a0 : Int) (v1 : Value) (a1 : List Int) (p1 : RSl Ha eI 1 v1 a1) {r : Bool} (hp : (PF.impl_IsClause a0 a1) = some r) :
  Calls Tryz.prog 67 #[Value.int .i64 a0, v1] wa (Sc Ha wa (Value.bool r)) := by
 unfold PF.impl_IsClause at hp
 have S0 := St.init hs
 refine calls_go (N := 36) (args := [Value.int .i64 a0, v1]) Tryz.func67 rfl rfl rfl ?_
 refine FW.seq (FW.region ?_)
 refine FL.v (E.assign (v := Value.bool false) rfl) ?_
 refine FL.nil (FW.seq (FW.seq (FW.region ?_)))
 refine FL.v (E.move (v := v1) rfl) ?_
 refine FL.v (E.lenP te50 rfl p1) ?_
 refine FL.v (E.move (v := Value.int .i64 0) rfl) ?_
 refine FL.nil ?_
 obtain ⟨q22, hq, hp⟩ := bndR hp
 refine FW.block ?_
 refine FW.mono (FW.forL (S := Unit) (X := Bool) (fun (i22 : Nat) (s22 : Unit) f w => ∃ H : GH, St Ha wa H w [] ∧ Inc Ha H ∧ f 9 = Value.int .i64 ((i22 : Nat) : Int) ∧ f 0 = Value.int .i64 a0 ∧ f 1 = v1 ∧ f 7 = v1 ∧ f 8 = Value.int .i64 (len a1)) (fun q e f w => match q with | .go s22 => e = Exit.exit 0 ∧ (∃ H : GH, St Ha wa H w [] ∧ Inc Ha H ∧ f 0 = Value.int .i64 a0) | .rt x => ((e = Exit.ret) ∧ (fun e f w => (e = Exit.normal ∨ e = Exit.ret) ∧ ∀ a, Fr (δ := []) 36 a f → ∃ v, (results Tryz.f67 a.tmps).run Tryz.prog w = .ok v w ∧ (Sc Ha wa (Value.bool x)) (.returned v) w) e f w)) hq ⟨_, S0, (Inc.rfl _), rfl, rfl, rfl, rfl, rfl⟩ ?_ ?_) ?_
 ·
  clear hp hq
  rintro i22 y21 s22 f121 w120 ⟨H117, S118, i119, k122, k123, k124, k125, k126⟩ hx22 o211 hp
  refine FW.seq (FW.region ?_)
  refine FL.v (E.lssT k122 k126 (lss_len hx22)) ?_
  refine FL.nil (FW.seq ?_)
  refine FW.condT rfl rfl ?_
  refine FW.skip (FW.seq (FW.block (FW.seq (FW.region ?_))))
  refine FL.v (E.move k122) ?_
  obtain ⟨p127, cs128, pt129, l130, at131, rel132⟩ := p1.at (ix_nat hx22)
  obtain rfl := eI_open rel132
  refine FL.v (E.indexAddr te50 k125 k122 pt129) ?_
  refine FL.v (E.load rfl (run_load0 Tryz.isAgg3 ((at131.mono i119).now S118.sl) rfl)) ?_
  refine FL.v (E.assign (v := Value.int .i64 ((i22 : Nat) : Int)) rfl) ?_
  refine FL.v (E.assign (v := Value.int .i64 y21) rfl) ?_
  refine FL.nil (FW.seq ?_)
  refine FW.draw (fun w' => Run w120.heap.size H117 w120 H117 w') (by kernel_rfl) (by kernel_rfl) (run_drew S118.sl) ?_
  refine FD.val rfl rfl rfl (fun w' hw' => (E.move k123)) ?_
  refine FD.val rfl rfl rfl (fun w' hw' => (E.move (v := Value.int .i64 y21) rfl)) ?_
  refine FD.call rfl rfl rfl (fun w' hw' => (E.call Tryz.call84 (A2 rfl rfl))) (fun w' hw' => Calls.cls hw' (w_impl_isLiteral (S118.call hw').sl a0 y21)) ?_
  refine FD.val rfl rfl rfl (fun w' hw' => (E.not rfl)) ?_
  refine FD.val rfl rfl rfl (fun w' hw' => (E.move (v := Value.bool (!(PF.impl_isLiteral a0 y21))) rfl)) ?_
  obtain ⟨t164, hqt164, hp⟩ := bnd hp
  refine FD.cut 14 (fun f => f 0 = Value.int .i64 a0 ∧ f 1 = v1 ∧ f 7 = v1 ∧ f 8 = Value.int .i64 (len a1) ∧ f 9 = Value.int .i64 ((i22 : Nat) : Int) ∧ f 32 = Value.bool t164) ?_ ?_
  ·
   clear hp; have hp := hqt164; clear hqt164
   rcases ifB hp with ⟨c170, hp⟩ | ⟨c170, hp⟩
   ·
    refine FD.skip (wF_no rfl rfl rfl c170) rfl ?_
    refine FD.skip (wF_no rfl rfl rfl c170) rfl ?_
    refine FD.skip (wF_no rfl rfl rfl c170) rfl ?_
    refine FD.skip (wF_undef rfl rfl rfl) rfl ?_
    refine FD.skip (wF_undef rfl rfl rfl) rfl ?_
    refine FD.skip (wF_undef rfl rfl rfl) rfl ?_
    refine FD.skip (wF_undef rfl rfl rfl) rfl ?_
    refine FD.skip (wF_undef rfl rfl rfl) rfl ?_
    refine FD.skip (wF_undef rfl rfl rfl) rfl ?_
    refine FD.skip (wF_undef rfl rfl rfl) rfl ?_
    refine FD.skip (wF_undef rfl rfl rfl) rfl ?_
    refine FD.skip (wF_undef rfl rfl rfl) rfl ?_
    refine FD.skip (wF_no rfl rfl rfl c170) rfl ?_
    obtain rfl := Option.some.inj hp
    refine FD.val rfl rfl rfl (fun w' hw' => (E.pickT rfl c170 rfl)) ?_
    exact FD.nil ⟨k123, k124, k125, k126, k122, rfl⟩
   ·
    refine FD.val (wF_yes rfl rfl rfl c170) rfl rfl (fun w' hw' => (E.move (v := Value.int .i64 ((i22 : Nat) : Int)) rfl)) ?_
    refine FD.val (wF_yes rfl rfl rfl c170) rfl rfl (fun w' hw' => (E.gtr rfl rfl)) ?_
    refine FD.val (wF_yes rfl rfl rfl c170) rfl rfl (fun w' hw' => (E.move (v := Value.bool (decide (0 < ((i22 : Nat) : Int)))) rfl)) ?_
    obtain ⟨t179, hqt179, hp⟩ := bnd hp
    refine FD.cut 10 (fun f => f 0 = Value.int .i64 a0 ∧ f 1 = v1 ∧ f 7 = v1 ∧ f 8 = Value.int .i64 (len a1) ∧ f 9 = Value.int .i64 ((i22 : Nat) : Int) ∧ f 18 = Value.bool (!(PF.impl_isLiteral a0 y21)) ∧ f 31 = Value.bool t179) ?_ ?_
    ·
     clear hp; have hp := hqt179; clear hqt179
     rcases ifB hp with ⟨c185, hp⟩ | ⟨c185, hp⟩
     ·
      refine FD.val (wF_yes rfl rfl rfl c185) rfl rfl (fun w' hw' => (E.move (v := Value.int .i64 y21) rfl)) ?_
      refine FD.call (wF_yes rfl rfl rfl c185) rfl rfl (fun w' hw' => (E.call Tryz.call85 (A1 rfl))) (fun w' hw' => Calls.cls hw' (w_impl_abs (S118.call hw').sl y21)) ?_
      refine FD.val (wF_yes rfl rfl rfl c185) rfl rfl (fun w' hw' => (E.move k124)) ?_
      refine FD.val (wF_yes rfl rfl rfl c185) rfl rfl (fun w' hw' => (E.move (v := Value.int .i64 ((i22 : Nat) : Int)) rfl)) ?_
      refine FD.val (wF_yes rfl rfl rfl c185) rfl rfl (fun w' hw' => (E.sub rfl rfl)) ?_
      obtain ⟨x192, hx193, hp⟩ := bnd hp
      obtain ⟨p186, cs187, pt188, l189, at190, rel191⟩ := p1.at hx193
      obtain rfl := eI_open rel191
      refine FD.val (wF_yes rfl rfl rfl c185) rfl rfl (fun w' hw' => (E.indexAddr te50 rfl rfl pt188)) ?_
      refine FD.val (wF_yes rfl rfl rfl c185) rfl rfl (fun w' hw' => (E.load rfl (run_load0 Tryz.isAgg3 ((at190.mono i119).now (S118.call hw').sl) rfl))) ?_
      refine FD.call (wF_yes rfl rfl rfl c185) rfl rfl (fun w' hw' => (E.call Tryz.call85 (A1 rfl))) (fun w' hw' => Calls.cls hw' (w_impl_abs (S118.call hw').sl x192)) ?_
      refine FD.val (wF_yes rfl rfl rfl c185) rfl rfl (fun w' hw' => (E.leq rfl rfl)) ?_
      obtain rfl := Option.some.inj hp
      refine FD.val (wF_yes rfl rfl rfl c170) rfl rfl (fun w' hw' => (E.pickT rfl c185 rfl)) ?_
      exact FD.nil ⟨k123, k124, k125, k126, k122, rfl, rfl⟩
     ·
      refine FD.skip (wF_no rfl rfl rfl c185) rfl ?_
      refine FD.skip (wF_no rfl rfl rfl c185) rfl ?_
      refine FD.skip (wF_no rfl rfl rfl c185) rfl ?_
      refine FD.skip (wF_no rfl rfl rfl c185) rfl ?_
      refine FD.skip (wF_no rfl rfl rfl c185) rfl ?_
      refine FD.skip (wF_no rfl rfl rfl c185) rfl ?_
      refine FD.skip (wF_no rfl rfl rfl c185) rfl ?_
      refine FD.skip (wF_no rfl rfl rfl c185) rfl ?_
      refine FD.skip (wF_no rfl rfl rfl c185) rfl ?_
      obtain rfl := Option.some.inj hp
      refine FD.val (wF_yes rfl rfl rfl c170) rfl rfl (fun w' hw' => (E.pickF rfl c185 rfl)) ?_
      exact FD.nil ⟨k123, k124, k125, k126, k122, rfl, rfl⟩
    rintro f184 ⟨k194, k195, k196, k197, k198, k199, k200⟩
    obtain rfl := Option.some.inj hp
    refine FD.val rfl rfl rfl (fun w' hw' => (E.pickF k199 c170 k200)) ?_
    exact FD.nil ⟨k194, k195, k196, k197, k198, rfl⟩
  rintro f169 ⟨k201, k202, k203, k204, k205, k206⟩
  refine FD.nil ?_
  intro w207 r209
  have S208 := S118.call r209
  rcases ifB hp with ⟨c210, hp⟩ | ⟨c210, hp⟩
  ·
   refine FW.condT k206 c210 ?_
   refine FW.seq (FW.region ?_)
   refine FL.v (E.assign (v := Value.bool false) rfl) ?_
   refine FL.nil ?_
   refine FW.ret ?_
   obtain rfl := Option.some.inj hp
   exact ⟨nofun, rfl, ⟨.inr rfl, res1 rfl rfl ⟨rfl, S208.back⟩⟩⟩
  ·
   refine FW.condF k206 c210 ?_
   refine FW.skip (FW.region ?_)
   refine FL.v (E.add k205 rfl) ?_
   refine FL.v (E.move (v := Value.int .i64 (wr (((i22 : Nat) : Int) + 1))) rfl) ?_
   refine FL.nil ?_
   obtain rfl := Option.some.inj hp
   exact ⟨rfl, ⟨_, S208, i119, (nat_succ rfl (lt_of_get hx22) (p1.mono i119).le), k201, k202, k203, k204⟩⟩
 ·
  clear hp hq
  rintro s22 f225 w224 ⟨H221, S222, i223, k226, k227, k228, k229, k230⟩
  refine FW.seq (FW.region ?_)
  refine FL.v (E.lss k226 k230) ?_
  refine FL.nil (FW.seq ?_)
  refine FW.condF rfl dlt_len ?_
  refine FW.exit ?_
  exact ⟨nofun, rfl, ⟨_, S222, i223, k227⟩⟩
 ·
  clear hq
  intro e f216 w215 hD
  rcases q22 with s22 | x22
  ·
   obtain ⟨rfl, hD⟩ := hD
   obtain ⟨H212, S213, i214, k217⟩ := hD
   replace hp := el_go hp
   refine FW.seq (FW.region ?_)
   refine FL.v (E.move k217) ?_
   refine FL.call rfl rfl rfl (E.call Tryz.call68 (A1 rfl)) (w_impl_varsOk S213.sl a0) ?_
   rintro e w218 ⟨rfl, r219⟩
   refine ⟨_, rfl, ?_⟩
   have S220 := S213.call r219
   refine FL.v (E.assign (v := Value.bool (PF.impl_varsOk a0)) rfl) ?_
   refine FL.nil ?_
   refine FW.ret ?_
   obtain rfl := Option.some.inj hp
   exact ⟨.inr rfl, res1 rfl rfl ⟨rfl, S220.back⟩⟩
  ·
   obtain ⟨he, hL⟩ := hD
   replace hp := el_rt hp
   obtain rfl := Option.some.inj hp
   subst he
   exact hL

end Go.Proofs
