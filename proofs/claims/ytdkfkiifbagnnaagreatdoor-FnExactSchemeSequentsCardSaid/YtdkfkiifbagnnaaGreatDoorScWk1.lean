/- Part of the walks and plain laws behind the claim: it proves helpers, under no condition beyond their own. -/
import Derived.Test.YtdkfkiifbagnnaaGreatDoorScLB
import Derived.Test.YtdkfkiifbagnnaaGreatDoorScSh
import Derived.Test.YtdkfkiifbagnnaaGreatDoorScPf
import Derived.Test.YtdkfkiifbagnnaaGreatDoorProg
set_option linter.unusedVariables false
set_option maxRecDepth 100000
namespace Go.Proofs
open Go.Mr Go.Pu Go.PF Go.RowKit

def eFregeStep : Enc FregeStep := ⟨fun H cs s => cs = [Value.string s.formula, Value.int .i64 s.rule, Value.int .i64 s.a, Value.int .i64 s.b], fun _ h => h, by rintro H cs s rfl; exact (ones_cons rfl (ones_cons rfl (ones_cons rfl (ones_cons rfl ones_nil)))), by rintro H cs s rfl b hb; obtain ⟨u, hu, hn⟩ := mem_bl hb; simp only [List.mem_cons, List.not_mem_nil, or_false] at hu; rcases hu with rfl | rfl | rfl | rfl <;> cases hn⟩
def eSequent : Enc Sequent := ⟨fun H cs s => ∃ v0 v1, cs = [v0, v1] ∧ RSl H eS 1 v0 s.left ∧ RSl H eS 1 v1 s.right, fun hi ⟨v0, v1, h, h0, h1⟩ => ⟨_, _, h, h0.mono hi, h1.mono hi⟩, by rintro H cs s ⟨v0, v1, rfl, h0, h1⟩; exact (ones_cons h0.one (ones_cons h1.one ones_nil)), by rintro H cs s ⟨v0, v1, rfl, h0, h1⟩ b hb; obtain ⟨u, hu, hn⟩ := mem_bl hb; simp only [List.mem_cons, List.not_mem_nil, or_false] at hu; rcases hu with rfl | rfl <;> first | (cases hn; done) | exact h0.dom b (mem_bl1 hn) | exact h1.dom b (mem_bl1 hn)⟩
theorem eSequent_open {H : GH} {cs : List Value} {s : Sequent} (h : eSequent.rel H cs s) : ∃ v0 v1, cs = [v0, v1] ∧ RSl H eS 1 v0 s.left ∧ RSl H eS 1 v1 s.right := h

def eSeqStep : Enc SeqStep := ⟨fun H cs s => ∃ v0 v1, cs = [v0, v1, Value.int .i64 s.rule, Value.string s.main, Value.int .i64 s.a, Value.int .i64 s.b] ∧ RSl H eS 1 v0 s.seq.left ∧ RSl H eS 1 v1 s.seq.right, fun hi ⟨v0, v1, h, h0, h1⟩ => ⟨_, _, h, h0.mono hi, h1.mono hi⟩, by rintro H cs s ⟨v0, v1, rfl, h0, h1⟩; exact (ones_cons h0.one (ones_cons h1.one (ones_cons rfl (ones_cons rfl (ones_cons rfl (ones_cons rfl ones_nil)))))), by rintro H cs s ⟨v0, v1, rfl, h0, h1⟩ b hb; obtain ⟨u, hu, hn⟩ := mem_bl hb; simp only [List.mem_cons, List.not_mem_nil, or_false] at hu; rcases hu with rfl | rfl | rfl | rfl | rfl | rfl <;> first | (cases hn; done) | exact h0.dom b (mem_bl1 hn) | exact h1.dom b (mem_bl1 hn)⟩
theorem eSeqStep_open {H : GH} {cs : List Value} {s : SeqStep} (h : eSeqStep.rel H cs s) : ∃ v0 v1, cs = [v0, v1, Value.int .i64 s.rule, Value.string s.main, Value.int .i64 s.a, Value.int .i64 s.b] ∧ RSl H eS 1 v0 s.seq.left ∧ RSl H eS 1 v1 s.seq.right := h

theorem eSeqStep_loc : LocE eSeqStep := by rintro H H' cs x ⟨v0, v1, rfl, h0, h1⟩ hb; exact ⟨_, _, rfl, h0.only eS_flat.rel (fun b q => hb b (bl_get (i := 0) rfl b q)), h1.only eS_flat.rel (fun b q => hb b (bl_get (i := 1) rfl b q))⟩

def Fn_S_S_to_I (P : Program) (H : GH) (v : Value) (p : ByteArray → ByteArray → Option Int) : Prop :=
 ∀ (H' : GH) (w' : World), Inc H H' → Sl H' w' → ∀ (x0 : ByteArray) (x1 : ByteArray) (r : Int), p x0 x1 = some r →
  ∃ (fid : Nat) (cs : Array Value), v = Value.func (.func fid) #[] cs ∧ (∀ args w, (callFunc fid args).run P w = .ok (.enter fid args) w) ∧ Calls P fid (#[Value.string x0, Value.string x1] ++ cs) w' (Sc H' w' (Value.int .i64 r))
def Fn_S_to_B (P : Program) (H : GH) (v : Value) (p : ByteArray → Option Bool) : Prop :=
 ∀ (H' : GH) (w' : World), Inc H H' → Sl H' w' → ∀ (x0 : ByteArray) (r : Bool), p x0 = some r →
  ∃ (fid : Nat) (cs : Array Value), v = Value.func (.func fid) #[] cs ∧ (∀ args w, (callFunc fid args).run P w = .ok (.enter fid args) w) ∧ Calls P fid (#[Value.string x0] ++ cs) w' (Sc H' w' (Value.bool r))
theorem Fn_S_to_B.mono {P : Program} {H H' : GH} {v : Value} {p : ByteArray → Option Bool} (h : Fn_S_to_B P H v p) (hi : Inc H H') : Fn_S_to_B P H' v p :=
 fun H2 w2 h2 => h H2 w2 (hi.tr h2)

theorem te130 : TE Tryz.prog 130 51 2 (.agg #[(.slice none 0 0), (.slice none 0 0)]) := ⟨Tryz.underlying130, ⟨Tryz.t51, Tryz.type51, rfl, rfl, by decide⟩, rfl, by decide⟩
theorem te162 : TE Tryz.prog 162 30 1 (.slice none 0 0) := ⟨Tryz.underlying162, ⟨Tryz.t30, Tryz.type30, rfl, rfl, by decide⟩, rfl, by decide⟩
theorem te22 : TE Tryz.prog 22 55 6 (.agg #[(.slice none 0 0), (.slice none 0 0), (.int .i64 0), (.string ByteArray.empty), (.int .i64 0), (.int .i64 0)]) := ⟨Tryz.underlying22, ⟨Tryz.t55, Tryz.type55, rfl, rfl, by decide⟩, rfl, by decide⟩
theorem te28 : TE Tryz.prog 28 5 1 (.int .u8 0) := ⟨Tryz.underlying28, ⟨Tryz.t5, Tryz.type5, rfl, rfl, by decide⟩, rfl, by decide⟩
theorem te30 : TE Tryz.prog 30 9 1 (.string ByteArray.empty) := ⟨Tryz.underlying30, ⟨Tryz.t9, Tryz.type9, rfl, rfl, by decide⟩, rfl, by decide⟩
theorem te39 : TE Tryz.prog 39 3 1 (.int .i64 0) := ⟨Tryz.underlying39, ⟨Tryz.t3, Tryz.type3, rfl, rfl, by decide⟩, rfl, by decide⟩
theorem tf102_0 : TF Tryz.prog 102 0 0 := ⟨_, _, _, Tryz.underlying102, rfl, rfl, Tryz.sizeOf22, by decide⟩
theorem tf102_1 : TF Tryz.prog 102 1 1 := ⟨_, _, _, Tryz.underlying102, rfl, rfl, Tryz.sizeOf100, by decide⟩
theorem tf51_0 : TF Tryz.prog 51 0 0 := ⟨_, _, _, Tryz.underlying51, rfl, rfl, Tryz.sizeOf30, by decide⟩
theorem tf51_1 : TF Tryz.prog 51 1 1 := ⟨_, _, _, Tryz.underlying51, rfl, rfl, Tryz.sizeOf30, by decide⟩
theorem tf55_0 : TF Tryz.prog 55 0 0 := ⟨_, _, _, Tryz.underlying55, rfl, rfl, Tryz.sizeOf51, by decide⟩
theorem tf55_1 : TF Tryz.prog 55 1 2 := ⟨_, _, _, Tryz.underlying55, rfl, rfl, Tryz.sizeOf3, by decide⟩
theorem tf55_2 : TF Tryz.prog 55 2 3 := ⟨_, _, _, Tryz.underlying55, rfl, rfl, Tryz.sizeOf9, by decide⟩
theorem tf55_3 : TF Tryz.prog 55 3 4 := ⟨_, _, _, Tryz.underlying55, rfl, rfl, Tryz.sizeOf3, by decide⟩
theorem tf55_4 : TF Tryz.prog 55 4 5 := ⟨_, _, _, Tryz.underlying55, rfl, rfl, Tryz.sizeOf3, by decide⟩
theorem tf86_0 : TF Tryz.prog 86 0 0 := ⟨_, _, _, Tryz.underlying86, rfl, rfl, Tryz.sizeOf5, by decide⟩
theorem tf86_1 : TF Tryz.prog 86 1 1 := ⟨_, _, _, Tryz.underlying86, rfl, rfl, Tryz.sizeOf67, by decide⟩
theorem tf86_2 : TF Tryz.prog 86 2 2 := ⟨_, _, _, Tryz.underlying86, rfl, rfl, Tryz.sizeOf67, by decide⟩
theorem tf86_3 : TF Tryz.prog 86 3 3 := ⟨_, _, _, Tryz.underlying86, rfl, rfl, Tryz.sizeOf9, by decide⟩
theorem tf95_0 : TF Tryz.prog 95 0 0 := ⟨_, _, _, Tryz.underlying95, rfl, rfl, Tryz.sizeOf22, by decide⟩
theorem tf95_1 : TF Tryz.prog 95 1 1 := ⟨_, _, _, Tryz.underlying95, rfl, rfl, Tryz.sizeOf4, by decide⟩
theorem tf95_2 : TF Tryz.prog 95 2 2 := ⟨_, _, _, Tryz.underlying95, rfl, rfl, Tryz.sizeOf3, by decide⟩
theorem tf95_3 : TF Tryz.prog 95 3 3 := ⟨_, _, _, Tryz.underlying95, rfl, rfl, Tryz.sizeOf4, by decide⟩
theorem w_spec_l1In {Ha : GH} {wa : World} (hs : Sl Ha wa) (a0 : Int) (a1 : Int) (a2 : Int) :
  Calls Tryz.prog 45 #[Value.int .i64 a0, Value.int .i64 a1, Value.int .i64 a2] wa (Sc Ha wa (Value.bool (PF.spec_l1In a0 a1 a2))) := by
 obtain ⟨r, hp⟩ : ∃ r, (PF.spec_l1In a0 a1 a2) = r := ⟨_, rfl⟩
 rw [hp]
 unfold PF.spec_l1In at hp
 have S0 := St.init hs
 refine calls_go (N := 15) (args := [Value.int .i64 a0, Value.int .i64 a1, Value.int .i64 a2]) Tryz.func45 rfl rfl rfl ?_
 refine FW.seq (FW.region ?_)
 refine FL.v (E.assign (v := Value.bool false) rfl) ?_
 refine FL.nil (FW.seq (FW.region ?_))
 refine FL.v (E.move (v := Value.int .i64 a0) rfl) ?_
 refine FL.v (E.move (v := Value.int .i64 a1) rfl) ?_
 refine FL.v (E.geq rfl rfl) ?_
 refine FL.v (E.move (v := Value.bool (decide (a1 ≤ a0))) rfl) ?_
 refine FL.cut 4 (fun f w => ∃ H : GH, St Ha wa H w [] ∧ Inc Ha H ∧ f 14 = Value.bool (bif (decide (a1 ≤ a0)) then (decide (a0 ≤ a2)) else false)) ?_ ?_
 ·
  rcases bcase (decide (a1 ≤ a0)) with c27 | c27
  ·
   refine FL.val (wF_yes rfl rfl rfl c27) rfl rfl (E.move (v := Value.int .i64 a0) rfl) ?_
   refine FL.val (wF_yes rfl rfl rfl c27) rfl rfl (E.move (v := Value.int .i64 a2) rfl) ?_
   refine FL.val (wF_yes rfl rfl rfl c27) rfl rfl (E.leq rfl rfl) ?_
   refine FL.v (E.pickT rfl c27 rfl) ?_
   exact FL.nil ⟨rfl, _, S0, (Inc.rfl _), (congrArg Value.bool (bifT c27).symm)⟩
  ·
   refine FL.skip (wF_no rfl rfl rfl c27) rfl ?_
   refine FL.skip (wF_no rfl rfl rfl c27) rfl ?_
   refine FL.skip (wF_no rfl rfl rfl c27) rfl ?_
   refine FL.v (E.pickF rfl c27 rfl) ?_
   exact FL.nil ⟨rfl, _, S0, (Inc.rfl _), (congrArg Value.bool (bifF c27).symm)⟩
 rintro f26 w25 ⟨H22, S23, i24, k28⟩
 refine FL.v (E.assign k28) ?_
 refine FL.nil ?_
 refine FW.ret ?_
 obtain rfl := hp
 exact ⟨.inr rfl, res1 rfl rfl ⟨rfl, S23.back⟩⟩

theorem w_spec_l24Scheme {Ha : GH} {wa : World} (hs : Sl Ha wa) (a0 : Int) :
  Calls Tryz.prog 58 #[Value.int .i64 a0] wa (Sc Ha wa (Value.bool (PF.spec_l24Scheme a0))) := by
 obtain ⟨r, hp⟩ : ∃ r, (PF.spec_l24Scheme a0) = r := ⟨_, rfl⟩
 rw [hp]
 unfold PF.spec_l24Scheme at hp
 have S0 := St.init hs
 refine calls_go (N := 5) (args := [Value.int .i64 a0]) Tryz.func58 rfl rfl rfl ?_
 refine FW.seq (FW.region ?_)
 refine FL.v (E.assign (v := Value.bool false) rfl) ?_
 refine FL.nil (FW.seq (FW.region ?_))
 refine FL.v (E.move (v := Value.int .i64 a0) rfl) ?_
 refine FL.call rfl rfl rfl (E.call Tryz.call45 (A3 rfl rfl rfl)) (w_spec_l1In S0.sl a0 1 10) ?_
 rintro e w21 ⟨rfl, r22⟩
 refine ⟨_, rfl, ?_⟩
 have S23 := S0.call r22
 refine FL.v (E.assign (v := Value.bool (PF.spec_l1In a0 1 10)) rfl) ?_
 refine FL.nil ?_
 refine FW.ret ?_
 obtain rfl := hp
 exact ⟨.inr rfl, res1 rfl rfl ⟨rfl, S23.back⟩⟩

set_option maxHeartbeats 4000000 in
theorem w_spec_l22End_B {rec_spec_l22End : ByteArray → Int → Option Int} (hrec_spec_l22End : ∀ {Ha : GH} {wa : World} (hs : Sl Ha wa) (a0 : ByteArray) (a1 : Int) {r : Int} (hp : rec_spec_l22End a0 a1 = some r), Calls Tryz.prog 85 #[Value.string a0, Value.int .i64 a1] wa (Sc Ha wa (Value.int .i64 r))) {Ha : GH} {wa : World} (hs : Sl Ha wa) (a0 : ByteArray) (a1 : Int) {r : Int} (hp : PF.spec_l22End_B rec_spec_l22End a0 a1 = some r) :
  Calls Tryz.prog 85 #[Value.string a0, Value.int .i64 a1] wa (Sc Ha wa (Value.int .i64 r)) := by
 unfold PF.spec_l22End_B at hp
 have S0 := St.init hs
 refine calls_go (N := 100) (args := [Value.string a0, Value.int .i64 a1]) Tryz.func85 rfl rfl rfl ?_
 refine FW.seq (FW.region ?_)
 refine FL.v (E.assign (v := Value.int .i64 0) rfl) ?_
 refine FL.nil (FW.seq (FW.seq (FW.region ?_)))
 refine FL.v (E.move (v := Value.int .i64 a1) rfl) ?_
 refine FL.v (E.move (v := Value.string a0) rfl) ?_
 refine FL.v (E.lenS Tryz.runUnderlying9 rfl) ?_
 refine FL.v (E.geq rfl rfl) ?_
 refine FL.nil ?_
 rcases ifB hp with ⟨c21, hp⟩ | ⟨c21, hp⟩
 ·
  refine FW.condT rfl c21 ?_
  refine FW.seq (FW.region ?_)
  refine FL.v (E.assign (v := Value.int .i64 (-1)) rfl) ?_
  refine FL.nil ?_
  refine FW.ret ?_
  obtain rfl := Option.some.inj hp
  exact ⟨.inr rfl, res1 rfl rfl ⟨rfl, S0.back⟩⟩
 ·
  refine FW.condF rfl c21 ?_
  refine FW.skip (FW.seq (FW.block (FW.seq (FW.region ?_))))
  refine FL.v (E.move (v := Value.string a0) rfl) ?_
  refine FL.v (E.move (v := Value.int .i64 a1) rfl) ?_
  obtain ⟨z22, h23, hp⟩ := bnd hp
  refine FL.v (E.ixS Tryz.runUnderlying9 rfl rfl h23) ?_
  refine FL.v (E.eql rfl rfl) ?_
  refine FL.v (E.move (v := Value.bool (z22 == 48)) rfl) ?_
  obtain ⟨t26, hqt26, hp⟩ := bnd hp
  refine FL.cut 5 (fun f w => ∃ H : GH, St Ha wa H w [] ∧ Inc Ha H ∧ f 0 = Value.string a0 ∧ f 1 = Value.int .i64 a1 ∧ f 21 = Value.bool t26) ?_ ?_
  ·
   clear hp; have hp := hqt26; clear hqt26
   rcases ifB hp with ⟨c32, hp⟩ | ⟨c32, hp⟩
   ·
    refine FL.skip (wF_no rfl rfl rfl c32) rfl ?_
    refine FL.skip (wF_no rfl rfl rfl c32) rfl ?_
    refine FL.skip (wF_no rfl rfl rfl c32) rfl ?_
    refine FL.skip (wF_no rfl rfl rfl c32) rfl ?_
    obtain rfl := Option.some.inj hp
    refine FL.v (E.pickT rfl c32 rfl) ?_
    exact FL.nil ⟨rfl, _, S0, (Inc.rfl _), rfl, rfl, rfl⟩
   ·
    refine FL.val (wF_yes rfl rfl rfl c32) rfl rfl (E.move (v := Value.string a0) rfl) ?_
    refine FL.val (wF_yes rfl rfl rfl c32) rfl rfl (E.move (v := Value.int .i64 a1) rfl) ?_
    obtain ⟨z33, h34, hp⟩ := bnd hp
    refine FL.val (wF_yes rfl rfl rfl c32) rfl rfl (E.ixS Tryz.runUnderlying9 rfl rfl h34) ?_
    refine FL.val (wF_yes rfl rfl rfl c32) rfl rfl (E.eql rfl rfl) ?_
    obtain rfl := Option.some.inj hp
    refine FL.v (E.pickF rfl c32 rfl) ?_
    exact FL.nil ⟨rfl, _, S0, (Inc.rfl _), rfl, rfl, rfl⟩
  rintro f31 w30 ⟨H27, S28, i29, k35, k36, k37⟩
  refine FL.v (E.move k37) ?_
  obtain ⟨t55, hqt55, hp⟩ := bnd hp
  refine FL.cut 11 (fun f w => ∃ H : GH, St Ha wa H w [] ∧ Inc H27 H ∧ f 0 = Value.string a0 ∧ f 1 = Value.int .i64 a1 ∧ f 33 = Value.bool t55) ?_ ?_
  ·
   clear hp; have hp := hqt55; clear hqt55
   rcases ifB hp with ⟨c61, hp⟩ | ⟨c61, hp⟩
   ·
    refine FL.skip (wF_no rfl rfl rfl c61) rfl ?_
    refine FL.skip (wF_no rfl rfl rfl c61) rfl ?_
    refine FL.skip (wF_no rfl rfl rfl c61) rfl ?_
    refine FL.skip (wF_no rfl rfl rfl c61) rfl ?_
    refine FL.skip (wF_no rfl rfl rfl c61) rfl ?_
    refine FL.skip (wF_undef rfl rfl rfl) rfl ?_
    refine FL.skip (wF_undef rfl rfl rfl) rfl ?_
    refine FL.skip (wF_undef rfl rfl rfl) rfl ?_
    refine FL.skip (wF_undef rfl rfl rfl) rfl ?_
    refine FL.skip (wF_no rfl rfl rfl c61) rfl ?_
    obtain rfl := Option.some.inj hp
    refine FL.v (E.pickT rfl c61 rfl) ?_
    exact FL.nil ⟨rfl, _, S28, (Inc.rfl _), k35, k36, rfl⟩
   ·
    refine FL.val (wF_yes rfl rfl rfl c61) rfl rfl (E.move k35) ?_
    refine FL.val (wF_yes rfl rfl rfl c61) rfl rfl (E.move k36) ?_
    obtain ⟨z62, h63, hp⟩ := bnd hp
    refine FL.val (wF_yes rfl rfl rfl c61) rfl rfl (E.ixS Tryz.runUnderlying9 rfl rfl h63) ?_
    refine FL.val (wF_yes rfl rfl rfl c61) rfl rfl (E.geq rfl rfl) ?_
    refine FL.val (wF_yes rfl rfl rfl c61) rfl rfl (E.move (v := Value.bool (decide (97 ≤ z62))) rfl) ?_
    obtain ⟨t66, hqt66, hp⟩ := bnd hp
    refine FL.cut 5 (fun f w => ∃ H : GH, St Ha wa H w [] ∧ Inc H27 H ∧ f 0 = Value.string a0 ∧ f 1 = Value.int .i64 a1 ∧ f 22 = Value.bool t26 ∧ f 32 = Value.bool t66) ?_ ?_
    ·
     clear hp; have hp := hqt66; clear hqt66
     rcases ifB hp with ⟨c72, hp⟩ | ⟨c72, hp⟩
     ·
      refine FL.val (wF_yes rfl rfl rfl c72) rfl rfl (E.move k35) ?_
      refine FL.val (wF_yes rfl rfl rfl c72) rfl rfl (E.move k36) ?_
      obtain ⟨z73, h74, hp⟩ := bnd hp
      refine FL.val (wF_yes rfl rfl rfl c72) rfl rfl (E.ixS Tryz.runUnderlying9 rfl rfl h74) ?_
      refine FL.val (wF_yes rfl rfl rfl c72) rfl rfl (E.leq rfl rfl) ?_
      obtain rfl := Option.some.inj hp
      refine FL.val (wF_yes rfl rfl rfl c61) rfl rfl (E.pickT rfl c72 rfl) ?_
      exact FL.nil ⟨rfl, _, S28, (Inc.rfl _), k35, k36, rfl, rfl⟩
     ·
      refine FL.skip (wF_no rfl rfl rfl c72) rfl ?_
      refine FL.skip (wF_no rfl rfl rfl c72) rfl ?_
      refine FL.skip (wF_no rfl rfl rfl c72) rfl ?_
      refine FL.skip (wF_no rfl rfl rfl c72) rfl ?_
      obtain rfl := Option.some.inj hp
      refine FL.val (wF_yes rfl rfl rfl c61) rfl rfl (E.pickF rfl c72 rfl) ?_
      exact FL.nil ⟨rfl, _, S28, (Inc.rfl _), k35, k36, rfl, rfl⟩
    rintro f71 w70 ⟨H67, S68, i69, k75, k76, k77, k78⟩
    obtain rfl := Option.some.inj hp
    refine FL.v (E.pickF k77 c61 k78) ?_
    exact FL.nil ⟨rfl, _, S68, i69, k75, k76, rfl⟩
  rintro f60 w59 ⟨H56, S57, i58, k79, k80, k81⟩
  refine FL.v (E.assign k81) ?_
  refine FL.nil ?_
  rcases ifB hp with ⟨c82, hp⟩ | ⟨c82, hp⟩
  ·
   refine FW.condT rfl c82 ?_
   refine FW.seq (FW.region ?_)
   refine FL.v (E.move k80) ?_
   refine FL.v (E.add rfl rfl) ?_
   refine FL.v (E.assign (v := Value.int .i64 (wr (a1 + 1))) rfl) ?_
   refine FL.nil ?_
   refine FW.ret ?_
   obtain rfl := Option.some.inj hp
   exact ⟨.inr rfl, res1 rfl rfl ⟨rfl, S57.back⟩⟩
  ·
   refine FW.condF rfl c82 ?_
   refine FW.seq (FW.region ?_)
   refine FL.v (E.move k79) ?_
   refine FL.v (E.move k80) ?_
   obtain ⟨z83, h84, hp⟩ := bnd hp
   refine FL.v (E.ixS Tryz.runUnderlying9 rfl rfl h84) ?_
   refine FL.v (E.eql rfl rfl) ?_
   refine FL.v (E.assign (v := Value.bool (z83 == 126)) rfl) ?_
   refine FL.nil ?_
   rcases ifB hp with ⟨c85, hp⟩ | ⟨c85, hp⟩
   ·
    refine FW.condT rfl c85 ?_
    refine FW.seq (FW.region ?_)
    refine FL.v (E.move k79) ?_
    refine FL.v (E.move k80) ?_
    refine FL.v (E.add rfl rfl) ?_
    obtain ⟨r86, hr87, hp⟩ := bnd hp
    refine FL.call rfl rfl rfl (E.call Tryz.call85 (A2 rfl rfl)) (hrec_spec_l22End S57.sl a0 (wr (a1 + 1)) hr87) ?_
    rintro e w88 ⟨rfl, r89⟩
    refine ⟨_, rfl, ?_⟩
    have S90 := S57.call r89
    refine FL.v (E.assign (v := Value.int .i64 r86) rfl) ?_
    refine FL.nil ?_
    refine FW.ret ?_
    obtain rfl := Option.some.inj hp
    exact ⟨.inr rfl, res1 rfl rfl ⟨rfl, S90.back⟩⟩
   ·
    refine FW.condF rfl c85 ?_
    refine FW.seq (FW.region ?_)
    refine FL.v (E.move k79) ?_
    refine FL.v (E.move k80) ?_
    obtain ⟨z91, h92, hp⟩ := bnd hp
    refine FL.v (E.ixS Tryz.runUnderlying9 rfl rfl h92) ?_
    refine FL.v (E.neq rfl rfl) ?_
    refine FL.v (E.assign (v := Value.bool (!(z91 == 40))) rfl) ?_
    refine FL.nil ?_
    rcases ifB hp with ⟨c93, hp⟩ | ⟨c93, hp⟩
    ·
     refine FW.condT rfl c93 ?_
     refine FW.seq (FW.region ?_)
     refine FL.v (E.assign (v := Value.int .i64 (-1)) rfl) ?_
     refine FL.nil ?_
     refine FW.ret ?_
     obtain rfl := Option.some.inj hp
     exact ⟨.inr rfl, res1 rfl rfl ⟨rfl, S57.back⟩⟩
    ·
     refine FW.condF rfl c93 ?_
     refine FW.skip (FW.seq (FW.region ?_))
     refine FL.v (E.move k79) ?_
     refine FL.v (E.move k80) ?_
     refine FL.v (E.add rfl rfl) ?_
     obtain ⟨r94, hr95, hp⟩ := bnd hp
     refine FL.call rfl rfl rfl (E.call Tryz.call85 (A2 rfl rfl)) (hrec_spec_l22End S57.sl a0 (wr (a1 + 1)) hr95) ?_
     rintro e w96 ⟨rfl, r97⟩
     refine ⟨_, rfl, ?_⟩
     have S98 := S57.call r97
     refine FL.v (E.assign (v := Value.int .i64 r94) rfl) ?_
     refine FL.nil (FW.seq (FW.seq (FW.region ?_)))
     refine FL.v (E.move (v := Value.int .i64 r94) rfl) ?_
     refine FL.v (E.lss rfl rfl) ?_
     refine FL.v (E.move (v := Value.bool (decide (r94 < 0))) rfl) ?_
     refine FL.cut 5 (fun f w => ∃ H : GH, St Ha wa H w [] ∧ Inc H56 H ∧ f 0 = Value.string a0 ∧ f 5 = Value.int .i64 r94 ∧ f 61 = Value.bool (bif (decide (r94 < 0)) then true else (decide ((a0.size : Int) ≤ r94)))) ?_ ?_
     ·
      rcases bcase (decide (r94 < 0)) with c105 | c105
      ·
       refine FL.skip (wF_no rfl rfl rfl c105) rfl ?_
       refine FL.skip (wF_no rfl rfl rfl c105) rfl ?_
       refine FL.skip (wF_no rfl rfl rfl c105) rfl ?_
       refine FL.skip (wF_no rfl rfl rfl c105) rfl ?_
       refine FL.v (E.pickT rfl c105 rfl) ?_
       exact FL.nil ⟨rfl, _, S98, (Inc.rfl _), k79, rfl, (congrArg Value.bool (bifT c105).symm)⟩
      ·
       refine FL.val (wF_yes rfl rfl rfl c105) rfl rfl (E.move (v := Value.int .i64 r94) rfl) ?_
       refine FL.val (wF_yes rfl rfl rfl c105) rfl rfl (E.move k79) ?_
       refine FL.val (wF_yes rfl rfl rfl c105) rfl rfl (E.lenS Tryz.runUnderlying9 rfl) ?_
       refine FL.val (wF_yes rfl rfl rfl c105) rfl rfl (E.geq rfl rfl) ?_
       refine FL.v (E.pickF rfl c105 rfl) ?_
       exact FL.nil ⟨rfl, _, S98, (Inc.rfl _), k79, rfl, (congrArg Value.bool (bifF c105).symm)⟩
     rintro f104 w103 ⟨H100, S101, i102, k106, k107, k108⟩
     refine FL.v (E.move k108) ?_
     obtain ⟨t141, hqt141, hp⟩ := bnd hp
     refine FL.cut 17 (fun f w => ∃ H : GH, St Ha wa H w [] ∧ Inc H100 H ∧ f 0 = Value.string a0 ∧ f 5 = Value.int .i64 r94 ∧ f 79 = Value.bool t141) ?_ ?_
     ·
      clear hp; have hp := hqt141; clear hqt141
      rcases ifB hp with ⟨c147, hp⟩ | ⟨c147, hp⟩
      ·
       refine FL.skip (wF_no rfl rfl rfl c147) rfl ?_
       refine FL.skip (wF_no rfl rfl rfl c147) rfl ?_
       refine FL.skip (wF_no rfl rfl rfl c147) rfl ?_
       refine FL.skip (wF_no rfl rfl rfl c147) rfl ?_
       refine FL.skip (wF_no rfl rfl rfl c147) rfl ?_
       refine FL.skip (wF_undef rfl rfl rfl) rfl ?_
       refine FL.skip (wF_undef rfl rfl rfl) rfl ?_
       refine FL.skip (wF_undef rfl rfl rfl) rfl ?_
       refine FL.skip (wF_undef rfl rfl rfl) rfl ?_
       refine FL.skip (wF_no rfl rfl rfl c147) rfl ?_
       refine FL.skip (wF_no rfl rfl rfl c147) rfl ?_
       refine FL.skip (wF_undef rfl rfl rfl) rfl ?_
       refine FL.skip (wF_undef rfl rfl rfl) rfl ?_
       refine FL.skip (wF_undef rfl rfl rfl) rfl ?_
       refine FL.skip (wF_undef rfl rfl rfl) rfl ?_
       refine FL.skip (wF_no rfl rfl rfl c147) rfl ?_
       obtain rfl := Option.some.inj hp
       refine FL.v (E.pickT rfl c147 rfl) ?_
       exact FL.nil ⟨rfl, _, S101, (Inc.rfl _), k106, k107, rfl⟩
      ·
       refine FL.val (wF_yes rfl rfl rfl c147) rfl rfl (E.move k106) ?_
       refine FL.val (wF_yes rfl rfl rfl c147) rfl rfl (E.move k107) ?_
       obtain ⟨z148, h149, hp⟩ := bnd hp
       refine FL.val (wF_yes rfl rfl rfl c147) rfl rfl (E.ixS Tryz.runUnderlying9 rfl rfl h149) ?_
       refine FL.val (wF_yes rfl rfl rfl c147) rfl rfl (E.neq rfl rfl) ?_
       refine FL.val (wF_yes rfl rfl rfl c147) rfl rfl (E.move (v := Value.bool (!(z148 == 38))) rfl) ?_
       obtain ⟨t152, hqt152, hp⟩ := bnd hp
       refine FL.cut 5 (fun f w => ∃ H : GH, St Ha wa H w [] ∧ Inc H100 H ∧ f 0 = Value.string a0 ∧ f 5 = Value.int .i64 r94 ∧ f 62 = Value.bool (bif (decide (r94 < 0)) then true else (decide ((a0.size : Int) ≤ r94))) ∧ f 72 = Value.bool t152) ?_ ?_
       ·
        clear hp; have hp := hqt152; clear hqt152
        rcases ifB hp with ⟨c158, hp⟩ | ⟨c158, hp⟩
        ·
         refine FL.val (wF_yes rfl rfl rfl c158) rfl rfl (E.move k106) ?_
         refine FL.val (wF_yes rfl rfl rfl c158) rfl rfl (E.move k107) ?_
         obtain ⟨z159, h160, hp⟩ := bnd hp
         refine FL.val (wF_yes rfl rfl rfl c158) rfl rfl (E.ixS Tryz.runUnderlying9 rfl rfl h160) ?_
         refine FL.val (wF_yes rfl rfl rfl c158) rfl rfl (E.neq rfl rfl) ?_
         obtain rfl := Option.some.inj hp
         refine FL.val (wF_yes rfl rfl rfl c147) rfl rfl (E.pickT rfl c158 rfl) ?_
         exact FL.nil ⟨rfl, _, S101, (Inc.rfl _), k106, k107, rfl, rfl⟩
        ·
         refine FL.skip (wF_no rfl rfl rfl c158) rfl ?_
         refine FL.skip (wF_no rfl rfl rfl c158) rfl ?_
         refine FL.skip (wF_no rfl rfl rfl c158) rfl ?_
         refine FL.skip (wF_no rfl rfl rfl c158) rfl ?_
         obtain rfl := Option.some.inj hp
         refine FL.val (wF_yes rfl rfl rfl c147) rfl rfl (E.pickF rfl c158 rfl) ?_
         exact FL.nil ⟨rfl, _, S101, (Inc.rfl _), k106, k107, rfl, rfl⟩
       rintro f157 w156 ⟨H153, S154, i155, k161, k162, k163, k164⟩
       refine FL.val (wF_yes rfl rfl k163 c147) rfl rfl (E.move k164) ?_
       obtain ⟨t167, hqt167, hp⟩ := bnd hp
       refine FL.cut 5 (fun f w => ∃ H : GH, St Ha wa H w [] ∧ Inc H153 H ∧ f 0 = Value.string a0 ∧ f 5 = Value.int .i64 r94 ∧ f 62 = Value.bool (bif (decide (r94 < 0)) then true else (decide ((a0.size : Int) ≤ r94))) ∧ f 78 = Value.bool t167) ?_ ?_
       ·
        clear hp; have hp := hqt167; clear hqt167
        rcases ifB hp with ⟨c173, hp⟩ | ⟨c173, hp⟩
        ·
         refine FL.val (wF_yes rfl rfl rfl c173) rfl rfl (E.move k161) ?_
         refine FL.val (wF_yes rfl rfl rfl c173) rfl rfl (E.move k162) ?_
         obtain ⟨z174, h175, hp⟩ := bnd hp
         refine FL.val (wF_yes rfl rfl rfl c173) rfl rfl (E.ixS Tryz.runUnderlying9 rfl rfl h175) ?_
         refine FL.val (wF_yes rfl rfl rfl c173) rfl rfl (E.neq rfl rfl) ?_
         obtain rfl := Option.some.inj hp
         refine FL.val (wF_yes rfl rfl k163 c147) rfl rfl (E.pickT rfl c173 rfl) ?_
         exact FL.nil ⟨rfl, _, S154, (Inc.rfl _), k161, k162, k163, rfl⟩
        ·
         refine FL.skip (wF_no rfl rfl rfl c173) rfl ?_
         refine FL.skip (wF_no rfl rfl rfl c173) rfl ?_
         refine FL.skip (wF_no rfl rfl rfl c173) rfl ?_
         refine FL.skip (wF_no rfl rfl rfl c173) rfl ?_
         obtain rfl := Option.some.inj hp
         refine FL.val (wF_yes rfl rfl k163 c147) rfl rfl (E.pickF rfl c173 rfl) ?_
         exact FL.nil ⟨rfl, _, S154, (Inc.rfl _), k161, k162, k163, rfl⟩
       rintro f172 w171 ⟨H168, S169, i170, k176, k177, k178, k179⟩
       obtain rfl := Option.some.inj hp
       refine FL.v (E.pickF k178 c147 k179) ?_
       exact FL.nil ⟨rfl, _, S169, (i155.tr i170), k176, k177, rfl⟩
     rintro f146 w145 ⟨H142, S143, i144, k180, k181, k182⟩
     refine FL.nil ?_
     rcases ifB hp with ⟨c183, hp⟩ | ⟨c183, hp⟩
     ·
      refine FW.condT k182 c183 ?_
      refine FW.seq (FW.region ?_)
      refine FL.v (E.assign (v := Value.int .i64 (-1)) rfl) ?_
      refine FL.nil ?_
      refine FW.ret ?_
      obtain rfl := Option.some.inj hp
      exact ⟨.inr rfl, res1 rfl rfl ⟨rfl, S143.back⟩⟩
     ·
      refine FW.condF k182 c183 ?_
      refine FW.skip (FW.seq (FW.region ?_))
      refine FL.v (E.move k180) ?_
      refine FL.v (E.move k181) ?_
      refine FL.v (E.add rfl rfl) ?_
      obtain ⟨r184, hr185, hp⟩ := bnd hp
      refine FL.call rfl rfl rfl (E.call Tryz.call85 (A2 rfl rfl)) (hrec_spec_l22End S143.sl a0 (wr (r94 + 1)) hr185) ?_
      rintro e w186 ⟨rfl, r187⟩
      refine ⟨_, rfl, ?_⟩
      have S188 := S143.call r187
      refine FL.v (E.assign (v := Value.int .i64 r184) rfl) ?_
      refine FL.nil (FW.seq (FW.seq (FW.region ?_)))
      refine FL.v (E.move (v := Value.int .i64 r184) rfl) ?_
      refine FL.v (E.lss rfl rfl) ?_
      refine FL.v (E.move (v := Value.bool (decide (r184 < 0))) rfl) ?_
      refine FL.cut 5 (fun f w => ∃ H : GH, St Ha wa H w [] ∧ Inc H142 H ∧ f 0 = Value.string a0 ∧ f 6 = Value.int .i64 r184 ∧ f 91 = Value.bool (bif (decide (r184 < 0)) then true else (decide ((a0.size : Int) ≤ r184)))) ?_ ?_
      ·
       rcases bcase (decide (r184 < 0)) with c195 | c195
       ·
        refine FL.skip (wF_no rfl rfl rfl c195) rfl ?_
        refine FL.skip (wF_no rfl rfl rfl c195) rfl ?_
        refine FL.skip (wF_no rfl rfl rfl c195) rfl ?_
        refine FL.skip (wF_no rfl rfl rfl c195) rfl ?_
        refine FL.v (E.pickT rfl c195 rfl) ?_
        exact FL.nil ⟨rfl, _, S188, (Inc.rfl _), k180, rfl, (congrArg Value.bool (bifT c195).symm)⟩
       ·
        refine FL.val (wF_yes rfl rfl rfl c195) rfl rfl (E.move (v := Value.int .i64 r184) rfl) ?_
        refine FL.val (wF_yes rfl rfl rfl c195) rfl rfl (E.move k180) ?_
        refine FL.val (wF_yes rfl rfl rfl c195) rfl rfl (E.lenS Tryz.runUnderlying9 rfl) ?_
        refine FL.val (wF_yes rfl rfl rfl c195) rfl rfl (E.geq rfl rfl) ?_
        refine FL.v (E.pickF rfl c195 rfl) ?_
        exact FL.nil ⟨rfl, _, S188, (Inc.rfl _), k180, rfl, (congrArg Value.bool (bifF c195).symm)⟩
      rintro f194 w193 ⟨H190, S191, i192, k196, k197, k198⟩
      refine FL.v (E.move k198) ?_
      obtain ⟨t201, hqt201, hp⟩ := bnd hp
      refine FL.cut 5 (fun f w => ∃ H : GH, St Ha wa H w [] ∧ Inc H190 H ∧ f 6 = Value.int .i64 r184 ∧ f 97 = Value.bool t201) ?_ ?_
      ·
       clear hp; have hp := hqt201; clear hqt201
       rcases ifB hp with ⟨c207, hp⟩ | ⟨c207, hp⟩
       ·
        refine FL.skip (wF_no rfl rfl rfl c207) rfl ?_
        refine FL.skip (wF_no rfl rfl rfl c207) rfl ?_
        refine FL.skip (wF_no rfl rfl rfl c207) rfl ?_
        refine FL.skip (wF_no rfl rfl rfl c207) rfl ?_
        obtain rfl := Option.some.inj hp
        refine FL.v (E.pickT rfl c207 rfl) ?_
        exact FL.nil ⟨rfl, _, S191, (Inc.rfl _), k197, rfl⟩
       ·
        refine FL.val (wF_yes rfl rfl rfl c207) rfl rfl (E.move k196) ?_
        refine FL.val (wF_yes rfl rfl rfl c207) rfl rfl (E.move k197) ?_
        obtain ⟨z208, h209, hp⟩ := bnd hp
        refine FL.val (wF_yes rfl rfl rfl c207) rfl rfl (E.ixS Tryz.runUnderlying9 rfl rfl h209) ?_
        refine FL.val (wF_yes rfl rfl rfl c207) rfl rfl (E.neq rfl rfl) ?_
        obtain rfl := Option.some.inj hp
        refine FL.v (E.pickF rfl c207 rfl) ?_
        exact FL.nil ⟨rfl, _, S191, (Inc.rfl _), k197, rfl⟩
      rintro f206 w205 ⟨H202, S203, i204, k210, k211⟩
      refine FL.nil ?_
      rcases ifB hp with ⟨c212, hp⟩ | ⟨c212, hp⟩
      ·
       refine FW.condT k211 c212 ?_
       refine FW.seq (FW.region ?_)
       refine FL.v (E.assign (v := Value.int .i64 (-1)) rfl) ?_
       refine FL.nil ?_
       refine FW.ret ?_
       obtain rfl := Option.some.inj hp
       exact ⟨.inr rfl, res1 rfl rfl ⟨rfl, S203.back⟩⟩
      ·
       refine FW.condF k211 c212 ?_
       refine FW.skip (FW.seq (FW.region ?_))
       refine FL.v (E.move k210) ?_
       refine FL.v (E.add rfl rfl) ?_
       refine FL.v (E.assign (v := Value.int .i64 (wr (r184 + 1))) rfl) ?_
       refine FL.nil ?_
       refine FW.ret ?_
       obtain rfl := Option.some.inj hp
       exact ⟨.inr rfl, res1 rfl rfl ⟨rfl, S203.back⟩⟩
theorem w_spec_l22End_F (n : Nat) : ∀ {Ha : GH} {wa : World} (hs : Sl Ha wa) (a0 : ByteArray) (a1 : Int) {r : Int} (hp : PF.spec_l22End_F n a0 a1 = some r), Calls Tryz.prog 85 #[Value.string a0, Value.int .i64 a1] wa (Sc Ha wa (Value.int .i64 r)) := by
 induction n with
 | zero => intros; rename_i hp; exact nomatch hp
 | succ n ih => exact w_spec_l22End_B (rec_spec_l22End := PF.spec_l22End_F n) ih
theorem w_spec_l22End {Ha : GH} {wa : World} (hs : Sl Ha wa) (a0 : ByteArray) (a1 : Int) {r : Int} (hp : PF.spec_l22End a0 a1 = some r) :
  Calls Tryz.prog 85 #[Value.string a0, Value.int .i64 a1] wa (Sc Ha wa (Value.int .i64 r)) := w_spec_l22End_F deep hs a0 a1 hp

theorem w_spec_l22Good {Ha : GH} {wa : World} (hs : Sl Ha wa) (a0 : ByteArray) {r : Bool} (hp : (PF.spec_l22Good a0) = some r) :
  Calls Tryz.prog 56 #[Value.string a0] wa (Sc Ha wa (Value.bool r)) := by
 unfold PF.spec_l22Good at hp
 have S0 := St.init hs
 refine calls_go (N := 18) (args := [Value.string a0]) Tryz.func56 rfl rfl rfl ?_
 refine FW.seq (FW.region ?_)
 refine FL.v (E.assign (v := Value.bool false) rfl) ?_
 refine FL.nil (FW.seq (FW.region ?_))
 refine FL.v (E.move (v := Value.string a0) rfl) ?_
 refine FL.v (E.lenS Tryz.runUnderlying9 rfl) ?_
 refine FL.v (E.gtr rfl rfl) ?_
 refine FL.v (E.move (v := Value.bool (decide (0 < (a0.size : Int)))) rfl) ?_
 refine FL.cut 4 (fun f w => ∃ H : GH, St Ha wa H w [] ∧ Inc Ha H ∧ f 0 = Value.string a0 ∧ f 10 = Value.bool (bif (decide (0 < (a0.size : Int))) then (decide ((a0.size : Int) ≤ 80)) else false)) ?_ ?_
 ·
  rcases bcase (decide (0 < (a0.size : Int))) with c27 | c27
  ·
   refine FL.val (wF_yes rfl rfl rfl c27) rfl rfl (E.move (v := Value.string a0) rfl) ?_
   refine FL.val (wF_yes rfl rfl rfl c27) rfl rfl (E.lenS Tryz.runUnderlying9 rfl) ?_
   refine FL.val (wF_yes rfl rfl rfl c27) rfl rfl (E.leq rfl rfl) ?_
   refine FL.v (E.pickT rfl c27 rfl) ?_
   exact FL.nil ⟨rfl, _, S0, (Inc.rfl _), rfl, (congrArg Value.bool (bifT c27).symm)⟩
  ·
   refine FL.skip (wF_no rfl rfl rfl c27) rfl ?_
   refine FL.skip (wF_no rfl rfl rfl c27) rfl ?_
   refine FL.skip (wF_no rfl rfl rfl c27) rfl ?_
   refine FL.v (E.pickF rfl c27 rfl) ?_
   exact FL.nil ⟨rfl, _, S0, (Inc.rfl _), rfl, (congrArg Value.bool (bifF c27).symm)⟩
 rintro f26 w25 ⟨H22, S23, i24, k28, k29⟩
 refine FL.v (E.move k29) ?_
 obtain ⟨t35, hqt35, hp⟩ := bnd hp
 refine FL.cut 6 (fun f w => ∃ H : GH, St Ha wa H w [] ∧ Inc H22 H ∧ f 17 = Value.bool t35) ?_ ?_
 ·
  clear hp; have hp := hqt35; clear hqt35
  rcases ifB hp with ⟨c41, hp⟩ | ⟨c41, hp⟩
  ·
   refine FL.val (wF_yes rfl rfl rfl c41) rfl rfl (E.move k28) ?_
   obtain ⟨r42, hr43, hp⟩ := bnd hp
   refine FL.call (wF_yes rfl rfl rfl c41) rfl rfl (E.call Tryz.call85 (A2 rfl rfl)) (w_spec_l22End S23.sl a0 0 hr43) ?_
   rintro e w44 ⟨rfl, r45⟩
   refine ⟨_, rfl, ?_⟩
   have S46 := S23.call r45
   refine FL.val (wF_yes rfl rfl rfl c41) rfl rfl (E.move k28) ?_
   refine FL.val (wF_yes rfl rfl rfl c41) rfl rfl (E.lenS Tryz.runUnderlying9 rfl) ?_
   refine FL.val (wF_yes rfl rfl rfl c41) rfl rfl (E.eql rfl rfl) ?_
   obtain rfl := Option.some.inj hp
   refine FL.v (E.pickT rfl c41 rfl) ?_
   exact FL.nil ⟨rfl, _, S46, (Inc.rfl _), rfl⟩
  ·
   refine FL.skip (wF_no rfl rfl rfl c41) rfl ?_
   refine FL.skip (wF_no rfl rfl rfl c41) rfl ?_
   refine FL.skip (wF_no rfl rfl rfl c41) rfl ?_
   refine FL.skip (wF_no rfl rfl rfl c41) rfl ?_
   refine FL.skip (wF_no rfl rfl rfl c41) rfl ?_
   obtain rfl := Option.some.inj hp
   refine FL.v (E.pickF rfl c41 rfl) ?_
   exact FL.nil ⟨rfl, _, S23, (Inc.rfl _), rfl⟩
 rintro f40 w39 ⟨H36, S37, i38, k47⟩
 refine FL.v (E.assign k47) ?_
 refine FL.nil ?_
 refine FW.ret ?_
 obtain rfl := Option.some.inj hp
 exact ⟨.inr rfl, res1 rfl rfl ⟨rfl, S37.back⟩⟩

@[reducible] def p_spec_l24Schemes (Ha : GH) (wa : World) (r : (List ByteArray)) : Ending → World → Prop :=
 fun e w' => ∃ H' : GH, ∃ v0 : Value, ∃ n0 : Nat, ∃ c0 : List Value, e = .returned (v0) ∧ St Ha wa H' w' [.row 9 1 v0 n0 c0] ∧ Els (up wa.heap.size H') eS 1 c0 r
theorem w_spec_l24Schemes {Ha : GH} {wa : World} (hs : Sl Ha wa)  :
  Calls Tryz.prog 86 #[] wa (p_spec_l24Schemes Ha wa PF.spec_l24Schemes) := by
 obtain ⟨r, hp⟩ : ∃ r, PF.spec_l24Schemes = r := ⟨_, rfl⟩
 rw [hp]
 unfold PF.spec_l24Schemes at hp
 have S0 := St.init hs
 refine calls_go (N := 2) (args := []) Tryz.func86 rfl rfl rfl ?_
 refine FW.seq (FW.region ?_)
 refine FL.v (E.assign (v := Value.slice none 0 0) rfl) ?_
 refine FL.nil (FW.seq (FW.region ?_))
 obtain ⟨v21, w22, run23, S24⟩ := S0.buildSlice (P := Tryz.prog) te30 [Value.string (ByteArray.mk #[40, 97, 62, 40, 98, 62, 97, 41, 41]), Value.string (ByteArray.mk #[40, 40, 97, 62, 40, 98, 62, 99, 41, 41, 62, 40, 40, 97, 62, 98, 41, 62, 40, 97, 62, 99, 41, 41, 41]), Value.string (ByteArray.mk #[40, 40, 126, 97, 62, 126, 98, 41, 62, 40, 98, 62, 97, 41, 41]), Value.string (ByteArray.mk #[40, 40, 97, 38, 98, 41, 62, 97, 41]), Value.string (ByteArray.mk #[40, 40, 97, 38, 98, 41, 62, 98, 41]), Value.string (ByteArray.mk #[40, 97, 62, 40, 98, 62, 40, 97, 38, 98, 41, 41, 41]), Value.string (ByteArray.mk #[40, 97, 62, 40, 97, 124, 98, 41, 41]), Value.string (ByteArray.mk #[40, 98, 62, 40, 97, 124, 98, 41, 41]), Value.string (ByteArray.mk #[40, 40, 97, 62, 99, 41, 62, 40, 40, 98, 62, 99, 41, 62, 40, 40, 97, 124, 98, 41, 62, 99, 41, 41, 41]), Value.string (ByteArray.mk #[49])] (parts := #[(0, Value.string (ByteArray.mk #[40, 97, 62, 40, 98, 62, 97, 41, 41])), (1, Value.string (ByteArray.mk #[40, 40, 97, 62, 40, 98, 62, 99, 41, 41, 62, 40, 40, 97, 62, 98, 41, 62, 40, 97, 62, 99, 41, 41, 41])), (2, Value.string (ByteArray.mk #[40, 40, 126, 97, 62, 126, 98, 41, 62, 40, 98, 62, 97, 41, 41])), (3, Value.string (ByteArray.mk #[40, 40, 97, 38, 98, 41, 62, 97, 41])), (4, Value.string (ByteArray.mk #[40, 40, 97, 38, 98, 41, 62, 98, 41])), (5, Value.string (ByteArray.mk #[40, 97, 62, 40, 98, 62, 40, 97, 38, 98, 41, 41, 41])), (6, Value.string (ByteArray.mk #[40, 97, 62, 40, 97, 124, 98, 41, 41])), (7, Value.string (ByteArray.mk #[40, 98, 62, 40, 97, 124, 98, 41, 41])), (8, Value.string (ByteArray.mk #[40, 40, 97, 62, 99, 41, 62, 40, 40, 98, 62, 99, 41, 62, 40, 40, 97, 124, 98, 41, 62, 99, 41, 41, 41])), (9, Value.string (ByteArray.mk #[49]))]) (cells := [Value.string (ByteArray.mk #[40, 97, 62, 40, 98, 62, 97, 41, 41]), Value.string (ByteArray.mk #[40, 40, 97, 62, 40, 98, 62, 99, 41, 41, 62, 40, 40, 97, 62, 98, 41, 62, 40, 97, 62, 99, 41, 41, 41]), Value.string (ByteArray.mk #[40, 40, 126, 97, 62, 126, 98, 41, 62, 40, 98, 62, 97, 41, 41]), Value.string (ByteArray.mk #[40, 40, 97, 38, 98, 41, 62, 97, 41]), Value.string (ByteArray.mk #[40, 40, 97, 38, 98, 41, 62, 98, 41]), Value.string (ByteArray.mk #[40, 97, 62, 40, 98, 62, 40, 97, 38, 98, 41, 41, 41]), Value.string (ByteArray.mk #[40, 97, 62, 40, 97, 124, 98, 41, 41]), Value.string (ByteArray.mk #[40, 98, 62, 40, 97, 124, 98, 41, 41]), Value.string (ByteArray.mk #[40, 40, 97, 62, 99, 41, 62, 40, 40, 98, 62, 99, 41, 62, 40, 40, 97, 124, 98, 41, 62, 99, 41, 41, 41]), Value.string (ByteArray.mk #[49])]) rfl (szs_cons rfl (szs_cons rfl (szs_cons rfl (szs_cons rfl (szs_cons rfl (szs_cons rfl (szs_cons rfl (szs_cons rfl (szs_cons rfl (szs_cons rfl szs_nil)))))))))) (fc_cons rfl (fc_cons rfl (fc_cons rfl (fc_cons rfl (fc_cons rfl (fc_cons rfl (fc_cons rfl (fc_cons rfl (fc_cons rfl (fc_cons rfl fc_nil)))))))))) (ones_cons rfl (ones_cons rfl (ones_cons rfl (ones_cons rfl (ones_cons rfl (ones_cons rfl (ones_cons rfl (ones_cons rfl (ones_cons rfl (ones_cons rfl ones_nil)))))))))) (Nat.le_of_ble_eq_true rfl)
 have els25 : Els (up wa.heap.size Ha) eS 1 [Value.string (ByteArray.mk #[40, 97, 62, 40, 98, 62, 97, 41, 41]), Value.string (ByteArray.mk #[40, 40, 97, 62, 40, 98, 62, 99, 41, 41, 62, 40, 40, 97, 62, 98, 41, 62, 40, 97, 62, 99, 41, 41, 41]), Value.string (ByteArray.mk #[40, 40, 126, 97, 62, 126, 98, 41, 62, 40, 98, 62, 97, 41, 41]), Value.string (ByteArray.mk #[40, 40, 97, 38, 98, 41, 62, 97, 41]), Value.string (ByteArray.mk #[40, 40, 97, 38, 98, 41, 62, 98, 41]), Value.string (ByteArray.mk #[40, 97, 62, 40, 98, 62, 40, 97, 38, 98, 41, 41, 41]), Value.string (ByteArray.mk #[40, 97, 62, 40, 97, 124, 98, 41, 41]), Value.string (ByteArray.mk #[40, 98, 62, 40, 97, 124, 98, 41, 41]), Value.string (ByteArray.mk #[40, 40, 97, 62, 99, 41, 62, 40, 40, 98, 62, 99, 41, 62, 40, 40, 97, 124, 98, 41, 62, 99, 41, 41, 41]), Value.string (ByteArray.mk #[49])] [(ByteArray.mk #[40, 97, 62, 40, 98, 62, 97, 41, 41]), (ByteArray.mk #[40, 40, 97, 62, 40, 98, 62, 99, 41, 41, 62, 40, 40, 97, 62, 98, 41, 62, 40, 97, 62, 99, 41, 41, 41]), (ByteArray.mk #[40, 40, 126, 97, 62, 126, 98, 41, 62, 40, 98, 62, 97, 41, 41]), (ByteArray.mk #[40, 40, 97, 38, 98, 41, 62, 97, 41]), (ByteArray.mk #[40, 40, 97, 38, 98, 41, 62, 98, 41]), (ByteArray.mk #[40, 97, 62, 40, 98, 62, 40, 97, 38, 98, 41, 41, 41]), (ByteArray.mk #[40, 97, 62, 40, 97, 124, 98, 41, 41]), (ByteArray.mk #[40, 98, 62, 40, 97, 124, 98, 41, 41]), (ByteArray.mk #[40, 40, 97, 62, 99, 41, 62, 40, 40, 98, 62, 99, 41, 62, 40, 40, 97, 124, 98, 41, 62, 99, 41, 41, 41]), (ByteArray.mk #[49])] := (Els.snoc (H := (up wa.heap.size Ha)) (E := eS) (k := 1) (c := [Value.string (ByteArray.mk #[49])]) (x := (ByteArray.mk #[49])) (Els.snoc (H := (up wa.heap.size Ha)) (E := eS) (k := 1) (c := [Value.string (ByteArray.mk #[40, 40, 97, 62, 99, 41, 62, 40, 40, 98, 62, 99, 41, 62, 40, 40, 97, 124, 98, 41, 62, 99, 41, 41, 41])]) (x := (ByteArray.mk #[40, 40, 97, 62, 99, 41, 62, 40, 40, 98, 62, 99, 41, 62, 40, 40, 97, 124, 98, 41, 62, 99, 41, 41, 41])) (Els.snoc (H := (up wa.heap.size Ha)) (E := eS) (k := 1) (c := [Value.string (ByteArray.mk #[40, 98, 62, 40, 97, 124, 98, 41, 41])]) (x := (ByteArray.mk #[40, 98, 62, 40, 97, 124, 98, 41, 41])) (Els.snoc (H := (up wa.heap.size Ha)) (E := eS) (k := 1) (c := [Value.string (ByteArray.mk #[40, 97, 62, 40, 97, 124, 98, 41, 41])]) (x := (ByteArray.mk #[40, 97, 62, 40, 97, 124, 98, 41, 41])) (Els.snoc (H := (up wa.heap.size Ha)) (E := eS) (k := 1) (c := [Value.string (ByteArray.mk #[40, 97, 62, 40, 98, 62, 40, 97, 38, 98, 41, 41, 41])]) (x := (ByteArray.mk #[40, 97, 62, 40, 98, 62, 40, 97, 38, 98, 41, 41, 41])) (Els.snoc (H := (up wa.heap.size Ha)) (E := eS) (k := 1) (c := [Value.string (ByteArray.mk #[40, 40, 97, 38, 98, 41, 62, 98, 41])]) (x := (ByteArray.mk #[40, 40, 97, 38, 98, 41, 62, 98, 41])) (Els.snoc (H := (up wa.heap.size Ha)) (E := eS) (k := 1) (c := [Value.string (ByteArray.mk #[40, 40, 97, 38, 98, 41, 62, 97, 41])]) (x := (ByteArray.mk #[40, 40, 97, 38, 98, 41, 62, 97, 41])) (Els.snoc (H := (up wa.heap.size Ha)) (E := eS) (k := 1) (c := [Value.string (ByteArray.mk #[40, 40, 126, 97, 62, 126, 98, 41, 62, 40, 98, 62, 97, 41, 41])]) (x := (ByteArray.mk #[40, 40, 126, 97, 62, 126, 98, 41, 62, 40, 98, 62, 97, 41, 41])) (Els.snoc (H := (up wa.heap.size Ha)) (E := eS) (k := 1) (c := [Value.string (ByteArray.mk #[40, 40, 97, 62, 40, 98, 62, 99, 41, 41, 62, 40, 40, 97, 62, 98, 41, 62, 40, 97, 62, 99, 41, 41, 41])]) (x := (ByteArray.mk #[40, 40, 97, 62, 40, 98, 62, 99, 41, 41, 62, 40, 40, 97, 62, 98, 41, 62, 40, 97, 62, 99, 41, 41, 41])) (Els.snoc (H := (up wa.heap.size Ha)) (E := eS) (k := 1) (c := [Value.string (ByteArray.mk #[40, 97, 62, 40, 98, 62, 97, 41, 41])]) (x := (ByteArray.mk #[40, 97, 62, 40, 98, 62, 97, 41, 41])) Els.nil rfl rfl) rfl rfl) rfl rfl) rfl rfl) rfl rfl) rfl rfl) rfl rfl) rfl rfl) rfl rfl) rfl rfl)
 refine FL.v (E.buildSlice (B10 rfl rfl rfl rfl rfl rfl rfl rfl rfl rfl) run23) ?_
 refine FL.v (E.assign (v := v21) rfl) ?_
 refine FL.nil ?_
 refine FW.ret ?_
 obtain rfl := hp
 exact ⟨.inr rfl, res1 rfl rfl ⟨_, _, _, _, rfl, S24, els25⟩⟩

set_option maxHeartbeats 4000000 in
theorem w_spec_l24Case {Ha : GH} {wa : World} (hs : Sl Ha wa) (a0 : Int) (a1 : ByteArray) (a2 : ByteArray) (a3 : ByteArray) {r : ByteArray} (hp : (PF.spec_l24Case a0 a1 a2 a3) = some r) :
  Calls Tryz.prog 59 #[Value.int .i64 a0, Value.string a1, Value.string a2, Value.string a3] wa (Sc Ha wa (Value.string r)) := by
 unfold PF.spec_l24Case at hp
 have S0 := St.init hs
 refine calls_go (N := 49) (args := [Value.int .i64 a0, Value.string a1, Value.string a2, Value.string a3]) Tryz.func59 rfl rfl rfl ?_
 refine FW.seq (FW.region ?_)
 refine FL.v (E.assign (v := Value.string (ByteArray.mk #[])) rfl) ?_
 refine FL.nil (FW.seq (FW.region ?_))
 refine FL.call rfl rfl rfl (E.call Tryz.call86 A0) (w_spec_l24Schemes S0.sl ) ?_
 rintro e w22 ⟨H21, v25, n26, cs27, rfl, r24, els28⟩
 refine ⟨_, rfl, ?_⟩
 have els28 := els28.mono (up_le S0.size)
 have S23 := S0.join (l' := [.row 9 1 v25 n26 cs27]) r24 rfl
 refine FL.v (E.move (v := Value.int .i64 a0) rfl) ?_
 refine FL.v (E.sub rfl rfl) ?_
 obtain ⟨x35, hx36, hp⟩ := bnd hp
 obtain ⟨p29, cs30, pt31, l32, at33, rel34⟩ := S23.row_at (i := 0) rfl els28 (by decide) hx36
 obtain rfl := eS_open rel34
 refine FL.v (E.indexAddr te30 rfl rfl pt31) ?_
 refine FL.v (E.load rfl (run_load0 Tryz.isAgg9 at33 rfl)) ?_
 refine FL.v (E.assign (v := Value.string x35) rfl) ?_
 refine FL.v (E.assign (v := Value.string (ByteArray.mk #[])) rfl) ?_
 refine FL.nil (FW.seq (FW.seq (FW.region ?_)))
 refine FL.v (E.assign (v := Value.int .i64 0) rfl) ?_
 refine FL.nil ?_
 obtain ⟨m37, hchk38, hp⟩ := bnd hp
 obtain ⟨q38, hq, hp⟩ := bndR hp
 refine FW.block ?_
 refine FW.mono (FW.forR (S := ByteArray) (X := Empty) (fun (i38 : Nat) (s38 : ByteArray) f w => ∃ H : GH, St Ha wa H w [] ∧ Inc H21 H ∧ f 11 = Value.int .i64 ((i38 : Nat) : Int) ∧ f 1 = Value.string a1 ∧ f 2 = Value.string a2 ∧ f 3 = Value.string a3 ∧ f 9 = Value.string x35 ∧ f 10 = Value.string s38) (fun (q : Rs ByteArray Empty) e f w => match q with | .go s38 => e = Exit.exit 0 ∧ (∃ H : GH, St Ha wa H w [] ∧ Inc H21 H ∧ f 10 = Value.string s38) | .rt x => x.elim) hq ⟨_, (S23.sel [] (by decide) rfl), (Inc.rfl _), rfl, rfl, rfl, rfl, rfl, rfl⟩ ?_ ?_) ?_
 ·
  clear hp hq
  rintro i38 s38 f69 w68 ⟨H65, S66, i67, k70, k71, k72, k73, k74, k75⟩ hi38 hj38 o91 hp
  refine FW.seq (FW.seq (FW.region ?_))
  refine FL.v (E.move k70) ?_
  refine FL.v (E.move k74) ?_
  refine FL.v (E.lenS Tryz.runUnderlying9 rfl) ?_
  refine FL.v (E.lssT rfl rfl (lss_chk hj38 hchk38)) ?_
  refine FL.nil ?_
  refine FW.condT rfl rfl ?_
  refine FW.skip (FW.seq (FW.block (FW.seq (FW.region ?_))))
  refine FL.v (E.move k74) ?_
  refine FL.v (E.move k70) ?_
  obtain ⟨z76, h77, hp⟩ := bnd hp
  refine FL.v (E.ixS Tryz.runUnderlying9 rfl rfl h77) ?_
  refine FL.nil (FW.block (FW.seq (FW.region ?_)))
  refine FL.v (E.eql rfl rfl) ?_
  refine FL.v (E.assign (v := Value.bool (z76 == 97)) rfl) ?_
  refine FL.nil ?_
  rcases ifB hp with ⟨c78, hp⟩ | ⟨c78, hp⟩
  ·
   refine FW.condT rfl c78 ?_
   refine FW.region ?_
   refine FL.v (E.move k75) ?_
   refine FL.v (E.move k71) ?_
   obtain ⟨z79, h80, hp⟩ := bnd hp
   refine FL.v (E.addT rfl rfl h80) ?_
   refine FL.v (E.assign (v := Value.string z79) rfl) ?_
   refine FL.nil (FW.region ?_)
   refine FL.v (E.move k70) ?_
   refine FL.v (E.add rfl rfl) ?_
   refine FL.v (E.assign (v := Value.int .i64 (wr (((i38 : Nat) : Int) + 1))) rfl) ?_
   refine FL.nil ?_
   obtain rfl := Option.some.inj hp
   exact ⟨rfl, ⟨_, S66, i67, (nat_succ rfl hj38 (chk_le hchk38)), k71, k72, k73, k74, rfl⟩⟩
  ·
   refine FW.condF rfl c78 ?_
   refine FW.seq (FW.region ?_)
   refine FL.v (E.eql rfl rfl) ?_
   refine FL.v (E.assign (v := Value.bool (z76 == 98)) rfl) ?_
   refine FL.nil ?_
   rcases ifB hp with ⟨c81, hp⟩ | ⟨c81, hp⟩
   ·
    refine FW.condT rfl c81 ?_
    refine FW.region ?_
    refine FL.v (E.move k75) ?_
    refine FL.v (E.move k72) ?_
    obtain ⟨z82, h83, hp⟩ := bnd hp
    refine FL.v (E.addT rfl rfl h83) ?_
    refine FL.v (E.assign (v := Value.string z82) rfl) ?_
    refine FL.nil (FW.region ?_)
    refine FL.v (E.move k70) ?_
    refine FL.v (E.add rfl rfl) ?_
    refine FL.v (E.assign (v := Value.int .i64 (wr (((i38 : Nat) : Int) + 1))) rfl) ?_
    refine FL.nil ?_
    obtain rfl := Option.some.inj hp
    exact ⟨rfl, ⟨_, S66, i67, (nat_succ rfl hj38 (chk_le hchk38)), k71, k72, k73, k74, rfl⟩⟩
   ·
    refine FW.condF rfl c81 ?_
    refine FW.seq (FW.region ?_)
    refine FL.v (E.eql rfl rfl) ?_
    refine FL.v (E.assign (v := Value.bool (z76 == 99)) rfl) ?_
    refine FL.nil ?_
    rcases ifB hp with ⟨c84, hp⟩ | ⟨c84, hp⟩
    ·
     refine FW.condT rfl c84 ?_
     refine FW.region ?_
     refine FL.v (E.move k75) ?_
     refine FL.v (E.move k73) ?_
     obtain ⟨z85, h86, hp⟩ := bnd hp
     refine FL.v (E.addT rfl rfl h86) ?_
     refine FL.v (E.assign (v := Value.string z85) rfl) ?_
     refine FL.nil (FW.region ?_)
     refine FL.v (E.move k70) ?_
     refine FL.v (E.add rfl rfl) ?_
     refine FL.v (E.assign (v := Value.int .i64 (wr (((i38 : Nat) : Int) + 1))) rfl) ?_
     refine FL.nil ?_
     obtain rfl := Option.some.inj hp
     exact ⟨rfl, ⟨_, S66, i67, (nat_succ rfl hj38 (chk_le hchk38)), k71, k72, k73, k74, rfl⟩⟩
    ·
     refine FW.condF rfl c84 ?_
     refine FW.region ?_
     refine FL.v (E.move k75) ?_
     refine FL.v (E.move k74) ?_
     refine FL.v (E.move k70) ?_
     refine FL.v (E.move k70) ?_
     refine FL.v (E.add rfl rfl) ?_
     obtain ⟨z87, h88, hp⟩ := bnd hp
     refine FL.v (E.cutS (kl := .i64) (kh := .i64) Tryz.underlying9 rfl (.inr ⟨_, rfl, rfl⟩) (.inr ⟨_, rfl, rfl⟩) h88) ?_
     obtain ⟨z89, h90, hp⟩ := bnd hp
     refine FL.v (E.addT rfl rfl h90) ?_
     refine FL.v (E.assign (v := Value.string z89) rfl) ?_
     refine FL.nil (FW.region ?_)
     refine FL.v (E.move k70) ?_
     refine FL.v (E.add rfl rfl) ?_
     refine FL.v (E.assign (v := Value.int .i64 (wr (((i38 : Nat) : Int) + 1))) rfl) ?_
     refine FL.nil ?_
     obtain rfl := Option.some.inj hp
     exact ⟨rfl, ⟨_, S66, i67, (nat_succ rfl hj38 (chk_le hchk38)), k71, k72, k73, k74, rfl⟩⟩
 ·
  clear hp hq
  rintro s38 f102 w101 ⟨H98, S99, i100, k103, k104, k105, k106, k107, k108⟩
  refine FW.seq (FW.seq (FW.region ?_))
  refine FL.v (E.move k103) ?_
  refine FL.v (E.move k107) ?_
  refine FL.v (E.lenS Tryz.runUnderlying9 rfl) ?_
  refine FL.v (E.lss rfl rfl) ?_
  refine FL.nil ?_
  refine FW.condF rfl (dlt_maxchk hchk38) ?_
  refine FW.exit ?_
  exact ⟨nofun, rfl, ⟨_, S99, i100, k108⟩⟩
 ·
  clear hq
  intro e f96 w95 hD
  rcases q38 with s38 | x38
  ·
   obtain ⟨rfl, hD⟩ := hD
   obtain ⟨H92, S93, i94, k97⟩ := hD
   replace hp := el_go hp
   refine FW.seq (FW.region ?_)
   refine FL.v (E.move k97) ?_
   refine FL.v (E.assign (v := Value.string s38) rfl) ?_
   refine FL.nil ?_
   refine FW.ret ?_
   obtain rfl := Option.some.inj hp
   exact ⟨.inr rfl, res1 rfl rfl ⟨rfl, S93.back⟩⟩
  ·
   exact x38.elim

set_option maxHeartbeats 4000000 in
theorem w_spec_CaseOf {Ha : GH} {wa : World} (hs : Sl Ha wa) (a0 : Int) (a1 : ByteArray) (a2 : ByteArray) (a3 : ByteArray) {r : (ByteArray × Bool)} (hp : (PF.spec_CaseOf a0 a1 a2 a3) = some r) :
  Calls Tryz.prog 22 #[Value.int .i64 a0, Value.string a1, Value.string a2, Value.string a3] wa (Sc Ha wa (Value.tuple #[Value.string r.1, Value.bool r.2])) := by
 unfold PF.spec_CaseOf at hp
 have S0 := St.init hs
 refine calls_go (N := 38) (args := [Value.int .i64 a0, Value.string a1, Value.string a2, Value.string a3]) Tryz.func22 rfl rfl rfl ?_
 refine FW.seq (FW.region ?_)
 refine FL.v (E.assign (v := Value.string (ByteArray.mk #[])) rfl) ?_
 refine FL.v (E.assign (v := Value.bool false) rfl) ?_
 refine FL.nil (FW.seq (FW.seq (FW.region ?_)))
 refine FL.v (E.move (v := Value.int .i64 a0) rfl) ?_
 refine FL.call rfl rfl rfl (E.call Tryz.call58 (A1 rfl)) (w_spec_l24Scheme S0.sl a0) ?_
 rintro e w21 ⟨rfl, r22⟩
 refine ⟨_, rfl, ?_⟩
 have S23 := S0.call r22
 refine FL.v (E.not rfl) ?_
 refine FL.v (E.move (v := Value.bool (!(PF.spec_l24Scheme a0))) rfl) ?_
 obtain ⟨t29, hqt29, hp⟩ := bnd hp
 refine FL.cut 4 (fun f w => ∃ H : GH, St Ha wa H w [] ∧ Inc Ha H ∧ f 0 = Value.int .i64 a0 ∧ f 1 = Value.string a1 ∧ f 2 = Value.string a2 ∧ f 3 = Value.string a3 ∧ f 18 = Value.bool t29) ?_ ?_
 ·
  clear hp; have hp := hqt29; clear hqt29
  rcases ifB hp with ⟨c35, hp⟩ | ⟨c35, hp⟩
  ·
   refine FL.skip (wF_no rfl rfl rfl c35) rfl ?_
   refine FL.skip (wF_no rfl rfl rfl c35) rfl ?_
   refine FL.skip (wF_no rfl rfl rfl c35) rfl ?_
   obtain rfl := Option.some.inj hp
   refine FL.v (E.pickT rfl c35 rfl) ?_
   exact FL.nil ⟨rfl, _, S23, (Inc.rfl _), rfl, rfl, rfl, rfl, rfl⟩
  ·
   refine FL.val (wF_yes rfl rfl rfl c35) rfl rfl (E.move (v := Value.string a1) rfl) ?_
   obtain ⟨r36, hr37, hp⟩ := bnd hp
   refine FL.call (wF_yes rfl rfl rfl c35) rfl rfl (E.call Tryz.call56 (A1 rfl)) (w_spec_l22Good S23.sl a1 hr37) ?_
   rintro e w38 ⟨rfl, r39⟩
   refine ⟨_, rfl, ?_⟩
   have S40 := S23.call r39
   refine FL.val (wF_yes rfl rfl rfl c35) rfl rfl (E.not rfl) ?_
   obtain rfl := Option.some.inj hp
   refine FL.v (E.pickF rfl c35 rfl) ?_
   exact FL.nil ⟨rfl, _, S40, (Inc.rfl _), rfl, rfl, rfl, rfl, rfl⟩
 rintro f34 w33 ⟨H30, S31, i32, k41, k42, k43, k44, k45⟩
 refine FL.v (E.move k45) ?_
 obtain ⟨t51, hqt51, hp⟩ := bnd hp
 refine FL.cut 4 (fun f w => ∃ H : GH, St Ha wa H w [] ∧ Inc H30 H ∧ f 0 = Value.int .i64 a0 ∧ f 1 = Value.string a1 ∧ f 2 = Value.string a2 ∧ f 3 = Value.string a3 ∧ f 23 = Value.bool t51) ?_ ?_
 ·
  clear hp; have hp := hqt51; clear hqt51
  rcases ifB hp with ⟨c57, hp⟩ | ⟨c57, hp⟩
  ·
   refine FL.skip (wF_no rfl rfl rfl c57) rfl ?_
   refine FL.skip (wF_no rfl rfl rfl c57) rfl ?_
   refine FL.skip (wF_no rfl rfl rfl c57) rfl ?_
   obtain rfl := Option.some.inj hp
   refine FL.v (E.pickT rfl c57 rfl) ?_
   exact FL.nil ⟨rfl, _, S31, (Inc.rfl _), k41, k42, k43, k44, rfl⟩
  ·
   refine FL.val (wF_yes rfl rfl rfl c57) rfl rfl (E.move k43) ?_
   obtain ⟨r58, hr59, hp⟩ := bnd hp
   refine FL.call (wF_yes rfl rfl rfl c57) rfl rfl (E.call Tryz.call56 (A1 rfl)) (w_spec_l22Good S31.sl a2 hr59) ?_
   rintro e w60 ⟨rfl, r61⟩
   refine ⟨_, rfl, ?_⟩
   have S62 := S31.call r61
   refine FL.val (wF_yes rfl rfl rfl c57) rfl rfl (E.not rfl) ?_
   obtain rfl := Option.some.inj hp
   refine FL.v (E.pickF rfl c57 rfl) ?_
   exact FL.nil ⟨rfl, _, S62, (Inc.rfl _), k41, k42, k43, k44, rfl⟩
 rintro f56 w55 ⟨H52, S53, i54, k63, k64, k65, k66, k67⟩
 refine FL.v (E.move k67) ?_
 obtain ⟨t73, hqt73, hp⟩ := bnd hp
 refine FL.cut 4 (fun f w => ∃ H : GH, St Ha wa H w [] ∧ Inc H52 H ∧ f 0 = Value.int .i64 a0 ∧ f 1 = Value.string a1 ∧ f 2 = Value.string a2 ∧ f 3 = Value.string a3 ∧ f 28 = Value.bool t73) ?_ ?_
 ·
  clear hp; have hp := hqt73; clear hqt73
  rcases ifB hp with ⟨c79, hp⟩ | ⟨c79, hp⟩
  ·
   refine FL.skip (wF_no rfl rfl rfl c79) rfl ?_
   refine FL.skip (wF_no rfl rfl rfl c79) rfl ?_
   refine FL.skip (wF_no rfl rfl rfl c79) rfl ?_
   obtain rfl := Option.some.inj hp
   refine FL.v (E.pickT rfl c79 rfl) ?_
   exact FL.nil ⟨rfl, _, S53, (Inc.rfl _), k63, k64, k65, k66, rfl⟩
  ·
   refine FL.val (wF_yes rfl rfl rfl c79) rfl rfl (E.move k66) ?_
   obtain ⟨r80, hr81, hp⟩ := bnd hp
   refine FL.call (wF_yes rfl rfl rfl c79) rfl rfl (E.call Tryz.call56 (A1 rfl)) (w_spec_l22Good S53.sl a3 hr81) ?_
   rintro e w82 ⟨rfl, r83⟩
   refine ⟨_, rfl, ?_⟩
   have S84 := S53.call r83
   refine FL.val (wF_yes rfl rfl rfl c79) rfl rfl (E.not rfl) ?_
   obtain rfl := Option.some.inj hp
   refine FL.v (E.pickF rfl c79 rfl) ?_
   exact FL.nil ⟨rfl, _, S84, (Inc.rfl _), k63, k64, k65, k66, rfl⟩
 rintro f78 w77 ⟨H74, S75, i76, k85, k86, k87, k88, k89⟩
 refine FL.nil ?_
 rcases ifB hp with ⟨c90, hp⟩ | ⟨c90, hp⟩
 ·
  refine FW.condT k89 c90 ?_
  refine FW.seq (FW.region ?_)
  refine FL.v (E.assign (v := Value.string (ByteArray.mk #[])) rfl) ?_
  refine FL.v (E.assign (v := Value.bool false) rfl) ?_
  refine FL.nil ?_
  refine FW.ret ?_
  obtain rfl := Option.some.inj hp
  exact ⟨.inr rfl, res2 rfl rfl rfl ⟨rfl, S75.back⟩⟩
 ·
  refine FW.condF k89 c90 ?_
  refine FW.skip (FW.seq (FW.region ?_))
  refine FL.v (E.move k85) ?_
  refine FL.v (E.move k86) ?_
  refine FL.v (E.move k87) ?_
  refine FL.v (E.move k88) ?_
  obtain ⟨r91, hr92, hp⟩ := bnd hp
  refine FL.call rfl rfl rfl (E.call Tryz.call59 (A4 rfl rfl rfl rfl)) (w_spec_l24Case S75.sl a0 a1 a2 a3 hr92) ?_
  rintro e w93 ⟨rfl, r94⟩
  refine ⟨_, rfl, ?_⟩
  have S95 := S75.call r94
  refine FL.v (E.assign (v := Value.string r91) rfl) ?_
  refine FL.nil (FW.seq (FW.seq (FW.region ?_)))
  refine FL.v (E.move (v := Value.string r91) rfl) ?_
  refine FL.v (E.lenS Tryz.runUnderlying9 rfl) ?_
  refine FL.v (E.gtr rfl rfl) ?_
  refine FL.nil ?_
  rcases ifB hp with ⟨c96, hp⟩ | ⟨c96, hp⟩
  ·
   refine FW.condT rfl c96 ?_
   refine FW.seq (FW.region ?_)
   refine FL.v (E.assign (v := Value.string (ByteArray.mk #[])) rfl) ?_
   refine FL.v (E.assign (v := Value.bool false) rfl) ?_
   refine FL.nil ?_
   refine FW.ret ?_
   obtain rfl := Option.some.inj hp
   exact ⟨.inr rfl, res2 rfl rfl rfl ⟨rfl, S95.back⟩⟩
  ·
   refine FW.condF rfl c96 ?_
   refine FW.skip (FW.seq (FW.region ?_))
   refine FL.v (E.move (v := Value.string r91) rfl) ?_
   refine FL.v (E.assign (v := Value.string r91) rfl) ?_
   refine FL.v (E.assign (v := Value.bool true) rfl) ?_
   refine FL.nil ?_
   refine FW.ret ?_
   obtain rfl := Option.some.inj hp
   exact ⟨.inr rfl, res2 rfl rfl rfl ⟨rfl, S95.back⟩⟩

@[reducible] def p_spec_l25Of (Ha : GH) (wa : World) (r : Sequent) : Ending → World → Prop :=
 fun e w' => ∃ H' : GH, ∃ v0_0 : Value, ∃ v0_1 : Value, e = .returned (Value.agg #[v0_0, v0_1]) ∧ Run wa.heap.size Ha wa H' w' ∧ (∃ c0 c1, Nest (up wa.heap.size H') eS 1 v0_0 r.left c0 ∧ Nest (up wa.heap.size H') eS 1 v0_1 r.right c1 ∧ Ap v0_0 c0 v0_1 c1)
theorem w_spec_l25Of {Ha : GH} {wa : World} (hs : Sl Ha wa) (v0 : Value) (a0 : List ByteArray) (p0 : RSl Ha eS 1 v0 a0) (a1 : ByteArray) {r : Sequent} (hp : (PF.spec_l25Of a0 a1) = some r) :
  Calls Tryz.prog 24 #[v0, Value.string a1] wa (p_spec_l25Of Ha wa r) := by
 unfold PF.spec_l25Of at hp
 have S0 := St.init hs
 refine calls_go (N := 11) (args := [v0, Value.string a1]) Tryz.func24 rfl rfl rfl ?_
 refine FW.seq (FW.region ?_)
 obtain ⟨b21, w22, run23, S24⟩ := S0.alloc (P := Tryz.prog) 51 [Value.slice none 0 0, Value.slice none 0 0] Tryz.zeroValue51 rfl (ones_cons rfl (ones_cons rfl ones_nil))
 refine FL.v (E.alloc run23) ?_
 refine FL.nil (FW.seq (FW.region ?_))
 obtain ⟨v25, w26, run27, S28⟩ := S24.buildSlice (P := Tryz.prog) te30 [] (parts := #[]) (cells := []) rfl szs_nil fc_nil ones_nil (Nat.le_of_ble_eq_true rfl)
 have els29 : Els (up wa.heap.size Ha) eS 1 [] [] := Els.nil
 refine FL.v (E.buildSlice (B0) run27) ?_
 refine FL.v (E.move (v := v0) rfl) ?_
 obtain ⟨xs30, hz31, hp⟩ := bnd hp
 obtain ⟨v32, w35, n33, cs34, run36, S37, els38⟩ := S28.appendP (P := Tryz.prog) (Inc.rfl _) te30 (i := 0) rfl (els29.mono upI) p0 hz31
 have S37 : St Ha wa Ha w35 [.row 9 1 v32 n33 cs34, .box b21 51 [Value.slice none 0 0, Value.slice none 0 0]] := S37
 have els38 : Els (up wa.heap.size Ha) eS 1 cs34 xs30 := els38.any (fun _ _ _ _ h => h)
 refine FL.v (E.append rfl rfl run36) ?_
 refine FL.v (E.move (v := Value.string a1) rfl) ?_
 obtain ⟨v40, w41, run42, S43⟩ := S37.buildSlice (P := Tryz.prog) te30 [Value.string a1] (parts := #[(0, Value.string a1)]) (cells := [Value.string a1]) rfl (szs_cons rfl szs_nil) (fc_cons rfl fc_nil) (ones_cons rfl ones_nil) (Nat.le_of_ble_eq_true rfl)
 have els44 : Els (up wa.heap.size Ha) eS 1 [Value.string a1] [a1] := (Els.snoc (H := (up wa.heap.size Ha)) (E := eS) (k := 1) (c := [Value.string a1]) (x := a1) Els.nil rfl rfl)
 refine FL.v (E.buildSlice (B1 rfl) run42) ?_
 refine FL.v (E.build (B2 rfl rfl) (run_build _ 51 #[(0, v32), (1, v40)] #[v32, v40] (by obtain ⟨_, _, rfl⟩ := S43.row_ln (i := 1) rfl; obtain ⟨_, _, rfl⟩ := S43.row_ln (i := 0) rfl; rfl))) ?_
 obtain ⟨w45, run46, S47⟩ := S43.store0 (P := Tryz.prog) (t := 51) (i := 2) (cs' := [v32, v40]) (l' := [.row 9 1 v40 1 [Value.string a1], .row 9 1 v32 n33 cs34, .box b21 51 [v32, v40]]) (v := Value.agg #[v32, v40]) (c := [v32, v40]) rfl Tryz.sizeOf51 rfl rfl (ones_cons (Ln.one (S43.row_ln (i := 1) rfl)) (ones_cons (Ln.one (S43.row_ln (i := 0) rfl)) ones_nil)) (Nat.le_of_ble_eq_true rfl) rfl rfl
 refine FL.act rfl rfl (E.store rfl rfl run46) ?_
 obtain ⟨H48, S49, i50, h51, nv52⟩ := S47.sealRowU (i := 1) (l' := [.row 9 1 v40 1 [Value.string a1], .box b21 51 [v32, v40]]) rfl els38 (by decide) rfl
 obtain ⟨H53, S54, i55, h56, nv57⟩ := S49.sealRowU (i := 0) (l' := [.box b21 51 [v32, v40]]) rfl (els44.mono (up_mono i50)) (by decide) rfl
 obtain ⟨H58, S59, i60, at61⟩ := S54.sealBox (i := 0) (l' := []) rfl rfl
 refine FL.nil ?_
 refine FW.ret ?_
 obtain rfl := Option.some.inj hp
 exact ⟨.inr rfl, resC rfl rfl (loadVar_A Tryz.isAgg51 Tryz.sizeOf51 (at61.now S59.sl) rfl) ⟨_, _, _, rfl, S59.run, (Ap.flat2 (h51.mono (up_mono (i55.tr i60))) eS_flat (by decide) (h56.mono (up_mono i60)) eS_flat (by decide) (New.apart (h51.mono (up_mono (Inc.rfl _))) nv57))⟩⟩

theorem w_spec_l22Before {Ha : GH} {wa : World} (hs : Sl Ha wa) (a0 : ByteArray) (a1 : ByteArray) :
  Calls Tryz.prog 126 #[Value.string a0, Value.string a1] wa (Sc Ha wa (Value.bool (PF.spec_l22Before a0 a1))) := by
 obtain ⟨r, hp⟩ : ∃ r, (PF.spec_l22Before a0 a1) = r := ⟨_, rfl⟩
 rw [hp]
 unfold PF.spec_l22Before at hp
 have S0 := St.init hs
 refine calls_go (N := 18) (args := [Value.string a0, Value.string a1]) Tryz.func126 rfl rfl rfl ?_
 refine FW.seq (FW.region ?_)
 refine FL.v (E.assign (v := Value.bool false) rfl) ?_
 refine FL.nil (FW.seq (FW.seq (FW.region ?_)))
 refine FL.v (E.move (v := Value.string a0) rfl) ?_
 refine FL.v (E.lenS Tryz.runUnderlying9 rfl) ?_
 refine FL.v (E.move (v := Value.string a1) rfl) ?_
 refine FL.v (E.lenS Tryz.runUnderlying9 rfl) ?_
 refine FL.v (E.neq rfl rfl) ?_
 refine FL.nil ?_
 rcases ifT hp with ⟨c21, hp⟩ | ⟨c21, hp⟩
 ·
  refine FW.condT rfl c21 ?_
  refine FW.seq (FW.region ?_)
  refine FL.v (E.move (v := Value.string a0) rfl) ?_
  refine FL.v (E.lenS Tryz.runUnderlying9 rfl) ?_
  refine FL.v (E.move (v := Value.string a1) rfl) ?_
  refine FL.v (E.lenS Tryz.runUnderlying9 rfl) ?_
  refine FL.v (E.lss rfl rfl) ?_
  refine FL.v (E.assign (v := Value.bool (decide ((a0.size : Int) < (a1.size : Int)))) rfl) ?_
  refine FL.nil ?_
  refine FW.ret ?_
  obtain rfl := hp
  exact ⟨.inr rfl, res1 rfl rfl ⟨rfl, S0.back⟩⟩
 ·
  refine FW.condF rfl c21 ?_
  refine FW.skip (FW.seq (FW.region ?_))
  refine FL.v (E.move (v := Value.string a0) rfl) ?_
  refine FL.v (E.move (v := Value.string a1) rfl) ?_
  refine FL.v (E.lssS rfl rfl) ?_
  refine FL.v (E.assign (v := Value.bool (ltS a0 a1)) rfl) ?_
  refine FL.nil ?_
  refine FW.ret ?_
  obtain rfl := hp
  exact ⟨.inr rfl, res1 rfl rfl ⟨rfl, S0.back⟩⟩

set_option maxHeartbeats 4000000 in
theorem w_spec_l23Side {Ha : GH} {wa : World} (hs : Sl Ha wa) (v0 : Value) (a0 : List ByteArray) (p0 : RSl Ha eS 1 v0 a0) {r : Bool} (hp : (PF.spec_l23Side a0) = some r) :
  Calls Tryz.prog 87 #[v0] wa (Sc Ha wa (Value.bool r)) := by
 unfold PF.spec_l23Side at hp
 have S0 := St.init hs
 refine calls_go (N := 36) (args := [v0]) Tryz.func87 rfl rfl rfl ?_
 refine FW.seq (FW.region ?_)
 refine FL.v (E.assign (v := Value.bool false) rfl) ?_
 refine FL.nil (FW.seq (FW.seq (FW.region ?_)))
 refine FL.v (E.move (v := v0) rfl) ?_
 refine FL.v (E.lenP te30 rfl p0) ?_
 refine FL.v (E.gtr rfl rfl) ?_
 refine FL.nil ?_
 rcases ifB hp with ⟨c21, hp⟩ | ⟨c21, hp⟩
 ·
  refine FW.condT rfl c21 ?_
  refine FW.seq (FW.region ?_)
  refine FL.v (E.assign (v := Value.bool false) rfl) ?_
  refine FL.nil ?_
  refine FW.ret ?_
  obtain rfl := Option.some.inj hp
  exact ⟨.inr rfl, res1 rfl rfl ⟨rfl, S0.back⟩⟩
 ·
  refine FW.condF rfl c21 ?_
  refine FW.skip (FW.seq (FW.seq (FW.region ?_)))
  refine FL.v (E.assign (v := Value.int .i64 0) rfl) ?_
  refine FL.nil ?_
  obtain ⟨q23, hq, hp⟩ := bndR hp
  refine FW.block ?_
  refine FW.mono (FW.forL (S := Unit) (X := Bool) (fun (i23 : Nat) (s23 : Unit) f w => ∃ H : GH, St Ha wa H w [] ∧ Inc Ha H ∧ f 3 = Value.int .i64 ((i23 : Nat) : Int) ∧ f 0 = v0) (fun q e f w => match q with | .go s23 => e = Exit.exit 0 ∧ (∃ H : GH, St Ha wa H w [] ∧ Inc Ha H) | .rt x => ((e = Exit.ret) ∧ (fun e f w => (e = Exit.normal ∨ e = Exit.ret) ∧ ∀ a, Fr (δ := []) 36 a f → ∃ v, (results Tryz.f87 a.tmps).run Tryz.prog w = .ok v w ∧ (Sc Ha wa (Value.bool x)) (.returned v) w) e f w)) hq ⟨_, S0, (Inc.rfl _), rfl, rfl⟩ ?_ ?_) ?_
  ·
   clear hp hq
   rintro i23 y22 s23 f136 w135 ⟨H132, S133, i134, k137, k138⟩ hx23 o240 hp
   refine FW.seq (FW.seq (FW.region ?_))
   refine FL.v (E.move k137) ?_
   refine FL.v (E.move k138) ?_
   refine FL.v (E.lenP te30 rfl p0) ?_
   refine FL.v (E.lssT rfl rfl (lss_len hx23)) ?_
   refine FL.nil ?_
   refine FW.condT rfl rfl ?_
   refine FW.skip (FW.seq (FW.block (FW.seq ?_)))
   refine FW.draw (fun w' => Run w135.heap.size H132 w135 H132 w') (by kernel_rfl) (by kernel_rfl) (run_drew S133.sl) ?_
   refine FD.val rfl rfl rfl (fun w' hw' => (E.move k138)) ?_
   refine FD.val rfl rfl rfl (fun w' hw' => (E.move k137)) ?_
   obtain ⟨p140, cs141, pt142, l143, at144, rel145⟩ := p0.at (ix_nat hx23)
   obtain rfl := eS_open rel145
   refine FD.val rfl rfl rfl (fun w' hw' => (E.indexAddr te30 rfl rfl pt142)) ?_
   refine FD.val rfl rfl rfl (fun w' hw' => (E.load rfl (run_load0 Tryz.isAgg9 ((at144.mono i134).now (S133.call hw').sl) rfl))) ?_
   obtain ⟨r146, hr147, hp⟩ := bnd hp
   refine FD.call rfl rfl rfl (fun w' hw' => (E.call Tryz.call56 (A1 rfl))) (fun w' hw' => Calls.cls hw' (w_spec_l22Good (S133.call hw').sl y22 hr147)) ?_
   refine FD.val rfl rfl rfl (fun w' hw' => (E.not rfl)) ?_
   refine FD.val rfl rfl rfl (fun w' hw' => (E.move (v := Value.bool (!r146)) rfl)) ?_
   obtain ⟨t187, hqt187, hp⟩ := bnd hp
   refine FD.cut 16 (fun f => f 0 = v0 ∧ f 3 = Value.int .i64 ((i23 : Nat) : Int) ∧ f 35 = Value.bool t187) ?_ ?_
   ·
    clear hp; have hp := hqt187; clear hqt187
    rcases ifB hp with ⟨c193, hp⟩ | ⟨c193, hp⟩
    ·
     refine FD.skip (wF_no rfl rfl rfl c193) rfl ?_
     refine FD.skip (wF_no rfl rfl rfl c193) rfl ?_
     refine FD.skip (wF_no rfl rfl rfl c193) rfl ?_
     refine FD.skip (wF_undef rfl rfl rfl) rfl ?_
     refine FD.skip (wF_undef rfl rfl rfl) rfl ?_
     refine FD.skip (wF_undef rfl rfl rfl) rfl ?_
     refine FD.skip (wF_undef rfl rfl rfl) rfl ?_
     refine FD.skip (wF_undef rfl rfl rfl) rfl ?_
     refine FD.skip (wF_undef rfl rfl rfl) rfl ?_
     refine FD.skip (wF_undef rfl rfl rfl) rfl ?_
     refine FD.skip (wF_undef rfl rfl rfl) rfl ?_
     refine FD.skip (wF_undef rfl rfl rfl) rfl ?_
     refine FD.skip (wF_undef rfl rfl rfl) rfl ?_
     refine FD.skip (wF_undef rfl rfl rfl) rfl ?_
     refine FD.skip (wF_no rfl rfl rfl c193) rfl ?_
     obtain rfl := Option.some.inj hp
     refine FD.val rfl rfl rfl (fun w' hw' => (E.pickT rfl c193 rfl)) ?_
     exact FD.nil ⟨k138, k137, rfl⟩
    ·
     refine FD.val (wF_yes rfl rfl rfl c193) rfl rfl (fun w' hw' => (E.move k137)) ?_
     refine FD.val (wF_yes rfl rfl rfl c193) rfl rfl (fun w' hw' => (E.gtr rfl rfl)) ?_
     refine FD.val (wF_yes rfl rfl rfl c193) rfl rfl (fun w' hw' => (E.move (v := Value.bool (decide (0 < ((i23 : Nat) : Int)))) rfl)) ?_
     obtain ⟨t208, hqt208, hp⟩ := bnd hp
     refine FD.cut 12 (fun f => f 0 = v0 ∧ f 3 = Value.int .i64 ((i23 : Nat) : Int) ∧ f 19 = Value.bool (!r146) ∧ f 34 = Value.bool t208) ?_ ?_
     ·
      clear hp; have hp := hqt208; clear hqt208
      rcases ifB hp with ⟨c214, hp⟩ | ⟨c214, hp⟩
      ·
       refine FD.val (wF_yes rfl rfl rfl c214) rfl rfl (fun w' hw' => (E.move k138)) ?_
       refine FD.val (wF_yes rfl rfl rfl c214) rfl rfl (fun w' hw' => (E.move k137)) ?_
       refine FD.val (wF_yes rfl rfl rfl c214) rfl rfl (fun w' hw' => (E.sub rfl rfl)) ?_
       obtain ⟨x221, hx222, hp⟩ := bnd hp
       obtain ⟨p215, cs216, pt217, l218, at219, rel220⟩ := p0.at hx222
       obtain rfl := eS_open rel220
       refine FD.val (wF_yes rfl rfl rfl c214) rfl rfl (fun w' hw' => (E.indexAddr te30 rfl rfl pt217)) ?_
       refine FD.val (wF_yes rfl rfl rfl c214) rfl rfl (fun w' hw' => (E.load rfl (run_load0 Tryz.isAgg9 ((at219.mono i134).now (S133.call hw').sl) rfl))) ?_
       refine FD.val (wF_yes rfl rfl rfl c214) rfl rfl (fun w' hw' => (E.move k138)) ?_
       refine FD.val (wF_yes rfl rfl rfl c214) rfl rfl (fun w' hw' => (E.move k137)) ?_
       obtain ⟨p223, cs224, pt225, l226, at227, rel228⟩ := p0.at (ix_nat hx23)
       obtain rfl := eS_open rel228
       refine FD.val (wF_yes rfl rfl rfl c214) rfl rfl (fun w' hw' => (E.indexAddr te30 rfl rfl pt225)) ?_
       refine FD.val (wF_yes rfl rfl rfl c214) rfl rfl (fun w' hw' => (E.load rfl (run_load0 Tryz.isAgg9 ((at227.mono i134).now (S133.call hw').sl) rfl))) ?_
       refine FD.call (wF_yes rfl rfl rfl c214) rfl rfl (fun w' hw' => (E.call Tryz.call126 (A2 rfl rfl))) (fun w' hw' => Calls.cls hw' (w_spec_l22Before (S133.call hw').sl x221 y22)) ?_
       refine FD.val (wF_yes rfl rfl rfl c214) rfl rfl (fun w' hw' => (E.not rfl)) ?_
       obtain rfl := Option.some.inj hp
       refine FD.val (wF_yes rfl rfl rfl c193) rfl rfl (fun w' hw' => (E.pickT rfl c214 rfl)) ?_
       exact FD.nil ⟨k138, k137, rfl, rfl⟩
      ·
       refine FD.skip (wF_no rfl rfl rfl c214) rfl ?_
       refine FD.skip (wF_no rfl rfl rfl c214) rfl ?_
       refine FD.skip (wF_no rfl rfl rfl c214) rfl ?_
       refine FD.skip (wF_no rfl rfl rfl c214) rfl ?_
       refine FD.skip (wF_no rfl rfl rfl c214) rfl ?_
       refine FD.skip (wF_no rfl rfl rfl c214) rfl ?_
       refine FD.skip (wF_no rfl rfl rfl c214) rfl ?_
       refine FD.skip (wF_no rfl rfl rfl c214) rfl ?_
       refine FD.skip (wF_no rfl rfl rfl c214) rfl ?_
       refine FD.skip (wF_no rfl rfl rfl c214) rfl ?_
       refine FD.skip (wF_no rfl rfl rfl c214) rfl ?_
       obtain rfl := Option.some.inj hp
       refine FD.val (wF_yes rfl rfl rfl c193) rfl rfl (fun w' hw' => (E.pickF rfl c214 rfl)) ?_
       exact FD.nil ⟨k138, k137, rfl, rfl⟩
     rintro f213 ⟨k229, k230, k231, k232⟩
     obtain rfl := Option.some.inj hp
     refine FD.val rfl rfl rfl (fun w' hw' => (E.pickF k231 c193 k232)) ?_
     exact FD.nil ⟨k229, k230, rfl⟩
   rintro f192 ⟨k233, k234, k235⟩
   refine FD.nil ?_
   intro w236 r238
   have S237 := S133.call r238
   rcases ifB hp with ⟨c239, hp⟩ | ⟨c239, hp⟩
   ·
    refine FW.condT k235 c239 ?_
    refine FW.seq (FW.region ?_)
    refine FL.v (E.assign (v := Value.bool false) rfl) ?_
    refine FL.nil ?_
    refine FW.ret ?_
    obtain rfl := Option.some.inj hp
    exact ⟨nofun, rfl, ⟨.inr rfl, res1 rfl rfl ⟨rfl, S237.back⟩⟩⟩
   ·
    refine FW.condF k235 c239 ?_
    refine FW.skip (FW.region ?_)
    refine FL.v (E.move k234) ?_
    refine FL.v (E.add rfl rfl) ?_
    refine FL.v (E.assign (v := Value.int .i64 (wr (((i23 : Nat) : Int) + 1))) rfl) ?_
    refine FL.nil ?_
    obtain rfl := Option.some.inj hp
    exact ⟨rfl, ⟨_, S237, i134, (nat_succ rfl (lt_of_get hx23) (p0.mono i134).le), k233⟩⟩
  ·
   clear hp hq
   rintro s23 f250 w249 ⟨H246, S247, i248, k251, k252⟩
   refine FW.seq (FW.seq (FW.region ?_))
   refine FL.v (E.move k251) ?_
   refine FL.v (E.move k252) ?_
   refine FL.v (E.lenP te30 rfl p0) ?_
   refine FL.v (E.lss rfl rfl) ?_
   refine FL.nil ?_
   refine FW.condF rfl dlt_len ?_
   refine FW.exit ?_
   exact ⟨nofun, rfl, ⟨_, S247, i248⟩⟩
  ·
   clear hq
   intro e f245 w244 hD
   rcases q23 with s23 | x23
   ·
    obtain ⟨rfl, hD⟩ := hD
    obtain ⟨H241, S242, i243⟩ := hD
    replace hp := el_go hp
    refine FW.seq (FW.region ?_)
    refine FL.v (E.assign (v := Value.bool true) rfl) ?_
    refine FL.nil ?_
    refine FW.ret ?_
    obtain rfl := Option.some.inj hp
    exact ⟨.inr rfl, res1 rfl rfl ⟨rfl, S242.back⟩⟩
   ·
    obtain ⟨he, hL⟩ := hD
    replace hp := el_rt hp
    obtain rfl := Option.some.inj hp
    subst he
    exact hL

theorem w_spec_l23Good {Ha : GH} {wa : World} (hs : Sl Ha wa) (a0 : Sequent) (v0_0 : Value) (p0_0 : RSl Ha eS 1 v0_0 a0.left) (v0_1 : Value) (p0_1 : RSl Ha eS 1 v0_1 a0.right) {r : Bool} (hp : (PF.spec_l23Good a0) = some r) :
  Calls Tryz.prog 60 #[Value.agg #[v0_0, v0_1]] wa (Sc Ha wa (Value.bool r)) := by
 unfold PF.spec_l23Good at hp
 have S0 := St.init hs
 refine calls_go (N := 11) (args := [Value.agg #[v0_0, v0_1]]) Tryz.func60 rfl rfl rfl ?_
 refine FW.seq (FW.region ?_)
 obtain ⟨b21, w22, run23, S24⟩ := S0.box (P := Tryz.prog) 51 [v0_0, v0_1] (v := Value.agg #[v0_0, v0_1]) rfl (ones_cons p0_0.one (ones_cons p0_1.one ones_nil))
 refine FL.v (E.box rfl run23) ?_
 obtain ⟨H25, S26, i27, at28⟩ := S24.sealBox (i := 0) (l' := []) rfl rfl
 refine FL.v (E.assign (v := Value.bool false) rfl) ?_
 refine FL.nil (FW.seq (FW.region ?_))
 refine FL.v (E.fieldAddr tf51_0 rfl) ?_
 refine FL.v (E.load rfl (run_load1 Tryz.isAgg30 (at28.now S26.sl) rfl)) ?_
 obtain ⟨r29, hr30, hp⟩ := bnd hp
 refine FL.call rfl rfl rfl (E.call Tryz.call87 (A1 rfl)) (w_spec_l23Side S26.sl v0_0 a0.left (p0_0.mono i27) hr30) ?_
 rintro e w31 ⟨rfl, r32⟩
 refine ⟨_, rfl, ?_⟩
 have S33 := S26.call r32
 refine FL.v (E.move (v := Value.bool r29) rfl) ?_
 obtain ⟨t39, hqt39, hp⟩ := bnd hp
 refine FL.cut 4 (fun f w => ∃ H : GH, St Ha wa H w [] ∧ Inc H25 H ∧ f 10 = Value.bool t39) ?_ ?_
 ·
  clear hp; have hp := hqt39; clear hqt39
  rcases ifB hp with ⟨c45, hp⟩ | ⟨c45, hp⟩
  ·
   refine FL.val (wF_yes rfl rfl rfl c45) rfl rfl (E.fieldAddr tf51_1 rfl) ?_
   refine FL.val (wF_yes rfl rfl rfl c45) rfl rfl (E.load rfl (run_load1 Tryz.isAgg30 (at28.now S33.sl) rfl)) ?_
   obtain ⟨r46, hr47, hp⟩ := bnd hp
   refine FL.call (wF_yes rfl rfl rfl c45) rfl rfl (E.call Tryz.call87 (A1 rfl)) (w_spec_l23Side S33.sl v0_1 a0.right (p0_1.mono i27) hr47) ?_
   rintro e w48 ⟨rfl, r49⟩
   refine ⟨_, rfl, ?_⟩
   have S50 := S33.call r49
   obtain rfl := Option.some.inj hp
   refine FL.v (E.pickT rfl c45 rfl) ?_
   exact FL.nil ⟨rfl, _, S50, (Inc.rfl _), rfl⟩
  ·
   refine FL.skip (wF_no rfl rfl rfl c45) rfl ?_
   refine FL.skip (wF_no rfl rfl rfl c45) rfl ?_
   refine FL.skip (wF_no rfl rfl rfl c45) rfl ?_
   obtain rfl := Option.some.inj hp
   refine FL.v (E.pickF rfl c45 rfl) ?_
   exact FL.nil ⟨rfl, _, S33, (Inc.rfl _), rfl⟩
 rintro f44 w43 ⟨H40, S41, i42, k51⟩
 refine FL.v (E.assign k51) ?_
 refine FL.nil ?_
 refine FW.ret ?_
 obtain rfl := Option.some.inj hp
 exact ⟨.inr rfl, res1 rfl rfl ⟨rfl, S41.back⟩⟩

theorem w_spec_l23Has {Ha : GH} {wa : World} (hs : Sl Ha wa) (v0 : Value) (a0 : List ByteArray) (p0 : RSl Ha eS 1 v0 a0) (a1 : ByteArray) {r : Bool} (hp : (PF.spec_l23Has a0 a1) = some r) :
  Calls Tryz.prog 127 #[v0, Value.string a1] wa (Sc Ha wa (Value.bool r)) := by
 unfold PF.spec_l23Has at hp
 have S0 := St.init hs
 refine calls_go (N := 18) (args := [v0, Value.string a1]) Tryz.func127 rfl rfl rfl ?_
 refine FW.seq (FW.region ?_)
 refine FL.v (E.assign (v := Value.bool false) rfl) ?_
 refine FL.nil (FW.seq (FW.seq (FW.region ?_)))
 refine FL.v (E.assign (v := Value.int .i64 0) rfl) ?_
 refine FL.nil ?_
 obtain ⟨q22, hq, hp⟩ := bndR hp
 refine FW.block ?_
 refine FW.mono (FW.forL (S := Unit) (X := Bool) (fun (i22 : Nat) (s22 : Unit) f w => ∃ H : GH, St Ha wa H w [] ∧ Inc Ha H ∧ f 5 = Value.int .i64 ((i22 : Nat) : Int) ∧ f 0 = v0 ∧ f 1 = Value.string a1) (fun q e f w => match q with | .go s22 => e = Exit.exit 0 ∧ (∃ H : GH, St Ha wa H w [] ∧ Inc Ha H) | .rt x => ((e = Exit.ret) ∧ (fun e f w => (e = Exit.normal ∨ e = Exit.ret) ∧ ∀ a, Fr (δ := []) 18 a f → ∃ v, (results Tryz.f127 a.tmps).run Tryz.prog w = .ok v w ∧ (Sc Ha wa (Value.bool x)) (.returned v) w) e f w)) hq ⟨_, S0, (Inc.rfl _), rfl, rfl, rfl⟩ ?_ ?_) ?_
 ·
  clear hp hq
  rintro i22 y21 s22 f42 w41 ⟨H38, S39, i40, k43, k44, k45⟩ hx22 o53 hp
  refine FW.seq (FW.seq (FW.region ?_))
  refine FL.v (E.move k43) ?_
  refine FL.v (E.move k44) ?_
  refine FL.v (E.lenP te30 rfl p0) ?_
  refine FL.v (E.lssT rfl rfl (lss_len hx22)) ?_
  refine FL.nil ?_
  refine FW.condT rfl rfl ?_
  refine FW.skip (FW.seq (FW.block (FW.seq (FW.region ?_))))
  refine FL.v (E.move k44) ?_
  refine FL.v (E.move k43) ?_
  obtain ⟨p46, cs47, pt48, l49, at50, rel51⟩ := p0.at (ix_nat hx22)
  obtain rfl := eS_open rel51
  refine FL.v (E.indexAddr te30 rfl rfl pt48) ?_
  refine FL.v (E.load rfl (run_load0 Tryz.isAgg9 ((at50.mono i40).now S39.sl) rfl)) ?_
  refine FL.v (E.move k45) ?_
  refine FL.v (E.eqlS rfl rfl) ?_
  refine FL.nil ?_
  rcases ifB hp with ⟨c52, hp⟩ | ⟨c52, hp⟩
  ·
   refine FW.condT rfl c52 ?_
   refine FW.seq (FW.region ?_)
   refine FL.v (E.assign (v := Value.bool true) rfl) ?_
   refine FL.nil ?_
   refine FW.ret ?_
   obtain rfl := Option.some.inj hp
   exact ⟨nofun, rfl, ⟨.inr rfl, res1 rfl rfl ⟨rfl, S39.back⟩⟩⟩
  ·
   refine FW.condF rfl c52 ?_
   refine FW.skip (FW.region ?_)
   refine FL.v (E.move k43) ?_
   refine FL.v (E.add rfl rfl) ?_
   refine FL.v (E.assign (v := Value.int .i64 (wr (((i22 : Nat) : Int) + 1))) rfl) ?_
   refine FL.nil ?_
   obtain rfl := Option.some.inj hp
   exact ⟨rfl, ⟨_, S39, i40, (nat_succ rfl (lt_of_get hx22) (p0.mono i40).le), k44, k45⟩⟩
 ·
  clear hp hq
  rintro s22 f63 w62 ⟨H59, S60, i61, k64, k65, k66⟩
  refine FW.seq (FW.seq (FW.region ?_))
  refine FL.v (E.move k64) ?_
  refine FL.v (E.move k65) ?_
  refine FL.v (E.lenP te30 rfl p0) ?_
  refine FL.v (E.lss rfl rfl) ?_
  refine FL.nil ?_
  refine FW.condF rfl dlt_len ?_
  refine FW.exit ?_
  exact ⟨nofun, rfl, ⟨_, S60, i61⟩⟩
 ·
  clear hq
  intro e f58 w57 hD
  rcases q22 with s22 | x22
  ·
   obtain ⟨rfl, hD⟩ := hD
   obtain ⟨H54, S55, i56⟩ := hD
   replace hp := el_go hp
   refine FW.seq (FW.region ?_)
   refine FL.v (E.assign (v := Value.bool false) rfl) ?_
   refine FL.nil ?_
   refine FW.ret ?_
   obtain rfl := Option.some.inj hp
   exact ⟨.inr rfl, res1 rfl rfl ⟨rfl, S55.back⟩⟩
  ·
   obtain ⟨he, hL⟩ := hD
   replace hp := el_rt hp
   obtain rfl := Option.some.inj hp
   subst he
   exact hL

set_option maxHeartbeats 4000000 in
theorem w_spec_l23Axiom {Ha : GH} {wa : World} (hs : Sl Ha wa) (a0 : Sequent) (v0_0 : Value) (p0_0 : RSl Ha eS 1 v0_0 a0.left) (v0_1 : Value) (p0_1 : RSl Ha eS 1 v0_1 a0.right) {r : Bool} (hp : (PF.spec_l23Axiom a0) = some r) :
  Calls Tryz.prog 88 #[Value.agg #[v0_0, v0_1]] wa (Sc Ha wa (Value.bool r)) := by
 unfold PF.spec_l23Axiom at hp
 have S0 := St.init hs
 refine calls_go (N := 30) (args := [Value.agg #[v0_0, v0_1]]) Tryz.func88 rfl rfl rfl ?_
 refine FW.seq (FW.region ?_)
 obtain ⟨b21, w22, run23, S24⟩ := S0.box (P := Tryz.prog) 51 [v0_0, v0_1] (v := Value.agg #[v0_0, v0_1]) rfl (ones_cons p0_0.one (ones_cons p0_1.one ones_nil))
 refine FL.v (E.box rfl run23) ?_
 obtain ⟨H25, S26, i27, at28⟩ := S24.sealBox (i := 0) (l' := []) rfl rfl
 refine FL.v (E.assign (v := Value.bool false) rfl) ?_
 refine FL.nil (FW.seq (FW.seq (FW.region ?_)))
 refine FL.v (E.assign (v := Value.int .i64 0) rfl) ?_
 refine FL.nil ?_
 obtain ⟨q29, hq, hp⟩ := bndR hp
 refine FW.block ?_
 refine FW.mono (FW.iter (S := Int) (X := Bool) (fun (s29 : Int) f w => ∃ H : GH, St Ha wa H w [] ∧ Inc H25 H ∧ f 1 = Value.pointer (some ⟨b21, 0, none⟩) ∧ f 3 = Value.int .i64 s29) (fun q e f w => match q with | .go s29 => e = Exit.exit 0 ∧ (∃ H : GH, St Ha wa H w [] ∧ Inc H25 H ∧ f 1 = Value.pointer (some ⟨b21, 0, none⟩)) | .rt x => ((e = Exit.ret) ∧ (fun e f w => (e = Exit.normal ∨ e = Exit.ret) ∧ ∀ a, Fr (δ := []) 30 a f → ∃ v, (results Tryz.f88 a.tmps).run Tryz.prog w = .ok v w ∧ (Sc Ha wa (Value.bool x)) (.returned v) w) e f w)) hq ⟨_, S26, (Inc.rfl _), rfl, rfl⟩ ?_) ?_
 ·
  clear hp hq
  rintro s29 f85 w84 ⟨H81, S82, i83, k86, k87⟩ o132 hp
  refine FW.seq (FW.seq (FW.region ?_))
  refine FL.v (E.move k87) ?_
  refine FL.v (E.fieldAddr tf51_0 k86) ?_
  refine FL.v (E.load rfl (run_load1 Tryz.isAgg30 ((at28.mono i83).now S82.sl) rfl)) ?_
  refine FL.v (E.lenP te30 rfl p0_0) ?_
  refine FL.v (E.lss rfl rfl) ?_
  refine FL.nil ?_
  rcases ifB hp with ⟨c88, hp⟩ | ⟨c88, hp⟩
  ·
   refine FW.condT rfl c88 ?_
   refine FW.skip (FW.seq (FW.block (FW.seq ?_)))
   refine FW.draw (fun w' => Run w84.heap.size H81 w84 H81 w') (by kernel_rfl) (by kernel_rfl) (run_drew S82.sl) ?_
   refine FD.val rfl rfl rfl (fun w' hw' => (E.fieldAddr tf51_0 k86)) ?_
   refine FD.val rfl rfl rfl (fun w' hw' => (E.load rfl (run_load1 Tryz.isAgg30 ((at28.mono i83).now (S82.call hw').sl) rfl))) ?_
   refine FD.val rfl rfl rfl (fun w' hw' => (E.move k87)) ?_
   obtain ⟨x96, hx97, hp⟩ := bnd hp
   obtain ⟨p90, cs91, pt92, l93, at94, rel95⟩ := p0_0.at hx97
   obtain rfl := eS_open rel95
   refine FD.val rfl rfl rfl (fun w' hw' => (E.indexAddr te30 rfl rfl pt92)) ?_
   refine FD.val rfl rfl rfl (fun w' hw' => (E.load rfl (run_load0 Tryz.isAgg9 ((at94.mono (i27.tr i83)).now (S82.call hw').sl) rfl))) ?_
   refine FD.val rfl rfl rfl (fun w' hw' => (E.eqlS rfl rfl)) ?_
   refine FD.val rfl rfl rfl (fun w' hw' => (E.move (v := Value.bool (x96.toList == (ByteArray.mk #[48]).toList)) rfl)) ?_
   obtain ⟨t108, hqt108, hp⟩ := bnd hp
   refine FD.cut 9 (fun f => f 1 = Value.pointer (some ⟨b21, 0, none⟩) ∧ f 3 = Value.int .i64 s29 ∧ f 26 = Value.bool t108) ?_ ?_
   ·
    clear hp; have hp := hqt108; clear hqt108
    rcases ifB hp with ⟨c114, hp⟩ | ⟨c114, hp⟩
    ·
     refine FD.skip (wF_no rfl rfl rfl c114) rfl ?_
     refine FD.skip (wF_no rfl rfl rfl c114) rfl ?_
     refine FD.skip (wF_no rfl rfl rfl c114) rfl ?_
     refine FD.skip (wF_no rfl rfl rfl c114) rfl ?_
     refine FD.skip (wF_no rfl rfl rfl c114) rfl ?_
     refine FD.skip (wF_no rfl rfl rfl c114) rfl ?_
     refine FD.skip (wF_no rfl rfl rfl c114) rfl ?_
     refine FD.skip (wF_no rfl rfl rfl c114) rfl ?_
     obtain rfl := Option.some.inj hp
     refine FD.val rfl rfl rfl (fun w' hw' => (E.pickT rfl c114 rfl)) ?_
     exact FD.nil ⟨k86, k87, rfl⟩
    ·
     refine FD.val (wF_yes rfl rfl rfl c114) rfl rfl (fun w' hw' => (E.fieldAddr tf51_1 k86)) ?_
     refine FD.val (wF_yes rfl rfl rfl c114) rfl rfl (fun w' hw' => (E.load rfl (run_load1 Tryz.isAgg30 ((at28.mono i83).now (S82.call hw').sl) rfl))) ?_
     refine FD.val (wF_yes rfl rfl rfl c114) rfl rfl (fun w' hw' => (E.fieldAddr tf51_0 k86)) ?_
     refine FD.val (wF_yes rfl rfl rfl c114) rfl rfl (fun w' hw' => (E.load rfl (run_load1 Tryz.isAgg30 ((at28.mono i83).now (S82.call hw').sl) rfl))) ?_
     refine FD.val (wF_yes rfl rfl rfl c114) rfl rfl (fun w' hw' => (E.move k87)) ?_
     obtain ⟨x121, hx122, hp⟩ := bnd hp
     obtain ⟨p115, cs116, pt117, l118, at119, rel120⟩ := p0_0.at hx122
     obtain rfl := eS_open rel120
     refine FD.val (wF_yes rfl rfl rfl c114) rfl rfl (fun w' hw' => (E.indexAddr te30 rfl rfl pt117)) ?_
     refine FD.val (wF_yes rfl rfl rfl c114) rfl rfl (fun w' hw' => (E.load rfl (run_load0 Tryz.isAgg9 ((at119.mono (i27.tr i83)).now (S82.call hw').sl) rfl))) ?_
     obtain ⟨r123, hr124, hp⟩ := bnd hp
     refine FD.call (wF_yes rfl rfl rfl c114) rfl rfl (fun w' hw' => (E.call Tryz.call127 (A2 rfl rfl))) (fun w' hw' => Calls.cls hw' (w_spec_l23Has (S82.call hw').sl v0_1 a0.right (p0_1.mono (i27.tr i83)) x121 hr124)) ?_
     obtain rfl := Option.some.inj hp
     refine FD.val rfl rfl rfl (fun w' hw' => (E.pickF rfl c114 rfl)) ?_
     exact FD.nil ⟨k86, k87, rfl⟩
   rintro f113 ⟨k125, k126, k127⟩
   refine FD.nil ?_
   intro w128 r130
   have S129 := S82.call r130
   rcases ifB hp with ⟨c131, hp⟩ | ⟨c131, hp⟩
   ·
    refine FW.condT k127 c131 ?_
    refine FW.seq (FW.region ?_)
    refine FL.v (E.assign (v := Value.bool true) rfl) ?_
    refine FL.nil ?_
    refine FW.ret ?_
    obtain rfl := Option.some.inj hp
    exact ⟨nofun, rfl, ⟨.inr rfl, res1 rfl rfl ⟨rfl, S129.back⟩⟩⟩
   ·
    refine FW.condF k127 c131 ?_
    refine FW.skip (FW.region ?_)
    refine FL.v (E.move k126) ?_
    refine FL.v (E.add rfl rfl) ?_
    refine FL.v (E.assign (v := Value.int .i64 (wr (s29 + 1))) rfl) ?_
    refine FL.nil ?_
    obtain rfl := Option.some.inj hp
    exact ⟨rfl, ⟨_, S129, i83, k125, rfl⟩⟩
  ·
   refine FW.condF rfl c88 ?_
   refine FW.exit ?_
   obtain rfl := Option.some.inj hp
   exact ⟨nofun, rfl, ⟨_, S82, i83, k86⟩⟩
 ·
  clear hq
  intro e f137 w136 hD
  rcases q29 with s29 | x29
  ·
   obtain ⟨rfl, hD⟩ := hD
   obtain ⟨H133, S134, i135, k138⟩ := hD
   replace hp := el_go hp
   refine FW.seq (FW.region ?_)
   refine FL.v (E.fieldAddr tf51_1 k138) ?_
   refine FL.v (E.load rfl (run_load1 Tryz.isAgg30 ((at28.mono i135).now S134.sl) rfl)) ?_
   obtain ⟨r139, hr140, hp⟩ := bnd hp
   refine FL.call rfl rfl rfl (E.call Tryz.call127 (A2 rfl rfl)) (w_spec_l23Has S134.sl v0_1 a0.right (p0_1.mono (i27.tr i135)) (ByteArray.mk #[49]) hr140) ?_
   rintro e w141 ⟨rfl, r142⟩
   refine ⟨_, rfl, ?_⟩
   have S143 := S134.call r142
   refine FL.v (E.assign (v := Value.bool r139) rfl) ?_
   refine FL.nil ?_
   refine FW.ret ?_
   obtain rfl := Option.some.inj hp
   exact ⟨.inr rfl, res1 rfl rfl ⟨rfl, S143.back⟩⟩
  ·
   obtain ⟨he, hL⟩ := hD
   replace hp := el_rt hp
   obtain rfl := Option.some.inj hp
   subst he
   exact hL

@[reducible] def p_spec_l23Put (H0 : GH) (w0 : World) (Ha : GH) (L : List MO) (r : l23Search) : Ending → World → Prop :=
 fun e w' => ∃ H' : GH, ∃ v0_0 : Value, ∃ n0_0 : Nat, ∃ c0_0 : List Value, e = .returned (Value.agg #[v0_0, Value.bool r.open_, Value.int .i64 r.bits, Value.bool r.bad]) ∧ (St H0 w0 H' w' (.row 55 6 v0_0 n0_0 c0_0 :: L) ∧ Inc Ha H') ∧ Els H' eSeqStep 6 c0_0 r.steps
theorem w_spec_l23Put {H0 Ha : GH} {w0 wa : World} {L : List MO} {a0 : l23Search} {v0_0 : Value} {n0_0 : Nat} {k0_0 : List Value} (S0 : St H0 w0 Ha wa (.row 55 6 v0_0 n0_0 k0_0 :: L)) (p0_0 : Els Ha eSeqStep 6 k0_0 a0.steps) (a1 : SeqStep) (v1_0 : Value) (p1_0 : RSl Ha eS 1 v1_0 a1.seq.left) (v1_1 : Value) (p1_1 : RSl Ha eS 1 v1_1 a1.seq.right) {r : l23Search} (hp : (PF.spec_l23Put a0 a1) = some r) :
  Calls Tryz.prog 89 #[Value.agg #[v0_0, Value.bool a0.open_, Value.int .i64 a0.bits, Value.bool a0.bad], Value.agg #[v1_0, v1_1, Value.int .i64 a1.rule, Value.string a1.main, Value.int .i64 a1.a, Value.int .i64 a1.b]] wa (p_spec_l23Put H0 w0 Ha L r) := by
 unfold PF.spec_l23Put at hp
 refine calls_go (N := 17) (args := [Value.agg #[v0_0, Value.bool a0.open_, Value.int .i64 a0.bits, Value.bool a0.bad], Value.agg #[v1_0, v1_1, Value.int .i64 a1.rule, Value.string a1.main, Value.int .i64 a1.a, Value.int .i64 a1.b]]) Tryz.func89 rfl rfl rfl ?_
 refine FW.seq (FW.region ?_)
 obtain ⟨b21, w22, run23, S24⟩ := S0.box (P := Tryz.prog) 95 [v0_0, Value.bool a0.open_, Value.int .i64 a0.bits, Value.bool a0.bad] (v := Value.agg #[v0_0, Value.bool a0.open_, Value.int .i64 a0.bits, Value.bool a0.bad]) rfl (ones_cons (Ln.one (S0.row_ln (i := 0) rfl)) (ones_cons rfl (ones_cons rfl (ones_cons rfl ones_nil))))
 refine FL.v (E.box rfl run23) ?_
 obtain ⟨b25, w26, run27, S28⟩ := S24.box (P := Tryz.prog) 55 [v1_0, v1_1, Value.int .i64 a1.rule, Value.string a1.main, Value.int .i64 a1.a, Value.int .i64 a1.b] (v := Value.agg #[v1_0, v1_1, Value.int .i64 a1.rule, Value.string a1.main, Value.int .i64 a1.a, Value.int .i64 a1.b]) rfl (ones_cons p1_0.one (ones_cons p1_1.one (ones_cons rfl (ones_cons rfl (ones_cons rfl (ones_cons rfl ones_nil))))))
 refine FL.v (E.box rfl run27) ?_
 obtain ⟨H29, S30, i31, at32⟩ := S28.sealBox (i := 0) (l' := (.box b21 95 [v0_0, Value.bool a0.open_, Value.int .i64 a0.bits, Value.bool a0.bad] :: .row 55 6 v0_0 n0_0 k0_0 :: L)) rfl rfl
 obtain ⟨b33, w34, run35, S36⟩ := S30.alloc (P := Tryz.prog) 95 [Value.slice none 0 0, Value.bool false, Value.int .i64 0, Value.bool false] Tryz.zeroValue95 rfl (ones_cons rfl (ones_cons rfl (ones_cons rfl (ones_cons rfl ones_nil))))
 refine FL.v (E.alloc run35) ?_
 refine FL.nil (FW.seq (FW.region ?_))
 refine FL.v (E.fieldAddr tf95_0 rfl) ?_
 refine FL.v (E.load rfl (run_load1 Tryz.isAgg22 (S36.box_now (i := 1) rfl) rfl)) ?_
 refine FL.v (E.load rfl (run_loadA Tryz.isAgg55 Tryz.sizeOf55 (at32.now S36.sl) rfl)) ?_
 obtain ⟨v37, w38, run39, S40⟩ := S36.buildSlice (P := Tryz.prog) te22 [Value.agg #[v1_0, v1_1, Value.int .i64 a1.rule, Value.string a1.main, Value.int .i64 a1.a, Value.int .i64 a1.b]] (parts := #[(0, Value.agg #[v1_0, v1_1, Value.int .i64 a1.rule, Value.string a1.main, Value.int .i64 a1.a, Value.int .i64 a1.b])]) (cells := [v1_0, v1_1, Value.int .i64 a1.rule, Value.string a1.main, Value.int .i64 a1.a, Value.int .i64 a1.b]) rfl (szs_cons rfl szs_nil) (fc_cons rfl fc_nil) (ones_cons p1_0.one (ones_cons p1_1.one (ones_cons rfl (ones_cons rfl (ones_cons rfl (ones_cons rfl ones_nil)))))) (Nat.le_of_ble_eq_true rfl)
 have els41 : Els H29 eSeqStep 6 [v1_0, v1_1, Value.int .i64 a1.rule, Value.string a1.main, Value.int .i64 a1.a, Value.int .i64 a1.b] [a1] := (Els.snoc (H := H29) (E := eSeqStep) (k := 6) (c := [v1_0, v1_1, Value.int .i64 a1.rule, Value.string a1.main, Value.int .i64 a1.a, Value.int .i64 a1.b]) (x := a1) Els.nil rfl ⟨_, _, rfl, (p1_0.mono i31), (p1_1.mono i31)⟩)
 refine FL.v (E.buildSlice (B1 rfl) run39) ?_
 obtain ⟨xs42, hz43, hp⟩ := bnd hp
 obtain ⟨v44, w47, n45, cs46, run48, S49, els50, ce51⟩ := S40.appendO (P := Tryz.prog) te22 (i := 3) (j := 0) rfl (p0_0.mono i31) rfl els41 hz43
 have S49 : St H0 w0 H29 w47 (.row 55 6 v37 1 [v1_0, v1_1, Value.int .i64 a1.rule, Value.string a1.main, Value.int .i64 a1.a, Value.int .i64 a1.b] :: .box b33 95 [Value.slice none 0 0, Value.bool false, Value.int .i64 0, Value.bool false] :: .box b21 95 [v0_0, Value.bool a0.open_, Value.int .i64 a0.bits, Value.bool a0.bad] :: .row 55 6 v44 n45 cs46 :: L) := S49
 have S52 : St H0 w0 H29 w47 (.box b33 95 [Value.slice none 0 0, Value.bool false, Value.int .i64 0, Value.bool false] :: .box b21 95 [v0_0, Value.bool a0.open_, Value.int .i64 a0.bits, Value.bool a0.bad] :: .row 55 6 v44 n45 cs46 :: L) := S49.drop 0
 refine FL.v (E.append rfl rfl run48) ?_
 refine FL.v (E.fieldAddr tf95_0 rfl) ?_
 obtain ⟨w53, run54, S55⟩ := S52.store (P := Tryz.prog) (t := 22) (i := 1) (j := 0) (cs' := [v44, Value.bool a0.open_, Value.int .i64 a0.bits, Value.bool a0.bad]) (l' := (.box b33 95 [Value.slice none 0 0, Value.bool false, Value.int .i64 0, Value.bool false] :: .box b21 95 [v44, Value.bool a0.open_, Value.int .i64 a0.bits, Value.bool a0.bad] :: .row 55 6 v44 n45 cs46 :: L)) (v := v44) (c := [v44]) rfl Tryz.sizeOf22 (Ln.cells (S52.row_ln (i := 2) rfl)) rfl (ones_cons (Ln.one (S52.row_ln (i := 2) rfl)) ones_nil) (Nat.le_of_ble_eq_true rfl) rfl rfl
 refine FL.act rfl rfl (E.store rfl rfl run54) ?_
 refine FL.nil (FW.seq (FW.region ?_))
 refine FL.v (E.fieldAddr tf95_0 rfl) ?_
 refine FL.v (E.load rfl (run_load1 Tryz.isAgg22 (S55.box_now (i := 1) rfl) rfl)) ?_
 refine FL.v (E.lenO te22 rfl S55 (i := 2) rfl els50 (by decide)) ?_
 refine FL.v (E.gtr rfl rfl) ?_
 refine FL.v (E.fieldAddr tf95_3 rfl) ?_
 obtain ⟨w56, run57, S58⟩ := S55.store (P := Tryz.prog) (t := 4) (i := 1) (j := 3) (cs' := [v44, Value.bool a0.open_, Value.int .i64 a0.bits, Value.bool (decide (200 < (len xs42)))]) (l' := (.box b33 95 [Value.slice none 0 0, Value.bool false, Value.int .i64 0, Value.bool false] :: .box b21 95 [v44, Value.bool a0.open_, Value.int .i64 a0.bits, Value.bool (decide (200 < (len xs42)))] :: .row 55 6 v44 n45 cs46 :: L)) (v := Value.bool (decide (200 < (len xs42)))) (c := [Value.bool (decide (200 < (len xs42)))]) rfl Tryz.sizeOf4 rfl rfl (ones_cons rfl ones_nil) (Nat.le_of_ble_eq_true rfl) rfl rfl
 refine FL.act rfl rfl (E.store rfl rfl run57) ?_
 refine FL.nil (FW.seq (FW.region ?_))
 refine FL.v (E.load rfl (run_loadA Tryz.isAgg95 Tryz.sizeOf95 (S58.box_now (i := 1) rfl) rfl)) ?_
 obtain ⟨w59, run60, S61⟩ := S58.store0 (P := Tryz.prog) (t := 95) (i := 0) (cs' := [v44, Value.bool a0.open_, Value.int .i64 a0.bits, Value.bool (decide (200 < (len xs42)))]) (l' := (.box b33 95 [v44, Value.bool a0.open_, Value.int .i64 a0.bits, Value.bool (decide (200 < (len xs42)))] :: .box b21 95 [v44, Value.bool a0.open_, Value.int .i64 a0.bits, Value.bool (decide (200 < (len xs42)))] :: .row 55 6 v44 n45 cs46 :: L)) (v := Value.agg #[v44, Value.bool a0.open_, Value.int .i64 a0.bits, Value.bool (decide (200 < (len xs42)))]) (c := [v44, Value.bool a0.open_, Value.int .i64 a0.bits, Value.bool (decide (200 < (len xs42)))]) rfl Tryz.sizeOf95 rfl rfl (ones_cons (Ln.one (S58.row_ln (i := 2) rfl)) (ones_cons rfl (ones_cons rfl (ones_cons rfl ones_nil)))) (Nat.le_of_ble_eq_true rfl) rfl rfl
 refine FL.act rfl rfl (E.store rfl rfl run60) ?_
 refine FL.nil ?_
 refine FW.ret ?_
 obtain rfl := Option.some.inj hp
 exact ⟨.inr rfl, resC rfl rfl (loadVar_A Tryz.isAgg95 Tryz.sizeOf95 (S61.box_now (i := 0) rfl) rfl) ⟨_, _, _, _, rfl, ⟨(S61.selT (a := [.box b33 95 [v44, Value.bool a0.open_, Value.int .i64 a0.bits, Value.bool (decide (200 < (len xs42)))], .box b21 95 [v44, Value.bool a0.open_, Value.int .i64 a0.bits, Value.bool (decide (200 < (len xs42)))], .row 55 6 v44 n45 cs46]) (l' := [.row 55 6 v44 n45 cs46]) [2] (by decide) rfl), i31⟩, els50⟩⟩

set_option maxHeartbeats 4000000 in
theorem w_spec_l23Main {Ha : GH} {wa : World} (hs : Sl Ha wa) (a0 : Sequent) (v0_0 : Value) (p0_0 : RSl Ha eS 1 v0_0 a0.left) (v0_1 : Value) (p0_1 : RSl Ha eS 1 v0_1 a0.right) {r : (ByteArray × Bool × Bool)} (hp : (PF.spec_l23Main a0) = some r) :
  Calls Tryz.prog 90 #[Value.agg #[v0_0, v0_1]] wa (Sc Ha wa (Value.tuple #[Value.string r.1, Value.bool r.2.1, Value.bool r.2.2])) := by
 unfold PF.spec_l23Main at hp
 have S0 := St.init hs
 refine calls_go (N := 45) (args := [Value.agg #[v0_0, v0_1]]) Tryz.func90 rfl rfl rfl ?_
 refine FW.seq (FW.region ?_)
 obtain ⟨b21, w22, run23, S24⟩ := S0.box (P := Tryz.prog) 51 [v0_0, v0_1] (v := Value.agg #[v0_0, v0_1]) rfl (ones_cons p0_0.one (ones_cons p0_1.one ones_nil))
 refine FL.v (E.box rfl run23) ?_
 obtain ⟨H25, S26, i27, at28⟩ := S24.sealBox (i := 0) (l' := []) rfl rfl
 refine FL.v (E.assign (v := Value.string (ByteArray.mk #[])) rfl) ?_
 refine FL.v (E.assign (v := Value.bool false) rfl) ?_
 refine FL.v (E.assign (v := Value.bool false) rfl) ?_
 refine FL.nil (FW.seq (FW.seq (FW.region ?_)))
 refine FL.v (E.assign (v := Value.int .i64 0) rfl) ?_
 refine FL.nil ?_
 obtain ⟨q29, hq, hp⟩ := bndR hp
 refine FW.block ?_
 refine FW.mono (FW.iter (S := Int) (X := (ByteArray × Bool × Bool)) (fun (s29 : Int) f w => ∃ H : GH, St Ha wa H w [] ∧ Inc H25 H ∧ f 1 = Value.pointer (some ⟨b21, 0, none⟩) ∧ f 5 = Value.int .i64 s29) (fun q e f w => match q with | .go s29 => e = Exit.exit 0 ∧ (∃ H : GH, St Ha wa H w [] ∧ Inc H25 H ∧ f 1 = Value.pointer (some ⟨b21, 0, none⟩)) | .rt x => ((e = Exit.ret) ∧ (fun e f w => (e = Exit.normal ∨ e = Exit.ret) ∧ ∀ a, Fr (δ := []) 45 a f → ∃ v, (results Tryz.f90 a.tmps).run Tryz.prog w = .ok v w ∧ (Sc Ha wa (Value.tuple #[Value.string x.1, Value.bool x.2.1, Value.bool x.2.2])) (.returned v) w) e f w)) hq ⟨_, S26, (Inc.rfl _), rfl, rfl⟩ ?_) ?_
 ·
  clear hp hq
  rintro s29 f59 w58 ⟨H55, S56, i57, k60, k61⟩ o80 hp
  refine FW.seq (FW.seq (FW.region ?_))
  refine FL.v (E.move k61) ?_
  refine FL.v (E.fieldAddr tf51_0 k60) ?_
  refine FL.v (E.load rfl (run_load1 Tryz.isAgg30 ((at28.mono i57).now S56.sl) rfl)) ?_
  refine FL.v (E.lenP te30 rfl p0_0) ?_
  refine FL.v (E.lss rfl rfl) ?_
  refine FL.nil ?_
  rcases ifB hp with ⟨c62, hp⟩ | ⟨c62, hp⟩
  ·
   refine FW.condT rfl c62 ?_
   refine FW.skip (FW.seq (FW.block (FW.seq (FW.region ?_))))
   refine FL.v (E.fieldAddr tf51_0 k60) ?_
   refine FL.v (E.load rfl (run_load1 Tryz.isAgg30 ((at28.mono i57).now S56.sl) rfl)) ?_
   refine FL.v (E.move k61) ?_
   obtain ⟨x69, hx70, hp⟩ := bnd hp
   obtain ⟨p63, cs64, pt65, l66, at67, rel68⟩ := p0_0.at hx70
   obtain rfl := eS_open rel68
   refine FL.v (E.indexAddr te30 rfl rfl pt65) ?_
   refine FL.v (E.load rfl (run_load0 Tryz.isAgg9 ((at67.mono (i27.tr i57)).now S56.sl) rfl)) ?_
   refine FL.v (E.lenS Tryz.runUnderlying9 rfl) ?_
   refine FL.v (E.gtr rfl rfl) ?_
   refine FL.nil ?_
   rcases ifB hp with ⟨c71, hp⟩ | ⟨c71, hp⟩
   ·
    refine FW.condT rfl c71 ?_
    refine FW.seq (FW.region ?_)
    refine FL.v (E.fieldAddr tf51_0 k60) ?_
    refine FL.v (E.load rfl (run_load1 Tryz.isAgg30 ((at28.mono i57).now S56.sl) rfl)) ?_
    refine FL.v (E.move k61) ?_
    obtain ⟨x78, hx79, hp⟩ := bnd hp
    obtain ⟨p72, cs73, pt74, l75, at76, rel77⟩ := p0_0.at hx79
    obtain rfl := eS_open rel77
    refine FL.v (E.indexAddr te30 rfl rfl pt74) ?_
    refine FL.v (E.load rfl (run_load0 Tryz.isAgg9 ((at76.mono (i27.tr i57)).now S56.sl) rfl)) ?_
    refine FL.v (E.assign (v := Value.string x78) rfl) ?_
    refine FL.v (E.assign (v := Value.bool true) rfl) ?_
    refine FL.v (E.assign (v := Value.bool true) rfl) ?_
    refine FL.nil ?_
    refine FW.ret ?_
    obtain rfl := Option.some.inj hp
    exact ⟨nofun, rfl, ⟨.inr rfl, res3 rfl rfl rfl rfl ⟨rfl, S56.back⟩⟩⟩
   ·
    refine FW.condF rfl c71 ?_
    refine FW.skip (FW.region ?_)
    refine FL.v (E.move k61) ?_
    refine FL.v (E.add rfl rfl) ?_
    refine FL.v (E.assign (v := Value.int .i64 (wr (s29 + 1))) rfl) ?_
    refine FL.nil ?_
    obtain rfl := Option.some.inj hp
    exact ⟨rfl, ⟨_, S56, i57, k60, rfl⟩⟩
  ·
   refine FW.condF rfl c62 ?_
   refine FW.exit ?_
   obtain rfl := Option.some.inj hp
   exact ⟨nofun, rfl, ⟨_, S56, i57, k60⟩⟩
 ·
  clear hq
  intro e f85 w84 hD
  rcases q29 with s29 | x29
  ·
   obtain ⟨rfl, hD⟩ := hD
   obtain ⟨H81, S82, i83, k86⟩ := hD
   replace hp := el_go hp
   refine FW.seq (FW.seq (FW.region ?_))
   refine FL.v (E.assign (v := Value.int .i64 0) rfl) ?_
   refine FL.nil ?_
   obtain ⟨q87, hq, hp⟩ := bndR hp
   refine FW.block ?_
   refine FW.mono (FW.iter (S := Int) (X := (ByteArray × Bool × Bool)) (fun (s87 : Int) f w => ∃ H : GH, St Ha wa H w [] ∧ Inc H81 H ∧ f 1 = Value.pointer (some ⟨b21, 0, none⟩) ∧ f 6 = Value.int .i64 s87) (fun q e f w => match q with | .go s87 => e = Exit.exit 2 ∧ (∃ H : GH, St Ha wa H w [] ∧ Inc H81 H) | .rt x => ((e = Exit.ret) ∧ (fun e f w => (e = Exit.normal ∨ e = Exit.ret) ∧ ∀ a, Fr (δ := []) 45 a f → ∃ v, (results Tryz.f90 a.tmps).run Tryz.prog w = .ok v w ∧ (Sc Ha wa (Value.tuple #[Value.string x.1, Value.bool x.2.1, Value.bool x.2.2])) (.returned v) w) e f w)) hq ⟨_, S82, (Inc.rfl _), k86, rfl⟩ ?_) ?_
   ·
    clear hp hq
    rintro s87 f117 w116 ⟨H113, S114, i115, k118, k119⟩ o138 hp
    refine FW.seq (FW.seq (FW.region ?_))
    refine FL.v (E.move k119) ?_
    refine FL.v (E.fieldAddr tf51_1 k118) ?_
    refine FL.v (E.load rfl (run_load1 Tryz.isAgg30 ((at28.mono (i83.tr i115)).now S114.sl) rfl)) ?_
    refine FL.v (E.lenP te30 rfl p0_1) ?_
    refine FL.v (E.lss rfl rfl) ?_
    refine FL.nil ?_
    rcases ifB hp with ⟨c120, hp⟩ | ⟨c120, hp⟩
    ·
     refine FW.condT rfl c120 ?_
     refine FW.skip (FW.seq (FW.block (FW.seq (FW.region ?_))))
     refine FL.v (E.fieldAddr tf51_1 k118) ?_
     refine FL.v (E.load rfl (run_load1 Tryz.isAgg30 ((at28.mono (i83.tr i115)).now S114.sl) rfl)) ?_
     refine FL.v (E.move k119) ?_
     obtain ⟨x127, hx128, hp⟩ := bnd hp
     obtain ⟨p121, cs122, pt123, l124, at125, rel126⟩ := p0_1.at hx128
     obtain rfl := eS_open rel126
     refine FL.v (E.indexAddr te30 rfl rfl pt123) ?_
     refine FL.v (E.load rfl (run_load0 Tryz.isAgg9 ((at125.mono ((i27.tr i83).tr i115)).now S114.sl) rfl)) ?_
     refine FL.v (E.lenS Tryz.runUnderlying9 rfl) ?_
     refine FL.v (E.gtr rfl rfl) ?_
     refine FL.nil ?_
     rcases ifB hp with ⟨c129, hp⟩ | ⟨c129, hp⟩
     ·
      refine FW.condT rfl c129 ?_
      refine FW.seq (FW.region ?_)
      refine FL.v (E.fieldAddr tf51_1 k118) ?_
      refine FL.v (E.load rfl (run_load1 Tryz.isAgg30 ((at28.mono (i83.tr i115)).now S114.sl) rfl)) ?_
      refine FL.v (E.move k119) ?_
      obtain ⟨x136, hx137, hp⟩ := bnd hp
      obtain ⟨p130, cs131, pt132, l133, at134, rel135⟩ := p0_1.at hx137
      obtain rfl := eS_open rel135
      refine FL.v (E.indexAddr te30 rfl rfl pt132) ?_
      refine FL.v (E.load rfl (run_load0 Tryz.isAgg9 ((at134.mono ((i27.tr i83).tr i115)).now S114.sl) rfl)) ?_
      refine FL.v (E.assign (v := Value.string x136) rfl) ?_
      refine FL.v (E.assign (v := Value.bool false) rfl) ?_
      refine FL.v (E.assign (v := Value.bool true) rfl) ?_
      refine FL.nil ?_
      refine FW.ret ?_
      obtain rfl := Option.some.inj hp
      exact ⟨nofun, rfl, ⟨.inr rfl, res3 rfl rfl rfl rfl ⟨rfl, S114.back⟩⟩⟩
     ·
      refine FW.condF rfl c129 ?_
      refine FW.skip (FW.region ?_)
      refine FL.v (E.move k119) ?_
      refine FL.v (E.add rfl rfl) ?_
      refine FL.v (E.assign (v := Value.int .i64 (wr (s87 + 1))) rfl) ?_
      refine FL.nil ?_
      obtain rfl := Option.some.inj hp
      exact ⟨rfl, ⟨_, S114, i115, k118, rfl⟩⟩
    ·
     refine FW.condF rfl c120 ?_
     refine FW.exit ?_
     obtain rfl := Option.some.inj hp
     exact ⟨nofun, rfl, ⟨_, S114, i115⟩⟩
   ·
    clear hq
    intro e f143 w142 hD
    rcases q87 with s87 | x87
    ·
     obtain ⟨rfl, hD⟩ := hD
     obtain ⟨H139, S140, i141⟩ := hD
     replace hp := el_go hp
     refine FW.seq (FW.region ?_)
     refine FL.v (E.assign (v := Value.string (ByteArray.mk #[])) rfl) ?_
     refine FL.v (E.assign (v := Value.bool false) rfl) ?_
     refine FL.v (E.assign (v := Value.bool false) rfl) ?_
     refine FL.nil ?_
     refine FW.ret ?_
     obtain rfl := Option.some.inj hp
     exact ⟨.inr rfl, res3 rfl rfl rfl rfl ⟨rfl, S140.back⟩⟩
    ·
     obtain ⟨he, hL⟩ := hD
     replace hp := el_rt hp
     obtain rfl := Option.some.inj hp
     subst he
     exact hL
  ·
   obtain ⟨he, hL⟩ := hD
   replace hp := el_rt hp
   obtain rfl := Option.some.inj hp
   subst he
   exact hL

theorem w_spec_l22Letter {Ha : GH} {wa : World} (hs : Sl Ha wa) (a0 : ByteArray) {r : Bool} (hp : (PF.spec_l22Letter a0) = some r) :
  Calls Tryz.prog 128 #[Value.string a0] wa (Sc Ha wa (Value.bool r)) := by
 unfold PF.spec_l22Letter at hp
 have S0 := St.init hs
 refine calls_go (N := 16) (args := [Value.string a0]) Tryz.func128 rfl rfl rfl ?_
 refine FW.seq (FW.region ?_)
 refine FL.v (E.assign (v := Value.bool false) rfl) ?_
 refine FL.nil (FW.seq (FW.region ?_))
 refine FL.v (E.move (v := Value.string a0) rfl) ?_
 refine FL.v (E.lenS Tryz.runUnderlying9 rfl) ?_
 refine FL.v (E.eql rfl rfl) ?_
 refine FL.v (E.move (v := Value.bool ((a0.size : Int) == 1)) rfl) ?_
 obtain ⟨t23, hqt23, hp⟩ := bnd hp
 refine FL.cut 4 (fun f w => ∃ H : GH, St Ha wa H w [] ∧ Inc Ha H ∧ f 0 = Value.string a0 ∧ f 10 = Value.bool t23) ?_ ?_
 ·
  clear hp; have hp := hqt23; clear hqt23
  rcases ifB hp with ⟨c29, hp⟩ | ⟨c29, hp⟩
  ·
   refine FL.val (wF_yes rfl rfl rfl c29) rfl rfl (E.move (v := Value.string a0) rfl) ?_
   obtain ⟨z30, h31, hp⟩ := bnd hp
   refine FL.val (wF_yes rfl rfl rfl c29) rfl rfl (E.ixS Tryz.runUnderlying9 rfl rfl h31) ?_
   refine FL.val (wF_yes rfl rfl rfl c29) rfl rfl (E.geq rfl rfl) ?_
   obtain rfl := Option.some.inj hp
   refine FL.v (E.pickT rfl c29 rfl) ?_
   exact FL.nil ⟨rfl, _, S0, (Inc.rfl _), rfl, rfl⟩
  ·
   refine FL.skip (wF_no rfl rfl rfl c29) rfl ?_
   refine FL.skip (wF_no rfl rfl rfl c29) rfl ?_
   refine FL.skip (wF_no rfl rfl rfl c29) rfl ?_
   obtain rfl := Option.some.inj hp
   refine FL.v (E.pickF rfl c29 rfl) ?_
   exact FL.nil ⟨rfl, _, S0, (Inc.rfl _), rfl, rfl⟩
 rintro f28 w27 ⟨H24, S25, i26, k32, k33⟩
 refine FL.v (E.move k33) ?_
 obtain ⟨t36, hqt36, hp⟩ := bnd hp
 refine FL.cut 4 (fun f w => ∃ H : GH, St Ha wa H w [] ∧ Inc H24 H ∧ f 15 = Value.bool t36) ?_ ?_
 ·
  clear hp; have hp := hqt36; clear hqt36
  rcases ifB hp with ⟨c42, hp⟩ | ⟨c42, hp⟩
  ·
   refine FL.val (wF_yes rfl rfl rfl c42) rfl rfl (E.move k32) ?_
   obtain ⟨z43, h44, hp⟩ := bnd hp
   refine FL.val (wF_yes rfl rfl rfl c42) rfl rfl (E.ixS Tryz.runUnderlying9 rfl rfl h44) ?_
   refine FL.val (wF_yes rfl rfl rfl c42) rfl rfl (E.leq rfl rfl) ?_
   obtain rfl := Option.some.inj hp
   refine FL.v (E.pickT rfl c42 rfl) ?_
   exact FL.nil ⟨rfl, _, S25, (Inc.rfl _), rfl⟩
  ·
   refine FL.skip (wF_no rfl rfl rfl c42) rfl ?_
   refine FL.skip (wF_no rfl rfl rfl c42) rfl ?_
   refine FL.skip (wF_no rfl rfl rfl c42) rfl ?_
   obtain rfl := Option.some.inj hp
   refine FL.v (E.pickF rfl c42 rfl) ?_
   exact FL.nil ⟨rfl, _, S25, (Inc.rfl _), rfl⟩
 rintro f41 w40 ⟨H37, S38, i39, k45⟩
 refine FL.v (E.assign k45) ?_
 refine FL.nil ?_
 refine FW.ret ?_
 obtain rfl := Option.some.inj hp
 exact ⟨.inr rfl, res1 rfl rfl ⟨rfl, S38.back⟩⟩

set_option maxHeartbeats 4000000 in
theorem w_spec_l23Open {Ha : GH} {wa : World} (hs : Sl Ha wa) (v0 : Value) (a0 : List ByteArray) (p0 : RSl Ha eS 1 v0 a0) {r : Int} (hp : (PF.spec_l23Open a0) = some r) :
  Calls Tryz.prog 91 #[v0] wa (Sc Ha wa (Value.int .i64 r)) := by
 unfold PF.spec_l23Open at hp
 have S0 := St.init hs
 refine calls_go (N := 26) (args := [v0]) Tryz.func91 rfl rfl rfl ?_
 refine FW.seq (FW.region ?_)
 refine FL.v (E.assign (v := Value.int .i64 0) rfl) ?_
 refine FL.nil (FW.seq (FW.region ?_))
 refine FL.v (E.assign (v := Value.int .i64 0) rfl) ?_
 refine FL.nil (FW.seq (FW.seq (FW.region ?_)))
 refine FL.v (E.assign (v := Value.int .i64 0) rfl) ?_
 refine FL.nil ?_
 obtain ⟨q22, hq, hp⟩ := bndR hp
 refine FW.block ?_
 refine FW.mono (FW.forL (S := Int) (X := Empty) (fun (i22 : Nat) (s22 : Int) f w => ∃ H : GH, St Ha wa H w [] ∧ Inc Ha H ∧ f 4 = Value.int .i64 ((i22 : Nat) : Int) ∧ f 0 = v0 ∧ f 3 = Value.int .i64 s22) (fun (q : Rs Int Empty) e f w => match q with | .go s22 => e = Exit.exit 0 ∧ (∃ H : GH, St Ha wa H w [] ∧ Inc Ha H ∧ f 3 = Value.int .i64 s22) | .rt x => x.elim) hq ⟨_, S0, (Inc.rfl _), rfl, rfl, rfl⟩ ?_ ?_) ?_
 ·
  clear hp hq
  rintro i22 y21 s22 f57 w56 ⟨H53, S54, i55, k58, k59, k60⟩ hx22 o83 hp
  refine FW.seq (FW.seq (FW.region ?_))
  refine FL.v (E.move k58) ?_
  refine FL.v (E.move k59) ?_
  refine FL.v (E.lenP te30 rfl p0) ?_
  refine FL.v (E.lssT rfl rfl (lss_len hx22)) ?_
  refine FL.nil ?_
  refine FW.condT rfl rfl ?_
  refine FW.skip (FW.seq (FW.block (FW.seq (FW.region ?_))))
  refine FL.v (E.move k59) ?_
  refine FL.v (E.move k58) ?_
  obtain ⟨p61, cs62, pt63, l64, at65, rel66⟩ := p0.at (ix_nat hx22)
  obtain rfl := eS_open rel66
  refine FL.v (E.indexAddr te30 rfl rfl pt63) ?_
  refine FL.v (E.load rfl (run_load0 Tryz.isAgg9 ((at65.mono i55).now S54.sl) rfl)) ?_
  obtain ⟨r67, hr68, hp⟩ := bnd hp
  refine FL.call rfl rfl rfl (E.call Tryz.call128 (A1 rfl)) (w_spec_l22Letter S54.sl y21 hr68) ?_
  rintro e w69 ⟨rfl, r70⟩
  refine ⟨_, rfl, ?_⟩
  have S71 := S54.call r70
  refine FL.nil ?_
  rcases ifB hp with ⟨c72, hp⟩ | ⟨c72, hp⟩
  ·
   refine FW.condT rfl c72 ?_
   refine FW.region ?_
   refine FL.v (E.move k60) ?_
   refine FL.v (E.move k59) ?_
   refine FL.v (E.move k58) ?_
   obtain ⟨p73, cs74, pt75, l76, at77, rel78⟩ := p0.at (ix_nat hx22)
   obtain rfl := eS_open rel78
   refine FL.v (E.indexAddr te30 rfl rfl pt75) ?_
   refine FL.v (E.load rfl (run_load0 Tryz.isAgg9 ((at77.mono i55).now S71.sl) rfl)) ?_
   obtain ⟨z79, h80, hp⟩ := bnd hp
   refine FL.v (E.ixS Tryz.runUnderlying9 rfl rfl h80) ?_
   refine FL.v (E.subK rfl rfl) ?_
   obtain ⟨u82, z81, hp⟩ := bnd hp
   refine FL.v (E.shl rfl rfl (nn_ge z81)) ?_
   refine FL.v (E.or rfl rfl) ?_
   refine FL.v (E.assign (v := Value.int .i64 (orK true 64 s22 (shlK true 64 1 (wrk false 8 (z79 - 97))))) rfl) ?_
   refine FL.nil (FW.region ?_)
   refine FL.v (E.move k58) ?_
   refine FL.v (E.add rfl rfl) ?_
   refine FL.v (E.assign (v := Value.int .i64 (wr (((i22 : Nat) : Int) + 1))) rfl) ?_
   refine FL.nil ?_
   obtain rfl := Option.some.inj hp
   exact ⟨rfl, ⟨_, S71, i55, (nat_succ rfl (lt_of_get hx22) (p0.mono i55).le), k59, rfl⟩⟩
  ·
   refine FW.condF rfl c72 ?_
   refine FW.skip (FW.region ?_)
   refine FL.v (E.move k58) ?_
   refine FL.v (E.add rfl rfl) ?_
   refine FL.v (E.assign (v := Value.int .i64 (wr (((i22 : Nat) : Int) + 1))) rfl) ?_
   refine FL.nil ?_
   obtain rfl := Option.some.inj hp
   exact ⟨rfl, ⟨_, S71, i55, (nat_succ rfl (lt_of_get hx22) (p0.mono i55).le), k59, k60⟩⟩
 ·
  clear hp hq
  rintro s22 f94 w93 ⟨H90, S91, i92, k95, k96, k97⟩
  refine FW.seq (FW.seq (FW.region ?_))
  refine FL.v (E.move k95) ?_
  refine FL.v (E.move k96) ?_
  refine FL.v (E.lenP te30 rfl p0) ?_
  refine FL.v (E.lss rfl rfl) ?_
  refine FL.nil ?_
  refine FW.condF rfl dlt_len ?_
  refine FW.exit ?_
  exact ⟨nofun, rfl, ⟨_, S91, i92, k97⟩⟩
 ·
  clear hq
  intro e f88 w87 hD
  rcases q22 with s22 | x22
  ·
   obtain ⟨rfl, hD⟩ := hD
   obtain ⟨H84, S85, i86, k89⟩ := hD
   replace hp := el_go hp
   refine FW.seq (FW.region ?_)
   refine FL.v (E.move k89) ?_
   refine FL.v (E.assign (v := Value.int .i64 s22) rfl) ?_
   refine FL.nil ?_
   refine FW.ret ?_
   obtain rfl := Option.some.inj hp
   exact ⟨.inr rfl, res1 rfl rfl ⟨rfl, S85.back⟩⟩
  ·
   exact x22.elim

theorem w_spec_l22Parts {Ha : GH} {wa : World} (hs : Sl Ha wa) (a0 : ByteArray) {r : (Int × ByteArray × ByteArray)} (hp : (PF.spec_l22Parts a0) = some r) :
  Calls Tryz.prog 69 #[Value.string a0] wa (Sc Ha wa (Value.tuple #[Value.int .u8 r.1, Value.string r.2.1, Value.string r.2.2])) := by
 unfold PF.spec_l22Parts at hp
 have S0 := St.init hs
 refine calls_go (N := 31) (args := [Value.string a0]) Tryz.func69 rfl rfl rfl ?_
 refine FW.seq (FW.region ?_)
 refine FL.v (E.assign (v := Value.int .u8 0) rfl) ?_
 refine FL.v (E.assign (v := Value.string (ByteArray.mk #[])) rfl) ?_
 refine FL.v (E.assign (v := Value.string (ByteArray.mk #[])) rfl) ?_
 refine FL.nil (FW.seq (FW.seq (FW.region ?_)))
 refine FL.v (E.move (v := Value.string a0) rfl) ?_
 obtain ⟨z21, h22, hp⟩ := bnd hp
 refine FL.v (E.ixS Tryz.runUnderlying9 rfl rfl h22) ?_
 refine FL.v (E.eql rfl rfl) ?_
 refine FL.nil ?_
 rcases ifB hp with ⟨c23, hp⟩ | ⟨c23, hp⟩
 ·
  refine FW.condT rfl c23 ?_
  refine FW.seq ?_
  refine FW.draw (fun w' => Run wa.heap.size Ha wa Ha w') (by kernel_rfl) (by kernel_rfl) (run_drew S0.sl) ?_
  refine FD.val rfl rfl rfl (fun w' hw' => (E.move (v := Value.string a0) rfl)) ?_
  obtain ⟨z25, h26, hp⟩ := bnd hp
  refine FD.val rfl rfl rfl (fun w' hw' => (E.cutS (kl := .i64) (kh := .i64) Tryz.underlying9 rfl (.inr ⟨_, rfl, rfl⟩) (.inl ⟨rfl, rfl⟩) h26)) ?_
  refine FD.val rfl rfl rfl (fun w' hw' => (E.assign (v := Value.int .u8 126) rfl)) ?_
  refine FD.val rfl rfl rfl (fun w' hw' => (E.assign (v := Value.string z25) rfl)) ?_
  refine FD.val rfl rfl rfl (fun w' hw' => (E.assign (v := Value.string (ByteArray.mk #[])) rfl)) ?_
  refine FD.nil ?_
  intro w27 r29
  have S28 := S0.call r29
  refine FW.ret ?_
  obtain rfl := Option.some.inj hp
  exact ⟨.inr rfl, res3 rfl rfl rfl rfl ⟨rfl, S28.back⟩⟩
 ·
  refine FW.condF rfl c23 ?_
  refine FW.skip (FW.seq (FW.seq (FW.region ?_)))
  refine FL.v (E.move (v := Value.string a0) rfl) ?_
  obtain ⟨z30, h31, hp⟩ := bnd hp
  refine FL.v (E.ixS Tryz.runUnderlying9 rfl rfl h31) ?_
  refine FL.v (E.neq rfl rfl) ?_
  refine FL.nil ?_
  rcases ifB hp with ⟨c32, hp⟩ | ⟨c32, hp⟩
  ·
   refine FW.condT rfl c32 ?_
   refine FW.seq (FW.region ?_)
   refine FL.v (E.move (v := Value.string a0) rfl) ?_
   obtain ⟨z33, h34, hp⟩ := bnd hp
   refine FL.v (E.ixS Tryz.runUnderlying9 rfl rfl h34) ?_
   refine FL.v (E.assign (v := Value.int .u8 z33) rfl) ?_
   refine FL.v (E.assign (v := Value.string (ByteArray.mk #[])) rfl) ?_
   refine FL.v (E.assign (v := Value.string (ByteArray.mk #[])) rfl) ?_
   refine FL.nil ?_
   refine FW.ret ?_
   obtain rfl := Option.some.inj hp
   exact ⟨.inr rfl, res3 rfl rfl rfl rfl ⟨rfl, S0.back⟩⟩
  ·
   refine FW.condF rfl c32 ?_
   refine FW.skip (FW.seq (FW.region ?_))
   refine FL.v (E.move (v := Value.string a0) rfl) ?_
   obtain ⟨r35, hr36, hp⟩ := bnd hp
   refine FL.call rfl rfl rfl (E.call Tryz.call85 (A2 rfl rfl)) (w_spec_l22End S0.sl a0 1 hr36) ?_
   rintro e w37 ⟨rfl, r38⟩
   refine ⟨_, rfl, ?_⟩
   have S39 := S0.call r38
   refine FL.v (E.assign (v := Value.int .i64 r35) rfl) ?_
   refine FL.nil (FW.seq ?_)
   refine FW.draw (fun w' => Run w37.heap.size Ha w37 Ha w') (by kernel_rfl) (by kernel_rfl) (run_drew S39.sl) ?_
   refine FD.val rfl rfl rfl (fun w' hw' => (E.move (v := Value.string a0) rfl)) ?_
   refine FD.val rfl rfl rfl (fun w' hw' => (E.move (v := Value.int .i64 r35) rfl)) ?_
   obtain ⟨z41, h42, hp⟩ := bnd hp
   refine FD.val rfl rfl rfl (fun w' hw' => (E.ixS Tryz.runUnderlying9 rfl rfl h42)) ?_
   refine FD.val rfl rfl rfl (fun w' hw' => (E.move (v := Value.string a0) rfl)) ?_
   refine FD.val rfl rfl rfl (fun w' hw' => (E.move (v := Value.int .i64 r35) rfl)) ?_
   obtain ⟨z43, h44, hp⟩ := bnd hp
   refine FD.val rfl rfl rfl (fun w' hw' => (E.cutS (kl := .i64) (kh := .i64) Tryz.underlying9 rfl (.inr ⟨_, rfl, rfl⟩) (.inr ⟨_, rfl, rfl⟩) h44)) ?_
   refine FD.val rfl rfl rfl (fun w' hw' => (E.move (v := Value.string a0) rfl)) ?_
   refine FD.val rfl rfl rfl (fun w' hw' => (E.move (v := Value.int .i64 r35) rfl)) ?_
   refine FD.val rfl rfl rfl (fun w' hw' => (E.add rfl rfl)) ?_
   refine FD.val rfl rfl rfl (fun w' hw' => (E.move (v := Value.string a0) rfl)) ?_
   refine FD.val rfl rfl rfl (fun w' hw' => (E.lenS Tryz.runUnderlying9 rfl)) ?_
   refine FD.val rfl rfl rfl (fun w' hw' => (E.sub rfl rfl)) ?_
   obtain ⟨z45, h46, hp⟩ := bnd hp
   refine FD.val rfl rfl rfl (fun w' hw' => (E.cutS (kl := .i64) (kh := .i64) Tryz.underlying9 rfl (.inr ⟨_, rfl, rfl⟩) (.inr ⟨_, rfl, rfl⟩) h46)) ?_
   refine FD.val rfl rfl rfl (fun w' hw' => (E.assign (v := Value.int .u8 z41) rfl)) ?_
   refine FD.val rfl rfl rfl (fun w' hw' => (E.assign (v := Value.string z43) rfl)) ?_
   refine FD.val rfl rfl rfl (fun w' hw' => (E.assign (v := Value.string z45) rfl)) ?_
   refine FD.nil ?_
   intro w47 r49
   have S48 := S39.call r49
   refine FW.ret ?_
   obtain rfl := Option.some.inj hp
   exact ⟨.inr rfl, res3 rfl rfl rfl rfl ⟨rfl, S48.back⟩⟩

set_option maxHeartbeats 4000000 in
theorem w_spec_l23Rule {Ha : GH} {wa : World} (hs : Sl Ha wa) (a0 : ByteArray) (a1 : Bool) {r : Int} (hp : (PF.spec_l23Rule a0 a1) = some r) :
  Calls Tryz.prog 92 #[Value.string a0, Value.bool a1] wa (Sc Ha wa (Value.int .i64 r)) := by
 unfold PF.spec_l23Rule at hp
 have S0 := St.init hs
 refine calls_go (N := 29) (args := [Value.string a0, Value.bool a1]) Tryz.func92 rfl rfl rfl ?_
 refine FW.seq (FW.region ?_)
 refine FL.v (E.assign (v := Value.int .i64 0) rfl) ?_
 refine FL.nil (FW.seq (FW.region ?_))
 refine FL.v (E.move (v := Value.string a0) rfl) ?_
 obtain ⟨r21, hr22, hp⟩ := bnd hp
 refine FL.call rfl rfl rfl (E.call Tryz.call69 (A1 rfl)) (w_spec_l22Parts S0.sl a0 hr22) ?_
 rintro e w23 ⟨rfl, r24⟩
 refine ⟨_, rfl, ?_⟩
 have S25 := S0.call r24
 refine FL.v (E.move (v := Value.tuple #[Value.int .u8 r21.1, Value.string r21.2.1, Value.string r21.2.2]) rfl) ?_
 refine FL.v (E.extract (i := 0) rfl rfl) ?_
 refine FL.v (E.extract (i := 1) rfl rfl) ?_
 refine FL.v (E.extract (i := 2) rfl rfl) ?_
 refine FL.v (E.assign (v := Value.int .u8 r21.1) rfl) ?_
 refine FL.v (E.assign (v := Value.string r21.2.1) rfl) ?_
 refine FL.v (E.assign (v := Value.string r21.2.2) rfl) ?_
 refine FL.nil (FW.seq (FW.region ?_))
 refine FL.v (E.assign (v := Value.int .i64 0) rfl) ?_
 refine FL.nil (FW.seq (FW.seq (FW.region ?_)))
 refine FL.v (E.move (v := Value.int .u8 r21.1) rfl) ?_
 refine FL.nil (FW.block (FW.seq (FW.region ?_)))
 refine FL.v (E.eql rfl rfl) ?_
 refine FL.v (E.assign (v := Value.bool (r21.1 == 126)) rfl) ?_
 refine FL.nil ?_
 rcases ifB hp with ⟨c26, hp⟩ | ⟨c26, hp⟩
 ·
  refine FW.condT rfl c26 ?_
  refine FW.region ?_
  refine FL.v (E.assign (v := Value.int .i64 2) rfl) ?_
  refine FL.nil (FW.seq (FW.seq (FW.region ?_)))
  refine FL.v (E.move (v := Value.bool a1) rfl) ?_
  refine FL.v (E.not rfl) ?_
  refine FL.nil ?_
  rcases ifB hp with ⟨c27, hp⟩ | ⟨c27, hp⟩
  ·
   refine FW.condT rfl c27 ?_
   refine FW.region ?_
   refine FL.v (E.move (v := Value.int .i64 2) rfl) ?_
   refine FL.v (E.add rfl rfl) ?_
   refine FL.v (E.assign (v := Value.int .i64 (wr (2 + 1))) rfl) ?_
   refine FL.nil (FW.seq (FW.region ?_))
   refine FL.v (E.move (v := Value.int .i64 (wr (2 + 1))) rfl) ?_
   refine FL.v (E.assign (v := Value.int .i64 (wr (2 + 1))) rfl) ?_
   refine FL.nil ?_
   refine FW.ret ?_
   obtain rfl := Option.some.inj hp
   exact ⟨.inr rfl, res1 rfl rfl ⟨rfl, S25.back⟩⟩
  ·
   refine FW.condF rfl c27 ?_
   refine FW.skip (FW.seq (FW.region ?_))
   refine FL.v (E.move (v := Value.int .i64 2) rfl) ?_
   refine FL.v (E.assign (v := Value.int .i64 2) rfl) ?_
   refine FL.nil ?_
   refine FW.ret ?_
   obtain rfl := Option.some.inj hp
   exact ⟨.inr rfl, res1 rfl rfl ⟨rfl, S25.back⟩⟩
 ·
  refine FW.condF rfl c26 ?_
  refine FW.seq (FW.region ?_)
  refine FL.v (E.eql rfl rfl) ?_
  refine FL.v (E.assign (v := Value.bool (r21.1 == 38)) rfl) ?_
  refine FL.nil ?_
  rcases ifB hp with ⟨c28, hp⟩ | ⟨c28, hp⟩
  ·
   refine FW.condT rfl c28 ?_
   refine FW.region ?_
   refine FL.v (E.assign (v := Value.int .i64 4) rfl) ?_
   refine FL.nil (FW.seq (FW.seq (FW.region ?_)))
   refine FL.v (E.move (v := Value.bool a1) rfl) ?_
   refine FL.v (E.not rfl) ?_
   refine FL.nil ?_
   rcases ifB hp with ⟨c29, hp⟩ | ⟨c29, hp⟩
   ·
    refine FW.condT rfl c29 ?_
    refine FW.region ?_
    refine FL.v (E.move (v := Value.int .i64 4) rfl) ?_
    refine FL.v (E.add rfl rfl) ?_
    refine FL.v (E.assign (v := Value.int .i64 (wr (4 + 1))) rfl) ?_
    refine FL.nil (FW.seq (FW.region ?_))
    refine FL.v (E.move (v := Value.int .i64 (wr (4 + 1))) rfl) ?_
    refine FL.v (E.assign (v := Value.int .i64 (wr (4 + 1))) rfl) ?_
    refine FL.nil ?_
    refine FW.ret ?_
    obtain rfl := Option.some.inj hp
    exact ⟨.inr rfl, res1 rfl rfl ⟨rfl, S25.back⟩⟩
   ·
    refine FW.condF rfl c29 ?_
    refine FW.skip (FW.seq (FW.region ?_))
    refine FL.v (E.move (v := Value.int .i64 4) rfl) ?_
    refine FL.v (E.assign (v := Value.int .i64 4) rfl) ?_
    refine FL.nil ?_
    refine FW.ret ?_
    obtain rfl := Option.some.inj hp
    exact ⟨.inr rfl, res1 rfl rfl ⟨rfl, S25.back⟩⟩
  ·
   refine FW.condF rfl c28 ?_
   refine FW.seq (FW.region ?_)
   refine FL.v (E.eql rfl rfl) ?_
   refine FL.v (E.assign (v := Value.bool (r21.1 == 124)) rfl) ?_
   refine FL.nil ?_
   rcases ifB hp with ⟨c30, hp⟩ | ⟨c30, hp⟩
   ·
    refine FW.condT rfl c30 ?_
    refine FW.region ?_
    refine FL.v (E.assign (v := Value.int .i64 6) rfl) ?_
    refine FL.nil (FW.seq (FW.seq (FW.region ?_)))
    refine FL.v (E.move (v := Value.bool a1) rfl) ?_
    refine FL.v (E.not rfl) ?_
    refine FL.nil ?_
    rcases ifB hp with ⟨c31, hp⟩ | ⟨c31, hp⟩
    ·
     refine FW.condT rfl c31 ?_
     refine FW.region ?_
     refine FL.v (E.move (v := Value.int .i64 6) rfl) ?_
     refine FL.v (E.add rfl rfl) ?_
     refine FL.v (E.assign (v := Value.int .i64 (wr (6 + 1))) rfl) ?_
     refine FL.nil (FW.seq (FW.region ?_))
     refine FL.v (E.move (v := Value.int .i64 (wr (6 + 1))) rfl) ?_
     refine FL.v (E.assign (v := Value.int .i64 (wr (6 + 1))) rfl) ?_
     refine FL.nil ?_
     refine FW.ret ?_
     obtain rfl := Option.some.inj hp
     exact ⟨.inr rfl, res1 rfl rfl ⟨rfl, S25.back⟩⟩
    ·
     refine FW.condF rfl c31 ?_
     refine FW.skip (FW.seq (FW.region ?_))
     refine FL.v (E.move (v := Value.int .i64 6) rfl) ?_
     refine FL.v (E.assign (v := Value.int .i64 6) rfl) ?_
     refine FL.nil ?_
     refine FW.ret ?_
     obtain rfl := Option.some.inj hp
     exact ⟨.inr rfl, res1 rfl rfl ⟨rfl, S25.back⟩⟩
   ·
    refine FW.condF rfl c30 ?_
    refine FW.seq (FW.region ?_)
    refine FL.v (E.eql rfl rfl) ?_
    refine FL.v (E.assign (v := Value.bool (r21.1 == 62)) rfl) ?_
    refine FL.nil ?_
    rcases ifB hp with ⟨c32, hp⟩ | ⟨c32, hp⟩
    ·
     refine FW.condT rfl c32 ?_
     refine FW.region ?_
     refine FL.v (E.assign (v := Value.int .i64 8) rfl) ?_
     refine FL.nil (FW.seq (FW.seq (FW.region ?_)))
     refine FL.v (E.move (v := Value.bool a1) rfl) ?_
     refine FL.v (E.not rfl) ?_
     refine FL.nil ?_
     rcases ifB hp with ⟨c33, hp⟩ | ⟨c33, hp⟩
     ·
      refine FW.condT rfl c33 ?_
      refine FW.region ?_
      refine FL.v (E.move (v := Value.int .i64 8) rfl) ?_
      refine FL.v (E.add rfl rfl) ?_
      refine FL.v (E.assign (v := Value.int .i64 (wr (8 + 1))) rfl) ?_
      refine FL.nil (FW.seq (FW.region ?_))
      refine FL.v (E.move (v := Value.int .i64 (wr (8 + 1))) rfl) ?_
      refine FL.v (E.assign (v := Value.int .i64 (wr (8 + 1))) rfl) ?_
      refine FL.nil ?_
      refine FW.ret ?_
      obtain rfl := Option.some.inj hp
      exact ⟨.inr rfl, res1 rfl rfl ⟨rfl, S25.back⟩⟩
     ·
      refine FW.condF rfl c33 ?_
      refine FW.skip (FW.seq (FW.region ?_))
      refine FL.v (E.move (v := Value.int .i64 8) rfl) ?_
      refine FL.v (E.assign (v := Value.int .i64 8) rfl) ?_
      refine FL.nil ?_
      refine FW.ret ?_
      obtain rfl := Option.some.inj hp
      exact ⟨.inr rfl, res1 rfl rfl ⟨rfl, S25.back⟩⟩
    ·
     refine FW.condF rfl c32 ?_
     refine FW.seq (FW.region ?_)
     refine FL.v (E.assign (v := Value.int .i64 0) rfl) ?_
     refine FL.nil ?_
     refine FW.ret ?_
     obtain rfl := Option.some.inj hp
     exact ⟨.inr rfl, res1 rfl rfl ⟨rfl, S25.back⟩⟩

@[reducible] def p_spec_l23Without (Ha : GH) (wa : World) (r : (List ByteArray)) : Ending → World → Prop :=
 fun e w' => ∃ H' : GH, ∃ v0 : Value, ∃ n0 : Nat, ∃ c0 : List Value, e = .returned (v0) ∧ St Ha wa H' w' [.row 9 1 v0 n0 c0] ∧ Els (up wa.heap.size H') eS 1 c0 r
set_option maxHeartbeats 4000000 in
theorem w_spec_l23Without {Ha : GH} {wa : World} (hs : Sl Ha wa) (v0 : Value) (a0 : List ByteArray) (p0 : RSl Ha eS 1 v0 a0) (a1 : ByteArray) {r : (List ByteArray)} (hp : (PF.spec_l23Without a0 a1) = some r) :
  Calls Tryz.prog 129 #[v0, Value.string a1] wa (p_spec_l23Without Ha wa r) := by
 unfold PF.spec_l23Without at hp
 have S0 := St.init hs
 refine calls_go (N := 28) (args := [v0, Value.string a1]) Tryz.func129 rfl rfl rfl ?_
 refine FW.seq (FW.region ?_)
 refine FL.v (E.assign (v := Value.slice none 0 0) rfl) ?_
 refine FL.nil (FW.seq (FW.region ?_))
 obtain ⟨v21, w22, run23, S24⟩ := S0.buildSlice (P := Tryz.prog) te30 [] (parts := #[]) (cells := []) rfl szs_nil fc_nil ones_nil (Nat.le_of_ble_eq_true rfl)
 have els25 : Els (up wa.heap.size Ha) eS 1 [] [] := Els.nil
 refine FL.v (E.buildSlice (B0) run23) ?_
 refine FL.v (E.assign (v := v21) rfl) ?_
 refine FL.nil (FW.seq (FW.seq (FW.region ?_)))
 refine FL.v (E.assign (v := Value.int .i64 0) rfl) ?_
 refine FL.nil ?_
 obtain ⟨q27, hq, hp⟩ := bndR hp
 refine FW.block ?_
 refine FW.mono (FW.forL (S := (List ByteArray)) (X := Empty) (fun (i27 : Nat) (s27 : (List ByteArray)) f w => ∃ H : GH, ∃ v28 : Value, ∃ n29 : Nat, ∃ cs30 : List Value, St Ha wa H w [.row 9 1 v28 n29 cs30] ∧ Inc Ha H ∧ Els (up wa.heap.size H) eS 1 cs30 s27 ∧ f 6 = Value.int .i64 ((i27 : Nat) : Int) ∧ f 0 = v0 ∧ f 1 = Value.string a1 ∧ f 5 = v28) (fun (q : Rs (List ByteArray) Empty) e f w => match q with | .go s27 => e = Exit.exit 0 ∧ (∃ H : GH, ∃ v28 : Value, ∃ n29 : Nat, ∃ cs30 : List Value, St Ha wa H w [.row 9 1 v28 n29 cs30] ∧ Inc Ha H ∧ Els (up wa.heap.size H) eS 1 cs30 s27 ∧ f 5 = v28) | .rt x => x.elim) hq ⟨_, _, _, _, S24, (Inc.rfl _), els25, rfl, rfl, rfl, rfl⟩ ?_ ?_) ?_
 ·
  clear hp hq
  rintro i27 y26 s27 f74 w73 ⟨H70, v28, n29, cs30, S71, i72, els31, k75, k76, k77, k78⟩ hx27 o108 hp
  refine FW.seq (FW.seq (FW.region ?_))
  refine FL.v (E.move k75) ?_
  refine FL.v (E.move k76) ?_
  refine FL.v (E.lenP te30 rfl p0) ?_
  refine FL.v (E.lssT rfl rfl (lss_len hx27)) ?_
  refine FL.nil ?_
  refine FW.condT rfl rfl ?_
  refine FW.skip (FW.seq (FW.block (FW.seq (FW.region ?_))))
  refine FL.v (E.move k76) ?_
  refine FL.v (E.move k75) ?_
  obtain ⟨p79, cs80, pt81, l82, at83, rel84⟩ := p0.at (ix_nat hx27)
  obtain rfl := eS_open rel84
  refine FL.v (E.indexAddr te30 rfl rfl pt81) ?_
  refine FL.v (E.load rfl (run_load0 Tryz.isAgg9 ((at83.mono i72).now S71.sl) rfl)) ?_
  refine FL.v (E.move k77) ?_
  refine FL.v (E.neqS rfl rfl) ?_
  refine FL.nil ?_
  rcases ifB hp with ⟨c85, hp⟩ | ⟨c85, hp⟩
  ·
   refine FW.condT rfl c85 ?_
   refine FW.region ?_
   refine FL.v (E.move k78) ?_
   refine FL.v (E.move k76) ?_
   refine FL.v (E.move k75) ?_
   obtain ⟨p86, cs87, pt88, l89, at90, rel91⟩ := p0.at (ix_nat hx27)
   obtain rfl := eS_open rel91
   refine FL.v (E.indexAddr te30 rfl rfl pt88) ?_
   refine FL.v (E.load rfl (run_load0 Tryz.isAgg9 ((at90.mono i72).now S71.sl) rfl)) ?_
   obtain ⟨v92, w93, run94, S95⟩ := S71.buildSlice (P := Tryz.prog) te30 [Value.string y26] (parts := #[(0, Value.string y26)]) (cells := [Value.string y26]) rfl (szs_cons rfl szs_nil) (fc_cons rfl fc_nil) (ones_cons rfl ones_nil) (Nat.le_of_ble_eq_true rfl)
   have els96 : Els (up wa.heap.size H70) eS 1 [Value.string y26] [y26] := (Els.snoc (H := (up wa.heap.size H70)) (E := eS) (k := 1) (c := [Value.string y26]) (x := y26) Els.nil rfl rfl)
   refine FL.v (E.buildSlice (B1 rfl) run94) ?_
   obtain ⟨xs97, hz98, hp⟩ := bnd hp
   obtain ⟨v99, w102, n100, cs101, run103, S104, els105, ce106⟩ := S95.appendO (P := Tryz.prog) te30 (i := 1) (j := 0) rfl els31 rfl els96 hz98
   have S104 : St Ha wa H70 w102 [.row 9 1 v92 1 [Value.string y26], .row 9 1 v99 n100 cs101] := S104
   have S107 : St Ha wa H70 w102 [.row 9 1 v99 n100 cs101] := S104.drop 0
   refine FL.v (E.append rfl rfl run103) ?_
   refine FL.v (E.assign (v := v99) rfl) ?_
   refine FL.nil (FW.region ?_)
   refine FL.v (E.move k75) ?_
   refine FL.v (E.add rfl rfl) ?_
   refine FL.v (E.assign (v := Value.int .i64 (wr (((i27 : Nat) : Int) + 1))) rfl) ?_
   refine FL.nil ?_
   obtain rfl := Option.some.inj hp
   exact ⟨rfl, ⟨_, _, _, _, S107, i72, els105, (nat_succ rfl (lt_of_get hx27) (p0.mono i72).le), k76, k77, rfl⟩⟩
  ·
   refine FW.condF rfl c85 ?_
   refine FW.skip (FW.region ?_)
   refine FL.v (E.move k75) ?_
   refine FL.v (E.add rfl rfl) ?_
   refine FL.v (E.assign (v := Value.int .i64 (wr (((i27 : Nat) : Int) + 1))) rfl) ?_
   refine FL.nil ?_
   obtain rfl := Option.some.inj hp
   exact ⟨rfl, ⟨_, _, _, _, S71, i72, els31, (nat_succ rfl (lt_of_get hx27) (p0.mono i72).le), k76, k77, k78⟩⟩
 ·
  clear hp hq
  rintro s27 f119 w118 ⟨H115, v28, n29, cs30, S116, i117, els31, k120, k121, k122, k123⟩
  refine FW.seq (FW.seq (FW.region ?_))
  refine FL.v (E.move k120) ?_
  refine FL.v (E.move k121) ?_
  refine FL.v (E.lenP te30 rfl p0) ?_
  refine FL.v (E.lss rfl rfl) ?_
  refine FL.nil ?_
  refine FW.condF rfl dlt_len ?_
  refine FW.exit ?_
  exact ⟨nofun, rfl, ⟨_, _, _, _, S116, i117, els31, k123⟩⟩
 ·
  clear hq
  intro e f113 w112 hD
  rcases q27 with s27 | x27
  ·
   obtain ⟨rfl, hD⟩ := hD
   obtain ⟨H109, v28, n29, cs30, S110, i111, els31, k114⟩ := hD
   replace hp := el_go hp
   refine FW.seq (FW.region ?_)
   refine FL.v (E.move k114) ?_
   refine FL.v (E.assign (v := v28) rfl) ?_
   refine FL.nil ?_
   refine FW.ret ?_
   obtain rfl := Option.some.inj hp
   exact ⟨.inr rfl, res1 rfl rfl ⟨_, _, _, _, rfl, S110, els31⟩⟩
  ·
   exact x27.elim

@[reducible] def p_spec_l22Put (Ha : GH) (wa : World) (r : (List ByteArray)) : Ending → World → Prop :=
 fun e w' => ∃ H' : GH, ∃ v0 : Value, e = .returned (v0) ∧ Run wa.heap.size Ha wa H' w' ∧ RSl H' eS 1 v0 r
set_option maxHeartbeats 4000000 in
theorem w_spec_l22Put {Ha : GH} {wa : World} (hs : Sl Ha wa) (v0 : Value) (a0 : List ByteArray) (p0 : RSl Ha eS 1 v0 a0) (a1 : ByteArray) {r : (List ByteArray)} (hp : (PF.spec_l22Put a0 a1) = some r) :
  Calls Tryz.prog 153 #[v0, Value.string a1] wa (p_spec_l22Put Ha wa r) := by
 unfold PF.spec_l22Put at hp
 have S0 := St.init hs
 refine calls_go (N := 45) (args := [v0, Value.string a1]) Tryz.func153 rfl rfl rfl ?_
 refine FW.seq (FW.region ?_)
 refine FL.v (E.assign (v := Value.slice none 0 0) rfl) ?_
 refine FL.nil (FW.seq (FW.region ?_))
 refine FL.v (E.assign (v := Value.int .i64 0) rfl) ?_
 refine FL.nil (FW.seq ?_)
 obtain ⟨q21, hq, hp⟩ := bndR hp
 refine FW.block ?_
 refine FW.mono (FW.iter (S := Int) (X := Empty) (fun (s21 : Int) f w => ∃ H : GH, St Ha wa H w [] ∧ Inc Ha H ∧ f 0 = v0 ∧ f 1 = Value.string a1 ∧ f 5 = Value.int .i64 s21) (fun (q : Rs Int Empty) e f w => match q with | .go s21 => e = Exit.exit 0 ∧ (∃ H : GH, St Ha wa H w [] ∧ Inc Ha H ∧ f 0 = v0 ∧ f 1 = Value.string a1 ∧ f 5 = Value.int .i64 s21) | .rt x => x.elim) hq ⟨_, S0, (Inc.rfl _), rfl, rfl, rfl⟩ ?_) ?_
 ·
  clear hp hq
  rintro s21 f68 w67 ⟨H64, S65, i66, k69, k70, k71⟩ o106 hp
  refine FW.seq (FW.seq (FW.region ?_))
  refine FL.v (E.move k71) ?_
  refine FL.v (E.move k69) ?_
  refine FL.v (E.lenP te30 rfl p0) ?_
  refine FL.v (E.lss rfl rfl) ?_
  refine FL.v (E.move (v := Value.bool (decide (s21 < (len a0)))) rfl) ?_
  obtain ⟨t83, hqt83, hp⟩ := bnd hp
  refine FL.cut 7 (fun f w => ∃ H : GH, St Ha wa H w [] ∧ Inc H64 H ∧ f 0 = v0 ∧ f 1 = Value.string a1 ∧ f 5 = Value.int .i64 s21 ∧ f 17 = Value.bool t83) ?_ ?_
  ·
   clear hp; have hp := hqt83; clear hqt83
   rcases ifB hp with ⟨c89, hp⟩ | ⟨c89, hp⟩
   ·
    refine FL.val (wF_yes rfl rfl rfl c89) rfl rfl (E.move k69) ?_
    refine FL.val (wF_yes rfl rfl rfl c89) rfl rfl (E.move k71) ?_
    obtain ⟨x96, hx97, hp⟩ := bnd hp
    obtain ⟨p90, cs91, pt92, l93, at94, rel95⟩ := p0.at hx97
    obtain rfl := eS_open rel95
    refine FL.val (wF_yes rfl rfl rfl c89) rfl rfl (E.indexAddr te30 rfl rfl pt92) ?_
    refine FL.val (wF_yes rfl rfl rfl c89) rfl rfl (E.load rfl (run_load0 Tryz.isAgg9 ((at94.mono i66).now S65.sl) rfl)) ?_
    refine FL.val (wF_yes rfl rfl rfl c89) rfl rfl (E.move k70) ?_
    refine FL.call (wF_yes rfl rfl rfl c89) rfl rfl (E.call Tryz.call126 (A2 rfl rfl)) (w_spec_l22Before S65.sl x96 a1) ?_
    rintro e w98 ⟨rfl, r99⟩
    refine ⟨_, rfl, ?_⟩
    have S100 := S65.call r99
    obtain rfl := Option.some.inj hp
    refine FL.v (E.pickT rfl c89 rfl) ?_
    exact FL.nil ⟨rfl, _, S100, (Inc.rfl _), k69, k70, k71, rfl⟩
   ·
    refine FL.skip (wF_no rfl rfl rfl c89) rfl ?_
    refine FL.skip (wF_no rfl rfl rfl c89) rfl ?_
    refine FL.skip (wF_no rfl rfl rfl c89) rfl ?_
    refine FL.skip (wF_no rfl rfl rfl c89) rfl ?_
    refine FL.skip (wF_no rfl rfl rfl c89) rfl ?_
    refine FL.skip (wF_no rfl rfl rfl c89) rfl ?_
    obtain rfl := Option.some.inj hp
    refine FL.v (E.pickF rfl c89 rfl) ?_
    exact FL.nil ⟨rfl, _, S65, (Inc.rfl _), k69, k70, k71, rfl⟩
  rintro f88 w87 ⟨H84, S85, i86, k101, k102, k103, k104⟩
  refine FL.nil ?_
  rcases ifB hp with ⟨c105, hp⟩ | ⟨c105, hp⟩
  ·
   refine FW.condT k104 c105 ?_
   refine FW.skip (FW.block (FW.region ?_))
   refine FL.v (E.move k103) ?_
   refine FL.v (E.add rfl rfl) ?_
   refine FL.v (E.assign (v := Value.int .i64 (wr (s21 + 1))) rfl) ?_
   refine FL.nil ?_
   obtain rfl := Option.some.inj hp
   exact ⟨rfl, ⟨_, S85, (i66.tr i86), k101, k102, rfl⟩⟩
  ·
   refine FW.condF k104 c105 ?_
   refine FW.exit ?_
   obtain rfl := Option.some.inj hp
   exact ⟨nofun, rfl, ⟨_, S85, (i66.tr i86), k101, k102, k103⟩⟩
 ·
  clear hq
  intro e f111 w110 hD
  rcases q21 with s21 | x21
  ·
   obtain ⟨rfl, hD⟩ := hD
   obtain ⟨H107, S108, i109, k112, k113, k114⟩ := hD
   replace hp := el_go hp
   refine FW.seq (FW.seq (FW.region ?_))
   refine FL.v (E.move k114) ?_
   refine FL.v (E.move k112) ?_
   refine FL.v (E.lenP te30 rfl p0) ?_
   refine FL.v (E.lss rfl rfl) ?_
   refine FL.v (E.move (v := Value.bool (decide (s21 < (len a0)))) rfl) ?_
   obtain ⟨t123, hqt123, hp⟩ := bnd hp
   refine FL.cut 7 (fun f w => ∃ H : GH, St Ha wa H w [] ∧ Inc H107 H ∧ f 0 = v0 ∧ f 1 = Value.string a1 ∧ f 5 = Value.int .i64 s21 ∧ f 31 = Value.bool t123) ?_ ?_
   ·
    clear hp; have hp := hqt123; clear hqt123
    rcases ifB hp with ⟨c129, hp⟩ | ⟨c129, hp⟩
    ·
     refine FL.val (wF_yes rfl rfl rfl c129) rfl rfl (E.move k112) ?_
     refine FL.val (wF_yes rfl rfl rfl c129) rfl rfl (E.move k114) ?_
     obtain ⟨x136, hx137, hp⟩ := bnd hp
     obtain ⟨p130, cs131, pt132, l133, at134, rel135⟩ := p0.at hx137
     obtain rfl := eS_open rel135
     refine FL.val (wF_yes rfl rfl rfl c129) rfl rfl (E.indexAddr te30 rfl rfl pt132) ?_
     refine FL.val (wF_yes rfl rfl rfl c129) rfl rfl (E.load rfl (run_load0 Tryz.isAgg9 ((at134.mono i109).now S108.sl) rfl)) ?_
     refine FL.val (wF_yes rfl rfl rfl c129) rfl rfl (E.move k113) ?_
     refine FL.val (wF_yes rfl rfl rfl c129) rfl rfl (E.eqlS rfl rfl) ?_
     obtain rfl := Option.some.inj hp
     refine FL.v (E.pickT rfl c129 rfl) ?_
     exact FL.nil ⟨rfl, _, S108, (Inc.rfl _), k112, k113, k114, rfl⟩
    ·
     refine FL.skip (wF_no rfl rfl rfl c129) rfl ?_
     refine FL.skip (wF_no rfl rfl rfl c129) rfl ?_
     refine FL.skip (wF_no rfl rfl rfl c129) rfl ?_
     refine FL.skip (wF_no rfl rfl rfl c129) rfl ?_
     refine FL.skip (wF_no rfl rfl rfl c129) rfl ?_
     refine FL.skip (wF_no rfl rfl rfl c129) rfl ?_
     obtain rfl := Option.some.inj hp
     refine FL.v (E.pickF rfl c129 rfl) ?_
     exact FL.nil ⟨rfl, _, S108, (Inc.rfl _), k112, k113, k114, rfl⟩
   rintro f128 w127 ⟨H124, S125, i126, k138, k139, k140, k141⟩
   refine FL.nil ?_
   rcases ifB hp with ⟨c142, hp⟩ | ⟨c142, hp⟩
   ·
    refine FW.condT k141 c142 ?_
    refine FW.seq (FW.region ?_)
    refine FL.v (E.move k138) ?_
    refine FL.v (E.assign (v := v0) rfl) ?_
    refine FL.nil ?_
    refine FW.ret ?_
    obtain rfl := Option.some.inj hp
    exact ⟨.inr rfl, res1 rfl rfl ⟨_, _, rfl, S125.run, (p0.mono (i109.tr i126))⟩⟩
   ·
    refine FW.condF k141 c142 ?_
    refine FW.skip (FW.seq ?_)
    obtain ⟨xs27, hc28, hp⟩ := bnd hp
    obtain ⟨xs33, hz34, hp⟩ := bnd hp
    obtain ⟨xs47, hz48, hp⟩ := bnd hp
    obtain ⟨xs58, hc59, hp⟩ := bnd hp
    obtain ⟨xs63, hz72, hp⟩ := bnd hp
    refine FW.drawB (Sl H124) (fun f w => ∃ H : GH, ∃ v80 : Value, ∃ n81 : Nat, ∃ cs82 : List Value, St Ha wa H w [.row 9 1 v80 n81 cs82] ∧ Inc H124 H ∧ Els (up wa.heap.size H) eS 1 cs82 xs63 ∧ f 4 = v80) (by kernel_rfl) S125.sl ?_ ?_
    ·
     intro w143 r144
     have S145 := S125.call r144
     refine FB.t (i := 1) (bs 13 2) rfl (SP.nil S145.sl) rfl (fun w' hw' => (E.move k138)) ?_
     refine FB.t (i := 2) (bs 13 6) rfl (SP.nil S145.sl) rfl (fun w' hw' => (E.move k140)) ?_
     obtain ⟨v29, run31, h32⟩ := p0.cut te30 hc28 (lo := none) (hi := some (Value.int .i64 s21)) (.inl ⟨rfl, rfl⟩) (.inr ⟨_, rfl⟩)
     refine FB.t (i := 3) (bs 13 14) rfl (SP.nil S145.sl) rfl (fun w' hw' => (E.slice te30 rfl rfl (congrArg some rfl) rfl (run31 _))) ?_
     refine FB.t (i := 5) (bs 13 46) rfl (SP.nil S145.sl) rfl (fun w' hw' => (E.move k139)) ?_
     refine FB.t (i := 8) (bs 13 302) rfl (SP.nil S145.sl) rfl (fun w' hw' => (E.move k138)) ?_
     refine FB.t (i := 9) (bs 13 814) rfl (SP.nil S145.sl) rfl (fun w' hw' => (E.move k140)) ?_
     obtain ⟨v60, run61, h62⟩ := p0.cut te30 hc59 (lo := some (Value.int .i64 s21)) (hi := none) (.inr ⟨_, rfl⟩) (.inl ⟨rfl, rfl⟩)
     refine FB.t (i := 10) (bs 13 1838) rfl (SP.nil S145.sl) rfl (fun w' hw' => (E.slice te30 rfl (congrArg some rfl) rfl rfl (run61 _))) ?_
     refine FB.all2 (i := 0) (j := 6) (by kernel_rfl) ?_ ?_
     ·
      obtain ⟨v22, w23, run24, S25⟩ := S145.buildSlice (P := Tryz.prog) te30 [] (parts := #[]) (cells := []) rfl szs_nil fc_nil ones_nil (Nat.le_of_ble_eq_true rfl)
      have els26 : Els (up wa.heap.size H124) eS 1 [] [] := Els.nil
      refine FC.val (l' := (bs 13 1839)) rfl (by kernel_rfl) rfl rfl rfl (E.buildSlice (B0) run24) ?_
      refine ⟨(SP.nil S25.sl), ?_⟩
      refine FB.all2 (i := 4) (j := 6) (by kernel_rfl) ?_ ?_
      ·
       obtain ⟨v35, w38, n36, cs37, run39, S40, els41⟩ := S25.appendP (P := Tryz.prog) (Inc.rfl _) te30 (i := 0) rfl (els26.mono upI) (h32.mono (i109.tr i126)) hz34
       have S40 : St Ha wa H124 w38 [.row 9 1 v35 n36 cs37] := S40
       have els41 : Els (up wa.heap.size H124) eS 1 cs37 xs33 := els41.any (fun _ _ _ _ h => h)
       refine FC.val (l' := (bs 13 1855)) rfl (by kernel_rfl) rfl rfl rfl (E.append rfl rfl run39) ?_
       refine ⟨(SP.nil S40.sl), ?_⟩
       refine FB.all1 (i := 6) (by kernel_rfl) ?_
       ·
        obtain ⟨v42, w43, run44, S45⟩ := S40.buildSlice (P := Tryz.prog) te30 [Value.string a1] (parts := #[(0, Value.string a1)]) (cells := [Value.string a1]) rfl (szs_cons rfl szs_nil) (fc_cons rfl fc_nil) (ones_cons rfl ones_nil) (Nat.le_of_ble_eq_true rfl)
        have els46 : Els (up wa.heap.size H124) eS 1 [Value.string a1] [a1] := (Els.snoc (H := (up wa.heap.size H124)) (E := eS) (k := 1) (c := [Value.string a1]) (x := a1) Els.nil rfl rfl)
        refine FC.val (l' := (bs 13 1919)) rfl (by kernel_rfl) rfl rfl rfl (E.buildSlice (B1 rfl) run44) ?_
        refine ⟨(SP.nil S45.sl), ?_⟩
        refine FB.all1 (i := 7) (by kernel_rfl) ?_
        ·
         obtain ⟨v49, w52, n50, cs51, run53, S54, els55, ce56⟩ := S45.appendO (P := Tryz.prog) te30 (i := 1) (j := 0) rfl els41 rfl els46 hz48
         have S54 : St Ha wa H124 w52 [.row 9 1 v42 1 [Value.string a1], .row 9 1 v49 n50 cs51] := S54
         have S57 : St Ha wa H124 w52 [.row 9 1 v49 n50 cs51] := S54.drop 0
         refine FC.val (l' := (bs 13 2047)) rfl (by kernel_rfl) rfl rfl rfl (E.append rfl rfl run53) ?_
         refine ⟨(SP.nil S57.sl), ?_⟩
         refine FB.all1 (i := 11) (by kernel_rfl) ?_
         ·
          obtain ⟨v73, w76, n74, cs75, run77, S78, els79⟩ := S57.appendP (P := Tryz.prog) (Inc.rfl _) te30 (i := 0) rfl (els55.mono upI) (h62.mono (i109.tr i126)) hz72
          have S78 : St Ha wa H124 w76 [.row 9 1 v73 n74 cs75] := S78
          have els79 : Els (up wa.heap.size H124) eS 1 cs75 xs63 := els79.any (fun _ _ _ _ h => h)
          refine FC.val (l' := (bs 13 4095)) rfl (by kernel_rfl) rfl rfl rfl (E.append rfl rfl run77) ?_
          refine ⟨(SP.nil S78.sl), ?_⟩
          refine FB.t (i := 12) (bs 13 8191) rfl (SP.nil S78.sl) rfl (fun w' hw' => (E.assign (v := v73) rfl)) ?_
          exact FB.done (by kernel_rfl) ⟨_, _, _, _, S78, (Inc.rfl _), els79, rfl⟩
      ·
       obtain ⟨v42, w43, run44, S45⟩ := S25.buildSlice (P := Tryz.prog) te30 [Value.string a1] (parts := #[(0, Value.string a1)]) (cells := [Value.string a1]) rfl (szs_cons rfl szs_nil) (fc_cons rfl fc_nil) (ones_cons rfl ones_nil) (Nat.le_of_ble_eq_true rfl)
       have els46 : Els (up wa.heap.size H124) eS 1 [Value.string a1] [a1] := (Els.snoc (H := (up wa.heap.size H124)) (E := eS) (k := 1) (c := [Value.string a1]) (x := a1) Els.nil rfl rfl)
       refine FC.val (l' := (bs 13 1903)) rfl (by kernel_rfl) rfl rfl rfl (E.buildSlice (B1 rfl) run44) ?_
       refine ⟨(SP.nil S45.sl), ?_⟩
       refine FB.all1 (i := 4) (by kernel_rfl) ?_
       ·
        obtain ⟨v35, w38, n36, cs37, run39, S40, els41⟩ := S45.appendP (P := Tryz.prog) (Inc.rfl _) te30 (i := 1) rfl (els26.mono upI) (h32.mono (i109.tr i126)) hz34
        have S40 : St Ha wa H124 w38 [.row 9 1 v42 1 [Value.string a1], .row 9 1 v35 n36 cs37] := S40
        have els41 : Els (up wa.heap.size H124) eS 1 cs37 xs33 := els41.any (fun _ _ _ _ h => h)
        refine FC.val (l' := (bs 13 1919)) rfl (by kernel_rfl) rfl rfl rfl (E.append rfl rfl run39) ?_
        refine ⟨(SP.nil S40.sl), ?_⟩
        refine FB.all1 (i := 7) (by kernel_rfl) ?_
        ·
         obtain ⟨v49, w52, n50, cs51, run53, S54, els55, ce56⟩ := S40.appendO (P := Tryz.prog) te30 (i := 1) (j := 0) rfl els41 rfl els46 hz48
         have S54 : St Ha wa H124 w52 [.row 9 1 v42 1 [Value.string a1], .row 9 1 v49 n50 cs51] := S54
         have S57 : St Ha wa H124 w52 [.row 9 1 v49 n50 cs51] := S54.drop 0
         refine FC.val (l' := (bs 13 2047)) rfl (by kernel_rfl) rfl rfl rfl (E.append rfl rfl run53) ?_
         refine ⟨(SP.nil S57.sl), ?_⟩
         refine FB.all1 (i := 11) (by kernel_rfl) ?_
         ·
          obtain ⟨v73, w76, n74, cs75, run77, S78, els79⟩ := S57.appendP (P := Tryz.prog) (Inc.rfl _) te30 (i := 0) rfl (els55.mono upI) (h62.mono (i109.tr i126)) hz72
          have S78 : St Ha wa H124 w76 [.row 9 1 v73 n74 cs75] := S78
          have els79 : Els (up wa.heap.size H124) eS 1 cs75 xs63 := els79.any (fun _ _ _ _ h => h)
          refine FC.val (l' := (bs 13 4095)) rfl (by kernel_rfl) rfl rfl rfl (E.append rfl rfl run77) ?_
          refine ⟨(SP.nil S78.sl), ?_⟩
          refine FB.t (i := 12) (bs 13 8191) rfl (SP.nil S78.sl) rfl (fun w' hw' => (E.assign (v := v73) rfl)) ?_
          exact FB.done (by kernel_rfl) ⟨_, _, _, _, S78, (Inc.rfl _), els79, rfl⟩
     ·
      obtain ⟨v42, w43, run44, S45⟩ := S145.buildSlice (P := Tryz.prog) te30 [Value.string a1] (parts := #[(0, Value.string a1)]) (cells := [Value.string a1]) rfl (szs_cons rfl szs_nil) (fc_cons rfl fc_nil) (ones_cons rfl ones_nil) (Nat.le_of_ble_eq_true rfl)
      have els46 : Els (up wa.heap.size H124) eS 1 [Value.string a1] [a1] := (Els.snoc (H := (up wa.heap.size H124)) (E := eS) (k := 1) (c := [Value.string a1]) (x := a1) Els.nil rfl rfl)
      refine FC.val (l' := (bs 13 1902)) rfl (by kernel_rfl) rfl rfl rfl (E.buildSlice (B1 rfl) run44) ?_
      refine ⟨(SP.nil S45.sl), ?_⟩
      refine FB.all1 (i := 0) (by kernel_rfl) ?_
      ·
       obtain ⟨v22, w23, run24, S25⟩ := S45.buildSlice (P := Tryz.prog) te30 [] (parts := #[]) (cells := []) rfl szs_nil fc_nil ones_nil (Nat.le_of_ble_eq_true rfl)
       have els26 : Els (up wa.heap.size H124) eS 1 [] [] := Els.nil
       refine FC.val (l' := (bs 13 1903)) rfl (by kernel_rfl) rfl rfl rfl (E.buildSlice (B0) run24) ?_
       refine ⟨(SP.nil S25.sl), ?_⟩
       refine FB.all1 (i := 4) (by kernel_rfl) ?_
       ·
        obtain ⟨v35, w38, n36, cs37, run39, S40, els41⟩ := S25.appendP (P := Tryz.prog) (Inc.rfl _) te30 (i := 0) rfl (els26.mono upI) (h32.mono (i109.tr i126)) hz34
        have S40 : St Ha wa H124 w38 [.row 9 1 v35 n36 cs37, .row 9 1 v42 1 [Value.string a1]] := S40
        have els41 : Els (up wa.heap.size H124) eS 1 cs37 xs33 := els41.any (fun _ _ _ _ h => h)
        refine FC.val (l' := (bs 13 1919)) rfl (by kernel_rfl) rfl rfl rfl (E.append rfl rfl run39) ?_
        refine ⟨(SP.nil S40.sl), ?_⟩
        refine FB.all1 (i := 7) (by kernel_rfl) ?_
        ·
         obtain ⟨v49, w52, n50, cs51, run53, S54, els55, ce56⟩ := S40.appendO (P := Tryz.prog) te30 (i := 0) (j := 1) rfl els41 rfl els46 hz48
         have S54 : St Ha wa H124 w52 [.row 9 1 v49 n50 cs51, .row 9 1 v42 1 [Value.string a1]] := S54
         have S57 : St Ha wa H124 w52 [.row 9 1 v49 n50 cs51] := S54.drop 1
         refine FC.val (l' := (bs 13 2047)) rfl (by kernel_rfl) rfl rfl rfl (E.append rfl rfl run53) ?_
         refine ⟨(SP.nil S57.sl), ?_⟩
         refine FB.all1 (i := 11) (by kernel_rfl) ?_
         ·
          obtain ⟨v73, w76, n74, cs75, run77, S78, els79⟩ := S57.appendP (P := Tryz.prog) (Inc.rfl _) te30 (i := 0) rfl (els55.mono upI) (h62.mono (i109.tr i126)) hz72
          have S78 : St Ha wa H124 w76 [.row 9 1 v73 n74 cs75] := S78
          have els79 : Els (up wa.heap.size H124) eS 1 cs75 xs63 := els79.any (fun _ _ _ _ h => h)
          refine FC.val (l' := (bs 13 4095)) rfl (by kernel_rfl) rfl rfl rfl (E.append rfl rfl run77) ?_
          refine ⟨(SP.nil S78.sl), ?_⟩
          refine FB.t (i := 12) (bs 13 8191) rfl (SP.nil S78.sl) rfl (fun w' hw' => (E.assign (v := v73) rfl)) ?_
          exact FB.done (by kernel_rfl) ⟨_, _, _, _, S78, (Inc.rfl _), els79, rfl⟩
    ·
     rintro f120 w119 ⟨H116, v80, n81, cs82, S117, i118, els115, k121⟩
     refine FW.ret ?_
     obtain ⟨H122, S146, i147, h148, nv149⟩ := S117.sealRowU (i := 0) (l' := []) rfl els115 (by decide) rfl
     obtain rfl := Option.some.inj hp
     exact ⟨.inr rfl, res1 rfl k121 ⟨_, _, rfl, S146.run, (h148.mono upI)⟩⟩
  ·
   exact x21.elim

@[reducible] def p_spec_l23With (Ha : GH) (wa : World) (r : (List ByteArray)) : Ending → World → Prop :=
 fun e w' => ∃ H' : GH, ∃ v0 : Value, e = .returned (v0) ∧ Run wa.heap.size Ha wa H' w' ∧ RSl H' eS 1 v0 r
theorem w_spec_l23With {Ha : GH} {wa : World} (hs : Sl Ha wa) (v0 : Value) (a0 : List ByteArray) (p0 : RSl Ha eS 1 v0 a0) (a1 : ByteArray) {r : (List ByteArray)} (hp : (PF.spec_l23With a0 a1) = some r) :
  Calls Tryz.prog 130 #[v0, Value.string a1] wa (p_spec_l23With Ha wa r) := by
 unfold PF.spec_l23With at hp
 have S0 := St.init hs
 refine calls_go (N := 10) (args := [v0, Value.string a1]) Tryz.func130 rfl rfl rfl ?_
 refine FW.seq (FW.region ?_)
 refine FL.v (E.assign (v := Value.slice none 0 0) rfl) ?_
 refine FL.nil (FW.seq (FW.region ?_))
 obtain ⟨v21, w22, run23, S24⟩ := S0.buildSlice (P := Tryz.prog) te30 [] (parts := #[]) (cells := []) rfl szs_nil fc_nil ones_nil (Nat.le_of_ble_eq_true rfl)
 have els25 : Els (up wa.heap.size Ha) eS 1 [] [] := Els.nil
 refine FL.v (E.buildSlice (B0) run23) ?_
 refine FL.v (E.move (v := v0) rfl) ?_
 obtain ⟨xs26, hz27, hp⟩ := bnd hp
 obtain ⟨v28, w31, n29, cs30, run32, S33, els34⟩ := S24.appendP (P := Tryz.prog) (Inc.rfl _) te30 (i := 0) rfl (els25.mono upI) p0 hz27
 have S33 : St Ha wa Ha w31 [.row 9 1 v28 n29 cs30] := S33
 have els34 : Els (up wa.heap.size Ha) eS 1 cs30 xs26 := els34.any (fun _ _ _ _ h => h)
 refine FL.v (E.append rfl rfl run32) ?_
 refine FL.v (E.move (v := Value.string a1) rfl) ?_
 obtain ⟨H36, S37, i38, h39, nv40⟩ := S33.sealRowU (i := 0) (l' := []) rfl els34 (by decide) rfl
 obtain ⟨r41, hr42, hp⟩ := bnd hp
 refine FL.call rfl rfl rfl (E.call Tryz.call153 (A2 rfl rfl)) (w_spec_l22Put S37.sl v28 xs26 (h39.mono upI) a1 hr42) ?_
 rintro e w44 ⟨H43, v47, rfl, r46, h48⟩
 refine ⟨_, rfl, ?_⟩
 have S45 := S37.call r46
 refine FL.v (E.assign (v := v47) rfl) ?_
 refine FL.nil ?_
 refine FW.ret ?_
 obtain rfl := Option.some.inj hp
 exact ⟨.inr rfl, res1 rfl rfl ⟨_, _, rfl, S45.run, h48⟩⟩

@[reducible] def p_spec_l23Premises (Ha : GH) (wa : World) (r : (List Sequent)) : Ending → World → Prop :=
 fun e w' => ∃ H' : GH, ∃ v0 : Value, ∃ n0 : Nat, ∃ c0 : List Value, e = .returned (v0) ∧ St Ha wa H' w' [.row 51 2 v0 n0 c0] ∧ Els H' eSequent 2 c0 r
set_option maxHeartbeats 4000000 in
theorem w_spec_l23Premises {Ha : GH} {wa : World} (hs : Sl Ha wa) (a0 : Sequent) (v0_0 : Value) (p0_0 : RSl Ha eS 1 v0_0 a0.left) (v0_1 : Value) (p0_1 : RSl Ha eS 1 v0_1 a0.right) (a1 : Int) (a2 : ByteArray) {r : (List Sequent)} (hp : (PF.spec_l23Premises a0 a1 a2) = some r) :
  Calls Tryz.prog 93 #[Value.agg #[v0_0, v0_1], Value.int .i64 a1, Value.string a2] wa (p_spec_l23Premises Ha wa r) := by
 unfold PF.spec_l23Premises at hp
 have S0 := St.init hs
 refine calls_go (N := 138) (args := [Value.agg #[v0_0, v0_1], Value.int .i64 a1, Value.string a2]) Tryz.func93 rfl rfl rfl ?_
 refine FW.seq (FW.region ?_)
 obtain ⟨b21, w22, run23, S24⟩ := S0.box (P := Tryz.prog) 51 [v0_0, v0_1] (v := Value.agg #[v0_0, v0_1]) rfl (ones_cons p0_0.one (ones_cons p0_1.one ones_nil))
 refine FL.v (E.box rfl run23) ?_
 obtain ⟨H25, S26, i27, at28⟩ := S24.sealBox (i := 0) (l' := []) rfl rfl
 refine FL.v (E.assign (v := Value.slice none 0 0) rfl) ?_
 refine FL.nil (FW.seq (FW.region ?_))
 refine FL.v (E.move (v := Value.string a2) rfl) ?_
 obtain ⟨r29, hr30, hp⟩ := bnd hp
 refine FL.call rfl rfl rfl (E.call Tryz.call69 (A1 rfl)) (w_spec_l22Parts S26.sl a2 hr30) ?_
 rintro e w31 ⟨rfl, r32⟩
 refine ⟨_, rfl, ?_⟩
 have S33 := S26.call r32
 refine FL.v (E.move (v := Value.tuple #[Value.int .u8 r29.1, Value.string r29.2.1, Value.string r29.2.2]) rfl) ?_
 refine FL.v (E.extract (i := 0) rfl rfl) ?_
 refine FL.v (E.extract (i := 1) rfl rfl) ?_
 refine FL.v (E.extract (i := 2) rfl rfl) ?_
 refine FL.v (E.assign (v := Value.int .u8 r29.1) rfl) ?_
 refine FL.v (E.assign (v := Value.string r29.2.1) rfl) ?_
 refine FL.v (E.assign (v := Value.string r29.2.2) rfl) ?_
 refine FL.nil (FW.seq ?_)
 obtain ⟨r37, hr38, hp⟩ := bnd hp
 obtain ⟨r47, hr48, hp⟩ := bnd hp
 refine FW.drawB (Sl H25) (fun f w => ∃ H : GH, ∃ v58 : Value, ∃ n59 : Nat, ∃ cs60 : List Value, ∃ v62 : Value, ∃ n63 : Nat, ∃ cs64 : List Value, St Ha wa H w [.row 9 1 v58 n59 cs60, .row 9 1 v62 n63 cs64] ∧ Inc H25 H ∧ Els (up wa.heap.size H) eS 1 cs60 r37 ∧ Els (up wa.heap.size H) eS 1 cs64 r47 ∧ f 1 = Value.int .i64 a1 ∧ f 2 = Value.string a2 ∧ f 3 = Value.pointer (some ⟨b21, 0, none⟩) ∧ f 8 = Value.string r29.2.1 ∧ f 9 = Value.string r29.2.2 ∧ f 10 = v58 ∧ f 11 = v62) (by kernel_rfl) S33.sl ?_ ?_
 ·
  intro w34 r35
  have S36 := S33.call r35
  refine FB.t (i := 0) (bs 10 1) rfl (SP.nil S36.sl) rfl (fun w' hw' => (E.fieldAddr tf51_0 rfl)) ?_
  refine FB.t (i := 1) (bs 10 3) rfl (SP.nil S36.sl) rfl (fun w' hw' => (E.load rfl (run_load1 Tryz.isAgg30 (at28.now hw') rfl))) ?_
  refine FB.t (i := 2) (bs 10 7) rfl (SP.nil S36.sl) rfl (fun w' hw' => (E.move (v := Value.string a2) rfl)) ?_
  refine FB.t (i := 4) (bs 10 23) rfl (SP.nil S36.sl) rfl (fun w' hw' => (E.fieldAddr tf51_1 rfl)) ?_
  refine FB.t (i := 5) (bs 10 55) rfl (SP.nil S36.sl) rfl (fun w' hw' => (E.load rfl (run_load1 Tryz.isAgg30 (at28.now hw') rfl))) ?_
  refine FB.t (i := 6) (bs 10 119) rfl (SP.nil S36.sl) rfl (fun w' hw' => (E.move (v := Value.string a2) rfl)) ?_
  refine FB.all1 (i := 3) (by kernel_rfl) ?_
  ·
   refine FC.call (l' := (bs 10 127)) rfl (by kernel_rfl) rfl rfl rfl (E.call Tryz.call129 (A2 rfl rfl)) (w_spec_l23Without S36.sl v0_0 a0.left (p0_0.mono i27) a2 hr38) ?_
   rintro e w40 ⟨H39, v43, n44, cs45, rfl, r42, els46⟩
   refine ⟨_, rfl, ?_⟩
   have els46 := els46.mono (up_le S36.size)
   have S41 := S36.join (l' := [.row 9 1 v43 n44 cs45]) r42 rfl
   refine ⟨(SP.nil (Sl.of_inc r42.run.inc S41.sl)), ?_⟩
   refine FB.all1 (i := 7) (by kernel_rfl) ?_
   ·
    refine FC.call (l' := (bs 10 255)) rfl (by kernel_rfl) rfl rfl rfl (E.call Tryz.call129 (A2 rfl rfl)) (w_spec_l23Without S41.sl v0_1 a0.right (p0_1.mono (i27.tr r42.run.inc)) a2 hr48) ?_
    rintro e w50 ⟨H49, v54, n55, cs56, rfl, r53, els57⟩
    refine ⟨_, rfl, ?_⟩
    have els57 := els57.mono (up_le S41.size)
    have S52 := S41.join (l' := [.row 9 1 v54 n55 cs56, .row 9 1 v43 n44 cs45]) r53 rfl
    refine ⟨(SP.nil (Sl.of_inc (r42.run.inc.tr r53.run.inc) S52.sl)), ?_⟩
    refine FB.t (i := 8) (bs 10 511) rfl (SP.nil (Sl.of_inc (r42.run.inc.tr r53.run.inc) S52.sl)) rfl (fun w' hw' => (E.assign (v := v43) rfl)) ?_
    refine FB.t (i := 9) (bs 10 1023) rfl (SP.nil (Sl.of_inc (r42.run.inc.tr r53.run.inc) S52.sl)) rfl (fun w' hw' => (E.assign (v := v54) rfl)) ?_
    exact FB.done (by kernel_rfl) ⟨_, _, _, _, _, _, _, (S52.sel [1, 0] (by decide) rfl), (r42.run.inc.tr r53.run.inc), (els46.mono (up_mono r53.run.inc)), els57, rfl, rfl, rfl, rfl, rfl, rfl, rfl⟩
 ·
  rintro f70 w69 ⟨H66, v58, n59, cs60, v62, n63, cs64, S67, i68, els61, els65, k71, k72, k73, k74, k75, k76, k77⟩
  refine FW.seq (FW.seq (FW.region ?_))
  refine FL.v (E.move k71) ?_
  refine FL.nil (FW.block (FW.seq (FW.region ?_)))
  refine FL.v (E.eql rfl rfl) ?_
  refine FL.v (E.assign (v := Value.bool (a1 == 2)) rfl) ?_
  refine FL.nil ?_
  rcases ifB hp with ⟨c78, hp⟩ | ⟨c78, hp⟩
  ·
   refine FW.condT rfl c78 ?_
   refine FW.seq (FW.region ?_)
   refine FL.v (E.move k76) ?_
   refine FL.v (E.fieldAddr tf51_1 k73) ?_
   refine FL.v (E.load rfl (run_load1 Tryz.isAgg30 ((at28.mono i68).now S67.sl) rfl)) ?_
   refine FL.v (E.move k74) ?_
   obtain ⟨r79, hr80, hp⟩ := bnd hp
   refine FL.call rfl rfl rfl (E.call Tryz.call130 (A2 rfl rfl)) (w_spec_l23With S67.sl v0_1 a0.right (p0_1.mono (i27.tr i68)) r29.2.1 hr80) ?_
   rintro e w82 ⟨H81, v85, rfl, r84, h86⟩
   refine ⟨_, rfl, ?_⟩
   have S83 := S67.call r84
   refine FL.v (E.build (B2 rfl rfl) (run_build _ 51 #[(0, v58), (1, v85)] #[v58, v85] (by obtain ⟨_, _, rfl⟩ := RSl.ln h86; obtain ⟨_, _, rfl⟩ := S83.row_ln (i := 0) rfl; rfl))) ?_
   obtain ⟨H87, S88, i89, h90, nv91⟩ := S83.sealRowU (i := 0) (l' := [.row 9 1 v62 n63 cs64]) rfl (els61.mono (up_mono r84.inc)) (by decide) rfl
   obtain ⟨v92, w93, run94, S95⟩ := S88.buildSlice (P := Tryz.prog) te130 [Value.agg #[v58, v85]] (parts := #[(0, Value.agg #[v58, v85])]) (cells := [v58, v85]) rfl (szs_cons rfl szs_nil) (fc_cons rfl fc_nil) (ones_cons h90.one (ones_cons h86.one ones_nil)) (Nat.le_of_ble_eq_true rfl)
   have els96 : Els H87 eSequent 2 [v58, v85] [(Sequent.mk r37 r79)] := (Els.snoc (H := H87) (E := eSequent) (k := 2) (c := [v58, v85]) (x := (Sequent.mk r37 r79)) Els.nil rfl ⟨_, _, rfl, (h90.mono upI), (h86.mono i89)⟩)
   refine FL.v (E.buildSlice (B1 rfl) run94) ?_
   refine FL.v (E.assign (v := v92) rfl) ?_
   refine FL.nil ?_
   refine FW.ret ?_
   obtain rfl := Option.some.inj hp
   exact ⟨.inr rfl, res1 rfl rfl ⟨_, _, _, _, rfl, (S95.sel [0] (by decide) rfl), els96⟩⟩
  ·
   refine FW.condF rfl c78 ?_
   refine FW.seq (FW.region ?_)
   refine FL.v (E.eql rfl rfl) ?_
   refine FL.v (E.assign (v := Value.bool (a1 == 3)) rfl) ?_
   refine FL.nil ?_
   rcases ifB hp with ⟨c97, hp⟩ | ⟨c97, hp⟩
   ·
    refine FW.condT rfl c97 ?_
    refine FW.seq (FW.region ?_)
    refine FL.v (E.fieldAddr tf51_0 k73) ?_
    refine FL.v (E.load rfl (run_load1 Tryz.isAgg30 ((at28.mono i68).now S67.sl) rfl)) ?_
    refine FL.v (E.move k74) ?_
    obtain ⟨r98, hr99, hp⟩ := bnd hp
    refine FL.call rfl rfl rfl (E.call Tryz.call130 (A2 rfl rfl)) (w_spec_l23With S67.sl v0_0 a0.left (p0_0.mono (i27.tr i68)) r29.2.1 hr99) ?_
    rintro e w101 ⟨H100, v104, rfl, r103, h105⟩
    refine ⟨_, rfl, ?_⟩
    have S102 := S67.call r103
    refine FL.v (E.move k77) ?_
    refine FL.v (E.build (B2 rfl rfl) (run_build _ 51 #[(0, v104), (1, v62)] #[v104, v62] (by obtain ⟨_, _, rfl⟩ := RSl.ln h105; obtain ⟨_, _, rfl⟩ := S102.row_ln (i := 1) rfl; rfl))) ?_
    obtain ⟨H106, S107, i108, h109, nv110⟩ := S102.sealRowU (i := 1) (l' := [.row 9 1 v58 n59 cs60]) rfl (els65.mono (up_mono r103.inc)) (by decide) rfl
    obtain ⟨v111, w112, run113, S114⟩ := S107.buildSlice (P := Tryz.prog) te130 [Value.agg #[v104, v62]] (parts := #[(0, Value.agg #[v104, v62])]) (cells := [v104, v62]) rfl (szs_cons rfl szs_nil) (fc_cons rfl fc_nil) (ones_cons h105.one (ones_cons h109.one ones_nil)) (Nat.le_of_ble_eq_true rfl)
    have els115 : Els H106 eSequent 2 [v104, v62] [(Sequent.mk r98 r47)] := (Els.snoc (H := H106) (E := eSequent) (k := 2) (c := [v104, v62]) (x := (Sequent.mk r98 r47)) Els.nil rfl ⟨_, _, rfl, (h105.mono i108), (h109.mono upI)⟩)
    refine FL.v (E.buildSlice (B1 rfl) run113) ?_
    refine FL.v (E.assign (v := v111) rfl) ?_
    refine FL.nil ?_
    refine FW.ret ?_
    obtain rfl := Option.some.inj hp
    exact ⟨.inr rfl, res1 rfl rfl ⟨_, _, _, _, rfl, (S114.sel [0] (by decide) rfl), els115⟩⟩
   ·
    refine FW.condF rfl c97 ?_
    refine FW.seq (FW.region ?_)
    refine FL.v (E.eql rfl rfl) ?_
    refine FL.v (E.assign (v := Value.bool (a1 == 4)) rfl) ?_
    refine FL.nil ?_
    rcases ifB hp with ⟨c116, hp⟩ | ⟨c116, hp⟩
    ·
     refine FW.condT rfl c116 ?_
     refine FW.seq ?_
     obtain ⟨s120, hq120, hp⟩ := bnd hp
     obtain ⟨r156, hr157, hp⟩ := bnd hp
     refine FW.drawB (Sl H66) (fun f w => ∃ H : GH, ∃ v169 : Value, ∃ n170 : Nat, ∃ cs171 : List Value, St Ha wa H w [.row 51 2 v169 n170 cs171] ∧ Inc H66 H ∧ Els H eSequent 2 cs171 [(Sequent.mk r156 a0.right)] ∧ f 6 = v169) (by kernel_rfl) S67.sl ?_ ?_
     ·
      intro w117 r118
      have S119 := S67.call r118
      refine FB.t (i := 0) (bs 10 1) rfl (SP.nil S119.sl) rfl (fun w' hw' => (E.move k76)) ?_
      refine FB.t (i := 1) (bs 10 3) rfl (SP.nil S119.sl) rfl (fun w' hw' => (E.move k74)) ?_
      refine FB.t (i := 3) (bs 10 11) rfl (SP.nil S119.sl) rfl (fun w' hw' => (E.move k75)) ?_
      refine FB.t (i := 5) (bs 10 43) rfl (SP.nil S119.sl) rfl (fun w' hw' => (E.fieldAddr tf51_1 k73)) ?_
      refine FB.t (i := 6) (bs 10 107) rfl (SP.nil S119.sl) rfl (fun w' hw' => (E.load rfl (run_load1 Tryz.isAgg30 ((at28.mono i68).now hw') rfl))) ?_
      refine FB.all1 (i := 2) (by kernel_rfl) ?_
      ·
       obtain ⟨R120, hR120⟩ : ∃ R120 : (List ByteArray) → Ending → World → Prop, R120 = (fun s120 e w => ∃ H : GH, ∃ v121 : Value, e = Ending.returned (v121) ∧ St Ha wa H w [.row 9 1 v58 n59 cs60, .row 9 1 v62 n63 cs64] ∧ Inc H66 H ∧ RSl H eS 1 v121 s120) := ⟨_, rfl⟩
       have hc120 : Calls Tryz.prog 130 #[v58, Value.string r29.2.1] w117 (R120 s120) := by
        clear hp; have hp := hq120; clear hq120
        refine calls_go (N := 10) (args := [v58, Value.string r29.2.1]) Tryz.func130 rfl rfl rfl ?_
        refine FW.seq (FW.region ?_)
        refine FL.v (E.assign (v := Value.slice none 0 0) rfl) ?_
        refine FL.nil (FW.seq (FW.region ?_))
        obtain ⟨v123, w124, run125, S126⟩ := S119.buildSlice (P := Tryz.prog) te30 [] (parts := #[]) (cells := []) rfl szs_nil fc_nil ones_nil (Nat.le_of_ble_eq_true rfl)
        have els127 : Els (up wa.heap.size H66) eS 1 [] [] := Els.nil
        refine FL.v (E.buildSlice (B0) run125) ?_
        refine FL.v (E.move (v := v58) rfl) ?_
        obtain ⟨xs128, hz129, hp⟩ := bnd hp
        obtain ⟨v131, w134, n132, cs133, run135, S136, els137, ce138⟩ := S126.appendO (P := Tryz.prog) te30 (i := 0) (j := 1) rfl els127 rfl els61 hz129
        have S136 : St Ha wa H66 w134 [.row 9 1 v131 n132 cs133, .row 9 1 v58 n59 cs60, .row 9 1 v62 n63 cs64] := S136
        refine FL.v (E.append rfl rfl run135) ?_
        refine FL.v (E.move (v := Value.string r29.2.1) rfl) ?_
        obtain ⟨H139, S140, i141, h142, nv143⟩ := S136.sealRowU (i := 0) (l' := [.row 9 1 v58 n59 cs60, .row 9 1 v62 n63 cs64]) rfl els137 (by decide) rfl
        obtain ⟨r144, hr145, hp⟩ := bnd hp
        refine FL.call rfl rfl rfl (E.call Tryz.call153 (A2 rfl rfl)) (w_spec_l22Put S140.sl v131 xs128 (h142.mono upI) r29.2.1 hr145) ?_
        rintro e w147 ⟨H146, v150, rfl, r149, h151⟩
        refine ⟨_, rfl, ?_⟩
        have S148 := S140.call r149
        refine FL.v (E.assign (v := v150) rfl) ?_
        refine FL.nil ?_
        refine FW.ret ?_
        obtain rfl := Option.some.inj hp
        exact ⟨.inr rfl, res1 rfl rfl (by rw [hR120]; exact ⟨_, _, rfl, S148, (i141.tr r149.inc), h151⟩)⟩
       clear hq120
       refine FC.call (l' := (bs 10 111)) rfl (by kernel_rfl) rfl rfl rfl (E.call Tryz.call130 (A2 rfl rfl)) hc120 ?_
       intro e w155 hQ120
       rw [hR120] at hQ120
       obtain ⟨H152, v121, rfl, S153, i154, h122⟩ := hQ120
       refine ⟨_, rfl, ?_⟩
       refine ⟨(SP.nil (Sl.of_inc i154 S153.sl)), ?_⟩
       refine FB.all1 (i := 4) (by kernel_rfl) ?_
       ·
        refine FC.call (l' := (bs 10 127)) rfl (by kernel_rfl) rfl rfl rfl (E.call Tryz.call130 (A2 rfl rfl)) (w_spec_l23With S153.sl v121 s120 h122 r29.2.2 hr157) ?_
        rintro e w159 ⟨H158, v162, rfl, r161, h163⟩
        refine ⟨_, rfl, ?_⟩
        have S160 := S153.call r161
        refine ⟨(SP.nil (Sl.of_inc (i154.tr r161.inc) S160.sl)), ?_⟩
        refine FB.t (i := 7) (bs 10 255) rfl (SP.nil (Sl.of_inc (i154.tr r161.inc) S160.sl)) rfl (fun w' hw' => (E.build (B2 rfl rfl) (run_build _ 51 #[(0, v162), (1, v0_1)] #[v162, v0_1] (by obtain ⟨_, _, rfl⟩ := RSl.ln h163; obtain ⟨_, _, rfl⟩ := RSl.ln (p0_1.mono (((i27.tr i68).tr i154).tr r161.inc)); rfl)))) ?_
        refine FB.all1 (i := 8) (by kernel_rfl) ?_
        ·
         obtain ⟨v164, w165, run166, S167⟩ := S160.buildSlice (P := Tryz.prog) te130 [Value.agg #[v162, v0_1]] (parts := #[(0, Value.agg #[v162, v0_1])]) (cells := [v162, v0_1]) rfl (szs_cons rfl szs_nil) (fc_cons rfl fc_nil) (ones_cons h163.one (ones_cons p0_1.one ones_nil)) (Nat.le_of_ble_eq_true rfl)
         have els168 : Els H158 eSequent 2 [v162, v0_1] [(Sequent.mk r156 a0.right)] := (Els.snoc (H := H158) (E := eSequent) (k := 2) (c := [v162, v0_1]) (x := (Sequent.mk r156 a0.right)) Els.nil rfl ⟨_, _, rfl, h163, (p0_1.mono (((i27.tr i68).tr i154).tr r161.inc))⟩)
         refine FC.val (l' := (bs 10 511)) rfl (by kernel_rfl) rfl rfl rfl (E.buildSlice (B1 rfl) run166) ?_
         refine ⟨(SP.nil (Sl.of_inc (i154.tr r161.inc) S167.sl)), ?_⟩
         refine FB.t (i := 9) (bs 10 1023) rfl (SP.nil (Sl.of_inc (i154.tr r161.inc) S167.sl)) rfl (fun w' hw' => (E.assign (v := v164) rfl)) ?_
         exact FB.done (by kernel_rfl) ⟨_, _, _, _, (S167.sel [0] (by decide) rfl), (i154.tr r161.inc), els168, rfl⟩
     ·
      rintro f177 w176 ⟨H173, v169, n170, cs171, S174, i175, els172, k178⟩
      refine FW.ret ?_
      obtain rfl := Option.some.inj hp
      exact ⟨.inr rfl, res1 rfl k178 ⟨_, _, _, _, rfl, S174, els172⟩⟩
    ·
     refine FW.condF rfl c116 ?_
     refine FW.seq (FW.region ?_)
     refine FL.v (E.eql rfl rfl) ?_
     refine FL.v (E.assign (v := Value.bool (a1 == 5)) rfl) ?_
     refine FL.nil ?_
     rcases ifB hp with ⟨c179, hp⟩ | ⟨c179, hp⟩
     ·
      refine FW.condT rfl c179 ?_
      refine FW.seq ?_
      obtain ⟨s183, hq183, hp⟩ := bnd hp
      obtain ⟨s218, hq218, hp⟩ := bnd hp
      refine FW.drawB (Sl H66) (fun f w => ∃ H : GH, ∃ v258 : Value, ∃ n259 : Nat, ∃ cs260 : List Value, St Ha wa H w [.row 51 2 v258 n259 cs260] ∧ Inc H66 H ∧ Els H eSequent 2 cs260 [(Sequent.mk a0.left s183), (Sequent.mk a0.left s218)] ∧ f 6 = v258) (by kernel_rfl) S67.sl ?_ ?_
      ·
       intro w180 r181
       have S182 := S67.call r181
       refine FB.t (i := 0) (bs 14 1) rfl (SP.nil S182.sl) rfl (fun w' hw' => (E.fieldAddr tf51_0 k73)) ?_
       refine FB.t (i := 1) (bs 14 3) rfl (SP.nil S182.sl) rfl (fun w' hw' => (E.load rfl (run_load1 Tryz.isAgg30 ((at28.mono i68).now hw') rfl))) ?_
       refine FB.t (i := 2) (bs 14 7) rfl (SP.nil S182.sl) rfl (fun w' hw' => (E.move k77)) ?_
       refine FB.t (i := 3) (bs 14 15) rfl (SP.nil S182.sl) rfl (fun w' hw' => (E.move k74)) ?_
       refine FB.t (i := 6) (bs 14 79) rfl (SP.nil S182.sl) rfl (fun w' hw' => (E.fieldAddr tf51_0 k73)) ?_
       refine FB.t (i := 7) (bs 14 207) rfl (SP.nil S182.sl) rfl (fun w' hw' => (E.load rfl (run_load1 Tryz.isAgg30 ((at28.mono i68).now hw') rfl))) ?_
       refine FB.t (i := 8) (bs 14 463) rfl (SP.nil S182.sl) rfl (fun w' hw' => (E.move k77)) ?_
       refine FB.t (i := 9) (bs 14 975) rfl (SP.nil S182.sl) rfl (fun w' hw' => (E.move k75)) ?_
       refine FB.all1 (i := 4) (by kernel_rfl) ?_
       ·
        obtain ⟨R183, hR183⟩ : ∃ R183 : (List ByteArray) → Ending → World → Prop, R183 = (fun s183 e w => ∃ H : GH, ∃ v184 : Value, e = Ending.returned (v184) ∧ St Ha wa H w [.row 9 1 v58 n59 cs60, .row 9 1 v62 n63 cs64] ∧ Inc H66 H ∧ RSl H eS 1 v184 s183) := ⟨_, rfl⟩
        have hc183 : Calls Tryz.prog 130 #[v62, Value.string r29.2.1] w180 (R183 s183) := by
         clear hp; have hp := hq183; clear hq183
         refine calls_go (N := 10) (args := [v62, Value.string r29.2.1]) Tryz.func130 rfl rfl rfl ?_
         refine FW.seq (FW.region ?_)
         refine FL.v (E.assign (v := Value.slice none 0 0) rfl) ?_
         refine FL.nil (FW.seq (FW.region ?_))
         obtain ⟨v186, w187, run188, S189⟩ := S182.buildSlice (P := Tryz.prog) te30 [] (parts := #[]) (cells := []) rfl szs_nil fc_nil ones_nil (Nat.le_of_ble_eq_true rfl)
         have els190 : Els (up wa.heap.size H66) eS 1 [] [] := Els.nil
         refine FL.v (E.buildSlice (B0) run188) ?_
         refine FL.v (E.move (v := v62) rfl) ?_
         obtain ⟨xs191, hz192, hp⟩ := bnd hp
         obtain ⟨v193, w196, n194, cs195, run197, S198, els199, ce200⟩ := S189.appendO (P := Tryz.prog) te30 (i := 0) (j := 2) rfl els190 rfl els65 hz192
         have S198 : St Ha wa H66 w196 [.row 9 1 v193 n194 cs195, .row 9 1 v58 n59 cs60, .row 9 1 v62 n63 cs64] := S198
         refine FL.v (E.append rfl rfl run197) ?_
         refine FL.v (E.move (v := Value.string r29.2.1) rfl) ?_
         obtain ⟨H201, S202, i203, h204, nv205⟩ := S198.sealRowU (i := 0) (l' := [.row 9 1 v58 n59 cs60, .row 9 1 v62 n63 cs64]) rfl els199 (by decide) rfl
         obtain ⟨r206, hr207, hp⟩ := bnd hp
         refine FL.call rfl rfl rfl (E.call Tryz.call153 (A2 rfl rfl)) (w_spec_l22Put S202.sl v193 xs191 (h204.mono upI) r29.2.1 hr207) ?_
         rintro e w209 ⟨H208, v212, rfl, r211, h213⟩
         refine ⟨_, rfl, ?_⟩
         have S210 := S202.call r211
         refine FL.v (E.assign (v := v212) rfl) ?_
         refine FL.nil ?_
         refine FW.ret ?_
         obtain rfl := Option.some.inj hp
         exact ⟨.inr rfl, res1 rfl rfl (by rw [hR183]; exact ⟨_, _, rfl, S210, (i203.tr r211.inc), h213⟩)⟩
        clear hq183
        refine FC.call (l' := (bs 14 991)) rfl (by kernel_rfl) rfl rfl rfl (E.call Tryz.call130 (A2 rfl rfl)) hc183 ?_
        intro e w217 hQ183
        rw [hR183] at hQ183
        obtain ⟨H214, v184, rfl, S215, i216, h185⟩ := hQ183
        refine ⟨_, rfl, ?_⟩
        refine ⟨(SP.nil (Sl.of_inc i216 S215.sl)), ?_⟩
        refine FB.t (i := 5) (bs 14 1023) rfl (SP.nil (Sl.of_inc i216 S215.sl)) rfl (fun w' hw' => (E.build (B2 rfl rfl) (run_build _ 51 #[(0, v0_0), (1, v184)] #[v0_0, v184] (by obtain ⟨_, _, rfl⟩ := RSl.ln (p0_0.mono ((i27.tr i68).tr i216)); obtain ⟨_, _, rfl⟩ := RSl.ln h185; rfl)))) ?_
        refine FB.all1 (i := 10) (by kernel_rfl) ?_
        ·
         obtain ⟨R218, hR218⟩ : ∃ R218 : (List ByteArray) → Ending → World → Prop, R218 = (fun s218 e w => ∃ H : GH, ∃ v219 : Value, e = Ending.returned (v219) ∧ St Ha wa H w [.row 9 1 v58 n59 cs60, .row 9 1 v62 n63 cs64] ∧ Inc H214 H ∧ RSl H eS 1 v219 s218) := ⟨_, rfl⟩
         have hc218 : Calls Tryz.prog 130 #[v62, Value.string r29.2.2] w217 (R218 s218) := by
          clear hp; have hp := hq218; clear hq218
          refine calls_go (N := 10) (args := [v62, Value.string r29.2.2]) Tryz.func130 rfl rfl rfl ?_
          refine FW.seq (FW.region ?_)
          refine FL.v (E.assign (v := Value.slice none 0 0) rfl) ?_
          refine FL.nil (FW.seq (FW.region ?_))
          obtain ⟨v221, w222, run223, S224⟩ := S215.buildSlice (P := Tryz.prog) te30 [] (parts := #[]) (cells := []) rfl szs_nil fc_nil ones_nil (Nat.le_of_ble_eq_true rfl)
          have els225 : Els (up wa.heap.size H214) eS 1 [] [] := Els.nil
          refine FL.v (E.buildSlice (B0) run223) ?_
          refine FL.v (E.move (v := v62) rfl) ?_
          obtain ⟨xs226, hz227, hp⟩ := bnd hp
          obtain ⟨v228, w231, n229, cs230, run232, S233, els234, ce235⟩ := S224.appendO (P := Tryz.prog) te30 (i := 0) (j := 2) rfl els225 rfl (els65.mono (up_mono i216)) hz227
          have S233 : St Ha wa H214 w231 [.row 9 1 v228 n229 cs230, .row 9 1 v58 n59 cs60, .row 9 1 v62 n63 cs64] := S233
          refine FL.v (E.append rfl rfl run232) ?_
          refine FL.v (E.move (v := Value.string r29.2.2) rfl) ?_
          obtain ⟨H236, S237, i238, h239, nv240⟩ := S233.sealRowU (i := 0) (l' := [.row 9 1 v58 n59 cs60, .row 9 1 v62 n63 cs64]) rfl els234 (by decide) rfl
          obtain ⟨r241, hr242, hp⟩ := bnd hp
          refine FL.call rfl rfl rfl (E.call Tryz.call153 (A2 rfl rfl)) (w_spec_l22Put S237.sl v228 xs226 (h239.mono upI) r29.2.2 hr242) ?_
          rintro e w244 ⟨H243, v247, rfl, r246, h248⟩
          refine ⟨_, rfl, ?_⟩
          have S245 := S237.call r246
          refine FL.v (E.assign (v := v247) rfl) ?_
          refine FL.nil ?_
          refine FW.ret ?_
          obtain rfl := Option.some.inj hp
          exact ⟨.inr rfl, res1 rfl rfl (by rw [hR218]; exact ⟨_, _, rfl, S245, (i238.tr r246.inc), h248⟩)⟩
         clear hq218
         refine FC.call (l' := (bs 14 2047)) rfl (by kernel_rfl) rfl rfl rfl (E.call Tryz.call130 (A2 rfl rfl)) hc218 ?_
         intro e w252 hQ218
         rw [hR218] at hQ218
         obtain ⟨H249, v219, rfl, S250, i251, h220⟩ := hQ218
         refine ⟨_, rfl, ?_⟩
         refine ⟨(SP.nil (Sl.of_inc (i216.tr i251) S250.sl)), ?_⟩
         refine FB.t (i := 11) (bs 14 4095) rfl (SP.nil (Sl.of_inc (i216.tr i251) S250.sl)) rfl (fun w' hw' => (E.build (B2 rfl rfl) (run_build _ 51 #[(0, v0_0), (1, v219)] #[v0_0, v219] (by obtain ⟨_, _, rfl⟩ := RSl.ln (p0_0.mono (((i27.tr i68).tr i216).tr i251)); obtain ⟨_, _, rfl⟩ := RSl.ln h220; rfl)))) ?_
         refine FB.all1 (i := 12) (by kernel_rfl) ?_
         ·
          obtain ⟨v253, w254, run255, S256⟩ := S250.buildSlice (P := Tryz.prog) te130 [Value.agg #[v0_0, v184], Value.agg #[v0_0, v219]] (parts := #[(0, Value.agg #[v0_0, v184]), (1, Value.agg #[v0_0, v219])]) (cells := [v0_0, v184, v0_0, v219]) rfl (szs_cons rfl (szs_cons rfl szs_nil)) (fc_cons rfl (fc_cons rfl fc_nil)) (ones_cons p0_0.one (ones_cons h185.one (ones_cons p0_0.one (ones_cons h220.one ones_nil)))) (Nat.le_of_ble_eq_true rfl)
          have els257 : Els H249 eSequent 2 [v0_0, v184, v0_0, v219] [(Sequent.mk a0.left s183), (Sequent.mk a0.left s218)] := (Els.snoc (H := H249) (E := eSequent) (k := 2) (c := [v0_0, v219]) (x := (Sequent.mk a0.left s218)) (Els.snoc (H := H249) (E := eSequent) (k := 2) (c := [v0_0, v184]) (x := (Sequent.mk a0.left s183)) Els.nil rfl ⟨_, _, rfl, (p0_0.mono (((i27.tr i68).tr i216).tr i251)), (h185.mono i251)⟩) rfl ⟨_, _, rfl, (p0_0.mono (((i27.tr i68).tr i216).tr i251)), h220⟩)
          refine FC.val (l' := (bs 14 8191)) rfl (by kernel_rfl) rfl rfl rfl (E.buildSlice (B2 rfl rfl) run255) ?_
          refine ⟨(SP.nil (Sl.of_inc (i216.tr i251) S256.sl)), ?_⟩
          refine FB.t (i := 13) (bs 14 16383) rfl (SP.nil (Sl.of_inc (i216.tr i251) S256.sl)) rfl (fun w' hw' => (E.assign (v := v253) rfl)) ?_
          exact FB.done (by kernel_rfl) ⟨_, _, _, _, (S256.sel [0] (by decide) rfl), (i216.tr i251), els257, rfl⟩
      ·
       rintro f266 w265 ⟨H262, v258, n259, cs260, S263, i264, els261, k267⟩
       refine FW.ret ?_
       obtain rfl := Option.some.inj hp
       exact ⟨.inr rfl, res1 rfl k267 ⟨_, _, _, _, rfl, S263, els261⟩⟩
     ·
      refine FW.condF rfl c179 ?_
      refine FW.seq (FW.region ?_)
      refine FL.v (E.eql rfl rfl) ?_
      refine FL.v (E.assign (v := Value.bool (a1 == 6)) rfl) ?_
      refine FL.nil ?_
      rcases ifB hp with ⟨c268, hp⟩ | ⟨c268, hp⟩
      ·
       refine FW.condT rfl c268 ?_
       refine FW.seq ?_
       obtain ⟨s272, hq272, hp⟩ := bnd hp
       obtain ⟨s307, hq307, hp⟩ := bnd hp
       refine FW.drawB (Sl H66) (fun f w => ∃ H : GH, ∃ v347 : Value, ∃ n348 : Nat, ∃ cs349 : List Value, St Ha wa H w [.row 51 2 v347 n348 cs349] ∧ Inc H66 H ∧ Els H eSequent 2 cs349 [(Sequent.mk s272 a0.right), (Sequent.mk s307 a0.right)] ∧ f 6 = v347) (by kernel_rfl) S67.sl ?_ ?_
       ·
        intro w269 r270
        have S271 := S67.call r270
        refine FB.t (i := 0) (bs 14 1) rfl (SP.nil S271.sl) rfl (fun w' hw' => (E.move k76)) ?_
        refine FB.t (i := 1) (bs 14 3) rfl (SP.nil S271.sl) rfl (fun w' hw' => (E.move k74)) ?_
        refine FB.t (i := 3) (bs 14 11) rfl (SP.nil S271.sl) rfl (fun w' hw' => (E.fieldAddr tf51_1 k73)) ?_
        refine FB.t (i := 4) (bs 14 27) rfl (SP.nil S271.sl) rfl (fun w' hw' => (E.load rfl (run_load1 Tryz.isAgg30 ((at28.mono i68).now hw') rfl))) ?_
        refine FB.t (i := 6) (bs 14 91) rfl (SP.nil S271.sl) rfl (fun w' hw' => (E.move k76)) ?_
        refine FB.t (i := 7) (bs 14 219) rfl (SP.nil S271.sl) rfl (fun w' hw' => (E.move k75)) ?_
        refine FB.t (i := 9) (bs 14 731) rfl (SP.nil S271.sl) rfl (fun w' hw' => (E.fieldAddr tf51_1 k73)) ?_
        refine FB.t (i := 10) (bs 14 1755) rfl (SP.nil S271.sl) rfl (fun w' hw' => (E.load rfl (run_load1 Tryz.isAgg30 ((at28.mono i68).now hw') rfl))) ?_
        refine FB.all1 (i := 2) (by kernel_rfl) ?_
        ·
         obtain ⟨R272, hR272⟩ : ∃ R272 : (List ByteArray) → Ending → World → Prop, R272 = (fun s272 e w => ∃ H : GH, ∃ v273 : Value, e = Ending.returned (v273) ∧ St Ha wa H w [.row 9 1 v58 n59 cs60, .row 9 1 v62 n63 cs64] ∧ Inc H66 H ∧ RSl H eS 1 v273 s272) := ⟨_, rfl⟩
         have hc272 : Calls Tryz.prog 130 #[v58, Value.string r29.2.1] w269 (R272 s272) := by
          clear hp; have hp := hq272; clear hq272
          refine calls_go (N := 10) (args := [v58, Value.string r29.2.1]) Tryz.func130 rfl rfl rfl ?_
          refine FW.seq (FW.region ?_)
          refine FL.v (E.assign (v := Value.slice none 0 0) rfl) ?_
          refine FL.nil (FW.seq (FW.region ?_))
          obtain ⟨v275, w276, run277, S278⟩ := S271.buildSlice (P := Tryz.prog) te30 [] (parts := #[]) (cells := []) rfl szs_nil fc_nil ones_nil (Nat.le_of_ble_eq_true rfl)
          have els279 : Els (up wa.heap.size H66) eS 1 [] [] := Els.nil
          refine FL.v (E.buildSlice (B0) run277) ?_
          refine FL.v (E.move (v := v58) rfl) ?_
          obtain ⟨xs280, hz281, hp⟩ := bnd hp
          obtain ⟨v282, w285, n283, cs284, run286, S287, els288, ce289⟩ := S278.appendO (P := Tryz.prog) te30 (i := 0) (j := 1) rfl els279 rfl els61 hz281
          have S287 : St Ha wa H66 w285 [.row 9 1 v282 n283 cs284, .row 9 1 v58 n59 cs60, .row 9 1 v62 n63 cs64] := S287
          refine FL.v (E.append rfl rfl run286) ?_
          refine FL.v (E.move (v := Value.string r29.2.1) rfl) ?_
          obtain ⟨H290, S291, i292, h293, nv294⟩ := S287.sealRowU (i := 0) (l' := [.row 9 1 v58 n59 cs60, .row 9 1 v62 n63 cs64]) rfl els288 (by decide) rfl
          obtain ⟨r295, hr296, hp⟩ := bnd hp
          refine FL.call rfl rfl rfl (E.call Tryz.call153 (A2 rfl rfl)) (w_spec_l22Put S291.sl v282 xs280 (h293.mono upI) r29.2.1 hr296) ?_
          rintro e w298 ⟨H297, v301, rfl, r300, h302⟩
          refine ⟨_, rfl, ?_⟩
          have S299 := S291.call r300
          refine FL.v (E.assign (v := v301) rfl) ?_
          refine FL.nil ?_
          refine FW.ret ?_
          obtain rfl := Option.some.inj hp
          exact ⟨.inr rfl, res1 rfl rfl (by rw [hR272]; exact ⟨_, _, rfl, S299, (i292.tr r300.inc), h302⟩)⟩
         clear hq272
         refine FC.call (l' := (bs 14 1759)) rfl (by kernel_rfl) rfl rfl rfl (E.call Tryz.call130 (A2 rfl rfl)) hc272 ?_
         intro e w306 hQ272
         rw [hR272] at hQ272
         obtain ⟨H303, v273, rfl, S304, i305, h274⟩ := hQ272
         refine ⟨_, rfl, ?_⟩
         refine ⟨(SP.nil (Sl.of_inc i305 S304.sl)), ?_⟩
         refine FB.t (i := 5) (bs 14 1791) rfl (SP.nil (Sl.of_inc i305 S304.sl)) rfl (fun w' hw' => (E.build (B2 rfl rfl) (run_build _ 51 #[(0, v273), (1, v0_1)] #[v273, v0_1] (by obtain ⟨_, _, rfl⟩ := RSl.ln h274; obtain ⟨_, _, rfl⟩ := RSl.ln (p0_1.mono ((i27.tr i68).tr i305)); rfl)))) ?_
         refine FB.all1 (i := 8) (by kernel_rfl) ?_
         ·
          obtain ⟨R307, hR307⟩ : ∃ R307 : (List ByteArray) → Ending → World → Prop, R307 = (fun s307 e w => ∃ H : GH, ∃ v308 : Value, e = Ending.returned (v308) ∧ St Ha wa H w [.row 9 1 v58 n59 cs60, .row 9 1 v62 n63 cs64] ∧ Inc H303 H ∧ RSl H eS 1 v308 s307) := ⟨_, rfl⟩
          have hc307 : Calls Tryz.prog 130 #[v58, Value.string r29.2.2] w306 (R307 s307) := by
           clear hp; have hp := hq307; clear hq307
           refine calls_go (N := 10) (args := [v58, Value.string r29.2.2]) Tryz.func130 rfl rfl rfl ?_
           refine FW.seq (FW.region ?_)
           refine FL.v (E.assign (v := Value.slice none 0 0) rfl) ?_
           refine FL.nil (FW.seq (FW.region ?_))
           obtain ⟨v310, w311, run312, S313⟩ := S304.buildSlice (P := Tryz.prog) te30 [] (parts := #[]) (cells := []) rfl szs_nil fc_nil ones_nil (Nat.le_of_ble_eq_true rfl)
           have els314 : Els (up wa.heap.size H303) eS 1 [] [] := Els.nil
           refine FL.v (E.buildSlice (B0) run312) ?_
           refine FL.v (E.move (v := v58) rfl) ?_
           obtain ⟨xs315, hz316, hp⟩ := bnd hp
           obtain ⟨v317, w320, n318, cs319, run321, S322, els323, ce324⟩ := S313.appendO (P := Tryz.prog) te30 (i := 0) (j := 1) rfl els314 rfl (els61.mono (up_mono i305)) hz316
           have S322 : St Ha wa H303 w320 [.row 9 1 v317 n318 cs319, .row 9 1 v58 n59 cs60, .row 9 1 v62 n63 cs64] := S322
           refine FL.v (E.append rfl rfl run321) ?_
           refine FL.v (E.move (v := Value.string r29.2.2) rfl) ?_
           obtain ⟨H325, S326, i327, h328, nv329⟩ := S322.sealRowU (i := 0) (l' := [.row 9 1 v58 n59 cs60, .row 9 1 v62 n63 cs64]) rfl els323 (by decide) rfl
           obtain ⟨r330, hr331, hp⟩ := bnd hp
           refine FL.call rfl rfl rfl (E.call Tryz.call153 (A2 rfl rfl)) (w_spec_l22Put S326.sl v317 xs315 (h328.mono upI) r29.2.2 hr331) ?_
           rintro e w333 ⟨H332, v336, rfl, r335, h337⟩
           refine ⟨_, rfl, ?_⟩
           have S334 := S326.call r335
           refine FL.v (E.assign (v := v336) rfl) ?_
           refine FL.nil ?_
           refine FW.ret ?_
           obtain rfl := Option.some.inj hp
           exact ⟨.inr rfl, res1 rfl rfl (by rw [hR307]; exact ⟨_, _, rfl, S334, (i327.tr r335.inc), h337⟩)⟩
          clear hq307
          refine FC.call (l' := (bs 14 2047)) rfl (by kernel_rfl) rfl rfl rfl (E.call Tryz.call130 (A2 rfl rfl)) hc307 ?_
          intro e w341 hQ307
          rw [hR307] at hQ307
          obtain ⟨H338, v308, rfl, S339, i340, h309⟩ := hQ307
          refine ⟨_, rfl, ?_⟩
          refine ⟨(SP.nil (Sl.of_inc (i305.tr i340) S339.sl)), ?_⟩
          refine FB.t (i := 11) (bs 14 4095) rfl (SP.nil (Sl.of_inc (i305.tr i340) S339.sl)) rfl (fun w' hw' => (E.build (B2 rfl rfl) (run_build _ 51 #[(0, v308), (1, v0_1)] #[v308, v0_1] (by obtain ⟨_, _, rfl⟩ := RSl.ln h309; obtain ⟨_, _, rfl⟩ := RSl.ln (p0_1.mono (((i27.tr i68).tr i305).tr i340)); rfl)))) ?_
          refine FB.all1 (i := 12) (by kernel_rfl) ?_
          ·
           obtain ⟨v342, w343, run344, S345⟩ := S339.buildSlice (P := Tryz.prog) te130 [Value.agg #[v273, v0_1], Value.agg #[v308, v0_1]] (parts := #[(0, Value.agg #[v273, v0_1]), (1, Value.agg #[v308, v0_1])]) (cells := [v273, v0_1, v308, v0_1]) rfl (szs_cons rfl (szs_cons rfl szs_nil)) (fc_cons rfl (fc_cons rfl fc_nil)) (ones_cons h274.one (ones_cons p0_1.one (ones_cons h309.one (ones_cons p0_1.one ones_nil)))) (Nat.le_of_ble_eq_true rfl)
           have els346 : Els H338 eSequent 2 [v273, v0_1, v308, v0_1] [(Sequent.mk s272 a0.right), (Sequent.mk s307 a0.right)] := (Els.snoc (H := H338) (E := eSequent) (k := 2) (c := [v308, v0_1]) (x := (Sequent.mk s307 a0.right)) (Els.snoc (H := H338) (E := eSequent) (k := 2) (c := [v273, v0_1]) (x := (Sequent.mk s272 a0.right)) Els.nil rfl ⟨_, _, rfl, (h274.mono i340), (p0_1.mono (((i27.tr i68).tr i305).tr i340))⟩) rfl ⟨_, _, rfl, h309, (p0_1.mono (((i27.tr i68).tr i305).tr i340))⟩)
           refine FC.val (l' := (bs 14 8191)) rfl (by kernel_rfl) rfl rfl rfl (E.buildSlice (B2 rfl rfl) run344) ?_
           refine ⟨(SP.nil (Sl.of_inc (i305.tr i340) S345.sl)), ?_⟩
           refine FB.t (i := 13) (bs 14 16383) rfl (SP.nil (Sl.of_inc (i305.tr i340) S345.sl)) rfl (fun w' hw' => (E.assign (v := v342) rfl)) ?_
           exact FB.done (by kernel_rfl) ⟨_, _, _, _, (S345.sel [0] (by decide) rfl), (i305.tr i340), els346, rfl⟩
       ·
        rintro f355 w354 ⟨H351, v347, n348, cs349, S352, i353, els350, k356⟩
        refine FW.ret ?_
        obtain rfl := Option.some.inj hp
        exact ⟨.inr rfl, res1 rfl k356 ⟨_, _, _, _, rfl, S352, els350⟩⟩
      ·
       refine FW.condF rfl c268 ?_
       refine FW.seq (FW.region ?_)
       refine FL.v (E.eql rfl rfl) ?_
       refine FL.v (E.assign (v := Value.bool (a1 == 7)) rfl) ?_
       refine FL.nil ?_
       rcases ifB hp with ⟨c357, hp⟩ | ⟨c357, hp⟩
       ·
        refine FW.condT rfl c357 ?_
        refine FW.seq ?_
        obtain ⟨s361, hq361, hp⟩ := bnd hp
        obtain ⟨r396, hr397, hp⟩ := bnd hp
        refine FW.drawB (Sl H66) (fun f w => ∃ H : GH, ∃ v409 : Value, ∃ n410 : Nat, ∃ cs411 : List Value, St Ha wa H w [.row 51 2 v409 n410 cs411] ∧ Inc H66 H ∧ Els H eSequent 2 cs411 [(Sequent.mk a0.left r396)] ∧ f 6 = v409) (by kernel_rfl) S67.sl ?_ ?_
        ·
         intro w358 r359
         have S360 := S67.call r359
         refine FB.t (i := 0) (bs 10 1) rfl (SP.nil S360.sl) rfl (fun w' hw' => (E.fieldAddr tf51_0 k73)) ?_
         refine FB.t (i := 1) (bs 10 3) rfl (SP.nil S360.sl) rfl (fun w' hw' => (E.load rfl (run_load1 Tryz.isAgg30 ((at28.mono i68).now hw') rfl))) ?_
         refine FB.t (i := 2) (bs 10 7) rfl (SP.nil S360.sl) rfl (fun w' hw' => (E.move k77)) ?_
         refine FB.t (i := 3) (bs 10 15) rfl (SP.nil S360.sl) rfl (fun w' hw' => (E.move k74)) ?_
         refine FB.t (i := 5) (bs 10 47) rfl (SP.nil S360.sl) rfl (fun w' hw' => (E.move k75)) ?_
         refine FB.all1 (i := 4) (by kernel_rfl) ?_
         ·
          obtain ⟨R361, hR361⟩ : ∃ R361 : (List ByteArray) → Ending → World → Prop, R361 = (fun s361 e w => ∃ H : GH, ∃ v362 : Value, e = Ending.returned (v362) ∧ St Ha wa H w [.row 9 1 v58 n59 cs60, .row 9 1 v62 n63 cs64] ∧ Inc H66 H ∧ RSl H eS 1 v362 s361) := ⟨_, rfl⟩
          have hc361 : Calls Tryz.prog 130 #[v62, Value.string r29.2.1] w358 (R361 s361) := by
           clear hp; have hp := hq361; clear hq361
           refine calls_go (N := 10) (args := [v62, Value.string r29.2.1]) Tryz.func130 rfl rfl rfl ?_
           refine FW.seq (FW.region ?_)
           refine FL.v (E.assign (v := Value.slice none 0 0) rfl) ?_
           refine FL.nil (FW.seq (FW.region ?_))
           obtain ⟨v364, w365, run366, S367⟩ := S360.buildSlice (P := Tryz.prog) te30 [] (parts := #[]) (cells := []) rfl szs_nil fc_nil ones_nil (Nat.le_of_ble_eq_true rfl)
           have els368 : Els (up wa.heap.size H66) eS 1 [] [] := Els.nil
           refine FL.v (E.buildSlice (B0) run366) ?_
           refine FL.v (E.move (v := v62) rfl) ?_
           obtain ⟨xs369, hz370, hp⟩ := bnd hp
           obtain ⟨v371, w374, n372, cs373, run375, S376, els377, ce378⟩ := S367.appendO (P := Tryz.prog) te30 (i := 0) (j := 2) rfl els368 rfl els65 hz370
           have S376 : St Ha wa H66 w374 [.row 9 1 v371 n372 cs373, .row 9 1 v58 n59 cs60, .row 9 1 v62 n63 cs64] := S376
           refine FL.v (E.append rfl rfl run375) ?_
           refine FL.v (E.move (v := Value.string r29.2.1) rfl) ?_
           obtain ⟨H379, S380, i381, h382, nv383⟩ := S376.sealRowU (i := 0) (l' := [.row 9 1 v58 n59 cs60, .row 9 1 v62 n63 cs64]) rfl els377 (by decide) rfl
           obtain ⟨r384, hr385, hp⟩ := bnd hp
           refine FL.call rfl rfl rfl (E.call Tryz.call153 (A2 rfl rfl)) (w_spec_l22Put S380.sl v371 xs369 (h382.mono upI) r29.2.1 hr385) ?_
           rintro e w387 ⟨H386, v390, rfl, r389, h391⟩
           refine ⟨_, rfl, ?_⟩
           have S388 := S380.call r389
           refine FL.v (E.assign (v := v390) rfl) ?_
           refine FL.nil ?_
           refine FW.ret ?_
           obtain rfl := Option.some.inj hp
           exact ⟨.inr rfl, res1 rfl rfl (by rw [hR361]; exact ⟨_, _, rfl, S388, (i381.tr r389.inc), h391⟩)⟩
          clear hq361
          refine FC.call (l' := (bs 10 63)) rfl (by kernel_rfl) rfl rfl rfl (E.call Tryz.call130 (A2 rfl rfl)) hc361 ?_
          intro e w395 hQ361
          rw [hR361] at hQ361
          obtain ⟨H392, v362, rfl, S393, i394, h363⟩ := hQ361
          refine ⟨_, rfl, ?_⟩
          refine ⟨(SP.nil (Sl.of_inc i394 S393.sl)), ?_⟩
          refine FB.all1 (i := 6) (by kernel_rfl) ?_
          ·
           refine FC.call (l' := (bs 10 127)) rfl (by kernel_rfl) rfl rfl rfl (E.call Tryz.call130 (A2 rfl rfl)) (w_spec_l23With S393.sl v362 s361 h363 r29.2.2 hr397) ?_
           rintro e w399 ⟨H398, v402, rfl, r401, h403⟩
           refine ⟨_, rfl, ?_⟩
           have S400 := S393.call r401
           refine ⟨(SP.nil (Sl.of_inc (i394.tr r401.inc) S400.sl)), ?_⟩
           refine FB.t (i := 7) (bs 10 255) rfl (SP.nil (Sl.of_inc (i394.tr r401.inc) S400.sl)) rfl (fun w' hw' => (E.build (B2 rfl rfl) (run_build _ 51 #[(0, v0_0), (1, v402)] #[v0_0, v402] (by obtain ⟨_, _, rfl⟩ := RSl.ln (p0_0.mono (((i27.tr i68).tr i394).tr r401.inc)); obtain ⟨_, _, rfl⟩ := RSl.ln h403; rfl)))) ?_
           refine FB.all1 (i := 8) (by kernel_rfl) ?_
           ·
            obtain ⟨v404, w405, run406, S407⟩ := S400.buildSlice (P := Tryz.prog) te130 [Value.agg #[v0_0, v402]] (parts := #[(0, Value.agg #[v0_0, v402])]) (cells := [v0_0, v402]) rfl (szs_cons rfl szs_nil) (fc_cons rfl fc_nil) (ones_cons p0_0.one (ones_cons h403.one ones_nil)) (Nat.le_of_ble_eq_true rfl)
            have els408 : Els H398 eSequent 2 [v0_0, v402] [(Sequent.mk a0.left r396)] := (Els.snoc (H := H398) (E := eSequent) (k := 2) (c := [v0_0, v402]) (x := (Sequent.mk a0.left r396)) Els.nil rfl ⟨_, _, rfl, (p0_0.mono (((i27.tr i68).tr i394).tr r401.inc)), h403⟩)
            refine FC.val (l' := (bs 10 511)) rfl (by kernel_rfl) rfl rfl rfl (E.buildSlice (B1 rfl) run406) ?_
            refine ⟨(SP.nil (Sl.of_inc (i394.tr r401.inc) S407.sl)), ?_⟩
            refine FB.t (i := 9) (bs 10 1023) rfl (SP.nil (Sl.of_inc (i394.tr r401.inc) S407.sl)) rfl (fun w' hw' => (E.assign (v := v404) rfl)) ?_
            exact FB.done (by kernel_rfl) ⟨_, _, _, _, (S407.sel [0] (by decide) rfl), (i394.tr r401.inc), els408, rfl⟩
        ·
         rintro f417 w416 ⟨H413, v409, n410, cs411, S414, i415, els412, k418⟩
         refine FW.ret ?_
         obtain rfl := Option.some.inj hp
         exact ⟨.inr rfl, res1 rfl k418 ⟨_, _, _, _, rfl, S414, els412⟩⟩
       ·
        refine FW.condF rfl c357 ?_
        refine FW.seq (FW.region ?_)
        refine FL.v (E.eql rfl rfl) ?_
        refine FL.v (E.assign (v := Value.bool (a1 == 8)) rfl) ?_
        refine FL.nil ?_
        rcases ifB hp with ⟨c419, hp⟩ | ⟨c419, hp⟩
        ·
         refine FW.condT rfl c419 ?_
         refine FW.seq ?_
         obtain ⟨r423, hr424, hp⟩ := bnd hp
         obtain ⟨r436, hr437, hp⟩ := bnd hp
         refine FW.drawB (Sl H66) (fun f w => ∃ H : GH, ∃ v449 : Value, ∃ n450 : Nat, ∃ cs451 : List Value, St Ha wa H w [.row 51 2 v449 n450 cs451] ∧ Inc H66 H ∧ Els H eSequent 2 cs451 [(Sequent.mk r37 r423), (Sequent.mk r436 a0.right)] ∧ f 6 = v449) (by kernel_rfl) S67.sl ?_ ?_
         ·
          intro w420 r421
          have S422 := S67.call r421
          refine FB.t (i := 0) (bs 14 1) rfl (SP.nil S422.sl) rfl (fun w' hw' => (E.move k76)) ?_
          refine FB.t (i := 1) (bs 14 3) rfl (SP.nil S422.sl) rfl (fun w' hw' => (E.fieldAddr tf51_1 k73)) ?_
          refine FB.t (i := 2) (bs 14 7) rfl (SP.nil S422.sl) rfl (fun w' hw' => (E.load rfl (run_load1 Tryz.isAgg30 ((at28.mono i68).now hw') rfl))) ?_
          refine FB.t (i := 3) (bs 14 15) rfl (SP.nil S422.sl) rfl (fun w' hw' => (E.move k74)) ?_
          refine FB.t (i := 6) (bs 14 79) rfl (SP.nil S422.sl) rfl (fun w' hw' => (E.move k76)) ?_
          refine FB.t (i := 7) (bs 14 207) rfl (SP.nil S422.sl) rfl (fun w' hw' => (E.move k75)) ?_
          refine FB.t (i := 9) (bs 14 719) rfl (SP.nil S422.sl) rfl (fun w' hw' => (E.fieldAddr tf51_1 k73)) ?_
          refine FB.t (i := 10) (bs 14 1743) rfl (SP.nil S422.sl) rfl (fun w' hw' => (E.load rfl (run_load1 Tryz.isAgg30 ((at28.mono i68).now hw') rfl))) ?_
          refine FB.all1 (i := 4) (by kernel_rfl) ?_
          ·
           refine FC.call (l' := (bs 14 1759)) rfl (by kernel_rfl) rfl rfl rfl (E.call Tryz.call130 (A2 rfl rfl)) (w_spec_l23With S422.sl v0_1 a0.right (p0_1.mono (i27.tr i68)) r29.2.1 hr424) ?_
           rintro e w426 ⟨H425, v429, rfl, r428, h430⟩
           refine ⟨_, rfl, ?_⟩
           have S427 := S422.call r428
           refine ⟨(SP.nil (Sl.of_inc r428.inc S427.sl)), ?_⟩
           obtain ⟨H431, S432, i433, h434, nv435⟩ := S427.sealRowU (i := 0) (l' := [.row 9 1 v62 n63 cs64]) rfl (els61.mono (up_mono r428.inc)) (by decide) rfl
           refine FB.t (i := 5) (bs 14 1791) rfl (SP.nil (Sl.of_inc r428.inc S427.sl)) rfl (fun w' hw' => (E.build (B2 rfl rfl) (run_build _ 51 #[(0, v58), (1, v429)] #[v58, v429] (by obtain ⟨_, _, rfl⟩ := RSl.ln (h434.mono upI); obtain ⟨_, _, rfl⟩ := RSl.ln (h430.mono i433); rfl)))) ?_
           refine FB.all1 (i := 8) (by kernel_rfl) ?_
           ·
            refine FC.call (l' := (bs 14 2047)) rfl (by kernel_rfl) rfl rfl rfl (E.call Tryz.call130 (A2 rfl rfl)) (w_spec_l23With S432.sl v58 r37 (h434.mono upI) r29.2.2 hr437) ?_
            rintro e w439 ⟨H438, v442, rfl, r441, h443⟩
            refine ⟨_, rfl, ?_⟩
            have S440 := S432.call r441
            refine ⟨(SP.nil (Sl.of_inc ((r428.inc.tr i433).tr r441.inc) S440.sl)), ?_⟩
            refine FB.t (i := 11) (bs 14 4095) rfl (SP.nil (Sl.of_inc ((r428.inc.tr i433).tr r441.inc) S440.sl)) rfl (fun w' hw' => (E.build (B2 rfl rfl) (run_build _ 51 #[(0, v442), (1, v0_1)] #[v442, v0_1] (by obtain ⟨_, _, rfl⟩ := RSl.ln h443; obtain ⟨_, _, rfl⟩ := RSl.ln (p0_1.mono ((((i27.tr i68).tr r428.inc).tr i433).tr r441.inc)); rfl)))) ?_
            refine FB.all1 (i := 12) (by kernel_rfl) ?_
            ·
             obtain ⟨v444, w445, run446, S447⟩ := S440.buildSlice (P := Tryz.prog) te130 [Value.agg #[v58, v429], Value.agg #[v442, v0_1]] (parts := #[(0, Value.agg #[v58, v429]), (1, Value.agg #[v442, v0_1])]) (cells := [v58, v429, v442, v0_1]) rfl (szs_cons rfl (szs_cons rfl szs_nil)) (fc_cons rfl (fc_cons rfl fc_nil)) (ones_cons h434.one (ones_cons h430.one (ones_cons h443.one (ones_cons p0_1.one ones_nil)))) (Nat.le_of_ble_eq_true rfl)
             have els448 : Els H438 eSequent 2 [v58, v429, v442, v0_1] [(Sequent.mk r37 r423), (Sequent.mk r436 a0.right)] := (Els.snoc (H := H438) (E := eSequent) (k := 2) (c := [v442, v0_1]) (x := (Sequent.mk r436 a0.right)) (Els.snoc (H := H438) (E := eSequent) (k := 2) (c := [v58, v429]) (x := (Sequent.mk r37 r423)) Els.nil rfl ⟨_, _, rfl, (h434.mono (upI.tr r441.inc)), (h430.mono (i433.tr r441.inc))⟩) rfl ⟨_, _, rfl, h443, (p0_1.mono ((((i27.tr i68).tr r428.inc).tr i433).tr r441.inc))⟩)
             refine FC.val (l' := (bs 14 8191)) rfl (by kernel_rfl) rfl rfl rfl (E.buildSlice (B2 rfl rfl) run446) ?_
             refine ⟨(SP.nil (Sl.of_inc ((r428.inc.tr i433).tr r441.inc) S447.sl)), ?_⟩
             refine FB.t (i := 13) (bs 14 16383) rfl (SP.nil (Sl.of_inc ((r428.inc.tr i433).tr r441.inc) S447.sl)) rfl (fun w' hw' => (E.assign (v := v444) rfl)) ?_
             exact FB.done (by kernel_rfl) ⟨_, _, _, _, (S447.sel [0] (by decide) rfl), ((r428.inc.tr i433).tr r441.inc), els448, rfl⟩
         ·
          rintro f457 w456 ⟨H453, v449, n450, cs451, S454, i455, els452, k458⟩
          refine FW.ret ?_
          obtain rfl := Option.some.inj hp
          exact ⟨.inr rfl, res1 rfl k458 ⟨_, _, _, _, rfl, S454, els452⟩⟩
        ·
         refine FW.condF rfl c419 ?_
         refine FW.seq (FW.region ?_)
         refine FL.v (E.eql rfl rfl) ?_
         refine FL.v (E.assign (v := Value.bool (a1 == 9)) rfl) ?_
         refine FL.nil ?_
         rcases ifB hp with ⟨c459, hp⟩ | ⟨c459, hp⟩
         ·
          refine FW.condT rfl c459 ?_
          refine FW.seq (FW.region ?_)
          refine FL.v (E.fieldAddr tf51_0 k73) ?_
          refine FL.v (E.load rfl (run_load1 Tryz.isAgg30 ((at28.mono i68).now S67.sl) rfl)) ?_
          refine FL.v (E.move k74) ?_
          obtain ⟨r460, hr461, hp⟩ := bnd hp
          refine FL.call rfl rfl rfl (E.call Tryz.call130 (A2 rfl rfl)) (w_spec_l23With S67.sl v0_0 a0.left (p0_0.mono (i27.tr i68)) r29.2.1 hr461) ?_
          rintro e w463 ⟨H462, v466, rfl, r465, h467⟩
          refine ⟨_, rfl, ?_⟩
          have S464 := S67.call r465
          refine FL.v (E.move k77) ?_
          refine FL.v (E.move k75) ?_
          obtain ⟨s468, hq468, hp⟩ := bnd hp
          obtain ⟨R468, hR468⟩ : ∃ R468 : (List ByteArray) → Ending → World → Prop, R468 = (fun s468 e w => ∃ H : GH, ∃ v469 : Value, e = Ending.returned (v469) ∧ St Ha wa H w [.row 9 1 v58 n59 cs60, .row 9 1 v62 n63 cs64] ∧ Inc H462 H ∧ RSl H eS 1 v469 s468) := ⟨_, rfl⟩
          have hc468 : Calls Tryz.prog 130 #[v62, Value.string r29.2.2] w463 (R468 s468) := by
           clear hp; have hp := hq468; clear hq468
           refine calls_go (N := 10) (args := [v62, Value.string r29.2.2]) Tryz.func130 rfl rfl rfl ?_
           refine FW.seq (FW.region ?_)
           refine FL.v (E.assign (v := Value.slice none 0 0) rfl) ?_
           refine FL.nil (FW.seq (FW.region ?_))
           obtain ⟨v471, w472, run473, S474⟩ := S464.buildSlice (P := Tryz.prog) te30 [] (parts := #[]) (cells := []) rfl szs_nil fc_nil ones_nil (Nat.le_of_ble_eq_true rfl)
           have els475 : Els (up wa.heap.size H462) eS 1 [] [] := Els.nil
           refine FL.v (E.buildSlice (B0) run473) ?_
           refine FL.v (E.move (v := v62) rfl) ?_
           obtain ⟨xs476, hz477, hp⟩ := bnd hp
           obtain ⟨v478, w481, n479, cs480, run482, S483, els484, ce485⟩ := S474.appendO (P := Tryz.prog) te30 (i := 0) (j := 2) rfl els475 rfl (els65.mono (up_mono r465.inc)) hz477
           have S483 : St Ha wa H462 w481 [.row 9 1 v478 n479 cs480, .row 9 1 v58 n59 cs60, .row 9 1 v62 n63 cs64] := S483
           refine FL.v (E.append rfl rfl run482) ?_
           refine FL.v (E.move (v := Value.string r29.2.2) rfl) ?_
           obtain ⟨H486, S487, i488, h489, nv490⟩ := S483.sealRowU (i := 0) (l' := [.row 9 1 v58 n59 cs60, .row 9 1 v62 n63 cs64]) rfl els484 (by decide) rfl
           obtain ⟨r491, hr492, hp⟩ := bnd hp
           refine FL.call rfl rfl rfl (E.call Tryz.call153 (A2 rfl rfl)) (w_spec_l22Put S487.sl v478 xs476 (h489.mono upI) r29.2.2 hr492) ?_
           rintro e w494 ⟨H493, v497, rfl, r496, h498⟩
           refine ⟨_, rfl, ?_⟩
           have S495 := S487.call r496
           refine FL.v (E.assign (v := v497) rfl) ?_
           refine FL.nil ?_
           refine FW.ret ?_
           obtain rfl := Option.some.inj hp
           exact ⟨.inr rfl, res1 rfl rfl (by rw [hR468]; exact ⟨_, _, rfl, S495, (i488.tr r496.inc), h498⟩)⟩
          clear hq468
          refine FL.call rfl rfl rfl (E.call Tryz.call130 (A2 rfl rfl)) hc468 ?_
          intro e w502 hQ468
          rw [hR468] at hQ468
          obtain ⟨H499, v469, rfl, S500, i501, h470⟩ := hQ468
          refine ⟨_, rfl, ?_⟩
          refine FL.v (E.build (B2 rfl rfl) (run_build _ 51 #[(0, v466), (1, v469)] #[v466, v469] (by obtain ⟨_, _, rfl⟩ := RSl.ln (h467.mono i501); obtain ⟨_, _, rfl⟩ := RSl.ln h470; rfl))) ?_
          obtain ⟨v503, w504, run505, S506⟩ := S500.buildSlice (P := Tryz.prog) te130 [Value.agg #[v466, v469]] (parts := #[(0, Value.agg #[v466, v469])]) (cells := [v466, v469]) rfl (szs_cons rfl szs_nil) (fc_cons rfl fc_nil) (ones_cons h467.one (ones_cons h470.one ones_nil)) (Nat.le_of_ble_eq_true rfl)
          have els507 : Els H499 eSequent 2 [v466, v469] [(Sequent.mk r460 s468)] := (Els.snoc (H := H499) (E := eSequent) (k := 2) (c := [v466, v469]) (x := (Sequent.mk r460 s468)) Els.nil rfl ⟨_, _, rfl, (h467.mono i501), h470⟩)
          refine FL.v (E.buildSlice (B1 rfl) run505) ?_
          refine FL.v (E.assign (v := v503) rfl) ?_
          refine FL.nil ?_
          refine FW.ret ?_
          obtain rfl := Option.some.inj hp
          exact ⟨.inr rfl, res1 rfl rfl ⟨_, _, _, _, rfl, (S506.sel [0] (by decide) rfl), els507⟩⟩
         ·
          refine FW.condF rfl c459 ?_
          refine FW.skip (FW.seq ?_)
          obtain ⟨r511, hr512, hp⟩ := bnd hp
          obtain ⟨r519, hr520, hp⟩ := bnd hp
          refine FW.drawB (Sl H66) (fun f w => ∃ H : GH, ∃ v532 : Value, ∃ n533 : Nat, ∃ cs534 : List Value, St Ha wa H w [.row 51 2 v532 n533 cs534] ∧ Inc H66 H ∧ Els H eSequent 2 cs534 [(Sequent.mk a0.left r511), (Sequent.mk r519 a0.right)] ∧ f 6 = v532) (by kernel_rfl) S67.sl ?_ ?_
          ·
           intro w508 r509
           have S510 := S67.call r509
           refine FB.t (i := 0) (bs 16 1) rfl (SP.nil S510.sl) rfl (fun w' hw' => (E.fieldAddr tf51_0 k73)) ?_
           refine FB.t (i := 1) (bs 16 3) rfl (SP.nil S510.sl) rfl (fun w' hw' => (E.load rfl (run_load1 Tryz.isAgg30 ((at28.mono i68).now hw') rfl))) ?_
           refine FB.t (i := 2) (bs 16 7) rfl (SP.nil S510.sl) rfl (fun w' hw' => (E.fieldAddr tf51_1 k73)) ?_
           refine FB.t (i := 3) (bs 16 15) rfl (SP.nil S510.sl) rfl (fun w' hw' => (E.load rfl (run_load1 Tryz.isAgg30 ((at28.mono i68).now hw') rfl))) ?_
           refine FB.t (i := 4) (bs 16 31) rfl (SP.nil S510.sl) rfl (fun w' hw' => (E.move k72)) ?_
           refine FB.t (i := 7) (bs 16 159) rfl (SP.nil S510.sl) rfl (fun w' hw' => (E.fieldAddr tf51_0 k73)) ?_
           refine FB.t (i := 8) (bs 16 415) rfl (SP.nil S510.sl) rfl (fun w' hw' => (E.load rfl (run_load1 Tryz.isAgg30 ((at28.mono i68).now hw') rfl))) ?_
           refine FB.t (i := 9) (bs 16 927) rfl (SP.nil S510.sl) rfl (fun w' hw' => (E.move k72)) ?_
           refine FB.t (i := 11) (bs 16 2975) rfl (SP.nil S510.sl) rfl (fun w' hw' => (E.fieldAddr tf51_1 k73)) ?_
           refine FB.t (i := 12) (bs 16 7071) rfl (SP.nil S510.sl) rfl (fun w' hw' => (E.load rfl (run_load1 Tryz.isAgg30 ((at28.mono i68).now hw') rfl))) ?_
           refine FB.all1 (i := 5) (by kernel_rfl) ?_
           ·
            refine FC.call (l' := (bs 16 7103)) rfl (by kernel_rfl) rfl rfl rfl (E.call Tryz.call130 (A2 rfl rfl)) (w_spec_l23With S510.sl v0_1 a0.right (p0_1.mono (i27.tr i68)) a2 hr512) ?_
            rintro e w514 ⟨H513, v517, rfl, r516, h518⟩
            refine ⟨_, rfl, ?_⟩
            have S515 := S510.call r516
            refine ⟨(SP.nil (Sl.of_inc r516.inc S515.sl)), ?_⟩
            refine FB.t (i := 6) (bs 16 7167) rfl (SP.nil (Sl.of_inc r516.inc S515.sl)) rfl (fun w' hw' => (E.build (B2 rfl rfl) (run_build _ 51 #[(0, v0_0), (1, v517)] #[v0_0, v517] (by obtain ⟨_, _, rfl⟩ := RSl.ln (p0_0.mono ((i27.tr i68).tr r516.inc)); obtain ⟨_, _, rfl⟩ := RSl.ln h518; rfl)))) ?_
            refine FB.all1 (i := 10) (by kernel_rfl) ?_
            ·
             refine FC.call (l' := (bs 16 8191)) rfl (by kernel_rfl) rfl rfl rfl (E.call Tryz.call130 (A2 rfl rfl)) (w_spec_l23With S515.sl v0_0 a0.left (p0_0.mono ((i27.tr i68).tr r516.inc)) a2 hr520) ?_
             rintro e w522 ⟨H521, v525, rfl, r524, h526⟩
             refine ⟨_, rfl, ?_⟩
             have S523 := S515.call r524
             refine ⟨(SP.nil (Sl.of_inc (r516.inc.tr r524.inc) S523.sl)), ?_⟩
             refine FB.t (i := 13) (bs 16 16383) rfl (SP.nil (Sl.of_inc (r516.inc.tr r524.inc) S523.sl)) rfl (fun w' hw' => (E.build (B2 rfl rfl) (run_build _ 51 #[(0, v525), (1, v0_1)] #[v525, v0_1] (by obtain ⟨_, _, rfl⟩ := RSl.ln h526; obtain ⟨_, _, rfl⟩ := RSl.ln (p0_1.mono (((i27.tr i68).tr r516.inc).tr r524.inc)); rfl)))) ?_
             refine FB.all1 (i := 14) (by kernel_rfl) ?_
             ·
              obtain ⟨v527, w528, run529, S530⟩ := S523.buildSlice (P := Tryz.prog) te130 [Value.agg #[v0_0, v517], Value.agg #[v525, v0_1]] (parts := #[(0, Value.agg #[v0_0, v517]), (1, Value.agg #[v525, v0_1])]) (cells := [v0_0, v517, v525, v0_1]) rfl (szs_cons rfl (szs_cons rfl szs_nil)) (fc_cons rfl (fc_cons rfl fc_nil)) (ones_cons p0_0.one (ones_cons h518.one (ones_cons h526.one (ones_cons p0_1.one ones_nil)))) (Nat.le_of_ble_eq_true rfl)
              have els531 : Els H521 eSequent 2 [v0_0, v517, v525, v0_1] [(Sequent.mk a0.left r511), (Sequent.mk r519 a0.right)] := (Els.snoc (H := H521) (E := eSequent) (k := 2) (c := [v525, v0_1]) (x := (Sequent.mk r519 a0.right)) (Els.snoc (H := H521) (E := eSequent) (k := 2) (c := [v0_0, v517]) (x := (Sequent.mk a0.left r511)) Els.nil rfl ⟨_, _, rfl, (p0_0.mono (((i27.tr i68).tr r516.inc).tr r524.inc)), (h518.mono r524.inc)⟩) rfl ⟨_, _, rfl, h526, (p0_1.mono (((i27.tr i68).tr r516.inc).tr r524.inc))⟩)
              refine FC.val (l' := (bs 16 32767)) rfl (by kernel_rfl) rfl rfl rfl (E.buildSlice (B2 rfl rfl) run529) ?_
              refine ⟨(SP.nil (Sl.of_inc (r516.inc.tr r524.inc) S530.sl)), ?_⟩
              refine FB.t (i := 15) (bs 16 65535) rfl (SP.nil (Sl.of_inc (r516.inc.tr r524.inc) S530.sl)) rfl (fun w' hw' => (E.assign (v := v527) rfl)) ?_
              exact FB.done (by kernel_rfl) ⟨_, _, _, _, (S530.sel [0] (by decide) rfl), (r516.inc.tr r524.inc), els531, rfl⟩
          ·
           rintro f540 w539 ⟨H536, v532, n533, cs534, S537, i538, els535, k541⟩
           refine FW.ret ?_
           obtain rfl := Option.some.inj hp
           exact ⟨.inr rfl, res1 rfl k541 ⟨_, _, _, _, rfl, S537, els535⟩⟩

@[reducible] def p_spec_l23Go (H0 : GH) (w0 : World) (Ha : GH) (L : List MO) (r : l23Search) : Ending → World → Prop :=
 fun e w' => ∃ H' : GH, ∃ v0_0 : Value, ∃ n0_0 : Nat, ∃ c0_0 : List Value, e = .returned (Value.agg #[v0_0, Value.bool r.open_, Value.int .i64 r.bits, Value.bool r.bad]) ∧ (St H0 w0 H' w' (.row 55 6 v0_0 n0_0 c0_0 :: L) ∧ Inc Ha H') ∧ Els H' eSeqStep 6 c0_0 r.steps
set_option maxHeartbeats 4000000 in
theorem w_spec_l23Go_B {rec_spec_l23Go : Sequent → l23Search → Option l23Search} (hrec_spec_l23Go : ∀ {H0 Ha : GH} {w0 wa : World} {L : List MO} {a1 : l23Search} {v1_0 : Value} {n1_0 : Nat} {k1_0 : List Value} (S0 : St H0 w0 Ha wa (.row 55 6 v1_0 n1_0 k1_0 :: L)) (a0 : Sequent) (v0_0 : Value) (p0_0 : RSl Ha eS 1 v0_0 a0.left) (v0_1 : Value) (p0_1 : RSl Ha eS 1 v0_1 a0.right) (p1_0 : Els Ha eSeqStep 6 k1_0 a1.steps) {r : l23Search} (hp : rec_spec_l23Go a0 a1 = some r), Calls Tryz.prog 61 #[Value.agg #[v0_0, v0_1], Value.agg #[v1_0, Value.bool a1.open_, Value.int .i64 a1.bits, Value.bool a1.bad]] wa (p_spec_l23Go H0 w0 Ha L r)) {H0 Ha : GH} {w0 wa : World} {L : List MO} {a1 : l23Search} {v1_0 : Value} {n1_0 : Nat} {k1_0 : List Value} (S0 : St H0 w0 Ha wa (.row 55 6 v1_0 n1_0 k1_0 :: L)) (a0 : Sequent) (v0_0 : Value) (p0_0 : RSl Ha eS 1 v0_0 a0.left) (v0_1 : Value) (p0_1 : RSl Ha eS 1 v0_1 a0.right) (p1_0 : Els Ha eSeqStep 6 k1_0 a1.steps) {r : l23Search} (hp : PF.spec_l23Go_B rec_spec_l23Go a0 a1 = some r) :
  Calls Tryz.prog 61 #[Value.agg #[v0_0, v0_1], Value.agg #[v1_0, Value.bool a1.open_, Value.int .i64 a1.bits, Value.bool a1.bad]] wa (p_spec_l23Go H0 w0 Ha L r) := by
 unfold PF.spec_l23Go_B at hp
 refine calls_go (N := 88) (args := [Value.agg #[v0_0, v0_1], Value.agg #[v1_0, Value.bool a1.open_, Value.int .i64 a1.bits, Value.bool a1.bad]]) Tryz.func61 rfl rfl rfl ?_
 refine FW.seq (FW.region ?_)
 obtain ⟨b21, w22, run23, S24⟩ := S0.box (P := Tryz.prog) 51 [v0_0, v0_1] (v := Value.agg #[v0_0, v0_1]) rfl (ones_cons p0_0.one (ones_cons p0_1.one ones_nil))
 refine FL.v (E.box rfl run23) ?_
 obtain ⟨H25, S26, i27, at28⟩ := S24.sealBox (i := 0) (l' := (.row 55 6 v1_0 n1_0 k1_0 :: L)) rfl rfl
 obtain ⟨b29, w30, run31, S32⟩ := S26.box (P := Tryz.prog) 95 [v1_0, Value.bool a1.open_, Value.int .i64 a1.bits, Value.bool a1.bad] (v := Value.agg #[v1_0, Value.bool a1.open_, Value.int .i64 a1.bits, Value.bool a1.bad]) rfl (ones_cons (Ln.one (S26.row_ln (i := 0) rfl)) (ones_cons rfl (ones_cons rfl (ones_cons rfl ones_nil))))
 refine FL.v (E.box rfl run31) ?_
 obtain ⟨b33, w34, run35, S36⟩ := S32.alloc (P := Tryz.prog) 95 [Value.slice none 0 0, Value.bool false, Value.int .i64 0, Value.bool false] Tryz.zeroValue95 rfl (ones_cons rfl (ones_cons rfl (ones_cons rfl (ones_cons rfl ones_nil))))
 refine FL.v (E.alloc run35) ?_
 refine FL.nil (FW.seq (FW.seq (FW.region ?_)))
 refine FL.v (E.fieldAddr tf95_1 rfl) ?_
 refine FL.v (E.load rfl (run_load1 Tryz.isAgg4 (S36.box_now (i := 1) rfl) rfl)) ?_
 refine FL.v (E.move (v := Value.bool a1.open_) rfl) ?_
 refine FL.cut 3 (fun f w => ∃ H : GH, St H0 w0 H w (.box b33 95 [Value.slice none 0 0, Value.bool false, Value.int .i64 0, Value.bool false] :: .box b29 95 [v1_0, Value.bool a1.open_, Value.int .i64 a1.bits, Value.bool a1.bad] :: .row 55 6 v1_0 n1_0 k1_0 :: L) ∧ Inc H25 H ∧ f 2 = Value.pointer (some ⟨b21, 0, none⟩) ∧ f 3 = Value.pointer (some (⟨b29, 0, none⟩ : Addr)) ∧ f 4 = Value.pointer (some (⟨b33, 0, none⟩ : Addr)) ∧ f 16 = Value.bool (bif a1.open_ then true else a1.bad)) ?_ ?_
 ·
  rcases bcase a1.open_ with c43 | c43
  ·
   refine FL.skip (wF_no rfl rfl rfl c43) rfl ?_
   refine FL.skip (wF_no rfl rfl rfl c43) rfl ?_
   refine FL.v (E.pickT rfl c43 rfl) ?_
   exact FL.nil ⟨rfl, _, S36, (Inc.rfl _), rfl, rfl, rfl, (congrArg Value.bool (bifT c43).symm)⟩
  ·
   refine FL.val (wF_yes rfl rfl rfl c43) rfl rfl (E.fieldAddr tf95_3 rfl) ?_
   refine FL.val (wF_yes rfl rfl rfl c43) rfl rfl (E.load rfl (run_load1 Tryz.isAgg4 (S36.box_now (i := 1) rfl) rfl)) ?_
   refine FL.v (E.pickF rfl c43 rfl) ?_
   exact FL.nil ⟨rfl, _, S36, (Inc.rfl _), rfl, rfl, rfl, (congrArg Value.bool (bifF c43).symm)⟩
 rintro f42 w41 ⟨H38, S39, i40, k44, k45, k46, k47⟩
 refine FL.nil ?_
 rcases ifB hp with ⟨c48, hp⟩ | ⟨c48, hp⟩
 ·
  refine FW.condT k47 c48 ?_
  refine FW.seq (FW.region ?_)
  refine FL.v (E.load k45 (run_loadA Tryz.isAgg95 Tryz.sizeOf95 (S39.box_now (i := 1) rfl) rfl)) ?_
  obtain ⟨w49, run50, S51⟩ := S39.store0 (P := Tryz.prog) (t := 95) (i := 0) (cs' := [v1_0, Value.bool a1.open_, Value.int .i64 a1.bits, Value.bool a1.bad]) (l' := (.box b33 95 [v1_0, Value.bool a1.open_, Value.int .i64 a1.bits, Value.bool a1.bad] :: .box b29 95 [v1_0, Value.bool a1.open_, Value.int .i64 a1.bits, Value.bool a1.bad] :: .row 55 6 v1_0 n1_0 k1_0 :: L)) (v := Value.agg #[v1_0, Value.bool a1.open_, Value.int .i64 a1.bits, Value.bool a1.bad]) (c := [v1_0, Value.bool a1.open_, Value.int .i64 a1.bits, Value.bool a1.bad]) rfl Tryz.sizeOf95 rfl rfl (ones_cons (Ln.one (S39.row_ln (i := 2) rfl)) (ones_cons rfl (ones_cons rfl (ones_cons rfl ones_nil)))) (Nat.le_of_ble_eq_true rfl) rfl rfl
  refine FL.act rfl rfl (E.store k46 rfl run50) ?_
  refine FL.nil ?_
  refine FW.ret ?_
  obtain rfl := Option.some.inj hp
  exact ⟨.inr rfl, resC rfl k46 (loadVar_A Tryz.isAgg95 Tryz.sizeOf95 (S51.box_now (i := 0) rfl) rfl) ⟨_, _, _, _, rfl, ⟨(S51.selT (a := [.box b33 95 [v1_0, Value.bool a1.open_, Value.int .i64 a1.bits, Value.bool a1.bad], .box b29 95 [v1_0, Value.bool a1.open_, Value.int .i64 a1.bits, Value.bool a1.bad], .row 55 6 v1_0 n1_0 k1_0]) (l' := [.row 55 6 v1_0 n1_0 k1_0]) [2] (by decide) rfl), (i27.tr i40)⟩, (p1_0.mono (i27.tr i40))⟩⟩
 ·
  refine FW.condF k47 c48 ?_
  refine FW.skip (FW.seq (FW.seq (FW.region ?_)))
  refine FL.v (E.load k44 (run_loadA Tryz.isAgg51 Tryz.sizeOf51 ((at28.mono i40).now S39.sl) rfl)) ?_
  obtain ⟨r52, hr53, hp⟩ := bnd hp
  refine FL.call rfl rfl rfl (E.call Tryz.call60 (A1 rfl)) (w_spec_l23Good S39.sl a0 v0_0 (p0_0.mono (i27.tr i40)) v0_1 (p0_1.mono (i27.tr i40)) hr53) ?_
  rintro e w54 ⟨rfl, r55⟩
  refine ⟨_, rfl, ?_⟩
  have S56 := S39.call r55
  refine FL.v (E.not rfl) ?_
  refine FL.nil ?_
  rcases ifB hp with ⟨c57, hp⟩ | ⟨c57, hp⟩
  ·
   refine FW.condT rfl c57 ?_
   refine FW.seq (FW.region ?_)
   refine FL.v (E.fieldAddr tf95_3 k45) ?_
   obtain ⟨w58, run59, S60⟩ := S56.store (P := Tryz.prog) (t := 4) (i := 1) (j := 3) (cs' := [v1_0, Value.bool a1.open_, Value.int .i64 a1.bits, Value.bool true]) (l' := (.box b33 95 [Value.slice none 0 0, Value.bool false, Value.int .i64 0, Value.bool false] :: .box b29 95 [v1_0, Value.bool a1.open_, Value.int .i64 a1.bits, Value.bool true] :: .row 55 6 v1_0 n1_0 k1_0 :: L)) (v := Value.bool true) (c := [Value.bool true]) rfl Tryz.sizeOf4 rfl rfl (ones_cons rfl ones_nil) (Nat.le_of_ble_eq_true rfl) rfl rfl
   refine FL.act rfl rfl (E.store rfl rfl run59) ?_
   refine FL.nil (FW.seq (FW.region ?_))
   refine FL.v (E.load k45 (run_loadA Tryz.isAgg95 Tryz.sizeOf95 (S60.box_now (i := 1) rfl) rfl)) ?_
   obtain ⟨w61, run62, S63⟩ := S60.store0 (P := Tryz.prog) (t := 95) (i := 0) (cs' := [v1_0, Value.bool a1.open_, Value.int .i64 a1.bits, Value.bool true]) (l' := (.box b33 95 [v1_0, Value.bool a1.open_, Value.int .i64 a1.bits, Value.bool true] :: .box b29 95 [v1_0, Value.bool a1.open_, Value.int .i64 a1.bits, Value.bool true] :: .row 55 6 v1_0 n1_0 k1_0 :: L)) (v := Value.agg #[v1_0, Value.bool a1.open_, Value.int .i64 a1.bits, Value.bool true]) (c := [v1_0, Value.bool a1.open_, Value.int .i64 a1.bits, Value.bool true]) rfl Tryz.sizeOf95 rfl rfl (ones_cons (Ln.one (S60.row_ln (i := 2) rfl)) (ones_cons rfl (ones_cons rfl (ones_cons rfl ones_nil)))) (Nat.le_of_ble_eq_true rfl) rfl rfl
   refine FL.act rfl rfl (E.store k46 rfl run62) ?_
   refine FL.nil ?_
   refine FW.ret ?_
   obtain rfl := Option.some.inj hp
   exact ⟨.inr rfl, resC rfl k46 (loadVar_A Tryz.isAgg95 Tryz.sizeOf95 (S63.box_now (i := 0) rfl) rfl) ⟨_, _, _, _, rfl, ⟨(S63.selT (a := [.box b33 95 [v1_0, Value.bool a1.open_, Value.int .i64 a1.bits, Value.bool true], .box b29 95 [v1_0, Value.bool a1.open_, Value.int .i64 a1.bits, Value.bool true], .row 55 6 v1_0 n1_0 k1_0]) (l' := [.row 55 6 v1_0 n1_0 k1_0]) [2] (by decide) rfl), (i27.tr i40)⟩, (p1_0.mono (i27.tr i40))⟩⟩
  ·
   refine FW.condF rfl c57 ?_
   refine FW.skip (FW.seq (FW.seq (FW.region ?_)))
   refine FL.v (E.load k44 (run_loadA Tryz.isAgg51 Tryz.sizeOf51 ((at28.mono i40).now S56.sl) rfl)) ?_
   obtain ⟨r64, hr65, hp⟩ := bnd hp
   refine FL.call rfl rfl rfl (E.call Tryz.call88 (A1 rfl)) (w_spec_l23Axiom S56.sl a0 v0_0 (p0_0.mono (i27.tr i40)) v0_1 (p0_1.mono (i27.tr i40)) hr65) ?_
   rintro e w66 ⟨rfl, r67⟩
   refine ⟨_, rfl, ?_⟩
   have S68 := S56.call r67
   refine FL.nil ?_
   rcases ifB hp with ⟨c69, hp⟩ | ⟨c69, hp⟩
   ·
    refine FW.condT rfl c69 ?_
    refine FW.seq (FW.region ?_)
    refine FL.v (E.load k45 (run_loadA Tryz.isAgg95 Tryz.sizeOf95 (S68.box_now (i := 1) rfl) rfl)) ?_
    refine FL.v (E.load k44 (run_loadA Tryz.isAgg51 Tryz.sizeOf51 ((at28.mono i40).now S68.sl) rfl)) ?_
    refine FL.v (E.build (B2 rfl rfl) (run_build _ 55 #[(0, Value.agg #[v0_0, v0_1]), (1, Value.int .i64 1)] #[v0_0, v0_1, Value.int .i64 1, Value.string ByteArray.empty, Value.int .i64 0, Value.int .i64 0] (by obtain ⟨_, _, rfl⟩ := RSl.ln (p0_0.mono (i27.tr i40)); obtain ⟨_, _, rfl⟩ := RSl.ln (p0_1.mono (i27.tr i40)); rfl))) ?_
    obtain ⟨r70, hr71, hp⟩ := bnd hp
    have S72 : St H0 w0 H38 w66 (.row 55 6 v1_0 n1_0 k1_0 :: .box b33 95 [Value.slice none 0 0, Value.bool false, Value.int .i64 0, Value.bool false] :: .box b29 95 [v1_0, Value.bool a1.open_, Value.int .i64 a1.bits, Value.bool a1.bad] :: L) := S68.front 2 rfl rfl
    refine FL.call rfl rfl rfl (E.call Tryz.call89 (A2 rfl rfl)) (w_spec_l23Put (L := (.box b33 95 [Value.slice none 0 0, Value.bool false, Value.int .i64 0, Value.bool false] :: .box b29 95 [v1_0, Value.bool a1.open_, Value.int .i64 a1.bits, Value.bool a1.bad] :: L)) S72 (a0 := a1) (p1_0.mono (i27.tr i40)) (SeqStep.mk a0 1 ByteArray.empty 0 0) v0_0 (p0_0.mono (i27.tr i40)) v0_1 (p0_1.mono (i27.tr i40)) hr71) ?_
    rintro e w74 ⟨H73, v77, n78, cs79, rfl, ⟨S75, i76⟩, els80⟩
    refine ⟨_, rfl, ?_⟩
    have S75 : St H0 w0 H73 w74 (.row 55 6 v77 n78 cs79 :: .box b33 95 [Value.slice none 0 0, Value.bool false, Value.int .i64 0, Value.bool false] :: .box b29 95 [v1_0, Value.bool a1.open_, Value.int .i64 a1.bits, Value.bool a1.bad] :: L) := S75
    obtain ⟨w81, run82, S83⟩ := S75.store0 (P := Tryz.prog) (t := 95) (i := 1) (cs' := [v77, Value.bool r70.open_, Value.int .i64 r70.bits, Value.bool r70.bad]) (l' := (.row 55 6 v77 n78 cs79 :: .box b33 95 [v77, Value.bool r70.open_, Value.int .i64 r70.bits, Value.bool r70.bad] :: .box b29 95 [v1_0, Value.bool a1.open_, Value.int .i64 a1.bits, Value.bool a1.bad] :: L)) (v := Value.agg #[v77, Value.bool r70.open_, Value.int .i64 r70.bits, Value.bool r70.bad]) (c := [v77, Value.bool r70.open_, Value.int .i64 r70.bits, Value.bool r70.bad]) rfl Tryz.sizeOf95 rfl rfl (ones_cons (Ln.one (S75.row_ln (i := 0) rfl)) (ones_cons rfl (ones_cons rfl (ones_cons rfl ones_nil)))) (Nat.le_of_ble_eq_true rfl) rfl rfl
    refine FL.act rfl rfl (E.store k46 rfl run82) ?_
    refine FL.nil ?_
    refine FW.ret ?_
    obtain rfl := Option.some.inj hp
    exact ⟨.inr rfl, resC rfl k46 (loadVar_A Tryz.isAgg95 Tryz.sizeOf95 (S83.box_now (i := 1) rfl) rfl) ⟨_, _, _, _, rfl, ⟨(S83.selT (a := [.row 55 6 v77 n78 cs79, .box b33 95 [v77, Value.bool r70.open_, Value.int .i64 r70.bits, Value.bool r70.bad], .box b29 95 [v1_0, Value.bool a1.open_, Value.int .i64 a1.bits, Value.bool a1.bad]]) (l' := [.row 55 6 v77 n78 cs79]) [0] (by decide) rfl), ((i27.tr i40).tr i76)⟩, els80⟩⟩
   ·
    refine FW.condF rfl c69 ?_
    refine FW.skip (FW.seq (FW.region ?_))
    refine FL.v (E.load k44 (run_loadA Tryz.isAgg51 Tryz.sizeOf51 ((at28.mono i40).now S68.sl) rfl)) ?_
    obtain ⟨r84, hr85, hp⟩ := bnd hp
    refine FL.call rfl rfl rfl (E.call Tryz.call90 (A1 rfl)) (w_spec_l23Main S68.sl a0 v0_0 (p0_0.mono (i27.tr i40)) v0_1 (p0_1.mono (i27.tr i40)) hr85) ?_
    rintro e w86 ⟨rfl, r87⟩
    refine ⟨_, rfl, ?_⟩
    have S88 := S68.call r87
    refine FL.v (E.move (v := Value.tuple #[Value.string r84.1, Value.bool r84.2.1, Value.bool r84.2.2]) rfl) ?_
    refine FL.v (E.extract (i := 0) rfl rfl) ?_
    refine FL.v (E.extract (i := 1) rfl rfl) ?_
    refine FL.v (E.extract (i := 2) rfl rfl) ?_
    refine FL.v (E.assign (v := Value.string r84.1) rfl) ?_
    refine FL.v (E.assign (v := Value.bool r84.2.1) rfl) ?_
    refine FL.v (E.assign (v := Value.bool r84.2.2) rfl) ?_
    refine FL.nil (FW.seq (FW.seq (FW.region ?_)))
    refine FL.v (E.move (v := Value.bool r84.2.2) rfl) ?_
    refine FL.v (E.not rfl) ?_
    refine FL.nil ?_
    rcases ifB hp with ⟨c89, hp⟩ | ⟨c89, hp⟩
    ·
     refine FW.condT rfl c89 ?_
     refine FW.seq (FW.region ?_)
     refine FL.v (E.fieldAddr tf95_1 k45) ?_
     obtain ⟨w90, run91, S92⟩ := S88.store (P := Tryz.prog) (t := 4) (i := 1) (j := 1) (cs' := [v1_0, Value.bool true, Value.int .i64 a1.bits, Value.bool a1.bad]) (l' := (.box b33 95 [Value.slice none 0 0, Value.bool false, Value.int .i64 0, Value.bool false] :: .box b29 95 [v1_0, Value.bool true, Value.int .i64 a1.bits, Value.bool a1.bad] :: .row 55 6 v1_0 n1_0 k1_0 :: L)) (v := Value.bool true) (c := [Value.bool true]) rfl Tryz.sizeOf4 rfl rfl (ones_cons rfl ones_nil) (Nat.le_of_ble_eq_true rfl) rfl rfl
     refine FL.act rfl rfl (E.store rfl rfl run91) ?_
     refine FL.nil (FW.seq (FW.region ?_))
     refine FL.v (E.fieldAddr tf51_0 k44) ?_
     refine FL.v (E.load rfl (run_load1 Tryz.isAgg30 ((at28.mono i40).now S92.sl) rfl)) ?_
     obtain ⟨r93, hr94, hp⟩ := bnd hp
     refine FL.call rfl rfl rfl (E.call Tryz.call91 (A1 rfl)) (w_spec_l23Open S92.sl v0_0 a0.left (p0_0.mono (i27.tr i40)) hr94) ?_
     rintro e w95 ⟨rfl, r96⟩
     refine ⟨_, rfl, ?_⟩
     have S97 := S92.call r96
     refine FL.v (E.fieldAddr tf95_2 k45) ?_
     obtain ⟨w98, run99, S100⟩ := S97.store (P := Tryz.prog) (t := 3) (i := 1) (j := 2) (cs' := [v1_0, Value.bool true, Value.int .i64 r93, Value.bool a1.bad]) (l' := (.box b33 95 [Value.slice none 0 0, Value.bool false, Value.int .i64 0, Value.bool false] :: .box b29 95 [v1_0, Value.bool true, Value.int .i64 r93, Value.bool a1.bad] :: .row 55 6 v1_0 n1_0 k1_0 :: L)) (v := Value.int .i64 r93) (c := [Value.int .i64 r93]) rfl Tryz.sizeOf3 rfl rfl (ones_cons rfl ones_nil) (Nat.le_of_ble_eq_true rfl) rfl rfl
     refine FL.act rfl rfl (E.store rfl rfl run99) ?_
     refine FL.nil (FW.seq (FW.region ?_))
     refine FL.v (E.load k45 (run_loadA Tryz.isAgg95 Tryz.sizeOf95 (S100.box_now (i := 1) rfl) rfl)) ?_
     obtain ⟨w101, run102, S103⟩ := S100.store0 (P := Tryz.prog) (t := 95) (i := 0) (cs' := [v1_0, Value.bool true, Value.int .i64 r93, Value.bool a1.bad]) (l' := (.box b33 95 [v1_0, Value.bool true, Value.int .i64 r93, Value.bool a1.bad] :: .box b29 95 [v1_0, Value.bool true, Value.int .i64 r93, Value.bool a1.bad] :: .row 55 6 v1_0 n1_0 k1_0 :: L)) (v := Value.agg #[v1_0, Value.bool true, Value.int .i64 r93, Value.bool a1.bad]) (c := [v1_0, Value.bool true, Value.int .i64 r93, Value.bool a1.bad]) rfl Tryz.sizeOf95 rfl rfl (ones_cons (Ln.one (S100.row_ln (i := 2) rfl)) (ones_cons rfl (ones_cons rfl (ones_cons rfl ones_nil)))) (Nat.le_of_ble_eq_true rfl) rfl rfl
     refine FL.act rfl rfl (E.store k46 rfl run102) ?_
     refine FL.nil ?_
     refine FW.ret ?_
     obtain rfl := Option.some.inj hp
     exact ⟨.inr rfl, resC rfl k46 (loadVar_A Tryz.isAgg95 Tryz.sizeOf95 (S103.box_now (i := 0) rfl) rfl) ⟨_, _, _, _, rfl, ⟨(S103.selT (a := [.box b33 95 [v1_0, Value.bool true, Value.int .i64 r93, Value.bool a1.bad], .box b29 95 [v1_0, Value.bool true, Value.int .i64 r93, Value.bool a1.bad], .row 55 6 v1_0 n1_0 k1_0]) (l' := [.row 55 6 v1_0 n1_0 k1_0]) [2] (by decide) rfl), (i27.tr i40)⟩, (p1_0.mono (i27.tr i40))⟩⟩
    ·
     refine FW.condF rfl c89 ?_
     refine FW.skip (FW.seq ?_)
     obtain ⟨r37, hr107, hp⟩ := bnd hp
     refine FW.drawB (Sl H38) (fun f w => ∃ H : GH, ∃ b118 : Nat, ∃ v119 : Value, ∃ v121 : Value, St H0 w0 H w (.box b33 95 [Value.slice none 0 0, Value.bool false, Value.int .i64 0, Value.bool false] :: .box b29 95 [v1_0, Value.bool a1.open_, Value.int .i64 a1.bits, Value.bool a1.bad] :: .row 55 6 v1_0 n1_0 k1_0 :: .box b118 55 [v119, v121, Value.int .i64 r37, Value.string r84.1, Value.int .i64 0, Value.int .i64 0] :: L) ∧ Inc H38 H ∧ RSl H eS 1 v119 a0.left ∧ RSl H eS 1 v121 a0.right ∧ f 2 = Value.pointer (some ⟨b21, 0, none⟩) ∧ f 3 = Value.pointer (some (⟨b29, 0, none⟩ : Addr)) ∧ f 4 = Value.pointer (some (⟨b33, 0, none⟩ : Addr)) ∧ f 5 = Value.string r84.1 ∧ f 8 = Value.pointer (some (⟨b118, 0, none⟩ : Addr))) (by kernel_rfl) S88.sl ?_ ?_
     ·
      intro w104 r105
      have S106 := S88.call r105
      refine FB.t (i := 0) (bs 8 1) rfl (SP.nil S106.sl) rfl (fun w' hw' => (E.load k44 (run_loadA Tryz.isAgg51 Tryz.sizeOf51 ((at28.mono i40).now hw') rfl))) ?_
      refine FB.t (i := 1) (bs 8 3) rfl (SP.nil S106.sl) rfl (fun w' hw' => (E.move (v := Value.string r84.1) rfl)) ?_
      refine FB.t (i := 2) (bs 8 7) rfl (SP.nil S106.sl) rfl (fun w' hw' => (E.move (v := Value.bool r84.2.1) rfl)) ?_
      refine FB.t (i := 4) (bs 8 23) rfl (SP.nil S106.sl) rfl (fun w' hw' => (E.move (v := Value.string r84.1) rfl)) ?_
      refine FB.all2 (i := 3) (j := 6) (by kernel_rfl) ?_ ?_
      ·
       refine FC.call (l' := (bs 8 31)) rfl (by kernel_rfl) rfl rfl rfl (E.call Tryz.call92 (A2 rfl rfl)) (w_spec_l23Rule S106.sl r84.1 r84.2.1 hr107) ?_
       rintro e w108 ⟨rfl, r109⟩
       refine ⟨_, rfl, ?_⟩
       have S110 := S106.call r109
       refine ⟨(SP.nil S110.sl), ?_⟩
       refine FB.t (i := 5) (bs 8 63) rfl (SP.nil S110.sl) rfl (fun w' hw' => (E.build (B3 rfl rfl rfl) (run_build _ 55 #[(0, Value.agg #[v0_0, v0_1]), (1, Value.int .i64 r37), (2, Value.string r84.1)] #[v0_0, v0_1, Value.int .i64 r37, Value.string r84.1, Value.int .i64 0, Value.int .i64 0] (by obtain ⟨_, _, rfl⟩ := RSl.ln (p0_0.mono (i27.tr i40)); obtain ⟨_, _, rfl⟩ := RSl.ln (p0_1.mono (i27.tr i40)); rfl)))) ?_
       refine FB.all1 (i := 6) (by kernel_rfl) ?_
       ·
        obtain ⟨b111, w112, run113, S114⟩ := S110.alloc (P := Tryz.prog) 55 [Value.slice none 0 0, Value.slice none 0 0, Value.int .i64 0, Value.string ByteArray.empty, Value.int .i64 0, Value.int .i64 0] Tryz.zeroValue55 rfl (ones_cons rfl (ones_cons rfl (ones_cons rfl (ones_cons rfl (ones_cons rfl (ones_cons rfl ones_nil))))))
        refine FC.val (l' := (bs 8 127)) rfl (by kernel_rfl) rfl rfl rfl (E.alloc run113) ?_
        refine ⟨(SP.nil S114.sl), ?_⟩
        refine FB.all1 (i := 7) (by kernel_rfl) ?_
        ·
         obtain ⟨w115, run116, S117⟩ := S114.store0 (P := Tryz.prog) (t := 55) (i := 0) (cs' := [v0_0, v0_1, Value.int .i64 r37, Value.string r84.1, Value.int .i64 0, Value.int .i64 0]) (l' := (.box b111 55 [v0_0, v0_1, Value.int .i64 r37, Value.string r84.1, Value.int .i64 0, Value.int .i64 0] :: .box b33 95 [Value.slice none 0 0, Value.bool false, Value.int .i64 0, Value.bool false] :: .box b29 95 [v1_0, Value.bool a1.open_, Value.int .i64 a1.bits, Value.bool a1.bad] :: .row 55 6 v1_0 n1_0 k1_0 :: L)) (v := Value.agg #[v0_0, v0_1, Value.int .i64 r37, Value.string r84.1, Value.int .i64 0, Value.int .i64 0]) (c := [v0_0, v0_1, Value.int .i64 r37, Value.string r84.1, Value.int .i64 0, Value.int .i64 0]) rfl Tryz.sizeOf55 rfl rfl (ones_cons p0_0.one (ones_cons p0_1.one (ones_cons rfl (ones_cons rfl (ones_cons rfl (ones_cons rfl ones_nil)))))) (Nat.le_of_ble_eq_true rfl) rfl rfl
         refine FC.act (l' := (bs 8 255)) rfl (by kernel_rfl) rfl rfl (E.store rfl rfl run116) ?_
         refine ⟨(SP.nil S117.sl), ?_⟩
         exact FB.done (by kernel_rfl) ⟨_, _, _, _, (S117.selT (a := [.box b111 55 [v0_0, v0_1, Value.int .i64 r37, Value.string r84.1, Value.int .i64 0, Value.int .i64 0], .box b33 95 [Value.slice none 0 0, Value.bool false, Value.int .i64 0, Value.bool false], .box b29 95 [v1_0, Value.bool a1.open_, Value.int .i64 a1.bits, Value.bool a1.bad], .row 55 6 v1_0 n1_0 k1_0]) (l' := [.box b33 95 [Value.slice none 0 0, Value.bool false, Value.int .i64 0, Value.bool false], .box b29 95 [v1_0, Value.bool a1.open_, Value.int .i64 a1.bits, Value.bool a1.bad], .row 55 6 v1_0 n1_0 k1_0, .box b111 55 [v0_0, v0_1, Value.int .i64 r37, Value.string r84.1, Value.int .i64 0, Value.int .i64 0]]) [1, 2, 3, 0] (by decide) rfl), (Inc.rfl _), (p0_0.mono (i27.tr i40)), (p0_1.mono (i27.tr i40)), k44, k45, k46, rfl, rfl⟩
      ·
       obtain ⟨b111, w112, run113, S114⟩ := S106.alloc (P := Tryz.prog) 55 [Value.slice none 0 0, Value.slice none 0 0, Value.int .i64 0, Value.string ByteArray.empty, Value.int .i64 0, Value.int .i64 0] Tryz.zeroValue55 rfl (ones_cons rfl (ones_cons rfl (ones_cons rfl (ones_cons rfl (ones_cons rfl (ones_cons rfl ones_nil))))))
       refine FC.val (l' := (bs 8 87)) rfl (by kernel_rfl) rfl rfl rfl (E.alloc run113) ?_
       refine ⟨(SP.nil S114.sl), ?_⟩
       refine FB.all1 (i := 3) (by kernel_rfl) ?_
       ·
        refine FC.call (l' := (bs 8 95)) rfl (by kernel_rfl) rfl rfl rfl (E.call Tryz.call92 (A2 rfl rfl)) (w_spec_l23Rule S114.sl r84.1 r84.2.1 hr107) ?_
        rintro e w108 ⟨rfl, r109⟩
        refine ⟨_, rfl, ?_⟩
        have S110 := S114.call r109
        refine ⟨(SP.nil S110.sl), ?_⟩
        refine FB.t (i := 5) (bs 8 127) rfl (SP.nil S110.sl) rfl (fun w' hw' => (E.build (B3 rfl rfl rfl) (run_build _ 55 #[(0, Value.agg #[v0_0, v0_1]), (1, Value.int .i64 r37), (2, Value.string r84.1)] #[v0_0, v0_1, Value.int .i64 r37, Value.string r84.1, Value.int .i64 0, Value.int .i64 0] (by obtain ⟨_, _, rfl⟩ := RSl.ln (p0_0.mono (i27.tr i40)); obtain ⟨_, _, rfl⟩ := RSl.ln (p0_1.mono (i27.tr i40)); rfl)))) ?_
        refine FB.all1 (i := 7) (by kernel_rfl) ?_
        ·
         obtain ⟨w115, run116, S117⟩ := S110.store0 (P := Tryz.prog) (t := 55) (i := 0) (cs' := [v0_0, v0_1, Value.int .i64 r37, Value.string r84.1, Value.int .i64 0, Value.int .i64 0]) (l' := (.box b111 55 [v0_0, v0_1, Value.int .i64 r37, Value.string r84.1, Value.int .i64 0, Value.int .i64 0] :: .box b33 95 [Value.slice none 0 0, Value.bool false, Value.int .i64 0, Value.bool false] :: .box b29 95 [v1_0, Value.bool a1.open_, Value.int .i64 a1.bits, Value.bool a1.bad] :: .row 55 6 v1_0 n1_0 k1_0 :: L)) (v := Value.agg #[v0_0, v0_1, Value.int .i64 r37, Value.string r84.1, Value.int .i64 0, Value.int .i64 0]) (c := [v0_0, v0_1, Value.int .i64 r37, Value.string r84.1, Value.int .i64 0, Value.int .i64 0]) rfl Tryz.sizeOf55 rfl rfl (ones_cons p0_0.one (ones_cons p0_1.one (ones_cons rfl (ones_cons rfl (ones_cons rfl (ones_cons rfl ones_nil)))))) (Nat.le_of_ble_eq_true rfl) rfl rfl
         refine FC.act (l' := (bs 8 255)) rfl (by kernel_rfl) rfl rfl (E.store rfl rfl run116) ?_
         refine ⟨(SP.nil S117.sl), ?_⟩
         exact FB.done (by kernel_rfl) ⟨_, _, _, _, (S117.selT (a := [.box b111 55 [v0_0, v0_1, Value.int .i64 r37, Value.string r84.1, Value.int .i64 0, Value.int .i64 0], .box b33 95 [Value.slice none 0 0, Value.bool false, Value.int .i64 0, Value.bool false], .box b29 95 [v1_0, Value.bool a1.open_, Value.int .i64 a1.bits, Value.bool a1.bad], .row 55 6 v1_0 n1_0 k1_0]) (l' := [.box b33 95 [Value.slice none 0 0, Value.bool false, Value.int .i64 0, Value.bool false], .box b29 95 [v1_0, Value.bool a1.open_, Value.int .i64 a1.bits, Value.bool a1.bad], .row 55 6 v1_0 n1_0 k1_0, .box b111 55 [v0_0, v0_1, Value.int .i64 r37, Value.string r84.1, Value.int .i64 0, Value.int .i64 0]]) [1, 2, 3, 0] (by decide) rfl), (Inc.rfl _), (p0_0.mono (i27.tr i40)), (p0_1.mono (i27.tr i40)), k44, k45, k46, rfl, rfl⟩
     ·
      rintro f127 w126 ⟨H123, b118, v119, v121, S124, i125, h120, h122, k128, k129, k131, k132, k133⟩
      refine FW.seq (FW.region ?_)
      refine FL.v (E.load k128 (run_loadA Tryz.isAgg51 Tryz.sizeOf51 ((at28.mono (i40.tr i125)).now S124.sl) rfl)) ?_
      refine FL.v (E.fieldAddr tf55_1 k133) ?_
      refine FL.v (E.load rfl (run_load1 Tryz.isAgg3 (S124.box_now (i := 3) rfl) rfl)) ?_
      refine FL.v (E.move k132) ?_
      obtain ⟨r134, hr135, hp⟩ := bnd hp
      refine FL.call rfl rfl rfl (E.call Tryz.call93 (A3 rfl rfl rfl)) (w_spec_l23Premises S124.sl a0 v0_0 (p0_0.mono ((i27.tr i40).tr i125)) v0_1 (p0_1.mono ((i27.tr i40).tr i125)) r37 r84.1 hr135) ?_
      rintro e w137 ⟨H136, v140, n141, cs142, rfl, r139, els143⟩
      refine ⟨_, rfl, ?_⟩
      have S138 := S124.join (l' := (.row 51 2 v140 n141 cs142 :: .box b33 95 [Value.slice none 0 0, Value.bool false, Value.int .i64 0, Value.bool false] :: .box b29 95 [v1_0, Value.bool a1.open_, Value.int .i64 a1.bits, Value.bool a1.bad] :: .row 55 6 v1_0 n1_0 k1_0 :: .box b118 55 [v119, v121, Value.int .i64 r37, Value.string r84.1, Value.int .i64 0, Value.int .i64 0] :: L)) r139 rfl
      refine FL.v (E.assign (v := v140) rfl) ?_
      refine FL.nil (FW.seq (FW.seq (FW.region ?_)))
      refine FL.v (E.assign (v := Value.int .i64 0) rfl) ?_
      refine FL.nil ?_
      obtain ⟨q144, hq, hp⟩ := bndR hp
      refine FW.block ?_
      refine FW.mono (FW.iter (S := ((List SeqStep) × Bool × Int × Bool × Int × Int × Int)) (X := l23Search) (fun (s144 : ((List SeqStep) × Bool × Int × Bool × Int × Int × Int)) f w => ∃ H : GH, ∃ v145 : Value, ∃ n146 : Nat, ∃ cs147 : List Value, St H0 w0 H w (.row 51 2 v140 n141 cs142 :: .box b33 95 [Value.slice none 0 0, Value.bool false, Value.int .i64 0, Value.bool false] :: .box b29 95 [v145, Value.bool s144.2.1, Value.int .i64 s144.2.2.1, Value.bool s144.2.2.2.1] :: .row 55 6 v145 n146 cs147 :: .box b118 55 [v119, v121, Value.int .i64 r37, Value.string r84.1, Value.int .i64 s144.2.2.2.2.1, Value.int .i64 s144.2.2.2.2.2.1] :: L) ∧ Inc H136 H ∧ Els H eSeqStep 6 cs147 s144.1 ∧ f 3 = Value.pointer (some (⟨b29, 0, none⟩ : Addr)) ∧ f 4 = Value.pointer (some (⟨b33, 0, none⟩ : Addr)) ∧ f 8 = Value.pointer (some (⟨b118, 0, none⟩ : Addr)) ∧ f 9 = v140 ∧ f 10 = Value.int .i64 s144.2.2.2.2.2.2) (fun q e f w => match q with | .go s144 => e = Exit.exit 0 ∧ (∃ H : GH, ∃ v145 : Value, ∃ n146 : Nat, ∃ cs147 : List Value, St H0 w0 H w (.row 51 2 v140 n141 cs142 :: .box b33 95 [Value.slice none 0 0, Value.bool false, Value.int .i64 0, Value.bool false] :: .box b29 95 [v145, Value.bool s144.2.1, Value.int .i64 s144.2.2.1, Value.bool s144.2.2.2.1] :: .row 55 6 v145 n146 cs147 :: .box b118 55 [v119, v121, Value.int .i64 r37, Value.string r84.1, Value.int .i64 s144.2.2.2.2.1, Value.int .i64 s144.2.2.2.2.2.1] :: L) ∧ Inc H136 H ∧ Els H eSeqStep 6 cs147 s144.1 ∧ f 3 = Value.pointer (some (⟨b29, 0, none⟩ : Addr)) ∧ f 4 = Value.pointer (some (⟨b33, 0, none⟩ : Addr)) ∧ f 8 = Value.pointer (some (⟨b118, 0, none⟩ : Addr))) | .rt x => ((e = Exit.ret) ∧ (fun e f w => (e = Exit.normal ∨ e = Exit.ret) ∧ ∀ a, Fr (δ := []) 88 a f → ∃ v, (results Tryz.f61 a.tmps).run Tryz.prog w = .ok v w ∧ (p_spec_l23Go H0 w0 Ha L x) (.returned v) w) e f w)) hq ⟨_, _, _, _, S138, (Inc.rfl _), (p1_0.mono (((i27.tr i40).tr i125).tr r139.run.inc)), k129, k131, k133, rfl, rfl⟩ ?_) ?_
      ·
       clear hp hq
       rintro s144 f153 w152 ⟨H149, v145, n146, cs147, S150, i151, els148, k154, k155, k156, k157, k158⟩ o227 hp
       refine FW.seq (FW.seq (FW.region ?_))
       refine FL.v (E.move k158) ?_
       refine FL.v (E.move k157) ?_
       refine FL.v (E.lenO te130 rfl S150 (i := 0) rfl els143 (by decide)) ?_
       refine FL.v (E.lss rfl rfl) ?_
       refine FL.nil ?_
       rcases ifB hp with ⟨c159, hp⟩ | ⟨c159, hp⟩
       ·
        refine FW.condT rfl c159 ?_
        refine FW.skip (FW.seq (FW.block (FW.seq ?_)))
        obtain ⟨x169, hx170, hp⟩ := bnd hp
        obtain ⟨r176, hr177, hp⟩ := bnd hp
        refine FW.drawB (SX H0 w0 H149 (.row 51 2 v140 n141 cs142 :: L)) (fun f w => ∃ H : GH, ∃ v190 : Value, ∃ n191 : Nat, ∃ cs192 : List Value, St H0 w0 H w (.row 51 2 v140 n141 cs142 :: .box b33 95 [Value.slice none 0 0, Value.bool false, Value.int .i64 0, Value.bool false] :: .box b29 95 [v190, Value.bool r176.open_, Value.int .i64 r176.bits, Value.bool r176.bad] :: .row 55 6 v190 n191 cs192 :: .box b118 55 [v119, v121, Value.int .i64 r37, Value.string r84.1, Value.int .i64 s144.2.2.2.2.1, Value.int .i64 s144.2.2.2.2.2.1] :: L) ∧ Inc H149 H ∧ Els H eSeqStep 6 cs192 r176.steps ∧ f 3 = Value.pointer (some (⟨b29, 0, none⟩ : Addr)) ∧ f 4 = Value.pointer (some (⟨b33, 0, none⟩ : Addr)) ∧ f 8 = Value.pointer (some (⟨b118, 0, none⟩ : Addr)) ∧ f 9 = v140 ∧ f 10 = Value.int .i64 s144.2.2.2.2.2.2) (by kernel_rfl) S150.sl ?_ ?_
        ·
         intro w160 r161
         have S162 := S150.call r161
         refine FB.phase [6] (fun w => WAt w (⟨b29, 0, none⟩ : Addr) [v145, Value.bool s144.2.1, Value.int .i64 s144.2.2.1, Value.bool s144.2.2.2.1]) ?_
         refine FB.t (i := 0) (bs 7 1) rfl (SP.on (S162.box_now (i := 2) rfl) (SP.nil ⟨_, (S162.selT (a := [.row 51 2 v140 n141 cs142, .box b33 95 [Value.slice none 0 0, Value.bool false, Value.int .i64 0, Value.bool false], .box b29 95 [v145, Value.bool s144.2.1, Value.int .i64 s144.2.2.1, Value.bool s144.2.2.2.1], .row 55 6 v145 n146 cs147, .box b118 55 [v119, v121, Value.int .i64 r37, Value.string r84.1, Value.int .i64 s144.2.2.2.2.1, Value.int .i64 s144.2.2.2.2.2.1]]) (l' := [.row 51 2 v140 n141 cs142]) [0] (by decide) rfl), (Inc.rfl _)⟩)) rfl (fun w' hw' => (E.move k157)) ?_
         refine FB.t (i := 1) (bs 7 3) rfl (SP.on (S162.box_now (i := 2) rfl) (SP.nil ⟨_, (S162.selT (a := [.row 51 2 v140 n141 cs142, .box b33 95 [Value.slice none 0 0, Value.bool false, Value.int .i64 0, Value.bool false], .box b29 95 [v145, Value.bool s144.2.1, Value.int .i64 s144.2.2.1, Value.bool s144.2.2.2.1], .row 55 6 v145 n146 cs147, .box b118 55 [v119, v121, Value.int .i64 r37, Value.string r84.1, Value.int .i64 s144.2.2.2.2.1, Value.int .i64 s144.2.2.2.2.2.1]]) (l' := [.row 51 2 v140 n141 cs142]) [0] (by decide) rfl), (Inc.rfl _)⟩)) rfl (fun w' hw' => (E.move k158)) ?_
         obtain ⟨p163, cs164, pt165, l166, at167, rel168, hall171⟩ := S162.row_atA (i := 0) rfl els143 (by decide) hx170
         obtain ⟨v172, v174, rfl, h173, h175⟩ := eSequent_open rel168
         refine FB.t (i := 2) (bs 7 7) rfl (SP.on (S162.box_now (i := 2) rfl) (SP.nil ⟨_, (S162.selT (a := [.row 51 2 v140 n141 cs142, .box b33 95 [Value.slice none 0 0, Value.bool false, Value.int .i64 0, Value.bool false], .box b29 95 [v145, Value.bool s144.2.1, Value.int .i64 s144.2.2.1, Value.bool s144.2.2.2.1], .row 55 6 v145 n146 cs147, .box b118 55 [v119, v121, Value.int .i64 r37, Value.string r84.1, Value.int .i64 s144.2.2.2.2.1, Value.int .i64 s144.2.2.2.2.2.1]]) (l' := [.row 51 2 v140 n141 cs142]) [0] (by decide) rfl), (Inc.rfl _)⟩)) rfl (fun w' hw' => (E.indexAddr te130 rfl rfl pt165)) ?_
         refine FB.t (i := 3) (bs 7 15) rfl (SP.on (S162.box_now (i := 2) rfl) (SP.nil ⟨_, (S162.selT (a := [.row 51 2 v140 n141 cs142, .box b33 95 [Value.slice none 0 0, Value.bool false, Value.int .i64 0, Value.bool false], .box b29 95 [v145, Value.bool s144.2.1, Value.int .i64 s144.2.2.1, Value.bool s144.2.2.2.1], .row 55 6 v145 n146 cs147, .box b118 55 [v119, v121, Value.int .i64 r37, Value.string r84.1, Value.int .i64 s144.2.2.2.2.1, Value.int .i64 s144.2.2.2.2.2.1]]) (l' := [.row 51 2 v140 n141 cs142]) [0] (by decide) rfl), (Inc.rfl _)⟩)) rfl (fun w' hw' => (E.load rfl (run_loadA Tryz.isAgg51 Tryz.sizeOf51 (hw'.use fun _ st => hall171 _ _ _ 0 st rfl) rfl))) ?_
         refine FB.p (i := 4) (bs 7 31) 0 [5, 6] rfl (SP.on (S162.box_now (i := 2) rfl) (SP.nil ⟨_, (S162.selT (a := [.row 51 2 v140 n141 cs142, .box b33 95 [Value.slice none 0 0, Value.bool false, Value.int .i64 0, Value.bool false], .box b29 95 [v145, Value.bool s144.2.1, Value.int .i64 s144.2.2.1, Value.bool s144.2.2.2.1], .row 55 6 v145 n146 cs147, .box b118 55 [v119, v121, Value.int .i64 r37, Value.string r84.1, Value.int .i64 s144.2.2.2.2.1, Value.int .i64 s144.2.2.2.2.2.1]]) (l' := [.row 51 2 v140 n141 cs142]) [0] (by decide) rfl), (Inc.rfl _)⟩)) rfl rfl (fun w' hw' => (E.load k154 (run_loadA Tryz.isAgg95 Tryz.sizeOf95 hw' rfl))) ?_
         refine FB.all1 (i := 5) (by kernel_rfl) ?_
         ·
          have S178 : St H0 w0 H149 w160 (.row 55 6 v145 n146 cs147 :: .row 51 2 v140 n141 cs142 :: .box b33 95 [Value.slice none 0 0, Value.bool false, Value.int .i64 0, Value.bool false] :: .box b29 95 [v145, Value.bool s144.2.1, Value.int .i64 s144.2.2.1, Value.bool s144.2.2.2.1] :: .box b118 55 [v119, v121, Value.int .i64 r37, Value.string r84.1, Value.int .i64 s144.2.2.2.2.1, Value.int .i64 s144.2.2.2.2.2.1] :: L) := S162.front 3 rfl rfl
          refine FC.call (l' := (bs 7 63)) rfl (by kernel_rfl) rfl rfl rfl (E.call Tryz.call61 (A2 rfl rfl)) (hrec_spec_l23Go (L := (.row 51 2 v140 n141 cs142 :: .box b33 95 [Value.slice none 0 0, Value.bool false, Value.int .i64 0, Value.bool false] :: .box b29 95 [v145, Value.bool s144.2.1, Value.int .i64 s144.2.2.1, Value.bool s144.2.2.2.1] :: .box b118 55 [v119, v121, Value.int .i64 r37, Value.string r84.1, Value.int .i64 s144.2.2.2.2.1, Value.int .i64 s144.2.2.2.2.2.1] :: L)) S178 x169 v172 (h173.mono i151) v174 (h175.mono i151) (a1 := (l23Search.mk s144.1 s144.2.1 s144.2.2.1 s144.2.2.2.1)) els148 hr177) ?_
          rintro e w180 ⟨H179, v183, n184, cs185, rfl, ⟨S181, i182⟩, els186⟩
          refine ⟨_, rfl, ?_⟩
          have S181 : St H0 w0 H179 w180 (.row 55 6 v183 n184 cs185 :: .row 51 2 v140 n141 cs142 :: .box b33 95 [Value.slice none 0 0, Value.bool false, Value.int .i64 0, Value.bool false] :: .box b29 95 [v145, Value.bool s144.2.1, Value.int .i64 s144.2.2.1, Value.bool s144.2.2.2.1] :: .box b118 55 [v119, v121, Value.int .i64 r37, Value.string r84.1, Value.int .i64 s144.2.2.2.2.1, Value.int .i64 s144.2.2.2.2.2.1] :: L) := S181
          refine ⟨(SP.on (S181.box_now (i := 3) rfl) (SP.nil ⟨_, (S181.selT (a := [.row 55 6 v183 n184 cs185, .row 51 2 v140 n141 cs142, .box b33 95 [Value.slice none 0 0, Value.bool false, Value.int .i64 0, Value.bool false], .box b29 95 [v145, Value.bool s144.2.1, Value.int .i64 s144.2.2.1, Value.bool s144.2.2.2.1], .box b118 55 [v119, v121, Value.int .i64 r37, Value.string r84.1, Value.int .i64 s144.2.2.2.2.1, Value.int .i64 s144.2.2.2.2.2.1]]) (l' := [.row 51 2 v140 n141 cs142]) [1] (by decide) rfl), i182⟩)), ?_⟩
          refine FB.all1 (i := 6) (by kernel_rfl) ?_
          ·
           obtain ⟨w187, run188, S189⟩ := S181.store0 (P := Tryz.prog) (t := 95) (i := 3) (cs' := [v183, Value.bool r176.open_, Value.int .i64 r176.bits, Value.bool r176.bad]) (l' := (.row 55 6 v183 n184 cs185 :: .row 51 2 v140 n141 cs142 :: .box b33 95 [Value.slice none 0 0, Value.bool false, Value.int .i64 0, Value.bool false] :: .box b29 95 [v183, Value.bool r176.open_, Value.int .i64 r176.bits, Value.bool r176.bad] :: .box b118 55 [v119, v121, Value.int .i64 r37, Value.string r84.1, Value.int .i64 s144.2.2.2.2.1, Value.int .i64 s144.2.2.2.2.2.1] :: L)) (v := Value.agg #[v183, Value.bool r176.open_, Value.int .i64 r176.bits, Value.bool r176.bad]) (c := [v183, Value.bool r176.open_, Value.int .i64 r176.bits, Value.bool r176.bad]) rfl Tryz.sizeOf95 rfl rfl (ones_cons (Ln.one (S181.row_ln (i := 0) rfl)) (ones_cons rfl (ones_cons rfl (ones_cons rfl ones_nil)))) (Nat.le_of_ble_eq_true rfl) rfl rfl
           refine FC.act (l' := (bs 7 127)) rfl (by kernel_rfl) rfl rfl (E.store k154 rfl run188) ?_
           refine ⟨(SP.o (SP.nil ⟨_, (S189.selT (a := [.row 55 6 v183 n184 cs185, .row 51 2 v140 n141 cs142, .box b33 95 [Value.slice none 0 0, Value.bool false, Value.int .i64 0, Value.bool false], .box b29 95 [v183, Value.bool r176.open_, Value.int .i64 r176.bits, Value.bool r176.bad], .box b118 55 [v119, v121, Value.int .i64 r37, Value.string r84.1, Value.int .i64 s144.2.2.2.2.1, Value.int .i64 s144.2.2.2.2.2.1]]) (l' := [.row 51 2 v140 n141 cs142]) [1] (by decide) rfl), i182⟩)), ?_⟩
           exact FB.done (by kernel_rfl) ⟨_, _, _, _, (S189.selT (a := [.row 55 6 v183 n184 cs185, .row 51 2 v140 n141 cs142, .box b33 95 [Value.slice none 0 0, Value.bool false, Value.int .i64 0, Value.bool false], .box b29 95 [v183, Value.bool r176.open_, Value.int .i64 r176.bits, Value.bool r176.bad], .box b118 55 [v119, v121, Value.int .i64 r37, Value.string r84.1, Value.int .i64 s144.2.2.2.2.1, Value.int .i64 s144.2.2.2.2.2.1]]) (l' := [.row 51 2 v140 n141 cs142, .box b33 95 [Value.slice none 0 0, Value.bool false, Value.int .i64 0, Value.bool false], .box b29 95 [v183, Value.bool r176.open_, Value.int .i64 r176.bits, Value.bool r176.bad], .row 55 6 v183 n184 cs185, .box b118 55 [v119, v121, Value.int .i64 r37, Value.string r84.1, Value.int .i64 s144.2.2.2.2.1, Value.int .i64 s144.2.2.2.2.2.1]]) [1, 2, 3, 0, 4] (by decide) rfl), i182, els186, k154, k155, k156, k157, k158⟩
        ·
         rintro f198 w197 ⟨H194, v190, n191, cs192, S195, i196, els193, k199, k200, k201, k202, k203⟩
         refine FW.seq (FW.seq (FW.region ?_))
         refine FL.v (E.fieldAddr tf95_1 k199) ?_
         refine FL.v (E.load rfl (run_load1 Tryz.isAgg4 (S195.box_now (i := 2) rfl) rfl)) ?_
         refine FL.v (E.move (v := Value.bool r176.open_) rfl) ?_
         refine FL.cut 3 (fun f w => ∃ H : GH, St H0 w0 H w (.row 51 2 v140 n141 cs142 :: .box b33 95 [Value.slice none 0 0, Value.bool false, Value.int .i64 0, Value.bool false] :: .box b29 95 [v190, Value.bool r176.open_, Value.int .i64 r176.bits, Value.bool r176.bad] :: .row 55 6 v190 n191 cs192 :: .box b118 55 [v119, v121, Value.int .i64 r37, Value.string r84.1, Value.int .i64 s144.2.2.2.2.1, Value.int .i64 s144.2.2.2.2.2.1] :: L) ∧ Inc H194 H ∧ f 3 = Value.pointer (some (⟨b29, 0, none⟩ : Addr)) ∧ f 4 = Value.pointer (some (⟨b33, 0, none⟩ : Addr)) ∧ f 8 = Value.pointer (some (⟨b118, 0, none⟩ : Addr)) ∧ f 9 = v140 ∧ f 10 = Value.int .i64 s144.2.2.2.2.2.2 ∧ f 71 = Value.bool (bif r176.open_ then true else r176.bad)) ?_ ?_
         ·
          rcases bcase r176.open_ with c209 | c209
          ·
           refine FL.skip (wF_no rfl rfl rfl c209) rfl ?_
           refine FL.skip (wF_no rfl rfl rfl c209) rfl ?_
           refine FL.v (E.pickT rfl c209 rfl) ?_
           exact FL.nil ⟨rfl, _, S195, (Inc.rfl _), k199, k200, k201, k202, k203, (congrArg Value.bool (bifT c209).symm)⟩
          ·
           refine FL.val (wF_yes rfl rfl rfl c209) rfl rfl (E.fieldAddr tf95_3 k199) ?_
           refine FL.val (wF_yes rfl rfl rfl c209) rfl rfl (E.load rfl (run_load1 Tryz.isAgg4 (S195.box_now (i := 2) rfl) rfl)) ?_
           refine FL.v (E.pickF rfl c209 rfl) ?_
           exact FL.nil ⟨rfl, _, S195, (Inc.rfl _), k199, k200, k201, k202, k203, (congrArg Value.bool (bifF c209).symm)⟩
         rintro f208 w207 ⟨H204, S205, i206, k210, k211, k212, k213, k214, k215⟩
         refine FL.nil ?_
         rcases ifB hp with ⟨c216, hp⟩ | ⟨c216, hp⟩
         ·
          refine FW.condT k215 c216 ?_
          refine FW.seq (FW.region ?_)
          refine FL.v (E.load k210 (run_loadA Tryz.isAgg95 Tryz.sizeOf95 (S205.box_now (i := 2) rfl) rfl)) ?_
          obtain ⟨w217, run218, S219⟩ := S205.store0 (P := Tryz.prog) (t := 95) (i := 1) (cs' := [v190, Value.bool r176.open_, Value.int .i64 r176.bits, Value.bool r176.bad]) (l' := (.row 51 2 v140 n141 cs142 :: .box b33 95 [v190, Value.bool r176.open_, Value.int .i64 r176.bits, Value.bool r176.bad] :: .box b29 95 [v190, Value.bool r176.open_, Value.int .i64 r176.bits, Value.bool r176.bad] :: .row 55 6 v190 n191 cs192 :: .box b118 55 [v119, v121, Value.int .i64 r37, Value.string r84.1, Value.int .i64 s144.2.2.2.2.1, Value.int .i64 s144.2.2.2.2.2.1] :: L)) (v := Value.agg #[v190, Value.bool r176.open_, Value.int .i64 r176.bits, Value.bool r176.bad]) (c := [v190, Value.bool r176.open_, Value.int .i64 r176.bits, Value.bool r176.bad]) rfl Tryz.sizeOf95 rfl rfl (ones_cons (Ln.one (S205.row_ln (i := 3) rfl)) (ones_cons rfl (ones_cons rfl (ones_cons rfl ones_nil)))) (Nat.le_of_ble_eq_true rfl) rfl rfl
          refine FL.act rfl rfl (E.store k211 rfl run218) ?_
          refine FL.nil ?_
          refine FW.ret ?_
          obtain rfl := Option.some.inj hp
          exact ⟨nofun, rfl, ⟨.inr rfl, resC rfl k211 (loadVar_A Tryz.isAgg95 Tryz.sizeOf95 (S219.box_now (i := 1) rfl) rfl) ⟨_, _, _, _, rfl, ⟨(S219.selT (a := [.row 51 2 v140 n141 cs142, .box b33 95 [v190, Value.bool r176.open_, Value.int .i64 r176.bits, Value.bool r176.bad], .box b29 95 [v190, Value.bool r176.open_, Value.int .i64 r176.bits, Value.bool r176.bad], .row 55 6 v190 n191 cs192, .box b118 55 [v119, v121, Value.int .i64 r37, Value.string r84.1, Value.int .i64 s144.2.2.2.2.1, Value.int .i64 s144.2.2.2.2.2.1]]) (l' := [.row 55 6 v190 n191 cs192]) [3] (by decide) rfl), ((((((i27.tr i40).tr i125).tr r139.run.inc).tr i151).tr i196).tr i206)⟩, (els193.mono i206)⟩⟩⟩
         ·
          refine FW.condF k215 c216 ?_
          refine FW.skip (FW.seq (FW.region ?_))
          refine FL.v (E.move k214) ?_
          refine FL.v (E.eql rfl rfl) ?_
          refine FL.nil ?_
          rcases ifB hp with ⟨c220, hp⟩ | ⟨c220, hp⟩
          ·
           refine FW.condT rfl c220 ?_
           refine FW.region ?_
           refine FL.v (E.fieldAddr tf95_0 k210) ?_
           refine FL.v (E.load rfl (run_load1 Tryz.isAgg22 (S205.box_now (i := 2) rfl) rfl)) ?_
           refine FL.v (E.lenO te22 rfl S205 (i := 3) rfl els193 (by decide)) ?_
           refine FL.v (E.sub rfl rfl) ?_
           refine FL.v (E.fieldAddr tf55_3 k212) ?_
           obtain ⟨w221, run222, S223⟩ := S205.store (P := Tryz.prog) (t := 3) (i := 4) (j := 4) (cs' := [v119, v121, Value.int .i64 r37, Value.string r84.1, Value.int .i64 (wr ((len r176.steps) - 1)), Value.int .i64 s144.2.2.2.2.2.1]) (l' := (.row 51 2 v140 n141 cs142 :: .box b33 95 [Value.slice none 0 0, Value.bool false, Value.int .i64 0, Value.bool false] :: .box b29 95 [v190, Value.bool r176.open_, Value.int .i64 r176.bits, Value.bool r176.bad] :: .row 55 6 v190 n191 cs192 :: .box b118 55 [v119, v121, Value.int .i64 r37, Value.string r84.1, Value.int .i64 (wr ((len r176.steps) - 1)), Value.int .i64 s144.2.2.2.2.2.1] :: L)) (v := Value.int .i64 (wr ((len r176.steps) - 1))) (c := [Value.int .i64 (wr ((len r176.steps) - 1))]) rfl Tryz.sizeOf3 rfl rfl (ones_cons rfl ones_nil) (Nat.le_of_ble_eq_true rfl) rfl rfl
           refine FL.act rfl rfl (E.store rfl rfl run222) ?_
           refine FL.nil (FW.region ?_)
           refine FL.v (E.move k214) ?_
           refine FL.v (E.add rfl rfl) ?_
           refine FL.v (E.assign (v := Value.int .i64 (wr (s144.2.2.2.2.2.2 + 1))) rfl) ?_
           refine FL.nil ?_
           obtain rfl := Option.some.inj hp
           exact ⟨rfl, ⟨_, _, _, _, S223, ((i151.tr i196).tr i206), (els193.mono i206), k210, k211, k212, k213, rfl⟩⟩
          ·
           refine FW.condF rfl c220 ?_
           refine FW.region ?_
           refine FL.v (E.fieldAddr tf95_0 k210) ?_
           refine FL.v (E.load rfl (run_load1 Tryz.isAgg22 (S205.box_now (i := 2) rfl) rfl)) ?_
           refine FL.v (E.lenO te22 rfl S205 (i := 3) rfl els193 (by decide)) ?_
           refine FL.v (E.sub rfl rfl) ?_
           refine FL.v (E.fieldAddr tf55_4 k212) ?_
           obtain ⟨w224, run225, S226⟩ := S205.store (P := Tryz.prog) (t := 3) (i := 4) (j := 5) (cs' := [v119, v121, Value.int .i64 r37, Value.string r84.1, Value.int .i64 s144.2.2.2.2.1, Value.int .i64 (wr ((len r176.steps) - 1))]) (l' := (.row 51 2 v140 n141 cs142 :: .box b33 95 [Value.slice none 0 0, Value.bool false, Value.int .i64 0, Value.bool false] :: .box b29 95 [v190, Value.bool r176.open_, Value.int .i64 r176.bits, Value.bool r176.bad] :: .row 55 6 v190 n191 cs192 :: .box b118 55 [v119, v121, Value.int .i64 r37, Value.string r84.1, Value.int .i64 s144.2.2.2.2.1, Value.int .i64 (wr ((len r176.steps) - 1))] :: L)) (v := Value.int .i64 (wr ((len r176.steps) - 1))) (c := [Value.int .i64 (wr ((len r176.steps) - 1))]) rfl Tryz.sizeOf3 rfl rfl (ones_cons rfl ones_nil) (Nat.le_of_ble_eq_true rfl) rfl rfl
           refine FL.act rfl rfl (E.store rfl rfl run225) ?_
           refine FL.nil (FW.region ?_)
           refine FL.v (E.move k214) ?_
           refine FL.v (E.add rfl rfl) ?_
           refine FL.v (E.assign (v := Value.int .i64 (wr (s144.2.2.2.2.2.2 + 1))) rfl) ?_
           refine FL.nil ?_
           obtain rfl := Option.some.inj hp
           exact ⟨rfl, ⟨_, _, _, _, S226, ((i151.tr i196).tr i206), (els193.mono i206), k210, k211, k212, k213, rfl⟩⟩
       ·
        refine FW.condF rfl c159 ?_
        refine FW.exit ?_
        obtain rfl := Option.some.inj hp
        exact ⟨nofun, rfl, ⟨_, _, _, _, S150, i151, els148, k154, k155, k156⟩⟩
      ·
       clear hq
       intro e f232 w231 hD
       rcases q144 with s144 | x144
       ·
        obtain ⟨rfl, hD⟩ := hD
        obtain ⟨H228, v145, n146, cs147, S229, i230, els148, k233, k234, k235⟩ := hD
        replace hp := el_go hp
        refine FW.seq (FW.region ?_)
        refine FL.v (E.load k233 (run_loadA Tryz.isAgg95 Tryz.sizeOf95 (S229.box_now (i := 2) rfl) rfl)) ?_
        refine FL.v (E.load k235 (run_loadA Tryz.isAgg55 Tryz.sizeOf55 (S229.box_now (i := 4) rfl) rfl)) ?_
        obtain ⟨r236, hr237, hp⟩ := bnd hp
        have S238 : St H0 w0 H228 w231 (.row 55 6 v145 n146 cs147 :: .row 51 2 v140 n141 cs142 :: .box b33 95 [Value.slice none 0 0, Value.bool false, Value.int .i64 0, Value.bool false] :: .box b29 95 [v145, Value.bool s144.2.1, Value.int .i64 s144.2.2.1, Value.bool s144.2.2.2.1] :: .box b118 55 [v119, v121, Value.int .i64 r37, Value.string r84.1, Value.int .i64 s144.2.2.2.2.1, Value.int .i64 s144.2.2.2.2.2.1] :: L) := S229.front 3 rfl rfl
        refine FL.call rfl rfl rfl (E.call Tryz.call89 (A2 rfl rfl)) (w_spec_l23Put (L := (.row 51 2 v140 n141 cs142 :: .box b33 95 [Value.slice none 0 0, Value.bool false, Value.int .i64 0, Value.bool false] :: .box b29 95 [v145, Value.bool s144.2.1, Value.int .i64 s144.2.2.1, Value.bool s144.2.2.2.1] :: .box b118 55 [v119, v121, Value.int .i64 r37, Value.string r84.1, Value.int .i64 s144.2.2.2.2.1, Value.int .i64 s144.2.2.2.2.2.1] :: L)) S238 (a0 := (l23Search.mk s144.1 s144.2.1 s144.2.2.1 s144.2.2.2.1)) els148 (SeqStep.mk a0 r37 r84.1 s144.2.2.2.2.1 s144.2.2.2.2.2.1) v119 (h120.mono (r139.run.inc.tr i230)) v121 (h122.mono (r139.run.inc.tr i230)) hr237) ?_
        rintro e w240 ⟨H239, v243, n244, cs245, rfl, ⟨S241, i242⟩, els246⟩
        refine ⟨_, rfl, ?_⟩
        have S241 : St H0 w0 H239 w240 (.row 55 6 v243 n244 cs245 :: .row 51 2 v140 n141 cs142 :: .box b33 95 [Value.slice none 0 0, Value.bool false, Value.int .i64 0, Value.bool false] :: .box b29 95 [v145, Value.bool s144.2.1, Value.int .i64 s144.2.2.1, Value.bool s144.2.2.2.1] :: .box b118 55 [v119, v121, Value.int .i64 r37, Value.string r84.1, Value.int .i64 s144.2.2.2.2.1, Value.int .i64 s144.2.2.2.2.2.1] :: L) := S241
        obtain ⟨w247, run248, S249⟩ := S241.store0 (P := Tryz.prog) (t := 95) (i := 2) (cs' := [v243, Value.bool r236.open_, Value.int .i64 r236.bits, Value.bool r236.bad]) (l' := (.row 55 6 v243 n244 cs245 :: .row 51 2 v140 n141 cs142 :: .box b33 95 [v243, Value.bool r236.open_, Value.int .i64 r236.bits, Value.bool r236.bad] :: .box b29 95 [v145, Value.bool s144.2.1, Value.int .i64 s144.2.2.1, Value.bool s144.2.2.2.1] :: .box b118 55 [v119, v121, Value.int .i64 r37, Value.string r84.1, Value.int .i64 s144.2.2.2.2.1, Value.int .i64 s144.2.2.2.2.2.1] :: L)) (v := Value.agg #[v243, Value.bool r236.open_, Value.int .i64 r236.bits, Value.bool r236.bad]) (c := [v243, Value.bool r236.open_, Value.int .i64 r236.bits, Value.bool r236.bad]) rfl Tryz.sizeOf95 rfl rfl (ones_cons (Ln.one (S241.row_ln (i := 0) rfl)) (ones_cons rfl (ones_cons rfl (ones_cons rfl ones_nil)))) (Nat.le_of_ble_eq_true rfl) rfl rfl
        refine FL.act rfl rfl (E.store k234 rfl run248) ?_
        refine FL.nil ?_
        refine FW.ret ?_
        obtain rfl := Option.some.inj hp
        exact ⟨.inr rfl, resC rfl k234 (loadVar_A Tryz.isAgg95 Tryz.sizeOf95 (S249.box_now (i := 2) rfl) rfl) ⟨_, _, _, _, rfl, ⟨(S249.selT (a := [.row 55 6 v243 n244 cs245, .row 51 2 v140 n141 cs142, .box b33 95 [v243, Value.bool r236.open_, Value.int .i64 r236.bits, Value.bool r236.bad], .box b29 95 [v145, Value.bool s144.2.1, Value.int .i64 s144.2.2.1, Value.bool s144.2.2.2.1], .box b118 55 [v119, v121, Value.int .i64 r37, Value.string r84.1, Value.int .i64 s144.2.2.2.2.1, Value.int .i64 s144.2.2.2.2.2.1]]) (l' := [.row 55 6 v243 n244 cs245]) [0] (by decide) rfl), (((((i27.tr i40).tr i125).tr r139.run.inc).tr i230).tr i242)⟩, els246⟩⟩
       ·
        obtain ⟨he, hL⟩ := hD
        replace hp := el_rt hp
        obtain rfl := Option.some.inj hp
        subst he
        exact hL
theorem w_spec_l23Go_F (n : Nat) : ∀ {H0 Ha : GH} {w0 wa : World} {L : List MO} {a1 : l23Search} {v1_0 : Value} {n1_0 : Nat} {k1_0 : List Value} (S0 : St H0 w0 Ha wa (.row 55 6 v1_0 n1_0 k1_0 :: L)) (a0 : Sequent) (v0_0 : Value) (p0_0 : RSl Ha eS 1 v0_0 a0.left) (v0_1 : Value) (p0_1 : RSl Ha eS 1 v0_1 a0.right) (p1_0 : Els Ha eSeqStep 6 k1_0 a1.steps) {r : l23Search} (hp : PF.spec_l23Go_F n a0 a1 = some r), Calls Tryz.prog 61 #[Value.agg #[v0_0, v0_1], Value.agg #[v1_0, Value.bool a1.open_, Value.int .i64 a1.bits, Value.bool a1.bad]] wa (p_spec_l23Go H0 w0 Ha L r) := by
 induction n with
 | zero => intros; rename_i hp; exact nomatch hp
 | succ n ih => exact w_spec_l23Go_B (rec_spec_l23Go := PF.spec_l23Go_F n) ih
theorem w_spec_l23Go {H0 Ha : GH} {w0 wa : World} {L : List MO} {a1 : l23Search} {v1_0 : Value} {n1_0 : Nat} {k1_0 : List Value} (S0 : St H0 w0 Ha wa (.row 55 6 v1_0 n1_0 k1_0 :: L)) (a0 : Sequent) (v0_0 : Value) (p0_0 : RSl Ha eS 1 v0_0 a0.left) (v0_1 : Value) (p0_1 : RSl Ha eS 1 v0_1 a0.right) (p1_0 : Els Ha eSeqStep 6 k1_0 a1.steps) {r : l23Search} (hp : PF.spec_l23Go a0 a1 = some r) :
  Calls Tryz.prog 61 #[Value.agg #[v0_0, v0_1], Value.agg #[v1_0, Value.bool a1.open_, Value.int .i64 a1.bits, Value.bool a1.bad]] wa (p_spec_l23Go H0 w0 Ha L r) := w_spec_l23Go_F deep S0 a0 v0_0 p0_0 v0_1 p0_1 p1_0 hp

@[reducible] def p_spec_l23Own (Ha : GH) (wa : World) (r : Sequent) : Ending → World → Prop :=
 fun e w' => ∃ H' : GH, ∃ v0_0 : Value, ∃ v0_1 : Value, e = .returned (Value.agg #[v0_0, v0_1]) ∧ Run wa.heap.size Ha wa H' w' ∧ (∃ c0 c1, Nest (up wa.heap.size H') eS 1 v0_0 r.left c0 ∧ Nest (up wa.heap.size H') eS 1 v0_1 r.right c1 ∧ Ap v0_0 c0 v0_1 c1)
set_option maxHeartbeats 4000000 in
theorem w_spec_l23Own {Ha : GH} {wa : World} (hs : Sl Ha wa) (a0 : Sequent) (v0_0 : Value) (p0_0 : RSl Ha eS 1 v0_0 a0.left) (v0_1 : Value) (p0_1 : RSl Ha eS 1 v0_1 a0.right) {r : Sequent} (hp : (PF.spec_l23Own a0) = some r) :
  Calls Tryz.prog 62 #[Value.agg #[v0_0, v0_1]] wa (p_spec_l23Own Ha wa r) := by
 unfold PF.spec_l23Own at hp
 have S0 := St.init hs
 refine calls_go (N := 12) (args := [Value.agg #[v0_0, v0_1]]) Tryz.func62 rfl rfl rfl ?_
 refine FW.seq (FW.region ?_)
 obtain ⟨b21, w22, run23, S24⟩ := S0.box (P := Tryz.prog) 51 [v0_0, v0_1] (v := Value.agg #[v0_0, v0_1]) rfl (ones_cons p0_0.one (ones_cons p0_1.one ones_nil))
 refine FL.v (E.box rfl run23) ?_
 obtain ⟨H25, S26, i27, at28⟩ := S24.sealBox (i := 0) (l' := []) rfl rfl
 obtain ⟨b29, w30, run31, S32⟩ := S26.alloc (P := Tryz.prog) 51 [Value.slice none 0 0, Value.slice none 0 0] Tryz.zeroValue51 rfl (ones_cons rfl (ones_cons rfl ones_nil))
 refine FL.v (E.alloc run31) ?_
 refine FL.nil (FW.seq ?_)
 obtain ⟨xs41, hz42, hp⟩ := bnd hp
 obtain ⟨xs56, hz57, hp⟩ := bnd hp
 refine FW.drawB (Sl H25) (fun f w => ∃ H : GH, ∃ v78 : Value, ∃ v81 : Value, St Ha wa H w [.box b29 51 [v78, v81]] ∧ Inc H25 H ∧ RSl (up wa.heap.size H) eS 1 v78 xs41 ∧ RSl (up wa.heap.size H) eS 1 v81 xs56 ∧ New H25 [v78] ∧ New H25 [v81] ∧ (∀ b ∈ bl [v78], b ∉ bl [v81]) ∧ f 2 = Value.pointer (some (⟨b29, 0, none⟩ : Addr))) (by kernel_rfl) S32.sl ?_ ?_
 ·
  intro w33 r34
  have S35 := S32.call r34
  refine FB.t (i := 1) (bs 10 2) rfl (SP.nil S35.sl) rfl (fun w' hw' => (E.fieldAddr tf51_0 rfl)) ?_
  refine FB.t (i := 2) (bs 10 6) rfl (SP.nil S35.sl) rfl (fun w' hw' => (E.load rfl (run_load1 Tryz.isAgg30 (at28.now hw') rfl))) ?_
  refine FB.t (i := 5) (bs 10 38) rfl (SP.nil S35.sl) rfl (fun w' hw' => (E.fieldAddr tf51_1 rfl)) ?_
  refine FB.t (i := 6) (bs 10 102) rfl (SP.nil S35.sl) rfl (fun w' hw' => (E.load rfl (run_load1 Tryz.isAgg30 (at28.now hw') rfl))) ?_
  refine FB.all2 (i := 0) (j := 4) (by kernel_rfl) ?_ ?_
  ·
   obtain ⟨v36, w37, run38, S39⟩ := S35.buildSlice (P := Tryz.prog) te30 [] (parts := #[]) (cells := []) rfl szs_nil fc_nil ones_nil (Nat.le_of_ble_eq_true rfl)
   have els40 : Els (up wa.heap.size H25) eS 1 [] [] := Els.nil
   refine FC.val (l' := (bs 10 103)) rfl (by kernel_rfl) rfl rfl rfl (E.buildSlice (B0) run38) ?_
   refine ⟨(SP.nil S39.sl), ?_⟩
   refine FB.all2 (i := 3) (j := 4) (by kernel_rfl) ?_ ?_
   ·
    obtain ⟨v43, w46, n44, cs45, run47, S48, els49⟩ := S39.appendP (P := Tryz.prog) (Inc.rfl _) te30 (i := 0) rfl (els40.mono upI) (p0_0.mono i27) hz42
    have S48 : St Ha wa H25 w46 [.row 9 1 v43 n44 cs45, .box b29 51 [Value.slice none 0 0, Value.slice none 0 0]] := S48
    have els49 : Els (up wa.heap.size H25) eS 1 cs45 xs41 := els49.any (fun _ _ _ _ h => h)
    refine FC.val (l' := (bs 10 111)) rfl (by kernel_rfl) rfl rfl rfl (E.append rfl rfl run47) ?_
    refine ⟨(SP.nil S48.sl), ?_⟩
    refine FB.all1 (i := 4) (by kernel_rfl) ?_
    ·
     obtain ⟨v50, w52, run53, S54⟩ := S48.buildSlice (P := Tryz.prog) te30 [] (parts := #[]) (cells := []) rfl szs_nil fc_nil ones_nil (Nat.le_of_ble_eq_true rfl)
     have els55 : Els (up wa.heap.size H25) eS 1 [] [] := Els.nil
     refine FC.val (l' := (bs 10 127)) rfl (by kernel_rfl) rfl rfl rfl (E.buildSlice (B0) run53) ?_
     refine ⟨(SP.nil S54.sl), ?_⟩
     refine FB.all1 (i := 7) (by kernel_rfl) ?_
     ·
      obtain ⟨v58, w61, n59, cs60, run62, S63, els64⟩ := S54.appendP (P := Tryz.prog) (Inc.rfl _) te30 (i := 0) rfl (els55.mono upI) (p0_1.mono i27) hz57
      have S63 : St Ha wa H25 w61 [.row 9 1 v58 n59 cs60, .row 9 1 v43 n44 cs45, .box b29 51 [Value.slice none 0 0, Value.slice none 0 0]] := S63
      have els64 : Els (up wa.heap.size H25) eS 1 cs60 xs56 := els64.any (fun _ _ _ _ h => h)
      refine FC.val (l' := (bs 10 255)) rfl (by kernel_rfl) rfl rfl rfl (E.append rfl rfl run62) ?_
      refine ⟨(SP.nil S63.sl), ?_⟩
      obtain ⟨H65, S66, i67, h68, nv69⟩ := S63.sealRowU (i := 1) (l' := [.row 9 1 v58 n59 cs60, .box b29 51 [Value.slice none 0 0, Value.slice none 0 0]]) rfl els49 (by decide) rfl
      obtain ⟨H70, S71, i72, h73, nv74⟩ := S66.sealRowU (i := 0) (l' := [.box b29 51 [Value.slice none 0 0, Value.slice none 0 0]]) rfl (els64.mono (up_mono i67)) (by decide) rfl
      refine FB.t (i := 8) (bs 10 511) rfl (SP.nil S63.sl) rfl (fun w' hw' => (E.build (B2 rfl rfl) (run_build _ 51 #[(0, v43), (1, v58)] #[v43, v58] (by obtain ⟨_, _, rfl⟩ := RSl.ln (h68.mono (upI.tr i72)); obtain ⟨_, _, rfl⟩ := RSl.ln (h73.mono upI); rfl)))) ?_
      refine FB.all1 (i := 9) (by kernel_rfl) ?_
      ·
       obtain ⟨w75, run76, S77⟩ := S71.store0 (P := Tryz.prog) (t := 51) (i := 0) (cs' := [v43, v58]) (l' := [.box b29 51 [v43, v58]]) (v := Value.agg #[v43, v58]) (c := [v43, v58]) rfl Tryz.sizeOf51 rfl rfl (ones_cons h68.one (ones_cons h73.one ones_nil)) (Nat.le_of_ble_eq_true rfl) rfl rfl
       refine FC.act (l' := (bs 10 1023)) rfl (by kernel_rfl) rfl rfl (E.store rfl rfl run76) ?_
       refine ⟨(SP.nil (Sl.of_inc (i67.tr i72) S77.sl)), ?_⟩
       exact FB.done (by kernel_rfl) ⟨_, _, _, S77, (i67.tr i72), (h68.mono (up_mono i72)), h73, (nv69.anti (Inc.rfl _)), (nv74.anti i67), (New.apart (h68.mono (up_mono (Inc.rfl _))) nv74), rfl⟩
   ·
    obtain ⟨v50, w52, run53, S54⟩ := S39.buildSlice (P := Tryz.prog) te30 [] (parts := #[]) (cells := []) rfl szs_nil fc_nil ones_nil (Nat.le_of_ble_eq_true rfl)
    have els55 : Els (up wa.heap.size H25) eS 1 [] [] := Els.nil
    refine FC.val (l' := (bs 10 119)) rfl (by kernel_rfl) rfl rfl rfl (E.buildSlice (B0) run53) ?_
    refine ⟨(SP.nil S54.sl), ?_⟩
    refine FB.all1 (i := 3) (by kernel_rfl) ?_
    ·
     obtain ⟨v43, w46, n44, cs45, run47, S48, els49⟩ := S54.appendP (P := Tryz.prog) (Inc.rfl _) te30 (i := 1) rfl (els40.mono upI) (p0_0.mono i27) hz42
     have S48 : St Ha wa H25 w46 [.row 9 1 v50 0 [], .row 9 1 v43 n44 cs45, .box b29 51 [Value.slice none 0 0, Value.slice none 0 0]] := S48
     have els49 : Els (up wa.heap.size H25) eS 1 cs45 xs41 := els49.any (fun _ _ _ _ h => h)
     refine FC.val (l' := (bs 10 127)) rfl (by kernel_rfl) rfl rfl rfl (E.append rfl rfl run47) ?_
     refine ⟨(SP.nil S48.sl), ?_⟩
     refine FB.all1 (i := 7) (by kernel_rfl) ?_
     ·
      obtain ⟨v58, w61, n59, cs60, run62, S63, els64⟩ := S48.appendP (P := Tryz.prog) (Inc.rfl _) te30 (i := 0) rfl (els55.mono upI) (p0_1.mono i27) hz57
      have S63 : St Ha wa H25 w61 [.row 9 1 v58 n59 cs60, .row 9 1 v43 n44 cs45, .box b29 51 [Value.slice none 0 0, Value.slice none 0 0]] := S63
      have els64 : Els (up wa.heap.size H25) eS 1 cs60 xs56 := els64.any (fun _ _ _ _ h => h)
      refine FC.val (l' := (bs 10 255)) rfl (by kernel_rfl) rfl rfl rfl (E.append rfl rfl run62) ?_
      refine ⟨(SP.nil S63.sl), ?_⟩
      obtain ⟨H65, S66, i67, h68, nv69⟩ := S63.sealRowU (i := 1) (l' := [.row 9 1 v58 n59 cs60, .box b29 51 [Value.slice none 0 0, Value.slice none 0 0]]) rfl els49 (by decide) rfl
      obtain ⟨H70, S71, i72, h73, nv74⟩ := S66.sealRowU (i := 0) (l' := [.box b29 51 [Value.slice none 0 0, Value.slice none 0 0]]) rfl (els64.mono (up_mono i67)) (by decide) rfl
      refine FB.t (i := 8) (bs 10 511) rfl (SP.nil S63.sl) rfl (fun w' hw' => (E.build (B2 rfl rfl) (run_build _ 51 #[(0, v43), (1, v58)] #[v43, v58] (by obtain ⟨_, _, rfl⟩ := RSl.ln (h68.mono (upI.tr i72)); obtain ⟨_, _, rfl⟩ := RSl.ln (h73.mono upI); rfl)))) ?_
      refine FB.all1 (i := 9) (by kernel_rfl) ?_
      ·
       obtain ⟨w75, run76, S77⟩ := S71.store0 (P := Tryz.prog) (t := 51) (i := 0) (cs' := [v43, v58]) (l' := [.box b29 51 [v43, v58]]) (v := Value.agg #[v43, v58]) (c := [v43, v58]) rfl Tryz.sizeOf51 rfl rfl (ones_cons h68.one (ones_cons h73.one ones_nil)) (Nat.le_of_ble_eq_true rfl) rfl rfl
       refine FC.act (l' := (bs 10 1023)) rfl (by kernel_rfl) rfl rfl (E.store rfl rfl run76) ?_
       refine ⟨(SP.nil (Sl.of_inc (i67.tr i72) S77.sl)), ?_⟩
       exact FB.done (by kernel_rfl) ⟨_, _, _, S77, (i67.tr i72), (h68.mono (up_mono i72)), h73, (nv69.anti (Inc.rfl _)), (nv74.anti i67), (New.apart (h68.mono (up_mono (Inc.rfl _))) nv74), rfl⟩
  ·
   obtain ⟨v50, w52, run53, S54⟩ := S35.buildSlice (P := Tryz.prog) te30 [] (parts := #[]) (cells := []) rfl szs_nil fc_nil ones_nil (Nat.le_of_ble_eq_true rfl)
   have els55 : Els (up wa.heap.size H25) eS 1 [] [] := Els.nil
   refine FC.val (l' := (bs 10 118)) rfl (by kernel_rfl) rfl rfl rfl (E.buildSlice (B0) run53) ?_
   refine ⟨(SP.nil S54.sl), ?_⟩
   refine FB.all1 (i := 0) (by kernel_rfl) ?_
   ·
    obtain ⟨v36, w37, run38, S39⟩ := S54.buildSlice (P := Tryz.prog) te30 [] (parts := #[]) (cells := []) rfl szs_nil fc_nil ones_nil (Nat.le_of_ble_eq_true rfl)
    have els40 : Els (up wa.heap.size H25) eS 1 [] [] := Els.nil
    refine FC.val (l' := (bs 10 119)) rfl (by kernel_rfl) rfl rfl rfl (E.buildSlice (B0) run38) ?_
    refine ⟨(SP.nil S39.sl), ?_⟩
    refine FB.all1 (i := 3) (by kernel_rfl) ?_
    ·
     obtain ⟨v43, w46, n44, cs45, run47, S48, els49⟩ := S39.appendP (P := Tryz.prog) (Inc.rfl _) te30 (i := 0) rfl (els40.mono upI) (p0_0.mono i27) hz42
     have S48 : St Ha wa H25 w46 [.row 9 1 v43 n44 cs45, .row 9 1 v50 0 [], .box b29 51 [Value.slice none 0 0, Value.slice none 0 0]] := S48
     have els49 : Els (up wa.heap.size H25) eS 1 cs45 xs41 := els49.any (fun _ _ _ _ h => h)
     refine FC.val (l' := (bs 10 127)) rfl (by kernel_rfl) rfl rfl rfl (E.append rfl rfl run47) ?_
     refine ⟨(SP.nil S48.sl), ?_⟩
     refine FB.all1 (i := 7) (by kernel_rfl) ?_
     ·
      obtain ⟨v58, w61, n59, cs60, run62, S63, els64⟩ := S48.appendP (P := Tryz.prog) (Inc.rfl _) te30 (i := 1) rfl (els55.mono upI) (p0_1.mono i27) hz57
      have S63 : St Ha wa H25 w61 [.row 9 1 v43 n44 cs45, .row 9 1 v58 n59 cs60, .box b29 51 [Value.slice none 0 0, Value.slice none 0 0]] := S63
      have els64 : Els (up wa.heap.size H25) eS 1 cs60 xs56 := els64.any (fun _ _ _ _ h => h)
      refine FC.val (l' := (bs 10 255)) rfl (by kernel_rfl) rfl rfl rfl (E.append rfl rfl run62) ?_
      refine ⟨(SP.nil S63.sl), ?_⟩
      obtain ⟨H65, S66, i67, h68, nv69⟩ := S63.sealRowU (i := 0) (l' := [.row 9 1 v58 n59 cs60, .box b29 51 [Value.slice none 0 0, Value.slice none 0 0]]) rfl els49 (by decide) rfl
      obtain ⟨H70, S71, i72, h73, nv74⟩ := S66.sealRowU (i := 0) (l' := [.box b29 51 [Value.slice none 0 0, Value.slice none 0 0]]) rfl (els64.mono (up_mono i67)) (by decide) rfl
      refine FB.t (i := 8) (bs 10 511) rfl (SP.nil S63.sl) rfl (fun w' hw' => (E.build (B2 rfl rfl) (run_build _ 51 #[(0, v43), (1, v58)] #[v43, v58] (by obtain ⟨_, _, rfl⟩ := RSl.ln (h68.mono (upI.tr i72)); obtain ⟨_, _, rfl⟩ := RSl.ln (h73.mono upI); rfl)))) ?_
      refine FB.all1 (i := 9) (by kernel_rfl) ?_
      ·
       obtain ⟨w75, run76, S77⟩ := S71.store0 (P := Tryz.prog) (t := 51) (i := 0) (cs' := [v43, v58]) (l' := [.box b29 51 [v43, v58]]) (v := Value.agg #[v43, v58]) (c := [v43, v58]) rfl Tryz.sizeOf51 rfl rfl (ones_cons h68.one (ones_cons h73.one ones_nil)) (Nat.le_of_ble_eq_true rfl) rfl rfl
       refine FC.act (l' := (bs 10 1023)) rfl (by kernel_rfl) rfl rfl (E.store rfl rfl run76) ?_
       refine ⟨(SP.nil (Sl.of_inc (i67.tr i72) S77.sl)), ?_⟩
       exact FB.done (by kernel_rfl) ⟨_, _, _, S77, (i67.tr i72), (h68.mono (up_mono i72)), h73, (nv69.anti (Inc.rfl _)), (nv74.anti i67), (New.apart (h68.mono (up_mono (Inc.rfl _))) nv74), rfl⟩
 ·
  rintro f89 w88 ⟨H85, v78, v81, S86, i87, h79, h82, nv80, nv83, hd84, k90⟩
  refine FW.ret ?_
  obtain rfl := Option.some.inj hp
  exact ⟨.inr rfl, resC rfl k90 (loadVar_A Tryz.isAgg51 Tryz.sizeOf51 (S86.box_now (i := 0) rfl) rfl) ⟨_, _, _, rfl, S86.run, (Ap.flat2 h79 eS_flat (by decide) h82 eS_flat (by decide) hd84)⟩⟩

end Go.Proofs
