/- Part of the walks and plain laws behind the claim: it proves helpers, under no condition beyond their own. -/
import Derived.Test.YtofdolgiondolaaGreatDoorDiLB
import Derived.Test.YtofdolgiondolaaGreatDoorDiSh
import Derived.Test.YtofdolgiondolaaGreatDoorDiPf
import Derived.Test.YtofdolgiondolaaGreatDoorProg
set_option linter.unusedVariables false
set_option maxRecDepth 100000
namespace Go.Proofs
open Go.Mr Go.Pu Go.PF Go.RowKit

def eFregeStep : Enc FregeStep := ⟨fun H cs s => cs = [Value.string s.formula, Value.int .i64 s.rule, Value.int .i64 s.a, Value.int .i64 s.b], fun _ h => h, by rintro H cs s rfl; exact (ones_cons rfl (ones_cons rfl (ones_cons rfl (ones_cons rfl ones_nil)))), by rintro H cs s rfl b hb; obtain ⟨u, hu, hn⟩ := mem_bl hb; simp only [List.mem_cons, List.not_mem_nil, or_false] at hu; rcases hu with rfl | rfl | rfl | rfl <;> cases hn⟩
theorem eFregeStep_open {H : GH} {cs : List Value} {s : FregeStep} (h : eFregeStep.rel H cs s) : cs = [Value.string s.formula, Value.int .i64 s.rule, Value.int .i64 s.a, Value.int .i64 s.b] := h

def Fn_S_to_B (P : Program) (H : GH) (v : Value) (p : ByteArray → Option Bool) : Prop :=
 ∀ (H' : GH) (w' : World), Inc H H' → Sl H' w' → ∀ (x0 : ByteArray) (r : Bool), p x0 = some r →
  ∃ (fid : Nat) (cs : Array Value), v = Value.func (.func fid) #[] cs ∧ (∀ args w, (callFunc fid args).run P w = .ok (.enter fid args) w) ∧ Calls P fid (#[Value.string x0] ++ cs) w' (Sc H' w' (Value.bool r))
theorem Fn_S_to_B.mono {P : Program} {H H' : GH} {v : Value} {p : ByteArray → Option Bool} (h : Fn_S_to_B P H v p) (hi : Inc H H') : Fn_S_to_B P H' v p :=
 fun H2 w2 h2 => h H2 w2 (hi.tr h2)

theorem fd39_0 {cs : List Value} {c : Value} (h : cs[0]? = some c) : ∃ fields fd, Tryz.prog.underlying 39 = some (.struct fields) ∧ fields[0]? = some fd ∧ (∀ w, (isAgg fd.type).run Tryz.prog w = .ok false w) ∧ cs[fd.offset]? = some c := ⟨_, _, Tryz.underlying39, rfl, Tryz.isAgg9, h⟩
theorem sg39 : Tryz.prog.eqGuardType Tryz.prog.depth 39 = false := by kernel_rfl
set_option linter.unusedSimpArgs false in
theorem sq39 (a0 : ByteArray) (a1 : Int) (a2 : Int) (a3 : Int) (b0 : ByteArray) (b1 : Int) (b2 : Int) (b3 : Int) (w : World) : (Op.equalIn 10000 39 (.agg #[Value.string a0, Value.int .i64 a1, Value.int .i64 a2, Value.int .i64 a3]) (.agg #[Value.string b0, Value.int .i64 b1, Value.int .i64 b2, Value.int .i64 b3])).run Tryz.prog w = .ok ((a0.toList == b0.toList) && ((a1 == b1) && ((a2 == b2) && (a3 == b3)))) w := by
 have u3 := Tryz.underlying3
 have i3 := Tryz.isAgg3
 have z3 := Tryz.sizeOf3
 have u9 := Tryz.underlying9
 have i9 := Tryz.isAgg9
 have z9 := Tryz.sizeOf9
 have hS : Tryz.prog.underlying 39 = some (.struct (Tryz.prog.fieldsOf 39)) := by kernel_rfl
 rw [show (10000 : Nat) = 9999 + 1 from rfl, run_equalIn_agg w 9999 39 _ _ hS (by kernel_rfl)]
 simp only [Program.fieldsOf, Tryz.underlying39]
 go_simp
 by_cases h0 : a0.toList = b0.toList <;> by_cases h1 : a1 = b1 <;> by_cases h2 : a2 = b2 <;> by_cases h3 : a3 = b3 <;> simp [h0, h1, h2, h3]
theorem te102 : TE Tryz.prog 102 4 1 (.bool false) := ⟨Tryz.underlying102, ⟨Tryz.t4, Tryz.type4, rfl, rfl, by decide⟩, rfl, by decide⟩
theorem te22 : TE Tryz.prog 22 5 1 (.int .u8 0) := ⟨Tryz.underlying22, ⟨Tryz.t5, Tryz.type5, rfl, rfl, by decide⟩, rfl, by decide⟩
theorem te24 : TE Tryz.prog 24 9 1 (.string ByteArray.empty) := ⟨Tryz.underlying24, ⟨Tryz.t9, Tryz.type9, rfl, rfl, by decide⟩, rfl, by decide⟩
theorem te25 : TE Tryz.prog 25 39 4 (.agg #[(.string ByteArray.empty), (.int .i64 0), (.int .i64 0), (.int .i64 0)]) := ⟨Tryz.underlying25, ⟨Tryz.t39, Tryz.type39, rfl, rfl, by decide⟩, rfl, by decide⟩
theorem te33 : TE Tryz.prog 33 3 1 (.int .i64 0) := ⟨Tryz.underlying33, ⟨Tryz.t3, Tryz.type3, rfl, rfl, by decide⟩, rfl, by decide⟩
theorem tf39_0 : TF Tryz.prog 39 0 0 := ⟨_, _, _, Tryz.underlying39, rfl, rfl, Tryz.sizeOf9, by decide⟩
theorem tf39_1 : TF Tryz.prog 39 1 1 := ⟨_, _, _, Tryz.underlying39, rfl, rfl, Tryz.sizeOf3, by decide⟩
theorem tf39_2 : TF Tryz.prog 39 2 2 := ⟨_, _, _, Tryz.underlying39, rfl, rfl, Tryz.sizeOf3, by decide⟩
theorem tf39_3 : TF Tryz.prog 39 3 3 := ⟨_, _, _, Tryz.underlying39, rfl, rfl, Tryz.sizeOf3, by decide⟩
theorem tf45_0 : TF Tryz.prog 45 0 0 := ⟨_, _, _, Tryz.underlying45, rfl, rfl, Tryz.sizeOf22, by decide⟩
theorem tf45_1 : TF Tryz.prog 45 1 1 := ⟨_, _, _, Tryz.underlying45, rfl, rfl, Tryz.sizeOf3, by decide⟩
theorem tf45_2 : TF Tryz.prog 45 2 2 := ⟨_, _, _, Tryz.underlying45, rfl, rfl, Tryz.sizeOf43, by decide⟩
theorem tf56_0 : TF Tryz.prog 56 0 0 := ⟨_, _, _, Tryz.underlying56, rfl, rfl, Tryz.sizeOf25, by decide⟩
theorem tf56_1 : TF Tryz.prog 56 1 1 := ⟨_, _, _, Tryz.underlying56, rfl, rfl, Tryz.sizeOf4, by decide⟩
theorem tf70_0 : TF Tryz.prog 70 0 0 := ⟨_, _, _, Tryz.underlying70, rfl, rfl, Tryz.sizeOf5, by decide⟩
theorem tf70_1 : TF Tryz.prog 70 1 1 := ⟨_, _, _, Tryz.underlying70, rfl, rfl, Tryz.sizeOf51, by decide⟩
theorem tf70_2 : TF Tryz.prog 70 2 2 := ⟨_, _, _, Tryz.underlying70, rfl, rfl, Tryz.sizeOf51, by decide⟩
theorem tf70_3 : TF Tryz.prog 70 3 3 := ⟨_, _, _, Tryz.underlying70, rfl, rfl, Tryz.sizeOf9, by decide⟩
theorem w_laws_vBig {Ha : GH} {wa : World} (hs : Sl Ha wa) (v0 : Value) (a0 : List Int) (p0 : RSl Ha (eN .u8) 1 v0 a0) :
  Calls Tryz.prog 4 #[v0] wa (Sc Ha wa (Value.bool (PF.laws_vBig a0))) := by
 obtain ⟨r, hp⟩ : ∃ r, (PF.laws_vBig a0) = r := ⟨_, rfl⟩
 rw [hp]
 unfold PF.laws_vBig at hp
 have S0 := St.init hs
 refine calls_go (N := 6) (args := [v0]) Tryz.func4 rfl rfl rfl ?_
 refine FW.seq (FW.region ?_)
 refine FL.v (E.assign (v := Value.bool false) rfl) ?_
 refine FL.nil (FW.seq (FW.region ?_))
 refine FL.v (E.move (v := v0) rfl) ?_
 refine FL.v (E.lenP te22 rfl p0) ?_
 refine FL.v (E.gtr rfl rfl) ?_
 refine FL.v (E.assign (v := Value.bool (decide (65536 < (len a0)))) rfl) ?_
 refine FL.nil ?_
 refine FW.ret ?_
 obtain rfl := hp
 exact ⟨.inr rfl, res1 rfl rfl ⟨rfl, S0.back⟩⟩

@[reducible] def p_spec_l1Cur_next (H0 : GH) (w0 : World) (Ha : GH) (L : List MO) (b0 : Nat) (r : (Int × l1Cur)) : Ending → World → Prop :=
 fun e w' => ∃ H' : GH, ∃ v0_0r : Value, e = .returned (Value.int .i64 r.1) ∧ (St H0 w0 H' w' (.box b0 45 [v0_0r, Value.int .i64 r.2.at_, Value.int .u64 r.2.seed] :: L) ∧ Inc Ha H') ∧ RSl H' (eN .u8) 1 v0_0r r.2.code
set_option maxHeartbeats 4000000 in
theorem w_spec_l1Cur_next {H0 Ha : GH} {w0 wa : World} {L : List MO} {a0 : l1Cur} {b0 : Nat} {v0_0 : Value} (S0 : St H0 w0 Ha wa (.box b0 45 [v0_0, Value.int .i64 a0.at_, Value.int .u64 a0.seed] :: L)) (p0_0 : RSl Ha (eN .u8) 1 v0_0 a0.code) {r : (Int × l1Cur)} (hp : (PF.spec_l1Cur_next a0) = some r) :
  Calls Tryz.prog 46 #[Value.pointer (some (⟨b0, 0, none⟩ : Addr))] wa (p_spec_l1Cur_next H0 w0 Ha L b0 r) := by
 unfold PF.spec_l1Cur_next at hp
 refine calls_go (N := 62) (args := [Value.pointer (some (⟨b0, 0, none⟩ : Addr))]) Tryz.func46 rfl rfl rfl ?_
 refine FW.seq (FW.region ?_)
 refine FL.v (E.assign (v := Value.int .i64 0) rfl) ?_
 refine FL.nil (FW.seq (FW.region ?_))
 refine FL.v (E.assign (v := Value.int .i64 0) rfl) ?_
 refine FL.nil (FW.seq (FW.seq ?_))
 refine FW.draw (fun w' => Run wa.heap.size Ha wa Ha w') (by kernel_rfl) (by kernel_rfl) (run_drew S0.sl) ?_
 refine FD.val rfl rfl rfl (fun w' hw' => (E.move (v := Value.pointer (some (⟨b0, 0, none⟩ : Addr))) rfl)) ?_
 refine FD.val rfl rfl rfl (fun w' hw' => (E.nilCheck rfl)) ?_
 refine FD.val rfl rfl rfl (fun w' hw' => (E.fieldAddr tf45_1 rfl)) ?_
 refine FD.val rfl rfl rfl (fun w' hw' => (E.load rfl (run_load1 Tryz.isAgg3 ((S0.call hw').box_now (i := 0) rfl) rfl))) ?_
 refine FD.val rfl rfl rfl (fun w' hw' => (E.move (v := Value.pointer (some (⟨b0, 0, none⟩ : Addr))) rfl)) ?_
 refine FD.val rfl rfl rfl (fun w' hw' => (E.nilCheck rfl)) ?_
 refine FD.val rfl rfl rfl (fun w' hw' => (E.fieldAddr tf45_0 rfl)) ?_
 refine FD.val rfl rfl rfl (fun w' hw' => (E.load rfl (run_load1 Tryz.isAgg22 ((S0.call hw').box_now (i := 0) rfl) rfl))) ?_
 refine FD.val rfl rfl rfl (fun w' hw' => (E.lenP te22 rfl p0_0)) ?_
 refine FD.val rfl rfl rfl (fun w' hw' => (E.lss rfl rfl)) ?_
 refine FD.nil ?_
 intro w22 r24
 have S23 := S0.call r24
 obtain ⟨q39, hq, hp⟩ := bndR hp
 refine FW.joinE (S := Int) (X := Empty) (q := q39) (fun s38 f w => ∃ H : GH, St H0 w0 H w (.box b0 45 [v0_0, Value.int .i64 a0.at_, Value.int .u64 a0.seed] :: L) ∧ Inc Ha H ∧ f 0 = Value.pointer (some (⟨b0, 0, none⟩ : Addr)) ∧ f 3 = Value.int .i64 s38) (fun (_ : Empty) _ _ _ => False) ?_ ?_ ?_
 ·
  clear hp; have hp := hq; clear hq
  rcases ifB hp with ⟨c41, hp⟩ | ⟨c41, hp⟩
  ·
   refine FW.condT rfl c41 ?_
   refine FW.draw (fun w' => Run w22.heap.size Ha w22 Ha w') (by kernel_rfl) (by kernel_rfl) (run_drew S23.sl) ?_
   refine FD.val rfl rfl rfl (fun w' hw' => (E.move (v := Value.pointer (some (⟨b0, 0, none⟩ : Addr))) rfl)) ?_
   refine FD.val rfl rfl rfl (fun w' hw' => (E.nilCheck rfl)) ?_
   refine FD.val rfl rfl rfl (fun w' hw' => (E.fieldAddr tf45_0 rfl)) ?_
   refine FD.val rfl rfl rfl (fun w' hw' => (E.load rfl (run_load1 Tryz.isAgg22 ((S23.call hw').box_now (i := 0) rfl) rfl))) ?_
   refine FD.val rfl rfl rfl (fun w' hw' => (E.move (v := Value.pointer (some (⟨b0, 0, none⟩ : Addr))) rfl)) ?_
   refine FD.val rfl rfl rfl (fun w' hw' => (E.nilCheck rfl)) ?_
   refine FD.val rfl rfl rfl (fun w' hw' => (E.fieldAddr tf45_1 rfl)) ?_
   refine FD.val rfl rfl rfl (fun w' hw' => (E.load rfl (run_load1 Tryz.isAgg3 ((S23.call hw').box_now (i := 0) rfl) rfl))) ?_
   obtain ⟨x49, hx50, hp⟩ := bnd hp
   obtain ⟨p43, cs44, pt45, l46, at47, rel48⟩ := p0_0.at hx50
   obtain rfl := eN_open rel48
   refine FD.val rfl rfl rfl (fun w' hw' => (E.indexAddr te22 rfl rfl pt45)) ?_
   refine FD.val rfl rfl rfl (fun w' hw' => (E.load rfl (run_load0 Tryz.isAgg5 (at47.now (S23.call hw').sl) rfl))) ?_
   refine FD.val rfl rfl rfl (fun w' hw' => (E.conv Tryz.runUnderlying5 Tryz.runUnderlying3 rfl)) ?_
   refine FD.val rfl rfl rfl (fun w' hw' => (E.assign (v := Value.int .i64 (wrk true 64 x49)) rfl)) ?_
   refine FD.nil ?_
   intro w51 r53
   have S52 := S23.call r53
   obtain rfl := Option.some.inj hp
   exact ⟨rfl, ⟨_, S52, (Inc.rfl _), rfl, rfl⟩⟩
  ·
   refine FW.condF rfl c41 ?_
   refine FW.skip ?_
   obtain rfl := Option.some.inj hp
   exact ⟨rfl, ⟨_, S23, (Inc.rfl _), rfl, rfl⟩⟩
 ·
  rintro s38 rfl f58 w57 ⟨H54, S55, i56, k59, k60⟩
  replace hp := el_go hp
  refine FW.seq (FW.region ?_)
  refine FL.v (E.move k59) ?_
  refine FL.v (E.nilCheck rfl) ?_
  refine FL.v (E.fieldAddr tf45_1 rfl) ?_
  refine FL.v (E.load rfl (run_load1 Tryz.isAgg3 (S55.box_now (i := 0) rfl) rfl)) ?_
  refine FL.v (E.add rfl rfl) ?_
  refine FL.v (E.nilCheck rfl) ?_
  refine FL.v (E.fieldAddr tf45_1 rfl) ?_
  obtain ⟨w61, run62, S63⟩ := S55.store (P := Tryz.prog) (t := 3) (i := 0) (j := 1) (cs' := [v0_0, Value.int .i64 (wr (a0.at_ + 1)), Value.int .u64 a0.seed]) (l' := (.box b0 45 [v0_0, Value.int .i64 (wr (a0.at_ + 1)), Value.int .u64 a0.seed] :: L)) (v := Value.int .i64 (wr (a0.at_ + 1))) (c := [Value.int .i64 (wr (a0.at_ + 1))]) rfl Tryz.sizeOf3 rfl rfl (ones_cons rfl ones_nil) (Nat.le_of_ble_eq_true rfl) rfl rfl
  refine FL.act rfl rfl (E.store rfl rfl run62) ?_
  refine FL.nil (FW.seq (FW.region ?_))
  refine FL.v (E.move k59) ?_
  refine FL.v (E.move k59) ?_
  refine FL.v (E.nilCheck rfl) ?_
  refine FL.v (E.fieldAddr tf45_2 rfl) ?_
  refine FL.v (E.load rfl (run_load1 Tryz.isAgg43 (S63.box_now (i := 0) rfl) rfl)) ?_
  refine FL.v (E.mulK rfl rfl) ?_
  refine FL.v (E.move k60) ?_
  refine FL.v (E.conv Tryz.runUnderlying3 Tryz.runUnderlying43 rfl) ?_
  refine FL.v (E.addK rfl rfl) ?_
  refine FL.v (E.addK rfl rfl) ?_
  refine FL.v (E.nilCheck rfl) ?_
  refine FL.v (E.fieldAddr tf45_2 rfl) ?_
  obtain ⟨w64, run65, S66⟩ := S63.store (P := Tryz.prog) (t := 43) (i := 0) (j := 2) (cs' := [v0_0, Value.int .i64 (wr (a0.at_ + 1)), Value.int .u64 (wrk false 64 ((wrk false 64 ((wrk false 64 (a0.seed * 6364136223846793005)) + (wrk false 64 s38))) + 337411))]) (l' := (.box b0 45 [v0_0, Value.int .i64 (wr (a0.at_ + 1)), Value.int .u64 (wrk false 64 ((wrk false 64 ((wrk false 64 (a0.seed * 6364136223846793005)) + (wrk false 64 s38))) + 337411))] :: L)) (v := Value.int .u64 (wrk false 64 ((wrk false 64 ((wrk false 64 (a0.seed * 6364136223846793005)) + (wrk false 64 s38))) + 337411))) (c := [Value.int .u64 (wrk false 64 ((wrk false 64 ((wrk false 64 (a0.seed * 6364136223846793005)) + (wrk false 64 s38))) + 337411))]) rfl Tryz.sizeOf43 rfl rfl (ones_cons rfl ones_nil) (Nat.le_of_ble_eq_true rfl) rfl rfl
  refine FL.act rfl rfl (E.store rfl rfl run65) ?_
  refine FL.nil (FW.seq (FW.seq ?_))
  refine FW.draw (fun w' => Run w64.heap.size H54 w64 H54 w') (by kernel_rfl) (by kernel_rfl) (run_drew S66.sl) ?_
  refine FD.val rfl rfl rfl (fun w' hw' => (E.move k59)) ?_
  refine FD.val rfl rfl rfl (fun w' hw' => (E.nilCheck rfl)) ?_
  refine FD.val rfl rfl rfl (fun w' hw' => (E.fieldAddr tf45_1 rfl)) ?_
  refine FD.val rfl rfl rfl (fun w' hw' => (E.load rfl (run_load1 Tryz.isAgg3 ((S66.call hw').box_now (i := 0) rfl) rfl))) ?_
  refine FD.val rfl rfl rfl (fun w' hw' => (E.move k59)) ?_
  refine FD.val rfl rfl rfl (fun w' hw' => (E.nilCheck rfl)) ?_
  refine FD.val rfl rfl rfl (fun w' hw' => (E.fieldAddr tf45_0 rfl)) ?_
  refine FD.val rfl rfl rfl (fun w' hw' => (E.load rfl (run_load1 Tryz.isAgg22 ((S66.call hw').box_now (i := 0) rfl) rfl))) ?_
  refine FD.val rfl rfl rfl (fun w' hw' => (E.lenP te22 rfl p0_0)) ?_
  refine FD.val rfl rfl rfl (fun w' hw' => (E.leq rfl rfl)) ?_
  refine FD.nil ?_
  intro w68 r70
  have S69 := S66.call r70
  rcases ifB hp with ⟨c71, hp⟩ | ⟨c71, hp⟩
  ·
   refine FW.condT rfl c71 ?_
   refine FW.seq (FW.region ?_)
   refine FL.v (E.move k60) ?_
   refine FL.v (E.assign (v := Value.int .i64 s38) rfl) ?_
   refine FL.nil ?_
   refine FW.ret ?_
   obtain rfl := Option.some.inj hp
   exact ⟨.inr rfl, res1 rfl rfl ⟨_, _, rfl, ⟨S69, i56⟩, (p0_0.mono i56)⟩⟩
  ·
   refine FW.condF rfl c71 ?_
   refine FW.skip (FW.seq (FW.region ?_))
   refine FL.v (E.move k59) ?_
   refine FL.v (E.nilCheck rfl) ?_
   refine FL.v (E.fieldAddr tf45_2 rfl) ?_
   refine FL.v (E.load rfl (run_load1 Tryz.isAgg43 (S69.box_now (i := 0) rfl) rfl)) ?_
   refine FL.v (E.shr rfl rfl (by decide)) ?_
   refine FL.v (E.and rfl rfl) ?_
   refine FL.v (E.conv Tryz.runUnderlying43 Tryz.runUnderlying3 rfl) ?_
   refine FL.v (E.assign (v := Value.int .i64 (wrk true 64 (andK false 64 (shrK 64 (wrk false 64 ((wrk false 64 ((wrk false 64 (a0.seed * 6364136223846793005)) + (wrk false 64 s38))) + 337411)) 40) 255))) rfl) ?_
   refine FL.nil ?_
   refine FW.ret ?_
   obtain rfl := Option.some.inj hp
   exact ⟨.inr rfl, res1 rfl rfl ⟨_, _, rfl, ⟨S69, i56⟩, (p0_0.mono i56)⟩⟩
 ·
  intro x40; exact x40.elim

@[reducible] def p_spec_l1Cur_pick (H0 : GH) (w0 : World) (Ha : GH) (L : List MO) (b0 : Nat) (r : (Int × l1Cur)) : Ending → World → Prop :=
 fun e w' => ∃ H' : GH, ∃ v0_0r : Value, e = .returned (Value.int .i64 r.1) ∧ (St H0 w0 H' w' (.box b0 45 [v0_0r, Value.int .i64 r.2.at_, Value.int .u64 r.2.seed] :: L) ∧ Inc Ha H') ∧ RSl H' (eN .u8) 1 v0_0r r.2.code
theorem w_spec_l1Cur_pick {H0 Ha : GH} {w0 wa : World} {L : List MO} {a0 : l1Cur} {b0 : Nat} {v0_0 : Value} (S0 : St H0 w0 Ha wa (.box b0 45 [v0_0, Value.int .i64 a0.at_, Value.int .u64 a0.seed] :: L)) (p0_0 : RSl Ha (eN .u8) 1 v0_0 a0.code) (a1 : Int) {r : (Int × l1Cur)} (hp : (PF.spec_l1Cur_pick a0 a1) = some r) :
  Calls Tryz.prog 18 #[Value.pointer (some (⟨b0, 0, none⟩ : Addr)), Value.int .i64 a1] wa (p_spec_l1Cur_pick H0 w0 Ha L b0 r) := by
 unfold PF.spec_l1Cur_pick at hp
 refine calls_go (N := 20) (args := [Value.pointer (some (⟨b0, 0, none⟩ : Addr)), Value.int .i64 a1]) Tryz.func18 rfl rfl rfl ?_
 refine FW.seq (FW.region ?_)
 refine FL.v (E.assign (v := Value.int .i64 0) rfl) ?_
 refine FL.nil (FW.seq (FW.seq (FW.region ?_)))
 refine FL.v (E.move (v := Value.int .i64 a1) rfl) ?_
 refine FL.v (E.leq rfl rfl) ?_
 refine FL.nil ?_
 rcases ifB hp with ⟨c21, hp⟩ | ⟨c21, hp⟩
 ·
  refine FW.condT rfl c21 ?_
  refine FW.seq (FW.region ?_)
  refine FL.v (E.assign (v := Value.int .i64 0) rfl) ?_
  refine FL.nil ?_
  refine FW.ret ?_
  obtain rfl := Option.some.inj hp
  exact ⟨.inr rfl, res1 rfl rfl ⟨_, _, rfl, ⟨S0, (Inc.rfl _)⟩, p0_0⟩⟩
 ·
  refine FW.condF rfl c21 ?_
  refine FW.skip (FW.seq (FW.region ?_))
  refine FL.v (E.move (v := Value.pointer (some (⟨b0, 0, none⟩ : Addr))) rfl) ?_
  obtain ⟨r22, hr23, hp⟩ := bnd hp
  refine FL.call rfl rfl rfl (E.call Tryz.call46 (A1 rfl)) (w_spec_l1Cur_next (L := (L)) S0 (a0 := a0) p0_0 hr23) ?_
  rintro e w25 ⟨H24, v28, rfl, ⟨S26, i27⟩, h29⟩
  refine ⟨_, rfl, ?_⟩
  have S26 : St H0 w0 H24 w25 (.box b0 45 [v28, Value.int .i64 r22.2.at_, Value.int .u64 r22.2.seed] :: L) := S26
  refine FL.v (E.assign (v := Value.int .i64 r22.1) rfl) ?_
  refine FL.nil (FW.seq (FW.seq (FW.region ?_)))
  refine FL.v (E.move (v := Value.int .i64 a1) rfl) ?_
  refine FL.v (E.gtr rfl rfl) ?_
  refine FL.nil ?_
  rcases ifB hp with ⟨c30, hp⟩ | ⟨c30, hp⟩
  ·
   refine FW.condT rfl c30 ?_
   refine FW.region ?_
   refine FL.v (E.move (v := Value.int .i64 r22.1) rfl) ?_
   refine FL.v (E.mul rfl rfl) ?_
   refine FL.v (E.move (v := Value.pointer (some (⟨b0, 0, none⟩ : Addr))) rfl) ?_
   obtain ⟨r31, hr32, hp⟩ := bnd hp
   refine FL.call rfl rfl rfl (E.call Tryz.call46 (A1 rfl)) (w_spec_l1Cur_next (L := (L)) S26 (a0 := r22.2) h29 hr32) ?_
   rintro e w34 ⟨H33, v37, rfl, ⟨S35, i36⟩, h38⟩
   refine ⟨_, rfl, ?_⟩
   have S35 : St H0 w0 H33 w34 (.box b0 45 [v37, Value.int .i64 r31.2.at_, Value.int .u64 r31.2.seed] :: L) := S35
   refine FL.v (E.add rfl rfl) ?_
   refine FL.v (E.assign (v := Value.int .i64 (wr ((wr (r22.1 * 256)) + r31.1))) rfl) ?_
   refine FL.nil (FW.seq (FW.region ?_))
   refine FL.v (E.move (v := Value.int .i64 (wr ((wr (r22.1 * 256)) + r31.1))) rfl) ?_
   refine FL.v (E.move (v := Value.int .i64 a1) rfl) ?_
   obtain ⟨u40, z39, hp⟩ := bnd hp
   refine FL.v (E.rem rfl rfl (nz_ne z39)) ?_
   refine FL.v (E.assign (v := Value.int .i64 ((wr ((wr (r22.1 * 256)) + r31.1)).tmod a1)) rfl) ?_
   refine FL.nil ?_
   refine FW.ret ?_
   obtain rfl := Option.some.inj hp
   exact ⟨.inr rfl, res1 rfl rfl ⟨_, _, rfl, ⟨S35, (i27.tr i36)⟩, h38⟩⟩
  ·
   refine FW.condF rfl c30 ?_
   refine FW.skip (FW.seq (FW.region ?_))
   refine FL.v (E.move (v := Value.int .i64 r22.1) rfl) ?_
   refine FL.v (E.move (v := Value.int .i64 a1) rfl) ?_
   obtain ⟨u42, z41, hp⟩ := bnd hp
   refine FL.v (E.rem rfl rfl (nz_ne z41)) ?_
   refine FL.v (E.assign (v := Value.int .i64 (r22.1.tmod a1)) rfl) ?_
   refine FL.nil ?_
   refine FW.ret ?_
   obtain rfl := Option.some.inj hp
   exact ⟨.inr rfl, res1 rfl rfl ⟨_, _, rfl, ⟨S26, i27⟩, h29⟩⟩

@[reducible] def p_spec_l1Cur_among (H0 : GH) (w0 : World) (Ha : GH) (L : List MO) (b0 : Nat) (r : (Int × l1Cur)) : Ending → World → Prop :=
 fun e w' => ∃ H' : GH, ∃ v0_0r : Value, e = .returned (Value.int .i64 r.1) ∧ (St H0 w0 H' w' (.box b0 45 [v0_0r, Value.int .i64 r.2.at_, Value.int .u64 r.2.seed] :: L) ∧ Inc Ha H') ∧ RSl H' (eN .u8) 1 v0_0r r.2.code
theorem w_spec_l1Cur_among {H0 Ha : GH} {w0 wa : World} {L : List MO} {a0 : l1Cur} {b0 : Nat} {v0_0 : Value} (S0 : St H0 w0 Ha wa (.box b0 45 [v0_0, Value.int .i64 a0.at_, Value.int .u64 a0.seed] :: L)) (p0_0 : RSl Ha (eN .u8) 1 v0_0 a0.code) (v1 : Value) (a1 : List Int) (p1 : RSl Ha eI 1 v1 a1) {r : (Int × l1Cur)} (hp : (PF.spec_l1Cur_among a0 a1) = some r) :
  Calls Tryz.prog 42 #[Value.pointer (some (⟨b0, 0, none⟩ : Addr)), v1] wa (p_spec_l1Cur_among H0 w0 Ha L b0 r) := by
 unfold PF.spec_l1Cur_among at hp
 refine calls_go (N := 12) (args := [Value.pointer (some (⟨b0, 0, none⟩ : Addr)), v1]) Tryz.func42 rfl rfl rfl ?_
 refine FW.seq (FW.region ?_)
 refine FL.v (E.assign (v := Value.int .i64 0) rfl) ?_
 refine FL.nil (FW.seq (FW.region ?_))
 refine FL.v (E.move (v := v1) rfl) ?_
 refine FL.v (E.move (v := Value.pointer (some (⟨b0, 0, none⟩ : Addr))) rfl) ?_
 refine FL.v (E.move (v := v1) rfl) ?_
 refine FL.v (E.lenP te33 rfl p1) ?_
 obtain ⟨r21, hr22, hp⟩ := bnd hp
 refine FL.call rfl rfl rfl (E.call Tryz.call18 (A2 rfl rfl)) (w_spec_l1Cur_pick (L := (L)) S0 (a0 := a0) p0_0 (len a1) hr22) ?_
 rintro e w24 ⟨H23, v27, rfl, ⟨S25, i26⟩, h28⟩
 refine ⟨_, rfl, ?_⟩
 have S25 : St H0 w0 H23 w24 (.box b0 45 [v27, Value.int .i64 r21.2.at_, Value.int .u64 r21.2.seed] :: L) := S25
 obtain ⟨x35, hx36, hp⟩ := bnd hp
 obtain ⟨p29, cs30, pt31, l32, at33, rel34⟩ := p1.at hx36
 obtain rfl := eI_open rel34
 refine FL.v (E.indexAddr te33 rfl rfl pt31) ?_
 refine FL.v (E.load rfl (run_load0 Tryz.isAgg3 ((at33.mono i26).now S25.sl) rfl)) ?_
 refine FL.v (E.assign (v := Value.int .i64 x35) rfl) ?_
 refine FL.nil ?_
 refine FW.ret ?_
 obtain rfl := Option.some.inj hp
 exact ⟨.inr rfl, res1 rfl rfl ⟨_, _, rfl, ⟨S25, i26⟩, h28⟩⟩

@[reducible] def p_spec_l1Cur_of (H0 : GH) (w0 : World) (Ha : GH) (L : List MO) (b0 : Nat) (r : (ByteArray × l1Cur)) : Ending → World → Prop :=
 fun e w' => ∃ H' : GH, ∃ v0_0r : Value, e = .returned (Value.string r.1) ∧ (St H0 w0 H' w' (.box b0 45 [v0_0r, Value.int .i64 r.2.at_, Value.int .u64 r.2.seed] :: L) ∧ Inc Ha H') ∧ RSl H' (eN .u8) 1 v0_0r r.2.code
theorem w_spec_l1Cur_of {H0 Ha : GH} {w0 wa : World} {L : List MO} {a0 : l1Cur} {b0 : Nat} {v0_0 : Value} (S0 : St H0 w0 Ha wa (.box b0 45 [v0_0, Value.int .i64 a0.at_, Value.int .u64 a0.seed] :: L)) (p0_0 : RSl Ha (eN .u8) 1 v0_0 a0.code) (v1 : Value) (a1 : List ByteArray) (p1 : RSl Ha eS 1 v1 a1) {r : (ByteArray × l1Cur)} (hp : (PF.spec_l1Cur_of a0 a1) = some r) :
  Calls Tryz.prog 43 #[Value.pointer (some (⟨b0, 0, none⟩ : Addr)), v1] wa (p_spec_l1Cur_of H0 w0 Ha L b0 r) := by
 unfold PF.spec_l1Cur_of at hp
 refine calls_go (N := 12) (args := [Value.pointer (some (⟨b0, 0, none⟩ : Addr)), v1]) Tryz.func43 rfl rfl rfl ?_
 refine FW.seq (FW.region ?_)
 refine FL.v (E.assign (v := Value.string (ByteArray.mk #[])) rfl) ?_
 refine FL.nil (FW.seq (FW.region ?_))
 refine FL.v (E.move (v := v1) rfl) ?_
 refine FL.v (E.move (v := Value.pointer (some (⟨b0, 0, none⟩ : Addr))) rfl) ?_
 refine FL.v (E.move (v := v1) rfl) ?_
 refine FL.v (E.lenP te24 rfl p1) ?_
 obtain ⟨r21, hr22, hp⟩ := bnd hp
 refine FL.call rfl rfl rfl (E.call Tryz.call18 (A2 rfl rfl)) (w_spec_l1Cur_pick (L := (L)) S0 (a0 := a0) p0_0 (len a1) hr22) ?_
 rintro e w24 ⟨H23, v27, rfl, ⟨S25, i26⟩, h28⟩
 refine ⟨_, rfl, ?_⟩
 have S25 : St H0 w0 H23 w24 (.box b0 45 [v27, Value.int .i64 r21.2.at_, Value.int .u64 r21.2.seed] :: L) := S25
 obtain ⟨x35, hx36, hp⟩ := bnd hp
 obtain ⟨p29, cs30, pt31, l32, at33, rel34⟩ := p1.at hx36
 obtain rfl := eS_open rel34
 refine FL.v (E.indexAddr te24 rfl rfl pt31) ?_
 refine FL.v (E.load rfl (run_load0 Tryz.isAgg9 ((at33.mono i26).now S25.sl) rfl)) ?_
 refine FL.v (E.assign (v := Value.string x35) rfl) ?_
 refine FL.nil ?_
 refine FW.ret ?_
 obtain rfl := Option.some.inj hp
 exact ⟨.inr rfl, res1 rfl rfl ⟨_, _, rfl, ⟨S25, i26⟩, h28⟩⟩

@[reducible] def p_spec_l1Cur_one (H0 : GH) (w0 : World) (Ha : GH) (L : List MO) (b0 : Nat) (r : (Bool × l1Cur)) : Ending → World → Prop :=
 fun e w' => ∃ H' : GH, ∃ v0_0r : Value, e = .returned (Value.bool r.1) ∧ (St H0 w0 H' w' (.box b0 45 [v0_0r, Value.int .i64 r.2.at_, Value.int .u64 r.2.seed] :: L) ∧ Inc Ha H') ∧ RSl H' (eN .u8) 1 v0_0r r.2.code
theorem w_spec_l1Cur_one {H0 Ha : GH} {w0 wa : World} {L : List MO} {a0 : l1Cur} {b0 : Nat} {v0_0 : Value} (S0 : St H0 w0 Ha wa (.box b0 45 [v0_0, Value.int .i64 a0.at_, Value.int .u64 a0.seed] :: L)) (p0_0 : RSl Ha (eN .u8) 1 v0_0 a0.code) (a1 : Int) {r : (Bool × l1Cur)} (hp : (PF.spec_l1Cur_one a0 a1) = some r) :
  Calls Tryz.prog 37 #[Value.pointer (some (⟨b0, 0, none⟩ : Addr)), Value.int .i64 a1] wa (p_spec_l1Cur_one H0 w0 Ha L b0 r) := by
 unfold PF.spec_l1Cur_one at hp
 refine calls_go (N := 9) (args := [Value.pointer (some (⟨b0, 0, none⟩ : Addr)), Value.int .i64 a1]) Tryz.func37 rfl rfl rfl ?_
 refine FW.seq (FW.region ?_)
 refine FL.v (E.assign (v := Value.bool false) rfl) ?_
 refine FL.nil (FW.seq (FW.region ?_))
 refine FL.v (E.move (v := Value.pointer (some (⟨b0, 0, none⟩ : Addr))) rfl) ?_
 refine FL.v (E.move (v := Value.int .i64 a1) rfl) ?_
 obtain ⟨r21, hr22, hp⟩ := bnd hp
 refine FL.call rfl rfl rfl (E.call Tryz.call18 (A2 rfl rfl)) (w_spec_l1Cur_pick (L := (L)) S0 (a0 := a0) p0_0 a1 hr22) ?_
 rintro e w24 ⟨H23, v27, rfl, ⟨S25, i26⟩, h28⟩
 refine ⟨_, rfl, ?_⟩
 have S25 : St H0 w0 H23 w24 (.box b0 45 [v27, Value.int .i64 r21.2.at_, Value.int .u64 r21.2.seed] :: L) := S25
 refine FL.v (E.eql rfl rfl) ?_
 refine FL.v (E.assign (v := Value.bool (r21.1 == 0)) rfl) ?_
 refine FL.nil ?_
 refine FW.ret ?_
 obtain rfl := Option.some.inj hp
 exact ⟨.inr rfl, res1 rfl rfl ⟨_, _, rfl, ⟨S25, i26⟩, h28⟩⟩

theorem w_spec_l22Join {Ha : GH} {wa : World} (hs : Sl Ha wa) (a0 : ByteArray) (a1 : ByteArray) (a2 : ByteArray) {r : ByteArray} (hp : (PF.spec_l22Join a0 a1 a2) = some r) :
  Calls Tryz.prog 96 #[Value.string a0, Value.string a1, Value.string a2] wa (Sc Ha wa (Value.string r)) := by
 unfold PF.spec_l22Join at hp
 have S0 := St.init hs
 refine calls_go (N := 14) (args := [Value.string a0, Value.string a1, Value.string a2]) Tryz.func96 rfl rfl rfl ?_
 refine FW.seq (FW.region ?_)
 refine FL.v (E.assign (v := Value.string (ByteArray.mk #[])) rfl) ?_
 refine FL.nil (FW.seq (FW.region ?_))
 refine FL.v (E.move (v := Value.string a1) rfl) ?_
 obtain ⟨z21, h22, hp⟩ := bnd hp
 refine FL.v (E.addT rfl rfl h22) ?_
 refine FL.v (E.move (v := Value.string a0) rfl) ?_
 obtain ⟨z23, h24, hp⟩ := bnd hp
 refine FL.v (E.addT rfl rfl h24) ?_
 refine FL.v (E.move (v := Value.string a2) rfl) ?_
 obtain ⟨z25, h26, hp⟩ := bnd hp
 refine FL.v (E.addT rfl rfl h26) ?_
 obtain ⟨z27, h28, hp⟩ := bnd hp
 refine FL.v (E.addT rfl rfl h28) ?_
 refine FL.v (E.assign (v := Value.string z27) rfl) ?_
 refine FL.nil ?_
 refine FW.ret ?_
 obtain rfl := Option.some.inj hp
 exact ⟨.inr rfl, res1 rfl rfl ⟨rfl, S0.back⟩⟩

@[reducible] def p_spec_l1Cur_formula22 (H0 : GH) (w0 : World) (Ha : GH) (L : List MO) (b0 : Nat) (r : (ByteArray × l1Cur)) : Ending → World → Prop :=
 fun e w' => ∃ H' : GH, ∃ v0_0r : Value, e = .returned (Value.string r.1) ∧ (St H0 w0 H' w' (.box b0 45 [v0_0r, Value.int .i64 r.2.at_, Value.int .u64 r.2.seed] :: L) ∧ Inc Ha H') ∧ RSl H' (eN .u8) 1 v0_0r r.2.code
set_option maxHeartbeats 4000000 in
theorem w_spec_l1Cur_formula22_B {rec_spec_l1Cur_formula22 : l1Cur → Int → Option (ByteArray × l1Cur)} (hrec_spec_l1Cur_formula22 : ∀ {H0 Ha : GH} {w0 wa : World} {L : List MO} {a0 : l1Cur} {b0 : Nat} {v0_0 : Value} (S0 : St H0 w0 Ha wa (.box b0 45 [v0_0, Value.int .i64 a0.at_, Value.int .u64 a0.seed] :: L)) (p0_0 : RSl Ha (eN .u8) 1 v0_0 a0.code) (a1 : Int) {r : (ByteArray × l1Cur)} (hp : rec_spec_l1Cur_formula22 a0 a1 = some r), Calls Tryz.prog 84 #[Value.pointer (some (⟨b0, 0, none⟩ : Addr)), Value.int .i64 a1] wa (p_spec_l1Cur_formula22 H0 w0 Ha L b0 r)) {H0 Ha : GH} {w0 wa : World} {L : List MO} {a0 : l1Cur} {b0 : Nat} {v0_0 : Value} (S0 : St H0 w0 Ha wa (.box b0 45 [v0_0, Value.int .i64 a0.at_, Value.int .u64 a0.seed] :: L)) (p0_0 : RSl Ha (eN .u8) 1 v0_0 a0.code) (a1 : Int) {r : (ByteArray × l1Cur)} (hp : PF.spec_l1Cur_formula22_B rec_spec_l1Cur_formula22 a0 a1 = some r) :
  Calls Tryz.prog 84 #[Value.pointer (some (⟨b0, 0, none⟩ : Addr)), Value.int .i64 a1] wa (p_spec_l1Cur_formula22 H0 w0 Ha L b0 r) := by
 unfold PF.spec_l1Cur_formula22_B at hp
 refine calls_go (N := 39) (args := [Value.pointer (some (⟨b0, 0, none⟩ : Addr)), Value.int .i64 a1]) Tryz.func84 rfl rfl rfl ?_
 refine FW.seq (FW.region ?_)
 refine FL.v (E.assign (v := Value.string (ByteArray.mk #[])) rfl) ?_
 refine FL.nil (FW.seq (FW.seq (FW.region ?_)))
 refine FL.v (E.move (v := Value.int .i64 a1) rfl) ?_
 refine FL.v (E.leq rfl rfl) ?_
 refine FL.v (E.move (v := Value.bool (decide (a1 ≤ 1))) rfl) ?_
 obtain ⟨t29, hqt29, hp⟩ := bnd hp
 refine FL.cut 3 (fun f w => ∃ H : GH, ∃ v31 : Value, St H0 w0 H w (.box b0 45 [v31, Value.int .i64 t29.2.1, Value.int .u64 t29.2.2.1] :: L) ∧ Inc Ha H ∧ RSl H (eN .u8) 1 v31 t29.1 ∧ f 0 = Value.pointer (some (⟨b0, 0, none⟩ : Addr)) ∧ f 1 = Value.int .i64 a1 ∧ f 11 = Value.bool t29.2.2.2) ?_ ?_
 ·
  clear hp; have hp := hqt29; clear hqt29
  rcases ifB hp with ⟨c30, hp⟩ | ⟨c30, hp⟩
  ·
   refine FL.skip (wF_no rfl rfl rfl c30) rfl ?_
   refine FL.skip (wF_no rfl rfl rfl c30) rfl ?_
   refine FL.v (E.pickT rfl c30 rfl) ?_
   obtain rfl := Option.some.inj hp
   exact FL.nil ⟨rfl, ⟨_, _, S0, (Inc.rfl _), p0_0, rfl, rfl, rfl⟩⟩
  ·
   refine FL.val (wF_yes rfl rfl rfl c30) rfl rfl (E.move (v := Value.pointer (some (⟨b0, 0, none⟩ : Addr))) rfl) ?_
   obtain ⟨r33, hr34, hp⟩ := bnd hp
   refine FL.call (wF_yes rfl rfl rfl c30) rfl rfl (E.call Tryz.call37 (A2 rfl rfl)) (w_spec_l1Cur_one (L := (L)) S0 (a0 := a0) p0_0 6 hr34) ?_
   rintro e w36 ⟨H35, v39, rfl, ⟨S37, i38⟩, h40⟩
   refine ⟨_, rfl, ?_⟩
   have S37 : St H0 w0 H35 w36 (.box b0 45 [v39, Value.int .i64 r33.2.at_, Value.int .u64 r33.2.seed] :: L) := S37
   refine FL.v (E.pickF rfl c30 rfl) ?_
   obtain rfl := Option.some.inj hp
   exact FL.nil ⟨rfl, ⟨_, _, S37, i38, h40, rfl, rfl, rfl⟩⟩
 clear hqt29
 rintro f45 w44 ⟨H41, v31, S42, i43, h32, k46, k47, k48⟩
 refine FL.nil ?_
 rcases ifB hp with ⟨c49, hp⟩ | ⟨c49, hp⟩
 ·
  refine FW.condT k48 c49 ?_
  refine FW.seq (FW.region ?_)
  refine FL.v (E.move k46) ?_
  obtain ⟨v50, w51, run52, S53⟩ := S42.buildSlice (P := Tryz.prog) te24 [Value.string (ByteArray.mk #[97]), Value.string (ByteArray.mk #[98]), Value.string (ByteArray.mk #[99]), Value.string (ByteArray.mk #[97]), Value.string (ByteArray.mk #[98]), Value.string (ByteArray.mk #[100]), Value.string (ByteArray.mk #[48]), Value.string (ByteArray.mk #[49]), Value.string (ByteArray.mk #[102]), Value.string (ByteArray.mk #[101]), Value.string (ByteArray.mk #[99]), Value.string (ByteArray.mk #[97])] (parts := #[(0, Value.string (ByteArray.mk #[97])), (1, Value.string (ByteArray.mk #[98])), (2, Value.string (ByteArray.mk #[99])), (3, Value.string (ByteArray.mk #[97])), (4, Value.string (ByteArray.mk #[98])), (5, Value.string (ByteArray.mk #[100])), (6, Value.string (ByteArray.mk #[48])), (7, Value.string (ByteArray.mk #[49])), (8, Value.string (ByteArray.mk #[102])), (9, Value.string (ByteArray.mk #[101])), (10, Value.string (ByteArray.mk #[99])), (11, Value.string (ByteArray.mk #[97]))]) (cells := [Value.string (ByteArray.mk #[97]), Value.string (ByteArray.mk #[98]), Value.string (ByteArray.mk #[99]), Value.string (ByteArray.mk #[97]), Value.string (ByteArray.mk #[98]), Value.string (ByteArray.mk #[100]), Value.string (ByteArray.mk #[48]), Value.string (ByteArray.mk #[49]), Value.string (ByteArray.mk #[102]), Value.string (ByteArray.mk #[101]), Value.string (ByteArray.mk #[99]), Value.string (ByteArray.mk #[97])]) rfl (szs_cons rfl (szs_cons rfl (szs_cons rfl (szs_cons rfl (szs_cons rfl (szs_cons rfl (szs_cons rfl (szs_cons rfl (szs_cons rfl (szs_cons rfl (szs_cons rfl (szs_cons rfl szs_nil)))))))))))) (fc_cons rfl (fc_cons rfl (fc_cons rfl (fc_cons rfl (fc_cons rfl (fc_cons rfl (fc_cons rfl (fc_cons rfl (fc_cons rfl (fc_cons rfl (fc_cons rfl (fc_cons rfl fc_nil)))))))))))) (ones_cons rfl (ones_cons rfl (ones_cons rfl (ones_cons rfl (ones_cons rfl (ones_cons rfl (ones_cons rfl (ones_cons rfl (ones_cons rfl (ones_cons rfl (ones_cons rfl (ones_cons rfl ones_nil)))))))))))) (Nat.le_of_ble_eq_true rfl)
  have els54 : Els (up w0.heap.size H41) eS 1 [Value.string (ByteArray.mk #[97]), Value.string (ByteArray.mk #[98]), Value.string (ByteArray.mk #[99]), Value.string (ByteArray.mk #[97]), Value.string (ByteArray.mk #[98]), Value.string (ByteArray.mk #[100]), Value.string (ByteArray.mk #[48]), Value.string (ByteArray.mk #[49]), Value.string (ByteArray.mk #[102]), Value.string (ByteArray.mk #[101]), Value.string (ByteArray.mk #[99]), Value.string (ByteArray.mk #[97])] [(ByteArray.mk #[97]), (ByteArray.mk #[98]), (ByteArray.mk #[99]), (ByteArray.mk #[97]), (ByteArray.mk #[98]), (ByteArray.mk #[100]), (ByteArray.mk #[48]), (ByteArray.mk #[49]), (ByteArray.mk #[102]), (ByteArray.mk #[101]), (ByteArray.mk #[99]), (ByteArray.mk #[97])] := (Els.snoc (H := (up w0.heap.size H41)) (E := eS) (k := 1) (c := [Value.string (ByteArray.mk #[97])]) (x := (ByteArray.mk #[97])) (Els.snoc (H := (up w0.heap.size H41)) (E := eS) (k := 1) (c := [Value.string (ByteArray.mk #[99])]) (x := (ByteArray.mk #[99])) (Els.snoc (H := (up w0.heap.size H41)) (E := eS) (k := 1) (c := [Value.string (ByteArray.mk #[101])]) (x := (ByteArray.mk #[101])) (Els.snoc (H := (up w0.heap.size H41)) (E := eS) (k := 1) (c := [Value.string (ByteArray.mk #[102])]) (x := (ByteArray.mk #[102])) (Els.snoc (H := (up w0.heap.size H41)) (E := eS) (k := 1) (c := [Value.string (ByteArray.mk #[49])]) (x := (ByteArray.mk #[49])) (Els.snoc (H := (up w0.heap.size H41)) (E := eS) (k := 1) (c := [Value.string (ByteArray.mk #[48])]) (x := (ByteArray.mk #[48])) (Els.snoc (H := (up w0.heap.size H41)) (E := eS) (k := 1) (c := [Value.string (ByteArray.mk #[100])]) (x := (ByteArray.mk #[100])) (Els.snoc (H := (up w0.heap.size H41)) (E := eS) (k := 1) (c := [Value.string (ByteArray.mk #[98])]) (x := (ByteArray.mk #[98])) (Els.snoc (H := (up w0.heap.size H41)) (E := eS) (k := 1) (c := [Value.string (ByteArray.mk #[97])]) (x := (ByteArray.mk #[97])) (Els.snoc (H := (up w0.heap.size H41)) (E := eS) (k := 1) (c := [Value.string (ByteArray.mk #[99])]) (x := (ByteArray.mk #[99])) (Els.snoc (H := (up w0.heap.size H41)) (E := eS) (k := 1) (c := [Value.string (ByteArray.mk #[98])]) (x := (ByteArray.mk #[98])) (Els.snoc (H := (up w0.heap.size H41)) (E := eS) (k := 1) (c := [Value.string (ByteArray.mk #[97])]) (x := (ByteArray.mk #[97])) Els.nil rfl rfl) rfl rfl) rfl rfl) rfl rfl) rfl rfl) rfl rfl) rfl rfl) rfl rfl) rfl rfl) rfl rfl) rfl rfl) rfl rfl)
  refine FL.v (E.buildSlice (B12 rfl rfl rfl rfl rfl rfl rfl rfl rfl rfl rfl rfl) run52) ?_
  obtain ⟨H55, S56, i57, h58, nv59⟩ := S53.sealRowU (i := 0) (l' := (.box b0 45 [v31, Value.int .i64 t29.2.1, Value.int .u64 t29.2.2.1] :: L)) rfl els54 (by decide) rfl
  obtain ⟨r60, hr61, hp⟩ := bnd hp
  refine FL.call rfl rfl rfl (E.call Tryz.call43 (A2 rfl rfl)) (w_spec_l1Cur_of (L := (L)) S56 (a0 := (l1Cur.mk t29.1 t29.2.1 t29.2.2.1)) (h32.mono i57) v50 [(ByteArray.mk #[97]), (ByteArray.mk #[98]), (ByteArray.mk #[99]), (ByteArray.mk #[97]), (ByteArray.mk #[98]), (ByteArray.mk #[100]), (ByteArray.mk #[48]), (ByteArray.mk #[49]), (ByteArray.mk #[102]), (ByteArray.mk #[101]), (ByteArray.mk #[99]), (ByteArray.mk #[97])] (h58.mono upI) hr61) ?_
  rintro e w63 ⟨H62, v66, rfl, ⟨S64, i65⟩, h67⟩
  refine ⟨_, rfl, ?_⟩
  have S64 : St H0 w0 H62 w63 (.box b0 45 [v66, Value.int .i64 r60.2.at_, Value.int .u64 r60.2.seed] :: L) := S64
  refine FL.v (E.assign (v := Value.string r60.1) rfl) ?_
  refine FL.nil ?_
  refine FW.ret ?_
  obtain rfl := Option.some.inj hp
  exact ⟨.inr rfl, res1 rfl rfl ⟨_, _, rfl, ⟨S64, ((i43.tr i57).tr i65)⟩, h67⟩⟩
 ·
  refine FW.condF k48 c49 ?_
  refine FW.skip (FW.seq (FW.seq (FW.region ?_)))
  refine FL.v (E.move k46) ?_
  obtain ⟨r68, hr69, hp⟩ := bnd hp
  refine FL.call rfl rfl rfl (E.call Tryz.call37 (A2 rfl rfl)) (w_spec_l1Cur_one (L := (L)) S42 (a0 := (l1Cur.mk t29.1 t29.2.1 t29.2.2.1)) h32 4 hr69) ?_
  rintro e w71 ⟨H70, v74, rfl, ⟨S72, i73⟩, h75⟩
  refine ⟨_, rfl, ?_⟩
  have S72 : St H0 w0 H70 w71 (.box b0 45 [v74, Value.int .i64 r68.2.at_, Value.int .u64 r68.2.seed] :: L) := S72
  refine FL.nil ?_
  rcases ifB hp with ⟨c76, hp⟩ | ⟨c76, hp⟩
  ·
   refine FW.condT rfl c76 ?_
   refine FW.seq (FW.region ?_)
   refine FL.v (E.move k46) ?_
   refine FL.v (E.move k47) ?_
   refine FL.v (E.sub rfl rfl) ?_
   obtain ⟨r77, hr78, hp⟩ := bnd hp
   refine FL.call rfl rfl rfl (E.call Tryz.call84 (A2 rfl rfl)) (hrec_spec_l1Cur_formula22 (L := (L)) S72 (a0 := r68.2) h75 (wr (a1 - 1)) hr78) ?_
   rintro e w80 ⟨H79, v83, rfl, ⟨S81, i82⟩, h84⟩
   refine ⟨_, rfl, ?_⟩
   have S81 : St H0 w0 H79 w80 (.box b0 45 [v83, Value.int .i64 r77.2.at_, Value.int .u64 r77.2.seed] :: L) := S81
   obtain ⟨z85, h86, hp⟩ := bnd hp
   refine FL.v (E.addT rfl rfl h86) ?_
   refine FL.v (E.assign (v := Value.string z85) rfl) ?_
   refine FL.nil ?_
   refine FW.ret ?_
   obtain rfl := Option.some.inj hp
   exact ⟨.inr rfl, res1 rfl rfl ⟨_, _, rfl, ⟨S81, ((i43.tr i73).tr i82)⟩, h84⟩⟩
  ·
   refine FW.condF rfl c76 ?_
   refine FW.skip (FW.seq (FW.region ?_))
   refine FL.v (E.move k46) ?_
   refine FL.v (E.move k47) ?_
   refine FL.v (E.sub rfl rfl) ?_
   obtain ⟨r87, hr88, hp⟩ := bnd hp
   refine FL.call rfl rfl rfl (E.call Tryz.call18 (A2 rfl rfl)) (w_spec_l1Cur_pick (L := (L)) S72 (a0 := r68.2) h75 (wr (a1 - 1)) hr88) ?_
   rintro e w90 ⟨H89, v93, rfl, ⟨S91, i92⟩, h94⟩
   refine ⟨_, rfl, ?_⟩
   have S91 : St H0 w0 H89 w90 (.box b0 45 [v93, Value.int .i64 r87.2.at_, Value.int .u64 r87.2.seed] :: L) := S91
   refine FL.v (E.add rfl rfl) ?_
   refine FL.v (E.assign (v := Value.int .i64 (wr (1 + r87.1))) rfl) ?_
   refine FL.nil (FW.seq (FW.region ?_))
   refine FL.v (E.move k46) ?_
   obtain ⟨v95, w96, run97, S98⟩ := S91.buildSlice (P := Tryz.prog) te24 [Value.string (ByteArray.mk #[38]), Value.string (ByteArray.mk #[124]), Value.string (ByteArray.mk #[62])] (parts := #[(0, Value.string (ByteArray.mk #[38])), (1, Value.string (ByteArray.mk #[124])), (2, Value.string (ByteArray.mk #[62]))]) (cells := [Value.string (ByteArray.mk #[38]), Value.string (ByteArray.mk #[124]), Value.string (ByteArray.mk #[62])]) rfl (szs_cons rfl (szs_cons rfl (szs_cons rfl szs_nil))) (fc_cons rfl (fc_cons rfl (fc_cons rfl fc_nil))) (ones_cons rfl (ones_cons rfl (ones_cons rfl ones_nil))) (Nat.le_of_ble_eq_true rfl)
   have els99 : Els (up w0.heap.size H89) eS 1 [Value.string (ByteArray.mk #[38]), Value.string (ByteArray.mk #[124]), Value.string (ByteArray.mk #[62])] [(ByteArray.mk #[38]), (ByteArray.mk #[124]), (ByteArray.mk #[62])] := (Els.snoc (H := (up w0.heap.size H89)) (E := eS) (k := 1) (c := [Value.string (ByteArray.mk #[62])]) (x := (ByteArray.mk #[62])) (Els.snoc (H := (up w0.heap.size H89)) (E := eS) (k := 1) (c := [Value.string (ByteArray.mk #[124])]) (x := (ByteArray.mk #[124])) (Els.snoc (H := (up w0.heap.size H89)) (E := eS) (k := 1) (c := [Value.string (ByteArray.mk #[38])]) (x := (ByteArray.mk #[38])) Els.nil rfl rfl) rfl rfl) rfl rfl)
   refine FL.v (E.buildSlice (B3 rfl rfl rfl) run97) ?_
   obtain ⟨H100, S101, i102, h103, nv104⟩ := S98.sealRowU (i := 0) (l' := (.box b0 45 [v93, Value.int .i64 r87.2.at_, Value.int .u64 r87.2.seed] :: L)) rfl els99 (by decide) rfl
   obtain ⟨r105, hr106, hp⟩ := bnd hp
   refine FL.call rfl rfl rfl (E.call Tryz.call43 (A2 rfl rfl)) (w_spec_l1Cur_of (L := (L)) S101 (a0 := r87.2) (h94.mono i102) v95 [(ByteArray.mk #[38]), (ByteArray.mk #[124]), (ByteArray.mk #[62])] (h103.mono upI) hr106) ?_
   rintro e w108 ⟨H107, v111, rfl, ⟨S109, i110⟩, h112⟩
   refine ⟨_, rfl, ?_⟩
   have S109 : St H0 w0 H107 w108 (.box b0 45 [v111, Value.int .i64 r105.2.at_, Value.int .u64 r105.2.seed] :: L) := S109
   refine FL.v (E.move k46) ?_
   refine FL.v (E.move (v := Value.int .i64 (wr (1 + r87.1))) rfl) ?_
   obtain ⟨r113, hr114, hp⟩ := bnd hp
   refine FL.call rfl rfl rfl (E.call Tryz.call84 (A2 rfl rfl)) (hrec_spec_l1Cur_formula22 (L := (L)) S109 (a0 := r105.2) h112 (wr (1 + r87.1)) hr114) ?_
   rintro e w116 ⟨H115, v119, rfl, ⟨S117, i118⟩, h120⟩
   refine ⟨_, rfl, ?_⟩
   have S117 : St H0 w0 H115 w116 (.box b0 45 [v119, Value.int .i64 r113.2.at_, Value.int .u64 r113.2.seed] :: L) := S117
   refine FL.v (E.move k46) ?_
   refine FL.v (E.move k47) ?_
   refine FL.v (E.move (v := Value.int .i64 (wr (1 + r87.1))) rfl) ?_
   refine FL.v (E.sub rfl rfl) ?_
   obtain ⟨r121, hr122, hp⟩ := bnd hp
   refine FL.call rfl rfl rfl (E.call Tryz.call84 (A2 rfl rfl)) (hrec_spec_l1Cur_formula22 (L := (L)) S117 (a0 := r113.2) h120 (wr (a1 - (wr (1 + r87.1)))) hr122) ?_
   rintro e w124 ⟨H123, v127, rfl, ⟨S125, i126⟩, h128⟩
   refine ⟨_, rfl, ?_⟩
   have S125 : St H0 w0 H123 w124 (.box b0 45 [v127, Value.int .i64 r121.2.at_, Value.int .u64 r121.2.seed] :: L) := S125
   obtain ⟨r129, hr130, hp⟩ := bnd hp
   refine FL.call rfl rfl rfl (E.call Tryz.call96 (A3 rfl rfl rfl)) (w_spec_l22Join S125.sl r105.1 r113.1 r121.1 hr130) ?_
   rintro e w131 ⟨rfl, r132⟩
   refine ⟨_, rfl, ?_⟩
   have S133 := S125.call r132
   refine FL.v (E.assign (v := Value.string r129) rfl) ?_
   refine FL.nil ?_
   refine FW.ret ?_
   obtain rfl := Option.some.inj hp
   exact ⟨.inr rfl, res1 rfl rfl ⟨_, _, rfl, ⟨S133, ((((((i43.tr i73).tr i92).tr i102).tr i110).tr i118).tr i126)⟩, h128⟩⟩
theorem w_spec_l1Cur_formula22_F (n : Nat) : ∀ {H0 Ha : GH} {w0 wa : World} {L : List MO} {a0 : l1Cur} {b0 : Nat} {v0_0 : Value} (S0 : St H0 w0 Ha wa (.box b0 45 [v0_0, Value.int .i64 a0.at_, Value.int .u64 a0.seed] :: L)) (p0_0 : RSl Ha (eN .u8) 1 v0_0 a0.code) (a1 : Int) {r : (ByteArray × l1Cur)} (hp : PF.spec_l1Cur_formula22_F n a0 a1 = some r), Calls Tryz.prog 84 #[Value.pointer (some (⟨b0, 0, none⟩ : Addr)), Value.int .i64 a1] wa (p_spec_l1Cur_formula22 H0 w0 Ha L b0 r) := by
 induction n with
 | zero => intros; rename_i hp; exact nomatch hp
 | succ n ih => exact w_spec_l1Cur_formula22_B (rec_spec_l1Cur_formula22 := PF.spec_l1Cur_formula22_F n) ih
theorem w_spec_l1Cur_formula22 {H0 Ha : GH} {w0 wa : World} {L : List MO} {a0 : l1Cur} {b0 : Nat} {v0_0 : Value} (S0 : St H0 w0 Ha wa (.box b0 45 [v0_0, Value.int .i64 a0.at_, Value.int .u64 a0.seed] :: L)) (p0_0 : RSl Ha (eN .u8) 1 v0_0 a0.code) (a1 : Int) {r : (ByteArray × l1Cur)} (hp : PF.spec_l1Cur_formula22 a0 a1 = some r) :
  Calls Tryz.prog 84 #[Value.pointer (some (⟨b0, 0, none⟩ : Addr)), Value.int .i64 a1] wa (p_spec_l1Cur_formula22 H0 w0 Ha L b0 r) := w_spec_l1Cur_formula22_F deep S0 p0_0 a1 hp

set_option maxHeartbeats 4000000 in
theorem w_spec_l22End_B {rec_spec_l22End : ByteArray → Int → Option Int} (hrec_spec_l22End : ∀ {Ha : GH} {wa : World} (hs : Sl Ha wa) (a0 : ByteArray) (a1 : Int) {r : Int} (hp : rec_spec_l22End a0 a1 = some r), Calls Tryz.prog 61 #[Value.string a0, Value.int .i64 a1] wa (Sc Ha wa (Value.int .i64 r))) {Ha : GH} {wa : World} (hs : Sl Ha wa) (a0 : ByteArray) (a1 : Int) {r : Int} (hp : PF.spec_l22End_B rec_spec_l22End a0 a1 = some r) :
  Calls Tryz.prog 61 #[Value.string a0, Value.int .i64 a1] wa (Sc Ha wa (Value.int .i64 r)) := by
 unfold PF.spec_l22End_B at hp
 have S0 := St.init hs
 refine calls_go (N := 100) (args := [Value.string a0, Value.int .i64 a1]) Tryz.func61 rfl rfl rfl ?_
 refine FW.seq (FW.region ?_)
 refine FL.v (E.assign (v := Value.int .i64 0) rfl) ?_
 refine FL.nil (FW.seq (FW.seq (FW.region ?_)))
 refine FL.v (E.move (v := Value.int .i64 a1) rfl) ?_
 refine FL.v (E.move (v := Value.string a0) rfl) ?_
 refine FL.v (E.lenS Tryz.runUnderlying9 rfl) ?_
 refine FL.v (E.geq rfl rfl) ?_
 refine FL.nil ?_
 rcases ifB hp with ⟨c21, hp⟩ | ⟨c21, hp⟩
 ·
  refine FW.condT rfl c21 ?_
  refine FW.seq (FW.region ?_)
  refine FL.v (E.assign (v := Value.int .i64 (-1)) rfl) ?_
  refine FL.nil ?_
  refine FW.ret ?_
  obtain rfl := Option.some.inj hp
  exact ⟨.inr rfl, res1 rfl rfl ⟨rfl, S0.back⟩⟩
 ·
  refine FW.condF rfl c21 ?_
  refine FW.skip (FW.seq (FW.block (FW.seq (FW.region ?_))))
  refine FL.v (E.move (v := Value.string a0) rfl) ?_
  refine FL.v (E.move (v := Value.int .i64 a1) rfl) ?_
  obtain ⟨z22, h23, hp⟩ := bnd hp
  refine FL.v (E.ixS Tryz.runUnderlying9 rfl rfl h23) ?_
  refine FL.v (E.eql rfl rfl) ?_
  refine FL.v (E.move (v := Value.bool (z22 == 48)) rfl) ?_
  obtain ⟨t26, hqt26, hp⟩ := bnd hp
  refine FL.cut 5 (fun f w => ∃ H : GH, St Ha wa H w [] ∧ Inc Ha H ∧ f 0 = Value.string a0 ∧ f 1 = Value.int .i64 a1 ∧ f 21 = Value.bool t26) ?_ ?_
  ·
   clear hp; have hp := hqt26; clear hqt26
   rcases ifB hp with ⟨c32, hp⟩ | ⟨c32, hp⟩
   ·
    refine FL.skip (wF_no rfl rfl rfl c32) rfl ?_
    refine FL.skip (wF_no rfl rfl rfl c32) rfl ?_
    refine FL.skip (wF_no rfl rfl rfl c32) rfl ?_
    refine FL.skip (wF_no rfl rfl rfl c32) rfl ?_
    obtain rfl := Option.some.inj hp
    refine FL.v (E.pickT rfl c32 rfl) ?_
    exact FL.nil ⟨rfl, _, S0, (Inc.rfl _), rfl, rfl, rfl⟩
   ·
    refine FL.val (wF_yes rfl rfl rfl c32) rfl rfl (E.move (v := Value.string a0) rfl) ?_
    refine FL.val (wF_yes rfl rfl rfl c32) rfl rfl (E.move (v := Value.int .i64 a1) rfl) ?_
    obtain ⟨z33, h34, hp⟩ := bnd hp
    refine FL.val (wF_yes rfl rfl rfl c32) rfl rfl (E.ixS Tryz.runUnderlying9 rfl rfl h34) ?_
    refine FL.val (wF_yes rfl rfl rfl c32) rfl rfl (E.eql rfl rfl) ?_
    obtain rfl := Option.some.inj hp
    refine FL.v (E.pickF rfl c32 rfl) ?_
    exact FL.nil ⟨rfl, _, S0, (Inc.rfl _), rfl, rfl, rfl⟩
  rintro f31 w30 ⟨H27, S28, i29, k35, k36, k37⟩
  refine FL.v (E.move k37) ?_
  obtain ⟨t55, hqt55, hp⟩ := bnd hp
  refine FL.cut 11 (fun f w => ∃ H : GH, St Ha wa H w [] ∧ Inc H27 H ∧ f 0 = Value.string a0 ∧ f 1 = Value.int .i64 a1 ∧ f 33 = Value.bool t55) ?_ ?_
  ·
   clear hp; have hp := hqt55; clear hqt55
   rcases ifB hp with ⟨c61, hp⟩ | ⟨c61, hp⟩
   ·
    refine FL.skip (wF_no rfl rfl rfl c61) rfl ?_
    refine FL.skip (wF_no rfl rfl rfl c61) rfl ?_
    refine FL.skip (wF_no rfl rfl rfl c61) rfl ?_
    refine FL.skip (wF_no rfl rfl rfl c61) rfl ?_
    refine FL.skip (wF_no rfl rfl rfl c61) rfl ?_
    refine FL.skip (wF_undef rfl rfl rfl) rfl ?_
    refine FL.skip (wF_undef rfl rfl rfl) rfl ?_
    refine FL.skip (wF_undef rfl rfl rfl) rfl ?_
    refine FL.skip (wF_undef rfl rfl rfl) rfl ?_
    refine FL.skip (wF_no rfl rfl rfl c61) rfl ?_
    obtain rfl := Option.some.inj hp
    refine FL.v (E.pickT rfl c61 rfl) ?_
    exact FL.nil ⟨rfl, _, S28, (Inc.rfl _), k35, k36, rfl⟩
   ·
    refine FL.val (wF_yes rfl rfl rfl c61) rfl rfl (E.move k35) ?_
    refine FL.val (wF_yes rfl rfl rfl c61) rfl rfl (E.move k36) ?_
    obtain ⟨z62, h63, hp⟩ := bnd hp
    refine FL.val (wF_yes rfl rfl rfl c61) rfl rfl (E.ixS Tryz.runUnderlying9 rfl rfl h63) ?_
    refine FL.val (wF_yes rfl rfl rfl c61) rfl rfl (E.geq rfl rfl) ?_
    refine FL.val (wF_yes rfl rfl rfl c61) rfl rfl (E.move (v := Value.bool (decide (97 ≤ z62))) rfl) ?_
    obtain ⟨t66, hqt66, hp⟩ := bnd hp
    refine FL.cut 5 (fun f w => ∃ H : GH, St Ha wa H w [] ∧ Inc H27 H ∧ f 0 = Value.string a0 ∧ f 1 = Value.int .i64 a1 ∧ f 22 = Value.bool t26 ∧ f 32 = Value.bool t66) ?_ ?_
    ·
     clear hp; have hp := hqt66; clear hqt66
     rcases ifB hp with ⟨c72, hp⟩ | ⟨c72, hp⟩
     ·
      refine FL.val (wF_yes rfl rfl rfl c72) rfl rfl (E.move k35) ?_
      refine FL.val (wF_yes rfl rfl rfl c72) rfl rfl (E.move k36) ?_
      obtain ⟨z73, h74, hp⟩ := bnd hp
      refine FL.val (wF_yes rfl rfl rfl c72) rfl rfl (E.ixS Tryz.runUnderlying9 rfl rfl h74) ?_
      refine FL.val (wF_yes rfl rfl rfl c72) rfl rfl (E.leq rfl rfl) ?_
      obtain rfl := Option.some.inj hp
      refine FL.val (wF_yes rfl rfl rfl c61) rfl rfl (E.pickT rfl c72 rfl) ?_
      exact FL.nil ⟨rfl, _, S28, (Inc.rfl _), k35, k36, rfl, rfl⟩
     ·
      refine FL.skip (wF_no rfl rfl rfl c72) rfl ?_
      refine FL.skip (wF_no rfl rfl rfl c72) rfl ?_
      refine FL.skip (wF_no rfl rfl rfl c72) rfl ?_
      refine FL.skip (wF_no rfl rfl rfl c72) rfl ?_
      obtain rfl := Option.some.inj hp
      refine FL.val (wF_yes rfl rfl rfl c61) rfl rfl (E.pickF rfl c72 rfl) ?_
      exact FL.nil ⟨rfl, _, S28, (Inc.rfl _), k35, k36, rfl, rfl⟩
    rintro f71 w70 ⟨H67, S68, i69, k75, k76, k77, k78⟩
    obtain rfl := Option.some.inj hp
    refine FL.v (E.pickF k77 c61 k78) ?_
    exact FL.nil ⟨rfl, _, S68, i69, k75, k76, rfl⟩
  rintro f60 w59 ⟨H56, S57, i58, k79, k80, k81⟩
  refine FL.v (E.assign k81) ?_
  refine FL.nil ?_
  rcases ifB hp with ⟨c82, hp⟩ | ⟨c82, hp⟩
  ·
   refine FW.condT rfl c82 ?_
   refine FW.seq (FW.region ?_)
   refine FL.v (E.move k80) ?_
   refine FL.v (E.add rfl rfl) ?_
   refine FL.v (E.assign (v := Value.int .i64 (wr (a1 + 1))) rfl) ?_
   refine FL.nil ?_
   refine FW.ret ?_
   obtain rfl := Option.some.inj hp
   exact ⟨.inr rfl, res1 rfl rfl ⟨rfl, S57.back⟩⟩
  ·
   refine FW.condF rfl c82 ?_
   refine FW.seq (FW.region ?_)
   refine FL.v (E.move k79) ?_
   refine FL.v (E.move k80) ?_
   obtain ⟨z83, h84, hp⟩ := bnd hp
   refine FL.v (E.ixS Tryz.runUnderlying9 rfl rfl h84) ?_
   refine FL.v (E.eql rfl rfl) ?_
   refine FL.v (E.assign (v := Value.bool (z83 == 126)) rfl) ?_
   refine FL.nil ?_
   rcases ifB hp with ⟨c85, hp⟩ | ⟨c85, hp⟩
   ·
    refine FW.condT rfl c85 ?_
    refine FW.seq (FW.region ?_)
    refine FL.v (E.move k79) ?_
    refine FL.v (E.move k80) ?_
    refine FL.v (E.add rfl rfl) ?_
    obtain ⟨r86, hr87, hp⟩ := bnd hp
    refine FL.call rfl rfl rfl (E.call Tryz.call61 (A2 rfl rfl)) (hrec_spec_l22End S57.sl a0 (wr (a1 + 1)) hr87) ?_
    rintro e w88 ⟨rfl, r89⟩
    refine ⟨_, rfl, ?_⟩
    have S90 := S57.call r89
    refine FL.v (E.assign (v := Value.int .i64 r86) rfl) ?_
    refine FL.nil ?_
    refine FW.ret ?_
    obtain rfl := Option.some.inj hp
    exact ⟨.inr rfl, res1 rfl rfl ⟨rfl, S90.back⟩⟩
   ·
    refine FW.condF rfl c85 ?_
    refine FW.seq (FW.region ?_)
    refine FL.v (E.move k79) ?_
    refine FL.v (E.move k80) ?_
    obtain ⟨z91, h92, hp⟩ := bnd hp
    refine FL.v (E.ixS Tryz.runUnderlying9 rfl rfl h92) ?_
    refine FL.v (E.neq rfl rfl) ?_
    refine FL.v (E.assign (v := Value.bool (!(z91 == 40))) rfl) ?_
    refine FL.nil ?_
    rcases ifB hp with ⟨c93, hp⟩ | ⟨c93, hp⟩
    ·
     refine FW.condT rfl c93 ?_
     refine FW.seq (FW.region ?_)
     refine FL.v (E.assign (v := Value.int .i64 (-1)) rfl) ?_
     refine FL.nil ?_
     refine FW.ret ?_
     obtain rfl := Option.some.inj hp
     exact ⟨.inr rfl, res1 rfl rfl ⟨rfl, S57.back⟩⟩
    ·
     refine FW.condF rfl c93 ?_
     refine FW.skip (FW.seq (FW.region ?_))
     refine FL.v (E.move k79) ?_
     refine FL.v (E.move k80) ?_
     refine FL.v (E.add rfl rfl) ?_
     obtain ⟨r94, hr95, hp⟩ := bnd hp
     refine FL.call rfl rfl rfl (E.call Tryz.call61 (A2 rfl rfl)) (hrec_spec_l22End S57.sl a0 (wr (a1 + 1)) hr95) ?_
     rintro e w96 ⟨rfl, r97⟩
     refine ⟨_, rfl, ?_⟩
     have S98 := S57.call r97
     refine FL.v (E.assign (v := Value.int .i64 r94) rfl) ?_
     refine FL.nil (FW.seq (FW.seq (FW.region ?_)))
     refine FL.v (E.move (v := Value.int .i64 r94) rfl) ?_
     refine FL.v (E.lss rfl rfl) ?_
     refine FL.v (E.move (v := Value.bool (decide (r94 < 0))) rfl) ?_
     refine FL.cut 5 (fun f w => ∃ H : GH, St Ha wa H w [] ∧ Inc H56 H ∧ f 0 = Value.string a0 ∧ f 5 = Value.int .i64 r94 ∧ f 61 = Value.bool (bif (decide (r94 < 0)) then true else (decide ((a0.size : Int) ≤ r94)))) ?_ ?_
     ·
      rcases bcase (decide (r94 < 0)) with c105 | c105
      ·
       refine FL.skip (wF_no rfl rfl rfl c105) rfl ?_
       refine FL.skip (wF_no rfl rfl rfl c105) rfl ?_
       refine FL.skip (wF_no rfl rfl rfl c105) rfl ?_
       refine FL.skip (wF_no rfl rfl rfl c105) rfl ?_
       refine FL.v (E.pickT rfl c105 rfl) ?_
       exact FL.nil ⟨rfl, _, S98, (Inc.rfl _), k79, rfl, (congrArg Value.bool (bifT c105).symm)⟩
      ·
       refine FL.val (wF_yes rfl rfl rfl c105) rfl rfl (E.move (v := Value.int .i64 r94) rfl) ?_
       refine FL.val (wF_yes rfl rfl rfl c105) rfl rfl (E.move k79) ?_
       refine FL.val (wF_yes rfl rfl rfl c105) rfl rfl (E.lenS Tryz.runUnderlying9 rfl) ?_
       refine FL.val (wF_yes rfl rfl rfl c105) rfl rfl (E.geq rfl rfl) ?_
       refine FL.v (E.pickF rfl c105 rfl) ?_
       exact FL.nil ⟨rfl, _, S98, (Inc.rfl _), k79, rfl, (congrArg Value.bool (bifF c105).symm)⟩
     rintro f104 w103 ⟨H100, S101, i102, k106, k107, k108⟩
     refine FL.v (E.move k108) ?_
     obtain ⟨t141, hqt141, hp⟩ := bnd hp
     refine FL.cut 17 (fun f w => ∃ H : GH, St Ha wa H w [] ∧ Inc H100 H ∧ f 0 = Value.string a0 ∧ f 5 = Value.int .i64 r94 ∧ f 79 = Value.bool t141) ?_ ?_
     ·
      clear hp; have hp := hqt141; clear hqt141
      rcases ifB hp with ⟨c147, hp⟩ | ⟨c147, hp⟩
      ·
       refine FL.skip (wF_no rfl rfl rfl c147) rfl ?_
       refine FL.skip (wF_no rfl rfl rfl c147) rfl ?_
       refine FL.skip (wF_no rfl rfl rfl c147) rfl ?_
       refine FL.skip (wF_no rfl rfl rfl c147) rfl ?_
       refine FL.skip (wF_no rfl rfl rfl c147) rfl ?_
       refine FL.skip (wF_undef rfl rfl rfl) rfl ?_
       refine FL.skip (wF_undef rfl rfl rfl) rfl ?_
       refine FL.skip (wF_undef rfl rfl rfl) rfl ?_
       refine FL.skip (wF_undef rfl rfl rfl) rfl ?_
       refine FL.skip (wF_no rfl rfl rfl c147) rfl ?_
       refine FL.skip (wF_no rfl rfl rfl c147) rfl ?_
       refine FL.skip (wF_undef rfl rfl rfl) rfl ?_
       refine FL.skip (wF_undef rfl rfl rfl) rfl ?_
       refine FL.skip (wF_undef rfl rfl rfl) rfl ?_
       refine FL.skip (wF_undef rfl rfl rfl) rfl ?_
       refine FL.skip (wF_no rfl rfl rfl c147) rfl ?_
       obtain rfl := Option.some.inj hp
       refine FL.v (E.pickT rfl c147 rfl) ?_
       exact FL.nil ⟨rfl, _, S101, (Inc.rfl _), k106, k107, rfl⟩
      ·
       refine FL.val (wF_yes rfl rfl rfl c147) rfl rfl (E.move k106) ?_
       refine FL.val (wF_yes rfl rfl rfl c147) rfl rfl (E.move k107) ?_
       obtain ⟨z148, h149, hp⟩ := bnd hp
       refine FL.val (wF_yes rfl rfl rfl c147) rfl rfl (E.ixS Tryz.runUnderlying9 rfl rfl h149) ?_
       refine FL.val (wF_yes rfl rfl rfl c147) rfl rfl (E.neq rfl rfl) ?_
       refine FL.val (wF_yes rfl rfl rfl c147) rfl rfl (E.move (v := Value.bool (!(z148 == 38))) rfl) ?_
       obtain ⟨t152, hqt152, hp⟩ := bnd hp
       refine FL.cut 5 (fun f w => ∃ H : GH, St Ha wa H w [] ∧ Inc H100 H ∧ f 0 = Value.string a0 ∧ f 5 = Value.int .i64 r94 ∧ f 62 = Value.bool (bif (decide (r94 < 0)) then true else (decide ((a0.size : Int) ≤ r94))) ∧ f 72 = Value.bool t152) ?_ ?_
       ·
        clear hp; have hp := hqt152; clear hqt152
        rcases ifB hp with ⟨c158, hp⟩ | ⟨c158, hp⟩
        ·
         refine FL.val (wF_yes rfl rfl rfl c158) rfl rfl (E.move k106) ?_
         refine FL.val (wF_yes rfl rfl rfl c158) rfl rfl (E.move k107) ?_
         obtain ⟨z159, h160, hp⟩ := bnd hp
         refine FL.val (wF_yes rfl rfl rfl c158) rfl rfl (E.ixS Tryz.runUnderlying9 rfl rfl h160) ?_
         refine FL.val (wF_yes rfl rfl rfl c158) rfl rfl (E.neq rfl rfl) ?_
         obtain rfl := Option.some.inj hp
         refine FL.val (wF_yes rfl rfl rfl c147) rfl rfl (E.pickT rfl c158 rfl) ?_
         exact FL.nil ⟨rfl, _, S101, (Inc.rfl _), k106, k107, rfl, rfl⟩
        ·
         refine FL.skip (wF_no rfl rfl rfl c158) rfl ?_
         refine FL.skip (wF_no rfl rfl rfl c158) rfl ?_
         refine FL.skip (wF_no rfl rfl rfl c158) rfl ?_
         refine FL.skip (wF_no rfl rfl rfl c158) rfl ?_
         obtain rfl := Option.some.inj hp
         refine FL.val (wF_yes rfl rfl rfl c147) rfl rfl (E.pickF rfl c158 rfl) ?_
         exact FL.nil ⟨rfl, _, S101, (Inc.rfl _), k106, k107, rfl, rfl⟩
       rintro f157 w156 ⟨H153, S154, i155, k161, k162, k163, k164⟩
       refine FL.val (wF_yes rfl rfl k163 c147) rfl rfl (E.move k164) ?_
       obtain ⟨t167, hqt167, hp⟩ := bnd hp
       refine FL.cut 5 (fun f w => ∃ H : GH, St Ha wa H w [] ∧ Inc H153 H ∧ f 0 = Value.string a0 ∧ f 5 = Value.int .i64 r94 ∧ f 62 = Value.bool (bif (decide (r94 < 0)) then true else (decide ((a0.size : Int) ≤ r94))) ∧ f 78 = Value.bool t167) ?_ ?_
       ·
        clear hp; have hp := hqt167; clear hqt167
        rcases ifB hp with ⟨c173, hp⟩ | ⟨c173, hp⟩
        ·
         refine FL.val (wF_yes rfl rfl rfl c173) rfl rfl (E.move k161) ?_
         refine FL.val (wF_yes rfl rfl rfl c173) rfl rfl (E.move k162) ?_
         obtain ⟨z174, h175, hp⟩ := bnd hp
         refine FL.val (wF_yes rfl rfl rfl c173) rfl rfl (E.ixS Tryz.runUnderlying9 rfl rfl h175) ?_
         refine FL.val (wF_yes rfl rfl rfl c173) rfl rfl (E.neq rfl rfl) ?_
         obtain rfl := Option.some.inj hp
         refine FL.val (wF_yes rfl rfl k163 c147) rfl rfl (E.pickT rfl c173 rfl) ?_
         exact FL.nil ⟨rfl, _, S154, (Inc.rfl _), k161, k162, k163, rfl⟩
        ·
         refine FL.skip (wF_no rfl rfl rfl c173) rfl ?_
         refine FL.skip (wF_no rfl rfl rfl c173) rfl ?_
         refine FL.skip (wF_no rfl rfl rfl c173) rfl ?_
         refine FL.skip (wF_no rfl rfl rfl c173) rfl ?_
         obtain rfl := Option.some.inj hp
         refine FL.val (wF_yes rfl rfl k163 c147) rfl rfl (E.pickF rfl c173 rfl) ?_
         exact FL.nil ⟨rfl, _, S154, (Inc.rfl _), k161, k162, k163, rfl⟩
       rintro f172 w171 ⟨H168, S169, i170, k176, k177, k178, k179⟩
       obtain rfl := Option.some.inj hp
       refine FL.v (E.pickF k178 c147 k179) ?_
       exact FL.nil ⟨rfl, _, S169, (i155.tr i170), k176, k177, rfl⟩
     rintro f146 w145 ⟨H142, S143, i144, k180, k181, k182⟩
     refine FL.nil ?_
     rcases ifB hp with ⟨c183, hp⟩ | ⟨c183, hp⟩
     ·
      refine FW.condT k182 c183 ?_
      refine FW.seq (FW.region ?_)
      refine FL.v (E.assign (v := Value.int .i64 (-1)) rfl) ?_
      refine FL.nil ?_
      refine FW.ret ?_
      obtain rfl := Option.some.inj hp
      exact ⟨.inr rfl, res1 rfl rfl ⟨rfl, S143.back⟩⟩
     ·
      refine FW.condF k182 c183 ?_
      refine FW.skip (FW.seq (FW.region ?_))
      refine FL.v (E.move k180) ?_
      refine FL.v (E.move k181) ?_
      refine FL.v (E.add rfl rfl) ?_
      obtain ⟨r184, hr185, hp⟩ := bnd hp
      refine FL.call rfl rfl rfl (E.call Tryz.call61 (A2 rfl rfl)) (hrec_spec_l22End S143.sl a0 (wr (r94 + 1)) hr185) ?_
      rintro e w186 ⟨rfl, r187⟩
      refine ⟨_, rfl, ?_⟩
      have S188 := S143.call r187
      refine FL.v (E.assign (v := Value.int .i64 r184) rfl) ?_
      refine FL.nil (FW.seq (FW.seq (FW.region ?_)))
      refine FL.v (E.move (v := Value.int .i64 r184) rfl) ?_
      refine FL.v (E.lss rfl rfl) ?_
      refine FL.v (E.move (v := Value.bool (decide (r184 < 0))) rfl) ?_
      refine FL.cut 5 (fun f w => ∃ H : GH, St Ha wa H w [] ∧ Inc H142 H ∧ f 0 = Value.string a0 ∧ f 6 = Value.int .i64 r184 ∧ f 91 = Value.bool (bif (decide (r184 < 0)) then true else (decide ((a0.size : Int) ≤ r184)))) ?_ ?_
      ·
       rcases bcase (decide (r184 < 0)) with c195 | c195
       ·
        refine FL.skip (wF_no rfl rfl rfl c195) rfl ?_
        refine FL.skip (wF_no rfl rfl rfl c195) rfl ?_
        refine FL.skip (wF_no rfl rfl rfl c195) rfl ?_
        refine FL.skip (wF_no rfl rfl rfl c195) rfl ?_
        refine FL.v (E.pickT rfl c195 rfl) ?_
        exact FL.nil ⟨rfl, _, S188, (Inc.rfl _), k180, rfl, (congrArg Value.bool (bifT c195).symm)⟩
       ·
        refine FL.val (wF_yes rfl rfl rfl c195) rfl rfl (E.move (v := Value.int .i64 r184) rfl) ?_
        refine FL.val (wF_yes rfl rfl rfl c195) rfl rfl (E.move k180) ?_
        refine FL.val (wF_yes rfl rfl rfl c195) rfl rfl (E.lenS Tryz.runUnderlying9 rfl) ?_
        refine FL.val (wF_yes rfl rfl rfl c195) rfl rfl (E.geq rfl rfl) ?_
        refine FL.v (E.pickF rfl c195 rfl) ?_
        exact FL.nil ⟨rfl, _, S188, (Inc.rfl _), k180, rfl, (congrArg Value.bool (bifF c195).symm)⟩
      rintro f194 w193 ⟨H190, S191, i192, k196, k197, k198⟩
      refine FL.v (E.move k198) ?_
      obtain ⟨t201, hqt201, hp⟩ := bnd hp
      refine FL.cut 5 (fun f w => ∃ H : GH, St Ha wa H w [] ∧ Inc H190 H ∧ f 6 = Value.int .i64 r184 ∧ f 97 = Value.bool t201) ?_ ?_
      ·
       clear hp; have hp := hqt201; clear hqt201
       rcases ifB hp with ⟨c207, hp⟩ | ⟨c207, hp⟩
       ·
        refine FL.skip (wF_no rfl rfl rfl c207) rfl ?_
        refine FL.skip (wF_no rfl rfl rfl c207) rfl ?_
        refine FL.skip (wF_no rfl rfl rfl c207) rfl ?_
        refine FL.skip (wF_no rfl rfl rfl c207) rfl ?_
        obtain rfl := Option.some.inj hp
        refine FL.v (E.pickT rfl c207 rfl) ?_
        exact FL.nil ⟨rfl, _, S191, (Inc.rfl _), k197, rfl⟩
       ·
        refine FL.val (wF_yes rfl rfl rfl c207) rfl rfl (E.move k196) ?_
        refine FL.val (wF_yes rfl rfl rfl c207) rfl rfl (E.move k197) ?_
        obtain ⟨z208, h209, hp⟩ := bnd hp
        refine FL.val (wF_yes rfl rfl rfl c207) rfl rfl (E.ixS Tryz.runUnderlying9 rfl rfl h209) ?_
        refine FL.val (wF_yes rfl rfl rfl c207) rfl rfl (E.neq rfl rfl) ?_
        obtain rfl := Option.some.inj hp
        refine FL.v (E.pickF rfl c207 rfl) ?_
        exact FL.nil ⟨rfl, _, S191, (Inc.rfl _), k197, rfl⟩
      rintro f206 w205 ⟨H202, S203, i204, k210, k211⟩
      refine FL.nil ?_
      rcases ifB hp with ⟨c212, hp⟩ | ⟨c212, hp⟩
      ·
       refine FW.condT k211 c212 ?_
       refine FW.seq (FW.region ?_)
       refine FL.v (E.assign (v := Value.int .i64 (-1)) rfl) ?_
       refine FL.nil ?_
       refine FW.ret ?_
       obtain rfl := Option.some.inj hp
       exact ⟨.inr rfl, res1 rfl rfl ⟨rfl, S203.back⟩⟩
      ·
       refine FW.condF k211 c212 ?_
       refine FW.skip (FW.seq (FW.region ?_))
       refine FL.v (E.move k210) ?_
       refine FL.v (E.add rfl rfl) ?_
       refine FL.v (E.assign (v := Value.int .i64 (wr (r184 + 1))) rfl) ?_
       refine FL.nil ?_
       refine FW.ret ?_
       obtain rfl := Option.some.inj hp
       exact ⟨.inr rfl, res1 rfl rfl ⟨rfl, S203.back⟩⟩
theorem w_spec_l22End_F (n : Nat) : ∀ {Ha : GH} {wa : World} (hs : Sl Ha wa) (a0 : ByteArray) (a1 : Int) {r : Int} (hp : PF.spec_l22End_F n a0 a1 = some r), Calls Tryz.prog 61 #[Value.string a0, Value.int .i64 a1] wa (Sc Ha wa (Value.int .i64 r)) := by
 induction n with
 | zero => intros; rename_i hp; exact nomatch hp
 | succ n ih => exact w_spec_l22End_B (rec_spec_l22End := PF.spec_l22End_F n) ih
theorem w_spec_l22End {Ha : GH} {wa : World} (hs : Sl Ha wa) (a0 : ByteArray) (a1 : Int) {r : Int} (hp : PF.spec_l22End a0 a1 = some r) :
  Calls Tryz.prog 61 #[Value.string a0, Value.int .i64 a1] wa (Sc Ha wa (Value.int .i64 r)) := w_spec_l22End_F deep hs a0 a1 hp

theorem w_spec_l22Good {Ha : GH} {wa : World} (hs : Sl Ha wa) (a0 : ByteArray) {r : Bool} (hp : (PF.spec_l22Good a0) = some r) :
  Calls Tryz.prog 40 #[Value.string a0] wa (Sc Ha wa (Value.bool r)) := by
 unfold PF.spec_l22Good at hp
 have S0 := St.init hs
 refine calls_go (N := 18) (args := [Value.string a0]) Tryz.func40 rfl rfl rfl ?_
 refine FW.seq (FW.region ?_)
 refine FL.v (E.assign (v := Value.bool false) rfl) ?_
 refine FL.nil (FW.seq (FW.region ?_))
 refine FL.v (E.move (v := Value.string a0) rfl) ?_
 refine FL.v (E.lenS Tryz.runUnderlying9 rfl) ?_
 refine FL.v (E.gtr rfl rfl) ?_
 refine FL.v (E.move (v := Value.bool (decide (0 < (a0.size : Int)))) rfl) ?_
 refine FL.cut 4 (fun f w => ∃ H : GH, St Ha wa H w [] ∧ Inc Ha H ∧ f 0 = Value.string a0 ∧ f 10 = Value.bool (bif (decide (0 < (a0.size : Int))) then (decide ((a0.size : Int) ≤ 80)) else false)) ?_ ?_
 ·
  rcases bcase (decide (0 < (a0.size : Int))) with c27 | c27
  ·
   refine FL.val (wF_yes rfl rfl rfl c27) rfl rfl (E.move (v := Value.string a0) rfl) ?_
   refine FL.val (wF_yes rfl rfl rfl c27) rfl rfl (E.lenS Tryz.runUnderlying9 rfl) ?_
   refine FL.val (wF_yes rfl rfl rfl c27) rfl rfl (E.leq rfl rfl) ?_
   refine FL.v (E.pickT rfl c27 rfl) ?_
   exact FL.nil ⟨rfl, _, S0, (Inc.rfl _), rfl, (congrArg Value.bool (bifT c27).symm)⟩
  ·
   refine FL.skip (wF_no rfl rfl rfl c27) rfl ?_
   refine FL.skip (wF_no rfl rfl rfl c27) rfl ?_
   refine FL.skip (wF_no rfl rfl rfl c27) rfl ?_
   refine FL.v (E.pickF rfl c27 rfl) ?_
   exact FL.nil ⟨rfl, _, S0, (Inc.rfl _), rfl, (congrArg Value.bool (bifF c27).symm)⟩
 rintro f26 w25 ⟨H22, S23, i24, k28, k29⟩
 refine FL.v (E.move k29) ?_
 obtain ⟨t35, hqt35, hp⟩ := bnd hp
 refine FL.cut 6 (fun f w => ∃ H : GH, St Ha wa H w [] ∧ Inc H22 H ∧ f 17 = Value.bool t35) ?_ ?_
 ·
  clear hp; have hp := hqt35; clear hqt35
  rcases ifB hp with ⟨c41, hp⟩ | ⟨c41, hp⟩
  ·
   refine FL.val (wF_yes rfl rfl rfl c41) rfl rfl (E.move k28) ?_
   obtain ⟨r42, hr43, hp⟩ := bnd hp
   refine FL.call (wF_yes rfl rfl rfl c41) rfl rfl (E.call Tryz.call61 (A2 rfl rfl)) (w_spec_l22End S23.sl a0 0 hr43) ?_
   rintro e w44 ⟨rfl, r45⟩
   refine ⟨_, rfl, ?_⟩
   have S46 := S23.call r45
   refine FL.val (wF_yes rfl rfl rfl c41) rfl rfl (E.move k28) ?_
   refine FL.val (wF_yes rfl rfl rfl c41) rfl rfl (E.lenS Tryz.runUnderlying9 rfl) ?_
   refine FL.val (wF_yes rfl rfl rfl c41) rfl rfl (E.eql rfl rfl) ?_
   obtain rfl := Option.some.inj hp
   refine FL.v (E.pickT rfl c41 rfl) ?_
   exact FL.nil ⟨rfl, _, S46, (Inc.rfl _), rfl⟩
  ·
   refine FL.skip (wF_no rfl rfl rfl c41) rfl ?_
   refine FL.skip (wF_no rfl rfl rfl c41) rfl ?_
   refine FL.skip (wF_no rfl rfl rfl c41) rfl ?_
   refine FL.skip (wF_no rfl rfl rfl c41) rfl ?_
   refine FL.skip (wF_no rfl rfl rfl c41) rfl ?_
   obtain rfl := Option.some.inj hp
   refine FL.v (E.pickF rfl c41 rfl) ?_
   exact FL.nil ⟨rfl, _, S23, (Inc.rfl _), rfl⟩
 rintro f40 w39 ⟨H36, S37, i38, k47⟩
 refine FL.v (E.assign k47) ?_
 refine FL.nil ?_
 refine FW.ret ?_
 obtain rfl := Option.some.inj hp
 exact ⟨.inr rfl, res1 rfl rfl ⟨rfl, S37.back⟩⟩

@[reducible] def p_spec_l1Cur_formula (H0 : GH) (w0 : World) (Ha : GH) (L : List MO) (b0 : Nat) (r : (ByteArray × l1Cur)) : Ending → World → Prop :=
 fun e w' => ∃ H' : GH, ∃ v0_0r : Value, e = .returned (Value.string r.1) ∧ (St H0 w0 H' w' (.box b0 45 [v0_0r, Value.int .i64 r.2.at_, Value.int .u64 r.2.seed] :: L) ∧ Inc Ha H') ∧ RSl H' (eN .u8) 1 v0_0r r.2.code
theorem w_spec_l1Cur_formula {H0 Ha : GH} {w0 wa : World} {L : List MO} {a0 : l1Cur} {b0 : Nat} {v0_0 : Value} (S0 : St H0 w0 Ha wa (.box b0 45 [v0_0, Value.int .i64 a0.at_, Value.int .u64 a0.seed] :: L)) (p0_0 : RSl Ha (eN .u8) 1 v0_0 a0.code) {r : (ByteArray × l1Cur)} (hp : (PF.spec_l1Cur_formula a0) = some r) :
  Calls Tryz.prog 59 #[Value.pointer (some (⟨b0, 0, none⟩ : Addr))] wa (p_spec_l1Cur_formula H0 w0 Ha L b0 r) := by
 unfold PF.spec_l1Cur_formula at hp
 refine calls_go (N := 13) (args := [Value.pointer (some (⟨b0, 0, none⟩ : Addr))]) Tryz.func59 rfl rfl rfl ?_
 refine FW.seq (FW.region ?_)
 refine FL.v (E.assign (v := Value.string (ByteArray.mk #[])) rfl) ?_
 refine FL.nil (FW.seq (FW.region ?_))
 refine FL.v (E.move (v := Value.pointer (some (⟨b0, 0, none⟩ : Addr))) rfl) ?_
 refine FL.v (E.move (v := Value.pointer (some (⟨b0, 0, none⟩ : Addr))) rfl) ?_
 obtain ⟨v21, w22, run23, S24, els25⟩ := S0.ints (P := Tryz.prog) te33 (up w0.heap.size Ha) 8 [1, 2, 3, 3, 4, 5, 6, 8]
 refine FL.v (E.buildSlice (B8 rfl rfl rfl rfl rfl rfl rfl rfl) run23) ?_
 obtain ⟨H26, S27, i28, h29, nv30⟩ := S24.sealRowU (i := 0) (l' := (.box b0 45 [v0_0, Value.int .i64 a0.at_, Value.int .u64 a0.seed] :: L)) rfl els25 (by decide) rfl
 obtain ⟨r31, hr32, hp⟩ := bnd hp
 refine FL.call rfl rfl rfl (E.call Tryz.call42 (A2 rfl rfl)) (w_spec_l1Cur_among (L := (L)) S27 (a0 := a0) (p0_0.mono i28) v21 [1, 2, 3, 3, 4, 5, 6, 8] (h29.mono upI) hr32) ?_
 rintro e w34 ⟨H33, v37, rfl, ⟨S35, i36⟩, h38⟩
 refine ⟨_, rfl, ?_⟩
 have S35 : St H0 w0 H33 w34 (.box b0 45 [v37, Value.int .i64 r31.2.at_, Value.int .u64 r31.2.seed] :: L) := S35
 obtain ⟨r39, hr40, hp⟩ := bnd hp
 refine FL.call rfl rfl rfl (E.call Tryz.call84 (A2 rfl rfl)) (w_spec_l1Cur_formula22 (L := (L)) S35 (a0 := r31.2) h38 r31.1 hr40) ?_
 rintro e w42 ⟨H41, v45, rfl, ⟨S43, i44⟩, h46⟩
 refine ⟨_, rfl, ?_⟩
 have S43 : St H0 w0 H41 w42 (.box b0 45 [v45, Value.int .i64 r39.2.at_, Value.int .u64 r39.2.seed] :: L) := S43
 refine FL.v (E.assign (v := Value.string r39.1) rfl) ?_
 refine FL.nil (FW.seq (FW.seq (FW.region ?_)))
 refine FL.v (E.move (v := Value.string r39.1) rfl) ?_
 obtain ⟨r47, hr48, hp⟩ := bnd hp
 refine FL.call rfl rfl rfl (E.call Tryz.call40 (A1 rfl)) (w_spec_l22Good S43.sl r39.1 hr48) ?_
 rintro e w49 ⟨rfl, r50⟩
 refine ⟨_, rfl, ?_⟩
 have S51 := S43.call r50
 refine FL.v (E.not rfl) ?_
 refine FL.nil ?_
 rcases ifB hp with ⟨c52, hp⟩ | ⟨c52, hp⟩
 ·
  refine FW.condT rfl c52 ?_
  refine FW.seq (FW.region ?_)
  refine FL.v (E.assign (v := Value.string (ByteArray.mk #[40, 97, 62, 97, 41])) rfl) ?_
  refine FL.nil ?_
  refine FW.ret ?_
  obtain rfl := Option.some.inj hp
  exact ⟨.inr rfl, res1 rfl rfl ⟨_, _, rfl, ⟨S51, ((i28.tr i36).tr i44)⟩, h46⟩⟩
 ·
  refine FW.condF rfl c52 ?_
  refine FW.skip (FW.seq (FW.region ?_))
  refine FL.v (E.move (v := Value.string r39.1) rfl) ?_
  refine FL.v (E.assign (v := Value.string r39.1) rfl) ?_
  refine FL.nil ?_
  refine FW.ret ?_
  obtain rfl := Option.some.inj hp
  exact ⟨.inr rfl, res1 rfl rfl ⟨_, _, rfl, ⟨S51, ((i28.tr i36).tr i44)⟩, h46⟩⟩

@[reducible] def p_spec_l1Cur_spoilt (H0 : GH) (w0 : World) (Ha : GH) (L : List MO) (b0 : Nat) (r : (ByteArray × l1Cur)) : Ending → World → Prop :=
 fun e w' => ∃ H' : GH, ∃ v0_0r : Value, e = .returned (Value.string r.1) ∧ (St H0 w0 H' w' (.box b0 45 [v0_0r, Value.int .i64 r.2.at_, Value.int .u64 r.2.seed] :: L) ∧ Inc Ha H') ∧ RSl H' (eN .u8) 1 v0_0r r.2.code
set_option maxHeartbeats 4000000 in
theorem w_spec_l1Cur_spoilt {H0 Ha : GH} {w0 wa : World} {L : List MO} {a0 : l1Cur} {b0 : Nat} {v0_0 : Value} (S0 : St H0 w0 Ha wa (.box b0 45 [v0_0, Value.int .i64 a0.at_, Value.int .u64 a0.seed] :: L)) (p0_0 : RSl Ha (eN .u8) 1 v0_0 a0.code) (a1 : ByteArray) (a2 : ByteArray) {r : (ByteArray × l1Cur)} (hp : (PF.spec_l1Cur_spoilt a0 a1 a2) = some r) :
  Calls Tryz.prog 60 #[Value.pointer (some (⟨b0, 0, none⟩ : Addr)), Value.string a1, Value.string a2] wa (p_spec_l1Cur_spoilt H0 w0 Ha L b0 r) := by
 unfold PF.spec_l1Cur_spoilt at hp
 refine calls_go (N := 57) (args := [Value.pointer (some (⟨b0, 0, none⟩ : Addr)), Value.string a1, Value.string a2]) Tryz.func60 rfl rfl rfl ?_
 refine FW.seq (FW.region ?_)
 refine FL.v (E.assign (v := Value.string (ByteArray.mk #[])) rfl) ?_
 refine FL.nil (FW.seq (FW.seq (FW.region ?_)))
 refine FL.v (E.move (v := Value.string a1) rfl) ?_
 refine FL.v (E.eqlS rfl rfl) ?_
 refine FL.nil ?_
 rcases ifB hp with ⟨c21, hp⟩ | ⟨c21, hp⟩
 ·
  refine FW.condT rfl c21 ?_
  refine FW.seq (FW.region ?_)
  refine FL.v (E.move (v := Value.string a2) rfl) ?_
  obtain ⟨z22, h23, hp⟩ := bnd hp
  refine FL.v (E.cutS (kl := .i64) (kh := .i64) Tryz.underlying9 rfl (.inl ⟨rfl, rfl⟩) (.inr ⟨_, rfl, rfl⟩) h23) ?_
  refine FL.v (E.assign (v := Value.string z22) rfl) ?_
  refine FL.nil ?_
  refine FW.ret ?_
  obtain rfl := Option.some.inj hp
  exact ⟨.inr rfl, res1 rfl rfl ⟨_, _, rfl, ⟨S0, (Inc.rfl _)⟩, p0_0⟩⟩
 ·
  refine FW.condF rfl c21 ?_
  refine FW.skip (FW.seq (FW.region ?_))
  refine FL.v (E.move (v := Value.pointer (some (⟨b0, 0, none⟩ : Addr))) rfl) ?_
  refine FL.v (E.move (v := Value.string a1) rfl) ?_
  refine FL.v (E.lenS Tryz.runUnderlying9 rfl) ?_
  obtain ⟨r24, hr25, hp⟩ := bnd hp
  refine FL.call rfl rfl rfl (E.call Tryz.call18 (A2 rfl rfl)) (w_spec_l1Cur_pick (L := (L)) S0 (a0 := a0) p0_0 (a1.size : Int) hr25) ?_
  rintro e w27 ⟨H26, v30, rfl, ⟨S28, i29⟩, h31⟩
  refine ⟨_, rfl, ?_⟩
  have S28 : St H0 w0 H26 w27 (.box b0 45 [v30, Value.int .i64 r24.2.at_, Value.int .u64 r24.2.seed] :: L) := S28
  refine FL.v (E.assign (v := Value.int .i64 r24.1) rfl) ?_
  refine FL.nil (FW.seq (FW.region ?_))
  refine FL.v (E.move (v := Value.string a2) rfl) ?_
  refine FL.v (E.move (v := Value.pointer (some (⟨b0, 0, none⟩ : Addr))) rfl) ?_
  refine FL.v (E.move (v := Value.string a2) rfl) ?_
  refine FL.v (E.lenS Tryz.runUnderlying9 rfl) ?_
  obtain ⟨r32, hr33, hp⟩ := bnd hp
  refine FL.call rfl rfl rfl (E.call Tryz.call18 (A2 rfl rfl)) (w_spec_l1Cur_pick (L := (L)) S28 (a0 := r24.2) h31 (a2.size : Int) hr33) ?_
  rintro e w35 ⟨H34, v38, rfl, ⟨S36, i37⟩, h39⟩
  refine ⟨_, rfl, ?_⟩
  have S36 : St H0 w0 H34 w35 (.box b0 45 [v38, Value.int .i64 r32.2.at_, Value.int .u64 r32.2.seed] :: L) := S36
  obtain ⟨z40, h41, hp⟩ := bnd hp
  refine FL.v (E.cutS (kl := .i64) (kh := .i64) Tryz.underlying9 rfl (.inr ⟨_, rfl, rfl⟩) (.inl ⟨rfl, rfl⟩) h41) ?_
  obtain ⟨z42, h43, hp⟩ := bnd hp
  refine FL.v (E.cutS (kl := .i64) (kh := .i64) Tryz.underlying9 rfl (.inl ⟨rfl, rfl⟩) (.inr ⟨_, rfl, rfl⟩) h43) ?_
  refine FL.v (E.assign (v := Value.string z42) rfl) ?_
  refine FL.nil (FW.seq (FW.seq (FW.region ?_)))
  refine FL.v (E.move (v := Value.pointer (some (⟨b0, 0, none⟩ : Addr))) rfl) ?_
  obtain ⟨r44, hr45, hp⟩ := bnd hp
  refine FL.call rfl rfl rfl (E.call Tryz.call18 (A2 rfl rfl)) (w_spec_l1Cur_pick (L := (L)) S36 (a0 := r32.2) h39 3 hr45) ?_
  rintro e w47 ⟨H46, v50, rfl, ⟨S48, i49⟩, h51⟩
  refine ⟨_, rfl, ?_⟩
  have S48 : St H0 w0 H46 w47 (.box b0 45 [v50, Value.int .i64 r44.2.at_, Value.int .u64 r44.2.seed] :: L) := S48
  refine FL.nil (FW.block (FW.seq (FW.region ?_)))
  refine FL.v (E.eql rfl rfl) ?_
  refine FL.v (E.assign (v := Value.bool (r44.1 == 0)) rfl) ?_
  refine FL.nil ?_
  rcases ifB hp with ⟨c52, hp⟩ | ⟨c52, hp⟩
  ·
   refine FW.condT rfl c52 ?_
   refine FW.seq ?_
   refine FW.draw (fun w' => Run w47.heap.size H46 w47 H46 w') (by kernel_rfl) (by kernel_rfl) (run_drew S48.sl) ?_
   refine FD.val rfl rfl rfl (fun w' hw' => (E.move (v := Value.string a1) rfl)) ?_
   refine FD.val rfl rfl rfl (fun w' hw' => (E.move (v := Value.int .i64 r24.1) rfl)) ?_
   obtain ⟨z54, h55, hp⟩ := bnd hp
   refine FD.val rfl rfl rfl (fun w' hw' => (E.cutS (kl := .i64) (kh := .i64) Tryz.underlying9 rfl (.inl ⟨rfl, rfl⟩) (.inr ⟨_, rfl, rfl⟩) h55)) ?_
   refine FD.val rfl rfl rfl (fun w' hw' => (E.move (v := Value.string z42) rfl)) ?_
   obtain ⟨z56, h57, hp⟩ := bnd hp
   refine FD.val rfl rfl rfl (fun w' hw' => (E.addT rfl rfl h57)) ?_
   refine FD.val rfl rfl rfl (fun w' hw' => (E.move (v := Value.string a1) rfl)) ?_
   refine FD.val rfl rfl rfl (fun w' hw' => (E.move (v := Value.int .i64 r24.1) rfl)) ?_
   obtain ⟨z58, h59, hp⟩ := bnd hp
   refine FD.val rfl rfl rfl (fun w' hw' => (E.cutS (kl := .i64) (kh := .i64) Tryz.underlying9 rfl (.inr ⟨_, rfl, rfl⟩) (.inl ⟨rfl, rfl⟩) h59)) ?_
   obtain ⟨z60, h61, hp⟩ := bnd hp
   refine FD.val rfl rfl rfl (fun w' hw' => (E.addT rfl rfl h61)) ?_
   refine FD.val rfl rfl rfl (fun w' hw' => (E.assign (v := Value.string z60) rfl)) ?_
   refine FD.nil ?_
   intro w62 r64
   have S63 := S48.call r64
   refine FW.ret ?_
   obtain rfl := Option.some.inj hp
   exact ⟨.inr rfl, res1 rfl rfl ⟨_, _, rfl, ⟨S63, ((i29.tr i37).tr i49)⟩, h51⟩⟩
  ·
   refine FW.condF rfl c52 ?_
   refine FW.seq (FW.region ?_)
   refine FL.v (E.eql rfl rfl) ?_
   refine FL.v (E.assign (v := Value.bool (r44.1 == 1)) rfl) ?_
   refine FL.nil ?_
   rcases ifB hp with ⟨c65, hp⟩ | ⟨c65, hp⟩
   ·
    refine FW.condT rfl c65 ?_
    refine FW.seq ?_
    refine FW.draw (fun w' => Run w47.heap.size H46 w47 H46 w') (by kernel_rfl) (by kernel_rfl) (run_drew S48.sl) ?_
    refine FD.val rfl rfl rfl (fun w' hw' => (E.move (v := Value.string a1) rfl)) ?_
    refine FD.val rfl rfl rfl (fun w' hw' => (E.move (v := Value.int .i64 r24.1) rfl)) ?_
    obtain ⟨z67, h68, hp⟩ := bnd hp
    refine FD.val rfl rfl rfl (fun w' hw' => (E.cutS (kl := .i64) (kh := .i64) Tryz.underlying9 rfl (.inl ⟨rfl, rfl⟩) (.inr ⟨_, rfl, rfl⟩) h68)) ?_
    refine FD.val rfl rfl rfl (fun w' hw' => (E.move (v := Value.string z42) rfl)) ?_
    obtain ⟨z69, h70, hp⟩ := bnd hp
    refine FD.val rfl rfl rfl (fun w' hw' => (E.addT rfl rfl h70)) ?_
    refine FD.val rfl rfl rfl (fun w' hw' => (E.move (v := Value.string a1) rfl)) ?_
    refine FD.val rfl rfl rfl (fun w' hw' => (E.move (v := Value.int .i64 r24.1) rfl)) ?_
    refine FD.val rfl rfl rfl (fun w' hw' => (E.add rfl rfl)) ?_
    obtain ⟨z71, h72, hp⟩ := bnd hp
    refine FD.val rfl rfl rfl (fun w' hw' => (E.cutS (kl := .i64) (kh := .i64) Tryz.underlying9 rfl (.inr ⟨_, rfl, rfl⟩) (.inl ⟨rfl, rfl⟩) h72)) ?_
    obtain ⟨z73, h74, hp⟩ := bnd hp
    refine FD.val rfl rfl rfl (fun w' hw' => (E.addT rfl rfl h74)) ?_
    refine FD.val rfl rfl rfl (fun w' hw' => (E.assign (v := Value.string z73) rfl)) ?_
    refine FD.nil ?_
    intro w75 r77
    have S76 := S48.call r77
    refine FW.ret ?_
    obtain rfl := Option.some.inj hp
    exact ⟨.inr rfl, res1 rfl rfl ⟨_, _, rfl, ⟨S76, ((i29.tr i37).tr i49)⟩, h51⟩⟩
   ·
    refine FW.condF rfl c65 ?_
    refine FW.skip (FW.seq ?_)
    refine FW.draw (fun w' => Run w47.heap.size H46 w47 H46 w') (by kernel_rfl) (by kernel_rfl) (run_drew S48.sl) ?_
    refine FD.val rfl rfl rfl (fun w' hw' => (E.move (v := Value.string a1) rfl)) ?_
    refine FD.val rfl rfl rfl (fun w' hw' => (E.move (v := Value.int .i64 r24.1) rfl)) ?_
    obtain ⟨z79, h80, hp⟩ := bnd hp
    refine FD.val rfl rfl rfl (fun w' hw' => (E.cutS (kl := .i64) (kh := .i64) Tryz.underlying9 rfl (.inl ⟨rfl, rfl⟩) (.inr ⟨_, rfl, rfl⟩) h80)) ?_
    refine FD.val rfl rfl rfl (fun w' hw' => (E.move (v := Value.string a1) rfl)) ?_
    refine FD.val rfl rfl rfl (fun w' hw' => (E.move (v := Value.int .i64 r24.1) rfl)) ?_
    refine FD.val rfl rfl rfl (fun w' hw' => (E.add rfl rfl)) ?_
    obtain ⟨z81, h82, hp⟩ := bnd hp
    refine FD.val rfl rfl rfl (fun w' hw' => (E.cutS (kl := .i64) (kh := .i64) Tryz.underlying9 rfl (.inr ⟨_, rfl, rfl⟩) (.inl ⟨rfl, rfl⟩) h82)) ?_
    obtain ⟨z83, h84, hp⟩ := bnd hp
    refine FD.val rfl rfl rfl (fun w' hw' => (E.addT rfl rfl h84)) ?_
    refine FD.val rfl rfl rfl (fun w' hw' => (E.assign (v := Value.string z83) rfl)) ?_
    refine FD.nil ?_
    intro w85 r87
    have S86 := S48.call r87
    refine FW.ret ?_
    obtain rfl := Option.some.inj hp
    exact ⟨.inr rfl, res1 rfl rfl ⟨_, _, rfl, ⟨S86, ((i29.tr i37).tr i49)⟩, h51⟩⟩

@[reducible] def p_spec_l1Cur_formulaText (H0 : GH) (w0 : World) (Ha : GH) (L : List MO) (b0 : Nat) (r : (ByteArray × l1Cur)) : Ending → World → Prop :=
 fun e w' => ∃ H' : GH, ∃ v0_0r : Value, e = .returned (Value.string r.1) ∧ (St H0 w0 H' w' (.box b0 45 [v0_0r, Value.int .i64 r.2.at_, Value.int .u64 r.2.seed] :: L) ∧ Inc Ha H') ∧ RSl H' (eN .u8) 1 v0_0r r.2.code
set_option maxHeartbeats 4000000 in
theorem w_spec_l1Cur_formulaText {H0 Ha : GH} {w0 wa : World} {L : List MO} {a0 : l1Cur} {b0 : Nat} {v0_0 : Value} (S0 : St H0 w0 Ha wa (.box b0 45 [v0_0, Value.int .i64 a0.at_, Value.int .u64 a0.seed] :: L)) (p0_0 : RSl Ha (eN .u8) 1 v0_0 a0.code) {r : (ByteArray × l1Cur)} (hp : (PF.spec_l1Cur_formulaText a0) = some r) :
  Calls Tryz.prog 38 #[Value.pointer (some (⟨b0, 0, none⟩ : Addr))] wa (p_spec_l1Cur_formulaText H0 w0 Ha L b0 r) := by
 unfold PF.spec_l1Cur_formulaText at hp
 refine calls_go (N := 31) (args := [Value.pointer (some (⟨b0, 0, none⟩ : Addr))]) Tryz.func38 rfl rfl rfl ?_
 refine FW.seq (FW.region ?_)
 refine FL.v (E.assign (v := Value.string (ByteArray.mk #[])) rfl) ?_
 refine FL.nil (FW.seq (FW.region ?_))
 refine FL.v (E.move (v := Value.pointer (some (⟨b0, 0, none⟩ : Addr))) rfl) ?_
 obtain ⟨r21, hr22, hp⟩ := bnd hp
 refine FL.call rfl rfl rfl (E.call Tryz.call59 (A1 rfl)) (w_spec_l1Cur_formula (L := (L)) S0 (a0 := a0) p0_0 hr22) ?_
 rintro e w24 ⟨H23, v27, rfl, ⟨S25, i26⟩, h28⟩
 refine ⟨_, rfl, ?_⟩
 have S25 : St H0 w0 H23 w24 (.box b0 45 [v27, Value.int .i64 r21.2.at_, Value.int .u64 r21.2.seed] :: L) := S25
 refine FL.v (E.assign (v := Value.string r21.1) rfl) ?_
 refine FL.nil (FW.seq (FW.seq (FW.region ?_)))
 refine FL.v (E.move (v := Value.pointer (some (⟨b0, 0, none⟩ : Addr))) rfl) ?_
 obtain ⟨r29, hr30, hp⟩ := bnd hp
 refine FL.call rfl rfl rfl (E.call Tryz.call18 (A2 rfl rfl)) (w_spec_l1Cur_pick (L := (L)) S25 (a0 := r21.2) h28 16 hr30) ?_
 rintro e w32 ⟨H31, v35, rfl, ⟨S33, i34⟩, h36⟩
 refine ⟨_, rfl, ?_⟩
 have S33 : St H0 w0 H31 w32 (.box b0 45 [v35, Value.int .i64 r29.2.at_, Value.int .u64 r29.2.seed] :: L) := S33
 refine FL.nil (FW.block (FW.seq (FW.region ?_)))
 refine FL.v (E.eql rfl rfl) ?_
 refine FL.v (E.assign (v := Value.bool (r29.1 == 0)) rfl) ?_
 refine FL.nil ?_
 rcases ifB hp with ⟨c37, hp⟩ | ⟨c37, hp⟩
 ·
  refine FW.condT rfl c37 ?_
  refine FW.seq (FW.region ?_)
  refine FL.v (E.move (v := Value.pointer (some (⟨b0, 0, none⟩ : Addr))) rfl) ?_
  refine FL.v (E.move (v := Value.string r21.1) rfl) ?_
  obtain ⟨r38, hr39, hp⟩ := bnd hp
  refine FL.call rfl rfl rfl (E.call Tryz.call60 (A3 rfl rfl rfl)) (w_spec_l1Cur_spoilt (L := (L)) S33 (a0 := r29.2) h36 r21.1 (ByteArray.mk #[97, 98, 48, 49, 126, 40, 38, 124, 62, 41]) hr39) ?_
  rintro e w41 ⟨H40, v44, rfl, ⟨S42, i43⟩, h45⟩
  refine ⟨_, rfl, ?_⟩
  have S42 : St H0 w0 H40 w41 (.box b0 45 [v44, Value.int .i64 r38.2.at_, Value.int .u64 r38.2.seed] :: L) := S42
  refine FL.v (E.assign (v := Value.string r38.1) rfl) ?_
  refine FL.nil ?_
  refine FW.ret ?_
  obtain rfl := Option.some.inj hp
  exact ⟨.inr rfl, res1 rfl rfl ⟨_, _, rfl, ⟨S42, ((i26.tr i34).tr i43)⟩, h45⟩⟩
 ·
  refine FW.condF rfl c37 ?_
  refine FW.seq (FW.region ?_)
  refine FL.v (E.eql rfl rfl) ?_
  refine FL.v (E.assign (v := Value.bool (r29.1 == 1)) rfl) ?_
  refine FL.nil ?_
  rcases ifB hp with ⟨c46, hp⟩ | ⟨c46, hp⟩
  ·
   refine FW.condT rfl c46 ?_
   refine FW.seq (FW.region ?_)
   refine FL.v (E.move (v := Value.pointer (some (⟨b0, 0, none⟩ : Addr))) rfl) ?_
   obtain ⟨r47, hr48, hp⟩ := bnd hp
   refine FL.call rfl rfl rfl (E.call Tryz.call18 (A2 rfl rfl)) (w_spec_l1Cur_pick (L := (L)) S33 (a0 := r29.2) h36 4 hr48) ?_
   rintro e w50 ⟨H49, v53, rfl, ⟨S51, i52⟩, h54⟩
   refine ⟨_, rfl, ?_⟩
   have S51 : St H0 w0 H49 w50 (.box b0 45 [v53, Value.int .i64 r47.2.at_, Value.int .u64 r47.2.seed] :: L) := S51
   refine FL.v (E.add rfl rfl) ?_
   refine FL.v (E.assign (v := Value.int .i64 (wr (78 + r47.1))) rfl) ?_
   refine FL.nil ?_
   obtain ⟨q55, hq, hp⟩ := bndR hp
   refine FW.block ?_
   refine FW.mono (FW.iter (S := ByteArray) (X := Empty) (fun (s55 : ByteArray) f w => ∃ H : GH, St H0 w0 H w (.box b0 45 [v53, Value.int .i64 r47.2.at_, Value.int .u64 r47.2.seed] :: L) ∧ Inc H49 H ∧ f 3 = Value.string s55 ∧ f 4 = Value.int .i64 (wr (78 + r47.1))) (fun (q : Rs ByteArray Empty) e f w => match q with | .go s55 => e = Exit.exit 1 ∧ (∃ H : GH, St H0 w0 H w (.box b0 45 [v53, Value.int .i64 r47.2.at_, Value.int .u64 r47.2.seed] :: L) ∧ Inc H49 H ∧ f 3 = Value.string s55) | .rt x => x.elim) hq ⟨_, S51, (Inc.rfl _), rfl, rfl⟩ ?_) ?_
   ·
    clear hp hq
    rintro s55 f70 w69 ⟨H66, S67, i68, k71, k72⟩ o76 hp
    refine FW.seq (FW.seq (FW.region ?_))
    refine FL.v (E.move k71) ?_
    refine FL.v (E.lenS Tryz.runUnderlying9 rfl) ?_
    refine FL.v (E.move k72) ?_
    refine FL.v (E.lss rfl rfl) ?_
    refine FL.nil ?_
    rcases ifB hp with ⟨c73, hp⟩ | ⟨c73, hp⟩
    ·
     refine FW.condT rfl c73 ?_
     refine FW.skip (FW.block (FW.region ?_))
     refine FL.v (E.move k71) ?_
     obtain ⟨z74, h75, hp⟩ := bnd hp
     refine FL.v (E.addT rfl rfl h75) ?_
     refine FL.v (E.assign (v := Value.string z74) rfl) ?_
     refine FL.nil ?_
     obtain rfl := Option.some.inj hp
     exact ⟨rfl, ⟨_, S67, i68, rfl, k72⟩⟩
    ·
     refine FW.condF rfl c73 ?_
     refine FW.exit ?_
     obtain rfl := Option.some.inj hp
     exact ⟨nofun, rfl, ⟨_, S67, i68, k71⟩⟩
   ·
    clear hq
    intro e f81 w80 hD
    rcases q55 with s55 | x55
    ·
     obtain ⟨rfl, hD⟩ := hD
     obtain ⟨H77, S78, i79, k82⟩ := hD
     replace hp := el_go hp
     refine FW.seq (FW.region ?_)
     refine FL.v (E.move k82) ?_
     refine FL.v (E.assign (v := Value.string s55) rfl) ?_
     refine FL.nil ?_
     refine FW.ret ?_
     obtain rfl := Option.some.inj hp
     exact ⟨.inr rfl, res1 rfl rfl ⟨_, _, rfl, ⟨S78, (((i26.tr i34).tr i52).tr i79)⟩, (h54.mono i79)⟩⟩
    ·
     exact x55.elim
  ·
   refine FW.condF rfl c46 ?_
   refine FW.seq (FW.region ?_)
   refine FL.v (E.eql rfl rfl) ?_
   refine FL.v (E.assign (v := Value.bool (r29.1 == 2)) rfl) ?_
   refine FL.nil ?_
   rcases ifB hp with ⟨c83, hp⟩ | ⟨c83, hp⟩
   ·
    refine FW.condT rfl c83 ?_
    refine FW.seq (FW.region ?_)
    refine FL.v (E.move (v := Value.pointer (some (⟨b0, 0, none⟩ : Addr))) rfl) ?_
    obtain ⟨v84, w85, run86, S87⟩ := S33.buildSlice (P := Tryz.prog) te24 [Value.string (ByteArray.mk #[]), Value.string (ByteArray.mk #[103]), Value.string (ByteArray.mk #[40, 97, 38, 98]), Value.string (ByteArray.mk #[97, 38, 98]), Value.string (ByteArray.mk #[40, 41]), Value.string (ByteArray.mk #[126]), Value.string (ByteArray.mk #[65])] (parts := #[(0, Value.string (ByteArray.mk #[])), (1, Value.string (ByteArray.mk #[103])), (2, Value.string (ByteArray.mk #[40, 97, 38, 98])), (3, Value.string (ByteArray.mk #[97, 38, 98])), (4, Value.string (ByteArray.mk #[40, 41])), (5, Value.string (ByteArray.mk #[126])), (6, Value.string (ByteArray.mk #[65]))]) (cells := [Value.string (ByteArray.mk #[]), Value.string (ByteArray.mk #[103]), Value.string (ByteArray.mk #[40, 97, 38, 98]), Value.string (ByteArray.mk #[97, 38, 98]), Value.string (ByteArray.mk #[40, 41]), Value.string (ByteArray.mk #[126]), Value.string (ByteArray.mk #[65])]) rfl (szs_cons rfl (szs_cons rfl (szs_cons rfl (szs_cons rfl (szs_cons rfl (szs_cons rfl (szs_cons rfl szs_nil))))))) (fc_cons rfl (fc_cons rfl (fc_cons rfl (fc_cons rfl (fc_cons rfl (fc_cons rfl (fc_cons rfl fc_nil))))))) (ones_cons rfl (ones_cons rfl (ones_cons rfl (ones_cons rfl (ones_cons rfl (ones_cons rfl (ones_cons rfl ones_nil))))))) (Nat.le_of_ble_eq_true rfl)
    have els88 : Els (up w0.heap.size H31) eS 1 [Value.string (ByteArray.mk #[]), Value.string (ByteArray.mk #[103]), Value.string (ByteArray.mk #[40, 97, 38, 98]), Value.string (ByteArray.mk #[97, 38, 98]), Value.string (ByteArray.mk #[40, 41]), Value.string (ByteArray.mk #[126]), Value.string (ByteArray.mk #[65])] [(ByteArray.mk #[]), (ByteArray.mk #[103]), (ByteArray.mk #[40, 97, 38, 98]), (ByteArray.mk #[97, 38, 98]), (ByteArray.mk #[40, 41]), (ByteArray.mk #[126]), (ByteArray.mk #[65])] := (Els.snoc (H := (up w0.heap.size H31)) (E := eS) (k := 1) (c := [Value.string (ByteArray.mk #[65])]) (x := (ByteArray.mk #[65])) (Els.snoc (H := (up w0.heap.size H31)) (E := eS) (k := 1) (c := [Value.string (ByteArray.mk #[126])]) (x := (ByteArray.mk #[126])) (Els.snoc (H := (up w0.heap.size H31)) (E := eS) (k := 1) (c := [Value.string (ByteArray.mk #[40, 41])]) (x := (ByteArray.mk #[40, 41])) (Els.snoc (H := (up w0.heap.size H31)) (E := eS) (k := 1) (c := [Value.string (ByteArray.mk #[97, 38, 98])]) (x := (ByteArray.mk #[97, 38, 98])) (Els.snoc (H := (up w0.heap.size H31)) (E := eS) (k := 1) (c := [Value.string (ByteArray.mk #[40, 97, 38, 98])]) (x := (ByteArray.mk #[40, 97, 38, 98])) (Els.snoc (H := (up w0.heap.size H31)) (E := eS) (k := 1) (c := [Value.string (ByteArray.mk #[103])]) (x := (ByteArray.mk #[103])) (Els.snoc (H := (up w0.heap.size H31)) (E := eS) (k := 1) (c := [Value.string (ByteArray.mk #[])]) (x := (ByteArray.mk #[])) Els.nil rfl rfl) rfl rfl) rfl rfl) rfl rfl) rfl rfl) rfl rfl) rfl rfl)
    refine FL.v (E.buildSlice (B7 rfl rfl rfl rfl rfl rfl rfl) run86) ?_
    obtain ⟨H89, S90, i91, h92, nv93⟩ := S87.sealRowU (i := 0) (l' := (.box b0 45 [v35, Value.int .i64 r29.2.at_, Value.int .u64 r29.2.seed] :: L)) rfl els88 (by decide) rfl
    obtain ⟨r94, hr95, hp⟩ := bnd hp
    refine FL.call rfl rfl rfl (E.call Tryz.call43 (A2 rfl rfl)) (w_spec_l1Cur_of (L := (L)) S90 (a0 := r29.2) (h36.mono i91) v84 [(ByteArray.mk #[]), (ByteArray.mk #[103]), (ByteArray.mk #[40, 97, 38, 98]), (ByteArray.mk #[97, 38, 98]), (ByteArray.mk #[40, 41]), (ByteArray.mk #[126]), (ByteArray.mk #[65])] (h92.mono upI) hr95) ?_
    rintro e w97 ⟨H96, v100, rfl, ⟨S98, i99⟩, h101⟩
    refine ⟨_, rfl, ?_⟩
    have S98 : St H0 w0 H96 w97 (.box b0 45 [v100, Value.int .i64 r94.2.at_, Value.int .u64 r94.2.seed] :: L) := S98
    refine FL.v (E.assign (v := Value.string r94.1) rfl) ?_
    refine FL.nil ?_
    refine FW.ret ?_
    obtain rfl := Option.some.inj hp
    exact ⟨.inr rfl, res1 rfl rfl ⟨_, _, rfl, ⟨S98, (((i26.tr i34).tr i91).tr i99)⟩, h101⟩⟩
   ·
    refine FW.condF rfl c83 ?_
    refine FW.skip (FW.seq (FW.region ?_))
    refine FL.v (E.move (v := Value.string r21.1) rfl) ?_
    refine FL.v (E.assign (v := Value.string r21.1) rfl) ?_
    refine FL.nil ?_
    refine FW.ret ?_
    obtain rfl := Option.some.inj hp
    exact ⟨.inr rfl, res1 rfl rfl ⟨_, _, rfl, ⟨S33, (i26.tr i34)⟩, h36⟩⟩

@[reducible] def p_spec_l1Cur_given24 (H0 : GH) (w0 : World) (Ha : GH) (L : List MO) (b0 : Nat) (r : ((List ByteArray) × l1Cur)) : Ending → World → Prop :=
 fun e w' => ∃ H' : GH, ∃ v0 : Value, ∃ n0 : Nat, ∃ c0 : List Value, ∃ v0_0r : Value, e = .returned (v0) ∧ (St H0 w0 H' w' (.row 9 1 v0 n0 c0 :: .box b0 45 [v0_0r, Value.int .i64 r.2.at_, Value.int .u64 r.2.seed] :: L) ∧ Inc Ha H') ∧ Els (up w0.heap.size H') eS 1 c0 r.1 ∧ RSl H' (eN .u8) 1 v0_0r r.2.code
set_option maxHeartbeats 4000000 in
theorem w_spec_l1Cur_given24 {H0 Ha : GH} {w0 wa : World} {L : List MO} {a0 : l1Cur} {b0 : Nat} {v0_0 : Value} (S0 : St H0 w0 Ha wa (.box b0 45 [v0_0, Value.int .i64 a0.at_, Value.int .u64 a0.seed] :: L)) (p0_0 : RSl Ha (eN .u8) 1 v0_0 a0.code) {r : ((List ByteArray) × l1Cur)} (hp : (PF.spec_l1Cur_given24 a0) = some r) :
  Calls Tryz.prog 16 #[Value.pointer (some (⟨b0, 0, none⟩ : Addr))] wa (p_spec_l1Cur_given24 H0 w0 Ha L b0 r) := by
 unfold PF.spec_l1Cur_given24 at hp
 refine calls_go (N := 40) (args := [Value.pointer (some (⟨b0, 0, none⟩ : Addr))]) Tryz.func16 rfl rfl rfl ?_
 refine FW.seq (FW.region ?_)
 refine FL.v (E.assign (v := Value.slice none 0 0) rfl) ?_
 refine FL.nil (FW.seq (FW.region ?_))
 obtain ⟨v21, w22, run23, S24⟩ := S0.buildSlice (P := Tryz.prog) te24 [] (parts := #[]) (cells := []) rfl szs_nil fc_nil ones_nil (Nat.le_of_ble_eq_true rfl)
 have els25 : Els (up w0.heap.size Ha) eS 1 [] [] := Els.nil
 refine FL.v (E.buildSlice (B0) run23) ?_
 refine FL.v (E.assign (v := v21) rfl) ?_
 refine FL.nil (FW.seq (FW.seq (FW.region ?_)))
 refine FL.v (E.move (v := Value.pointer (some (⟨b0, 0, none⟩ : Addr))) rfl) ?_
 obtain ⟨v26, w27, run28, S29, els30⟩ := S24.ints (P := Tryz.prog) te33 (up w0.heap.size Ha) 5 [1, 2, 2, 3, 0]
 refine FL.v (E.buildSlice (B5 rfl rfl rfl rfl rfl) run28) ?_
 obtain ⟨H31, S32, i33, h34, nv35⟩ := S29.sealRowU (i := 0) (l' := (.row 9 1 v21 0 [] :: .box b0 45 [v0_0, Value.int .i64 a0.at_, Value.int .u64 a0.seed] :: L)) rfl els30 (by decide) rfl
 obtain ⟨r36, hr37, hp⟩ := bnd hp
 have S38 : St H0 w0 H31 w27 (.box b0 45 [v0_0, Value.int .i64 a0.at_, Value.int .u64 a0.seed] :: .row 9 1 v21 0 [] :: L) := S32.front 1 rfl rfl
 refine FL.call rfl rfl rfl (E.call Tryz.call42 (A2 rfl rfl)) (w_spec_l1Cur_among (L := (.row 9 1 v21 0 [] :: L)) S38 (a0 := a0) (p0_0.mono i33) v26 [1, 2, 2, 3, 0] (h34.mono upI) hr37) ?_
 rintro e w40 ⟨H39, v43, rfl, ⟨S41, i42⟩, h44⟩
 refine ⟨_, rfl, ?_⟩
 have S41 : St H0 w0 H39 w40 (.box b0 45 [v43, Value.int .i64 r36.2.at_, Value.int .u64 r36.2.seed] :: .row 9 1 v21 0 [] :: L) := S41
 refine FL.v (E.assign (v := Value.int .i64 r36.1) rfl) ?_
 refine FL.nil ?_
 obtain ⟨q45, hq, hp⟩ := bndR hp
 refine FW.block ?_
 refine FW.mono (FW.iter (S := ((List ByteArray) × (List Int) × Int × Int × Int)) (X := Empty) (fun (s45 : ((List ByteArray) × (List Int) × Int × Int × Int)) f w => ∃ H : GH, ∃ v93 : Value, ∃ n94 : Nat, ∃ cs95 : List Value, ∃ v97 : Value, St H0 w0 H w (.box b0 45 [v97, Value.int .i64 s45.2.2.1, Value.int .u64 s45.2.2.2.1] :: .row 9 1 v93 n94 cs95 :: L) ∧ Inc H39 H ∧ Els (up w0.heap.size H) eS 1 cs95 s45.1 ∧ RSl H (eN .u8) 1 v97 s45.2.1 ∧ f 0 = Value.pointer (some (⟨b0, 0, none⟩ : Addr)) ∧ f 3 = v93 ∧ f 4 = Value.int .i64 s45.2.2.2.2) (fun (q : Rs ((List ByteArray) × (List Int) × Int × Int × Int) Empty) e f w => match q with | .go s45 => e = Exit.exit 0 ∧ (∃ H : GH, ∃ v93 : Value, ∃ n94 : Nat, ∃ cs95 : List Value, ∃ v97 : Value, St H0 w0 H w (.box b0 45 [v97, Value.int .i64 s45.2.2.1, Value.int .u64 s45.2.2.2.1] :: .row 9 1 v93 n94 cs95 :: L) ∧ Inc H39 H ∧ Els (up w0.heap.size H) eS 1 cs95 s45.1 ∧ RSl H (eN .u8) 1 v97 s45.2.1 ∧ f 0 = Value.pointer (some (⟨b0, 0, none⟩ : Addr)) ∧ f 3 = v93) | .rt x => x.elim) hq ⟨_, _, _, _, _, S41, (Inc.rfl _), (els25.mono (up_mono (i33.tr i42))), h44, rfl, rfl, rfl⟩ ?_) ?_
 ·
  clear hp hq
  rintro s45 f146 w145 ⟨H142, v93, n94, cs95, v97, S143, i144, els96, h98, k147, k148, k149⟩ o185 hp
  refine FW.seq (FW.seq (FW.region ?_))
  refine FL.v (E.move k149) ?_
  refine FL.v (E.gtr rfl rfl) ?_
  refine FL.nil ?_
  rcases ifB hp with ⟨c150, hp⟩ | ⟨c150, hp⟩
  ·
   refine FW.condT rfl c150 ?_
   refine FW.skip (FW.seq (FW.block (FW.region ?_)))
   refine FL.v (E.move k148) ?_
   refine FL.v (E.move k147) ?_
   obtain ⟨v151, w152, run153, S154⟩ := S143.buildSlice (P := Tryz.prog) te24 [Value.string (ByteArray.mk #[97]), Value.string (ByteArray.mk #[40, 97, 62, 98, 41]), Value.string (ByteArray.mk #[98]), Value.string (ByteArray.mk #[40, 98, 62, 99, 41]), Value.string (ByteArray.mk #[126, 97]), Value.string (ByteArray.mk #[40, 97, 38, 98, 41]), Value.string (ByteArray.mk #[40, 40, 97, 38, 98, 41, 62, 99, 41]), Value.string (ByteArray.mk #[99])] (parts := #[(0, Value.string (ByteArray.mk #[97])), (1, Value.string (ByteArray.mk #[40, 97, 62, 98, 41])), (2, Value.string (ByteArray.mk #[98])), (3, Value.string (ByteArray.mk #[40, 98, 62, 99, 41])), (4, Value.string (ByteArray.mk #[126, 97])), (5, Value.string (ByteArray.mk #[40, 97, 38, 98, 41])), (6, Value.string (ByteArray.mk #[40, 40, 97, 38, 98, 41, 62, 99, 41])), (7, Value.string (ByteArray.mk #[99]))]) (cells := [Value.string (ByteArray.mk #[97]), Value.string (ByteArray.mk #[40, 97, 62, 98, 41]), Value.string (ByteArray.mk #[98]), Value.string (ByteArray.mk #[40, 98, 62, 99, 41]), Value.string (ByteArray.mk #[126, 97]), Value.string (ByteArray.mk #[40, 97, 38, 98, 41]), Value.string (ByteArray.mk #[40, 40, 97, 38, 98, 41, 62, 99, 41]), Value.string (ByteArray.mk #[99])]) rfl (szs_cons rfl (szs_cons rfl (szs_cons rfl (szs_cons rfl (szs_cons rfl (szs_cons rfl (szs_cons rfl (szs_cons rfl szs_nil)))))))) (fc_cons rfl (fc_cons rfl (fc_cons rfl (fc_cons rfl (fc_cons rfl (fc_cons rfl (fc_cons rfl (fc_cons rfl fc_nil)))))))) (ones_cons rfl (ones_cons rfl (ones_cons rfl (ones_cons rfl (ones_cons rfl (ones_cons rfl (ones_cons rfl (ones_cons rfl ones_nil)))))))) (Nat.le_of_ble_eq_true rfl)
   have els155 : Els (up w0.heap.size H142) eS 1 [Value.string (ByteArray.mk #[97]), Value.string (ByteArray.mk #[40, 97, 62, 98, 41]), Value.string (ByteArray.mk #[98]), Value.string (ByteArray.mk #[40, 98, 62, 99, 41]), Value.string (ByteArray.mk #[126, 97]), Value.string (ByteArray.mk #[40, 97, 38, 98, 41]), Value.string (ByteArray.mk #[40, 40, 97, 38, 98, 41, 62, 99, 41]), Value.string (ByteArray.mk #[99])] [(ByteArray.mk #[97]), (ByteArray.mk #[40, 97, 62, 98, 41]), (ByteArray.mk #[98]), (ByteArray.mk #[40, 98, 62, 99, 41]), (ByteArray.mk #[126, 97]), (ByteArray.mk #[40, 97, 38, 98, 41]), (ByteArray.mk #[40, 40, 97, 38, 98, 41, 62, 99, 41]), (ByteArray.mk #[99])] := (Els.snoc (H := (up w0.heap.size H142)) (E := eS) (k := 1) (c := [Value.string (ByteArray.mk #[99])]) (x := (ByteArray.mk #[99])) (Els.snoc (H := (up w0.heap.size H142)) (E := eS) (k := 1) (c := [Value.string (ByteArray.mk #[40, 40, 97, 38, 98, 41, 62, 99, 41])]) (x := (ByteArray.mk #[40, 40, 97, 38, 98, 41, 62, 99, 41])) (Els.snoc (H := (up w0.heap.size H142)) (E := eS) (k := 1) (c := [Value.string (ByteArray.mk #[40, 97, 38, 98, 41])]) (x := (ByteArray.mk #[40, 97, 38, 98, 41])) (Els.snoc (H := (up w0.heap.size H142)) (E := eS) (k := 1) (c := [Value.string (ByteArray.mk #[126, 97])]) (x := (ByteArray.mk #[126, 97])) (Els.snoc (H := (up w0.heap.size H142)) (E := eS) (k := 1) (c := [Value.string (ByteArray.mk #[40, 98, 62, 99, 41])]) (x := (ByteArray.mk #[40, 98, 62, 99, 41])) (Els.snoc (H := (up w0.heap.size H142)) (E := eS) (k := 1) (c := [Value.string (ByteArray.mk #[98])]) (x := (ByteArray.mk #[98])) (Els.snoc (H := (up w0.heap.size H142)) (E := eS) (k := 1) (c := [Value.string (ByteArray.mk #[40, 97, 62, 98, 41])]) (x := (ByteArray.mk #[40, 97, 62, 98, 41])) (Els.snoc (H := (up w0.heap.size H142)) (E := eS) (k := 1) (c := [Value.string (ByteArray.mk #[97])]) (x := (ByteArray.mk #[97])) Els.nil rfl rfl) rfl rfl) rfl rfl) rfl rfl) rfl rfl) rfl rfl) rfl rfl) rfl rfl)
   refine FL.v (E.buildSlice (B8 rfl rfl rfl rfl rfl rfl rfl rfl) run153) ?_
   obtain ⟨H156, S157, i158, h159, nv160⟩ := S154.sealRowU (i := 0) (l' := (.box b0 45 [v97, Value.int .i64 s45.2.2.1, Value.int .u64 s45.2.2.2.1] :: .row 9 1 v93 n94 cs95 :: L)) rfl els155 (by decide) rfl
   obtain ⟨r161, hr162, hp⟩ := bnd hp
   refine FL.call rfl rfl rfl (E.call Tryz.call43 (A2 rfl rfl)) (w_spec_l1Cur_of (L := (.row 9 1 v93 n94 cs95 :: L)) S157 (a0 := (l1Cur.mk s45.2.1 s45.2.2.1 s45.2.2.2.1)) (h98.mono i158) v151 [(ByteArray.mk #[97]), (ByteArray.mk #[40, 97, 62, 98, 41]), (ByteArray.mk #[98]), (ByteArray.mk #[40, 98, 62, 99, 41]), (ByteArray.mk #[126, 97]), (ByteArray.mk #[40, 97, 38, 98, 41]), (ByteArray.mk #[40, 40, 97, 38, 98, 41, 62, 99, 41]), (ByteArray.mk #[99])] (h159.mono upI) hr162) ?_
   rintro e w164 ⟨H163, v167, rfl, ⟨S165, i166⟩, h168⟩
   refine ⟨_, rfl, ?_⟩
   have S165 : St H0 w0 H163 w164 (.box b0 45 [v167, Value.int .i64 r161.2.at_, Value.int .u64 r161.2.seed] :: .row 9 1 v93 n94 cs95 :: L) := S165
   obtain ⟨v169, w170, run171, S172⟩ := S165.buildSlice (P := Tryz.prog) te24 [Value.string r161.1] (parts := #[(0, Value.string r161.1)]) (cells := [Value.string r161.1]) rfl (szs_cons rfl szs_nil) (fc_cons rfl fc_nil) (ones_cons rfl ones_nil) (Nat.le_of_ble_eq_true rfl)
   have els173 : Els (up w0.heap.size H163) eS 1 [Value.string r161.1] [r161.1] := (Els.snoc (H := (up w0.heap.size H163)) (E := eS) (k := 1) (c := [Value.string r161.1]) (x := r161.1) Els.nil rfl rfl)
   refine FL.v (E.buildSlice (B1 rfl) run171) ?_
   obtain ⟨xs174, hz175, hp⟩ := bnd hp
   obtain ⟨v176, w179, n177, cs178, run180, S181, els182, ce183⟩ := S172.appendO (P := Tryz.prog) te24 (i := 2) (j := 0) rfl (els96.mono (up_mono (i158.tr i166))) rfl els173 hz175
   have S181 : St H0 w0 H163 w179 (.row 9 1 v169 1 [Value.string r161.1] :: .box b0 45 [v167, Value.int .i64 r161.2.at_, Value.int .u64 r161.2.seed] :: .row 9 1 v176 n177 cs178 :: L) := S181
   have S184 : St H0 w0 H163 w179 (.box b0 45 [v167, Value.int .i64 r161.2.at_, Value.int .u64 r161.2.seed] :: .row 9 1 v176 n177 cs178 :: L) := S181.drop 0
   refine FL.v (E.append rfl rfl run180) ?_
   refine FL.v (E.assign (v := v176) rfl) ?_
   refine FL.nil (FW.region ?_)
   refine FL.v (E.move k149) ?_
   refine FL.v (E.sub rfl rfl) ?_
   refine FL.v (E.assign (v := Value.int .i64 (wr (s45.2.2.2.2 - 1))) rfl) ?_
   refine FL.nil ?_
   obtain rfl := Option.some.inj hp
   exact ⟨rfl, ⟨_, _, _, _, _, S184, ((i144.tr i158).tr i166), els182, h168, k147, rfl, rfl⟩⟩
  ·
   refine FW.condF rfl c150 ?_
   refine FW.exit ?_
   obtain rfl := Option.some.inj hp
   exact ⟨nofun, rfl, ⟨_, _, _, _, _, S143, i144, els96, h98, k147, k148⟩⟩
 ·
  clear hq
  intro e f190 w189 hD
  rcases q45 with s45 | x45
  ·
   obtain ⟨rfl, hD⟩ := hD
   obtain ⟨H186, v93, n94, cs95, v97, S187, i188, els96, h98, k191, k192⟩ := hD
   replace hp := el_go hp
   refine FW.seq (FW.seq (FW.region ?_))
   refine FL.v (E.move k191) ?_
   obtain ⟨r193, hr194, hp⟩ := bnd hp
   refine FL.call rfl rfl rfl (E.call Tryz.call18 (A2 rfl rfl)) (w_spec_l1Cur_pick (L := (.row 9 1 v93 n94 cs95 :: L)) S187 (a0 := (l1Cur.mk s45.2.1 s45.2.2.1 s45.2.2.2.1)) h98 24 hr194) ?_
   rintro e w196 ⟨H195, v199, rfl, ⟨S197, i198⟩, h200⟩
   refine ⟨_, rfl, ?_⟩
   have S197 : St H0 w0 H195 w196 (.box b0 45 [v199, Value.int .i64 r193.2.at_, Value.int .u64 r193.2.seed] :: .row 9 1 v93 n94 cs95 :: L) := S197
   refine FL.nil (FW.block (FW.seq (FW.region ?_)))
   refine FL.v (E.eql rfl rfl) ?_
   refine FL.v (E.assign (v := Value.bool (r193.1 == 0)) rfl) ?_
   refine FL.nil ?_
   rcases ifB hp with ⟨c201, hp⟩ | ⟨c201, hp⟩
   ·
    refine FW.condT rfl c201 ?_
    refine FW.region ?_
    refine FL.v (E.move k192) ?_
    refine FL.v (E.move k191) ?_
    obtain ⟨r202, hr203, hp⟩ := bnd hp
    refine FL.call rfl rfl rfl (E.call Tryz.call38 (A1 rfl)) (w_spec_l1Cur_formulaText (L := (.row 9 1 v93 n94 cs95 :: L)) S197 (a0 := r193.2) h200 hr203) ?_
    rintro e w205 ⟨H204, v208, rfl, ⟨S206, i207⟩, h209⟩
    refine ⟨_, rfl, ?_⟩
    have S206 : St H0 w0 H204 w205 (.box b0 45 [v208, Value.int .i64 r202.2.at_, Value.int .u64 r202.2.seed] :: .row 9 1 v93 n94 cs95 :: L) := S206
    obtain ⟨v210, w211, run212, S213⟩ := S206.buildSlice (P := Tryz.prog) te24 [Value.string r202.1] (parts := #[(0, Value.string r202.1)]) (cells := [Value.string r202.1]) rfl (szs_cons rfl szs_nil) (fc_cons rfl fc_nil) (ones_cons rfl ones_nil) (Nat.le_of_ble_eq_true rfl)
    have els214 : Els (up w0.heap.size H204) eS 1 [Value.string r202.1] [r202.1] := (Els.snoc (H := (up w0.heap.size H204)) (E := eS) (k := 1) (c := [Value.string r202.1]) (x := r202.1) Els.nil rfl rfl)
    refine FL.v (E.buildSlice (B1 rfl) run212) ?_
    obtain ⟨xs215, hz216, hp⟩ := bnd hp
    obtain ⟨v217, w220, n218, cs219, run221, S222, els223, ce224⟩ := S213.appendO (P := Tryz.prog) te24 (i := 2) (j := 0) rfl (els96.mono (up_mono (i198.tr i207))) rfl els214 hz216
    have S222 : St H0 w0 H204 w220 (.row 9 1 v210 1 [Value.string r202.1] :: .box b0 45 [v208, Value.int .i64 r202.2.at_, Value.int .u64 r202.2.seed] :: .row 9 1 v217 n218 cs219 :: L) := S222
    have S225 : St H0 w0 H204 w220 (.box b0 45 [v208, Value.int .i64 r202.2.at_, Value.int .u64 r202.2.seed] :: .row 9 1 v217 n218 cs219 :: L) := S222.drop 0
    refine FL.v (E.append rfl rfl run221) ?_
    refine FL.v (E.assign (v := v217) rfl) ?_
    refine FL.nil (FW.seq (FW.region ?_))
    refine FL.v (E.move (v := v217) rfl) ?_
    refine FL.v (E.assign (v := v217) rfl) ?_
    refine FL.nil ?_
    refine FW.ret ?_
    obtain rfl := Option.some.inj hp
    exact ⟨.inr rfl, res1 rfl rfl ⟨_, _, _, _, _, rfl, ⟨(S225.selT (a := [.box b0 45 [v208, Value.int .i64 r202.2.at_, Value.int .u64 r202.2.seed], .row 9 1 v217 n218 cs219]) (l' := [.row 9 1 v217 n218 cs219, .box b0 45 [v208, Value.int .i64 r202.2.at_, Value.int .u64 r202.2.seed]]) [1, 0] (by decide) rfl), ((((i33.tr i42).tr i188).tr i198).tr i207)⟩, els223, h209⟩⟩
   ·
    refine FW.condF rfl c201 ?_
    refine FW.seq (FW.region ?_)
    refine FL.v (E.eql rfl rfl) ?_
    refine FL.v (E.assign (v := Value.bool (r193.1 == 1)) rfl) ?_
    refine FL.nil ?_
    rcases ifB hp with ⟨c226, hp⟩ | ⟨c226, hp⟩
    ·
     refine FW.condT rfl c226 ?_
     obtain ⟨q227, hq, hp⟩ := bndR hp
     refine FW.block ?_
     refine FW.mono (FW.iter (S := ((List ByteArray) × (List Int) × Int × Int)) (X := Empty) (fun (s227 : ((List ByteArray) × (List Int) × Int × Int)) f w => ∃ H : GH, ∃ v264 : Value, ∃ n265 : Nat, ∃ cs266 : List Value, ∃ v268 : Value, St H0 w0 H w (.box b0 45 [v268, Value.int .i64 s227.2.2.1, Value.int .u64 s227.2.2.2] :: .row 9 1 v264 n265 cs266 :: L) ∧ Inc H195 H ∧ Els (up w0.heap.size H) eS 1 cs266 s227.1 ∧ RSl H (eN .u8) 1 v268 s227.2.1 ∧ f 0 = Value.pointer (some (⟨b0, 0, none⟩ : Addr)) ∧ f 3 = v264) (fun (q : Rs ((List ByteArray) × (List Int) × Int × Int) Empty) e f w => match q with | .go s227 => e = Exit.exit 3 ∧ (∃ H : GH, ∃ v264 : Value, ∃ n265 : Nat, ∃ cs266 : List Value, ∃ v268 : Value, St H0 w0 H w (.box b0 45 [v268, Value.int .i64 s227.2.2.1, Value.int .u64 s227.2.2.2] :: .row 9 1 v264 n265 cs266 :: L) ∧ Inc H195 H ∧ Els (up w0.heap.size H) eS 1 cs266 s227.1 ∧ RSl H (eN .u8) 1 v268 s227.2.1 ∧ f 3 = v264) | .rt x => x.elim) hq ⟨_, _, _, _, _, S197, (Inc.rfl _), (els96.mono (up_mono i198)), h200, k191, k192⟩ ?_) ?_
     ·
      clear hp hq
      rintro s227 f306 w305 ⟨H302, v264, n265, cs266, v268, S303, i304, els267, h269, k307, k308⟩ o334 hp
      refine FW.seq (FW.seq (FW.region ?_))
      refine FL.v (E.move k308) ?_
      refine FL.v (E.lenO te24 rfl S303 (i := 1) rfl els267 (by decide)) ?_
      refine FL.v (E.move k307) ?_
      obtain ⟨r309, hr310, hp⟩ := bnd hp
      refine FL.call rfl rfl rfl (E.call Tryz.call18 (A2 rfl rfl)) (w_spec_l1Cur_pick (L := (.row 9 1 v264 n265 cs266 :: L)) S303 (a0 := (l1Cur.mk s227.2.1 s227.2.2.1 s227.2.2.2)) h269 2 hr310) ?_
      rintro e w312 ⟨H311, v315, rfl, ⟨S313, i314⟩, h316⟩
      refine ⟨_, rfl, ?_⟩
      have S313 : St H0 w0 H311 w312 (.box b0 45 [v315, Value.int .i64 r309.2.at_, Value.int .u64 r309.2.seed] :: .row 9 1 v264 n265 cs266 :: L) := S313
      refine FL.v (E.add rfl rfl) ?_
      refine FL.v (E.lss rfl rfl) ?_
      refine FL.nil ?_
      rcases ifB hp with ⟨c317, hp⟩ | ⟨c317, hp⟩
      ·
       refine FW.condT rfl c317 ?_
       refine FW.skip (FW.block (FW.region ?_))
       refine FL.v (E.move k308) ?_
       obtain ⟨v318, w319, run320, S321⟩ := S313.buildSlice (P := Tryz.prog) te24 [Value.string (ByteArray.mk #[97])] (parts := #[(0, Value.string (ByteArray.mk #[97]))]) (cells := [Value.string (ByteArray.mk #[97])]) rfl (szs_cons rfl szs_nil) (fc_cons rfl fc_nil) (ones_cons rfl ones_nil) (Nat.le_of_ble_eq_true rfl)
       have els322 : Els (up w0.heap.size H311) eS 1 [Value.string (ByteArray.mk #[97])] [(ByteArray.mk #[97])] := (Els.snoc (H := (up w0.heap.size H311)) (E := eS) (k := 1) (c := [Value.string (ByteArray.mk #[97])]) (x := (ByteArray.mk #[97])) Els.nil rfl rfl)
       refine FL.v (E.buildSlice (B1 rfl) run320) ?_
       obtain ⟨xs323, hz324, hp⟩ := bnd hp
       obtain ⟨v325, w328, n326, cs327, run329, S330, els331, ce332⟩ := S321.appendO (P := Tryz.prog) te24 (i := 2) (j := 0) rfl (els267.mono (up_mono i314)) rfl els322 hz324
       have S330 : St H0 w0 H311 w328 (.row 9 1 v318 1 [Value.string (ByteArray.mk #[97])] :: .box b0 45 [v315, Value.int .i64 r309.2.at_, Value.int .u64 r309.2.seed] :: .row 9 1 v325 n326 cs327 :: L) := S330
       have S333 : St H0 w0 H311 w328 (.box b0 45 [v315, Value.int .i64 r309.2.at_, Value.int .u64 r309.2.seed] :: .row 9 1 v325 n326 cs327 :: L) := S330.drop 0
       refine FL.v (E.append rfl rfl run329) ?_
       refine FL.v (E.assign (v := v325) rfl) ?_
       refine FL.nil ?_
       obtain rfl := Option.some.inj hp
       exact ⟨rfl, ⟨_, _, _, _, _, S333, (i304.tr i314), els331, h316, k307, rfl⟩⟩
      ·
       refine FW.condF rfl c317 ?_
       refine FW.exit ?_
       obtain rfl := Option.some.inj hp
       exact ⟨nofun, rfl, ⟨_, _, _, _, _, S313, (i304.tr i314), (els267.mono (up_mono i314)), h316, k308⟩⟩
     ·
      clear hq
      intro e f339 w338 hD
      rcases q227 with s227 | x227
      ·
       obtain ⟨rfl, hD⟩ := hD
       obtain ⟨H335, v264, n265, cs266, v268, S336, i337, els267, h269, k340⟩ := hD
       replace hp := el_go hp
       refine FW.seq (FW.region ?_)
       refine FL.v (E.move k340) ?_
       refine FL.v (E.assign (v := v264) rfl) ?_
       refine FL.nil ?_
       refine FW.ret ?_
       obtain rfl := Option.some.inj hp
       exact ⟨.inr rfl, res1 rfl rfl ⟨_, _, _, _, _, rfl, ⟨(S336.selT (a := [.box b0 45 [v268, Value.int .i64 s227.2.2.1, Value.int .u64 s227.2.2.2], .row 9 1 v264 n265 cs266]) (l' := [.row 9 1 v264 n265 cs266, .box b0 45 [v268, Value.int .i64 s227.2.2.1, Value.int .u64 s227.2.2.2]]) [1, 0] (by decide) rfl), ((((i33.tr i42).tr i188).tr i198).tr i337)⟩, els267, h269⟩⟩
      ·
       exact x227.elim
    ·
     refine FW.condF rfl c226 ?_
     refine FW.skip (FW.seq (FW.region ?_))
     refine FL.v (E.move k192) ?_
     refine FL.v (E.assign (v := v93) rfl) ?_
     refine FL.nil ?_
     refine FW.ret ?_
     obtain rfl := Option.some.inj hp
     exact ⟨.inr rfl, res1 rfl rfl ⟨_, _, _, _, _, rfl, ⟨(S197.selT (a := [.box b0 45 [v199, Value.int .i64 r193.2.at_, Value.int .u64 r193.2.seed], .row 9 1 v93 n94 cs95]) (l' := [.row 9 1 v93 n94 cs95, .box b0 45 [v199, Value.int .i64 r193.2.at_, Value.int .u64 r193.2.seed]]) [1, 0] (by decide) rfl), (((i33.tr i42).tr i188).tr i198)⟩, (els96.mono (up_mono i198)), h200⟩⟩
  ·
   exact x45.elim

theorem w_spec_l22Parts {Ha : GH} {wa : World} (hs : Sl Ha wa) (a0 : ByteArray) {r : (Int × ByteArray × ByteArray)} (hp : (PF.spec_l22Parts a0) = some r) :
  Calls Tryz.prog 44 #[Value.string a0] wa (Sc Ha wa (Value.tuple #[Value.int .u8 r.1, Value.string r.2.1, Value.string r.2.2])) := by
 unfold PF.spec_l22Parts at hp
 have S0 := St.init hs
 refine calls_go (N := 31) (args := [Value.string a0]) Tryz.func44 rfl rfl rfl ?_
 refine FW.seq (FW.region ?_)
 refine FL.v (E.assign (v := Value.int .u8 0) rfl) ?_
 refine FL.v (E.assign (v := Value.string (ByteArray.mk #[])) rfl) ?_
 refine FL.v (E.assign (v := Value.string (ByteArray.mk #[])) rfl) ?_
 refine FL.nil (FW.seq (FW.seq (FW.region ?_)))
 refine FL.v (E.move (v := Value.string a0) rfl) ?_
 obtain ⟨z21, h22, hp⟩ := bnd hp
 refine FL.v (E.ixS Tryz.runUnderlying9 rfl rfl h22) ?_
 refine FL.v (E.eql rfl rfl) ?_
 refine FL.nil ?_
 rcases ifB hp with ⟨c23, hp⟩ | ⟨c23, hp⟩
 ·
  refine FW.condT rfl c23 ?_
  refine FW.seq ?_
  refine FW.draw (fun w' => Run wa.heap.size Ha wa Ha w') (by kernel_rfl) (by kernel_rfl) (run_drew S0.sl) ?_
  refine FD.val rfl rfl rfl (fun w' hw' => (E.move (v := Value.string a0) rfl)) ?_
  obtain ⟨z25, h26, hp⟩ := bnd hp
  refine FD.val rfl rfl rfl (fun w' hw' => (E.cutS (kl := .i64) (kh := .i64) Tryz.underlying9 rfl (.inr ⟨_, rfl, rfl⟩) (.inl ⟨rfl, rfl⟩) h26)) ?_
  refine FD.val rfl rfl rfl (fun w' hw' => (E.assign (v := Value.int .u8 126) rfl)) ?_
  refine FD.val rfl rfl rfl (fun w' hw' => (E.assign (v := Value.string z25) rfl)) ?_
  refine FD.val rfl rfl rfl (fun w' hw' => (E.assign (v := Value.string (ByteArray.mk #[])) rfl)) ?_
  refine FD.nil ?_
  intro w27 r29
  have S28 := S0.call r29
  refine FW.ret ?_
  obtain rfl := Option.some.inj hp
  exact ⟨.inr rfl, res3 rfl rfl rfl rfl ⟨rfl, S28.back⟩⟩
 ·
  refine FW.condF rfl c23 ?_
  refine FW.skip (FW.seq (FW.seq (FW.region ?_)))
  refine FL.v (E.move (v := Value.string a0) rfl) ?_
  obtain ⟨z30, h31, hp⟩ := bnd hp
  refine FL.v (E.ixS Tryz.runUnderlying9 rfl rfl h31) ?_
  refine FL.v (E.neq rfl rfl) ?_
  refine FL.nil ?_
  rcases ifB hp with ⟨c32, hp⟩ | ⟨c32, hp⟩
  ·
   refine FW.condT rfl c32 ?_
   refine FW.seq (FW.region ?_)
   refine FL.v (E.move (v := Value.string a0) rfl) ?_
   obtain ⟨z33, h34, hp⟩ := bnd hp
   refine FL.v (E.ixS Tryz.runUnderlying9 rfl rfl h34) ?_
   refine FL.v (E.assign (v := Value.int .u8 z33) rfl) ?_
   refine FL.v (E.assign (v := Value.string (ByteArray.mk #[])) rfl) ?_
   refine FL.v (E.assign (v := Value.string (ByteArray.mk #[])) rfl) ?_
   refine FL.nil ?_
   refine FW.ret ?_
   obtain rfl := Option.some.inj hp
   exact ⟨.inr rfl, res3 rfl rfl rfl rfl ⟨rfl, S0.back⟩⟩
  ·
   refine FW.condF rfl c32 ?_
   refine FW.skip (FW.seq (FW.region ?_))
   refine FL.v (E.move (v := Value.string a0) rfl) ?_
   obtain ⟨r35, hr36, hp⟩ := bnd hp
   refine FL.call rfl rfl rfl (E.call Tryz.call61 (A2 rfl rfl)) (w_spec_l22End S0.sl a0 1 hr36) ?_
   rintro e w37 ⟨rfl, r38⟩
   refine ⟨_, rfl, ?_⟩
   have S39 := S0.call r38
   refine FL.v (E.assign (v := Value.int .i64 r35) rfl) ?_
   refine FL.nil (FW.seq ?_)
   refine FW.draw (fun w' => Run w37.heap.size Ha w37 Ha w') (by kernel_rfl) (by kernel_rfl) (run_drew S39.sl) ?_
   refine FD.val rfl rfl rfl (fun w' hw' => (E.move (v := Value.string a0) rfl)) ?_
   refine FD.val rfl rfl rfl (fun w' hw' => (E.move (v := Value.int .i64 r35) rfl)) ?_
   obtain ⟨z41, h42, hp⟩ := bnd hp
   refine FD.val rfl rfl rfl (fun w' hw' => (E.ixS Tryz.runUnderlying9 rfl rfl h42)) ?_
   refine FD.val rfl rfl rfl (fun w' hw' => (E.move (v := Value.string a0) rfl)) ?_
   refine FD.val rfl rfl rfl (fun w' hw' => (E.move (v := Value.int .i64 r35) rfl)) ?_
   obtain ⟨z43, h44, hp⟩ := bnd hp
   refine FD.val rfl rfl rfl (fun w' hw' => (E.cutS (kl := .i64) (kh := .i64) Tryz.underlying9 rfl (.inr ⟨_, rfl, rfl⟩) (.inr ⟨_, rfl, rfl⟩) h44)) ?_
   refine FD.val rfl rfl rfl (fun w' hw' => (E.move (v := Value.string a0) rfl)) ?_
   refine FD.val rfl rfl rfl (fun w' hw' => (E.move (v := Value.int .i64 r35) rfl)) ?_
   refine FD.val rfl rfl rfl (fun w' hw' => (E.add rfl rfl)) ?_
   refine FD.val rfl rfl rfl (fun w' hw' => (E.move (v := Value.string a0) rfl)) ?_
   refine FD.val rfl rfl rfl (fun w' hw' => (E.lenS Tryz.runUnderlying9 rfl)) ?_
   refine FD.val rfl rfl rfl (fun w' hw' => (E.sub rfl rfl)) ?_
   obtain ⟨z45, h46, hp⟩ := bnd hp
   refine FD.val rfl rfl rfl (fun w' hw' => (E.cutS (kl := .i64) (kh := .i64) Tryz.underlying9 rfl (.inr ⟨_, rfl, rfl⟩) (.inr ⟨_, rfl, rfl⟩) h46)) ?_
   refine FD.val rfl rfl rfl (fun w' hw' => (E.assign (v := Value.int .u8 z41) rfl)) ?_
   refine FD.val rfl rfl rfl (fun w' hw' => (E.assign (v := Value.string z43) rfl)) ?_
   refine FD.val rfl rfl rfl (fun w' hw' => (E.assign (v := Value.string z45) rfl)) ?_
   refine FD.nil ?_
   intro w47 r49
   have S48 := S39.call r49
   refine FW.ret ?_
   obtain rfl := Option.some.inj hp
   exact ⟨.inr rfl, res3 rfl rfl rfl rfl ⟨rfl, S48.back⟩⟩

@[reducible] def p_spec_l1Cur_short24 (H0 : GH) (w0 : World) (Ha : GH) (L : List MO) (b0 : Nat) (r : (ByteArray × l1Cur)) : Ending → World → Prop :=
 fun e w' => ∃ H' : GH, ∃ v0_0r : Value, e = .returned (Value.string r.1) ∧ (St H0 w0 H' w' (.box b0 45 [v0_0r, Value.int .i64 r.2.at_, Value.int .u64 r.2.seed] :: L) ∧ Inc Ha H') ∧ RSl H' (eN .u8) 1 v0_0r r.2.code
theorem w_spec_l1Cur_short24 {H0 Ha : GH} {w0 wa : World} {L : List MO} {a0 : l1Cur} {b0 : Nat} {v0_0 : Value} (S0 : St H0 w0 Ha wa (.box b0 45 [v0_0, Value.int .i64 a0.at_, Value.int .u64 a0.seed] :: L)) (p0_0 : RSl Ha (eN .u8) 1 v0_0 a0.code) {r : (ByteArray × l1Cur)} (hp : (PF.spec_l1Cur_short24 a0) = some r) :
  Calls Tryz.prog 39 #[Value.pointer (some (⟨b0, 0, none⟩ : Addr))] wa (p_spec_l1Cur_short24 H0 w0 Ha L b0 r) := by
 unfold PF.spec_l1Cur_short24 at hp
 refine calls_go (N := 6) (args := [Value.pointer (some (⟨b0, 0, none⟩ : Addr))]) Tryz.func39 rfl rfl rfl ?_
 refine FW.seq (FW.region ?_)
 refine FL.v (E.assign (v := Value.string (ByteArray.mk #[])) rfl) ?_
 refine FL.nil (FW.seq (FW.region ?_))
 refine FL.v (E.move (v := Value.pointer (some (⟨b0, 0, none⟩ : Addr))) rfl) ?_
 obtain ⟨v21, w22, run23, S24⟩ := S0.buildSlice (P := Tryz.prog) te24 [Value.string (ByteArray.mk #[97]), Value.string (ByteArray.mk #[98]), Value.string (ByteArray.mk #[99]), Value.string (ByteArray.mk #[126, 97]), Value.string (ByteArray.mk #[40, 97, 62, 98, 41]), Value.string (ByteArray.mk #[49]), Value.string (ByteArray.mk #[48]), Value.string (ByteArray.mk #[40, 97, 38, 98, 41]), Value.string (ByteArray.mk #[97]), Value.string (ByteArray.mk #[98])] (parts := #[(0, Value.string (ByteArray.mk #[97])), (1, Value.string (ByteArray.mk #[98])), (2, Value.string (ByteArray.mk #[99])), (3, Value.string (ByteArray.mk #[126, 97])), (4, Value.string (ByteArray.mk #[40, 97, 62, 98, 41])), (5, Value.string (ByteArray.mk #[49])), (6, Value.string (ByteArray.mk #[48])), (7, Value.string (ByteArray.mk #[40, 97, 38, 98, 41])), (8, Value.string (ByteArray.mk #[97])), (9, Value.string (ByteArray.mk #[98]))]) (cells := [Value.string (ByteArray.mk #[97]), Value.string (ByteArray.mk #[98]), Value.string (ByteArray.mk #[99]), Value.string (ByteArray.mk #[126, 97]), Value.string (ByteArray.mk #[40, 97, 62, 98, 41]), Value.string (ByteArray.mk #[49]), Value.string (ByteArray.mk #[48]), Value.string (ByteArray.mk #[40, 97, 38, 98, 41]), Value.string (ByteArray.mk #[97]), Value.string (ByteArray.mk #[98])]) rfl (szs_cons rfl (szs_cons rfl (szs_cons rfl (szs_cons rfl (szs_cons rfl (szs_cons rfl (szs_cons rfl (szs_cons rfl (szs_cons rfl (szs_cons rfl szs_nil)))))))))) (fc_cons rfl (fc_cons rfl (fc_cons rfl (fc_cons rfl (fc_cons rfl (fc_cons rfl (fc_cons rfl (fc_cons rfl (fc_cons rfl (fc_cons rfl fc_nil)))))))))) (ones_cons rfl (ones_cons rfl (ones_cons rfl (ones_cons rfl (ones_cons rfl (ones_cons rfl (ones_cons rfl (ones_cons rfl (ones_cons rfl (ones_cons rfl ones_nil)))))))))) (Nat.le_of_ble_eq_true rfl)
 have els25 : Els (up w0.heap.size Ha) eS 1 [Value.string (ByteArray.mk #[97]), Value.string (ByteArray.mk #[98]), Value.string (ByteArray.mk #[99]), Value.string (ByteArray.mk #[126, 97]), Value.string (ByteArray.mk #[40, 97, 62, 98, 41]), Value.string (ByteArray.mk #[49]), Value.string (ByteArray.mk #[48]), Value.string (ByteArray.mk #[40, 97, 38, 98, 41]), Value.string (ByteArray.mk #[97]), Value.string (ByteArray.mk #[98])] [(ByteArray.mk #[97]), (ByteArray.mk #[98]), (ByteArray.mk #[99]), (ByteArray.mk #[126, 97]), (ByteArray.mk #[40, 97, 62, 98, 41]), (ByteArray.mk #[49]), (ByteArray.mk #[48]), (ByteArray.mk #[40, 97, 38, 98, 41]), (ByteArray.mk #[97]), (ByteArray.mk #[98])] := (Els.snoc (H := (up w0.heap.size Ha)) (E := eS) (k := 1) (c := [Value.string (ByteArray.mk #[98])]) (x := (ByteArray.mk #[98])) (Els.snoc (H := (up w0.heap.size Ha)) (E := eS) (k := 1) (c := [Value.string (ByteArray.mk #[97])]) (x := (ByteArray.mk #[97])) (Els.snoc (H := (up w0.heap.size Ha)) (E := eS) (k := 1) (c := [Value.string (ByteArray.mk #[40, 97, 38, 98, 41])]) (x := (ByteArray.mk #[40, 97, 38, 98, 41])) (Els.snoc (H := (up w0.heap.size Ha)) (E := eS) (k := 1) (c := [Value.string (ByteArray.mk #[48])]) (x := (ByteArray.mk #[48])) (Els.snoc (H := (up w0.heap.size Ha)) (E := eS) (k := 1) (c := [Value.string (ByteArray.mk #[49])]) (x := (ByteArray.mk #[49])) (Els.snoc (H := (up w0.heap.size Ha)) (E := eS) (k := 1) (c := [Value.string (ByteArray.mk #[40, 97, 62, 98, 41])]) (x := (ByteArray.mk #[40, 97, 62, 98, 41])) (Els.snoc (H := (up w0.heap.size Ha)) (E := eS) (k := 1) (c := [Value.string (ByteArray.mk #[126, 97])]) (x := (ByteArray.mk #[126, 97])) (Els.snoc (H := (up w0.heap.size Ha)) (E := eS) (k := 1) (c := [Value.string (ByteArray.mk #[99])]) (x := (ByteArray.mk #[99])) (Els.snoc (H := (up w0.heap.size Ha)) (E := eS) (k := 1) (c := [Value.string (ByteArray.mk #[98])]) (x := (ByteArray.mk #[98])) (Els.snoc (H := (up w0.heap.size Ha)) (E := eS) (k := 1) (c := [Value.string (ByteArray.mk #[97])]) (x := (ByteArray.mk #[97])) Els.nil rfl rfl) rfl rfl) rfl rfl) rfl rfl) rfl rfl) rfl rfl) rfl rfl) rfl rfl) rfl rfl) rfl rfl)
 refine FL.v (E.buildSlice (B10 rfl rfl rfl rfl rfl rfl rfl rfl rfl rfl) run23) ?_
 obtain ⟨H26, S27, i28, h29, nv30⟩ := S24.sealRowU (i := 0) (l' := (.box b0 45 [v0_0, Value.int .i64 a0.at_, Value.int .u64 a0.seed] :: L)) rfl els25 (by decide) rfl
 obtain ⟨r31, hr32, hp⟩ := bnd hp
 refine FL.call rfl rfl rfl (E.call Tryz.call43 (A2 rfl rfl)) (w_spec_l1Cur_of (L := (L)) S27 (a0 := a0) (p0_0.mono i28) v21 [(ByteArray.mk #[97]), (ByteArray.mk #[98]), (ByteArray.mk #[99]), (ByteArray.mk #[126, 97]), (ByteArray.mk #[40, 97, 62, 98, 41]), (ByteArray.mk #[49]), (ByteArray.mk #[48]), (ByteArray.mk #[40, 97, 38, 98, 41]), (ByteArray.mk #[97]), (ByteArray.mk #[98])] (h29.mono upI) hr32) ?_
 rintro e w34 ⟨H33, v37, rfl, ⟨S35, i36⟩, h38⟩
 refine ⟨_, rfl, ?_⟩
 have S35 : St H0 w0 H33 w34 (.box b0 45 [v37, Value.int .i64 r31.2.at_, Value.int .u64 r31.2.seed] :: L) := S35
 refine FL.v (E.assign (v := Value.string r31.1) rfl) ?_
 refine FL.nil ?_
 refine FW.ret ?_
 obtain rfl := Option.some.inj hp
 exact ⟨.inr rfl, res1 rfl rfl ⟨_, _, rfl, ⟨S35, (i28.tr i36)⟩, h38⟩⟩

@[reducible] def p_spec_l24Schemes (Ha : GH) (wa : World) (r : (List ByteArray)) : Ending → World → Prop :=
 fun e w' => ∃ H' : GH, ∃ v0 : Value, ∃ n0 : Nat, ∃ c0 : List Value, e = .returned (v0) ∧ St Ha wa H' w' [.row 9 1 v0 n0 c0] ∧ Els (up wa.heap.size H') eS 1 c0 r
theorem w_spec_l24Schemes {Ha : GH} {wa : World} (hs : Sl Ha wa)  :
  Calls Tryz.prog 62 #[] wa (p_spec_l24Schemes Ha wa PF.spec_l24Schemes) := by
 obtain ⟨r, hp⟩ : ∃ r, PF.spec_l24Schemes = r := ⟨_, rfl⟩
 rw [hp]
 unfold PF.spec_l24Schemes at hp
 have S0 := St.init hs
 refine calls_go (N := 2) (args := []) Tryz.func62 rfl rfl rfl ?_
 refine FW.seq (FW.region ?_)
 refine FL.v (E.assign (v := Value.slice none 0 0) rfl) ?_
 refine FL.nil (FW.seq (FW.region ?_))
 obtain ⟨v21, w22, run23, S24⟩ := S0.buildSlice (P := Tryz.prog) te24 [Value.string (ByteArray.mk #[40, 97, 62, 40, 98, 62, 97, 41, 41]), Value.string (ByteArray.mk #[40, 40, 97, 62, 40, 98, 62, 99, 41, 41, 62, 40, 40, 97, 62, 98, 41, 62, 40, 97, 62, 99, 41, 41, 41]), Value.string (ByteArray.mk #[40, 40, 126, 97, 62, 126, 98, 41, 62, 40, 98, 62, 97, 41, 41]), Value.string (ByteArray.mk #[40, 40, 97, 38, 98, 41, 62, 97, 41]), Value.string (ByteArray.mk #[40, 40, 97, 38, 98, 41, 62, 98, 41]), Value.string (ByteArray.mk #[40, 97, 62, 40, 98, 62, 40, 97, 38, 98, 41, 41, 41]), Value.string (ByteArray.mk #[40, 97, 62, 40, 97, 124, 98, 41, 41]), Value.string (ByteArray.mk #[40, 98, 62, 40, 97, 124, 98, 41, 41]), Value.string (ByteArray.mk #[40, 40, 97, 62, 99, 41, 62, 40, 40, 98, 62, 99, 41, 62, 40, 40, 97, 124, 98, 41, 62, 99, 41, 41, 41]), Value.string (ByteArray.mk #[49])] (parts := #[(0, Value.string (ByteArray.mk #[40, 97, 62, 40, 98, 62, 97, 41, 41])), (1, Value.string (ByteArray.mk #[40, 40, 97, 62, 40, 98, 62, 99, 41, 41, 62, 40, 40, 97, 62, 98, 41, 62, 40, 97, 62, 99, 41, 41, 41])), (2, Value.string (ByteArray.mk #[40, 40, 126, 97, 62, 126, 98, 41, 62, 40, 98, 62, 97, 41, 41])), (3, Value.string (ByteArray.mk #[40, 40, 97, 38, 98, 41, 62, 97, 41])), (4, Value.string (ByteArray.mk #[40, 40, 97, 38, 98, 41, 62, 98, 41])), (5, Value.string (ByteArray.mk #[40, 97, 62, 40, 98, 62, 40, 97, 38, 98, 41, 41, 41])), (6, Value.string (ByteArray.mk #[40, 97, 62, 40, 97, 124, 98, 41, 41])), (7, Value.string (ByteArray.mk #[40, 98, 62, 40, 97, 124, 98, 41, 41])), (8, Value.string (ByteArray.mk #[40, 40, 97, 62, 99, 41, 62, 40, 40, 98, 62, 99, 41, 62, 40, 40, 97, 124, 98, 41, 62, 99, 41, 41, 41])), (9, Value.string (ByteArray.mk #[49]))]) (cells := [Value.string (ByteArray.mk #[40, 97, 62, 40, 98, 62, 97, 41, 41]), Value.string (ByteArray.mk #[40, 40, 97, 62, 40, 98, 62, 99, 41, 41, 62, 40, 40, 97, 62, 98, 41, 62, 40, 97, 62, 99, 41, 41, 41]), Value.string (ByteArray.mk #[40, 40, 126, 97, 62, 126, 98, 41, 62, 40, 98, 62, 97, 41, 41]), Value.string (ByteArray.mk #[40, 40, 97, 38, 98, 41, 62, 97, 41]), Value.string (ByteArray.mk #[40, 40, 97, 38, 98, 41, 62, 98, 41]), Value.string (ByteArray.mk #[40, 97, 62, 40, 98, 62, 40, 97, 38, 98, 41, 41, 41]), Value.string (ByteArray.mk #[40, 97, 62, 40, 97, 124, 98, 41, 41]), Value.string (ByteArray.mk #[40, 98, 62, 40, 97, 124, 98, 41, 41]), Value.string (ByteArray.mk #[40, 40, 97, 62, 99, 41, 62, 40, 40, 98, 62, 99, 41, 62, 40, 40, 97, 124, 98, 41, 62, 99, 41, 41, 41]), Value.string (ByteArray.mk #[49])]) rfl (szs_cons rfl (szs_cons rfl (szs_cons rfl (szs_cons rfl (szs_cons rfl (szs_cons rfl (szs_cons rfl (szs_cons rfl (szs_cons rfl (szs_cons rfl szs_nil)))))))))) (fc_cons rfl (fc_cons rfl (fc_cons rfl (fc_cons rfl (fc_cons rfl (fc_cons rfl (fc_cons rfl (fc_cons rfl (fc_cons rfl (fc_cons rfl fc_nil)))))))))) (ones_cons rfl (ones_cons rfl (ones_cons rfl (ones_cons rfl (ones_cons rfl (ones_cons rfl (ones_cons rfl (ones_cons rfl (ones_cons rfl (ones_cons rfl ones_nil)))))))))) (Nat.le_of_ble_eq_true rfl)
 have els25 : Els (up wa.heap.size Ha) eS 1 [Value.string (ByteArray.mk #[40, 97, 62, 40, 98, 62, 97, 41, 41]), Value.string (ByteArray.mk #[40, 40, 97, 62, 40, 98, 62, 99, 41, 41, 62, 40, 40, 97, 62, 98, 41, 62, 40, 97, 62, 99, 41, 41, 41]), Value.string (ByteArray.mk #[40, 40, 126, 97, 62, 126, 98, 41, 62, 40, 98, 62, 97, 41, 41]), Value.string (ByteArray.mk #[40, 40, 97, 38, 98, 41, 62, 97, 41]), Value.string (ByteArray.mk #[40, 40, 97, 38, 98, 41, 62, 98, 41]), Value.string (ByteArray.mk #[40, 97, 62, 40, 98, 62, 40, 97, 38, 98, 41, 41, 41]), Value.string (ByteArray.mk #[40, 97, 62, 40, 97, 124, 98, 41, 41]), Value.string (ByteArray.mk #[40, 98, 62, 40, 97, 124, 98, 41, 41]), Value.string (ByteArray.mk #[40, 40, 97, 62, 99, 41, 62, 40, 40, 98, 62, 99, 41, 62, 40, 40, 97, 124, 98, 41, 62, 99, 41, 41, 41]), Value.string (ByteArray.mk #[49])] [(ByteArray.mk #[40, 97, 62, 40, 98, 62, 97, 41, 41]), (ByteArray.mk #[40, 40, 97, 62, 40, 98, 62, 99, 41, 41, 62, 40, 40, 97, 62, 98, 41, 62, 40, 97, 62, 99, 41, 41, 41]), (ByteArray.mk #[40, 40, 126, 97, 62, 126, 98, 41, 62, 40, 98, 62, 97, 41, 41]), (ByteArray.mk #[40, 40, 97, 38, 98, 41, 62, 97, 41]), (ByteArray.mk #[40, 40, 97, 38, 98, 41, 62, 98, 41]), (ByteArray.mk #[40, 97, 62, 40, 98, 62, 40, 97, 38, 98, 41, 41, 41]), (ByteArray.mk #[40, 97, 62, 40, 97, 124, 98, 41, 41]), (ByteArray.mk #[40, 98, 62, 40, 97, 124, 98, 41, 41]), (ByteArray.mk #[40, 40, 97, 62, 99, 41, 62, 40, 40, 98, 62, 99, 41, 62, 40, 40, 97, 124, 98, 41, 62, 99, 41, 41, 41]), (ByteArray.mk #[49])] := (Els.snoc (H := (up wa.heap.size Ha)) (E := eS) (k := 1) (c := [Value.string (ByteArray.mk #[49])]) (x := (ByteArray.mk #[49])) (Els.snoc (H := (up wa.heap.size Ha)) (E := eS) (k := 1) (c := [Value.string (ByteArray.mk #[40, 40, 97, 62, 99, 41, 62, 40, 40, 98, 62, 99, 41, 62, 40, 40, 97, 124, 98, 41, 62, 99, 41, 41, 41])]) (x := (ByteArray.mk #[40, 40, 97, 62, 99, 41, 62, 40, 40, 98, 62, 99, 41, 62, 40, 40, 97, 124, 98, 41, 62, 99, 41, 41, 41])) (Els.snoc (H := (up wa.heap.size Ha)) (E := eS) (k := 1) (c := [Value.string (ByteArray.mk #[40, 98, 62, 40, 97, 124, 98, 41, 41])]) (x := (ByteArray.mk #[40, 98, 62, 40, 97, 124, 98, 41, 41])) (Els.snoc (H := (up wa.heap.size Ha)) (E := eS) (k := 1) (c := [Value.string (ByteArray.mk #[40, 97, 62, 40, 97, 124, 98, 41, 41])]) (x := (ByteArray.mk #[40, 97, 62, 40, 97, 124, 98, 41, 41])) (Els.snoc (H := (up wa.heap.size Ha)) (E := eS) (k := 1) (c := [Value.string (ByteArray.mk #[40, 97, 62, 40, 98, 62, 40, 97, 38, 98, 41, 41, 41])]) (x := (ByteArray.mk #[40, 97, 62, 40, 98, 62, 40, 97, 38, 98, 41, 41, 41])) (Els.snoc (H := (up wa.heap.size Ha)) (E := eS) (k := 1) (c := [Value.string (ByteArray.mk #[40, 40, 97, 38, 98, 41, 62, 98, 41])]) (x := (ByteArray.mk #[40, 40, 97, 38, 98, 41, 62, 98, 41])) (Els.snoc (H := (up wa.heap.size Ha)) (E := eS) (k := 1) (c := [Value.string (ByteArray.mk #[40, 40, 97, 38, 98, 41, 62, 97, 41])]) (x := (ByteArray.mk #[40, 40, 97, 38, 98, 41, 62, 97, 41])) (Els.snoc (H := (up wa.heap.size Ha)) (E := eS) (k := 1) (c := [Value.string (ByteArray.mk #[40, 40, 126, 97, 62, 126, 98, 41, 62, 40, 98, 62, 97, 41, 41])]) (x := (ByteArray.mk #[40, 40, 126, 97, 62, 126, 98, 41, 62, 40, 98, 62, 97, 41, 41])) (Els.snoc (H := (up wa.heap.size Ha)) (E := eS) (k := 1) (c := [Value.string (ByteArray.mk #[40, 40, 97, 62, 40, 98, 62, 99, 41, 41, 62, 40, 40, 97, 62, 98, 41, 62, 40, 97, 62, 99, 41, 41, 41])]) (x := (ByteArray.mk #[40, 40, 97, 62, 40, 98, 62, 99, 41, 41, 62, 40, 40, 97, 62, 98, 41, 62, 40, 97, 62, 99, 41, 41, 41])) (Els.snoc (H := (up wa.heap.size Ha)) (E := eS) (k := 1) (c := [Value.string (ByteArray.mk #[40, 97, 62, 40, 98, 62, 97, 41, 41])]) (x := (ByteArray.mk #[40, 97, 62, 40, 98, 62, 97, 41, 41])) Els.nil rfl rfl) rfl rfl) rfl rfl) rfl rfl) rfl rfl) rfl rfl) rfl rfl) rfl rfl) rfl rfl) rfl rfl)
 refine FL.v (E.buildSlice (B10 rfl rfl rfl rfl rfl rfl rfl rfl rfl rfl) run23) ?_
 refine FL.v (E.assign (v := v21) rfl) ?_
 refine FL.nil ?_
 refine FW.ret ?_
 obtain rfl := hp
 exact ⟨.inr rfl, res1 rfl rfl ⟨_, _, _, _, rfl, S24, els25⟩⟩

set_option maxHeartbeats 4000000 in
theorem w_spec_l24Case {Ha : GH} {wa : World} (hs : Sl Ha wa) (a0 : Int) (a1 : ByteArray) (a2 : ByteArray) (a3 : ByteArray) {r : ByteArray} (hp : (PF.spec_l24Case a0 a1 a2 a3) = some r) :
  Calls Tryz.prog 45 #[Value.int .i64 a0, Value.string a1, Value.string a2, Value.string a3] wa (Sc Ha wa (Value.string r)) := by
 unfold PF.spec_l24Case at hp
 have S0 := St.init hs
 refine calls_go (N := 49) (args := [Value.int .i64 a0, Value.string a1, Value.string a2, Value.string a3]) Tryz.func45 rfl rfl rfl ?_
 refine FW.seq (FW.region ?_)
 refine FL.v (E.assign (v := Value.string (ByteArray.mk #[])) rfl) ?_
 refine FL.nil (FW.seq (FW.region ?_))
 refine FL.call rfl rfl rfl (E.call Tryz.call62 A0) (w_spec_l24Schemes S0.sl ) ?_
 rintro e w22 ⟨H21, v25, n26, cs27, rfl, r24, els28⟩
 refine ⟨_, rfl, ?_⟩
 have els28 := els28.mono (up_le S0.size)
 have S23 := S0.join (l' := [.row 9 1 v25 n26 cs27]) r24 rfl
 refine FL.v (E.move (v := Value.int .i64 a0) rfl) ?_
 refine FL.v (E.sub rfl rfl) ?_
 obtain ⟨x35, hx36, hp⟩ := bnd hp
 obtain ⟨p29, cs30, pt31, l32, at33, rel34⟩ := S23.row_at (i := 0) rfl els28 (by decide) hx36
 obtain rfl := eS_open rel34
 refine FL.v (E.indexAddr te24 rfl rfl pt31) ?_
 refine FL.v (E.load rfl (run_load0 Tryz.isAgg9 at33 rfl)) ?_
 refine FL.v (E.assign (v := Value.string x35) rfl) ?_
 refine FL.v (E.assign (v := Value.string (ByteArray.mk #[])) rfl) ?_
 refine FL.nil (FW.seq (FW.seq (FW.region ?_)))
 refine FL.v (E.assign (v := Value.int .i64 0) rfl) ?_
 refine FL.nil ?_
 obtain ⟨m37, hchk38, hp⟩ := bnd hp
 obtain ⟨q38, hq, hp⟩ := bndR hp
 refine FW.block ?_
 refine FW.mono (FW.forR (S := ByteArray) (X := Empty) (fun (i38 : Nat) (s38 : ByteArray) f w => ∃ H : GH, St Ha wa H w [] ∧ Inc H21 H ∧ f 11 = Value.int .i64 ((i38 : Nat) : Int) ∧ f 1 = Value.string a1 ∧ f 2 = Value.string a2 ∧ f 3 = Value.string a3 ∧ f 9 = Value.string x35 ∧ f 10 = Value.string s38) (fun (q : Rs ByteArray Empty) e f w => match q with | .go s38 => e = Exit.exit 0 ∧ (∃ H : GH, St Ha wa H w [] ∧ Inc H21 H ∧ f 10 = Value.string s38) | .rt x => x.elim) hq ⟨_, (S23.sel [] (by decide) rfl), (Inc.rfl _), rfl, rfl, rfl, rfl, rfl, rfl⟩ ?_ ?_) ?_
 ·
  clear hp hq
  rintro i38 s38 f69 w68 ⟨H65, S66, i67, k70, k71, k72, k73, k74, k75⟩ hi38 hj38 o91 hp
  refine FW.seq (FW.seq (FW.region ?_))
  refine FL.v (E.move k70) ?_
  refine FL.v (E.move k74) ?_
  refine FL.v (E.lenS Tryz.runUnderlying9 rfl) ?_
  refine FL.v (E.lssT rfl rfl (lss_chk hj38 hchk38)) ?_
  refine FL.nil ?_
  refine FW.condT rfl rfl ?_
  refine FW.skip (FW.seq (FW.block (FW.seq (FW.region ?_))))
  refine FL.v (E.move k74) ?_
  refine FL.v (E.move k70) ?_
  obtain ⟨z76, h77, hp⟩ := bnd hp
  refine FL.v (E.ixS Tryz.runUnderlying9 rfl rfl h77) ?_
  refine FL.nil (FW.block (FW.seq (FW.region ?_)))
  refine FL.v (E.eql rfl rfl) ?_
  refine FL.v (E.assign (v := Value.bool (z76 == 97)) rfl) ?_
  refine FL.nil ?_
  rcases ifB hp with ⟨c78, hp⟩ | ⟨c78, hp⟩
  ·
   refine FW.condT rfl c78 ?_
   refine FW.region ?_
   refine FL.v (E.move k75) ?_
   refine FL.v (E.move k71) ?_
   obtain ⟨z79, h80, hp⟩ := bnd hp
   refine FL.v (E.addT rfl rfl h80) ?_
   refine FL.v (E.assign (v := Value.string z79) rfl) ?_
   refine FL.nil (FW.region ?_)
   refine FL.v (E.move k70) ?_
   refine FL.v (E.add rfl rfl) ?_
   refine FL.v (E.assign (v := Value.int .i64 (wr (((i38 : Nat) : Int) + 1))) rfl) ?_
   refine FL.nil ?_
   obtain rfl := Option.some.inj hp
   exact ⟨rfl, ⟨_, S66, i67, (nat_succ rfl hj38 (chk_le hchk38)), k71, k72, k73, k74, rfl⟩⟩
  ·
   refine FW.condF rfl c78 ?_
   refine FW.seq (FW.region ?_)
   refine FL.v (E.eql rfl rfl) ?_
   refine FL.v (E.assign (v := Value.bool (z76 == 98)) rfl) ?_
   refine FL.nil ?_
   rcases ifB hp with ⟨c81, hp⟩ | ⟨c81, hp⟩
   ·
    refine FW.condT rfl c81 ?_
    refine FW.region ?_
    refine FL.v (E.move k75) ?_
    refine FL.v (E.move k72) ?_
    obtain ⟨z82, h83, hp⟩ := bnd hp
    refine FL.v (E.addT rfl rfl h83) ?_
    refine FL.v (E.assign (v := Value.string z82) rfl) ?_
    refine FL.nil (FW.region ?_)
    refine FL.v (E.move k70) ?_
    refine FL.v (E.add rfl rfl) ?_
    refine FL.v (E.assign (v := Value.int .i64 (wr (((i38 : Nat) : Int) + 1))) rfl) ?_
    refine FL.nil ?_
    obtain rfl := Option.some.inj hp
    exact ⟨rfl, ⟨_, S66, i67, (nat_succ rfl hj38 (chk_le hchk38)), k71, k72, k73, k74, rfl⟩⟩
   ·
    refine FW.condF rfl c81 ?_
    refine FW.seq (FW.region ?_)
    refine FL.v (E.eql rfl rfl) ?_
    refine FL.v (E.assign (v := Value.bool (z76 == 99)) rfl) ?_
    refine FL.nil ?_
    rcases ifB hp with ⟨c84, hp⟩ | ⟨c84, hp⟩
    ·
     refine FW.condT rfl c84 ?_
     refine FW.region ?_
     refine FL.v (E.move k75) ?_
     refine FL.v (E.move k73) ?_
     obtain ⟨z85, h86, hp⟩ := bnd hp
     refine FL.v (E.addT rfl rfl h86) ?_
     refine FL.v (E.assign (v := Value.string z85) rfl) ?_
     refine FL.nil (FW.region ?_)
     refine FL.v (E.move k70) ?_
     refine FL.v (E.add rfl rfl) ?_
     refine FL.v (E.assign (v := Value.int .i64 (wr (((i38 : Nat) : Int) + 1))) rfl) ?_
     refine FL.nil ?_
     obtain rfl := Option.some.inj hp
     exact ⟨rfl, ⟨_, S66, i67, (nat_succ rfl hj38 (chk_le hchk38)), k71, k72, k73, k74, rfl⟩⟩
    ·
     refine FW.condF rfl c84 ?_
     refine FW.region ?_
     refine FL.v (E.move k75) ?_
     refine FL.v (E.move k74) ?_
     refine FL.v (E.move k70) ?_
     refine FL.v (E.move k70) ?_
     refine FL.v (E.add rfl rfl) ?_
     obtain ⟨z87, h88, hp⟩ := bnd hp
     refine FL.v (E.cutS (kl := .i64) (kh := .i64) Tryz.underlying9 rfl (.inr ⟨_, rfl, rfl⟩) (.inr ⟨_, rfl, rfl⟩) h88) ?_
     obtain ⟨z89, h90, hp⟩ := bnd hp
     refine FL.v (E.addT rfl rfl h90) ?_
     refine FL.v (E.assign (v := Value.string z89) rfl) ?_
     refine FL.nil (FW.region ?_)
     refine FL.v (E.move k70) ?_
     refine FL.v (E.add rfl rfl) ?_
     refine FL.v (E.assign (v := Value.int .i64 (wr (((i38 : Nat) : Int) + 1))) rfl) ?_
     refine FL.nil ?_
     obtain rfl := Option.some.inj hp
     exact ⟨rfl, ⟨_, S66, i67, (nat_succ rfl hj38 (chk_le hchk38)), k71, k72, k73, k74, rfl⟩⟩
 ·
  clear hp hq
  rintro s38 f102 w101 ⟨H98, S99, i100, k103, k104, k105, k106, k107, k108⟩
  refine FW.seq (FW.seq (FW.region ?_))
  refine FL.v (E.move k103) ?_
  refine FL.v (E.move k107) ?_
  refine FL.v (E.lenS Tryz.runUnderlying9 rfl) ?_
  refine FL.v (E.lss rfl rfl) ?_
  refine FL.nil ?_
  refine FW.condF rfl (dlt_maxchk hchk38) ?_
  refine FW.exit ?_
  exact ⟨nofun, rfl, ⟨_, S99, i100, k108⟩⟩
 ·
  clear hq
  intro e f96 w95 hD
  rcases q38 with s38 | x38
  ·
   obtain ⟨rfl, hD⟩ := hD
   obtain ⟨H92, S93, i94, k97⟩ := hD
   replace hp := el_go hp
   refine FW.seq (FW.region ?_)
   refine FL.v (E.move k97) ?_
   refine FL.v (E.assign (v := Value.string s38) rfl) ?_
   refine FL.nil ?_
   refine FW.ret ?_
   obtain rfl := Option.some.inj hp
   exact ⟨.inr rfl, res1 rfl rfl ⟨rfl, S93.back⟩⟩
  ·
   exact x38.elim

@[reducible] def p_spec_l1Cur_frege (H0 : GH) (w0 : World) (Ha : GH) (L : List MO) (b0 : Nat) (r : ((List FregeStep) × l1Cur)) : Ending → World → Prop :=
 fun e w' => ∃ H' : GH, ∃ v0 : Value, ∃ n0 : Nat, ∃ c0 : List Value, ∃ v0_0r : Value, e = .returned (v0) ∧ (St H0 w0 H' w' (.row 39 4 v0 n0 c0 :: .box b0 45 [v0_0r, Value.int .i64 r.2.at_, Value.int .u64 r.2.seed] :: L) ∧ Inc Ha H') ∧ Els (up w0.heap.size H') eFregeStep 4 c0 r.1 ∧ RSl H' (eN .u8) 1 v0_0r r.2.code
set_option maxHeartbeats 4000000 in
theorem w_spec_l1Cur_frege {H0 Ha : GH} {w0 wa : World} {L : List MO} {a0 : l1Cur} {b0 : Nat} {v0_0 : Value} (S0 : St H0 w0 Ha wa (.box b0 45 [v0_0, Value.int .i64 a0.at_, Value.int .u64 a0.seed] :: L)) (p0_0 : RSl Ha (eN .u8) 1 v0_0 a0.code) (v1 : Value) (a1 : List ByteArray) (p1 : RSl Ha eS 1 v1 a1) {r : ((List FregeStep) × l1Cur)} (hp : (PF.spec_l1Cur_frege a0 a1) = some r) :
  Calls Tryz.prog 17 #[Value.pointer (some (⟨b0, 0, none⟩ : Addr)), v1] wa (p_spec_l1Cur_frege H0 w0 Ha L b0 r) := by
 unfold PF.spec_l1Cur_frege at hp
 refine calls_go (N := 217) (args := [Value.pointer (some (⟨b0, 0, none⟩ : Addr)), v1]) Tryz.func17 rfl rfl rfl ?_
 refine FW.seq (FW.region ?_)
 refine FL.v (E.assign (v := Value.slice none 0 0) rfl) ?_
 refine FL.nil (FW.seq (FW.region ?_))
 obtain ⟨v21, w22, run23, S24⟩ := S0.buildSlice (P := Tryz.prog) te25 [] (parts := #[]) (cells := []) rfl szs_nil fc_nil ones_nil (Nat.le_of_ble_eq_true rfl)
 have els25 : Els (up w0.heap.size Ha) eFregeStep 4 [] [] := Els.nil
 refine FL.v (E.buildSlice (B0) run23) ?_
 refine FL.v (E.assign (v := v21) rfl) ?_
 refine FL.nil (FW.seq (FW.seq (FW.region ?_)))
 refine FL.v (E.move (v := Value.pointer (some (⟨b0, 0, none⟩ : Addr))) rfl) ?_
 obtain ⟨v26, w27, run28, S29, els30⟩ := S24.ints (P := Tryz.prog) te33 (up w0.heap.size Ha) 6 [3, 5, 8, 2, 1, 10]
 refine FL.v (E.buildSlice (B6 rfl rfl rfl rfl rfl rfl) run28) ?_
 obtain ⟨H31, S32, i33, h34, nv35⟩ := S29.sealRowU (i := 0) (l' := (.row 39 4 v21 0 [] :: .box b0 45 [v0_0, Value.int .i64 a0.at_, Value.int .u64 a0.seed] :: L)) rfl els30 (by decide) rfl
 obtain ⟨r36, hr37, hp⟩ := bnd hp
 have S38 : St H0 w0 H31 w27 (.box b0 45 [v0_0, Value.int .i64 a0.at_, Value.int .u64 a0.seed] :: .row 39 4 v21 0 [] :: L) := S32.front 1 rfl rfl
 refine FL.call rfl rfl rfl (E.call Tryz.call42 (A2 rfl rfl)) (w_spec_l1Cur_among (L := (.row 39 4 v21 0 [] :: L)) S38 (a0 := a0) (p0_0.mono i33) v26 [3, 5, 8, 2, 1, 10] (h34.mono upI) hr37) ?_
 rintro e w40 ⟨H39, v43, rfl, ⟨S41, i42⟩, h44⟩
 refine ⟨_, rfl, ?_⟩
 have S41 : St H0 w0 H39 w40 (.box b0 45 [v43, Value.int .i64 r36.2.at_, Value.int .u64 r36.2.seed] :: .row 39 4 v21 0 [] :: L) := S41
 refine FL.v (E.assign (v := Value.int .i64 r36.1) rfl) ?_
 refine FL.nil ?_
 obtain ⟨q45, hq, hp⟩ := bndR hp
 refine FW.block ?_
 refine FW.mono (FW.iter (S := ((List FregeStep) × (List Int) × Int × Int × Int)) (X := Empty) (fun (s45 : ((List FregeStep) × (List Int) × Int × Int × Int)) f w => ∃ H : GH, ∃ v46 : Value, ∃ n47 : Nat, ∃ cs48 : List Value, ∃ v50 : Value, St H0 w0 H w (.box b0 45 [v50, Value.int .i64 s45.2.2.1, Value.int .u64 s45.2.2.2.1] :: .row 39 4 v46 n47 cs48 :: L) ∧ Inc H39 H ∧ Els (up w0.heap.size H) eFregeStep 4 cs48 s45.1 ∧ RSl H (eN .u8) 1 v50 s45.2.1 ∧ f 0 = Value.pointer (some (⟨b0, 0, none⟩ : Addr)) ∧ f 1 = v1 ∧ f 5 = v46 ∧ f 6 = Value.int .i64 s45.2.2.2.2) (fun (q : Rs ((List FregeStep) × (List Int) × Int × Int × Int) Empty) e f w => match q with | .go s45 => e = Exit.exit 0 ∧ (∃ H : GH, ∃ v46 : Value, ∃ n47 : Nat, ∃ cs48 : List Value, ∃ v50 : Value, St H0 w0 H w (.box b0 45 [v50, Value.int .i64 s45.2.2.1, Value.int .u64 s45.2.2.2.1] :: .row 39 4 v46 n47 cs48 :: L) ∧ Inc H39 H ∧ Els (up w0.heap.size H) eFregeStep 4 cs48 s45.1 ∧ RSl H (eN .u8) 1 v50 s45.2.1 ∧ f 0 = Value.pointer (some (⟨b0, 0, none⟩ : Addr)) ∧ f 5 = v46) | .rt x => x.elim) hq ⟨_, _, _, _, _, S41, (Inc.rfl _), (els25.mono (up_mono (i33.tr i42))), h44, rfl, rfl, rfl, rfl⟩ ?_) ?_
 ·
  clear hp hq
  rintro s45 f56 w55 ⟨H52, v46, n47, cs48, v50, S53, i54, els49, h51, k57, k58, k59, k60⟩ o477 hp
  refine FW.seq (FW.seq (FW.region ?_))
  refine FL.v (E.move k60) ?_
  refine FL.v (E.gtr rfl rfl) ?_
  refine FL.nil ?_
  rcases ifB hp with ⟨c61, hp⟩ | ⟨c61, hp⟩
  ·
   refine FW.condT rfl c61 ?_
   refine FW.skip (FW.seq (FW.block (FW.seq (FW.region ?_))))
   refine FL.v (E.assign (v := Value.bool false) rfl) ?_
   refine FL.nil (FW.seq (FW.seq (FW.region ?_)))
   refine FL.v (E.assign (v := Value.int .i64 0) rfl) ?_
   refine FL.nil ?_
   obtain ⟨q62, hq, hp⟩ := bndR hp
   refine FW.block ?_
   refine FW.mono (FW.iter (S := ((List FregeStep) × (List Int) × Int × Int × Bool × Int)) (X := Empty) (fun (s62 : ((List FregeStep) × (List Int) × Int × Int × Bool × Int)) f w => ∃ H : GH, ∃ v63 : Value, ∃ n64 : Nat, ∃ cs65 : List Value, ∃ v67 : Value, St H0 w0 H w (.box b0 45 [v67, Value.int .i64 s62.2.2.1, Value.int .u64 s62.2.2.2.1] :: .row 39 4 v63 n64 cs65 :: L) ∧ Inc H52 H ∧ Els (up w0.heap.size H) eFregeStep 4 cs65 s62.1 ∧ RSl H (eN .u8) 1 v67 s62.2.1 ∧ f 0 = Value.pointer (some (⟨b0, 0, none⟩ : Addr)) ∧ f 1 = v1 ∧ f 5 = v63 ∧ f 6 = Value.int .i64 s45.2.2.2.2 ∧ f 7 = Value.bool s62.2.2.2.2.1 ∧ f 8 = Value.int .i64 s62.2.2.2.2.2) (fun (q : Rs ((List FregeStep) × (List Int) × Int × Int × Bool × Int) Empty) e f w => match q with | .go s62 => e = Exit.exit 2 ∧ (∃ H : GH, ∃ v63 : Value, ∃ n64 : Nat, ∃ cs65 : List Value, ∃ v67 : Value, St H0 w0 H w (.box b0 45 [v67, Value.int .i64 s62.2.2.1, Value.int .u64 s62.2.2.2.1] :: .row 39 4 v63 n64 cs65 :: L) ∧ Inc H52 H ∧ Els (up w0.heap.size H) eFregeStep 4 cs65 s62.1 ∧ RSl H (eN .u8) 1 v67 s62.2.1 ∧ f 0 = Value.pointer (some (⟨b0, 0, none⟩ : Addr)) ∧ f 1 = v1 ∧ f 5 = v63 ∧ f 6 = Value.int .i64 s45.2.2.2.2 ∧ f 7 = Value.bool s62.2.2.2.2.1) | .rt x => x.elim) hq ⟨_, _, _, _, _, S53, (Inc.rfl _), els49, h51, k57, k58, k59, k60, rfl, rfl⟩ ?_) ?_
   ·
    clear hp hq
    rintro s62 f73 w72 ⟨H69, v63, n64, cs65, v67, S70, i71, els66, h68, k74, k75, k76, k77, k78, k79⟩ o244 hp
    refine FW.seq (FW.seq (FW.region ?_))
    refine FL.v (E.move k79) ?_
    refine FL.v (E.move k76) ?_
    refine FL.v (E.lenO te25 rfl S70 (i := 1) rfl els66 (by decide)) ?_
    refine FL.v (E.lss rfl rfl) ?_
    refine FL.v (E.move (v := Value.bool (decide (s62.2.2.2.2.2 < (len s62.1)))) rfl) ?_
    refine FL.cut 3 (fun f w => ∃ H : GH, St H0 w0 H w (.box b0 45 [v67, Value.int .i64 s62.2.2.1, Value.int .u64 s62.2.2.2.1] :: .row 39 4 v63 n64 cs65 :: L) ∧ Inc H69 H ∧ f 0 = Value.pointer (some (⟨b0, 0, none⟩ : Addr)) ∧ f 1 = v1 ∧ f 5 = v63 ∧ f 6 = Value.int .i64 s45.2.2.2.2 ∧ f 7 = Value.bool s62.2.2.2.2.1 ∧ f 8 = Value.int .i64 s62.2.2.2.2.2 ∧ f 34 = Value.bool (bif (decide (s62.2.2.2.2.2 < (len s62.1))) then (!s62.2.2.2.2.1) else false)) ?_ ?_
    ·
     rcases bcase (decide (s62.2.2.2.2.2 < (len s62.1))) with c85 | c85
     ·
      refine FL.val (wF_yes rfl rfl rfl c85) rfl rfl (E.move k78) ?_
      refine FL.val (wF_yes rfl rfl rfl c85) rfl rfl (E.not rfl) ?_
      refine FL.v (E.pickT rfl c85 rfl) ?_
      exact FL.nil ⟨rfl, _, S70, (Inc.rfl _), k74, k75, k76, k77, k78, k79, (congrArg Value.bool (bifT c85).symm)⟩
     ·
      refine FL.skip (wF_no rfl rfl rfl c85) rfl ?_
      refine FL.skip (wF_no rfl rfl rfl c85) rfl ?_
      refine FL.v (E.pickF rfl c85 rfl) ?_
      exact FL.nil ⟨rfl, _, S70, (Inc.rfl _), k74, k75, k76, k77, k78, k79, (congrArg Value.bool (bifF c85).symm)⟩
    rintro f84 w83 ⟨H80, S81, i82, k86, k87, k88, k89, k90, k91, k92⟩
    refine FL.v (E.move k92) ?_
    obtain ⟨t93, hqt93, hp⟩ := bnd hp
    refine FL.cut 4 (fun f w => ∃ H : GH, ∃ v95 : Value, St H0 w0 H w (.box b0 45 [v95, Value.int .i64 t93.2.1, Value.int .u64 t93.2.2.1] :: .row 39 4 v63 n64 cs65 :: L) ∧ Inc H80 H ∧ RSl H (eN .u8) 1 v95 t93.1 ∧ f 0 = Value.pointer (some (⟨b0, 0, none⟩ : Addr)) ∧ f 1 = v1 ∧ f 5 = v63 ∧ f 6 = Value.int .i64 s45.2.2.2.2 ∧ f 7 = Value.bool s62.2.2.2.2.1 ∧ f 8 = Value.int .i64 s62.2.2.2.2.2 ∧ f 39 = Value.bool t93.2.2.2) ?_ ?_
    ·
     clear hp; have hp := hqt93; clear hqt93
     rcases ifB hp with ⟨c94, hp⟩ | ⟨c94, hp⟩
     ·
      refine FL.val (wF_yes rfl rfl rfl c94) rfl rfl (E.move k86) ?_
      obtain ⟨r97, hr98, hp⟩ := bnd hp
      refine FL.call (wF_yes rfl rfl rfl c94) rfl rfl (E.call Tryz.call37 (A2 rfl rfl)) (w_spec_l1Cur_one (L := (.row 39 4 v63 n64 cs65 :: L)) S81 (a0 := (l1Cur.mk s62.2.1 s62.2.2.1 s62.2.2.2.1)) (h68.mono i82) 4 hr98) ?_
      rintro e w100 ⟨H99, v103, rfl, ⟨S101, i102⟩, h104⟩
      refine ⟨_, rfl, ?_⟩
      have S101 : St H0 w0 H99 w100 (.box b0 45 [v103, Value.int .i64 r97.2.at_, Value.int .u64 r97.2.seed] :: .row 39 4 v63 n64 cs65 :: L) := S101
      refine FL.val (wF_yes rfl rfl rfl c94) rfl rfl (E.not rfl) ?_
      refine FL.v (E.pickT rfl c94 rfl) ?_
      obtain rfl := Option.some.inj hp
      exact FL.nil ⟨rfl, ⟨_, _, S101, i102, h104, k86, k87, k88, k89, k90, k91, rfl⟩⟩
     ·
      refine FL.skip (wF_no rfl rfl rfl c94) rfl ?_
      refine FL.skip (wF_no rfl rfl rfl c94) rfl ?_
      refine FL.skip (wF_no rfl rfl rfl c94) rfl ?_
      refine FL.v (E.pickF rfl c94 rfl) ?_
      obtain rfl := Option.some.inj hp
      exact FL.nil ⟨rfl, ⟨_, _, S81, (Inc.rfl _), (h68.mono i82), k86, k87, k88, k89, k90, k91, rfl⟩⟩
    clear hqt93
    rintro f109 w108 ⟨H105, v95, S106, i107, h96, k110, k111, k112, k113, k114, k115, k116⟩
    refine FL.nil ?_
    rcases ifB hp with ⟨c117, hp⟩ | ⟨c117, hp⟩
    ·
     refine FW.condT k116 c117 ?_
     refine FW.skip (FW.seq (FW.block (FW.seq (FW.region ?_))))
     refine FL.v (E.assign (v := Value.int .i64 0) rfl) ?_
     refine FL.nil ?_
     obtain ⟨q118, hq, hp⟩ := bndR hp
     refine FW.block ?_
     refine FW.mono (FW.iter (S := ((List FregeStep) × (List Int) × Int × Int × Bool × Int)) (X := Empty) (fun (s118 : ((List FregeStep) × (List Int) × Int × Int × Bool × Int)) f w => ∃ H : GH, ∃ v119 : Value, ∃ n120 : Nat, ∃ cs121 : List Value, ∃ v123 : Value, St H0 w0 H w (.box b0 45 [v123, Value.int .i64 s118.2.2.1, Value.int .u64 s118.2.2.2.1] :: .row 39 4 v119 n120 cs121 :: L) ∧ Inc H105 H ∧ Els (up w0.heap.size H) eFregeStep 4 cs121 s118.1 ∧ RSl H (eN .u8) 1 v123 s118.2.1 ∧ f 0 = Value.pointer (some (⟨b0, 0, none⟩ : Addr)) ∧ f 1 = v1 ∧ f 5 = v119 ∧ f 6 = Value.int .i64 s45.2.2.2.2 ∧ f 7 = Value.bool s118.2.2.2.2.1 ∧ f 8 = Value.int .i64 s62.2.2.2.2.2 ∧ f 9 = Value.int .i64 s118.2.2.2.2.2) (fun (q : Rs ((List FregeStep) × (List Int) × Int × Int × Bool × Int) Empty) e f w => match q with | .go s118 => e = Exit.exit 4 ∧ (∃ H : GH, ∃ v119 : Value, ∃ n120 : Nat, ∃ cs121 : List Value, ∃ v123 : Value, St H0 w0 H w (.box b0 45 [v123, Value.int .i64 s118.2.2.1, Value.int .u64 s118.2.2.2.1] :: .row 39 4 v119 n120 cs121 :: L) ∧ Inc H105 H ∧ Els (up w0.heap.size H) eFregeStep 4 cs121 s118.1 ∧ RSl H (eN .u8) 1 v123 s118.2.1 ∧ f 0 = Value.pointer (some (⟨b0, 0, none⟩ : Addr)) ∧ f 1 = v1 ∧ f 5 = v119 ∧ f 6 = Value.int .i64 s45.2.2.2.2 ∧ f 7 = Value.bool s118.2.2.2.2.1 ∧ f 8 = Value.int .i64 s62.2.2.2.2.2) | .rt x => x.elim) hq ⟨_, _, _, _, _, S106, (Inc.rfl _), (els66.mono (up_mono (i82.tr i107))), h96, k110, k111, k112, k113, k114, k115, rfl⟩ ?_) ?_
     ·
      clear hp hq
      rintro s118 f129 w128 ⟨H125, v119, n120, cs121, v123, S126, i127, els122, h124, k130, k131, k132, k133, k134, k135, k136⟩ o232 hp
      refine FW.seq (FW.seq (FW.region ?_))
      refine FL.v (E.move k136) ?_
      refine FL.v (E.move k132) ?_
      refine FL.v (E.lenO te25 rfl S126 (i := 1) rfl els122 (by decide)) ?_
      refine FL.v (E.lss rfl rfl) ?_
      refine FL.v (E.move (v := Value.bool (decide (s118.2.2.2.2.2 < (len s118.1)))) rfl) ?_
      refine FL.cut 3 (fun f w => ∃ H : GH, St H0 w0 H w (.box b0 45 [v123, Value.int .i64 s118.2.2.1, Value.int .u64 s118.2.2.2.1] :: .row 39 4 v119 n120 cs121 :: L) ∧ Inc H125 H ∧ f 0 = Value.pointer (some (⟨b0, 0, none⟩ : Addr)) ∧ f 1 = v1 ∧ f 5 = v119 ∧ f 6 = Value.int .i64 s45.2.2.2.2 ∧ f 7 = Value.bool s118.2.2.2.2.1 ∧ f 8 = Value.int .i64 s62.2.2.2.2.2 ∧ f 9 = Value.int .i64 s118.2.2.2.2.2 ∧ f 49 = Value.bool (bif (decide (s118.2.2.2.2.2 < (len s118.1))) then (!s118.2.2.2.2.1) else false)) ?_ ?_
      ·
       rcases bcase (decide (s118.2.2.2.2.2 < (len s118.1))) with c142 | c142
       ·
        refine FL.val (wF_yes rfl rfl rfl c142) rfl rfl (E.move k134) ?_
        refine FL.val (wF_yes rfl rfl rfl c142) rfl rfl (E.not rfl) ?_
        refine FL.v (E.pickT rfl c142 rfl) ?_
        exact FL.nil ⟨rfl, _, S126, (Inc.rfl _), k130, k131, k132, k133, k134, k135, k136, (congrArg Value.bool (bifT c142).symm)⟩
       ·
        refine FL.skip (wF_no rfl rfl rfl c142) rfl ?_
        refine FL.skip (wF_no rfl rfl rfl c142) rfl ?_
        refine FL.v (E.pickF rfl c142 rfl) ?_
        exact FL.nil ⟨rfl, _, S126, (Inc.rfl _), k130, k131, k132, k133, k134, k135, k136, (congrArg Value.bool (bifF c142).symm)⟩
      rintro f141 w140 ⟨H137, S138, i139, k143, k144, k145, k146, k147, k148, k149, k150⟩
      refine FL.nil ?_
      rcases ifB hp with ⟨c151, hp⟩ | ⟨c151, hp⟩
      ·
       refine FW.condT k150 c151 ?_
       refine FW.skip (FW.seq (FW.block (FW.seq (FW.region ?_))))
       refine FL.v (E.move k145) ?_
       refine FL.v (E.move k149) ?_
       obtain ⟨x158, hx159, hp⟩ := bnd hp
       obtain ⟨p152, cs153, pt154, l155, at156, rel157⟩ := S138.row_at (i := 1) rfl els122 (by decide) hx159
       obtain rfl := eFregeStep_open rel157
       refine FL.v (E.indexAddr te25 rfl rfl pt154) ?_
       refine FL.v (E.fieldAddr tf39_0 rfl) ?_
       refine FL.v (E.load rfl (run_load1 Tryz.isAgg9 at156 rfl)) ?_
       obtain ⟨r160, hr161, hp⟩ := bnd hp
       refine FL.call rfl rfl rfl (E.call Tryz.call44 (A1 rfl)) (w_spec_l22Parts S138.sl x158.formula hr161) ?_
       rintro e w162 ⟨rfl, r163⟩
       refine ⟨_, rfl, ?_⟩
       have S164 := S138.call r163
       refine FL.v (E.move (v := Value.tuple #[Value.int .u8 r160.1, Value.string r160.2.1, Value.string r160.2.2]) rfl) ?_
       refine FL.v (E.extract (i := 0) rfl rfl) ?_
       refine FL.v (E.extract (i := 1) rfl rfl) ?_
       refine FL.v (E.extract (i := 2) rfl rfl) ?_
       refine FL.v (E.assign (v := Value.int .u8 r160.1) rfl) ?_
       refine FL.v (E.assign (v := Value.string r160.2.1) rfl) ?_
       refine FL.v (E.assign (v := Value.string r160.2.2) rfl) ?_
       refine FL.nil (FW.seq (FW.region ?_))
       refine FL.v (E.move (v := Value.int .u8 r160.1) rfl) ?_
       refine FL.v (E.eql rfl rfl) ?_
       refine FL.v (E.move (v := Value.bool (r160.1 == 62)) rfl) ?_
       obtain ⟨t165, hqt165, hp⟩ := bnd hp
       refine FL.cut 8 (fun f w => ∃ H : GH, St H0 w0 H w (.box b0 45 [v123, Value.int .i64 s118.2.2.1, Value.int .u64 s118.2.2.2.1] :: .row 39 4 v119 n120 cs121 :: L) ∧ Inc H137 H ∧ f 0 = Value.pointer (some (⟨b0, 0, none⟩ : Addr)) ∧ f 1 = v1 ∧ f 5 = v119 ∧ f 6 = Value.int .i64 s45.2.2.2.2 ∧ f 7 = Value.bool s118.2.2.2.2.1 ∧ f 8 = Value.int .i64 s62.2.2.2.2.2 ∧ f 9 = Value.int .i64 s118.2.2.2.2.2 ∧ f 12 = Value.string r160.2.2 ∧ f 72 = Value.bool t165) ?_ ?_
       ·
        clear hp; have hp := hqt165; clear hqt165
        rcases ifB hp with ⟨c171, hp⟩ | ⟨c171, hp⟩
        ·
         refine FL.val (wF_yes rfl rfl rfl c171) rfl rfl (E.move (v := Value.string r160.2.1) rfl) ?_
         refine FL.val (wF_yes rfl rfl rfl c171) rfl rfl (E.move k145) ?_
         refine FL.val (wF_yes rfl rfl rfl c171) rfl rfl (E.move k148) ?_
         obtain ⟨x178, hx179, hp⟩ := bnd hp
         obtain ⟨p172, cs173, pt174, l175, at176, rel177⟩ := S164.row_at (i := 1) rfl els122 (by decide) hx179
         obtain rfl := eFregeStep_open rel177
         refine FL.val (wF_yes rfl rfl rfl c171) rfl rfl (E.indexAddr te25 rfl rfl pt174) ?_
         refine FL.val (wF_yes rfl rfl rfl c171) rfl rfl (E.fieldAddr tf39_0 rfl) ?_
         refine FL.val (wF_yes rfl rfl rfl c171) rfl rfl (E.load rfl (run_load1 Tryz.isAgg9 at176 rfl)) ?_
         refine FL.val (wF_yes rfl rfl rfl c171) rfl rfl (E.eqlS rfl rfl) ?_
         obtain rfl := Option.some.inj hp
         refine FL.v (E.pickT rfl c171 rfl) ?_
         exact FL.nil ⟨rfl, _, S164, (Inc.rfl _), k143, k144, k145, k146, k147, k148, k149, rfl, rfl⟩
        ·
         refine FL.skip (wF_no rfl rfl rfl c171) rfl ?_
         refine FL.skip (wF_no rfl rfl rfl c171) rfl ?_
         refine FL.skip (wF_no rfl rfl rfl c171) rfl ?_
         refine FL.skip (wF_no rfl rfl rfl c171) rfl ?_
         refine FL.skip (wF_no rfl rfl rfl c171) rfl ?_
         refine FL.skip (wF_no rfl rfl rfl c171) rfl ?_
         refine FL.skip (wF_no rfl rfl rfl c171) rfl ?_
         obtain rfl := Option.some.inj hp
         refine FL.v (E.pickF rfl c171 rfl) ?_
         exact FL.nil ⟨rfl, _, S164, (Inc.rfl _), k143, k144, k145, k146, k147, k148, k149, rfl, rfl⟩
       rintro f170 w169 ⟨H166, S167, i168, k180, k181, k182, k183, k184, k185, k186, k187, k188⟩
       refine FL.v (E.move k188) ?_
       obtain ⟨t189, hqt189, hp⟩ := bnd hp
       refine FL.cut 3 (fun f w => ∃ H : GH, ∃ v191 : Value, St H0 w0 H w (.box b0 45 [v191, Value.int .i64 t189.2.1, Value.int .u64 t189.2.2.1] :: .row 39 4 v119 n120 cs121 :: L) ∧ Inc H166 H ∧ RSl H (eN .u8) 1 v191 t189.1 ∧ f 0 = Value.pointer (some (⟨b0, 0, none⟩ : Addr)) ∧ f 1 = v1 ∧ f 5 = v119 ∧ f 6 = Value.int .i64 s45.2.2.2.2 ∧ f 7 = Value.bool s118.2.2.2.2.1 ∧ f 8 = Value.int .i64 s62.2.2.2.2.2 ∧ f 9 = Value.int .i64 s118.2.2.2.2.2 ∧ f 12 = Value.string r160.2.2 ∧ f 76 = Value.bool t189.2.2.2) ?_ ?_
       ·
        clear hp; have hp := hqt189; clear hqt189
        rcases ifB hp with ⟨c190, hp⟩ | ⟨c190, hp⟩
        ·
         refine FL.val (wF_yes rfl rfl rfl c190) rfl rfl (E.move k180) ?_
         obtain ⟨r193, hr194, hp⟩ := bnd hp
         refine FL.call (wF_yes rfl rfl rfl c190) rfl rfl (E.call Tryz.call37 (A2 rfl rfl)) (w_spec_l1Cur_one (L := (.row 39 4 v119 n120 cs121 :: L)) S167 (a0 := (l1Cur.mk s118.2.1 s118.2.2.1 s118.2.2.2.1)) (h124.mono (i139.tr i168)) 2 hr194) ?_
         rintro e w196 ⟨H195, v199, rfl, ⟨S197, i198⟩, h200⟩
         refine ⟨_, rfl, ?_⟩
         have S197 : St H0 w0 H195 w196 (.box b0 45 [v199, Value.int .i64 r193.2.at_, Value.int .u64 r193.2.seed] :: .row 39 4 v119 n120 cs121 :: L) := S197
         refine FL.v (E.pickT rfl c190 rfl) ?_
         obtain rfl := Option.some.inj hp
         exact FL.nil ⟨rfl, ⟨_, _, S197, i198, h200, k180, k181, k182, k183, k184, k185, k186, k187, rfl⟩⟩
        ·
         refine FL.skip (wF_no rfl rfl rfl c190) rfl ?_
         refine FL.skip (wF_no rfl rfl rfl c190) rfl ?_
         refine FL.v (E.pickF rfl c190 rfl) ?_
         obtain rfl := Option.some.inj hp
         exact FL.nil ⟨rfl, ⟨_, _, S167, (Inc.rfl _), (h124.mono (i139.tr i168)), k180, k181, k182, k183, k184, k185, k186, k187, rfl⟩⟩
       clear hqt189
       rintro f205 w204 ⟨H201, v191, S202, i203, h192, k206, k207, k208, k209, k210, k211, k212, k213, k214⟩
       refine FL.nil ?_
       rcases ifB hp with ⟨c215, hp⟩ | ⟨c215, hp⟩
       ·
        refine FW.condT k214 c215 ?_
        refine FW.seq (FW.region ?_)
        refine FL.v (E.move k208) ?_
        refine FL.v (E.move k213) ?_
        refine FL.v (E.move k211) ?_
        refine FL.v (E.move k212) ?_
        refine FL.v (E.build (B4 rfl rfl rfl rfl) (run_build _ 39 #[(0, Value.string r160.2.2), (1, Value.int .i64 (-1)), (2, Value.int .i64 s62.2.2.2.2.2), (3, Value.int .i64 s118.2.2.2.2.2)] #[Value.string r160.2.2, Value.int .i64 (-1), Value.int .i64 s62.2.2.2.2.2, Value.int .i64 s118.2.2.2.2.2] (by rfl))) ?_
        obtain ⟨v216, w217, run218, S219⟩ := S202.buildSlice (P := Tryz.prog) te25 [Value.agg #[Value.string r160.2.2, Value.int .i64 (-1), Value.int .i64 s62.2.2.2.2.2, Value.int .i64 s118.2.2.2.2.2]] (parts := #[(0, Value.agg #[Value.string r160.2.2, Value.int .i64 (-1), Value.int .i64 s62.2.2.2.2.2, Value.int .i64 s118.2.2.2.2.2])]) (cells := [Value.string r160.2.2, Value.int .i64 (-1), Value.int .i64 s62.2.2.2.2.2, Value.int .i64 s118.2.2.2.2.2]) rfl (szs_cons rfl szs_nil) (fc_cons rfl fc_nil) (ones_cons rfl (ones_cons rfl (ones_cons rfl (ones_cons rfl ones_nil)))) (Nat.le_of_ble_eq_true rfl)
        have els220 : Els (up w0.heap.size H201) eFregeStep 4 [Value.string r160.2.2, Value.int .i64 (-1), Value.int .i64 s62.2.2.2.2.2, Value.int .i64 s118.2.2.2.2.2] [(FregeStep.mk r160.2.2 (-1) s62.2.2.2.2.2 s118.2.2.2.2.2)] := (Els.snoc (H := (up w0.heap.size H201)) (E := eFregeStep) (k := 4) (c := [Value.string r160.2.2, Value.int .i64 (-1), Value.int .i64 s62.2.2.2.2.2, Value.int .i64 s118.2.2.2.2.2]) (x := (FregeStep.mk r160.2.2 (-1) s62.2.2.2.2.2 s118.2.2.2.2.2)) Els.nil rfl rfl)
        refine FL.v (E.buildSlice (B1 rfl) run218) ?_
        obtain ⟨xs221, hz222, hp⟩ := bnd hp
        obtain ⟨v223, w226, n224, cs225, run227, S228, els229, ce230⟩ := S219.appendO (P := Tryz.prog) te25 (i := 2) (j := 0) rfl (els122.mono (up_mono ((i139.tr i168).tr i203))) rfl els220 hz222
        have S228 : St H0 w0 H201 w226 (.row 39 4 v216 1 [Value.string r160.2.2, Value.int .i64 (-1), Value.int .i64 s62.2.2.2.2.2, Value.int .i64 s118.2.2.2.2.2] :: .box b0 45 [v191, Value.int .i64 t189.2.1, Value.int .u64 t189.2.2.1] :: .row 39 4 v223 n224 cs225 :: L) := S228
        have S231 : St H0 w0 H201 w226 (.box b0 45 [v191, Value.int .i64 t189.2.1, Value.int .u64 t189.2.2.1] :: .row 39 4 v223 n224 cs225 :: L) := S228.drop 0
        refine FL.v (E.append rfl rfl run227) ?_
        refine FL.v (E.assign (v := v223) rfl) ?_
        refine FL.nil (FW.region ?_)
        refine FL.v (E.assign (v := Value.bool true) rfl) ?_
        refine FL.nil (FW.region ?_)
        refine FL.v (E.move k212) ?_
        refine FL.v (E.add rfl rfl) ?_
        refine FL.v (E.assign (v := Value.int .i64 (wr (s118.2.2.2.2.2 + 1))) rfl) ?_
        refine FL.nil ?_
        obtain rfl := Option.some.inj hp
        exact ⟨rfl, ⟨_, _, _, _, _, S231, (((i127.tr i139).tr i168).tr i203), els229, h192, k206, k207, rfl, k209, rfl, k211, rfl⟩⟩
       ·
        refine FW.condF k214 c215 ?_
        refine FW.skip (FW.region ?_)
        refine FL.v (E.move k212) ?_
        refine FL.v (E.add rfl rfl) ?_
        refine FL.v (E.assign (v := Value.int .i64 (wr (s118.2.2.2.2.2 + 1))) rfl) ?_
        refine FL.nil ?_
        obtain rfl := Option.some.inj hp
        exact ⟨rfl, ⟨_, _, _, _, _, S202, (((i127.tr i139).tr i168).tr i203), (els122.mono (up_mono ((i139.tr i168).tr i203))), h192, k206, k207, k208, k209, k210, k211, rfl⟩⟩
      ·
       refine FW.condF k150 c151 ?_
       refine FW.exit ?_
       obtain rfl := Option.some.inj hp
       exact ⟨nofun, rfl, ⟨_, _, _, _, _, S138, (i127.tr i139), (els122.mono (up_mono i139)), (h124.mono i139), k143, k144, k145, k146, k147, k148⟩⟩
     ·
      clear hq
      intro e f237 w236 hD
      rcases q118 with s118 | x118
      ·
       obtain ⟨rfl, hD⟩ := hD
       obtain ⟨H233, v119, n120, cs121, v123, S234, i235, els122, h124, k238, k239, k240, k241, k242, k243⟩ := hD
       replace hp := el_go hp
       refine FW.region ?_
       refine FL.v (E.move k243) ?_
       refine FL.v (E.add rfl rfl) ?_
       refine FL.v (E.assign (v := Value.int .i64 (wr (s62.2.2.2.2.2 + 1))) rfl) ?_
       refine FL.nil ?_
       obtain rfl := Option.some.inj hp
       exact ⟨rfl, ⟨_, _, _, _, _, S234, (((i71.tr i82).tr i107).tr i235), els122, h124, k238, k239, k240, k241, k242, rfl⟩⟩
      ·
       exact x118.elim
    ·
     refine FW.condF k116 c117 ?_
     refine FW.exit ?_
     obtain rfl := Option.some.inj hp
     exact ⟨nofun, rfl, ⟨_, _, _, _, _, S106, ((i71.tr i82).tr i107), (els66.mono (up_mono (i82.tr i107))), h96, k110, k111, k112, k113, k114⟩⟩
   ·
    clear hq
    intro e f249 w248 hD
    rcases q62 with s62 | x62
    ·
     obtain ⟨rfl, hD⟩ := hD
     obtain ⟨H245, v63, n64, cs65, v67, S246, i247, els66, h68, k250, k251, k252, k253, k254⟩ := hD
     replace hp := el_go hp
     refine FW.seq (FW.seq (FW.region ?_))
     refine FL.v (E.move k254) ?_
     refine FL.nil ?_
     rcases ifB hp with ⟨c255, hp⟩ | ⟨c255, hp⟩
     ·
      refine FW.condT rfl c255 ?_
      refine FW.exit ?_
      refine FW.region ?_
      refine FL.v (E.move k253) ?_
      refine FL.v (E.sub rfl rfl) ?_
      refine FL.v (E.assign (v := Value.int .i64 (wr (s45.2.2.2.2 - 1))) rfl) ?_
      refine FL.nil ?_
      obtain rfl := Option.some.inj hp
      exact ⟨rfl, ⟨_, _, _, _, _, S246, (i54.tr i247), els66, h68, k250, k251, k252, rfl⟩⟩
     ·
      refine FW.condF rfl c255 ?_
      refine FW.skip (FW.seq (FW.seq (FW.region ?_)))
      refine FL.v (E.move k251) ?_
      refine FL.v (E.lenP te24 rfl p1) ?_
      refine FL.v (E.gtr rfl rfl) ?_
      refine FL.v (E.move (v := Value.bool (decide (0 < (len a1)))) rfl) ?_
      obtain ⟨t256, hqt256, hp⟩ := bnd hp
      refine FL.cut 4 (fun f w => ∃ H : GH, ∃ v258 : Value, St H0 w0 H w (.box b0 45 [v258, Value.int .i64 t256.2.1, Value.int .u64 t256.2.2.1] :: .row 39 4 v63 n64 cs65 :: L) ∧ Inc H245 H ∧ RSl H (eN .u8) 1 v258 t256.1 ∧ f 0 = Value.pointer (some (⟨b0, 0, none⟩ : Addr)) ∧ f 1 = v1 ∧ f 5 = v63 ∧ f 6 = Value.int .i64 s45.2.2.2.2 ∧ f 92 = Value.bool t256.2.2.2) ?_ ?_
      ·
       clear hp; have hp := hqt256; clear hqt256
       rcases ifB hp with ⟨c257, hp⟩ | ⟨c257, hp⟩
       ·
        refine FL.val (wF_yes rfl rfl rfl c257) rfl rfl (E.move k250) ?_
        obtain ⟨r260, hr261, hp⟩ := bnd hp
        refine FL.call (wF_yes rfl rfl rfl c257) rfl rfl (E.call Tryz.call37 (A2 rfl rfl)) (w_spec_l1Cur_one (L := (.row 39 4 v63 n64 cs65 :: L)) S246 (a0 := (l1Cur.mk s62.2.1 s62.2.2.1 s62.2.2.2.1)) h68 3 hr261) ?_
        rintro e w263 ⟨H262, v266, rfl, ⟨S264, i265⟩, h267⟩
        refine ⟨_, rfl, ?_⟩
        have S264 : St H0 w0 H262 w263 (.box b0 45 [v266, Value.int .i64 r260.2.at_, Value.int .u64 r260.2.seed] :: .row 39 4 v63 n64 cs65 :: L) := S264
        refine FL.val (wF_yes rfl rfl rfl c257) rfl rfl (E.not rfl) ?_
        refine FL.v (E.pickT rfl c257 rfl) ?_
        obtain rfl := Option.some.inj hp
        exact FL.nil ⟨rfl, ⟨_, _, S264, i265, h267, k250, k251, k252, k253, rfl⟩⟩
       ·
        refine FL.skip (wF_no rfl rfl rfl c257) rfl ?_
        refine FL.skip (wF_no rfl rfl rfl c257) rfl ?_
        refine FL.skip (wF_no rfl rfl rfl c257) rfl ?_
        refine FL.v (E.pickF rfl c257 rfl) ?_
        obtain rfl := Option.some.inj hp
        exact FL.nil ⟨rfl, ⟨_, _, S246, (Inc.rfl _), h68, k250, k251, k252, k253, rfl⟩⟩
      clear hqt256
      rintro f272 w271 ⟨H268, v258, S269, i270, h259, k273, k274, k275, k276, k277⟩
      refine FL.nil ?_
      rcases ifB hp with ⟨c278, hp⟩ | ⟨c278, hp⟩
      ·
       refine FW.condT k277 c278 ?_
       refine FW.seq (FW.region ?_)
       refine FL.v (E.move k273) ?_
       refine FL.v (E.move k274) ?_
       refine FL.v (E.lenP te24 rfl p1) ?_
       obtain ⟨r279, hr280, hp⟩ := bnd hp
       refine FL.call rfl rfl rfl (E.call Tryz.call18 (A2 rfl rfl)) (w_spec_l1Cur_pick (L := (.row 39 4 v63 n64 cs65 :: L)) S269 (a0 := (l1Cur.mk t256.1 t256.2.1 t256.2.2.1)) h259 (len a1) hr280) ?_
       rintro e w282 ⟨H281, v285, rfl, ⟨S283, i284⟩, h286⟩
       refine ⟨_, rfl, ?_⟩
       have S283 : St H0 w0 H281 w282 (.box b0 45 [v285, Value.int .i64 r279.2.at_, Value.int .u64 r279.2.seed] :: .row 39 4 v63 n64 cs65 :: L) := S283
       refine FL.v (E.assign (v := Value.int .i64 r279.1) rfl) ?_
       refine FL.nil (FW.seq (FW.seq (FW.region ?_)))
       refine FL.v (E.move k274) ?_
       refine FL.v (E.move (v := Value.int .i64 r279.1) rfl) ?_
       obtain ⟨x293, hx294, hp⟩ := bnd hp
       obtain ⟨p287, cs288, pt289, l290, at291, rel292⟩ := p1.at hx294
       obtain rfl := eS_open rel292
       refine FL.v (E.indexAddr te24 rfl rfl pt289) ?_
       refine FL.v (E.load rfl (run_load0 Tryz.isAgg9 ((at291.mono (((((i33.tr i42).tr i54).tr i247).tr i270).tr i284)).now S283.sl) rfl)) ?_
       obtain ⟨r295, hr296, hp⟩ := bnd hp
       refine FL.call rfl rfl rfl (E.call Tryz.call40 (A1 rfl)) (w_spec_l22Good S283.sl x293 hr296) ?_
       rintro e w297 ⟨rfl, r298⟩
       refine ⟨_, rfl, ?_⟩
       have S299 := S283.call r298
       refine FL.nil ?_
       obtain ⟨q301, hq, hp⟩ := bndR hp
       refine FW.joinE (S := (List FregeStep)) (X := Empty) (q := q301) (fun s300 f w => ∃ H : GH, ∃ v303 : Value, ∃ n304 : Nat, ∃ cs305 : List Value, St H0 w0 H w (.box b0 45 [v285, Value.int .i64 r279.2.at_, Value.int .u64 r279.2.seed] :: .row 39 4 v303 n304 cs305 :: L) ∧ Inc H281 H ∧ Els (up w0.heap.size H) eFregeStep 4 cs305 s300 ∧ f 0 = Value.pointer (some (⟨b0, 0, none⟩ : Addr)) ∧ f 1 = v1 ∧ f 5 = v303 ∧ f 6 = Value.int .i64 s45.2.2.2.2) (fun (_ : Empty) _ _ _ => False) ?_ ?_ ?_
       ·
        clear hp; have hp := hq; clear hq
        rcases ifB hp with ⟨c307, hp⟩ | ⟨c307, hp⟩
        ·
         refine FW.condT rfl c307 ?_
         refine FW.region ?_
         refine FL.v (E.move k275) ?_
         refine FL.v (E.move k274) ?_
         refine FL.v (E.move (v := Value.int .i64 r279.1) rfl) ?_
         obtain ⟨x314, hx315, hp⟩ := bnd hp
         obtain ⟨p308, cs309, pt310, l311, at312, rel313⟩ := p1.at hx315
         obtain rfl := eS_open rel313
         refine FL.v (E.indexAddr te24 rfl rfl pt310) ?_
         refine FL.v (E.load rfl (run_load0 Tryz.isAgg9 ((at312.mono (((((i33.tr i42).tr i54).tr i247).tr i270).tr i284)).now S299.sl) rfl)) ?_
         refine FL.v (E.move (v := Value.int .i64 r279.1) rfl) ?_
         refine FL.v (E.build (B2 rfl rfl) (run_build _ 39 #[(0, Value.string x314), (2, Value.int .i64 r279.1)] #[Value.string x314, Value.int .i64 0, Value.int .i64 r279.1, Value.int .i64 0] (by rfl))) ?_
         obtain ⟨v316, w317, run318, S319⟩ := S299.buildSlice (P := Tryz.prog) te25 [Value.agg #[Value.string x314, Value.int .i64 0, Value.int .i64 r279.1, Value.int .i64 0]] (parts := #[(0, Value.agg #[Value.string x314, Value.int .i64 0, Value.int .i64 r279.1, Value.int .i64 0])]) (cells := [Value.string x314, Value.int .i64 0, Value.int .i64 r279.1, Value.int .i64 0]) rfl (szs_cons rfl szs_nil) (fc_cons rfl fc_nil) (ones_cons rfl (ones_cons rfl (ones_cons rfl (ones_cons rfl ones_nil)))) (Nat.le_of_ble_eq_true rfl)
         have els320 : Els (up w0.heap.size H281) eFregeStep 4 [Value.string x314, Value.int .i64 0, Value.int .i64 r279.1, Value.int .i64 0] [(FregeStep.mk x314 0 r279.1 0)] := (Els.snoc (H := (up w0.heap.size H281)) (E := eFregeStep) (k := 4) (c := [Value.string x314, Value.int .i64 0, Value.int .i64 r279.1, Value.int .i64 0]) (x := (FregeStep.mk x314 0 r279.1 0)) Els.nil rfl rfl)
         refine FL.v (E.buildSlice (B1 rfl) run318) ?_
         obtain ⟨xs321, hz322, hp⟩ := bnd hp
         obtain ⟨v323, w326, n324, cs325, run327, S328, els329, ce330⟩ := S319.appendO (P := Tryz.prog) te25 (i := 2) (j := 0) rfl (els66.mono (up_mono (i270.tr i284))) rfl els320 hz322
         have S328 : St H0 w0 H281 w326 (.row 39 4 v316 1 [Value.string x314, Value.int .i64 0, Value.int .i64 r279.1, Value.int .i64 0] :: .box b0 45 [v285, Value.int .i64 r279.2.at_, Value.int .u64 r279.2.seed] :: .row 39 4 v323 n324 cs325 :: L) := S328
         have S331 : St H0 w0 H281 w326 (.box b0 45 [v285, Value.int .i64 r279.2.at_, Value.int .u64 r279.2.seed] :: .row 39 4 v323 n324 cs325 :: L) := S328.drop 0
         refine FL.v (E.append rfl rfl run327) ?_
         refine FL.v (E.assign (v := v323) rfl) ?_
         refine FL.nil ?_
         obtain rfl := Option.some.inj hp
         exact ⟨rfl, ⟨_, _, _, _, S331, (Inc.rfl _), els329, k273, k274, rfl, k276⟩⟩
        ·
         refine FW.condF rfl c307 ?_
         refine FW.skip ?_
         obtain rfl := Option.some.inj hp
         exact ⟨rfl, ⟨_, _, _, _, S299, (Inc.rfl _), (els66.mono (up_mono (i270.tr i284))), k273, k274, k275, k276⟩⟩
       ·
        rintro s300 rfl f336 w335 ⟨H332, v303, n304, cs305, S333, i334, els306, k337, k338, k339, k340⟩
        replace hp := el_go hp
        refine FW.exit ?_
        refine FW.region ?_
        refine FL.v (E.move k340) ?_
        refine FL.v (E.sub rfl rfl) ?_
        refine FL.v (E.assign (v := Value.int .i64 (wr (s45.2.2.2.2 - 1))) rfl) ?_
        refine FL.nil ?_
        obtain rfl := Option.some.inj hp
        exact ⟨rfl, ⟨_, _, _, _, _, S333, ((((i54.tr i247).tr i270).tr i284).tr i334), els306, (h286.mono i334), k337, k338, k339, rfl⟩⟩
       ·
        intro x302; exact x302.elim
      ·
       refine FW.condF k277 c278 ?_
       refine FW.skip (FW.seq (FW.region ?_))
       refine FL.v (E.move k273) ?_
       obtain ⟨r341, hr342, hp⟩ := bnd hp
       refine FL.call rfl rfl rfl (E.call Tryz.call18 (A2 rfl rfl)) (w_spec_l1Cur_pick (L := (.row 39 4 v63 n64 cs65 :: L)) S269 (a0 := (l1Cur.mk t256.1 t256.2.1 t256.2.2.1)) h259 10 hr342) ?_
       rintro e w344 ⟨H343, v347, rfl, ⟨S345, i346⟩, h348⟩
       refine ⟨_, rfl, ?_⟩
       have S345 : St H0 w0 H343 w344 (.box b0 45 [v347, Value.int .i64 r341.2.at_, Value.int .u64 r341.2.seed] :: .row 39 4 v63 n64 cs65 :: L) := S345
       refine FL.v (E.add rfl rfl) ?_
       refine FL.v (E.assign (v := Value.int .i64 (wr (1 + r341.1))) rfl) ?_
       refine FL.nil (FW.seq (FW.region ?_))
       refine FL.v (E.move k273) ?_
       obtain ⟨r349, hr350, hp⟩ := bnd hp
       refine FL.call rfl rfl rfl (E.call Tryz.call39 (A1 rfl)) (w_spec_l1Cur_short24 (L := (.row 39 4 v63 n64 cs65 :: L)) S345 (a0 := r341.2) h348 hr350) ?_
       rintro e w352 ⟨H351, v355, rfl, ⟨S353, i354⟩, h356⟩
       refine ⟨_, rfl, ?_⟩
       have S353 : St H0 w0 H351 w352 (.box b0 45 [v355, Value.int .i64 r349.2.at_, Value.int .u64 r349.2.seed] :: .row 39 4 v63 n64 cs65 :: L) := S353
       refine FL.v (E.move k273) ?_
       obtain ⟨r357, hr358, hp⟩ := bnd hp
       refine FL.call rfl rfl rfl (E.call Tryz.call39 (A1 rfl)) (w_spec_l1Cur_short24 (L := (.row 39 4 v63 n64 cs65 :: L)) S353 (a0 := r349.2) h356 hr358) ?_
       rintro e w360 ⟨H359, v363, rfl, ⟨S361, i362⟩, h364⟩
       refine ⟨_, rfl, ?_⟩
       have S361 : St H0 w0 H359 w360 (.box b0 45 [v363, Value.int .i64 r357.2.at_, Value.int .u64 r357.2.seed] :: .row 39 4 v63 n64 cs65 :: L) := S361
       refine FL.v (E.assign (v := Value.string r349.1) rfl) ?_
       refine FL.v (E.assign (v := Value.string r357.1) rfl) ?_
       refine FL.nil (FW.seq (FW.seq (FW.region ?_)))
       refine FL.v (E.move k275) ?_
       refine FL.v (E.lenO te25 rfl S361 (i := 1) rfl els66 (by decide)) ?_
       refine FL.v (E.gtr rfl rfl) ?_
       refine FL.v (E.move (v := Value.bool (decide (0 < (len s62.1)))) rfl) ?_
       obtain ⟨t365, hqt365, hp⟩ := bnd hp
       refine FL.cut 3 (fun f w => ∃ H : GH, ∃ v367 : Value, St H0 w0 H w (.box b0 45 [v367, Value.int .i64 t365.2.1, Value.int .u64 t365.2.2.1] :: .row 39 4 v63 n64 cs65 :: L) ∧ Inc H359 H ∧ RSl H (eN .u8) 1 v367 t365.1 ∧ f 0 = Value.pointer (some (⟨b0, 0, none⟩ : Addr)) ∧ f 1 = v1 ∧ f 5 = v63 ∧ f 6 = Value.int .i64 s45.2.2.2.2 ∧ f 14 = Value.int .i64 (wr (1 + r341.1)) ∧ f 15 = Value.string r349.1 ∧ f 16 = Value.string r357.1 ∧ f 124 = Value.bool t365.2.2.2) ?_ ?_
       ·
        clear hp; have hp := hqt365; clear hqt365
        rcases ifB hp with ⟨c366, hp⟩ | ⟨c366, hp⟩
        ·
         refine FL.val (wF_yes rfl rfl rfl c366) rfl rfl (E.move k273) ?_
         obtain ⟨r369, hr370, hp⟩ := bnd hp
         refine FL.call (wF_yes rfl rfl rfl c366) rfl rfl (E.call Tryz.call37 (A2 rfl rfl)) (w_spec_l1Cur_one (L := (.row 39 4 v63 n64 cs65 :: L)) S361 (a0 := r357.2) h364 2 hr370) ?_
         rintro e w372 ⟨H371, v375, rfl, ⟨S373, i374⟩, h376⟩
         refine ⟨_, rfl, ?_⟩
         have S373 : St H0 w0 H371 w372 (.box b0 45 [v375, Value.int .i64 r369.2.at_, Value.int .u64 r369.2.seed] :: .row 39 4 v63 n64 cs65 :: L) := S373
         refine FL.v (E.pickT rfl c366 rfl) ?_
         obtain rfl := Option.some.inj hp
         exact FL.nil ⟨rfl, ⟨_, _, S373, i374, h376, k273, k274, k275, k276, rfl, rfl, rfl, rfl⟩⟩
        ·
         refine FL.skip (wF_no rfl rfl rfl c366) rfl ?_
         refine FL.skip (wF_no rfl rfl rfl c366) rfl ?_
         refine FL.v (E.pickF rfl c366 rfl) ?_
         obtain rfl := Option.some.inj hp
         exact FL.nil ⟨rfl, ⟨_, _, S361, (Inc.rfl _), h364, k273, k274, k275, k276, rfl, rfl, rfl, rfl⟩⟩
       clear hqt365
       rintro f381 w380 ⟨H377, v367, S378, i379, h368, k382, k383, k384, k385, k386, k387, k388, k389⟩
       refine FL.v (E.move k389) ?_
       obtain ⟨t390, hqt390, hp⟩ := bnd hp
       refine FL.cut 7 (fun f w => ∃ H : GH, St H0 w0 H w (.box b0 45 [v367, Value.int .i64 t365.2.1, Value.int .u64 t365.2.2.1] :: .row 39 4 v63 n64 cs65 :: L) ∧ Inc H377 H ∧ f 0 = Value.pointer (some (⟨b0, 0, none⟩ : Addr)) ∧ f 1 = v1 ∧ f 5 = v63 ∧ f 6 = Value.int .i64 s45.2.2.2.2 ∧ f 14 = Value.int .i64 (wr (1 + r341.1)) ∧ f 15 = Value.string r349.1 ∧ f 16 = Value.string r357.1 ∧ f 132 = Value.bool t390) ?_ ?_
       ·
        clear hp; have hp := hqt390; clear hqt390
        rcases ifB hp with ⟨c396, hp⟩ | ⟨c396, hp⟩
        ·
         refine FL.val (wF_yes rfl rfl rfl c396) rfl rfl (E.move k384) ?_
         obtain ⟨x403, hx404, hp⟩ := bnd hp
         obtain ⟨p397, cs398, pt399, l400, at401, rel402⟩ := S378.row_at (i := 1) rfl els66 (by decide) hx404
         obtain rfl := eFregeStep_open rel402
         refine FL.val (wF_yes rfl rfl rfl c396) rfl rfl (E.indexAddr te25 rfl rfl pt399) ?_
         refine FL.val (wF_yes rfl rfl rfl c396) rfl rfl (E.fieldAddr tf39_0 rfl) ?_
         refine FL.val (wF_yes rfl rfl rfl c396) rfl rfl (E.load rfl (run_load1 Tryz.isAgg9 at401 rfl)) ?_
         refine FL.val (wF_yes rfl rfl rfl c396) rfl rfl (E.lenS Tryz.runUnderlying9 rfl) ?_
         refine FL.val (wF_yes rfl rfl rfl c396) rfl rfl (E.lss rfl rfl) ?_
         obtain rfl := Option.some.inj hp
         refine FL.v (E.pickT rfl c396 rfl) ?_
         exact FL.nil ⟨rfl, _, S378, (Inc.rfl _), k382, k383, k384, k385, k386, k387, k388, rfl⟩
        ·
         refine FL.skip (wF_no rfl rfl rfl c396) rfl ?_
         refine FL.skip (wF_no rfl rfl rfl c396) rfl ?_
         refine FL.skip (wF_no rfl rfl rfl c396) rfl ?_
         refine FL.skip (wF_no rfl rfl rfl c396) rfl ?_
         refine FL.skip (wF_no rfl rfl rfl c396) rfl ?_
         refine FL.skip (wF_no rfl rfl rfl c396) rfl ?_
         obtain rfl := Option.some.inj hp
         refine FL.v (E.pickF rfl c396 rfl) ?_
         exact FL.nil ⟨rfl, _, S378, (Inc.rfl _), k382, k383, k384, k385, k386, k387, k388, rfl⟩
       rintro f395 w394 ⟨H391, S392, i393, k405, k406, k407, k408, k409, k410, k411, k412⟩
       refine FL.nil ?_
       obtain ⟨q414, hq, hp⟩ := bndR hp
       refine FW.joinE (S := ((List Int) × Int × Int × ByteArray)) (X := Empty) (q := q414) (fun s413 f w => ∃ H : GH, ∃ v416 : Value, St H0 w0 H w (.box b0 45 [v416, Value.int .i64 s413.2.1, Value.int .u64 s413.2.2.1] :: .row 39 4 v63 n64 cs65 :: L) ∧ Inc H391 H ∧ RSl H (eN .u8) 1 v416 s413.1 ∧ f 0 = Value.pointer (some (⟨b0, 0, none⟩ : Addr)) ∧ f 1 = v1 ∧ f 5 = v63 ∧ f 6 = Value.int .i64 s45.2.2.2.2 ∧ f 14 = Value.int .i64 (wr (1 + r341.1)) ∧ f 15 = Value.string s413.2.2.2 ∧ f 16 = Value.string r357.1) (fun (_ : Empty) _ _ _ => False) ?_ ?_ ?_
       ·
        clear hp; have hp := hq; clear hq
        rcases ifB hp with ⟨c418, hp⟩ | ⟨c418, hp⟩
        ·
         refine FW.condT k412 c418 ?_
         refine FW.region ?_
         refine FL.v (E.move k407) ?_
         refine FL.v (E.move k405) ?_
         refine FL.v (E.move k407) ?_
         refine FL.v (E.lenO te25 rfl S392 (i := 1) rfl els66 (by decide)) ?_
         obtain ⟨r419, hr420, hp⟩ := bnd hp
         refine FL.call rfl rfl rfl (E.call Tryz.call18 (A2 rfl rfl)) (w_spec_l1Cur_pick (L := (.row 39 4 v63 n64 cs65 :: L)) S392 (a0 := (l1Cur.mk t365.1 t365.2.1 t365.2.2.1)) (h368.mono i393) (len s62.1) hr420) ?_
         rintro e w422 ⟨H421, v425, rfl, ⟨S423, i424⟩, h426⟩
         refine ⟨_, rfl, ?_⟩
         have S423 : St H0 w0 H421 w422 (.box b0 45 [v425, Value.int .i64 r419.2.at_, Value.int .u64 r419.2.seed] :: .row 39 4 v63 n64 cs65 :: L) := S423
         obtain ⟨x433, hx434, hp⟩ := bnd hp
         obtain ⟨p427, cs428, pt429, l430, at431, rel432⟩ := S423.row_at (i := 1) rfl els66 (by decide) hx434
         obtain rfl := eFregeStep_open rel432
         refine FL.v (E.indexAddr te25 rfl rfl pt429) ?_
         refine FL.v (E.fieldAddr tf39_0 rfl) ?_
         refine FL.v (E.load rfl (run_load1 Tryz.isAgg9 at431 rfl)) ?_
         refine FL.v (E.assign (v := Value.string x433.formula) rfl) ?_
         refine FL.nil ?_
         obtain rfl := Option.some.inj hp
         exact ⟨rfl, ⟨_, _, S423, i424, h426, k405, k406, k407, k408, k409, rfl, k411⟩⟩
        ·
         refine FW.condF k412 c418 ?_
         refine FW.skip ?_
         obtain rfl := Option.some.inj hp
         exact ⟨rfl, ⟨_, _, S392, (Inc.rfl _), (h368.mono i393), k405, k406, k407, k408, k409, k410, k411⟩⟩
       ·
        rintro s413 rfl f439 w438 ⟨H435, v416, S436, i437, h417, k440, k441, k442, k443, k444, k445, k446⟩
        replace hp := el_go hp
        refine FW.seq (FW.region ?_)
        refine FL.v (E.move k444) ?_
        refine FL.v (E.move k445) ?_
        refine FL.v (E.move k446) ?_
        refine FL.v (E.move k440) ?_
        obtain ⟨r447, hr448, hp⟩ := bnd hp
        refine FL.call rfl rfl rfl (E.call Tryz.call39 (A1 rfl)) (w_spec_l1Cur_short24 (L := (.row 39 4 v63 n64 cs65 :: L)) S436 (a0 := (l1Cur.mk s413.1 s413.2.1 s413.2.2.1)) h417 hr448) ?_
        rintro e w450 ⟨H449, v453, rfl, ⟨S451, i452⟩, h454⟩
        refine ⟨_, rfl, ?_⟩
        have S451 : St H0 w0 H449 w450 (.box b0 45 [v453, Value.int .i64 r447.2.at_, Value.int .u64 r447.2.seed] :: .row 39 4 v63 n64 cs65 :: L) := S451
        obtain ⟨r455, hr456, hp⟩ := bnd hp
        refine FL.call rfl rfl rfl (E.call Tryz.call45 (A4 rfl rfl rfl rfl)) (w_spec_l24Case S451.sl (wr (1 + r341.1)) s413.2.2.2 r357.1 r447.1 hr456) ?_
        rintro e w457 ⟨rfl, r458⟩
        refine ⟨_, rfl, ?_⟩
        have S459 := S451.call r458
        refine FL.v (E.assign (v := Value.string r455) rfl) ?_
        refine FL.nil (FW.seq (FW.region ?_))
        refine FL.v (E.move (v := Value.string r455) rfl) ?_
        refine FL.v (E.lenS Tryz.runUnderlying9 rfl) ?_
        refine FL.v (E.leq rfl rfl) ?_
        refine FL.nil ?_
        rcases ifB hp with ⟨c460, hp⟩ | ⟨c460, hp⟩
        ·
         refine FW.condT rfl c460 ?_
         refine FW.region ?_
         refine FL.v (E.move k442) ?_
         refine FL.v (E.move (v := Value.string r455) rfl) ?_
         refine FL.v (E.move k444) ?_
         refine FL.v (E.build (B2 rfl rfl) (run_build _ 39 #[(0, Value.string r455), (1, Value.int .i64 (wr (1 + r341.1)))] #[Value.string r455, Value.int .i64 (wr (1 + r341.1)), Value.int .i64 0, Value.int .i64 0] (by rfl))) ?_
         obtain ⟨v461, w462, run463, S464⟩ := S459.buildSlice (P := Tryz.prog) te25 [Value.agg #[Value.string r455, Value.int .i64 (wr (1 + r341.1)), Value.int .i64 0, Value.int .i64 0]] (parts := #[(0, Value.agg #[Value.string r455, Value.int .i64 (wr (1 + r341.1)), Value.int .i64 0, Value.int .i64 0])]) (cells := [Value.string r455, Value.int .i64 (wr (1 + r341.1)), Value.int .i64 0, Value.int .i64 0]) rfl (szs_cons rfl szs_nil) (fc_cons rfl fc_nil) (ones_cons rfl (ones_cons rfl (ones_cons rfl (ones_cons rfl ones_nil)))) (Nat.le_of_ble_eq_true rfl)
         have els465 : Els (up w0.heap.size H449) eFregeStep 4 [Value.string r455, Value.int .i64 (wr (1 + r341.1)), Value.int .i64 0, Value.int .i64 0] [(FregeStep.mk r455 (wr (1 + r341.1)) 0 0)] := (Els.snoc (H := (up w0.heap.size H449)) (E := eFregeStep) (k := 4) (c := [Value.string r455, Value.int .i64 (wr (1 + r341.1)), Value.int .i64 0, Value.int .i64 0]) (x := (FregeStep.mk r455 (wr (1 + r341.1)) 0 0)) Els.nil rfl rfl)
         refine FL.v (E.buildSlice (B1 rfl) run463) ?_
         obtain ⟨xs466, hz467, hp⟩ := bnd hp
         obtain ⟨v468, w471, n469, cs470, run472, S473, els474, ce475⟩ := S464.appendO (P := Tryz.prog) te25 (i := 2) (j := 0) rfl (els66.mono (up_mono (((((((i270.tr i346).tr i354).tr i362).tr i379).tr i393).tr i437).tr i452))) rfl els465 hz467
         have S473 : St H0 w0 H449 w471 (.row 39 4 v461 1 [Value.string r455, Value.int .i64 (wr (1 + r341.1)), Value.int .i64 0, Value.int .i64 0] :: .box b0 45 [v453, Value.int .i64 r447.2.at_, Value.int .u64 r447.2.seed] :: .row 39 4 v468 n469 cs470 :: L) := S473
         have S476 : St H0 w0 H449 w471 (.box b0 45 [v453, Value.int .i64 r447.2.at_, Value.int .u64 r447.2.seed] :: .row 39 4 v468 n469 cs470 :: L) := S473.drop 0
         refine FL.v (E.append rfl rfl run472) ?_
         refine FL.v (E.assign (v := v468) rfl) ?_
         refine FL.nil (FW.region ?_)
         refine FL.v (E.move k443) ?_
         refine FL.v (E.sub rfl rfl) ?_
         refine FL.v (E.assign (v := Value.int .i64 (wr (s45.2.2.2.2 - 1))) rfl) ?_
         refine FL.nil ?_
         obtain rfl := Option.some.inj hp
         exact ⟨rfl, ⟨_, _, _, _, _, S476, (((((((((i54.tr i247).tr i270).tr i346).tr i354).tr i362).tr i379).tr i393).tr i437).tr i452), els474, h454, k440, k441, rfl, rfl⟩⟩
        ·
         refine FW.condF rfl c460 ?_
         refine FW.skip (FW.region ?_)
         refine FL.v (E.move k443) ?_
         refine FL.v (E.sub rfl rfl) ?_
         refine FL.v (E.assign (v := Value.int .i64 (wr (s45.2.2.2.2 - 1))) rfl) ?_
         refine FL.nil ?_
         obtain rfl := Option.some.inj hp
         exact ⟨rfl, ⟨_, _, _, _, _, S459, (((((((((i54.tr i247).tr i270).tr i346).tr i354).tr i362).tr i379).tr i393).tr i437).tr i452), (els66.mono (up_mono (((((((i270.tr i346).tr i354).tr i362).tr i379).tr i393).tr i437).tr i452))), h454, k440, k441, k442, rfl⟩⟩
       ·
        intro x415; exact x415.elim
    ·
     exact x62.elim
  ·
   refine FW.condF rfl c61 ?_
   refine FW.exit ?_
   obtain rfl := Option.some.inj hp
   exact ⟨nofun, rfl, ⟨_, _, _, _, _, S53, i54, els49, h51, k57, k59⟩⟩
 ·
  clear hq
  intro e f482 w481 hD
  rcases q45 with s45 | x45
  ·
   obtain ⟨rfl, hD⟩ := hD
   obtain ⟨H478, v46, n47, cs48, v50, S479, i480, els49, h51, k483, k484⟩ := hD
   replace hp := el_go hp
   refine FW.seq (FW.seq (FW.region ?_))
   refine FL.v (E.move k484) ?_
   refine FL.v (E.lenO te25 rfl S479 (i := 1) rfl els49 (by decide)) ?_
   refine FL.v (E.gtr rfl rfl) ?_
   refine FL.v (E.move (v := Value.bool (decide (0 < (len s45.1)))) rfl) ?_
   obtain ⟨t485, hqt485, hp⟩ := bnd hp
   refine FL.cut 3 (fun f w => ∃ H : GH, ∃ v487 : Value, St H0 w0 H w (.box b0 45 [v487, Value.int .i64 t485.2.1, Value.int .u64 t485.2.2.1] :: .row 39 4 v46 n47 cs48 :: L) ∧ Inc H478 H ∧ RSl H (eN .u8) 1 v487 t485.1 ∧ f 0 = Value.pointer (some (⟨b0, 0, none⟩ : Addr)) ∧ f 5 = v46 ∧ f 162 = Value.bool t485.2.2.2) ?_ ?_
   ·
    clear hp; have hp := hqt485; clear hqt485
    rcases ifB hp with ⟨c486, hp⟩ | ⟨c486, hp⟩
    ·
     refine FL.val (wF_yes rfl rfl rfl c486) rfl rfl (E.move k483) ?_
     obtain ⟨r489, hr490, hp⟩ := bnd hp
     refine FL.call (wF_yes rfl rfl rfl c486) rfl rfl (E.call Tryz.call37 (A2 rfl rfl)) (w_spec_l1Cur_one (L := (.row 39 4 v46 n47 cs48 :: L)) S479 (a0 := (l1Cur.mk s45.2.1 s45.2.2.1 s45.2.2.2.1)) h51 6 hr490) ?_
     rintro e w492 ⟨H491, v495, rfl, ⟨S493, i494⟩, h496⟩
     refine ⟨_, rfl, ?_⟩
     have S493 : St H0 w0 H491 w492 (.box b0 45 [v495, Value.int .i64 r489.2.at_, Value.int .u64 r489.2.seed] :: .row 39 4 v46 n47 cs48 :: L) := S493
     refine FL.v (E.pickT rfl c486 rfl) ?_
     obtain rfl := Option.some.inj hp
     exact FL.nil ⟨rfl, ⟨_, _, S493, i494, h496, k483, k484, rfl⟩⟩
    ·
     refine FL.skip (wF_no rfl rfl rfl c486) rfl ?_
     refine FL.skip (wF_no rfl rfl rfl c486) rfl ?_
     refine FL.v (E.pickF rfl c486 rfl) ?_
     obtain rfl := Option.some.inj hp
     exact FL.nil ⟨rfl, ⟨_, _, S479, (Inc.rfl _), h51, k483, k484, rfl⟩⟩
   clear hqt485
   rintro f501 w500 ⟨H497, v487, S498, i499, h488, k502, k503, k504⟩
   refine FL.nil ?_
   obtain ⟨q506, hq, hp⟩ := bndR hp
   refine FW.joinE (S := ((List FregeStep) × (List Int) × Int × Int)) (X := Empty) (q := q506) (fun s505 f w => ∃ H : GH, ∃ v508 : Value, ∃ n509 : Nat, ∃ cs510 : List Value, ∃ v512 : Value, St H0 w0 H w (.box b0 45 [v512, Value.int .i64 s505.2.2.1, Value.int .u64 s505.2.2.2] :: .row 39 4 v508 n509 cs510 :: L) ∧ Inc H497 H ∧ Els (up w0.heap.size H) eFregeStep 4 cs510 s505.1 ∧ RSl H (eN .u8) 1 v512 s505.2.1 ∧ f 0 = Value.pointer (some (⟨b0, 0, none⟩ : Addr)) ∧ f 5 = v508) (fun (_ : Empty) _ _ _ => False) ?_ ?_ ?_
   ·
    clear hp; have hp := hq; clear hq
    rcases ifB hp with ⟨c514, hp⟩ | ⟨c514, hp⟩
    ·
     refine FW.condT k504 c514 ?_
     refine FW.seq (FW.region ?_)
     refine FL.v (E.move k502) ?_
     refine FL.v (E.move k503) ?_
     refine FL.v (E.lenO te25 rfl S498 (i := 1) rfl els49 (by decide)) ?_
     obtain ⟨r515, hr516, hp⟩ := bnd hp
     refine FL.call rfl rfl rfl (E.call Tryz.call18 (A2 rfl rfl)) (w_spec_l1Cur_pick (L := (.row 39 4 v46 n47 cs48 :: L)) S498 (a0 := (l1Cur.mk t485.1 t485.2.1 t485.2.2.1)) h488 (len s45.1) hr516) ?_
     rintro e w518 ⟨H517, v521, rfl, ⟨S519, i520⟩, h522⟩
     refine ⟨_, rfl, ?_⟩
     have S519 : St H0 w0 H517 w518 (.box b0 45 [v521, Value.int .i64 r515.2.at_, Value.int .u64 r515.2.seed] :: .row 39 4 v46 n47 cs48 :: L) := S519
     refine FL.v (E.assign (v := Value.int .i64 r515.1) rfl) ?_
     refine FL.nil (FW.seq (FW.region ?_))
     refine FL.v (E.move k502) ?_
     obtain ⟨r523, hr524, hp⟩ := bnd hp
     refine FL.call rfl rfl rfl (E.call Tryz.call18 (A2 rfl rfl)) (w_spec_l1Cur_pick (L := (.row 39 4 v46 n47 cs48 :: L)) S519 (a0 := r515.2) h522 4 hr524) ?_
     rintro e w526 ⟨H525, v529, rfl, ⟨S527, i528⟩, h530⟩
     refine ⟨_, rfl, ?_⟩
     have S527 : St H0 w0 H525 w526 (.box b0 45 [v529, Value.int .i64 r523.2.at_, Value.int .u64 r523.2.seed] :: .row 39 4 v46 n47 cs48 :: L) := S527
     refine FL.nil (FW.block (FW.seq (FW.region ?_)))
     refine FL.v (E.eql rfl rfl) ?_
     refine FL.v (E.assign (v := Value.bool (r523.1 == 0)) rfl) ?_
     refine FL.nil ?_
     rcases ifB hp with ⟨c531, hp⟩ | ⟨c531, hp⟩
     ·
      refine FW.condT rfl c531 ?_
      refine FW.region ?_
      refine FL.v (E.move k503) ?_
      refine FL.v (E.move (v := Value.int .i64 r515.1) rfl) ?_
      refine FL.v (E.move k502) ?_
      obtain ⟨v532, w533, run534, S535, els536⟩ := S527.ints (P := Tryz.prog) te33 (up w0.heap.size H525) 6 [(-2), (-1), 0, 1, 5, 11]
      refine FL.v (E.buildSlice (B6 rfl rfl rfl rfl rfl rfl) run534) ?_
      obtain ⟨H537, S538, i539, h540, nv541⟩ := S535.sealRowU (i := 0) (l' := (.box b0 45 [v529, Value.int .i64 r523.2.at_, Value.int .u64 r523.2.seed] :: .row 39 4 v46 n47 cs48 :: L)) rfl els536 (by decide) rfl
      obtain ⟨r542, hr543, hp⟩ := bnd hp
      refine FL.call rfl rfl rfl (E.call Tryz.call42 (A2 rfl rfl)) (w_spec_l1Cur_among (L := (.row 39 4 v46 n47 cs48 :: L)) S538 (a0 := r523.2) (h530.mono i539) v532 [(-2), (-1), 0, 1, 5, 11] (h540.mono upI) hr543) ?_
      rintro e w545 ⟨H544, v548, rfl, ⟨S546, i547⟩, h549⟩
      refine ⟨_, rfl, ?_⟩
      have S546 : St H0 w0 H544 w545 (.box b0 45 [v548, Value.int .i64 r542.2.at_, Value.int .u64 r542.2.seed] :: .row 39 4 v46 n47 cs48 :: L) := S546
      obtain ⟨x556, hx557, hp⟩ := bnd hp
      obtain ⟨p550, cs551, pt552, l553, at554, rel555⟩ := S546.row_at (i := 1) rfl els49 (by decide) hx557
      obtain rfl := eFregeStep_open rel555
      refine FL.v (E.indexAddr te25 rfl rfl pt552) ?_
      refine FL.v (E.fieldAddr tf39_1 rfl) ?_
      obtain ⟨xs561, hput562, hp⟩ := bnd hp
      obtain ⟨w558, cs564, run559, S560, els563, ce565⟩ := S546.putPart (P := Tryz.prog) (t := 3) (i := 1) rfl (els49.mono (up_mono ((((i499.tr i520).tr i528).tr i539).tr i547))) hput562 pt552 (cs := [Value.string x556.formula, Value.int .i64 x556.rule, Value.int .i64 x556.a, Value.int .i64 x556.b]) rfl at554 (off := 1) (m := 1) Tryz.sizeOf3 (u := Value.int .i64 r542.1) (c := [Value.int .i64 r542.1]) rfl rfl (by decide) (ones_cons rfl ones_nil) (c2 := [Value.string x556.formula, Value.int .i64 r542.1, Value.int .i64 x556.a, Value.int .i64 x556.b]) rfl rfl
      have S560 : St H0 w0 H544 w558 (.box b0 45 [v548, Value.int .i64 r542.2.at_, Value.int .u64 r542.2.seed] :: .row 39 4 v46 n47 cs564 :: L) := S560
      refine FL.act rfl rfl (E.store rfl rfl run559) ?_
      refine FL.nil ?_
      obtain rfl := Option.some.inj hp
      exact ⟨rfl, ⟨_, _, _, _, _, S560, (((i520.tr i528).tr i539).tr i547), els563, h549, k502, k503⟩⟩
     ·
      refine FW.condF rfl c531 ?_
      refine FW.seq (FW.region ?_)
      refine FL.v (E.eql rfl rfl) ?_
      refine FL.v (E.assign (v := Value.bool (r523.1 == 1)) rfl) ?_
      refine FL.nil ?_
      rcases ifB hp with ⟨c566, hp⟩ | ⟨c566, hp⟩
      ·
       refine FW.condT rfl c566 ?_
       refine FW.region ?_
       refine FL.v (E.move k503) ?_
       refine FL.v (E.move (v := Value.int .i64 r515.1) rfl) ?_
       refine FL.v (E.move k502) ?_
       obtain ⟨v567, w568, run569, S570, els571⟩ := S527.ints (P := Tryz.prog) te33 (up w0.heap.size H525) 4 [(-1), 0, 1, 80]
       refine FL.v (E.buildSlice (B4 rfl rfl rfl rfl) run569) ?_
       obtain ⟨H572, S573, i574, h575, nv576⟩ := S570.sealRowU (i := 0) (l' := (.box b0 45 [v529, Value.int .i64 r523.2.at_, Value.int .u64 r523.2.seed] :: .row 39 4 v46 n47 cs48 :: L)) rfl els571 (by decide) rfl
       obtain ⟨r577, hr578, hp⟩ := bnd hp
       refine FL.call rfl rfl rfl (E.call Tryz.call42 (A2 rfl rfl)) (w_spec_l1Cur_among (L := (.row 39 4 v46 n47 cs48 :: L)) S573 (a0 := r523.2) (h530.mono i574) v567 [(-1), 0, 1, 80] (h575.mono upI) hr578) ?_
       rintro e w580 ⟨H579, v583, rfl, ⟨S581, i582⟩, h584⟩
       refine ⟨_, rfl, ?_⟩
       have S581 : St H0 w0 H579 w580 (.box b0 45 [v583, Value.int .i64 r577.2.at_, Value.int .u64 r577.2.seed] :: .row 39 4 v46 n47 cs48 :: L) := S581
       obtain ⟨x591, hx592, hp⟩ := bnd hp
       obtain ⟨p585, cs586, pt587, l588, at589, rel590⟩ := S581.row_at (i := 1) rfl els49 (by decide) hx592
       obtain rfl := eFregeStep_open rel590
       refine FL.v (E.indexAddr te25 rfl rfl pt587) ?_
       refine FL.v (E.fieldAddr tf39_2 rfl) ?_
       obtain ⟨xs596, hput597, hp⟩ := bnd hp
       obtain ⟨w593, cs599, run594, S595, els598, ce600⟩ := S581.putPart (P := Tryz.prog) (t := 3) (i := 1) rfl (els49.mono (up_mono ((((i499.tr i520).tr i528).tr i574).tr i582))) hput597 pt587 (cs := [Value.string x591.formula, Value.int .i64 x591.rule, Value.int .i64 x591.a, Value.int .i64 x591.b]) rfl at589 (off := 2) (m := 1) Tryz.sizeOf3 (u := Value.int .i64 r577.1) (c := [Value.int .i64 r577.1]) rfl rfl (by decide) (ones_cons rfl ones_nil) (c2 := [Value.string x591.formula, Value.int .i64 x591.rule, Value.int .i64 r577.1, Value.int .i64 x591.b]) rfl rfl
       have S595 : St H0 w0 H579 w593 (.box b0 45 [v583, Value.int .i64 r577.2.at_, Value.int .u64 r577.2.seed] :: .row 39 4 v46 n47 cs599 :: L) := S595
       refine FL.act rfl rfl (E.store rfl rfl run594) ?_
       refine FL.nil ?_
       obtain rfl := Option.some.inj hp
       exact ⟨rfl, ⟨_, _, _, _, _, S595, (((i520.tr i528).tr i574).tr i582), els598, h584, k502, k503⟩⟩
      ·
       refine FW.condF rfl c566 ?_
       refine FW.seq (FW.region ?_)
       refine FL.v (E.eql rfl rfl) ?_
       refine FL.v (E.assign (v := Value.bool (r523.1 == 2)) rfl) ?_
       refine FL.nil ?_
       rcases ifB hp with ⟨c601, hp⟩ | ⟨c601, hp⟩
       ·
        refine FW.condT rfl c601 ?_
        refine FW.region ?_
        refine FL.v (E.move k503) ?_
        refine FL.v (E.move (v := Value.int .i64 r515.1) rfl) ?_
        refine FL.v (E.move k502) ?_
        obtain ⟨v602, w603, run604, S605, els606⟩ := S527.ints (P := Tryz.prog) te33 (up w0.heap.size H525) 4 [(-1), 0, 1, 80]
        refine FL.v (E.buildSlice (B4 rfl rfl rfl rfl) run604) ?_
        obtain ⟨H607, S608, i609, h610, nv611⟩ := S605.sealRowU (i := 0) (l' := (.box b0 45 [v529, Value.int .i64 r523.2.at_, Value.int .u64 r523.2.seed] :: .row 39 4 v46 n47 cs48 :: L)) rfl els606 (by decide) rfl
        obtain ⟨r612, hr613, hp⟩ := bnd hp
        refine FL.call rfl rfl rfl (E.call Tryz.call42 (A2 rfl rfl)) (w_spec_l1Cur_among (L := (.row 39 4 v46 n47 cs48 :: L)) S608 (a0 := r523.2) (h530.mono i609) v602 [(-1), 0, 1, 80] (h610.mono upI) hr613) ?_
        rintro e w615 ⟨H614, v618, rfl, ⟨S616, i617⟩, h619⟩
        refine ⟨_, rfl, ?_⟩
        have S616 : St H0 w0 H614 w615 (.box b0 45 [v618, Value.int .i64 r612.2.at_, Value.int .u64 r612.2.seed] :: .row 39 4 v46 n47 cs48 :: L) := S616
        obtain ⟨x626, hx627, hp⟩ := bnd hp
        obtain ⟨p620, cs621, pt622, l623, at624, rel625⟩ := S616.row_at (i := 1) rfl els49 (by decide) hx627
        obtain rfl := eFregeStep_open rel625
        refine FL.v (E.indexAddr te25 rfl rfl pt622) ?_
        refine FL.v (E.fieldAddr tf39_3 rfl) ?_
        obtain ⟨xs631, hput632, hp⟩ := bnd hp
        obtain ⟨w628, cs634, run629, S630, els633, ce635⟩ := S616.putPart (P := Tryz.prog) (t := 3) (i := 1) rfl (els49.mono (up_mono ((((i499.tr i520).tr i528).tr i609).tr i617))) hput632 pt622 (cs := [Value.string x626.formula, Value.int .i64 x626.rule, Value.int .i64 x626.a, Value.int .i64 x626.b]) rfl at624 (off := 3) (m := 1) Tryz.sizeOf3 (u := Value.int .i64 r612.1) (c := [Value.int .i64 r612.1]) rfl rfl (by decide) (ones_cons rfl ones_nil) (c2 := [Value.string x626.formula, Value.int .i64 x626.rule, Value.int .i64 x626.a, Value.int .i64 r612.1]) rfl rfl
        have S630 : St H0 w0 H614 w628 (.box b0 45 [v618, Value.int .i64 r612.2.at_, Value.int .u64 r612.2.seed] :: .row 39 4 v46 n47 cs634 :: L) := S630
        refine FL.act rfl rfl (E.store rfl rfl run629) ?_
        refine FL.nil ?_
        obtain rfl := Option.some.inj hp
        exact ⟨rfl, ⟨_, _, _, _, _, S630, (((i520.tr i528).tr i609).tr i617), els633, h619, k502, k503⟩⟩
       ·
        refine FW.condF rfl c601 ?_
        refine FW.seq (FW.region ?_)
        refine FL.v (E.eql rfl rfl) ?_
        refine FL.v (E.assign (v := Value.bool (r523.1 == 3)) rfl) ?_
        refine FL.nil ?_
        rcases ifB hp with ⟨c636, hp⟩ | ⟨c636, hp⟩
        ·
         refine FW.condT rfl c636 ?_
         refine FW.region ?_
         refine FL.v (E.move k503) ?_
         refine FL.v (E.move (v := Value.int .i64 r515.1) rfl) ?_
         refine FL.v (E.move k502) ?_
         obtain ⟨r637, hr638, hp⟩ := bnd hp
         refine FL.call rfl rfl rfl (E.call Tryz.call38 (A1 rfl)) (w_spec_l1Cur_formulaText (L := (.row 39 4 v46 n47 cs48 :: L)) S527 (a0 := r523.2) h530 hr638) ?_
         rintro e w640 ⟨H639, v643, rfl, ⟨S641, i642⟩, h644⟩
         refine ⟨_, rfl, ?_⟩
         have S641 : St H0 w0 H639 w640 (.box b0 45 [v643, Value.int .i64 r637.2.at_, Value.int .u64 r637.2.seed] :: .row 39 4 v46 n47 cs48 :: L) := S641
         obtain ⟨x651, hx652, hp⟩ := bnd hp
         obtain ⟨p645, cs646, pt647, l648, at649, rel650⟩ := S641.row_at (i := 1) rfl els49 (by decide) hx652
         obtain rfl := eFregeStep_open rel650
         refine FL.v (E.indexAddr te25 rfl rfl pt647) ?_
         refine FL.v (E.fieldAddr tf39_0 rfl) ?_
         obtain ⟨xs656, hput657, hp⟩ := bnd hp
         obtain ⟨w653, cs659, run654, S655, els658, ce660⟩ := S641.putPart (P := Tryz.prog) (t := 9) (i := 1) rfl (els49.mono (up_mono (((i499.tr i520).tr i528).tr i642))) hput657 pt647 (cs := [Value.string x651.formula, Value.int .i64 x651.rule, Value.int .i64 x651.a, Value.int .i64 x651.b]) rfl at649 (off := 0) (m := 1) Tryz.sizeOf9 (u := Value.string r637.1) (c := [Value.string r637.1]) rfl rfl (by decide) (ones_cons rfl ones_nil) (c2 := [Value.string r637.1, Value.int .i64 x651.rule, Value.int .i64 x651.a, Value.int .i64 x651.b]) rfl rfl
         have S655 : St H0 w0 H639 w653 (.box b0 45 [v643, Value.int .i64 r637.2.at_, Value.int .u64 r637.2.seed] :: .row 39 4 v46 n47 cs659 :: L) := S655
         refine FL.act rfl rfl (E.store rfl rfl run654) ?_
         refine FL.nil ?_
         obtain rfl := Option.some.inj hp
         exact ⟨rfl, ⟨_, _, _, _, _, S655, ((i520.tr i528).tr i642), els658, h644, k502, k503⟩⟩
        ·
         refine FW.condF rfl c636 ?_
         refine FW.skip ?_
         obtain rfl := Option.some.inj hp
         exact ⟨rfl, ⟨_, _, _, _, _, S527, (i520.tr i528), (els49.mono (up_mono ((i499.tr i520).tr i528))), h530, k502, k503⟩⟩
    ·
     refine FW.condF k504 c514 ?_
     refine FW.skip ?_
     obtain rfl := Option.some.inj hp
     exact ⟨rfl, ⟨_, _, _, _, _, S498, (Inc.rfl _), (els49.mono (up_mono i499)), h488, k502, k503⟩⟩
   ·
    rintro s505 rfl f665 w664 ⟨H661, v508, n509, cs510, v512, S662, i663, els511, h513, k666, k667⟩
    replace hp := el_go hp
    refine FW.seq (FW.seq (FW.region ?_))
    refine FL.v (E.move k666) ?_
    obtain ⟨r668, hr669, hp⟩ := bnd hp
    refine FL.call rfl rfl rfl (E.call Tryz.call37 (A2 rfl rfl)) (w_spec_l1Cur_one (L := (.row 39 4 v508 n509 cs510 :: L)) S662 (a0 := (l1Cur.mk s505.2.1 s505.2.2.1 s505.2.2.2)) h513 40 hr669) ?_
    rintro e w671 ⟨H670, v674, rfl, ⟨S672, i673⟩, h675⟩
    refine ⟨_, rfl, ?_⟩
    have S672 : St H0 w0 H670 w671 (.box b0 45 [v674, Value.int .i64 r668.2.at_, Value.int .u64 r668.2.seed] :: .row 39 4 v508 n509 cs510 :: L) := S672
    refine FL.nil ?_
    rcases ifB hp with ⟨c676, hp⟩ | ⟨c676, hp⟩
    ·
     refine FW.condT rfl c676 ?_
     obtain ⟨q677, hq, hp⟩ := bndR hp
     refine FW.block ?_
     refine FW.mono (FW.iter (S := ((List FregeStep) × (List Int) × Int × Int)) (X := Empty) (fun (s677 : ((List FregeStep) × (List Int) × Int × Int)) f w => ∃ H : GH, ∃ v678 : Value, ∃ n679 : Nat, ∃ cs680 : List Value, ∃ v682 : Value, St H0 w0 H w (.box b0 45 [v682, Value.int .i64 s677.2.2.1, Value.int .u64 s677.2.2.2] :: .row 39 4 v678 n679 cs680 :: L) ∧ Inc H670 H ∧ Els (up w0.heap.size H) eFregeStep 4 cs680 s677.1 ∧ RSl H (eN .u8) 1 v682 s677.2.1 ∧ f 0 = Value.pointer (some (⟨b0, 0, none⟩ : Addr)) ∧ f 5 = v678) (fun (q : Rs ((List FregeStep) × (List Int) × Int × Int) Empty) e f w => match q with | .go s677 => e = Exit.exit 7 ∧ (∃ H : GH, ∃ v678 : Value, ∃ n679 : Nat, ∃ cs680 : List Value, ∃ v682 : Value, St H0 w0 H w (.box b0 45 [v682, Value.int .i64 s677.2.2.1, Value.int .u64 s677.2.2.2] :: .row 39 4 v678 n679 cs680 :: L) ∧ Inc H670 H ∧ Els (up w0.heap.size H) eFregeStep 4 cs680 s677.1 ∧ RSl H (eN .u8) 1 v682 s677.2.1 ∧ f 5 = v678) | .rt x => x.elim) hq ⟨_, _, _, _, _, S672, (Inc.rfl _), (els511.mono (up_mono i673)), h675, k666, k667⟩ ?_) ?_
     ·
      clear hp hq
      rintro s677 f688 w687 ⟨H684, v678, n679, cs680, v682, S685, i686, els681, h683, k689, k690⟩ o716 hp
      refine FW.seq (FW.seq (FW.region ?_))
      refine FL.v (E.move k690) ?_
      refine FL.v (E.lenO te25 rfl S685 (i := 1) rfl els681 (by decide)) ?_
      refine FL.v (E.move k689) ?_
      obtain ⟨r691, hr692, hp⟩ := bnd hp
      refine FL.call rfl rfl rfl (E.call Tryz.call18 (A2 rfl rfl)) (w_spec_l1Cur_pick (L := (.row 39 4 v678 n679 cs680 :: L)) S685 (a0 := (l1Cur.mk s677.2.1 s677.2.2.1 s677.2.2.2)) h683 2 hr692) ?_
      rintro e w694 ⟨H693, v697, rfl, ⟨S695, i696⟩, h698⟩
      refine ⟨_, rfl, ?_⟩
      have S695 : St H0 w0 H693 w694 (.box b0 45 [v697, Value.int .i64 r691.2.at_, Value.int .u64 r691.2.seed] :: .row 39 4 v678 n679 cs680 :: L) := S695
      refine FL.v (E.add rfl rfl) ?_
      refine FL.v (E.lss rfl rfl) ?_
      refine FL.nil ?_
      rcases ifB hp with ⟨c699, hp⟩ | ⟨c699, hp⟩
      ·
       refine FW.condT rfl c699 ?_
       refine FW.skip (FW.block (FW.region ?_))
       refine FL.v (E.move k690) ?_
       refine FL.v (E.build (B2 rfl rfl) (run_build _ 39 #[(0, Value.string (ByteArray.mk #[49])), (1, Value.int .i64 10)] #[Value.string (ByteArray.mk #[49]), Value.int .i64 10, Value.int .i64 0, Value.int .i64 0] (by rfl))) ?_
       obtain ⟨v700, w701, run702, S703⟩ := S695.buildSlice (P := Tryz.prog) te25 [Value.agg #[Value.string (ByteArray.mk #[49]), Value.int .i64 10, Value.int .i64 0, Value.int .i64 0]] (parts := #[(0, Value.agg #[Value.string (ByteArray.mk #[49]), Value.int .i64 10, Value.int .i64 0, Value.int .i64 0])]) (cells := [Value.string (ByteArray.mk #[49]), Value.int .i64 10, Value.int .i64 0, Value.int .i64 0]) rfl (szs_cons rfl szs_nil) (fc_cons rfl fc_nil) (ones_cons rfl (ones_cons rfl (ones_cons rfl (ones_cons rfl ones_nil)))) (Nat.le_of_ble_eq_true rfl)
       have els704 : Els (up w0.heap.size H693) eFregeStep 4 [Value.string (ByteArray.mk #[49]), Value.int .i64 10, Value.int .i64 0, Value.int .i64 0] [(FregeStep.mk (ByteArray.mk #[49]) 10 0 0)] := (Els.snoc (H := (up w0.heap.size H693)) (E := eFregeStep) (k := 4) (c := [Value.string (ByteArray.mk #[49]), Value.int .i64 10, Value.int .i64 0, Value.int .i64 0]) (x := (FregeStep.mk (ByteArray.mk #[49]) 10 0 0)) Els.nil rfl rfl)
       refine FL.v (E.buildSlice (B1 rfl) run702) ?_
       obtain ⟨xs705, hz706, hp⟩ := bnd hp
       obtain ⟨v707, w710, n708, cs709, run711, S712, els713, ce714⟩ := S703.appendO (P := Tryz.prog) te25 (i := 2) (j := 0) rfl (els681.mono (up_mono i696)) rfl els704 hz706
       have S712 : St H0 w0 H693 w710 (.row 39 4 v700 1 [Value.string (ByteArray.mk #[49]), Value.int .i64 10, Value.int .i64 0, Value.int .i64 0] :: .box b0 45 [v697, Value.int .i64 r691.2.at_, Value.int .u64 r691.2.seed] :: .row 39 4 v707 n708 cs709 :: L) := S712
       have S715 : St H0 w0 H693 w710 (.box b0 45 [v697, Value.int .i64 r691.2.at_, Value.int .u64 r691.2.seed] :: .row 39 4 v707 n708 cs709 :: L) := S712.drop 0
       refine FL.v (E.append rfl rfl run711) ?_
       refine FL.v (E.assign (v := v707) rfl) ?_
       refine FL.nil ?_
       obtain rfl := Option.some.inj hp
       exact ⟨rfl, ⟨_, _, _, _, _, S715, (i686.tr i696), els713, h698, k689, rfl⟩⟩
      ·
       refine FW.condF rfl c699 ?_
       refine FW.exit ?_
       obtain rfl := Option.some.inj hp
       exact ⟨nofun, rfl, ⟨_, _, _, _, _, S695, (i686.tr i696), (els681.mono (up_mono i696)), h698, k690⟩⟩
     ·
      clear hq
      intro e f721 w720 hD
      rcases q677 with s677 | x677
      ·
       obtain ⟨rfl, hD⟩ := hD
       obtain ⟨H717, v678, n679, cs680, v682, S718, i719, els681, h683, k722⟩ := hD
       replace hp := el_go hp
       refine FW.seq (FW.region ?_)
       refine FL.v (E.move k722) ?_
       refine FL.v (E.assign (v := v678) rfl) ?_
       refine FL.nil ?_
       refine FW.ret ?_
       obtain rfl := Option.some.inj hp
       exact ⟨.inr rfl, res1 rfl rfl ⟨_, _, _, _, _, rfl, ⟨(S718.selT (a := [.box b0 45 [v682, Value.int .i64 s677.2.2.1, Value.int .u64 s677.2.2.2], .row 39 4 v678 n679 cs680]) (l' := [.row 39 4 v678 n679 cs680, .box b0 45 [v682, Value.int .i64 s677.2.2.1, Value.int .u64 s677.2.2.2]]) [1, 0] (by decide) rfl), ((((((i33.tr i42).tr i480).tr i499).tr i663).tr i673).tr i719)⟩, els681, h683⟩⟩
      ·
       exact x677.elim
    ·
     refine FW.condF rfl c676 ?_
     refine FW.skip (FW.seq (FW.region ?_))
     refine FL.v (E.move k667) ?_
     refine FL.v (E.assign (v := v508) rfl) ?_
     refine FL.nil ?_
     refine FW.ret ?_
     obtain rfl := Option.some.inj hp
     exact ⟨.inr rfl, res1 rfl rfl ⟨_, _, _, _, _, rfl, ⟨(S672.selT (a := [.box b0 45 [v674, Value.int .i64 r668.2.at_, Value.int .u64 r668.2.seed], .row 39 4 v508 n509 cs510]) (l' := [.row 39 4 v508 n509 cs510, .box b0 45 [v674, Value.int .i64 r668.2.at_, Value.int .u64 r668.2.seed]]) [1, 0] (by decide) rfl), (((((i33.tr i42).tr i480).tr i499).tr i663).tr i673)⟩, (els511.mono (up_mono i673)), h675⟩⟩
   ·
    intro x507; exact x507.elim
  ·
   exact x45.elim

@[reducible] def p_spec_DrawDischarge (Ha : GH) (wa : World) (r : ((List ByteArray) × (List FregeStep) × Int)) : Ending → World → Prop :=
 fun e w' => ∃ H' : GH, ∃ v0 : Value, ∃ v1 : Value, ∃ n1 : Nat, ∃ c1 : List Value, e = .returned (Value.tuple #[v0, v1, Value.int .i64 r.2.2]) ∧ St Ha wa H' w' [.row 39 4 v1 n1 c1] ∧ RSl (up wa.heap.size H') eS 1 v0 r.1 ∧ Els (up wa.heap.size H') eFregeStep 4 c1 r.2.1
theorem w_spec_DrawDischarge {Ha : GH} {wa : World} (hs : Sl Ha wa) (v0 : Value) (a0 : List Int) (p0 : RSl Ha (eN .u8) 1 v0 a0) {r : ((List ByteArray) × (List FregeStep) × Int)} (hp : (PF.spec_DrawDischarge a0) = some r) :
  Calls Tryz.prog 5 #[v0] wa (p_spec_DrawDischarge Ha wa r) := by
 unfold PF.spec_DrawDischarge at hp
 have S0 := St.init hs
 refine calls_go (N := 25) (args := [v0]) Tryz.func5 rfl rfl rfl ?_
 refine FW.seq (FW.region ?_)
 refine FL.v (E.assign (v := Value.slice none 0 0) rfl) ?_
 refine FL.v (E.assign (v := Value.slice none 0 0) rfl) ?_
 refine FL.v (E.assign (v := Value.int .i64 0) rfl) ?_
 refine FL.nil (FW.seq (FW.region ?_))
 refine FL.v (E.move (v := v0) rfl) ?_
 refine FL.v (E.build (B1 rfl) (run_build _ 45 #[(0, v0)] #[v0, Value.int .i64 0, Value.int .u64 0] (by obtain ⟨_, _, rfl⟩ := RSl.ln p0; rfl))) ?_
 obtain ⟨b21, w22, run23, S24⟩ := S0.box (P := Tryz.prog) 45 [v0, Value.int .i64 0, Value.int .u64 0] (v := Value.agg #[v0, Value.int .i64 0, Value.int .u64 0]) rfl (ones_cons p0.one (ones_cons rfl (ones_cons rfl ones_nil)))
 refine FL.v (E.box rfl run23) ?_
 refine FL.v (E.assign (v := Value.pointer (some (⟨b21, 0, none⟩ : Addr))) rfl) ?_
 refine FL.nil (FW.seq (FW.region ?_))
 refine FL.v (E.move (v := Value.pointer (some (⟨b21, 0, none⟩ : Addr))) rfl) ?_
 obtain ⟨r25, hr26, hp⟩ := bnd hp
 refine FL.call rfl rfl rfl (E.call Tryz.call16 (A1 rfl)) (w_spec_l1Cur_given24 (L := []) S24 (a0 := (l1Cur.mk a0 0 0)) p0 hr26) ?_
 rintro e w28 ⟨H27, v31, n32, cs33, v35, rfl, ⟨S29, i30⟩, els34, h36⟩
 refine ⟨_, rfl, ?_⟩
 have S29 : St Ha wa H27 w28 [.row 9 1 v31 n32 cs33, .box b21 45 [v35, Value.int .i64 r25.2.at_, Value.int .u64 r25.2.seed]] := S29
 refine FL.v (E.assign (v := v31) rfl) ?_
 refine FL.nil (FW.seq (FW.region ?_))
 refine FL.v (E.move (v := v31) rfl) ?_
 refine FL.v (E.move (v := Value.pointer (some (⟨b21, 0, none⟩ : Addr))) rfl) ?_
 refine FL.v (E.move (v := v31) rfl) ?_
 obtain ⟨H37, S38, i39, h40, nv41⟩ := S29.sealRowU (i := 0) (l' := [.box b21 45 [v35, Value.int .i64 r25.2.at_, Value.int .u64 r25.2.seed]]) rfl els34 (by decide) rfl
 obtain ⟨r42, hr43, hp⟩ := bnd hp
 refine FL.call rfl rfl rfl (E.call Tryz.call17 (A2 rfl rfl)) (w_spec_l1Cur_frege (L := []) S38 (a0 := r25.2) (h36.mono i39) v31 r25.1 (h40.mono upI) hr43) ?_
 rintro e w45 ⟨H44, v48, n49, cs50, v52, rfl, ⟨S46, i47⟩, els51, h53⟩
 refine ⟨_, rfl, ?_⟩
 have S46 : St Ha wa H44 w45 [.row 39 4 v48 n49 cs50, .box b21 45 [v52, Value.int .i64 r42.2.at_, Value.int .u64 r42.2.seed]] := S46
 refine FL.v (E.move (v := Value.pointer (some (⟨b21, 0, none⟩ : Addr))) rfl) ?_
 refine FL.v (E.move (v := v31) rfl) ?_
 refine FL.v (E.lenP te24 rfl h40) ?_
 refine FL.v (E.add rfl rfl) ?_
 obtain ⟨r54, hr55, hp⟩ := bnd hp
 have S56 : St Ha wa H44 w45 [.box b21 45 [v52, Value.int .i64 r42.2.at_, Value.int .u64 r42.2.seed], .row 39 4 v48 n49 cs50] := S46.front 1 rfl rfl
 refine FL.call rfl rfl rfl (E.call Tryz.call18 (A2 rfl rfl)) (w_spec_l1Cur_pick (L := [.row 39 4 v48 n49 cs50]) S56 (a0 := r42.2) h53 (wr ((len r25.1) + 1)) hr55) ?_
 rintro e w58 ⟨H57, v61, rfl, ⟨S59, i60⟩, h62⟩
 refine ⟨_, rfl, ?_⟩
 have S59 : St Ha wa H57 w58 [.box b21 45 [v61, Value.int .i64 r54.2.at_, Value.int .u64 r54.2.seed], .row 39 4 v48 n49 cs50] := S59
 refine FL.v (E.move (v := Value.pointer (some (⟨b21, 0, none⟩ : Addr))) rfl) ?_
 obtain ⟨r63, hr64, hp⟩ := bnd hp
 refine FL.call rfl rfl rfl (E.call Tryz.call18 (A2 rfl rfl)) (w_spec_l1Cur_pick (L := [.row 39 4 v48 n49 cs50]) S59 (a0 := r54.2) h62 24 hr64) ?_
 rintro e w66 ⟨H65, v69, rfl, ⟨S67, i68⟩, h70⟩
 refine ⟨_, rfl, ?_⟩
 have S67 : St Ha wa H65 w66 [.box b21 45 [v69, Value.int .i64 r63.2.at_, Value.int .u64 r63.2.seed], .row 39 4 v48 n49 cs50] := S67
 refine FL.v (E.quo rfl rfl (by decide)) ?_
 refine FL.v (E.sub rfl rfl) ?_
 refine FL.v (E.assign (v := v31) rfl) ?_
 refine FL.v (E.assign (v := v48) rfl) ?_
 refine FL.v (E.assign (v := Value.int .i64 (wr (r54.1 - (wr (r63.1.tdiv 23))))) rfl) ?_
 refine FL.nil ?_
 refine FW.ret ?_
 obtain rfl := Option.some.inj hp
 exact ⟨.inr rfl, res3 rfl rfl rfl rfl ⟨_, _, _, _, _, rfl, (S67.sel [1] (by decide) rfl), (h40.mono (up_mono ((i47.tr i60).tr i68))), (els51.mono (up_mono (i60.tr i68)))⟩⟩

theorem w_slices_IndexFunc_string_string {Ha : GH} {wa : World} (hs : Sl Ha wa) (v0 : Value) (a0 : List ByteArray) (p0 : RSl Ha eS 1 v0 a0) (v1 : Value) (a1 : ByteArray → Option Bool) (p1 : Fn_S_to_B Tryz.prog Ha v1 a1) {r : Int} (hp : (PF.slices_IndexFunc_string_string a0 a1) = some r) :
  Calls Tryz.prog 85 #[v0, v1] wa (Sc Ha wa (Value.int .i64 r)) := by
 unfold PF.slices_IndexFunc_string_string at hp
 have S0 := St.init hs
 refine calls_go (N := 19) (args := [v0, v1]) Tryz.func85 rfl rfl rfl ?_
 refine FW.seq (FW.region ?_)
 refine FL.v (E.assign (v := Value.int .i64 0) rfl) ?_
 refine FL.nil (FW.seq (FW.seq (FW.region ?_)))
 refine FL.v (E.move (v := v0) rfl) ?_
 refine FL.v (E.lenP te24 rfl p0) ?_
 refine FL.v (E.move (v := Value.int .i64 0) rfl) ?_
 refine FL.nil ?_
 obtain ⟨q22, hq, hp⟩ := bndR hp
 refine FW.block ?_
 refine FW.mono (FW.forL (S := Unit) (X := Int) (fun (i22 : Nat) (s22 : Unit) f w => ∃ H : GH, St Ha wa H w [] ∧ Inc Ha H ∧ f 8 = Value.int .i64 ((i22 : Nat) : Int) ∧ f 0 = v0 ∧ f 1 = v1 ∧ f 7 = Value.int .i64 (len a0)) (fun q e f w => match q with | .go s22 => e = Exit.exit 0 ∧ (∃ H : GH, St Ha wa H w [] ∧ Inc Ha H) | .rt x => ((e = Exit.ret) ∧ (fun e f w => (e = Exit.normal ∨ e = Exit.ret) ∧ ∀ a, Fr (δ := []) 19 a f → ∃ v, (results Tryz.f85 a.tmps).run Tryz.prog w = .ok v w ∧ (Sc Ha wa (Value.int .i64 x)) (.returned v) w) e f w)) hq ⟨_, S0, (Inc.rfl _), rfl, rfl, rfl, rfl⟩ ?_ ?_) ?_
 ·
  clear hp hq
  rintro i22 y21 s22 f53 w52 ⟨H49, S50, i51, k54, k55, k56, k57⟩ hx22 o75 hp
  refine FW.seq (FW.region ?_)
  refine FL.v (E.lssT k54 k57 (lss_len hx22)) ?_
  refine FL.nil (FW.seq ?_)
  refine FW.condT rfl rfl ?_
  refine FW.skip (FW.seq (FW.block (FW.seq (FW.region ?_))))
  refine FL.v (E.move k54) ?_
  refine FL.v (E.assign (v := Value.int .i64 ((i22 : Nat) : Int)) rfl) ?_
  refine FL.nil (FW.seq (FW.region ?_))
  refine FL.v (E.move k56) ?_
  refine FL.v (E.move k55) ?_
  refine FL.v (E.move (v := Value.int .i64 ((i22 : Nat) : Int)) rfl) ?_
  obtain ⟨p58, cs59, pt60, l61, at62, rel63⟩ := p0.at (ix_nat hx22)
  obtain rfl := eS_open rel63
  refine FL.v (E.indexAddr te24 rfl rfl pt60) ?_
  refine FL.v (E.load rfl (run_load0 Tryz.isAgg9 ((at62.mono i51).now S50.sl) rfl)) ?_
  obtain ⟨r64, hr65, hp⟩ := bnd hp
  obtain ⟨fi69, cs70, hv71, he72, hc73⟩ := (p1.mono i51) H49 w52 (Inc.rfl _) S50.sl y21 r64 hr65
  refine FL.call rfl rfl rfl (E.callV he72 (Eq.trans rfl hv71) (appA (A1 rfl) cs70)) hc73 ?_
  rintro e w66 ⟨rfl, r67⟩
  refine ⟨_, rfl, ?_⟩
  have S68 := S50.call r67
  refine FL.nil ?_
  rcases ifB hp with ⟨c74, hp⟩ | ⟨c74, hp⟩
  ·
   refine FW.condT rfl c74 ?_
   refine FW.seq (FW.region ?_)
   refine FL.v (E.move (v := Value.int .i64 ((i22 : Nat) : Int)) rfl) ?_
   refine FL.v (E.assign (v := Value.int .i64 ((i22 : Nat) : Int)) rfl) ?_
   refine FL.nil ?_
   refine FW.ret ?_
   obtain rfl := Option.some.inj hp
   exact ⟨nofun, rfl, ⟨.inr rfl, res1 rfl rfl ⟨rfl, S68.back⟩⟩⟩
  ·
   refine FW.condF rfl c74 ?_
   refine FW.skip (FW.region ?_)
   refine FL.v (E.add k54 rfl) ?_
   refine FL.v (E.move (v := Value.int .i64 (wr (((i22 : Nat) : Int) + 1))) rfl) ?_
   refine FL.nil ?_
   obtain rfl := Option.some.inj hp
   exact ⟨rfl, ⟨_, S68, i51, (nat_succ rfl (lt_of_get hx22) (p0.mono i51).le), k55, k56, k57⟩⟩
 ·
  clear hp hq
  rintro s22 f85 w84 ⟨H81, S82, i83, k86, k87, k88, k89⟩
  refine FW.seq (FW.region ?_)
  refine FL.v (E.lss k86 k89) ?_
  refine FL.nil (FW.seq ?_)
  refine FW.condF rfl dlt_len ?_
  refine FW.exit ?_
  exact ⟨nofun, rfl, ⟨_, S82, i83⟩⟩
 ·
  clear hq
  intro e f80 w79 hD
  rcases q22 with s22 | x22
  ·
   obtain ⟨rfl, hD⟩ := hD
   obtain ⟨H76, S77, i78⟩ := hD
   replace hp := el_go hp
   refine FW.seq (FW.region ?_)
   refine FL.v (E.assign (v := Value.int .i64 (-1)) rfl) ?_
   refine FL.nil ?_
   refine FW.ret ?_
   obtain rfl := Option.some.inj hp
   exact ⟨.inr rfl, res1 rfl rfl ⟨rfl, S77.back⟩⟩
  ·
   obtain ⟨he, hL⟩ := hD
   replace hp := el_rt hp
   obtain rfl := Option.some.inj hp
   subst he
   exact hL

theorem w_slices_ContainsFunc_string_string {Ha : GH} {wa : World} (hs : Sl Ha wa) (v0 : Value) (a0 : List ByteArray) (p0 : RSl Ha eS 1 v0 a0) (v1 : Value) (a1 : ByteArray → Option Bool) (p1 : Fn_S_to_B Tryz.prog Ha v1 a1) {r : Bool} (hp : (PF.slices_ContainsFunc_string_string a0 a1) = some r) :
  Calls Tryz.prog 63 #[v0, v1] wa (Sc Ha wa (Value.bool r)) := by
 unfold PF.slices_ContainsFunc_string_string at hp
 have S0 := St.init hs
 refine calls_go (N := 9) (args := [v0, v1]) Tryz.func63 rfl rfl rfl ?_
 refine FW.seq (FW.region ?_)
 refine FL.v (E.assign (v := Value.bool false) rfl) ?_
 refine FL.nil (FW.seq (FW.region ?_))
 refine FL.v (E.move (v := v0) rfl) ?_
 refine FL.v (E.move (v := v1) rfl) ?_
 obtain ⟨r21, hr22, hp⟩ := bnd hp
 refine FL.call rfl rfl rfl (E.call Tryz.call85 (A2 rfl rfl)) (w_slices_IndexFunc_string_string S0.sl v0 a0 p0 v1 a1 p1 hr22) ?_
 rintro e w23 ⟨rfl, r24⟩
 refine ⟨_, rfl, ?_⟩
 have S25 := S0.call r24
 refine FL.v (E.geq rfl rfl) ?_
 refine FL.v (E.assign (v := Value.bool (decide (0 ≤ r21))) rfl) ?_
 refine FL.nil ?_
 refine FW.ret ?_
 obtain rfl := Option.some.inj hp
 exact ⟨.inr rfl, res1 rfl rfl ⟨rfl, S25.back⟩⟩

theorem w_impl_isLetter {Ha : GH} {wa : World} (hs : Sl Ha wa) (a0 : Int) :
  Calls Tryz.prog 67 #[Value.int .u8 a0] wa (Sc Ha wa (Value.bool (PF.impl_isLetter a0))) := by
 obtain ⟨r, hp⟩ : ∃ r, (PF.impl_isLetter a0) = r := ⟨_, rfl⟩
 rw [hp]
 unfold PF.impl_isLetter at hp
 have S0 := St.init hs
 refine calls_go (N := 9) (args := [Value.int .u8 a0]) Tryz.func67 rfl rfl rfl ?_
 refine FW.seq (FW.region ?_)
 refine FL.v (E.assign (v := Value.bool false) rfl) ?_
 refine FL.nil (FW.seq (FW.region ?_))
 refine FL.v (E.move (v := Value.int .u8 a0) rfl) ?_
 refine FL.v (E.geq rfl rfl) ?_
 refine FL.v (E.move (v := Value.bool (decide (97 ≤ a0))) rfl) ?_
 refine FL.cut 3 (fun f w => ∃ H : GH, St Ha wa H w [] ∧ Inc Ha H ∧ f 8 = Value.bool (bif (decide (97 ≤ a0)) then (decide (a0 < 103)) else false)) ?_ ?_
 ·
  rcases bcase (decide (97 ≤ a0)) with c27 | c27
  ·
   refine FL.val (wF_yes rfl rfl rfl c27) rfl rfl (E.move (v := Value.int .u8 a0) rfl) ?_
   refine FL.val (wF_yes rfl rfl rfl c27) rfl rfl (E.lss rfl rfl) ?_
   refine FL.v (E.pickT rfl c27 rfl) ?_
   exact FL.nil ⟨rfl, _, S0, (Inc.rfl _), (congrArg Value.bool (bifT c27).symm)⟩
  ·
   refine FL.skip (wF_no rfl rfl rfl c27) rfl ?_
   refine FL.skip (wF_no rfl rfl rfl c27) rfl ?_
   refine FL.v (E.pickF rfl c27 rfl) ?_
   exact FL.nil ⟨rfl, _, S0, (Inc.rfl _), (congrArg Value.bool (bifF c27).symm)⟩
 rintro f26 w25 ⟨H22, S23, i24, k28⟩
 refine FL.v (E.assign k28) ?_
 refine FL.nil ?_
 refine FW.ret ?_
 obtain rfl := hp
 exact ⟨.inr rfl, res1 rfl rfl ⟨rfl, S23.back⟩⟩

@[reducible] def p_impl_leaf (Ha : GH) (wa : World) (r : Fo) : Ending → World → Prop :=
 fun e w' => ∃ H' : GH, ∃ v0 : Value, e = .returned (v0) ∧ Run wa.heap.size Ha wa H' w' ∧ FAt H' v0 r
theorem w_impl_leaf {Ha : GH} {wa : World} (hs : Sl Ha wa) (a0 : Int) {r : Fo} (hp : (PF.impl_leaf a0) = some r) :
  Calls Tryz.prog 68 #[Value.int .u8 a0] wa (p_impl_leaf Ha wa r) := by
 unfold PF.impl_leaf at hp
 have S0 := St.init hs
 refine calls_go (N := 8) (args := [Value.int .u8 a0]) Tryz.func68 rfl rfl rfl ?_
 refine FW.seq (FW.region ?_)
 refine FL.v (E.assign (v := Value.pointer none) rfl) ?_
 refine FL.nil (FW.seq (FW.region ?_))
 refine FL.v (E.move (v := Value.int .u8 a0) rfl) ?_
 refine FL.v (E.move (v := Value.int .u8 a0) rfl) ?_
 obtain ⟨z21, h22, hp⟩ := bnd hp
 refine FL.v (E.chr Tryz.runUnderlying5 Tryz.runUnderlying9 rfl h22) ?_
 refine FL.v (E.build (B2 rfl rfl) (run_build _ 70 #[(0, Value.int .u8 a0), (3, Value.string z21)] #[Value.int .u8 a0, Value.pointer none, Value.pointer none, Value.string z21] (by rfl))) ?_
 obtain ⟨b23, w24, run25, S26⟩ := S0.box (P := Tryz.prog) 70 [Value.int .u8 a0, Value.pointer none, Value.pointer none, Value.string z21] (v := Value.agg #[Value.int .u8 a0, Value.pointer none, Value.pointer none, Value.string z21]) rfl (ones_cons rfl (ones_cons rfl (ones_cons rfl (ones_cons rfl ones_nil))))
 refine FL.v (E.box rfl run25) ?_
 obtain ⟨H27, S28, i29, at30⟩ := S26.sealBox (i := 0) (l' := []) rfl rfl
 refine FL.v (E.assign (v := Value.pointer (some ⟨b23, 0, none⟩)) rfl) ?_
 refine FL.nil ?_
 refine FW.ret ?_
 obtain rfl := Option.some.inj hp
 exact ⟨.inr rfl, res1 rfl rfl ⟨_, _, rfl, S28.run, (FAt.mk at30 FAt.nil FAt.nil)⟩⟩

@[reducible] def p_impl_not (Ha : GH) (wa : World) (r : Fo) : Ending → World → Prop :=
 fun e w' => ∃ H' : GH, ∃ v0 : Value, e = .returned (v0) ∧ Run wa.heap.size Ha wa H' w' ∧ FAt H' v0 r
theorem w_impl_not {Ha : GH} {wa : World} (hs : Sl Ha wa) (v0 : Value) (a0 : Fo) (p0 : FAt Ha v0 a0) {r : Fo} (hp : (PF.impl_not a0) = some r) :
  Calls Tryz.prog 69 #[v0] wa (p_impl_not Ha wa r) := by
 unfold PF.impl_not at hp
 have S0 := St.init hs
 refine calls_go (N := 11) (args := [v0]) Tryz.func69 rfl rfl rfl ?_
 refine FW.seq (FW.region ?_)
 refine FL.v (E.assign (v := Value.pointer none) rfl) ?_
 refine FL.nil (FW.seq (FW.region ?_))
 refine FL.v (E.move (v := v0) rfl) ?_
 refine FL.v (E.move (v := v0) rfl) ?_
 obtain ⟨y21, hy22, hp⟩ := bnd hp
 obtain ⟨q23, v25, v26, rfl, at24, h27, h28⟩ := FAt.open p0 hy22
 refine FL.v (E.nilCheck rfl) ?_
 refine FL.v (E.fieldAddr tf70_3 rfl) ?_
 refine FL.v (E.load rfl (run_load1 Tryz.isAgg9 (at24.now S0.sl) rfl)) ?_
 obtain ⟨z29, h30, hp⟩ := bnd hp
 refine FL.v (E.addT rfl rfl h30) ?_
 refine FL.v (E.build (B3 rfl rfl rfl) (run_build _ 70 #[(0, Value.int .u8 126), (1, Value.pointer (some q23)), (3, Value.string z29)] #[Value.int .u8 126, Value.pointer (some q23), Value.pointer none, Value.string z29] (by rfl))) ?_
 obtain ⟨b31, w32, run33, S34⟩ := S0.box (P := Tryz.prog) 70 [Value.int .u8 126, Value.pointer (some q23), Value.pointer none, Value.string z29] (v := Value.agg #[Value.int .u8 126, Value.pointer (some q23), Value.pointer none, Value.string z29]) rfl (ones_cons rfl (ones_cons rfl (ones_cons rfl (ones_cons rfl ones_nil))))
 refine FL.v (E.box rfl run33) ?_
 obtain ⟨H35, S36, i37, at38⟩ := S34.sealBox (i := 0) (l' := []) rfl rfl
 refine FL.v (E.assign (v := Value.pointer (some ⟨b31, 0, none⟩)) rfl) ?_
 refine FL.nil ?_
 refine FW.ret ?_
 obtain rfl := Option.some.inj hp
 exact ⟨.inr rfl, res1 rfl rfl ⟨_, _, rfl, S36.run, (FAt.mk at38 (p0.mono i37) FAt.nil)⟩⟩

theorem w_strings_Contains {Ha : GH} {wa : World} (hs : Sl Ha wa) (a0 a1 : ByteArray) {r : Bool} (hp : (PF.strings_Contains a0 a1) = some r) : Calls Tryz.prog 70 #[Value.string a0, Value.string a1] wa (Sc Ha wa (Value.bool r)) := by
 unfold PF.strings_Contains at hp
 obtain ⟨c, rfl, rfl⟩ := hasS_some hp
 refine (Go.Proofs.Any.strings_Contains_one Tryz.cont70 a0 c wa).mono ?_
 rintro e w' ⟨rfl, rfl⟩
 exact ⟨rfl, Run.refl _ hs⟩

@[reducible] def p_impl_join (Ha : GH) (wa : World) (r : Fo) : Ending → World → Prop :=
 fun e w' => ∃ H' : GH, ∃ v0 : Value, e = .returned (v0) ∧ Run wa.heap.size Ha wa H' w' ∧ FAt H' v0 r
theorem w_impl_join {Ha : GH} {wa : World} (hs : Sl Ha wa) (a0 : Int) (v1 : Value) (a1 : Fo) (p1 : FAt Ha v1 a1) (v2 : Value) (a2 : Fo) (p2 : FAt Ha v2 a2) {r : Fo} (hp : (PF.impl_join a0 a1 a2) = some r) :
  Calls Tryz.prog 26 #[Value.int .u8 a0, v1, v2] wa (p_impl_join Ha wa r) := by
 unfold PF.impl_join at hp
 have S0 := St.init hs
 refine calls_go (N := 26) (args := [Value.int .u8 a0, v1, v2]) Tryz.func26 rfl rfl rfl ?_
 refine FW.seq (FW.region ?_)
 refine FL.v (E.assign (v := Value.pointer none) rfl) ?_
 refine FL.nil (FW.seq ?_)
 obtain ⟨y24, hy25, hp⟩ := bnd hp
 obtain ⟨z32, h33, hp⟩ := bnd hp
 obtain ⟨z34, h35, hp⟩ := bnd hp
 obtain ⟨z36, h37, hp⟩ := bnd hp
 obtain ⟨y38, hy39, hp⟩ := bnd hp
 obtain ⟨z46, h47, hp⟩ := bnd hp
 obtain ⟨z48, h49, hp⟩ := bnd hp
 refine FW.drawB (Sl Ha) (fun f w => ∃ H : GH, ∃ v58 : Value, St Ha wa H w [] ∧ Inc Ha H ∧ FAt H v58 (Fo.node a0 a1 a2 z48) ∧ f 6 = v58) (by kernel_rfl) S0.sl ?_ ?_
 ·
  intro w21 r22
  have S23 := S0.call r22
  refine FB.t (i := 0) (bs 20 1) rfl (SP.nil S23.sl) rfl (fun w' hw' => (E.move (v := Value.int .u8 a0) rfl)) ?_
  refine FB.t (i := 1) (bs 20 3) rfl (SP.nil S23.sl) rfl (fun w' hw' => (E.move (v := v1) rfl)) ?_
  refine FB.t (i := 2) (bs 20 7) rfl (SP.nil S23.sl) rfl (fun w' hw' => (E.move (v := v2) rfl)) ?_
  refine FB.t (i := 3) (bs 20 15) rfl (SP.nil S23.sl) rfl (fun w' hw' => (E.move (v := v1) rfl)) ?_
  obtain ⟨q26, v28, v29, rfl, at27, h30, h31⟩ := FAt.open p1 hy25
  refine FB.t (i := 4) (bs 20 31) rfl (SP.nil S23.sl) rfl (fun w' hw' => (E.nilCheck rfl)) ?_
  refine FB.t (i := 5) (bs 20 63) rfl (SP.nil S23.sl) rfl (fun w' hw' => (E.fieldAddr tf70_3 rfl)) ?_
  refine FB.t (i := 6) (bs 20 127) rfl (SP.nil S23.sl) rfl (fun w' hw' => (E.load rfl (run_load1 Tryz.isAgg9 (at27.now hw') rfl))) ?_
  refine FB.t (i := 7) (bs 20 255) rfl (SP.nil S23.sl) rfl (fun w' hw' => (E.addT rfl rfl h33)) ?_
  refine FB.t (i := 8) (bs 20 511) rfl (SP.nil S23.sl) rfl (fun w' hw' => (E.move (v := Value.int .u8 a0) rfl)) ?_
  refine FB.t (i := 9) (bs 20 1023) rfl (SP.nil S23.sl) rfl (fun w' hw' => (E.chr Tryz.runUnderlying5 Tryz.runUnderlying9 rfl h35)) ?_
  refine FB.t (i := 10) (bs 20 2047) rfl (SP.nil S23.sl) rfl (fun w' hw' => (E.addT rfl rfl h37)) ?_
  refine FB.t (i := 11) (bs 20 4095) rfl (SP.nil S23.sl) rfl (fun w' hw' => (E.move (v := v2) rfl)) ?_
  obtain ⟨q40, v42, v43, rfl, at41, h44, h45⟩ := FAt.open p2 hy39
  refine FB.t (i := 12) (bs 20 8191) rfl (SP.nil S23.sl) rfl (fun w' hw' => (E.nilCheck rfl)) ?_
  refine FB.t (i := 13) (bs 20 16383) rfl (SP.nil S23.sl) rfl (fun w' hw' => (E.fieldAddr tf70_3 rfl)) ?_
  refine FB.t (i := 14) (bs 20 32767) rfl (SP.nil S23.sl) rfl (fun w' hw' => (E.load rfl (run_load1 Tryz.isAgg9 (at41.now hw') rfl))) ?_
  refine FB.t (i := 15) (bs 20 65535) rfl (SP.nil S23.sl) rfl (fun w' hw' => (E.addT rfl rfl h47)) ?_
  refine FB.t (i := 16) (bs 20 131071) rfl (SP.nil S23.sl) rfl (fun w' hw' => (E.addT rfl rfl h49)) ?_
  refine FB.t (i := 17) (bs 20 262143) rfl (SP.nil S23.sl) rfl (fun w' hw' => (E.build (B4 rfl rfl rfl rfl) (run_build _ 70 #[(0, Value.int .u8 a0), (1, Value.pointer (some q26)), (2, Value.pointer (some q40)), (3, Value.string z48)] #[Value.int .u8 a0, Value.pointer (some q26), Value.pointer (some q40), Value.string z48] (by rfl)))) ?_
  refine FB.all1 (i := 18) (by kernel_rfl) ?_
  ·
   obtain ⟨b50, w51, run52, S53⟩ := S23.box (P := Tryz.prog) 70 [Value.int .u8 a0, Value.pointer (some q26), Value.pointer (some q40), Value.string z48] (v := Value.agg #[Value.int .u8 a0, Value.pointer (some q26), Value.pointer (some q40), Value.string z48]) rfl (ones_cons rfl (ones_cons rfl (ones_cons rfl (ones_cons rfl ones_nil))))
   refine FC.val (l' := (bs 20 524287)) rfl (by kernel_rfl) rfl rfl rfl (E.box rfl run52) ?_
   obtain ⟨H54, S55, i56, at57⟩ := S53.sealBox (i := 0) (l' := []) rfl rfl
   refine ⟨(SP.nil (Sl.of_inc i56 S55.sl)), ?_⟩
   refine FB.t (i := 19) (bs 20 1048575) rfl (SP.nil (Sl.of_inc i56 S55.sl)) rfl (fun w' hw' => (E.assign (v := Value.pointer (some ⟨b50, 0, none⟩)) rfl)) ?_
   exact FB.done (by kernel_rfl) ⟨_, _, S55, i56, (FAt.mk at57 (p1.mono i56) (p2.mono i56)), rfl⟩
 ·
  rintro f64 w63 ⟨H60, v58, S61, i62, h59, k65⟩
  refine FW.ret ?_
  obtain rfl := Option.some.inj hp
  exact ⟨.inr rfl, res1 rfl k65 ⟨_, _, rfl, S61.run, h59⟩⟩

@[reducible] def p_impl_parseFrom (Ha : GH) (wa : World) (r : (Fo × ByteArray × Bool)) : Ending → World → Prop :=
 fun e w' => ∃ H' : GH, ∃ v0 : Value, e = .returned (Value.tuple #[v0, Value.string r.2.1, Value.bool r.2.2]) ∧ Run wa.heap.size Ha wa H' w' ∧ FAt H' v0 r.1
set_option maxHeartbeats 4000000 in
theorem w_impl_parseFrom_B {rec_impl_parseFrom : ByteArray → Option (Fo × ByteArray × Bool)} (hrec_impl_parseFrom : ∀ {Ha : GH} {wa : World} (hs : Sl Ha wa) (a0 : ByteArray) {r : (Fo × ByteArray × Bool)} (hp : rec_impl_parseFrom a0 = some r), Calls Tryz.prog 49 #[Value.string a0] wa (p_impl_parseFrom Ha wa r)) {Ha : GH} {wa : World} (hs : Sl Ha wa) (a0 : ByteArray) {r : (Fo × ByteArray × Bool)} (hp : PF.impl_parseFrom_B rec_impl_parseFrom a0 = some r) :
  Calls Tryz.prog 49 #[Value.string a0] wa (p_impl_parseFrom Ha wa r) := by
 unfold PF.impl_parseFrom_B at hp
 have S0 := St.init hs
 refine calls_go (N := 95) (args := [Value.string a0]) Tryz.func49 rfl rfl rfl ?_
 refine FW.seq (FW.region ?_)
 refine FL.v (E.assign (v := Value.pointer none) rfl) ?_
 refine FL.v (E.assign (v := Value.string (ByteArray.mk #[])) rfl) ?_
 refine FL.v (E.assign (v := Value.bool false) rfl) ?_
 refine FL.nil (FW.seq (FW.seq (FW.region ?_)))
 refine FL.v (E.move (v := Value.string a0) rfl) ?_
 refine FL.v (E.eqlS rfl rfl) ?_
 refine FL.nil ?_
 rcases ifB hp with ⟨c21, hp⟩ | ⟨c21, hp⟩
 ·
  refine FW.condT rfl c21 ?_
  refine FW.seq (FW.region ?_)
  refine FL.v (E.assign (v := Value.pointer none) rfl) ?_
  refine FL.v (E.assign (v := Value.string (ByteArray.mk #[])) rfl) ?_
  refine FL.v (E.assign (v := Value.bool false) rfl) ?_
  refine FL.nil ?_
  refine FW.ret ?_
  obtain rfl := Option.some.inj hp
  exact ⟨.inr rfl, res3 rfl rfl rfl rfl ⟨_, _, rfl, S0.run, FAt.nil⟩⟩
 ·
  refine FW.condF rfl c21 ?_
  refine FW.skip (FW.seq ?_)
  refine FW.draw (fun w' => Run wa.heap.size Ha wa Ha w') (by kernel_rfl) (by kernel_rfl) (run_drew S0.sl) ?_
  refine FD.val rfl rfl rfl (fun w' hw' => (E.move (v := Value.string a0) rfl)) ?_
  obtain ⟨z23, h24, hp⟩ := bnd hp
  refine FD.val rfl rfl rfl (fun w' hw' => (E.ixS Tryz.runUnderlying9 rfl rfl h24)) ?_
  refine FD.val rfl rfl rfl (fun w' hw' => (E.move (v := Value.string a0) rfl)) ?_
  obtain ⟨z25, h26, hp⟩ := bnd hp
  refine FD.val rfl rfl rfl (fun w' hw' => (E.cutS (kl := .i64) (kh := .i64) Tryz.underlying9 rfl (.inr ⟨_, rfl, rfl⟩) (.inl ⟨rfl, rfl⟩) h26)) ?_
  refine FD.val rfl rfl rfl (fun w' hw' => (E.assign (v := Value.int .u8 z23) rfl)) ?_
  refine FD.val rfl rfl rfl (fun w' hw' => (E.assign (v := Value.string z25) rfl)) ?_
  refine FD.nil ?_
  intro w27 r29
  have S28 := S0.call r29
  refine FW.seq (FW.block (FW.seq (FW.region ?_)))
  refine FL.v (E.move (v := Value.int .u8 z23) rfl) ?_
  refine FL.call rfl rfl rfl (E.call Tryz.call67 (A1 rfl)) (w_impl_isLetter S28.sl z23) ?_
  rintro e w30 ⟨rfl, r31⟩
  refine ⟨_, rfl, ?_⟩
  have S32 := S28.call r31
  refine FL.v (E.move (v := Value.bool (PF.impl_isLetter z23)) rfl) ?_
  refine FL.cut 3 (fun f w => ∃ H : GH, St Ha wa H w [] ∧ Inc Ha H ∧ f 5 = Value.int .u8 z23 ∧ f 6 = Value.string z25 ∧ f 26 = Value.bool (bif (PF.impl_isLetter z23) then true else (z23 == 48))) ?_ ?_
  ·
   rcases bcase (PF.impl_isLetter z23) with c39 | c39
   ·
    refine FL.skip (wF_no rfl rfl rfl c39) rfl ?_
    refine FL.skip (wF_no rfl rfl rfl c39) rfl ?_
    refine FL.v (E.pickT rfl c39 rfl) ?_
    exact FL.nil ⟨rfl, _, S32, (Inc.rfl _), rfl, rfl, (congrArg Value.bool (bifT c39).symm)⟩
   ·
    refine FL.val (wF_yes rfl rfl rfl c39) rfl rfl (E.move (v := Value.int .u8 z23) rfl) ?_
    refine FL.val (wF_yes rfl rfl rfl c39) rfl rfl (E.eql rfl rfl) ?_
    refine FL.v (E.pickF rfl c39 rfl) ?_
    exact FL.nil ⟨rfl, _, S32, (Inc.rfl _), rfl, rfl, (congrArg Value.bool (bifF c39).symm)⟩
  rintro f38 w37 ⟨H34, S35, i36, k40, k41, k42⟩
  refine FL.v (E.move k42) ?_
  refine FL.cut 3 (fun f w => ∃ H : GH, St Ha wa H w [] ∧ Inc H34 H ∧ f 5 = Value.int .u8 z23 ∧ f 6 = Value.string z25 ∧ f 30 = Value.bool (bif (bif (PF.impl_isLetter z23) then true else (z23 == 48)) then true else (z23 == 49))) ?_ ?_
  ·
   rcases bcase (bif (PF.impl_isLetter z23) then true else (z23 == 48)) with c49 | c49
   ·
    refine FL.skip (wF_no rfl rfl rfl c49) rfl ?_
    refine FL.skip (wF_no rfl rfl rfl c49) rfl ?_
    refine FL.v (E.pickT rfl c49 rfl) ?_
    exact FL.nil ⟨rfl, _, S35, (Inc.rfl _), k40, k41, (congrArg Value.bool (bifT c49).symm)⟩
   ·
    refine FL.val (wF_yes rfl rfl rfl c49) rfl rfl (E.move k40) ?_
    refine FL.val (wF_yes rfl rfl rfl c49) rfl rfl (E.eql rfl rfl) ?_
    refine FL.v (E.pickF rfl c49 rfl) ?_
    exact FL.nil ⟨rfl, _, S35, (Inc.rfl _), k40, k41, (congrArg Value.bool (bifF c49).symm)⟩
  rintro f48 w47 ⟨H44, S45, i46, k50, k51, k52⟩
  refine FL.v (E.assign k52) ?_
  refine FL.nil ?_
  rcases ifB hp with ⟨c53, hp⟩ | ⟨c53, hp⟩
  ·
   refine FW.condT rfl c53 ?_
   refine FW.seq (FW.region ?_)
   refine FL.v (E.move k50) ?_
   obtain ⟨r54, hr55, hp⟩ := bnd hp
   refine FL.call rfl rfl rfl (E.call Tryz.call68 (A1 rfl)) (w_impl_leaf S45.sl z23 hr55) ?_
   rintro e w57 ⟨H56, v60, rfl, r59, h61⟩
   refine ⟨_, rfl, ?_⟩
   have S58 := S45.call r59
   refine FL.v (E.move k51) ?_
   refine FL.v (E.assign (v := v60) rfl) ?_
   refine FL.v (E.assign (v := Value.string z25) rfl) ?_
   refine FL.v (E.assign (v := Value.bool true) rfl) ?_
   refine FL.nil ?_
   refine FW.ret ?_
   obtain rfl := Option.some.inj hp
   exact ⟨.inr rfl, res3 rfl rfl rfl rfl ⟨_, _, rfl, S58.run, h61⟩⟩
  ·
   refine FW.condF rfl c53 ?_
   refine FW.seq (FW.region ?_)
   refine FL.v (E.move k50) ?_
   refine FL.v (E.eql rfl rfl) ?_
   refine FL.v (E.assign (v := Value.bool (z23 == 126)) rfl) ?_
   refine FL.nil ?_
   rcases ifB hp with ⟨c62, hp⟩ | ⟨c62, hp⟩
   ·
    refine FW.condT rfl c62 ?_
    refine FW.seq (FW.region ?_)
    refine FL.v (E.move k51) ?_
    obtain ⟨r63, hr64, hp⟩ := bnd hp
    refine FL.call rfl rfl rfl (E.call Tryz.call49 (A1 rfl)) (hrec_impl_parseFrom S45.sl z25 hr64) ?_
    rintro e w66 ⟨H65, v69, rfl, r68, h70⟩
    refine ⟨_, rfl, ?_⟩
    have S67 := S45.call r68
    refine FL.v (E.move (v := Value.tuple #[v69, Value.string r63.2.1, Value.bool r63.2.2]) rfl) ?_
    refine FL.v (E.extract (i := 0) rfl rfl) ?_
    refine FL.v (E.extract (i := 1) rfl rfl) ?_
    refine FL.v (E.extract (i := 2) rfl rfl) ?_
    refine FL.v (E.assign (v := v69) rfl) ?_
    refine FL.v (E.assign (v := Value.string r63.2.1) rfl) ?_
    refine FL.v (E.assign (v := Value.bool r63.2.2) rfl) ?_
    refine FL.nil (FW.seq (FW.seq (FW.region ?_)))
    refine FL.v (E.move (v := Value.bool r63.2.2) rfl) ?_
    refine FL.v (E.not rfl) ?_
    refine FL.nil ?_
    rcases ifB hp with ⟨c71, hp⟩ | ⟨c71, hp⟩
    ·
     refine FW.condT rfl c71 ?_
     refine FW.seq (FW.region ?_)
     refine FL.v (E.assign (v := Value.pointer none) rfl) ?_
     refine FL.v (E.assign (v := Value.string (ByteArray.mk #[])) rfl) ?_
     refine FL.v (E.assign (v := Value.bool false) rfl) ?_
     refine FL.nil ?_
     refine FW.ret ?_
     obtain rfl := Option.some.inj hp
     exact ⟨.inr rfl, res3 rfl rfl rfl rfl ⟨_, _, rfl, S67.run, FAt.nil⟩⟩
    ·
     refine FW.condF rfl c71 ?_
     refine FW.skip (FW.seq (FW.region ?_))
     refine FL.v (E.move (v := v69) rfl) ?_
     obtain ⟨r72, hr73, hp⟩ := bnd hp
     refine FL.call rfl rfl rfl (E.call Tryz.call69 (A1 rfl)) (w_impl_not S67.sl v69 r63.1 h70 hr73) ?_
     rintro e w75 ⟨H74, v78, rfl, r77, h79⟩
     refine ⟨_, rfl, ?_⟩
     have S76 := S67.call r77
     refine FL.v (E.move (v := Value.string r63.2.1) rfl) ?_
     refine FL.v (E.assign (v := v78) rfl) ?_
     refine FL.v (E.assign (v := Value.string r63.2.1) rfl) ?_
     refine FL.v (E.assign (v := Value.bool true) rfl) ?_
     refine FL.nil ?_
     refine FW.ret ?_
     obtain rfl := Option.some.inj hp
     exact ⟨.inr rfl, res3 rfl rfl rfl rfl ⟨_, _, rfl, S76.run, h79⟩⟩
   ·
    refine FW.condF rfl c62 ?_
    refine FW.seq (FW.region ?_)
    refine FL.v (E.move k50) ?_
    refine FL.v (E.neq rfl rfl) ?_
    refine FL.v (E.assign (v := Value.bool (!(z23 == 40))) rfl) ?_
    refine FL.nil ?_
    rcases ifB hp with ⟨c80, hp⟩ | ⟨c80, hp⟩
    ·
     refine FW.condT rfl c80 ?_
     refine FW.seq (FW.region ?_)
     refine FL.v (E.assign (v := Value.pointer none) rfl) ?_
     refine FL.v (E.assign (v := Value.string (ByteArray.mk #[])) rfl) ?_
     refine FL.v (E.assign (v := Value.bool false) rfl) ?_
     refine FL.nil ?_
     refine FW.ret ?_
     obtain rfl := Option.some.inj hp
     exact ⟨.inr rfl, res3 rfl rfl rfl rfl ⟨_, _, rfl, S45.run, FAt.nil⟩⟩
    ·
     refine FW.condF rfl c80 ?_
     refine FW.skip (FW.seq (FW.region ?_))
     refine FL.v (E.move k51) ?_
     obtain ⟨r81, hr82, hp⟩ := bnd hp
     refine FL.call rfl rfl rfl (E.call Tryz.call49 (A1 rfl)) (hrec_impl_parseFrom S45.sl z25 hr82) ?_
     rintro e w84 ⟨H83, v87, rfl, r86, h88⟩
     refine ⟨_, rfl, ?_⟩
     have S85 := S45.call r86
     refine FL.v (E.move (v := Value.tuple #[v87, Value.string r81.2.1, Value.bool r81.2.2]) rfl) ?_
     refine FL.v (E.extract (i := 0) rfl rfl) ?_
     refine FL.v (E.extract (i := 1) rfl rfl) ?_
     refine FL.v (E.extract (i := 2) rfl rfl) ?_
     refine FL.v (E.assign (v := v87) rfl) ?_
     refine FL.v (E.assign (v := Value.string r81.2.1) rfl) ?_
     refine FL.v (E.assign (v := Value.bool r81.2.2) rfl) ?_
     refine FL.nil (FW.seq (FW.seq (FW.region ?_)))
     refine FL.v (E.move (v := Value.bool r81.2.2) rfl) ?_
     refine FL.v (E.not rfl) ?_
     refine FL.v (E.move (v := Value.bool (!r81.2.2)) rfl) ?_
     refine FL.cut 3 (fun f w => ∃ H : GH, St Ha wa H w [] ∧ Inc H83 H ∧ f 6 = Value.string r81.2.1 ∧ f 10 = v87 ∧ f 62 = Value.bool (bif (!r81.2.2) then true else (r81.2.1.toList == (ByteArray.mk #[]).toList))) ?_ ?_
     ·
      rcases bcase (!r81.2.2) with c95 | c95
      ·
       refine FL.skip (wF_no rfl rfl rfl c95) rfl ?_
       refine FL.skip (wF_no rfl rfl rfl c95) rfl ?_
       refine FL.v (E.pickT rfl c95 rfl) ?_
       exact FL.nil ⟨rfl, _, S85, (Inc.rfl _), rfl, rfl, (congrArg Value.bool (bifT c95).symm)⟩
      ·
       refine FL.val (wF_yes rfl rfl rfl c95) rfl rfl (E.move (v := Value.string r81.2.1) rfl) ?_
       refine FL.val (wF_yes rfl rfl rfl c95) rfl rfl (E.eqlS rfl rfl) ?_
       refine FL.v (E.pickF rfl c95 rfl) ?_
       exact FL.nil ⟨rfl, _, S85, (Inc.rfl _), rfl, rfl, (congrArg Value.bool (bifF c95).symm)⟩
     rintro f94 w93 ⟨H90, S91, i92, k96, k97, k98⟩
     refine FL.v (E.move k98) ?_
     obtain ⟨t106, hqt106, hp⟩ := bnd hp
     refine FL.cut 5 (fun f w => ∃ H : GH, St Ha wa H w [] ∧ Inc H90 H ∧ f 6 = Value.string r81.2.1 ∧ f 10 = v87 ∧ f 68 = Value.bool t106) ?_ ?_
     ·
      clear hp; have hp := hqt106; clear hqt106
      rcases ifB hp with ⟨c112, hp⟩ | ⟨c112, hp⟩
      ·
       refine FL.skip (wF_no rfl rfl rfl c112) rfl ?_
       refine FL.skip (wF_no rfl rfl rfl c112) rfl ?_
       refine FL.skip (wF_no rfl rfl rfl c112) rfl ?_
       refine FL.skip (wF_no rfl rfl rfl c112) rfl ?_
       obtain rfl := Option.some.inj hp
       refine FL.v (E.pickT rfl c112 rfl) ?_
       exact FL.nil ⟨rfl, _, S91, (Inc.rfl _), k96, k97, rfl⟩
      ·
       refine FL.val (wF_yes rfl rfl rfl c112) rfl rfl (E.move k96) ?_
       obtain ⟨z113, h114, hp⟩ := bnd hp
       refine FL.val (wF_yes rfl rfl rfl c112) rfl rfl (E.cutS (kl := .i64) (kh := .i64) Tryz.underlying9 rfl (.inl ⟨rfl, rfl⟩) (.inr ⟨_, rfl, rfl⟩) h114) ?_
       obtain ⟨r115, hr116, hp⟩ := bnd hp
       refine FL.call (wF_yes rfl rfl rfl c112) rfl rfl (E.call Tryz.call70 (A2 rfl rfl)) (w_strings_Contains S91.sl (ByteArray.mk #[38, 124, 62]) z113 hr116) ?_
       rintro e w117 ⟨rfl, r118⟩
       refine ⟨_, rfl, ?_⟩
       have S119 := S91.call r118
       refine FL.val (wF_yes rfl rfl rfl c112) rfl rfl (E.not rfl) ?_
       obtain rfl := Option.some.inj hp
       refine FL.v (E.pickF rfl c112 rfl) ?_
       exact FL.nil ⟨rfl, _, S119, (Inc.rfl _), k96, k97, rfl⟩
     rintro f111 w110 ⟨H107, S108, i109, k120, k121, k122⟩
     refine FL.nil ?_
     rcases ifB hp with ⟨c123, hp⟩ | ⟨c123, hp⟩
     ·
      refine FW.condT k122 c123 ?_
      refine FW.seq (FW.region ?_)
      refine FL.v (E.assign (v := Value.pointer none) rfl) ?_
      refine FL.v (E.assign (v := Value.string (ByteArray.mk #[])) rfl) ?_
      refine FL.v (E.assign (v := Value.bool false) rfl) ?_
      refine FL.nil ?_
      refine FW.ret ?_
      obtain rfl := Option.some.inj hp
      exact ⟨.inr rfl, res3 rfl rfl rfl rfl ⟨_, _, rfl, S108.run, FAt.nil⟩⟩
     ·
      refine FW.condF k122 c123 ?_
      refine FW.skip (FW.seq (FW.region ?_))
      refine FL.v (E.move k120) ?_
      obtain ⟨z124, h125, hp⟩ := bnd hp
      refine FL.v (E.ixS Tryz.runUnderlying9 rfl rfl h125) ?_
      refine FL.v (E.assign (v := Value.int .u8 z124) rfl) ?_
      refine FL.nil (FW.seq (FW.region ?_))
      refine FL.v (E.move k120) ?_
      obtain ⟨z126, h127, hp⟩ := bnd hp
      refine FL.v (E.cutS (kl := .i64) (kh := .i64) Tryz.underlying9 rfl (.inr ⟨_, rfl, rfl⟩) (.inl ⟨rfl, rfl⟩) h127) ?_
      obtain ⟨r128, hr129, hp⟩ := bnd hp
      refine FL.call rfl rfl rfl (E.call Tryz.call49 (A1 rfl)) (hrec_impl_parseFrom S108.sl z126 hr129) ?_
      rintro e w131 ⟨H130, v134, rfl, r133, h135⟩
      refine ⟨_, rfl, ?_⟩
      have S132 := S108.call r133
      refine FL.v (E.move (v := Value.tuple #[v134, Value.string r128.2.1, Value.bool r128.2.2]) rfl) ?_
      refine FL.v (E.extract (i := 0) rfl rfl) ?_
      refine FL.v (E.extract (i := 1) rfl rfl) ?_
      refine FL.v (E.extract (i := 2) rfl rfl) ?_
      refine FL.v (E.assign (v := v134) rfl) ?_
      refine FL.v (E.assign (v := Value.string r128.2.1) rfl) ?_
      refine FL.v (E.assign (v := Value.bool r128.2.2) rfl) ?_
      refine FL.nil (FW.seq (FW.seq (FW.region ?_)))
      refine FL.v (E.move (v := Value.bool r128.2.2) rfl) ?_
      refine FL.v (E.not rfl) ?_
      refine FL.v (E.move (v := Value.bool (!r128.2.2)) rfl) ?_
      refine FL.cut 3 (fun f w => ∃ H : GH, St Ha wa H w [] ∧ Inc H130 H ∧ f 6 = Value.string r128.2.1 ∧ f 10 = v87 ∧ f 12 = Value.int .u8 z124 ∧ f 13 = v134 ∧ f 83 = Value.bool (bif (!r128.2.2) then true else (r128.2.1.toList == (ByteArray.mk #[]).toList))) ?_ ?_
      ·
       rcases bcase (!r128.2.2) with c142 | c142
       ·
        refine FL.skip (wF_no rfl rfl rfl c142) rfl ?_
        refine FL.skip (wF_no rfl rfl rfl c142) rfl ?_
        refine FL.v (E.pickT rfl c142 rfl) ?_
        exact FL.nil ⟨rfl, _, S132, (Inc.rfl _), rfl, k121, rfl, rfl, (congrArg Value.bool (bifT c142).symm)⟩
       ·
        refine FL.val (wF_yes rfl rfl rfl c142) rfl rfl (E.move (v := Value.string r128.2.1) rfl) ?_
        refine FL.val (wF_yes rfl rfl rfl c142) rfl rfl (E.eqlS rfl rfl) ?_
        refine FL.v (E.pickF rfl c142 rfl) ?_
        exact FL.nil ⟨rfl, _, S132, (Inc.rfl _), rfl, k121, rfl, rfl, (congrArg Value.bool (bifF c142).symm)⟩
      rintro f141 w140 ⟨H137, S138, i139, k143, k144, k145, k146, k147⟩
      refine FL.v (E.move k147) ?_
      obtain ⟨t150, hqt150, hp⟩ := bnd hp
      refine FL.cut 4 (fun f w => ∃ H : GH, St Ha wa H w [] ∧ Inc H137 H ∧ f 6 = Value.string r128.2.1 ∧ f 10 = v87 ∧ f 12 = Value.int .u8 z124 ∧ f 13 = v134 ∧ f 88 = Value.bool t150) ?_ ?_
      ·
       clear hp; have hp := hqt150; clear hqt150
       rcases ifB hp with ⟨c156, hp⟩ | ⟨c156, hp⟩
       ·
        refine FL.skip (wF_no rfl rfl rfl c156) rfl ?_
        refine FL.skip (wF_no rfl rfl rfl c156) rfl ?_
        refine FL.skip (wF_no rfl rfl rfl c156) rfl ?_
        obtain rfl := Option.some.inj hp
        refine FL.v (E.pickT rfl c156 rfl) ?_
        exact FL.nil ⟨rfl, _, S138, (Inc.rfl _), k143, k144, k145, k146, rfl⟩
       ·
        refine FL.val (wF_yes rfl rfl rfl c156) rfl rfl (E.move k143) ?_
        obtain ⟨z157, h158, hp⟩ := bnd hp
        refine FL.val (wF_yes rfl rfl rfl c156) rfl rfl (E.ixS Tryz.runUnderlying9 rfl rfl h158) ?_
        refine FL.val (wF_yes rfl rfl rfl c156) rfl rfl (E.neq rfl rfl) ?_
        obtain rfl := Option.some.inj hp
        refine FL.v (E.pickF rfl c156 rfl) ?_
        exact FL.nil ⟨rfl, _, S138, (Inc.rfl _), k143, k144, k145, k146, rfl⟩
      rintro f155 w154 ⟨H151, S152, i153, k159, k160, k161, k162, k163⟩
      refine FL.nil ?_
      rcases ifB hp with ⟨c164, hp⟩ | ⟨c164, hp⟩
      ·
       refine FW.condT k163 c164 ?_
       refine FW.seq (FW.region ?_)
       refine FL.v (E.assign (v := Value.pointer none) rfl) ?_
       refine FL.v (E.assign (v := Value.string (ByteArray.mk #[])) rfl) ?_
       refine FL.v (E.assign (v := Value.bool false) rfl) ?_
       refine FL.nil ?_
       refine FW.ret ?_
       obtain rfl := Option.some.inj hp
       exact ⟨.inr rfl, res3 rfl rfl rfl rfl ⟨_, _, rfl, S152.run, FAt.nil⟩⟩
      ·
       refine FW.condF k163 c164 ?_
       refine FW.skip (FW.seq ?_)
       obtain ⟨r22, hr33, hp⟩ := bnd hp
       obtain ⟨z103, h104, hp⟩ := bnd hp
       refine FW.drawB (Sl H151) (fun f w => ∃ H : GH, ∃ v105 : Value, St Ha wa H w [] ∧ Inc H151 H ∧ FAt H v105 r22 ∧ f 2 = v105 ∧ f 3 = Value.string z103 ∧ f 4 = Value.bool true) (by kernel_rfl) S152.sl ?_ ?_
       ·
        intro w165 r166
        have S167 := S152.call r166
        refine FB.t (i := 0) (bs 9 1) rfl (SP.nil S167.sl) rfl (fun w' hw' => (E.move k161)) ?_
        refine FB.t (i := 1) (bs 9 3) rfl (SP.nil S167.sl) rfl (fun w' hw' => (E.move k160)) ?_
        refine FB.t (i := 2) (bs 9 7) rfl (SP.nil S167.sl) rfl (fun w' hw' => (E.move k162)) ?_
        refine FB.t (i := 4) (bs 9 23) rfl (SP.nil S167.sl) rfl (fun w' hw' => (E.move k159)) ?_
        refine FB.t (i := 5) (bs 9 55) rfl (SP.nil S167.sl) rfl (fun w' hw' => (E.cutS (kl := .i64) (kh := .i64) Tryz.underlying9 rfl (.inr ⟨_, rfl, rfl⟩) (.inl ⟨rfl, rfl⟩) h104)) ?_
        refine FB.all1 (i := 3) (by kernel_rfl) ?_
        ·
         refine FC.call (l' := (bs 9 63)) rfl (by kernel_rfl) rfl rfl rfl (E.call Tryz.call26 (A3 rfl rfl rfl)) (w_impl_join S167.sl z124 v87 r81.1 (h88.mono ((((i92.tr i109).tr r133.inc).tr i139).tr i153)) v134 r128.1 (h135.mono (i139.tr i153)) hr33) ?_
         rintro e w89 ⟨H43, v101, rfl, r100, h102⟩
         refine ⟨_, rfl, ?_⟩
         have S99 := S167.call r100
         refine ⟨(SP.nil (Sl.of_inc r100.inc S99.sl)), ?_⟩
         refine FB.t (i := 6) (bs 9 127) rfl (SP.nil (Sl.of_inc r100.inc S99.sl)) rfl (fun w' hw' => (E.assign (v := v101) rfl)) ?_
         refine FB.t (i := 7) (bs 9 255) rfl (SP.nil (Sl.of_inc r100.inc S99.sl)) rfl (fun w' hw' => (E.assign (v := Value.string z103) rfl)) ?_
         refine FB.t (i := 8) (bs 9 511) rfl (SP.nil (Sl.of_inc r100.inc S99.sl)) rfl (fun w' hw' => (E.assign (v := Value.bool true) rfl)) ?_
         exact FB.done (by kernel_rfl) ⟨_, _, S99, r100.inc, h102, rfl, rfl, rfl⟩
       ·
        rintro f170 w169 ⟨H148, v105, S149, i168, h136, k171, k172, k173⟩
        refine FW.ret ?_
        obtain rfl := Option.some.inj hp
        exact ⟨.inr rfl, res3 rfl k171 k172 k173 ⟨_, _, rfl, S149.run, h136⟩⟩
theorem w_impl_parseFrom_F (n : Nat) : ∀ {Ha : GH} {wa : World} (hs : Sl Ha wa) (a0 : ByteArray) {r : (Fo × ByteArray × Bool)} (hp : PF.impl_parseFrom_F n a0 = some r), Calls Tryz.prog 49 #[Value.string a0] wa (p_impl_parseFrom Ha wa r) := by
 induction n with
 | zero => intros; rename_i hp; exact nomatch hp
 | succ n ih => exact w_impl_parseFrom_B (rec_impl_parseFrom := PF.impl_parseFrom_F n) ih
theorem w_impl_parseFrom {Ha : GH} {wa : World} (hs : Sl Ha wa) (a0 : ByteArray) {r : (Fo × ByteArray × Bool)} (hp : PF.impl_parseFrom a0 = some r) :
  Calls Tryz.prog 49 #[Value.string a0] wa (p_impl_parseFrom Ha wa r) := w_impl_parseFrom_F deep hs a0 hp

@[reducible] def p_impl_parse (Ha : GH) (wa : World) (r : (Fo × Bool)) : Ending → World → Prop :=
 fun e w' => ∃ H' : GH, ∃ v0 : Value, e = .returned (Value.tuple #[v0, Value.bool r.2]) ∧ Run wa.heap.size Ha wa H' w' ∧ FAt H' v0 r.1
theorem w_impl_parse {Ha : GH} {wa : World} (hs : Sl Ha wa) (a0 : ByteArray) {r : (Fo × Bool)} (hp : (PF.impl_parse a0) = some r) :
  Calls Tryz.prog 21 #[Value.string a0] wa (p_impl_parse Ha wa r) := by
 unfold PF.impl_parse at hp
 have S0 := St.init hs
 refine calls_go (N := 23) (args := [Value.string a0]) Tryz.func21 rfl rfl rfl ?_
 refine FW.seq (FW.region ?_)
 refine FL.v (E.assign (v := Value.pointer none) rfl) ?_
 refine FL.v (E.assign (v := Value.bool false) rfl) ?_
 refine FL.nil (FW.seq (FW.seq (FW.region ?_)))
 refine FL.v (E.move (v := Value.string a0) rfl) ?_
 refine FL.v (E.lenS Tryz.runUnderlying9 rfl) ?_
 refine FL.v (E.gtr rfl rfl) ?_
 refine FL.nil ?_
 rcases ifB hp with ⟨c21, hp⟩ | ⟨c21, hp⟩
 ·
  refine FW.condT rfl c21 ?_
  refine FW.seq (FW.region ?_)
  refine FL.v (E.assign (v := Value.pointer none) rfl) ?_
  refine FL.v (E.assign (v := Value.bool false) rfl) ?_
  refine FL.nil ?_
  refine FW.ret ?_
  obtain rfl := Option.some.inj hp
  exact ⟨.inr rfl, res2 rfl rfl rfl ⟨_, _, rfl, S0.run, FAt.nil⟩⟩
 ·
  refine FW.condF rfl c21 ?_
  refine FW.skip (FW.seq (FW.region ?_))
  refine FL.v (E.move (v := Value.string a0) rfl) ?_
  obtain ⟨r22, hr23, hp⟩ := bnd hp
  refine FL.call rfl rfl rfl (E.call Tryz.call49 (A1 rfl)) (w_impl_parseFrom S0.sl a0 hr23) ?_
  rintro e w25 ⟨H24, v28, rfl, r27, h29⟩
  refine ⟨_, rfl, ?_⟩
  have S26 := S0.call r27
  refine FL.v (E.move (v := Value.tuple #[v28, Value.string r22.2.1, Value.bool r22.2.2]) rfl) ?_
  refine FL.v (E.extract (i := 0) rfl rfl) ?_
  refine FL.v (E.extract (i := 1) rfl rfl) ?_
  refine FL.v (E.extract (i := 2) rfl rfl) ?_
  refine FL.v (E.assign (v := v28) rfl) ?_
  refine FL.v (E.assign (v := Value.string r22.2.1) rfl) ?_
  refine FL.v (E.assign (v := Value.bool r22.2.2) rfl) ?_
  refine FL.nil (FW.seq (FW.seq (FW.region ?_)))
  refine FL.v (E.move (v := Value.bool r22.2.2) rfl) ?_
  refine FL.v (E.not rfl) ?_
  refine FL.v (E.move (v := Value.bool (!r22.2.2)) rfl) ?_
  refine FL.cut 3 (fun f w => ∃ H : GH, St Ha wa H w [] ∧ Inc H24 H ∧ f 4 = v28 ∧ f 21 = Value.bool (bif (!r22.2.2) then true else (!(r22.2.1.toList == (ByteArray.mk #[]).toList)))) ?_ ?_
  ·
   rcases bcase (!r22.2.2) with c36 | c36
   ·
    refine FL.skip (wF_no rfl rfl rfl c36) rfl ?_
    refine FL.skip (wF_no rfl rfl rfl c36) rfl ?_
    refine FL.v (E.pickT rfl c36 rfl) ?_
    exact FL.nil ⟨rfl, _, S26, (Inc.rfl _), rfl, (congrArg Value.bool (bifT c36).symm)⟩
   ·
    refine FL.val (wF_yes rfl rfl rfl c36) rfl rfl (E.move (v := Value.string r22.2.1) rfl) ?_
    refine FL.val (wF_yes rfl rfl rfl c36) rfl rfl (E.neqS rfl rfl) ?_
    refine FL.v (E.pickF rfl c36 rfl) ?_
    exact FL.nil ⟨rfl, _, S26, (Inc.rfl _), rfl, (congrArg Value.bool (bifF c36).symm)⟩
  rintro f35 w34 ⟨H31, S32, i33, k37, k38⟩
  refine FL.nil ?_
  rcases ifB hp with ⟨c39, hp⟩ | ⟨c39, hp⟩
  ·
   refine FW.condT k38 c39 ?_
   refine FW.seq (FW.region ?_)
   refine FL.v (E.assign (v := Value.pointer none) rfl) ?_
   refine FL.v (E.assign (v := Value.bool false) rfl) ?_
   refine FL.nil ?_
   refine FW.ret ?_
   obtain rfl := Option.some.inj hp
   exact ⟨.inr rfl, res2 rfl rfl rfl ⟨_, _, rfl, S32.run, FAt.nil⟩⟩
  ·
   refine FW.condF k38 c39 ?_
   refine FW.skip (FW.seq (FW.region ?_))
   refine FL.v (E.move k37) ?_
   refine FL.v (E.assign (v := v28) rfl) ?_
   refine FL.v (E.assign (v := Value.bool true) rfl) ?_
   refine FL.nil ?_
   refine FW.ret ?_
   obtain rfl := Option.some.inj hp
   exact ⟨.inr rfl, res2 rfl rfl rfl ⟨_, _, rfl, S32.run, (h29.mono i33)⟩⟩

theorem w_impl_IsFormula {Ha : GH} {wa : World} (hs : Sl Ha wa) (a0 : ByteArray) {r : Bool} (hp : (PF.impl_IsFormula a0) = some r) :
  Calls Tryz.prog 65 #[Value.string a0] wa (Sc Ha wa (Value.bool r)) := by
 unfold PF.impl_IsFormula at hp
 have S0 := St.init hs
 refine calls_go (N := 11) (args := [Value.string a0]) Tryz.func65 rfl rfl rfl ?_
 refine FW.seq (FW.region ?_)
 refine FL.v (E.assign (v := Value.bool false) rfl) ?_
 refine FL.nil (FW.seq (FW.region ?_))
 refine FL.v (E.move (v := Value.string a0) rfl) ?_
 obtain ⟨r21, hr22, hp⟩ := bnd hp
 refine FL.call rfl rfl rfl (E.call Tryz.call21 (A1 rfl)) (w_impl_parse S0.sl a0 hr22) ?_
 rintro e w24 ⟨H23, v27, rfl, r26, h28⟩
 refine ⟨_, rfl, ?_⟩
 have S25 := S0.call r26
 refine FL.v (E.move (v := Value.tuple #[v27, Value.bool r21.2]) rfl) ?_
 refine FL.v (E.extract (i := 0) rfl rfl) ?_
 refine FL.v (E.extract (i := 1) rfl rfl) ?_
 refine FL.v (E.assign (v := v27) rfl) ?_
 refine FL.v (E.assign (v := Value.bool r21.2) rfl) ?_
 refine FL.nil (FW.seq (FW.region ?_))
 refine FL.v (E.move (v := Value.bool r21.2) rfl) ?_
 refine FL.v (E.assign (v := Value.bool r21.2) rfl) ?_
 refine FL.nil ?_
 refine FW.ret ?_
 obtain rfl := Option.some.inj hp
 exact ⟨.inr rfl, res1 rfl rfl ⟨rfl, S25.back⟩⟩

theorem w_impl_fregeOk_1 {Ha : GH} {wa : World} (hs : Sl Ha wa) (a0 : ByteArray) {r : Bool} (hp : (PF.impl_fregeOk_1 a0) = some r) :
  Calls Tryz.prog 64 #[Value.string a0] wa (Sc Ha wa (Value.bool r)) := by
 unfold PF.impl_fregeOk_1 at hp
 have S0 := St.init hs
 refine calls_go (N := 6) (args := [Value.string a0]) Tryz.func64 rfl rfl rfl ?_
 refine FW.seq (FW.region ?_)
 refine FL.v (E.assign (v := Value.bool false) rfl) ?_
 refine FL.nil (FW.seq (FW.region ?_))
 refine FL.v (E.move (v := Value.string a0) rfl) ?_
 obtain ⟨r21, hr22, hp⟩ := bnd hp
 refine FL.call rfl rfl rfl (E.call Tryz.call65 (A1 rfl)) (w_impl_IsFormula S0.sl a0 hr22) ?_
 rintro e w23 ⟨rfl, r24⟩
 refine ⟨_, rfl, ?_⟩
 have S25 := S0.call r24
 refine FL.v (E.not rfl) ?_
 refine FL.v (E.assign (v := Value.bool (!r21)) rfl) ?_
 refine FL.nil ?_
 refine FW.ret ?_
 obtain rfl := Option.some.inj hp
 exact ⟨.inr rfl, res1 rfl rfl ⟨rfl, S25.back⟩⟩

theorem w_impl_fregeOk {Ha : GH} {wa : World} (hs : Sl Ha wa) (v0 : Value) (a0 : List ByteArray) (p0 : RSl Ha eS 1 v0 a0) (v1 : Value) (a1 : List FregeStep) (p1 : RSl Ha eFregeStep 4 v1 a1) {r : Bool} (hp : (PF.impl_fregeOk a0 a1) = some r) :
  Calls Tryz.prog 47 #[v0, v1] wa (Sc Ha wa (Value.bool r)) := by
 unfold PF.impl_fregeOk at hp
 have S0 := St.init hs
 refine calls_go (N := 18) (args := [v0, v1]) Tryz.func47 rfl rfl rfl ?_
 refine FW.seq (FW.region ?_)
 refine FL.v (E.assign (v := Value.bool false) rfl) ?_
 refine FL.nil (FW.seq (FW.region ?_))
 refine FL.v (E.move (v := v0) rfl) ?_
 refine FL.v (E.lenP te24 rfl p0) ?_
 refine FL.v (E.leq rfl rfl) ?_
 refine FL.v (E.move (v := Value.bool (decide ((len a0) ≤ 6))) rfl) ?_
 refine FL.cut 4 (fun f w => ∃ H : GH, St Ha wa H w [] ∧ Inc Ha H ∧ f 0 = v0 ∧ f 12 = Value.bool (bif (decide ((len a0) ≤ 6)) then (decide ((len a1) ≤ 80)) else false)) ?_ ?_
 ·
  rcases bcase (decide ((len a0) ≤ 6)) with c27 | c27
  ·
   refine FL.val (wF_yes rfl rfl rfl c27) rfl rfl (E.move (v := v1) rfl) ?_
   refine FL.val (wF_yes rfl rfl rfl c27) rfl rfl (E.lenP te25 rfl p1) ?_
   refine FL.val (wF_yes rfl rfl rfl c27) rfl rfl (E.leq rfl rfl) ?_
   refine FL.v (E.pickT rfl c27 rfl) ?_
   exact FL.nil ⟨rfl, _, S0, (Inc.rfl _), rfl, (congrArg Value.bool (bifT c27).symm)⟩
  ·
   refine FL.skip (wF_no rfl rfl rfl c27) rfl ?_
   refine FL.skip (wF_no rfl rfl rfl c27) rfl ?_
   refine FL.skip (wF_no rfl rfl rfl c27) rfl ?_
   refine FL.v (E.pickF rfl c27 rfl) ?_
   exact FL.nil ⟨rfl, _, S0, (Inc.rfl _), rfl, (congrArg Value.bool (bifF c27).symm)⟩
 rintro f26 w25 ⟨H22, S23, i24, k28, k29⟩
 refine FL.v (E.move k29) ?_
 obtain ⟨t35, hqt35, hp⟩ := bnd hp
 refine FL.cut 4 (fun f w => ∃ H : GH, St Ha wa H w [] ∧ Inc H22 H ∧ f 17 = Value.bool t35) ?_ ?_
 ·
  clear hp; have hp := hqt35; clear hqt35
  rcases ifB hp with ⟨c41, hp⟩ | ⟨c41, hp⟩
  ·
   refine FL.val (wF_yes rfl rfl rfl c41) rfl rfl (E.move k28) ?_
   obtain ⟨r42, hr43, hp⟩ := bnd hp
   refine FL.call (wF_yes rfl rfl rfl c41) rfl rfl (E.call Tryz.call63 (A2 rfl rfl)) (w_slices_ContainsFunc_string_string S23.sl v0 a0 (p0.mono i24) (Value.func (.func 64) #[] #[]) (fun x0 => PF.impl_fregeOk_1 x0) (fun H2 w2 hi2 hs2 x0 r hr => ⟨64, #[], rfl, Tryz.call64, w_impl_fregeOk_1 hs2 x0  hr⟩) hr43) ?_
   rintro e w44 ⟨rfl, r45⟩
   refine ⟨_, rfl, ?_⟩
   have S46 := S23.call r45
   refine FL.val (wF_yes rfl rfl rfl c41) rfl rfl (E.not rfl) ?_
   obtain rfl := Option.some.inj hp
   refine FL.v (E.pickT rfl c41 rfl) ?_
   exact FL.nil ⟨rfl, _, S46, (Inc.rfl _), rfl⟩
  ·
   refine FL.skip (wF_no rfl rfl rfl c41) rfl ?_
   refine FL.skip (wF_no rfl rfl rfl c41) rfl ?_
   refine FL.skip (wF_no rfl rfl rfl c41) rfl ?_
   obtain rfl := Option.some.inj hp
   refine FL.v (E.pickF rfl c41 rfl) ?_
   exact FL.nil ⟨rfl, _, S23, (Inc.rfl _), rfl⟩
 rintro f40 w39 ⟨H36, S37, i38, k47⟩
 refine FL.v (E.assign k47) ?_
 refine FL.nil ?_
 refine FW.ret ?_
 obtain rfl := Option.some.inj hp
 exact ⟨.inr rfl, res1 rfl rfl ⟨rfl, S37.back⟩⟩

theorem w_impl_within {Ha : GH} {wa : World} (hs : Sl Ha wa) (a0 : Int) (a1 : Int) (a2 : Int) :
  Calls Tryz.prog 20 #[Value.int .i64 a0, Value.int .i64 a1, Value.int .i64 a2] wa (Sc Ha wa (Value.bool (PF.impl_within a0 a1 a2))) := by
 obtain ⟨r, hp⟩ : ∃ r, (PF.impl_within a0 a1 a2) = r := ⟨_, rfl⟩
 rw [hp]
 unfold PF.impl_within at hp
 have S0 := St.init hs
 refine calls_go (N := 15) (args := [Value.int .i64 a0, Value.int .i64 a1, Value.int .i64 a2]) Tryz.func20 rfl rfl rfl ?_
 refine FW.seq (FW.region ?_)
 refine FL.v (E.assign (v := Value.bool false) rfl) ?_
 refine FL.nil (FW.seq (FW.region ?_))
 refine FL.v (E.move (v := Value.int .i64 a0) rfl) ?_
 refine FL.v (E.move (v := Value.int .i64 a1) rfl) ?_
 refine FL.v (E.geq rfl rfl) ?_
 refine FL.v (E.move (v := Value.bool (decide (a1 ≤ a0))) rfl) ?_
 refine FL.cut 4 (fun f w => ∃ H : GH, St Ha wa H w [] ∧ Inc Ha H ∧ f 14 = Value.bool (bif (decide (a1 ≤ a0)) then (decide (a0 ≤ a2)) else false)) ?_ ?_
 ·
  rcases bcase (decide (a1 ≤ a0)) with c27 | c27
  ·
   refine FL.val (wF_yes rfl rfl rfl c27) rfl rfl (E.move (v := Value.int .i64 a0) rfl) ?_
   refine FL.val (wF_yes rfl rfl rfl c27) rfl rfl (E.move (v := Value.int .i64 a2) rfl) ?_
   refine FL.val (wF_yes rfl rfl rfl c27) rfl rfl (E.leq rfl rfl) ?_
   refine FL.v (E.pickT rfl c27 rfl) ?_
   exact FL.nil ⟨rfl, _, S0, (Inc.rfl _), (congrArg Value.bool (bifT c27).symm)⟩
  ·
   refine FL.skip (wF_no rfl rfl rfl c27) rfl ?_
   refine FL.skip (wF_no rfl rfl rfl c27) rfl ?_
   refine FL.skip (wF_no rfl rfl rfl c27) rfl ?_
   refine FL.v (E.pickF rfl c27 rfl) ?_
   exact FL.nil ⟨rfl, _, S0, (Inc.rfl _), (congrArg Value.bool (bifF c27).symm)⟩
 rintro f26 w25 ⟨H22, S23, i24, k28⟩
 refine FL.v (E.assign k28) ?_
 refine FL.nil ?_
 refine FW.ret ?_
 obtain rfl := hp
 exact ⟨.inr rfl, res1 rfl rfl ⟨rfl, S23.back⟩⟩

end Go.Proofs
