/- Part of the walks and plain laws behind the claim: it proves helpers, under no condition beyond their own. -/
import Derived.Test.YtdkfkiifbagnnaaGreatFcLB
import Derived.Test.YtdkfkiifbagnnaaGreatFcSh
import Derived.Test.YtdkfkiifbagnnaaGreatFcPf
import Derived.Test.YtdkfkiifbagnnaaGreatProg
set_option linter.unusedVariables false
set_option maxRecDepth 100000
namespace Go.Proofs
open Go.Mr Go.Pu Go.PF Go.RowKit

def eCnf : Enc Cnf := ⟨fun H cs s => ∃ v0, cs = [Value.int .i64 s.vars, v0] ∧ RSl H (eL eI 1) 1 v0 s.clauses, fun hi ⟨v0, h, h0⟩ => ⟨_, h, h0.mono hi⟩, by rintro H cs s ⟨v0, rfl, h0⟩; exact (ones_cons rfl (ones_cons h0.one ones_nil)), by rintro H cs s ⟨v0, rfl, h0⟩ b hb; obtain ⟨u, hu, hn⟩ := mem_bl hb; simp only [List.mem_cons, List.not_mem_nil, or_false] at hu; rcases hu with rfl | rfl <;> first | (cases hn; done) | exact h0.dom b (mem_bl1 hn)⟩
def eGate : Enc Gate := ⟨fun H cs s => cs = [Value.int .i64 s.kind, Value.int .i64 s.a, Value.int .i64 s.b], fun _ h => h, by rintro H cs s rfl; exact (ones_cons rfl (ones_cons rfl (ones_cons rfl ones_nil))), by rintro H cs s rfl b hb; obtain ⟨u, hu, hn⟩ := mem_bl hb; simp only [List.mem_cons, List.not_mem_nil, or_false] at hu; rcases hu with rfl | rfl | rfl <;> cases hn⟩
theorem eGate_open {H : GH} {cs : List Value} {s : Gate} (h : eGate.rel H cs s) : cs = [Value.int .i64 s.kind, Value.int .i64 s.a, Value.int .i64 s.b] := h

def Fn_Fo_Fo_to_I (P : Program) (H : GH) (v : Value) (p : Fo → Fo → Option Int) : Prop :=
 ∀ (H' : GH) (w' : World), Inc H H' → Sl H' w' → ∀ (x0 : Fo) (y0_0 : Value) (_z0_0 : FAt H' y0_0 x0) (x1 : Fo) (y1_0 : Value) (_z1_0 : FAt H' y1_0 x1) (r : Int), p x0 x1 = some r →
  ∃ (fid : Nat) (cs : Array Value), v = Value.func (.func fid) #[] cs ∧ (∀ args w, (callFunc fid args).run P w = .ok (.enter fid args) w) ∧ Calls P fid (#[y0_0, y1_0] ++ cs) w' (Sc H' w' (Value.int .i64 r))
def Fn_Fo_Fo_to_B (P : Program) (H : GH) (v : Value) (p : Fo → Fo → Option Bool) : Prop :=
 ∀ (H' : GH) (w' : World), Inc H H' → Sl H' w' → ∀ (x0 : Fo) (y0_0 : Value) (_z0_0 : FAt H' y0_0 x0) (x1 : Fo) (y1_0 : Value) (_z1_0 : FAt H' y1_0 x1) (r : Bool), p x0 x1 = some r →
  ∃ (fid : Nat) (cs : Array Value), v = Value.func (.func fid) #[] cs ∧ (∀ args w, (callFunc fid args).run P w = .ok (.enter fid args) w) ∧ Calls P fid (#[y0_0, y1_0] ++ cs) w' (Sc H' w' (Value.bool r))
theorem Fn_Fo_Fo_to_B.mono {P : Program} {H H' : GH} {v : Value} {p : Fo → Fo → Option Bool} (h : Fn_Fo_Fo_to_B P H v p) (hi : Inc H H') : Fn_Fo_Fo_to_B P H' v p :=
 fun H2 w2 h2 => h H2 w2 (hi.tr h2)

def Fn_I_I_to_I (P : Program) (H : GH) (v : Value) (p : Int → Int → Option Int) : Prop :=
 ∀ (H' : GH) (w' : World), Inc H H' → Sl H' w' → ∀ (x0 : Int) (x1 : Int) (r : Int), p x0 x1 = some r →
  ∃ (fid : Nat) (cs : Array Value), v = Value.func (.func fid) #[] cs ∧ (∀ args w, (callFunc fid args).run P w = .ok (.enter fid args) w) ∧ Calls P fid (#[Value.int .i64 x0, Value.int .i64 x1] ++ cs) w' (Sc H' w' (Value.int .i64 r))
def Fn_List_Int_to_B (P : Program) (H : GH) (v : Value) (p : (List Int) → Option Bool) : Prop :=
 ∀ (H' : GH) (w' : World), Inc H H' → Sl H' w' → ∀ (x0 : List Int) (y0_0 : Value) (_z0_0 : RSl H' eI 1 y0_0 x0) (r : Bool), p x0 = some r →
  ∃ (fid : Nat) (cs : Array Value), v = Value.func (.func fid) #[] cs ∧ (∀ args w, (callFunc fid args).run P w = .ok (.enter fid args) w) ∧ Calls P fid (#[y0_0] ++ cs) w' (Sc H' w' (Value.bool r))
theorem Fn_List_Int_to_B.mono {P : Program} {H H' : GH} {v : Value} {p : (List Int) → Option Bool} (h : Fn_List_Int_to_B P H v p) (hi : Inc H H') : Fn_List_Int_to_B P H' v p :=
 fun H2 w2 h2 => h H2 w2 (hi.tr h2)

def Fn_I_to_B (P : Program) (H : GH) (v : Value) (p : Int → Option Bool) : Prop :=
 ∀ (H' : GH) (w' : World), Inc H H' → Sl H' w' → ∀ (x0 : Int) (r : Bool), p x0 = some r →
  ∃ (fid : Nat) (cs : Array Value), v = Value.func (.func fid) #[] cs ∧ (∀ args w, (callFunc fid args).run P w = .ok (.enter fid args) w) ∧ Calls P fid (#[Value.int .i64 x0] ++ cs) w' (Sc H' w' (Value.bool r))
theorem Fn_I_to_B.mono {P : Program} {H H' : GH} {v : Value} {p : Int → Option Bool} (h : Fn_I_to_B P H v p) (hi : Inc H H') : Fn_I_to_B P H' v p :=
 fun H2 w2 h2 => h H2 w2 (hi.tr h2)

theorem sg118 : Tryz.prog.eqGuardType Tryz.prog.depth 118 = false := by kernel_rfl
set_option linter.unusedSimpArgs false in
theorem sq118 (a0 : Int) (a1 : Int) (a2 : Int) (b0 : Int) (b1 : Int) (b2 : Int) (w : World) : (Op.equalIn 10000 118 (.agg #[Value.int .i64 a0, Value.int .i64 a1, Value.int .i64 a2]) (.agg #[Value.int .i64 b0, Value.int .i64 b1, Value.int .i64 b2])).run Tryz.prog w = .ok ((a0 == b0) && ((a1 == b1) && (a2 == b2))) w := by
 have u3 := Tryz.underlying3
 have i3 := Tryz.isAgg3
 have z3 := Tryz.sizeOf3
 have hS : Tryz.prog.underlying 118 = some (.struct (Tryz.prog.fieldsOf 118)) := by kernel_rfl
 rw [show (10000 : Nat) = 9999 + 1 from rfl, run_equalIn_agg w 9999 118 _ _ hS (by kernel_rfl)]
 simp only [Program.fieldsOf, Tryz.underlying118]
 go_simp
 by_cases h0 : a0 = b0 <;> by_cases h1 : a1 = b1 <;> by_cases h2 : a2 = b2 <;> simp [h0, h1, h2]
theorem te106 : TE Tryz.prog 106 101 1 (.pointer none) := ⟨Tryz.underlying106, ⟨Tryz.t101, Tryz.type101, rfl, rfl, by decide⟩, rfl, by decide⟩
theorem te22 : TE Tryz.prog 22 9 1 (.string ByteArray.empty) := ⟨Tryz.underlying22, ⟨Tryz.t9, Tryz.type9, rfl, rfl, by decide⟩, rfl, by decide⟩
theorem te41 : TE Tryz.prog 41 5 1 (.int .u8 0) := ⟨Tryz.underlying41, ⟨Tryz.t5, Tryz.type5, rfl, rfl, by decide⟩, rfl, by decide⟩
theorem te44 : TE Tryz.prog 44 82 1 (.slice none 0 0) := ⟨Tryz.underlying44, ⟨Tryz.t82, Tryz.type82, rfl, rfl, by decide⟩, rfl, by decide⟩
theorem te50 : TE Tryz.prog 50 118 3 (.agg #[(.int .i64 0), (.int .i64 0), (.int .i64 0)]) := ⟨Tryz.underlying50, ⟨Tryz.t118, Tryz.type118, rfl, rfl, by decide⟩, rfl, by decide⟩
theorem te81 : TE Tryz.prog 81 4 1 (.bool false) := ⟨Tryz.underlying81, ⟨Tryz.t4, Tryz.type4, rfl, rfl, by decide⟩, rfl, by decide⟩
theorem te82 : TE Tryz.prog 82 3 1 (.int .i64 0) := ⟨Tryz.underlying82, ⟨Tryz.t3, Tryz.type3, rfl, rfl, by decide⟩, rfl, by decide⟩
theorem tf109_0 : TF Tryz.prog 109 0 0 := ⟨_, _, _, Tryz.underlying109, rfl, rfl, Tryz.sizeOf5, by decide⟩
theorem tf109_1 : TF Tryz.prog 109 1 1 := ⟨_, _, _, Tryz.underlying109, rfl, rfl, Tryz.sizeOf101, by decide⟩
theorem tf109_2 : TF Tryz.prog 109 2 2 := ⟨_, _, _, Tryz.underlying109, rfl, rfl, Tryz.sizeOf101, by decide⟩
theorem tf109_3 : TF Tryz.prog 109 3 3 := ⟨_, _, _, Tryz.underlying109, rfl, rfl, Tryz.sizeOf9, by decide⟩
theorem tf118_0 : TF Tryz.prog 118 0 0 := ⟨_, _, _, Tryz.underlying118, rfl, rfl, Tryz.sizeOf3, by decide⟩
theorem tf118_1 : TF Tryz.prog 118 1 1 := ⟨_, _, _, Tryz.underlying118, rfl, rfl, Tryz.sizeOf3, by decide⟩
theorem tf118_2 : TF Tryz.prog 118 2 2 := ⟨_, _, _, Tryz.underlying118, rfl, rfl, Tryz.sizeOf3, by decide⟩
theorem tf151_0 : TF Tryz.prog 151 0 0 := ⟨_, _, _, Tryz.underlying151, rfl, rfl, Tryz.sizeOf41, by decide⟩
theorem tf151_1 : TF Tryz.prog 151 1 1 := ⟨_, _, _, Tryz.underlying151, rfl, rfl, Tryz.sizeOf3, by decide⟩
theorem tf151_2 : TF Tryz.prog 151 2 2 := ⟨_, _, _, Tryz.underlying151, rfl, rfl, Tryz.sizeOf149, by decide⟩
theorem tf46_0 : TF Tryz.prog 46 0 0 := ⟨_, _, _, Tryz.underlying46, rfl, rfl, Tryz.sizeOf3, by decide⟩
theorem tf46_1 : TF Tryz.prog 46 1 1 := ⟨_, _, _, Tryz.underlying46, rfl, rfl, Tryz.sizeOf44, by decide⟩
theorem w_laws_rBig {Ha : GH} {wa : World} (hs : Sl Ha wa) (v0 : Value) (a0 : List Int) (p0 : RSl Ha (eN .u8) 1 v0 a0) :
  Calls Tryz.prog 28 #[v0] wa (Sc Ha wa (Value.bool (PF.laws_rBig a0))) := by
 obtain ⟨r, hp⟩ : ∃ r, (PF.laws_rBig a0) = r := ⟨_, rfl⟩
 rw [hp]
 unfold PF.laws_rBig at hp
 have S0 := St.init hs
 refine calls_go (N := 6) (args := [v0]) Tryz.func28 rfl rfl rfl ?_
 refine FW.seq (FW.region ?_)
 refine FL.v (E.assign (v := Value.bool false) rfl) ?_
 refine FL.nil (FW.seq (FW.region ?_))
 refine FL.v (E.move (v := v0) rfl) ?_
 refine FL.v (E.lenP te41 rfl p0) ?_
 refine FL.v (E.gtr rfl rfl) ?_
 refine FL.v (E.assign (v := Value.bool (decide (65536 < (len a0)))) rfl) ?_
 refine FL.nil ?_
 refine FW.ret ?_
 obtain rfl := hp
 exact ⟨.inr rfl, res1 rfl rfl ⟨rfl, S0.back⟩⟩

@[reducible] def p_spec_l1Cur_next (H0 : GH) (w0 : World) (Ha : GH) (L : List MO) (b0 : Nat) (r : (Int × l1Cur)) : Ending → World → Prop :=
 fun e w' => ∃ H' : GH, ∃ v0_0r : Value, e = .returned (Value.int .i64 r.1) ∧ (St H0 w0 H' w' (.box b0 151 [v0_0r, Value.int .i64 r.2.at_, Value.int .u64 r.2.seed] :: L) ∧ Inc Ha H') ∧ RSl H' (eN .u8) 1 v0_0r r.2.code
set_option maxHeartbeats 4000000 in
theorem w_spec_l1Cur_next {H0 Ha : GH} {w0 wa : World} {L : List MO} {a0 : l1Cur} {b0 : Nat} {v0_0 : Value} (S0 : St H0 w0 Ha wa (.box b0 151 [v0_0, Value.int .i64 a0.at_, Value.int .u64 a0.seed] :: L)) (p0_0 : RSl Ha (eN .u8) 1 v0_0 a0.code) {r : (Int × l1Cur)} (hp : (PF.spec_l1Cur_next a0) = some r) :
  Calls Tryz.prog 215 #[Value.pointer (some (⟨b0, 0, none⟩ : Addr))] wa (p_spec_l1Cur_next H0 w0 Ha L b0 r) := by
 unfold PF.spec_l1Cur_next at hp
 refine calls_go (N := 62) (args := [Value.pointer (some (⟨b0, 0, none⟩ : Addr))]) Tryz.func215 rfl rfl rfl ?_
 refine FW.seq (FW.region ?_)
 refine FL.v (E.assign (v := Value.int .i64 0) rfl) ?_
 refine FL.nil (FW.seq (FW.region ?_))
 refine FL.v (E.assign (v := Value.int .i64 0) rfl) ?_
 refine FL.nil (FW.seq (FW.seq ?_))
 refine FW.draw (fun w' => Run wa.heap.size Ha wa Ha w') (by kernel_rfl) (by kernel_rfl) (run_drew S0.sl) ?_
 refine FD.val rfl rfl rfl (fun w' hw' => (E.move (v := Value.pointer (some (⟨b0, 0, none⟩ : Addr))) rfl)) ?_
 refine FD.val rfl rfl rfl (fun w' hw' => (E.nilCheck rfl)) ?_
 refine FD.val rfl rfl rfl (fun w' hw' => (E.fieldAddr tf151_1 rfl)) ?_
 refine FD.val rfl rfl rfl (fun w' hw' => (E.load rfl (run_load1 Tryz.isAgg3 ((S0.call hw').box_now (i := 0) rfl) rfl))) ?_
 refine FD.val rfl rfl rfl (fun w' hw' => (E.move (v := Value.pointer (some (⟨b0, 0, none⟩ : Addr))) rfl)) ?_
 refine FD.val rfl rfl rfl (fun w' hw' => (E.nilCheck rfl)) ?_
 refine FD.val rfl rfl rfl (fun w' hw' => (E.fieldAddr tf151_0 rfl)) ?_
 refine FD.val rfl rfl rfl (fun w' hw' => (E.load rfl (run_load1 Tryz.isAgg41 ((S0.call hw').box_now (i := 0) rfl) rfl))) ?_
 refine FD.val rfl rfl rfl (fun w' hw' => (E.lenP te41 rfl p0_0)) ?_
 refine FD.val rfl rfl rfl (fun w' hw' => (E.lss rfl rfl)) ?_
 refine FD.nil ?_
 intro w22 r24
 have S23 := S0.call r24
 obtain ⟨q39, hq, hp⟩ := bndR hp
 refine FW.joinE (S := Int) (X := Empty) (q := q39) (fun s38 f w => ∃ H : GH, St H0 w0 H w (.box b0 151 [v0_0, Value.int .i64 a0.at_, Value.int .u64 a0.seed] :: L) ∧ Inc Ha H ∧ f 0 = Value.pointer (some (⟨b0, 0, none⟩ : Addr)) ∧ f 3 = Value.int .i64 s38) (fun (_ : Empty) _ _ _ => False) ?_ ?_ ?_
 ·
  clear hp; have hp := hq; clear hq
  rcases ifB hp with ⟨c41, hp⟩ | ⟨c41, hp⟩
  ·
   refine FW.condT rfl c41 ?_
   refine FW.draw (fun w' => Run w22.heap.size Ha w22 Ha w') (by kernel_rfl) (by kernel_rfl) (run_drew S23.sl) ?_
   refine FD.val rfl rfl rfl (fun w' hw' => (E.move (v := Value.pointer (some (⟨b0, 0, none⟩ : Addr))) rfl)) ?_
   refine FD.val rfl rfl rfl (fun w' hw' => (E.nilCheck rfl)) ?_
   refine FD.val rfl rfl rfl (fun w' hw' => (E.fieldAddr tf151_0 rfl)) ?_
   refine FD.val rfl rfl rfl (fun w' hw' => (E.load rfl (run_load1 Tryz.isAgg41 ((S23.call hw').box_now (i := 0) rfl) rfl))) ?_
   refine FD.val rfl rfl rfl (fun w' hw' => (E.move (v := Value.pointer (some (⟨b0, 0, none⟩ : Addr))) rfl)) ?_
   refine FD.val rfl rfl rfl (fun w' hw' => (E.nilCheck rfl)) ?_
   refine FD.val rfl rfl rfl (fun w' hw' => (E.fieldAddr tf151_1 rfl)) ?_
   refine FD.val rfl rfl rfl (fun w' hw' => (E.load rfl (run_load1 Tryz.isAgg3 ((S23.call hw').box_now (i := 0) rfl) rfl))) ?_
   obtain ⟨x49, hx50, hp⟩ := bnd hp
   obtain ⟨p43, cs44, pt45, l46, at47, rel48⟩ := p0_0.at hx50
   obtain rfl := eN_open rel48
   refine FD.val rfl rfl rfl (fun w' hw' => (E.indexAddr te41 rfl rfl pt45)) ?_
   refine FD.val rfl rfl rfl (fun w' hw' => (E.load rfl (run_load0 Tryz.isAgg5 (at47.now (S23.call hw').sl) rfl))) ?_
   refine FD.val rfl rfl rfl (fun w' hw' => (E.conv Tryz.runUnderlying5 Tryz.runUnderlying3 rfl)) ?_
   refine FD.val rfl rfl rfl (fun w' hw' => (E.assign (v := Value.int .i64 (wrk true 64 x49)) rfl)) ?_
   refine FD.nil ?_
   intro w51 r53
   have S52 := S23.call r53
   obtain rfl := Option.some.inj hp
   exact ⟨rfl, ⟨_, S52, (Inc.rfl _), rfl, rfl⟩⟩
  ·
   refine FW.condF rfl c41 ?_
   refine FW.skip ?_
   obtain rfl := Option.some.inj hp
   exact ⟨rfl, ⟨_, S23, (Inc.rfl _), rfl, rfl⟩⟩
 ·
  rintro s38 rfl f58 w57 ⟨H54, S55, i56, k59, k60⟩
  replace hp := el_go hp
  refine FW.seq (FW.region ?_)
  refine FL.v (E.move k59) ?_
  refine FL.v (E.nilCheck rfl) ?_
  refine FL.v (E.fieldAddr tf151_1 rfl) ?_
  refine FL.v (E.load rfl (run_load1 Tryz.isAgg3 (S55.box_now (i := 0) rfl) rfl)) ?_
  refine FL.v (E.add rfl rfl) ?_
  refine FL.v (E.nilCheck rfl) ?_
  refine FL.v (E.fieldAddr tf151_1 rfl) ?_
  obtain ⟨w61, run62, S63⟩ := S55.store (P := Tryz.prog) (t := 3) (i := 0) (j := 1) (cs' := [v0_0, Value.int .i64 (wr (a0.at_ + 1)), Value.int .u64 a0.seed]) (l' := (.box b0 151 [v0_0, Value.int .i64 (wr (a0.at_ + 1)), Value.int .u64 a0.seed] :: L)) (v := Value.int .i64 (wr (a0.at_ + 1))) (c := [Value.int .i64 (wr (a0.at_ + 1))]) rfl Tryz.sizeOf3 rfl rfl (ones_cons rfl ones_nil) (Nat.le_of_ble_eq_true rfl) rfl rfl
  refine FL.act rfl rfl (E.store rfl rfl run62) ?_
  refine FL.nil (FW.seq (FW.region ?_))
  refine FL.v (E.move k59) ?_
  refine FL.v (E.move k59) ?_
  refine FL.v (E.nilCheck rfl) ?_
  refine FL.v (E.fieldAddr tf151_2 rfl) ?_
  refine FL.v (E.load rfl (run_load1 Tryz.isAgg149 (S63.box_now (i := 0) rfl) rfl)) ?_
  refine FL.v (E.mulK rfl rfl) ?_
  refine FL.v (E.move k60) ?_
  refine FL.v (E.conv Tryz.runUnderlying3 Tryz.runUnderlying149 rfl) ?_
  refine FL.v (E.addK rfl rfl) ?_
  refine FL.v (E.addK rfl rfl) ?_
  refine FL.v (E.nilCheck rfl) ?_
  refine FL.v (E.fieldAddr tf151_2 rfl) ?_
  obtain ⟨w64, run65, S66⟩ := S63.store (P := Tryz.prog) (t := 149) (i := 0) (j := 2) (cs' := [v0_0, Value.int .i64 (wr (a0.at_ + 1)), Value.int .u64 (wrk false 64 ((wrk false 64 ((wrk false 64 (a0.seed * 6364136223846793005)) + (wrk false 64 s38))) + 337411))]) (l' := (.box b0 151 [v0_0, Value.int .i64 (wr (a0.at_ + 1)), Value.int .u64 (wrk false 64 ((wrk false 64 ((wrk false 64 (a0.seed * 6364136223846793005)) + (wrk false 64 s38))) + 337411))] :: L)) (v := Value.int .u64 (wrk false 64 ((wrk false 64 ((wrk false 64 (a0.seed * 6364136223846793005)) + (wrk false 64 s38))) + 337411))) (c := [Value.int .u64 (wrk false 64 ((wrk false 64 ((wrk false 64 (a0.seed * 6364136223846793005)) + (wrk false 64 s38))) + 337411))]) rfl Tryz.sizeOf149 rfl rfl (ones_cons rfl ones_nil) (Nat.le_of_ble_eq_true rfl) rfl rfl
  refine FL.act rfl rfl (E.store rfl rfl run65) ?_
  refine FL.nil (FW.seq (FW.seq ?_))
  refine FW.draw (fun w' => Run w64.heap.size H54 w64 H54 w') (by kernel_rfl) (by kernel_rfl) (run_drew S66.sl) ?_
  refine FD.val rfl rfl rfl (fun w' hw' => (E.move k59)) ?_
  refine FD.val rfl rfl rfl (fun w' hw' => (E.nilCheck rfl)) ?_
  refine FD.val rfl rfl rfl (fun w' hw' => (E.fieldAddr tf151_1 rfl)) ?_
  refine FD.val rfl rfl rfl (fun w' hw' => (E.load rfl (run_load1 Tryz.isAgg3 ((S66.call hw').box_now (i := 0) rfl) rfl))) ?_
  refine FD.val rfl rfl rfl (fun w' hw' => (E.move k59)) ?_
  refine FD.val rfl rfl rfl (fun w' hw' => (E.nilCheck rfl)) ?_
  refine FD.val rfl rfl rfl (fun w' hw' => (E.fieldAddr tf151_0 rfl)) ?_
  refine FD.val rfl rfl rfl (fun w' hw' => (E.load rfl (run_load1 Tryz.isAgg41 ((S66.call hw').box_now (i := 0) rfl) rfl))) ?_
  refine FD.val rfl rfl rfl (fun w' hw' => (E.lenP te41 rfl p0_0)) ?_
  refine FD.val rfl rfl rfl (fun w' hw' => (E.leq rfl rfl)) ?_
  refine FD.nil ?_
  intro w68 r70
  have S69 := S66.call r70
  rcases ifB hp with ⟨c71, hp⟩ | ⟨c71, hp⟩
  ·
   refine FW.condT rfl c71 ?_
   refine FW.seq (FW.region ?_)
   refine FL.v (E.move k60) ?_
   refine FL.v (E.assign (v := Value.int .i64 s38) rfl) ?_
   refine FL.nil ?_
   refine FW.ret ?_
   obtain rfl := Option.some.inj hp
   exact ⟨.inr rfl, res1 rfl rfl ⟨_, _, rfl, ⟨S69, i56⟩, (p0_0.mono i56)⟩⟩
  ·
   refine FW.condF rfl c71 ?_
   refine FW.skip (FW.seq (FW.region ?_))
   refine FL.v (E.move k59) ?_
   refine FL.v (E.nilCheck rfl) ?_
   refine FL.v (E.fieldAddr tf151_2 rfl) ?_
   refine FL.v (E.load rfl (run_load1 Tryz.isAgg149 (S69.box_now (i := 0) rfl) rfl)) ?_
   refine FL.v (E.shr rfl rfl (by decide)) ?_
   refine FL.v (E.and rfl rfl) ?_
   refine FL.v (E.conv Tryz.runUnderlying149 Tryz.runUnderlying3 rfl) ?_
   refine FL.v (E.assign (v := Value.int .i64 (wrk true 64 (andK false 64 (shrK 64 (wrk false 64 ((wrk false 64 ((wrk false 64 (a0.seed * 6364136223846793005)) + (wrk false 64 s38))) + 337411)) 40) 255))) rfl) ?_
   refine FL.nil ?_
   refine FW.ret ?_
   obtain rfl := Option.some.inj hp
   exact ⟨.inr rfl, res1 rfl rfl ⟨_, _, rfl, ⟨S69, i56⟩, (p0_0.mono i56)⟩⟩
 ·
  intro x40; exact x40.elim

@[reducible] def p_spec_l1Cur_pick (H0 : GH) (w0 : World) (Ha : GH) (L : List MO) (b0 : Nat) (r : (Int × l1Cur)) : Ending → World → Prop :=
 fun e w' => ∃ H' : GH, ∃ v0_0r : Value, e = .returned (Value.int .i64 r.1) ∧ (St H0 w0 H' w' (.box b0 151 [v0_0r, Value.int .i64 r.2.at_, Value.int .u64 r.2.seed] :: L) ∧ Inc Ha H') ∧ RSl H' (eN .u8) 1 v0_0r r.2.code
theorem w_spec_l1Cur_pick {H0 Ha : GH} {w0 wa : World} {L : List MO} {a0 : l1Cur} {b0 : Nat} {v0_0 : Value} (S0 : St H0 w0 Ha wa (.box b0 151 [v0_0, Value.int .i64 a0.at_, Value.int .u64 a0.seed] :: L)) (p0_0 : RSl Ha (eN .u8) 1 v0_0 a0.code) (a1 : Int) {r : (Int × l1Cur)} (hp : (PF.spec_l1Cur_pick a0 a1) = some r) :
  Calls Tryz.prog 171 #[Value.pointer (some (⟨b0, 0, none⟩ : Addr)), Value.int .i64 a1] wa (p_spec_l1Cur_pick H0 w0 Ha L b0 r) := by
 unfold PF.spec_l1Cur_pick at hp
 refine calls_go (N := 20) (args := [Value.pointer (some (⟨b0, 0, none⟩ : Addr)), Value.int .i64 a1]) Tryz.func171 rfl rfl rfl ?_
 refine FW.seq (FW.region ?_)
 refine FL.v (E.assign (v := Value.int .i64 0) rfl) ?_
 refine FL.nil (FW.seq (FW.seq (FW.region ?_)))
 refine FL.v (E.move (v := Value.int .i64 a1) rfl) ?_
 refine FL.v (E.leq rfl rfl) ?_
 refine FL.nil ?_
 rcases ifB hp with ⟨c21, hp⟩ | ⟨c21, hp⟩
 ·
  refine FW.condT rfl c21 ?_
  refine FW.seq (FW.region ?_)
  refine FL.v (E.assign (v := Value.int .i64 0) rfl) ?_
  refine FL.nil ?_
  refine FW.ret ?_
  obtain rfl := Option.some.inj hp
  exact ⟨.inr rfl, res1 rfl rfl ⟨_, _, rfl, ⟨S0, (Inc.rfl _)⟩, p0_0⟩⟩
 ·
  refine FW.condF rfl c21 ?_
  refine FW.skip (FW.seq (FW.region ?_))
  refine FL.v (E.move (v := Value.pointer (some (⟨b0, 0, none⟩ : Addr))) rfl) ?_
  obtain ⟨r22, hr23, hp⟩ := bnd hp
  refine FL.call rfl rfl rfl (E.call Tryz.call215 (A1 rfl)) (w_spec_l1Cur_next (L := (L)) S0 (a0 := a0) p0_0 hr23) ?_
  rintro e w25 ⟨H24, v28, rfl, ⟨S26, i27⟩, h29⟩
  refine ⟨_, rfl, ?_⟩
  have S26 : St H0 w0 H24 w25 (.box b0 151 [v28, Value.int .i64 r22.2.at_, Value.int .u64 r22.2.seed] :: L) := S26
  refine FL.v (E.assign (v := Value.int .i64 r22.1) rfl) ?_
  refine FL.nil (FW.seq (FW.seq (FW.region ?_)))
  refine FL.v (E.move (v := Value.int .i64 a1) rfl) ?_
  refine FL.v (E.gtr rfl rfl) ?_
  refine FL.nil ?_
  rcases ifB hp with ⟨c30, hp⟩ | ⟨c30, hp⟩
  ·
   refine FW.condT rfl c30 ?_
   refine FW.region ?_
   refine FL.v (E.move (v := Value.int .i64 r22.1) rfl) ?_
   refine FL.v (E.mul rfl rfl) ?_
   refine FL.v (E.move (v := Value.pointer (some (⟨b0, 0, none⟩ : Addr))) rfl) ?_
   obtain ⟨r31, hr32, hp⟩ := bnd hp
   refine FL.call rfl rfl rfl (E.call Tryz.call215 (A1 rfl)) (w_spec_l1Cur_next (L := (L)) S26 (a0 := r22.2) h29 hr32) ?_
   rintro e w34 ⟨H33, v37, rfl, ⟨S35, i36⟩, h38⟩
   refine ⟨_, rfl, ?_⟩
   have S35 : St H0 w0 H33 w34 (.box b0 151 [v37, Value.int .i64 r31.2.at_, Value.int .u64 r31.2.seed] :: L) := S35
   refine FL.v (E.add rfl rfl) ?_
   refine FL.v (E.assign (v := Value.int .i64 (wr ((wr (r22.1 * 256)) + r31.1))) rfl) ?_
   refine FL.nil (FW.seq (FW.region ?_))
   refine FL.v (E.move (v := Value.int .i64 (wr ((wr (r22.1 * 256)) + r31.1))) rfl) ?_
   refine FL.v (E.move (v := Value.int .i64 a1) rfl) ?_
   obtain ⟨u40, z39, hp⟩ := bnd hp
   refine FL.v (E.rem rfl rfl (nz_ne z39)) ?_
   refine FL.v (E.assign (v := Value.int .i64 ((wr ((wr (r22.1 * 256)) + r31.1)).tmod a1)) rfl) ?_
   refine FL.nil ?_
   refine FW.ret ?_
   obtain rfl := Option.some.inj hp
   exact ⟨.inr rfl, res1 rfl rfl ⟨_, _, rfl, ⟨S35, (i27.tr i36)⟩, h38⟩⟩
  ·
   refine FW.condF rfl c30 ?_
   refine FW.skip (FW.seq (FW.region ?_))
   refine FL.v (E.move (v := Value.int .i64 r22.1) rfl) ?_
   refine FL.v (E.move (v := Value.int .i64 a1) rfl) ?_
   obtain ⟨u42, z41, hp⟩ := bnd hp
   refine FL.v (E.rem rfl rfl (nz_ne z41)) ?_
   refine FL.v (E.assign (v := Value.int .i64 (r22.1.tmod a1)) rfl) ?_
   refine FL.nil ?_
   refine FW.ret ?_
   obtain rfl := Option.some.inj hp
   exact ⟨.inr rfl, res1 rfl rfl ⟨_, _, rfl, ⟨S26, i27⟩, h29⟩⟩

@[reducible] def p_spec_l1Cur_among (H0 : GH) (w0 : World) (Ha : GH) (L : List MO) (b0 : Nat) (r : (Int × l1Cur)) : Ending → World → Prop :=
 fun e w' => ∃ H' : GH, ∃ v0_0r : Value, e = .returned (Value.int .i64 r.1) ∧ (St H0 w0 H' w' (.box b0 151 [v0_0r, Value.int .i64 r.2.at_, Value.int .u64 r.2.seed] :: L) ∧ Inc Ha H') ∧ RSl H' (eN .u8) 1 v0_0r r.2.code
theorem w_spec_l1Cur_among {H0 Ha : GH} {w0 wa : World} {L : List MO} {a0 : l1Cur} {b0 : Nat} {v0_0 : Value} (S0 : St H0 w0 Ha wa (.box b0 151 [v0_0, Value.int .i64 a0.at_, Value.int .u64 a0.seed] :: L)) (p0_0 : RSl Ha (eN .u8) 1 v0_0 a0.code) (v1 : Value) (a1 : List Int) (p1 : RSl Ha eI 1 v1 a1) {r : (Int × l1Cur)} (hp : (PF.spec_l1Cur_among a0 a1) = some r) :
  Calls Tryz.prog 214 #[Value.pointer (some (⟨b0, 0, none⟩ : Addr)), v1] wa (p_spec_l1Cur_among H0 w0 Ha L b0 r) := by
 unfold PF.spec_l1Cur_among at hp
 refine calls_go (N := 12) (args := [Value.pointer (some (⟨b0, 0, none⟩ : Addr)), v1]) Tryz.func214 rfl rfl rfl ?_
 refine FW.seq (FW.region ?_)
 refine FL.v (E.assign (v := Value.int .i64 0) rfl) ?_
 refine FL.nil (FW.seq (FW.region ?_))
 refine FL.v (E.move (v := v1) rfl) ?_
 refine FL.v (E.move (v := Value.pointer (some (⟨b0, 0, none⟩ : Addr))) rfl) ?_
 refine FL.v (E.move (v := v1) rfl) ?_
 refine FL.v (E.lenP te82 rfl p1) ?_
 obtain ⟨r21, hr22, hp⟩ := bnd hp
 refine FL.call rfl rfl rfl (E.call Tryz.call171 (A2 rfl rfl)) (w_spec_l1Cur_pick (L := (L)) S0 (a0 := a0) p0_0 (len a1) hr22) ?_
 rintro e w24 ⟨H23, v27, rfl, ⟨S25, i26⟩, h28⟩
 refine ⟨_, rfl, ?_⟩
 have S25 : St H0 w0 H23 w24 (.box b0 151 [v27, Value.int .i64 r21.2.at_, Value.int .u64 r21.2.seed] :: L) := S25
 obtain ⟨x35, hx36, hp⟩ := bnd hp
 obtain ⟨p29, cs30, pt31, l32, at33, rel34⟩ := p1.at hx36
 obtain rfl := eI_open rel34
 refine FL.v (E.indexAddr te82 rfl rfl pt31) ?_
 refine FL.v (E.load rfl (run_load0 Tryz.isAgg3 ((at33.mono i26).now S25.sl) rfl)) ?_
 refine FL.v (E.assign (v := Value.int .i64 x35) rfl) ?_
 refine FL.nil ?_
 refine FW.ret ?_
 obtain rfl := Option.some.inj hp
 exact ⟨.inr rfl, res1 rfl rfl ⟨_, _, rfl, ⟨S25, i26⟩, h28⟩⟩

@[reducible] def p_spec_l1Cur_one (H0 : GH) (w0 : World) (Ha : GH) (L : List MO) (b0 : Nat) (r : (Bool × l1Cur)) : Ending → World → Prop :=
 fun e w' => ∃ H' : GH, ∃ v0_0r : Value, e = .returned (Value.bool r.1) ∧ (St H0 w0 H' w' (.box b0 151 [v0_0r, Value.int .i64 r.2.at_, Value.int .u64 r.2.seed] :: L) ∧ Inc Ha H') ∧ RSl H' (eN .u8) 1 v0_0r r.2.code
theorem w_spec_l1Cur_one {H0 Ha : GH} {w0 wa : World} {L : List MO} {a0 : l1Cur} {b0 : Nat} {v0_0 : Value} (S0 : St H0 w0 Ha wa (.box b0 151 [v0_0, Value.int .i64 a0.at_, Value.int .u64 a0.seed] :: L)) (p0_0 : RSl Ha (eN .u8) 1 v0_0 a0.code) (a1 : Int) {r : (Bool × l1Cur)} (hp : (PF.spec_l1Cur_one a0 a1) = some r) :
  Calls Tryz.prog 248 #[Value.pointer (some (⟨b0, 0, none⟩ : Addr)), Value.int .i64 a1] wa (p_spec_l1Cur_one H0 w0 Ha L b0 r) := by
 unfold PF.spec_l1Cur_one at hp
 refine calls_go (N := 9) (args := [Value.pointer (some (⟨b0, 0, none⟩ : Addr)), Value.int .i64 a1]) Tryz.func248 rfl rfl rfl ?_
 refine FW.seq (FW.region ?_)
 refine FL.v (E.assign (v := Value.bool false) rfl) ?_
 refine FL.nil (FW.seq (FW.region ?_))
 refine FL.v (E.move (v := Value.pointer (some (⟨b0, 0, none⟩ : Addr))) rfl) ?_
 refine FL.v (E.move (v := Value.int .i64 a1) rfl) ?_
 obtain ⟨r21, hr22, hp⟩ := bnd hp
 refine FL.call rfl rfl rfl (E.call Tryz.call171 (A2 rfl rfl)) (w_spec_l1Cur_pick (L := (L)) S0 (a0 := a0) p0_0 a1 hr22) ?_
 rintro e w24 ⟨H23, v27, rfl, ⟨S25, i26⟩, h28⟩
 refine ⟨_, rfl, ?_⟩
 have S25 : St H0 w0 H23 w24 (.box b0 151 [v27, Value.int .i64 r21.2.at_, Value.int .u64 r21.2.seed] :: L) := S25
 refine FL.v (E.eql rfl rfl) ?_
 refine FL.v (E.assign (v := Value.bool (r21.1 == 0)) rfl) ?_
 refine FL.nil ?_
 refine FW.ret ?_
 obtain rfl := Option.some.inj hp
 exact ⟨.inr rfl, res1 rfl rfl ⟨_, _, rfl, ⟨S25, i26⟩, h28⟩⟩

@[reducible] def p_spec_l1Cur_of (H0 : GH) (w0 : World) (Ha : GH) (L : List MO) (b0 : Nat) (r : (ByteArray × l1Cur)) : Ending → World → Prop :=
 fun e w' => ∃ H' : GH, ∃ v0_0r : Value, e = .returned (Value.string r.1) ∧ (St H0 w0 H' w' (.box b0 151 [v0_0r, Value.int .i64 r.2.at_, Value.int .u64 r.2.seed] :: L) ∧ Inc Ha H') ∧ RSl H' (eN .u8) 1 v0_0r r.2.code
theorem w_spec_l1Cur_of {H0 Ha : GH} {w0 wa : World} {L : List MO} {a0 : l1Cur} {b0 : Nat} {v0_0 : Value} (S0 : St H0 w0 Ha wa (.box b0 151 [v0_0, Value.int .i64 a0.at_, Value.int .u64 a0.seed] :: L)) (p0_0 : RSl Ha (eN .u8) 1 v0_0 a0.code) (v1 : Value) (a1 : List ByteArray) (p1 : RSl Ha eS 1 v1 a1) {r : (ByteArray × l1Cur)} (hp : (PF.spec_l1Cur_of a0 a1) = some r) :
  Calls Tryz.prog 173 #[Value.pointer (some (⟨b0, 0, none⟩ : Addr)), v1] wa (p_spec_l1Cur_of H0 w0 Ha L b0 r) := by
 unfold PF.spec_l1Cur_of at hp
 refine calls_go (N := 12) (args := [Value.pointer (some (⟨b0, 0, none⟩ : Addr)), v1]) Tryz.func173 rfl rfl rfl ?_
 refine FW.seq (FW.region ?_)
 refine FL.v (E.assign (v := Value.string (ByteArray.mk #[])) rfl) ?_
 refine FL.nil (FW.seq (FW.region ?_))
 refine FL.v (E.move (v := v1) rfl) ?_
 refine FL.v (E.move (v := Value.pointer (some (⟨b0, 0, none⟩ : Addr))) rfl) ?_
 refine FL.v (E.move (v := v1) rfl) ?_
 refine FL.v (E.lenP te22 rfl p1) ?_
 obtain ⟨r21, hr22, hp⟩ := bnd hp
 refine FL.call rfl rfl rfl (E.call Tryz.call171 (A2 rfl rfl)) (w_spec_l1Cur_pick (L := (L)) S0 (a0 := a0) p0_0 (len a1) hr22) ?_
 rintro e w24 ⟨H23, v27, rfl, ⟨S25, i26⟩, h28⟩
 refine ⟨_, rfl, ?_⟩
 have S25 : St H0 w0 H23 w24 (.box b0 151 [v27, Value.int .i64 r21.2.at_, Value.int .u64 r21.2.seed] :: L) := S25
 obtain ⟨x35, hx36, hp⟩ := bnd hp
 obtain ⟨p29, cs30, pt31, l32, at33, rel34⟩ := p1.at hx36
 obtain rfl := eS_open rel34
 refine FL.v (E.indexAddr te22 rfl rfl pt31) ?_
 refine FL.v (E.load rfl (run_load0 Tryz.isAgg9 ((at33.mono i26).now S25.sl) rfl)) ?_
 refine FL.v (E.assign (v := Value.string x35) rfl) ?_
 refine FL.nil ?_
 refine FW.ret ?_
 obtain rfl := Option.some.inj hp
 exact ⟨.inr rfl, res1 rfl rfl ⟨_, _, rfl, ⟨S25, i26⟩, h28⟩⟩

theorem w_spec_l22Join {Ha : GH} {wa : World} (hs : Sl Ha wa) (a0 : ByteArray) (a1 : ByteArray) (a2 : ByteArray) {r : ByteArray} (hp : (PF.spec_l22Join a0 a1 a2) = some r) :
  Calls Tryz.prog 122 #[Value.string a0, Value.string a1, Value.string a2] wa (Sc Ha wa (Value.string r)) := by
 unfold PF.spec_l22Join at hp
 have S0 := St.init hs
 refine calls_go (N := 14) (args := [Value.string a0, Value.string a1, Value.string a2]) Tryz.func122 rfl rfl rfl ?_
 refine FW.seq (FW.region ?_)
 refine FL.v (E.assign (v := Value.string (ByteArray.mk #[])) rfl) ?_
 refine FL.nil (FW.seq (FW.region ?_))
 refine FL.v (E.move (v := Value.string a1) rfl) ?_
 obtain ⟨z21, h22, hp⟩ := bnd hp
 refine FL.v (E.addT rfl rfl h22) ?_
 refine FL.v (E.move (v := Value.string a0) rfl) ?_
 obtain ⟨z23, h24, hp⟩ := bnd hp
 refine FL.v (E.addT rfl rfl h24) ?_
 refine FL.v (E.move (v := Value.string a2) rfl) ?_
 obtain ⟨z25, h26, hp⟩ := bnd hp
 refine FL.v (E.addT rfl rfl h26) ?_
 obtain ⟨z27, h28, hp⟩ := bnd hp
 refine FL.v (E.addT rfl rfl h28) ?_
 refine FL.v (E.assign (v := Value.string z27) rfl) ?_
 refine FL.nil ?_
 refine FW.ret ?_
 obtain rfl := Option.some.inj hp
 exact ⟨.inr rfl, res1 rfl rfl ⟨rfl, S0.back⟩⟩

@[reducible] def p_spec_l1Cur_formula22 (H0 : GH) (w0 : World) (Ha : GH) (L : List MO) (b0 : Nat) (r : (ByteArray × l1Cur)) : Ending → World → Prop :=
 fun e w' => ∃ H' : GH, ∃ v0_0r : Value, e = .returned (Value.string r.1) ∧ (St H0 w0 H' w' (.box b0 151 [v0_0r, Value.int .i64 r.2.at_, Value.int .u64 r.2.seed] :: L) ∧ Inc Ha H') ∧ RSl H' (eN .u8) 1 v0_0r r.2.code
set_option maxHeartbeats 4000000 in
theorem w_spec_l1Cur_formula22_B {rec_spec_l1Cur_formula22 : l1Cur → Int → Option (ByteArray × l1Cur)} (hrec_spec_l1Cur_formula22 : ∀ {H0 Ha : GH} {w0 wa : World} {L : List MO} {a0 : l1Cur} {b0 : Nat} {v0_0 : Value} (S0 : St H0 w0 Ha wa (.box b0 151 [v0_0, Value.int .i64 a0.at_, Value.int .u64 a0.seed] :: L)) (p0_0 : RSl Ha (eN .u8) 1 v0_0 a0.code) (a1 : Int) {r : (ByteArray × l1Cur)} (hp : rec_spec_l1Cur_formula22 a0 a1 = some r), Calls Tryz.prog 213 #[Value.pointer (some (⟨b0, 0, none⟩ : Addr)), Value.int .i64 a1] wa (p_spec_l1Cur_formula22 H0 w0 Ha L b0 r)) {H0 Ha : GH} {w0 wa : World} {L : List MO} {a0 : l1Cur} {b0 : Nat} {v0_0 : Value} (S0 : St H0 w0 Ha wa (.box b0 151 [v0_0, Value.int .i64 a0.at_, Value.int .u64 a0.seed] :: L)) (p0_0 : RSl Ha (eN .u8) 1 v0_0 a0.code) (a1 : Int) {r : (ByteArray × l1Cur)} (hp : PF.spec_l1Cur_formula22_B rec_spec_l1Cur_formula22 a0 a1 = some r) :
  Calls Tryz.prog 213 #[Value.pointer (some (⟨b0, 0, none⟩ : Addr)), Value.int .i64 a1] wa (p_spec_l1Cur_formula22 H0 w0 Ha L b0 r) := by
 unfold PF.spec_l1Cur_formula22_B at hp
 refine calls_go (N := 39) (args := [Value.pointer (some (⟨b0, 0, none⟩ : Addr)), Value.int .i64 a1]) Tryz.func213 rfl rfl rfl ?_
 refine FW.seq (FW.region ?_)
 refine FL.v (E.assign (v := Value.string (ByteArray.mk #[])) rfl) ?_
 refine FL.nil (FW.seq (FW.seq (FW.region ?_)))
 refine FL.v (E.move (v := Value.int .i64 a1) rfl) ?_
 refine FL.v (E.leq rfl rfl) ?_
 refine FL.v (E.move (v := Value.bool (decide (a1 ≤ 1))) rfl) ?_
 obtain ⟨t29, hqt29, hp⟩ := bnd hp
 refine FL.cut 3 (fun f w => ∃ H : GH, ∃ v31 : Value, St H0 w0 H w (.box b0 151 [v31, Value.int .i64 t29.2.1, Value.int .u64 t29.2.2.1] :: L) ∧ Inc Ha H ∧ RSl H (eN .u8) 1 v31 t29.1 ∧ f 0 = Value.pointer (some (⟨b0, 0, none⟩ : Addr)) ∧ f 1 = Value.int .i64 a1 ∧ f 11 = Value.bool t29.2.2.2) ?_ ?_
 ·
  clear hp; have hp := hqt29; clear hqt29
  rcases ifB hp with ⟨c30, hp⟩ | ⟨c30, hp⟩
  ·
   refine FL.skip (wF_no rfl rfl rfl c30) rfl ?_
   refine FL.skip (wF_no rfl rfl rfl c30) rfl ?_
   refine FL.v (E.pickT rfl c30 rfl) ?_
   obtain rfl := Option.some.inj hp
   exact FL.nil ⟨rfl, ⟨_, _, S0, (Inc.rfl _), p0_0, rfl, rfl, rfl⟩⟩
  ·
   refine FL.val (wF_yes rfl rfl rfl c30) rfl rfl (E.move (v := Value.pointer (some (⟨b0, 0, none⟩ : Addr))) rfl) ?_
   obtain ⟨r33, hr34, hp⟩ := bnd hp
   refine FL.call (wF_yes rfl rfl rfl c30) rfl rfl (E.call Tryz.call248 (A2 rfl rfl)) (w_spec_l1Cur_one (L := (L)) S0 (a0 := a0) p0_0 6 hr34) ?_
   rintro e w36 ⟨H35, v39, rfl, ⟨S37, i38⟩, h40⟩
   refine ⟨_, rfl, ?_⟩
   have S37 : St H0 w0 H35 w36 (.box b0 151 [v39, Value.int .i64 r33.2.at_, Value.int .u64 r33.2.seed] :: L) := S37
   refine FL.v (E.pickF rfl c30 rfl) ?_
   obtain rfl := Option.some.inj hp
   exact FL.nil ⟨rfl, ⟨_, _, S37, i38, h40, rfl, rfl, rfl⟩⟩
 clear hqt29
 rintro f45 w44 ⟨H41, v31, S42, i43, h32, k46, k47, k48⟩
 refine FL.nil ?_
 rcases ifB hp with ⟨c49, hp⟩ | ⟨c49, hp⟩
 ·
  refine FW.condT k48 c49 ?_
  refine FW.seq (FW.region ?_)
  refine FL.v (E.move k46) ?_
  obtain ⟨v50, w51, run52, S53⟩ := S42.buildSlice (P := Tryz.prog) te22 [Value.string (ByteArray.mk #[97]), Value.string (ByteArray.mk #[98]), Value.string (ByteArray.mk #[99]), Value.string (ByteArray.mk #[97]), Value.string (ByteArray.mk #[98]), Value.string (ByteArray.mk #[100]), Value.string (ByteArray.mk #[48]), Value.string (ByteArray.mk #[49]), Value.string (ByteArray.mk #[102]), Value.string (ByteArray.mk #[101]), Value.string (ByteArray.mk #[99]), Value.string (ByteArray.mk #[97])] (parts := #[(0, Value.string (ByteArray.mk #[97])), (1, Value.string (ByteArray.mk #[98])), (2, Value.string (ByteArray.mk #[99])), (3, Value.string (ByteArray.mk #[97])), (4, Value.string (ByteArray.mk #[98])), (5, Value.string (ByteArray.mk #[100])), (6, Value.string (ByteArray.mk #[48])), (7, Value.string (ByteArray.mk #[49])), (8, Value.string (ByteArray.mk #[102])), (9, Value.string (ByteArray.mk #[101])), (10, Value.string (ByteArray.mk #[99])), (11, Value.string (ByteArray.mk #[97]))]) (cells := [Value.string (ByteArray.mk #[97]), Value.string (ByteArray.mk #[98]), Value.string (ByteArray.mk #[99]), Value.string (ByteArray.mk #[97]), Value.string (ByteArray.mk #[98]), Value.string (ByteArray.mk #[100]), Value.string (ByteArray.mk #[48]), Value.string (ByteArray.mk #[49]), Value.string (ByteArray.mk #[102]), Value.string (ByteArray.mk #[101]), Value.string (ByteArray.mk #[99]), Value.string (ByteArray.mk #[97])]) rfl (szs_cons rfl (szs_cons rfl (szs_cons rfl (szs_cons rfl (szs_cons rfl (szs_cons rfl (szs_cons rfl (szs_cons rfl (szs_cons rfl (szs_cons rfl (szs_cons rfl (szs_cons rfl szs_nil)))))))))))) (fc_cons rfl (fc_cons rfl (fc_cons rfl (fc_cons rfl (fc_cons rfl (fc_cons rfl (fc_cons rfl (fc_cons rfl (fc_cons rfl (fc_cons rfl (fc_cons rfl (fc_cons rfl fc_nil)))))))))))) (ones_cons rfl (ones_cons rfl (ones_cons rfl (ones_cons rfl (ones_cons rfl (ones_cons rfl (ones_cons rfl (ones_cons rfl (ones_cons rfl (ones_cons rfl (ones_cons rfl (ones_cons rfl ones_nil)))))))))))) (Nat.le_of_ble_eq_true rfl)
  have els54 : Els (up w0.heap.size H41) eS 1 [Value.string (ByteArray.mk #[97]), Value.string (ByteArray.mk #[98]), Value.string (ByteArray.mk #[99]), Value.string (ByteArray.mk #[97]), Value.string (ByteArray.mk #[98]), Value.string (ByteArray.mk #[100]), Value.string (ByteArray.mk #[48]), Value.string (ByteArray.mk #[49]), Value.string (ByteArray.mk #[102]), Value.string (ByteArray.mk #[101]), Value.string (ByteArray.mk #[99]), Value.string (ByteArray.mk #[97])] [(ByteArray.mk #[97]), (ByteArray.mk #[98]), (ByteArray.mk #[99]), (ByteArray.mk #[97]), (ByteArray.mk #[98]), (ByteArray.mk #[100]), (ByteArray.mk #[48]), (ByteArray.mk #[49]), (ByteArray.mk #[102]), (ByteArray.mk #[101]), (ByteArray.mk #[99]), (ByteArray.mk #[97])] := (Els.snoc (H := (up w0.heap.size H41)) (E := eS) (k := 1) (c := [Value.string (ByteArray.mk #[97])]) (x := (ByteArray.mk #[97])) (Els.snoc (H := (up w0.heap.size H41)) (E := eS) (k := 1) (c := [Value.string (ByteArray.mk #[99])]) (x := (ByteArray.mk #[99])) (Els.snoc (H := (up w0.heap.size H41)) (E := eS) (k := 1) (c := [Value.string (ByteArray.mk #[101])]) (x := (ByteArray.mk #[101])) (Els.snoc (H := (up w0.heap.size H41)) (E := eS) (k := 1) (c := [Value.string (ByteArray.mk #[102])]) (x := (ByteArray.mk #[102])) (Els.snoc (H := (up w0.heap.size H41)) (E := eS) (k := 1) (c := [Value.string (ByteArray.mk #[49])]) (x := (ByteArray.mk #[49])) (Els.snoc (H := (up w0.heap.size H41)) (E := eS) (k := 1) (c := [Value.string (ByteArray.mk #[48])]) (x := (ByteArray.mk #[48])) (Els.snoc (H := (up w0.heap.size H41)) (E := eS) (k := 1) (c := [Value.string (ByteArray.mk #[100])]) (x := (ByteArray.mk #[100])) (Els.snoc (H := (up w0.heap.size H41)) (E := eS) (k := 1) (c := [Value.string (ByteArray.mk #[98])]) (x := (ByteArray.mk #[98])) (Els.snoc (H := (up w0.heap.size H41)) (E := eS) (k := 1) (c := [Value.string (ByteArray.mk #[97])]) (x := (ByteArray.mk #[97])) (Els.snoc (H := (up w0.heap.size H41)) (E := eS) (k := 1) (c := [Value.string (ByteArray.mk #[99])]) (x := (ByteArray.mk #[99])) (Els.snoc (H := (up w0.heap.size H41)) (E := eS) (k := 1) (c := [Value.string (ByteArray.mk #[98])]) (x := (ByteArray.mk #[98])) (Els.snoc (H := (up w0.heap.size H41)) (E := eS) (k := 1) (c := [Value.string (ByteArray.mk #[97])]) (x := (ByteArray.mk #[97])) Els.nil rfl rfl) rfl rfl) rfl rfl) rfl rfl) rfl rfl) rfl rfl) rfl rfl) rfl rfl) rfl rfl) rfl rfl) rfl rfl) rfl rfl)
  refine FL.v (E.buildSlice (B12 rfl rfl rfl rfl rfl rfl rfl rfl rfl rfl rfl rfl) run52) ?_
  obtain ⟨H55, S56, i57, h58, nv59⟩ := S53.sealRowU (i := 0) (l' := (.box b0 151 [v31, Value.int .i64 t29.2.1, Value.int .u64 t29.2.2.1] :: L)) rfl els54 (by decide) rfl
  obtain ⟨r60, hr61, hp⟩ := bnd hp
  refine FL.call rfl rfl rfl (E.call Tryz.call173 (A2 rfl rfl)) (w_spec_l1Cur_of (L := (L)) S56 (a0 := (l1Cur.mk t29.1 t29.2.1 t29.2.2.1)) (h32.mono i57) v50 [(ByteArray.mk #[97]), (ByteArray.mk #[98]), (ByteArray.mk #[99]), (ByteArray.mk #[97]), (ByteArray.mk #[98]), (ByteArray.mk #[100]), (ByteArray.mk #[48]), (ByteArray.mk #[49]), (ByteArray.mk #[102]), (ByteArray.mk #[101]), (ByteArray.mk #[99]), (ByteArray.mk #[97])] (h58.mono upI) hr61) ?_
  rintro e w63 ⟨H62, v66, rfl, ⟨S64, i65⟩, h67⟩
  refine ⟨_, rfl, ?_⟩
  have S64 : St H0 w0 H62 w63 (.box b0 151 [v66, Value.int .i64 r60.2.at_, Value.int .u64 r60.2.seed] :: L) := S64
  refine FL.v (E.assign (v := Value.string r60.1) rfl) ?_
  refine FL.nil ?_
  refine FW.ret ?_
  obtain rfl := Option.some.inj hp
  exact ⟨.inr rfl, res1 rfl rfl ⟨_, _, rfl, ⟨S64, ((i43.tr i57).tr i65)⟩, h67⟩⟩
 ·
  refine FW.condF k48 c49 ?_
  refine FW.skip (FW.seq (FW.seq (FW.region ?_)))
  refine FL.v (E.move k46) ?_
  obtain ⟨r68, hr69, hp⟩ := bnd hp
  refine FL.call rfl rfl rfl (E.call Tryz.call248 (A2 rfl rfl)) (w_spec_l1Cur_one (L := (L)) S42 (a0 := (l1Cur.mk t29.1 t29.2.1 t29.2.2.1)) h32 4 hr69) ?_
  rintro e w71 ⟨H70, v74, rfl, ⟨S72, i73⟩, h75⟩
  refine ⟨_, rfl, ?_⟩
  have S72 : St H0 w0 H70 w71 (.box b0 151 [v74, Value.int .i64 r68.2.at_, Value.int .u64 r68.2.seed] :: L) := S72
  refine FL.nil ?_
  rcases ifB hp with ⟨c76, hp⟩ | ⟨c76, hp⟩
  ·
   refine FW.condT rfl c76 ?_
   refine FW.seq (FW.region ?_)
   refine FL.v (E.move k46) ?_
   refine FL.v (E.move k47) ?_
   refine FL.v (E.sub rfl rfl) ?_
   obtain ⟨r77, hr78, hp⟩ := bnd hp
   refine FL.call rfl rfl rfl (E.call Tryz.call213 (A2 rfl rfl)) (hrec_spec_l1Cur_formula22 (L := (L)) S72 (a0 := r68.2) h75 (wr (a1 - 1)) hr78) ?_
   rintro e w80 ⟨H79, v83, rfl, ⟨S81, i82⟩, h84⟩
   refine ⟨_, rfl, ?_⟩
   have S81 : St H0 w0 H79 w80 (.box b0 151 [v83, Value.int .i64 r77.2.at_, Value.int .u64 r77.2.seed] :: L) := S81
   obtain ⟨z85, h86, hp⟩ := bnd hp
   refine FL.v (E.addT rfl rfl h86) ?_
   refine FL.v (E.assign (v := Value.string z85) rfl) ?_
   refine FL.nil ?_
   refine FW.ret ?_
   obtain rfl := Option.some.inj hp
   exact ⟨.inr rfl, res1 rfl rfl ⟨_, _, rfl, ⟨S81, ((i43.tr i73).tr i82)⟩, h84⟩⟩
  ·
   refine FW.condF rfl c76 ?_
   refine FW.skip (FW.seq (FW.region ?_))
   refine FL.v (E.move k46) ?_
   refine FL.v (E.move k47) ?_
   refine FL.v (E.sub rfl rfl) ?_
   obtain ⟨r87, hr88, hp⟩ := bnd hp
   refine FL.call rfl rfl rfl (E.call Tryz.call171 (A2 rfl rfl)) (w_spec_l1Cur_pick (L := (L)) S72 (a0 := r68.2) h75 (wr (a1 - 1)) hr88) ?_
   rintro e w90 ⟨H89, v93, rfl, ⟨S91, i92⟩, h94⟩
   refine ⟨_, rfl, ?_⟩
   have S91 : St H0 w0 H89 w90 (.box b0 151 [v93, Value.int .i64 r87.2.at_, Value.int .u64 r87.2.seed] :: L) := S91
   refine FL.v (E.add rfl rfl) ?_
   refine FL.v (E.assign (v := Value.int .i64 (wr (1 + r87.1))) rfl) ?_
   refine FL.nil (FW.seq (FW.region ?_))
   refine FL.v (E.move k46) ?_
   obtain ⟨v95, w96, run97, S98⟩ := S91.buildSlice (P := Tryz.prog) te22 [Value.string (ByteArray.mk #[38]), Value.string (ByteArray.mk #[124]), Value.string (ByteArray.mk #[62])] (parts := #[(0, Value.string (ByteArray.mk #[38])), (1, Value.string (ByteArray.mk #[124])), (2, Value.string (ByteArray.mk #[62]))]) (cells := [Value.string (ByteArray.mk #[38]), Value.string (ByteArray.mk #[124]), Value.string (ByteArray.mk #[62])]) rfl (szs_cons rfl (szs_cons rfl (szs_cons rfl szs_nil))) (fc_cons rfl (fc_cons rfl (fc_cons rfl fc_nil))) (ones_cons rfl (ones_cons rfl (ones_cons rfl ones_nil))) (Nat.le_of_ble_eq_true rfl)
   have els99 : Els (up w0.heap.size H89) eS 1 [Value.string (ByteArray.mk #[38]), Value.string (ByteArray.mk #[124]), Value.string (ByteArray.mk #[62])] [(ByteArray.mk #[38]), (ByteArray.mk #[124]), (ByteArray.mk #[62])] := (Els.snoc (H := (up w0.heap.size H89)) (E := eS) (k := 1) (c := [Value.string (ByteArray.mk #[62])]) (x := (ByteArray.mk #[62])) (Els.snoc (H := (up w0.heap.size H89)) (E := eS) (k := 1) (c := [Value.string (ByteArray.mk #[124])]) (x := (ByteArray.mk #[124])) (Els.snoc (H := (up w0.heap.size H89)) (E := eS) (k := 1) (c := [Value.string (ByteArray.mk #[38])]) (x := (ByteArray.mk #[38])) Els.nil rfl rfl) rfl rfl) rfl rfl)
   refine FL.v (E.buildSlice (B3 rfl rfl rfl) run97) ?_
   obtain ⟨H100, S101, i102, h103, nv104⟩ := S98.sealRowU (i := 0) (l' := (.box b0 151 [v93, Value.int .i64 r87.2.at_, Value.int .u64 r87.2.seed] :: L)) rfl els99 (by decide) rfl
   obtain ⟨r105, hr106, hp⟩ := bnd hp
   refine FL.call rfl rfl rfl (E.call Tryz.call173 (A2 rfl rfl)) (w_spec_l1Cur_of (L := (L)) S101 (a0 := r87.2) (h94.mono i102) v95 [(ByteArray.mk #[38]), (ByteArray.mk #[124]), (ByteArray.mk #[62])] (h103.mono upI) hr106) ?_
   rintro e w108 ⟨H107, v111, rfl, ⟨S109, i110⟩, h112⟩
   refine ⟨_, rfl, ?_⟩
   have S109 : St H0 w0 H107 w108 (.box b0 151 [v111, Value.int .i64 r105.2.at_, Value.int .u64 r105.2.seed] :: L) := S109
   refine FL.v (E.move k46) ?_
   refine FL.v (E.move (v := Value.int .i64 (wr (1 + r87.1))) rfl) ?_
   obtain ⟨r113, hr114, hp⟩ := bnd hp
   refine FL.call rfl rfl rfl (E.call Tryz.call213 (A2 rfl rfl)) (hrec_spec_l1Cur_formula22 (L := (L)) S109 (a0 := r105.2) h112 (wr (1 + r87.1)) hr114) ?_
   rintro e w116 ⟨H115, v119, rfl, ⟨S117, i118⟩, h120⟩
   refine ⟨_, rfl, ?_⟩
   have S117 : St H0 w0 H115 w116 (.box b0 151 [v119, Value.int .i64 r113.2.at_, Value.int .u64 r113.2.seed] :: L) := S117
   refine FL.v (E.move k46) ?_
   refine FL.v (E.move k47) ?_
   refine FL.v (E.move (v := Value.int .i64 (wr (1 + r87.1))) rfl) ?_
   refine FL.v (E.sub rfl rfl) ?_
   obtain ⟨r121, hr122, hp⟩ := bnd hp
   refine FL.call rfl rfl rfl (E.call Tryz.call213 (A2 rfl rfl)) (hrec_spec_l1Cur_formula22 (L := (L)) S117 (a0 := r113.2) h120 (wr (a1 - (wr (1 + r87.1)))) hr122) ?_
   rintro e w124 ⟨H123, v127, rfl, ⟨S125, i126⟩, h128⟩
   refine ⟨_, rfl, ?_⟩
   have S125 : St H0 w0 H123 w124 (.box b0 151 [v127, Value.int .i64 r121.2.at_, Value.int .u64 r121.2.seed] :: L) := S125
   obtain ⟨r129, hr130, hp⟩ := bnd hp
   refine FL.call rfl rfl rfl (E.call Tryz.call122 (A3 rfl rfl rfl)) (w_spec_l22Join S125.sl r105.1 r113.1 r121.1 hr130) ?_
   rintro e w131 ⟨rfl, r132⟩
   refine ⟨_, rfl, ?_⟩
   have S133 := S125.call r132
   refine FL.v (E.assign (v := Value.string r129) rfl) ?_
   refine FL.nil ?_
   refine FW.ret ?_
   obtain rfl := Option.some.inj hp
   exact ⟨.inr rfl, res1 rfl rfl ⟨_, _, rfl, ⟨S133, ((((((i43.tr i73).tr i92).tr i102).tr i110).tr i118).tr i126)⟩, h128⟩⟩
theorem w_spec_l1Cur_formula22_F (n : Nat) : ∀ {H0 Ha : GH} {w0 wa : World} {L : List MO} {a0 : l1Cur} {b0 : Nat} {v0_0 : Value} (S0 : St H0 w0 Ha wa (.box b0 151 [v0_0, Value.int .i64 a0.at_, Value.int .u64 a0.seed] :: L)) (p0_0 : RSl Ha (eN .u8) 1 v0_0 a0.code) (a1 : Int) {r : (ByteArray × l1Cur)} (hp : PF.spec_l1Cur_formula22_F n a0 a1 = some r), Calls Tryz.prog 213 #[Value.pointer (some (⟨b0, 0, none⟩ : Addr)), Value.int .i64 a1] wa (p_spec_l1Cur_formula22 H0 w0 Ha L b0 r) := by
 induction n with
 | zero => intros; rename_i hp; exact nomatch hp
 | succ n ih => exact w_spec_l1Cur_formula22_B (rec_spec_l1Cur_formula22 := PF.spec_l1Cur_formula22_F n) ih
theorem w_spec_l1Cur_formula22 {H0 Ha : GH} {w0 wa : World} {L : List MO} {a0 : l1Cur} {b0 : Nat} {v0_0 : Value} (S0 : St H0 w0 Ha wa (.box b0 151 [v0_0, Value.int .i64 a0.at_, Value.int .u64 a0.seed] :: L)) (p0_0 : RSl Ha (eN .u8) 1 v0_0 a0.code) (a1 : Int) {r : (ByteArray × l1Cur)} (hp : PF.spec_l1Cur_formula22 a0 a1 = some r) :
  Calls Tryz.prog 213 #[Value.pointer (some (⟨b0, 0, none⟩ : Addr)), Value.int .i64 a1] wa (p_spec_l1Cur_formula22 H0 w0 Ha L b0 r) := w_spec_l1Cur_formula22_F deep S0 p0_0 a1 hp

set_option maxHeartbeats 4000000 in
theorem w_spec_l22End_B {rec_spec_l22End : ByteArray → Int → Option Int} (hrec_spec_l22End : ∀ {Ha : GH} {wa : World} (hs : Sl Ha wa) (a0 : ByteArray) (a1 : Int) {r : Int} (hp : rec_spec_l22End a0 a1 = some r), Calls Tryz.prog 98 #[Value.string a0, Value.int .i64 a1] wa (Sc Ha wa (Value.int .i64 r))) {Ha : GH} {wa : World} (hs : Sl Ha wa) (a0 : ByteArray) (a1 : Int) {r : Int} (hp : PF.spec_l22End_B rec_spec_l22End a0 a1 = some r) :
  Calls Tryz.prog 98 #[Value.string a0, Value.int .i64 a1] wa (Sc Ha wa (Value.int .i64 r)) := by
 unfold PF.spec_l22End_B at hp
 have S0 := St.init hs
 refine calls_go (N := 100) (args := [Value.string a0, Value.int .i64 a1]) Tryz.func98 rfl rfl rfl ?_
 refine FW.seq (FW.region ?_)
 refine FL.v (E.assign (v := Value.int .i64 0) rfl) ?_
 refine FL.nil (FW.seq (FW.seq (FW.region ?_)))
 refine FL.v (E.move (v := Value.int .i64 a1) rfl) ?_
 refine FL.v (E.move (v := Value.string a0) rfl) ?_
 refine FL.v (E.lenS Tryz.runUnderlying9 rfl) ?_
 refine FL.v (E.geq rfl rfl) ?_
 refine FL.nil ?_
 rcases ifB hp with ⟨c21, hp⟩ | ⟨c21, hp⟩
 ·
  refine FW.condT rfl c21 ?_
  refine FW.seq (FW.region ?_)
  refine FL.v (E.assign (v := Value.int .i64 (-1)) rfl) ?_
  refine FL.nil ?_
  refine FW.ret ?_
  obtain rfl := Option.some.inj hp
  exact ⟨.inr rfl, res1 rfl rfl ⟨rfl, S0.back⟩⟩
 ·
  refine FW.condF rfl c21 ?_
  refine FW.skip (FW.seq (FW.block (FW.seq (FW.region ?_))))
  refine FL.v (E.move (v := Value.string a0) rfl) ?_
  refine FL.v (E.move (v := Value.int .i64 a1) rfl) ?_
  obtain ⟨z22, h23, hp⟩ := bnd hp
  refine FL.v (E.ixS Tryz.runUnderlying9 rfl rfl h23) ?_
  refine FL.v (E.eql rfl rfl) ?_
  refine FL.v (E.move (v := Value.bool (z22 == 48)) rfl) ?_
  obtain ⟨t26, hqt26, hp⟩ := bnd hp
  refine FL.cut 5 (fun f w => ∃ H : GH, St Ha wa H w [] ∧ Inc Ha H ∧ f 0 = Value.string a0 ∧ f 1 = Value.int .i64 a1 ∧ f 21 = Value.bool t26) ?_ ?_
  ·
   clear hp; have hp := hqt26; clear hqt26
   rcases ifB hp with ⟨c32, hp⟩ | ⟨c32, hp⟩
   ·
    refine FL.skip (wF_no rfl rfl rfl c32) rfl ?_
    refine FL.skip (wF_no rfl rfl rfl c32) rfl ?_
    refine FL.skip (wF_no rfl rfl rfl c32) rfl ?_
    refine FL.skip (wF_no rfl rfl rfl c32) rfl ?_
    obtain rfl := Option.some.inj hp
    refine FL.v (E.pickT rfl c32 rfl) ?_
    exact FL.nil ⟨rfl, _, S0, (Inc.rfl _), rfl, rfl, rfl⟩
   ·
    refine FL.val (wF_yes rfl rfl rfl c32) rfl rfl (E.move (v := Value.string a0) rfl) ?_
    refine FL.val (wF_yes rfl rfl rfl c32) rfl rfl (E.move (v := Value.int .i64 a1) rfl) ?_
    obtain ⟨z33, h34, hp⟩ := bnd hp
    refine FL.val (wF_yes rfl rfl rfl c32) rfl rfl (E.ixS Tryz.runUnderlying9 rfl rfl h34) ?_
    refine FL.val (wF_yes rfl rfl rfl c32) rfl rfl (E.eql rfl rfl) ?_
    obtain rfl := Option.some.inj hp
    refine FL.v (E.pickF rfl c32 rfl) ?_
    exact FL.nil ⟨rfl, _, S0, (Inc.rfl _), rfl, rfl, rfl⟩
  rintro f31 w30 ⟨H27, S28, i29, k35, k36, k37⟩
  refine FL.v (E.move k37) ?_
  obtain ⟨t55, hqt55, hp⟩ := bnd hp
  refine FL.cut 11 (fun f w => ∃ H : GH, St Ha wa H w [] ∧ Inc H27 H ∧ f 0 = Value.string a0 ∧ f 1 = Value.int .i64 a1 ∧ f 33 = Value.bool t55) ?_ ?_
  ·
   clear hp; have hp := hqt55; clear hqt55
   rcases ifB hp with ⟨c61, hp⟩ | ⟨c61, hp⟩
   ·
    refine FL.skip (wF_no rfl rfl rfl c61) rfl ?_
    refine FL.skip (wF_no rfl rfl rfl c61) rfl ?_
    refine FL.skip (wF_no rfl rfl rfl c61) rfl ?_
    refine FL.skip (wF_no rfl rfl rfl c61) rfl ?_
    refine FL.skip (wF_no rfl rfl rfl c61) rfl ?_
    refine FL.skip (wF_undef rfl rfl rfl) rfl ?_
    refine FL.skip (wF_undef rfl rfl rfl) rfl ?_
    refine FL.skip (wF_undef rfl rfl rfl) rfl ?_
    refine FL.skip (wF_undef rfl rfl rfl) rfl ?_
    refine FL.skip (wF_no rfl rfl rfl c61) rfl ?_
    obtain rfl := Option.some.inj hp
    refine FL.v (E.pickT rfl c61 rfl) ?_
    exact FL.nil ⟨rfl, _, S28, (Inc.rfl _), k35, k36, rfl⟩
   ·
    refine FL.val (wF_yes rfl rfl rfl c61) rfl rfl (E.move k35) ?_
    refine FL.val (wF_yes rfl rfl rfl c61) rfl rfl (E.move k36) ?_
    obtain ⟨z62, h63, hp⟩ := bnd hp
    refine FL.val (wF_yes rfl rfl rfl c61) rfl rfl (E.ixS Tryz.runUnderlying9 rfl rfl h63) ?_
    refine FL.val (wF_yes rfl rfl rfl c61) rfl rfl (E.geq rfl rfl) ?_
    refine FL.val (wF_yes rfl rfl rfl c61) rfl rfl (E.move (v := Value.bool (decide (97 ≤ z62))) rfl) ?_
    obtain ⟨t66, hqt66, hp⟩ := bnd hp
    refine FL.cut 5 (fun f w => ∃ H : GH, St Ha wa H w [] ∧ Inc H27 H ∧ f 0 = Value.string a0 ∧ f 1 = Value.int .i64 a1 ∧ f 22 = Value.bool t26 ∧ f 32 = Value.bool t66) ?_ ?_
    ·
     clear hp; have hp := hqt66; clear hqt66
     rcases ifB hp with ⟨c72, hp⟩ | ⟨c72, hp⟩
     ·
      refine FL.val (wF_yes rfl rfl rfl c72) rfl rfl (E.move k35) ?_
      refine FL.val (wF_yes rfl rfl rfl c72) rfl rfl (E.move k36) ?_
      obtain ⟨z73, h74, hp⟩ := bnd hp
      refine FL.val (wF_yes rfl rfl rfl c72) rfl rfl (E.ixS Tryz.runUnderlying9 rfl rfl h74) ?_
      refine FL.val (wF_yes rfl rfl rfl c72) rfl rfl (E.leq rfl rfl) ?_
      obtain rfl := Option.some.inj hp
      refine FL.val (wF_yes rfl rfl rfl c61) rfl rfl (E.pickT rfl c72 rfl) ?_
      exact FL.nil ⟨rfl, _, S28, (Inc.rfl _), k35, k36, rfl, rfl⟩
     ·
      refine FL.skip (wF_no rfl rfl rfl c72) rfl ?_
      refine FL.skip (wF_no rfl rfl rfl c72) rfl ?_
      refine FL.skip (wF_no rfl rfl rfl c72) rfl ?_
      refine FL.skip (wF_no rfl rfl rfl c72) rfl ?_
      obtain rfl := Option.some.inj hp
      refine FL.val (wF_yes rfl rfl rfl c61) rfl rfl (E.pickF rfl c72 rfl) ?_
      exact FL.nil ⟨rfl, _, S28, (Inc.rfl _), k35, k36, rfl, rfl⟩
    rintro f71 w70 ⟨H67, S68, i69, k75, k76, k77, k78⟩
    obtain rfl := Option.some.inj hp
    refine FL.v (E.pickF k77 c61 k78) ?_
    exact FL.nil ⟨rfl, _, S68, i69, k75, k76, rfl⟩
  rintro f60 w59 ⟨H56, S57, i58, k79, k80, k81⟩
  refine FL.v (E.assign k81) ?_
  refine FL.nil ?_
  rcases ifB hp with ⟨c82, hp⟩ | ⟨c82, hp⟩
  ·
   refine FW.condT rfl c82 ?_
   refine FW.seq (FW.region ?_)
   refine FL.v (E.move k80) ?_
   refine FL.v (E.add rfl rfl) ?_
   refine FL.v (E.assign (v := Value.int .i64 (wr (a1 + 1))) rfl) ?_
   refine FL.nil ?_
   refine FW.ret ?_
   obtain rfl := Option.some.inj hp
   exact ⟨.inr rfl, res1 rfl rfl ⟨rfl, S57.back⟩⟩
  ·
   refine FW.condF rfl c82 ?_
   refine FW.seq (FW.region ?_)
   refine FL.v (E.move k79) ?_
   refine FL.v (E.move k80) ?_
   obtain ⟨z83, h84, hp⟩ := bnd hp
   refine FL.v (E.ixS Tryz.runUnderlying9 rfl rfl h84) ?_
   refine FL.v (E.eql rfl rfl) ?_
   refine FL.v (E.assign (v := Value.bool (z83 == 126)) rfl) ?_
   refine FL.nil ?_
   rcases ifB hp with ⟨c85, hp⟩ | ⟨c85, hp⟩
   ·
    refine FW.condT rfl c85 ?_
    refine FW.seq (FW.region ?_)
    refine FL.v (E.move k79) ?_
    refine FL.v (E.move k80) ?_
    refine FL.v (E.add rfl rfl) ?_
    obtain ⟨r86, hr87, hp⟩ := bnd hp
    refine FL.call rfl rfl rfl (E.call Tryz.call98 (A2 rfl rfl)) (hrec_spec_l22End S57.sl a0 (wr (a1 + 1)) hr87) ?_
    rintro e w88 ⟨rfl, r89⟩
    refine ⟨_, rfl, ?_⟩
    have S90 := S57.call r89
    refine FL.v (E.assign (v := Value.int .i64 r86) rfl) ?_
    refine FL.nil ?_
    refine FW.ret ?_
    obtain rfl := Option.some.inj hp
    exact ⟨.inr rfl, res1 rfl rfl ⟨rfl, S90.back⟩⟩
   ·
    refine FW.condF rfl c85 ?_
    refine FW.seq (FW.region ?_)
    refine FL.v (E.move k79) ?_
    refine FL.v (E.move k80) ?_
    obtain ⟨z91, h92, hp⟩ := bnd hp
    refine FL.v (E.ixS Tryz.runUnderlying9 rfl rfl h92) ?_
    refine FL.v (E.neq rfl rfl) ?_
    refine FL.v (E.assign (v := Value.bool (!(z91 == 40))) rfl) ?_
    refine FL.nil ?_
    rcases ifB hp with ⟨c93, hp⟩ | ⟨c93, hp⟩
    ·
     refine FW.condT rfl c93 ?_
     refine FW.seq (FW.region ?_)
     refine FL.v (E.assign (v := Value.int .i64 (-1)) rfl) ?_
     refine FL.nil ?_
     refine FW.ret ?_
     obtain rfl := Option.some.inj hp
     exact ⟨.inr rfl, res1 rfl rfl ⟨rfl, S57.back⟩⟩
    ·
     refine FW.condF rfl c93 ?_
     refine FW.skip (FW.seq (FW.region ?_))
     refine FL.v (E.move k79) ?_
     refine FL.v (E.move k80) ?_
     refine FL.v (E.add rfl rfl) ?_
     obtain ⟨r94, hr95, hp⟩ := bnd hp
     refine FL.call rfl rfl rfl (E.call Tryz.call98 (A2 rfl rfl)) (hrec_spec_l22End S57.sl a0 (wr (a1 + 1)) hr95) ?_
     rintro e w96 ⟨rfl, r97⟩
     refine ⟨_, rfl, ?_⟩
     have S98 := S57.call r97
     refine FL.v (E.assign (v := Value.int .i64 r94) rfl) ?_
     refine FL.nil (FW.seq (FW.seq (FW.region ?_)))
     refine FL.v (E.move (v := Value.int .i64 r94) rfl) ?_
     refine FL.v (E.lss rfl rfl) ?_
     refine FL.v (E.move (v := Value.bool (decide (r94 < 0))) rfl) ?_
     refine FL.cut 5 (fun f w => ∃ H : GH, St Ha wa H w [] ∧ Inc H56 H ∧ f 0 = Value.string a0 ∧ f 5 = Value.int .i64 r94 ∧ f 61 = Value.bool (bif (decide (r94 < 0)) then true else (decide ((a0.size : Int) ≤ r94)))) ?_ ?_
     ·
      rcases bcase (decide (r94 < 0)) with c105 | c105
      ·
       refine FL.skip (wF_no rfl rfl rfl c105) rfl ?_
       refine FL.skip (wF_no rfl rfl rfl c105) rfl ?_
       refine FL.skip (wF_no rfl rfl rfl c105) rfl ?_
       refine FL.skip (wF_no rfl rfl rfl c105) rfl ?_
       refine FL.v (E.pickT rfl c105 rfl) ?_
       exact FL.nil ⟨rfl, _, S98, (Inc.rfl _), k79, rfl, (congrArg Value.bool (bifT c105).symm)⟩
      ·
       refine FL.val (wF_yes rfl rfl rfl c105) rfl rfl (E.move (v := Value.int .i64 r94) rfl) ?_
       refine FL.val (wF_yes rfl rfl rfl c105) rfl rfl (E.move k79) ?_
       refine FL.val (wF_yes rfl rfl rfl c105) rfl rfl (E.lenS Tryz.runUnderlying9 rfl) ?_
       refine FL.val (wF_yes rfl rfl rfl c105) rfl rfl (E.geq rfl rfl) ?_
       refine FL.v (E.pickF rfl c105 rfl) ?_
       exact FL.nil ⟨rfl, _, S98, (Inc.rfl _), k79, rfl, (congrArg Value.bool (bifF c105).symm)⟩
     rintro f104 w103 ⟨H100, S101, i102, k106, k107, k108⟩
     refine FL.v (E.move k108) ?_
     obtain ⟨t141, hqt141, hp⟩ := bnd hp
     refine FL.cut 17 (fun f w => ∃ H : GH, St Ha wa H w [] ∧ Inc H100 H ∧ f 0 = Value.string a0 ∧ f 5 = Value.int .i64 r94 ∧ f 79 = Value.bool t141) ?_ ?_
     ·
      clear hp; have hp := hqt141; clear hqt141
      rcases ifB hp with ⟨c147, hp⟩ | ⟨c147, hp⟩
      ·
       refine FL.skip (wF_no rfl rfl rfl c147) rfl ?_
       refine FL.skip (wF_no rfl rfl rfl c147) rfl ?_
       refine FL.skip (wF_no rfl rfl rfl c147) rfl ?_
       refine FL.skip (wF_no rfl rfl rfl c147) rfl ?_
       refine FL.skip (wF_no rfl rfl rfl c147) rfl ?_
       refine FL.skip (wF_undef rfl rfl rfl) rfl ?_
       refine FL.skip (wF_undef rfl rfl rfl) rfl ?_
       refine FL.skip (wF_undef rfl rfl rfl) rfl ?_
       refine FL.skip (wF_undef rfl rfl rfl) rfl ?_
       refine FL.skip (wF_no rfl rfl rfl c147) rfl ?_
       refine FL.skip (wF_no rfl rfl rfl c147) rfl ?_
       refine FL.skip (wF_undef rfl rfl rfl) rfl ?_
       refine FL.skip (wF_undef rfl rfl rfl) rfl ?_
       refine FL.skip (wF_undef rfl rfl rfl) rfl ?_
       refine FL.skip (wF_undef rfl rfl rfl) rfl ?_
       refine FL.skip (wF_no rfl rfl rfl c147) rfl ?_
       obtain rfl := Option.some.inj hp
       refine FL.v (E.pickT rfl c147 rfl) ?_
       exact FL.nil ⟨rfl, _, S101, (Inc.rfl _), k106, k107, rfl⟩
      ·
       refine FL.val (wF_yes rfl rfl rfl c147) rfl rfl (E.move k106) ?_
       refine FL.val (wF_yes rfl rfl rfl c147) rfl rfl (E.move k107) ?_
       obtain ⟨z148, h149, hp⟩ := bnd hp
       refine FL.val (wF_yes rfl rfl rfl c147) rfl rfl (E.ixS Tryz.runUnderlying9 rfl rfl h149) ?_
       refine FL.val (wF_yes rfl rfl rfl c147) rfl rfl (E.neq rfl rfl) ?_
       refine FL.val (wF_yes rfl rfl rfl c147) rfl rfl (E.move (v := Value.bool (!(z148 == 38))) rfl) ?_
       obtain ⟨t152, hqt152, hp⟩ := bnd hp
       refine FL.cut 5 (fun f w => ∃ H : GH, St Ha wa H w [] ∧ Inc H100 H ∧ f 0 = Value.string a0 ∧ f 5 = Value.int .i64 r94 ∧ f 62 = Value.bool (bif (decide (r94 < 0)) then true else (decide ((a0.size : Int) ≤ r94))) ∧ f 72 = Value.bool t152) ?_ ?_
       ·
        clear hp; have hp := hqt152; clear hqt152
        rcases ifB hp with ⟨c158, hp⟩ | ⟨c158, hp⟩
        ·
         refine FL.val (wF_yes rfl rfl rfl c158) rfl rfl (E.move k106) ?_
         refine FL.val (wF_yes rfl rfl rfl c158) rfl rfl (E.move k107) ?_
         obtain ⟨z159, h160, hp⟩ := bnd hp
         refine FL.val (wF_yes rfl rfl rfl c158) rfl rfl (E.ixS Tryz.runUnderlying9 rfl rfl h160) ?_
         refine FL.val (wF_yes rfl rfl rfl c158) rfl rfl (E.neq rfl rfl) ?_
         obtain rfl := Option.some.inj hp
         refine FL.val (wF_yes rfl rfl rfl c147) rfl rfl (E.pickT rfl c158 rfl) ?_
         exact FL.nil ⟨rfl, _, S101, (Inc.rfl _), k106, k107, rfl, rfl⟩
        ·
         refine FL.skip (wF_no rfl rfl rfl c158) rfl ?_
         refine FL.skip (wF_no rfl rfl rfl c158) rfl ?_
         refine FL.skip (wF_no rfl rfl rfl c158) rfl ?_
         refine FL.skip (wF_no rfl rfl rfl c158) rfl ?_
         obtain rfl := Option.some.inj hp
         refine FL.val (wF_yes rfl rfl rfl c147) rfl rfl (E.pickF rfl c158 rfl) ?_
         exact FL.nil ⟨rfl, _, S101, (Inc.rfl _), k106, k107, rfl, rfl⟩
       rintro f157 w156 ⟨H153, S154, i155, k161, k162, k163, k164⟩
       refine FL.val (wF_yes rfl rfl k163 c147) rfl rfl (E.move k164) ?_
       obtain ⟨t167, hqt167, hp⟩ := bnd hp
       refine FL.cut 5 (fun f w => ∃ H : GH, St Ha wa H w [] ∧ Inc H153 H ∧ f 0 = Value.string a0 ∧ f 5 = Value.int .i64 r94 ∧ f 62 = Value.bool (bif (decide (r94 < 0)) then true else (decide ((a0.size : Int) ≤ r94))) ∧ f 78 = Value.bool t167) ?_ ?_
       ·
        clear hp; have hp := hqt167; clear hqt167
        rcases ifB hp with ⟨c173, hp⟩ | ⟨c173, hp⟩
        ·
         refine FL.val (wF_yes rfl rfl rfl c173) rfl rfl (E.move k161) ?_
         refine FL.val (wF_yes rfl rfl rfl c173) rfl rfl (E.move k162) ?_
         obtain ⟨z174, h175, hp⟩ := bnd hp
         refine FL.val (wF_yes rfl rfl rfl c173) rfl rfl (E.ixS Tryz.runUnderlying9 rfl rfl h175) ?_
         refine FL.val (wF_yes rfl rfl rfl c173) rfl rfl (E.neq rfl rfl) ?_
         obtain rfl := Option.some.inj hp
         refine FL.val (wF_yes rfl rfl k163 c147) rfl rfl (E.pickT rfl c173 rfl) ?_
         exact FL.nil ⟨rfl, _, S154, (Inc.rfl _), k161, k162, k163, rfl⟩
        ·
         refine FL.skip (wF_no rfl rfl rfl c173) rfl ?_
         refine FL.skip (wF_no rfl rfl rfl c173) rfl ?_
         refine FL.skip (wF_no rfl rfl rfl c173) rfl ?_
         refine FL.skip (wF_no rfl rfl rfl c173) rfl ?_
         obtain rfl := Option.some.inj hp
         refine FL.val (wF_yes rfl rfl k163 c147) rfl rfl (E.pickF rfl c173 rfl) ?_
         exact FL.nil ⟨rfl, _, S154, (Inc.rfl _), k161, k162, k163, rfl⟩
       rintro f172 w171 ⟨H168, S169, i170, k176, k177, k178, k179⟩
       obtain rfl := Option.some.inj hp
       refine FL.v (E.pickF k178 c147 k179) ?_
       exact FL.nil ⟨rfl, _, S169, (i155.tr i170), k176, k177, rfl⟩
     rintro f146 w145 ⟨H142, S143, i144, k180, k181, k182⟩
     refine FL.nil ?_
     rcases ifB hp with ⟨c183, hp⟩ | ⟨c183, hp⟩
     ·
      refine FW.condT k182 c183 ?_
      refine FW.seq (FW.region ?_)
      refine FL.v (E.assign (v := Value.int .i64 (-1)) rfl) ?_
      refine FL.nil ?_
      refine FW.ret ?_
      obtain rfl := Option.some.inj hp
      exact ⟨.inr rfl, res1 rfl rfl ⟨rfl, S143.back⟩⟩
     ·
      refine FW.condF k182 c183 ?_
      refine FW.skip (FW.seq (FW.region ?_))
      refine FL.v (E.move k180) ?_
      refine FL.v (E.move k181) ?_
      refine FL.v (E.add rfl rfl) ?_
      obtain ⟨r184, hr185, hp⟩ := bnd hp
      refine FL.call rfl rfl rfl (E.call Tryz.call98 (A2 rfl rfl)) (hrec_spec_l22End S143.sl a0 (wr (r94 + 1)) hr185) ?_
      rintro e w186 ⟨rfl, r187⟩
      refine ⟨_, rfl, ?_⟩
      have S188 := S143.call r187
      refine FL.v (E.assign (v := Value.int .i64 r184) rfl) ?_
      refine FL.nil (FW.seq (FW.seq (FW.region ?_)))
      refine FL.v (E.move (v := Value.int .i64 r184) rfl) ?_
      refine FL.v (E.lss rfl rfl) ?_
      refine FL.v (E.move (v := Value.bool (decide (r184 < 0))) rfl) ?_
      refine FL.cut 5 (fun f w => ∃ H : GH, St Ha wa H w [] ∧ Inc H142 H ∧ f 0 = Value.string a0 ∧ f 6 = Value.int .i64 r184 ∧ f 91 = Value.bool (bif (decide (r184 < 0)) then true else (decide ((a0.size : Int) ≤ r184)))) ?_ ?_
      ·
       rcases bcase (decide (r184 < 0)) with c195 | c195
       ·
        refine FL.skip (wF_no rfl rfl rfl c195) rfl ?_
        refine FL.skip (wF_no rfl rfl rfl c195) rfl ?_
        refine FL.skip (wF_no rfl rfl rfl c195) rfl ?_
        refine FL.skip (wF_no rfl rfl rfl c195) rfl ?_
        refine FL.v (E.pickT rfl c195 rfl) ?_
        exact FL.nil ⟨rfl, _, S188, (Inc.rfl _), k180, rfl, (congrArg Value.bool (bifT c195).symm)⟩
       ·
        refine FL.val (wF_yes rfl rfl rfl c195) rfl rfl (E.move (v := Value.int .i64 r184) rfl) ?_
        refine FL.val (wF_yes rfl rfl rfl c195) rfl rfl (E.move k180) ?_
        refine FL.val (wF_yes rfl rfl rfl c195) rfl rfl (E.lenS Tryz.runUnderlying9 rfl) ?_
        refine FL.val (wF_yes rfl rfl rfl c195) rfl rfl (E.geq rfl rfl) ?_
        refine FL.v (E.pickF rfl c195 rfl) ?_
        exact FL.nil ⟨rfl, _, S188, (Inc.rfl _), k180, rfl, (congrArg Value.bool (bifF c195).symm)⟩
      rintro f194 w193 ⟨H190, S191, i192, k196, k197, k198⟩
      refine FL.v (E.move k198) ?_
      obtain ⟨t201, hqt201, hp⟩ := bnd hp
      refine FL.cut 5 (fun f w => ∃ H : GH, St Ha wa H w [] ∧ Inc H190 H ∧ f 6 = Value.int .i64 r184 ∧ f 97 = Value.bool t201) ?_ ?_
      ·
       clear hp; have hp := hqt201; clear hqt201
       rcases ifB hp with ⟨c207, hp⟩ | ⟨c207, hp⟩
       ·
        refine FL.skip (wF_no rfl rfl rfl c207) rfl ?_
        refine FL.skip (wF_no rfl rfl rfl c207) rfl ?_
        refine FL.skip (wF_no rfl rfl rfl c207) rfl ?_
        refine FL.skip (wF_no rfl rfl rfl c207) rfl ?_
        obtain rfl := Option.some.inj hp
        refine FL.v (E.pickT rfl c207 rfl) ?_
        exact FL.nil ⟨rfl, _, S191, (Inc.rfl _), k197, rfl⟩
       ·
        refine FL.val (wF_yes rfl rfl rfl c207) rfl rfl (E.move k196) ?_
        refine FL.val (wF_yes rfl rfl rfl c207) rfl rfl (E.move k197) ?_
        obtain ⟨z208, h209, hp⟩ := bnd hp
        refine FL.val (wF_yes rfl rfl rfl c207) rfl rfl (E.ixS Tryz.runUnderlying9 rfl rfl h209) ?_
        refine FL.val (wF_yes rfl rfl rfl c207) rfl rfl (E.neq rfl rfl) ?_
        obtain rfl := Option.some.inj hp
        refine FL.v (E.pickF rfl c207 rfl) ?_
        exact FL.nil ⟨rfl, _, S191, (Inc.rfl _), k197, rfl⟩
      rintro f206 w205 ⟨H202, S203, i204, k210, k211⟩
      refine FL.nil ?_
      rcases ifB hp with ⟨c212, hp⟩ | ⟨c212, hp⟩
      ·
       refine FW.condT k211 c212 ?_
       refine FW.seq (FW.region ?_)
       refine FL.v (E.assign (v := Value.int .i64 (-1)) rfl) ?_
       refine FL.nil ?_
       refine FW.ret ?_
       obtain rfl := Option.some.inj hp
       exact ⟨.inr rfl, res1 rfl rfl ⟨rfl, S203.back⟩⟩
      ·
       refine FW.condF k211 c212 ?_
       refine FW.skip (FW.seq (FW.region ?_))
       refine FL.v (E.move k210) ?_
       refine FL.v (E.add rfl rfl) ?_
       refine FL.v (E.assign (v := Value.int .i64 (wr (r184 + 1))) rfl) ?_
       refine FL.nil ?_
       refine FW.ret ?_
       obtain rfl := Option.some.inj hp
       exact ⟨.inr rfl, res1 rfl rfl ⟨rfl, S203.back⟩⟩
theorem w_spec_l22End_F (n : Nat) : ∀ {Ha : GH} {wa : World} (hs : Sl Ha wa) (a0 : ByteArray) (a1 : Int) {r : Int} (hp : PF.spec_l22End_F n a0 a1 = some r), Calls Tryz.prog 98 #[Value.string a0, Value.int .i64 a1] wa (Sc Ha wa (Value.int .i64 r)) := by
 induction n with
 | zero => intros; rename_i hp; exact nomatch hp
 | succ n ih => exact w_spec_l22End_B (rec_spec_l22End := PF.spec_l22End_F n) ih
theorem w_spec_l22End {Ha : GH} {wa : World} (hs : Sl Ha wa) (a0 : ByteArray) (a1 : Int) {r : Int} (hp : PF.spec_l22End a0 a1 = some r) :
  Calls Tryz.prog 98 #[Value.string a0, Value.int .i64 a1] wa (Sc Ha wa (Value.int .i64 r)) := w_spec_l22End_F deep hs a0 a1 hp

theorem w_spec_l22Good {Ha : GH} {wa : World} (hs : Sl Ha wa) (a0 : ByteArray) {r : Bool} (hp : (PF.spec_l22Good a0) = some r) :
  Calls Tryz.prog 48 #[Value.string a0] wa (Sc Ha wa (Value.bool r)) := by
 unfold PF.spec_l22Good at hp
 have S0 := St.init hs
 refine calls_go (N := 18) (args := [Value.string a0]) Tryz.func48 rfl rfl rfl ?_
 refine FW.seq (FW.region ?_)
 refine FL.v (E.assign (v := Value.bool false) rfl) ?_
 refine FL.nil (FW.seq (FW.region ?_))
 refine FL.v (E.move (v := Value.string a0) rfl) ?_
 refine FL.v (E.lenS Tryz.runUnderlying9 rfl) ?_
 refine FL.v (E.gtr rfl rfl) ?_
 refine FL.v (E.move (v := Value.bool (decide (0 < (a0.size : Int)))) rfl) ?_
 refine FL.cut 4 (fun f w => ∃ H : GH, St Ha wa H w [] ∧ Inc Ha H ∧ f 0 = Value.string a0 ∧ f 10 = Value.bool (bif (decide (0 < (a0.size : Int))) then (decide ((a0.size : Int) ≤ 80)) else false)) ?_ ?_
 ·
  rcases bcase (decide (0 < (a0.size : Int))) with c27 | c27
  ·
   refine FL.val (wF_yes rfl rfl rfl c27) rfl rfl (E.move (v := Value.string a0) rfl) ?_
   refine FL.val (wF_yes rfl rfl rfl c27) rfl rfl (E.lenS Tryz.runUnderlying9 rfl) ?_
   refine FL.val (wF_yes rfl rfl rfl c27) rfl rfl (E.leq rfl rfl) ?_
   refine FL.v (E.pickT rfl c27 rfl) ?_
   exact FL.nil ⟨rfl, _, S0, (Inc.rfl _), rfl, (congrArg Value.bool (bifT c27).symm)⟩
  ·
   refine FL.skip (wF_no rfl rfl rfl c27) rfl ?_
   refine FL.skip (wF_no rfl rfl rfl c27) rfl ?_
   refine FL.skip (wF_no rfl rfl rfl c27) rfl ?_
   refine FL.v (E.pickF rfl c27 rfl) ?_
   exact FL.nil ⟨rfl, _, S0, (Inc.rfl _), rfl, (congrArg Value.bool (bifF c27).symm)⟩
 rintro f26 w25 ⟨H22, S23, i24, k28, k29⟩
 refine FL.v (E.move k29) ?_
 obtain ⟨t35, hqt35, hp⟩ := bnd hp
 refine FL.cut 6 (fun f w => ∃ H : GH, St Ha wa H w [] ∧ Inc H22 H ∧ f 17 = Value.bool t35) ?_ ?_
 ·
  clear hp; have hp := hqt35; clear hqt35
  rcases ifB hp with ⟨c41, hp⟩ | ⟨c41, hp⟩
  ·
   refine FL.val (wF_yes rfl rfl rfl c41) rfl rfl (E.move k28) ?_
   obtain ⟨r42, hr43, hp⟩ := bnd hp
   refine FL.call (wF_yes rfl rfl rfl c41) rfl rfl (E.call Tryz.call98 (A2 rfl rfl)) (w_spec_l22End S23.sl a0 0 hr43) ?_
   rintro e w44 ⟨rfl, r45⟩
   refine ⟨_, rfl, ?_⟩
   have S46 := S23.call r45
   refine FL.val (wF_yes rfl rfl rfl c41) rfl rfl (E.move k28) ?_
   refine FL.val (wF_yes rfl rfl rfl c41) rfl rfl (E.lenS Tryz.runUnderlying9 rfl) ?_
   refine FL.val (wF_yes rfl rfl rfl c41) rfl rfl (E.eql rfl rfl) ?_
   obtain rfl := Option.some.inj hp
   refine FL.v (E.pickT rfl c41 rfl) ?_
   exact FL.nil ⟨rfl, _, S46, (Inc.rfl _), rfl⟩
  ·
   refine FL.skip (wF_no rfl rfl rfl c41) rfl ?_
   refine FL.skip (wF_no rfl rfl rfl c41) rfl ?_
   refine FL.skip (wF_no rfl rfl rfl c41) rfl ?_
   refine FL.skip (wF_no rfl rfl rfl c41) rfl ?_
   refine FL.skip (wF_no rfl rfl rfl c41) rfl ?_
   obtain rfl := Option.some.inj hp
   refine FL.v (E.pickF rfl c41 rfl) ?_
   exact FL.nil ⟨rfl, _, S23, (Inc.rfl _), rfl⟩
 rintro f40 w39 ⟨H36, S37, i38, k47⟩
 refine FL.v (E.assign k47) ?_
 refine FL.nil ?_
 refine FW.ret ?_
 obtain rfl := Option.some.inj hp
 exact ⟨.inr rfl, res1 rfl rfl ⟨rfl, S37.back⟩⟩

@[reducible] def p_spec_l1Cur_formula (H0 : GH) (w0 : World) (Ha : GH) (L : List MO) (b0 : Nat) (r : (ByteArray × l1Cur)) : Ending → World → Prop :=
 fun e w' => ∃ H' : GH, ∃ v0_0r : Value, e = .returned (Value.string r.1) ∧ (St H0 w0 H' w' (.box b0 151 [v0_0r, Value.int .i64 r.2.at_, Value.int .u64 r.2.seed] :: L) ∧ Inc Ha H') ∧ RSl H' (eN .u8) 1 v0_0r r.2.code
theorem w_spec_l1Cur_formula {H0 Ha : GH} {w0 wa : World} {L : List MO} {a0 : l1Cur} {b0 : Nat} {v0_0 : Value} (S0 : St H0 w0 Ha wa (.box b0 151 [v0_0, Value.int .i64 a0.at_, Value.int .u64 a0.seed] :: L)) (p0_0 : RSl Ha (eN .u8) 1 v0_0 a0.code) {r : (ByteArray × l1Cur)} (hp : (PF.spec_l1Cur_formula a0) = some r) :
  Calls Tryz.prog 170 #[Value.pointer (some (⟨b0, 0, none⟩ : Addr))] wa (p_spec_l1Cur_formula H0 w0 Ha L b0 r) := by
 unfold PF.spec_l1Cur_formula at hp
 refine calls_go (N := 13) (args := [Value.pointer (some (⟨b0, 0, none⟩ : Addr))]) Tryz.func170 rfl rfl rfl ?_
 refine FW.seq (FW.region ?_)
 refine FL.v (E.assign (v := Value.string (ByteArray.mk #[])) rfl) ?_
 refine FL.nil (FW.seq (FW.region ?_))
 refine FL.v (E.move (v := Value.pointer (some (⟨b0, 0, none⟩ : Addr))) rfl) ?_
 refine FL.v (E.move (v := Value.pointer (some (⟨b0, 0, none⟩ : Addr))) rfl) ?_
 obtain ⟨v21, w22, run23, S24, els25⟩ := S0.ints (P := Tryz.prog) te82 (up w0.heap.size Ha) 8 [1, 2, 3, 3, 4, 5, 6, 8]
 refine FL.v (E.buildSlice (B8 rfl rfl rfl rfl rfl rfl rfl rfl) run23) ?_
 obtain ⟨H26, S27, i28, h29, nv30⟩ := S24.sealRowU (i := 0) (l' := (.box b0 151 [v0_0, Value.int .i64 a0.at_, Value.int .u64 a0.seed] :: L)) rfl els25 (by decide) rfl
 obtain ⟨r31, hr32, hp⟩ := bnd hp
 refine FL.call rfl rfl rfl (E.call Tryz.call214 (A2 rfl rfl)) (w_spec_l1Cur_among (L := (L)) S27 (a0 := a0) (p0_0.mono i28) v21 [1, 2, 3, 3, 4, 5, 6, 8] (h29.mono upI) hr32) ?_
 rintro e w34 ⟨H33, v37, rfl, ⟨S35, i36⟩, h38⟩
 refine ⟨_, rfl, ?_⟩
 have S35 : St H0 w0 H33 w34 (.box b0 151 [v37, Value.int .i64 r31.2.at_, Value.int .u64 r31.2.seed] :: L) := S35
 obtain ⟨r39, hr40, hp⟩ := bnd hp
 refine FL.call rfl rfl rfl (E.call Tryz.call213 (A2 rfl rfl)) (w_spec_l1Cur_formula22 (L := (L)) S35 (a0 := r31.2) h38 r31.1 hr40) ?_
 rintro e w42 ⟨H41, v45, rfl, ⟨S43, i44⟩, h46⟩
 refine ⟨_, rfl, ?_⟩
 have S43 : St H0 w0 H41 w42 (.box b0 151 [v45, Value.int .i64 r39.2.at_, Value.int .u64 r39.2.seed] :: L) := S43
 refine FL.v (E.assign (v := Value.string r39.1) rfl) ?_
 refine FL.nil (FW.seq (FW.seq (FW.region ?_)))
 refine FL.v (E.move (v := Value.string r39.1) rfl) ?_
 obtain ⟨r47, hr48, hp⟩ := bnd hp
 refine FL.call rfl rfl rfl (E.call Tryz.call48 (A1 rfl)) (w_spec_l22Good S43.sl r39.1 hr48) ?_
 rintro e w49 ⟨rfl, r50⟩
 refine ⟨_, rfl, ?_⟩
 have S51 := S43.call r50
 refine FL.v (E.not rfl) ?_
 refine FL.nil ?_
 rcases ifB hp with ⟨c52, hp⟩ | ⟨c52, hp⟩
 ·
  refine FW.condT rfl c52 ?_
  refine FW.seq (FW.region ?_)
  refine FL.v (E.assign (v := Value.string (ByteArray.mk #[40, 97, 62, 97, 41])) rfl) ?_
  refine FL.nil ?_
  refine FW.ret ?_
  obtain rfl := Option.some.inj hp
  exact ⟨.inr rfl, res1 rfl rfl ⟨_, _, rfl, ⟨S51, ((i28.tr i36).tr i44)⟩, h46⟩⟩
 ·
  refine FW.condF rfl c52 ?_
  refine FW.skip (FW.seq (FW.region ?_))
  refine FL.v (E.move (v := Value.string r39.1) rfl) ?_
  refine FL.v (E.assign (v := Value.string r39.1) rfl) ?_
  refine FL.nil ?_
  refine FW.ret ?_
  obtain rfl := Option.some.inj hp
  exact ⟨.inr rfl, res1 rfl rfl ⟨_, _, rfl, ⟨S51, ((i28.tr i36).tr i44)⟩, h46⟩⟩

@[reducible] def p_spec_l1Cur_spoilt (H0 : GH) (w0 : World) (Ha : GH) (L : List MO) (b0 : Nat) (r : (ByteArray × l1Cur)) : Ending → World → Prop :=
 fun e w' => ∃ H' : GH, ∃ v0_0r : Value, e = .returned (Value.string r.1) ∧ (St H0 w0 H' w' (.box b0 151 [v0_0r, Value.int .i64 r.2.at_, Value.int .u64 r.2.seed] :: L) ∧ Inc Ha H') ∧ RSl H' (eN .u8) 1 v0_0r r.2.code
set_option maxHeartbeats 4000000 in
theorem w_spec_l1Cur_spoilt {H0 Ha : GH} {w0 wa : World} {L : List MO} {a0 : l1Cur} {b0 : Nat} {v0_0 : Value} (S0 : St H0 w0 Ha wa (.box b0 151 [v0_0, Value.int .i64 a0.at_, Value.int .u64 a0.seed] :: L)) (p0_0 : RSl Ha (eN .u8) 1 v0_0 a0.code) (a1 : ByteArray) (a2 : ByteArray) {r : (ByteArray × l1Cur)} (hp : (PF.spec_l1Cur_spoilt a0 a1 a2) = some r) :
  Calls Tryz.prog 172 #[Value.pointer (some (⟨b0, 0, none⟩ : Addr)), Value.string a1, Value.string a2] wa (p_spec_l1Cur_spoilt H0 w0 Ha L b0 r) := by
 unfold PF.spec_l1Cur_spoilt at hp
 refine calls_go (N := 57) (args := [Value.pointer (some (⟨b0, 0, none⟩ : Addr)), Value.string a1, Value.string a2]) Tryz.func172 rfl rfl rfl ?_
 refine FW.seq (FW.region ?_)
 refine FL.v (E.assign (v := Value.string (ByteArray.mk #[])) rfl) ?_
 refine FL.nil (FW.seq (FW.seq (FW.region ?_)))
 refine FL.v (E.move (v := Value.string a1) rfl) ?_
 refine FL.v (E.eqlS rfl rfl) ?_
 refine FL.nil ?_
 rcases ifB hp with ⟨c21, hp⟩ | ⟨c21, hp⟩
 ·
  refine FW.condT rfl c21 ?_
  refine FW.seq (FW.region ?_)
  refine FL.v (E.move (v := Value.string a2) rfl) ?_
  obtain ⟨z22, h23, hp⟩ := bnd hp
  refine FL.v (E.cutS (kl := .i64) (kh := .i64) Tryz.underlying9 rfl (.inl ⟨rfl, rfl⟩) (.inr ⟨_, rfl, rfl⟩) h23) ?_
  refine FL.v (E.assign (v := Value.string z22) rfl) ?_
  refine FL.nil ?_
  refine FW.ret ?_
  obtain rfl := Option.some.inj hp
  exact ⟨.inr rfl, res1 rfl rfl ⟨_, _, rfl, ⟨S0, (Inc.rfl _)⟩, p0_0⟩⟩
 ·
  refine FW.condF rfl c21 ?_
  refine FW.skip (FW.seq (FW.region ?_))
  refine FL.v (E.move (v := Value.pointer (some (⟨b0, 0, none⟩ : Addr))) rfl) ?_
  refine FL.v (E.move (v := Value.string a1) rfl) ?_
  refine FL.v (E.lenS Tryz.runUnderlying9 rfl) ?_
  obtain ⟨r24, hr25, hp⟩ := bnd hp
  refine FL.call rfl rfl rfl (E.call Tryz.call171 (A2 rfl rfl)) (w_spec_l1Cur_pick (L := (L)) S0 (a0 := a0) p0_0 (a1.size : Int) hr25) ?_
  rintro e w27 ⟨H26, v30, rfl, ⟨S28, i29⟩, h31⟩
  refine ⟨_, rfl, ?_⟩
  have S28 : St H0 w0 H26 w27 (.box b0 151 [v30, Value.int .i64 r24.2.at_, Value.int .u64 r24.2.seed] :: L) := S28
  refine FL.v (E.assign (v := Value.int .i64 r24.1) rfl) ?_
  refine FL.nil (FW.seq (FW.region ?_))
  refine FL.v (E.move (v := Value.string a2) rfl) ?_
  refine FL.v (E.move (v := Value.pointer (some (⟨b0, 0, none⟩ : Addr))) rfl) ?_
  refine FL.v (E.move (v := Value.string a2) rfl) ?_
  refine FL.v (E.lenS Tryz.runUnderlying9 rfl) ?_
  obtain ⟨r32, hr33, hp⟩ := bnd hp
  refine FL.call rfl rfl rfl (E.call Tryz.call171 (A2 rfl rfl)) (w_spec_l1Cur_pick (L := (L)) S28 (a0 := r24.2) h31 (a2.size : Int) hr33) ?_
  rintro e w35 ⟨H34, v38, rfl, ⟨S36, i37⟩, h39⟩
  refine ⟨_, rfl, ?_⟩
  have S36 : St H0 w0 H34 w35 (.box b0 151 [v38, Value.int .i64 r32.2.at_, Value.int .u64 r32.2.seed] :: L) := S36
  obtain ⟨z40, h41, hp⟩ := bnd hp
  refine FL.v (E.cutS (kl := .i64) (kh := .i64) Tryz.underlying9 rfl (.inr ⟨_, rfl, rfl⟩) (.inl ⟨rfl, rfl⟩) h41) ?_
  obtain ⟨z42, h43, hp⟩ := bnd hp
  refine FL.v (E.cutS (kl := .i64) (kh := .i64) Tryz.underlying9 rfl (.inl ⟨rfl, rfl⟩) (.inr ⟨_, rfl, rfl⟩) h43) ?_
  refine FL.v (E.assign (v := Value.string z42) rfl) ?_
  refine FL.nil (FW.seq (FW.seq (FW.region ?_)))
  refine FL.v (E.move (v := Value.pointer (some (⟨b0, 0, none⟩ : Addr))) rfl) ?_
  obtain ⟨r44, hr45, hp⟩ := bnd hp
  refine FL.call rfl rfl rfl (E.call Tryz.call171 (A2 rfl rfl)) (w_spec_l1Cur_pick (L := (L)) S36 (a0 := r32.2) h39 3 hr45) ?_
  rintro e w47 ⟨H46, v50, rfl, ⟨S48, i49⟩, h51⟩
  refine ⟨_, rfl, ?_⟩
  have S48 : St H0 w0 H46 w47 (.box b0 151 [v50, Value.int .i64 r44.2.at_, Value.int .u64 r44.2.seed] :: L) := S48
  refine FL.nil (FW.block (FW.seq (FW.region ?_)))
  refine FL.v (E.eql rfl rfl) ?_
  refine FL.v (E.assign (v := Value.bool (r44.1 == 0)) rfl) ?_
  refine FL.nil ?_
  rcases ifB hp with ⟨c52, hp⟩ | ⟨c52, hp⟩
  ·
   refine FW.condT rfl c52 ?_
   refine FW.seq ?_
   refine FW.draw (fun w' => Run w47.heap.size H46 w47 H46 w') (by kernel_rfl) (by kernel_rfl) (run_drew S48.sl) ?_
   refine FD.val rfl rfl rfl (fun w' hw' => (E.move (v := Value.string a1) rfl)) ?_
   refine FD.val rfl rfl rfl (fun w' hw' => (E.move (v := Value.int .i64 r24.1) rfl)) ?_
   obtain ⟨z54, h55, hp⟩ := bnd hp
   refine FD.val rfl rfl rfl (fun w' hw' => (E.cutS (kl := .i64) (kh := .i64) Tryz.underlying9 rfl (.inl ⟨rfl, rfl⟩) (.inr ⟨_, rfl, rfl⟩) h55)) ?_
   refine FD.val rfl rfl rfl (fun w' hw' => (E.move (v := Value.string z42) rfl)) ?_
   obtain ⟨z56, h57, hp⟩ := bnd hp
   refine FD.val rfl rfl rfl (fun w' hw' => (E.addT rfl rfl h57)) ?_
   refine FD.val rfl rfl rfl (fun w' hw' => (E.move (v := Value.string a1) rfl)) ?_
   refine FD.val rfl rfl rfl (fun w' hw' => (E.move (v := Value.int .i64 r24.1) rfl)) ?_
   obtain ⟨z58, h59, hp⟩ := bnd hp
   refine FD.val rfl rfl rfl (fun w' hw' => (E.cutS (kl := .i64) (kh := .i64) Tryz.underlying9 rfl (.inr ⟨_, rfl, rfl⟩) (.inl ⟨rfl, rfl⟩) h59)) ?_
   obtain ⟨z60, h61, hp⟩ := bnd hp
   refine FD.val rfl rfl rfl (fun w' hw' => (E.addT rfl rfl h61)) ?_
   refine FD.val rfl rfl rfl (fun w' hw' => (E.assign (v := Value.string z60) rfl)) ?_
   refine FD.nil ?_
   intro w62 r64
   have S63 := S48.call r64
   refine FW.ret ?_
   obtain rfl := Option.some.inj hp
   exact ⟨.inr rfl, res1 rfl rfl ⟨_, _, rfl, ⟨S63, ((i29.tr i37).tr i49)⟩, h51⟩⟩
  ·
   refine FW.condF rfl c52 ?_
   refine FW.seq (FW.region ?_)
   refine FL.v (E.eql rfl rfl) ?_
   refine FL.v (E.assign (v := Value.bool (r44.1 == 1)) rfl) ?_
   refine FL.nil ?_
   rcases ifB hp with ⟨c65, hp⟩ | ⟨c65, hp⟩
   ·
    refine FW.condT rfl c65 ?_
    refine FW.seq ?_
    refine FW.draw (fun w' => Run w47.heap.size H46 w47 H46 w') (by kernel_rfl) (by kernel_rfl) (run_drew S48.sl) ?_
    refine FD.val rfl rfl rfl (fun w' hw' => (E.move (v := Value.string a1) rfl)) ?_
    refine FD.val rfl rfl rfl (fun w' hw' => (E.move (v := Value.int .i64 r24.1) rfl)) ?_
    obtain ⟨z67, h68, hp⟩ := bnd hp
    refine FD.val rfl rfl rfl (fun w' hw' => (E.cutS (kl := .i64) (kh := .i64) Tryz.underlying9 rfl (.inl ⟨rfl, rfl⟩) (.inr ⟨_, rfl, rfl⟩) h68)) ?_
    refine FD.val rfl rfl rfl (fun w' hw' => (E.move (v := Value.string z42) rfl)) ?_
    obtain ⟨z69, h70, hp⟩ := bnd hp
    refine FD.val rfl rfl rfl (fun w' hw' => (E.addT rfl rfl h70)) ?_
    refine FD.val rfl rfl rfl (fun w' hw' => (E.move (v := Value.string a1) rfl)) ?_
    refine FD.val rfl rfl rfl (fun w' hw' => (E.move (v := Value.int .i64 r24.1) rfl)) ?_
    refine FD.val rfl rfl rfl (fun w' hw' => (E.add rfl rfl)) ?_
    obtain ⟨z71, h72, hp⟩ := bnd hp
    refine FD.val rfl rfl rfl (fun w' hw' => (E.cutS (kl := .i64) (kh := .i64) Tryz.underlying9 rfl (.inr ⟨_, rfl, rfl⟩) (.inl ⟨rfl, rfl⟩) h72)) ?_
    obtain ⟨z73, h74, hp⟩ := bnd hp
    refine FD.val rfl rfl rfl (fun w' hw' => (E.addT rfl rfl h74)) ?_
    refine FD.val rfl rfl rfl (fun w' hw' => (E.assign (v := Value.string z73) rfl)) ?_
    refine FD.nil ?_
    intro w75 r77
    have S76 := S48.call r77
    refine FW.ret ?_
    obtain rfl := Option.some.inj hp
    exact ⟨.inr rfl, res1 rfl rfl ⟨_, _, rfl, ⟨S76, ((i29.tr i37).tr i49)⟩, h51⟩⟩
   ·
    refine FW.condF rfl c65 ?_
    refine FW.skip (FW.seq ?_)
    refine FW.draw (fun w' => Run w47.heap.size H46 w47 H46 w') (by kernel_rfl) (by kernel_rfl) (run_drew S48.sl) ?_
    refine FD.val rfl rfl rfl (fun w' hw' => (E.move (v := Value.string a1) rfl)) ?_
    refine FD.val rfl rfl rfl (fun w' hw' => (E.move (v := Value.int .i64 r24.1) rfl)) ?_
    obtain ⟨z79, h80, hp⟩ := bnd hp
    refine FD.val rfl rfl rfl (fun w' hw' => (E.cutS (kl := .i64) (kh := .i64) Tryz.underlying9 rfl (.inl ⟨rfl, rfl⟩) (.inr ⟨_, rfl, rfl⟩) h80)) ?_
    refine FD.val rfl rfl rfl (fun w' hw' => (E.move (v := Value.string a1) rfl)) ?_
    refine FD.val rfl rfl rfl (fun w' hw' => (E.move (v := Value.int .i64 r24.1) rfl)) ?_
    refine FD.val rfl rfl rfl (fun w' hw' => (E.add rfl rfl)) ?_
    obtain ⟨z81, h82, hp⟩ := bnd hp
    refine FD.val rfl rfl rfl (fun w' hw' => (E.cutS (kl := .i64) (kh := .i64) Tryz.underlying9 rfl (.inr ⟨_, rfl, rfl⟩) (.inl ⟨rfl, rfl⟩) h82)) ?_
    obtain ⟨z83, h84, hp⟩ := bnd hp
    refine FD.val rfl rfl rfl (fun w' hw' => (E.addT rfl rfl h84)) ?_
    refine FD.val rfl rfl rfl (fun w' hw' => (E.assign (v := Value.string z83) rfl)) ?_
    refine FD.nil ?_
    intro w85 r87
    have S86 := S48.call r87
    refine FW.ret ?_
    obtain rfl := Option.some.inj hp
    exact ⟨.inr rfl, res1 rfl rfl ⟨_, _, rfl, ⟨S86, ((i29.tr i37).tr i49)⟩, h51⟩⟩

@[reducible] def p_spec_l1Cur_formulaText (H0 : GH) (w0 : World) (Ha : GH) (L : List MO) (b0 : Nat) (r : (ByteArray × l1Cur)) : Ending → World → Prop :=
 fun e w' => ∃ H' : GH, ∃ v0_0r : Value, e = .returned (Value.string r.1) ∧ (St H0 w0 H' w' (.box b0 151 [v0_0r, Value.int .i64 r.2.at_, Value.int .u64 r.2.seed] :: L) ∧ Inc Ha H') ∧ RSl H' (eN .u8) 1 v0_0r r.2.code
set_option maxHeartbeats 4000000 in
theorem w_spec_l1Cur_formulaText {H0 Ha : GH} {w0 wa : World} {L : List MO} {a0 : l1Cur} {b0 : Nat} {v0_0 : Value} (S0 : St H0 w0 Ha wa (.box b0 151 [v0_0, Value.int .i64 a0.at_, Value.int .u64 a0.seed] :: L)) (p0_0 : RSl Ha (eN .u8) 1 v0_0 a0.code) {r : (ByteArray × l1Cur)} (hp : (PF.spec_l1Cur_formulaText a0) = some r) :
  Calls Tryz.prog 126 #[Value.pointer (some (⟨b0, 0, none⟩ : Addr))] wa (p_spec_l1Cur_formulaText H0 w0 Ha L b0 r) := by
 unfold PF.spec_l1Cur_formulaText at hp
 refine calls_go (N := 31) (args := [Value.pointer (some (⟨b0, 0, none⟩ : Addr))]) Tryz.func126 rfl rfl rfl ?_
 refine FW.seq (FW.region ?_)
 refine FL.v (E.assign (v := Value.string (ByteArray.mk #[])) rfl) ?_
 refine FL.nil (FW.seq (FW.region ?_))
 refine FL.v (E.move (v := Value.pointer (some (⟨b0, 0, none⟩ : Addr))) rfl) ?_
 obtain ⟨r21, hr22, hp⟩ := bnd hp
 refine FL.call rfl rfl rfl (E.call Tryz.call170 (A1 rfl)) (w_spec_l1Cur_formula (L := (L)) S0 (a0 := a0) p0_0 hr22) ?_
 rintro e w24 ⟨H23, v27, rfl, ⟨S25, i26⟩, h28⟩
 refine ⟨_, rfl, ?_⟩
 have S25 : St H0 w0 H23 w24 (.box b0 151 [v27, Value.int .i64 r21.2.at_, Value.int .u64 r21.2.seed] :: L) := S25
 refine FL.v (E.assign (v := Value.string r21.1) rfl) ?_
 refine FL.nil (FW.seq (FW.seq (FW.region ?_)))
 refine FL.v (E.move (v := Value.pointer (some (⟨b0, 0, none⟩ : Addr))) rfl) ?_
 obtain ⟨r29, hr30, hp⟩ := bnd hp
 refine FL.call rfl rfl rfl (E.call Tryz.call171 (A2 rfl rfl)) (w_spec_l1Cur_pick (L := (L)) S25 (a0 := r21.2) h28 16 hr30) ?_
 rintro e w32 ⟨H31, v35, rfl, ⟨S33, i34⟩, h36⟩
 refine ⟨_, rfl, ?_⟩
 have S33 : St H0 w0 H31 w32 (.box b0 151 [v35, Value.int .i64 r29.2.at_, Value.int .u64 r29.2.seed] :: L) := S33
 refine FL.nil (FW.block (FW.seq (FW.region ?_)))
 refine FL.v (E.eql rfl rfl) ?_
 refine FL.v (E.assign (v := Value.bool (r29.1 == 0)) rfl) ?_
 refine FL.nil ?_
 rcases ifB hp with ⟨c37, hp⟩ | ⟨c37, hp⟩
 ·
  refine FW.condT rfl c37 ?_
  refine FW.seq (FW.region ?_)
  refine FL.v (E.move (v := Value.pointer (some (⟨b0, 0, none⟩ : Addr))) rfl) ?_
  refine FL.v (E.move (v := Value.string r21.1) rfl) ?_
  obtain ⟨r38, hr39, hp⟩ := bnd hp
  refine FL.call rfl rfl rfl (E.call Tryz.call172 (A3 rfl rfl rfl)) (w_spec_l1Cur_spoilt (L := (L)) S33 (a0 := r29.2) h36 r21.1 (ByteArray.mk #[97, 98, 48, 49, 126, 40, 38, 124, 62, 41]) hr39) ?_
  rintro e w41 ⟨H40, v44, rfl, ⟨S42, i43⟩, h45⟩
  refine ⟨_, rfl, ?_⟩
  have S42 : St H0 w0 H40 w41 (.box b0 151 [v44, Value.int .i64 r38.2.at_, Value.int .u64 r38.2.seed] :: L) := S42
  refine FL.v (E.assign (v := Value.string r38.1) rfl) ?_
  refine FL.nil ?_
  refine FW.ret ?_
  obtain rfl := Option.some.inj hp
  exact ⟨.inr rfl, res1 rfl rfl ⟨_, _, rfl, ⟨S42, ((i26.tr i34).tr i43)⟩, h45⟩⟩
 ·
  refine FW.condF rfl c37 ?_
  refine FW.seq (FW.region ?_)
  refine FL.v (E.eql rfl rfl) ?_
  refine FL.v (E.assign (v := Value.bool (r29.1 == 1)) rfl) ?_
  refine FL.nil ?_
  rcases ifB hp with ⟨c46, hp⟩ | ⟨c46, hp⟩
  ·
   refine FW.condT rfl c46 ?_
   refine FW.seq (FW.region ?_)
   refine FL.v (E.move (v := Value.pointer (some (⟨b0, 0, none⟩ : Addr))) rfl) ?_
   obtain ⟨r47, hr48, hp⟩ := bnd hp
   refine FL.call rfl rfl rfl (E.call Tryz.call171 (A2 rfl rfl)) (w_spec_l1Cur_pick (L := (L)) S33 (a0 := r29.2) h36 4 hr48) ?_
   rintro e w50 ⟨H49, v53, rfl, ⟨S51, i52⟩, h54⟩
   refine ⟨_, rfl, ?_⟩
   have S51 : St H0 w0 H49 w50 (.box b0 151 [v53, Value.int .i64 r47.2.at_, Value.int .u64 r47.2.seed] :: L) := S51
   refine FL.v (E.add rfl rfl) ?_
   refine FL.v (E.assign (v := Value.int .i64 (wr (78 + r47.1))) rfl) ?_
   refine FL.nil ?_
   obtain ⟨q55, hq, hp⟩ := bndR hp
   refine FW.block ?_
   refine FW.mono (FW.iter (S := ByteArray) (X := Empty) (fun (s55 : ByteArray) f w => ∃ H : GH, St H0 w0 H w (.box b0 151 [v53, Value.int .i64 r47.2.at_, Value.int .u64 r47.2.seed] :: L) ∧ Inc H49 H ∧ f 3 = Value.string s55 ∧ f 4 = Value.int .i64 (wr (78 + r47.1))) (fun (q : Rs ByteArray Empty) e f w => match q with | .go s55 => e = Exit.exit 1 ∧ (∃ H : GH, St H0 w0 H w (.box b0 151 [v53, Value.int .i64 r47.2.at_, Value.int .u64 r47.2.seed] :: L) ∧ Inc H49 H ∧ f 3 = Value.string s55) | .rt x => x.elim) hq ⟨_, S51, (Inc.rfl _), rfl, rfl⟩ ?_) ?_
   ·
    clear hp hq
    rintro s55 f70 w69 ⟨H66, S67, i68, k71, k72⟩ o76 hp
    refine FW.seq (FW.seq (FW.region ?_))
    refine FL.v (E.move k71) ?_
    refine FL.v (E.lenS Tryz.runUnderlying9 rfl) ?_
    refine FL.v (E.move k72) ?_
    refine FL.v (E.lss rfl rfl) ?_
    refine FL.nil ?_
    rcases ifB hp with ⟨c73, hp⟩ | ⟨c73, hp⟩
    ·
     refine FW.condT rfl c73 ?_
     refine FW.skip (FW.block (FW.region ?_))
     refine FL.v (E.move k71) ?_
     obtain ⟨z74, h75, hp⟩ := bnd hp
     refine FL.v (E.addT rfl rfl h75) ?_
     refine FL.v (E.assign (v := Value.string z74) rfl) ?_
     refine FL.nil ?_
     obtain rfl := Option.some.inj hp
     exact ⟨rfl, ⟨_, S67, i68, rfl, k72⟩⟩
    ·
     refine FW.condF rfl c73 ?_
     refine FW.exit ?_
     obtain rfl := Option.some.inj hp
     exact ⟨nofun, rfl, ⟨_, S67, i68, k71⟩⟩
   ·
    clear hq
    intro e f81 w80 hD
    rcases q55 with s55 | x55
    ·
     obtain ⟨rfl, hD⟩ := hD
     obtain ⟨H77, S78, i79, k82⟩ := hD
     replace hp := el_go hp
     refine FW.seq (FW.region ?_)
     refine FL.v (E.move k82) ?_
     refine FL.v (E.assign (v := Value.string s55) rfl) ?_
     refine FL.nil ?_
     refine FW.ret ?_
     obtain rfl := Option.some.inj hp
     exact ⟨.inr rfl, res1 rfl rfl ⟨_, _, rfl, ⟨S78, (((i26.tr i34).tr i52).tr i79)⟩, (h54.mono i79)⟩⟩
    ·
     exact x55.elim
  ·
   refine FW.condF rfl c46 ?_
   refine FW.seq (FW.region ?_)
   refine FL.v (E.eql rfl rfl) ?_
   refine FL.v (E.assign (v := Value.bool (r29.1 == 2)) rfl) ?_
   refine FL.nil ?_
   rcases ifB hp with ⟨c83, hp⟩ | ⟨c83, hp⟩
   ·
    refine FW.condT rfl c83 ?_
    refine FW.seq (FW.region ?_)
    refine FL.v (E.move (v := Value.pointer (some (⟨b0, 0, none⟩ : Addr))) rfl) ?_
    obtain ⟨v84, w85, run86, S87⟩ := S33.buildSlice (P := Tryz.prog) te22 [Value.string (ByteArray.mk #[]), Value.string (ByteArray.mk #[103]), Value.string (ByteArray.mk #[40, 97, 38, 98]), Value.string (ByteArray.mk #[97, 38, 98]), Value.string (ByteArray.mk #[40, 41]), Value.string (ByteArray.mk #[126]), Value.string (ByteArray.mk #[65])] (parts := #[(0, Value.string (ByteArray.mk #[])), (1, Value.string (ByteArray.mk #[103])), (2, Value.string (ByteArray.mk #[40, 97, 38, 98])), (3, Value.string (ByteArray.mk #[97, 38, 98])), (4, Value.string (ByteArray.mk #[40, 41])), (5, Value.string (ByteArray.mk #[126])), (6, Value.string (ByteArray.mk #[65]))]) (cells := [Value.string (ByteArray.mk #[]), Value.string (ByteArray.mk #[103]), Value.string (ByteArray.mk #[40, 97, 38, 98]), Value.string (ByteArray.mk #[97, 38, 98]), Value.string (ByteArray.mk #[40, 41]), Value.string (ByteArray.mk #[126]), Value.string (ByteArray.mk #[65])]) rfl (szs_cons rfl (szs_cons rfl (szs_cons rfl (szs_cons rfl (szs_cons rfl (szs_cons rfl (szs_cons rfl szs_nil))))))) (fc_cons rfl (fc_cons rfl (fc_cons rfl (fc_cons rfl (fc_cons rfl (fc_cons rfl (fc_cons rfl fc_nil))))))) (ones_cons rfl (ones_cons rfl (ones_cons rfl (ones_cons rfl (ones_cons rfl (ones_cons rfl (ones_cons rfl ones_nil))))))) (Nat.le_of_ble_eq_true rfl)
    have els88 : Els (up w0.heap.size H31) eS 1 [Value.string (ByteArray.mk #[]), Value.string (ByteArray.mk #[103]), Value.string (ByteArray.mk #[40, 97, 38, 98]), Value.string (ByteArray.mk #[97, 38, 98]), Value.string (ByteArray.mk #[40, 41]), Value.string (ByteArray.mk #[126]), Value.string (ByteArray.mk #[65])] [(ByteArray.mk #[]), (ByteArray.mk #[103]), (ByteArray.mk #[40, 97, 38, 98]), (ByteArray.mk #[97, 38, 98]), (ByteArray.mk #[40, 41]), (ByteArray.mk #[126]), (ByteArray.mk #[65])] := (Els.snoc (H := (up w0.heap.size H31)) (E := eS) (k := 1) (c := [Value.string (ByteArray.mk #[65])]) (x := (ByteArray.mk #[65])) (Els.snoc (H := (up w0.heap.size H31)) (E := eS) (k := 1) (c := [Value.string (ByteArray.mk #[126])]) (x := (ByteArray.mk #[126])) (Els.snoc (H := (up w0.heap.size H31)) (E := eS) (k := 1) (c := [Value.string (ByteArray.mk #[40, 41])]) (x := (ByteArray.mk #[40, 41])) (Els.snoc (H := (up w0.heap.size H31)) (E := eS) (k := 1) (c := [Value.string (ByteArray.mk #[97, 38, 98])]) (x := (ByteArray.mk #[97, 38, 98])) (Els.snoc (H := (up w0.heap.size H31)) (E := eS) (k := 1) (c := [Value.string (ByteArray.mk #[40, 97, 38, 98])]) (x := (ByteArray.mk #[40, 97, 38, 98])) (Els.snoc (H := (up w0.heap.size H31)) (E := eS) (k := 1) (c := [Value.string (ByteArray.mk #[103])]) (x := (ByteArray.mk #[103])) (Els.snoc (H := (up w0.heap.size H31)) (E := eS) (k := 1) (c := [Value.string (ByteArray.mk #[])]) (x := (ByteArray.mk #[])) Els.nil rfl rfl) rfl rfl) rfl rfl) rfl rfl) rfl rfl) rfl rfl) rfl rfl)
    refine FL.v (E.buildSlice (B7 rfl rfl rfl rfl rfl rfl rfl) run86) ?_
    obtain ⟨H89, S90, i91, h92, nv93⟩ := S87.sealRowU (i := 0) (l' := (.box b0 151 [v35, Value.int .i64 r29.2.at_, Value.int .u64 r29.2.seed] :: L)) rfl els88 (by decide) rfl
    obtain ⟨r94, hr95, hp⟩ := bnd hp
    refine FL.call rfl rfl rfl (E.call Tryz.call173 (A2 rfl rfl)) (w_spec_l1Cur_of (L := (L)) S90 (a0 := r29.2) (h36.mono i91) v84 [(ByteArray.mk #[]), (ByteArray.mk #[103]), (ByteArray.mk #[40, 97, 38, 98]), (ByteArray.mk #[97, 38, 98]), (ByteArray.mk #[40, 41]), (ByteArray.mk #[126]), (ByteArray.mk #[65])] (h92.mono upI) hr95) ?_
    rintro e w97 ⟨H96, v100, rfl, ⟨S98, i99⟩, h101⟩
    refine ⟨_, rfl, ?_⟩
    have S98 : St H0 w0 H96 w97 (.box b0 151 [v100, Value.int .i64 r94.2.at_, Value.int .u64 r94.2.seed] :: L) := S98
    refine FL.v (E.assign (v := Value.string r94.1) rfl) ?_
    refine FL.nil ?_
    refine FW.ret ?_
    obtain rfl := Option.some.inj hp
    exact ⟨.inr rfl, res1 rfl rfl ⟨_, _, rfl, ⟨S98, (((i26.tr i34).tr i91).tr i99)⟩, h101⟩⟩
   ·
    refine FW.condF rfl c83 ?_
    refine FW.skip (FW.seq (FW.region ?_))
    refine FL.v (E.move (v := Value.string r21.1) rfl) ?_
    refine FL.v (E.assign (v := Value.string r21.1) rfl) ?_
    refine FL.nil ?_
    refine FW.ret ?_
    obtain rfl := Option.some.inj hp
    exact ⟨.inr rfl, res1 rfl rfl ⟨_, _, rfl, ⟨S33, (i26.tr i34)⟩, h36⟩⟩

theorem w_spec_DrawIsFormula {Ha : GH} {wa : World} (hs : Sl Ha wa) (v0 : Value) (a0 : List Int) (p0 : RSl Ha (eN .u8) 1 v0 a0) {r : ByteArray} (hp : (PF.spec_DrawIsFormula a0) = some r) :
  Calls Tryz.prog 77 #[v0] wa (Sc Ha wa (Value.string r)) := by
 unfold PF.spec_DrawIsFormula at hp
 have S0 := St.init hs
 refine calls_go (N := 9) (args := [v0]) Tryz.func77 rfl rfl rfl ?_
 refine FW.seq (FW.region ?_)
 refine FL.v (E.assign (v := Value.string (ByteArray.mk #[])) rfl) ?_
 refine FL.nil (FW.seq (FW.region ?_))
 refine FL.v (E.move (v := v0) rfl) ?_
 refine FL.v (E.build (B1 rfl) (run_build _ 151 #[(0, v0)] #[v0, Value.int .i64 0, Value.int .u64 0] (by obtain ⟨_, _, rfl⟩ := RSl.ln p0; rfl))) ?_
 obtain ⟨b21, w22, run23, S24⟩ := S0.box (P := Tryz.prog) 151 [v0, Value.int .i64 0, Value.int .u64 0] (v := Value.agg #[v0, Value.int .i64 0, Value.int .u64 0]) rfl (ones_cons p0.one (ones_cons rfl (ones_cons rfl ones_nil)))
 refine FL.v (E.box rfl run23) ?_
 refine FL.v (E.assign (v := Value.pointer (some (⟨b21, 0, none⟩ : Addr))) rfl) ?_
 refine FL.nil (FW.seq (FW.region ?_))
 refine FL.v (E.move (v := Value.pointer (some (⟨b21, 0, none⟩ : Addr))) rfl) ?_
 obtain ⟨r25, hr26, hp⟩ := bnd hp
 refine FL.call rfl rfl rfl (E.call Tryz.call126 (A1 rfl)) (w_spec_l1Cur_formulaText (L := []) S24 (a0 := (l1Cur.mk a0 0 0)) p0 hr26) ?_
 rintro e w28 ⟨H27, v31, rfl, ⟨S29, i30⟩, h32⟩
 refine ⟨_, rfl, ?_⟩
 have S29 : St Ha wa H27 w28 [.box b21 151 [v31, Value.int .i64 r25.2.at_, Value.int .u64 r25.2.seed]] := S29
 refine FL.v (E.assign (v := Value.string r25.1) rfl) ?_
 refine FL.nil ?_
 refine FW.ret ?_
 obtain rfl := Option.some.inj hp
 exact ⟨.inr rfl, res1 rfl rfl ⟨rfl, S29.back⟩⟩

theorem w_spec_DrawDefiningCnf {Ha : GH} {wa : World} (hs : Sl Ha wa) (v0 : Value) (a0 : List Int) (p0 : RSl Ha (eN .u8) 1 v0 a0) {r : ByteArray} (hp : (PF.spec_DrawDefiningCnf a0) = some r) :
  Calls Tryz.prog 29 #[v0] wa (Sc Ha wa (Value.string r)) := by
 unfold PF.spec_DrawDefiningCnf at hp
 have S0 := St.init hs
 refine calls_go (N := 5) (args := [v0]) Tryz.func29 rfl rfl rfl ?_
 refine FW.seq (FW.region ?_)
 refine FL.v (E.assign (v := Value.string (ByteArray.mk #[])) rfl) ?_
 refine FL.nil (FW.seq (FW.region ?_))
 refine FL.v (E.move (v := v0) rfl) ?_
 obtain ⟨r21, hr22, hp⟩ := bnd hp
 refine FL.call rfl rfl rfl (E.call Tryz.call77 (A1 rfl)) (w_spec_DrawIsFormula S0.sl v0 a0 p0 hr22) ?_
 rintro e w23 ⟨rfl, r24⟩
 refine ⟨_, rfl, ?_⟩
 have S25 := S0.call r24
 refine FL.v (E.assign (v := Value.string r21) rfl) ?_
 refine FL.nil ?_
 refine FW.ret ?_
 obtain rfl := Option.some.inj hp
 exact ⟨.inr rfl, res1 rfl rfl ⟨rfl, S25.back⟩⟩

theorem w_impl_isLetter {Ha : GH} {wa : World} (hs : Sl Ha wa) (a0 : Int) :
  Calls Tryz.prog 79 #[Value.int .u8 a0] wa (Sc Ha wa (Value.bool (PF.impl_isLetter a0))) := by
 obtain ⟨r, hp⟩ : ∃ r, (PF.impl_isLetter a0) = r := ⟨_, rfl⟩
 rw [hp]
 unfold PF.impl_isLetter at hp
 have S0 := St.init hs
 refine calls_go (N := 9) (args := [Value.int .u8 a0]) Tryz.func79 rfl rfl rfl ?_
 refine FW.seq (FW.region ?_)
 refine FL.v (E.assign (v := Value.bool false) rfl) ?_
 refine FL.nil (FW.seq (FW.region ?_))
 refine FL.v (E.move (v := Value.int .u8 a0) rfl) ?_
 refine FL.v (E.geq rfl rfl) ?_
 refine FL.v (E.move (v := Value.bool (decide (97 ≤ a0))) rfl) ?_
 refine FL.cut 3 (fun f w => ∃ H : GH, St Ha wa H w [] ∧ Inc Ha H ∧ f 8 = Value.bool (bif (decide (97 ≤ a0)) then (decide (a0 < 103)) else false)) ?_ ?_
 ·
  rcases bcase (decide (97 ≤ a0)) with c27 | c27
  ·
   refine FL.val (wF_yes rfl rfl rfl c27) rfl rfl (E.move (v := Value.int .u8 a0) rfl) ?_
   refine FL.val (wF_yes rfl rfl rfl c27) rfl rfl (E.lss rfl rfl) ?_
   refine FL.v (E.pickT rfl c27 rfl) ?_
   exact FL.nil ⟨rfl, _, S0, (Inc.rfl _), (congrArg Value.bool (bifT c27).symm)⟩
  ·
   refine FL.skip (wF_no rfl rfl rfl c27) rfl ?_
   refine FL.skip (wF_no rfl rfl rfl c27) rfl ?_
   refine FL.v (E.pickF rfl c27 rfl) ?_
   exact FL.nil ⟨rfl, _, S0, (Inc.rfl _), (congrArg Value.bool (bifF c27).symm)⟩
 rintro f26 w25 ⟨H22, S23, i24, k28⟩
 refine FL.v (E.assign k28) ?_
 refine FL.nil ?_
 refine FW.ret ?_
 obtain rfl := hp
 exact ⟨.inr rfl, res1 rfl rfl ⟨rfl, S23.back⟩⟩

@[reducible] def p_impl_leaf (Ha : GH) (wa : World) (r : Fo) : Ending → World → Prop :=
 fun e w' => ∃ H' : GH, ∃ v0 : Value, e = .returned (v0) ∧ Run wa.heap.size Ha wa H' w' ∧ FAt H' v0 r
theorem w_impl_leaf {Ha : GH} {wa : World} (hs : Sl Ha wa) (a0 : Int) {r : Fo} (hp : (PF.impl_leaf a0) = some r) :
  Calls Tryz.prog 174 #[Value.int .u8 a0] wa (p_impl_leaf Ha wa r) := by
 unfold PF.impl_leaf at hp
 have S0 := St.init hs
 refine calls_go (N := 8) (args := [Value.int .u8 a0]) Tryz.func174 rfl rfl rfl ?_
 refine FW.seq (FW.region ?_)
 refine FL.v (E.assign (v := Value.pointer none) rfl) ?_
 refine FL.nil (FW.seq (FW.region ?_))
 refine FL.v (E.move (v := Value.int .u8 a0) rfl) ?_
 refine FL.v (E.move (v := Value.int .u8 a0) rfl) ?_
 obtain ⟨z21, h22, hp⟩ := bnd hp
 refine FL.v (E.chr Tryz.runUnderlying5 Tryz.runUnderlying9 rfl h22) ?_
 refine FL.v (E.build (B2 rfl rfl) (run_build _ 109 #[(0, Value.int .u8 a0), (3, Value.string z21)] #[Value.int .u8 a0, Value.pointer none, Value.pointer none, Value.string z21] (by rfl))) ?_
 obtain ⟨b23, w24, run25, S26⟩ := S0.box (P := Tryz.prog) 109 [Value.int .u8 a0, Value.pointer none, Value.pointer none, Value.string z21] (v := Value.agg #[Value.int .u8 a0, Value.pointer none, Value.pointer none, Value.string z21]) rfl (ones_cons rfl (ones_cons rfl (ones_cons rfl (ones_cons rfl ones_nil))))
 refine FL.v (E.box rfl run25) ?_
 obtain ⟨H27, S28, i29, at30⟩ := S26.sealBox (i := 0) (l' := []) rfl rfl
 refine FL.v (E.assign (v := Value.pointer (some ⟨b23, 0, none⟩)) rfl) ?_
 refine FL.nil ?_
 refine FW.ret ?_
 obtain rfl := Option.some.inj hp
 exact ⟨.inr rfl, res1 rfl rfl ⟨_, _, rfl, S28.run, (FAt.mk at30 FAt.nil FAt.nil)⟩⟩

@[reducible] def p_impl_not (Ha : GH) (wa : World) (r : Fo) : Ending → World → Prop :=
 fun e w' => ∃ H' : GH, ∃ v0 : Value, e = .returned (v0) ∧ Run wa.heap.size Ha wa H' w' ∧ FAt H' v0 r
theorem w_impl_not {Ha : GH} {wa : World} (hs : Sl Ha wa) (v0 : Value) (a0 : Fo) (p0 : FAt Ha v0 a0) {r : Fo} (hp : (PF.impl_not a0) = some r) :
  Calls Tryz.prog 175 #[v0] wa (p_impl_not Ha wa r) := by
 unfold PF.impl_not at hp
 have S0 := St.init hs
 refine calls_go (N := 11) (args := [v0]) Tryz.func175 rfl rfl rfl ?_
 refine FW.seq (FW.region ?_)
 refine FL.v (E.assign (v := Value.pointer none) rfl) ?_
 refine FL.nil (FW.seq (FW.region ?_))
 refine FL.v (E.move (v := v0) rfl) ?_
 refine FL.v (E.move (v := v0) rfl) ?_
 obtain ⟨y21, hy22, hp⟩ := bnd hp
 obtain ⟨q23, v25, v26, rfl, at24, h27, h28⟩ := FAt.open p0 hy22
 refine FL.v (E.nilCheck rfl) ?_
 refine FL.v (E.fieldAddr tf109_3 rfl) ?_
 refine FL.v (E.load rfl (run_load1 Tryz.isAgg9 (at24.now S0.sl) rfl)) ?_
 obtain ⟨z29, h30, hp⟩ := bnd hp
 refine FL.v (E.addT rfl rfl h30) ?_
 refine FL.v (E.build (B3 rfl rfl rfl) (run_build _ 109 #[(0, Value.int .u8 126), (1, Value.pointer (some q23)), (3, Value.string z29)] #[Value.int .u8 126, Value.pointer (some q23), Value.pointer none, Value.string z29] (by rfl))) ?_
 obtain ⟨b31, w32, run33, S34⟩ := S0.box (P := Tryz.prog) 109 [Value.int .u8 126, Value.pointer (some q23), Value.pointer none, Value.string z29] (v := Value.agg #[Value.int .u8 126, Value.pointer (some q23), Value.pointer none, Value.string z29]) rfl (ones_cons rfl (ones_cons rfl (ones_cons rfl (ones_cons rfl ones_nil))))
 refine FL.v (E.box rfl run33) ?_
 obtain ⟨H35, S36, i37, at38⟩ := S34.sealBox (i := 0) (l' := []) rfl rfl
 refine FL.v (E.assign (v := Value.pointer (some ⟨b31, 0, none⟩)) rfl) ?_
 refine FL.nil ?_
 refine FW.ret ?_
 obtain rfl := Option.some.inj hp
 exact ⟨.inr rfl, res1 rfl rfl ⟨_, _, rfl, S36.run, (FAt.mk at38 (p0.mono i37) FAt.nil)⟩⟩

theorem w_strings_Contains {Ha : GH} {wa : World} (hs : Sl Ha wa) (a0 a1 : ByteArray) {r : Bool} (hp : (PF.strings_Contains a0 a1) = some r) : Calls Tryz.prog 176 #[Value.string a0, Value.string a1] wa (Sc Ha wa (Value.bool r)) := by
 unfold PF.strings_Contains at hp
 obtain ⟨c, rfl, rfl⟩ := hasS_some hp
 refine (Go.Proofs.Any.strings_Contains_one Tryz.cont176 a0 c wa).mono ?_
 rintro e w' ⟨rfl, rfl⟩
 exact ⟨rfl, Run.refl _ hs⟩

@[reducible] def p_impl_join (Ha : GH) (wa : World) (r : Fo) : Ending → World → Prop :=
 fun e w' => ∃ H' : GH, ∃ v0 : Value, e = .returned (v0) ∧ Run wa.heap.size Ha wa H' w' ∧ FAt H' v0 r
theorem w_impl_join {Ha : GH} {wa : World} (hs : Sl Ha wa) (a0 : Int) (v1 : Value) (a1 : Fo) (p1 : FAt Ha v1 a1) (v2 : Value) (a2 : Fo) (p2 : FAt Ha v2 a2) {r : Fo} (hp : (PF.impl_join a0 a1 a2) = some r) :
  Calls Tryz.prog 177 #[Value.int .u8 a0, v1, v2] wa (p_impl_join Ha wa r) := by
 unfold PF.impl_join at hp
 have S0 := St.init hs
 refine calls_go (N := 26) (args := [Value.int .u8 a0, v1, v2]) Tryz.func177 rfl rfl rfl ?_
 refine FW.seq (FW.region ?_)
 refine FL.v (E.assign (v := Value.pointer none) rfl) ?_
 refine FL.nil (FW.seq ?_)
 obtain ⟨y24, hy25, hp⟩ := bnd hp
 obtain ⟨z32, h33, hp⟩ := bnd hp
 obtain ⟨z34, h35, hp⟩ := bnd hp
 obtain ⟨z36, h37, hp⟩ := bnd hp
 obtain ⟨y38, hy39, hp⟩ := bnd hp
 obtain ⟨z46, h47, hp⟩ := bnd hp
 obtain ⟨z48, h49, hp⟩ := bnd hp
 refine FW.drawB (Sl Ha) (fun f w => ∃ H : GH, ∃ v58 : Value, St Ha wa H w [] ∧ Inc Ha H ∧ FAt H v58 (Fo.node a0 a1 a2 z48) ∧ f 6 = v58) (by kernel_rfl) S0.sl ?_ ?_
 ·
  intro w21 r22
  have S23 := S0.call r22
  refine FB.t (i := 0) (bs 20 1) rfl (SP.nil S23.sl) rfl (fun w' hw' => (E.move (v := Value.int .u8 a0) rfl)) ?_
  refine FB.t (i := 1) (bs 20 3) rfl (SP.nil S23.sl) rfl (fun w' hw' => (E.move (v := v1) rfl)) ?_
  refine FB.t (i := 2) (bs 20 7) rfl (SP.nil S23.sl) rfl (fun w' hw' => (E.move (v := v2) rfl)) ?_
  refine FB.t (i := 3) (bs 20 15) rfl (SP.nil S23.sl) rfl (fun w' hw' => (E.move (v := v1) rfl)) ?_
  obtain ⟨q26, v28, v29, rfl, at27, h30, h31⟩ := FAt.open p1 hy25
  refine FB.t (i := 4) (bs 20 31) rfl (SP.nil S23.sl) rfl (fun w' hw' => (E.nilCheck rfl)) ?_
  refine FB.t (i := 5) (bs 20 63) rfl (SP.nil S23.sl) rfl (fun w' hw' => (E.fieldAddr tf109_3 rfl)) ?_
  refine FB.t (i := 6) (bs 20 127) rfl (SP.nil S23.sl) rfl (fun w' hw' => (E.load rfl (run_load1 Tryz.isAgg9 (at27.now hw') rfl))) ?_
  refine FB.t (i := 7) (bs 20 255) rfl (SP.nil S23.sl) rfl (fun w' hw' => (E.addT rfl rfl h33)) ?_
  refine FB.t (i := 8) (bs 20 511) rfl (SP.nil S23.sl) rfl (fun w' hw' => (E.move (v := Value.int .u8 a0) rfl)) ?_
  refine FB.t (i := 9) (bs 20 1023) rfl (SP.nil S23.sl) rfl (fun w' hw' => (E.chr Tryz.runUnderlying5 Tryz.runUnderlying9 rfl h35)) ?_
  refine FB.t (i := 10) (bs 20 2047) rfl (SP.nil S23.sl) rfl (fun w' hw' => (E.addT rfl rfl h37)) ?_
  refine FB.t (i := 11) (bs 20 4095) rfl (SP.nil S23.sl) rfl (fun w' hw' => (E.move (v := v2) rfl)) ?_
  obtain ⟨q40, v42, v43, rfl, at41, h44, h45⟩ := FAt.open p2 hy39
  refine FB.t (i := 12) (bs 20 8191) rfl (SP.nil S23.sl) rfl (fun w' hw' => (E.nilCheck rfl)) ?_
  refine FB.t (i := 13) (bs 20 16383) rfl (SP.nil S23.sl) rfl (fun w' hw' => (E.fieldAddr tf109_3 rfl)) ?_
  refine FB.t (i := 14) (bs 20 32767) rfl (SP.nil S23.sl) rfl (fun w' hw' => (E.load rfl (run_load1 Tryz.isAgg9 (at41.now hw') rfl))) ?_
  refine FB.t (i := 15) (bs 20 65535) rfl (SP.nil S23.sl) rfl (fun w' hw' => (E.addT rfl rfl h47)) ?_
  refine FB.t (i := 16) (bs 20 131071) rfl (SP.nil S23.sl) rfl (fun w' hw' => (E.addT rfl rfl h49)) ?_
  refine FB.t (i := 17) (bs 20 262143) rfl (SP.nil S23.sl) rfl (fun w' hw' => (E.build (B4 rfl rfl rfl rfl) (run_build _ 109 #[(0, Value.int .u8 a0), (1, Value.pointer (some q26)), (2, Value.pointer (some q40)), (3, Value.string z48)] #[Value.int .u8 a0, Value.pointer (some q26), Value.pointer (some q40), Value.string z48] (by rfl)))) ?_
  refine FB.all1 (i := 18) (by kernel_rfl) ?_
  ·
   obtain ⟨b50, w51, run52, S53⟩ := S23.box (P := Tryz.prog) 109 [Value.int .u8 a0, Value.pointer (some q26), Value.pointer (some q40), Value.string z48] (v := Value.agg #[Value.int .u8 a0, Value.pointer (some q26), Value.pointer (some q40), Value.string z48]) rfl (ones_cons rfl (ones_cons rfl (ones_cons rfl (ones_cons rfl ones_nil))))
   refine FC.val (l' := (bs 20 524287)) rfl (by kernel_rfl) rfl rfl rfl (E.box rfl run52) ?_
   obtain ⟨H54, S55, i56, at57⟩ := S53.sealBox (i := 0) (l' := []) rfl rfl
   refine ⟨(SP.nil (Sl.of_inc i56 S55.sl)), ?_⟩
   refine FB.t (i := 19) (bs 20 1048575) rfl (SP.nil (Sl.of_inc i56 S55.sl)) rfl (fun w' hw' => (E.assign (v := Value.pointer (some ⟨b50, 0, none⟩)) rfl)) ?_
   exact FB.done (by kernel_rfl) ⟨_, _, S55, i56, (FAt.mk at57 (p1.mono i56) (p2.mono i56)), rfl⟩
 ·
  rintro f64 w63 ⟨H60, v58, S61, i62, h59, k65⟩
  refine FW.ret ?_
  obtain rfl := Option.some.inj hp
  exact ⟨.inr rfl, res1 rfl k65 ⟨_, _, rfl, S61.run, h59⟩⟩

@[reducible] def p_impl_parseFrom (Ha : GH) (wa : World) (r : (Fo × ByteArray × Bool)) : Ending → World → Prop :=
 fun e w' => ∃ H' : GH, ∃ v0 : Value, e = .returned (Value.tuple #[v0, Value.string r.2.1, Value.bool r.2.2]) ∧ Run wa.heap.size Ha wa H' w' ∧ FAt H' v0 r.1
set_option maxHeartbeats 4000000 in
theorem w_impl_parseFrom_B {rec_impl_parseFrom : ByteArray → Option (Fo × ByteArray × Bool)} (hrec_impl_parseFrom : ∀ {Ha : GH} {wa : World} (hs : Sl Ha wa) (a0 : ByteArray) {r : (Fo × ByteArray × Bool)} (hp : rec_impl_parseFrom a0 = some r), Calls Tryz.prog 127 #[Value.string a0] wa (p_impl_parseFrom Ha wa r)) {Ha : GH} {wa : World} (hs : Sl Ha wa) (a0 : ByteArray) {r : (Fo × ByteArray × Bool)} (hp : PF.impl_parseFrom_B rec_impl_parseFrom a0 = some r) :
  Calls Tryz.prog 127 #[Value.string a0] wa (p_impl_parseFrom Ha wa r) := by
 unfold PF.impl_parseFrom_B at hp
 have S0 := St.init hs
 refine calls_go (N := 95) (args := [Value.string a0]) Tryz.func127 rfl rfl rfl ?_
 refine FW.seq (FW.region ?_)
 refine FL.v (E.assign (v := Value.pointer none) rfl) ?_
 refine FL.v (E.assign (v := Value.string (ByteArray.mk #[])) rfl) ?_
 refine FL.v (E.assign (v := Value.bool false) rfl) ?_
 refine FL.nil (FW.seq (FW.seq (FW.region ?_)))
 refine FL.v (E.move (v := Value.string a0) rfl) ?_
 refine FL.v (E.eqlS rfl rfl) ?_
 refine FL.nil ?_
 rcases ifB hp with ⟨c21, hp⟩ | ⟨c21, hp⟩
 ·
  refine FW.condT rfl c21 ?_
  refine FW.seq (FW.region ?_)
  refine FL.v (E.assign (v := Value.pointer none) rfl) ?_
  refine FL.v (E.assign (v := Value.string (ByteArray.mk #[])) rfl) ?_
  refine FL.v (E.assign (v := Value.bool false) rfl) ?_
  refine FL.nil ?_
  refine FW.ret ?_
  obtain rfl := Option.some.inj hp
  exact ⟨.inr rfl, res3 rfl rfl rfl rfl ⟨_, _, rfl, S0.run, FAt.nil⟩⟩
 ·
  refine FW.condF rfl c21 ?_
  refine FW.skip (FW.seq ?_)
  refine FW.draw (fun w' => Run wa.heap.size Ha wa Ha w') (by kernel_rfl) (by kernel_rfl) (run_drew S0.sl) ?_
  refine FD.val rfl rfl rfl (fun w' hw' => (E.move (v := Value.string a0) rfl)) ?_
  obtain ⟨z23, h24, hp⟩ := bnd hp
  refine FD.val rfl rfl rfl (fun w' hw' => (E.ixS Tryz.runUnderlying9 rfl rfl h24)) ?_
  refine FD.val rfl rfl rfl (fun w' hw' => (E.move (v := Value.string a0) rfl)) ?_
  obtain ⟨z25, h26, hp⟩ := bnd hp
  refine FD.val rfl rfl rfl (fun w' hw' => (E.cutS (kl := .i64) (kh := .i64) Tryz.underlying9 rfl (.inr ⟨_, rfl, rfl⟩) (.inl ⟨rfl, rfl⟩) h26)) ?_
  refine FD.val rfl rfl rfl (fun w' hw' => (E.assign (v := Value.int .u8 z23) rfl)) ?_
  refine FD.val rfl rfl rfl (fun w' hw' => (E.assign (v := Value.string z25) rfl)) ?_
  refine FD.nil ?_
  intro w27 r29
  have S28 := S0.call r29
  refine FW.seq (FW.block (FW.seq (FW.region ?_)))
  refine FL.v (E.move (v := Value.int .u8 z23) rfl) ?_
  refine FL.call rfl rfl rfl (E.call Tryz.call79 (A1 rfl)) (w_impl_isLetter S28.sl z23) ?_
  rintro e w30 ⟨rfl, r31⟩
  refine ⟨_, rfl, ?_⟩
  have S32 := S28.call r31
  refine FL.v (E.move (v := Value.bool (PF.impl_isLetter z23)) rfl) ?_
  refine FL.cut 3 (fun f w => ∃ H : GH, St Ha wa H w [] ∧ Inc Ha H ∧ f 5 = Value.int .u8 z23 ∧ f 6 = Value.string z25 ∧ f 26 = Value.bool (bif (PF.impl_isLetter z23) then true else (z23 == 48))) ?_ ?_
  ·
   rcases bcase (PF.impl_isLetter z23) with c39 | c39
   ·
    refine FL.skip (wF_no rfl rfl rfl c39) rfl ?_
    refine FL.skip (wF_no rfl rfl rfl c39) rfl ?_
    refine FL.v (E.pickT rfl c39 rfl) ?_
    exact FL.nil ⟨rfl, _, S32, (Inc.rfl _), rfl, rfl, (congrArg Value.bool (bifT c39).symm)⟩
   ·
    refine FL.val (wF_yes rfl rfl rfl c39) rfl rfl (E.move (v := Value.int .u8 z23) rfl) ?_
    refine FL.val (wF_yes rfl rfl rfl c39) rfl rfl (E.eql rfl rfl) ?_
    refine FL.v (E.pickF rfl c39 rfl) ?_
    exact FL.nil ⟨rfl, _, S32, (Inc.rfl _), rfl, rfl, (congrArg Value.bool (bifF c39).symm)⟩
  rintro f38 w37 ⟨H34, S35, i36, k40, k41, k42⟩
  refine FL.v (E.move k42) ?_
  refine FL.cut 3 (fun f w => ∃ H : GH, St Ha wa H w [] ∧ Inc H34 H ∧ f 5 = Value.int .u8 z23 ∧ f 6 = Value.string z25 ∧ f 30 = Value.bool (bif (bif (PF.impl_isLetter z23) then true else (z23 == 48)) then true else (z23 == 49))) ?_ ?_
  ·
   rcases bcase (bif (PF.impl_isLetter z23) then true else (z23 == 48)) with c49 | c49
   ·
    refine FL.skip (wF_no rfl rfl rfl c49) rfl ?_
    refine FL.skip (wF_no rfl rfl rfl c49) rfl ?_
    refine FL.v (E.pickT rfl c49 rfl) ?_
    exact FL.nil ⟨rfl, _, S35, (Inc.rfl _), k40, k41, (congrArg Value.bool (bifT c49).symm)⟩
   ·
    refine FL.val (wF_yes rfl rfl rfl c49) rfl rfl (E.move k40) ?_
    refine FL.val (wF_yes rfl rfl rfl c49) rfl rfl (E.eql rfl rfl) ?_
    refine FL.v (E.pickF rfl c49 rfl) ?_
    exact FL.nil ⟨rfl, _, S35, (Inc.rfl _), k40, k41, (congrArg Value.bool (bifF c49).symm)⟩
  rintro f48 w47 ⟨H44, S45, i46, k50, k51, k52⟩
  refine FL.v (E.assign k52) ?_
  refine FL.nil ?_
  rcases ifB hp with ⟨c53, hp⟩ | ⟨c53, hp⟩
  ·
   refine FW.condT rfl c53 ?_
   refine FW.seq (FW.region ?_)
   refine FL.v (E.move k50) ?_
   obtain ⟨r54, hr55, hp⟩ := bnd hp
   refine FL.call rfl rfl rfl (E.call Tryz.call174 (A1 rfl)) (w_impl_leaf S45.sl z23 hr55) ?_
   rintro e w57 ⟨H56, v60, rfl, r59, h61⟩
   refine ⟨_, rfl, ?_⟩
   have S58 := S45.call r59
   refine FL.v (E.move k51) ?_
   refine FL.v (E.assign (v := v60) rfl) ?_
   refine FL.v (E.assign (v := Value.string z25) rfl) ?_
   refine FL.v (E.assign (v := Value.bool true) rfl) ?_
   refine FL.nil ?_
   refine FW.ret ?_
   obtain rfl := Option.some.inj hp
   exact ⟨.inr rfl, res3 rfl rfl rfl rfl ⟨_, _, rfl, S58.run, h61⟩⟩
  ·
   refine FW.condF rfl c53 ?_
   refine FW.seq (FW.region ?_)
   refine FL.v (E.move k50) ?_
   refine FL.v (E.eql rfl rfl) ?_
   refine FL.v (E.assign (v := Value.bool (z23 == 126)) rfl) ?_
   refine FL.nil ?_
   rcases ifB hp with ⟨c62, hp⟩ | ⟨c62, hp⟩
   ·
    refine FW.condT rfl c62 ?_
    refine FW.seq (FW.region ?_)
    refine FL.v (E.move k51) ?_
    obtain ⟨r63, hr64, hp⟩ := bnd hp
    refine FL.call rfl rfl rfl (E.call Tryz.call127 (A1 rfl)) (hrec_impl_parseFrom S45.sl z25 hr64) ?_
    rintro e w66 ⟨H65, v69, rfl, r68, h70⟩
    refine ⟨_, rfl, ?_⟩
    have S67 := S45.call r68
    refine FL.v (E.move (v := Value.tuple #[v69, Value.string r63.2.1, Value.bool r63.2.2]) rfl) ?_
    refine FL.v (E.extract (i := 0) rfl rfl) ?_
    refine FL.v (E.extract (i := 1) rfl rfl) ?_
    refine FL.v (E.extract (i := 2) rfl rfl) ?_
    refine FL.v (E.assign (v := v69) rfl) ?_
    refine FL.v (E.assign (v := Value.string r63.2.1) rfl) ?_
    refine FL.v (E.assign (v := Value.bool r63.2.2) rfl) ?_
    refine FL.nil (FW.seq (FW.seq (FW.region ?_)))
    refine FL.v (E.move (v := Value.bool r63.2.2) rfl) ?_
    refine FL.v (E.not rfl) ?_
    refine FL.nil ?_
    rcases ifB hp with ⟨c71, hp⟩ | ⟨c71, hp⟩
    ·
     refine FW.condT rfl c71 ?_
     refine FW.seq (FW.region ?_)
     refine FL.v (E.assign (v := Value.pointer none) rfl) ?_
     refine FL.v (E.assign (v := Value.string (ByteArray.mk #[])) rfl) ?_
     refine FL.v (E.assign (v := Value.bool false) rfl) ?_
     refine FL.nil ?_
     refine FW.ret ?_
     obtain rfl := Option.some.inj hp
     exact ⟨.inr rfl, res3 rfl rfl rfl rfl ⟨_, _, rfl, S67.run, FAt.nil⟩⟩
    ·
     refine FW.condF rfl c71 ?_
     refine FW.skip (FW.seq (FW.region ?_))
     refine FL.v (E.move (v := v69) rfl) ?_
     obtain ⟨r72, hr73, hp⟩ := bnd hp
     refine FL.call rfl rfl rfl (E.call Tryz.call175 (A1 rfl)) (w_impl_not S67.sl v69 r63.1 h70 hr73) ?_
     rintro e w75 ⟨H74, v78, rfl, r77, h79⟩
     refine ⟨_, rfl, ?_⟩
     have S76 := S67.call r77
     refine FL.v (E.move (v := Value.string r63.2.1) rfl) ?_
     refine FL.v (E.assign (v := v78) rfl) ?_
     refine FL.v (E.assign (v := Value.string r63.2.1) rfl) ?_
     refine FL.v (E.assign (v := Value.bool true) rfl) ?_
     refine FL.nil ?_
     refine FW.ret ?_
     obtain rfl := Option.some.inj hp
     exact ⟨.inr rfl, res3 rfl rfl rfl rfl ⟨_, _, rfl, S76.run, h79⟩⟩
   ·
    refine FW.condF rfl c62 ?_
    refine FW.seq (FW.region ?_)
    refine FL.v (E.move k50) ?_
    refine FL.v (E.neq rfl rfl) ?_
    refine FL.v (E.assign (v := Value.bool (!(z23 == 40))) rfl) ?_
    refine FL.nil ?_
    rcases ifB hp with ⟨c80, hp⟩ | ⟨c80, hp⟩
    ·
     refine FW.condT rfl c80 ?_
     refine FW.seq (FW.region ?_)
     refine FL.v (E.assign (v := Value.pointer none) rfl) ?_
     refine FL.v (E.assign (v := Value.string (ByteArray.mk #[])) rfl) ?_
     refine FL.v (E.assign (v := Value.bool false) rfl) ?_
     refine FL.nil ?_
     refine FW.ret ?_
     obtain rfl := Option.some.inj hp
     exact ⟨.inr rfl, res3 rfl rfl rfl rfl ⟨_, _, rfl, S45.run, FAt.nil⟩⟩
    ·
     refine FW.condF rfl c80 ?_
     refine FW.skip (FW.seq (FW.region ?_))
     refine FL.v (E.move k51) ?_
     obtain ⟨r81, hr82, hp⟩ := bnd hp
     refine FL.call rfl rfl rfl (E.call Tryz.call127 (A1 rfl)) (hrec_impl_parseFrom S45.sl z25 hr82) ?_
     rintro e w84 ⟨H83, v87, rfl, r86, h88⟩
     refine ⟨_, rfl, ?_⟩
     have S85 := S45.call r86
     refine FL.v (E.move (v := Value.tuple #[v87, Value.string r81.2.1, Value.bool r81.2.2]) rfl) ?_
     refine FL.v (E.extract (i := 0) rfl rfl) ?_
     refine FL.v (E.extract (i := 1) rfl rfl) ?_
     refine FL.v (E.extract (i := 2) rfl rfl) ?_
     refine FL.v (E.assign (v := v87) rfl) ?_
     refine FL.v (E.assign (v := Value.string r81.2.1) rfl) ?_
     refine FL.v (E.assign (v := Value.bool r81.2.2) rfl) ?_
     refine FL.nil (FW.seq (FW.seq (FW.region ?_)))
     refine FL.v (E.move (v := Value.bool r81.2.2) rfl) ?_
     refine FL.v (E.not rfl) ?_
     refine FL.v (E.move (v := Value.bool (!r81.2.2)) rfl) ?_
     refine FL.cut 3 (fun f w => ∃ H : GH, St Ha wa H w [] ∧ Inc H83 H ∧ f 6 = Value.string r81.2.1 ∧ f 10 = v87 ∧ f 62 = Value.bool (bif (!r81.2.2) then true else (r81.2.1.toList == (ByteArray.mk #[]).toList))) ?_ ?_
     ·
      rcases bcase (!r81.2.2) with c95 | c95
      ·
       refine FL.skip (wF_no rfl rfl rfl c95) rfl ?_
       refine FL.skip (wF_no rfl rfl rfl c95) rfl ?_
       refine FL.v (E.pickT rfl c95 rfl) ?_
       exact FL.nil ⟨rfl, _, S85, (Inc.rfl _), rfl, rfl, (congrArg Value.bool (bifT c95).symm)⟩
      ·
       refine FL.val (wF_yes rfl rfl rfl c95) rfl rfl (E.move (v := Value.string r81.2.1) rfl) ?_
       refine FL.val (wF_yes rfl rfl rfl c95) rfl rfl (E.eqlS rfl rfl) ?_
       refine FL.v (E.pickF rfl c95 rfl) ?_
       exact FL.nil ⟨rfl, _, S85, (Inc.rfl _), rfl, rfl, (congrArg Value.bool (bifF c95).symm)⟩
     rintro f94 w93 ⟨H90, S91, i92, k96, k97, k98⟩
     refine FL.v (E.move k98) ?_
     obtain ⟨t106, hqt106, hp⟩ := bnd hp
     refine FL.cut 5 (fun f w => ∃ H : GH, St Ha wa H w [] ∧ Inc H90 H ∧ f 6 = Value.string r81.2.1 ∧ f 10 = v87 ∧ f 68 = Value.bool t106) ?_ ?_
     ·
      clear hp; have hp := hqt106; clear hqt106
      rcases ifB hp with ⟨c112, hp⟩ | ⟨c112, hp⟩
      ·
       refine FL.skip (wF_no rfl rfl rfl c112) rfl ?_
       refine FL.skip (wF_no rfl rfl rfl c112) rfl ?_
       refine FL.skip (wF_no rfl rfl rfl c112) rfl ?_
       refine FL.skip (wF_no rfl rfl rfl c112) rfl ?_
       obtain rfl := Option.some.inj hp
       refine FL.v (E.pickT rfl c112 rfl) ?_
       exact FL.nil ⟨rfl, _, S91, (Inc.rfl _), k96, k97, rfl⟩
      ·
       refine FL.val (wF_yes rfl rfl rfl c112) rfl rfl (E.move k96) ?_
       obtain ⟨z113, h114, hp⟩ := bnd hp
       refine FL.val (wF_yes rfl rfl rfl c112) rfl rfl (E.cutS (kl := .i64) (kh := .i64) Tryz.underlying9 rfl (.inl ⟨rfl, rfl⟩) (.inr ⟨_, rfl, rfl⟩) h114) ?_
       obtain ⟨r115, hr116, hp⟩ := bnd hp
       refine FL.call (wF_yes rfl rfl rfl c112) rfl rfl (E.call Tryz.call176 (A2 rfl rfl)) (w_strings_Contains S91.sl (ByteArray.mk #[38, 124, 62]) z113 hr116) ?_
       rintro e w117 ⟨rfl, r118⟩
       refine ⟨_, rfl, ?_⟩
       have S119 := S91.call r118
       refine FL.val (wF_yes rfl rfl rfl c112) rfl rfl (E.not rfl) ?_
       obtain rfl := Option.some.inj hp
       refine FL.v (E.pickF rfl c112 rfl) ?_
       exact FL.nil ⟨rfl, _, S119, (Inc.rfl _), k96, k97, rfl⟩
     rintro f111 w110 ⟨H107, S108, i109, k120, k121, k122⟩
     refine FL.nil ?_
     rcases ifB hp with ⟨c123, hp⟩ | ⟨c123, hp⟩
     ·
      refine FW.condT k122 c123 ?_
      refine FW.seq (FW.region ?_)
      refine FL.v (E.assign (v := Value.pointer none) rfl) ?_
      refine FL.v (E.assign (v := Value.string (ByteArray.mk #[])) rfl) ?_
      refine FL.v (E.assign (v := Value.bool false) rfl) ?_
      refine FL.nil ?_
      refine FW.ret ?_
      obtain rfl := Option.some.inj hp
      exact ⟨.inr rfl, res3 rfl rfl rfl rfl ⟨_, _, rfl, S108.run, FAt.nil⟩⟩
     ·
      refine FW.condF k122 c123 ?_
      refine FW.skip (FW.seq (FW.region ?_))
      refine FL.v (E.move k120) ?_
      obtain ⟨z124, h125, hp⟩ := bnd hp
      refine FL.v (E.ixS Tryz.runUnderlying9 rfl rfl h125) ?_
      refine FL.v (E.assign (v := Value.int .u8 z124) rfl) ?_
      refine FL.nil (FW.seq (FW.region ?_))
      refine FL.v (E.move k120) ?_
      obtain ⟨z126, h127, hp⟩ := bnd hp
      refine FL.v (E.cutS (kl := .i64) (kh := .i64) Tryz.underlying9 rfl (.inr ⟨_, rfl, rfl⟩) (.inl ⟨rfl, rfl⟩) h127) ?_
      obtain ⟨r128, hr129, hp⟩ := bnd hp
      refine FL.call rfl rfl rfl (E.call Tryz.call127 (A1 rfl)) (hrec_impl_parseFrom S108.sl z126 hr129) ?_
      rintro e w131 ⟨H130, v134, rfl, r133, h135⟩
      refine ⟨_, rfl, ?_⟩
      have S132 := S108.call r133
      refine FL.v (E.move (v := Value.tuple #[v134, Value.string r128.2.1, Value.bool r128.2.2]) rfl) ?_
      refine FL.v (E.extract (i := 0) rfl rfl) ?_
      refine FL.v (E.extract (i := 1) rfl rfl) ?_
      refine FL.v (E.extract (i := 2) rfl rfl) ?_
      refine FL.v (E.assign (v := v134) rfl) ?_
      refine FL.v (E.assign (v := Value.string r128.2.1) rfl) ?_
      refine FL.v (E.assign (v := Value.bool r128.2.2) rfl) ?_
      refine FL.nil (FW.seq (FW.seq (FW.region ?_)))
      refine FL.v (E.move (v := Value.bool r128.2.2) rfl) ?_
      refine FL.v (E.not rfl) ?_
      refine FL.v (E.move (v := Value.bool (!r128.2.2)) rfl) ?_
      refine FL.cut 3 (fun f w => ∃ H : GH, St Ha wa H w [] ∧ Inc H130 H ∧ f 6 = Value.string r128.2.1 ∧ f 10 = v87 ∧ f 12 = Value.int .u8 z124 ∧ f 13 = v134 ∧ f 83 = Value.bool (bif (!r128.2.2) then true else (r128.2.1.toList == (ByteArray.mk #[]).toList))) ?_ ?_
      ·
       rcases bcase (!r128.2.2) with c142 | c142
       ·
        refine FL.skip (wF_no rfl rfl rfl c142) rfl ?_
        refine FL.skip (wF_no rfl rfl rfl c142) rfl ?_
        refine FL.v (E.pickT rfl c142 rfl) ?_
        exact FL.nil ⟨rfl, _, S132, (Inc.rfl _), rfl, k121, rfl, rfl, (congrArg Value.bool (bifT c142).symm)⟩
       ·
        refine FL.val (wF_yes rfl rfl rfl c142) rfl rfl (E.move (v := Value.string r128.2.1) rfl) ?_
        refine FL.val (wF_yes rfl rfl rfl c142) rfl rfl (E.eqlS rfl rfl) ?_
        refine FL.v (E.pickF rfl c142 rfl) ?_
        exact FL.nil ⟨rfl, _, S132, (Inc.rfl _), rfl, k121, rfl, rfl, (congrArg Value.bool (bifF c142).symm)⟩
      rintro f141 w140 ⟨H137, S138, i139, k143, k144, k145, k146, k147⟩
      refine FL.v (E.move k147) ?_
      obtain ⟨t150, hqt150, hp⟩ := bnd hp
      refine FL.cut 4 (fun f w => ∃ H : GH, St Ha wa H w [] ∧ Inc H137 H ∧ f 6 = Value.string r128.2.1 ∧ f 10 = v87 ∧ f 12 = Value.int .u8 z124 ∧ f 13 = v134 ∧ f 88 = Value.bool t150) ?_ ?_
      ·
       clear hp; have hp := hqt150; clear hqt150
       rcases ifB hp with ⟨c156, hp⟩ | ⟨c156, hp⟩
       ·
        refine FL.skip (wF_no rfl rfl rfl c156) rfl ?_
        refine FL.skip (wF_no rfl rfl rfl c156) rfl ?_
        refine FL.skip (wF_no rfl rfl rfl c156) rfl ?_
        obtain rfl := Option.some.inj hp
        refine FL.v (E.pickT rfl c156 rfl) ?_
        exact FL.nil ⟨rfl, _, S138, (Inc.rfl _), k143, k144, k145, k146, rfl⟩
       ·
        refine FL.val (wF_yes rfl rfl rfl c156) rfl rfl (E.move k143) ?_
        obtain ⟨z157, h158, hp⟩ := bnd hp
        refine FL.val (wF_yes rfl rfl rfl c156) rfl rfl (E.ixS Tryz.runUnderlying9 rfl rfl h158) ?_
        refine FL.val (wF_yes rfl rfl rfl c156) rfl rfl (E.neq rfl rfl) ?_
        obtain rfl := Option.some.inj hp
        refine FL.v (E.pickF rfl c156 rfl) ?_
        exact FL.nil ⟨rfl, _, S138, (Inc.rfl _), k143, k144, k145, k146, rfl⟩
      rintro f155 w154 ⟨H151, S152, i153, k159, k160, k161, k162, k163⟩
      refine FL.nil ?_
      rcases ifB hp with ⟨c164, hp⟩ | ⟨c164, hp⟩
      ·
       refine FW.condT k163 c164 ?_
       refine FW.seq (FW.region ?_)
       refine FL.v (E.assign (v := Value.pointer none) rfl) ?_
       refine FL.v (E.assign (v := Value.string (ByteArray.mk #[])) rfl) ?_
       refine FL.v (E.assign (v := Value.bool false) rfl) ?_
       refine FL.nil ?_
       refine FW.ret ?_
       obtain rfl := Option.some.inj hp
       exact ⟨.inr rfl, res3 rfl rfl rfl rfl ⟨_, _, rfl, S152.run, FAt.nil⟩⟩
      ·
       refine FW.condF k163 c164 ?_
       refine FW.skip (FW.seq ?_)
       obtain ⟨r22, hr33, hp⟩ := bnd hp
       obtain ⟨z103, h104, hp⟩ := bnd hp
       refine FW.drawB (Sl H151) (fun f w => ∃ H : GH, ∃ v105 : Value, St Ha wa H w [] ∧ Inc H151 H ∧ FAt H v105 r22 ∧ f 2 = v105 ∧ f 3 = Value.string z103 ∧ f 4 = Value.bool true) (by kernel_rfl) S152.sl ?_ ?_
       ·
        intro w165 r166
        have S167 := S152.call r166
        refine FB.t (i := 0) (bs 9 1) rfl (SP.nil S167.sl) rfl (fun w' hw' => (E.move k161)) ?_
        refine FB.t (i := 1) (bs 9 3) rfl (SP.nil S167.sl) rfl (fun w' hw' => (E.move k160)) ?_
        refine FB.t (i := 2) (bs 9 7) rfl (SP.nil S167.sl) rfl (fun w' hw' => (E.move k162)) ?_
        refine FB.t (i := 4) (bs 9 23) rfl (SP.nil S167.sl) rfl (fun w' hw' => (E.move k159)) ?_
        refine FB.t (i := 5) (bs 9 55) rfl (SP.nil S167.sl) rfl (fun w' hw' => (E.cutS (kl := .i64) (kh := .i64) Tryz.underlying9 rfl (.inr ⟨_, rfl, rfl⟩) (.inl ⟨rfl, rfl⟩) h104)) ?_
        refine FB.all1 (i := 3) (by kernel_rfl) ?_
        ·
         refine FC.call (l' := (bs 9 63)) rfl (by kernel_rfl) rfl rfl rfl (E.call Tryz.call177 (A3 rfl rfl rfl)) (w_impl_join S167.sl z124 v87 r81.1 (h88.mono ((((i92.tr i109).tr r133.inc).tr i139).tr i153)) v134 r128.1 (h135.mono (i139.tr i153)) hr33) ?_
         rintro e w89 ⟨H43, v101, rfl, r100, h102⟩
         refine ⟨_, rfl, ?_⟩
         have S99 := S167.call r100
         refine ⟨(SP.nil (Sl.of_inc r100.inc S99.sl)), ?_⟩
         refine FB.t (i := 6) (bs 9 127) rfl (SP.nil (Sl.of_inc r100.inc S99.sl)) rfl (fun w' hw' => (E.assign (v := v101) rfl)) ?_
         refine FB.t (i := 7) (bs 9 255) rfl (SP.nil (Sl.of_inc r100.inc S99.sl)) rfl (fun w' hw' => (E.assign (v := Value.string z103) rfl)) ?_
         refine FB.t (i := 8) (bs 9 511) rfl (SP.nil (Sl.of_inc r100.inc S99.sl)) rfl (fun w' hw' => (E.assign (v := Value.bool true) rfl)) ?_
         exact FB.done (by kernel_rfl) ⟨_, _, S99, r100.inc, h102, rfl, rfl, rfl⟩
       ·
        rintro f170 w169 ⟨H148, v105, S149, i168, h136, k171, k172, k173⟩
        refine FW.ret ?_
        obtain rfl := Option.some.inj hp
        exact ⟨.inr rfl, res3 rfl k171 k172 k173 ⟨_, _, rfl, S149.run, h136⟩⟩
theorem w_impl_parseFrom_F (n : Nat) : ∀ {Ha : GH} {wa : World} (hs : Sl Ha wa) (a0 : ByteArray) {r : (Fo × ByteArray × Bool)} (hp : PF.impl_parseFrom_F n a0 = some r), Calls Tryz.prog 127 #[Value.string a0] wa (p_impl_parseFrom Ha wa r) := by
 induction n with
 | zero => intros; rename_i hp; exact nomatch hp
 | succ n ih => exact w_impl_parseFrom_B (rec_impl_parseFrom := PF.impl_parseFrom_F n) ih
theorem w_impl_parseFrom {Ha : GH} {wa : World} (hs : Sl Ha wa) (a0 : ByteArray) {r : (Fo × ByteArray × Bool)} (hp : PF.impl_parseFrom a0 = some r) :
  Calls Tryz.prog 127 #[Value.string a0] wa (p_impl_parseFrom Ha wa r) := w_impl_parseFrom_F deep hs a0 hp

@[reducible] def p_impl_parse (Ha : GH) (wa : World) (r : (Fo × Bool)) : Ending → World → Prop :=
 fun e w' => ∃ H' : GH, ∃ v0 : Value, e = .returned (Value.tuple #[v0, Value.bool r.2]) ∧ Run wa.heap.size Ha wa H' w' ∧ FAt H' v0 r.1
theorem w_impl_parse {Ha : GH} {wa : World} (hs : Sl Ha wa) (a0 : ByteArray) {r : (Fo × Bool)} (hp : (PF.impl_parse a0) = some r) :
  Calls Tryz.prog 78 #[Value.string a0] wa (p_impl_parse Ha wa r) := by
 unfold PF.impl_parse at hp
 have S0 := St.init hs
 refine calls_go (N := 23) (args := [Value.string a0]) Tryz.func78 rfl rfl rfl ?_
 refine FW.seq (FW.region ?_)
 refine FL.v (E.assign (v := Value.pointer none) rfl) ?_
 refine FL.v (E.assign (v := Value.bool false) rfl) ?_
 refine FL.nil (FW.seq (FW.seq (FW.region ?_)))
 refine FL.v (E.move (v := Value.string a0) rfl) ?_
 refine FL.v (E.lenS Tryz.runUnderlying9 rfl) ?_
 refine FL.v (E.gtr rfl rfl) ?_
 refine FL.nil ?_
 rcases ifB hp with ⟨c21, hp⟩ | ⟨c21, hp⟩
 ·
  refine FW.condT rfl c21 ?_
  refine FW.seq (FW.region ?_)
  refine FL.v (E.assign (v := Value.pointer none) rfl) ?_
  refine FL.v (E.assign (v := Value.bool false) rfl) ?_
  refine FL.nil ?_
  refine FW.ret ?_
  obtain rfl := Option.some.inj hp
  exact ⟨.inr rfl, res2 rfl rfl rfl ⟨_, _, rfl, S0.run, FAt.nil⟩⟩
 ·
  refine FW.condF rfl c21 ?_
  refine FW.skip (FW.seq (FW.region ?_))
  refine FL.v (E.move (v := Value.string a0) rfl) ?_
  obtain ⟨r22, hr23, hp⟩ := bnd hp
  refine FL.call rfl rfl rfl (E.call Tryz.call127 (A1 rfl)) (w_impl_parseFrom S0.sl a0 hr23) ?_
  rintro e w25 ⟨H24, v28, rfl, r27, h29⟩
  refine ⟨_, rfl, ?_⟩
  have S26 := S0.call r27
  refine FL.v (E.move (v := Value.tuple #[v28, Value.string r22.2.1, Value.bool r22.2.2]) rfl) ?_
  refine FL.v (E.extract (i := 0) rfl rfl) ?_
  refine FL.v (E.extract (i := 1) rfl rfl) ?_
  refine FL.v (E.extract (i := 2) rfl rfl) ?_
  refine FL.v (E.assign (v := v28) rfl) ?_
  refine FL.v (E.assign (v := Value.string r22.2.1) rfl) ?_
  refine FL.v (E.assign (v := Value.bool r22.2.2) rfl) ?_
  refine FL.nil (FW.seq (FW.seq (FW.region ?_)))
  refine FL.v (E.move (v := Value.bool r22.2.2) rfl) ?_
  refine FL.v (E.not rfl) ?_
  refine FL.v (E.move (v := Value.bool (!r22.2.2)) rfl) ?_
  refine FL.cut 3 (fun f w => ∃ H : GH, St Ha wa H w [] ∧ Inc H24 H ∧ f 4 = v28 ∧ f 21 = Value.bool (bif (!r22.2.2) then true else (!(r22.2.1.toList == (ByteArray.mk #[]).toList)))) ?_ ?_
  ·
   rcases bcase (!r22.2.2) with c36 | c36
   ·
    refine FL.skip (wF_no rfl rfl rfl c36) rfl ?_
    refine FL.skip (wF_no rfl rfl rfl c36) rfl ?_
    refine FL.v (E.pickT rfl c36 rfl) ?_
    exact FL.nil ⟨rfl, _, S26, (Inc.rfl _), rfl, (congrArg Value.bool (bifT c36).symm)⟩
   ·
    refine FL.val (wF_yes rfl rfl rfl c36) rfl rfl (E.move (v := Value.string r22.2.1) rfl) ?_
    refine FL.val (wF_yes rfl rfl rfl c36) rfl rfl (E.neqS rfl rfl) ?_
    refine FL.v (E.pickF rfl c36 rfl) ?_
    exact FL.nil ⟨rfl, _, S26, (Inc.rfl _), rfl, (congrArg Value.bool (bifF c36).symm)⟩
  rintro f35 w34 ⟨H31, S32, i33, k37, k38⟩
  refine FL.nil ?_
  rcases ifB hp with ⟨c39, hp⟩ | ⟨c39, hp⟩
  ·
   refine FW.condT k38 c39 ?_
   refine FW.seq (FW.region ?_)
   refine FL.v (E.assign (v := Value.pointer none) rfl) ?_
   refine FL.v (E.assign (v := Value.bool false) rfl) ?_
   refine FL.nil ?_
   refine FW.ret ?_
   obtain rfl := Option.some.inj hp
   exact ⟨.inr rfl, res2 rfl rfl rfl ⟨_, _, rfl, S32.run, FAt.nil⟩⟩
  ·
   refine FW.condF k38 c39 ?_
   refine FW.skip (FW.seq (FW.region ?_))
   refine FL.v (E.move k37) ?_
   refine FL.v (E.assign (v := v28) rfl) ?_
   refine FL.v (E.assign (v := Value.bool true) rfl) ?_
   refine FL.nil ?_
   refine FW.ret ?_
   obtain rfl := Option.some.inj hp
   exact ⟨.inr rfl, res2 rfl rfl rfl ⟨_, _, rfl, S32.run, (h29.mono i33)⟩⟩

@[reducible] def p_impl_formula_collect (H0 : GH) (w0 : World) (Ha : GH) (L : List MO) (r : (List Fo)) : Ending → World → Prop :=
 fun e w' => ∃ H' : GH, ∃ v0r : Value, ∃ n0r : Nat, ∃ c0r : List Value, e = .returned (v0r) ∧ (St H0 w0 H' w' (.row 101 1 v0r n0r c0r :: L) ∧ Inc Ha H') ∧ Els H' eFo 1 c0r r
set_option maxHeartbeats 4000000 in
theorem w_impl_formula_collect_B {rec_impl_formula_collect : Fo → (List Fo) → Option (List Fo)} (hrec_impl_formula_collect : ∀ {H0 Ha : GH} {w0 wa : World} {L : List MO} {v1 : Value} {n1 : Nat} {k1 : List Value} (S0 : St H0 w0 Ha wa (.row 101 1 v1 n1 k1 :: L)) (v0 : Value) (a0 : Fo) (p0 : FAt Ha v0 a0) (a1 : List Fo) (p1 : Els Ha eFo 1 k1 a1) {r : (List Fo)} (hp : rec_impl_formula_collect a0 a1 = some r), Calls Tryz.prog 128 #[v0, v1] wa (p_impl_formula_collect H0 w0 Ha L r)) {H0 Ha : GH} {w0 wa : World} {L : List MO} {v1 : Value} {n1 : Nat} {k1 : List Value} (S0 : St H0 w0 Ha wa (.row 101 1 v1 n1 k1 :: L)) (v0 : Value) (a0 : Fo) (p0 : FAt Ha v0 a0) (a1 : List Fo) (p1 : Els Ha eFo 1 k1 a1) {r : (List Fo)} (hp : PF.impl_formula_collect_B rec_impl_formula_collect a0 a1 = some r) :
  Calls Tryz.prog 128 #[v0, v1] wa (p_impl_formula_collect H0 w0 Ha L r) := by
 unfold PF.impl_formula_collect_B at hp
 refine calls_go (N := 32) (args := [v0, v1]) Tryz.func128 rfl rfl rfl ?_
 refine FW.seq (FW.region ?_)
 refine FL.v (E.assign (v := Value.slice none 0 0) rfl) ?_
 refine FL.nil (FW.seq (FW.region ?_))
 refine FL.v (E.move (v := v1) rfl) ?_
 refine FL.v (E.move (v := v0) rfl) ?_
 obtain ⟨v21, w22, run23, S24⟩ := S0.buildSlice (P := Tryz.prog) te106 [v0] (parts := #[(0, v0)]) (cells := [v0]) rfl (szs_cons (cells_size p0.cells) szs_nil) (fc_cons p0.cells fc_nil) (ones_cons p0.one ones_nil) (Nat.le_of_ble_eq_true rfl)
 have els25 : Els Ha eFo 1 [v0] [a0] := (Els.snoc (H := Ha) (E := eFo) (k := 1) (c := [v0]) (x := a0) Els.nil rfl ⟨_, rfl, p0⟩)
 refine FL.v (E.buildSlice (B1 rfl) run23) ?_
 obtain ⟨xs26, hz27, hp⟩ := bnd hp
 obtain ⟨v28, w31, n29, cs30, run32, S33, els34, ce35⟩ := S24.appendO (P := Tryz.prog) te106 (i := 1) (j := 0) rfl p1 rfl els25 hz27
 have S33 : St H0 w0 Ha w31 (.row 101 1 v21 1 [v0] :: .row 101 1 v28 n29 cs30 :: L) := S33
 have S36 : St H0 w0 Ha w31 (.row 101 1 v28 n29 cs30 :: L) := S33.drop 0
 refine FL.v (E.append rfl rfl run32) ?_
 refine FL.v (E.assign (v := v28) rfl) ?_
 refine FL.nil (FW.seq (FW.seq (FW.region ?_)))
 refine FL.v (E.move (v := v0) rfl) ?_
 obtain ⟨y37, hy38, hp⟩ := bnd hp
 obtain ⟨q39, v41, v42, rfl, at40, h43, h44⟩ := FAt.open p0 hy38
 refine FL.v (E.nilCheck rfl) ?_
 refine FL.v (E.fieldAddr tf109_1 rfl) ?_
 refine FL.v (E.load rfl (run_load1 Tryz.isAgg101 (at40.now S36.sl) rfl)) ?_
 refine FL.v (E.neqN Tryz.runUnderlying101 h43.isNil rfl rfl) ?_
 refine FL.nil ?_
 obtain ⟨q57, hq, hp⟩ := bndR hp
 refine FW.joinE (S := (List Fo)) (X := Empty) (q := q57) (fun s56 f w => ∃ H : GH, ∃ v59 : Value, ∃ n60 : Nat, ∃ cs61 : List Value, St H0 w0 H w (.row 101 1 v59 n60 cs61 :: L) ∧ Inc Ha H ∧ Els H eFo 1 cs61 s56 ∧ f 0 = Value.pointer (some q39) ∧ f 1 = v59) (fun (_ : Empty) _ _ _ => False) ?_ ?_ ?_
 ·
  clear hp; have hp := hq; clear hq
  rcases ifB hp with ⟨c63, hp⟩ | ⟨c63, hp⟩
  ·
   refine FW.condT rfl c63 ?_
   refine FW.region ?_
   refine FL.v (E.move (v := Value.pointer (some q39)) rfl) ?_
   refine FL.v (E.nilCheck rfl) ?_
   refine FL.v (E.fieldAddr tf109_1 rfl) ?_
   refine FL.v (E.load rfl (run_load1 Tryz.isAgg101 (at40.now S36.sl) rfl)) ?_
   refine FL.v (E.move (v := v28) rfl) ?_
   obtain ⟨r64, hr65, hp⟩ := bnd hp
   refine FL.call rfl rfl rfl (E.call Tryz.call128 (A2 rfl rfl)) (hrec_impl_formula_collect (L := (L)) S36 v41 y37.a h43 xs26 els34 hr65) ?_
   rintro e w67 ⟨H66, v70, n71, cs72, rfl, ⟨S68, i69⟩, els73⟩
   refine ⟨_, rfl, ?_⟩
   have S68 : St H0 w0 H66 w67 (.row 101 1 v70 n71 cs72 :: L) := S68
   refine FL.v (E.assign (v := v70) rfl) ?_
   refine FL.nil ?_
   obtain rfl := Option.some.inj hp
   exact ⟨rfl, ⟨_, _, _, _, S68, i69, els73, rfl, rfl⟩⟩
  ·
   refine FW.condF rfl c63 ?_
   refine FW.skip ?_
   obtain rfl := Option.some.inj hp
   exact ⟨rfl, ⟨_, _, _, _, S36, (Inc.rfl _), els34, rfl, rfl⟩⟩
 ·
  rintro s56 rfl f78 w77 ⟨H74, v59, n60, cs61, S75, i76, els62, k79, k80⟩
  replace hp := el_go hp
  refine FW.seq (FW.seq (FW.region ?_))
  refine FL.v (E.move k79) ?_
  refine FL.v (E.nilCheck rfl) ?_
  refine FL.v (E.fieldAddr tf109_2 rfl) ?_
  refine FL.v (E.load rfl (run_load1 Tryz.isAgg101 ((at40.mono i76).now S75.sl) rfl)) ?_
  refine FL.v (E.neqN Tryz.runUnderlying101 (h44.mono i76).isNil rfl rfl) ?_
  refine FL.nil ?_
  rcases ifB hp with ⟨c81, hp⟩ | ⟨c81, hp⟩
  ·
   refine FW.condT rfl c81 ?_
   refine FW.region ?_
   refine FL.v (E.move k79) ?_
   refine FL.v (E.nilCheck rfl) ?_
   refine FL.v (E.fieldAddr tf109_2 rfl) ?_
   refine FL.v (E.load rfl (run_load1 Tryz.isAgg101 ((at40.mono i76).now S75.sl) rfl)) ?_
   refine FL.v (E.move k80) ?_
   obtain ⟨r82, hr83, hp⟩ := bnd hp
   refine FL.call rfl rfl rfl (E.call Tryz.call128 (A2 rfl rfl)) (hrec_impl_formula_collect (L := (L)) S75 v42 y37.b (h44.mono i76) s56 els62 hr83) ?_
   rintro e w85 ⟨H84, v88, n89, cs90, rfl, ⟨S86, i87⟩, els91⟩
   refine ⟨_, rfl, ?_⟩
   have S86 : St H0 w0 H84 w85 (.row 101 1 v88 n89 cs90 :: L) := S86
   refine FL.v (E.assign (v := v88) rfl) ?_
   refine FL.nil (FW.seq (FW.region ?_))
   refine FL.v (E.move (v := v88) rfl) ?_
   refine FL.v (E.assign (v := v88) rfl) ?_
   refine FL.nil ?_
   refine FW.ret ?_
   obtain rfl := Option.some.inj hp
   exact ⟨.inr rfl, res1 rfl rfl ⟨_, _, _, _, rfl, ⟨S86, (i76.tr i87)⟩, els91⟩⟩
  ·
   refine FW.condF rfl c81 ?_
   refine FW.skip (FW.seq (FW.region ?_))
   refine FL.v (E.move k80) ?_
   refine FL.v (E.assign (v := v59) rfl) ?_
   refine FL.nil ?_
   refine FW.ret ?_
   obtain rfl := Option.some.inj hp
   exact ⟨.inr rfl, res1 rfl rfl ⟨_, _, _, _, rfl, ⟨S75, i76⟩, els62⟩⟩
 ·
  intro x58; exact x58.elim
theorem w_impl_formula_collect_F (n : Nat) : ∀ {H0 Ha : GH} {w0 wa : World} {L : List MO} {v1 : Value} {n1 : Nat} {k1 : List Value} (S0 : St H0 w0 Ha wa (.row 101 1 v1 n1 k1 :: L)) (v0 : Value) (a0 : Fo) (p0 : FAt Ha v0 a0) (a1 : List Fo) (p1 : Els Ha eFo 1 k1 a1) {r : (List Fo)} (hp : PF.impl_formula_collect_F n a0 a1 = some r), Calls Tryz.prog 128 #[v0, v1] wa (p_impl_formula_collect H0 w0 Ha L r) := by
 induction n with
 | zero => intros; rename_i hp; exact nomatch hp
 | succ n ih => exact w_impl_formula_collect_B (rec_impl_formula_collect := PF.impl_formula_collect_F n) ih
theorem w_impl_formula_collect {H0 Ha : GH} {w0 wa : World} {L : List MO} {v1 : Value} {n1 : Nat} {k1 : List Value} (S0 : St H0 w0 Ha wa (.row 101 1 v1 n1 k1 :: L)) (v0 : Value) (a0 : Fo) (p0 : FAt Ha v0 a0) (a1 : List Fo) (p1 : Els Ha eFo 1 k1 a1) {r : (List Fo)} (hp : PF.impl_formula_collect a0 a1 = some r) :
  Calls Tryz.prog 128 #[v0, v1] wa (p_impl_formula_collect H0 w0 Ha L r) := w_impl_formula_collect_F deep S0 v0 a0 p0 a1 p1 hp

@[reducible] def p_slices_SortFunc_impl_formula_impl_formula (H0 : GH) (w0 : World) (Ha : GH) (L : List MO) (v0 : Value) (n0 : Nat) (r : (List Fo)) : Ending → World → Prop :=
 fun e w' => ∃ H' : GH, ∃ c0k : List Value, e = .returned (Value.tuple #[]) ∧ (St H0 w0 H' w' (.row 101 1 v0 n0 c0k :: L) ∧ Inc Ha H') ∧ Els H' eFo 1 c0k r
theorem w_slices_SortFunc_impl_formula_impl_formula {H0 Ha : GH} {w0 wa : World} {L : List MO} {v0 : Value} {n0 : Nat} {k0 : List Value} (S0 : St H0 w0 Ha wa (.row 101 1 v0 n0 k0 :: L)) (a0 : List Fo) (p0 : Els Ha eFo 1 k0 a0) (v1 : Value) (a1 : Fo → Fo → Option Int) (p1 : Fn_Fo_Fo_to_I Tryz.prog Ha v1 a1) {r : (List Fo)} (hp : (PF.slices_SortFunc_impl_formula_impl_formula a0 a1) = some r) :
  Calls Tryz.prog 129 #[v0, v1] wa (p_slices_SortFunc_impl_formula_impl_formula H0 w0 Ha L v0 n0 r) := by
 refine (St.sortF (l := .row 101 1 v0 n0 k0 :: L) (i := 0) (Inc.rfl _) S0 rfl p0 (fun H2 w2 hi hs2 c x hc d y hd r hr => by obtain ⟨y0, e0, z0⟩ := eFo_open hc; cases e0; obtain ⟨y1, e1, z1⟩ := eFo_open hd; cases e1; exact p1 H2 w2 hi hs2 x c z0 y d z1 r hr) (fun p cap fv w => AnyF.slices_SortFunc_none (P := Tryz.prog) (ρ := Tryz.sort129_ren) { Tryz.sort129 with } p cap fv w) (fun α _ enc h1 cf hO g cb blk off cap d w eg hc hH hb hs => Any.slices_SortFunc Tryz.sort129 enc h1 cf hO g cb blk off cap d w eg hc hH hb hs) hp).mono ?_
 rintro e w' ⟨rfl, c', h1, h2, hq⟩
 exact ⟨_, _, rfl, ⟨h1, Inc.rfl _⟩, h2⟩

theorem w_cmp_isNaN_int {Ha : GH} {wa : World} (hs : Sl Ha wa) (a0 : Int) :
  Calls Tryz.prog 210 #[Value.int .i64 a0] wa (Sc Ha wa (Value.bool (PF.cmp_isNaN_int a0))) := by
 obtain ⟨r, hp⟩ : ∃ r, (PF.cmp_isNaN_int a0) = r := ⟨_, rfl⟩
 rw [hp]
 unfold PF.cmp_isNaN_int at hp
 have S0 := St.init hs
 refine calls_go (N := 6) (args := [Value.int .i64 a0]) Tryz.func210 rfl rfl rfl ?_
 refine FW.seq (FW.region ?_)
 refine FL.v (E.assign (v := Value.bool false) rfl) ?_
 refine FL.nil (FW.seq (FW.region ?_))
 refine FL.v (E.move (v := Value.int .i64 a0) rfl) ?_
 refine FL.v (E.move (v := Value.int .i64 a0) rfl) ?_
 refine FL.v (E.neq rfl rfl) ?_
 refine FL.v (E.assign (v := Value.bool (!(a0 == a0))) rfl) ?_
 refine FL.nil ?_
 refine FW.ret ?_
 obtain rfl := hp
 exact ⟨.inr rfl, res1 rfl rfl ⟨rfl, S0.back⟩⟩

set_option maxHeartbeats 4000000 in
theorem w_cmp_Compare_int {Ha : GH} {wa : World} (hs : Sl Ha wa) (a0 : Int) (a1 : Int) :
  Calls Tryz.prog 165 #[Value.int .i64 a0, Value.int .i64 a1] wa (Sc Ha wa (Value.int .i64 (PF.cmp_Compare_int a0 a1))) := by
 obtain ⟨r, hp⟩ : ∃ r, (PF.cmp_Compare_int a0 a1) = r := ⟨_, rfl⟩
 rw [hp]
 unfold PF.cmp_Compare_int at hp
 have S0 := St.init hs
 refine calls_go (N := 20) (args := [Value.int .i64 a0, Value.int .i64 a1]) Tryz.func165 rfl rfl rfl ?_
 refine FW.seq (FW.region ?_)
 refine FL.v (E.assign (v := Value.int .i64 0) rfl) ?_
 refine FL.nil (FW.seq (FW.region ?_))
 refine FL.v (E.move (v := Value.int .i64 a0) rfl) ?_
 refine FL.call rfl rfl rfl (E.call Tryz.call210 (A1 rfl)) (w_cmp_isNaN_int S0.sl a0) ?_
 rintro e w21 ⟨rfl, r22⟩
 refine ⟨_, rfl, ?_⟩
 have S23 := S0.call r22
 refine FL.v (E.assign (v := Value.bool (PF.cmp_isNaN_int a0)) rfl) ?_
 refine FL.nil (FW.seq (FW.region ?_))
 refine FL.v (E.move (v := Value.int .i64 a1) rfl) ?_
 refine FL.call rfl rfl rfl (E.call Tryz.call210 (A1 rfl)) (w_cmp_isNaN_int S23.sl a1) ?_
 rintro e w24 ⟨rfl, r25⟩
 refine ⟨_, rfl, ?_⟩
 have S26 := S23.call r25
 refine FL.v (E.assign (v := Value.bool (PF.cmp_isNaN_int a1)) rfl) ?_
 refine FL.nil (FW.seq (FW.seq (FW.region ?_)))
 refine FL.v (E.move (v := Value.bool (PF.cmp_isNaN_int a0)) rfl) ?_
 refine FL.nil ?_
 rcases ifT hp with ⟨c27, hp⟩ | ⟨c27, hp⟩
 ·
  refine FW.condT rfl c27 ?_
  refine FW.seq (FW.seq (FW.region ?_))
  refine FL.v (E.move (v := Value.bool (PF.cmp_isNaN_int a1)) rfl) ?_
  refine FL.nil ?_
  rcases ifT hp with ⟨c28, hp⟩ | ⟨c28, hp⟩
  ·
   refine FW.condT rfl c28 ?_
   refine FW.seq (FW.region ?_)
   refine FL.v (E.assign (v := Value.int .i64 0) rfl) ?_
   refine FL.nil ?_
   refine FW.ret ?_
   obtain rfl := hp
   exact ⟨.inr rfl, res1 rfl rfl ⟨rfl, S26.back⟩⟩
  ·
   refine FW.condF rfl c28 ?_
   refine FW.skip (FW.seq (FW.region ?_))
   refine FL.v (E.assign (v := Value.int .i64 (-1)) rfl) ?_
   refine FL.nil ?_
   refine FW.ret ?_
   obtain rfl := hp
   exact ⟨.inr rfl, res1 rfl rfl ⟨rfl, S26.back⟩⟩
 ·
  refine FW.condF rfl c27 ?_
  refine FW.skip (FW.seq (FW.seq (FW.region ?_)))
  refine FL.v (E.move (v := Value.bool (PF.cmp_isNaN_int a1)) rfl) ?_
  refine FL.nil ?_
  rcases ifT hp with ⟨c29, hp⟩ | ⟨c29, hp⟩
  ·
   refine FW.condT rfl c29 ?_
   refine FW.seq (FW.region ?_)
   refine FL.v (E.assign (v := Value.int .i64 1) rfl) ?_
   refine FL.nil ?_
   refine FW.ret ?_
   obtain rfl := hp
   exact ⟨.inr rfl, res1 rfl rfl ⟨rfl, S26.back⟩⟩
  ·
   refine FW.condF rfl c29 ?_
   refine FW.skip (FW.seq (FW.seq (FW.region ?_)))
   refine FL.v (E.move (v := Value.int .i64 a0) rfl) ?_
   refine FL.v (E.move (v := Value.int .i64 a1) rfl) ?_
   refine FL.v (E.lss rfl rfl) ?_
   refine FL.nil ?_
   rcases ifT hp with ⟨c30, hp⟩ | ⟨c30, hp⟩
   ·
    refine FW.condT rfl c30 ?_
    refine FW.seq (FW.region ?_)
    refine FL.v (E.assign (v := Value.int .i64 (-1)) rfl) ?_
    refine FL.nil ?_
    refine FW.ret ?_
    obtain rfl := hp
    exact ⟨.inr rfl, res1 rfl rfl ⟨rfl, S26.back⟩⟩
   ·
    refine FW.condF rfl c30 ?_
    refine FW.skip (FW.seq (FW.seq (FW.region ?_)))
    refine FL.v (E.move (v := Value.int .i64 a0) rfl) ?_
    refine FL.v (E.move (v := Value.int .i64 a1) rfl) ?_
    refine FL.v (E.gtr rfl rfl) ?_
    refine FL.nil ?_
    rcases ifT hp with ⟨c31, hp⟩ | ⟨c31, hp⟩
    ·
     refine FW.condT rfl c31 ?_
     refine FW.seq (FW.region ?_)
     refine FL.v (E.assign (v := Value.int .i64 1) rfl) ?_
     refine FL.nil ?_
     refine FW.ret ?_
     obtain rfl := hp
     exact ⟨.inr rfl, res1 rfl rfl ⟨rfl, S26.back⟩⟩
    ·
     refine FW.condF rfl c31 ?_
     refine FW.skip (FW.seq (FW.region ?_))
     refine FL.v (E.assign (v := Value.int .i64 0) rfl) ?_
     refine FL.nil ?_
     refine FW.ret ?_
     obtain rfl := hp
     exact ⟨.inr rfl, res1 rfl rfl ⟨rfl, S26.back⟩⟩

theorem w_strings_Compare {Ha : GH} {wa : World} (hs : Sl Ha wa) (a0 a1 : ByteArray) : Calls Tryz.prog 166 #[Value.string a0, Value.string a1] wa (Sc Ha wa (Value.int .i64 (PF.strings_Compare a0 a1))) := by
 refine (Go.Proofs.Any.strings_Compare Tryz.comp166 a0 a1 wa).mono ?_
 rintro e w' ⟨rfl, rfl⟩
 exact ⟨rfl, Run.refl _ hs⟩

theorem w_cmp_Or_int {Ha : GH} {wa : World} (hs : Sl Ha wa) (v0 : Value) (a0 : List Int) (p0 : RSl Ha eI 1 v0 a0) {r : Int} (hp : (PF.cmp_Or_int a0) = some r) :
  Calls Tryz.prog 164 #[v0] wa (Sc Ha wa (Value.int .i64 r)) := by
 unfold PF.cmp_Or_int at hp
 have S0 := St.init hs
 refine calls_go (N := 18) (args := [v0]) Tryz.func164 rfl rfl rfl ?_
 refine FW.seq (FW.region ?_)
 refine FL.v (E.assign (v := Value.int .i64 0) rfl) ?_
 refine FL.nil (FW.seq (FW.region ?_))
 refine FL.v (E.assign (v := Value.int .i64 0) rfl) ?_
 refine FL.nil (FW.seq (FW.seq (FW.region ?_)))
 refine FL.v (E.move (v := v0) rfl) ?_
 refine FL.v (E.lenP te82 rfl p0) ?_
 refine FL.v (E.move (v := Value.int .i64 0) rfl) ?_
 refine FL.nil ?_
 obtain ⟨q22, hq, hp⟩ := bndR hp
 refine FW.block ?_
 refine FW.mono (FW.forL (S := Unit) (X := Int) (fun (i22 : Nat) (s22 : Unit) f w => ∃ H : GH, St Ha wa H w [] ∧ Inc Ha H ∧ f 8 = Value.int .i64 ((i22 : Nat) : Int) ∧ f 3 = Value.int .i64 0 ∧ f 6 = v0 ∧ f 7 = Value.int .i64 (len a0)) (fun q e f w => match q with | .go s22 => e = Exit.exit 0 ∧ (∃ H : GH, St Ha wa H w [] ∧ Inc Ha H ∧ f 3 = Value.int .i64 0) | .rt x => ((e = Exit.ret) ∧ (fun e f w => (e = Exit.normal ∨ e = Exit.ret) ∧ ∀ a, Fr (δ := []) 18 a f → ∃ v, (results Tryz.f164 a.tmps).run Tryz.prog w = .ok v w ∧ (Sc Ha wa (Value.int .i64 x)) (.returned v) w) e f w)) hq ⟨_, S0, (Inc.rfl _), rfl, rfl, rfl, rfl⟩ ?_ ?_) ?_
 ·
  clear hp hq
  rintro i22 y21 s22 f43 w42 ⟨H39, S40, i41, k44, k45, k46, k47⟩ hx22 o55 hp
  refine FW.seq (FW.region ?_)
  refine FL.v (E.lssT k44 k47 (lss_len hx22)) ?_
  refine FL.nil (FW.seq ?_)
  refine FW.condT rfl rfl ?_
  refine FW.skip (FW.seq (FW.block (FW.seq (FW.region ?_))))
  obtain ⟨p48, cs49, pt50, l51, at52, rel53⟩ := p0.at (ix_nat hx22)
  obtain rfl := eI_open rel53
  refine FL.v (E.indexAddr te82 k46 k44 pt50) ?_
  refine FL.v (E.load rfl (run_load0 Tryz.isAgg3 ((at52.mono i41).now S40.sl) rfl)) ?_
  refine FL.v (E.assign (v := Value.int .i64 y21) rfl) ?_
  refine FL.nil (FW.seq (FW.region ?_))
  refine FL.v (E.move (v := Value.int .i64 y21) rfl) ?_
  refine FL.v (E.move k45) ?_
  refine FL.v (E.neq rfl rfl) ?_
  refine FL.nil ?_
  rcases ifB hp with ⟨c54, hp⟩ | ⟨c54, hp⟩
  ·
   refine FW.condT rfl c54 ?_
   refine FW.seq (FW.region ?_)
   refine FL.v (E.move (v := Value.int .i64 y21) rfl) ?_
   refine FL.v (E.assign (v := Value.int .i64 y21) rfl) ?_
   refine FL.nil ?_
   refine FW.ret ?_
   obtain rfl := Option.some.inj hp
   exact ⟨nofun, rfl, ⟨.inr rfl, res1 rfl rfl ⟨rfl, S40.back⟩⟩⟩
  ·
   refine FW.condF rfl c54 ?_
   refine FW.skip (FW.region ?_)
   refine FL.v (E.add k44 rfl) ?_
   refine FL.v (E.move (v := Value.int .i64 (wr (((i22 : Nat) : Int) + 1))) rfl) ?_
   refine FL.nil ?_
   obtain rfl := Option.some.inj hp
   exact ⟨rfl, ⟨_, S40, i41, (nat_succ rfl (lt_of_get hx22) (p0.mono i41).le), k45, k46, k47⟩⟩
 ·
  clear hp hq
  rintro s22 f66 w65 ⟨H62, S63, i64, k67, k68, k69, k70⟩
  refine FW.seq (FW.region ?_)
  refine FL.v (E.lss k67 k70) ?_
  refine FL.nil (FW.seq ?_)
  refine FW.condF rfl dlt_len ?_
  refine FW.exit ?_
  exact ⟨nofun, rfl, ⟨_, S63, i64, k68⟩⟩
 ·
  clear hq
  intro e f60 w59 hD
  rcases q22 with s22 | x22
  ·
   obtain ⟨rfl, hD⟩ := hD
   obtain ⟨H56, S57, i58, k61⟩ := hD
   replace hp := el_go hp
   refine FW.seq (FW.region ?_)
   refine FL.v (E.move k61) ?_
   refine FL.v (E.assign (v := Value.int .i64 0) rfl) ?_
   refine FL.nil ?_
   refine FW.ret ?_
   obtain rfl := Option.some.inj hp
   exact ⟨.inr rfl, res1 rfl rfl ⟨rfl, S57.back⟩⟩
  ·
   obtain ⟨he, hL⟩ := hD
   replace hp := el_rt hp
   obtain rfl := Option.some.inj hp
   subst he
   exact hL

theorem w_impl_compareFormulas {Ha : GH} {wa : World} (hs : Sl Ha wa) (a0 : ByteArray) (a1 : ByteArray) {r : Int} (hp : (PF.impl_compareFormulas a0 a1) = some r) :
  Calls Tryz.prog 118 #[Value.string a0, Value.string a1] wa (Sc Ha wa (Value.int .i64 r)) := by
 unfold PF.impl_compareFormulas at hp
 have S0 := St.init hs
 refine calls_go (N := 15) (args := [Value.string a0, Value.string a1]) Tryz.func118 rfl rfl rfl ?_
 refine FW.seq (FW.region ?_)
 refine FL.v (E.assign (v := Value.int .i64 0) rfl) ?_
 refine FL.nil (FW.seq (FW.region ?_))
 refine FL.v (E.move (v := Value.string a0) rfl) ?_
 refine FL.v (E.lenS Tryz.runUnderlying9 rfl) ?_
 refine FL.v (E.move (v := Value.string a1) rfl) ?_
 refine FL.v (E.lenS Tryz.runUnderlying9 rfl) ?_
 refine FL.call rfl rfl rfl (E.call Tryz.call165 (A2 rfl rfl)) (w_cmp_Compare_int S0.sl (a0.size : Int) (a1.size : Int)) ?_
 rintro e w21 ⟨rfl, r22⟩
 refine ⟨_, rfl, ?_⟩
 have S23 := S0.call r22
 refine FL.v (E.move (v := Value.string a0) rfl) ?_
 refine FL.v (E.move (v := Value.string a1) rfl) ?_
 refine FL.call rfl rfl rfl (E.call Tryz.call166 (A2 rfl rfl)) (w_strings_Compare S23.sl a0 a1) ?_
 rintro e w24 ⟨rfl, r25⟩
 refine ⟨_, rfl, ?_⟩
 have S26 := S23.call r25
 obtain ⟨v27, w28, run29, S30, els31⟩ := S26.ints (P := Tryz.prog) te82 (up wa.heap.size Ha) 2 [(PF.cmp_Compare_int (a0.size : Int) (a1.size : Int)), (PF.strings_Compare a0 a1)]
 refine FL.v (E.buildSlice (B2 rfl rfl) run29) ?_
 obtain ⟨H32, S33, i34, h35, nv36⟩ := S30.sealRowU (i := 0) (l' := []) rfl els31 (by decide) rfl
 obtain ⟨r37, hr38, hp⟩ := bnd hp
 refine FL.call rfl rfl rfl (E.call Tryz.call164 (A1 rfl)) (w_cmp_Or_int S33.sl v27 [(PF.cmp_Compare_int (a0.size : Int) (a1.size : Int)), (PF.strings_Compare a0 a1)] (h35.mono upI) hr38) ?_
 rintro e w39 ⟨rfl, r40⟩
 refine ⟨_, rfl, ?_⟩
 have r40 := Run.lend i34 S30.sl r40
 have S41 := S30.call r40
 refine FL.v (E.assign (v := Value.int .i64 r37) rfl) ?_
 refine FL.nil ?_
 refine FW.ret ?_
 obtain rfl := Option.some.inj hp
 exact ⟨.inr rfl, res1 rfl rfl ⟨rfl, S41.back⟩⟩

theorem w_impl_formula_parts_1 {Ha : GH} {wa : World} (hs : Sl Ha wa) (v0 : Value) (a0 : Fo) (p0 : FAt Ha v0 a0) (v1 : Value) (a1 : Fo) (p1 : FAt Ha v1 a1) {r : Int} (hp : (PF.impl_formula_parts_1 a0 a1) = some r) :
  Calls Tryz.prog 130 #[v0, v1] wa (Sc Ha wa (Value.int .i64 r)) := by
 unfold PF.impl_formula_parts_1 at hp
 have S0 := St.init hs
 refine calls_go (N := 14) (args := [v0, v1]) Tryz.func130 rfl rfl rfl ?_
 refine FW.seq (FW.region ?_)
 refine FL.v (E.assign (v := Value.int .i64 0) rfl) ?_
 refine FL.nil (FW.seq ?_)
 refine FW.draw (fun w' => Run wa.heap.size Ha wa Ha w') (by kernel_rfl) (by kernel_rfl) (run_drew S0.sl) ?_
 refine FD.val rfl rfl rfl (fun w' hw' => (E.move (v := v0) rfl)) ?_
 obtain ⟨y22, hy23, hp⟩ := bnd hp
 obtain ⟨q24, v26, v27, rfl, at25, h28, h29⟩ := FAt.open p0 hy23
 refine FD.val rfl rfl rfl (fun w' hw' => (E.nilCheck rfl)) ?_
 refine FD.val rfl rfl rfl (fun w' hw' => (E.fieldAddr tf109_3 rfl)) ?_
 refine FD.val rfl rfl rfl (fun w' hw' => (E.load rfl (run_load1 Tryz.isAgg9 (at25.now (S0.call hw').sl) rfl))) ?_
 refine FD.val rfl rfl rfl (fun w' hw' => (E.move (v := v1) rfl)) ?_
 obtain ⟨y30, hy31, hp⟩ := bnd hp
 obtain ⟨q32, v34, v35, rfl, at33, h36, h37⟩ := FAt.open p1 hy31
 refine FD.val rfl rfl rfl (fun w' hw' => (E.nilCheck rfl)) ?_
 refine FD.val rfl rfl rfl (fun w' hw' => (E.fieldAddr tf109_3 rfl)) ?_
 refine FD.val rfl rfl rfl (fun w' hw' => (E.load rfl (run_load1 Tryz.isAgg9 (at33.now (S0.call hw').sl) rfl))) ?_
 obtain ⟨r38, hr39, hp⟩ := bnd hp
 refine FD.call rfl rfl rfl (fun w' hw' => (E.call Tryz.call118 (A2 rfl rfl))) (fun w' hw' => Calls.cls hw' (w_impl_compareFormulas (S0.call hw').sl y22.text y30.text hr39)) ?_
 refine FD.val rfl rfl rfl (fun w' hw' => (E.assign (v := Value.int .i64 r38) rfl)) ?_
 refine FD.nil ?_
 intro w40 r42
 have S41 := S0.call r42
 refine FW.ret ?_
 obtain rfl := Option.some.inj hp
 exact ⟨.inr rfl, res1 rfl rfl ⟨rfl, S41.back⟩⟩

@[reducible] def p_slices_CompactFunc_impl_formula_impl_formula (H0 : GH) (w0 : World) (Ha : GH) (L : List MO) (r : (List Fo)) : Ending → World → Prop :=
 fun e w' => ∃ H' : GH, ∃ v0r : Value, ∃ n0r : Nat, ∃ c0r : List Value, e = .returned (v0r) ∧ (St H0 w0 H' w' (.row 101 1 v0r n0r c0r :: L) ∧ Inc Ha H') ∧ Els H' eFo 1 c0r r
set_option maxHeartbeats 4000000 in
theorem w_slices_CompactFunc_impl_formula_impl_formula {H0 Ha : GH} {w0 wa : World} {L : List MO} {v0 : Value} {n0 : Nat} {k0 : List Value} (S0 : St H0 w0 Ha wa (.row 101 1 v0 n0 k0 :: L)) (a0 : List Fo) (p0 : Els Ha eFo 1 k0 a0) (v1 : Value) (a1 : Fo → Fo → Option Bool) (p1 : Fn_Fo_Fo_to_B Tryz.prog Ha v1 a1) {r : (List Fo)} (hp : (PF.slices_CompactFunc_impl_formula_impl_formula a0 a1) = some r) :
  Calls Tryz.prog 131 #[v0, v1] wa (p_slices_CompactFunc_impl_formula_impl_formula H0 w0 Ha L r) := by
 unfold PF.slices_CompactFunc_impl_formula_impl_formula at hp
 refine calls_go (N := 66) (args := [v0, v1]) Tryz.func131 rfl rfl rfl ?_
 refine FW.seq (FW.region ?_)
 refine FL.v (E.assign (v := Value.slice none 0 0) rfl) ?_
 refine FL.nil (FW.seq (FW.seq (FW.region ?_)))
 refine FL.v (E.move (v := v0) rfl) ?_
 refine FL.v (E.lenO te106 rfl S0 (i := 0) rfl p0 (by decide)) ?_
 refine FL.v (E.lss rfl rfl) ?_
 refine FL.nil ?_
 rcases ifB hp with ⟨c21, hp⟩ | ⟨c21, hp⟩
 ·
  refine FW.condT rfl c21 ?_
  refine FW.seq (FW.region ?_)
  refine FL.v (E.move (v := v0) rfl) ?_
  refine FL.v (E.assign (v := v0) rfl) ?_
  refine FL.nil ?_
  refine FW.ret ?_
  obtain rfl := Option.some.inj hp
  exact ⟨.inr rfl, res1 rfl rfl ⟨_, _, _, _, rfl, ⟨S0, (Inc.rfl _)⟩, p0⟩⟩
 ·
  refine FW.condF rfl c21 ?_
  refine FW.skip (FW.seq (FW.seq (FW.region ?_)))
  refine FL.v (E.assign (v := Value.int .i64 1) rfl) ?_
  refine FL.nil ?_
  obtain ⟨q22, hq, hp⟩ := bndR hp
  refine FW.block ?_
  refine FW.mono (FW.iter (S := Int) (X := (List Fo)) (fun (s22 : Int) f w => ∃ H : GH, St H0 w0 H w (.row 101 1 v0 n0 k0 :: L) ∧ Inc Ha H ∧ f 0 = v0 ∧ f 1 = v1 ∧ f 5 = Value.int .i64 s22) (fun q e f w => match q with | .go s22 => e = Exit.exit 0 ∧ (∃ H : GH, St H0 w0 H w (.row 101 1 v0 n0 k0 :: L) ∧ Inc Ha H ∧ f 0 = v0) | .rt x => ((e = Exit.ret) ∧ (fun e f w => (e = Exit.normal ∨ e = Exit.ret) ∧ ∀ a, Fr (δ := []) 66 a f → ∃ v, (results Tryz.f131 a.tmps).run Tryz.prog w = .ok v w ∧ (p_slices_CompactFunc_impl_formula_impl_formula H0 w0 Ha L x) (.returned v) w) e f w)) hq ⟨_, S0, (Inc.rfl _), rfl, rfl, rfl⟩ ?_) ?_
  ·
   clear hp hq
   rintro s22 f27 w26 ⟨H23, S24, i25, k28, k29, k30⟩ o197 hp
   refine FW.seq (FW.seq (FW.region ?_))
   refine FL.v (E.move k30) ?_
   refine FL.v (E.move k28) ?_
   refine FL.v (E.lenO te106 rfl S24 (i := 0) rfl p0 (by decide)) ?_
   refine FL.v (E.lss rfl rfl) ?_
   refine FL.nil ?_
   rcases ifB hp with ⟨c31, hp⟩ | ⟨c31, hp⟩
   ·
    refine FW.condT rfl c31 ?_
    refine FW.skip (FW.seq (FW.block (FW.seq ?_)))
    obtain ⟨x41, hx42, hp⟩ := bnd hp
    obtain ⟨x52, hx53, hp⟩ := bnd hp
    obtain ⟨r57, hr58, hp⟩ := bnd hp
    refine FW.drawB (SX H0 w0 H23 (.row 101 1 v0 n0 k0 :: L)) (fun f w => ∃ H : GH, St H0 w0 H w (.row 101 1 v0 n0 k0 :: L) ∧ Inc H23 H ∧ f 0 = v0 ∧ f 1 = v1 ∧ f 5 = Value.int .i64 s22 ∧ f 28 = Value.bool r57) (by kernel_rfl) S24.sl ?_ ?_
    ·
     intro w32 r33
     have S34 := S24.call r33
     refine FB.t (i := 0) (bs 11 1) rfl (SP.nil ⟨_, S34, (Inc.rfl _)⟩) rfl (fun w' hw' => (E.move k29)) ?_
     refine FB.t (i := 1) (bs 11 3) rfl (SP.nil ⟨_, S34, (Inc.rfl _)⟩) rfl (fun w' hw' => (E.move k28)) ?_
     refine FB.t (i := 2) (bs 11 7) rfl (SP.nil ⟨_, S34, (Inc.rfl _)⟩) rfl (fun w' hw' => (E.move k30)) ?_
     obtain ⟨p35, cs36, pt37, l38, at39, rel40, hall43⟩ := S34.row_atA (i := 0) rfl p0 (by decide) hx42
     obtain ⟨v44, rfl, h45⟩ := eFo_open rel40
     refine FB.t (i := 3) (bs 11 15) rfl (SP.nil ⟨_, S34, (Inc.rfl _)⟩) rfl (fun w' hw' => (E.indexAddr te106 rfl rfl pt37)) ?_
     refine FB.t (i := 4) (bs 11 31) rfl (SP.nil ⟨_, S34, (Inc.rfl _)⟩) rfl (fun w' hw' => (E.load rfl (run_load0 Tryz.isAgg101 (hw'.use fun _ st => hall43 _ _ _ 0 st rfl) rfl))) ?_
     refine FB.t (i := 5) (bs 11 63) rfl (SP.nil ⟨_, S34, (Inc.rfl _)⟩) rfl (fun w' hw' => (E.move k28)) ?_
     refine FB.t (i := 6) (bs 11 127) rfl (SP.nil ⟨_, S34, (Inc.rfl _)⟩) rfl (fun w' hw' => (E.move k30)) ?_
     refine FB.t (i := 7) (bs 11 255) rfl (SP.nil ⟨_, S34, (Inc.rfl _)⟩) rfl (fun w' hw' => (E.sub rfl rfl)) ?_
     obtain ⟨p46, cs47, pt48, l49, at50, rel51, hall54⟩ := S34.row_atA (i := 0) rfl p0 (by decide) hx53
     obtain ⟨v55, rfl, h56⟩ := eFo_open rel51
     refine FB.t (i := 8) (bs 11 511) rfl (SP.nil ⟨_, S34, (Inc.rfl _)⟩) rfl (fun w' hw' => (E.indexAddr te106 rfl rfl pt48)) ?_
     refine FB.t (i := 9) (bs 11 1023) rfl (SP.nil ⟨_, S34, (Inc.rfl _)⟩) rfl (fun w' hw' => (E.load rfl (run_load0 Tryz.isAgg101 (hw'.use fun _ st => hall54 _ _ _ 0 st rfl) rfl))) ?_
     refine FB.all1 (i := 10) (by kernel_rfl) ?_
     ·
      obtain ⟨fi62, cs63, hv64, he65, hc66⟩ := (p1.mono i25) H23 w32 (Inc.rfl _) S34.sl x41 v44 (h45.mono i25) x52 v55 (h56.mono i25) r57 hr58
      refine FC.call (l' := (bs 11 2047)) rfl (by kernel_rfl) rfl rfl rfl (E.callV he65 (Eq.trans rfl hv64) (appA (A2 rfl rfl) cs63)) hc66 ?_
      rintro e w59 ⟨rfl, r60⟩
      refine ⟨_, rfl, ?_⟩
      have S61 := S34.call r60
      refine ⟨(SP.nil ⟨_, S61, (Inc.rfl _)⟩), ?_⟩
      exact FB.done (by kernel_rfl) ⟨_, S61, (Inc.rfl _), k28, k29, k30, rfl⟩
    ·
     rintro f71 w70 ⟨H67, S68, i69, k72, k73, k74, k75⟩
     rcases ifB hp with ⟨c76, hp⟩ | ⟨c76, hp⟩
     ·
      refine FW.condT k75 c76 ?_
      refine FW.seq (FW.region ?_)
      refine FL.v (E.move k72) ?_
      refine FL.v (E.move k74) ?_
      obtain ⟨xs77, hc78, hp⟩ := bnd hp
      obtain ⟨v79, run80, h81⟩ := S68.tail te106 (kk := .i64) (i := 0) rfl p0 hc78
      refine FL.v (E.slice te106 rfl (congrArg some rfl) rfl rfl (run80 _)) ?_
      refine FL.v (E.assign (v := v79) rfl) ?_
      refine FL.nil (FW.seq (FW.seq (FW.region ?_)))
      refine FL.v (E.assign (v := Value.int .i64 1) rfl) ?_
      refine FL.nil ?_
      obtain ⟨q82, hq, hp⟩ := bndR hp
      refine FW.block ?_
      refine FW.mono (FW.iter (S := ((List Fo) × Int × Int)) (X := Empty) (fun (s82 : ((List Fo) × Int × Int)) f w => ∃ H : GH, ∃ cs83 : List Value, St H0 w0 H w (.row 101 1 v0 n0 cs83 :: L) ∧ Inc H67 H ∧ Els H eFo 1 cs83 s82.1 ∧ f 0 = v0 ∧ f 1 = v1 ∧ f 5 = Value.int .i64 s82.2.1 ∧ f 6 = v79 ∧ f 7 = Value.int .i64 s82.2.2) (fun (q : Rs ((List Fo) × Int × Int) Empty) e f w => match q with | .go s82 => e = Exit.exit 2 ∧ (∃ H : GH, ∃ cs83 : List Value, St H0 w0 H w (.row 101 1 v0 n0 cs83 :: L) ∧ Inc H67 H ∧ Els H eFo 1 cs83 s82.1 ∧ f 0 = v0 ∧ f 5 = Value.int .i64 s82.2.1) | .rt x => x.elim) hq ⟨_, _, S68, (Inc.rfl _), (p0.mono (i25.tr i69)), k72, k73, k74, rfl, rfl⟩ ?_) ?_
      ·
       clear hp hq
       rintro s82 f89 w88 ⟨H85, cs83, S86, i87, els84, k90, k91, k92, k93, k94⟩ o170 hp
       refine FW.seq (FW.seq (FW.region ?_))
       refine FL.v (E.move k94) ?_
       refine FL.v (E.move k93) ?_
       refine FL.v (E.lenT te106 rfl S86 (i := 0) rfl els84 (by decide) h81) ?_
       refine FL.v (E.lss rfl rfl) ?_
       refine FL.nil ?_
       rcases ifB hp with ⟨c95, hp⟩ | ⟨c95, hp⟩
       ·
        refine FW.condT rfl c95 ?_
        refine FW.skip (FW.seq (FW.block (FW.seq ?_)))
        obtain ⟨x105, hx107, hp⟩ := bnd hp
        obtain ⟨x116, hx117, hp⟩ := bnd hp
        obtain ⟨r120, hr121, hp⟩ := bnd hp
        refine FW.drawB (SX H0 w0 H85 (.row 101 1 v0 n0 cs83 :: L)) (fun f w => ∃ H : GH, St H0 w0 H w (.row 101 1 v0 n0 cs83 :: L) ∧ Inc H85 H ∧ f 0 = v0 ∧ f 1 = v1 ∧ f 5 = Value.int .i64 s82.2.1 ∧ f 6 = v79 ∧ f 7 = Value.int .i64 s82.2.2 ∧ f 49 = Value.bool (!r120)) (by kernel_rfl) S86.sl ?_ ?_
        ·
         intro w96 r97
         have S98 := S86.call r97
         refine FB.t (i := 0) (bs 12 1) rfl (SP.nil ⟨_, S98, (Inc.rfl _)⟩) rfl (fun w' hw' => (E.move k91)) ?_
         refine FB.t (i := 1) (bs 12 3) rfl (SP.nil ⟨_, S98, (Inc.rfl _)⟩) rfl (fun w' hw' => (E.move k93)) ?_
         refine FB.t (i := 2) (bs 12 7) rfl (SP.nil ⟨_, S98, (Inc.rfl _)⟩) rfl (fun w' hw' => (E.move k94)) ?_
         refine FB.t (i := 5) (bs 12 39) rfl (SP.nil ⟨_, S98, (Inc.rfl _)⟩) rfl (fun w' hw' => (E.move k93)) ?_
         refine FB.t (i := 6) (bs 12 103) rfl (SP.nil ⟨_, S98, (Inc.rfl _)⟩) rfl (fun w' hw' => (E.move k94)) ?_
         refine FB.t (i := 7) (bs 12 231) rfl (SP.nil ⟨_, S98, (Inc.rfl _)⟩) rfl (fun w' hw' => (E.sub rfl rfl)) ?_
         refine FB.phase [10] (fun w' => w' = w96) ?_
         obtain ⟨p99, cs100, pt101, l102, at103, rel104⟩ := S98.row_at (i := 0) rfl els84 (by decide) (ixT_some hx107).2
         obtain ⟨v108, rfl, h109⟩ := eFo_open rel104
         refine FB.u (i := 3) (bs 12 239) [4, 10, 11] rfl (SP.on rfl (SP.nil ⟨_, S98, (Inc.rfl _)⟩)) rfl (E.indexAddr te106 rfl rfl (PtrOf.tail h81 pt101 (ixT_some hx107).1)) ?_
         refine FB.u (i := 4) (bs 12 255) [10, 11] rfl (SP.on rfl (SP.nil ⟨_, S98, (Inc.rfl _)⟩)) rfl (E.load rfl (run_load0 Tryz.isAgg101 at103 rfl)) ?_
         obtain ⟨p110, cs111, pt112, l113, at114, rel115⟩ := S98.row_at (i := 0) rfl els84 (by decide) (ixT_some hx117).2
         obtain ⟨v118, rfl, h119⟩ := eFo_open rel115
         refine FB.u (i := 8) (bs 12 511) [9, 10, 11] rfl (SP.on rfl (SP.nil ⟨_, S98, (Inc.rfl _)⟩)) rfl (E.indexAddr te106 rfl rfl (PtrOf.tail h81 pt112 (ixT_some hx117).1)) ?_
         refine FB.u (i := 9) (bs 12 1023) [10, 11] rfl (SP.on rfl (SP.nil ⟨_, S98, (Inc.rfl _)⟩)) rfl (E.load rfl (run_load0 Tryz.isAgg101 at114 rfl)) ?_
         refine FB.all1 (i := 10) (by kernel_rfl) ?_
         ·
          obtain ⟨fi125, cs126, hv127, he128, hc129⟩ := (p1.mono ((i25.tr i69).tr i87)) H85 w96 (Inc.rfl _) S98.sl x105 v108 h109 x116 v118 h119 r120 hr121
          refine FC.call (l' := (bs 12 2047)) rfl (by kernel_rfl) rfl rfl rfl (E.callV he128 (Eq.trans rfl hv127) (appA (A2 rfl rfl) cs126)) hc129 ?_
          rintro e w122 ⟨rfl, r123⟩
          refine ⟨_, rfl, ?_⟩
          have S124 := S98.call r123
          refine ⟨(SP.o (SP.nil ⟨_, S124, (Inc.rfl _)⟩)), ?_⟩
          refine FB.t (i := 11) (bs 12 4095) rfl (SP.o (SP.nil ⟨_, S124, (Inc.rfl _)⟩)) rfl (fun w' hw' => (E.not rfl)) ?_
          exact FB.done (by kernel_rfl) ⟨_, S124, (Inc.rfl _), k90, k91, k92, k93, k94, rfl⟩
        ·
         rintro f134 w133 ⟨H130, S131, i132, k135, k136, k137, k138, k139, k140⟩
         rcases ifB hp with ⟨c141, hp⟩ | ⟨c141, hp⟩
         ·
          refine FW.condT k140 c141 ?_
          refine FW.seq (FW.region ?_)
          refine FL.v (E.move k135) ?_
          refine FL.v (E.move k137) ?_
          refine FL.v (E.move k138) ?_
          refine FL.v (E.move k139) ?_
          obtain ⟨x148, hx149, hp⟩ := bnd hp
          obtain ⟨p142, cs143, pt144, l145, at146, rel147⟩ := S131.row_at (i := 0) rfl els84 (by decide) (ixT_some hx149).2
          obtain ⟨v150, rfl, h151⟩ := eFo_open rel147
          refine FL.v (E.indexAddr te106 rfl rfl (PtrOf.tail h81 pt144 (ixT_some hx149).1)) ?_
          refine FL.v (E.load rfl (run_load0 Tryz.isAgg101 at146 rfl)) ?_
          obtain ⟨x158, hx159, hp⟩ := bnd hp
          obtain ⟨p152, cs153, pt154, l155, at156, rel157⟩ := S131.row_at (i := 0) rfl els84 (by decide) hx159
          obtain ⟨v160, rfl, h161⟩ := eFo_open rel157
          refine FL.v (E.indexAddr te106 rfl rfl pt154) ?_
          obtain ⟨xs165, hput166, hp⟩ := bnd hp
          obtain ⟨w162, cs168, run163, S164, els167, ce169⟩ := S131.putEls (P := Tryz.prog) (t := 101) (i := 0) rfl (els84.mono i132) hput166 pt154 Tryz.sizeOf101 (u := v150) (c := [v150]) h151.cells rfl (ones_cons h151.one ones_nil) ⟨_, rfl, (h151.mono i132)⟩
          have S164 : St H0 w0 H130 w162 (.row 101 1 v0 n0 cs168 :: L) := S164
          refine FL.act rfl rfl (E.store rfl rfl run163) ?_
          refine FL.nil (FW.region ?_)
          refine FL.v (E.move k137) ?_
          refine FL.v (E.add rfl rfl) ?_
          refine FL.v (E.assign (v := Value.int .i64 (wr (s82.2.1 + 1))) rfl) ?_
          refine FL.nil (FW.region ?_)
          refine FL.v (E.move k139) ?_
          refine FL.v (E.add rfl rfl) ?_
          refine FL.v (E.assign (v := Value.int .i64 (wr (s82.2.2 + 1))) rfl) ?_
          refine FL.nil ?_
          obtain rfl := Option.some.inj hp
          exact ⟨rfl, ⟨_, _, S164, (i87.tr i132), els167, k135, k136, rfl, k138, rfl⟩⟩
         ·
          refine FW.condF k140 c141 ?_
          refine FW.skip (FW.region ?_)
          refine FL.v (E.move k139) ?_
          refine FL.v (E.add rfl rfl) ?_
          refine FL.v (E.assign (v := Value.int .i64 (wr (s82.2.2 + 1))) rfl) ?_
          refine FL.nil ?_
          obtain rfl := Option.some.inj hp
          exact ⟨rfl, ⟨_, _, S131, (i87.tr i132), (els84.mono i132), k135, k136, k137, k138, rfl⟩⟩
       ·
        refine FW.condF rfl c95 ?_
        refine FW.exit ?_
        obtain rfl := Option.some.inj hp
        exact ⟨nofun, rfl, ⟨_, _, S86, i87, els84, k90, k92⟩⟩
      ·
       clear hq
       intro e f175 w174 hD
       rcases q82 with s82 | x82
       ·
        obtain ⟨rfl, hD⟩ := hD
        obtain ⟨H171, cs83, S172, i173, els84, k176, k177⟩ := hD
        replace hp := el_go hp
        refine FW.seq (FW.region ?_)
        refine FL.v (E.move k176) ?_
        refine FL.v (E.move k177) ?_
        obtain ⟨xs178, hc179, hp⟩ := bnd hp
        obtain ⟨v180, run181, h182⟩ := S172.tail te106 (kk := .i64) (i := 0) rfl els84 hc179
        refine FL.v (E.slice te106 rfl (congrArg some rfl) rfl rfl (run181 _)) ?_
        obtain ⟨w183, cs184, run185, S186, els187⟩ := S172.clearTail (P := Tryz.prog) te106 (i := 0) rfl els84 h182 ⟨_, rfl, FAt.nil⟩ (ones_cons rfl ones_nil)
        have S186 : St H0 w0 H171 w183 (.row 101 1 v0 n0 cs184 :: L) := S186
        refine FL.val0 rfl rfl (E.clear rfl run185) ?_
        refine FL.nil (FW.seq (FW.region ?_))
        refine FL.v (E.move k176) ?_
        refine FL.v (E.move k177) ?_
        obtain ⟨xs188, hc189, hp⟩ := bnd hp
        obtain ⟨v190, n191, cs192, run193, S194, els195, nd196⟩ := S186.cutRow te106 (kk := .i64) (i := 0) rfl els187 hc189
        have S194 : St H0 w0 H171 w183 (.row 101 1 v190 n191 cs192 :: L) := S194
        refine FL.v (E.slice te106 rfl rfl (congrArg some rfl) rfl (run193 _)) ?_
        refine FL.v (E.assign (v := v190) rfl) ?_
        refine FL.nil ?_
        refine FW.ret ?_
        obtain rfl := Option.some.inj hp
        exact ⟨nofun, rfl, ⟨.inr rfl, res1 rfl rfl ⟨_, _, _, _, rfl, ⟨S194, ((i25.tr i69).tr i173)⟩, els195⟩⟩⟩
       ·
        exact x82.elim
     ·
      refine FW.condF k75 c76 ?_
      refine FW.skip (FW.region ?_)
      refine FL.v (E.move k74) ?_
      refine FL.v (E.add rfl rfl) ?_
      refine FL.v (E.assign (v := Value.int .i64 (wr (s22 + 1))) rfl) ?_
      refine FL.nil ?_
      obtain rfl := Option.some.inj hp
      exact ⟨rfl, ⟨_, S68, (i25.tr i69), k72, k73, rfl⟩⟩
   ·
    refine FW.condF rfl c31 ?_
    refine FW.exit ?_
    obtain rfl := Option.some.inj hp
    exact ⟨nofun, rfl, ⟨_, S24, i25, k28⟩⟩
  ·
   clear hq
   intro e f202 w201 hD
   rcases q22 with s22 | x22
   ·
    obtain ⟨rfl, hD⟩ := hD
    obtain ⟨H198, S199, i200, k203⟩ := hD
    replace hp := el_go hp
    refine FW.seq (FW.region ?_)
    refine FL.v (E.move k203) ?_
    refine FL.v (E.assign (v := v0) rfl) ?_
    refine FL.nil ?_
    refine FW.ret ?_
    obtain rfl := Option.some.inj hp
    exact ⟨.inr rfl, res1 rfl rfl ⟨_, _, _, _, rfl, ⟨S199, i200⟩, (p0.mono i200)⟩⟩
   ·
    obtain ⟨he, hL⟩ := hD
    replace hp := el_rt hp
    obtain rfl := Option.some.inj hp
    subst he
    exact hL

theorem w_impl_formula_parts_2 {Ha : GH} {wa : World} (hs : Sl Ha wa) (v0 : Value) (a0 : Fo) (p0 : FAt Ha v0 a0) (v1 : Value) (a1 : Fo) (p1 : FAt Ha v1 a1) {r : Bool} (hp : (PF.impl_formula_parts_2 a0 a1) = some r) :
  Calls Tryz.prog 132 #[v0, v1] wa (Sc Ha wa (Value.bool r)) := by
 unfold PF.impl_formula_parts_2 at hp
 have S0 := St.init hs
 refine calls_go (N := 14) (args := [v0, v1]) Tryz.func132 rfl rfl rfl ?_
 refine FW.seq (FW.region ?_)
 refine FL.v (E.assign (v := Value.bool false) rfl) ?_
 refine FL.nil (FW.seq ?_)
 refine FW.draw (fun w' => Run wa.heap.size Ha wa Ha w') (by kernel_rfl) (by kernel_rfl) (run_drew S0.sl) ?_
 refine FD.val rfl rfl rfl (fun w' hw' => (E.move (v := v0) rfl)) ?_
 obtain ⟨y22, hy23, hp⟩ := bnd hp
 obtain ⟨q24, v26, v27, rfl, at25, h28, h29⟩ := FAt.open p0 hy23
 refine FD.val rfl rfl rfl (fun w' hw' => (E.nilCheck rfl)) ?_
 refine FD.val rfl rfl rfl (fun w' hw' => (E.fieldAddr tf109_3 rfl)) ?_
 refine FD.val rfl rfl rfl (fun w' hw' => (E.load rfl (run_load1 Tryz.isAgg9 (at25.now (S0.call hw').sl) rfl))) ?_
 refine FD.val rfl rfl rfl (fun w' hw' => (E.move (v := v1) rfl)) ?_
 obtain ⟨y30, hy31, hp⟩ := bnd hp
 obtain ⟨q32, v34, v35, rfl, at33, h36, h37⟩ := FAt.open p1 hy31
 refine FD.val rfl rfl rfl (fun w' hw' => (E.nilCheck rfl)) ?_
 refine FD.val rfl rfl rfl (fun w' hw' => (E.fieldAddr tf109_3 rfl)) ?_
 refine FD.val rfl rfl rfl (fun w' hw' => (E.load rfl (run_load1 Tryz.isAgg9 (at33.now (S0.call hw').sl) rfl))) ?_
 refine FD.val rfl rfl rfl (fun w' hw' => (E.eqlS rfl rfl)) ?_
 refine FD.val rfl rfl rfl (fun w' hw' => (E.assign (v := Value.bool (y22.text.toList == y30.text.toList)) rfl)) ?_
 refine FD.nil ?_
 intro w38 r40
 have S39 := S0.call r40
 refine FW.ret ?_
 obtain rfl := Option.some.inj hp
 exact ⟨.inr rfl, res1 rfl rfl ⟨rfl, S39.back⟩⟩

@[reducible] def p_impl_formula_parts (Ha : GH) (wa : World) (r : (List Fo)) : Ending → World → Prop :=
 fun e w' => ∃ H' : GH, ∃ v0 : Value, ∃ n0 : Nat, ∃ c0 : List Value, e = .returned (v0) ∧ St Ha wa H' w' [.row 101 1 v0 n0 c0] ∧ Els H' eFo 1 c0 r
theorem w_impl_formula_parts {Ha : GH} {wa : World} (hs : Sl Ha wa) (v0 : Value) (a0 : Fo) (p0 : FAt Ha v0 a0) {r : (List Fo)} (hp : (PF.impl_formula_parts a0) = some r) :
  Calls Tryz.prog 80 #[v0] wa (p_impl_formula_parts Ha wa r) := by
 unfold PF.impl_formula_parts at hp
 have S0 := St.init hs
 refine calls_go (N := 10) (args := [v0]) Tryz.func80 rfl rfl rfl ?_
 refine FW.seq (FW.region ?_)
 refine FL.v (E.assign (v := Value.slice none 0 0) rfl) ?_
 refine FL.nil (FW.seq (FW.region ?_))
 refine FL.v (E.move (v := v0) rfl) ?_
 have S21 := S0.nil 101 1
 have els22 : Els (up wa.heap.size Ha) eFo 1 [] [] := Els.nil
 obtain ⟨r23, hr24, hp⟩ := bnd hp
 refine FL.call rfl rfl rfl (E.call Tryz.call128 (A2 rfl rfl)) (w_impl_formula_collect (L := []) S21 v0 a0 p0 [] (els22.mono upI) hr24) ?_
 rintro e w26 ⟨H25, v29, n30, cs31, rfl, ⟨S27, i28⟩, els32⟩
 refine ⟨_, rfl, ?_⟩
 have S27 : St Ha wa H25 w26 [.row 101 1 v29 n30 cs31] := S27
 refine FL.v (E.assign (v := v29) rfl) ?_
 refine FL.nil (FW.seq (FW.region ?_))
 refine FL.v (E.move (v := v29) rfl) ?_
 obtain ⟨r33, hr34, hp⟩ := bnd hp
 refine FL.call rfl rfl rfl (E.call Tryz.call129 (A2 rfl rfl)) (w_slices_SortFunc_impl_formula_impl_formula (L := []) S27 r23 els32 (Value.func (.func 130) #[] #[]) (fun x0 x1 => PF.impl_formula_parts_1 x0 x1) (fun H2 w2 hi2 hs2 x0 y0 z0 x1 y1 z1 r hr => ⟨130, #[], rfl, Tryz.call130, w_impl_formula_parts_1 hs2 y0 x0 z0 y1 x1 z1  hr⟩) hr34) ?_
 rintro e w36 ⟨H35, cs39, rfl, ⟨S37, i38⟩, els40⟩
 refine ⟨_, rfl, ?_⟩
 have S37 : St Ha wa H35 w36 [.row 101 1 v29 n30 cs39] := S37
 refine FL.nil (FW.seq (FW.region ?_))
 refine FL.v (E.move (v := v29) rfl) ?_
 obtain ⟨r41, hr42, hp⟩ := bnd hp
 refine FL.call rfl rfl rfl (E.call Tryz.call131 (A2 rfl rfl)) (w_slices_CompactFunc_impl_formula_impl_formula (L := []) S37 r33 els40 (Value.func (.func 132) #[] #[]) (fun x0 x1 => PF.impl_formula_parts_2 x0 x1) (fun H2 w2 hi2 hs2 x0 y0 z0 x1 y1 z1 r hr => ⟨132, #[], rfl, Tryz.call132, w_impl_formula_parts_2 hs2 y0 x0 z0 y1 x1 z1  hr⟩) hr42) ?_
 rintro e w44 ⟨H43, v47, n48, cs49, rfl, ⟨S45, i46⟩, els50⟩
 refine ⟨_, rfl, ?_⟩
 have S45 : St Ha wa H43 w44 [.row 101 1 v47 n48 cs49] := S45
 refine FL.v (E.assign (v := v47) rfl) ?_
 refine FL.nil ?_
 refine FW.ret ?_
 obtain rfl := Option.some.inj hp
 exact ⟨.inr rfl, res1 rfl rfl ⟨_, _, _, _, rfl, S45, els50⟩⟩

@[reducible] def p_impl_defined (Ha : GH) (wa : World) (r : (List (List Int))) : Ending → World → Prop :=
 fun e w' => ∃ H' : GH, ∃ v0 : Value, ∃ n0 : Nat, ∃ c0 : List Value, e = .returned (v0) ∧ St Ha wa H' w' [.row 82 1 v0 n0 c0] ∧ Els (up wa.heap.size H') (eL eI 1) 1 c0 r
set_option maxHeartbeats 4000000 in
theorem w_impl_defined {Ha : GH} {wa : World} (hs : Sl Ha wa) (a0 : Int) (a1 : Int) (a2 : Int) (a3 : Int) :
  Calls Tryz.prog 81 #[Value.int .u8 a0, Value.int .i64 a1, Value.int .i64 a2, Value.int .i64 a3] wa (p_impl_defined Ha wa (PF.impl_defined a0 a1 a2 a3)) := by
 obtain ⟨r, hp⟩ : ∃ r, (PF.impl_defined a0 a1 a2 a3) = r := ⟨_, rfl⟩
 rw [hp]
 unfold PF.impl_defined at hp
 have S0 := St.init hs
 refine calls_go (N := 79) (args := [Value.int .u8 a0, Value.int .i64 a1, Value.int .i64 a2, Value.int .i64 a3]) Tryz.func81 rfl rfl rfl ?_
 refine FW.seq (FW.region ?_)
 refine FL.v (E.assign (v := Value.slice none 0 0) rfl) ?_
 refine FL.nil (FW.seq (FW.seq (FW.region ?_)))
 refine FL.v (E.move (v := Value.int .u8 a0) rfl) ?_
 refine FL.nil (FW.block (FW.seq (FW.region ?_)))
 refine FL.v (E.eql rfl rfl) ?_
 refine FL.v (E.assign (v := Value.bool (a0 == 48)) rfl) ?_
 refine FL.nil ?_
 rcases ifT hp with ⟨c21, hp⟩ | ⟨c21, hp⟩
 ·
  refine FW.condT rfl c21 ?_
  refine FW.seq (FW.region ?_)
  refine FL.v (E.move (v := Value.int .i64 a1) rfl) ?_
  refine FL.v (E.neg rfl) ?_
  obtain ⟨v22, w23, run24, S25, els26⟩ := S0.ints (P := Tryz.prog) te82 (up wa.heap.size Ha) 1 [(wr (-a1))]
  refine FL.v (E.buildSlice (B1 rfl) run24) ?_
  obtain ⟨H27, S28, i29, h30, nv31⟩ := S25.sealRowU (i := 0) (l' := []) rfl els26 (by decide) rfl
  obtain ⟨v32, w33, run34, S35⟩ := S28.buildSlice (P := Tryz.prog) te44 [v22] (parts := #[(0, v22)]) (cells := [v22]) rfl (szs_cons (cells_size h30.cells) szs_nil) (fc_cons h30.cells fc_nil) (ones_cons h30.one ones_nil) (Nat.le_of_ble_eq_true rfl)
  have els36 : Els (up wa.heap.size H27) (eL eI 1) 1 [v22] [[(wr (-a1))]] := (Els.snoc (H := (up wa.heap.size H27)) (E := (eL eI 1)) (k := 1) (c := [v22]) (x := [(wr (-a1))]) Els.nil rfl ⟨_, rfl, h30⟩)
  have nd37 : (bl [v22]).Nodup := by exact nd_one v22
  refine FL.v (E.buildSlice (B1 rfl) run34) ?_
  refine FL.v (E.assign (v := v32) rfl) ?_
  refine FL.nil ?_
  refine FW.ret ?_
  obtain rfl := hp
  exact ⟨.inr rfl, res1 rfl rfl ⟨_, _, _, _, rfl, S35, els36⟩⟩
 ·
  refine FW.condF rfl c21 ?_
  refine FW.seq (FW.region ?_)
  refine FL.v (E.eql rfl rfl) ?_
  refine FL.v (E.assign (v := Value.bool (a0 == 49)) rfl) ?_
  refine FL.nil ?_
  rcases ifT hp with ⟨c38, hp⟩ | ⟨c38, hp⟩
  ·
   refine FW.condT rfl c38 ?_
   refine FW.seq (FW.region ?_)
   refine FL.v (E.move (v := Value.int .i64 a1) rfl) ?_
   obtain ⟨v39, w40, run41, S42, els43⟩ := S0.ints (P := Tryz.prog) te82 (up wa.heap.size Ha) 1 [a1]
   refine FL.v (E.buildSlice (B1 rfl) run41) ?_
   obtain ⟨H44, S45, i46, h47, nv48⟩ := S42.sealRowU (i := 0) (l' := []) rfl els43 (by decide) rfl
   obtain ⟨v49, w50, run51, S52⟩ := S45.buildSlice (P := Tryz.prog) te44 [v39] (parts := #[(0, v39)]) (cells := [v39]) rfl (szs_cons (cells_size h47.cells) szs_nil) (fc_cons h47.cells fc_nil) (ones_cons h47.one ones_nil) (Nat.le_of_ble_eq_true rfl)
   have els53 : Els (up wa.heap.size H44) (eL eI 1) 1 [v39] [[a1]] := (Els.snoc (H := (up wa.heap.size H44)) (E := (eL eI 1)) (k := 1) (c := [v39]) (x := [a1]) Els.nil rfl ⟨_, rfl, h47⟩)
   have nd54 : (bl [v39]).Nodup := by exact nd_one v39
   refine FL.v (E.buildSlice (B1 rfl) run51) ?_
   refine FL.v (E.assign (v := v49) rfl) ?_
   refine FL.nil ?_
   refine FW.ret ?_
   obtain rfl := hp
   exact ⟨.inr rfl, res1 rfl rfl ⟨_, _, _, _, rfl, S52, els53⟩⟩
  ·
   refine FW.condF rfl c38 ?_
   refine FW.seq (FW.region ?_)
   refine FL.v (E.eql rfl rfl) ?_
   refine FL.v (E.assign (v := Value.bool (a0 == 126)) rfl) ?_
   refine FL.nil ?_
   rcases ifT hp with ⟨c55, hp⟩ | ⟨c55, hp⟩
   ·
    refine FW.condT rfl c55 ?_
    refine FW.seq (FW.region ?_)
    refine FL.v (E.move (v := Value.int .i64 a2) rfl) ?_
    refine FL.v (E.move (v := Value.int .i64 a1) rfl) ?_
    obtain ⟨v56, w57, run58, S59, els60⟩ := S0.ints (P := Tryz.prog) te82 (up wa.heap.size Ha) 2 [a2, a1]
    refine FL.v (E.buildSlice (B2 rfl rfl) run58) ?_
    refine FL.v (E.move (v := Value.int .i64 a2) rfl) ?_
    refine FL.v (E.neg rfl) ?_
    refine FL.v (E.move (v := Value.int .i64 a1) rfl) ?_
    refine FL.v (E.neg rfl) ?_
    obtain ⟨v61, w62, run63, S64, els65⟩ := S59.ints (P := Tryz.prog) te82 (up wa.heap.size Ha) 2 [(wr (-a2)), (wr (-a1))]
    refine FL.v (E.buildSlice (B2 rfl rfl) run63) ?_
    obtain ⟨H66, S67, i68, h69, nv70⟩ := S64.sealRowU (i := 1) (l' := [.row 3 1 v61 2 (iC [(wr (-a2)), (wr (-a1))])]) rfl els60 (by decide) rfl
    obtain ⟨H71, S72, i73, h74, nv75⟩ := S67.sealRowU (i := 0) (l' := []) rfl (els65.mono (up_mono i68)) (by decide) rfl
    obtain ⟨v76, w77, run78, S79⟩ := S72.buildSlice (P := Tryz.prog) te44 [v56, v61] (parts := #[(0, v56), (1, v61)]) (cells := [v56, v61]) rfl (szs_cons (cells_size h69.cells) (szs_cons (cells_size h74.cells) szs_nil)) (fc_cons h69.cells (fc_cons h74.cells fc_nil)) (ones_cons h69.one (ones_cons h74.one ones_nil)) (Nat.le_of_ble_eq_true rfl)
    have els80 : Els (up wa.heap.size H71) (eL eI 1) 1 [v56, v61] [[a2, a1], [(wr (-a2)), (wr (-a1))]] := (Els.snoc (H := (up wa.heap.size H71)) (E := (eL eI 1)) (k := 1) (c := [v61]) (x := [(wr (-a2)), (wr (-a1))]) (Els.snoc (H := (up wa.heap.size H71)) (E := (eL eI 1)) (k := 1) (c := [v56]) (x := [a2, a1]) Els.nil rfl ⟨_, rfl, (h69.mono (up_mono i73))⟩) rfl ⟨_, rfl, h74⟩)
    have nd81 : (bl [v56, v61]).Nodup := by exact nd_two (New.apart (h69.mono (up_mono (Inc.rfl _))) nv75)
    have nv82 : New Ha [v56, v61] := by exact (New.two nv70 (nv75.anti i68))
    refine FL.v (E.buildSlice (B2 rfl rfl) run78) ?_
    refine FL.v (E.assign (v := v76) rfl) ?_
    refine FL.nil ?_
    refine FW.ret ?_
    obtain rfl := hp
    exact ⟨.inr rfl, res1 rfl rfl ⟨_, _, _, _, rfl, S79, els80⟩⟩
   ·
    refine FW.condF rfl c55 ?_
    refine FW.seq (FW.region ?_)
    refine FL.v (E.eql rfl rfl) ?_
    refine FL.v (E.assign (v := Value.bool (a0 == 38)) rfl) ?_
    refine FL.nil ?_
    rcases ifT hp with ⟨c83, hp⟩ | ⟨c83, hp⟩
    ·
     refine FW.condT rfl c83 ?_
     refine FW.seq (FW.region ?_)
     refine FL.v (E.move (v := Value.int .i64 a2) rfl) ?_
     refine FL.v (E.move (v := Value.int .i64 a1) rfl) ?_
     refine FL.v (E.neg rfl) ?_
     obtain ⟨v84, w85, run86, S87, els88⟩ := S0.ints (P := Tryz.prog) te82 (up wa.heap.size Ha) 2 [a2, (wr (-a1))]
     refine FL.v (E.buildSlice (B2 rfl rfl) run86) ?_
     refine FL.v (E.move (v := Value.int .i64 a3) rfl) ?_
     refine FL.v (E.move (v := Value.int .i64 a1) rfl) ?_
     refine FL.v (E.neg rfl) ?_
     obtain ⟨v89, w90, run91, S92, els93⟩ := S87.ints (P := Tryz.prog) te82 (up wa.heap.size Ha) 2 [a3, (wr (-a1))]
     refine FL.v (E.buildSlice (B2 rfl rfl) run91) ?_
     refine FL.v (E.move (v := Value.int .i64 a2) rfl) ?_
     refine FL.v (E.neg rfl) ?_
     refine FL.v (E.move (v := Value.int .i64 a3) rfl) ?_
     refine FL.v (E.neg rfl) ?_
     refine FL.v (E.move (v := Value.int .i64 a1) rfl) ?_
     obtain ⟨v94, w95, run96, S97, els98⟩ := S92.ints (P := Tryz.prog) te82 (up wa.heap.size Ha) 3 [(wr (-a2)), (wr (-a3)), a1]
     refine FL.v (E.buildSlice (B3 rfl rfl rfl) run96) ?_
     obtain ⟨H99, S100, i101, h102, nv103⟩ := S97.sealRowU (i := 2) (l' := [.row 3 1 v94 3 (iC [(wr (-a2)), (wr (-a3)), a1]), .row 3 1 v89 2 (iC [a3, (wr (-a1))])]) rfl els88 (by decide) rfl
     obtain ⟨H104, S105, i106, h107, nv108⟩ := S100.sealRowU (i := 1) (l' := [.row 3 1 v94 3 (iC [(wr (-a2)), (wr (-a3)), a1])]) rfl (els93.mono (up_mono i101)) (by decide) rfl
     obtain ⟨H109, S110, i111, h112, nv113⟩ := S105.sealRowU (i := 0) (l' := []) rfl (els98.mono (up_mono (i101.tr i106))) (by decide) rfl
     obtain ⟨v114, w115, run116, S117⟩ := S110.buildSlice (P := Tryz.prog) te44 [v84, v89, v94] (parts := #[(0, v84), (1, v89), (2, v94)]) (cells := [v84, v89, v94]) rfl (szs_cons (cells_size h102.cells) (szs_cons (cells_size h107.cells) (szs_cons (cells_size h112.cells) szs_nil))) (fc_cons h102.cells (fc_cons h107.cells (fc_cons h112.cells fc_nil))) (ones_cons h102.one (ones_cons h107.one (ones_cons h112.one ones_nil))) (Nat.le_of_ble_eq_true rfl)
     have els118 : Els (up wa.heap.size H109) (eL eI 1) 1 [v84, v89, v94] [[a2, (wr (-a1))], [a3, (wr (-a1))], [(wr (-a2)), (wr (-a3)), a1]] := (Els.snoc (H := (up wa.heap.size H109)) (E := (eL eI 1)) (k := 1) (c := [v94]) (x := [(wr (-a2)), (wr (-a3)), a1]) (Els.snoc (H := (up wa.heap.size H109)) (E := (eL eI 1)) (k := 1) (c := [v89]) (x := [a3, (wr (-a1))]) (Els.snoc (H := (up wa.heap.size H109)) (E := (eL eI 1)) (k := 1) (c := [v84]) (x := [a2, (wr (-a1))]) Els.nil rfl ⟨_, rfl, (h102.mono (up_mono (i106.tr i111)))⟩) rfl ⟨_, rfl, (h107.mono (up_mono i111))⟩) rfl ⟨_, rfl, h112⟩)
     refine FL.v (E.buildSlice (B3 rfl rfl rfl) run116) ?_
     refine FL.v (E.assign (v := v114) rfl) ?_
     refine FL.nil ?_
     refine FW.ret ?_
     obtain rfl := hp
     exact ⟨.inr rfl, res1 rfl rfl ⟨_, _, _, _, rfl, S117, els118⟩⟩
    ·
     refine FW.condF rfl c83 ?_
     refine FW.seq (FW.region ?_)
     refine FL.v (E.eql rfl rfl) ?_
     refine FL.v (E.assign (v := Value.bool (a0 == 124)) rfl) ?_
     refine FL.nil ?_
     rcases ifT hp with ⟨c119, hp⟩ | ⟨c119, hp⟩
     ·
      refine FW.condT rfl c119 ?_
      refine FW.seq (FW.region ?_)
      refine FL.v (E.move (v := Value.int .i64 a2) rfl) ?_
      refine FL.v (E.neg rfl) ?_
      refine FL.v (E.move (v := Value.int .i64 a1) rfl) ?_
      obtain ⟨v120, w121, run122, S123, els124⟩ := S0.ints (P := Tryz.prog) te82 (up wa.heap.size Ha) 2 [(wr (-a2)), a1]
      refine FL.v (E.buildSlice (B2 rfl rfl) run122) ?_
      refine FL.v (E.move (v := Value.int .i64 a3) rfl) ?_
      refine FL.v (E.neg rfl) ?_
      refine FL.v (E.move (v := Value.int .i64 a1) rfl) ?_
      obtain ⟨v125, w126, run127, S128, els129⟩ := S123.ints (P := Tryz.prog) te82 (up wa.heap.size Ha) 2 [(wr (-a3)), a1]
      refine FL.v (E.buildSlice (B2 rfl rfl) run127) ?_
      refine FL.v (E.move (v := Value.int .i64 a2) rfl) ?_
      refine FL.v (E.move (v := Value.int .i64 a3) rfl) ?_
      refine FL.v (E.move (v := Value.int .i64 a1) rfl) ?_
      refine FL.v (E.neg rfl) ?_
      obtain ⟨v130, w131, run132, S133, els134⟩ := S128.ints (P := Tryz.prog) te82 (up wa.heap.size Ha) 3 [a2, a3, (wr (-a1))]
      refine FL.v (E.buildSlice (B3 rfl rfl rfl) run132) ?_
      obtain ⟨H135, S136, i137, h138, nv139⟩ := S133.sealRowU (i := 2) (l' := [.row 3 1 v130 3 (iC [a2, a3, (wr (-a1))]), .row 3 1 v125 2 (iC [(wr (-a3)), a1])]) rfl els124 (by decide) rfl
      obtain ⟨H140, S141, i142, h143, nv144⟩ := S136.sealRowU (i := 1) (l' := [.row 3 1 v130 3 (iC [a2, a3, (wr (-a1))])]) rfl (els129.mono (up_mono i137)) (by decide) rfl
      obtain ⟨H145, S146, i147, h148, nv149⟩ := S141.sealRowU (i := 0) (l' := []) rfl (els134.mono (up_mono (i137.tr i142))) (by decide) rfl
      obtain ⟨v150, w151, run152, S153⟩ := S146.buildSlice (P := Tryz.prog) te44 [v120, v125, v130] (parts := #[(0, v120), (1, v125), (2, v130)]) (cells := [v120, v125, v130]) rfl (szs_cons (cells_size h138.cells) (szs_cons (cells_size h143.cells) (szs_cons (cells_size h148.cells) szs_nil))) (fc_cons h138.cells (fc_cons h143.cells (fc_cons h148.cells fc_nil))) (ones_cons h138.one (ones_cons h143.one (ones_cons h148.one ones_nil))) (Nat.le_of_ble_eq_true rfl)
      have els154 : Els (up wa.heap.size H145) (eL eI 1) 1 [v120, v125, v130] [[(wr (-a2)), a1], [(wr (-a3)), a1], [a2, a3, (wr (-a1))]] := (Els.snoc (H := (up wa.heap.size H145)) (E := (eL eI 1)) (k := 1) (c := [v130]) (x := [a2, a3, (wr (-a1))]) (Els.snoc (H := (up wa.heap.size H145)) (E := (eL eI 1)) (k := 1) (c := [v125]) (x := [(wr (-a3)), a1]) (Els.snoc (H := (up wa.heap.size H145)) (E := (eL eI 1)) (k := 1) (c := [v120]) (x := [(wr (-a2)), a1]) Els.nil rfl ⟨_, rfl, (h138.mono (up_mono (i142.tr i147)))⟩) rfl ⟨_, rfl, (h143.mono (up_mono i147))⟩) rfl ⟨_, rfl, h148⟩)
      refine FL.v (E.buildSlice (B3 rfl rfl rfl) run152) ?_
      refine FL.v (E.assign (v := v150) rfl) ?_
      refine FL.nil ?_
      refine FW.ret ?_
      obtain rfl := hp
      exact ⟨.inr rfl, res1 rfl rfl ⟨_, _, _, _, rfl, S153, els154⟩⟩
     ·
      refine FW.condF rfl c119 ?_
      refine FW.skip (FW.seq (FW.region ?_))
      refine FL.v (E.move (v := Value.int .i64 a2) rfl) ?_
      refine FL.v (E.move (v := Value.int .i64 a1) rfl) ?_
      obtain ⟨v155, w156, run157, S158, els159⟩ := S0.ints (P := Tryz.prog) te82 (up wa.heap.size Ha) 2 [a2, a1]
      refine FL.v (E.buildSlice (B2 rfl rfl) run157) ?_
      refine FL.v (E.move (v := Value.int .i64 a3) rfl) ?_
      refine FL.v (E.neg rfl) ?_
      refine FL.v (E.move (v := Value.int .i64 a1) rfl) ?_
      obtain ⟨v160, w161, run162, S163, els164⟩ := S158.ints (P := Tryz.prog) te82 (up wa.heap.size Ha) 2 [(wr (-a3)), a1]
      refine FL.v (E.buildSlice (B2 rfl rfl) run162) ?_
      refine FL.v (E.move (v := Value.int .i64 a2) rfl) ?_
      refine FL.v (E.neg rfl) ?_
      refine FL.v (E.move (v := Value.int .i64 a3) rfl) ?_
      refine FL.v (E.move (v := Value.int .i64 a1) rfl) ?_
      refine FL.v (E.neg rfl) ?_
      obtain ⟨v165, w166, run167, S168, els169⟩ := S163.ints (P := Tryz.prog) te82 (up wa.heap.size Ha) 3 [(wr (-a2)), a3, (wr (-a1))]
      refine FL.v (E.buildSlice (B3 rfl rfl rfl) run167) ?_
      obtain ⟨H170, S171, i172, h173, nv174⟩ := S168.sealRowU (i := 2) (l' := [.row 3 1 v165 3 (iC [(wr (-a2)), a3, (wr (-a1))]), .row 3 1 v160 2 (iC [(wr (-a3)), a1])]) rfl els159 (by decide) rfl
      obtain ⟨H175, S176, i177, h178, nv179⟩ := S171.sealRowU (i := 1) (l' := [.row 3 1 v165 3 (iC [(wr (-a2)), a3, (wr (-a1))])]) rfl (els164.mono (up_mono i172)) (by decide) rfl
      obtain ⟨H180, S181, i182, h183, nv184⟩ := S176.sealRowU (i := 0) (l' := []) rfl (els169.mono (up_mono (i172.tr i177))) (by decide) rfl
      obtain ⟨v185, w186, run187, S188⟩ := S181.buildSlice (P := Tryz.prog) te44 [v155, v160, v165] (parts := #[(0, v155), (1, v160), (2, v165)]) (cells := [v155, v160, v165]) rfl (szs_cons (cells_size h173.cells) (szs_cons (cells_size h178.cells) (szs_cons (cells_size h183.cells) szs_nil))) (fc_cons h173.cells (fc_cons h178.cells (fc_cons h183.cells fc_nil))) (ones_cons h173.one (ones_cons h178.one (ones_cons h183.one ones_nil))) (Nat.le_of_ble_eq_true rfl)
      have els189 : Els (up wa.heap.size H180) (eL eI 1) 1 [v155, v160, v165] [[a2, a1], [(wr (-a3)), a1], [(wr (-a2)), a3, (wr (-a1))]] := (Els.snoc (H := (up wa.heap.size H180)) (E := (eL eI 1)) (k := 1) (c := [v165]) (x := [(wr (-a2)), a3, (wr (-a1))]) (Els.snoc (H := (up wa.heap.size H180)) (E := (eL eI 1)) (k := 1) (c := [v160]) (x := [(wr (-a3)), a1]) (Els.snoc (H := (up wa.heap.size H180)) (E := (eL eI 1)) (k := 1) (c := [v155]) (x := [a2, a1]) Els.nil rfl ⟨_, rfl, (h173.mono (up_mono (i177.tr i182)))⟩) rfl ⟨_, rfl, (h178.mono (up_mono i182))⟩) rfl ⟨_, rfl, h183⟩)
      refine FL.v (E.buildSlice (B3 rfl rfl rfl) run187) ?_
      refine FL.v (E.assign (v := v185) rfl) ?_
      refine FL.nil ?_
      refine FW.ret ?_
      obtain rfl := hp
      exact ⟨.inr rfl, res1 rfl rfl ⟨_, _, _, _, rfl, S188, els189⟩⟩

@[reducible] def p_slices_Clone_int_int (Ha : GH) (wa : World) (r : (List Int)) : Ending → World → Prop :=
 fun e w' => ∃ H' : GH, ∃ v0 : Value, ∃ n0 : Nat, ∃ c0 : List Value, e = .returned (v0) ∧ St Ha wa H' w' [.row 3 1 v0 n0 c0] ∧ Els (up wa.heap.size H') eI 1 c0 r
theorem w_slices_Clone_int_int {Ha : GH} {wa : World} (hs : Sl Ha wa) (v0 : Value) (a0 : List Int) (p0 : RSl Ha eI 1 v0 a0) {r : (List Int)} (hp : (PF.slices_Clone_int_int a0) = some r) :
  Calls Tryz.prog 133 #[v0] wa (p_slices_Clone_int_int Ha wa r) := by
 unfold PF.slices_Clone_int_int at hp
 have S0 := St.init hs
 refine calls_go (N := 8) (args := [v0]) Tryz.func133 rfl rfl rfl ?_
 refine FW.seq (FW.region ?_)
 refine FL.v (E.assign (v := Value.slice none 0 0) rfl) ?_
 refine FL.nil (FW.seq (FW.seq (FW.region ?_)))
 refine FL.v (E.move (v := v0) rfl) ?_
 obtain ⟨nb21, run22, hn23⟩ := RSl.nilTest te82 p0
 refine FL.v (run22 _ _ _ _ _ _ _ _ _ _ _ _ rfl rfl) ?_
 refine FL.nil ?_
 rcases bcase nb21 with c24 | c24
 ·
  refine FW.condT (b := nb21) rfl c24 ?_
  rw [hn23 c24, app_nil2] at hp
  refine FW.seq (FW.region ?_)
  refine FL.v (E.assign (v := Value.slice none 0 0) rfl) ?_
  refine FL.nil ?_
  refine FW.ret ?_
  obtain rfl := Option.some.inj hp
  exact ⟨.inr rfl, res1 rfl rfl ⟨_, _, _, _, rfl, (S0.nil 3 1), Els.nil⟩⟩
 ·
  refine FW.condF (b := nb21) rfl c24 ?_
  refine FW.skip (FW.seq (FW.region ?_))
  obtain ⟨v25, w26, run27, S28⟩ := S0.buildSlice (P := Tryz.prog) te82 [] (parts := #[]) (cells := []) rfl szs_nil fc_nil ones_nil (Nat.le_of_ble_eq_true rfl)
  have els29 : Els (up wa.heap.size Ha) eI 1 [] [] := Els.nil
  refine FL.v (E.buildSlice (B0) run27) ?_
  refine FL.v (E.move (v := v0) rfl) ?_
  obtain ⟨xs30, hz31, hp⟩ := bnd hp
  obtain ⟨v32, w35, n33, cs34, run36, S37, els38⟩ := S28.appendP (P := Tryz.prog) (Inc.rfl _) te82 (i := 0) rfl (els29.mono upI) p0 hz31
  have S37 : St Ha wa Ha w35 [.row 3 1 v32 n33 cs34] := S37
  have els38 : Els (up wa.heap.size Ha) eI 1 cs34 xs30 := els38.any (fun _ _ _ _ h => h)
  refine FL.v (E.append rfl rfl run36) ?_
  refine FL.v (E.assign (v := v32) rfl) ?_
  refine FL.nil ?_
  refine FW.ret ?_
  obtain rfl := Option.some.inj hp
  exact ⟨.inr rfl, res1 rfl rfl ⟨_, _, _, _, rfl, S37, els38⟩⟩

@[reducible] def p_slices_SortFunc_int_int (H0 : GH) (w0 : World) (Ha : GH) (L : List MO) (v0 : Value) (n0 : Nat) (r : (List Int)) : Ending → World → Prop :=
 fun e w' => ∃ H' : GH, ∃ c0k : List Value, e = .returned (Value.tuple #[]) ∧ (St H0 w0 H' w' (.row 3 1 v0 n0 c0k :: L) ∧ Inc Ha H') ∧ Els (up w0.heap.size H') eI 1 c0k r
theorem w_slices_SortFunc_int_int {H0 Ha : GH} {w0 wa : World} {L : List MO} {v0 : Value} {n0 : Nat} {k0 : List Value} (S0 : St H0 w0 Ha wa (.row 3 1 v0 n0 k0 :: L)) (a0 : List Int) (p0 : Els (up w0.heap.size Ha) eI 1 k0 a0) (v1 : Value) (a1 : Int → Int → Option Int) (p1 : Fn_I_I_to_I Tryz.prog Ha v1 a1) {r : (List Int)} (hp : (PF.slices_SortFunc_int_int a0 a1) = some r) :
  Calls Tryz.prog 134 #[v0, v1] wa (p_slices_SortFunc_int_int H0 w0 Ha L v0 n0 r) := by
 refine (St.sortF (l := .row 3 1 v0 n0 k0 :: L) (i := 0) upI S0 rfl p0 (fun H2 w2 hi hs2 c x hc d y hd r hr => by cases eI_open hc; cases eI_open hd; exact p1 H2 w2 hi hs2 x y r hr) (fun p cap fv w => AnyF.slices_SortFunc_none (P := Tryz.prog) (ρ := Tryz.sort134_ren) { Tryz.sort134 with } p cap fv w) (fun α _ enc h1 cf hO g cb blk off cap d w eg hc hH hb hs => Any.slices_SortFunc Tryz.sort134 enc h1 cf hO g cb blk off cap d w eg hc hH hb hs) hp).mono ?_
 rintro e w' ⟨rfl, c', h1, h2, hq⟩
 exact ⟨_, _, rfl, ⟨h1, Inc.rfl _⟩, h2⟩

theorem w_impl_abs {Ha : GH} {wa : World} (hs : Sl Ha wa) (a0 : Int) :
  Calls Tryz.prog 180 #[Value.int .i64 a0] wa (Sc Ha wa (Value.int .i64 (PF.impl_abs a0))) := by
 obtain ⟨r, hp⟩ : ∃ r, (PF.impl_abs a0) = r := ⟨_, rfl⟩
 rw [hp]
 unfold PF.impl_abs at hp
 have S0 := St.init hs
 refine calls_go (N := 7) (args := [Value.int .i64 a0]) Tryz.func180 rfl rfl rfl ?_
 refine FW.seq (FW.region ?_)
 refine FL.v (E.assign (v := Value.int .i64 0) rfl) ?_
 refine FL.nil (FW.seq (FW.region ?_))
 refine FL.v (E.move (v := Value.int .i64 a0) rfl) ?_
 refine FL.v (E.move (v := Value.int .i64 a0) rfl) ?_
 refine FL.v (E.neg rfl) ?_
 refine FL.v (E.max2 rfl rfl) ?_
 refine FL.v (E.assign (v := Value.int .i64 (mx a0 (wr (-a0)))) rfl) ?_
 refine FL.nil ?_
 refine FW.ret ?_
 obtain rfl := hp
 exact ⟨.inr rfl, res1 rfl rfl ⟨rfl, S0.back⟩⟩

theorem w_impl_compareLiterals {Ha : GH} {wa : World} (hs : Sl Ha wa) (a0 : Int) (a1 : Int) {r : Int} (hp : (PF.impl_compareLiterals a0 a1) = some r) :
  Calls Tryz.prog 135 #[Value.int .i64 a0, Value.int .i64 a1] wa (Sc Ha wa (Value.int .i64 r)) := by
 unfold PF.impl_compareLiterals at hp
 have S0 := St.init hs
 refine calls_go (N := 15) (args := [Value.int .i64 a0, Value.int .i64 a1]) Tryz.func135 rfl rfl rfl ?_
 refine FW.seq (FW.region ?_)
 refine FL.v (E.assign (v := Value.int .i64 0) rfl) ?_
 refine FL.nil (FW.seq (FW.region ?_))
 refine FL.v (E.move (v := Value.int .i64 a0) rfl) ?_
 refine FL.call rfl rfl rfl (E.call Tryz.call180 (A1 rfl)) (w_impl_abs S0.sl a0) ?_
 rintro e w21 ⟨rfl, r22⟩
 refine ⟨_, rfl, ?_⟩
 have S23 := S0.call r22
 refine FL.v (E.move (v := Value.int .i64 a1) rfl) ?_
 refine FL.call rfl rfl rfl (E.call Tryz.call180 (A1 rfl)) (w_impl_abs S23.sl a1) ?_
 rintro e w24 ⟨rfl, r25⟩
 refine ⟨_, rfl, ?_⟩
 have S26 := S23.call r25
 refine FL.call rfl rfl rfl (E.call Tryz.call165 (A2 rfl rfl)) (w_cmp_Compare_int S26.sl (PF.impl_abs a0) (PF.impl_abs a1)) ?_
 rintro e w27 ⟨rfl, r28⟩
 refine ⟨_, rfl, ?_⟩
 have S29 := S26.call r28
 refine FL.v (E.move (v := Value.int .i64 a1) rfl) ?_
 refine FL.v (E.move (v := Value.int .i64 a0) rfl) ?_
 refine FL.call rfl rfl rfl (E.call Tryz.call165 (A2 rfl rfl)) (w_cmp_Compare_int S29.sl a1 a0) ?_
 rintro e w30 ⟨rfl, r31⟩
 refine ⟨_, rfl, ?_⟩
 have S32 := S29.call r31
 obtain ⟨v33, w34, run35, S36, els37⟩ := S32.ints (P := Tryz.prog) te82 (up wa.heap.size Ha) 2 [(PF.cmp_Compare_int (PF.impl_abs a0) (PF.impl_abs a1)), (PF.cmp_Compare_int a1 a0)]
 refine FL.v (E.buildSlice (B2 rfl rfl) run35) ?_
 obtain ⟨H38, S39, i40, h41, nv42⟩ := S36.sealRowU (i := 0) (l' := []) rfl els37 (by decide) rfl
 obtain ⟨r43, hr44, hp⟩ := bnd hp
 refine FL.call rfl rfl rfl (E.call Tryz.call164 (A1 rfl)) (w_cmp_Or_int S39.sl v33 [(PF.cmp_Compare_int (PF.impl_abs a0) (PF.impl_abs a1)), (PF.cmp_Compare_int a1 a0)] (h41.mono upI) hr44) ?_
 rintro e w45 ⟨rfl, r46⟩
 refine ⟨_, rfl, ?_⟩
 have r46 := Run.lend i40 S36.sl r46
 have S47 := S36.call r46
 refine FL.v (E.assign (v := Value.int .i64 r43) rfl) ?_
 refine FL.nil ?_
 refine FW.ret ?_
 obtain rfl := Option.some.inj hp
 exact ⟨.inr rfl, res1 rfl rfl ⟨rfl, S47.back⟩⟩

@[reducible] def p_slices_Compact_int_int (H0 : GH) (w0 : World) (Ha : GH) (L : List MO) (r : (List Int)) : Ending → World → Prop :=
 fun e w' => ∃ H' : GH, ∃ v0r : Value, ∃ n0r : Nat, ∃ c0r : List Value, e = .returned (v0r) ∧ (St H0 w0 H' w' (.row 3 1 v0r n0r c0r :: L) ∧ Inc Ha H') ∧ Els (up w0.heap.size H') eI 1 c0r r
theorem w_slices_Compact_int_int {H0 Ha : GH} {w0 wa : World} {L : List MO} {v0 : Value} {n0 : Nat} {k0 : List Value} (S0 : St H0 w0 Ha wa (.row 3 1 v0 n0 k0 :: L)) (a0 : List Int) (p0 : Els (up w0.heap.size Ha) eI 1 k0 a0) {r : (List Int)} (hp : (PF.slices_Compact_int_int a0) = some r) :
  Calls Tryz.prog 136 #[v0] wa (p_slices_Compact_int_int H0 w0 Ha L r) := by
 cases hp
 refine (St.compactF (l := .row 3 1 v0 n0 k0 :: L) (i := 0) S0 rfl p0 (enc := Value.int .i64) (fun _ => rfl) (fun _ _ _ h => by cases eI_open h; rfl) (fun _ _ => rfl) 0 (fun w => compact_none Tryz.comp136 w) (fun blk off cap d w hH hs hc => AnyE.slices_Compact Tryz.comp136 (Value.int .i64) (fun _ => rfl) (EqlAt.intD _ _ _) (NeqAt.intD _ _ _) 0 (fun w => Tryz.zeroValue3 w) blk off cap d w hH hs hc)).mono ?_
 rintro e w' ⟨v', n', c', rfl, h1, h2⟩
 exact ⟨_, _, _, _, rfl, ⟨h1, Inc.rfl _⟩, h2⟩

@[reducible] def p_impl_clause (Ha : GH) (wa : World) (r : ((List Int) × Bool)) : Ending → World → Prop :=
 fun e w' => ∃ H' : GH, ∃ v0 : Value, ∃ n0 : Nat, ∃ c0 : List Value, e = .returned (Value.tuple #[v0, Value.bool r.2]) ∧ St Ha wa H' w' [.row 3 1 v0 n0 c0] ∧ Els (up wa.heap.size H') eI 1 c0 r.1
set_option maxHeartbeats 4000000 in
theorem w_impl_clause {Ha : GH} {wa : World} (hs : Sl Ha wa) (v0 : Value) (a0 : List Int) (p0 : RSl Ha eI 1 v0 a0) {r : ((List Int) × Bool)} (hp : (PF.impl_clause a0) = some r) :
  Calls Tryz.prog 82 #[v0] wa (p_impl_clause Ha wa r) := by
 unfold PF.impl_clause at hp
 have S0 := St.init hs
 refine calls_go (N := 30) (args := [v0]) Tryz.func82 rfl rfl rfl ?_
 refine FW.seq (FW.region ?_)
 refine FL.v (E.assign (v := Value.slice none 0 0) rfl) ?_
 refine FL.v (E.assign (v := Value.bool false) rfl) ?_
 refine FL.nil (FW.seq (FW.region ?_))
 refine FL.v (E.move (v := v0) rfl) ?_
 obtain ⟨r21, hr22, hp⟩ := bnd hp
 refine FL.call rfl rfl rfl (E.call Tryz.call133 (A1 rfl)) (w_slices_Clone_int_int S0.sl v0 a0 p0 hr22) ?_
 rintro e w24 ⟨H23, v27, n28, cs29, rfl, r26, els30⟩
 refine ⟨_, rfl, ?_⟩
 have els30 := els30.mono (up_le S0.size)
 have S25 := S0.join (l' := [.row 3 1 v27 n28 cs29]) r26 rfl
 refine FL.v (E.assign (v := v27) rfl) ?_
 refine FL.nil (FW.seq (FW.region ?_))
 refine FL.v (E.move (v := v27) rfl) ?_
 obtain ⟨r31, hr32, hp⟩ := bnd hp
 refine FL.call rfl rfl rfl (E.call Tryz.call134 (A2 rfl rfl)) (w_slices_SortFunc_int_int (L := []) S25 r21 els30 (Value.func (.func 135) #[] #[]) (fun x0 x1 => PF.impl_compareLiterals x0 x1) (fun H2 w2 hi2 hs2 x0 x1 r hr => ⟨135, #[], rfl, Tryz.call135, w_impl_compareLiterals hs2 x0 x1  hr⟩) hr32) ?_
 rintro e w34 ⟨H33, cs37, rfl, ⟨S35, i36⟩, els38⟩
 refine ⟨_, rfl, ?_⟩
 have S35 : St Ha wa H33 w34 [.row 3 1 v27 n28 cs37] := S35
 refine FL.nil (FW.seq (FW.region ?_))
 refine FL.v (E.move (v := v27) rfl) ?_
 obtain ⟨r39, hr40, hp⟩ := bnd hp
 refine FL.call rfl rfl rfl (E.call Tryz.call136 (A1 rfl)) (w_slices_Compact_int_int (L := []) S35 r31 els38 hr40) ?_
 rintro e w42 ⟨H41, v45, n46, cs47, rfl, ⟨S43, i44⟩, els48⟩
 refine ⟨_, rfl, ?_⟩
 have S43 : St Ha wa H41 w42 [.row 3 1 v45 n46 cs47] := S43
 refine FL.v (E.assign (v := v45) rfl) ?_
 refine FL.nil (FW.seq (FW.seq (FW.region ?_)))
 refine FL.v (E.assign (v := Value.int .i64 1) rfl) ?_
 refine FL.nil ?_
 obtain ⟨q49, hq, hp⟩ := bndR hp
 refine FW.block ?_
 refine FW.mono (FW.iter (S := Int) (X := ((List Int) × Bool)) (fun (s49 : Int) f w => ∃ H : GH, St Ha wa H w [.row 3 1 v45 n46 cs47] ∧ Inc H41 H ∧ f 4 = v45 ∧ f 5 = Value.int .i64 s49) (fun q e f w => match q with | .go s49 => e = Exit.exit 0 ∧ (∃ H : GH, St Ha wa H w [.row 3 1 v45 n46 cs47] ∧ Inc H41 H ∧ f 4 = v45) | .rt x => ((e = Exit.ret) ∧ (fun e f w => (e = Exit.normal ∨ e = Exit.ret) ∧ ∀ a, Fr (δ := []) 30 a f → ∃ v, (results Tryz.f82 a.tmps).run Tryz.prog w = .ok v w ∧ (p_impl_clause Ha wa x) (.returned v) w) e f w)) hq ⟨_, S43, (Inc.rfl _), rfl, rfl⟩ ?_) ?_
 ·
  clear hp hq
  rintro s49 f83 w82 ⟨H79, S80, i81, k84, k85⟩ o108 hp
  refine FW.seq (FW.seq (FW.region ?_))
  refine FL.v (E.move k85) ?_
  refine FL.v (E.move k84) ?_
  refine FL.v (E.lenO te82 rfl S80 (i := 0) rfl els48 (by decide)) ?_
  refine FL.v (E.lss rfl rfl) ?_
  refine FL.nil ?_
  rcases ifB hp with ⟨c86, hp⟩ | ⟨c86, hp⟩
  ·
   refine FW.condT rfl c86 ?_
   refine FW.skip (FW.seq (FW.block (FW.seq ?_)))
   refine FW.draw (fun w' => Run w82.heap.size H79 w82 H79 w') (by kernel_rfl) (by kernel_rfl) (run_drew S80.sl) ?_
   refine FD.val rfl rfl rfl (fun w' hw' => (E.move k84)) ?_
   refine FD.val rfl rfl rfl (fun w' hw' => (E.move k85)) ?_
   obtain ⟨x94, hx95, hp⟩ := bnd hp
   obtain ⟨p88, cs89, pt90, l91, at92, rel93⟩ := S80.row_at (i := 0) rfl els48 (by decide) hx95
   obtain rfl := eI_open rel93
   refine FD.val rfl rfl rfl (fun w' hw' => (E.indexAddr te82 rfl rfl pt90)) ?_
   refine FD.val rfl rfl rfl (fun w' hw' => (E.load rfl (run_load0 Tryz.isAgg3 (at92.cls hw') rfl))) ?_
   refine FD.val rfl rfl rfl (fun w' hw' => (E.move k84)) ?_
   refine FD.val rfl rfl rfl (fun w' hw' => (E.move k85)) ?_
   refine FD.val rfl rfl rfl (fun w' hw' => (E.sub rfl rfl)) ?_
   obtain ⟨x102, hx103, hp⟩ := bnd hp
   obtain ⟨p96, cs97, pt98, l99, at100, rel101⟩ := S80.row_at (i := 0) rfl els48 (by decide) hx103
   obtain rfl := eI_open rel101
   refine FD.val rfl rfl rfl (fun w' hw' => (E.indexAddr te82 rfl rfl pt98)) ?_
   refine FD.val rfl rfl rfl (fun w' hw' => (E.load rfl (run_load0 Tryz.isAgg3 (at100.cls hw') rfl))) ?_
   refine FD.val rfl rfl rfl (fun w' hw' => (E.neg rfl)) ?_
   refine FD.val rfl rfl rfl (fun w' hw' => (E.eql rfl rfl)) ?_
   refine FD.nil ?_
   intro w104 r106
   have S105 := S80.call r106
   rcases ifB hp with ⟨c107, hp⟩ | ⟨c107, hp⟩
   ·
    refine FW.condT rfl c107 ?_
    refine FW.seq (FW.region ?_)
    refine FL.v (E.assign (v := Value.slice none 0 0) rfl) ?_
    refine FL.v (E.assign (v := Value.bool false) rfl) ?_
    refine FL.nil ?_
    refine FW.ret ?_
    obtain rfl := Option.some.inj hp
    exact ⟨nofun, rfl, ⟨.inr rfl, res2 rfl rfl rfl ⟨_, _, _, _, rfl, ((S105.nil 3 1).sel [0] (by decide) rfl), Els.nil⟩⟩⟩
   ·
    refine FW.condF rfl c107 ?_
    refine FW.skip (FW.region ?_)
    refine FL.v (E.move k85) ?_
    refine FL.v (E.add rfl rfl) ?_
    refine FL.v (E.assign (v := Value.int .i64 (wr (s49 + 1))) rfl) ?_
    refine FL.nil ?_
    obtain rfl := Option.some.inj hp
    exact ⟨rfl, ⟨_, S105, i81, k84, rfl⟩⟩
  ·
   refine FW.condF rfl c86 ?_
   refine FW.exit ?_
   obtain rfl := Option.some.inj hp
   exact ⟨nofun, rfl, ⟨_, S80, i81, k84⟩⟩
 ·
  clear hq
  intro e f113 w112 hD
  rcases q49 with s49 | x49
  ·
   obtain ⟨rfl, hD⟩ := hD
   obtain ⟨H109, S110, i111, k114⟩ := hD
   replace hp := el_go hp
   refine FW.seq (FW.region ?_)
   refine FL.v (E.move k114) ?_
   refine FL.v (E.assign (v := v45) rfl) ?_
   refine FL.v (E.assign (v := Value.bool true) rfl) ?_
   refine FL.nil ?_
   refine FW.ret ?_
   obtain rfl := Option.some.inj hp
   exact ⟨.inr rfl, res2 rfl rfl rfl ⟨_, _, _, _, rfl, S110, (els48.mono (up_mono i111))⟩⟩
  ·
   obtain ⟨he, hL⟩ := hD
   replace hp := el_rt hp
   obtain rfl := Option.some.inj hp
   subst he
   exact hL

@[reducible] def p_impl_DefiningCnf (Ha : GH) (wa : World) (r : (Cnf × Bool)) : Ending → World → Prop :=
 fun e w' => ∃ H' : GH, ∃ v0_1 : Value, e = .returned (Value.tuple #[Value.agg #[Value.int .i64 r.1.vars, v0_1], Value.bool r.2]) ∧ Run wa.heap.size Ha wa H' w' ∧ (∃ c, Nest (up wa.heap.size H') (eL eI 1) 1 v0_1 r.1.clauses c)
set_option maxHeartbeats 4000000 in
theorem w_impl_DefiningCnf {Ha : GH} {wa : World} (hs : Sl Ha wa) (a0 : ByteArray) {r : (Cnf × Bool)} (hp : (PF.impl_DefiningCnf a0) = some r) :
  Calls Tryz.prog 30 #[Value.string a0] wa (p_impl_DefiningCnf Ha wa r) := by
 unfold PF.impl_DefiningCnf at hp
 have S0 := St.init hs
 refine calls_go (N := 131) (args := [Value.string a0]) Tryz.func30 rfl rfl rfl ?_
 refine FW.seq (FW.region ?_)
 have S25 := S0.nil 82 1
 have els26 : Els (up wa.heap.size Ha) (eL eI 1) 1 [] [] := Els.nil
 obtain ⟨b21, w22, run23, S24⟩ := S25.alloc (P := Tryz.prog) 46 [Value.int .i64 0, Value.slice none 0 0] Tryz.zeroValue46 rfl (ones_cons rfl (ones_cons rfl ones_nil))
 refine FL.v (E.alloc run23) ?_
 refine FL.v (E.assign (v := Value.bool false) rfl) ?_
 refine FL.nil (FW.seq (FW.region ?_))
 refine FL.v (E.move (v := Value.string a0) rfl) ?_
 obtain ⟨r27, hr28, hp⟩ := bnd hp
 refine FL.call rfl rfl rfl (E.call Tryz.call78 (A1 rfl)) (w_impl_parse S24.sl a0 hr28) ?_
 rintro e w30 ⟨H29, v33, rfl, r32, h34⟩
 refine ⟨_, rfl, ?_⟩
 have S31 := S24.call r32
 refine FL.v (E.move (v := Value.tuple #[v33, Value.bool r27.2]) rfl) ?_
 refine FL.v (E.extract (i := 0) rfl rfl) ?_
 refine FL.v (E.extract (i := 1) rfl rfl) ?_
 refine FL.v (E.assign (v := v33) rfl) ?_
 refine FL.v (E.assign (v := Value.bool r27.2) rfl) ?_
 refine FL.nil (FW.seq (FW.seq (FW.region ?_)))
 refine FL.v (E.move (v := Value.bool r27.2) rfl) ?_
 refine FL.v (E.not rfl) ?_
 refine FL.nil ?_
 rcases ifB hp with ⟨c35, hp⟩ | ⟨c35, hp⟩
 ·
  refine FW.condT rfl c35 ?_
  refine FW.seq (FW.region ?_)
  refine FL.v (E.build (B0) (run_build _ 46 #[] #[Value.int .i64 0, Value.slice none 0 0] (by rfl))) ?_
  have S36 := S31.nil 82 1
  have els37 : Els (up wa.heap.size H29) (eL eI 1) 1 [] [] := Els.nil
  obtain ⟨w38, run39, S40⟩ := S36.store0 (P := Tryz.prog) (t := 46) (i := 1) (cs' := [Value.int .i64 0, (Value.slice none 0 0)]) (l' := [.row 82 1 (Value.slice none 0 0) 0 [], .box b21 46 [Value.int .i64 0, (Value.slice none 0 0)], .row 82 1 (Value.slice none 0 0) 0 []]) (v := Value.agg #[Value.int .i64 0, (Value.slice none 0 0)]) (c := [Value.int .i64 0, (Value.slice none 0 0)]) rfl Tryz.sizeOf46 rfl rfl (ones_cons rfl (ones_cons (Ln.one (S36.row_ln (i := 0) rfl)) ones_nil)) (Nat.le_of_ble_eq_true rfl) rfl rfl
  refine FL.act rfl rfl (E.store rfl rfl run39) ?_
  refine FL.v (E.assign (v := Value.bool false) rfl) ?_
  refine FL.nil ?_
  refine FW.ret ?_
  obtain ⟨H41, S42, i43, ns46, nv45⟩ := S40.sealRowN (i := 0) (l' := [.box b21 46 [Value.int .i64 0, (Value.slice none 0 0)], .row 82 1 (Value.slice none 0 0) 0 []]) rfl els37 (show (bl []).Nodup from List.nodup_nil) (by decide) rfl
  have h44 := ns46.rsl
  obtain rfl := Option.some.inj hp
  exact ⟨.inr rfl, resC2 rfl rfl (loadVar_A Tryz.isAgg46 Tryz.sizeOf46 (S42.box_now (i := 0) rfl) rfl) rfl ⟨_, _, rfl, S42.run, ⟨_, ns46⟩⟩⟩
 ·
  refine FW.condF rfl c35 ?_
  refine FW.skip (FW.seq (FW.region ?_))
  refine FL.v (E.build (B1 rfl) (run_build _ 46 #[(0, Value.int .i64 6)] #[Value.int .i64 6, Value.slice none 0 0] (by rfl))) ?_
  have S51 := S31.nil 82 1
  have els52 : Els (up wa.heap.size H29) (eL eI 1) 1 [] [] := Els.nil
  obtain ⟨b47, w48, run49, S50⟩ := S51.alloc (P := Tryz.prog) 46 [Value.int .i64 0, Value.slice none 0 0] Tryz.zeroValue46 rfl (ones_cons rfl (ones_cons rfl ones_nil))
  refine FL.v (E.alloc run49) ?_
  have S53 := S50.nil 82 1
  have els54 : Els (up wa.heap.size H29) (eL eI 1) 1 [] [] := Els.nil
  obtain ⟨w55, run56, S57⟩ := S53.store0 (P := Tryz.prog) (t := 46) (i := 1) (cs' := [Value.int .i64 6, (Value.slice none 0 0)]) (l' := [.row 82 1 (Value.slice none 0 0) 0 [], .box b47 46 [Value.int .i64 6, (Value.slice none 0 0)], .row 82 1 (Value.slice none 0 0) 0 [], .box b21 46 [Value.int .i64 0, (Value.slice none 0 0)], .row 82 1 (Value.slice none 0 0) 0 []]) (v := Value.agg #[Value.int .i64 6, (Value.slice none 0 0)]) (c := [Value.int .i64 6, (Value.slice none 0 0)]) rfl Tryz.sizeOf46 rfl rfl (ones_cons rfl (ones_cons (Ln.one (S53.row_ln (i := 0) rfl)) ones_nil)) (Nat.le_of_ble_eq_true rfl) rfl rfl
  refine FL.act rfl rfl (E.store rfl rfl run56) ?_
  refine FL.nil (FW.seq (FW.region ?_))
  obtain ⟨b58, o59, w60, run61, S62, hm63⟩ := S57.makeMap (P := Tryz.prog) (K := ByteArray) (V := Int) 104 Value.string (Value.int .i64)
  refine FL.v (E.makeMap run61) ?_
  refine FL.v (E.assign (v := Value.map (some b58)) rfl) ?_
  refine FL.nil (FW.seq (FW.seq (FW.region ?_)))
  refine FL.v (E.assign (v := Value.int .u8 97) rfl) ?_
  refine FL.nil ?_
  obtain ⟨q64, hq, hp⟩ := bndR hp
  refine FW.block ?_
  refine FW.mono (FW.iter (S := ((List (ByteArray × Int)) × Int)) (X := Empty) (fun (s64 : ((List (ByteArray × Int)) × Int)) f w => ∃ H : GH, ∃ o87 : Obj, St Ha wa H w [.raw b58 o87, .row 82 1 (Value.slice none 0 0) 0 [], .box b47 46 [Value.int .i64 6, (Value.slice none 0 0)], .box b21 46 [Value.int .i64 0, (Value.slice none 0 0)], .row 82 1 (Value.slice none 0 0) 0 []] ∧ Inc H29 H ∧ MapOf (K := ByteArray) (V := Int) Value.string (Value.int .i64) o87 s64.1 ∧ f 0 = Value.string a0 ∧ f 2 = Value.pointer (some (⟨b21, 0, none⟩ : Addr)) ∧ f 4 = v33 ∧ f 6 = Value.pointer (some (⟨b47, 0, none⟩ : Addr)) ∧ f 7 = Value.map (some b58) ∧ f 8 = Value.int .u8 s64.2) (fun (q : Rs ((List (ByteArray × Int)) × Int) Empty) e f w => match q with | .go s64 => e = Exit.exit 0 ∧ (∃ H : GH, ∃ o87 : Obj, St Ha wa H w [.raw b58 o87, .row 82 1 (Value.slice none 0 0) 0 [], .box b47 46 [Value.int .i64 6, (Value.slice none 0 0)], .box b21 46 [Value.int .i64 0, (Value.slice none 0 0)], .row 82 1 (Value.slice none 0 0) 0 []] ∧ Inc H29 H ∧ MapOf (K := ByteArray) (V := Int) Value.string (Value.int .i64) o87 s64.1 ∧ f 0 = Value.string a0 ∧ f 2 = Value.pointer (some (⟨b21, 0, none⟩ : Addr)) ∧ f 4 = v33 ∧ f 6 = Value.pointer (some (⟨b47, 0, none⟩ : Addr)) ∧ f 7 = Value.map (some b58)) | .rt x => x.elim) hq ⟨_, _, (S62.sel [0, 1, 2, 4, 5] (by decide) rfl), (Inc.rfl _), hm63, rfl, rfl, rfl, rfl, rfl, rfl⟩ ?_) ?_
  ·
   clear hp hq
   rintro s64 f115 w114 ⟨H111, o87, S112, i113, hm88, k116, k117, k118, k119, k120, k121⟩ o133 hp
   refine FW.seq (FW.seq (FW.region ?_))
   refine FL.v (E.move k121) ?_
   refine FL.call rfl rfl rfl (E.call Tryz.call79 (A1 rfl)) (w_impl_isLetter S112.sl s64.2) ?_
   rintro e w122 ⟨rfl, r123⟩
   refine ⟨_, rfl, ?_⟩
   have S124 := S112.call r123
   refine FL.nil ?_
   rcases ifB hp with ⟨c125, hp⟩ | ⟨c125, hp⟩
   ·
    refine FW.condT rfl c125 ?_
    refine FW.skip (FW.seq (FW.block (FW.region ?_)))
    refine FL.v (E.move k120) ?_
    refine FL.v (E.move k121) ?_
    obtain ⟨z126, h127, hp⟩ := bnd hp
    refine FL.v (E.chr Tryz.runUnderlying5 Tryz.runUnderlying9 rfl h127) ?_
    refine FL.v (E.move k121) ?_
    refine FL.v (E.subK rfl rfl) ?_
    refine FL.v (E.conv Tryz.runUnderlying5 Tryz.runUnderlying3 rfl) ?_
    refine FL.v (E.add rfl rfl) ?_
    obtain ⟨o128, w129, run130, S131, hm132⟩ := S124.mapPut (P := Tryz.prog) (i := 0) rfl hm88 Tryz.runUnderlying104 (KeyNow.str Tryz.runUnderlying9) z126 (wr ((wrk true 64 (wrk false 8 (s64.2 - 97))) + 1))
    have S131 : St Ha wa H111 w129 [.raw b58 o128, .row 82 1 (Value.slice none 0 0) 0 [], .box b47 46 [Value.int .i64 6, (Value.slice none 0 0)], .box b21 46 [Value.int .i64 0, (Value.slice none 0 0)], .row 82 1 (Value.slice none 0 0) 0 []] := S131
    refine FL.act rfl rfl (E.mapUpdate rfl rfl rfl run130) ?_
    refine FL.nil (FW.region ?_)
    refine FL.v (E.move k121) ?_
    refine FL.v (E.addK rfl rfl) ?_
    refine FL.v (E.assign (v := Value.int .u8 (wrk false 8 (s64.2 + 1))) rfl) ?_
    refine FL.nil ?_
    obtain rfl := Option.some.inj hp
    exact ⟨rfl, ⟨_, _, S131, i113, hm132, k116, k117, k118, k119, k120, rfl⟩⟩
   ·
    refine FW.condF rfl c125 ?_
    refine FW.exit ?_
    obtain rfl := Option.some.inj hp
    exact ⟨nofun, rfl, ⟨_, _, S124, i113, hm88, k116, k117, k118, k119, k120⟩⟩
  ·
   clear hq
   intro e f138 w137 hD
   rcases q64 with s64 | x64
   ·
    obtain ⟨rfl, hD⟩ := hD
    obtain ⟨H134, o87, S135, i136, hm88, k139, k140, k141, k142, k143⟩ := hD
    replace hp := el_go hp
    refine FW.seq (FW.seq (FW.region ?_))
    refine FL.v (E.move k141) ?_
    obtain ⟨r144, hr145, hp⟩ := bnd hp
    refine FL.call rfl rfl rfl (E.call Tryz.call80 (A1 rfl)) (w_impl_formula_parts S135.sl v33 r27.1 (h34.mono i136) hr145) ?_
    rintro e w147 ⟨H146, v150, n151, cs152, rfl, r149, els153⟩
    refine ⟨_, rfl, ?_⟩
    have S148 := S135.join (l' := [.row 101 1 v150 n151 cs152, .raw b58 o87, .row 82 1 (Value.slice none 0 0) 0 [], .box b47 46 [Value.int .i64 6, (Value.slice none 0 0)], .box b21 46 [Value.int .i64 0, (Value.slice none 0 0)], .row 82 1 (Value.slice none 0 0) 0 []]) r149 rfl
    refine FL.v (E.lenO te106 rfl S148 (i := 0) rfl els153 (by decide)) ?_
    refine FL.v (E.move (v := Value.int .i64 0) rfl) ?_
    refine FL.nil ?_
    obtain ⟨m154, hchk155, hp⟩ := bnd hp
    obtain ⟨q155, hq, hp⟩ := bndR hp
    refine FW.block ?_
    refine FW.mono (FW.forR (S := ((List (List Int)) × (List (ByteArray × Int)) × Int)) (X := Empty) (fun (i155 : Nat) (s155 : ((List (List Int)) × (List (ByteArray × Int)) × Int)) f w => ∃ H : GH, ∃ v65 : Value, ∃ n66 : Nat, ∃ cs67 : List Value, ∃ o70 : Obj, St Ha wa H w [.row 101 1 v150 n151 cs152, .raw b58 o70, .row 82 1 v65 n66 cs67, .box b47 46 [Value.int .i64 s155.2.2, v65], .box b21 46 [Value.int .i64 0, (Value.slice none 0 0)], .row 82 1 (Value.slice none 0 0) 0 []] ∧ Inc H146 H ∧ Els (up wa.heap.size H) (eL eI 1) 1 cs67 s155.1 ∧ MapOf (K := ByteArray) (V := Int) Value.string (Value.int .i64) o70 s155.2.1 ∧ (bl cs67).Nodup ∧ f 41 = Value.int .i64 ((i155 : Nat) : Int) ∧ f 0 = Value.string a0 ∧ f 2 = Value.pointer (some (⟨b21, 0, none⟩ : Addr)) ∧ f 6 = Value.pointer (some (⟨b47, 0, none⟩ : Addr)) ∧ f 7 = Value.map (some b58) ∧ f 39 = v150 ∧ f 40 = Value.int .i64 (len r144)) (fun (q : Rs ((List (List Int)) × (List (ByteArray × Int)) × Int) Empty) e f w => match q with | .go s155 => e = Exit.exit 2 ∧ (∃ H : GH, ∃ v65 : Value, ∃ n66 : Nat, ∃ cs67 : List Value, ∃ o70 : Obj, St Ha wa H w [.row 101 1 v150 n151 cs152, .raw b58 o70, .row 82 1 v65 n66 cs67, .box b47 46 [Value.int .i64 s155.2.2, v65], .box b21 46 [Value.int .i64 0, (Value.slice none 0 0)], .row 82 1 (Value.slice none 0 0) 0 []] ∧ Inc H146 H ∧ Els (up wa.heap.size H) (eL eI 1) 1 cs67 s155.1 ∧ MapOf (K := ByteArray) (V := Int) Value.string (Value.int .i64) o70 s155.2.1 ∧ (bl cs67).Nodup ∧ f 0 = Value.string a0 ∧ f 2 = Value.pointer (some (⟨b21, 0, none⟩ : Addr)) ∧ f 6 = Value.pointer (some (⟨b47, 0, none⟩ : Addr)) ∧ f 7 = Value.map (some b58)) | .rt x => x.elim) hq ⟨_, _, _, _, _, S148, (Inc.rfl _), (els54.mono (up_mono (i136.tr r149.run.inc))), hm88, (show (bl []).Nodup from List.nodup_nil), rfl, k139, k140, k142, k143, rfl, rfl⟩ ?_ ?_) ?_
    ·
     clear hp hq
     rintro i155 s155 f76 w75 ⟨H72, v65, n66, cs67, o70, S73, i74, els68, hm71, nd69, k77, k78, k79, k80, k81, k83, k84⟩ hi155 hj155 o384 hp
     refine FW.seq (FW.region ?_)
     refine FL.v (E.lssT k77 k84 (lss_chk hj155 hchk155)) ?_
     refine FL.nil (FW.seq ?_)
     refine FW.condT rfl rfl ?_
     refine FW.skip (FW.seq (FW.block (FW.seq (FW.region ?_))))
     obtain ⟨x93, hx94, hp⟩ := bnd hp
     obtain ⟨p85, cs86, pt89, l90, at91, rel92⟩ := S73.row_at (i := 0) rfl els153 (by decide) hx94
     obtain ⟨v95, rfl, h96⟩ := eFo_open rel92
     refine FL.v (E.indexAddr te106 k83 k77 pt89) ?_
     refine FL.v (E.load rfl (run_load0 Tryz.isAgg101 at91 rfl)) ?_
     refine FL.v (E.assign (v := v95) rfl) ?_
     refine FL.nil (FW.seq (FW.seq (FW.region ?_)))
     refine FL.v (E.move (v := v95) rfl) ?_
     obtain ⟨y97, hy98, hp⟩ := bnd hp
     obtain ⟨q99, v101, v102, rfl, at100, h103, h104⟩ := FAt.open h96 hy98
     refine FL.v (E.nilCheck rfl) ?_
     refine FL.v (E.fieldAddr tf109_0 rfl) ?_
     refine FL.v (E.load rfl (run_load1 Tryz.isAgg5 ((at100.mono i74).now S73.sl) rfl)) ?_
     refine FL.call rfl rfl rfl (E.call Tryz.call79 (A1 rfl)) (w_impl_isLetter S73.sl y97.op) ?_
     rintro e w105 ⟨rfl, r107⟩
     refine ⟨_, rfl, ?_⟩
     have S108 := S73.call r107
     refine FL.nil ?_
     rcases ifB hp with ⟨c110, hp⟩ | ⟨c110, hp⟩
     ·
      refine FW.condT rfl c110 ?_
      refine FW.exit ?_
      refine FW.region ?_
      refine FL.v (E.add k77 rfl) ?_
      refine FL.v (E.move (v := Value.int .i64 (wr (((i155 : Nat) : Int) + 1))) rfl) ?_
      refine FL.nil ?_
      obtain rfl := Option.some.inj hp
      exact ⟨rfl, ⟨_, _, _, _, _, S108, i74, els68, hm71, nd69, (nat_succ rfl hj155 (chk_le hchk155)), k78, k79, k80, k81, k83, k84⟩⟩
     ·
      refine FW.condF rfl c110 ?_
      refine FW.skip (FW.seq (FW.region ?_))
      refine FL.v (E.fieldAddr tf46_0 k80) ?_
      refine FL.v (E.load rfl (run_load1 Tryz.isAgg3 (S108.box_now (i := 3) rfl) rfl)) ?_
      refine FL.v (E.add rfl rfl) ?_
      refine FL.v (E.fieldAddr tf46_0 k80) ?_
      obtain ⟨w156, run157, S158⟩ := S108.store (P := Tryz.prog) (t := 3) (i := 3) (j := 0) (cs' := [Value.int .i64 (wr (s155.2.2 + 1)), v65]) (l' := [.row 101 1 v150 n151 cs152, .raw b58 o70, .row 82 1 v65 n66 cs67, .box b47 46 [Value.int .i64 (wr (s155.2.2 + 1)), v65], .box b21 46 [Value.int .i64 0, (Value.slice none 0 0)], .row 82 1 (Value.slice none 0 0) 0 []]) (v := Value.int .i64 (wr (s155.2.2 + 1))) (c := [Value.int .i64 (wr (s155.2.2 + 1))]) rfl Tryz.sizeOf3 rfl rfl (ones_cons rfl ones_nil) (Nat.le_of_ble_eq_true rfl) rfl rfl
      refine FL.act rfl rfl (E.store rfl rfl run157) ?_
      refine FL.nil (FW.seq ?_)
      refine FW.drawB (SX Ha wa H72 [.box b47 46 [Value.int .i64 (wr (s155.2.2 + 1)), v65]]) (fun f w => ∃ H : GH, ∃ o167 : Obj, St Ha wa H w [.row 101 1 v150 n151 cs152, .raw b58 o167, .row 82 1 v65 n66 cs67, .box b47 46 [Value.int .i64 (wr (s155.2.2 + 1)), v65], .box b21 46 [Value.int .i64 0, (Value.slice none 0 0)], .row 82 1 (Value.slice none 0 0) 0 []] ∧ Inc H72 H ∧ MapOf (K := ByteArray) (V := Int) Value.string (Value.int .i64) o167 (mput s155.2.1 y97.text (wr (s155.2.2 + 1))) ∧ f 0 = Value.string a0 ∧ f 2 = Value.pointer (some (⟨b21, 0, none⟩ : Addr)) ∧ f 6 = Value.pointer (some (⟨b47, 0, none⟩ : Addr)) ∧ f 7 = Value.map (some b58) ∧ f 10 = Value.pointer (some q99) ∧ f 39 = v150 ∧ f 40 = Value.int .i64 (len r144) ∧ f 41 = Value.int .i64 ((i155 : Nat) : Int)) (by kernel_rfl) S158.sl ?_ ?_
      ·
       intro w159 r160
       have S161 := S158.call r160
       refine FB.t (i := 0) (bs 8 1) rfl (SP.nil ⟨_, (S161.sel [3] (by decide) rfl), (Inc.rfl _)⟩) rfl (fun w' hw' => (E.move k81)) ?_
       refine FB.t (i := 1) (bs 8 3) rfl (SP.nil ⟨_, (S161.sel [3] (by decide) rfl), (Inc.rfl _)⟩) rfl (fun w' hw' => (E.move (v := Value.pointer (some q99)) rfl)) ?_
       refine FB.t (i := 2) (bs 8 7) rfl (SP.nil ⟨_, (S161.sel [3] (by decide) rfl), (Inc.rfl _)⟩) rfl (fun w' hw' => (E.nilCheck rfl)) ?_
       refine FB.t (i := 3) (bs 8 15) rfl (SP.nil ⟨_, (S161.sel [3] (by decide) rfl), (Inc.rfl _)⟩) rfl (fun w' hw' => (E.fieldAddr tf109_3 rfl)) ?_
       refine FB.t (i := 4) (bs 8 31) rfl (SP.nil ⟨_, (S161.sel [3] (by decide) rfl), (Inc.rfl _)⟩) rfl (fun w' hw' => (E.load rfl (run_load1 Tryz.isAgg9 ((at100.mono i74).now hw'.sl) rfl))) ?_
       refine FB.t (i := 5) (bs 8 63) rfl (SP.nil ⟨_, (S161.sel [3] (by decide) rfl), (Inc.rfl _)⟩) rfl (fun w' hw' => (E.fieldAddr tf46_0 k80)) ?_
       refine FB.t (i := 6) (bs 8 127) rfl (SP.nil ⟨_, (S161.sel [3] (by decide) rfl), (Inc.rfl _)⟩) rfl (fun w' hw' => (E.load rfl (run_load1 Tryz.isAgg3 (SX.box_now hw' (i := 0) rfl) rfl))) ?_
       refine FB.all1 (i := 7) (by kernel_rfl) ?_
       ·
        obtain ⟨o162, w163, run164, S165, hm166⟩ := S161.mapPut (P := Tryz.prog) (i := 1) rfl hm71 Tryz.runUnderlying104 (KeyNow.str Tryz.runUnderlying9) y97.text (wr (s155.2.2 + 1))
        have S165 : St Ha wa H72 w163 [.row 101 1 v150 n151 cs152, .raw b58 o162, .row 82 1 v65 n66 cs67, .box b47 46 [Value.int .i64 (wr (s155.2.2 + 1)), v65], .box b21 46 [Value.int .i64 0, (Value.slice none 0 0)], .row 82 1 (Value.slice none 0 0) 0 []] := S165
        refine FC.act (l' := (bs 8 255)) rfl (by kernel_rfl) rfl rfl (E.mapUpdate rfl rfl rfl run164) ?_
        refine ⟨(SP.nil ⟨_, (S165.sel [3] (by decide) rfl), (Inc.rfl _)⟩), ?_⟩
        exact FB.done (by kernel_rfl) ⟨_, _, S165, (Inc.rfl _), hm166, k78, k79, k80, k81, rfl, k83, k84, k77⟩
      ·
       rintro f173 w172 ⟨H169, o167, S170, i171, hm168, k174, k175, k176, k177, k178, k179, k180, k181⟩
       refine FW.seq (FW.region ?_)
       refine FL.v (E.assign (v := Value.int .i64 0) rfl) ?_
       refine FL.v (E.assign (v := Value.int .i64 0) rfl) ?_
       refine FL.nil (FW.seq (FW.seq (FW.region ?_)))
       refine FL.v (E.move k178) ?_
       refine FL.v (E.nilCheck rfl) ?_
       refine FL.v (E.fieldAddr tf109_1 rfl) ?_
       refine FL.v (E.load rfl (run_load1 Tryz.isAgg101 ((at100.mono (i74.tr i171)).now S170.sl) rfl)) ?_
       refine FL.v (E.neqN Tryz.runUnderlying101 (h103.mono (i74.tr i171)).isNil rfl rfl) ?_
       refine FL.nil ?_
       obtain ⟨q183, hq, hp⟩ := bndR hp
       refine FW.joinE (S := (Fo × Int)) (X := Empty) (q := q183) (fun s182 f w => ∃ H : GH, ∃ v185 : Value, St Ha wa H w [.row 101 1 v150 n151 cs152, .raw b58 o167, .row 82 1 v65 n66 cs67, .box b47 46 [Value.int .i64 (wr (s155.2.2 + 1)), v65], .box b21 46 [Value.int .i64 0, (Value.slice none 0 0)], .row 82 1 (Value.slice none 0 0) 0 []] ∧ Inc H169 H ∧ FAt H v185 s182.1 ∧ f 0 = Value.string a0 ∧ f 2 = Value.pointer (some (⟨b21, 0, none⟩ : Addr)) ∧ f 6 = Value.pointer (some (⟨b47, 0, none⟩ : Addr)) ∧ f 7 = Value.map (some b58) ∧ f 10 = v185 ∧ f 11 = Value.int .i64 s182.2 ∧ f 12 = Value.int .i64 0 ∧ f 39 = v150 ∧ f 40 = Value.int .i64 (len r144) ∧ f 41 = Value.int .i64 ((i155 : Nat) : Int)) (fun (_ : Empty) _ _ _ => False) ?_ ?_ ?_
       ·
        clear hp; have hp := hq; clear hq
        rcases ifB hp with ⟨c187, hp⟩ | ⟨c187, hp⟩
        ·
         refine FW.condT rfl c187 ?_
         refine FW.region ?_
         refine FL.v (E.move k177) ?_
         refine FL.v (E.move k178) ?_
         refine FL.v (E.nilCheck rfl) ?_
         refine FL.v (E.fieldAddr tf109_1 rfl) ?_
         refine FL.v (E.load rfl (run_load1 Tryz.isAgg101 ((at100.mono (i74.tr i171)).now S170.sl) rfl)) ?_
         obtain ⟨y188, hy189, hp⟩ := bnd hp
         obtain ⟨q190, v192, v193, rfl, at191, h194, h195⟩ := FAt.open h103 hy189
         refine FL.v (E.nilCheck rfl) ?_
         refine FL.v (E.fieldAddr tf109_3 rfl) ?_
         refine FL.v (E.load rfl (run_load1 Tryz.isAgg9 ((at191.mono (i74.tr i171)).now S170.sl) rfl)) ?_
         refine FL.v (E.lookup rfl rfl (S170.mapGet (P := Tryz.prog) (i := 1) rfl hm168 Tryz.runUnderlying104 (KeyNow.str Tryz.runUnderlying9) (z := 0) Tryz.zeroValue3 y188.text)) ?_
         refine FL.v (E.assign (v := Value.int .i64 ((mget (mput s155.2.1 y97.text (wr (s155.2.2 + 1))) y188.text).getD 0)) rfl) ?_
         refine FL.nil ?_
         obtain rfl := Option.some.inj hp
         exact ⟨rfl, ⟨_, _, S170, (Inc.rfl _), (h96.mono (i74.tr i171)), k174, k175, k176, k177, k178, rfl, rfl, k179, k180, k181⟩⟩
        ·
         refine FW.condF rfl c187 ?_
         refine FW.skip ?_
         obtain rfl := Option.some.inj hp
         exact ⟨rfl, ⟨_, _, S170, (Inc.rfl _), (h96.mono (i74.tr i171)), k174, k175, k176, k177, k178, rfl, rfl, k179, k180, k181⟩⟩
       ·
        rintro s182 rfl f200 w199 ⟨H196, v185, S197, i198, h186, k201, k202, k203, k204, k205, k206, k207, k208, k209, k210⟩
        replace hp := el_go hp
        refine FW.seq (FW.seq (FW.region ?_))
        refine FL.v (E.move k205) ?_
        obtain ⟨y211, hy212, hp⟩ := bnd hp
        obtain ⟨q213, v215, v216, rfl, at214, h217, h218⟩ := FAt.open h186 hy212
        refine FL.v (E.nilCheck rfl) ?_
        refine FL.v (E.fieldAddr tf109_2 rfl) ?_
        refine FL.v (E.load rfl (run_load1 Tryz.isAgg101 (at214.now S197.sl) rfl)) ?_
        refine FL.v (E.neqN Tryz.runUnderlying101 h218.isNil rfl rfl) ?_
        refine FL.nil ?_
        obtain ⟨q220, hq, hp⟩ := bndR hp
        refine FW.joinE (S := (Fo × Int)) (X := Empty) (q := q220) (fun s219 f w => ∃ H : GH, ∃ v222 : Value, St Ha wa H w [.row 101 1 v150 n151 cs152, .raw b58 o167, .row 82 1 v65 n66 cs67, .box b47 46 [Value.int .i64 (wr (s155.2.2 + 1)), v65], .box b21 46 [Value.int .i64 0, (Value.slice none 0 0)], .row 82 1 (Value.slice none 0 0) 0 []] ∧ Inc H196 H ∧ FAt H v222 s219.1 ∧ f 0 = Value.string a0 ∧ f 2 = Value.pointer (some (⟨b21, 0, none⟩ : Addr)) ∧ f 6 = Value.pointer (some (⟨b47, 0, none⟩ : Addr)) ∧ f 7 = Value.map (some b58) ∧ f 10 = v222 ∧ f 11 = Value.int .i64 s182.2 ∧ f 12 = Value.int .i64 s219.2 ∧ f 39 = v150 ∧ f 40 = Value.int .i64 (len r144) ∧ f 41 = Value.int .i64 ((i155 : Nat) : Int)) (fun (_ : Empty) _ _ _ => False) ?_ ?_ ?_
        ·
         clear hp; have hp := hq; clear hq
         rcases ifB hp with ⟨c224, hp⟩ | ⟨c224, hp⟩
         ·
          refine FW.condT rfl c224 ?_
          refine FW.region ?_
          refine FL.v (E.move k204) ?_
          refine FL.v (E.move k205) ?_
          refine FL.v (E.nilCheck rfl) ?_
          refine FL.v (E.fieldAddr tf109_2 rfl) ?_
          refine FL.v (E.load rfl (run_load1 Tryz.isAgg101 (at214.now S197.sl) rfl)) ?_
          obtain ⟨y225, hy226, hp⟩ := bnd hp
          obtain ⟨q227, v229, v230, rfl, at228, h231, h232⟩ := FAt.open h218 hy226
          refine FL.v (E.nilCheck rfl) ?_
          refine FL.v (E.fieldAddr tf109_3 rfl) ?_
          refine FL.v (E.load rfl (run_load1 Tryz.isAgg9 (at228.now S197.sl) rfl)) ?_
          refine FL.v (E.lookup rfl rfl (S197.mapGet (P := Tryz.prog) (i := 1) rfl hm168 Tryz.runUnderlying104 (KeyNow.str Tryz.runUnderlying9) (z := 0) Tryz.zeroValue3 y225.text)) ?_
          refine FL.v (E.assign (v := Value.int .i64 ((mget (mput s155.2.1 y97.text (wr (s155.2.2 + 1))) y225.text).getD 0)) rfl) ?_
          refine FL.nil ?_
          obtain rfl := Option.some.inj hp
          exact ⟨rfl, ⟨_, _, S197, (Inc.rfl _), h186, k201, k202, k203, k204, k205, k206, rfl, k208, k209, k210⟩⟩
         ·
          refine FW.condF rfl c224 ?_
          refine FW.skip ?_
          obtain rfl := Option.some.inj hp
          exact ⟨rfl, ⟨_, _, S197, (Inc.rfl _), h186, k201, k202, k203, k204, k205, k206, k207, k208, k209, k210⟩⟩
        ·
         rintro s219 rfl f237 w236 ⟨H233, v222, S234, i235, h223, k238, k239, k240, k241, k242, k243, k244, k245, k246, k247⟩
         replace hp := el_go hp
         refine FW.seq ?_
         obtain ⟨y251, hy252, hp⟩ := bnd hp
         refine FW.drawB (SX Ha wa H233 [.box b47 46 [Value.int .i64 (wr (s155.2.2 + 1)), v65]]) (fun f w => ∃ H : GH, ∃ v268 : Value, ∃ n269 : Nat, ∃ cs270 : List Value, St Ha wa H w [.row 101 1 v150 n151 cs152, .raw b58 o167, .row 82 1 v65 n66 cs67, .box b47 46 [Value.int .i64 (wr (s155.2.2 + 1)), v65], .box b21 46 [Value.int .i64 0, (Value.slice none 0 0)], .row 82 1 (Value.slice none 0 0) 0 [], .row 82 1 v268 n269 cs270] ∧ Inc H233 H ∧ Els (up wa.heap.size H) (eL eI 1) 1 cs270 (PF.impl_defined y251.op (wr (s155.2.2 + 1)) s182.2 s219.2) ∧ f 0 = Value.string a0 ∧ f 2 = Value.pointer (some (⟨b21, 0, none⟩ : Addr)) ∧ f 6 = Value.pointer (some (⟨b47, 0, none⟩ : Addr)) ∧ f 7 = Value.map (some b58) ∧ f 39 = v150 ∧ f 40 = Value.int .i64 (len r144) ∧ f 41 = Value.int .i64 ((i155 : Nat) : Int) ∧ f 97 = v268 ∧ f 98 = Value.int .i64 (len (PF.impl_defined y251.op (wr (s155.2.2 + 1)) s182.2 s219.2)) ∧ f 99 = Value.int .i64 0) (by kernel_rfl) S234.sl ?_ ?_
         ·
          intro w248 r249
          have S250 := S234.call r249
          refine FB.t (i := 0) (bs 11 1) rfl (SP.nil ⟨_, (S250.sel [3] (by decide) rfl), (Inc.rfl _)⟩) rfl (fun w' hw' => (E.move k242)) ?_
          obtain ⟨q253, v255, v256, rfl, at254, h257, h258⟩ := FAt.open h223 hy252
          refine FB.t (i := 1) (bs 11 3) rfl (SP.nil ⟨_, (S250.sel [3] (by decide) rfl), (Inc.rfl _)⟩) rfl (fun w' hw' => (E.nilCheck rfl)) ?_
          refine FB.t (i := 2) (bs 11 7) rfl (SP.nil ⟨_, (S250.sel [3] (by decide) rfl), (Inc.rfl _)⟩) rfl (fun w' hw' => (E.fieldAddr tf109_0 rfl)) ?_
          refine FB.t (i := 3) (bs 11 15) rfl (SP.nil ⟨_, (S250.sel [3] (by decide) rfl), (Inc.rfl _)⟩) rfl (fun w' hw' => (E.load rfl (run_load1 Tryz.isAgg5 (at254.now hw'.sl) rfl))) ?_
          refine FB.t (i := 4) (bs 11 31) rfl (SP.nil ⟨_, (S250.sel [3] (by decide) rfl), (Inc.rfl _)⟩) rfl (fun w' hw' => (E.fieldAddr tf46_0 k240)) ?_
          refine FB.t (i := 5) (bs 11 63) rfl (SP.nil ⟨_, (S250.sel [3] (by decide) rfl), (Inc.rfl _)⟩) rfl (fun w' hw' => (E.load rfl (run_load1 Tryz.isAgg3 (SX.box_now hw' (i := 0) rfl) rfl))) ?_
          refine FB.t (i := 6) (bs 11 127) rfl (SP.nil ⟨_, (S250.sel [3] (by decide) rfl), (Inc.rfl _)⟩) rfl (fun w' hw' => (E.move k243)) ?_
          refine FB.t (i := 7) (bs 11 255) rfl (SP.nil ⟨_, (S250.sel [3] (by decide) rfl), (Inc.rfl _)⟩) rfl (fun w' hw' => (E.move k244)) ?_
          refine FB.t (i := 10) (bs 11 1279) rfl (SP.nil ⟨_, (S250.sel [3] (by decide) rfl), (Inc.rfl _)⟩) rfl (fun w' hw' => (E.move (v := Value.int .i64 0) rfl)) ?_
          refine FB.all1 (i := 8) (by kernel_rfl) ?_
          ·
           refine FC.call (l' := (bs 11 1535)) rfl (by kernel_rfl) rfl rfl rfl (E.call Tryz.call81 (A4 rfl rfl rfl rfl)) (w_impl_defined S250.sl y251.op (wr (s155.2.2 + 1)) s182.2 s219.2) ?_
           rintro e w260 ⟨H259, v263, n264, cs265, rfl, r262, els266⟩
           refine ⟨_, rfl, ?_⟩
           have nv267 : New H233 cs265 := New.of_up S250.sl els266.dom
           have els266 := els266.mono (up_le S250.size)
           have S261 := S250.join (l' := [.row 82 1 v263 n264 cs265, .row 101 1 v150 n151 cs152, .raw b58 o167, .row 82 1 v65 n66 cs67, .box b47 46 [Value.int .i64 (wr (s155.2.2 + 1)), v65], .box b21 46 [Value.int .i64 0, (Value.slice none 0 0)], .row 82 1 (Value.slice none 0 0) 0 []]) r262 rfl
           refine ⟨(SP.nil ⟨_, (S261.sel [4] (by decide) rfl), r262.run.inc⟩), ?_⟩
           refine FB.t (i := 9) (bs 11 2047) rfl (SP.nil ⟨_, (S261.sel [4] (by decide) rfl), r262.run.inc⟩) rfl (fun w' hw' => (E.lenOW te44 rfl S261 (i := 0) rfl els266 (by decide))) ?_
           exact FB.done (by kernel_rfl) ⟨_, _, _, _, (S261.sel [1, 2, 3, 4, 5, 6, 0] (by decide) rfl), r262.run.inc, els266, k238, k239, k240, k241, k245, k246, k247, rfl, rfl, rfl⟩
         ·
          rintro f276 w275 ⟨H272, v268, n269, cs270, S273, i274, els271, k277, k278, k279, k280, k281, k282, k283, k284, k285, k286⟩
          obtain ⟨m287, hchk288, hp⟩ := bnd hp
          obtain ⟨q288, hq, hp⟩ := bndR hp
          refine FW.block ?_
          refine FW.mono (FW.forR (S := (List (List Int))) (X := Empty) (fun (i288 : Nat) (s288 : (List (List Int))) f w => ∃ H : GH, ∃ v289 : Value, ∃ n290 : Nat, ∃ cs291 : List Value, St Ha wa H w [.row 101 1 v150 n151 cs152, .raw b58 o167, .row 82 1 v289 n290 cs291, .box b47 46 [Value.int .i64 (wr (s155.2.2 + 1)), v289], .box b21 46 [Value.int .i64 0, (Value.slice none 0 0)], .row 82 1 (Value.slice none 0 0) 0 [], .row 82 1 v268 n269 cs270] ∧ Inc H272 H ∧ Els (up wa.heap.size H) (eL eI 1) 1 cs291 s288 ∧ (bl cs291).Nodup ∧ f 99 = Value.int .i64 ((i288 : Nat) : Int) ∧ f 0 = Value.string a0 ∧ f 2 = Value.pointer (some (⟨b21, 0, none⟩ : Addr)) ∧ f 6 = Value.pointer (some (⟨b47, 0, none⟩ : Addr)) ∧ f 7 = Value.map (some b58) ∧ f 39 = v150 ∧ f 40 = Value.int .i64 (len r144) ∧ f 41 = Value.int .i64 ((i155 : Nat) : Int) ∧ f 97 = v268 ∧ f 98 = Value.int .i64 (len (PF.impl_defined y251.op (wr (s155.2.2 + 1)) s182.2 s219.2))) (fun (q : Rs (List (List Int)) Empty) e f w => match q with | .go s288 => e = Exit.exit 4 ∧ (∃ H : GH, ∃ v289 : Value, ∃ n290 : Nat, ∃ cs291 : List Value, St Ha wa H w [.row 101 1 v150 n151 cs152, .raw b58 o167, .row 82 1 v289 n290 cs291, .box b47 46 [Value.int .i64 (wr (s155.2.2 + 1)), v289], .box b21 46 [Value.int .i64 0, (Value.slice none 0 0)], .row 82 1 (Value.slice none 0 0) 0 [], .row 82 1 v268 n269 cs270] ∧ Inc H272 H ∧ Els (up wa.heap.size H) (eL eI 1) 1 cs291 s288 ∧ (bl cs291).Nodup ∧ f 0 = Value.string a0 ∧ f 2 = Value.pointer (some (⟨b21, 0, none⟩ : Addr)) ∧ f 6 = Value.pointer (some (⟨b47, 0, none⟩ : Addr)) ∧ f 7 = Value.map (some b58) ∧ f 39 = v150 ∧ f 40 = Value.int .i64 (len r144) ∧ f 41 = Value.int .i64 ((i155 : Nat) : Int)) | .rt x => x.elim) hq ⟨_, _, _, _, S273, (Inc.rfl _), (els68.mono (up_mono (((i171.tr i198).tr i235).tr i274))), nd69, k286, k277, k278, k279, k280, k281, k282, k283, k284, k285⟩ ?_ ?_) ?_
          ·
           clear hp hq
           rintro i288 s288 f298 w297 ⟨H294, v289, n290, cs291, S295, i296, els292, nd293, k299, k300, k301, k302, k303, k304, k305, k306, k307, k308⟩ hi288 hj288 o356 hp
           refine FW.seq (FW.region ?_)
           refine FL.v (E.lssT k299 k308 (lss_chk hj288 hchk288)) ?_
           refine FL.nil (FW.seq ?_)
           refine FW.condT rfl rfl ?_
           refine FW.skip (FW.seq (FW.block (FW.seq (FW.region ?_))))
           obtain ⟨x315, hx316, hp⟩ := bnd hp
           obtain ⟨p309, cs310, pt311, l312, at313, rel314⟩ := S295.row_at (i := 6) rfl els271 (by decide) hx316
           obtain ⟨v317, rfl, h318⟩ := eL_open rel314
           refine FL.v (E.indexAddr te44 k307 k299 pt311) ?_
           refine FL.v (E.load rfl (run_load0 Tryz.isAgg82 at313 rfl)) ?_
           refine FL.v (E.assign (v := v317) rfl) ?_
           refine FL.nil (FW.seq (FW.region ?_))
           refine FL.v (E.move (v := v317) rfl) ?_
           obtain ⟨r319, hr320, hp⟩ := bnd hp
           refine FL.call rfl rfl rfl (E.call Tryz.call82 (A1 rfl)) (w_impl_clause S295.sl v317 x315 (h318.mono (upI.tr i296)) hr320) ?_
           rintro e w322 ⟨H321, v325, n326, cs327, rfl, r324, els328⟩
           refine ⟨_, rfl, ?_⟩
           have els328 := els328.mono (up_le S295.size)
           have S323 := S295.join (l' := [.row 3 1 v325 n326 cs327, .row 101 1 v150 n151 cs152, .raw b58 o167, .row 82 1 v289 n290 cs291, .box b47 46 [Value.int .i64 (wr (s155.2.2 + 1)), v289], .box b21 46 [Value.int .i64 0, (Value.slice none 0 0)], .row 82 1 (Value.slice none 0 0) 0 [], .row 82 1 v268 n269 cs270]) r324 rfl
           refine FL.v (E.move (v := Value.tuple #[v325, Value.bool r319.2]) rfl) ?_
           refine FL.v (E.extract (i := 0) rfl rfl) ?_
           refine FL.v (E.extract (i := 1) rfl rfl) ?_
           refine FL.v (E.assign (v := v325) rfl) ?_
           refine FL.v (E.assign (v := Value.bool r319.2) rfl) ?_
           refine FL.nil (FW.seq (FW.region ?_))
           refine FL.v (E.move (v := Value.bool r319.2) rfl) ?_
           refine FL.nil ?_
           rcases ifB hp with ⟨c329, hp⟩ | ⟨c329, hp⟩
           ·
            refine FW.condT rfl c329 ?_
            refine FW.region ?_
            refine FL.v (E.fieldAddr tf46_1 k302) ?_
            refine FL.v (E.load rfl (run_load1 Tryz.isAgg44 (S323.box_now (i := 4) rfl) rfl)) ?_
            refine FL.v (E.move (v := v325) rfl) ?_
            obtain ⟨H330, S331, i332, h333, nv334⟩ := S323.sealRowU (i := 0) (l' := [.row 101 1 v150 n151 cs152, .raw b58 o167, .row 82 1 v289 n290 cs291, .box b47 46 [Value.int .i64 (wr (s155.2.2 + 1)), v289], .box b21 46 [Value.int .i64 0, (Value.slice none 0 0)], .row 82 1 (Value.slice none 0 0) 0 [], .row 82 1 v268 n269 cs270]) rfl els328 (by decide) rfl
            obtain ⟨v335, w336, run337, S338⟩ := S331.buildSlice (P := Tryz.prog) te44 [v325] (parts := #[(0, v325)]) (cells := [v325]) rfl (szs_cons (cells_size h333.cells) szs_nil) (fc_cons h333.cells fc_nil) (ones_cons h333.one ones_nil) (Nat.le_of_ble_eq_true rfl)
            have els339 : Els (up wa.heap.size H330) (eL eI 1) 1 [v325] [r319.1] := (Els.snoc (H := (up wa.heap.size H330)) (E := (eL eI 1)) (k := 1) (c := [v325]) (x := r319.1) Els.nil rfl ⟨_, rfl, h333⟩)
            have nd340 : (bl [v325]).Nodup := by exact nd_one v325
            refine FL.v (E.buildSlice (B1 rfl) run337) ?_
            obtain ⟨xs341, hz342, hp⟩ := bnd hp
            obtain ⟨v343, w346, n344, cs345, run347, S348, els349, ce350⟩ := S338.appendO (P := Tryz.prog) te44 (i := 3) (j := 0) rfl (els292.mono (up_mono (r324.run.inc.tr i332))) rfl els339 hz342
            have S348 : St Ha wa H330 w346 [.row 82 1 v335 1 [v325], .row 101 1 v150 n151 cs152, .raw b58 o167, .row 82 1 v343 n344 cs345, .box b47 46 [Value.int .i64 (wr (s155.2.2 + 1)), v289], .box b21 46 [Value.int .i64 0, (Value.slice none 0 0)], .row 82 1 (Value.slice none 0 0) 0 [], .row 82 1 v268 n269 cs270] := S348
            have nd351 : (bl cs345).Nodup := by rw [ce350]; exact nd_app nd293 nd340 (Els.dom (els292.mono (upI.tr r324.run.inc))) (by exact nv334)
            have S352 : St Ha wa H330 w346 [.row 101 1 v150 n151 cs152, .raw b58 o167, .row 82 1 v343 n344 cs345, .box b47 46 [Value.int .i64 (wr (s155.2.2 + 1)), v289], .box b21 46 [Value.int .i64 0, (Value.slice none 0 0)], .row 82 1 (Value.slice none 0 0) 0 [], .row 82 1 v268 n269 cs270] := S348.drop 0
            refine FL.v (E.append rfl rfl run347) ?_
            refine FL.v (E.fieldAddr tf46_1 k302) ?_
            obtain ⟨w353, run354, S355⟩ := S352.store (P := Tryz.prog) (t := 44) (i := 3) (j := 1) (cs' := [Value.int .i64 (wr (s155.2.2 + 1)), v343]) (l' := [.row 101 1 v150 n151 cs152, .raw b58 o167, .row 82 1 v343 n344 cs345, .box b47 46 [Value.int .i64 (wr (s155.2.2 + 1)), v343], .box b21 46 [Value.int .i64 0, (Value.slice none 0 0)], .row 82 1 (Value.slice none 0 0) 0 [], .row 82 1 v268 n269 cs270]) (v := v343) (c := [v343]) rfl Tryz.sizeOf44 (Ln.cells (S352.row_ln (i := 2) rfl)) rfl (ones_cons (Ln.one (S352.row_ln (i := 2) rfl)) ones_nil) (Nat.le_of_ble_eq_true rfl) rfl rfl
            refine FL.act rfl rfl (E.store rfl rfl run354) ?_
            refine FL.nil (FW.region ?_)
            refine FL.v (E.add k299 rfl) ?_
            refine FL.v (E.move (v := Value.int .i64 (wr (((i288 : Nat) : Int) + 1))) rfl) ?_
            refine FL.nil ?_
            obtain rfl := Option.some.inj hp
            exact ⟨rfl, ⟨_, _, _, _, S355, ((i296.tr r324.run.inc).tr i332), els349, nd351, (nat_succ rfl hj288 (chk_le hchk288)), k300, k301, k302, k303, k304, k305, k306, k307, k308⟩⟩
           ·
            refine FW.condF rfl c329 ?_
            refine FW.skip (FW.region ?_)
            refine FL.v (E.add k299 rfl) ?_
            refine FL.v (E.move (v := Value.int .i64 (wr (((i288 : Nat) : Int) + 1))) rfl) ?_
            refine FL.nil ?_
            obtain rfl := Option.some.inj hp
            exact ⟨rfl, ⟨_, _, _, _, (S323.sel [1, 2, 3, 4, 5, 6, 7] (by decide) rfl), (i296.tr r324.run.inc), (els292.mono (up_mono r324.run.inc)), nd293, (nat_succ rfl hj288 (chk_le hchk288)), k300, k301, k302, k303, k304, k305, k306, k307, k308⟩⟩
          ·
           clear hp hq
           rintro s288 f373 w372 ⟨H369, v289, n290, cs291, S370, i371, els292, nd293, k374, k375, k376, k377, k378, k379, k380, k381, k382, k383⟩
           refine FW.seq (FW.region ?_)
           refine FL.v (E.lss k374 k383) ?_
           refine FL.nil (FW.seq ?_)
           refine FW.condF rfl (dlt_maxchk hchk288) ?_
           refine FW.exit ?_
           exact ⟨nofun, rfl, ⟨_, _, _, _, S370, i371, els292, nd293, k375, k376, k377, k378, k379, k380, k381⟩⟩
          ·
           clear hq
           intro e f361 w360 hD
           rcases q288 with s288 | x288
           ·
            obtain ⟨rfl, hD⟩ := hD
            obtain ⟨H357, v289, n290, cs291, S358, i359, els292, nd293, k362, k363, k364, k365, k366, k367, k368⟩ := hD
            replace hp := el_go hp
            refine FW.region ?_
            refine FL.v (E.add k368 rfl) ?_
            refine FL.v (E.move (v := Value.int .i64 (wr (((i155 : Nat) : Int) + 1))) rfl) ?_
            refine FL.nil ?_
            obtain rfl := Option.some.inj hp
            exact ⟨rfl, ⟨_, _, _, _, _, (S358.sel [0, 1, 2, 3, 4, 5] (by decide) rfl), (((((i74.tr i171).tr i198).tr i235).tr i274).tr i359), els292, hm168, nd293, (nat_succ rfl hj155 (chk_le hchk155)), k362, k363, k364, k365, k366, k367⟩⟩
           ·
            exact x288.elim
        ·
         intro x221; exact x221.elim
       ·
        intro x184; exact x184.elim
    ·
     clear hp hq
     rintro s155 f450 w449 ⟨H446, v65, n66, cs67, o70, S447, i448, els68, hm71, nd69, k451, k452, k453, k454, k455, k456, k457⟩
     refine FW.seq (FW.region ?_)
     refine FL.v (E.lss k451 k457) ?_
     refine FL.nil (FW.seq ?_)
     refine FW.condF rfl (dlt_maxchk hchk155) ?_
     refine FW.exit ?_
     exact ⟨nofun, rfl, ⟨_, _, _, _, _, S447, i448, els68, hm71, nd69, k452, k453, k454, k455⟩⟩
    ·
     clear hq
     intro e f389 w388 hD
     rcases q155 with s155 | x155
     ·
      obtain ⟨rfl, hD⟩ := hD
      obtain ⟨H385, v65, n66, cs67, o70, S386, i387, els68, hm71, nd69, k390, k391, k392, k393⟩ := hD
      replace hp := el_go hp
      refine FW.seq (FW.seq (FW.region ?_))
      refine FL.v (E.fieldAddr tf46_0 k392) ?_
      refine FL.v (E.load rfl (run_load1 Tryz.isAgg3 (S386.box_now (i := 3) rfl) rfl)) ?_
      refine FL.v (E.gtr rfl rfl) ?_
      refine FL.nil ?_
      rcases ifB hp with ⟨c394, hp⟩ | ⟨c394, hp⟩
      ·
       refine FW.condT rfl c394 ?_
       refine FW.seq (FW.region ?_)
       refine FL.v (E.build (B0) (run_build _ 46 #[] #[Value.int .i64 0, Value.slice none 0 0] (by rfl))) ?_
       have S395 := S386.nil 82 1
       have els396 : Els (up wa.heap.size H385) (eL eI 1) 1 [] [] := Els.nil
       obtain ⟨w397, run398, S399⟩ := S395.store0 (P := Tryz.prog) (t := 46) (i := 5) (cs' := [Value.int .i64 0, (Value.slice none 0 0)]) (l' := [.row 82 1 (Value.slice none 0 0) 0 [], .row 101 1 v150 n151 cs152, .raw b58 o70, .row 82 1 v65 n66 cs67, .box b47 46 [Value.int .i64 s155.2.2, v65], .box b21 46 [Value.int .i64 0, (Value.slice none 0 0)], .row 82 1 (Value.slice none 0 0) 0 []]) (v := Value.agg #[Value.int .i64 0, (Value.slice none 0 0)]) (c := [Value.int .i64 0, (Value.slice none 0 0)]) rfl Tryz.sizeOf46 rfl rfl (ones_cons rfl (ones_cons (Ln.one (S395.row_ln (i := 0) rfl)) ones_nil)) (Nat.le_of_ble_eq_true rfl) rfl rfl
       refine FL.act rfl rfl (E.store k391 rfl run398) ?_
       refine FL.v (E.assign (v := Value.bool false) rfl) ?_
       refine FL.nil ?_
       refine FW.ret ?_
       obtain ⟨H400, S401, i402, ns405, nv404⟩ := S399.sealRowN (i := 0) (l' := [.row 101 1 v150 n151 cs152, .raw b58 o70, .row 82 1 v65 n66 cs67, .box b47 46 [Value.int .i64 s155.2.2, v65], .box b21 46 [Value.int .i64 0, (Value.slice none 0 0)], .row 82 1 (Value.slice none 0 0) 0 []]) rfl els396 (show (bl []).Nodup from List.nodup_nil) (by decide) rfl
       have h403 := ns405.rsl
       obtain rfl := Option.some.inj hp
       exact ⟨.inr rfl, resC2 rfl k391 (loadVar_A Tryz.isAgg46 Tryz.sizeOf46 (S401.box_now (i := 4) rfl) rfl) rfl ⟨_, _, rfl, S401.run, ⟨_, ns405⟩⟩⟩
      ·
       refine FW.condF rfl c394 ?_
       refine FW.skip (FW.seq (FW.region ?_))
       refine FL.v (E.fieldAddr tf46_1 k392) ?_
       refine FL.v (E.load rfl (run_load1 Tryz.isAgg44 (S386.box_now (i := 3) rfl) rfl)) ?_
       refine FL.v (E.move k393) ?_
       refine FL.v (E.move k390) ?_
       refine FL.v (E.lookup rfl rfl (S386.mapGet (P := Tryz.prog) (i := 1) rfl hm71 Tryz.runUnderlying104 (KeyNow.str Tryz.runUnderlying9) (z := 0) Tryz.zeroValue3 a0)) ?_
       obtain ⟨v406, w407, run408, S409, els410⟩ := S386.ints (P := Tryz.prog) te82 (up wa.heap.size H385) 1 [((mget s155.2.1 a0).getD 0)]
       refine FL.v (E.buildSlice (B1 rfl) run408) ?_
       obtain ⟨H411, S412, i413, h414, nv415⟩ := S409.sealRowU (i := 0) (l' := [.row 101 1 v150 n151 cs152, .raw b58 o70, .row 82 1 v65 n66 cs67, .box b47 46 [Value.int .i64 s155.2.2, v65], .box b21 46 [Value.int .i64 0, (Value.slice none 0 0)], .row 82 1 (Value.slice none 0 0) 0 []]) rfl els410 (by decide) rfl
       obtain ⟨v416, w417, run418, S419⟩ := S412.buildSlice (P := Tryz.prog) te44 [v406] (parts := #[(0, v406)]) (cells := [v406]) rfl (szs_cons (cells_size h414.cells) szs_nil) (fc_cons h414.cells fc_nil) (ones_cons h414.one ones_nil) (Nat.le_of_ble_eq_true rfl)
       have els420 : Els (up wa.heap.size H411) (eL eI 1) 1 [v406] [[((mget s155.2.1 a0).getD 0)]] := (Els.snoc (H := (up wa.heap.size H411)) (E := (eL eI 1)) (k := 1) (c := [v406]) (x := [((mget s155.2.1 a0).getD 0)]) Els.nil rfl ⟨_, rfl, h414⟩)
       have nd421 : (bl [v406]).Nodup := by exact nd_one v406
       refine FL.v (E.buildSlice (B1 rfl) run418) ?_
       obtain ⟨xs422, hz423, hp⟩ := bnd hp
       obtain ⟨v424, w427, n425, cs426, run428, S429, els430, ce431⟩ := S419.appendO (P := Tryz.prog) te44 (i := 3) (j := 0) rfl (els68.mono (up_mono i413)) rfl els420 hz423
       have S429 : St Ha wa H411 w427 [.row 82 1 v416 1 [v406], .row 101 1 v150 n151 cs152, .raw b58 o70, .row 82 1 v424 n425 cs426, .box b47 46 [Value.int .i64 s155.2.2, v65], .box b21 46 [Value.int .i64 0, (Value.slice none 0 0)], .row 82 1 (Value.slice none 0 0) 0 []] := S429
       have nd432 : (bl cs426).Nodup := by rw [ce431]; exact nd_app nd69 nd421 (Els.dom (els68.mono (upI.tr (Inc.rfl _)))) (by exact nv415)
       have S433 : St Ha wa H411 w427 [.row 101 1 v150 n151 cs152, .raw b58 o70, .row 82 1 v424 n425 cs426, .box b47 46 [Value.int .i64 s155.2.2, v65], .box b21 46 [Value.int .i64 0, (Value.slice none 0 0)], .row 82 1 (Value.slice none 0 0) 0 []] := S429.drop 0
       refine FL.v (E.append rfl rfl run428) ?_
       refine FL.v (E.fieldAddr tf46_1 k392) ?_
       obtain ⟨w434, run435, S436⟩ := S433.store (P := Tryz.prog) (t := 44) (i := 3) (j := 1) (cs' := [Value.int .i64 s155.2.2, v424]) (l' := [.row 101 1 v150 n151 cs152, .raw b58 o70, .row 82 1 v424 n425 cs426, .box b47 46 [Value.int .i64 s155.2.2, v424], .box b21 46 [Value.int .i64 0, (Value.slice none 0 0)], .row 82 1 (Value.slice none 0 0) 0 []]) (v := v424) (c := [v424]) rfl Tryz.sizeOf44 (Ln.cells (S433.row_ln (i := 2) rfl)) rfl (ones_cons (Ln.one (S433.row_ln (i := 2) rfl)) ones_nil) (Nat.le_of_ble_eq_true rfl) rfl rfl
       refine FL.act rfl rfl (E.store rfl rfl run435) ?_
       refine FL.nil (FW.seq (FW.region ?_))
       refine FL.v (E.load k392 (run_loadA Tryz.isAgg46 Tryz.sizeOf46 (S436.box_now (i := 3) rfl) rfl)) ?_
       obtain ⟨w437, run438, S439⟩ := S436.store0 (P := Tryz.prog) (t := 46) (i := 4) (cs' := [Value.int .i64 s155.2.2, v424]) (l' := [.row 101 1 v150 n151 cs152, .raw b58 o70, .row 82 1 v424 n425 cs426, .box b47 46 [Value.int .i64 s155.2.2, v424], .box b21 46 [Value.int .i64 s155.2.2, v424], .row 82 1 (Value.slice none 0 0) 0 []]) (v := Value.agg #[Value.int .i64 s155.2.2, v424]) (c := [Value.int .i64 s155.2.2, v424]) rfl Tryz.sizeOf46 rfl rfl (ones_cons rfl (ones_cons (Ln.one (S436.row_ln (i := 2) rfl)) ones_nil)) (Nat.le_of_ble_eq_true rfl) rfl rfl
       refine FL.act rfl rfl (E.store k391 rfl run438) ?_
       refine FL.v (E.assign (v := Value.bool true) rfl) ?_
       refine FL.nil ?_
       refine FW.ret ?_
       obtain ⟨H440, S441, i442, ns445, nv444⟩ := S439.sealRowN (i := 2) (l' := [.row 101 1 v150 n151 cs152, .raw b58 o70, .box b47 46 [Value.int .i64 s155.2.2, v424], .box b21 46 [Value.int .i64 s155.2.2, v424], .row 82 1 (Value.slice none 0 0) 0 []]) rfl els430 nd432 (by decide) rfl
       have h443 := ns445.rsl
       obtain rfl := Option.some.inj hp
       exact ⟨.inr rfl, resC2 rfl k391 (loadVar_A Tryz.isAgg46 Tryz.sizeOf46 (S441.box_now (i := 3) rfl) rfl) rfl ⟨_, _, rfl, S441.run, ⟨_, ns445⟩⟩⟩
     ·
      exact x155.elim
   ·
    exact x64.elim

theorem w_spec_l22Before {Ha : GH} {wa : World} (hs : Sl Ha wa) (a0 : ByteArray) (a1 : ByteArray) :
  Calls Tryz.prog 152 #[Value.string a0, Value.string a1] wa (Sc Ha wa (Value.bool (PF.spec_l22Before a0 a1))) := by
 obtain ⟨r, hp⟩ : ∃ r, (PF.spec_l22Before a0 a1) = r := ⟨_, rfl⟩
 rw [hp]
 unfold PF.spec_l22Before at hp
 have S0 := St.init hs
 refine calls_go (N := 18) (args := [Value.string a0, Value.string a1]) Tryz.func152 rfl rfl rfl ?_
 refine FW.seq (FW.region ?_)
 refine FL.v (E.assign (v := Value.bool false) rfl) ?_
 refine FL.nil (FW.seq (FW.seq (FW.region ?_)))
 refine FL.v (E.move (v := Value.string a0) rfl) ?_
 refine FL.v (E.lenS Tryz.runUnderlying9 rfl) ?_
 refine FL.v (E.move (v := Value.string a1) rfl) ?_
 refine FL.v (E.lenS Tryz.runUnderlying9 rfl) ?_
 refine FL.v (E.neq rfl rfl) ?_
 refine FL.nil ?_
 rcases ifT hp with ⟨c21, hp⟩ | ⟨c21, hp⟩
 ·
  refine FW.condT rfl c21 ?_
  refine FW.seq (FW.region ?_)
  refine FL.v (E.move (v := Value.string a0) rfl) ?_
  refine FL.v (E.lenS Tryz.runUnderlying9 rfl) ?_
  refine FL.v (E.move (v := Value.string a1) rfl) ?_
  refine FL.v (E.lenS Tryz.runUnderlying9 rfl) ?_
  refine FL.v (E.lss rfl rfl) ?_
  refine FL.v (E.assign (v := Value.bool (decide ((a0.size : Int) < (a1.size : Int)))) rfl) ?_
  refine FL.nil ?_
  refine FW.ret ?_
  obtain rfl := hp
  exact ⟨.inr rfl, res1 rfl rfl ⟨rfl, S0.back⟩⟩
 ·
  refine FW.condF rfl c21 ?_
  refine FW.skip (FW.seq (FW.region ?_))
  refine FL.v (E.move (v := Value.string a0) rfl) ?_
  refine FL.v (E.move (v := Value.string a1) rfl) ?_
  refine FL.v (E.lssS rfl rfl) ?_
  refine FL.v (E.assign (v := Value.bool (ltS a0 a1)) rfl) ?_
  refine FL.nil ?_
  refine FW.ret ?_
  obtain rfl := hp
  exact ⟨.inr rfl, res1 rfl rfl ⟨rfl, S0.back⟩⟩

@[reducible] def p_spec_l22Put (Ha : GH) (wa : World) (r : (List ByteArray)) : Ending → World → Prop :=
 fun e w' => ∃ H' : GH, ∃ v0 : Value, e = .returned (v0) ∧ Run wa.heap.size Ha wa H' w' ∧ RSl H' eS 1 v0 r
set_option maxHeartbeats 4000000 in
theorem w_spec_l22Put {Ha : GH} {wa : World} (hs : Sl Ha wa) (v0 : Value) (a0 : List ByteArray) (p0 : RSl Ha eS 1 v0 a0) (a1 : ByteArray) {r : (List ByteArray)} (hp : (PF.spec_l22Put a0 a1) = some r) :
  Calls Tryz.prog 101 #[v0, Value.string a1] wa (p_spec_l22Put Ha wa r) := by
 unfold PF.spec_l22Put at hp
 have S0 := St.init hs
 refine calls_go (N := 45) (args := [v0, Value.string a1]) Tryz.func101 rfl rfl rfl ?_
 refine FW.seq (FW.region ?_)
 refine FL.v (E.assign (v := Value.slice none 0 0) rfl) ?_
 refine FL.nil (FW.seq (FW.region ?_))
 refine FL.v (E.assign (v := Value.int .i64 0) rfl) ?_
 refine FL.nil (FW.seq ?_)
 obtain ⟨q21, hq, hp⟩ := bndR hp
 refine FW.block ?_
 refine FW.mono (FW.iter (S := Int) (X := Empty) (fun (s21 : Int) f w => ∃ H : GH, St Ha wa H w [] ∧ Inc Ha H ∧ f 0 = v0 ∧ f 1 = Value.string a1 ∧ f 5 = Value.int .i64 s21) (fun (q : Rs Int Empty) e f w => match q with | .go s21 => e = Exit.exit 0 ∧ (∃ H : GH, St Ha wa H w [] ∧ Inc Ha H ∧ f 0 = v0 ∧ f 1 = Value.string a1 ∧ f 5 = Value.int .i64 s21) | .rt x => x.elim) hq ⟨_, S0, (Inc.rfl _), rfl, rfl, rfl⟩ ?_) ?_
 ·
  clear hp hq
  rintro s21 f68 w67 ⟨H64, S65, i66, k69, k70, k71⟩ o106 hp
  refine FW.seq (FW.seq (FW.region ?_))
  refine FL.v (E.move k71) ?_
  refine FL.v (E.move k69) ?_
  refine FL.v (E.lenP te22 rfl p0) ?_
  refine FL.v (E.lss rfl rfl) ?_
  refine FL.v (E.move (v := Value.bool (decide (s21 < (len a0)))) rfl) ?_
  obtain ⟨t83, hqt83, hp⟩ := bnd hp
  refine FL.cut 7 (fun f w => ∃ H : GH, St Ha wa H w [] ∧ Inc H64 H ∧ f 0 = v0 ∧ f 1 = Value.string a1 ∧ f 5 = Value.int .i64 s21 ∧ f 17 = Value.bool t83) ?_ ?_
  ·
   clear hp; have hp := hqt83; clear hqt83
   rcases ifB hp with ⟨c89, hp⟩ | ⟨c89, hp⟩
   ·
    refine FL.val (wF_yes rfl rfl rfl c89) rfl rfl (E.move k69) ?_
    refine FL.val (wF_yes rfl rfl rfl c89) rfl rfl (E.move k71) ?_
    obtain ⟨x96, hx97, hp⟩ := bnd hp
    obtain ⟨p90, cs91, pt92, l93, at94, rel95⟩ := p0.at hx97
    obtain rfl := eS_open rel95
    refine FL.val (wF_yes rfl rfl rfl c89) rfl rfl (E.indexAddr te22 rfl rfl pt92) ?_
    refine FL.val (wF_yes rfl rfl rfl c89) rfl rfl (E.load rfl (run_load0 Tryz.isAgg9 ((at94.mono i66).now S65.sl) rfl)) ?_
    refine FL.val (wF_yes rfl rfl rfl c89) rfl rfl (E.move k70) ?_
    refine FL.call (wF_yes rfl rfl rfl c89) rfl rfl (E.call Tryz.call152 (A2 rfl rfl)) (w_spec_l22Before S65.sl x96 a1) ?_
    rintro e w98 ⟨rfl, r99⟩
    refine ⟨_, rfl, ?_⟩
    have S100 := S65.call r99
    obtain rfl := Option.some.inj hp
    refine FL.v (E.pickT rfl c89 rfl) ?_
    exact FL.nil ⟨rfl, _, S100, (Inc.rfl _), k69, k70, k71, rfl⟩
   ·
    refine FL.skip (wF_no rfl rfl rfl c89) rfl ?_
    refine FL.skip (wF_no rfl rfl rfl c89) rfl ?_
    refine FL.skip (wF_no rfl rfl rfl c89) rfl ?_
    refine FL.skip (wF_no rfl rfl rfl c89) rfl ?_
    refine FL.skip (wF_no rfl rfl rfl c89) rfl ?_
    refine FL.skip (wF_no rfl rfl rfl c89) rfl ?_
    obtain rfl := Option.some.inj hp
    refine FL.v (E.pickF rfl c89 rfl) ?_
    exact FL.nil ⟨rfl, _, S65, (Inc.rfl _), k69, k70, k71, rfl⟩
  rintro f88 w87 ⟨H84, S85, i86, k101, k102, k103, k104⟩
  refine FL.nil ?_
  rcases ifB hp with ⟨c105, hp⟩ | ⟨c105, hp⟩
  ·
   refine FW.condT k104 c105 ?_
   refine FW.skip (FW.block (FW.region ?_))
   refine FL.v (E.move k103) ?_
   refine FL.v (E.add rfl rfl) ?_
   refine FL.v (E.assign (v := Value.int .i64 (wr (s21 + 1))) rfl) ?_
   refine FL.nil ?_
   obtain rfl := Option.some.inj hp
   exact ⟨rfl, ⟨_, S85, (i66.tr i86), k101, k102, rfl⟩⟩
  ·
   refine FW.condF k104 c105 ?_
   refine FW.exit ?_
   obtain rfl := Option.some.inj hp
   exact ⟨nofun, rfl, ⟨_, S85, (i66.tr i86), k101, k102, k103⟩⟩
 ·
  clear hq
  intro e f111 w110 hD
  rcases q21 with s21 | x21
  ·
   obtain ⟨rfl, hD⟩ := hD
   obtain ⟨H107, S108, i109, k112, k113, k114⟩ := hD
   replace hp := el_go hp
   refine FW.seq (FW.seq (FW.region ?_))
   refine FL.v (E.move k114) ?_
   refine FL.v (E.move k112) ?_
   refine FL.v (E.lenP te22 rfl p0) ?_
   refine FL.v (E.lss rfl rfl) ?_
   refine FL.v (E.move (v := Value.bool (decide (s21 < (len a0)))) rfl) ?_
   obtain ⟨t123, hqt123, hp⟩ := bnd hp
   refine FL.cut 7 (fun f w => ∃ H : GH, St Ha wa H w [] ∧ Inc H107 H ∧ f 0 = v0 ∧ f 1 = Value.string a1 ∧ f 5 = Value.int .i64 s21 ∧ f 31 = Value.bool t123) ?_ ?_
   ·
    clear hp; have hp := hqt123; clear hqt123
    rcases ifB hp with ⟨c129, hp⟩ | ⟨c129, hp⟩
    ·
     refine FL.val (wF_yes rfl rfl rfl c129) rfl rfl (E.move k112) ?_
     refine FL.val (wF_yes rfl rfl rfl c129) rfl rfl (E.move k114) ?_
     obtain ⟨x136, hx137, hp⟩ := bnd hp
     obtain ⟨p130, cs131, pt132, l133, at134, rel135⟩ := p0.at hx137
     obtain rfl := eS_open rel135
     refine FL.val (wF_yes rfl rfl rfl c129) rfl rfl (E.indexAddr te22 rfl rfl pt132) ?_
     refine FL.val (wF_yes rfl rfl rfl c129) rfl rfl (E.load rfl (run_load0 Tryz.isAgg9 ((at134.mono i109).now S108.sl) rfl)) ?_
     refine FL.val (wF_yes rfl rfl rfl c129) rfl rfl (E.move k113) ?_
     refine FL.val (wF_yes rfl rfl rfl c129) rfl rfl (E.eqlS rfl rfl) ?_
     obtain rfl := Option.some.inj hp
     refine FL.v (E.pickT rfl c129 rfl) ?_
     exact FL.nil ⟨rfl, _, S108, (Inc.rfl _), k112, k113, k114, rfl⟩
    ·
     refine FL.skip (wF_no rfl rfl rfl c129) rfl ?_
     refine FL.skip (wF_no rfl rfl rfl c129) rfl ?_
     refine FL.skip (wF_no rfl rfl rfl c129) rfl ?_
     refine FL.skip (wF_no rfl rfl rfl c129) rfl ?_
     refine FL.skip (wF_no rfl rfl rfl c129) rfl ?_
     refine FL.skip (wF_no rfl rfl rfl c129) rfl ?_
     obtain rfl := Option.some.inj hp
     refine FL.v (E.pickF rfl c129 rfl) ?_
     exact FL.nil ⟨rfl, _, S108, (Inc.rfl _), k112, k113, k114, rfl⟩
   rintro f128 w127 ⟨H124, S125, i126, k138, k139, k140, k141⟩
   refine FL.nil ?_
   rcases ifB hp with ⟨c142, hp⟩ | ⟨c142, hp⟩
   ·
    refine FW.condT k141 c142 ?_
    refine FW.seq (FW.region ?_)
    refine FL.v (E.move k138) ?_
    refine FL.v (E.assign (v := v0) rfl) ?_
    refine FL.nil ?_
    refine FW.ret ?_
    obtain rfl := Option.some.inj hp
    exact ⟨.inr rfl, res1 rfl rfl ⟨_, _, rfl, S125.run, (p0.mono (i109.tr i126))⟩⟩
   ·
    refine FW.condF k141 c142 ?_
    refine FW.skip (FW.seq ?_)
    obtain ⟨xs28, hc29, hp⟩ := bnd hp
    obtain ⟨xs33, hz34, hp⟩ := bnd hp
    obtain ⟨xs47, hz48, hp⟩ := bnd hp
    obtain ⟨xs58, hc59, hp⟩ := bnd hp
    obtain ⟨xs63, hz72, hp⟩ := bnd hp
    refine FW.drawB (Sl H124) (fun f w => ∃ H : GH, ∃ v80 : Value, ∃ n81 : Nat, ∃ cs82 : List Value, St Ha wa H w [.row 9 1 v80 n81 cs82] ∧ Inc H124 H ∧ Els (up wa.heap.size H) eS 1 cs82 xs63 ∧ f 4 = v80) (by kernel_rfl) S125.sl ?_ ?_
    ·
     intro w143 r144
     have S145 := S125.call r144
     refine FB.t (i := 1) (bs 13 2) rfl (SP.nil S145.sl) rfl (fun w' hw' => (E.move k138)) ?_
     refine FB.t (i := 2) (bs 13 6) rfl (SP.nil S145.sl) rfl (fun w' hw' => (E.move k140)) ?_
     obtain ⟨v30, run31, h32⟩ := p0.cut te22 hc29 (lo := none) (hi := some (Value.int .i64 s21)) (.inl ⟨rfl, rfl⟩) (.inr ⟨_, rfl⟩)
     refine FB.t (i := 3) (bs 13 14) rfl (SP.nil S145.sl) rfl (fun w' hw' => (E.slice te22 rfl rfl (congrArg some rfl) rfl (run31 _))) ?_
     refine FB.t (i := 5) (bs 13 46) rfl (SP.nil S145.sl) rfl (fun w' hw' => (E.move k139)) ?_
     refine FB.t (i := 8) (bs 13 302) rfl (SP.nil S145.sl) rfl (fun w' hw' => (E.move k138)) ?_
     refine FB.t (i := 9) (bs 13 814) rfl (SP.nil S145.sl) rfl (fun w' hw' => (E.move k140)) ?_
     obtain ⟨v60, run61, h62⟩ := p0.cut te22 hc59 (lo := some (Value.int .i64 s21)) (hi := none) (.inr ⟨_, rfl⟩) (.inl ⟨rfl, rfl⟩)
     refine FB.t (i := 10) (bs 13 1838) rfl (SP.nil S145.sl) rfl (fun w' hw' => (E.slice te22 rfl (congrArg some rfl) rfl rfl (run61 _))) ?_
     refine FB.all2 (i := 0) (j := 6) (by kernel_rfl) ?_ ?_
     ·
      obtain ⟨v23, w24, run25, S26⟩ := S145.buildSlice (P := Tryz.prog) te22 [] (parts := #[]) (cells := []) rfl szs_nil fc_nil ones_nil (Nat.le_of_ble_eq_true rfl)
      have els27 : Els (up wa.heap.size H124) eS 1 [] [] := Els.nil
      refine FC.val (l' := (bs 13 1839)) rfl (by kernel_rfl) rfl rfl rfl (E.buildSlice (B0) run25) ?_
      refine ⟨(SP.nil S26.sl), ?_⟩
      refine FB.all2 (i := 4) (j := 6) (by kernel_rfl) ?_ ?_
      ·
       obtain ⟨v35, w38, n36, cs37, run39, S40, els41⟩ := S26.appendP (P := Tryz.prog) (Inc.rfl _) te22 (i := 0) rfl (els27.mono upI) (h32.mono (i109.tr i126)) hz34
       have S40 : St Ha wa H124 w38 [.row 9 1 v35 n36 cs37] := S40
       have els41 : Els (up wa.heap.size H124) eS 1 cs37 xs33 := els41.any (fun _ _ _ _ h => h)
       refine FC.val (l' := (bs 13 1855)) rfl (by kernel_rfl) rfl rfl rfl (E.append rfl rfl run39) ?_
       refine ⟨(SP.nil S40.sl), ?_⟩
       refine FB.all1 (i := 6) (by kernel_rfl) ?_
       ·
        obtain ⟨v42, w43, run44, S45⟩ := S40.buildSlice (P := Tryz.prog) te22 [Value.string a1] (parts := #[(0, Value.string a1)]) (cells := [Value.string a1]) rfl (szs_cons rfl szs_nil) (fc_cons rfl fc_nil) (ones_cons rfl ones_nil) (Nat.le_of_ble_eq_true rfl)
        have els46 : Els (up wa.heap.size H124) eS 1 [Value.string a1] [a1] := (Els.snoc (H := (up wa.heap.size H124)) (E := eS) (k := 1) (c := [Value.string a1]) (x := a1) Els.nil rfl rfl)
        refine FC.val (l' := (bs 13 1919)) rfl (by kernel_rfl) rfl rfl rfl (E.buildSlice (B1 rfl) run44) ?_
        refine ⟨(SP.nil S45.sl), ?_⟩
        refine FB.all1 (i := 7) (by kernel_rfl) ?_
        ·
         obtain ⟨v49, w52, n50, cs51, run53, S54, els55, ce56⟩ := S45.appendO (P := Tryz.prog) te22 (i := 1) (j := 0) rfl els41 rfl els46 hz48
         have S54 : St Ha wa H124 w52 [.row 9 1 v42 1 [Value.string a1], .row 9 1 v49 n50 cs51] := S54
         have S57 : St Ha wa H124 w52 [.row 9 1 v49 n50 cs51] := S54.drop 0
         refine FC.val (l' := (bs 13 2047)) rfl (by kernel_rfl) rfl rfl rfl (E.append rfl rfl run53) ?_
         refine ⟨(SP.nil S57.sl), ?_⟩
         refine FB.all1 (i := 11) (by kernel_rfl) ?_
         ·
          obtain ⟨v73, w76, n74, cs75, run77, S78, els79⟩ := S57.appendP (P := Tryz.prog) (Inc.rfl _) te22 (i := 0) rfl (els55.mono upI) (h62.mono (i109.tr i126)) hz72
          have S78 : St Ha wa H124 w76 [.row 9 1 v73 n74 cs75] := S78
          have els79 : Els (up wa.heap.size H124) eS 1 cs75 xs63 := els79.any (fun _ _ _ _ h => h)
          refine FC.val (l' := (bs 13 4095)) rfl (by kernel_rfl) rfl rfl rfl (E.append rfl rfl run77) ?_
          refine ⟨(SP.nil S78.sl), ?_⟩
          refine FB.t (i := 12) (bs 13 8191) rfl (SP.nil S78.sl) rfl (fun w' hw' => (E.assign (v := v73) rfl)) ?_
          exact FB.done (by kernel_rfl) ⟨_, _, _, _, S78, (Inc.rfl _), els79, rfl⟩
      ·
       obtain ⟨v42, w43, run44, S45⟩ := S26.buildSlice (P := Tryz.prog) te22 [Value.string a1] (parts := #[(0, Value.string a1)]) (cells := [Value.string a1]) rfl (szs_cons rfl szs_nil) (fc_cons rfl fc_nil) (ones_cons rfl ones_nil) (Nat.le_of_ble_eq_true rfl)
       have els46 : Els (up wa.heap.size H124) eS 1 [Value.string a1] [a1] := (Els.snoc (H := (up wa.heap.size H124)) (E := eS) (k := 1) (c := [Value.string a1]) (x := a1) Els.nil rfl rfl)
       refine FC.val (l' := (bs 13 1903)) rfl (by kernel_rfl) rfl rfl rfl (E.buildSlice (B1 rfl) run44) ?_
       refine ⟨(SP.nil S45.sl), ?_⟩
       refine FB.all1 (i := 4) (by kernel_rfl) ?_
       ·
        obtain ⟨v35, w38, n36, cs37, run39, S40, els41⟩ := S45.appendP (P := Tryz.prog) (Inc.rfl _) te22 (i := 1) rfl (els27.mono upI) (h32.mono (i109.tr i126)) hz34
        have S40 : St Ha wa H124 w38 [.row 9 1 v42 1 [Value.string a1], .row 9 1 v35 n36 cs37] := S40
        have els41 : Els (up wa.heap.size H124) eS 1 cs37 xs33 := els41.any (fun _ _ _ _ h => h)
        refine FC.val (l' := (bs 13 1919)) rfl (by kernel_rfl) rfl rfl rfl (E.append rfl rfl run39) ?_
        refine ⟨(SP.nil S40.sl), ?_⟩
        refine FB.all1 (i := 7) (by kernel_rfl) ?_
        ·
         obtain ⟨v49, w52, n50, cs51, run53, S54, els55, ce56⟩ := S40.appendO (P := Tryz.prog) te22 (i := 1) (j := 0) rfl els41 rfl els46 hz48
         have S54 : St Ha wa H124 w52 [.row 9 1 v42 1 [Value.string a1], .row 9 1 v49 n50 cs51] := S54
         have S57 : St Ha wa H124 w52 [.row 9 1 v49 n50 cs51] := S54.drop 0
         refine FC.val (l' := (bs 13 2047)) rfl (by kernel_rfl) rfl rfl rfl (E.append rfl rfl run53) ?_
         refine ⟨(SP.nil S57.sl), ?_⟩
         refine FB.all1 (i := 11) (by kernel_rfl) ?_
         ·
          obtain ⟨v73, w76, n74, cs75, run77, S78, els79⟩ := S57.appendP (P := Tryz.prog) (Inc.rfl _) te22 (i := 0) rfl (els55.mono upI) (h62.mono (i109.tr i126)) hz72
          have S78 : St Ha wa H124 w76 [.row 9 1 v73 n74 cs75] := S78
          have els79 : Els (up wa.heap.size H124) eS 1 cs75 xs63 := els79.any (fun _ _ _ _ h => h)
          refine FC.val (l' := (bs 13 4095)) rfl (by kernel_rfl) rfl rfl rfl (E.append rfl rfl run77) ?_
          refine ⟨(SP.nil S78.sl), ?_⟩
          refine FB.t (i := 12) (bs 13 8191) rfl (SP.nil S78.sl) rfl (fun w' hw' => (E.assign (v := v73) rfl)) ?_
          exact FB.done (by kernel_rfl) ⟨_, _, _, _, S78, (Inc.rfl _), els79, rfl⟩
     ·
      obtain ⟨v42, w43, run44, S45⟩ := S145.buildSlice (P := Tryz.prog) te22 [Value.string a1] (parts := #[(0, Value.string a1)]) (cells := [Value.string a1]) rfl (szs_cons rfl szs_nil) (fc_cons rfl fc_nil) (ones_cons rfl ones_nil) (Nat.le_of_ble_eq_true rfl)
      have els46 : Els (up wa.heap.size H124) eS 1 [Value.string a1] [a1] := (Els.snoc (H := (up wa.heap.size H124)) (E := eS) (k := 1) (c := [Value.string a1]) (x := a1) Els.nil rfl rfl)
      refine FC.val (l' := (bs 13 1902)) rfl (by kernel_rfl) rfl rfl rfl (E.buildSlice (B1 rfl) run44) ?_
      refine ⟨(SP.nil S45.sl), ?_⟩
      refine FB.all1 (i := 0) (by kernel_rfl) ?_
      ·
       obtain ⟨v23, w24, run25, S26⟩ := S45.buildSlice (P := Tryz.prog) te22 [] (parts := #[]) (cells := []) rfl szs_nil fc_nil ones_nil (Nat.le_of_ble_eq_true rfl)
       have els27 : Els (up wa.heap.size H124) eS 1 [] [] := Els.nil
       refine FC.val (l' := (bs 13 1903)) rfl (by kernel_rfl) rfl rfl rfl (E.buildSlice (B0) run25) ?_
       refine ⟨(SP.nil S26.sl), ?_⟩
       refine FB.all1 (i := 4) (by kernel_rfl) ?_
       ·
        obtain ⟨v35, w38, n36, cs37, run39, S40, els41⟩ := S26.appendP (P := Tryz.prog) (Inc.rfl _) te22 (i := 0) rfl (els27.mono upI) (h32.mono (i109.tr i126)) hz34
        have S40 : St Ha wa H124 w38 [.row 9 1 v35 n36 cs37, .row 9 1 v42 1 [Value.string a1]] := S40
        have els41 : Els (up wa.heap.size H124) eS 1 cs37 xs33 := els41.any (fun _ _ _ _ h => h)
        refine FC.val (l' := (bs 13 1919)) rfl (by kernel_rfl) rfl rfl rfl (E.append rfl rfl run39) ?_
        refine ⟨(SP.nil S40.sl), ?_⟩
        refine FB.all1 (i := 7) (by kernel_rfl) ?_
        ·
         obtain ⟨v49, w52, n50, cs51, run53, S54, els55, ce56⟩ := S40.appendO (P := Tryz.prog) te22 (i := 0) (j := 1) rfl els41 rfl els46 hz48
         have S54 : St Ha wa H124 w52 [.row 9 1 v49 n50 cs51, .row 9 1 v42 1 [Value.string a1]] := S54
         have S57 : St Ha wa H124 w52 [.row 9 1 v49 n50 cs51] := S54.drop 1
         refine FC.val (l' := (bs 13 2047)) rfl (by kernel_rfl) rfl rfl rfl (E.append rfl rfl run53) ?_
         refine ⟨(SP.nil S57.sl), ?_⟩
         refine FB.all1 (i := 11) (by kernel_rfl) ?_
         ·
          obtain ⟨v73, w76, n74, cs75, run77, S78, els79⟩ := S57.appendP (P := Tryz.prog) (Inc.rfl _) te22 (i := 0) rfl (els55.mono upI) (h62.mono (i109.tr i126)) hz72
          have S78 : St Ha wa H124 w76 [.row 9 1 v73 n74 cs75] := S78
          have els79 : Els (up wa.heap.size H124) eS 1 cs75 xs63 := els79.any (fun _ _ _ _ h => h)
          refine FC.val (l' := (bs 13 4095)) rfl (by kernel_rfl) rfl rfl rfl (E.append rfl rfl run77) ?_
          refine ⟨(SP.nil S78.sl), ?_⟩
          refine FB.t (i := 12) (bs 13 8191) rfl (SP.nil S78.sl) rfl (fun w' hw' => (E.assign (v := v73) rfl)) ?_
          exact FB.done (by kernel_rfl) ⟨_, _, _, _, S78, (Inc.rfl _), els79, rfl⟩
    ·
     rintro f120 w119 ⟨H116, v80, n81, cs82, S117, i118, els115, k121⟩
     refine FW.ret ?_
     obtain ⟨H122, S146, i147, h148, nv149⟩ := S117.sealRowU (i := 0) (l' := []) rfl els115 (by decide) rfl
     obtain rfl := Option.some.inj hp
     exact ⟨.inr rfl, res1 rfl k121 ⟨_, _, rfl, S146.run, (h148.mono upI)⟩⟩
  ·
   exact x21.elim

end Go.Proofs
