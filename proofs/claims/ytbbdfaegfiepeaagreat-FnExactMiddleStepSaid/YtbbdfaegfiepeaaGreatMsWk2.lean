/- Part of the walks and plain laws behind the claim: it proves helpers, under no condition beyond their own. -/
import Derived.Test.YtbbdfaegfiepeaaGreatMsWk1
set_option linter.unusedVariables false
set_option maxRecDepth 100000
namespace Go.Proofs
open Go.Mr Go.Pu Go.PF Go.RowKit

@[reducible] def p_impl_mustClause (Ha : GH) (wa : World) (r : (List Int)) : Ending → World → Prop :=
 fun e w' => ∃ H' : GH, ∃ v0 : Value, ∃ n0 : Nat, ∃ c0 : List Value, e = .returned (v0) ∧ St Ha wa H' w' [.row 3 1 v0 n0 c0] ∧ Els (up wa.heap.size H') eI 1 c0 r
theorem w_impl_mustClause {Ha : GH} {wa : World} (hs : Sl Ha wa) (v0 : Value) (a0 : List Int) (p0 : RSl Ha eI 1 v0 a0) {r : (List Int)} (hp : (PF.impl_mustClause a0) = some r) :
  Calls Tryz.prog 218 #[v0] wa (p_impl_mustClause Ha wa r) := by
 unfold PF.impl_mustClause at hp
 have S0 := St.init hs
 refine calls_go (N := 11) (args := [v0]) Tryz.func218 rfl rfl rfl ?_
 refine FW.seq (FW.region ?_)
 refine FL.v (E.assign (v := Value.slice none 0 0) rfl) ?_
 refine FL.nil (FW.seq (FW.region ?_))
 refine FL.v (E.move (v := v0) rfl) ?_
 obtain ⟨r21, hr22, hp⟩ := bnd hp
 refine FL.call rfl rfl rfl (E.call Tryz.call208 (A1 rfl)) (w_impl_clause S0.sl v0 a0 p0 hr22) ?_
 rintro e w24 ⟨H23, v27, n28, cs29, rfl, r26, els30⟩
 refine ⟨_, rfl, ?_⟩
 have els30 := els30.mono (up_le S0.size)
 have S25 := S0.join (l' := [.row 3 1 v27 n28 cs29]) r26 rfl
 refine FL.v (E.move (v := Value.tuple #[v27, Value.bool r21.2]) rfl) ?_
 refine FL.v (E.extract (i := 0) rfl rfl) ?_
 refine FL.v (E.extract (i := 1) rfl rfl) ?_
 refine FL.v (E.assign (v := v27) rfl) ?_
 refine FL.v (E.assign (v := Value.bool r21.2) rfl) ?_
 refine FL.nil (FW.seq (FW.region ?_))
 refine FL.v (E.move (v := v27) rfl) ?_
 refine FL.v (E.assign (v := v27) rfl) ?_
 refine FL.nil ?_
 refine FW.ret ?_
 obtain rfl := Option.some.inj hp
 exact ⟨.inr rfl, res1 rfl rfl ⟨_, _, _, _, rfl, S25, els30⟩⟩

theorem w_impl_isLiteral {Ha : GH} {wa : World} (hs : Sl Ha wa) (a0 : Int) (a1 : Int) :
  Calls Tryz.prog 241 #[Value.int .i64 a0, Value.int .i64 a1] wa (Sc Ha wa (Value.bool (PF.impl_isLiteral a0 a1))) := by
 obtain ⟨r, hp⟩ : ∃ r, (PF.impl_isLiteral a0 a1) = r := ⟨_, rfl⟩
 rw [hp]
 unfold PF.impl_isLiteral at hp
 have S0 := St.init hs
 refine calls_go (N := 14) (args := [Value.int .i64 a0, Value.int .i64 a1]) Tryz.func241 rfl rfl rfl ?_
 refine FW.seq (FW.region ?_)
 refine FL.v (E.assign (v := Value.bool false) rfl) ?_
 refine FL.nil (FW.seq (FW.region ?_))
 refine FL.v (E.move (v := Value.int .i64 a1) rfl) ?_
 refine FL.v (E.neq rfl rfl) ?_
 refine FL.v (E.move (v := Value.bool (!(a1 == 0))) rfl) ?_
 refine FL.cut 6 (fun f w => ∃ H : GH, St Ha wa H w [] ∧ Inc Ha H ∧ f 13 = Value.bool (bif (!(a1 == 0)) then (PF.impl_within a1 (wr (-a0)) a0) else false)) ?_ ?_
 ·
  rcases bcase (!(a1 == 0)) with c30 | c30
  ·
   refine FL.val (wF_yes rfl rfl rfl c30) rfl rfl (E.move (v := Value.int .i64 a1) rfl) ?_
   refine FL.val (wF_yes rfl rfl rfl c30) rfl rfl (E.move (v := Value.int .i64 a0) rfl) ?_
   refine FL.val (wF_yes rfl rfl rfl c30) rfl rfl (E.neg rfl) ?_
   refine FL.val (wF_yes rfl rfl rfl c30) rfl rfl (E.move (v := Value.int .i64 a0) rfl) ?_
   refine FL.call (wF_yes rfl rfl rfl c30) rfl rfl (E.call Tryz.call126 (A3 rfl rfl rfl)) (w_impl_within S0.sl a1 (wr (-a0)) a0) ?_
   rintro e w31 ⟨rfl, r32⟩
   refine ⟨_, rfl, ?_⟩
   have S33 := S0.call r32
   refine FL.v (E.pickT rfl c30 rfl) ?_
   exact FL.nil ⟨rfl, _, S33, (Inc.rfl _), (congrArg Value.bool (bifT c30).symm)⟩
  ·
   refine FL.skip (wF_no rfl rfl rfl c30) rfl ?_
   refine FL.skip (wF_no rfl rfl rfl c30) rfl ?_
   refine FL.skip (wF_no rfl rfl rfl c30) rfl ?_
   refine FL.skip (wF_no rfl rfl rfl c30) rfl ?_
   refine FL.skip (wF_no rfl rfl rfl c30) rfl ?_
   refine FL.v (E.pickF rfl c30 rfl) ?_
   exact FL.nil ⟨rfl, _, S0, (Inc.rfl _), (congrArg Value.bool (bifF c30).symm)⟩
 rintro f29 w28 ⟨H25, S26, i27, k34⟩
 refine FL.v (E.assign k34) ?_
 refine FL.nil ?_
 refine FW.ret ?_
 obtain rfl := hp
 exact ⟨.inr rfl, res1 rfl rfl ⟨rfl, S26.back⟩⟩

theorem w_impl_varsOk {Ha : GH} {wa : World} (hs : Sl Ha wa) (a0 : Int) :
  Calls Tryz.prog 146 #[Value.int .i64 a0] wa (Sc Ha wa (Value.bool (PF.impl_varsOk a0))) := by
 obtain ⟨r, hp⟩ : ∃ r, (PF.impl_varsOk a0) = r := ⟨_, rfl⟩
 rw [hp]
 unfold PF.impl_varsOk at hp
 have S0 := St.init hs
 refine calls_go (N := 5) (args := [Value.int .i64 a0]) Tryz.func146 rfl rfl rfl ?_
 refine FW.seq (FW.region ?_)
 refine FL.v (E.assign (v := Value.bool false) rfl) ?_
 refine FL.nil (FW.seq (FW.region ?_))
 refine FL.v (E.move (v := Value.int .i64 a0) rfl) ?_
 refine FL.call rfl rfl rfl (E.call Tryz.call126 (A3 rfl rfl rfl)) (w_impl_within S0.sl a0 0 12) ?_
 rintro e w21 ⟨rfl, r22⟩
 refine ⟨_, rfl, ?_⟩
 have S23 := S0.call r22
 refine FL.v (E.assign (v := Value.bool (PF.impl_within a0 0 12)) rfl) ?_
 refine FL.nil ?_
 refine FW.ret ?_
 obtain rfl := hp
 exact ⟨.inr rfl, res1 rfl rfl ⟨rfl, S23.back⟩⟩

theorem w_impl_IsClause {Ha : GH} {wa : World} (hs : Sl Ha wa) (a0 : Int) (v1 : Value) (a1 : List Int) (p1 : RSl Ha eI 1 v1 a1) {r : Bool} (hp : (PF.impl_IsClause a0 a1) = some r) :
  Calls Tryz.prog 191 #[Value.int .i64 a0, v1] wa (Sc Ha wa (Value.bool r)) := by
 unfold PF.impl_IsClause at hp
 have S0 := St.init hs
 refine calls_go (N := 36) (args := [Value.int .i64 a0, v1]) Tryz.func191 rfl rfl rfl ?_
 refine FW.seq (FW.region ?_)
 refine FL.v (E.assign (v := Value.bool false) rfl) ?_
 refine FL.nil (FW.seq (FW.seq (FW.region ?_)))
 refine FL.v (E.move (v := v1) rfl) ?_
 refine FL.v (E.lenP te76 rfl p1) ?_
 refine FL.v (E.move (v := Value.int .i64 0) rfl) ?_
 refine FL.nil ?_
 obtain ⟨q22, hq, hp⟩ := bndR hp
 refine FW.block ?_
 refine FW.mono (FW.forL (S := Unit) (X := Bool) (fun (i22 : Nat) (s22 : Unit) f w => ∃ H : GH, St Ha wa H w [] ∧ Inc Ha H ∧ f 9 = Value.int .i64 ((i22 : Nat) : Int) ∧ f 0 = Value.int .i64 a0 ∧ f 1 = v1 ∧ f 7 = v1 ∧ f 8 = Value.int .i64 (len a1)) (fun q e f w => match q with | .go s22 => e = Exit.exit 0 ∧ (∃ H : GH, St Ha wa H w [] ∧ Inc Ha H ∧ f 0 = Value.int .i64 a0) | .rt x => ((e = Exit.ret) ∧ (fun e f w => (e = Exit.normal ∨ e = Exit.ret) ∧ ∀ a, Fr (δ := []) 36 a f → ∃ v, (results Tryz.f191 a.tmps).run Tryz.prog w = .ok v w ∧ (Sc Ha wa (Value.bool x)) (.returned v) w) e f w)) hq ⟨_, S0, (Inc.rfl _), rfl, rfl, rfl, rfl, rfl⟩ ?_ ?_) ?_
 ·
  clear hp hq
  rintro i22 y21 s22 f121 w120 ⟨H117, S118, i119, k122, k123, k124, k125, k126⟩ hx22 o211 hp
  refine FW.seq (FW.region ?_)
  refine FL.v (E.lssT k122 k126 (lss_len hx22)) ?_
  refine FL.nil (FW.seq ?_)
  refine FW.condT rfl rfl ?_
  refine FW.skip (FW.seq (FW.block (FW.seq (FW.region ?_))))
  refine FL.v (E.move k122) ?_
  obtain ⟨p127, cs128, pt129, l130, at131, rel132⟩ := p1.at (ix_nat hx22)
  obtain rfl := eI_open rel132
  refine FL.v (E.indexAddr te76 k125 k122 pt129) ?_
  refine FL.v (E.load rfl (run_load0 Tryz.isAgg3 ((at131.mono i119).now S118.sl) rfl)) ?_
  refine FL.v (E.assign (v := Value.int .i64 ((i22 : Nat) : Int)) rfl) ?_
  refine FL.v (E.assign (v := Value.int .i64 y21) rfl) ?_
  refine FL.nil (FW.seq ?_)
  refine FW.draw (fun w' => Run w120.heap.size H117 w120 H117 w') (by kernel_rfl) (by kernel_rfl) (run_drew S118.sl) ?_
  refine FD.val rfl rfl rfl (fun w' hw' => (E.move k123)) ?_
  refine FD.val rfl rfl rfl (fun w' hw' => (E.move (v := Value.int .i64 y21) rfl)) ?_
  refine FD.call rfl rfl rfl (fun w' hw' => (E.call Tryz.call241 (A2 rfl rfl))) (fun w' hw' => Calls.cls hw' (w_impl_isLiteral (S118.call hw').sl a0 y21)) ?_
  refine FD.val rfl rfl rfl (fun w' hw' => (E.not rfl)) ?_
  refine FD.val rfl rfl rfl (fun w' hw' => (E.move (v := Value.bool (!(PF.impl_isLiteral a0 y21))) rfl)) ?_
  obtain ⟨t164, hqt164, hp⟩ := bnd hp
  refine FD.cut 14 (fun f => f 0 = Value.int .i64 a0 ∧ f 1 = v1 ∧ f 7 = v1 ∧ f 8 = Value.int .i64 (len a1) ∧ f 9 = Value.int .i64 ((i22 : Nat) : Int) ∧ f 32 = Value.bool t164) ?_ ?_
  ·
   clear hp; have hp := hqt164; clear hqt164
   rcases ifB hp with ⟨c170, hp⟩ | ⟨c170, hp⟩
   ·
    refine FD.skip (wF_no rfl rfl rfl c170) rfl ?_
    refine FD.skip (wF_no rfl rfl rfl c170) rfl ?_
    refine FD.skip (wF_no rfl rfl rfl c170) rfl ?_
    refine FD.skip (wF_undef rfl rfl rfl) rfl ?_
    refine FD.skip (wF_undef rfl rfl rfl) rfl ?_
    refine FD.skip (wF_undef rfl rfl rfl) rfl ?_
    refine FD.skip (wF_undef rfl rfl rfl) rfl ?_
    refine FD.skip (wF_undef rfl rfl rfl) rfl ?_
    refine FD.skip (wF_undef rfl rfl rfl) rfl ?_
    refine FD.skip (wF_undef rfl rfl rfl) rfl ?_
    refine FD.skip (wF_undef rfl rfl rfl) rfl ?_
    refine FD.skip (wF_undef rfl rfl rfl) rfl ?_
    refine FD.skip (wF_no rfl rfl rfl c170) rfl ?_
    obtain rfl := Option.some.inj hp
    refine FD.val rfl rfl rfl (fun w' hw' => (E.pickT rfl c170 rfl)) ?_
    exact FD.nil ⟨k123, k124, k125, k126, k122, rfl⟩
   ·
    refine FD.val (wF_yes rfl rfl rfl c170) rfl rfl (fun w' hw' => (E.move (v := Value.int .i64 ((i22 : Nat) : Int)) rfl)) ?_
    refine FD.val (wF_yes rfl rfl rfl c170) rfl rfl (fun w' hw' => (E.gtr rfl rfl)) ?_
    refine FD.val (wF_yes rfl rfl rfl c170) rfl rfl (fun w' hw' => (E.move (v := Value.bool (decide (0 < ((i22 : Nat) : Int)))) rfl)) ?_
    obtain ⟨t179, hqt179, hp⟩ := bnd hp
    refine FD.cut 10 (fun f => f 0 = Value.int .i64 a0 ∧ f 1 = v1 ∧ f 7 = v1 ∧ f 8 = Value.int .i64 (len a1) ∧ f 9 = Value.int .i64 ((i22 : Nat) : Int) ∧ f 18 = Value.bool (!(PF.impl_isLiteral a0 y21)) ∧ f 31 = Value.bool t179) ?_ ?_
    ·
     clear hp; have hp := hqt179; clear hqt179
     rcases ifB hp with ⟨c185, hp⟩ | ⟨c185, hp⟩
     ·
      refine FD.val (wF_yes rfl rfl rfl c185) rfl rfl (fun w' hw' => (E.move (v := Value.int .i64 y21) rfl)) ?_
      refine FD.call (wF_yes rfl rfl rfl c185) rfl rfl (fun w' hw' => (E.call Tryz.call205 (A1 rfl))) (fun w' hw' => Calls.cls hw' (w_impl_abs (S118.call hw').sl y21)) ?_
      refine FD.val (wF_yes rfl rfl rfl c185) rfl rfl (fun w' hw' => (E.move k124)) ?_
      refine FD.val (wF_yes rfl rfl rfl c185) rfl rfl (fun w' hw' => (E.move (v := Value.int .i64 ((i22 : Nat) : Int)) rfl)) ?_
      refine FD.val (wF_yes rfl rfl rfl c185) rfl rfl (fun w' hw' => (E.sub rfl rfl)) ?_
      obtain ⟨x192, hx193, hp⟩ := bnd hp
      obtain ⟨p186, cs187, pt188, l189, at190, rel191⟩ := p1.at hx193
      obtain rfl := eI_open rel191
      refine FD.val (wF_yes rfl rfl rfl c185) rfl rfl (fun w' hw' => (E.indexAddr te76 rfl rfl pt188)) ?_
      refine FD.val (wF_yes rfl rfl rfl c185) rfl rfl (fun w' hw' => (E.load rfl (run_load0 Tryz.isAgg3 ((at190.mono i119).now (S118.call hw').sl) rfl))) ?_
      refine FD.call (wF_yes rfl rfl rfl c185) rfl rfl (fun w' hw' => (E.call Tryz.call205 (A1 rfl))) (fun w' hw' => Calls.cls hw' (w_impl_abs (S118.call hw').sl x192)) ?_
      refine FD.val (wF_yes rfl rfl rfl c185) rfl rfl (fun w' hw' => (E.leq rfl rfl)) ?_
      obtain rfl := Option.some.inj hp
      refine FD.val (wF_yes rfl rfl rfl c170) rfl rfl (fun w' hw' => (E.pickT rfl c185 rfl)) ?_
      exact FD.nil ⟨k123, k124, k125, k126, k122, rfl, rfl⟩
     ·
      refine FD.skip (wF_no rfl rfl rfl c185) rfl ?_
      refine FD.skip (wF_no rfl rfl rfl c185) rfl ?_
      refine FD.skip (wF_no rfl rfl rfl c185) rfl ?_
      refine FD.skip (wF_no rfl rfl rfl c185) rfl ?_
      refine FD.skip (wF_no rfl rfl rfl c185) rfl ?_
      refine FD.skip (wF_no rfl rfl rfl c185) rfl ?_
      refine FD.skip (wF_no rfl rfl rfl c185) rfl ?_
      refine FD.skip (wF_no rfl rfl rfl c185) rfl ?_
      refine FD.skip (wF_no rfl rfl rfl c185) rfl ?_
      obtain rfl := Option.some.inj hp
      refine FD.val (wF_yes rfl rfl rfl c170) rfl rfl (fun w' hw' => (E.pickF rfl c185 rfl)) ?_
      exact FD.nil ⟨k123, k124, k125, k126, k122, rfl, rfl⟩
    rintro f184 ⟨k194, k195, k196, k197, k198, k199, k200⟩
    obtain rfl := Option.some.inj hp
    refine FD.val rfl rfl rfl (fun w' hw' => (E.pickF k199 c170 k200)) ?_
    exact FD.nil ⟨k194, k195, k196, k197, k198, rfl⟩
  rintro f169 ⟨k201, k202, k203, k204, k205, k206⟩
  refine FD.nil ?_
  intro w207 r209
  have S208 := S118.call r209
  rcases ifB hp with ⟨c210, hp⟩ | ⟨c210, hp⟩
  ·
   refine FW.condT k206 c210 ?_
   refine FW.seq (FW.region ?_)
   refine FL.v (E.assign (v := Value.bool false) rfl) ?_
   refine FL.nil ?_
   refine FW.ret ?_
   obtain rfl := Option.some.inj hp
   exact ⟨nofun, rfl, ⟨.inr rfl, res1 rfl rfl ⟨rfl, S208.back⟩⟩⟩
  ·
   refine FW.condF k206 c210 ?_
   refine FW.skip (FW.region ?_)
   refine FL.v (E.add k205 rfl) ?_
   refine FL.v (E.move (v := Value.int .i64 (wr (((i22 : Nat) : Int) + 1))) rfl) ?_
   refine FL.nil ?_
   obtain rfl := Option.some.inj hp
   exact ⟨rfl, ⟨_, S208, i119, (nat_succ rfl (lt_of_get hx22) (p1.mono i119).le), k201, k202, k203, k204⟩⟩
 ·
  clear hp hq
  rintro s22 f225 w224 ⟨H221, S222, i223, k226, k227, k228, k229, k230⟩
  refine FW.seq (FW.region ?_)
  refine FL.v (E.lss k226 k230) ?_
  refine FL.nil (FW.seq ?_)
  refine FW.condF rfl dlt_len ?_
  refine FW.exit ?_
  exact ⟨nofun, rfl, ⟨_, S222, i223, k227⟩⟩
 ·
  clear hq
  intro e f216 w215 hD
  rcases q22 with s22 | x22
  ·
   obtain ⟨rfl, hD⟩ := hD
   obtain ⟨H212, S213, i214, k217⟩ := hD
   replace hp := el_go hp
   refine FW.seq (FW.region ?_)
   refine FL.v (E.move k217) ?_
   refine FL.call rfl rfl rfl (E.call Tryz.call146 (A1 rfl)) (w_impl_varsOk S213.sl a0) ?_
   rintro e w218 ⟨rfl, r219⟩
   refine ⟨_, rfl, ?_⟩
   have S220 := S213.call r219
   refine FL.v (E.assign (v := Value.bool (PF.impl_varsOk a0)) rfl) ?_
   refine FL.nil ?_
   refine FW.ret ?_
   obtain rfl := Option.some.inj hp
   exact ⟨.inr rfl, res1 rfl rfl ⟨rfl, S220.back⟩⟩
  ·
   obtain ⟨he, hL⟩ := hD
   replace hp := el_rt hp
   obtain rfl := Option.some.inj hp
   subst he
   exact hL

theorem w_impl_IsCnf {Ha : GH} {wa : World} (hs : Sl Ha wa) (a0 : Cnf) (v0_1 : Value) (p0_1 : RSl Ha (eL eI 1) 1 v0_1 a0.clauses) {r : Bool} (hp : (PF.impl_IsCnf a0) = some r) :
  Calls Tryz.prog 131 #[Value.agg #[Value.int .i64 a0.vars, v0_1]] wa (Sc Ha wa (Value.bool r)) := by
 unfold PF.impl_IsCnf at hp
 have S0 := St.init hs
 refine calls_go (N := 27) (args := [Value.agg #[Value.int .i64 a0.vars, v0_1]]) Tryz.func131 rfl rfl rfl ?_
 refine FW.seq (FW.region ?_)
 obtain ⟨b21, w22, run23, S24⟩ := S0.box (P := Tryz.prog) 30 [Value.int .i64 a0.vars, v0_1] (v := Value.agg #[Value.int .i64 a0.vars, v0_1]) rfl (ones_cons rfl (ones_cons p0_1.one ones_nil))
 refine FL.v (E.box rfl run23) ?_
 obtain ⟨H25, S26, i27, at28⟩ := S24.sealBox (i := 0) (l' := []) rfl rfl
 refine FL.v (E.assign (v := Value.bool false) rfl) ?_
 refine FL.nil (FW.seq (FW.seq (FW.region ?_)))
 refine FL.v (E.fieldAddr tf30_1 rfl) ?_
 refine FL.v (E.load rfl (run_load1 Tryz.isAgg22 (at28.now S26.sl) rfl)) ?_
 refine FL.v (E.lenP te22 rfl p0_1) ?_
 refine FL.v (E.move (v := Value.int .i64 0) rfl) ?_
 refine FL.nil ?_
 obtain ⟨q30, hq, hp⟩ := bndR hp
 refine FW.block ?_
 refine FW.mono (FW.forL (S := Unit) (X := Bool) (fun (i30 : Nat) (s30 : Unit) f w => ∃ H : GH, St Ha wa H w [] ∧ Inc H25 H ∧ f 8 = Value.int .i64 ((i30 : Nat) : Int) ∧ f 1 = Value.pointer (some ⟨b21, 0, none⟩) ∧ f 6 = v0_1 ∧ f 7 = Value.int .i64 (len a0.clauses)) (fun q e f w => match q with | .go s30 => e = Exit.exit 0 ∧ (∃ H : GH, St Ha wa H w [] ∧ Inc H25 H ∧ f 1 = Value.pointer (some ⟨b21, 0, none⟩)) | .rt x => ((e = Exit.ret) ∧ (fun e f w => (e = Exit.normal ∨ e = Exit.ret) ∧ ∀ a, Fr (δ := []) 27 a f → ∃ v, (results Tryz.f131 a.tmps).run Tryz.prog w = .ok v w ∧ (Sc Ha wa (Value.bool x)) (.returned v) w) e f w)) hq ⟨_, S26, (Inc.rfl _), rfl, rfl, rfl, rfl⟩ ?_ ?_) ?_
 ·
  clear hp hq
  rintro i30 y29 s30 f58 w57 ⟨H54, S55, i56, k59, k60, k61, k62⟩ hx30 o77 hp
  refine FW.seq (FW.region ?_)
  refine FL.v (E.lssT k59 k62 (lss_len hx30)) ?_
  refine FL.nil (FW.seq ?_)
  refine FW.condT rfl rfl ?_
  refine FW.skip (FW.seq (FW.block (FW.seq (FW.region ?_))))
  obtain ⟨p63, cs64, pt65, l66, at67, rel68⟩ := p0_1.at (ix_nat hx30)
  obtain ⟨v69, rfl, h70⟩ := eL_open rel68
  refine FL.v (E.indexAddr te22 k61 k59 pt65) ?_
  refine FL.v (E.load rfl (run_load0 Tryz.isAgg76 ((at67.mono (i27.tr i56)).now S55.sl) rfl)) ?_
  refine FL.v (E.assign (v := v69) rfl) ?_
  refine FL.nil (FW.seq (FW.region ?_))
  refine FL.v (E.fieldAddr tf30_0 k60) ?_
  refine FL.v (E.load rfl (run_load1 Tryz.isAgg3 ((at28.mono i56).now S55.sl) rfl)) ?_
  refine FL.v (E.move (v := v69) rfl) ?_
  obtain ⟨r71, hr72, hp⟩ := bnd hp
  refine FL.call rfl rfl rfl (E.call Tryz.call191 (A2 rfl rfl)) (w_impl_IsClause S55.sl a0.vars v69 y29 (h70.mono (i27.tr i56)) hr72) ?_
  rintro e w73 ⟨rfl, r74⟩
  refine ⟨_, rfl, ?_⟩
  have S75 := S55.call r74
  refine FL.v (E.not rfl) ?_
  refine FL.nil ?_
  rcases ifB hp with ⟨c76, hp⟩ | ⟨c76, hp⟩
  ·
   refine FW.condT rfl c76 ?_
   refine FW.seq (FW.region ?_)
   refine FL.v (E.assign (v := Value.bool false) rfl) ?_
   refine FL.nil ?_
   refine FW.ret ?_
   obtain rfl := Option.some.inj hp
   exact ⟨nofun, rfl, ⟨.inr rfl, res1 rfl rfl ⟨rfl, S75.back⟩⟩⟩
  ·
   refine FW.condF rfl c76 ?_
   refine FW.skip (FW.region ?_)
   refine FL.v (E.add k59 rfl) ?_
   refine FL.v (E.move (v := Value.int .i64 (wr (((i30 : Nat) : Int) + 1))) rfl) ?_
   refine FL.nil ?_
   obtain rfl := Option.some.inj hp
   exact ⟨rfl, ⟨_, S75, i56, (nat_succ rfl (lt_of_get hx30) (p0_1.mono (i27.tr i56)).le), k60, k61, k62⟩⟩
 ·
  clear hp hq
  rintro s30 f99 w98 ⟨H95, S96, i97, k100, k101, k102, k103⟩
  refine FW.seq (FW.region ?_)
  refine FL.v (E.lss k100 k103) ?_
  refine FL.nil (FW.seq ?_)
  refine FW.condF rfl dlt_len ?_
  refine FW.exit ?_
  exact ⟨nofun, rfl, ⟨_, S96, i97, k101⟩⟩
 ·
  clear hq
  intro e f82 w81 hD
  rcases q30 with s30 | x30
  ·
   obtain ⟨rfl, hD⟩ := hD
   obtain ⟨H78, S79, i80, k83⟩ := hD
   replace hp := el_go hp
   refine FW.seq (FW.region ?_)
   refine FL.v (E.fieldAddr tf30_0 k83) ?_
   refine FL.v (E.load rfl (run_load1 Tryz.isAgg3 ((at28.mono i80).now S79.sl) rfl)) ?_
   refine FL.call rfl rfl rfl (E.call Tryz.call146 (A1 rfl)) (w_impl_varsOk S79.sl a0.vars) ?_
   rintro e w84 ⟨rfl, r85⟩
   refine ⟨_, rfl, ?_⟩
   have S86 := S79.call r85
   refine FL.v (E.move (v := Value.bool (PF.impl_varsOk a0.vars)) rfl) ?_
   refine FL.cut 5 (fun f w => ∃ H : GH, St Ha wa H w [] ∧ Inc H78 H ∧ f 26 = Value.bool (bif (PF.impl_varsOk a0.vars) then (decide ((len a0.clauses) ≤ 60)) else false)) ?_ ?_
   ·
    rcases bcase (PF.impl_varsOk a0.vars) with c93 | c93
    ·
     refine FL.val (wF_yes rfl rfl rfl c93) rfl rfl (E.fieldAddr tf30_1 k83) ?_
     refine FL.val (wF_yes rfl rfl rfl c93) rfl rfl (E.load rfl (run_load1 Tryz.isAgg22 ((at28.mono i80).now S86.sl) rfl)) ?_
     refine FL.val (wF_yes rfl rfl rfl c93) rfl rfl (E.lenP te22 rfl p0_1) ?_
     refine FL.val (wF_yes rfl rfl rfl c93) rfl rfl (E.leq rfl rfl) ?_
     refine FL.v (E.pickT rfl c93 rfl) ?_
     exact FL.nil ⟨rfl, _, S86, (Inc.rfl _), (congrArg Value.bool (bifT c93).symm)⟩
    ·
     refine FL.skip (wF_no rfl rfl rfl c93) rfl ?_
     refine FL.skip (wF_no rfl rfl rfl c93) rfl ?_
     refine FL.skip (wF_no rfl rfl rfl c93) rfl ?_
     refine FL.skip (wF_no rfl rfl rfl c93) rfl ?_
     refine FL.v (E.pickF rfl c93 rfl) ?_
     exact FL.nil ⟨rfl, _, S86, (Inc.rfl _), (congrArg Value.bool (bifF c93).symm)⟩
   rintro f92 w91 ⟨H88, S89, i90, k94⟩
   refine FL.v (E.assign k94) ?_
   refine FL.nil ?_
   refine FW.ret ?_
   obtain rfl := Option.some.inj hp
   exact ⟨.inr rfl, res1 rfl rfl ⟨rfl, S89.back⟩⟩
  ·
   obtain ⟨he, hL⟩ := hD
   replace hp := el_rt hp
   obtain rfl := Option.some.inj hp
   subst he
   exact hL

@[reducible] def p_impl_family_cnf (H0 : GH) (w0 : World) (Ha : GH) (L : List MO) (b0 : Nat) (r : (Cnf × Bool × family)) : Ending → World → Prop :=
 fun e w' => ∃ H' : GH, ∃ v0_1 : Value, ∃ v0_1r : Value, e = .returned (Value.tuple #[Value.agg #[Value.int .i64 r.1.vars, v0_1], Value.bool r.2.1]) ∧ (St H0 w0 H' w' (.box b0 226 [Value.int .i64 r.2.2.vars, v0_1r] :: L) ∧ Inc Ha H') ∧ RSl H' (eL eI 1) 1 v0_1 r.1.clauses ∧ RSl H' (eL eI 1) 1 v0_1r r.2.2.clauses
theorem w_impl_family_cnf {H0 Ha : GH} {w0 wa : World} {L : List MO} {a0 : family} {b0 : Nat} {v0_1 : Value} (S0 : St H0 w0 Ha wa (.box b0 226 [Value.int .i64 a0.vars, v0_1] :: L)) (p0_1 : RSl Ha (eL eI 1) 1 v0_1 a0.clauses) {r : (Cnf × Bool × family)} (hp : (PF.impl_family_cnf a0) = some r) :
  Calls Tryz.prog 224 #[Value.pointer (some (⟨b0, 0, none⟩ : Addr))] wa (p_impl_family_cnf H0 w0 Ha L b0 r) := by
 unfold PF.impl_family_cnf at hp
 refine calls_go (N := 19) (args := [Value.pointer (some (⟨b0, 0, none⟩ : Addr))]) Tryz.func224 rfl rfl rfl ?_
 refine FW.seq (FW.region ?_)
 obtain ⟨b21, w22, run23, S24⟩ := S0.alloc (P := Tryz.prog) 30 [Value.int .i64 0, Value.slice none 0 0] Tryz.zeroValue30 rfl (ones_cons rfl (ones_cons rfl ones_nil))
 refine FL.v (E.alloc run23) ?_
 refine FL.v (E.assign (v := Value.bool false) rfl) ?_
 refine FL.nil (FW.seq ?_)
 refine FW.drawB (SX H0 w0 Ha (.box b0 226 [Value.int .i64 a0.vars, v0_1] :: L)) (fun f w => ∃ H : GH, ∃ q39 : Addr, ∃ v41 : Value, St H0 w0 H w (.box b21 30 [Value.int .i64 0, Value.slice none 0 0] :: .box b0 226 [Value.int .i64 a0.vars, v0_1] :: L) ∧ Inc Ha H ∧ RSl H (eL eI 1) 1 v41 a0.clauses ∧ CAt H q39 [Value.int .i64 a0.vars, v41] ∧ f 2 = Value.pointer (some (⟨b21, 0, none⟩ : Addr)) ∧ f 4 = Value.pointer (some q39)) (by kernel_rfl) S24.sl ?_ ?_
 ·
  intro w25 r26
  have S27 := S24.call r26
  refine FB.t (i := 0) (bs 11 1) rfl (SP.nil ⟨_, (S27.selT (a := [.box b21 30 [Value.int .i64 0, Value.slice none 0 0], .box b0 226 [Value.int .i64 a0.vars, v0_1]]) (l' := [.box b0 226 [Value.int .i64 a0.vars, v0_1]]) [1] (by decide) rfl), (Inc.rfl _)⟩) rfl (fun w' hw' => (E.move (v := Value.pointer (some (⟨b0, 0, none⟩ : Addr))) rfl)) ?_
  refine FB.t (i := 1) (bs 11 3) rfl (SP.nil ⟨_, (S27.selT (a := [.box b21 30 [Value.int .i64 0, Value.slice none 0 0], .box b0 226 [Value.int .i64 a0.vars, v0_1]]) (l' := [.box b0 226 [Value.int .i64 a0.vars, v0_1]]) [1] (by decide) rfl), (Inc.rfl _)⟩) rfl (fun w' hw' => (E.nilCheck rfl)) ?_
  refine FB.t (i := 2) (bs 11 7) rfl (SP.nil ⟨_, (S27.selT (a := [.box b21 30 [Value.int .i64 0, Value.slice none 0 0], .box b0 226 [Value.int .i64 a0.vars, v0_1]]) (l' := [.box b0 226 [Value.int .i64 a0.vars, v0_1]]) [1] (by decide) rfl), (Inc.rfl _)⟩) rfl (fun w' hw' => (E.fieldAddr tf226_0 rfl)) ?_
  refine FB.t (i := 3) (bs 11 15) rfl (SP.nil ⟨_, (S27.selT (a := [.box b21 30 [Value.int .i64 0, Value.slice none 0 0], .box b0 226 [Value.int .i64 a0.vars, v0_1]]) (l' := [.box b0 226 [Value.int .i64 a0.vars, v0_1]]) [1] (by decide) rfl), (Inc.rfl _)⟩) rfl (fun w' hw' => (E.load rfl (run_load1 Tryz.isAgg3 (SX.box_now hw' (i := 0) rfl) rfl))) ?_
  refine FB.t (i := 4) (bs 11 31) rfl (SP.nil ⟨_, (S27.selT (a := [.box b21 30 [Value.int .i64 0, Value.slice none 0 0], .box b0 226 [Value.int .i64 a0.vars, v0_1]]) (l' := [.box b0 226 [Value.int .i64 a0.vars, v0_1]]) [1] (by decide) rfl), (Inc.rfl _)⟩) rfl (fun w' hw' => (E.move (v := Value.pointer (some (⟨b0, 0, none⟩ : Addr))) rfl)) ?_
  refine FB.t (i := 5) (bs 11 63) rfl (SP.nil ⟨_, (S27.selT (a := [.box b21 30 [Value.int .i64 0, Value.slice none 0 0], .box b0 226 [Value.int .i64 a0.vars, v0_1]]) (l' := [.box b0 226 [Value.int .i64 a0.vars, v0_1]]) [1] (by decide) rfl), (Inc.rfl _)⟩) rfl (fun w' hw' => (E.nilCheck rfl)) ?_
  refine FB.t (i := 6) (bs 11 127) rfl (SP.nil ⟨_, (S27.selT (a := [.box b21 30 [Value.int .i64 0, Value.slice none 0 0], .box b0 226 [Value.int .i64 a0.vars, v0_1]]) (l' := [.box b0 226 [Value.int .i64 a0.vars, v0_1]]) [1] (by decide) rfl), (Inc.rfl _)⟩) rfl (fun w' hw' => (E.fieldAddr tf226_1 rfl)) ?_
  refine FB.t (i := 7) (bs 11 255) rfl (SP.nil ⟨_, (S27.selT (a := [.box b21 30 [Value.int .i64 0, Value.slice none 0 0], .box b0 226 [Value.int .i64 a0.vars, v0_1]]) (l' := [.box b0 226 [Value.int .i64 a0.vars, v0_1]]) [1] (by decide) rfl), (Inc.rfl _)⟩) rfl (fun w' hw' => (E.load rfl (run_load1 Tryz.isAgg22 (SX.box_now hw' (i := 0) rfl) rfl))) ?_
  refine FB.t (i := 8) (bs 11 511) rfl (SP.nil ⟨_, (S27.selT (a := [.box b21 30 [Value.int .i64 0, Value.slice none 0 0], .box b0 226 [Value.int .i64 a0.vars, v0_1]]) (l' := [.box b0 226 [Value.int .i64 a0.vars, v0_1]]) [1] (by decide) rfl), (Inc.rfl _)⟩) rfl (fun w' hw' => (E.build (B2 rfl rfl) (run_build _ 30 #[(0, Value.int .i64 a0.vars), (1, v0_1)] #[Value.int .i64 a0.vars, v0_1] (by obtain ⟨_, _, rfl⟩ := RSl.ln p0_1; rfl)))) ?_
  refine FB.all1 (i := 9) (by kernel_rfl) ?_
  ·
   obtain ⟨b28, w29, run30, S31⟩ := S27.alloc (P := Tryz.prog) 30 [Value.int .i64 0, Value.slice none 0 0] Tryz.zeroValue30 rfl (ones_cons rfl (ones_cons rfl ones_nil))
   refine FC.val (l' := (bs 11 1023)) rfl (by kernel_rfl) rfl rfl rfl (E.alloc run30) ?_
   refine ⟨(SP.nil ⟨_, (S31.selT (a := [.box b28 30 [Value.int .i64 0, Value.slice none 0 0], .box b21 30 [Value.int .i64 0, Value.slice none 0 0], .box b0 226 [Value.int .i64 a0.vars, v0_1]]) (l' := [.box b0 226 [Value.int .i64 a0.vars, v0_1]]) [2] (by decide) rfl), (Inc.rfl _)⟩), ?_⟩
   refine FB.all1 (i := 10) (by kernel_rfl) ?_
   ·
    obtain ⟨w32, run33, S34⟩ := S31.store0 (P := Tryz.prog) (t := 30) (i := 0) (cs' := [Value.int .i64 a0.vars, v0_1]) (l' := (.box b28 30 [Value.int .i64 a0.vars, v0_1] :: .box b21 30 [Value.int .i64 0, Value.slice none 0 0] :: .box b0 226 [Value.int .i64 a0.vars, v0_1] :: L)) (v := Value.agg #[Value.int .i64 a0.vars, v0_1]) (c := [Value.int .i64 a0.vars, v0_1]) rfl Tryz.sizeOf30 rfl rfl (ones_cons rfl (ones_cons p0_1.one ones_nil)) (Nat.le_of_ble_eq_true rfl) rfl rfl
    refine FC.act (l' := (bs 11 2047)) rfl (by kernel_rfl) rfl rfl (E.store rfl rfl run33) ?_
    obtain ⟨H35, S36, i37, at38⟩ := S34.sealBox (i := 0) (l' := (.box b21 30 [Value.int .i64 0, Value.slice none 0 0] :: .box b0 226 [Value.int .i64 a0.vars, v0_1] :: L)) rfl rfl
    refine ⟨(SP.nil ⟨_, (S36.selT (a := [.box b21 30 [Value.int .i64 0, Value.slice none 0 0], .box b0 226 [Value.int .i64 a0.vars, v0_1]]) (l' := [.box b0 226 [Value.int .i64 a0.vars, v0_1]]) [1] (by decide) rfl), i37⟩), ?_⟩
    exact FB.done (by kernel_rfl) ⟨_, _, _, S36, i37, (p0_1.mono i37), at38, rfl, rfl⟩
 ·
  rintro f47 w46 ⟨H43, q39, v41, S44, i45, h42, at40, k48, k49⟩
  refine FW.seq (FW.seq (FW.region ?_))
  refine FL.v (E.load k49 (run_loadA Tryz.isAgg30 Tryz.sizeOf30 (at40.now S44.sl) rfl)) ?_
  obtain ⟨r50, hr51, hp⟩ := bnd hp
  refine FL.call rfl rfl rfl (E.call Tryz.call131 (A1 rfl)) (w_impl_IsCnf S44.sl (Cnf.mk a0.vars a0.clauses) v41 h42 hr51) ?_
  rintro e w52 ⟨rfl, r53⟩
  refine ⟨_, rfl, ?_⟩
  have S54 := S44.call r53
  refine FL.v (E.not rfl) ?_
  refine FL.nil ?_
  rcases ifB hp with ⟨c55, hp⟩ | ⟨c55, hp⟩
  ·
   refine FW.condT rfl c55 ?_
   refine FW.seq (FW.region ?_)
   refine FL.v (E.build (B0) (run_build _ 30 #[] #[Value.int .i64 0, Value.slice none 0 0] (by rfl))) ?_
   obtain ⟨w56, run57, S58⟩ := S54.store0 (P := Tryz.prog) (t := 30) (i := 0) (cs' := [Value.int .i64 0, Value.slice none 0 0]) (l' := (.box b21 30 [Value.int .i64 0, Value.slice none 0 0] :: .box b0 226 [Value.int .i64 a0.vars, v0_1] :: L)) (v := Value.agg #[Value.int .i64 0, Value.slice none 0 0]) (c := [Value.int .i64 0, Value.slice none 0 0]) rfl Tryz.sizeOf30 rfl rfl (ones_cons rfl (ones_cons rfl ones_nil)) (Nat.le_of_ble_eq_true rfl) rfl rfl
   refine FL.act rfl rfl (E.store k48 rfl run57) ?_
   refine FL.v (E.assign (v := Value.bool false) rfl) ?_
   refine FL.nil ?_
   refine FW.ret ?_
   obtain rfl := Option.some.inj hp
   exact ⟨.inr rfl, resC2 rfl k48 (loadVar_A Tryz.isAgg30 Tryz.sizeOf30 (S58.box_now (i := 0) rfl) rfl) rfl ⟨_, _, _, rfl, ⟨(S58.selT (a := [.box b21 30 [Value.int .i64 0, Value.slice none 0 0], .box b0 226 [Value.int .i64 a0.vars, v0_1]]) (l' := [.box b0 226 [Value.int .i64 a0.vars, v0_1]]) [1] (by decide) rfl), i45⟩, (RSl.nil _ _ _), (p0_1.mono i45)⟩⟩
  ·
   refine FW.condF rfl c55 ?_
   refine FW.skip (FW.seq (FW.region ?_))
   refine FL.v (E.load k49 (run_loadA Tryz.isAgg30 Tryz.sizeOf30 (at40.now S54.sl) rfl)) ?_
   obtain ⟨w59, run60, S61⟩ := S54.store0 (P := Tryz.prog) (t := 30) (i := 0) (cs' := [Value.int .i64 a0.vars, v41]) (l' := (.box b21 30 [Value.int .i64 a0.vars, v41] :: .box b0 226 [Value.int .i64 a0.vars, v0_1] :: L)) (v := Value.agg #[Value.int .i64 a0.vars, v41]) (c := [Value.int .i64 a0.vars, v41]) rfl Tryz.sizeOf30 rfl rfl (ones_cons rfl (ones_cons h42.one ones_nil)) (Nat.le_of_ble_eq_true rfl) rfl rfl
   refine FL.act rfl rfl (E.store k48 rfl run60) ?_
   refine FL.v (E.assign (v := Value.bool true) rfl) ?_
   refine FL.nil ?_
   refine FW.ret ?_
   obtain rfl := Option.some.inj hp
   exact ⟨.inr rfl, resC2 rfl k48 (loadVar_A Tryz.isAgg30 Tryz.sizeOf30 (S61.box_now (i := 0) rfl) rfl) rfl ⟨_, _, _, rfl, ⟨(S61.selT (a := [.box b21 30 [Value.int .i64 a0.vars, v41], .box b0 226 [Value.int .i64 a0.vars, v0_1]]) (l' := [.box b0 226 [Value.int .i64 a0.vars, v0_1]]) [1] (by decide) rfl), i45⟩, h42, (p0_1.mono i45)⟩⟩

@[reducible] def p_impl_Pigeonhole (Ha : GH) (wa : World) (r : (Cnf × Bool)) : Ending → World → Prop :=
  fun e w' => ∃ H' : GH, ∃ v0_1 : Value, e = .returned (Value.tuple #[Value.agg #[Value.int .i64 r.1.vars, v0_1], Value.bool r.2]) ∧ Run wa.heap.size Ha wa H' w' ∧ RSl H' (eL eI 1) 1 v0_1 r.1.clauses
set_option maxHeartbeats 4000000 in
theorem w_impl_Pigeonhole {Ha : GH} {wa : World} (hs : Sl Ha wa) (a0 : Int) (a1 : Int) {r : (Cnf × Bool)} (hp : (PF.impl_Pigeonhole a0 a1) = some r) :
    Calls Tryz.prog 176 #[Value.int .i64 a0, Value.int .i64 a1] wa (p_impl_Pigeonhole Ha wa r) := by
  unfold PF.impl_Pigeonhole at hp
  have S0 := St.init hs
  refine calls_go (N := 84) (args := [Value.int .i64 a0, Value.int .i64 a1]) Tryz.func176 rfl rfl rfl ?_
  refine FW.seq (FW.region ?_)
  obtain ⟨b21, w22, run23, S24⟩ := S0.alloc (P := Tryz.prog) 30 [Value.int .i64 0, Value.slice none 0 0] Tryz.zeroValue30 rfl (ones_cons rfl (ones_cons rfl ones_nil))
  refine FL.v (E.alloc run23) ?_
  refine FL.v (E.assign (v := Value.bool false) rfl) ?_
  refine FL.nil (FW.seq (FW.seq (FW.region ?_)))
  refine FL.v (E.move (v := Value.int .i64 a0) rfl) ?_
  refine FL.call rfl rfl rfl (E.call Tryz.call126 (A3 rfl rfl rfl)) (w_impl_within S24.sl a0 0 12) ?_
  rintro e w25 ⟨rfl, r26⟩
  refine ⟨_, rfl, ?_⟩
  have S27 := S24.call r26
  refine FL.v (E.not rfl) ?_
  refine FL.v (E.move (v := Value.bool (!(PF.impl_within a0 0 12))) rfl) ?_
  refine FL.cut 4 (fun f w => ∃ H : GH, St Ha wa H w [.box b21 30 [Value.int .i64 0, Value.slice none 0 0]] ∧ Inc Ha H ∧ f 0 = Value.int .i64 a0 ∧ f 1 = Value.int .i64 a1 ∧ f 4 = Value.pointer (some (⟨b21, 0, none⟩ : Addr)) ∧ f 20 = Value.bool (bif (!(PF.impl_within a0 0 12)) then true else (!(PF.impl_within a1 0 12)))) ?_ ?_
  ·
    rcases bcase (!(PF.impl_within a0 0 12)) with c37 | c37
    ·
      refine FL.skip (wF_no rfl rfl rfl c37) rfl ?_
      refine FL.skip (wF_no rfl rfl rfl c37) rfl ?_
      refine FL.skip (wF_no rfl rfl rfl c37) rfl ?_
      refine FL.v (E.pickT rfl c37 rfl) ?_
      exact FL.nil ⟨rfl, _, S27, (Inc.rfl _), rfl, rfl, rfl, (congrArg Value.bool (bifT c37).symm)⟩
    ·
      refine FL.val (wF_yes rfl rfl rfl c37) rfl rfl (E.move (v := Value.int .i64 a1) rfl) ?_
      refine FL.call (wF_yes rfl rfl rfl c37) rfl rfl (E.call Tryz.call126 (A3 rfl rfl rfl)) (w_impl_within S27.sl a1 0 12) ?_
      rintro e w38 ⟨rfl, r39⟩
      refine ⟨_, rfl, ?_⟩
      have S40 := S27.call r39
      refine FL.val (wF_yes rfl rfl rfl c37) rfl rfl (E.not rfl) ?_
      refine FL.v (E.pickF rfl c37 rfl) ?_
      exact FL.nil ⟨rfl, _, S40, (Inc.rfl _), rfl, rfl, rfl, (congrArg Value.bool (bifF c37).symm)⟩
  rintro f36 w35 ⟨H32, S33, i34, k41, k42, k43, k44⟩
  refine FL.nil ?_
  rcases ifB hp with ⟨c45, hp⟩ | ⟨c45, hp⟩
  ·
    refine FW.condT k44 c45 ?_
    refine FW.seq (FW.region ?_)
    refine FL.v (E.build (B0) (run_build _ 30 #[] #[Value.int .i64 0, Value.slice none 0 0] (by rfl))) ?_
    obtain ⟨w46, run47, S48⟩ := S33.store0 (P := Tryz.prog) (t := 30) (i := 0) (cs' := [Value.int .i64 0, Value.slice none 0 0]) (l' := [.box b21 30 [Value.int .i64 0, Value.slice none 0 0]]) (v := Value.agg #[Value.int .i64 0, Value.slice none 0 0]) (c := [Value.int .i64 0, Value.slice none 0 0]) rfl Tryz.sizeOf30 rfl rfl (ones_cons rfl (ones_cons rfl ones_nil)) (Nat.le_of_ble_eq_true rfl) rfl rfl
    refine FL.act rfl rfl (E.store k43 rfl run47) ?_
    refine FL.v (E.assign (v := Value.bool false) rfl) ?_
    refine FL.nil ?_
    refine FW.ret ?_
    obtain rfl := Option.some.inj hp
    exact ⟨.inr rfl, resC2 rfl k43 (loadVar_A Tryz.isAgg30 Tryz.sizeOf30 (S48.box_now (i := 0) rfl) rfl) rfl ⟨_, _, rfl, S48.run, (RSl.nil _ _ _)⟩⟩
  ·
    refine FW.condF k44 c45 ?_
    refine FW.skip (FW.seq (FW.region ?_))
    refine FL.v (E.move k41) ?_
    refine FL.v (E.move k42) ?_
    refine FL.v (E.mul rfl rfl) ?_
    refine FL.v (E.build (B1 rfl) (run_build _ 226 #[(0, Value.int .i64 (wr (a0 * a1)))] #[Value.int .i64 (wr (a0 * a1)), Value.slice none 0 0] (by rfl))) ?_
    have S53 := S33.nil 76 1
    have els54 : Els (up wa.heap.size H32) (eL eI 1) 1 [] [] := Els.nil
    obtain ⟨b49, w50, run51, S52⟩ := S53.box (P := Tryz.prog) 226 [Value.int .i64 (wr (a0 * a1)), (Value.slice none 0 0)] (v := Value.agg #[Value.int .i64 (wr (a0 * a1)), Value.slice none 0 0]) rfl (ones_cons rfl (ones_cons (Ln.one (S53.row_ln (i := 0) rfl)) ones_nil))
    refine FL.v (E.box rfl run51) ?_
    refine FL.v (E.assign (v := Value.pointer (some (⟨b49, 0, none⟩ : Addr))) rfl) ?_
    refine FL.nil (FW.seq (FW.seq (FW.region ?_)))
    refine FL.v (E.move k41) ?_
    refine FL.v (E.move (v := Value.int .i64 0) rfl) ?_
    refine FL.nil ?_
    obtain ⟨m55, hchk56, hp⟩ := bnd hp
    obtain ⟨q56, hq, hp⟩ := bndR hp
    refine FW.block ?_
    refine FW.mono (FW.forR (S := ((List (List Int)) × Int)) (X := Empty) (fun (i56 : Nat) (s56 : ((List (List Int)) × Int)) f w => ∃ H : GH, ∃ v28 : Value, ∃ n29 : Nat, ∃ cs30 : List Value, St Ha wa H w [.box b49 226 [Value.int .i64 s56.2, v28], .row 76 1 v28 n29 cs30, .box b21 30 [Value.int .i64 0, Value.slice none 0 0]] ∧ Inc H32 H ∧ Els (up wa.heap.size H) (eL eI 1) 1 cs30 s56.1 ∧ (bl cs30).Nodup ∧ f 28 = Value.int .i64 ((i56 : Nat) : Int) ∧ f 0 = Value.int .i64 a0 ∧ f 1 = Value.int .i64 a1 ∧ f 4 = Value.pointer (some (⟨b21, 0, none⟩ : Addr)) ∧ f 6 = Value.pointer (some (⟨b49, 0, none⟩ : Addr)) ∧ f 27 = Value.int .i64 a0) (fun (q : Rs ((List (List Int)) × Int) Empty) e f w => match q with | .go s56 => e = Exit.exit 0 ∧ (∃ H : GH, ∃ v28 : Value, ∃ n29 : Nat, ∃ cs30 : List Value, St Ha wa H w [.box b49 226 [Value.int .i64 s56.2, v28], .row 76 1 v28 n29 cs30, .box b21 30 [Value.int .i64 0, Value.slice none 0 0]] ∧ Inc H32 H ∧ Els (up wa.heap.size H) (eL eI 1) 1 cs30 s56.1 ∧ (bl cs30).Nodup ∧ f 0 = Value.int .i64 a0 ∧ f 1 = Value.int .i64 a1 ∧ f 4 = Value.pointer (some (⟨b21, 0, none⟩ : Addr)) ∧ f 6 = Value.pointer (some (⟨b49, 0, none⟩ : Addr))) | .rt x => x.elim) hq ⟨_, _, _, _, S52, (Inc.rfl _), els54, (show (bl []).Nodup from List.nodup_nil), rfl, k41, k42, k43, rfl, rfl⟩ ?_ ?_) ?_
    ·
      clear hp hq
      rintro i56 s56 f62 w61 ⟨H58, v28, n29, cs30, S59, i60, els31, nd57, k63, k64, k65, k66, k67, k68⟩ hi56 hj56 o185 hp
      refine FW.seq (FW.region ?_)
      refine FL.v (E.lssT k63 k68 (lss_chk hj56 hchk56)) ?_
      refine FL.nil (FW.seq ?_)
      refine FW.condT rfl rfl ?_
      refine FW.skip (FW.seq (FW.block (FW.seq (FW.region ?_))))
      refine FL.v (E.move k63) ?_
      refine FL.v (E.assign (v := Value.int .i64 ((i56 : Nat) : Int)) rfl) ?_
      refine FL.nil (FW.seq (FW.region ?_))
      refine FL.v (E.assign (v := Value.slice none 0 0) rfl) ?_
      refine FL.nil (FW.seq (FW.seq (FW.region ?_)))
      refine FL.v (E.assign (v := Value.int .i64 1) rfl) ?_
      refine FL.nil ?_
      obtain ⟨q69, hq, hp⟩ := bndR hp
      refine FW.block ?_
      refine FW.mono (FW.iter (S := ((List Int) × Int)) (X := Empty) (fun (s69 : ((List Int) × Int)) f w => ∃ H : GH, ∃ v70 : Value, ∃ n71 : Nat, ∃ cs72 : List Value, St Ha wa H w [.box b49 226 [Value.int .i64 s56.2, v28], .row 76 1 v28 n29 cs30, .box b21 30 [Value.int .i64 0, Value.slice none 0 0], .row 3 1 v70 n71 cs72] ∧ Inc H58 H ∧ Els (up wa.heap.size H) eI 1 cs72 s69.1 ∧ f 0 = Value.int .i64 a0 ∧ f 1 = Value.int .i64 a1 ∧ f 4 = Value.pointer (some (⟨b21, 0, none⟩ : Addr)) ∧ f 6 = Value.pointer (some (⟨b49, 0, none⟩ : Addr)) ∧ f 7 = Value.int .i64 ((i56 : Nat) : Int) ∧ f 8 = v70 ∧ f 9 = Value.int .i64 s69.2 ∧ f 27 = Value.int .i64 a0 ∧ f 28 = Value.int .i64 ((i56 : Nat) : Int)) (fun (q : Rs ((List Int) × Int) Empty) e f w => match q with | .go s69 => e = Exit.exit 2 ∧ (∃ H : GH, ∃ v70 : Value, ∃ n71 : Nat, ∃ cs72 : List Value, St Ha wa H w [.box b49 226 [Value.int .i64 s56.2, v28], .row 76 1 v28 n29 cs30, .box b21 30 [Value.int .i64 0, Value.slice none 0 0], .row 3 1 v70 n71 cs72] ∧ Inc H58 H ∧ Els (up wa.heap.size H) eI 1 cs72 s69.1 ∧ f 0 = Value.int .i64 a0 ∧ f 1 = Value.int .i64 a1 ∧ f 4 = Value.pointer (some (⟨b21, 0, none⟩ : Addr)) ∧ f 6 = Value.pointer (some (⟨b49, 0, none⟩ : Addr)) ∧ f 8 = v70 ∧ f 27 = Value.int .i64 a0 ∧ f 28 = Value.int .i64 ((i56 : Nat) : Int)) | .rt x => x.elim) hq ⟨_, _, _, _, ((S59.nil 3 1).sel [1, 2, 3, 0] (by decide) rfl), (Inc.rfl _), Els.nil, k64, k65, k66, k67, rfl, rfl, rfl, k68, k63⟩ ?_) ?_
      ·
        clear hp hq
        rintro s69 f79 w78 ⟨H74, v70, n71, cs72, S75, i77, els73, k80, k81, k82, k83, k84, k85, k86, k87, k88⟩ o106 hp
        refine FW.seq (FW.seq (FW.region ?_))
        refine FL.v (E.move k86) ?_
        refine FL.v (E.move k81) ?_
        refine FL.v (E.leq rfl rfl) ?_
        refine FL.nil ?_
        rcases ifB hp with ⟨c89, hp⟩ | ⟨c89, hp⟩
        ·
          refine FW.condT rfl c89 ?_
          refine FW.skip (FW.seq (FW.block (FW.region ?_)))
          refine FL.v (E.move k85) ?_
          refine FL.v (E.move k84) ?_
          refine FL.v (E.move k81) ?_
          refine FL.v (E.mul rfl rfl) ?_
          refine FL.v (E.move k86) ?_
          refine FL.v (E.add rfl rfl) ?_
          obtain ⟨v90, w91, run92, S93⟩ := S75.buildSlice (P := Tryz.prog) te76 [Value.int .i64 (wr ((wr (((i56 : Nat) : Int) * a1)) + s69.2))] (parts := #[(0, Value.int .i64 (wr ((wr (((i56 : Nat) : Int) * a1)) + s69.2)))]) (cells := [Value.int .i64 (wr ((wr (((i56 : Nat) : Int) * a1)) + s69.2))]) rfl (szs_cons rfl szs_nil) (fc_cons rfl fc_nil) (ones_cons rfl ones_nil) (Nat.le_of_ble_eq_true rfl)
          have els94 : Els (up wa.heap.size H74) eI 1 [Value.int .i64 (wr ((wr (((i56 : Nat) : Int) * a1)) + s69.2))] [(wr ((wr (((i56 : Nat) : Int) * a1)) + s69.2))] := (Els.snoc (H := (up wa.heap.size H74)) (E := eI) (k := 1) (c := [Value.int .i64 (wr ((wr (((i56 : Nat) : Int) * a1)) + s69.2))]) (x := (wr ((wr (((i56 : Nat) : Int) * a1)) + s69.2))) Els.nil rfl rfl)
          refine FL.v (E.buildSlice (B1 rfl) run92) ?_
          obtain ⟨xs95, hz96, hp⟩ := bnd hp
          obtain ⟨v97, w100, n98, cs99, run101, S102, els103, ce104⟩ := S93.appendO (P := Tryz.prog) te76 (i := 4) (j := 0) rfl els73 rfl els94 hz96
          have S102 : St Ha wa H74 w100 [.row 3 1 v90 1 [Value.int .i64 (wr ((wr (((i56 : Nat) : Int) * a1)) + s69.2))], .box b49 226 [Value.int .i64 s56.2, v28], .row 76 1 v28 n29 cs30, .box b21 30 [Value.int .i64 0, Value.slice none 0 0], .row 3 1 v97 n98 cs99] := S102
          have S105 : St Ha wa H74 w100 [.box b49 226 [Value.int .i64 s56.2, v28], .row 76 1 v28 n29 cs30, .box b21 30 [Value.int .i64 0, Value.slice none 0 0], .row 3 1 v97 n98 cs99] := S102.drop 0
          refine FL.v (E.append rfl rfl run101) ?_
          refine FL.v (E.assign (v := v97) rfl) ?_
          refine FL.nil (FW.region ?_)
          refine FL.v (E.move k86) ?_
          refine FL.v (E.add rfl rfl) ?_
          refine FL.v (E.assign (v := Value.int .i64 (wr (s69.2 + 1))) rfl) ?_
          refine FL.nil ?_
          obtain rfl := Option.some.inj hp
          exact ⟨rfl, ⟨_, _, _, _, S105, i77, els103, k80, k81, k82, k83, k84, rfl, rfl, k87, k88⟩⟩
        ·
          refine FW.condF rfl c89 ?_
          refine FW.exit ?_
          obtain rfl := Option.some.inj hp
          exact ⟨nofun, rfl, ⟨_, _, _, _, S75, i77, els73, k80, k81, k82, k83, k85, k87, k88⟩⟩
      ·
        clear hq
        intro e f111 w110 hD
        rcases q69 with s69 | x69
        ·
          obtain ⟨rfl, hD⟩ := hD
          obtain ⟨H107, v70, n71, cs72, S108, i109, els73, k112, k113, k114, k115, k116, k117, k118⟩ := hD
          replace hp := el_go hp
          refine FW.region ?_
          refine FL.v (E.move k115) ?_
          refine FL.v (E.move k116) ?_
          obtain ⟨s119, hq119, hp⟩ := bnd hp
          obtain ⟨R119, hR119⟩ : ∃ R119 : ((List (List Int)) × Int) → Ending → World → Prop, R119 = (fun s119 e w => ∃ H : GH, ∃ v120 : Value, ∃ n121 : Nat, ∃ cs122 : List Value, e = Ending.returned (Value.tuple #[]) ∧ St Ha wa H w [.box b49 226 [Value.int .i64 s119.2, v120], .row 76 1 v120 n121 cs122, .box b21 30 [Value.int .i64 0, Value.slice none 0 0], .row 3 1 v70 n71 cs72] ∧ Inc H107 H ∧ Els (up wa.heap.size H) (eL eI 1) 1 cs122 s119.1 ∧ (bl cs122).Nodup) := ⟨_, rfl⟩
          have hc119 : Calls Tryz.prog 223 #[Value.pointer (some (⟨b49, 0, none⟩ : Addr)), v70] w110 (R119 s119) := by
            clear hp; have hp := hq119; clear hq119
            refine calls_go (N := 15) (args := [Value.pointer (some (⟨b49, 0, none⟩ : Addr)), v70]) Tryz.func223 rfl rfl rfl ?_
            obtain ⟨r133, hr134, hp⟩ := bnd hp
            obtain ⟨xs156, hz157, hp⟩ := bnd hp
            refine FW.drawB (Sl H107) (fun f w => ∃ H : GH, ∃ v171 : Value, ∃ n172 : Nat, ∃ cs173 : List Value, St Ha wa H w [.box b49 226 [Value.int .i64 s56.2, v171], .row 76 1 v171 n172 cs173, .box b21 30 [Value.int .i64 0, Value.slice none 0 0], .row 3 1 v70 n71 cs72] ∧ Inc H107 H ∧ Els (up wa.heap.size H) (eL eI 1) 1 cs173 xs156 ∧ (bl cs173).Nodup) (by kernel_rfl) S108.sl ?_ ?_
            ·
              intro w125 r126
              have S127 := S108.call r126
              refine FB.phase [11] (fun w => WAt w (Addr.add ⟨b49, 0, none⟩ 1) [v28]) ?_
              refine FB.t (i := 0) (bs 12 1) rfl (SP.on ((S127.box_now (i := 0) rfl).sub (j := 1) (n := 1) (c := [v28]) rfl) (SP.nil S127.sl)) rfl (fun w' hw' => (E.move (v := Value.pointer (some (⟨b49, 0, none⟩ : Addr))) rfl)) ?_
              refine FB.t (i := 1) (bs 12 3) rfl (SP.on ((S127.box_now (i := 0) rfl).sub (j := 1) (n := 1) (c := [v28]) rfl) (SP.nil S127.sl)) rfl (fun w' hw' => (E.move (v := Value.pointer (some (⟨b49, 0, none⟩ : Addr))) rfl)) ?_
              refine FB.t (i := 2) (bs 12 7) rfl (SP.on ((S127.box_now (i := 0) rfl).sub (j := 1) (n := 1) (c := [v28]) rfl) (SP.nil S127.sl)) rfl (fun w' hw' => (E.nilCheck rfl)) ?_
              refine FB.t (i := 3) (bs 12 15) rfl (SP.on ((S127.box_now (i := 0) rfl).sub (j := 1) (n := 1) (c := [v28]) rfl) (SP.nil S127.sl)) rfl (fun w' hw' => (E.fieldAddr tf226_1 rfl)) ?_
              refine FB.p (i := 4) (bs 12 31) 0 [8, 9, 10, 11] rfl (SP.on ((S127.box_now (i := 0) rfl).sub (j := 1) (n := 1) (c := [v28]) rfl) (SP.nil S127.sl)) rfl rfl (fun w' hw' => (E.load rfl (run_load0 Tryz.isAgg22 hw' rfl))) ?_
              refine FB.t (i := 5) (bs 12 63) rfl (SP.on ((S127.box_now (i := 0) rfl).sub (j := 1) (n := 1) (c := [v28]) rfl) (SP.nil S127.sl)) rfl (fun w' hw' => (E.move (v := v70) rfl)) ?_
              refine FB.all1 (i := 6) (by kernel_rfl) ?_
              ·
                obtain ⟨H128, S129, i130, h131, nv132⟩ := S127.sealRowU (i := 3) (l' := [.box b49 226 [Value.int .i64 s56.2, v28], .row 76 1 v28 n29 cs30, .box b21 30 [Value.int .i64 0, Value.slice none 0 0]]) rfl els73 (by decide) rfl
                refine FC.call (l' := (bs 12 127)) rfl (by kernel_rfl) rfl rfl rfl (E.call Tryz.call218 (A1 rfl)) (w_impl_mustClause S129.sl v70 s69.1 (h131.mono upI) hr134) ?_
                rintro e w136 ⟨H135, v141, n142, cs143, rfl, r138, els144⟩
                refine ⟨_, rfl, ?_⟩
                obtain ⟨H139, r138, hU140⟩ := St.lendX i130 S127.sl r138
                have els144 := els144.mono (hU140.tr (up_le S127.size))
                have S137 := S127.join (l' := [.row 3 1 v141 n142 cs143, .box b49 226 [Value.int .i64 s56.2, v28], .row 76 1 v28 n29 cs30, .box b21 30 [Value.int .i64 0, Value.slice none 0 0], .row 3 1 v70 n71 cs72]) r138 rfl
                refine ⟨(SP.on ((S137.box_now (i := 1) rfl).sub (j := 1) (n := 1) (c := [v28]) rfl) (SP.nil (Sl.of_inc r138.run.inc S137.sl))), ?_⟩
                refine FB.all1 (i := 7) (by kernel_rfl) ?_
                ·
                  obtain ⟨H145, S146, i147, h148, nv149⟩ := S137.sealRowU (i := 0) (l' := [.box b49 226 [Value.int .i64 s56.2, v28], .row 76 1 v28 n29 cs30, .box b21 30 [Value.int .i64 0, Value.slice none 0 0], .row 3 1 v70 n71 cs72]) rfl els144 (by decide) rfl
                  obtain ⟨v150, w151, run152, S153⟩ := S146.buildSlice (P := Tryz.prog) te22 [v141] (parts := #[(0, v141)]) (cells := [v141]) rfl (szs_cons (cells_size h148.cells) szs_nil) (fc_cons h148.cells fc_nil) (ones_cons h148.one ones_nil) (Nat.le_of_ble_eq_true rfl)
                  have els154 : Els (up wa.heap.size H145) (eL eI 1) 1 [v141] [r133] := (Els.snoc (H := (up wa.heap.size H145)) (E := (eL eI 1)) (k := 1) (c := [v141]) (x := r133) Els.nil rfl ⟨_, rfl, h148⟩)
                  have nd155 : (bl [v141]).Nodup := by exact nd_one v141
                  refine FC.val (l' := (bs 12 255)) rfl (by kernel_rfl) rfl rfl rfl (E.buildSlice (B1 rfl) run152) ?_
                  refine ⟨(SP.on ((S153.box_now (i := 1) rfl).sub (j := 1) (n := 1) (c := [v28]) rfl) (SP.nil (Sl.of_inc (r138.run.inc.tr i147) S153.sl))), ?_⟩
                  refine FB.all1 (i := 8) (by kernel_rfl) ?_
                  ·
                    obtain ⟨v158, w161, n159, cs160, run162, S163, els164, ce165⟩ := S153.appendO (P := Tryz.prog) te22 (i := 2) (j := 0) rfl (els31.mono (up_mono ((i109.tr r138.run.inc).tr i147))) rfl els154 hz157
                    have S163 : St Ha wa H145 w161 [.row 76 1 v150 1 [v141], .box b49 226 [Value.int .i64 s56.2, v28], .row 76 1 v158 n159 cs160, .box b21 30 [Value.int .i64 0, Value.slice none 0 0], .row 3 1 v70 n71 cs72] := S163
                    have nd166 : (bl cs160).Nodup := by rw [ce165]; exact nd_app nd57 nd155 (Els.dom (els31.mono (upI.tr (i109.tr r138.run.inc)))) (by exact nv149)
                    have S167 : St Ha wa H145 w161 [.box b49 226 [Value.int .i64 s56.2, v28], .row 76 1 v158 n159 cs160, .box b21 30 [Value.int .i64 0, Value.slice none 0 0], .row 3 1 v70 n71 cs72] := S163.drop 0
                    refine FC.val (l' := (bs 12 511)) rfl (by kernel_rfl) rfl rfl rfl (E.append rfl rfl run162) ?_
                    refine ⟨(SP.on ((S167.box_now (i := 0) rfl).sub (j := 1) (n := 1) (c := [v28]) rfl) (SP.nil (Sl.of_inc (r138.run.inc.tr i147) S167.sl))), ?_⟩
                    refine FB.t (i := 9) (bs 12 1023) rfl (SP.on ((S167.box_now (i := 0) rfl).sub (j := 1) (n := 1) (c := [v28]) rfl) (SP.nil (Sl.of_inc (r138.run.inc.tr i147) S167.sl))) rfl (fun w' hw' => (E.nilCheck rfl)) ?_
                    refine FB.t (i := 10) (bs 12 2047) rfl (SP.on ((S167.box_now (i := 0) rfl).sub (j := 1) (n := 1) (c := [v28]) rfl) (SP.nil (Sl.of_inc (r138.run.inc.tr i147) S167.sl))) rfl (fun w' hw' => (E.fieldAddr tf226_1 rfl)) ?_
                    refine FB.all1 (i := 11) (by kernel_rfl) ?_
                    ·
                      obtain ⟨w168, run169, S170⟩ := S167.store (P := Tryz.prog) (t := 22) (i := 0) (j := 1) (cs' := [Value.int .i64 s56.2, v158]) (l' := [.box b49 226 [Value.int .i64 s56.2, v158], .row 76 1 v158 n159 cs160, .box b21 30 [Value.int .i64 0, Value.slice none 0 0], .row 3 1 v70 n71 cs72]) (v := v158) (c := [v158]) rfl Tryz.sizeOf22 (Ln.cells (S167.row_ln (i := 1) rfl)) rfl (ones_cons (Ln.one (S167.row_ln (i := 1) rfl)) ones_nil) (Nat.le_of_ble_eq_true rfl) rfl rfl
                      refine FC.act (l' := (bs 12 4095)) rfl (by kernel_rfl) rfl rfl (E.store rfl rfl run169) ?_
                      refine ⟨(SP.o (SP.nil (Sl.of_inc (r138.run.inc.tr i147) S170.sl))), ?_⟩
                      exact FB.done (by kernel_rfl) ⟨_, _, _, _, S170, (r138.run.inc.tr i147), els164, nd166⟩
            ·
              rintro f180 w179 ⟨H176, v171, n172, cs173, S177, i178, els174, nd175⟩
              obtain rfl := Option.some.inj hp
              exact ⟨.inl rfl, res0 rfl (by rw [hR119]; exact ⟨_, _, _, _, rfl, S177, i178, els174, nd175⟩)⟩
          clear hq119
          refine FL.call rfl rfl rfl (E.call Tryz.call223 (A2 rfl rfl)) hc119 ?_
          intro e w184 hQ119
          rw [hR119] at hQ119
          obtain ⟨H181, v120, n121, cs122, rfl, S182, i183, els123, nd124⟩ := hQ119
          refine ⟨_, rfl, ?_⟩
          refine FL.nil (FW.region ?_)
          refine FL.v (E.add k118 rfl) ?_
          refine FL.v (E.move (v := Value.int .i64 (wr (((i56 : Nat) : Int) + 1))) rfl) ?_
          refine FL.nil ?_
          obtain rfl := Option.some.inj hp
          exact ⟨rfl, ⟨_, _, _, _, (S182.sel [0, 1, 2] (by decide) rfl), ((i60.tr i109).tr i183), els123, nd124, (nat_succ rfl hj56 (chk_le hchk56)), k112, k113, k114, k115, k117⟩⟩
        · exact x69.elim
    ·
      clear hp hq
      rintro s56 f391 w390 ⟨H387, v28, n29, cs30, S388, i389, els31, nd57, k392, k393, k394, k395, k396, k397⟩
      refine FW.seq (FW.region ?_)
      refine FL.v (E.lss k392 k397) ?_
      refine FL.nil (FW.seq ?_)
      refine FW.condF rfl (dlt_maxchk hchk56) ?_
      refine FW.exit ?_
      exact ⟨nofun, rfl, ⟨_, _, _, _, S388, i389, els31, nd57, k393, k394, k395, k396⟩⟩
    ·
      clear hq
      intro e f190 w189 hD
      rcases q56 with s56 | x56
      ·
        obtain ⟨rfl, hD⟩ := hD
        obtain ⟨H186, v28, n29, cs30, S187, i188, els31, nd57, k191, k192, k193, k194⟩ := hD
        replace hp := el_go hp
        refine FW.seq (FW.seq (FW.region ?_))
        refine FL.v (E.assign (v := Value.int .i64 1) rfl) ?_
        refine FL.nil ?_
        obtain ⟨q195, hq, hp⟩ := bndR hp
        refine FW.block ?_
        refine FW.mono (FW.iter (S := ((List (List Int)) × Int × Int)) (X := Empty) (fun (s195 : ((List (List Int)) × Int × Int)) f w => ∃ H : GH, ∃ v196 : Value, ∃ n197 : Nat, ∃ cs198 : List Value, St Ha wa H w [.box b49 226 [Value.int .i64 s195.2.1, v196], .row 76 1 v196 n197 cs198, .box b21 30 [Value.int .i64 0, Value.slice none 0 0]] ∧ Inc H186 H ∧ Els (up wa.heap.size H) (eL eI 1) 1 cs198 s195.1 ∧ (bl cs198).Nodup ∧ f 0 = Value.int .i64 a0 ∧ f 1 = Value.int .i64 a1 ∧ f 4 = Value.pointer (some (⟨b21, 0, none⟩ : Addr)) ∧ f 6 = Value.pointer (some (⟨b49, 0, none⟩ : Addr)) ∧ f 10 = Value.int .i64 s195.2.2) (fun (q : Rs ((List (List Int)) × Int × Int) Empty) e f w => match q with | .go s195 => e = Exit.exit 4 ∧ (∃ H : GH, ∃ v196 : Value, ∃ n197 : Nat, ∃ cs198 : List Value, St Ha wa H w [.box b49 226 [Value.int .i64 s195.2.1, v196], .row 76 1 v196 n197 cs198, .box b21 30 [Value.int .i64 0, Value.slice none 0 0]] ∧ Inc H186 H ∧ Els (up wa.heap.size H) (eL eI 1) 1 cs198 s195.1 ∧ (bl cs198).Nodup ∧ f 4 = Value.pointer (some (⟨b21, 0, none⟩ : Addr)) ∧ f 6 = Value.pointer (some (⟨b49, 0, none⟩ : Addr))) | .rt x => x.elim) hq ⟨_, _, _, _, S187, (Inc.rfl _), els31, nd57, k191, k192, k193, k194, rfl⟩ ?_) ?_
        ·
          clear hp hq
          rintro s195 f205 w204 ⟨H201, v196, n197, cs198, S202, i203, els199, nd200, k206, k207, k208, k209, k210⟩ o360 hp
          refine FW.seq (FW.seq (FW.region ?_))
          refine FL.v (E.move k210) ?_
          refine FL.v (E.move k207) ?_
          refine FL.v (E.leq rfl rfl) ?_
          refine FL.nil ?_
          rcases ifB hp with ⟨c211, hp⟩ | ⟨c211, hp⟩
          ·
            refine FW.condT rfl c211 ?_
            refine FW.skip (FW.seq (FW.block (FW.seq (FW.region ?_))))
            refine FL.v (E.move k206) ?_
            refine FL.v (E.move (v := Value.int .i64 0) rfl) ?_
            refine FL.nil ?_
            obtain ⟨m212, hchk213, hp⟩ := bnd hp
            obtain ⟨q213, hq, hp⟩ := bndR hp
            refine FW.block ?_
            refine FW.mono (FW.forR (S := ((List (List Int)) × Int)) (X := Empty) (fun (i213 : Nat) (s213 : ((List (List Int)) × Int)) f w => ∃ H : GH, ∃ v214 : Value, ∃ n215 : Nat, ∃ cs216 : List Value, St Ha wa H w [.box b49 226 [Value.int .i64 s213.2, v214], .row 76 1 v214 n215 cs216, .box b21 30 [Value.int .i64 0, Value.slice none 0 0]] ∧ Inc H201 H ∧ Els (up wa.heap.size H) (eL eI 1) 1 cs216 s213.1 ∧ (bl cs216).Nodup ∧ f 54 = Value.int .i64 ((i213 : Nat) : Int) ∧ f 0 = Value.int .i64 a0 ∧ f 1 = Value.int .i64 a1 ∧ f 4 = Value.pointer (some (⟨b21, 0, none⟩ : Addr)) ∧ f 6 = Value.pointer (some (⟨b49, 0, none⟩ : Addr)) ∧ f 10 = Value.int .i64 s195.2.2 ∧ f 53 = Value.int .i64 a0) (fun (q : Rs ((List (List Int)) × Int) Empty) e f w => match q with | .go s213 => e = Exit.exit 6 ∧ (∃ H : GH, ∃ v214 : Value, ∃ n215 : Nat, ∃ cs216 : List Value, St Ha wa H w [.box b49 226 [Value.int .i64 s213.2, v214], .row 76 1 v214 n215 cs216, .box b21 30 [Value.int .i64 0, Value.slice none 0 0]] ∧ Inc H201 H ∧ Els (up wa.heap.size H) (eL eI 1) 1 cs216 s213.1 ∧ (bl cs216).Nodup ∧ f 0 = Value.int .i64 a0 ∧ f 1 = Value.int .i64 a1 ∧ f 4 = Value.pointer (some (⟨b21, 0, none⟩ : Addr)) ∧ f 6 = Value.pointer (some (⟨b49, 0, none⟩ : Addr)) ∧ f 10 = Value.int .i64 s195.2.2) | .rt x => x.elim) hq ⟨_, _, _, _, S202, (Inc.rfl _), els199, nd200, rfl, k206, k207, k208, k209, k210, rfl⟩ ?_ ?_) ?_
            ·
              clear hp hq
              rintro i213 s213 f223 w222 ⟨H219, v214, n215, cs216, S220, i221, els217, nd218, k224, k225, k227, k228, k229, k230, k231⟩ hi213 hj213 o337 hp
              refine FW.seq (FW.region ?_)
              refine FL.v (E.lssT k224 k231 (lss_chk hj213 hchk213)) ?_
              refine FL.nil (FW.seq ?_)
              refine FW.condT rfl rfl ?_
              refine FW.skip (FW.seq (FW.block (FW.seq (FW.region ?_))))
              refine FL.v (E.move k224) ?_
              refine FL.v (E.assign (v := Value.int .i64 ((i213 : Nat) : Int)) rfl) ?_
              refine FL.nil (FW.seq (FW.region ?_))
              refine FL.v (E.move (v := Value.int .i64 ((i213 : Nat) : Int)) rfl) ?_
              refine FL.v (E.add rfl rfl) ?_
              refine FL.v (E.assign (v := Value.int .i64 (wr (((i213 : Nat) : Int) + 1))) rfl) ?_
              refine FL.nil ?_
              obtain ⟨q232, hq, hp⟩ := bndR hp
              refine FW.block ?_
              refine FW.mono (FW.iter (S := ((List (List Int)) × Int × Int)) (X := Empty) (fun (s232 : ((List (List Int)) × Int × Int)) f w => ∃ H : GH, ∃ v233 : Value, ∃ n234 : Nat, ∃ cs235 : List Value, St Ha wa H w [.box b49 226 [Value.int .i64 s232.2.1, v233], .row 76 1 v233 n234 cs235, .box b21 30 [Value.int .i64 0, Value.slice none 0 0]] ∧ Inc H219 H ∧ Els (up wa.heap.size H) (eL eI 1) 1 cs235 s232.1 ∧ (bl cs235).Nodup ∧ f 0 = Value.int .i64 a0 ∧ f 1 = Value.int .i64 a1 ∧ f 4 = Value.pointer (some (⟨b21, 0, none⟩ : Addr)) ∧ f 6 = Value.pointer (some (⟨b49, 0, none⟩ : Addr)) ∧ f 10 = Value.int .i64 s195.2.2 ∧ f 11 = Value.int .i64 ((i213 : Nat) : Int) ∧ f 12 = Value.int .i64 s232.2.2 ∧ f 53 = Value.int .i64 a0 ∧ f 54 = Value.int .i64 ((i213 : Nat) : Int)) (fun (q : Rs ((List (List Int)) × Int × Int) Empty) e f w => match q with | .go s232 => e = Exit.exit 8 ∧ (∃ H : GH, ∃ v233 : Value, ∃ n234 : Nat, ∃ cs235 : List Value, St Ha wa H w [.box b49 226 [Value.int .i64 s232.2.1, v233], .row 76 1 v233 n234 cs235, .box b21 30 [Value.int .i64 0, Value.slice none 0 0]] ∧ Inc H219 H ∧ Els (up wa.heap.size H) (eL eI 1) 1 cs235 s232.1 ∧ (bl cs235).Nodup ∧ f 0 = Value.int .i64 a0 ∧ f 1 = Value.int .i64 a1 ∧ f 4 = Value.pointer (some (⟨b21, 0, none⟩ : Addr)) ∧ f 6 = Value.pointer (some (⟨b49, 0, none⟩ : Addr)) ∧ f 10 = Value.int .i64 s195.2.2 ∧ f 53 = Value.int .i64 a0 ∧ f 54 = Value.int .i64 ((i213 : Nat) : Int)) | .rt x => x.elim) hq ⟨_, _, _, _, S220, (Inc.rfl _), els217, nd218, k225, k227, k228, k229, k230, rfl, rfl, k231, k224⟩ ?_) ?_
              ·
                clear hp hq
                rintro s232 f242 w241 ⟨H238, v233, n234, cs235, S239, i240, els236, nd237, k243, k244, k245, k246, k247, k248, k249, k250, k251⟩ o324 hp
                refine FW.seq (FW.seq (FW.region ?_))
                refine FL.v (E.move k249) ?_
                refine FL.v (E.move k243) ?_
                refine FL.v (E.lss rfl rfl) ?_
                refine FL.nil ?_
                rcases ifB hp with ⟨c252, hp⟩ | ⟨c252, hp⟩
                ·
                  refine FW.condT rfl c252 ?_
                  refine FW.skip (FW.seq (FW.block (FW.region ?_)))
                  refine FL.v (E.move k246) ?_
                  refine FL.v (E.move k248) ?_
                  refine FL.v (E.move k244) ?_
                  refine FL.v (E.mul rfl rfl) ?_
                  refine FL.v (E.move k247) ?_
                  refine FL.v (E.add rfl rfl) ?_
                  refine FL.v (E.neg rfl) ?_
                  refine FL.v (E.move k249) ?_
                  refine FL.v (E.move k244) ?_
                  refine FL.v (E.mul rfl rfl) ?_
                  refine FL.v (E.move k247) ?_
                  refine FL.v (E.add rfl rfl) ?_
                  refine FL.v (E.neg rfl) ?_
                  obtain ⟨v253, w254, run255, S256⟩ := S239.buildSlice (P := Tryz.prog) te76 [Value.int .i64 (wr (-(wr ((wr (((i213 : Nat) : Int) * a1)) + s195.2.2)))), Value.int .i64 (wr (-(wr ((wr (s232.2.2 * a1)) + s195.2.2))))] (parts := #[(0, Value.int .i64 (wr (-(wr ((wr (((i213 : Nat) : Int) * a1)) + s195.2.2))))), (1, Value.int .i64 (wr (-(wr ((wr (s232.2.2 * a1)) + s195.2.2)))))]) (cells := [Value.int .i64 (wr (-(wr ((wr (((i213 : Nat) : Int) * a1)) + s195.2.2)))), Value.int .i64 (wr (-(wr ((wr (s232.2.2 * a1)) + s195.2.2))))]) rfl (szs_cons rfl (szs_cons rfl szs_nil)) (fc_cons rfl (fc_cons rfl fc_nil)) (ones_cons rfl (ones_cons rfl ones_nil)) (Nat.le_of_ble_eq_true rfl)
                  have els257 : Els (up wa.heap.size H238) eI 1 [Value.int .i64 (wr (-(wr ((wr (((i213 : Nat) : Int) * a1)) + s195.2.2)))), Value.int .i64 (wr (-(wr ((wr (s232.2.2 * a1)) + s195.2.2))))] [(wr (-(wr ((wr (((i213 : Nat) : Int) * a1)) + s195.2.2)))), (wr (-(wr ((wr (s232.2.2 * a1)) + s195.2.2))))] := (Els.snoc (H := (up wa.heap.size H238)) (E := eI) (k := 1) (c := [Value.int .i64 (wr (-(wr ((wr (s232.2.2 * a1)) + s195.2.2))))]) (x := (wr (-(wr ((wr (s232.2.2 * a1)) + s195.2.2))))) (Els.snoc (H := (up wa.heap.size H238)) (E := eI) (k := 1) (c := [Value.int .i64 (wr (-(wr ((wr (((i213 : Nat) : Int) * a1)) + s195.2.2))))]) (x := (wr (-(wr ((wr (((i213 : Nat) : Int) * a1)) + s195.2.2))))) Els.nil rfl rfl) rfl rfl)
                  refine FL.v (E.buildSlice (B2 rfl rfl) run255) ?_
                  obtain ⟨s258, hq258, hp⟩ := bnd hp
                  obtain ⟨R258, hR258⟩ : ∃ R258 : ((List (List Int)) × Int) → Ending → World → Prop, R258 = (fun s258 e w => ∃ H : GH, ∃ v259 : Value, ∃ n260 : Nat, ∃ cs261 : List Value, e = Ending.returned (Value.tuple #[]) ∧ St Ha wa H w [.row 3 1 v253 2 [Value.int .i64 (wr (-(wr ((wr (((i213 : Nat) : Int) * a1)) + s195.2.2)))), Value.int .i64 (wr (-(wr ((wr (s232.2.2 * a1)) + s195.2.2))))], .box b49 226 [Value.int .i64 s258.2, v259], .row 76 1 v259 n260 cs261, .box b21 30 [Value.int .i64 0, Value.slice none 0 0]] ∧ Inc H238 H ∧ Els (up wa.heap.size H) (eL eI 1) 1 cs261 s258.1 ∧ (bl cs261).Nodup) := ⟨_, rfl⟩
                  have hc258 : Calls Tryz.prog 223 #[Value.pointer (some (⟨b49, 0, none⟩ : Addr)), v253] w254 (R258 s258) := by
                    clear hp; have hp := hq258; clear hq258
                    refine calls_go (N := 15) (args := [Value.pointer (some (⟨b49, 0, none⟩ : Addr)), v253]) Tryz.func223 rfl rfl rfl ?_
                    obtain ⟨r272, hr273, hp⟩ := bnd hp
                    obtain ⟨xs295, hz296, hp⟩ := bnd hp
                    refine FW.drawB (Sl H238) (fun f w => ∃ H : GH, ∃ v310 : Value, ∃ n311 : Nat, ∃ cs312 : List Value, St Ha wa H w [.row 3 1 v253 2 [Value.int .i64 (wr (-(wr ((wr (((i213 : Nat) : Int) * a1)) + s195.2.2)))), Value.int .i64 (wr (-(wr ((wr (s232.2.2 * a1)) + s195.2.2))))], .box b49 226 [Value.int .i64 s232.2.1, v310], .row 76 1 v310 n311 cs312, .box b21 30 [Value.int .i64 0, Value.slice none 0 0]] ∧ Inc H238 H ∧ Els (up wa.heap.size H) (eL eI 1) 1 cs312 xs295 ∧ (bl cs312).Nodup) (by kernel_rfl) S256.sl ?_ ?_
                    ·
                      intro w264 r265
                      have S266 := S256.call r265
                      refine FB.phase [11] (fun w => WAt w (Addr.add ⟨b49, 0, none⟩ 1) [v233]) ?_
                      refine FB.t (i := 0) (bs 12 1) rfl (SP.on ((S266.box_now (i := 1) rfl).sub (j := 1) (n := 1) (c := [v233]) rfl) (SP.nil S266.sl)) rfl (fun w' hw' => (E.move (v := Value.pointer (some (⟨b49, 0, none⟩ : Addr))) rfl)) ?_
                      refine FB.t (i := 1) (bs 12 3) rfl (SP.on ((S266.box_now (i := 1) rfl).sub (j := 1) (n := 1) (c := [v233]) rfl) (SP.nil S266.sl)) rfl (fun w' hw' => (E.move (v := Value.pointer (some (⟨b49, 0, none⟩ : Addr))) rfl)) ?_
                      refine FB.t (i := 2) (bs 12 7) rfl (SP.on ((S266.box_now (i := 1) rfl).sub (j := 1) (n := 1) (c := [v233]) rfl) (SP.nil S266.sl)) rfl (fun w' hw' => (E.nilCheck rfl)) ?_
                      refine FB.t (i := 3) (bs 12 15) rfl (SP.on ((S266.box_now (i := 1) rfl).sub (j := 1) (n := 1) (c := [v233]) rfl) (SP.nil S266.sl)) rfl (fun w' hw' => (E.fieldAddr tf226_1 rfl)) ?_
                      refine FB.p (i := 4) (bs 12 31) 0 [8, 9, 10, 11] rfl (SP.on ((S266.box_now (i := 1) rfl).sub (j := 1) (n := 1) (c := [v233]) rfl) (SP.nil S266.sl)) rfl rfl (fun w' hw' => (E.load rfl (run_load0 Tryz.isAgg22 hw' rfl))) ?_
                      refine FB.t (i := 5) (bs 12 63) rfl (SP.on ((S266.box_now (i := 1) rfl).sub (j := 1) (n := 1) (c := [v233]) rfl) (SP.nil S266.sl)) rfl (fun w' hw' => (E.move (v := v253) rfl)) ?_
                      refine FB.all1 (i := 6) (by kernel_rfl) ?_
                      ·
                        obtain ⟨H267, S268, i269, h270, nv271⟩ := S266.sealRowU (i := 0) (l' := [.box b49 226 [Value.int .i64 s232.2.1, v233], .row 76 1 v233 n234 cs235, .box b21 30 [Value.int .i64 0, Value.slice none 0 0]]) rfl els257 (by decide) rfl
                        refine FC.call (l' := (bs 12 127)) rfl (by kernel_rfl) rfl rfl rfl (E.call Tryz.call218 (A1 rfl)) (w_impl_mustClause S268.sl v253 [(wr (-(wr ((wr (((i213 : Nat) : Int) * a1)) + s195.2.2)))), (wr (-(wr ((wr (s232.2.2 * a1)) + s195.2.2))))] (h270.mono upI) hr273) ?_
                        rintro e w275 ⟨H274, v280, n281, cs282, rfl, r277, els283⟩
                        refine ⟨_, rfl, ?_⟩
                        obtain ⟨H278, r277, hU279⟩ := St.lendX i269 S266.sl r277
                        have els283 := els283.mono (hU279.tr (up_le S266.size))
                        have S276 := S266.join (l' := [.row 3 1 v280 n281 cs282, .row 3 1 v253 2 [Value.int .i64 (wr (-(wr ((wr (((i213 : Nat) : Int) * a1)) + s195.2.2)))), Value.int .i64 (wr (-(wr ((wr (s232.2.2 * a1)) + s195.2.2))))], .box b49 226 [Value.int .i64 s232.2.1, v233], .row 76 1 v233 n234 cs235, .box b21 30 [Value.int .i64 0, Value.slice none 0 0]]) r277 rfl
                        refine ⟨(SP.on ((S276.box_now (i := 2) rfl).sub (j := 1) (n := 1) (c := [v233]) rfl) (SP.nil (Sl.of_inc r277.run.inc S276.sl))), ?_⟩
                        refine FB.all1 (i := 7) (by kernel_rfl) ?_
                        ·
                          obtain ⟨H284, S285, i286, h287, nv288⟩ := S276.sealRowU (i := 0) (l' := [.row 3 1 v253 2 [Value.int .i64 (wr (-(wr ((wr (((i213 : Nat) : Int) * a1)) + s195.2.2)))), Value.int .i64 (wr (-(wr ((wr (s232.2.2 * a1)) + s195.2.2))))], .box b49 226 [Value.int .i64 s232.2.1, v233], .row 76 1 v233 n234 cs235, .box b21 30 [Value.int .i64 0, Value.slice none 0 0]]) rfl els283 (by decide) rfl
                          obtain ⟨v289, w290, run291, S292⟩ := S285.buildSlice (P := Tryz.prog) te22 [v280] (parts := #[(0, v280)]) (cells := [v280]) rfl (szs_cons (cells_size h287.cells) szs_nil) (fc_cons h287.cells fc_nil) (ones_cons h287.one ones_nil) (Nat.le_of_ble_eq_true rfl)
                          have els293 : Els (up wa.heap.size H284) (eL eI 1) 1 [v280] [r272] := (Els.snoc (H := (up wa.heap.size H284)) (E := (eL eI 1)) (k := 1) (c := [v280]) (x := r272) Els.nil rfl ⟨_, rfl, h287⟩)
                          have nd294 : (bl [v280]).Nodup := by exact nd_one v280
                          refine FC.val (l' := (bs 12 255)) rfl (by kernel_rfl) rfl rfl rfl (E.buildSlice (B1 rfl) run291) ?_
                          refine ⟨(SP.on ((S292.box_now (i := 2) rfl).sub (j := 1) (n := 1) (c := [v233]) rfl) (SP.nil (Sl.of_inc (r277.run.inc.tr i286) S292.sl))), ?_⟩
                          refine FB.all1 (i := 8) (by kernel_rfl) ?_
                          ·
                            obtain ⟨v297, w300, n298, cs299, run301, S302, els303, ce304⟩ := S292.appendO (P := Tryz.prog) te22 (i := 3) (j := 0) rfl (els236.mono (up_mono (r277.run.inc.tr i286))) rfl els293 hz296
                            have S302 : St Ha wa H284 w300 [.row 76 1 v289 1 [v280], .row 3 1 v253 2 [Value.int .i64 (wr (-(wr ((wr (((i213 : Nat) : Int) * a1)) + s195.2.2)))), Value.int .i64 (wr (-(wr ((wr (s232.2.2 * a1)) + s195.2.2))))], .box b49 226 [Value.int .i64 s232.2.1, v233], .row 76 1 v297 n298 cs299, .box b21 30 [Value.int .i64 0, Value.slice none 0 0]] := S302
                            have nd305 : (bl cs299).Nodup := by rw [ce304]; exact nd_app nd237 nd294 (Els.dom (els236.mono (upI.tr r277.run.inc))) (by exact nv288)
                            have S306 : St Ha wa H284 w300 [.row 3 1 v253 2 [Value.int .i64 (wr (-(wr ((wr (((i213 : Nat) : Int) * a1)) + s195.2.2)))), Value.int .i64 (wr (-(wr ((wr (s232.2.2 * a1)) + s195.2.2))))], .box b49 226 [Value.int .i64 s232.2.1, v233], .row 76 1 v297 n298 cs299, .box b21 30 [Value.int .i64 0, Value.slice none 0 0]] := S302.drop 0
                            refine FC.val (l' := (bs 12 511)) rfl (by kernel_rfl) rfl rfl rfl (E.append rfl rfl run301) ?_
                            refine ⟨(SP.on ((S306.box_now (i := 1) rfl).sub (j := 1) (n := 1) (c := [v233]) rfl) (SP.nil (Sl.of_inc (r277.run.inc.tr i286) S306.sl))), ?_⟩
                            refine FB.t (i := 9) (bs 12 1023) rfl (SP.on ((S306.box_now (i := 1) rfl).sub (j := 1) (n := 1) (c := [v233]) rfl) (SP.nil (Sl.of_inc (r277.run.inc.tr i286) S306.sl))) rfl (fun w' hw' => (E.nilCheck rfl)) ?_
                            refine FB.t (i := 10) (bs 12 2047) rfl (SP.on ((S306.box_now (i := 1) rfl).sub (j := 1) (n := 1) (c := [v233]) rfl) (SP.nil (Sl.of_inc (r277.run.inc.tr i286) S306.sl))) rfl (fun w' hw' => (E.fieldAddr tf226_1 rfl)) ?_
                            refine FB.all1 (i := 11) (by kernel_rfl) ?_
                            ·
                              obtain ⟨w307, run308, S309⟩ := S306.store (P := Tryz.prog) (t := 22) (i := 1) (j := 1) (cs' := [Value.int .i64 s232.2.1, v297]) (l' := [.row 3 1 v253 2 [Value.int .i64 (wr (-(wr ((wr (((i213 : Nat) : Int) * a1)) + s195.2.2)))), Value.int .i64 (wr (-(wr ((wr (s232.2.2 * a1)) + s195.2.2))))], .box b49 226 [Value.int .i64 s232.2.1, v297], .row 76 1 v297 n298 cs299, .box b21 30 [Value.int .i64 0, Value.slice none 0 0]]) (v := v297) (c := [v297]) rfl Tryz.sizeOf22 (Ln.cells (S306.row_ln (i := 2) rfl)) rfl (ones_cons (Ln.one (S306.row_ln (i := 2) rfl)) ones_nil) (Nat.le_of_ble_eq_true rfl) rfl rfl
                              refine FC.act (l' := (bs 12 4095)) rfl (by kernel_rfl) rfl rfl (E.store rfl rfl run308) ?_
                              refine ⟨(SP.o (SP.nil (Sl.of_inc (r277.run.inc.tr i286) S309.sl))), ?_⟩
                              exact FB.done (by kernel_rfl) ⟨_, _, _, _, S309, (r277.run.inc.tr i286), els303, nd305⟩
                    ·
                      rintro f319 w318 ⟨H315, v310, n311, cs312, S316, i317, els313, nd314⟩
                      obtain rfl := Option.some.inj hp
                      exact ⟨.inl rfl, res0 rfl (by rw [hR258]; exact ⟨_, _, _, _, rfl, S316, i317, els313, nd314⟩)⟩
                  clear hq258
                  refine FL.call rfl rfl rfl (E.call Tryz.call223 (A2 rfl rfl)) hc258 ?_
                  intro e w323 hQ258
                  rw [hR258] at hQ258
                  obtain ⟨H320, v259, n260, cs261, rfl, S321, i322, els262, nd263⟩ := hQ258
                  refine ⟨_, rfl, ?_⟩
                  refine FL.nil (FW.region ?_)
                  refine FL.v (E.move k249) ?_
                  refine FL.v (E.add rfl rfl) ?_
                  refine FL.v (E.assign (v := Value.int .i64 (wr (s232.2.2 + 1))) rfl) ?_
                  refine FL.nil ?_
                  obtain rfl := Option.some.inj hp
                  exact ⟨rfl, ⟨_, _, _, _, (S321.sel [1, 2, 3] (by decide) rfl), (i240.tr i322), els262, nd263, k243, k244, k245, k246, k247, k248, rfl, k250, k251⟩⟩
                ·
                  refine FW.condF rfl c252 ?_
                  refine FW.exit ?_
                  obtain rfl := Option.some.inj hp
                  exact ⟨nofun, rfl, ⟨_, _, _, _, S239, i240, els236, nd237, k243, k244, k245, k246, k247, k250, k251⟩⟩
              ·
                clear hq
                intro e f329 w328 hD
                rcases q232 with s232 | x232
                ·
                  obtain ⟨rfl, hD⟩ := hD
                  obtain ⟨H325, v233, n234, cs235, S326, i327, els236, nd237, k330, k331, k332, k333, k334, k335, k336⟩ := hD
                  replace hp := el_go hp
                  refine FW.region ?_
                  refine FL.v (E.add k336 rfl) ?_
                  refine FL.v (E.move (v := Value.int .i64 (wr (((i213 : Nat) : Int) + 1))) rfl) ?_
                  refine FL.nil ?_
                  obtain rfl := Option.some.inj hp
                  exact ⟨rfl, ⟨_, _, _, _, S326, (i221.tr i327), els236, nd237, (nat_succ rfl hj213 (chk_le hchk213)), k330, k331, k332, k333, k334, k335⟩⟩
                · exact x232.elim
            ·
              clear hp hq
              rintro s213 f352 w351 ⟨H348, v214, n215, cs216, S349, i350, els217, nd218, k353, k354, k355, k356, k357, k358, k359⟩
              refine FW.seq (FW.region ?_)
              refine FL.v (E.lss k353 k359) ?_
              refine FL.nil (FW.seq ?_)
              refine FW.condF rfl (dlt_maxchk hchk213) ?_
              refine FW.exit ?_
              exact ⟨nofun, rfl, ⟨_, _, _, _, S349, i350, els217, nd218, k354, k355, k356, k357, k358⟩⟩
            ·
              clear hq
              intro e f342 w341 hD
              rcases q213 with s213 | x213
              ·
                obtain ⟨rfl, hD⟩ := hD
                obtain ⟨H338, v214, n215, cs216, S339, i340, els217, nd218, k343, k344, k345, k346, k347⟩ := hD
                replace hp := el_go hp
                refine FW.region ?_
                refine FL.v (E.move k347) ?_
                refine FL.v (E.add rfl rfl) ?_
                refine FL.v (E.assign (v := Value.int .i64 (wr (s195.2.2 + 1))) rfl) ?_
                refine FL.nil ?_
                obtain rfl := Option.some.inj hp
                exact ⟨rfl, ⟨_, _, _, _, S339, (i203.tr i340), els217, nd218, k343, k344, k345, k346, rfl⟩⟩
              · exact x213.elim
          ·
            refine FW.condF rfl c211 ?_
            refine FW.exit ?_
            obtain rfl := Option.some.inj hp
            exact ⟨nofun, rfl, ⟨_, _, _, _, S202, i203, els199, nd200, k208, k209⟩⟩
        ·
          clear hq
          intro e f365 w364 hD
          rcases q195 with s195 | x195
          ·
            obtain ⟨rfl, hD⟩ := hD
            obtain ⟨H361, v196, n197, cs198, S362, i363, els199, nd200, k366, k367⟩ := hD
            replace hp := el_go hp
            refine FW.seq (FW.region ?_)
            refine FL.v (E.move k367) ?_
            obtain ⟨H368, S369, i370, ns373, nv372⟩ := S362.sealRowN (i := 1) (l' := [.box b49 226 [Value.int .i64 s195.2.1, v196], .box b21 30 [Value.int .i64 0, Value.slice none 0 0]]) rfl els199 nd200 (by decide) rfl
            have h371 := ns373.rsl
            obtain ⟨r374, hr375, hp⟩ := bnd hp
            refine FL.call rfl rfl rfl (E.call Tryz.call224 (A1 rfl)) (w_impl_family_cnf (L := [.box b21 30 [Value.int .i64 0, Value.slice none 0 0]]) S369 (a0 := (family.mk s195.2.1 s195.1)) (h371.mono upI) hr375) ?_
            rintro e w377 ⟨H376, v380, v382, rfl, ⟨S378, i379⟩, h381, h383⟩
            refine ⟨_, rfl, ?_⟩
            have S378 : St Ha wa H376 w377 [.box b49 226 [Value.int .i64 r374.2.2.vars, v382], .box b21 30 [Value.int .i64 0, Value.slice none 0 0]] := S378
            refine FL.v (E.extract (i := 0) rfl rfl) ?_
            refine FL.v (E.extract (i := 1) rfl rfl) ?_
            obtain ⟨w384, run385, S386⟩ := S378.store0 (P := Tryz.prog) (t := 30) (i := 1) (cs' := [Value.int .i64 r374.1.vars, v380]) (l' := [.box b49 226 [Value.int .i64 r374.2.2.vars, v382], .box b21 30 [Value.int .i64 r374.1.vars, v380]]) (v := Value.agg #[Value.int .i64 r374.1.vars, v380]) (c := [Value.int .i64 r374.1.vars, v380]) rfl Tryz.sizeOf30 rfl rfl (ones_cons rfl (ones_cons h381.one ones_nil)) (Nat.le_of_ble_eq_true rfl) rfl rfl
            refine FL.act rfl rfl (E.store k366 rfl run385) ?_
            refine FL.v (E.assign (v := Value.bool r374.2.1) rfl) ?_
            refine FL.nil ?_
            refine FW.ret ?_
            obtain rfl := Option.some.inj hp
            exact ⟨.inr rfl, resC2 rfl k366 (loadVar_A Tryz.isAgg30 Tryz.sizeOf30 (S386.box_now (i := 1) rfl) rfl) rfl ⟨_, _, rfl, S386.run, h381⟩⟩
          · exact x195.elim
      · exact x56.elim

@[reducible] def p_impl_PigeonCnf (Ha : GH) (wa : World) (r : (Cnf × Bool)) : Ending → World → Prop :=
 fun e w' => ∃ H' : GH, ∃ v0_1 : Value, e = .returned (Value.tuple #[Value.agg #[Value.int .i64 r.1.vars, v0_1], Value.bool r.2]) ∧ Run wa.heap.size Ha wa H' w' ∧ RSl H' (eL eI 1) 1 v0_1 r.1.clauses
theorem w_impl_PigeonCnf {Ha : GH} {wa : World} (hs : Sl Ha wa) (a0 : Int) {r : (Cnf × Bool)} (hp : (PF.impl_PigeonCnf a0) = some r) :
  Calls Tryz.prog 116 #[Value.int .i64 a0] wa (p_impl_PigeonCnf Ha wa r) := by
 unfold PF.impl_PigeonCnf at hp
 have S0 := St.init hs
 refine calls_go (N := 14) (args := [Value.int .i64 a0]) Tryz.func116 rfl rfl rfl ?_
 refine FW.seq (FW.region ?_)
 obtain ⟨b21, w22, run23, S24⟩ := S0.alloc (P := Tryz.prog) 30 [Value.int .i64 0, Value.slice none 0 0] Tryz.zeroValue30 rfl (ones_cons rfl (ones_cons rfl ones_nil))
 refine FL.v (E.alloc run23) ?_
 refine FL.v (E.assign (v := Value.bool false) rfl) ?_
 refine FL.nil (FW.seq (FW.seq (FW.region ?_)))
 refine FL.v (E.move (v := Value.int .i64 a0) rfl) ?_
 refine FL.call rfl rfl rfl (E.call Tryz.call175 (A1 rfl)) (w_impl_holesOk S24.sl a0) ?_
 rintro e w25 ⟨rfl, r26⟩
 refine ⟨_, rfl, ?_⟩
 have S27 := S24.call r26
 refine FL.v (E.not rfl) ?_
 refine FL.nil ?_
 rcases ifB hp with ⟨c28, hp⟩ | ⟨c28, hp⟩
 ·
  refine FW.condT rfl c28 ?_
  refine FW.seq (FW.region ?_)
  refine FL.v (E.build (B0) (run_build _ 30 #[] #[Value.int .i64 0, Value.slice none 0 0] (by rfl))) ?_
  obtain ⟨w29, run30, S31⟩ := S27.store0 (P := Tryz.prog) (t := 30) (i := 0) (cs' := [Value.int .i64 0, Value.slice none 0 0]) (l' := [.box b21 30 [Value.int .i64 0, Value.slice none 0 0]]) (v := Value.agg #[Value.int .i64 0, Value.slice none 0 0]) (c := [Value.int .i64 0, Value.slice none 0 0]) rfl Tryz.sizeOf30 rfl rfl (ones_cons rfl (ones_cons rfl ones_nil)) (Nat.le_of_ble_eq_true rfl) rfl rfl
  refine FL.act rfl rfl (E.store rfl rfl run30) ?_
  refine FL.v (E.assign (v := Value.bool false) rfl) ?_
  refine FL.nil ?_
  refine FW.ret ?_
  obtain rfl := Option.some.inj hp
  exact ⟨.inr rfl, resC2 rfl rfl (loadVar_A Tryz.isAgg30 Tryz.sizeOf30 (S31.box_now (i := 0) rfl) rfl) rfl ⟨_, _, rfl, S31.run, (RSl.nil _ _ _)⟩⟩
 ·
  refine FW.condF rfl c28 ?_
  refine FW.skip (FW.seq (FW.region ?_))
  refine FL.v (E.move (v := Value.int .i64 a0) rfl) ?_
  refine FL.v (E.add rfl rfl) ?_
  refine FL.v (E.move (v := Value.int .i64 a0) rfl) ?_
  obtain ⟨r32, hr33, hp⟩ := bnd hp
  refine FL.call rfl rfl rfl (E.call Tryz.call176 (A2 rfl rfl)) (w_impl_Pigeonhole S27.sl (wr (a0 + 1)) a0 hr33) ?_
  rintro e w35 ⟨H34, v38, rfl, r37, h39⟩
  refine ⟨_, rfl, ?_⟩
  have S36 := S27.call r37
  refine FL.v (E.extract (i := 0) rfl rfl) ?_
  refine FL.v (E.extract (i := 1) rfl rfl) ?_
  obtain ⟨w40, run41, S42⟩ := S36.store0 (P := Tryz.prog) (t := 30) (i := 0) (cs' := [Value.int .i64 r32.1.vars, v38]) (l' := [.box b21 30 [Value.int .i64 r32.1.vars, v38]]) (v := Value.agg #[Value.int .i64 r32.1.vars, v38]) (c := [Value.int .i64 r32.1.vars, v38]) rfl Tryz.sizeOf30 rfl rfl (ones_cons rfl (ones_cons h39.one ones_nil)) (Nat.le_of_ble_eq_true rfl) rfl rfl
  refine FL.act rfl rfl (E.store rfl rfl run41) ?_
  refine FL.v (E.assign (v := Value.bool r32.2) rfl) ?_
  refine FL.nil ?_
  refine FW.ret ?_
  obtain rfl := Option.some.inj hp
  exact ⟨.inr rfl, resC2 rfl rfl (loadVar_A Tryz.isAgg30 Tryz.sizeOf30 (S42.box_now (i := 0) rfl) rfl) rfl ⟨_, _, rfl, S42.run, h39⟩⟩

theorem w_slices_Equal_int_int {Ha : GH} {wa : World} (hs : Sl Ha wa) (v0 : Value) (a0 : List Int) (p0 : RSl Ha eI 1 v0 a0) (v1 : Value) (a1 : List Int) (p1 : RSl Ha eI 1 v1 a1) {r : Bool} (hp : (PF.slices_Equal_int_int a0 a1) = some r) :
  Calls Tryz.prog 75 #[v0, v1] wa (Sc Ha wa (Value.bool r)) := by
 unfold PF.slices_Equal_int_int at hp
 have S0 := St.init hs
 refine calls_go (N := 26) (args := [v0, v1]) Tryz.func75 rfl rfl rfl ?_
 refine FW.seq (FW.region ?_)
 refine FL.v (E.assign (v := Value.bool false) rfl) ?_
 refine FL.nil (FW.seq (FW.seq (FW.region ?_)))
 refine FL.v (E.move (v := v0) rfl) ?_
 refine FL.v (E.lenP te76 rfl p0) ?_
 refine FL.v (E.move (v := v1) rfl) ?_
 refine FL.v (E.lenP te76 rfl p1) ?_
 refine FL.v (E.neq rfl rfl) ?_
 refine FL.nil ?_
 rcases ifB hp with ⟨c21, hp⟩ | ⟨c21, hp⟩
 ·
  refine FW.condT rfl c21 ?_
  refine FW.seq (FW.region ?_)
  refine FL.v (E.assign (v := Value.bool false) rfl) ?_
  refine FL.nil ?_
  refine FW.ret ?_
  obtain rfl := Option.some.inj hp
  exact ⟨.inr rfl, res1 rfl rfl ⟨rfl, S0.back⟩⟩
 ·
  refine FW.condF rfl c21 ?_
  refine FW.skip (FW.seq (FW.seq (FW.region ?_)))
  refine FL.v (E.move (v := v0) rfl) ?_
  refine FL.v (E.lenP te76 rfl p0) ?_
  refine FL.v (E.move (v := Value.int .i64 0) rfl) ?_
  refine FL.nil ?_
  obtain ⟨q23, hq, hp⟩ := bndR hp
  refine FW.block ?_
  refine FW.mono (FW.forL (S := Unit) (X := Bool) (fun (i23 : Nat) (s23 : Unit) f w => ∃ H : GH, St Ha wa H w [] ∧ Inc Ha H ∧ f 13 = Value.int .i64 ((i23 : Nat) : Int) ∧ f 0 = v0 ∧ f 1 = v1 ∧ f 12 = Value.int .i64 (len a0)) (fun q e f w => match q with | .go s23 => e = Exit.exit 0 ∧ (∃ H : GH, St Ha wa H w [] ∧ Inc Ha H) | .rt x => ((e = Exit.ret) ∧ (fun e f w => (e = Exit.normal ∨ e = Exit.ret) ∧ ∀ a, Fr (δ := []) 26 a f → ∃ v, (results Tryz.f75 a.tmps).run Tryz.prog w = .ok v w ∧ (Sc Ha wa (Value.bool x)) (.returned v) w) e f w)) hq ⟨_, S0, (Inc.rfl _), rfl, rfl, rfl, rfl⟩ ?_ ?_) ?_
  ·
   clear hp hq
   rintro i23 y22 s23 f56 w55 ⟨H52, S53, i54, k57, k58, k59, k60⟩ hx23 o80 hp
   refine FW.seq (FW.region ?_)
   refine FL.v (E.lssT k57 k60 (lss_len hx23)) ?_
   refine FL.nil (FW.seq ?_)
   refine FW.condT rfl rfl ?_
   refine FW.skip (FW.seq (FW.block (FW.seq (FW.region ?_))))
   refine FL.v (E.move k57) ?_
   refine FL.v (E.assign (v := Value.int .i64 ((i23 : Nat) : Int)) rfl) ?_
   refine FL.nil (FW.seq ?_)
   refine FW.draw (fun w' => Run w55.heap.size H52 w55 H52 w') (by kernel_rfl) (by kernel_rfl) (run_drew S53.sl) ?_
   refine FD.val rfl rfl rfl (fun w' hw' => (E.move k58)) ?_
   refine FD.val rfl rfl rfl (fun w' hw' => (E.move (v := Value.int .i64 ((i23 : Nat) : Int)) rfl)) ?_
   obtain ⟨p62, cs63, pt64, l65, at66, rel67⟩ := p0.at (ix_nat hx23)
   obtain rfl := eI_open rel67
   refine FD.val rfl rfl rfl (fun w' hw' => (E.indexAddr te76 rfl rfl pt64)) ?_
   refine FD.val rfl rfl rfl (fun w' hw' => (E.load rfl (run_load0 Tryz.isAgg3 ((at66.mono i54).now (S53.call hw').sl) rfl))) ?_
   refine FD.val rfl rfl rfl (fun w' hw' => (E.move k59)) ?_
   refine FD.val rfl rfl rfl (fun w' hw' => (E.move (v := Value.int .i64 ((i23 : Nat) : Int)) rfl)) ?_
   obtain ⟨x74, hx75, hp⟩ := bnd hp
   obtain ⟨p68, cs69, pt70, l71, at72, rel73⟩ := p1.at hx75
   obtain rfl := eI_open rel73
   refine FD.val rfl rfl rfl (fun w' hw' => (E.indexAddr te76 rfl rfl pt70)) ?_
   refine FD.val rfl rfl rfl (fun w' hw' => (E.load rfl (run_load0 Tryz.isAgg3 ((at72.mono i54).now (S53.call hw').sl) rfl))) ?_
   refine FD.val rfl rfl rfl (fun w' hw' => (E.neq rfl rfl)) ?_
   refine FD.nil ?_
   intro w76 r78
   have S77 := S53.call r78
   rcases ifB hp with ⟨c79, hp⟩ | ⟨c79, hp⟩
   ·
    refine FW.condT rfl c79 ?_
    refine FW.seq (FW.region ?_)
    refine FL.v (E.assign (v := Value.bool false) rfl) ?_
    refine FL.nil ?_
    refine FW.ret ?_
    obtain rfl := Option.some.inj hp
    exact ⟨nofun, rfl, ⟨.inr rfl, res1 rfl rfl ⟨rfl, S77.back⟩⟩⟩
   ·
    refine FW.condF rfl c79 ?_
    refine FW.skip (FW.region ?_)
    refine FL.v (E.add k57 rfl) ?_
    refine FL.v (E.move (v := Value.int .i64 (wr (((i23 : Nat) : Int) + 1))) rfl) ?_
    refine FL.nil ?_
    obtain rfl := Option.some.inj hp
    exact ⟨rfl, ⟨_, S77, i54, (nat_succ rfl (lt_of_get hx23) (p0.mono i54).le), k58, k59, k60⟩⟩
  ·
   clear hp hq
   rintro s23 f90 w89 ⟨H86, S87, i88, k91, k92, k93, k94⟩
   refine FW.seq (FW.region ?_)
   refine FL.v (E.lss k91 k94) ?_
   refine FL.nil (FW.seq ?_)
   refine FW.condF rfl dlt_len ?_
   refine FW.exit ?_
   exact ⟨nofun, rfl, ⟨_, S87, i88⟩⟩
  ·
   clear hq
   intro e f85 w84 hD
   rcases q23 with s23 | x23
   ·
    obtain ⟨rfl, hD⟩ := hD
    obtain ⟨H81, S82, i83⟩ := hD
    replace hp := el_go hp
    refine FW.seq (FW.region ?_)
    refine FL.v (E.assign (v := Value.bool true) rfl) ?_
    refine FL.nil ?_
    refine FW.ret ?_
    obtain rfl := Option.some.inj hp
    exact ⟨.inr rfl, res1 rfl rfl ⟨rfl, S82.back⟩⟩
   ·
    obtain ⟨he, hL⟩ := hD
    replace hp := el_rt hp
    obtain rfl := Option.some.inj hp
    subst he
    exact hL

@[reducible] def p_impl_earlier (Ha : GH) (wa : World) (r : ((List Int) × Bool)) : Ending → World → Prop :=
 fun e w' => ∃ H' : GH, ∃ v0 : Value, e = .returned (Value.tuple #[v0, Value.bool r.2]) ∧ Run wa.heap.size Ha wa H' w' ∧ RSl H' eI 1 v0 r.1
theorem w_impl_earlier {Ha : GH} {wa : World} (hs : Sl Ha wa) (a0 : Cnf) (v0_1 : Value) (p0_1 : RSl Ha (eL eI 1) 1 v0_1 a0.clauses) (v1 : Value) (a1 : List ResStep) (p1 : RSl Ha eResStep 4 v1 a1) (a2 : Int) (a3 : Int) {r : ((List Int) × Bool)} (hp : (PF.impl_earlier a0 a1 a2 a3) = some r) :
  Calls Tryz.prog 291 #[Value.agg #[Value.int .i64 a0.vars, v0_1], v1, Value.int .i64 a2, Value.int .i64 a3] wa (p_impl_earlier Ha wa r) := by
 unfold PF.impl_earlier at hp
 have S0 := St.init hs
 refine calls_go (N := 31) (args := [Value.agg #[Value.int .i64 a0.vars, v0_1], v1, Value.int .i64 a2, Value.int .i64 a3]) Tryz.func291 rfl rfl rfl ?_
 refine FW.seq (FW.region ?_)
 obtain ⟨b21, w22, run23, S24⟩ := S0.box (P := Tryz.prog) 30 [Value.int .i64 a0.vars, v0_1] (v := Value.agg #[Value.int .i64 a0.vars, v0_1]) rfl (ones_cons rfl (ones_cons p0_1.one ones_nil))
 refine FL.v (E.box rfl run23) ?_
 obtain ⟨H25, S26, i27, at28⟩ := S24.sealBox (i := 0) (l' := []) rfl rfl
 refine FL.v (E.assign (v := Value.slice none 0 0) rfl) ?_
 refine FL.v (E.assign (v := Value.bool false) rfl) ?_
 refine FL.nil (FW.seq (FW.seq ?_))
 refine FW.draw (fun w' => Run w22.heap.size H25 w22 H25 w') (by kernel_rfl) (by kernel_rfl) (run_drew S26.sl) ?_
 refine FD.val rfl rfl rfl (fun w' hw' => (E.move (v := Value.int .i64 a3) rfl)) ?_
 refine FD.val rfl rfl rfl (fun w' hw' => (E.move (v := Value.int .i64 a2) rfl)) ?_
 refine FD.val rfl rfl rfl (fun w' hw' => (E.sub rfl rfl)) ?_
 refine FD.call rfl rfl rfl (fun w' hw' => (E.call Tryz.call126 (A3 rfl rfl rfl))) (fun w' hw' => Calls.cls hw' (w_impl_within (S26.call hw').sl a3 0 (wr (a2 - 1)))) ?_
 refine FD.val rfl rfl rfl (fun w' hw' => (E.not rfl)) ?_
 refine FD.val rfl rfl rfl (fun w' hw' => (E.move (v := Value.bool (!(PF.impl_within a3 0 (wr (a2 - 1))))) rfl)) ?_
 obtain ⟨t42, hqt42, hp⟩ := bnd hp
 refine FD.cut 10 (fun f => f 1 = v1 ∧ f 3 = Value.int .i64 a3 ∧ f 25 = Value.bool t42) ?_ ?_
 ·
  clear hp; have hp := hqt42; clear hqt42
  rcases ifB hp with ⟨c48, hp⟩ | ⟨c48, hp⟩
  ·
   refine FD.skip (wF_no rfl rfl rfl c48) rfl ?_
   refine FD.skip (wF_no rfl rfl rfl c48) rfl ?_
   refine FD.skip (wF_no rfl rfl rfl c48) rfl ?_
   refine FD.skip (wF_no rfl rfl rfl c48) rfl ?_
   refine FD.skip (wF_no rfl rfl rfl c48) rfl ?_
   refine FD.skip (wF_no rfl rfl rfl c48) rfl ?_
   refine FD.skip (wF_no rfl rfl rfl c48) rfl ?_
   refine FD.skip (wF_no rfl rfl rfl c48) rfl ?_
   refine FD.skip (wF_no rfl rfl rfl c48) rfl ?_
   obtain rfl := Option.some.inj hp
   refine FD.val rfl rfl rfl (fun w' hw' => (E.pickT rfl c48 rfl)) ?_
   exact FD.nil ⟨rfl, rfl, rfl⟩
  ·
   refine FD.val (wF_yes rfl rfl rfl c48) rfl rfl (fun w' hw' => (E.fieldAddr tf30_0 rfl)) ?_
   refine FD.val (wF_yes rfl rfl rfl c48) rfl rfl (fun w' hw' => (E.load rfl (run_load1 Tryz.isAgg3 (at28.now (S26.call hw').sl) rfl))) ?_
   refine FD.val (wF_yes rfl rfl rfl c48) rfl rfl (fun w' hw' => (E.move (v := v1) rfl)) ?_
   refine FD.val (wF_yes rfl rfl rfl c48) rfl rfl (fun w' hw' => (E.move (v := Value.int .i64 a3) rfl)) ?_
   obtain ⟨x55, hx56, hp⟩ := bnd hp
   obtain ⟨p49, cs50, pt51, l52, at53, rel54⟩ := p1.at hx56
   obtain ⟨v57, rfl, h58⟩ := eResStep_open rel54
   refine FD.val (wF_yes rfl rfl rfl c48) rfl rfl (fun w' hw' => (E.indexAddr te41 rfl rfl pt51)) ?_
   refine FD.val (wF_yes rfl rfl rfl c48) rfl rfl (fun w' hw' => (E.fieldAddr tf103_0 rfl)) ?_
   refine FD.val (wF_yes rfl rfl rfl c48) rfl rfl (fun w' hw' => (E.load rfl (run_load1 Tryz.isAgg76 ((at53.mono i27).now (S26.call hw').sl) rfl))) ?_
   obtain ⟨r59, hr60, hp⟩ := bnd hp
   refine FD.call (wF_yes rfl rfl rfl c48) rfl rfl (fun w' hw' => (E.call Tryz.call191 (A2 rfl rfl))) (fun w' hw' => Calls.cls hw' (w_impl_IsClause (S26.call hw').sl a0.vars v57 x55.clause (h58.mono i27) hr60)) ?_
   refine FD.val (wF_yes rfl rfl rfl c48) rfl rfl (fun w' hw' => (E.not rfl)) ?_
   obtain rfl := Option.some.inj hp
   refine FD.val rfl rfl rfl (fun w' hw' => (E.pickF rfl c48 rfl)) ?_
   exact FD.nil ⟨rfl, rfl, rfl⟩
 rintro f47 ⟨k61, k62, k63⟩
 refine FD.nil ?_
 intro w64 r66
 have S65 := S26.call r66
 rcases ifB hp with ⟨c67, hp⟩ | ⟨c67, hp⟩
 ·
  refine FW.condT k63 c67 ?_
  refine FW.seq (FW.region ?_)
  refine FL.v (E.assign (v := Value.slice none 0 0) rfl) ?_
  refine FL.v (E.assign (v := Value.bool false) rfl) ?_
  refine FL.nil ?_
  refine FW.ret ?_
  obtain rfl := Option.some.inj hp
  exact ⟨.inr rfl, res2 rfl rfl rfl ⟨_, _, rfl, S65.run, (RSl.nil _ _ _)⟩⟩
 ·
  refine FW.condF k63 c67 ?_
  refine FW.skip (FW.seq (FW.region ?_))
  refine FL.v (E.move k61) ?_
  refine FL.v (E.move k62) ?_
  obtain ⟨x74, hx75, hp⟩ := bnd hp
  obtain ⟨p68, cs69, pt70, l71, at72, rel73⟩ := p1.at hx75
  obtain ⟨v76, rfl, h77⟩ := eResStep_open rel73
  refine FL.v (E.indexAddr te41 rfl rfl pt70) ?_
  refine FL.v (E.fieldAddr tf103_0 rfl) ?_
  refine FL.v (E.load rfl (run_load1 Tryz.isAgg76 ((at72.mono i27).now S65.sl) rfl)) ?_
  refine FL.v (E.assign (v := v76) rfl) ?_
  refine FL.v (E.assign (v := Value.bool true) rfl) ?_
  refine FL.nil ?_
  refine FW.ret ?_
  obtain rfl := Option.some.inj hp
  exact ⟨.inr rfl, res2 rfl rfl rfl ⟨_, _, rfl, S65.run, (h77.mono i27)⟩⟩

theorem w_slices_IndexFunc_int_int {Ha : GH} {wa : World} (hs : Sl Ha wa) (v0 : Value) (a0 : List Int) (p0 : RSl Ha eI 1 v0 a0) (v1 : Value) (a1 : Int → Option Bool) (p1 : Fn_I_to_B Tryz.prog Ha v1 a1) {r : Int} (hp : (PF.slices_IndexFunc_int_int a0 a1) = some r) :
  Calls Tryz.prog 260 #[v0, v1] wa (Sc Ha wa (Value.int .i64 r)) := by
 unfold PF.slices_IndexFunc_int_int at hp
 have S0 := St.init hs
 refine calls_go (N := 19) (args := [v0, v1]) Tryz.func260 rfl rfl rfl ?_
 refine FW.seq (FW.region ?_)
 refine FL.v (E.assign (v := Value.int .i64 0) rfl) ?_
 refine FL.nil (FW.seq (FW.seq (FW.region ?_)))
 refine FL.v (E.move (v := v0) rfl) ?_
 refine FL.v (E.lenP te76 rfl p0) ?_
 refine FL.v (E.move (v := Value.int .i64 0) rfl) ?_
 refine FL.nil ?_
 obtain ⟨q22, hq, hp⟩ := bndR hp
 refine FW.block ?_
 refine FW.mono (FW.forL (S := Unit) (X := Int) (fun (i22 : Nat) (s22 : Unit) f w => ∃ H : GH, St Ha wa H w [] ∧ Inc Ha H ∧ f 8 = Value.int .i64 ((i22 : Nat) : Int) ∧ f 0 = v0 ∧ f 1 = v1 ∧ f 7 = Value.int .i64 (len a0)) (fun q e f w => match q with | .go s22 => e = Exit.exit 0 ∧ (∃ H : GH, St Ha wa H w [] ∧ Inc Ha H) | .rt x => ((e = Exit.ret) ∧ (fun e f w => (e = Exit.normal ∨ e = Exit.ret) ∧ ∀ a, Fr (δ := []) 19 a f → ∃ v, (results Tryz.f260 a.tmps).run Tryz.prog w = .ok v w ∧ (Sc Ha wa (Value.int .i64 x)) (.returned v) w) e f w)) hq ⟨_, S0, (Inc.rfl _), rfl, rfl, rfl, rfl⟩ ?_ ?_) ?_
 ·
  clear hp hq
  rintro i22 y21 s22 f53 w52 ⟨H49, S50, i51, k54, k55, k56, k57⟩ hx22 o75 hp
  refine FW.seq (FW.region ?_)
  refine FL.v (E.lssT k54 k57 (lss_len hx22)) ?_
  refine FL.nil (FW.seq ?_)
  refine FW.condT rfl rfl ?_
  refine FW.skip (FW.seq (FW.block (FW.seq (FW.region ?_))))
  refine FL.v (E.move k54) ?_
  refine FL.v (E.assign (v := Value.int .i64 ((i22 : Nat) : Int)) rfl) ?_
  refine FL.nil (FW.seq (FW.region ?_))
  refine FL.v (E.move k56) ?_
  refine FL.v (E.move k55) ?_
  refine FL.v (E.move (v := Value.int .i64 ((i22 : Nat) : Int)) rfl) ?_
  obtain ⟨p58, cs59, pt60, l61, at62, rel63⟩ := p0.at (ix_nat hx22)
  obtain rfl := eI_open rel63
  refine FL.v (E.indexAddr te76 rfl rfl pt60) ?_
  refine FL.v (E.load rfl (run_load0 Tryz.isAgg3 ((at62.mono i51).now S50.sl) rfl)) ?_
  obtain ⟨r64, hr65, hp⟩ := bnd hp
  obtain ⟨fi69, cs70, hv71, he72, hc73⟩ := (p1.mono i51) H49 w52 (Inc.rfl _) S50.sl y21 r64 hr65
  refine FL.call rfl rfl rfl (E.callV he72 (Eq.trans rfl hv71) (appA (A1 rfl) cs70)) hc73 ?_
  rintro e w66 ⟨rfl, r67⟩
  refine ⟨_, rfl, ?_⟩
  have S68 := S50.call r67
  refine FL.nil ?_
  rcases ifB hp with ⟨c74, hp⟩ | ⟨c74, hp⟩
  ·
   refine FW.condT rfl c74 ?_
   refine FW.seq (FW.region ?_)
   refine FL.v (E.move (v := Value.int .i64 ((i22 : Nat) : Int)) rfl) ?_
   refine FL.v (E.assign (v := Value.int .i64 ((i22 : Nat) : Int)) rfl) ?_
   refine FL.nil ?_
   refine FW.ret ?_
   obtain rfl := Option.some.inj hp
   exact ⟨nofun, rfl, ⟨.inr rfl, res1 rfl rfl ⟨rfl, S68.back⟩⟩⟩
  ·
   refine FW.condF rfl c74 ?_
   refine FW.skip (FW.region ?_)
   refine FL.v (E.add k54 rfl) ?_
   refine FL.v (E.move (v := Value.int .i64 (wr (((i22 : Nat) : Int) + 1))) rfl) ?_
   refine FL.nil ?_
   obtain rfl := Option.some.inj hp
   exact ⟨rfl, ⟨_, S68, i51, (nat_succ rfl (lt_of_get hx22) (p0.mono i51).le), k55, k56, k57⟩⟩
 ·
  clear hp hq
  rintro s22 f85 w84 ⟨H81, S82, i83, k86, k87, k88, k89⟩
  refine FW.seq (FW.region ?_)
  refine FL.v (E.lss k86 k89) ?_
  refine FL.nil (FW.seq ?_)
  refine FW.condF rfl dlt_len ?_
  refine FW.exit ?_
  exact ⟨nofun, rfl, ⟨_, S82, i83⟩⟩
 ·
  clear hq
  intro e f80 w79 hD
  rcases q22 with s22 | x22
  ·
   obtain ⟨rfl, hD⟩ := hD
   obtain ⟨H76, S77, i78⟩ := hD
   replace hp := el_go hp
   refine FW.seq (FW.region ?_)
   refine FL.v (E.assign (v := Value.int .i64 (-1)) rfl) ?_
   refine FL.nil ?_
   refine FW.ret ?_
   obtain rfl := Option.some.inj hp
   exact ⟨.inr rfl, res1 rfl rfl ⟨rfl, S77.back⟩⟩
  ·
   obtain ⟨he, hL⟩ := hD
   replace hp := el_rt hp
   obtain rfl := Option.some.inj hp
   subst he
   exact hL

theorem w_slices_ContainsFunc_int_int {Ha : GH} {wa : World} (hs : Sl Ha wa) (v0 : Value) (a0 : List Int) (p0 : RSl Ha eI 1 v0 a0) (v1 : Value) (a1 : Int → Option Bool) (p1 : Fn_I_to_B Tryz.prog Ha v1 a1) {r : Bool} (hp : (PF.slices_ContainsFunc_int_int a0 a1) = some r) :
  Calls Tryz.prog 264 #[v0, v1] wa (Sc Ha wa (Value.bool r)) := by
 unfold PF.slices_ContainsFunc_int_int at hp
 have S0 := St.init hs
 refine calls_go (N := 9) (args := [v0, v1]) Tryz.func264 rfl rfl rfl ?_
 refine FW.seq (FW.region ?_)
 refine FL.v (E.assign (v := Value.bool false) rfl) ?_
 refine FL.nil (FW.seq (FW.region ?_))
 refine FL.v (E.move (v := v0) rfl) ?_
 refine FL.v (E.move (v := v1) rfl) ?_
 obtain ⟨r21, hr22, hp⟩ := bnd hp
 refine FL.call rfl rfl rfl (E.call Tryz.call260 (A2 rfl rfl)) (w_slices_IndexFunc_int_int S0.sl v0 a0 p0 v1 a1 p1 hr22) ?_
 rintro e w23 ⟨rfl, r24⟩
 refine ⟨_, rfl, ?_⟩
 have S25 := S0.call r24
 refine FL.v (E.geq rfl rfl) ?_
 refine FL.v (E.assign (v := Value.bool (decide (0 ≤ r21))) rfl) ?_
 refine FL.nil ?_
 refine FW.ret ?_
 obtain rfl := Option.some.inj hp
 exact ⟨.inr rfl, res1 rfl rfl ⟨rfl, S25.back⟩⟩

theorem w_slices_Index_int_int {Ha : GH} {wa : World} (hs : Sl Ha wa) (v0 : Value) (a0 : List Int) (p0 : RSl Ha eI 1 v0 a0) (a1 : Int) {r : Int} (hp : (PF.slices_Index_int_int a0 a1) = some r) :
  Calls Tryz.prog 217 #[v0, Value.int .i64 a1] wa (Sc Ha wa (Value.int .i64 r)) := by
 unfold PF.slices_Index_int_int at hp
 have S0 := St.init hs
 refine calls_go (N := 19) (args := [v0, Value.int .i64 a1]) Tryz.func217 rfl rfl rfl ?_
 refine FW.seq (FW.region ?_)
 refine FL.v (E.assign (v := Value.int .i64 0) rfl) ?_
 refine FL.nil (FW.seq (FW.seq (FW.region ?_)))
 refine FL.v (E.move (v := v0) rfl) ?_
 refine FL.v (E.lenP te76 rfl p0) ?_
 refine FL.v (E.move (v := Value.int .i64 0) rfl) ?_
 refine FL.nil ?_
 obtain ⟨q22, hq, hp⟩ := bndR hp
 refine FW.block ?_
 refine FW.mono (FW.forL (S := Unit) (X := Int) (fun (i22 : Nat) (s22 : Unit) f w => ∃ H : GH, St Ha wa H w [] ∧ Inc Ha H ∧ f 8 = Value.int .i64 ((i22 : Nat) : Int) ∧ f 0 = v0 ∧ f 1 = Value.int .i64 a1 ∧ f 7 = Value.int .i64 (len a0)) (fun q e f w => match q with | .go s22 => e = Exit.exit 0 ∧ (∃ H : GH, St Ha wa H w [] ∧ Inc Ha H) | .rt x => ((e = Exit.ret) ∧ (fun e f w => (e = Exit.normal ∨ e = Exit.ret) ∧ ∀ a, Fr (δ := []) 19 a f → ∃ v, (results Tryz.f217 a.tmps).run Tryz.prog w = .ok v w ∧ (Sc Ha wa (Value.int .i64 x)) (.returned v) w) e f w)) hq ⟨_, S0, (Inc.rfl _), rfl, rfl, rfl, rfl⟩ ?_ ?_) ?_
 ·
  clear hp hq
  rintro i22 y21 s22 f43 w42 ⟨H39, S40, i41, k44, k45, k46, k47⟩ hx22 o55 hp
  refine FW.seq (FW.region ?_)
  refine FL.v (E.lssT k44 k47 (lss_len hx22)) ?_
  refine FL.nil (FW.seq ?_)
  refine FW.condT rfl rfl ?_
  refine FW.skip (FW.seq (FW.block (FW.seq (FW.region ?_))))
  refine FL.v (E.move k44) ?_
  refine FL.v (E.assign (v := Value.int .i64 ((i22 : Nat) : Int)) rfl) ?_
  refine FL.nil (FW.seq (FW.region ?_))
  refine FL.v (E.move k46) ?_
  refine FL.v (E.move k45) ?_
  refine FL.v (E.move (v := Value.int .i64 ((i22 : Nat) : Int)) rfl) ?_
  obtain ⟨p48, cs49, pt50, l51, at52, rel53⟩ := p0.at (ix_nat hx22)
  obtain rfl := eI_open rel53
  refine FL.v (E.indexAddr te76 rfl rfl pt50) ?_
  refine FL.v (E.load rfl (run_load0 Tryz.isAgg3 ((at52.mono i41).now S40.sl) rfl)) ?_
  refine FL.v (E.eql rfl rfl) ?_
  refine FL.nil ?_
  rcases ifB hp with ⟨c54, hp⟩ | ⟨c54, hp⟩
  ·
   refine FW.condT rfl c54 ?_
   refine FW.seq (FW.region ?_)
   refine FL.v (E.move (v := Value.int .i64 ((i22 : Nat) : Int)) rfl) ?_
   refine FL.v (E.assign (v := Value.int .i64 ((i22 : Nat) : Int)) rfl) ?_
   refine FL.nil ?_
   refine FW.ret ?_
   obtain rfl := Option.some.inj hp
   exact ⟨nofun, rfl, ⟨.inr rfl, res1 rfl rfl ⟨rfl, S40.back⟩⟩⟩
  ·
   refine FW.condF rfl c54 ?_
   refine FW.skip (FW.region ?_)
   refine FL.v (E.add k44 rfl) ?_
   refine FL.v (E.move (v := Value.int .i64 (wr (((i22 : Nat) : Int) + 1))) rfl) ?_
   refine FL.nil ?_
   obtain rfl := Option.some.inj hp
   exact ⟨rfl, ⟨_, S40, i41, (nat_succ rfl (lt_of_get hx22) (p0.mono i41).le), k45, k46, k47⟩⟩
 ·
  clear hp hq
  rintro s22 f65 w64 ⟨H61, S62, i63, k66, k67, k68, k69⟩
  refine FW.seq (FW.region ?_)
  refine FL.v (E.lss k66 k69) ?_
  refine FL.nil (FW.seq ?_)
  refine FW.condF rfl dlt_len ?_
  refine FW.exit ?_
  exact ⟨nofun, rfl, ⟨_, S62, i63⟩⟩
 ·
  clear hq
  intro e f60 w59 hD
  rcases q22 with s22 | x22
  ·
   obtain ⟨rfl, hD⟩ := hD
   obtain ⟨H56, S57, i58⟩ := hD
   replace hp := el_go hp
   refine FW.seq (FW.region ?_)
   refine FL.v (E.assign (v := Value.int .i64 (-1)) rfl) ?_
   refine FL.nil ?_
   refine FW.ret ?_
   obtain rfl := Option.some.inj hp
   exact ⟨.inr rfl, res1 rfl rfl ⟨rfl, S57.back⟩⟩
  ·
   obtain ⟨he, hL⟩ := hD
   replace hp := el_rt hp
   obtain rfl := Option.some.inj hp
   subst he
   exact hL

theorem w_slices_Contains_int_int {Ha : GH} {wa : World} (hs : Sl Ha wa) (v0 : Value) (a0 : List Int) (p0 : RSl Ha eI 1 v0 a0) (a1 : Int) {r : Bool} (hp : (PF.slices_Contains_int_int a0 a1) = some r) :
  Calls Tryz.prog 163 #[v0, Value.int .i64 a1] wa (Sc Ha wa (Value.bool r)) := by
 unfold PF.slices_Contains_int_int at hp
 have S0 := St.init hs
 refine calls_go (N := 9) (args := [v0, Value.int .i64 a1]) Tryz.func163 rfl rfl rfl ?_
 refine FW.seq (FW.region ?_)
 refine FL.v (E.assign (v := Value.bool false) rfl) ?_
 refine FL.nil (FW.seq (FW.region ?_))
 refine FL.v (E.move (v := v0) rfl) ?_
 refine FL.v (E.move (v := Value.int .i64 a1) rfl) ?_
 obtain ⟨r21, hr22, hp⟩ := bnd hp
 refine FL.call rfl rfl rfl (E.call Tryz.call217 (A2 rfl rfl)) (w_slices_Index_int_int S0.sl v0 a0 p0 a1 hr22) ?_
 rintro e w23 ⟨rfl, r24⟩
 refine ⟨_, rfl, ?_⟩
 have S25 := S0.call r24
 refine FL.v (E.geq rfl rfl) ?_
 refine FL.v (E.assign (v := Value.bool (decide (0 ≤ r21))) rfl) ?_
 refine FL.nil ?_
 refine FW.ret ?_
 obtain rfl := Option.some.inj hp
 exact ⟨.inr rfl, res1 rfl rfl ⟨rfl, S25.back⟩⟩

theorem w_impl_part_1 {Ha : GH} {wa : World} (hs : Sl Ha wa) (a0 : Int) (q0 : Addr) (b0 : List Int) (u0_0 : Value) (g0_0 : RSl Ha eI 1 u0_0 b0) (c0 : CAt Ha q0 [u0_0]) {r : Bool} (hp : (PF.impl_part_1 a0 b0) = some r) :
  Calls Tryz.prog 312 #[Value.int .i64 a0, Value.pointer (some q0)] wa (Sc Ha wa (Value.bool r)) := by
 unfold PF.impl_part_1 at hp
 have S0 := St.init hs
 refine calls_go (N := 8) (args := [Value.int .i64 a0, Value.pointer (some q0)]) Tryz.func312 rfl rfl rfl ?_
 refine FW.seq (FW.region ?_)
 refine FL.v (E.assign (v := Value.bool false) rfl) ?_
 refine FL.nil (FW.seq (FW.region ?_))
 refine FL.v (E.load rfl (run_load0 Tryz.isAgg76 (c0.now S0.sl) rfl)) ?_
 refine FL.v (E.move (v := Value.int .i64 a0) rfl) ?_
 obtain ⟨r21, hr22, hp⟩ := bnd hp
 refine FL.call rfl rfl rfl (E.call Tryz.call163 (A2 rfl rfl)) (w_slices_Contains_int_int S0.sl u0_0 b0 g0_0 a0 hr22) ?_
 rintro e w23 ⟨rfl, r24⟩
 refine ⟨_, rfl, ?_⟩
 have S25 := S0.call r24
 refine FL.v (E.not rfl) ?_
 refine FL.v (E.assign (v := Value.bool (!r21)) rfl) ?_
 refine FL.nil ?_
 refine FW.ret ?_
 obtain rfl := Option.some.inj hp
 exact ⟨.inr rfl, res1 rfl rfl ⟨rfl, S25.back⟩⟩

theorem w_impl_part {Ha : GH} {wa : World} (hs : Sl Ha wa) (v0 : Value) (a0 : List Int) (p0 : RSl Ha eI 1 v0 a0) (v1 : Value) (a1 : List Int) (p1 : RSl Ha eI 1 v1 a1) {r : Bool} (hp : (PF.impl_part a0 a1) = some r) :
  Calls Tryz.prog 292 #[v0, v1] wa (Sc Ha wa (Value.bool r)) := by
 unfold PF.impl_part at hp
 have S0 := St.init hs
 refine calls_go (N := 9) (args := [v0, v1]) Tryz.func292 rfl rfl rfl ?_
 refine FW.seq (FW.region ?_)
 obtain ⟨b21, w22, run23, S24⟩ := S0.box (P := Tryz.prog) 76 [v1] (v := v1) p1.cells (ones_cons p1.one ones_nil)
 refine FL.v (E.box rfl run23) ?_
 obtain ⟨H25, S26, i27, at28⟩ := S24.sealBox (i := 0) (l' := []) rfl rfl
 refine FL.v (E.assign (v := Value.bool false) rfl) ?_
 refine FL.nil (FW.seq (FW.region ?_))
 refine FL.v (E.move (v := v0) rfl) ?_
 refine FL.v (E.makeFunc A0 (A1 rfl)) ?_
 obtain ⟨r29, hr30, hp⟩ := bnd hp
 refine FL.call rfl rfl rfl (E.call Tryz.call264 (A2 rfl rfl)) (w_slices_ContainsFunc_int_int S26.sl v0 a0 (p0.mono i27) (Value.func (.func 312) #[] #[Value.pointer (some ⟨b21, 0, none⟩)]) (fun x0 => PF.impl_part_1 x0 a1) (fun H2 w2 hi2 hs2 x0 r hr => ⟨312, #[Value.pointer (some ⟨b21, 0, none⟩)], rfl, Tryz.call312, w_impl_part_1 hs2 x0 ⟨b21, 0, none⟩ a1 v1 ((p1.mono i27).mono hi2) (at28.mono hi2) hr⟩) hr30) ?_
 rintro e w31 ⟨rfl, r32⟩
 refine ⟨_, rfl, ?_⟩
 have S33 := S26.call r32
 refine FL.v (E.not rfl) ?_
 refine FL.v (E.assign (v := Value.bool (!r29)) rfl) ?_
 refine FL.nil ?_
 refine FW.ret ?_
 obtain rfl := Option.some.inj hp
 exact ⟨.inr rfl, res1 rfl rfl ⟨rfl, S33.back⟩⟩

theorem w_impl_isVar {Ha : GH} {wa : World} (hs : Sl Ha wa) (a0 : Int) (a1 : Int) :
  Calls Tryz.prog 142 #[Value.int .i64 a0, Value.int .i64 a1] wa (Sc Ha wa (Value.bool (PF.impl_isVar a0 a1))) := by
 obtain ⟨r, hp⟩ : ∃ r, (PF.impl_isVar a0 a1) = r := ⟨_, rfl⟩
 rw [hp]
 unfold PF.impl_isVar at hp
 have S0 := St.init hs
 refine calls_go (N := 8) (args := [Value.int .i64 a0, Value.int .i64 a1]) Tryz.func142 rfl rfl rfl ?_
 refine FW.seq (FW.region ?_)
 refine FL.v (E.assign (v := Value.bool false) rfl) ?_
 refine FL.nil (FW.seq (FW.region ?_))
 refine FL.v (E.move (v := Value.int .i64 a1) rfl) ?_
 refine FL.v (E.move (v := Value.int .i64 a0) rfl) ?_
 refine FL.call rfl rfl rfl (E.call Tryz.call126 (A3 rfl rfl rfl)) (w_impl_within S0.sl a1 1 a0) ?_
 rintro e w21 ⟨rfl, r22⟩
 refine ⟨_, rfl, ?_⟩
 have S23 := S0.call r22
 refine FL.v (E.assign (v := Value.bool (PF.impl_within a1 1 a0)) rfl) ?_
 refine FL.nil ?_
 refine FW.ret ?_
 obtain rfl := hp
 exact ⟨.inr rfl, res1 rfl rfl ⟨rfl, S23.back⟩⟩

@[reducible] def p_slices_DeleteFunc_int_int (H0 : GH) (w0 : World) (Ha : GH) (L : List MO) (r : (List Int)) : Ending → World → Prop :=
  fun e w' => ∃ H' : GH, ∃ v0r : Value, ∃ n0r : Nat, ∃ c0r : List Value, e = .returned (v0r) ∧ (St H0 w0 H' w' (.row 3 1 v0r n0r c0r :: L) ∧ Inc Ha H') ∧ Els (up w0.heap.size H') eI 1 c0r r
theorem w_slices_DeleteFunc_int_int {H0 Ha : GH} {w0 wa : World} {L : List MO} {v0 : Value} {n0 : Nat} {k0 : List Value} (S0 : St H0 w0 Ha wa (.row 3 1 v0 n0 k0 :: L)) (a0 : List Int) (p0 : Els (up w0.heap.size Ha) eI 1 k0 a0) (v1 : Value) (a1 : Int → Option Bool) (p1 : Fn_I_to_B Tryz.prog Ha v1 a1) {r : (List Int)} (hp : (PF.slices_DeleteFunc_int_int a0 a1) = some r) :
    Calls Tryz.prog 225 #[v0, v1] wa (p_slices_DeleteFunc_int_int H0 w0 Ha L r) := by
  unfold PF.slices_DeleteFunc_int_int at hp
  refine calls_go (N := 42) (args := [v0, v1]) Tryz.func225 rfl rfl rfl ?_
  refine FW.seq (FW.region ?_)
  refine FL.v (E.assign (v := Value.slice none 0 0) rfl) ?_
  refine FL.nil (FW.seq (FW.region ?_))
  refine FL.v (E.move (v := v0) rfl) ?_
  refine FL.v (E.move (v := v1) rfl) ?_
  obtain ⟨H21, S22, i23, h24, nv25⟩ := S0.sealRowU (i := 0) (l' := L) rfl p0 (by decide) rfl
  obtain ⟨r26, hr27, hp⟩ := bnd hp
  refine FL.call rfl rfl rfl (E.call Tryz.call260 (A2 rfl rfl)) (w_slices_IndexFunc_int_int S22.sl v0 a0 (h24.mono upI) v1 a1 (p1.mono i23) hr27) ?_
  rintro e w28 ⟨rfl, r29⟩
  refine ⟨_, rfl, ?_⟩
  have r29 := Run.lend i23 S0.sl r29
  have S30 := S0.call r29
  refine FL.v (E.assign (v := Value.int .i64 r26) rfl) ?_
  refine FL.nil (FW.seq (FW.seq (FW.region ?_)))
  refine FL.v (E.move (v := Value.int .i64 r26) rfl) ?_
  refine FL.v (E.eql rfl rfl) ?_
  refine FL.nil ?_
  rcases ifB hp with ⟨c31, hp⟩ | ⟨c31, hp⟩
  ·
    refine FW.condT rfl c31 ?_
    refine FW.seq (FW.region ?_)
    refine FL.v (E.move (v := v0) rfl) ?_
    refine FL.v (E.assign (v := v0) rfl) ?_
    refine FL.nil ?_
    refine FW.ret ?_
    obtain rfl := Option.some.inj hp
    exact ⟨.inr rfl, res1 rfl rfl ⟨_, _, _, _, rfl, ⟨S30, (Inc.rfl _)⟩, p0⟩⟩
  ·
    refine FW.condF rfl c31 ?_
    refine FW.skip (FW.seq (FW.seq (FW.region ?_)))
    refine FL.v (E.move (v := Value.int .i64 r26) rfl) ?_
    refine FL.v (E.add rfl rfl) ?_
    refine FL.v (E.assign (v := Value.int .i64 (wr (r26 + 1))) rfl) ?_
    refine FL.nil ?_
    obtain ⟨q32, hq, hp⟩ := bndR hp
    refine FW.block ?_
    refine FW.mono (FW.iter (S := ((List Int) × Int × Int)) (X := Empty) (fun (s32 : ((List Int) × Int × Int)) f w => ∃ H : GH, ∃ cs78 : List Value, St H0 w0 H w (.row 3 1 v0 n0 cs78 :: L) ∧ Inc Ha H ∧ Els (up w0.heap.size H) eI 1 cs78 s32.1 ∧ f 0 = v0 ∧ f 1 = v1 ∧ f 5 = Value.int .i64 s32.2.1 ∧ f 6 = Value.int .i64 s32.2.2) (fun (q : Rs ((List Int) × Int × Int) Empty) e f w => match q with | .go s32 => e = Exit.exit 0 ∧ (∃ H : GH, ∃ cs78 : List Value, St H0 w0 H w (.row 3 1 v0 n0 cs78 :: L) ∧ Inc Ha H ∧ Els (up w0.heap.size H) eI 1 cs78 s32.1 ∧ f 0 = v0 ∧ f 5 = Value.int .i64 s32.2.1) | .rt x => x.elim) hq ⟨_, _, S30, (Inc.rfl _), p0, rfl, rfl, rfl, rfl⟩ ?_) ?_
    ·
      clear hp hq
      rintro s32 f129 w128 ⟨H125, cs78, S126, i127, els79, k130, k131, k132, k133⟩ o170 hp
      refine FW.seq (FW.seq (FW.region ?_))
      refine FL.v (E.move k133) ?_
      refine FL.v (E.move k130) ?_
      refine FL.v (E.lenO te76 rfl S126 (i := 0) rfl els79 (by decide)) ?_
      refine FL.v (E.lss rfl rfl) ?_
      refine FL.nil ?_
      rcases ifB hp with ⟨c134, hp⟩ | ⟨c134, hp⟩
      ·
        refine FW.condT rfl c134 ?_
        refine FW.skip (FW.seq (FW.block (FW.seq (FW.region ?_))))
        refine FL.v (E.move k130) ?_
        refine FL.v (E.move k133) ?_
        obtain ⟨x141, hx142, hp⟩ := bnd hp
        obtain ⟨p135, cs136, pt137, l138, at139, rel140⟩ := S126.row_at (i := 0) rfl els79 (by decide) hx142
        obtain rfl := eI_open rel140
        refine FL.v (E.indexAddr te76 rfl rfl pt137) ?_
        refine FL.v (E.load rfl (run_load0 Tryz.isAgg3 at139 rfl)) ?_
        refine FL.v (E.assign (v := Value.int .i64 x141) rfl) ?_
        refine FL.nil (FW.seq (FW.region ?_))
        refine FL.v (E.move k131) ?_
        refine FL.v (E.move (v := Value.int .i64 x141) rfl) ?_
        obtain ⟨r143, hr144, hp⟩ := bnd hp
        obtain ⟨fi148, cs149, hv150, he151, hc152⟩ := (p1.mono i127) H125 w128 (Inc.rfl _) S126.sl x141 r143 hr144
        refine FL.call rfl rfl rfl (E.callV he151 (Eq.trans rfl hv150) (appA (A1 rfl) cs149)) hc152 ?_
        rintro e w145 ⟨rfl, r146⟩
        refine ⟨_, rfl, ?_⟩
        have S147 := S126.call r146
        refine FL.v (E.not rfl) ?_
        refine FL.nil ?_
        rcases ifB hp with ⟨c153, hp⟩ | ⟨c153, hp⟩
        ·
          refine FW.condT rfl c153 ?_
          refine FW.seq (FW.region ?_)
          refine FL.v (E.move k130) ?_
          refine FL.v (E.move k132) ?_
          refine FL.v (E.move (v := Value.int .i64 x141) rfl) ?_
          obtain ⟨x160, hx161, hp⟩ := bnd hp
          obtain ⟨p154, cs155, pt156, l157, at158, rel159⟩ := S147.row_at (i := 0) rfl els79 (by decide) hx161
          obtain rfl := eI_open rel159
          refine FL.v (E.indexAddr te76 rfl rfl pt156) ?_
          obtain ⟨xs165, hput166, hp⟩ := bnd hp
          obtain ⟨w162, cs168, run163, S164, els167, ce169⟩ := S147.putEls (P := Tryz.prog) (t := 3) (i := 0) rfl els79 hput166 pt156 Tryz.sizeOf3 (u := Value.int .i64 x141) (c := [Value.int .i64 x141]) rfl rfl (ones_cons rfl ones_nil) rfl
          have S164 : St H0 w0 H125 w162 (.row 3 1 v0 n0 cs168 :: L) := S164
          refine FL.act rfl rfl (E.store rfl rfl run163) ?_
          refine FL.nil (FW.region ?_)
          refine FL.v (E.move k132) ?_
          refine FL.v (E.add rfl rfl) ?_
          refine FL.v (E.assign (v := Value.int .i64 (wr (s32.2.1 + 1))) rfl) ?_
          refine FL.nil (FW.region ?_)
          refine FL.v (E.move k133) ?_
          refine FL.v (E.add rfl rfl) ?_
          refine FL.v (E.assign (v := Value.int .i64 (wr (s32.2.2 + 1))) rfl) ?_
          refine FL.nil ?_
          obtain rfl := Option.some.inj hp
          exact ⟨rfl, ⟨_, _, S164, i127, els167, k130, k131, rfl, rfl⟩⟩
        ·
          refine FW.condF rfl c153 ?_
          refine FW.skip (FW.region ?_)
          refine FL.v (E.move k133) ?_
          refine FL.v (E.add rfl rfl) ?_
          refine FL.v (E.assign (v := Value.int .i64 (wr (s32.2.2 + 1))) rfl) ?_
          refine FL.nil ?_
          obtain rfl := Option.some.inj hp
          exact ⟨rfl, ⟨_, _, S147, i127, els79, k130, k131, k132, rfl⟩⟩
      ·
        refine FW.condF rfl c134 ?_
        refine FW.exit ?_
        obtain rfl := Option.some.inj hp
        exact ⟨nofun, rfl, ⟨_, _, S126, i127, els79, k130, k132⟩⟩
    ·
      clear hq
      intro e f175 w174 hD
      rcases q32 with s32 | x32
      ·
        obtain ⟨rfl, hD⟩ := hD
        obtain ⟨H171, cs78, S172, i173, els79, k176, k177⟩ := hD
        replace hp := el_go hp
        refine FW.seq (FW.region ?_)
        refine FL.v (E.move k176) ?_
        refine FL.v (E.move k177) ?_
        obtain ⟨xs178, hc179, hp⟩ := bnd hp
        obtain ⟨v180, run181, h182⟩ := S172.tail te76 (kk := .i64) (i := 0) rfl els79 hc179
        refine FL.v (E.slice te76 rfl (congrArg some rfl) rfl rfl (run181 _)) ?_
        obtain ⟨w183, cs184, run185, S186, els187⟩ := S172.clearTail (P := Tryz.prog) te76 (i := 0) rfl els79 h182 rfl (ones_cons rfl ones_nil)
        have S186 : St H0 w0 H171 w183 (.row 3 1 v0 n0 cs184 :: L) := S186
        refine FL.val0 rfl rfl (E.clear rfl run185) ?_
        refine FL.nil (FW.seq (FW.region ?_))
        refine FL.v (E.move k176) ?_
        refine FL.v (E.move k177) ?_
        obtain ⟨xs188, hc189, hp⟩ := bnd hp
        obtain ⟨v190, n191, cs192, run193, S194, els195, nd196⟩ := S186.cutRow te76 (kk := .i64) (i := 0) rfl els187 hc189
        have S194 : St H0 w0 H171 w183 (.row 3 1 v190 n191 cs192 :: L) := S194
        refine FL.v (E.slice te76 rfl rfl (congrArg some rfl) rfl (run193 _)) ?_
        refine FL.v (E.assign (v := v190) rfl) ?_
        refine FL.nil ?_
        refine FW.ret ?_
        obtain rfl := Option.some.inj hp
        exact ⟨.inr rfl, res1 rfl rfl ⟨_, _, _, _, rfl, ⟨S194, i173⟩, els195⟩⟩
      · exact x32.elim

theorem w_impl_withoutVar_1 {Ha : GH} {wa : World} (hs : Sl Ha wa) (a0 : Int) (q0 : Addr) (b0 : Int) (c0 : CAt Ha q0 [Value.int .i64 b0]) :
  Calls Tryz.prog 254 #[Value.int .i64 a0, Value.pointer (some q0)] wa (Sc Ha wa (Value.bool (PF.impl_withoutVar_1 a0 b0))) := by
 obtain ⟨r, hp⟩ : ∃ r, (PF.impl_withoutVar_1 a0 b0) = r := ⟨_, rfl⟩
 rw [hp]
 unfold PF.impl_withoutVar_1 at hp
 have S0 := St.init hs
 refine calls_go (N := 8) (args := [Value.int .i64 a0, Value.pointer (some q0)]) Tryz.func254 rfl rfl rfl ?_
 refine FW.seq (FW.region ?_)
 refine FL.v (E.assign (v := Value.bool false) rfl) ?_
 refine FL.nil (FW.seq ?_)
 refine FW.draw (fun w' => Run wa.heap.size Ha wa Ha w') (by kernel_rfl) (by kernel_rfl) (run_drew S0.sl) ?_
 refine FD.val rfl rfl rfl (fun w' hw' => (E.move (v := Value.int .i64 a0) rfl)) ?_
 refine FD.call rfl rfl rfl (fun w' hw' => (E.call Tryz.call205 (A1 rfl))) (fun w' hw' => Calls.cls hw' (w_impl_abs (S0.call hw').sl a0)) ?_
 refine FD.val rfl rfl rfl (fun w' hw' => (E.load rfl (run_load0 Tryz.isAgg3 (c0.now (S0.call hw').sl) rfl))) ?_
 refine FD.val rfl rfl rfl (fun w' hw' => (E.eql rfl rfl)) ?_
 refine FD.val rfl rfl rfl (fun w' hw' => (E.assign (v := Value.bool ((PF.impl_abs a0) == b0)) rfl)) ?_
 refine FD.nil ?_
 intro w22 r24
 have S23 := S0.call r24
 refine FW.ret ?_
 obtain rfl := hp
 exact ⟨.inr rfl, res1 rfl rfl ⟨rfl, S23.back⟩⟩

@[reducible] def p_impl_withoutVar (Ha : GH) (wa : World) (r : (List Int)) : Ending → World → Prop :=
 fun e w' => ∃ H' : GH, ∃ v0 : Value, ∃ n0 : Nat, ∃ c0 : List Value, e = .returned (v0) ∧ St Ha wa H' w' [.row 3 1 v0 n0 c0] ∧ Els (up wa.heap.size H') eI 1 c0 r
theorem w_impl_withoutVar {Ha : GH} {wa : World} (hs : Sl Ha wa) (v0 : Value) (a0 : List Int) (p0 : RSl Ha eI 1 v0 a0) (a1 : Int) {r : (List Int)} (hp : (PF.impl_withoutVar a0 a1) = some r) :
  Calls Tryz.prog 210 #[v0, Value.int .i64 a1] wa (p_impl_withoutVar Ha wa r) := by
 unfold PF.impl_withoutVar at hp
 have S0 := St.init hs
 refine calls_go (N := 9) (args := [v0, Value.int .i64 a1]) Tryz.func210 rfl rfl rfl ?_
 refine FW.seq (FW.region ?_)
 obtain ⟨b21, w22, run23, S24⟩ := S0.box (P := Tryz.prog) 3 [Value.int .i64 a1] (v := Value.int .i64 a1) rfl (ones_cons rfl ones_nil)
 refine FL.v (E.box rfl run23) ?_
 obtain ⟨H25, S26, i27, at28⟩ := S24.sealBox (i := 0) (l' := []) rfl rfl
 refine FL.v (E.assign (v := Value.slice none 0 0) rfl) ?_
 refine FL.nil (FW.seq (FW.region ?_))
 refine FL.v (E.move (v := v0) rfl) ?_
 obtain ⟨r29, hr30, hp⟩ := bnd hp
 refine FL.call rfl rfl rfl (E.call Tryz.call82 (A1 rfl)) (w_slices_Clone_int_int S26.sl v0 a0 (p0.mono i27) hr30) ?_
 rintro e w32 ⟨H31, v35, n36, cs37, rfl, r34, els38⟩
 refine ⟨_, rfl, ?_⟩
 have els38 := els38.mono (up_le S26.size)
 have S33 := S26.join (l' := [.row 3 1 v35 n36 cs37]) r34 rfl
 refine FL.v (E.makeFunc A0 (A1 rfl)) ?_
 obtain ⟨r39, hr40, hp⟩ := bnd hp
 refine FL.call rfl rfl rfl (E.call Tryz.call225 (A2 rfl rfl)) (w_slices_DeleteFunc_int_int (L := []) S33 r29 els38 (Value.func (.func 254) #[] #[Value.pointer (some ⟨b21, 0, none⟩)]) (fun x0 => some (PF.impl_withoutVar_1 x0 a1)) (fun H2 w2 hi2 hs2 x0 r hr => ⟨254, #[Value.pointer (some ⟨b21, 0, none⟩)], rfl, Tryz.call254, by cases hr; exact w_impl_withoutVar_1 hs2 x0 ⟨b21, 0, none⟩ a1 ((at28.mono r34.run.inc).mono hi2)⟩) hr40) ?_
 rintro e w42 ⟨H41, v45, n46, cs47, rfl, ⟨S43, i44⟩, els48⟩
 refine ⟨_, rfl, ?_⟩
 have S43 : St Ha wa H41 w42 [.row 3 1 v45 n46 cs47] := S43
 refine FL.v (E.assign (v := v45) rfl) ?_
 refine FL.nil ?_
 refine FW.ret ?_
 obtain rfl := Option.some.inj hp
 exact ⟨.inr rfl, res1 rfl rfl ⟨_, _, _, _, rfl, S43, els48⟩⟩

@[reducible] def p_slices_Grow_int_int (Ha : GH) (wa : World) (r : List Int) : Ending → World → Prop :=
  fun e w' => ∃ H' : GH, ∃ v0 : Value, ∃ n0 : Nat, ∃ c0 : List Value, e = .returned (v0) ∧ St Ha wa H' w' [.row 3 1 v0 n0 c0] ∧ Els (up wa.heap.size H') eI 1 c0 r
theorem w_slices_Grow_int_int {Ha : GH} {wa : World} (hs : Sl Ha wa) (a1 : Int) {r : List Int} (hp : PF.slices_Grow_int_int a1 = some r) :
    Calls Tryz.prog 253 #[.slice none 0 0, .int .i64 a1] wa (p_slices_Grow_int_int Ha wa r) := by
  unfold PF.slices_Grow_int_int at hp
  split at hp
  · rename_i h
    cases hp
    refine (growNil (En := eI) te76 hs h.1 h.2 (fun w => Any8.slices_Grow_room (P := Tryz.prog) Tryz.grow253 none 0 0 0 w (Nat.le_refl _) (by decide) (by decide) (by decide))
      (fun n w h0 hl => ?_)).mono ?_
    · have h := Any8.slices_Grow_grow (P := Tryz.prog) Tryz.grow253 _ _ Tryz.type3 rfl (by decide) none 0 0 n [] w (Nat.le_refl _) (by omega) ?_ (by unfold lim at hl; omega) (by simp) (fun _ => rfl) (by simp)
      · refine h.mono ?_
        rintro _ _ ⟨rfl, rfl⟩
        refine ⟨by simp; rfl, ?_⟩
        simp
        rfl
      · rw [Nat.zero_add]; refine Nat.le_trans (Nat.mul_le_mul hl (show _ ≤ 4096 by decide)) (by decide)
    · rintro e w' ⟨v, n, c, rfl, h1, h2⟩
      exact ⟨_, _, _, _, rfl, h1, h2 _⟩
  · cases hp

@[reducible] def p_slices_Concat_int_int (Ha : GH) (wa : World) (r : (List Int)) : Ending → World → Prop :=
  fun e w' => ∃ H' : GH, ∃ v0 : Value, ∃ n0 : Nat, ∃ c0 : List Value, e = .returned (v0) ∧ St Ha wa H' w' [.row 3 1 v0 n0 c0] ∧ Els (up wa.heap.size H') eI 1 c0 r
theorem w_slices_Concat_int_int {Ha : GH} {wa : World} (hs : Sl Ha wa) (v0 : Value) (a0 : List (List Int)) (p0 : RSl Ha (eL eI 1) 1 v0 a0) {r : (List Int)} (hp : (PF.slices_Concat_int_int a0) = some r) :
    Calls Tryz.prog 209 #[v0] wa (p_slices_Concat_int_int Ha wa r) := by
  unfold PF.slices_Concat_int_int at hp
  have S0 := St.init hs
  refine calls_go (N := 36) (args := [v0]) Tryz.func209 rfl rfl rfl ?_
  refine FW.seq (FW.region ?_)
  refine FL.v (E.assign (v := Value.slice none 0 0) rfl) ?_
  refine FL.nil (FW.seq (FW.region ?_))
  refine FL.v (E.assign (v := Value.int .i64 0) rfl) ?_
  refine FL.nil (FW.seq (FW.seq (FW.region ?_)))
  refine FL.v (E.move (v := v0) rfl) ?_
  refine FL.v (E.lenP te22 rfl p0) ?_
  refine FL.v (E.move (v := Value.int .i64 0) rfl) ?_
  refine FL.nil ?_
  obtain ⟨q22, hq, hp⟩ := bndR hp
  refine FW.block ?_
  refine FW.mono (FW.forL (S := Int) (X := Empty) (fun (i22 : Nat) (s22 : Int) f w => ∃ H : GH, St Ha wa H w [] ∧ Inc Ha H ∧ f 11 = Value.int .i64 ((i22 : Nat) : Int) ∧ f 0 = v0 ∧ f 3 = Value.int .i64 s22 ∧ f 9 = v0 ∧ f 10 = Value.int .i64 (len a0)) (fun (q : Rs Int Empty) e f w => match q with | .go s22 => e = Exit.exit 0 ∧ (∃ H : GH, St Ha wa H w [] ∧ Inc Ha H ∧ f 0 = v0 ∧ f 3 = Value.int .i64 s22) | .rt x => x.elim) hq ⟨_, S0, (Inc.rfl _), rfl, rfl, rfl, rfl, rfl⟩ ?_ ?_) ?_
  ·
    clear hp hq
    rintro i22 y21 s22 f46 w45 ⟨H42, S43, i44, k47, k48, k49, k50, k51⟩ hx22 o61 hp
    refine FW.seq (FW.region ?_)
    refine FL.v (E.lssT k47 k51 (lss_len hx22)) ?_
    refine FL.nil (FW.seq ?_)
    refine FW.condT rfl rfl ?_
    refine FW.skip (FW.seq (FW.block (FW.seq (FW.region ?_))))
    obtain ⟨p52, cs53, pt54, l55, at56, rel57⟩ := p0.at (ix_nat hx22)
    obtain ⟨v58, rfl, h59⟩ := eL_open rel57
    refine FL.v (E.indexAddr te22 k50 k47 pt54) ?_
    refine FL.v (E.load rfl (run_load0 Tryz.isAgg76 ((at56.mono i44).now S43.sl) rfl)) ?_
    refine FL.v (E.assign (v := v58) rfl) ?_
    refine FL.nil (FW.seq (FW.region ?_))
    refine FL.v (E.move k49) ?_
    refine FL.v (E.move (v := v58) rfl) ?_
    refine FL.v (E.lenP te76 rfl h59) ?_
    refine FL.v (E.add rfl rfl) ?_
    refine FL.v (E.assign (v := Value.int .i64 (wr (s22 + (len y21)))) rfl) ?_
    refine FL.nil (FW.seq (FW.region ?_))
    refine FL.v (E.move (v := Value.int .i64 (wr (s22 + (len y21)))) rfl) ?_
    refine FL.v (E.lss rfl rfl) ?_
    refine FL.nil ?_
    rcases ifB hp with ⟨c60, hp⟩ | ⟨c60, hp⟩
    ·
      refine FW.condT rfl c60 ?_
      cases hp
    ·
      refine FW.condF rfl c60 ?_
      refine FW.skip (FW.region ?_)
      refine FL.v (E.add k47 rfl) ?_
      refine FL.v (E.move (v := Value.int .i64 (wr (((i22 : Nat) : Int) + 1))) rfl) ?_
      refine FL.nil ?_
      obtain rfl := Option.some.inj hp
      exact ⟨rfl, ⟨_, S43, i44, (nat_succ rfl (lt_of_get hx22) (p0.mono i44).le), k48, rfl, k50, k51⟩⟩
  ·
    clear hp hq
    rintro s22 f159 w158 ⟨H155, S156, i157, k160, k161, k162, k163, k164⟩
    refine FW.seq (FW.region ?_)
    refine FL.v (E.lss k160 k164) ?_
    refine FL.nil (FW.seq ?_)
    refine FW.condF rfl dlt_len ?_
    refine FW.exit ?_
    exact ⟨nofun, rfl, ⟨_, S156, i157, k161, k162⟩⟩
  ·
    clear hq
    intro e f66 w65 hD
    rcases q22 with s22 | x22
    ·
      obtain ⟨rfl, hD⟩ := hD
      obtain ⟨H62, S63, i64, k67, k68⟩ := hD
      replace hp := el_go hp
      refine FW.seq (FW.region ?_)
      refine FL.v (E.move k68) ?_
      obtain ⟨r69, hr70, hp⟩ := bnd hp
      refine FL.call rfl rfl rfl (E.call Tryz.call253 (A2 rfl rfl)) (w_slices_Grow_int_int S63.sl s22 hr70) ?_
      rintro e w72 ⟨H71, v75, n76, cs77, rfl, r74, els78⟩
      refine ⟨_, rfl, ?_⟩
      have els78 := els78.mono (up_le S63.size)
      have S73 := S63.join (l' := [.row 3 1 v75 n76 cs77]) r74 rfl
      refine FL.v (E.assign (v := v75) rfl) ?_
      refine FL.nil (FW.seq (FW.seq (FW.region ?_)))
      refine FL.v (E.move k67) ?_
      refine FL.v (E.lenP te22 rfl p0) ?_
      refine FL.v (E.move (v := Value.int .i64 0) rfl) ?_
      refine FL.nil ?_
      obtain ⟨q80, hq, hp⟩ := bndR hp
      refine FW.block ?_
      refine FW.mono (FW.forL (S := (List Int)) (X := Empty) (fun (i80 : Nat) (s80 : (List Int)) f w => ∃ H : GH, ∃ v81 : Value, ∃ n82 : Nat, ∃ cs83 : List Value, St Ha wa H w [.row 3 1 v81 n82 cs83] ∧ Inc H71 H ∧ Els (up wa.heap.size H) eI 1 cs83 s80 ∧ f 27 = Value.int .i64 ((i80 : Nat) : Int) ∧ f 6 = v81 ∧ f 25 = v0 ∧ f 26 = Value.int .i64 (len a0)) (fun (q : Rs (List Int) Empty) e f w => match q with | .go s80 => e = Exit.exit 2 ∧ (∃ H : GH, ∃ v81 : Value, ∃ n82 : Nat, ∃ cs83 : List Value, St Ha wa H w [.row 3 1 v81 n82 cs83] ∧ Inc H71 H ∧ Els (up wa.heap.size H) eI 1 cs83 s80 ∧ f 6 = v81) | .rt x => x.elim) hq ⟨_, _, _, _, S73, (Inc.rfl _), els78, rfl, rfl, rfl, rfl⟩ ?_ ?_) ?_
      ·
        clear hp hq
        rintro i80 y79 s80 f116 w115 ⟨H112, v81, n82, cs83, S113, i114, els84, k117, k118, k119, k120⟩ hx80 o139 hp
        refine FW.seq (FW.region ?_)
        refine FL.v (E.lssT k117 k120 (lss_len hx80)) ?_
        refine FL.nil (FW.seq ?_)
        refine FW.condT rfl rfl ?_
        refine FW.skip (FW.seq (FW.block (FW.seq (FW.region ?_))))
        obtain ⟨p121, cs122, pt123, l124, at125, rel126⟩ := p0.at (ix_nat hx80)
        obtain ⟨v127, rfl, h128⟩ := eL_open rel126
        refine FL.v (E.indexAddr te22 k119 k117 pt123) ?_
        refine FL.v (E.load rfl (run_load0 Tryz.isAgg76 ((at125.mono ((i64.tr r74.run.inc).tr i114)).now S113.sl) rfl)) ?_
        refine FL.v (E.assign (v := v127) rfl) ?_
        refine FL.nil (FW.region ?_)
        refine FL.v (E.move k118) ?_
        refine FL.v (E.move (v := v127) rfl) ?_
        obtain ⟨xs129, hz130, hp⟩ := bnd hp
        obtain ⟨v131, w134, n132, cs133, run135, S136, els137⟩ := S113.appendP (P := Tryz.prog) (Inc.rfl _) te76 (i := 0) rfl (els84.mono upI) (h128.mono ((i64.tr r74.run.inc).tr i114)) hz130
        have S136 : St Ha wa H112 w134 [.row 3 1 v131 n132 cs133] := S136
        have els137 : Els (up wa.heap.size H112) eI 1 cs133 xs129 := els137.any (fun _ _ _ _ h => h)
        refine FL.v (E.append rfl rfl run135) ?_
        refine FL.v (E.assign (v := v131) rfl) ?_
        refine FL.nil (FW.region ?_)
        refine FL.v (E.add k117 rfl) ?_
        refine FL.v (E.move (v := Value.int .i64 (wr (((i80 : Nat) : Int) + 1))) rfl) ?_
        refine FL.nil ?_
        obtain rfl := Option.some.inj hp
        exact ⟨rfl, ⟨_, _, _, _, S136, i114, els137, (nat_succ rfl (lt_of_get hx80) (p0.mono ((i64.tr r74.run.inc).tr i114)).le), rfl, k119, k120⟩⟩
      ·
        clear hp hq
        rintro s80 f150 w149 ⟨H146, v81, n82, cs83, S147, i148, els84, k151, k152, k153, k154⟩
        refine FW.seq (FW.region ?_)
        refine FL.v (E.lss k151 k154) ?_
        refine FL.nil (FW.seq ?_)
        refine FW.condF rfl dlt_len ?_
        refine FW.exit ?_
        exact ⟨nofun, rfl, ⟨_, _, _, _, S147, i148, els84, k152⟩⟩
      ·
        clear hq
        intro e f144 w143 hD
        rcases q80 with s80 | x80
        ·
          obtain ⟨rfl, hD⟩ := hD
          obtain ⟨H140, v81, n82, cs83, S141, i142, els84, k145⟩ := hD
          replace hp := el_go hp
          refine FW.seq (FW.region ?_)
          refine FL.v (E.move k145) ?_
          refine FL.v (E.assign (v := v81) rfl) ?_
          refine FL.nil ?_
          refine FW.ret ?_
          obtain rfl := Option.some.inj hp
          exact ⟨.inr rfl, res1 rfl rfl ⟨_, _, _, _, rfl, S141, els84⟩⟩
        · exact x80.elim
    · exact x22.elim

@[reducible] def p_impl_resolve (Ha : GH) (wa : World) (r : ((List Int) × Bool)) : Ending → World → Prop :=
 fun e w' => ∃ H' : GH, ∃ v0 : Value, ∃ n0 : Nat, ∃ c0 : List Value, e = .returned (Value.tuple #[v0, Value.bool r.2]) ∧ St Ha wa H' w' [.row 3 1 v0 n0 c0] ∧ Els (up wa.heap.size H') eI 1 c0 r.1
theorem w_impl_resolve {Ha : GH} {wa : World} (hs : Sl Ha wa) (v0 : Value) (a0 : List Int) (p0 : RSl Ha eI 1 v0 a0) (v1 : Value) (a1 : List Int) (p1 : RSl Ha eI 1 v1 a1) (a2 : Int) {r : ((List Int) × Bool)} (hp : (PF.impl_resolve a0 a1 a2) = some r) :
  Calls Tryz.prog 143 #[v0, v1, Value.int .i64 a2] wa (p_impl_resolve Ha wa r) := by
 unfold PF.impl_resolve at hp
 have S0 := St.init hs
 refine calls_go (N := 30) (args := [v0, v1, Value.int .i64 a2]) Tryz.func143 rfl rfl rfl ?_
 refine FW.seq (FW.region ?_)
 refine FL.v (E.assign (v := Value.slice none 0 0) rfl) ?_
 refine FL.v (E.assign (v := Value.bool false) rfl) ?_
 refine FL.nil (FW.seq (FW.seq (FW.region ?_)))
 refine FL.v (E.move (v := v0) rfl) ?_
 refine FL.v (E.move (v := Value.int .i64 a2) rfl) ?_
 obtain ⟨r21, hr22, hp⟩ := bnd hp
 refine FL.call rfl rfl rfl (E.call Tryz.call163 (A2 rfl rfl)) (w_slices_Contains_int_int S0.sl v0 a0 p0 a2 hr22) ?_
 rintro e w23 ⟨rfl, r24⟩
 refine ⟨_, rfl, ?_⟩
 have S25 := S0.call r24
 refine FL.v (E.not rfl) ?_
 refine FL.v (E.move (v := Value.bool (!r21)) rfl) ?_
 obtain ⟨t31, hqt31, hp⟩ := bnd hp
 refine FL.cut 6 (fun f w => ∃ H : GH, St Ha wa H w [] ∧ Inc Ha H ∧ f 0 = v0 ∧ f 1 = v1 ∧ f 2 = Value.int .i64 a2 ∧ f 18 = Value.bool t31) ?_ ?_
 ·
  clear hp; have hp := hqt31; clear hqt31
  rcases ifB hp with ⟨c37, hp⟩ | ⟨c37, hp⟩
  ·
   refine FL.skip (wF_no rfl rfl rfl c37) rfl ?_
   refine FL.skip (wF_no rfl rfl rfl c37) rfl ?_
   refine FL.skip (wF_no rfl rfl rfl c37) rfl ?_
   refine FL.skip (wF_no rfl rfl rfl c37) rfl ?_
   refine FL.skip (wF_no rfl rfl rfl c37) rfl ?_
   obtain rfl := Option.some.inj hp
   refine FL.v (E.pickT rfl c37 rfl) ?_
   exact FL.nil ⟨rfl, _, S25, (Inc.rfl _), rfl, rfl, rfl, rfl⟩
  ·
   refine FL.val (wF_yes rfl rfl rfl c37) rfl rfl (E.move (v := v1) rfl) ?_
   refine FL.val (wF_yes rfl rfl rfl c37) rfl rfl (E.move (v := Value.int .i64 a2) rfl) ?_
   refine FL.val (wF_yes rfl rfl rfl c37) rfl rfl (E.neg rfl) ?_
   obtain ⟨r38, hr39, hp⟩ := bnd hp
   refine FL.call (wF_yes rfl rfl rfl c37) rfl rfl (E.call Tryz.call163 (A2 rfl rfl)) (w_slices_Contains_int_int S25.sl v1 a1 p1 (wr (-a2)) hr39) ?_
   rintro e w40 ⟨rfl, r41⟩
   refine ⟨_, rfl, ?_⟩
   have S42 := S25.call r41
   refine FL.val (wF_yes rfl rfl rfl c37) rfl rfl (E.not rfl) ?_
   obtain rfl := Option.some.inj hp
   refine FL.v (E.pickF rfl c37 rfl) ?_
   exact FL.nil ⟨rfl, _, S42, (Inc.rfl _), rfl, rfl, rfl, rfl⟩
 rintro f36 w35 ⟨H32, S33, i34, k43, k44, k45, k46⟩
 refine FL.nil ?_
 rcases ifB hp with ⟨c47, hp⟩ | ⟨c47, hp⟩
 ·
  refine FW.condT k46 c47 ?_
  refine FW.seq (FW.region ?_)
  refine FL.v (E.assign (v := Value.slice none 0 0) rfl) ?_
  refine FL.v (E.assign (v := Value.bool false) rfl) ?_
  refine FL.nil ?_
  refine FW.ret ?_
  obtain rfl := Option.some.inj hp
  exact ⟨.inr rfl, res2 rfl rfl rfl ⟨_, _, _, _, rfl, (S33.nil 3 1), Els.nil⟩⟩
 ·
  refine FW.condF k46 c47 ?_
  refine FW.skip (FW.seq (FW.region ?_))
  refine FL.v (E.move k43) ?_
  refine FL.v (E.move k45) ?_
  obtain ⟨r48, hr49, hp⟩ := bnd hp
  refine FL.call rfl rfl rfl (E.call Tryz.call210 (A2 rfl rfl)) (w_impl_withoutVar S33.sl v0 a0 (p0.mono i34) a2 hr49) ?_
  rintro e w51 ⟨H50, v54, n55, cs56, rfl, r53, els57⟩
  refine ⟨_, rfl, ?_⟩
  have els57 := els57.mono (up_le S33.size)
  have S52 := S33.join (l' := [.row 3 1 v54 n55 cs56]) r53 rfl
  refine FL.v (E.move k44) ?_
  refine FL.v (E.move k45) ?_
  obtain ⟨r58, hr59, hp⟩ := bnd hp
  refine FL.call rfl rfl rfl (E.call Tryz.call210 (A2 rfl rfl)) (w_impl_withoutVar S52.sl v1 a1 (p1.mono (i34.tr r53.run.inc)) a2 hr59) ?_
  rintro e w61 ⟨H60, v64, n65, cs66, rfl, r63, els67⟩
  refine ⟨_, rfl, ?_⟩
  have els67 := els67.mono (up_le S52.size)
  have S62 := S52.join (l' := [.row 3 1 v64 n65 cs66, .row 3 1 v54 n55 cs56]) r63 rfl
  obtain ⟨H68, S69, i70, h71, nv72⟩ := S62.sealRowU (i := 1) (l' := [.row 3 1 v64 n65 cs66]) rfl (els57.mono (up_mono r63.run.inc)) (by decide) rfl
  obtain ⟨H73, S74, i75, h76, nv77⟩ := S69.sealRowU (i := 0) (l' := []) rfl (els67.mono (up_mono i70)) (by decide) rfl
  obtain ⟨v78, w79, run80, S81⟩ := S74.buildSlice (P := Tryz.prog) te22 [v54, v64] (parts := #[(0, v54), (1, v64)]) (cells := [v54, v64]) rfl (szs_cons (cells_size h71.cells) (szs_cons (cells_size h76.cells) szs_nil)) (fc_cons h71.cells (fc_cons h76.cells fc_nil)) (ones_cons h71.one (ones_cons h76.one ones_nil)) (Nat.le_of_ble_eq_true rfl)
  have els82 : Els (up wa.heap.size H73) (eL eI 1) 1 [v54, v64] [r48, r58] := (Els.snoc (H := (up wa.heap.size H73)) (E := (eL eI 1)) (k := 1) (c := [v64]) (x := r58) (Els.snoc (H := (up wa.heap.size H73)) (E := (eL eI 1)) (k := 1) (c := [v54]) (x := r48) Els.nil rfl ⟨_, rfl, (h71.mono (up_mono i75))⟩) rfl ⟨_, rfl, h76⟩)
  refine FL.v (E.buildSlice (B2 rfl rfl) run80) ?_
  obtain ⟨H83, S84, i85, h86, nv87⟩ := S81.sealRowU (i := 0) (l' := []) rfl els82 (by decide) rfl
  obtain ⟨r88, hr89, hp⟩ := bnd hp
  refine FL.call rfl rfl rfl (E.call Tryz.call209 (A1 rfl)) (w_slices_Concat_int_int S84.sl v78 [r48, r58] (h86.mono upI) hr89) ?_
  rintro e w91 ⟨H90, v96, n97, cs98, rfl, r93, els99⟩
  refine ⟨_, rfl, ?_⟩
  obtain ⟨H94, r93, hU95⟩ := St.lendX i85 S81.sl r93
  have els99 := els99.mono (hU95.tr (up_le S81.size))
  have S92 := S81.join (l' := [.row 3 1 v96 n97 cs98, .row 76 1 v78 2 [v54, v64]]) r93 rfl
  obtain ⟨H100, S101, i102, h103, nv104⟩ := S92.sealRowU (i := 0) (l' := [.row 76 1 v78 2 [v54, v64]]) rfl els99 (by decide) rfl
  obtain ⟨r105, hr106, hp⟩ := bnd hp
  refine FL.call rfl rfl rfl (E.call Tryz.call208 (A1 rfl)) (w_impl_clause S101.sl v96 r88 (h103.mono upI) hr106) ?_
  rintro e w108 ⟨H107, v113, n114, cs115, rfl, r110, els116⟩
  refine ⟨_, rfl, ?_⟩
  obtain ⟨H111, r110, hU112⟩ := St.lendX i102 S92.sl r110
  have els116 := els116.mono (hU112.tr (up_le S92.size))
  have S109 := S92.join (l' := [.row 3 1 v113 n114 cs115, .row 3 1 v96 n97 cs98, .row 76 1 v78 2 [v54, v64]]) r110 rfl
  refine FL.v (E.extract (i := 0) rfl rfl) ?_
  refine FL.v (E.extract (i := 1) rfl rfl) ?_
  refine FL.v (E.assign (v := v113) rfl) ?_
  refine FL.v (E.assign (v := Value.bool r105.2) rfl) ?_
  refine FL.nil ?_
  refine FW.ret ?_
  obtain rfl := Option.some.inj hp
  exact ⟨.inr rfl, res2 rfl rfl rfl ⟨_, _, _, _, rfl, (S109.sel [0] (by decide) rfl), els116⟩⟩

set_option maxHeartbeats 4000000 in
theorem w_impl_correct {Ha : GH} {wa : World} (hs : Sl Ha wa) (a0 : Cnf) (v0_1 : Value) (p0_1 : RSl Ha (eL eI 1) 1 v0_1 a0.clauses) (v1 : Value) (a1 : List ResStep) (p1 : RSl Ha eResStep 4 v1 a1) (a2 : Int) {r : Bool} (hp : (PF.impl_correct a0 a1 a2) = some r) :
  Calls Tryz.prog 257 #[Value.agg #[Value.int .i64 a0.vars, v0_1], v1, Value.int .i64 a2] wa (Sc Ha wa (Value.bool r)) := by
 unfold PF.impl_correct at hp
 have S0 := St.init hs
 refine calls_go (N := 105) (args := [Value.agg #[Value.int .i64 a0.vars, v0_1], v1, Value.int .i64 a2]) Tryz.func257 rfl rfl rfl ?_
 refine FW.seq (FW.region ?_)
 obtain ⟨b21, w22, run23, S24⟩ := S0.box (P := Tryz.prog) 30 [Value.int .i64 a0.vars, v0_1] (v := Value.agg #[Value.int .i64 a0.vars, v0_1]) rfl (ones_cons rfl (ones_cons p0_1.one ones_nil))
 refine FL.v (E.box rfl run23) ?_
 obtain ⟨H25, S26, i27, at28⟩ := S24.sealBox (i := 0) (l' := []) rfl rfl
 refine FL.v (E.assign (v := Value.bool false) rfl) ?_
 refine FL.nil (FW.seq (FW.region ?_))
 refine FL.v (E.move (v := v1) rfl) ?_
 refine FL.v (E.move (v := Value.int .i64 a2) rfl) ?_
 obtain ⟨x35, hx36, hp⟩ := bnd hp
 obtain ⟨p29, cs30, pt31, l32, at33, rel34⟩ := p1.at hx36
 obtain ⟨v37, rfl, h38⟩ := eResStep_open rel34
 refine FL.v (E.indexAddr te41 rfl rfl pt31) ?_
 refine FL.v (E.load rfl (run_loadA Tryz.isAgg103 Tryz.sizeOf103 ((at33.mono i27).now S26.sl) rfl)) ?_
 obtain ⟨b39, w40, run41, S42⟩ := S26.alloc (P := Tryz.prog) 103 [Value.slice none 0 0, Value.int .i64 0, Value.int .i64 0, Value.int .i64 0] Tryz.zeroValue103 rfl (ones_cons rfl (ones_cons rfl (ones_cons rfl (ones_cons rfl ones_nil))))
 refine FL.v (E.alloc run41) ?_
 obtain ⟨w43, run44, S45⟩ := S42.store0 (P := Tryz.prog) (t := 103) (i := 0) (cs' := [v37, Value.int .i64 x35.left, Value.int .i64 x35.right, Value.int .i64 x35.pivot]) (l' := [.box b39 103 [v37, Value.int .i64 x35.left, Value.int .i64 x35.right, Value.int .i64 x35.pivot]]) (v := Value.agg #[v37, Value.int .i64 x35.left, Value.int .i64 x35.right, Value.int .i64 x35.pivot]) (c := [v37, Value.int .i64 x35.left, Value.int .i64 x35.right, Value.int .i64 x35.pivot]) rfl Tryz.sizeOf103 rfl rfl (ones_cons h38.one (ones_cons rfl (ones_cons rfl (ones_cons rfl ones_nil)))) (Nat.le_of_ble_eq_true rfl) rfl rfl
 refine FL.act rfl rfl (E.store rfl rfl run44) ?_
 obtain ⟨H46, S47, i48, at49⟩ := S45.sealBox (i := 0) (l' := []) rfl rfl
 refine FL.nil (FW.seq (FW.seq (FW.region ?_)))
 refine FL.v (E.fieldAddr tf30_0 rfl) ?_
 refine FL.v (E.load rfl (run_load1 Tryz.isAgg3 ((at28.mono i48).now S47.sl) rfl)) ?_
 refine FL.v (E.fieldAddr tf103_0 rfl) ?_
 refine FL.v (E.load rfl (run_load1 Tryz.isAgg76 (at49.now S47.sl) rfl)) ?_
 obtain ⟨r50, hr51, hp⟩ := bnd hp
 refine FL.call rfl rfl rfl (E.call Tryz.call191 (A2 rfl rfl)) (w_impl_IsClause S47.sl a0.vars v37 x35.clause (h38.mono (i27.tr i48)) hr51) ?_
 rintro e w52 ⟨rfl, r53⟩
 refine ⟨_, rfl, ?_⟩
 have S54 := S47.call r53
 refine FL.v (E.not rfl) ?_
 refine FL.nil ?_
 rcases ifB hp with ⟨c55, hp⟩ | ⟨c55, hp⟩
 ·
  refine FW.condT rfl c55 ?_
  refine FW.seq (FW.region ?_)
  refine FL.v (E.assign (v := Value.bool false) rfl) ?_
  refine FL.nil ?_
  refine FW.ret ?_
  obtain rfl := Option.some.inj hp
  exact ⟨.inr rfl, res1 rfl rfl ⟨rfl, S54.back⟩⟩
 ·
  refine FW.condF rfl c55 ?_
  refine FW.skip (FW.seq (FW.seq (FW.region ?_)))
  refine FL.v (E.fieldAddr tf103_1 rfl) ?_
  refine FL.v (E.load rfl (run_load1 Tryz.isAgg3 (at49.now S54.sl) rfl)) ?_
  refine FL.v (E.eql rfl rfl) ?_
  refine FL.nil ?_
  rcases ifB hp with ⟨c56, hp⟩ | ⟨c56, hp⟩
  ·
   refine FW.condT rfl c56 ?_
   refine FW.seq ?_
   refine FW.draw (fun w' => Run w52.heap.size H46 w52 H46 w') (by kernel_rfl) (by kernel_rfl) (run_drew S54.sl) ?_
   refine FD.val rfl rfl rfl (fun w' hw' => (E.fieldAddr tf103_3 rfl)) ?_
   refine FD.val rfl rfl rfl (fun w' hw' => (E.load rfl (run_load1 Tryz.isAgg3 (at49.now (S54.call hw').sl) rfl))) ?_
   refine FD.val rfl rfl rfl (fun w' hw' => (E.eql rfl rfl)) ?_
   refine FD.val rfl rfl rfl (fun w' hw' => (E.move (v := Value.bool (x35.pivot == 0)) rfl)) ?_
   refine FD.cut 8 (fun f => f 3 = Value.pointer (some ⟨b21, 0, none⟩) ∧ f 7 = Value.pointer (some ⟨b39, 0, none⟩) ∧ f 36 = Value.bool (bif (x35.pivot == 0) then (PF.impl_within x35.right 0 (wr ((len a0.clauses) - 1))) else false)) ?_ ?_
   ·
    rcases bcase (x35.pivot == 0) with c64 | c64
    ·
     refine FD.val (wF_yes rfl rfl rfl c64) rfl rfl (fun w' hw' => (E.fieldAddr tf103_2 rfl)) ?_
     refine FD.val (wF_yes rfl rfl rfl c64) rfl rfl (fun w' hw' => (E.load rfl (run_load1 Tryz.isAgg3 (at49.now (S54.call hw').sl) rfl))) ?_
     refine FD.val (wF_yes rfl rfl rfl c64) rfl rfl (fun w' hw' => (E.fieldAddr tf30_1 rfl)) ?_
     refine FD.val (wF_yes rfl rfl rfl c64) rfl rfl (fun w' hw' => (E.load rfl (run_load1 Tryz.isAgg22 ((at28.mono i48).now (S54.call hw').sl) rfl))) ?_
     refine FD.val (wF_yes rfl rfl rfl c64) rfl rfl (fun w' hw' => (E.lenP te22 rfl p0_1)) ?_
     refine FD.val (wF_yes rfl rfl rfl c64) rfl rfl (fun w' hw' => (E.sub rfl rfl)) ?_
     refine FD.call (wF_yes rfl rfl rfl c64) rfl rfl (fun w' hw' => (E.call Tryz.call126 (A3 rfl rfl rfl))) (fun w' hw' => Calls.cls hw' (w_impl_within (S54.call hw').sl x35.right 0 (wr ((len a0.clauses) - 1)))) ?_
     refine FD.val rfl rfl rfl (fun w' hw' => (E.pickT rfl c64 rfl)) ?_
     exact FD.nil ⟨rfl, rfl, (congrArg Value.bool (bifT c64).symm)⟩
    ·
     refine FD.skip (wF_no rfl rfl rfl c64) rfl ?_
     refine FD.skip (wF_no rfl rfl rfl c64) rfl ?_
     refine FD.skip (wF_no rfl rfl rfl c64) rfl ?_
     refine FD.skip (wF_no rfl rfl rfl c64) rfl ?_
     refine FD.skip (wF_no rfl rfl rfl c64) rfl ?_
     refine FD.skip (wF_no rfl rfl rfl c64) rfl ?_
     refine FD.skip (wF_no rfl rfl rfl c64) rfl ?_
     refine FD.val rfl rfl rfl (fun w' hw' => (E.pickF rfl c64 rfl)) ?_
     exact FD.nil ⟨rfl, rfl, (congrArg Value.bool (bifF c64).symm)⟩
   rintro f63 ⟨k65, k66, k67⟩
   refine FD.val rfl rfl rfl (fun w' hw' => (E.move k67)) ?_
   obtain ⟨t80, hqt80, hp⟩ := bnd hp
   refine FD.cut 10 (fun f => f 47 = Value.bool t80) ?_ ?_
   ·
    clear hp; have hp := hqt80; clear hqt80
    rcases ifB hp with ⟨c86, hp⟩ | ⟨c86, hp⟩
    ·
     refine FD.val (wF_yes rfl rfl rfl c86) rfl rfl (fun w' hw' => (E.fieldAddr tf30_1 k65)) ?_
     refine FD.val (wF_yes rfl rfl rfl c86) rfl rfl (fun w' hw' => (E.load rfl (run_load1 Tryz.isAgg22 ((at28.mono i48).now (S54.call hw').sl) rfl))) ?_
     refine FD.val (wF_yes rfl rfl rfl c86) rfl rfl (fun w' hw' => (E.fieldAddr tf103_2 k66)) ?_
     refine FD.val (wF_yes rfl rfl rfl c86) rfl rfl (fun w' hw' => (E.load rfl (run_load1 Tryz.isAgg3 (at49.now (S54.call hw').sl) rfl))) ?_
     obtain ⟨x93, hx94, hp⟩ := bnd hp
     obtain ⟨p87, cs88, pt89, l90, at91, rel92⟩ := p0_1.at hx94
     obtain ⟨v95, rfl, h96⟩ := eL_open rel92
     refine FD.val (wF_yes rfl rfl rfl c86) rfl rfl (fun w' hw' => (E.indexAddr te22 rfl rfl pt89)) ?_
     refine FD.val (wF_yes rfl rfl rfl c86) rfl rfl (fun w' hw' => (E.load rfl (run_load0 Tryz.isAgg76 ((at91.mono (i27.tr i48)).now (S54.call hw').sl) rfl))) ?_
     refine FD.val (wF_yes rfl rfl rfl c86) rfl rfl (fun w' hw' => (E.fieldAddr tf103_0 k66)) ?_
     refine FD.val (wF_yes rfl rfl rfl c86) rfl rfl (fun w' hw' => (E.load rfl (run_load1 Tryz.isAgg76 (at49.now (S54.call hw').sl) rfl))) ?_
     obtain ⟨r97, hr98, hp⟩ := bnd hp
     refine FD.call (wF_yes rfl rfl rfl c86) rfl rfl (fun w' hw' => (E.call Tryz.call75 (A2 rfl rfl))) (fun w' hw' => Calls.cls hw' (w_slices_Equal_int_int (S54.call hw').sl v95 x93 (h96.mono (i27.tr i48)) v37 x35.clause (h38.mono (i27.tr i48)) hr98)) ?_
     obtain rfl := Option.some.inj hp
     refine FD.val rfl rfl rfl (fun w' hw' => (E.pickT rfl c86 rfl)) ?_
     exact FD.nil rfl
    ·
     refine FD.skip (wF_no rfl rfl rfl c86) rfl ?_
     refine FD.skip (wF_no rfl rfl rfl c86) rfl ?_
     refine FD.skip (wF_no rfl rfl rfl c86) rfl ?_
     refine FD.skip (wF_no rfl rfl rfl c86) rfl ?_
     refine FD.skip (wF_no rfl rfl rfl c86) rfl ?_
     refine FD.skip (wF_no rfl rfl rfl c86) rfl ?_
     refine FD.skip (wF_no rfl rfl rfl c86) rfl ?_
     refine FD.skip (wF_no rfl rfl rfl c86) rfl ?_
     refine FD.skip (wF_no rfl rfl rfl c86) rfl ?_
     obtain rfl := Option.some.inj hp
     refine FD.val rfl rfl rfl (fun w' hw' => (E.pickF rfl c86 rfl)) ?_
     exact FD.nil rfl
   intro f85 k99
   refine FD.val rfl rfl rfl (fun w' hw' => (E.assign k99)) ?_
   refine FD.nil ?_
   intro w100 r102
   have S101 := S54.call r102
   refine FW.ret ?_
   obtain rfl := Option.some.inj hp
   exact ⟨.inr rfl, res1 rfl rfl ⟨rfl, S101.back⟩⟩
  ·
   refine FW.condF rfl c56 ?_
   refine FW.skip (FW.seq (FW.region ?_))
   refine FL.v (E.load rfl (run_loadA Tryz.isAgg30 Tryz.sizeOf30 ((at28.mono i48).now S54.sl) rfl)) ?_
   refine FL.v (E.move (v := v1) rfl) ?_
   refine FL.v (E.move (v := Value.int .i64 a2) rfl) ?_
   refine FL.v (E.fieldAddr tf103_1 rfl) ?_
   refine FL.v (E.load rfl (run_load1 Tryz.isAgg3 (at49.now S54.sl) rfl)) ?_
   obtain ⟨r103, hr104, hp⟩ := bnd hp
   refine FL.call rfl rfl rfl (E.call Tryz.call291 (A4 rfl rfl rfl rfl)) (w_impl_earlier S54.sl a0 v0_1 (p0_1.mono (i27.tr i48)) v1 a1 (p1.mono (i27.tr i48)) a2 x35.left hr104) ?_
   rintro e w106 ⟨H105, v109, rfl, r108, h110⟩
   refine ⟨_, rfl, ?_⟩
   have S107 := S54.call r108
   refine FL.v (E.move (v := Value.tuple #[v109, Value.bool r103.2]) rfl) ?_
   refine FL.v (E.extract (i := 0) rfl rfl) ?_
   refine FL.v (E.extract (i := 1) rfl rfl) ?_
   refine FL.v (E.assign (v := v109) rfl) ?_
   refine FL.v (E.assign (v := Value.bool r103.2) rfl) ?_
   refine FL.nil (FW.seq (FW.seq (FW.region ?_)))
   refine FL.v (E.move (v := Value.bool r103.2) rfl) ?_
   refine FL.v (E.not rfl) ?_
   refine FL.nil ?_
   rcases ifB hp with ⟨c111, hp⟩ | ⟨c111, hp⟩
   ·
    refine FW.condT rfl c111 ?_
    refine FW.seq (FW.region ?_)
    refine FL.v (E.assign (v := Value.bool false) rfl) ?_
    refine FL.nil ?_
    refine FW.ret ?_
    obtain rfl := Option.some.inj hp
    exact ⟨.inr rfl, res1 rfl rfl ⟨rfl, S107.back⟩⟩
   ·
    refine FW.condF rfl c111 ?_
    refine FW.skip (FW.seq (FW.seq (FW.region ?_)))
    refine FL.v (E.fieldAddr tf103_2 rfl) ?_
    refine FL.v (E.load rfl (run_load1 Tryz.isAgg3 ((at49.mono r108.inc).now S107.sl) rfl)) ?_
    refine FL.v (E.eql rfl rfl) ?_
    refine FL.nil ?_
    rcases ifB hp with ⟨c112, hp⟩ | ⟨c112, hp⟩
    ·
     refine FW.condT rfl c112 ?_
     refine FW.seq (FW.region ?_)
     refine FL.v (E.fieldAddr tf103_3 rfl) ?_
     refine FL.v (E.load rfl (run_load1 Tryz.isAgg3 ((at49.mono r108.inc).now S107.sl) rfl)) ?_
     refine FL.v (E.eql rfl rfl) ?_
     refine FL.v (E.move (v := Value.bool (x35.pivot == 0)) rfl) ?_
     obtain ⟨t118, hqt118, hp⟩ := bnd hp
     refine FL.cut 5 (fun f w => ∃ H : GH, St Ha wa H w [] ∧ Inc H105 H ∧ f 70 = Value.bool t118) ?_ ?_
     ·
      clear hp; have hp := hqt118; clear hqt118
      rcases ifB hp with ⟨c124, hp⟩ | ⟨c124, hp⟩
      ·
       refine FL.val (wF_yes rfl rfl rfl c124) rfl rfl (E.move (v := v109) rfl) ?_
       refine FL.val (wF_yes rfl rfl rfl c124) rfl rfl (E.fieldAddr tf103_0 rfl) ?_
       refine FL.val (wF_yes rfl rfl rfl c124) rfl rfl (E.load rfl (run_load1 Tryz.isAgg76 ((at49.mono r108.inc).now S107.sl) rfl)) ?_
       obtain ⟨r125, hr126, hp⟩ := bnd hp
       refine FL.call (wF_yes rfl rfl rfl c124) rfl rfl (E.call Tryz.call292 (A2 rfl rfl)) (w_impl_part S107.sl v109 r103.1 h110 v37 x35.clause (h38.mono ((i27.tr i48).tr r108.inc)) hr126) ?_
       rintro e w127 ⟨rfl, r128⟩
       refine ⟨_, rfl, ?_⟩
       have S129 := S107.call r128
       obtain rfl := Option.some.inj hp
       refine FL.v (E.pickT rfl c124 rfl) ?_
       exact FL.nil ⟨rfl, _, S129, (Inc.rfl _), rfl⟩
      ·
       refine FL.skip (wF_no rfl rfl rfl c124) rfl ?_
       refine FL.skip (wF_no rfl rfl rfl c124) rfl ?_
       refine FL.skip (wF_no rfl rfl rfl c124) rfl ?_
       refine FL.skip (wF_no rfl rfl rfl c124) rfl ?_
       obtain rfl := Option.some.inj hp
       refine FL.v (E.pickF rfl c124 rfl) ?_
       exact FL.nil ⟨rfl, _, S107, (Inc.rfl _), rfl⟩
     rintro f123 w122 ⟨H119, S120, i121, k130⟩
     refine FL.v (E.assign k130) ?_
     refine FL.nil ?_
     refine FW.ret ?_
     obtain rfl := Option.some.inj hp
     exact ⟨.inr rfl, res1 rfl rfl ⟨rfl, S120.back⟩⟩
    ·
     refine FW.condF rfl c112 ?_
     refine FW.skip (FW.seq (FW.region ?_))
     refine FL.v (E.load rfl (run_loadA Tryz.isAgg30 Tryz.sizeOf30 ((at28.mono (i48.tr r108.inc)).now S107.sl) rfl)) ?_
     refine FL.v (E.move (v := v1) rfl) ?_
     refine FL.v (E.move (v := Value.int .i64 a2) rfl) ?_
     refine FL.v (E.fieldAddr tf103_2 rfl) ?_
     refine FL.v (E.load rfl (run_load1 Tryz.isAgg3 ((at49.mono r108.inc).now S107.sl) rfl)) ?_
     obtain ⟨r131, hr132, hp⟩ := bnd hp
     refine FL.call rfl rfl rfl (E.call Tryz.call291 (A4 rfl rfl rfl rfl)) (w_impl_earlier S107.sl a0 v0_1 (p0_1.mono ((i27.tr i48).tr r108.inc)) v1 a1 (p1.mono ((i27.tr i48).tr r108.inc)) a2 x35.right hr132) ?_
     rintro e w134 ⟨H133, v137, rfl, r136, h138⟩
     refine ⟨_, rfl, ?_⟩
     have S135 := S107.call r136
     refine FL.v (E.move (v := Value.tuple #[v137, Value.bool r131.2]) rfl) ?_
     refine FL.v (E.extract (i := 0) rfl rfl) ?_
     refine FL.v (E.extract (i := 1) rfl rfl) ?_
     refine FL.v (E.assign (v := v137) rfl) ?_
     refine FL.v (E.assign (v := Value.bool r131.2) rfl) ?_
     refine FL.nil (FW.seq (FW.seq (FW.region ?_)))
     refine FL.v (E.move (v := Value.bool r131.2) rfl) ?_
     refine FL.v (E.not rfl) ?_
     refine FL.v (E.move (v := Value.bool (!r131.2)) rfl) ?_
     refine FL.cut 7 (fun f w => ∃ H : GH, St Ha wa H w [] ∧ Inc H133 H ∧ f 7 = Value.pointer (some ⟨b39, 0, none⟩) ∧ f 8 = v109 ∧ f 10 = v137 ∧ f 89 = Value.bool (bif (!r131.2) then true else (!(PF.impl_isVar a0.vars x35.pivot)))) ?_ ?_
     ·
      rcases bcase (!r131.2) with c148 | c148
      ·
       refine FL.skip (wF_no rfl rfl rfl c148) rfl ?_
       refine FL.skip (wF_no rfl rfl rfl c148) rfl ?_
       refine FL.skip (wF_no rfl rfl rfl c148) rfl ?_
       refine FL.skip (wF_no rfl rfl rfl c148) rfl ?_
       refine FL.skip (wF_no rfl rfl rfl c148) rfl ?_
       refine FL.skip (wF_no rfl rfl rfl c148) rfl ?_
       refine FL.v (E.pickT rfl c148 rfl) ?_
       exact FL.nil ⟨rfl, _, S135, (Inc.rfl _), rfl, rfl, rfl, (congrArg Value.bool (bifT c148).symm)⟩
      ·
       refine FL.val (wF_yes rfl rfl rfl c148) rfl rfl (E.fieldAddr tf30_0 rfl) ?_
       refine FL.val (wF_yes rfl rfl rfl c148) rfl rfl (E.load rfl (run_load1 Tryz.isAgg3 ((at28.mono ((i48.tr r108.inc).tr r136.inc)).now S135.sl) rfl)) ?_
       refine FL.val (wF_yes rfl rfl rfl c148) rfl rfl (E.fieldAddr tf103_3 rfl) ?_
       refine FL.val (wF_yes rfl rfl rfl c148) rfl rfl (E.load rfl (run_load1 Tryz.isAgg3 ((at49.mono (r108.inc.tr r136.inc)).now S135.sl) rfl)) ?_
       refine FL.call (wF_yes rfl rfl rfl c148) rfl rfl (E.call Tryz.call142 (A2 rfl rfl)) (w_impl_isVar S135.sl a0.vars x35.pivot) ?_
       rintro e w149 ⟨rfl, r150⟩
       refine ⟨_, rfl, ?_⟩
       have S151 := S135.call r150
       refine FL.val (wF_yes rfl rfl rfl c148) rfl rfl (E.not rfl) ?_
       refine FL.v (E.pickF rfl c148 rfl) ?_
       exact FL.nil ⟨rfl, _, S151, (Inc.rfl _), rfl, rfl, rfl, (congrArg Value.bool (bifF c148).symm)⟩
     rintro f147 w146 ⟨H143, S144, i145, k152, k153, k154, k155⟩
     refine FL.nil ?_
     rcases ifB hp with ⟨c156, hp⟩ | ⟨c156, hp⟩
     ·
      refine FW.condT k155 c156 ?_
      refine FW.seq (FW.region ?_)
      refine FL.v (E.assign (v := Value.bool false) rfl) ?_
      refine FL.nil ?_
      refine FW.ret ?_
      obtain rfl := Option.some.inj hp
      exact ⟨.inr rfl, res1 rfl rfl ⟨rfl, S144.back⟩⟩
     ·
      refine FW.condF k155 c156 ?_
      refine FW.skip (FW.seq (FW.region ?_))
      refine FL.v (E.move k153) ?_
      refine FL.v (E.move k154) ?_
      refine FL.v (E.fieldAddr tf103_3 k152) ?_
      refine FL.v (E.load rfl (run_load1 Tryz.isAgg3 ((at49.mono ((r108.inc.tr r136.inc).tr i145)).now S144.sl) rfl)) ?_
      obtain ⟨r157, hr158, hp⟩ := bnd hp
      refine FL.call rfl rfl rfl (E.call Tryz.call143 (A3 rfl rfl rfl)) (w_impl_resolve S144.sl v109 r103.1 (h110.mono (r136.inc.tr i145)) v137 r131.1 (h138.mono i145) x35.pivot hr158) ?_
      rintro e w160 ⟨H159, v163, n164, cs165, rfl, r162, els166⟩
      refine ⟨_, rfl, ?_⟩
      have els166 := els166.mono (up_le S144.size)
      have S161 := S144.join (l' := [.row 3 1 v163 n164 cs165]) r162 rfl
      refine FL.v (E.move (v := Value.tuple #[v163, Value.bool r157.2]) rfl) ?_
      refine FL.v (E.extract (i := 0) rfl rfl) ?_
      refine FL.v (E.extract (i := 1) rfl rfl) ?_
      refine FL.v (E.assign (v := v163) rfl) ?_
      refine FL.v (E.assign (v := Value.bool r157.2) rfl) ?_
      refine FL.nil (FW.seq (FW.region ?_))
      refine FL.v (E.move (v := Value.bool r157.2) rfl) ?_
      refine FL.v (E.move (v := Value.bool r157.2) rfl) ?_
      obtain ⟨t177, hqt177, hp⟩ := bnd hp
      refine FL.cut 5 (fun f w => ∃ H : GH, St Ha wa H w [.row 3 1 v163 n164 cs165] ∧ Inc H159 H ∧ f 104 = Value.bool t177) ?_ ?_
      ·
       clear hp; have hp := hqt177; clear hqt177
       rcases ifB hp with ⟨c183, hp⟩ | ⟨c183, hp⟩
       ·
        refine FL.val (wF_yes rfl rfl rfl c183) rfl rfl (E.move (v := v163) rfl) ?_
        refine FL.val (wF_yes rfl rfl rfl c183) rfl rfl (E.fieldAddr tf103_0 k152) ?_
        refine FL.val (wF_yes rfl rfl rfl c183) rfl rfl (E.load rfl (run_load1 Tryz.isAgg76 ((at49.mono (((r108.inc.tr r136.inc).tr i145).tr r162.run.inc)).now S161.sl) rfl)) ?_
        obtain ⟨H184, S185, i186, h187, nv188⟩ := S161.sealRowU (i := 0) (l' := []) rfl els166 (by decide) rfl
        obtain ⟨r189, hr190, hp⟩ := bnd hp
        refine FL.call (wF_yes rfl rfl rfl c183) rfl rfl (E.call Tryz.call75 (A2 rfl rfl)) (w_slices_Equal_int_int S185.sl v163 r157.1 (h187.mono upI) v37 x35.clause (h38.mono ((((((i27.tr i48).tr r108.inc).tr r136.inc).tr i145).tr r162.run.inc).tr i186)) hr190) ?_
        rintro e w191 ⟨rfl, r192⟩
        refine ⟨_, rfl, ?_⟩
        have r192 := Run.lend i186 S161.sl r192
        have S193 := S161.call r192
        obtain rfl := Option.some.inj hp
        refine FL.v (E.pickT rfl c183 rfl) ?_
        exact FL.nil ⟨rfl, _, S193, (Inc.rfl _), rfl⟩
       ·
        refine FL.skip (wF_no rfl rfl rfl c183) rfl ?_
        refine FL.skip (wF_no rfl rfl rfl c183) rfl ?_
        refine FL.skip (wF_no rfl rfl rfl c183) rfl ?_
        refine FL.skip (wF_no rfl rfl rfl c183) rfl ?_
        obtain rfl := Option.some.inj hp
        refine FL.v (E.pickF rfl c183 rfl) ?_
        exact FL.nil ⟨rfl, _, S161, (Inc.rfl _), rfl⟩
      rintro f182 w181 ⟨H178, S179, i180, k194⟩
      refine FL.v (E.assign k194) ?_
      refine FL.nil ?_
      refine FW.ret ?_
      obtain rfl := Option.some.inj hp
      exact ⟨.inr rfl, res1 rfl rfl ⟨rfl, S179.back⟩⟩

theorem w_impl_firstWrong {Ha : GH} {wa : World} (hs : Sl Ha wa) (a0 : Cnf) (v0_1 : Value) (p0_1 : RSl Ha (eL eI 1) 1 v0_1 a0.clauses) (v1 : Value) (a1 : List ResStep) (p1 : RSl Ha eResStep 4 v1 a1) {r : Int} (hp : (PF.impl_firstWrong a0 a1) = some r) :
  Calls Tryz.prog 214 #[Value.agg #[Value.int .i64 a0.vars, v0_1], v1] wa (Sc Ha wa (Value.int .i64 r)) := by
 unfold PF.impl_firstWrong at hp
 have S0 := St.init hs
 refine calls_go (N := 18) (args := [Value.agg #[Value.int .i64 a0.vars, v0_1], v1]) Tryz.func214 rfl rfl rfl ?_
 refine FW.seq (FW.region ?_)
 obtain ⟨b21, w22, run23, S24⟩ := S0.box (P := Tryz.prog) 30 [Value.int .i64 a0.vars, v0_1] (v := Value.agg #[Value.int .i64 a0.vars, v0_1]) rfl (ones_cons rfl (ones_cons p0_1.one ones_nil))
 refine FL.v (E.box rfl run23) ?_
 obtain ⟨H25, S26, i27, at28⟩ := S24.sealBox (i := 0) (l' := []) rfl rfl
 refine FL.v (E.assign (v := Value.int .i64 0) rfl) ?_
 refine FL.nil (FW.seq (FW.seq (FW.region ?_)))
 refine FL.v (E.move (v := v1) rfl) ?_
 refine FL.v (E.lenP te41 rfl p1) ?_
 refine FL.v (E.move (v := Value.int .i64 0) rfl) ?_
 refine FL.nil ?_
 obtain ⟨q30, hq, hp⟩ := bndR hp
 refine FW.block ?_
 refine FW.mono (FW.forL (S := Unit) (X := Int) (fun (i30 : Nat) (s30 : Unit) f w => ∃ H : GH, St Ha wa H w [] ∧ Inc H25 H ∧ f 8 = Value.int .i64 ((i30 : Nat) : Int) ∧ f 1 = v1 ∧ f 2 = Value.pointer (some ⟨b21, 0, none⟩) ∧ f 7 = Value.int .i64 (len a1)) (fun q e f w => match q with | .go s30 => e = Exit.exit 0 ∧ (∃ H : GH, St Ha wa H w [] ∧ Inc H25 H) | .rt x => ((e = Exit.ret) ∧ (fun e f w => (e = Exit.normal ∨ e = Exit.ret) ∧ ∀ a, Fr (δ := []) 18 a f → ∃ v, (results Tryz.f214 a.tmps).run Tryz.prog w = .ok v w ∧ (Sc Ha wa (Value.int .i64 x)) (.returned v) w) e f w)) hq ⟨_, S26, (Inc.rfl _), rfl, rfl, rfl, rfl⟩ ?_ ?_) ?_
 ·
  clear hp hq
  rintro i30 y29 s30 f50 w49 ⟨H46, S47, i48, k51, k52, k53, k54⟩ hx30 o61 hp
  refine FW.seq (FW.region ?_)
  refine FL.v (E.lssT k51 k54 (lss_len hx30)) ?_
  refine FL.nil (FW.seq ?_)
  refine FW.condT rfl rfl ?_
  refine FW.skip (FW.seq (FW.block (FW.seq (FW.region ?_))))
  refine FL.v (E.move k51) ?_
  refine FL.v (E.assign (v := Value.int .i64 ((i30 : Nat) : Int)) rfl) ?_
  refine FL.nil (FW.seq (FW.region ?_))
  refine FL.v (E.load k53 (run_loadA Tryz.isAgg30 Tryz.sizeOf30 ((at28.mono i48).now S47.sl) rfl)) ?_
  refine FL.v (E.move k52) ?_
  refine FL.v (E.move (v := Value.int .i64 ((i30 : Nat) : Int)) rfl) ?_
  obtain ⟨r55, hr56, hp⟩ := bnd hp
  refine FL.call rfl rfl rfl (E.call Tryz.call257 (A3 rfl rfl rfl)) (w_impl_correct S47.sl a0 v0_1 (p0_1.mono (i27.tr i48)) v1 a1 (p1.mono (i27.tr i48)) ((i30 : Nat) : Int) hr56) ?_
  rintro e w57 ⟨rfl, r58⟩
  refine ⟨_, rfl, ?_⟩
  have S59 := S47.call r58
  refine FL.v (E.not rfl) ?_
  refine FL.nil ?_
  rcases ifB hp with ⟨c60, hp⟩ | ⟨c60, hp⟩
  ·
   refine FW.condT rfl c60 ?_
   refine FW.seq (FW.region ?_)
   refine FL.v (E.move (v := Value.int .i64 ((i30 : Nat) : Int)) rfl) ?_
   refine FL.v (E.assign (v := Value.int .i64 ((i30 : Nat) : Int)) rfl) ?_
   refine FL.nil ?_
   refine FW.ret ?_
   obtain rfl := Option.some.inj hp
   exact ⟨nofun, rfl, ⟨.inr rfl, res1 rfl rfl ⟨rfl, S59.back⟩⟩⟩
  ·
   refine FW.condF rfl c60 ?_
   refine FW.skip (FW.region ?_)
   refine FL.v (E.add k51 rfl) ?_
   refine FL.v (E.move (v := Value.int .i64 (wr (((i30 : Nat) : Int) + 1))) rfl) ?_
   refine FL.nil ?_
   obtain rfl := Option.some.inj hp
   exact ⟨rfl, ⟨_, S59, i48, (nat_succ rfl (lt_of_get hx30) (p1.mono (i27.tr i48)).le), k52, k53, k54⟩⟩
 ·
  clear hp hq
  rintro s30 f71 w70 ⟨H67, S68, i69, k72, k73, k74, k75⟩
  refine FW.seq (FW.region ?_)
  refine FL.v (E.lss k72 k75) ?_
  refine FL.nil (FW.seq ?_)
  refine FW.condF rfl dlt_len ?_
  refine FW.exit ?_
  exact ⟨nofun, rfl, ⟨_, S68, i69⟩⟩
 ·
  clear hq
  intro e f66 w65 hD
  rcases q30 with s30 | x30
  ·
   obtain ⟨rfl, hD⟩ := hD
   obtain ⟨H62, S63, i64⟩ := hD
   replace hp := el_go hp
   refine FW.seq (FW.region ?_)
   refine FL.v (E.assign (v := Value.int .i64 (-1)) rfl) ?_
   refine FL.nil ?_
   refine FW.ret ?_
   obtain rfl := Option.some.inj hp
   exact ⟨.inr rfl, res1 rfl rfl ⟨rfl, S63.back⟩⟩
  ·
   obtain ⟨he, hL⟩ := hD
   replace hp := el_rt hp
   obtain rfl := Option.some.inj hp
   subst he
   exact hL

theorem w_impl_IsDerivation {Ha : GH} {wa : World} (hs : Sl Ha wa) (a0 : Cnf) (v0_1 : Value) (p0_1 : RSl Ha (eL eI 1) 1 v0_1 a0.clauses) (v1 : Value) (a1 : List ResStep) (p1 : RSl Ha eResStep 4 v1 a1) {r : Bool} (hp : (PF.impl_IsDerivation a0 a1) = some r) :
  Calls Tryz.prog 147 #[Value.agg #[Value.int .i64 a0.vars, v0_1], v1] wa (Sc Ha wa (Value.bool r)) := by
 unfold PF.impl_IsDerivation at hp
 have S0 := St.init hs
 refine calls_go (N := 18) (args := [Value.agg #[Value.int .i64 a0.vars, v0_1], v1]) Tryz.func147 rfl rfl rfl ?_
 refine FW.seq (FW.region ?_)
 obtain ⟨b21, w22, run23, S24⟩ := S0.box (P := Tryz.prog) 30 [Value.int .i64 a0.vars, v0_1] (v := Value.agg #[Value.int .i64 a0.vars, v0_1]) rfl (ones_cons rfl (ones_cons p0_1.one ones_nil))
 refine FL.v (E.box rfl run23) ?_
 obtain ⟨H25, S26, i27, at28⟩ := S24.sealBox (i := 0) (l' := []) rfl rfl
 refine FL.v (E.assign (v := Value.bool false) rfl) ?_
 refine FL.nil (FW.seq (FW.region ?_))
 refine FL.v (E.load rfl (run_loadA Tryz.isAgg30 Tryz.sizeOf30 (at28.now S26.sl) rfl)) ?_
 obtain ⟨r29, hr30, hp⟩ := bnd hp
 refine FL.call rfl rfl rfl (E.call Tryz.call131 (A1 rfl)) (w_impl_IsCnf S26.sl a0 v0_1 (p0_1.mono i27) hr30) ?_
 rintro e w31 ⟨rfl, r32⟩
 refine ⟨_, rfl, ?_⟩
 have S33 := S26.call r32
 refine FL.v (E.move (v := Value.bool r29) rfl) ?_
 refine FL.cut 4 (fun f w => ∃ H : GH, St Ha wa H w [] ∧ Inc H25 H ∧ f 1 = v1 ∧ f 2 = Value.pointer (some ⟨b21, 0, none⟩) ∧ f 11 = Value.bool (bif r29 then (decide ((len a1) ≤ 200)) else false)) ?_ ?_
 ·
  rcases bcase r29 with c40 | c40
  ·
   refine FL.val (wF_yes rfl rfl rfl c40) rfl rfl (E.move (v := v1) rfl) ?_
   refine FL.val (wF_yes rfl rfl rfl c40) rfl rfl (E.lenP te41 rfl p1) ?_
   refine FL.val (wF_yes rfl rfl rfl c40) rfl rfl (E.leq rfl rfl) ?_
   refine FL.v (E.pickT rfl c40 rfl) ?_
   exact FL.nil ⟨rfl, _, S33, (Inc.rfl _), rfl, rfl, (congrArg Value.bool (bifT c40).symm)⟩
  ·
   refine FL.skip (wF_no rfl rfl rfl c40) rfl ?_
   refine FL.skip (wF_no rfl rfl rfl c40) rfl ?_
   refine FL.skip (wF_no rfl rfl rfl c40) rfl ?_
   refine FL.v (E.pickF rfl c40 rfl) ?_
   exact FL.nil ⟨rfl, _, S33, (Inc.rfl _), rfl, rfl, (congrArg Value.bool (bifF c40).symm)⟩
 rintro f39 w38 ⟨H35, S36, i37, k41, k42, k43⟩
 refine FL.v (E.move k43) ?_
 obtain ⟨t49, hqt49, hp⟩ := bnd hp
 refine FL.cut 5 (fun f w => ∃ H : GH, St Ha wa H w [] ∧ Inc H35 H ∧ f 17 = Value.bool t49) ?_ ?_
 ·
  clear hp; have hp := hqt49; clear hqt49
  rcases ifB hp with ⟨c55, hp⟩ | ⟨c55, hp⟩
  ·
   refine FL.val (wF_yes rfl rfl rfl c55) rfl rfl (E.load k42 (run_loadA Tryz.isAgg30 Tryz.sizeOf30 ((at28.mono i37).now S36.sl) rfl)) ?_
   refine FL.val (wF_yes rfl rfl rfl c55) rfl rfl (E.move k41) ?_
   obtain ⟨r56, hr57, hp⟩ := bnd hp
   refine FL.call (wF_yes rfl rfl rfl c55) rfl rfl (E.call Tryz.call214 (A2 rfl rfl)) (w_impl_firstWrong S36.sl a0 v0_1 (p0_1.mono (i27.tr i37)) v1 a1 (p1.mono (i27.tr i37)) hr57) ?_
   rintro e w58 ⟨rfl, r59⟩
   refine ⟨_, rfl, ?_⟩
   have S60 := S36.call r59
   refine FL.val (wF_yes rfl rfl rfl c55) rfl rfl (E.lss rfl rfl) ?_
   obtain rfl := Option.some.inj hp
   refine FL.v (E.pickT rfl c55 rfl) ?_
   exact FL.nil ⟨rfl, _, S60, (Inc.rfl _), rfl⟩
  ·
   refine FL.skip (wF_no rfl rfl rfl c55) rfl ?_
   refine FL.skip (wF_no rfl rfl rfl c55) rfl ?_
   refine FL.skip (wF_no rfl rfl rfl c55) rfl ?_
   refine FL.skip (wF_no rfl rfl rfl c55) rfl ?_
   obtain rfl := Option.some.inj hp
   refine FL.v (E.pickF rfl c55 rfl) ?_
   exact FL.nil ⟨rfl, _, S36, (Inc.rfl _), rfl⟩
 rintro f54 w53 ⟨H50, S51, i52, k61⟩
 refine FL.v (E.assign k61) ?_
 refine FL.nil ?_
 refine FW.ret ?_
 obtain rfl := Option.some.inj hp
 exact ⟨.inr rfl, res1 rfl rfl ⟨rfl, S51.back⟩⟩

@[reducible] def p_impl_last_impl_ResStep (Ha : GH) (wa : World) (r : ResStep) : Ending → World → Prop :=
 fun e w' => ∃ H' : GH, ∃ v0_0 : Value, e = .returned (Value.agg #[v0_0, Value.int .i64 r.left, Value.int .i64 r.right, Value.int .i64 r.pivot]) ∧ Run wa.heap.size Ha wa H' w' ∧ RSl H' eI 1 v0_0 r.clause
theorem w_impl_last_impl_ResStep {Ha : GH} {wa : World} (hs : Sl Ha wa) (v0 : Value) (a0 : List ResStep) (p0 : RSl Ha eResStep 4 v0 a0) {r : ResStep} (hp : (PF.impl_last_impl_ResStep a0) = some r) :
  Calls Tryz.prog 152 #[v0] wa (p_impl_last_impl_ResStep Ha wa r) := by
 unfold PF.impl_last_impl_ResStep at hp
 have S0 := St.init hs
 refine calls_go (N := 9) (args := [v0]) Tryz.func152 rfl rfl rfl ?_
 refine FW.seq (FW.region ?_)
 obtain ⟨b21, w22, run23, S24⟩ := S0.alloc (P := Tryz.prog) 103 [Value.slice none 0 0, Value.int .i64 0, Value.int .i64 0, Value.int .i64 0] Tryz.zeroValue103 rfl (ones_cons rfl (ones_cons rfl (ones_cons rfl (ones_cons rfl ones_nil))))
 refine FL.v (E.alloc run23) ?_
 refine FL.nil (FW.seq (FW.region ?_))
 refine FL.v (E.move (v := v0) rfl) ?_
 refine FL.v (E.move (v := v0) rfl) ?_
 refine FL.v (E.lenP te41 rfl p0) ?_
 refine FL.v (E.sub rfl rfl) ?_
 obtain ⟨x31, hx32, hp⟩ := bnd hp
 obtain ⟨p25, cs26, pt27, l28, at29, rel30⟩ := p0.at hx32
 obtain ⟨v33, rfl, h34⟩ := eResStep_open rel30
 refine FL.v (E.indexAddr te41 rfl rfl pt27) ?_
 refine FL.v (E.load rfl (run_loadA Tryz.isAgg103 Tryz.sizeOf103 (at29.now S24.sl) rfl)) ?_
 obtain ⟨w35, run36, S37⟩ := S24.store0 (P := Tryz.prog) (t := 103) (i := 0) (cs' := [v33, Value.int .i64 x31.left, Value.int .i64 x31.right, Value.int .i64 x31.pivot]) (l' := [.box b21 103 [v33, Value.int .i64 x31.left, Value.int .i64 x31.right, Value.int .i64 x31.pivot]]) (v := Value.agg #[v33, Value.int .i64 x31.left, Value.int .i64 x31.right, Value.int .i64 x31.pivot]) (c := [v33, Value.int .i64 x31.left, Value.int .i64 x31.right, Value.int .i64 x31.pivot]) rfl Tryz.sizeOf103 rfl rfl (ones_cons h34.one (ones_cons rfl (ones_cons rfl (ones_cons rfl ones_nil)))) (Nat.le_of_ble_eq_true rfl) rfl rfl
 refine FL.act rfl rfl (E.store rfl rfl run36) ?_
 obtain ⟨H38, S39, i40, at41⟩ := S37.sealBox (i := 0) (l' := []) rfl rfl
 refine FL.nil ?_
 refine FW.ret ?_
 obtain rfl := Option.some.inj hp
 exact ⟨.inr rfl, resC rfl rfl (loadVar_A Tryz.isAgg103 Tryz.sizeOf103 (at41.now S39.sl) rfl) ⟨_, _, rfl, S39.run, (h34.mono i40)⟩⟩

theorem w_impl_IsRefutation {Ha : GH} {wa : World} (hs : Sl Ha wa) (a0 : Cnf) (v0_1 : Value) (p0_1 : RSl Ha (eL eI 1) 1 v0_1 a0.clauses) (v1 : Value) (a1 : List ResStep) (p1 : RSl Ha eResStep 4 v1 a1) {r : Bool} (hp : (PF.impl_IsRefutation a0 a1) = some r) :
  Calls Tryz.prog 92 #[Value.agg #[Value.int .i64 a0.vars, v0_1], v1] wa (Sc Ha wa (Value.bool r)) := by
 unfold PF.impl_IsRefutation at hp
 have S0 := St.init hs
 refine calls_go (N := 20) (args := [Value.agg #[Value.int .i64 a0.vars, v0_1], v1]) Tryz.func92 rfl rfl rfl ?_
 refine FW.seq (FW.region ?_)
 obtain ⟨b21, w22, run23, S24⟩ := S0.box (P := Tryz.prog) 30 [Value.int .i64 a0.vars, v0_1] (v := Value.agg #[Value.int .i64 a0.vars, v0_1]) rfl (ones_cons rfl (ones_cons p0_1.one ones_nil))
 refine FL.v (E.box rfl run23) ?_
 obtain ⟨H25, S26, i27, at28⟩ := S24.sealBox (i := 0) (l' := []) rfl rfl
 refine FL.v (E.assign (v := Value.bool false) rfl) ?_
 refine FL.nil (FW.seq (FW.region ?_))
 refine FL.v (E.load rfl (run_loadA Tryz.isAgg30 Tryz.sizeOf30 (at28.now S26.sl) rfl)) ?_
 refine FL.v (E.move (v := v1) rfl) ?_
 obtain ⟨r29, hr30, hp⟩ := bnd hp
 refine FL.call rfl rfl rfl (E.call Tryz.call147 (A2 rfl rfl)) (w_impl_IsDerivation S26.sl a0 v0_1 (p0_1.mono i27) v1 a1 (p1.mono i27) hr30) ?_
 rintro e w31 ⟨rfl, r32⟩
 refine ⟨_, rfl, ?_⟩
 have S33 := S26.call r32
 refine FL.v (E.move (v := Value.bool r29) rfl) ?_
 refine FL.cut 4 (fun f w => ∃ H : GH, St Ha wa H w [] ∧ Inc H25 H ∧ f 1 = v1 ∧ f 12 = Value.bool (bif r29 then (decide (0 < (len a1))) else false)) ?_ ?_
 ·
  rcases bcase r29 with c40 | c40
  ·
   refine FL.val (wF_yes rfl rfl rfl c40) rfl rfl (E.move (v := v1) rfl) ?_
   refine FL.val (wF_yes rfl rfl rfl c40) rfl rfl (E.lenP te41 rfl p1) ?_
   refine FL.val (wF_yes rfl rfl rfl c40) rfl rfl (E.gtr rfl rfl) ?_
   refine FL.v (E.pickT rfl c40 rfl) ?_
   exact FL.nil ⟨rfl, _, S33, (Inc.rfl _), rfl, (congrArg Value.bool (bifT c40).symm)⟩
  ·
   refine FL.skip (wF_no rfl rfl rfl c40) rfl ?_
   refine FL.skip (wF_no rfl rfl rfl c40) rfl ?_
   refine FL.skip (wF_no rfl rfl rfl c40) rfl ?_
   refine FL.v (E.pickF rfl c40 rfl) ?_
   exact FL.nil ⟨rfl, _, S33, (Inc.rfl _), rfl, (congrArg Value.bool (bifF c40).symm)⟩
 rintro f39 w38 ⟨H35, S36, i37, k41, k42⟩
 refine FL.v (E.move k42) ?_
 obtain ⟨t51, hqt51, hp⟩ := bnd hp
 refine FL.cut 6 (fun f w => ∃ H : GH, St Ha wa H w [] ∧ Inc H35 H ∧ f 19 = Value.bool t51) ?_ ?_
 ·
  clear hp; have hp := hqt51; clear hqt51
  rcases ifB hp with ⟨c57, hp⟩ | ⟨c57, hp⟩
  ·
   refine FL.val (wF_yes rfl rfl rfl c57) rfl rfl (E.move k41) ?_
   obtain ⟨r58, hr59, hp⟩ := bnd hp
   refine FL.call (wF_yes rfl rfl rfl c57) rfl rfl (E.call Tryz.call152 (A1 rfl)) (w_impl_last_impl_ResStep S36.sl v1 a1 (p1.mono (i27.tr i37)) hr59) ?_
   rintro e w61 ⟨H60, v64, rfl, r63, h65⟩
   refine ⟨_, rfl, ?_⟩
   have S62 := S36.call r63
   refine FL.val (wF_yes rfl rfl rfl c57) rfl rfl (E.field (fd103_0 rfl) rfl) ?_
   refine FL.val (wF_yes rfl rfl rfl c57) rfl rfl (E.lenP te76 rfl h65) ?_
   refine FL.val (wF_yes rfl rfl rfl c57) rfl rfl (E.eql rfl rfl) ?_
   obtain rfl := Option.some.inj hp
   refine FL.v (E.pickT rfl c57 rfl) ?_
   exact FL.nil ⟨rfl, _, S62, r63.inc, rfl⟩
  ·
   refine FL.skip (wF_no rfl rfl rfl c57) rfl ?_
   refine FL.skip (wF_no rfl rfl rfl c57) rfl ?_
   refine FL.skip (wF_no rfl rfl rfl c57) rfl ?_
   refine FL.skip (wF_no rfl rfl rfl c57) rfl ?_
   refine FL.skip (wF_no rfl rfl rfl c57) rfl ?_
   obtain rfl := Option.some.inj hp
   refine FL.v (E.pickF rfl c57 rfl) ?_
   exact FL.nil ⟨rfl, _, S36, (Inc.rfl _), rfl⟩
 rintro f56 w55 ⟨H52, S53, i54, k66⟩
 refine FL.v (E.assign k66) ?_
 refine FL.nil ?_
 refine FW.ret ?_
 obtain rfl := Option.some.inj hp
 exact ⟨.inr rfl, res1 rfl rfl ⟨rfl, S53.back⟩⟩

@[reducible] def p_impl_upTo (Ha : GH) (wa : World) (r : (List Int)) : Ending → World → Prop :=
  fun e w' => ∃ H' : GH, ∃ v0 : Value, ∃ n0 : Nat, ∃ c0 : List Value, e = .returned (v0) ∧ St Ha wa H' w' [.row 3 1 v0 n0 c0] ∧ Els (up wa.heap.size H') eI 1 c0 r
theorem w_impl_upTo {Ha : GH} {wa : World} (hs : Sl Ha wa) (a0 : Int) {r : (List Int)} (hp : (PF.impl_upTo a0) = some r) :
    Calls Tryz.prog 261 #[Value.int .i64 a0] wa (p_impl_upTo Ha wa r) := by
  unfold PF.impl_upTo at hp
  have S0 := St.init hs
  refine calls_go (N := 15) (args := [Value.int .i64 a0]) Tryz.func261 rfl rfl rfl ?_
  refine FW.seq (FW.region ?_)
  refine FL.v (E.assign (v := Value.slice none 0 0) rfl) ?_
  refine FL.nil (FW.seq (FW.region ?_))
  refine FL.v (E.assign (v := Value.slice none 0 0) rfl) ?_
  refine FL.nil (FW.seq (FW.seq (FW.region ?_)))
  refine FL.v (E.assign (v := Value.int .i64 1) rfl) ?_
  refine FL.nil ?_
  obtain ⟨q22, hq, hp⟩ := bndR hp
  refine FW.block ?_
  refine FW.mono (FW.iter (S := ((List Int) × Int)) (X := Empty) (fun (s22 : ((List Int) × Int)) f w => ∃ H : GH, ∃ v23 : Value, ∃ n24 : Nat, ∃ cs25 : List Value, St Ha wa H w [.row 3 1 v23 n24 cs25] ∧ Inc Ha H ∧ Els (up wa.heap.size H) eI 1 cs25 s22.1 ∧ f 0 = Value.int .i64 a0 ∧ f 3 = v23 ∧ f 4 = Value.int .i64 s22.2) (fun (q : Rs ((List Int) × Int) Empty) e f w => match q with | .go s22 => e = Exit.exit 0 ∧ (∃ H : GH, ∃ v23 : Value, ∃ n24 : Nat, ∃ cs25 : List Value, St Ha wa H w [.row 3 1 v23 n24 cs25] ∧ Inc Ha H ∧ Els (up wa.heap.size H) eI 1 cs25 s22.1 ∧ f 3 = v23) | .rt x => x.elim) hq ⟨_, _, _, _, (S0.nil 3 1), (Inc.rfl _), Els.nil, rfl, rfl, rfl⟩ ?_) ?_
  ·
    clear hp hq
    rintro s22 f56 w55 ⟨H52, v23, n24, cs25, S53, i54, els26, k57, k58, k59⟩ o77 hp
    refine FW.seq (FW.seq (FW.region ?_))
    refine FL.v (E.move k59) ?_
    refine FL.v (E.move k57) ?_
    refine FL.v (E.leq rfl rfl) ?_
    refine FL.nil ?_
    rcases ifB hp with ⟨c60, hp⟩ | ⟨c60, hp⟩
    ·
      refine FW.condT rfl c60 ?_
      refine FW.skip (FW.seq (FW.block (FW.region ?_)))
      refine FL.v (E.move k58) ?_
      refine FL.v (E.move k59) ?_
      obtain ⟨v61, w62, run63, S64⟩ := S53.buildSlice (P := Tryz.prog) te76 [Value.int .i64 s22.2] (parts := #[(0, Value.int .i64 s22.2)]) (cells := [Value.int .i64 s22.2]) rfl (szs_cons rfl szs_nil) (fc_cons rfl fc_nil) (ones_cons rfl ones_nil) (Nat.le_of_ble_eq_true rfl)
      have els65 : Els (up wa.heap.size H52) eI 1 [Value.int .i64 s22.2] [s22.2] := (Els.snoc (H := (up wa.heap.size H52)) (E := eI) (k := 1) (c := [Value.int .i64 s22.2]) (x := s22.2) Els.nil rfl rfl)
      refine FL.v (E.buildSlice (B1 rfl) run63) ?_
      obtain ⟨xs66, hz67, hp⟩ := bnd hp
      obtain ⟨v68, w71, n69, cs70, run72, S73, els74, ce75⟩ := S64.appendO (P := Tryz.prog) te76 (i := 1) (j := 0) rfl els26 rfl els65 hz67
      have S73 : St Ha wa H52 w71 [.row 3 1 v61 1 [Value.int .i64 s22.2], .row 3 1 v68 n69 cs70] := S73
      have S76 : St Ha wa H52 w71 [.row 3 1 v68 n69 cs70] := S73.drop 0
      refine FL.v (E.append rfl rfl run72) ?_
      refine FL.v (E.assign (v := v68) rfl) ?_
      refine FL.nil (FW.region ?_)
      refine FL.v (E.move k59) ?_
      refine FL.v (E.add rfl rfl) ?_
      refine FL.v (E.assign (v := Value.int .i64 (wr (s22.2 + 1))) rfl) ?_
      refine FL.nil ?_
      obtain rfl := Option.some.inj hp
      exact ⟨rfl, ⟨_, _, _, _, S76, i54, els74, k57, rfl, rfl⟩⟩
    ·
      refine FW.condF rfl c60 ?_
      refine FW.exit ?_
      obtain rfl := Option.some.inj hp
      exact ⟨nofun, rfl, ⟨_, _, _, _, S53, i54, els26, k58⟩⟩
  ·
    clear hq
    intro e f82 w81 hD
    rcases q22 with s22 | x22
    ·
      obtain ⟨rfl, hD⟩ := hD
      obtain ⟨H78, v23, n24, cs25, S79, i80, els26, k83⟩ := hD
      replace hp := el_go hp
      refine FW.seq (FW.region ?_)
      refine FL.v (E.move k83) ?_
      refine FL.v (E.assign (v := v23) rfl) ?_
      refine FL.nil ?_
      refine FW.ret ?_
      obtain rfl := Option.some.inj hp
      exact ⟨.inr rfl, res1 rfl rfl ⟨_, _, _, _, rfl, S79, els26⟩⟩
    · exact x22.elim

theorem w_impl_pigeonVar {Ha : GH} {wa : World} (hs : Sl Ha wa) (a0 : Int) (a1 : Int) (a2 : Int) :
  Calls Tryz.prog 267 #[Value.int .i64 a0, Value.int .i64 a1, Value.int .i64 a2] wa (Sc Ha wa (Value.int .i64 (PF.impl_pigeonVar a0 a1 a2))) := by
 obtain ⟨r, hp⟩ : ∃ r, (PF.impl_pigeonVar a0 a1 a2) = r := ⟨_, rfl⟩
 rw [hp]
 unfold PF.impl_pigeonVar at hp
 have S0 := St.init hs
 refine calls_go (N := 13) (args := [Value.int .i64 a0, Value.int .i64 a1, Value.int .i64 a2]) Tryz.func267 rfl rfl rfl ?_
 refine FW.seq (FW.region ?_)
 refine FL.v (E.assign (v := Value.int .i64 0) rfl) ?_
 refine FL.nil (FW.seq (FW.region ?_))
 refine FL.v (E.move (v := Value.int .i64 a1) rfl) ?_
 refine FL.v (E.sub rfl rfl) ?_
 refine FL.v (E.move (v := Value.int .i64 a0) rfl) ?_
 refine FL.v (E.mul rfl rfl) ?_
 refine FL.v (E.move (v := Value.int .i64 a2) rfl) ?_
 refine FL.v (E.add rfl rfl) ?_
 refine FL.v (E.assign (v := Value.int .i64 (wr ((wr ((wr (a1 - 1)) * a0)) + a2))) rfl) ?_
 refine FL.nil ?_
 refine FW.ret ?_
 obtain rfl := hp
 exact ⟨.inr rfl, res1 rfl rfl ⟨rfl, S0.back⟩⟩

theorem w_impl_holesOf_1 {Ha : GH} {wa : World} (hs : Sl Ha wa) (a0 : Int) (q0 : Addr) (b0 : Int) (c0 : CAt Ha q0 [Value.int .i64 b0]) (q1 : Addr) (b1 : Int) (c1 : CAt Ha q1 [Value.int .i64 b1]) (q2 : Addr) (b2 : Int) (c2 : CAt Ha q2 [Value.int .i64 b2]) {r : Bool} (hp : (PF.impl_holesOf_1 a0 b0 b1 b2) = some r) :
  Calls Tryz.prog 266 #[Value.int .i64 a0, Value.pointer (some q0), Value.pointer (some q1), Value.pointer (some q2)] wa (Sc Ha wa (Value.bool r)) := by
 unfold PF.impl_holesOf_1 at hp
 have S0 := St.init hs
 refine calls_go (N := 15) (args := [Value.int .i64 a0, Value.pointer (some q0), Value.pointer (some q1), Value.pointer (some q2)]) Tryz.func266 rfl rfl rfl ?_
 refine FW.seq (FW.region ?_)
 refine FL.v (E.assign (v := Value.bool false) rfl) ?_
 refine FL.nil (FW.seq ?_)
 refine FW.draw (fun w' => Run wa.heap.size Ha wa Ha w') (by kernel_rfl) (by kernel_rfl) (run_drew S0.sl) ?_
 refine FD.val rfl rfl rfl (fun w' hw' => (E.load rfl (run_load0 Tryz.isAgg3 (c0.now (S0.call hw').sl) rfl))) ?_
 refine FD.val rfl rfl rfl (fun w' hw' => (E.load rfl (run_load0 Tryz.isAgg3 (c1.now (S0.call hw').sl) rfl))) ?_
 refine FD.val rfl rfl rfl (fun w' hw' => (E.load rfl (run_load0 Tryz.isAgg3 (c2.now (S0.call hw').sl) rfl))) ?_
 refine FD.val rfl rfl rfl (fun w' hw' => (E.move (v := Value.int .i64 a0) rfl)) ?_
 refine FD.call rfl rfl rfl (fun w' hw' => (E.call Tryz.call267 (A3 rfl rfl rfl))) (fun w' hw' => Calls.cls hw' (w_impl_pigeonVar (S0.call hw').sl b1 b2 a0)) ?_
 refine FD.val rfl rfl rfl (fun w' hw' => (E.sub rfl rfl)) ?_
 obtain ⟨u23, z22, hp⟩ := bnd hp
 refine FD.val rfl rfl rfl (fun w' hw' => (E.shr rfl rfl (nn_ge z22))) ?_
 refine FD.val rfl rfl rfl (fun w' hw' => (E.and rfl rfl)) ?_
 refine FD.val rfl rfl rfl (fun w' hw' => (E.eql rfl rfl)) ?_
 refine FD.val rfl rfl rfl (fun w' hw' => (E.assign (v := Value.bool ((andK true 64 (shrK 64 b0 (wr ((PF.impl_pigeonVar b1 b2 a0) - 1))) 1) == 0)) rfl)) ?_
 refine FD.nil ?_
 intro w24 r26
 have S25 := S0.call r26
 refine FW.ret ?_
 obtain rfl := Option.some.inj hp
 exact ⟨.inr rfl, res1 rfl rfl ⟨rfl, S25.back⟩⟩

@[reducible] def p_impl_holesOf (Ha : GH) (wa : World) (r : (List Int)) : Ending → World → Prop :=
 fun e w' => ∃ H' : GH, ∃ v0 : Value, ∃ n0 : Nat, ∃ c0 : List Value, e = .returned (v0) ∧ St Ha wa H' w' [.row 3 1 v0 n0 c0] ∧ Els (up wa.heap.size H') eI 1 c0 r
theorem w_impl_holesOf {Ha : GH} {wa : World} (hs : Sl Ha wa) (a0 : Int) (a1 : Int) (a2 : Int) {r : (List Int)} (hp : (PF.impl_holesOf a0 a1 a2) = some r) :
  Calls Tryz.prog 229 #[Value.int .i64 a0, Value.int .i64 a1, Value.int .i64 a2] wa (p_impl_holesOf Ha wa r) := by
 unfold PF.impl_holesOf at hp
 have S0 := St.init hs
 refine calls_go (N := 11) (args := [Value.int .i64 a0, Value.int .i64 a1, Value.int .i64 a2]) Tryz.func229 rfl rfl rfl ?_
 refine FW.seq (FW.region ?_)
 obtain ⟨b21, w22, run23, S24⟩ := S0.box (P := Tryz.prog) 3 [Value.int .i64 a0] (v := Value.int .i64 a0) rfl (ones_cons rfl ones_nil)
 refine FL.v (E.box rfl run23) ?_
 obtain ⟨H25, S26, i27, at28⟩ := S24.sealBox (i := 0) (l' := []) rfl rfl
 obtain ⟨b29, w30, run31, S32⟩ := S26.box (P := Tryz.prog) 3 [Value.int .i64 a1] (v := Value.int .i64 a1) rfl (ones_cons rfl ones_nil)
 refine FL.v (E.box rfl run31) ?_
 obtain ⟨H33, S34, i35, at36⟩ := S32.sealBox (i := 0) (l' := []) rfl rfl
 obtain ⟨b37, w38, run39, S40⟩ := S34.box (P := Tryz.prog) 3 [Value.int .i64 a2] (v := Value.int .i64 a2) rfl (ones_cons rfl ones_nil)
 refine FL.v (E.box rfl run39) ?_
 obtain ⟨H41, S42, i43, at44⟩ := S40.sealBox (i := 0) (l' := []) rfl rfl
 refine FL.v (E.assign (v := Value.slice none 0 0) rfl) ?_
 refine FL.nil (FW.seq (FW.region ?_))
 refine FL.v (E.load rfl (run_load0 Tryz.isAgg3 ((at28.mono (i35.tr i43)).now S42.sl) rfl)) ?_
 obtain ⟨r45, hr46, hp⟩ := bnd hp
 refine FL.call rfl rfl rfl (E.call Tryz.call261 (A1 rfl)) (w_impl_upTo S42.sl a0 hr46) ?_
 rintro e w48 ⟨H47, v51, n52, cs53, rfl, r50, els54⟩
 refine ⟨_, rfl, ?_⟩
 have els54 := els54.mono (up_le S42.size)
 have S49 := S42.join (l' := [.row 3 1 v51 n52 cs53]) r50 rfl
 refine FL.v (E.makeFunc A0 (A3 rfl rfl rfl)) ?_
 obtain ⟨r55, hr56, hp⟩ := bnd hp
 refine FL.call rfl rfl rfl (E.call Tryz.call225 (A2 rfl rfl)) (w_slices_DeleteFunc_int_int (L := []) S49 r45 els54 (Value.func (.func 266) #[] #[Value.pointer (some ⟨b29, 0, none⟩), Value.pointer (some ⟨b21, 0, none⟩), Value.pointer (some ⟨b37, 0, none⟩)]) (fun x0 => PF.impl_holesOf_1 x0 a1 a0 a2) (fun H2 w2 hi2 hs2 x0 r hr => ⟨266, #[Value.pointer (some ⟨b29, 0, none⟩), Value.pointer (some ⟨b21, 0, none⟩), Value.pointer (some ⟨b37, 0, none⟩)], rfl, Tryz.call266, w_impl_holesOf_1 hs2 x0 ⟨b29, 0, none⟩ a1 ((at36.mono (i43.tr r50.run.inc)).mono hi2) ⟨b21, 0, none⟩ a0 ((at28.mono ((i35.tr i43).tr r50.run.inc)).mono hi2) ⟨b37, 0, none⟩ a2 ((at44.mono r50.run.inc).mono hi2) hr⟩) hr56) ?_
 rintro e w58 ⟨H57, v61, n62, cs63, rfl, ⟨S59, i60⟩, els64⟩
 refine ⟨_, rfl, ?_⟩
 have S59 : St Ha wa H57 w58 [.row 3 1 v61 n62 cs63] := S59
 refine FL.v (E.assign (v := v61) rfl) ?_
 refine FL.nil ?_
 refine FW.ret ?_
 obtain rfl := Option.some.inj hp
 exact ⟨.inr rfl, res1 rfl rfl ⟨_, _, _, _, rfl, S59, els64⟩⟩

theorem w_impl_leftOf {Ha : GH} {wa : World} (hs : Sl Ha wa) (a0 : Int) (a1 : Int) {r : Int} (hp : (PF.impl_leftOf a0 a1) = some r) :
  Calls Tryz.prog 178 #[Value.int .i64 a0, Value.int .i64 a1] wa (Sc Ha wa (Value.int .i64 r)) := by
 unfold PF.impl_leftOf at hp
 have S0 := St.init hs
 refine calls_go (N := 46) (args := [Value.int .i64 a0, Value.int .i64 a1]) Tryz.func178 rfl rfl rfl ?_
 refine FW.seq (FW.region ?_)
 refine FL.v (E.assign (v := Value.int .i64 0) rfl) ?_
 refine FL.nil (FW.seq (FW.region ?_))
 refine FL.v (E.assign (v := Value.int .i64 0) rfl) ?_
 refine FL.nil (FW.seq (FW.region ?_))
 refine FL.v (E.assign (v := Value.slice none 0 0) rfl) ?_
 refine FL.nil (FW.seq (FW.seq (FW.region ?_)))
 refine FL.v (E.assign (v := Value.int .i64 1) rfl) ?_
 refine FL.nil ?_
 obtain ⟨q21, hq, hp⟩ := bndR hp
 refine FW.block ?_
 refine FW.mono (FW.iter (S := (Int × (List Int) × Int)) (X := Int) (fun (s21 : (Int × (List Int) × Int)) f w => ∃ H : GH, ∃ v22 : Value, ∃ n23 : Nat, ∃ cs24 : List Value, St Ha wa H w [.row 3 1 v22 n23 cs24] ∧ Inc Ha H ∧ Els (up wa.heap.size H) eI 1 cs24 s21.2.1 ∧ f 0 = Value.int .i64 a0 ∧ f 1 = Value.int .i64 a1 ∧ f 5 = Value.int .i64 s21.1 ∧ f 6 = v22 ∧ f 7 = Value.int .i64 s21.2.2) (fun q e f w => match q with | .go s21 => e = Exit.exit 0 ∧ (∃ H : GH, ∃ v22 : Value, ∃ n23 : Nat, ∃ cs24 : List Value, St Ha wa H w [.row 3 1 v22 n23 cs24] ∧ Inc Ha H ∧ Els (up wa.heap.size H) eI 1 cs24 s21.2.1 ∧ f 5 = Value.int .i64 s21.1) | .rt x => ((e = Exit.ret) ∧ (fun e f w => (e = Exit.normal ∨ e = Exit.ret) ∧ ∀ a, Fr (δ := []) 46 a f → ∃ v, (results Tryz.f178 a.tmps).run Tryz.prog w = .ok v w ∧ (Sc Ha wa (Value.int .i64 x)) (.returned v) w) e f w)) hq ⟨_, _, _, _, (S0.nil 3 1), (Inc.rfl _), Els.nil, rfl, rfl, rfl, rfl, rfl⟩ ?_) ?_
 ·
  clear hp hq
  rintro s21 f141 w140 ⟨H137, v22, n23, cs24, S138, i139, els25, k142, k143, k144, k145, k146⟩ o248 hp
  refine FW.seq (FW.seq (FW.region ?_))
  refine FL.v (E.move k146) ?_
  refine FL.v (E.move k142) ?_
  refine FL.v (E.add rfl rfl) ?_
  refine FL.v (E.leq rfl rfl) ?_
  refine FL.nil ?_
  rcases ifB hp with ⟨c147, hp⟩ | ⟨c147, hp⟩
  ·
   refine FW.condT rfl c147 ?_
   refine FW.skip (FW.seq (FW.block (FW.seq (FW.region ?_))))
   refine FL.v (E.move k142) ?_
   refine FL.v (E.move k143) ?_
   refine FL.v (E.move k146) ?_
   obtain ⟨r148, hr149, hp⟩ := bnd hp
   refine FL.call rfl rfl rfl (E.call Tryz.call229 (A3 rfl rfl rfl)) (w_impl_holesOf S138.sl a0 a1 s21.2.2 hr149) ?_
   rintro e w151 ⟨H150, v154, n155, cs156, rfl, r153, els157⟩
   refine ⟨_, rfl, ?_⟩
   have els157 := els157.mono (up_le S138.size)
   have S152 := S138.join (l' := [.row 3 1 v154 n155 cs156, .row 3 1 v22 n23 cs24]) r153 rfl
   refine FL.v (E.assign (v := v154) rfl) ?_
   refine FL.nil (FW.block (FW.seq (FW.region ?_)))
   refine FL.v (E.move (v := v154) rfl) ?_
   refine FL.v (E.lenO te76 rfl S152 (i := 0) rfl els157 (by decide)) ?_
   refine FL.v (E.eql rfl rfl) ?_
   refine FL.v (E.move (v := Value.bool ((len r148) == 0)) rfl) ?_
   refine FL.cut 3 (fun f w => ∃ H : GH, St Ha wa H w [.row 3 1 v154 n155 cs156, .row 3 1 v22 n23 cs24] ∧ Inc H150 H ∧ f 0 = Value.int .i64 a0 ∧ f 1 = Value.int .i64 a1 ∧ f 5 = Value.int .i64 s21.1 ∧ f 6 = v22 ∧ f 7 = Value.int .i64 s21.2.2 ∧ f 8 = v154 ∧ f 32 = Value.bool (bif ((len r148) == 0) then (s21.1 == 0) else false)) ?_ ?_
   ·
    rcases bcase ((len r148) == 0) with c164 | c164
    ·
     refine FL.val (wF_yes rfl rfl rfl c164) rfl rfl (E.move k144) ?_
     refine FL.val (wF_yes rfl rfl rfl c164) rfl rfl (E.eql rfl rfl) ?_
     refine FL.v (E.pickT rfl c164 rfl) ?_
     exact FL.nil ⟨rfl, _, S152, (Inc.rfl _), k142, k143, k144, k145, k146, rfl, (congrArg Value.bool (bifT c164).symm)⟩
    ·
     refine FL.skip (wF_no rfl rfl rfl c164) rfl ?_
     refine FL.skip (wF_no rfl rfl rfl c164) rfl ?_
     refine FL.v (E.pickF rfl c164 rfl) ?_
     exact FL.nil ⟨rfl, _, S152, (Inc.rfl _), k142, k143, k144, k145, k146, rfl, (congrArg Value.bool (bifF c164).symm)⟩
   rintro f163 w162 ⟨H159, S160, i161, k165, k166, k167, k168, k169, k170, k171⟩
   refine FL.v (E.assign k171) ?_
   refine FL.nil ?_
   rcases ifB hp with ⟨c172, hp⟩ | ⟨c172, hp⟩
   ·
    refine FW.condT rfl c172 ?_
    refine FW.region ?_
    refine FL.v (E.move k169) ?_
    refine FL.v (E.assign (v := Value.int .i64 s21.2.2) rfl) ?_
    refine FL.nil (FW.region ?_)
    refine FL.v (E.move k169) ?_
    refine FL.v (E.add rfl rfl) ?_
    refine FL.v (E.assign (v := Value.int .i64 (wr (s21.2.2 + 1))) rfl) ?_
    refine FL.nil ?_
    obtain rfl := Option.some.inj hp
    exact ⟨rfl, ⟨_, _, _, _, (S160.sel [1] (by decide) rfl), ((i139.tr r153.run.inc).tr i161), (els25.mono (up_mono (r153.run.inc.tr i161))), k165, k166, rfl, k168, rfl⟩⟩
   ·
    refine FW.condF rfl c172 ?_
    refine FW.seq (FW.region ?_)
    refine FL.v (E.move k170) ?_
    refine FL.v (E.lenO te76 rfl S160 (i := 0) rfl els157 (by decide)) ?_
    refine FL.v (E.neq rfl rfl) ?_
    refine FL.v (E.move (v := Value.bool (!((len r148) == 1))) rfl) ?_
    obtain ⟨t191, hqt191, hp⟩ := bnd hp
    refine FL.cut 6 (fun f w => ∃ H : GH, St Ha wa H w [.row 3 1 v154 n155 cs156, .row 3 1 v22 n23 cs24] ∧ Inc H159 H ∧ f 0 = Value.int .i64 a0 ∧ f 1 = Value.int .i64 a1 ∧ f 5 = Value.int .i64 s21.1 ∧ f 6 = v22 ∧ f 7 = Value.int .i64 s21.2.2 ∧ f 8 = v154 ∧ f 44 = Value.bool t191) ?_ ?_
    ·
     clear hp; have hp := hqt191; clear hqt191
     rcases ifB hp with ⟨c197, hp⟩ | ⟨c197, hp⟩
     ·
      refine FL.skip (wF_no rfl rfl rfl c197) rfl ?_
      refine FL.skip (wF_no rfl rfl rfl c197) rfl ?_
      refine FL.skip (wF_no rfl rfl rfl c197) rfl ?_
      refine FL.skip (wF_no rfl rfl rfl c197) rfl ?_
      refine FL.skip (wF_no rfl rfl rfl c197) rfl ?_
      obtain rfl := Option.some.inj hp
      refine FL.v (E.pickT rfl c197 rfl) ?_
      exact FL.nil ⟨rfl, _, S160, (Inc.rfl _), k165, k166, k167, k168, k169, k170, rfl⟩
     ·
      refine FL.val (wF_yes rfl rfl rfl c197) rfl rfl (E.move k168) ?_
      refine FL.val (wF_yes rfl rfl rfl c197) rfl rfl (E.move k170) ?_
      obtain ⟨x204, hx205, hp⟩ := bnd hp
      obtain ⟨p198, cs199, pt200, l201, at202, rel203⟩ := S160.row_at (i := 0) rfl els157 (by decide) hx205
      obtain rfl := eI_open rel203
      refine FL.val (wF_yes rfl rfl rfl c197) rfl rfl (E.indexAddr te76 rfl rfl pt200) ?_
      refine FL.val (wF_yes rfl rfl rfl c197) rfl rfl (E.load rfl (run_load0 Tryz.isAgg3 at202 rfl)) ?_
      obtain ⟨H206, S207, i208, h209, nv210⟩ := S160.sealRowU (i := 1) (l' := [.row 3 1 v154 n155 cs156]) rfl (els25.mono (up_mono (r153.run.inc.tr i161))) (by decide) rfl
      obtain ⟨r211, hr212, hp⟩ := bnd hp
      refine FL.call (wF_yes rfl rfl rfl c197) rfl rfl (E.call Tryz.call163 (A2 rfl rfl)) (w_slices_Contains_int_int S207.sl v22 s21.2.1 (h209.mono upI) x204 hr212) ?_
      rintro e w213 ⟨rfl, r214⟩
      refine ⟨_, rfl, ?_⟩
      have r214 := Run.lend i208 S160.sl r214
      have S215 := S160.call r214
      obtain rfl := Option.some.inj hp
      refine FL.v (E.pickF rfl c197 rfl) ?_
      exact FL.nil ⟨rfl, _, S215, (Inc.rfl _), k165, k166, k167, k168, k169, k170, rfl⟩
    rintro f196 w195 ⟨H192, S193, i194, k216, k217, k218, k219, k220, k221, k222⟩
    refine FL.v (E.assign k222) ?_
    refine FL.nil ?_
    rcases ifB hp with ⟨c223, hp⟩ | ⟨c223, hp⟩
    ·
     refine FW.condT rfl c223 ?_
     refine FW.seq (FW.region ?_)
     refine FL.v (E.assign (v := Value.int .i64 0) rfl) ?_
     refine FL.nil ?_
     refine FW.ret ?_
     obtain rfl := Option.some.inj hp
     exact ⟨nofun, rfl, ⟨.inr rfl, res1 rfl rfl ⟨rfl, S193.back⟩⟩⟩
    ·
     refine FW.condF rfl c223 ?_
     refine FW.region ?_
     refine FL.v (E.move k219) ?_
     refine FL.v (E.move k221) ?_
     obtain ⟨x230, hx231, hp⟩ := bnd hp
     obtain ⟨p224, cs225, pt226, l227, at228, rel229⟩ := S193.row_at (i := 0) rfl els157 (by decide) hx231
     obtain rfl := eI_open rel229
     refine FL.v (E.indexAddr te76 rfl rfl pt226) ?_
     refine FL.v (E.load rfl (run_load0 Tryz.isAgg3 at228 rfl)) ?_
     obtain ⟨v232, w233, run234, S235⟩ := S193.buildSlice (P := Tryz.prog) te76 [Value.int .i64 x230] (parts := #[(0, Value.int .i64 x230)]) (cells := [Value.int .i64 x230]) rfl (szs_cons rfl szs_nil) (fc_cons rfl fc_nil) (ones_cons rfl ones_nil) (Nat.le_of_ble_eq_true rfl)
     have els236 : Els (up wa.heap.size H192) eI 1 [Value.int .i64 x230] [x230] := (Els.snoc (H := (up wa.heap.size H192)) (E := eI) (k := 1) (c := [Value.int .i64 x230]) (x := x230) Els.nil rfl rfl)
     refine FL.v (E.buildSlice (B1 rfl) run234) ?_
     obtain ⟨xs237, hz238, hp⟩ := bnd hp
     obtain ⟨v239, w242, n240, cs241, run243, S244, els245, ce246⟩ := S235.appendO (P := Tryz.prog) te76 (i := 2) (j := 0) rfl (els25.mono (up_mono ((r153.run.inc.tr i161).tr i194))) rfl els236 hz238
     have S244 : St Ha wa H192 w242 [.row 3 1 v232 1 [Value.int .i64 x230], .row 3 1 v154 n155 cs156, .row 3 1 v239 n240 cs241] := S244
     have S247 : St Ha wa H192 w242 [.row 3 1 v154 n155 cs156, .row 3 1 v239 n240 cs241] := S244.drop 0
     refine FL.v (E.append rfl rfl run243) ?_
     refine FL.v (E.assign (v := v239) rfl) ?_
     refine FL.nil (FW.region ?_)
     refine FL.v (E.move k220) ?_
     refine FL.v (E.add rfl rfl) ?_
     refine FL.v (E.assign (v := Value.int .i64 (wr (s21.2.2 + 1))) rfl) ?_
     refine FL.nil ?_
     obtain rfl := Option.some.inj hp
     exact ⟨rfl, ⟨_, _, _, _, (S247.sel [1] (by decide) rfl), (((i139.tr r153.run.inc).tr i161).tr i194), els245, k216, k217, k218, rfl, rfl⟩⟩
  ·
   refine FW.condF rfl c147 ?_
   refine FW.exit ?_
   obtain rfl := Option.some.inj hp
   exact ⟨nofun, rfl, ⟨_, _, _, _, S138, i139, els25, k144⟩⟩
 ·
  clear hq
  intro e f253 w252 hD
  rcases q21 with s21 | x21
  ·
   obtain ⟨rfl, hD⟩ := hD
   obtain ⟨H249, v22, n23, cs24, S250, i251, els25, k254⟩ := hD
   replace hp := el_go hp
   refine FW.seq (FW.region ?_)
   refine FL.v (E.move k254) ?_
   refine FL.v (E.assign (v := Value.int .i64 s21.1) rfl) ?_
   refine FL.nil ?_
   refine FW.ret ?_
   obtain rfl := Option.some.inj hp
   exact ⟨.inr rfl, res1 rfl rfl ⟨rfl, S250.back⟩⟩
  ·
   obtain ⟨he, hL⟩ := hD
   replace hp := el_rt hp
   obtain rfl := Option.some.inj hp
   subst he
   exact hL

@[reducible] def p_impl_critical (Ha : GH) (wa : World) (r : (List Int)) : Ending → World → Prop :=
  fun e w' => ∃ H' : GH, ∃ v0 : Value, ∃ n0 : Nat, ∃ c0 : List Value, e = .returned (v0) ∧ St Ha wa H' w' [.row 3 1 v0 n0 c0] ∧ Els (up wa.heap.size H') eI 1 c0 r
theorem w_impl_critical {Ha : GH} {wa : World} (hs : Sl Ha wa) (a0 : Int) {r : (List Int)} (hp : (PF.impl_critical a0) = some r) :
    Calls Tryz.prog 226 #[Value.int .i64 a0] wa (p_impl_critical Ha wa r) := by
  unfold PF.impl_critical at hp
  have S0 := St.init hs
  refine calls_go (N := 23) (args := [Value.int .i64 a0]) Tryz.func226 rfl rfl rfl ?_
  refine FW.seq (FW.region ?_)
  refine FL.v (E.assign (v := Value.slice none 0 0) rfl) ?_
  refine FL.nil (FW.seq (FW.region ?_))
  refine FL.v (E.assign (v := Value.slice none 0 0) rfl) ?_
  refine FL.nil (FW.seq (FW.seq (FW.region ?_)))
  refine FL.v (E.move (v := Value.int .i64 a0) rfl) ?_
  refine FL.v (E.move (v := Value.int .i64 a0) rfl) ?_
  refine FL.v (E.add rfl rfl) ?_
  refine FL.v (E.mul rfl rfl) ?_
  obtain ⟨u22, z21, hp⟩ := bnd hp
  refine FL.v (E.shl rfl rfl (nn_ge z21)) ?_
  refine FL.v (E.move (v := Value.int .i64 0) rfl) ?_
  refine FL.nil ?_
  obtain ⟨m23, hchk24, hp⟩ := bnd hp
  obtain ⟨q24, hq, hp⟩ := bndR hp
  refine FW.block ?_
  refine FW.mono (FW.forR (S := (List Int)) (X := Empty) (fun (i24 : Nat) (s24 : (List Int)) f w => ∃ H : GH, ∃ v25 : Value, ∃ n26 : Nat, ∃ cs27 : List Value, St Ha wa H w [.row 3 1 v25 n26 cs27] ∧ Inc Ha H ∧ Els (up wa.heap.size H) eI 1 cs27 s24 ∧ f 10 = Value.int .i64 ((i24 : Nat) : Int) ∧ f 0 = Value.int .i64 a0 ∧ f 3 = v25 ∧ f 9 = Value.int .i64 (shlK true 64 1 (wr (a0 * (wr (a0 + 1)))))) (fun (q : Rs (List Int) Empty) e f w => match q with | .go s24 => e = Exit.exit 0 ∧ (∃ H : GH, ∃ v25 : Value, ∃ n26 : Nat, ∃ cs27 : List Value, St Ha wa H w [.row 3 1 v25 n26 cs27] ∧ Inc Ha H ∧ Els (up wa.heap.size H) eI 1 cs27 s24 ∧ f 3 = v25) | .rt x => x.elim) hq ⟨_, _, _, _, (S0.nil 3 1), (Inc.rfl _), Els.nil, rfl, rfl, rfl, rfl⟩ ?_ ?_) ?_
  ·
    clear hp hq
    rintro i24 s24 f64 w63 ⟨H60, v25, n26, cs27, S61, i62, els28, k65, k66, k67, k68⟩ hi24 hj24 o91 hp
    refine FW.seq (FW.region ?_)
    refine FL.v (E.lssT k65 k68 (lss_chk hj24 hchk24)) ?_
    refine FL.nil (FW.seq ?_)
    refine FW.condT rfl rfl ?_
    refine FW.skip (FW.seq (FW.block (FW.seq (FW.region ?_))))
    refine FL.v (E.move k65) ?_
    refine FL.v (E.assign (v := Value.int .i64 ((i24 : Nat) : Int)) rfl) ?_
    refine FL.nil (FW.seq (FW.region ?_))
    refine FL.v (E.move k66) ?_
    refine FL.v (E.move (v := Value.int .i64 ((i24 : Nat) : Int)) rfl) ?_
    obtain ⟨r69, hr70, hp⟩ := bnd hp
    refine FL.call rfl rfl rfl (E.call Tryz.call178 (A2 rfl rfl)) (w_impl_leftOf S61.sl a0 ((i24 : Nat) : Int) hr70) ?_
    rintro e w71 ⟨rfl, r72⟩
    refine ⟨_, rfl, ?_⟩
    have S73 := S61.call r72
    refine FL.v (E.gtr rfl rfl) ?_
    refine FL.nil ?_
    rcases ifB hp with ⟨c74, hp⟩ | ⟨c74, hp⟩
    ·
      refine FW.condT rfl c74 ?_
      refine FW.region ?_
      refine FL.v (E.move k67) ?_
      refine FL.v (E.move (v := Value.int .i64 ((i24 : Nat) : Int)) rfl) ?_
      obtain ⟨v75, w76, run77, S78⟩ := S73.buildSlice (P := Tryz.prog) te76 [Value.int .i64 ((i24 : Nat) : Int)] (parts := #[(0, Value.int .i64 ((i24 : Nat) : Int))]) (cells := [Value.int .i64 ((i24 : Nat) : Int)]) rfl (szs_cons rfl szs_nil) (fc_cons rfl fc_nil) (ones_cons rfl ones_nil) (Nat.le_of_ble_eq_true rfl)
      have els79 : Els (up wa.heap.size H60) eI 1 [Value.int .i64 ((i24 : Nat) : Int)] [((i24 : Nat) : Int)] := (Els.snoc (H := (up wa.heap.size H60)) (E := eI) (k := 1) (c := [Value.int .i64 ((i24 : Nat) : Int)]) (x := ((i24 : Nat) : Int)) Els.nil rfl rfl)
      refine FL.v (E.buildSlice (B1 rfl) run77) ?_
      obtain ⟨xs80, hz81, hp⟩ := bnd hp
      obtain ⟨v82, w85, n83, cs84, run86, S87, els88, ce89⟩ := S78.appendO (P := Tryz.prog) te76 (i := 1) (j := 0) rfl els28 rfl els79 hz81
      have S87 : St Ha wa H60 w85 [.row 3 1 v75 1 [Value.int .i64 ((i24 : Nat) : Int)], .row 3 1 v82 n83 cs84] := S87
      have S90 : St Ha wa H60 w85 [.row 3 1 v82 n83 cs84] := S87.drop 0
      refine FL.v (E.append rfl rfl run86) ?_
      refine FL.v (E.assign (v := v82) rfl) ?_
      refine FL.nil (FW.region ?_)
      refine FL.v (E.add k65 rfl) ?_
      refine FL.v (E.move (v := Value.int .i64 (wr (((i24 : Nat) : Int) + 1))) rfl) ?_
      refine FL.nil ?_
      obtain rfl := Option.some.inj hp
      exact ⟨rfl, ⟨_, _, _, _, S90, i62, els88, (nat_succ rfl hj24 (chk_le hchk24)), k66, rfl, k68⟩⟩
    ·
      refine FW.condF rfl c74 ?_
      refine FW.skip (FW.region ?_)
      refine FL.v (E.add k65 rfl) ?_
      refine FL.v (E.move (v := Value.int .i64 (wr (((i24 : Nat) : Int) + 1))) rfl) ?_
      refine FL.nil ?_
      obtain rfl := Option.some.inj hp
      exact ⟨rfl, ⟨_, _, _, _, S73, i62, els28, (nat_succ rfl hj24 (chk_le hchk24)), k66, k67, k68⟩⟩
  ·
    clear hp hq
    rintro s24 f102 w101 ⟨H98, v25, n26, cs27, S99, i100, els28, k103, k104, k105, k106⟩
    refine FW.seq (FW.region ?_)
    refine FL.v (E.lss k103 k106) ?_
    refine FL.nil (FW.seq ?_)
    refine FW.condF rfl (dlt_maxchk hchk24) ?_
    refine FW.exit ?_
    exact ⟨nofun, rfl, ⟨_, _, _, _, S99, i100, els28, k105⟩⟩
  ·
    clear hq
    intro e f96 w95 hD
    rcases q24 with s24 | x24
    ·
      obtain ⟨rfl, hD⟩ := hD
      obtain ⟨H92, v25, n26, cs27, S93, i94, els28, k97⟩ := hD
      replace hp := el_go hp
      refine FW.seq (FW.region ?_)
      refine FL.v (E.move k97) ?_
      refine FL.v (E.assign (v := v25) rfl) ?_
      refine FL.nil ?_
      refine FW.ret ?_
      obtain rfl := Option.some.inj hp
      exact ⟨.inr rfl, res1 rfl rfl ⟨_, _, _, _, rfl, S93, els28⟩⟩
    · exact x24.elim

theorem w_impl_holds_1 {Ha : GH} {wa : World} (hs : Sl Ha wa) (a0 : Int) (q0 : Addr) (b0 : Int) (c0 : CAt Ha q0 [Value.int .i64 b0]) {r : Bool} (hp : (PF.impl_holds_1 a0 b0) = some r) :
  Calls Tryz.prog 265 #[Value.int .i64 a0, Value.pointer (some q0)] wa (Sc Ha wa (Value.bool r)) := by
 unfold PF.impl_holds_1 at hp
 have S0 := St.init hs
 refine calls_go (N := 14) (args := [Value.int .i64 a0, Value.pointer (some q0)]) Tryz.func265 rfl rfl rfl ?_
 refine FW.seq (FW.region ?_)
 refine FL.v (E.assign (v := Value.bool false) rfl) ?_
 refine FL.nil (FW.seq ?_)
 refine FW.draw (fun w' => Run wa.heap.size Ha wa Ha w') (by kernel_rfl) (by kernel_rfl) (run_drew S0.sl) ?_
 refine FD.val rfl rfl rfl (fun w' hw' => (E.load rfl (run_load0 Tryz.isAgg3 (c0.now (S0.call hw').sl) rfl))) ?_
 refine FD.val rfl rfl rfl (fun w' hw' => (E.move (v := Value.int .i64 a0) rfl)) ?_
 refine FD.call rfl rfl rfl (fun w' hw' => (E.call Tryz.call205 (A1 rfl))) (fun w' hw' => Calls.cls hw' (w_impl_abs (S0.call hw').sl a0)) ?_
 refine FD.val rfl rfl rfl (fun w' hw' => (E.sub rfl rfl)) ?_
 obtain ⟨u23, z22, hp⟩ := bnd hp
 refine FD.val rfl rfl rfl (fun w' hw' => (E.shr rfl rfl (nn_ge z22))) ?_
 refine FD.val rfl rfl rfl (fun w' hw' => (E.and rfl rfl)) ?_
 refine FD.val rfl rfl rfl (fun w' hw' => (E.eql rfl rfl)) ?_
 refine FD.val rfl rfl rfl (fun w' hw' => (E.move (v := Value.int .i64 a0) rfl)) ?_
 refine FD.val rfl rfl rfl (fun w' hw' => (E.gtr rfl rfl)) ?_
 refine FD.val rfl rfl rfl (fun w' hw' => (E.eqlB Tryz.runUnderlying4 rfl rfl)) ?_
 refine FD.val rfl rfl rfl (fun w' hw' => (E.assign (v := Value.bool (((andK true 64 (shrK 64 b0 (wr ((PF.impl_abs a0) - 1))) 1) == 1) == (decide (0 < a0)))) rfl)) ?_
 refine FD.nil ?_
 intro w24 r26
 have S25 := S0.call r26
 refine FW.ret ?_
 obtain rfl := Option.some.inj hp
 exact ⟨.inr rfl, res1 rfl rfl ⟨rfl, S25.back⟩⟩

theorem w_impl_holds {Ha : GH} {wa : World} (hs : Sl Ha wa) (v0 : Value) (a0 : List Int) (p0 : RSl Ha eI 1 v0 a0) (a1 : Int) {r : Bool} (hp : (PF.impl_holds a0 a1) = some r) :
  Calls Tryz.prog 228 #[v0, Value.int .i64 a1] wa (Sc Ha wa (Value.bool r)) := by
 unfold PF.impl_holds at hp
 have S0 := St.init hs
 refine calls_go (N := 8) (args := [v0, Value.int .i64 a1]) Tryz.func228 rfl rfl rfl ?_
 refine FW.seq (FW.region ?_)
 obtain ⟨b21, w22, run23, S24⟩ := S0.box (P := Tryz.prog) 3 [Value.int .i64 a1] (v := Value.int .i64 a1) rfl (ones_cons rfl ones_nil)
 refine FL.v (E.box rfl run23) ?_
 obtain ⟨H25, S26, i27, at28⟩ := S24.sealBox (i := 0) (l' := []) rfl rfl
 refine FL.v (E.assign (v := Value.bool false) rfl) ?_
 refine FL.nil (FW.seq (FW.region ?_))
 refine FL.v (E.move (v := v0) rfl) ?_
 refine FL.v (E.makeFunc A0 (A1 rfl)) ?_
 obtain ⟨r29, hr30, hp⟩ := bnd hp
 refine FL.call rfl rfl rfl (E.call Tryz.call264 (A2 rfl rfl)) (w_slices_ContainsFunc_int_int S26.sl v0 a0 (p0.mono i27) (Value.func (.func 265) #[] #[Value.pointer (some ⟨b21, 0, none⟩)]) (fun x0 => PF.impl_holds_1 x0 a1) (fun H2 w2 hi2 hs2 x0 r hr => ⟨265, #[Value.pointer (some ⟨b21, 0, none⟩)], rfl, Tryz.call265, w_impl_holds_1 hs2 x0 ⟨b21, 0, none⟩ a1 (at28.mono hi2) hr⟩) hr30) ?_
 rintro e w31 ⟨rfl, r32⟩
 refine ⟨_, rfl, ?_⟩
 have S33 := S26.call r32
 refine FL.v (E.assign (v := Value.bool r29) rfl) ?_
 refine FL.nil ?_
 refine FW.ret ?_
 obtain rfl := Option.some.inj hp
 exact ⟨.inr rfl, res1 rfl rfl ⟨rfl, S33.back⟩⟩

theorem w_impl_falseCritical_1 {Ha : GH} {wa : World} (hs : Sl Ha wa) (a0 : Int) (q0 : Addr) (b0 : List Int) (u0_0 : Value) (g0_0 : RSl Ha eI 1 u0_0 b0) (c0 : CAt Ha q0 [u0_0]) {r : Bool} (hp : (PF.impl_falseCritical_1 a0 b0) = some r) :
  Calls Tryz.prog 227 #[Value.int .i64 a0, Value.pointer (some q0)] wa (Sc Ha wa (Value.bool r)) := by
 unfold PF.impl_falseCritical_1 at hp
 have S0 := St.init hs
 refine calls_go (N := 7) (args := [Value.int .i64 a0, Value.pointer (some q0)]) Tryz.func227 rfl rfl rfl ?_
 refine FW.seq (FW.region ?_)
 refine FL.v (E.assign (v := Value.bool false) rfl) ?_
 refine FL.nil (FW.seq (FW.region ?_))
 refine FL.v (E.load rfl (run_load0 Tryz.isAgg76 (c0.now S0.sl) rfl)) ?_
 refine FL.v (E.move (v := Value.int .i64 a0) rfl) ?_
 obtain ⟨r21, hr22, hp⟩ := bnd hp
 refine FL.call rfl rfl rfl (E.call Tryz.call228 (A2 rfl rfl)) (w_impl_holds S0.sl u0_0 b0 g0_0 a0 hr22) ?_
 rintro e w23 ⟨rfl, r24⟩
 refine ⟨_, rfl, ?_⟩
 have S25 := S0.call r24
 refine FL.v (E.assign (v := Value.bool r21) rfl) ?_
 refine FL.nil ?_
 refine FW.ret ?_
 obtain rfl := Option.some.inj hp
 exact ⟨.inr rfl, res1 rfl rfl ⟨rfl, S25.back⟩⟩

@[reducible] def p_impl_falseCritical (Ha : GH) (wa : World) (r : (List Int)) : Ending → World → Prop :=
 fun e w' => ∃ H' : GH, ∃ v0 : Value, ∃ n0 : Nat, ∃ c0 : List Value, e = .returned (v0) ∧ St Ha wa H' w' [.row 3 1 v0 n0 c0] ∧ Els (up wa.heap.size H') eI 1 c0 r
theorem w_impl_falseCritical {Ha : GH} {wa : World} (hs : Sl Ha wa) (a0 : Int) (v1 : Value) (a1 : List Int) (p1 : RSl Ha eI 1 v1 a1) {r : (List Int)} (hp : (PF.impl_falseCritical a0 a1) = some r) :
  Calls Tryz.prog 177 #[Value.int .i64 a0, v1] wa (p_impl_falseCritical Ha wa r) := by
 unfold PF.impl_falseCritical at hp
 have S0 := St.init hs
 refine calls_go (N := 9) (args := [Value.int .i64 a0, v1]) Tryz.func177 rfl rfl rfl ?_
 refine FW.seq (FW.region ?_)
 obtain ⟨b21, w22, run23, S24⟩ := S0.box (P := Tryz.prog) 76 [v1] (v := v1) p1.cells (ones_cons p1.one ones_nil)
 refine FL.v (E.box rfl run23) ?_
 obtain ⟨H25, S26, i27, at28⟩ := S24.sealBox (i := 0) (l' := []) rfl rfl
 refine FL.v (E.assign (v := Value.slice none 0 0) rfl) ?_
 refine FL.nil (FW.seq (FW.region ?_))
 refine FL.v (E.move (v := Value.int .i64 a0) rfl) ?_
 obtain ⟨r29, hr30, hp⟩ := bnd hp
 refine FL.call rfl rfl rfl (E.call Tryz.call226 (A1 rfl)) (w_impl_critical S26.sl a0 hr30) ?_
 rintro e w32 ⟨H31, v35, n36, cs37, rfl, r34, els38⟩
 refine ⟨_, rfl, ?_⟩
 have els38 := els38.mono (up_le S26.size)
 have S33 := S26.join (l' := [.row 3 1 v35 n36 cs37]) r34 rfl
 refine FL.v (E.makeFunc A0 (A1 rfl)) ?_
 obtain ⟨r39, hr40, hp⟩ := bnd hp
 refine FL.call rfl rfl rfl (E.call Tryz.call225 (A2 rfl rfl)) (w_slices_DeleteFunc_int_int (L := []) S33 r29 els38 (Value.func (.func 227) #[] #[Value.pointer (some ⟨b21, 0, none⟩)]) (fun x0 => PF.impl_falseCritical_1 x0 a1) (fun H2 w2 hi2 hs2 x0 r hr => ⟨227, #[Value.pointer (some ⟨b21, 0, none⟩)], rfl, Tryz.call227, w_impl_falseCritical_1 hs2 x0 ⟨b21, 0, none⟩ a1 v1 ((p1.mono (i27.tr r34.run.inc)).mono hi2) ((at28.mono r34.run.inc).mono hi2) hr⟩) hr40) ?_
 rintro e w42 ⟨H41, v45, n46, cs47, rfl, ⟨S43, i44⟩, els48⟩
 refine ⟨_, rfl, ?_⟩
 have S43 : St Ha wa H41 w42 [.row 3 1 v45 n46 cs47] := S43
 refine FL.v (E.assign (v := v45) rfl) ?_
 refine FL.nil ?_
 refine FW.ret ?_
 obtain rfl := Option.some.inj hp
 exact ⟨.inr rfl, res1 rfl rfl ⟨_, _, _, _, rfl, S43, els48⟩⟩

theorem w_impl_weight {Ha : GH} {wa : World} (hs : Sl Ha wa) (a0 : Int) (v1 : Value) (a1 : List Int) (p1 : RSl Ha eI 1 v1 a1) {r : Int} (hp : (PF.impl_weight a0 a1) = some r) :
    Calls Tryz.prog 117 #[Value.int .i64 a0, v1] wa (Sc Ha wa (Value.int .i64 r)) := by
  unfold PF.impl_weight at hp
  have S0 := St.init hs
  refine calls_go (N := 24) (args := [Value.int .i64 a0, v1]) Tryz.func117 rfl rfl rfl ?_
  refine FW.seq (FW.region ?_)
  refine FL.v (E.assign (v := Value.int .i64 0) rfl) ?_
  refine FL.nil (FW.seq (FW.region ?_))
  obtain ⟨b21, o22, w23, run24, S25, hm26⟩ := S0.makeMap (P := Tryz.prog) (K := Int) (V := Bool) 188 (Value.int .i64) Value.bool
  refine FL.v (E.makeMap run24) ?_
  refine FL.v (E.assign (v := Value.map (some b21)) rfl) ?_
  refine FL.nil (FW.seq (FW.seq (FW.region ?_)))
  refine FL.v (E.move (v := Value.int .i64 a0) rfl) ?_
  refine FL.v (E.move (v := v1) rfl) ?_
  obtain ⟨r27, hr28, hp⟩ := bnd hp
  refine FL.call rfl rfl rfl (E.call Tryz.call177 (A2 rfl rfl)) (w_impl_falseCritical S25.sl a0 v1 a1 p1 hr28) ?_
  rintro e w30 ⟨H29, v33, n34, cs35, rfl, r32, els36⟩
  refine ⟨_, rfl, ?_⟩
  have els36 := els36.mono (up_le S25.size)
  have S31 := S25.join (l' := [.row 3 1 v33 n34 cs35, .raw b21 o22]) r32 rfl
  refine FL.v (E.lenO te76 rfl S31 (i := 0) rfl els36 (by decide)) ?_
  refine FL.v (E.move (v := Value.int .i64 0) rfl) ?_
  refine FL.nil ?_
  obtain ⟨m37, hchk38, hp⟩ := bnd hp
  obtain ⟨q38, hq, hp⟩ := bndR hp
  refine FW.block ?_
  refine FW.mono (FW.forR (S := (List (Int × Bool))) (X := Empty) (fun (i38 : Nat) (s38 : (List (Int × Bool))) f w => ∃ H : GH, ∃ o67 : Obj, St Ha wa H w [.row 3 1 v33 n34 cs35, .raw b21 o67] ∧ Inc H29 H ∧ MapOf (K := Int) (V := Bool) (Value.int .i64) Value.bool o67 s38 ∧ f 13 = Value.int .i64 ((i38 : Nat) : Int) ∧ f 0 = Value.int .i64 a0 ∧ f 5 = Value.map (some b21) ∧ f 11 = v33 ∧ f 12 = Value.int .i64 (len r27)) (fun (q : Rs (List (Int × Bool)) Empty) e f w => match q with | .go s38 => e = Exit.exit 0 ∧ (∃ H : GH, ∃ o67 : Obj, St Ha wa H w [.row 3 1 v33 n34 cs35, .raw b21 o67] ∧ Inc H29 H ∧ MapOf (K := Int) (V := Bool) (Value.int .i64) Value.bool o67 s38 ∧ f 5 = Value.map (some b21)) | .rt x => x.elim) hq ⟨_, _, S31, (Inc.rfl _), hm26, rfl, rfl, rfl, rfl, rfl⟩ ?_ ?_) ?_
  ·
    clear hp hq
    rintro i38 s38 f101 w100 ⟨H97, o67, S98, i99, hm68, k102, k103, k104, k105, k106⟩ hi38 hj38 o125 hp
    refine FW.seq (FW.region ?_)
    refine FL.v (E.lssT k102 k106 (lss_chk hj38 hchk38)) ?_
    refine FL.nil (FW.seq ?_)
    refine FW.condT rfl rfl ?_
    refine FW.skip (FW.seq (FW.block (FW.seq (FW.region ?_))))
    obtain ⟨x113, hx114, hp⟩ := bnd hp
    obtain ⟨p107, cs108, pt109, l110, at111, rel112⟩ := S98.row_at (i := 0) rfl els36 (by decide) hx114
    obtain rfl := eI_open rel112
    refine FL.v (E.indexAddr te76 k105 k102 pt109) ?_
    refine FL.v (E.load rfl (run_load0 Tryz.isAgg3 at111 rfl)) ?_
    refine FL.v (E.assign (v := Value.int .i64 x113) rfl) ?_
    refine FL.nil (FW.region ?_)
    refine FL.v (E.move k104) ?_
    refine FL.v (E.move k103) ?_
    refine FL.v (E.move (v := Value.int .i64 x113) rfl) ?_
    obtain ⟨r115, hr116, hp⟩ := bnd hp
    refine FL.call rfl rfl rfl (E.call Tryz.call178 (A2 rfl rfl)) (w_impl_leftOf S98.sl a0 x113 hr116) ?_
    rintro e w117 ⟨rfl, r118⟩
    refine ⟨_, rfl, ?_⟩
    have S119 := S98.call r118
    obtain ⟨o120, w121, run122, S123, hm124⟩ := S119.mapPut (P := Tryz.prog) (i := 1) rfl hm68 Tryz.runUnderlying188 (KeyNow.int Tryz.runUnderlying3) r115 true
    have S123 : St Ha wa H97 w121 [.row 3 1 v33 n34 cs35, .raw b21 o120] := S123
    refine FL.act rfl rfl (E.mapUpdate rfl rfl rfl run122) ?_
    refine FL.nil (FW.region ?_)
    refine FL.v (E.add k102 rfl) ?_
    refine FL.v (E.move (v := Value.int .i64 (wr (((i38 : Nat) : Int) + 1))) rfl) ?_
    refine FL.nil ?_
    obtain rfl := Option.some.inj hp
    exact ⟨rfl, ⟨_, _, S123, i99, hm124, (nat_succ rfl hj38 (chk_le hchk38)), k103, k104, k105, k106⟩⟩
  ·
    clear hp hq
    rintro s38 f136 w135 ⟨H132, o67, S133, i134, hm68, k137, k138, k139, k140, k141⟩
    refine FW.seq (FW.region ?_)
    refine FL.v (E.lss k137 k141) ?_
    refine FL.nil (FW.seq ?_)
    refine FW.condF rfl (dlt_maxchk hchk38) ?_
    refine FW.exit ?_
    exact ⟨nofun, rfl, ⟨_, _, S133, i134, hm68, k139⟩⟩
  ·
    clear hq
    intro e f130 w129 hD
    rcases q38 with s38 | x38
    ·
      obtain ⟨rfl, hD⟩ := hD
      obtain ⟨H126, o67, S127, i128, hm68, k131⟩ := hD
      replace hp := el_go hp
      refine FW.seq (FW.region ?_)
      refine FL.v (E.move k131) ?_
      refine FL.v (E.lenM Tryz.runUnderlying188 S127 (i := 1) rfl hm68 rfl) ?_
      refine FL.v (E.assign (v := Value.int .i64 (len s38)) rfl) ?_
      refine FL.nil ?_
      refine FW.ret ?_
      obtain rfl := Option.some.inj hp
      exact ⟨.inr rfl, res1 rfl rfl ⟨rfl, S127.back⟩⟩
    · exact x38.elim

theorem w_impl_MiddleStep {Ha : GH} {wa : World} (hs : Sl Ha wa) (a0 : Int) (v1 : Value) (a1 : List ResStep) (p1 : RSl Ha eResStep 4 v1 a1) {r : (Int × Bool)} (hp : (PF.impl_MiddleStep a0 a1) = some r) :
  Calls Tryz.prog 56 #[Value.int .i64 a0, v1] wa (Sc Ha wa (Value.tuple #[Value.int .i64 r.1, Value.bool r.2])) := by
 unfold PF.impl_MiddleStep at hp
 have S0 := St.init hs
 refine calls_go (N := 50) (args := [Value.int .i64 a0, v1]) Tryz.func56 rfl rfl rfl ?_
 refine FW.seq (FW.region ?_)
 refine FL.v (E.assign (v := Value.int .i64 0) rfl) ?_
 refine FL.v (E.assign (v := Value.bool false) rfl) ?_
 refine FL.nil (FW.seq (FW.region ?_))
 refine FL.v (E.move (v := Value.int .i64 a0) rfl) ?_
 obtain ⟨r21, hr22, hp⟩ := bnd hp
 refine FL.call rfl rfl rfl (E.call Tryz.call116 (A1 rfl)) (w_impl_PigeonCnf S0.sl a0 hr22) ?_
 rintro e w24 ⟨H23, v27, rfl, r26, h28⟩
 refine ⟨_, rfl, ?_⟩
 have S25 := S0.call r26
 refine FL.v (E.move (v := Value.tuple #[Value.agg #[Value.int .i64 r21.1.vars, v27], Value.bool r21.2]) rfl) ?_
 refine FL.v (E.extract (i := 0) rfl rfl) ?_
 refine FL.v (E.extract (i := 1) rfl rfl) ?_
 obtain ⟨b29, w30, run31, S32⟩ := S25.alloc (P := Tryz.prog) 30 [Value.int .i64 0, Value.slice none 0 0] Tryz.zeroValue30 rfl (ones_cons rfl (ones_cons rfl ones_nil))
 refine FL.v (E.alloc run31) ?_
 obtain ⟨w33, run34, S35⟩ := S32.store0 (P := Tryz.prog) (t := 30) (i := 0) (cs' := [Value.int .i64 r21.1.vars, v27]) (l' := [.box b29 30 [Value.int .i64 r21.1.vars, v27]]) (v := Value.agg #[Value.int .i64 r21.1.vars, v27]) (c := [Value.int .i64 r21.1.vars, v27]) rfl Tryz.sizeOf30 rfl rfl (ones_cons rfl (ones_cons h28.one ones_nil)) (Nat.le_of_ble_eq_true rfl) rfl rfl
 refine FL.act rfl rfl (E.store rfl rfl run34) ?_
 obtain ⟨H36, S37, i38, at39⟩ := S35.sealBox (i := 0) (l' := []) rfl rfl
 refine FL.v (E.assign (v := Value.bool r21.2) rfl) ?_
 refine FL.nil (FW.seq (FW.seq (FW.region ?_)))
 refine FL.v (E.move (v := Value.bool r21.2) rfl) ?_
 refine FL.v (E.not rfl) ?_
 refine FL.v (E.move (v := Value.bool (!r21.2)) rfl) ?_
 obtain ⟨t45, hqt45, hp⟩ := bnd hp
 refine FL.cut 5 (fun f w => ∃ H : GH, St Ha wa H w [] ∧ Inc H36 H ∧ f 0 = Value.int .i64 a0 ∧ f 1 = v1 ∧ f 23 = Value.bool t45) ?_ ?_
 ·
  clear hp; have hp := hqt45; clear hqt45
  rcases ifB hp with ⟨c51, hp⟩ | ⟨c51, hp⟩
  ·
   refine FL.skip (wF_no rfl rfl rfl c51) rfl ?_
   refine FL.skip (wF_no rfl rfl rfl c51) rfl ?_
   refine FL.skip (wF_no rfl rfl rfl c51) rfl ?_
   refine FL.skip (wF_no rfl rfl rfl c51) rfl ?_
   obtain rfl := Option.some.inj hp
   refine FL.v (E.pickT rfl c51 rfl) ?_
   exact FL.nil ⟨rfl, _, S37, (Inc.rfl _), rfl, rfl, rfl⟩
  ·
   refine FL.val (wF_yes rfl rfl rfl c51) rfl rfl (E.load rfl (run_loadA Tryz.isAgg30 Tryz.sizeOf30 (at39.now S37.sl) rfl)) ?_
   refine FL.val (wF_yes rfl rfl rfl c51) rfl rfl (E.move (v := v1) rfl) ?_
   obtain ⟨r52, hr53, hp⟩ := bnd hp
   refine FL.call (wF_yes rfl rfl rfl c51) rfl rfl (E.call Tryz.call92 (A2 rfl rfl)) (w_impl_IsRefutation S37.sl r21.1 v27 (h28.mono i38) v1 a1 (p1.mono (r26.inc.tr i38)) hr53) ?_
   rintro e w54 ⟨rfl, r55⟩
   refine ⟨_, rfl, ?_⟩
   have S56 := S37.call r55
   refine FL.val (wF_yes rfl rfl rfl c51) rfl rfl (E.not rfl) ?_
   obtain rfl := Option.some.inj hp
   refine FL.v (E.pickF rfl c51 rfl) ?_
   exact FL.nil ⟨rfl, _, S56, (Inc.rfl _), rfl, rfl, rfl⟩
 rintro f50 w49 ⟨H46, S47, i48, k57, k58, k59⟩
 refine FL.nil ?_
 rcases ifB hp with ⟨c60, hp⟩ | ⟨c60, hp⟩
 ·
  refine FW.condT k59 c60 ?_
  refine FW.seq (FW.region ?_)
  refine FL.v (E.assign (v := Value.int .i64 0) rfl) ?_
  refine FL.v (E.assign (v := Value.bool false) rfl) ?_
  refine FL.nil ?_
  refine FW.ret ?_
  obtain rfl := Option.some.inj hp
  exact ⟨.inr rfl, res2 rfl rfl rfl ⟨rfl, S47.back⟩⟩
 ·
  refine FW.condF k59 c60 ?_
  refine FW.skip (FW.seq (FW.seq (FW.region ?_)))
  refine FL.v (E.move k58) ?_
  refine FL.v (E.lenP te41 rfl p1) ?_
  refine FL.v (E.move (v := Value.int .i64 0) rfl) ?_
  refine FL.nil ?_
  obtain ⟨q62, hq, hp⟩ := bndR hp
  refine FW.block ?_
  refine FW.mono (FW.forL (S := Unit) (X := (Int × Bool)) (fun (i62 : Nat) (s62 : Unit) f w => ∃ H : GH, St Ha wa H w [] ∧ Inc H46 H ∧ f 26 = Value.int .i64 ((i62 : Nat) : Int) ∧ f 0 = Value.int .i64 a0 ∧ f 24 = v1 ∧ f 25 = Value.int .i64 (len a1)) (fun q e f w => match q with | .go s62 => e = Exit.exit 0 ∧ (∃ H : GH, St Ha wa H w [] ∧ Inc H46 H) | .rt x => ((e = Exit.ret) ∧ (fun e f w => (e = Exit.normal ∨ e = Exit.ret) ∧ ∀ a, Fr (δ := []) 50 a f → ∃ v, (results Tryz.f56 a.tmps).run Tryz.prog w = .ok v w ∧ (Sc Ha wa (Value.tuple #[Value.int .i64 x.1, Value.bool x.2])) (.returned v) w) e f w)) hq ⟨_, S47, (Inc.rfl _), rfl, k57, rfl, rfl⟩ ?_ ?_) ?_
  ·
   clear hp hq
   rintro i62 y61 s62 f114 w113 ⟨H110, S111, i112, k115, k116, k117, k118⟩ hx62 o157 hp
   refine FW.seq (FW.region ?_)
   refine FL.v (E.lssT k115 k118 (lss_len hx62)) ?_
   refine FL.nil (FW.seq ?_)
   refine FW.condT rfl rfl ?_
   refine FW.skip (FW.seq (FW.block (FW.seq (FW.region ?_))))
   refine FL.v (E.move k115) ?_
   obtain ⟨p119, cs120, pt121, l122, at123, rel124⟩ := p1.at (ix_nat hx62)
   obtain ⟨v125, rfl, h126⟩ := eResStep_open rel124
   refine FL.v (E.indexAddr te41 k117 k115 pt121) ?_
   refine FL.v (E.load rfl (run_loadA Tryz.isAgg103 Tryz.sizeOf103 ((at123.mono (((r26.inc.tr i38).tr i48).tr i112)).now S111.sl) rfl)) ?_
   obtain ⟨b127, w128, run129, S130⟩ := S111.alloc (P := Tryz.prog) 103 [Value.slice none 0 0, Value.int .i64 0, Value.int .i64 0, Value.int .i64 0] Tryz.zeroValue103 rfl (ones_cons rfl (ones_cons rfl (ones_cons rfl (ones_cons rfl ones_nil))))
   refine FL.v (E.alloc run129) ?_
   refine FL.v (E.assign (v := Value.int .i64 ((i62 : Nat) : Int)) rfl) ?_
   obtain ⟨w131, run132, S133⟩ := S130.store0 (P := Tryz.prog) (t := 103) (i := 0) (cs' := [v125, Value.int .i64 y61.left, Value.int .i64 y61.right, Value.int .i64 y61.pivot]) (l' := [.box b127 103 [v125, Value.int .i64 y61.left, Value.int .i64 y61.right, Value.int .i64 y61.pivot]]) (v := Value.agg #[v125, Value.int .i64 y61.left, Value.int .i64 y61.right, Value.int .i64 y61.pivot]) (c := [v125, Value.int .i64 y61.left, Value.int .i64 y61.right, Value.int .i64 y61.pivot]) rfl Tryz.sizeOf103 rfl rfl (ones_cons h126.one (ones_cons rfl (ones_cons rfl (ones_cons rfl ones_nil)))) (Nat.le_of_ble_eq_true rfl) rfl rfl
   refine FL.act rfl rfl (E.store rfl rfl run132) ?_
   obtain ⟨H134, S135, i136, at137⟩ := S133.sealBox (i := 0) (l' := []) rfl rfl
   refine FL.nil (FW.seq (FW.region ?_))
   refine FL.v (E.move k116) ?_
   refine FL.v (E.fieldAddr tf103_0 rfl) ?_
   refine FL.v (E.load rfl (run_load1 Tryz.isAgg76 (at137.now S135.sl) rfl)) ?_
   obtain ⟨r138, hr139, hp⟩ := bnd hp
   refine FL.call rfl rfl rfl (E.call Tryz.call117 (A2 rfl rfl)) (w_impl_weight S135.sl a0 v125 y61.clause (h126.mono ((((r26.inc.tr i38).tr i48).tr i112).tr i136)) hr139) ?_
   rintro e w140 ⟨rfl, r141⟩
   refine ⟨_, rfl, ?_⟩
   have S142 := S135.call r141
   refine FL.v (E.assign (v := Value.int .i64 r138) rfl) ?_
   refine FL.nil (FW.seq (FW.region ?_))
   refine FL.v (E.move k116) ?_
   refine FL.v (E.add rfl rfl) ?_
   refine FL.v (E.move (v := Value.int .i64 r138) rfl) ?_
   refine FL.v (E.mul rfl rfl) ?_
   refine FL.v (E.leq rfl rfl) ?_
   refine FL.v (E.move (v := Value.bool (decide ((wr (a0 + 1)) ≤ (wr (3 * r138))))) rfl) ?_
   refine FL.cut 7 (fun f w => ∃ H : GH, St Ha wa H w [] ∧ Inc H134 H ∧ f 0 = Value.int .i64 a0 ∧ f 8 = Value.int .i64 ((i62 : Nat) : Int) ∧ f 24 = v1 ∧ f 25 = Value.int .i64 (len a1) ∧ f 26 = Value.int .i64 ((i62 : Nat) : Int) ∧ f 47 = Value.bool (bif (decide ((wr (a0 + 1)) ≤ (wr (3 * r138)))) then (decide ((wr (3 * r138)) ≤ (wr (2 * (wr (a0 + 1)))))) else false)) ?_ ?_
   ·
    rcases bcase (decide ((wr (a0 + 1)) ≤ (wr (3 * r138)))) with c149 | c149
    ·
     refine FL.val (wF_yes rfl rfl rfl c149) rfl rfl (E.move (v := Value.int .i64 r138) rfl) ?_
     refine FL.val (wF_yes rfl rfl rfl c149) rfl rfl (E.mul rfl rfl) ?_
     refine FL.val (wF_yes rfl rfl rfl c149) rfl rfl (E.move k116) ?_
     refine FL.val (wF_yes rfl rfl rfl c149) rfl rfl (E.add rfl rfl) ?_
     refine FL.val (wF_yes rfl rfl rfl c149) rfl rfl (E.mul rfl rfl) ?_
     refine FL.val (wF_yes rfl rfl rfl c149) rfl rfl (E.leq rfl rfl) ?_
     refine FL.v (E.pickT rfl c149 rfl) ?_
     exact FL.nil ⟨rfl, _, S142, (Inc.rfl _), k116, rfl, k117, k118, k115, (congrArg Value.bool (bifT c149).symm)⟩
    ·
     refine FL.skip (wF_no rfl rfl rfl c149) rfl ?_
     refine FL.skip (wF_no rfl rfl rfl c149) rfl ?_
     refine FL.skip (wF_no rfl rfl rfl c149) rfl ?_
     refine FL.skip (wF_no rfl rfl rfl c149) rfl ?_
     refine FL.skip (wF_no rfl rfl rfl c149) rfl ?_
     refine FL.skip (wF_no rfl rfl rfl c149) rfl ?_
     refine FL.v (E.pickF rfl c149 rfl) ?_
     exact FL.nil ⟨rfl, _, S142, (Inc.rfl _), k116, rfl, k117, k118, k115, (congrArg Value.bool (bifF c149).symm)⟩
   rintro f148 w147 ⟨H144, S145, i146, k150, k151, k152, k153, k154, k155⟩
   refine FL.nil ?_
   rcases ifB hp with ⟨c156, hp⟩ | ⟨c156, hp⟩
   ·
    refine FW.condT k155 c156 ?_
    refine FW.seq (FW.region ?_)
    refine FL.v (E.move k151) ?_
    refine FL.v (E.assign (v := Value.int .i64 ((i62 : Nat) : Int)) rfl) ?_
    refine FL.v (E.assign (v := Value.bool true) rfl) ?_
    refine FL.nil ?_
    refine FW.ret ?_
    obtain rfl := Option.some.inj hp
    exact ⟨nofun, rfl, ⟨.inr rfl, res2 rfl rfl rfl ⟨rfl, S145.back⟩⟩⟩
   ·
    refine FW.condF k155 c156 ?_
    refine FW.skip (FW.region ?_)
    refine FL.v (E.add k154 rfl) ?_
    refine FL.v (E.move (v := Value.int .i64 (wr (((i62 : Nat) : Int) + 1))) rfl) ?_
    refine FL.nil ?_
    obtain rfl := Option.some.inj hp
    exact ⟨rfl, ⟨_, S145, ((i112.tr i136).tr i146), (nat_succ rfl (lt_of_get hx62) (p1.mono (((((r26.inc.tr i38).tr i48).tr i112).tr i136).tr i146)).le), k150, k152, k153⟩⟩
  ·
   clear hp hq
   rintro s62 f167 w166 ⟨H163, S164, i165, k168, k169, k170, k171⟩
   refine FW.seq (FW.region ?_)
   refine FL.v (E.lss k168 k171) ?_
   refine FL.nil (FW.seq ?_)
   refine FW.condF rfl dlt_len ?_
   refine FW.exit ?_
   exact ⟨nofun, rfl, ⟨_, S164, i165⟩⟩
  ·
   clear hq
   intro e f162 w161 hD
   rcases q62 with s62 | x62
   ·
    obtain ⟨rfl, hD⟩ := hD
    obtain ⟨H158, S159, i160⟩ := hD
    replace hp := el_go hp
    refine FW.seq (FW.region ?_)
    refine FL.v (E.assign (v := Value.int .i64 0) rfl) ?_
    refine FL.v (E.assign (v := Value.bool false) rfl) ?_
    refine FL.nil ?_
    refine FW.ret ?_
    obtain rfl := Option.some.inj hp
    exact ⟨.inr rfl, res2 rfl rfl rfl ⟨rfl, S159.back⟩⟩
   ·
    obtain ⟨he, hL⟩ := hD
    replace hp := el_rt hp
    obtain rfl := Option.some.inj hp
    subst he
    exact hL

theorem w_laws_eqIntS {Ha : GH} {wa : World} (hs : Sl Ha wa) (v0 : Value) (a0 : List Int) (p0 : RSl Ha eI 1 v0 a0) (v1 : Value) (a1 : List Int) (p1 : RSl Ha eI 1 v1 a1) {r : Bool} (hp : (PF.laws_eqIntS a0 a1) = some r) :
  Calls Tryz.prog 61 #[v0, v1] wa (Sc Ha wa (Value.bool r)) := by
 unfold PF.laws_eqIntS at hp
 have S0 := St.init hs
 refine calls_go (N := 26) (args := [v0, v1]) Tryz.func61 rfl rfl rfl ?_
 refine FW.seq (FW.region ?_)
 refine FL.v (E.assign (v := Value.bool false) rfl) ?_
 refine FL.nil (FW.seq (FW.seq (FW.region ?_)))
 refine FL.v (E.move (v := v0) rfl) ?_
 refine FL.v (E.lenP te76 rfl p0) ?_
 refine FL.v (E.move (v := v1) rfl) ?_
 refine FL.v (E.lenP te76 rfl p1) ?_
 refine FL.v (E.neq rfl rfl) ?_
 refine FL.nil ?_
 rcases ifB hp with ⟨c21, hp⟩ | ⟨c21, hp⟩
 ·
  refine FW.condT rfl c21 ?_
  refine FW.seq (FW.region ?_)
  refine FL.v (E.assign (v := Value.bool false) rfl) ?_
  refine FL.nil ?_
  refine FW.ret ?_
  obtain rfl := Option.some.inj hp
  exact ⟨.inr rfl, res1 rfl rfl ⟨rfl, S0.back⟩⟩
 ·
  refine FW.condF rfl c21 ?_
  refine FW.skip (FW.seq (FW.seq (FW.region ?_)))
  refine FL.v (E.assign (v := Value.int .i64 0) rfl) ?_
  refine FL.nil ?_
  obtain ⟨q23, hq, hp⟩ := bndR hp
  refine FW.block ?_
  refine FW.mono (FW.forL (S := Unit) (X := Bool) (fun (i23 : Nat) (s23 : Unit) f w => ∃ H : GH, St Ha wa H w [] ∧ Inc Ha H ∧ f 5 = Value.int .i64 ((i23 : Nat) : Int) ∧ f 0 = v0 ∧ f 1 = v1) (fun q e f w => match q with | .go s23 => e = Exit.exit 0 ∧ (∃ H : GH, St Ha wa H w [] ∧ Inc Ha H) | .rt x => ((e = Exit.ret) ∧ (fun e f w => (e = Exit.normal ∨ e = Exit.ret) ∧ ∀ a, Fr (δ := []) 26 a f → ∃ v, (results Tryz.f61 a.tmps).run Tryz.prog w = .ok v w ∧ (Sc Ha wa (Value.bool x)) (.returned v) w) e f w)) hq ⟨_, S0, (Inc.rfl _), rfl, rfl, rfl⟩ ?_ ?_) ?_
  ·
   clear hp hq
   rintro i23 y22 s23 f55 w54 ⟨H51, S52, i53, k56, k57, k58⟩ hx23 o78 hp
   refine FW.seq (FW.seq (FW.region ?_))
   refine FL.v (E.move k56) ?_
   refine FL.v (E.move k57) ?_
   refine FL.v (E.lenP te76 rfl p0) ?_
   refine FL.v (E.lssT rfl rfl (lss_len hx23)) ?_
   refine FL.nil ?_
   refine FW.condT rfl rfl ?_
   refine FW.skip (FW.seq (FW.block (FW.seq ?_)))
   refine FW.draw (fun w' => Run w54.heap.size H51 w54 H51 w') (by kernel_rfl) (by kernel_rfl) (run_drew S52.sl) ?_
   refine FD.val rfl rfl rfl (fun w' hw' => (E.move k57)) ?_
   refine FD.val rfl rfl rfl (fun w' hw' => (E.move k56)) ?_
   obtain ⟨p60, cs61, pt62, l63, at64, rel65⟩ := p0.at (ix_nat hx23)
   obtain rfl := eI_open rel65
   refine FD.val rfl rfl rfl (fun w' hw' => (E.indexAddr te76 rfl rfl pt62)) ?_
   refine FD.val rfl rfl rfl (fun w' hw' => (E.load rfl (run_load0 Tryz.isAgg3 ((at64.mono i53).now (S52.call hw').sl) rfl))) ?_
   refine FD.val rfl rfl rfl (fun w' hw' => (E.move k58)) ?_
   refine FD.val rfl rfl rfl (fun w' hw' => (E.move k56)) ?_
   obtain ⟨x72, hx73, hp⟩ := bnd hp
   obtain ⟨p66, cs67, pt68, l69, at70, rel71⟩ := p1.at hx73
   obtain rfl := eI_open rel71
   refine FD.val rfl rfl rfl (fun w' hw' => (E.indexAddr te76 rfl rfl pt68)) ?_
   refine FD.val rfl rfl rfl (fun w' hw' => (E.load rfl (run_load0 Tryz.isAgg3 ((at70.mono i53).now (S52.call hw').sl) rfl))) ?_
   refine FD.val rfl rfl rfl (fun w' hw' => (E.neq rfl rfl)) ?_
   refine FD.nil ?_
   intro w74 r76
   have S75 := S52.call r76
   rcases ifB hp with ⟨c77, hp⟩ | ⟨c77, hp⟩
   ·
    refine FW.condT rfl c77 ?_
    refine FW.seq (FW.region ?_)
    refine FL.v (E.assign (v := Value.bool false) rfl) ?_
    refine FL.nil ?_
    refine FW.ret ?_
    obtain rfl := Option.some.inj hp
    exact ⟨nofun, rfl, ⟨.inr rfl, res1 rfl rfl ⟨rfl, S75.back⟩⟩⟩
   ·
    refine FW.condF rfl c77 ?_
    refine FW.skip (FW.region ?_)
    refine FL.v (E.move k56) ?_
    refine FL.v (E.add rfl rfl) ?_
    refine FL.v (E.assign (v := Value.int .i64 (wr (((i23 : Nat) : Int) + 1))) rfl) ?_
    refine FL.nil ?_
    obtain rfl := Option.some.inj hp
    exact ⟨rfl, ⟨_, S75, i53, (nat_succ rfl (lt_of_get hx23) (p0.mono i53).le), k57, k58⟩⟩
  ·
   clear hp hq
   rintro s23 f88 w87 ⟨H84, S85, i86, k89, k90, k91⟩
   refine FW.seq (FW.seq (FW.region ?_))
   refine FL.v (E.move k89) ?_
   refine FL.v (E.move k90) ?_
   refine FL.v (E.lenP te76 rfl p0) ?_
   refine FL.v (E.lss rfl rfl) ?_
   refine FL.nil ?_
   refine FW.condF rfl dlt_len ?_
   refine FW.exit ?_
   exact ⟨nofun, rfl, ⟨_, S85, i86⟩⟩
  ·
   clear hq
   intro e f83 w82 hD
   rcases q23 with s23 | x23
   ·
    obtain ⟨rfl, hD⟩ := hD
    obtain ⟨H79, S80, i81⟩ := hD
    replace hp := el_go hp
    refine FW.seq (FW.region ?_)
    refine FL.v (E.assign (v := Value.bool true) rfl) ?_
    refine FL.nil ?_
    refine FW.ret ?_
    obtain rfl := Option.some.inj hp
    exact ⟨.inr rfl, res1 rfl rfl ⟨rfl, S80.back⟩⟩
   ·
    obtain ⟨he, hL⟩ := hD
    replace hp := el_rt hp
    obtain rfl := Option.some.inj hp
    subst he
    exact hL

theorem w_laws_eqResStep {Ha : GH} {wa : World} (hs : Sl Ha wa) (a0 : ResStep) (v0_0 : Value) (p0_0 : RSl Ha eI 1 v0_0 a0.clause) (a1 : ResStep) (v1_0 : Value) (p1_0 : RSl Ha eI 1 v1_0 a1.clause) {r : Bool} (hp : (PF.laws_eqResStep a0 a1) = some r) :
  Calls Tryz.prog 83 #[Value.agg #[v0_0, Value.int .i64 a0.left, Value.int .i64 a0.right, Value.int .i64 a0.pivot], Value.agg #[v1_0, Value.int .i64 a1.left, Value.int .i64 a1.right, Value.int .i64 a1.pivot]] wa (Sc Ha wa (Value.bool r)) := by
 unfold PF.laws_eqResStep at hp
 have S0 := St.init hs
 refine calls_go (N := 26) (args := [Value.agg #[v0_0, Value.int .i64 a0.left, Value.int .i64 a0.right, Value.int .i64 a0.pivot], Value.agg #[v1_0, Value.int .i64 a1.left, Value.int .i64 a1.right, Value.int .i64 a1.pivot]]) Tryz.func83 rfl rfl rfl ?_
 refine FW.seq (FW.region ?_)
 obtain ⟨b21, w22, run23, S24⟩ := S0.box (P := Tryz.prog) 103 [v0_0, Value.int .i64 a0.left, Value.int .i64 a0.right, Value.int .i64 a0.pivot] (v := Value.agg #[v0_0, Value.int .i64 a0.left, Value.int .i64 a0.right, Value.int .i64 a0.pivot]) rfl (ones_cons p0_0.one (ones_cons rfl (ones_cons rfl (ones_cons rfl ones_nil))))
 refine FL.v (E.box rfl run23) ?_
 obtain ⟨H25, S26, i27, at28⟩ := S24.sealBox (i := 0) (l' := []) rfl rfl
 obtain ⟨b29, w30, run31, S32⟩ := S26.box (P := Tryz.prog) 103 [v1_0, Value.int .i64 a1.left, Value.int .i64 a1.right, Value.int .i64 a1.pivot] (v := Value.agg #[v1_0, Value.int .i64 a1.left, Value.int .i64 a1.right, Value.int .i64 a1.pivot]) rfl (ones_cons p1_0.one (ones_cons rfl (ones_cons rfl (ones_cons rfl ones_nil))))
 refine FL.v (E.box rfl run31) ?_
 obtain ⟨H33, S34, i35, at36⟩ := S32.sealBox (i := 0) (l' := []) rfl rfl
 refine FL.v (E.assign (v := Value.bool false) rfl) ?_
 refine FL.nil (FW.seq (FW.seq (FW.region ?_)))
 refine FL.v (E.fieldAddr tf103_0 rfl) ?_
 refine FL.v (E.load rfl (run_load1 Tryz.isAgg76 ((at28.mono i35).now S34.sl) rfl)) ?_
 refine FL.v (E.fieldAddr tf103_0 rfl) ?_
 refine FL.v (E.load rfl (run_load1 Tryz.isAgg76 (at36.now S34.sl) rfl)) ?_
 obtain ⟨r37, hr38, hp⟩ := bnd hp
 refine FL.call rfl rfl rfl (E.call Tryz.call61 (A2 rfl rfl)) (w_laws_eqIntS S34.sl v0_0 a0.clause (p0_0.mono (i27.tr i35)) v1_0 a1.clause (p1_0.mono (i27.tr i35)) hr38) ?_
 rintro e w39 ⟨rfl, r40⟩
 refine ⟨_, rfl, ?_⟩
 have S41 := S34.call r40
 refine FL.v (E.not rfl) ?_
 refine FL.nil ?_
 rcases ifB hp with ⟨c42, hp⟩ | ⟨c42, hp⟩
 ·
  refine FW.condT rfl c42 ?_
  refine FW.seq (FW.region ?_)
  refine FL.v (E.assign (v := Value.bool false) rfl) ?_
  refine FL.nil ?_
  refine FW.ret ?_
  obtain rfl := Option.some.inj hp
  exact ⟨.inr rfl, res1 rfl rfl ⟨rfl, S41.back⟩⟩
 ·
  refine FW.condF rfl c42 ?_
  refine FW.skip (FW.seq (FW.seq (FW.region ?_)))
  refine FL.v (E.fieldAddr tf103_1 rfl) ?_
  refine FL.v (E.load rfl (run_load1 Tryz.isAgg3 ((at28.mono i35).now S41.sl) rfl)) ?_
  refine FL.v (E.fieldAddr tf103_1 rfl) ?_
  refine FL.v (E.load rfl (run_load1 Tryz.isAgg3 (at36.now S41.sl) rfl)) ?_
  refine FL.v (E.neq rfl rfl) ?_
  refine FL.nil ?_
  rcases ifB hp with ⟨c43, hp⟩ | ⟨c43, hp⟩
  ·
   refine FW.condT rfl c43 ?_
   refine FW.seq (FW.region ?_)
   refine FL.v (E.assign (v := Value.bool false) rfl) ?_
   refine FL.nil ?_
   refine FW.ret ?_
   obtain rfl := Option.some.inj hp
   exact ⟨.inr rfl, res1 rfl rfl ⟨rfl, S41.back⟩⟩
  ·
   refine FW.condF rfl c43 ?_
   refine FW.skip (FW.seq (FW.seq (FW.region ?_)))
   refine FL.v (E.fieldAddr tf103_2 rfl) ?_
   refine FL.v (E.load rfl (run_load1 Tryz.isAgg3 ((at28.mono i35).now S41.sl) rfl)) ?_
   refine FL.v (E.fieldAddr tf103_2 rfl) ?_
   refine FL.v (E.load rfl (run_load1 Tryz.isAgg3 (at36.now S41.sl) rfl)) ?_
   refine FL.v (E.neq rfl rfl) ?_
   refine FL.nil ?_
   rcases ifB hp with ⟨c44, hp⟩ | ⟨c44, hp⟩
   ·
    refine FW.condT rfl c44 ?_
    refine FW.seq (FW.region ?_)
    refine FL.v (E.assign (v := Value.bool false) rfl) ?_
    refine FL.nil ?_
    refine FW.ret ?_
    obtain rfl := Option.some.inj hp
    exact ⟨.inr rfl, res1 rfl rfl ⟨rfl, S41.back⟩⟩
   ·
    refine FW.condF rfl c44 ?_
    refine FW.skip (FW.seq (FW.seq (FW.region ?_)))
    refine FL.v (E.fieldAddr tf103_3 rfl) ?_
    refine FL.v (E.load rfl (run_load1 Tryz.isAgg3 ((at28.mono i35).now S41.sl) rfl)) ?_
    refine FL.v (E.fieldAddr tf103_3 rfl) ?_
    refine FL.v (E.load rfl (run_load1 Tryz.isAgg3 (at36.now S41.sl) rfl)) ?_
    refine FL.v (E.neq rfl rfl) ?_
    refine FL.nil ?_
    rcases ifB hp with ⟨c45, hp⟩ | ⟨c45, hp⟩
    ·
     refine FW.condT rfl c45 ?_
     refine FW.seq (FW.region ?_)
     refine FL.v (E.assign (v := Value.bool false) rfl) ?_
     refine FL.nil ?_
     refine FW.ret ?_
     obtain rfl := Option.some.inj hp
     exact ⟨.inr rfl, res1 rfl rfl ⟨rfl, S41.back⟩⟩
    ·
     refine FW.condF rfl c45 ?_
     refine FW.skip (FW.seq (FW.region ?_))
     refine FL.v (E.assign (v := Value.bool true) rfl) ?_
     refine FL.nil ?_
     refine FW.ret ?_
     obtain rfl := Option.some.inj hp
     exact ⟨.inr rfl, res1 rfl rfl ⟨rfl, S41.back⟩⟩

theorem w_laws_eqResStepS {Ha : GH} {wa : World} (hs : Sl Ha wa) (v0 : Value) (a0 : List ResStep) (p0 : RSl Ha eResStep 4 v0 a0) (v1 : Value) (a1 : List ResStep) (p1 : RSl Ha eResStep 4 v1 a1) {r : Bool} (hp : (PF.laws_eqResStepS a0 a1) = some r) :
  Calls Tryz.prog 30 #[v0, v1] wa (Sc Ha wa (Value.bool r)) := by
 unfold PF.laws_eqResStepS at hp
 have S0 := St.init hs
 refine calls_go (N := 27) (args := [v0, v1]) Tryz.func30 rfl rfl rfl ?_
 refine FW.seq (FW.region ?_)
 refine FL.v (E.assign (v := Value.bool false) rfl) ?_
 refine FL.nil (FW.seq (FW.seq (FW.region ?_)))
 refine FL.v (E.move (v := v0) rfl) ?_
 refine FL.v (E.lenP te41 rfl p0) ?_
 refine FL.v (E.move (v := v1) rfl) ?_
 refine FL.v (E.lenP te41 rfl p1) ?_
 refine FL.v (E.neq rfl rfl) ?_
 refine FL.nil ?_
 rcases ifB hp with ⟨c21, hp⟩ | ⟨c21, hp⟩
 ·
  refine FW.condT rfl c21 ?_
  refine FW.seq (FW.region ?_)
  refine FL.v (E.assign (v := Value.bool false) rfl) ?_
  refine FL.nil ?_
  refine FW.ret ?_
  obtain rfl := Option.some.inj hp
  exact ⟨.inr rfl, res1 rfl rfl ⟨rfl, S0.back⟩⟩
 ·
  refine FW.condF rfl c21 ?_
  refine FW.skip (FW.seq (FW.seq (FW.region ?_)))
  refine FL.v (E.assign (v := Value.int .i64 0) rfl) ?_
  refine FL.nil ?_
  obtain ⟨q23, hq, hp⟩ := bndR hp
  refine FW.block ?_
  refine FW.mono (FW.forL (S := Unit) (X := Bool) (fun (i23 : Nat) (s23 : Unit) f w => ∃ H : GH, St Ha wa H w [] ∧ Inc Ha H ∧ f 5 = Value.int .i64 ((i23 : Nat) : Int) ∧ f 0 = v0 ∧ f 1 = v1) (fun q e f w => match q with | .go s23 => e = Exit.exit 0 ∧ (∃ H : GH, St Ha wa H w [] ∧ Inc Ha H) | .rt x => ((e = Exit.ret) ∧ (fun e f w => (e = Exit.normal ∨ e = Exit.ret) ∧ ∀ a, Fr (δ := []) 27 a f → ∃ v, (results Tryz.f30 a.tmps).run Tryz.prog w = .ok v w ∧ (Sc Ha wa (Value.bool x)) (.returned v) w) e f w)) hq ⟨_, S0, (Inc.rfl _), rfl, rfl, rfl⟩ ?_ ?_) ?_
  ·
   clear hp hq
   rintro i23 y22 s23 f61 w60 ⟨H57, S58, i59, k62, k63, k64⟩ hx23 o90 hp
   refine FW.seq (FW.seq (FW.region ?_))
   refine FL.v (E.move k62) ?_
   refine FL.v (E.move k63) ?_
   refine FL.v (E.lenP te41 rfl p0) ?_
   refine FL.v (E.lssT rfl rfl (lss_len hx23)) ?_
   refine FL.nil ?_
   refine FW.condT rfl rfl ?_
   refine FW.skip (FW.seq (FW.block (FW.seq ?_)))
   refine FW.draw (fun w' => Run w60.heap.size H57 w60 H57 w') (by kernel_rfl) (by kernel_rfl) (run_drew S58.sl) ?_
   refine FD.val rfl rfl rfl (fun w' hw' => (E.move k63)) ?_
   refine FD.val rfl rfl rfl (fun w' hw' => (E.move k62)) ?_
   obtain ⟨p66, cs67, pt68, l69, at70, rel71⟩ := p0.at (ix_nat hx23)
   obtain ⟨v72, rfl, h73⟩ := eResStep_open rel71
   refine FD.val rfl rfl rfl (fun w' hw' => (E.indexAddr te41 rfl rfl pt68)) ?_
   refine FD.val rfl rfl rfl (fun w' hw' => (E.load rfl (run_loadA Tryz.isAgg103 Tryz.sizeOf103 ((at70.mono i59).now (S58.call hw').sl) rfl))) ?_
   refine FD.val rfl rfl rfl (fun w' hw' => (E.move k64)) ?_
   refine FD.val rfl rfl rfl (fun w' hw' => (E.move k62)) ?_
   obtain ⟨x80, hx81, hp⟩ := bnd hp
   obtain ⟨p74, cs75, pt76, l77, at78, rel79⟩ := p1.at hx81
   obtain ⟨v82, rfl, h83⟩ := eResStep_open rel79
   refine FD.val rfl rfl rfl (fun w' hw' => (E.indexAddr te41 rfl rfl pt76)) ?_
   refine FD.val rfl rfl rfl (fun w' hw' => (E.load rfl (run_loadA Tryz.isAgg103 Tryz.sizeOf103 ((at78.mono i59).now (S58.call hw').sl) rfl))) ?_
   obtain ⟨r84, hr85, hp⟩ := bnd hp
   refine FD.call rfl rfl rfl (fun w' hw' => (E.call Tryz.call83 (A2 rfl rfl))) (fun w' hw' => Calls.cls hw' (w_laws_eqResStep (S58.call hw').sl y22 v72 (h73.mono i59) x80 v82 (h83.mono i59) hr85)) ?_
   refine FD.val rfl rfl rfl (fun w' hw' => (E.not rfl)) ?_
   refine FD.nil ?_
   intro w86 r88
   have S87 := S58.call r88
   rcases ifB hp with ⟨c89, hp⟩ | ⟨c89, hp⟩
   ·
    refine FW.condT rfl c89 ?_
    refine FW.seq (FW.region ?_)
    refine FL.v (E.assign (v := Value.bool false) rfl) ?_
    refine FL.nil ?_
    refine FW.ret ?_
    obtain rfl := Option.some.inj hp
    exact ⟨nofun, rfl, ⟨.inr rfl, res1 rfl rfl ⟨rfl, S87.back⟩⟩⟩
   ·
    refine FW.condF rfl c89 ?_
    refine FW.skip (FW.region ?_)
    refine FL.v (E.move k62) ?_
    refine FL.v (E.add rfl rfl) ?_
    refine FL.v (E.assign (v := Value.int .i64 (wr (((i23 : Nat) : Int) + 1))) rfl) ?_
    refine FL.nil ?_
    obtain rfl := Option.some.inj hp
    exact ⟨rfl, ⟨_, S87, i59, (nat_succ rfl (lt_of_get hx23) (p0.mono i59).le), k63, k64⟩⟩
  ·
   clear hp hq
   rintro s23 f100 w99 ⟨H96, S97, i98, k101, k102, k103⟩
   refine FW.seq (FW.seq (FW.region ?_))
   refine FL.v (E.move k101) ?_
   refine FL.v (E.move k102) ?_
   refine FL.v (E.lenP te41 rfl p0) ?_
   refine FL.v (E.lss rfl rfl) ?_
   refine FL.nil ?_
   refine FW.condF rfl dlt_len ?_
   refine FW.exit ?_
   exact ⟨nofun, rfl, ⟨_, S97, i98⟩⟩
  ·
   clear hq
   intro e f95 w94 hD
   rcases q23 with s23 | x23
   ·
    obtain ⟨rfl, hD⟩ := hD
    obtain ⟨H91, S92, i93⟩ := hD
    replace hp := el_go hp
    refine FW.seq (FW.region ?_)
    refine FL.v (E.assign (v := Value.bool true) rfl) ?_
    refine FL.nil ?_
    refine FW.ret ?_
    obtain rfl := Option.some.inj hp
    exact ⟨.inr rfl, res1 rfl rfl ⟨rfl, S92.back⟩⟩
   ·
    obtain ⟨he, hL⟩ := hD
    replace hp := el_rt hp
    obtain rfl := Option.some.inj hp
    subst he
    exact hL

set_option maxHeartbeats 4000000 in
theorem w_laws_FnExactMiddleStep {Ha : GH} {wa : World} (hs : Sl Ha wa) (a0 : Int) (v1 : Value) (a1 : List ResStep) (p1 : RSl Ha eResStep 4 v1 a1) {r : Bool} (hp : (PF.laws_FnExactMiddleStep a0 a1) = some r) :
  Calls Tryz.prog 11 #[Value.int .i64 a0, v1] wa (Sc Ha wa (Value.bool r)) := by
 unfold PF.laws_FnExactMiddleStep at hp
 have S0 := St.init hs
 refine calls_go (N := 44) (args := [Value.int .i64 a0, v1]) Tryz.func11 rfl rfl rfl ?_
 refine FW.seq (FW.region ?_)
 refine FL.v (E.assign (v := Value.bool false) rfl) ?_
 refine FL.nil (FW.seq (FW.region ?_))
 refine FL.v (E.assign (v := Value.int .i64 1048576) rfl) ?_
 refine FL.nil (FW.seq (FW.region ?_))
 refine FL.v (E.move (v := v1) rfl) ?_
 refine FL.v (E.move (v := Value.int .i64 1048576) rfl) ?_
 obtain ⟨r21, hr22, hp⟩ := bnd hp
 refine FL.call rfl rfl rfl (E.call Tryz.call39 (A2 rfl rfl)) (w_laws_szResStepS S0.sl v1 a1 p1 1048576 hr22) ?_
 rintro e w23 ⟨rfl, r24⟩
 refine ⟨_, rfl, ?_⟩
 have S25 := S0.call r24
 have z26 := r24.bel.size
 refine FL.v (E.assign (v := Value.int .i64 r21) rfl) ?_
 refine FL.nil (FW.seq (FW.seq (FW.region ?_)))
 refine FL.v (E.move (v := Value.int .i64 r21) rfl) ?_
 refine FL.v (E.lss rfl rfl) ?_
 refine FL.nil ?_
 rcases ifB hp with ⟨c27, hp⟩ | ⟨c27, hp⟩
 ·
  refine FW.condT rfl c27 ?_
  refine FW.seq (FW.region ?_)
  refine FL.v (E.assign (v := Value.bool true) rfl) ?_
  refine FL.nil ?_
  refine FW.ret ?_
  obtain rfl := Option.some.inj hp
  exact ⟨.inr rfl, res1 rfl rfl ⟨rfl, S25.back⟩⟩
 ·
  refine FW.condF rfl c27 ?_
  refine FW.skip (FW.seq (FW.region ?_))
  refine FL.v (E.move (v := Value.int .i64 a0) rfl) ?_
  refine FL.v (E.move (v := v1) rfl) ?_
  obtain ⟨r28, hr29, hp⟩ := bnd hp
  refine FL.call rfl rfl rfl (E.call Tryz.call41 (A1 rfl)) (w_laws_toResStepS S25.sl v1 a1 p1 hr29) ?_
  rintro e w31 ⟨H30, v34, n35, cs36, rfl, r33, els37, nd38⟩
  refine ⟨_, rfl, ?_⟩
  have nv39 : New Ha cs36 := New.of_up S25.sl els37.dom
  obtain ⟨H40, r41, i42, ns45, nv44⟩ := r33.sealRowN (i := 0) (l' := []) rfl els37 nd38 (by decide) rfl
  have h43 := ns45.rsl
  have S32 := S25.call r41.run
  have z46 := r41.run.bel.size
  have h43 := h43.mono (sg_of S32.sl)
  have ns45 := ns45.mono (sg_of S32.sl)
  obtain ⟨r47, hr48, hp⟩ := bnd hp
  refine FL.call rfl rfl rfl (E.call Tryz.call55 (A2 rfl rfl)) (w_spec_MiddleStep S32.sl a0 v34 r28 (h43.mono sgI) hr48) ?_
  rintro e w49 ⟨rfl, r50⟩
  refine ⟨_, rfl, ?_⟩
  have S51 := S32.call r50
  have z52 := r50.bel.size
  refine FL.v (E.move (v := Value.tuple #[Value.int .i64 r47.1, Value.bool r47.2]) rfl) ?_
  refine FL.v (E.extract (i := 0) rfl rfl) ?_
  refine FL.v (E.extract (i := 1) rfl rfl) ?_
  refine FL.v (E.assign (v := Value.int .i64 r47.1) rfl) ?_
  refine FL.v (E.assign (v := Value.bool r47.2) rfl) ?_
  refine FL.nil (FW.seq (FW.region ?_))
  refine FL.v (E.move (v := v1) rfl) ?_
  obtain ⟨r53, hr54, hp⟩ := bnd hp
  refine FL.call rfl rfl rfl (E.call Tryz.call41 (A1 rfl)) (w_laws_toResStepS S51.sl v1 a1 (p1.mono r41.run.inc) hr54) ?_
  rintro e w56 ⟨H55, v59, n60, cs61, rfl, r58, els62, nd63⟩
  refine ⟨_, rfl, ?_⟩
  have nv64 : New H40 cs61 := New.of_up S51.sl els62.dom
  obtain ⟨H65, r66, i67, ns70, nv69⟩ := r58.sealRowN (i := 0) (l' := []) rfl els62 nd63 (by decide) rfl
  have h68 := ns70.rsl
  have S57 := S51.call r66.run
  have z71 := r66.run.bel.size
  have h68 := h68.mono (sg_of S57.sl)
  have ns70 := ns70.mono (sg_of S57.sl)
  refine FL.v (E.assign (v := v59) rfl) ?_
  refine FL.nil (FW.seq (FW.region ?_))
  refine FL.v (E.move (v := Value.int .i64 a0) rfl) ?_
  refine FL.v (E.move (v := v59) rfl) ?_
  obtain ⟨r72, hr73, hp⟩ := bnd hp
  refine FL.call rfl rfl rfl (E.call Tryz.call56 (A2 rfl rfl)) (w_impl_MiddleStep S57.sl a0 v59 r53 (h68.mono sgI) hr73) ?_
  rintro e w74 ⟨rfl, r75⟩
  refine ⟨_, rfl, ?_⟩
  have S76 := S57.call r75
  have z77 := r75.bel.size
  refine FL.v (E.move (v := Value.tuple #[Value.int .i64 r72.1, Value.bool r72.2]) rfl) ?_
  refine FL.v (E.extract (i := 0) rfl rfl) ?_
  refine FL.v (E.extract (i := 1) rfl rfl) ?_
  refine FL.v (E.assign (v := Value.int .i64 r72.1) rfl) ?_
  refine FL.v (E.assign (v := Value.bool r72.2) rfl) ?_
  refine FL.nil (FW.seq (FW.seq (FW.region ?_)))
  refine FL.v (E.move (v := Value.int .i64 r72.1) rfl) ?_
  refine FL.v (E.move (v := Value.int .i64 r47.1) rfl) ?_
  refine FL.v (E.neq rfl rfl) ?_
  refine FL.v (E.move (v := Value.bool (!(r72.1 == r47.1))) rfl) ?_
  refine FL.cut 4 (fun f w => ∃ H : GH, St Ha wa H w [] ∧ Inc H65 H ∧ f 1 = v1 ∧ f 8 = v59 ∧ f 38 = Value.bool (bif (!(r72.1 == r47.1)) then true else (!(r72.2 == r47.2)))) ?_ ?_
  ·
   rcases bcase (!(r72.1 == r47.1)) with c84 | c84
   ·
    refine FL.skip (wF_no rfl rfl rfl c84) rfl ?_
    refine FL.skip (wF_no rfl rfl rfl c84) rfl ?_
    refine FL.skip (wF_no rfl rfl rfl c84) rfl ?_
    refine FL.v (E.pickT rfl c84 rfl) ?_
    exact FL.nil ⟨rfl, _, S76, (Inc.rfl _), rfl, rfl, (congrArg Value.bool (bifT c84).symm)⟩
   ·
    refine FL.val (wF_yes rfl rfl rfl c84) rfl rfl (E.move (v := Value.bool r72.2) rfl) ?_
    refine FL.val (wF_yes rfl rfl rfl c84) rfl rfl (E.move (v := Value.bool r47.2) rfl) ?_
    refine FL.val (wF_yes rfl rfl rfl c84) rfl rfl (E.neqB Tryz.runUnderlying4 rfl rfl) ?_
    refine FL.v (E.pickF rfl c84 rfl) ?_
    exact FL.nil ⟨rfl, _, S76, (Inc.rfl _), rfl, rfl, (congrArg Value.bool (bifF c84).symm)⟩
  rintro f83 w82 ⟨H79, S80, i81, k85, k86, k87⟩
  refine FL.nil ?_
  rcases ifB hp with ⟨c88, hp⟩ | ⟨c88, hp⟩
  ·
   refine FW.condT k87 c88 ?_
   refine FW.seq (FW.region ?_)
   refine FL.v (E.assign (v := Value.bool false) rfl) ?_
   refine FL.nil ?_
   refine FW.ret ?_
   obtain rfl := Option.some.inj hp
   exact ⟨.inr rfl, res1 rfl rfl ⟨rfl, S80.back⟩⟩
  ·
   refine FW.condF k87 c88 ?_
   refine FW.skip (FW.seq (FW.seq (FW.region ?_)))
   refine FL.v (E.move k86) ?_
   refine FL.v (E.move k85) ?_
   obtain ⟨r89, hr90, hp⟩ := bnd hp
   refine FL.call rfl rfl rfl (E.call Tryz.call41 (A1 rfl)) (w_laws_toResStepS S80.sl v1 a1 (p1.mono ((r41.run.inc.tr r66.run.inc).tr i81)) hr90) ?_
   rintro e w92 ⟨H91, v95, n96, cs97, rfl, r94, els98, nd99⟩
   refine ⟨_, rfl, ?_⟩
   have nv100 : New H79 cs97 := New.of_up S80.sl els98.dom
   obtain ⟨H101, r102, i103, ns106, nv105⟩ := r94.sealRowN (i := 0) (l' := []) rfl els98 nd99 (by decide) rfl
   have h104 := ns106.rsl
   have S93 := S80.call r102.run
   have z107 := r102.run.bel.size
   have h104 := h104.mono (sg_of S93.sl)
   have ns106 := ns106.mono (sg_of S93.sl)
   obtain ⟨r108, hr109, hp⟩ := bnd hp
   refine FL.call rfl rfl rfl (E.call Tryz.call30 (A2 rfl rfl)) (w_laws_eqResStepS S93.sl v59 r53 (h68.mono (sgI.tr (i81.tr r102.run.inc))) v95 r89 (h104.mono sgI) hr109) ?_
   rintro e w110 ⟨rfl, r111⟩
   refine ⟨_, rfl, ?_⟩
   have S112 := S93.call r111
   have z113 := r111.bel.size
   refine FL.v (E.not rfl) ?_
   refine FL.nil ?_
   rcases ifB hp with ⟨c114, hp⟩ | ⟨c114, hp⟩
   ·
    refine FW.condT rfl c114 ?_
    refine FW.seq (FW.region ?_)
    refine FL.v (E.assign (v := Value.bool false) rfl) ?_
    refine FL.nil ?_
    refine FW.ret ?_
    obtain rfl := Option.some.inj hp
    exact ⟨.inr rfl, res1 rfl rfl ⟨rfl, S112.back⟩⟩
   ·
    refine FW.condF rfl c114 ?_
    refine FW.skip (FW.seq (FW.region ?_))
    refine FL.v (E.assign (v := Value.bool true) rfl) ?_
    refine FL.nil ?_
    refine FW.ret ?_
    obtain rfl := Option.some.inj hp
    exact ⟨.inr rfl, res1 rfl rfl ⟨rfl, S112.back⟩⟩

end Go.Proofs
