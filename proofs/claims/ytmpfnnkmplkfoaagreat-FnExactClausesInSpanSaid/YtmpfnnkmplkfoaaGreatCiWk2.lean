/- Part of the walks and plain laws behind the claim: it proves helpers, under no condition beyond their own. -/
import Derived.Test.YtmpfnnkmplkfoaaGreatCiWk1
set_option linter.unusedVariables false
set_option maxRecDepth 100000
namespace Go.Proofs
open Go.Mr Go.Pu Go.PF Go.RowKit

theorem w_impl_isLiteral {Ha : GH} {wa : World} (hs : Sl Ha wa) (a0 : Int) (a1 : Int) :
  Calls Tryz.prog 199 #[Value.int .i64 a0, Value.int .i64 a1] wa (Sc Ha wa (Value.bool (PF.impl_isLiteral a0 a1))) := by
 obtain ⟨r, hp⟩ : ∃ r, (PF.impl_isLiteral a0 a1) = r := ⟨_, rfl⟩
 rw [hp]
 unfold PF.impl_isLiteral at hp
 have S0 := St.init hs
 refine calls_go (N := 14) (args := [Value.int .i64 a0, Value.int .i64 a1]) Tryz.func199 rfl rfl rfl ?_
 refine FW.seq (FW.region ?_)
 refine FL.v (E.assign (v := Value.bool false) rfl) ?_
 refine FL.nil (FW.seq (FW.region ?_))
 refine FL.v (E.move (v := Value.int .i64 a1) rfl) ?_
 refine FL.v (E.neq rfl rfl) ?_
 refine FL.v (E.move (v := Value.bool (!(a1 == 0))) rfl) ?_
 refine FL.cut 6 (fun f w => ∃ H : GH, St Ha wa H w [] ∧ Inc Ha H ∧ f 13 = Value.bool (bif (!(a1 == 0)) then (PF.impl_within a1 (wr (-a0)) a0) else false)) ?_ ?_
 ·
  rcases bcase (!(a1 == 0)) with c30 | c30
  ·
   refine FL.val (wF_yes rfl rfl rfl c30) rfl rfl (E.move (v := Value.int .i64 a1) rfl) ?_
   refine FL.val (wF_yes rfl rfl rfl c30) rfl rfl (E.move (v := Value.int .i64 a0) rfl) ?_
   refine FL.val (wF_yes rfl rfl rfl c30) rfl rfl (E.neg rfl) ?_
   refine FL.val (wF_yes rfl rfl rfl c30) rfl rfl (E.move (v := Value.int .i64 a0) rfl) ?_
   refine FL.call (wF_yes rfl rfl rfl c30) rfl rfl (E.call Tryz.call108 (A3 rfl rfl rfl)) (w_impl_within S0.sl a1 (wr (-a0)) a0) ?_
   rintro e w31 ⟨rfl, r32⟩
   refine ⟨_, rfl, ?_⟩
   have S33 := S0.call r32
   refine FL.v (E.pickT rfl c30 rfl) ?_
   exact FL.nil ⟨rfl, _, S33, (Inc.rfl _), (congrArg Value.bool (bifT c30).symm)⟩
  ·
   refine FL.skip (wF_no rfl rfl rfl c30) rfl ?_
   refine FL.skip (wF_no rfl rfl rfl c30) rfl ?_
   refine FL.skip (wF_no rfl rfl rfl c30) rfl ?_
   refine FL.skip (wF_no rfl rfl rfl c30) rfl ?_
   refine FL.skip (wF_no rfl rfl rfl c30) rfl ?_
   refine FL.v (E.pickF rfl c30 rfl) ?_
   exact FL.nil ⟨rfl, _, S0, (Inc.rfl _), (congrArg Value.bool (bifF c30).symm)⟩
 rintro f29 w28 ⟨H25, S26, i27, k34⟩
 refine FL.v (E.assign k34) ?_
 refine FL.nil ?_
 refine FW.ret ?_
 obtain rfl := hp
 exact ⟨.inr rfl, res1 rfl rfl ⟨rfl, S26.back⟩⟩

theorem w_impl_abs {Ha : GH} {wa : World} (hs : Sl Ha wa) (a0 : Int) :
  Calls Tryz.prog 166 #[Value.int .i64 a0] wa (Sc Ha wa (Value.int .i64 (PF.impl_abs a0))) := by
 obtain ⟨r, hp⟩ : ∃ r, (PF.impl_abs a0) = r := ⟨_, rfl⟩
 rw [hp]
 unfold PF.impl_abs at hp
 have S0 := St.init hs
 refine calls_go (N := 7) (args := [Value.int .i64 a0]) Tryz.func166 rfl rfl rfl ?_
 refine FW.seq (FW.region ?_)
 refine FL.v (E.assign (v := Value.int .i64 0) rfl) ?_
 refine FL.nil (FW.seq (FW.region ?_))
 refine FL.v (E.move (v := Value.int .i64 a0) rfl) ?_
 refine FL.v (E.move (v := Value.int .i64 a0) rfl) ?_
 refine FL.v (E.neg rfl) ?_
 refine FL.v (E.max2 rfl rfl) ?_
 refine FL.v (E.assign (v := Value.int .i64 (mx a0 (wr (-a0)))) rfl) ?_
 refine FL.nil ?_
 refine FW.ret ?_
 obtain rfl := hp
 exact ⟨.inr rfl, res1 rfl rfl ⟨rfl, S0.back⟩⟩

theorem w_impl_varsOk {Ha : GH} {wa : World} (hs : Sl Ha wa) (a0 : Int) :
  Calls Tryz.prog 109 #[Value.int .i64 a0] wa (Sc Ha wa (Value.bool (PF.impl_varsOk a0))) := by
 obtain ⟨r, hp⟩ : ∃ r, (PF.impl_varsOk a0) = r := ⟨_, rfl⟩
 rw [hp]
 unfold PF.impl_varsOk at hp
 have S0 := St.init hs
 refine calls_go (N := 5) (args := [Value.int .i64 a0]) Tryz.func109 rfl rfl rfl ?_
 refine FW.seq (FW.region ?_)
 refine FL.v (E.assign (v := Value.bool false) rfl) ?_
 refine FL.nil (FW.seq (FW.region ?_))
 refine FL.v (E.move (v := Value.int .i64 a0) rfl) ?_
 refine FL.call rfl rfl rfl (E.call Tryz.call108 (A3 rfl rfl rfl)) (w_impl_within S0.sl a0 0 12) ?_
 rintro e w21 ⟨rfl, r22⟩
 refine ⟨_, rfl, ?_⟩
 have S23 := S0.call r22
 refine FL.v (E.assign (v := Value.bool (PF.impl_within a0 0 12)) rfl) ?_
 refine FL.nil ?_
 refine FW.ret ?_
 obtain rfl := hp
 exact ⟨.inr rfl, res1 rfl rfl ⟨rfl, S23.back⟩⟩

theorem w_impl_IsClause {Ha : GH} {wa : World} (hs : Sl Ha wa) (a0 : Int) (v1 : Value) (a1 : List Int) (p1 : RSl Ha eI 1 v1 a1) {r : Bool} (hp : (PF.impl_IsClause a0 a1) = some r) :
  Calls Tryz.prog 151 #[Value.int .i64 a0, v1] wa (Sc Ha wa (Value.bool r)) := by
 unfold PF.impl_IsClause at hp
 have S0 := St.init hs
 refine calls_go (N := 36) (args := [Value.int .i64 a0, v1]) Tryz.func151 rfl rfl rfl ?_
 refine FW.seq (FW.region ?_)
 refine FL.v (E.assign (v := Value.bool false) rfl) ?_
 refine FL.nil (FW.seq (FW.seq (FW.region ?_)))
 refine FL.v (E.move (v := v1) rfl) ?_
 refine FL.v (E.lenP te84 rfl p1) ?_
 refine FL.v (E.move (v := Value.int .i64 0) rfl) ?_
 refine FL.nil ?_
 obtain ⟨q22, hq, hp⟩ := bndR hp
 refine FW.block ?_
 refine FW.mono (FW.forL (S := Unit) (X := Bool) (fun (i22 : Nat) (s22 : Unit) f w => ∃ H : GH, St Ha wa H w [] ∧ Inc Ha H ∧ f 9 = Value.int .i64 ((i22 : Nat) : Int) ∧ f 0 = Value.int .i64 a0 ∧ f 1 = v1 ∧ f 7 = v1 ∧ f 8 = Value.int .i64 (len a1)) (fun q e f w => match q with | .go s22 => e = Exit.exit 0 ∧ (∃ H : GH, St Ha wa H w [] ∧ Inc Ha H ∧ f 0 = Value.int .i64 a0) | .rt x => ((e = Exit.ret) ∧ (fun e f w => (e = Exit.normal ∨ e = Exit.ret) ∧ ∀ a, Fr (δ := []) 36 a f → ∃ v, (results Tryz.f151 a.tmps).run Tryz.prog w = .ok v w ∧ (Sc Ha wa (Value.bool x)) (.returned v) w) e f w)) hq ⟨_, S0, (Inc.rfl _), rfl, rfl, rfl, rfl, rfl⟩ ?_ ?_) ?_
 ·
  clear hp hq
  rintro i22 y21 s22 f121 w120 ⟨H117, S118, i119, k122, k123, k124, k125, k126⟩ hx22 o211 hp
  refine FW.seq (FW.region ?_)
  refine FL.v (E.lssT k122 k126 (lss_len hx22)) ?_
  refine FL.nil (FW.seq ?_)
  refine FW.condT rfl rfl ?_
  refine FW.skip (FW.seq (FW.block (FW.seq (FW.region ?_))))
  refine FL.v (E.move k122) ?_
  obtain ⟨p127, cs128, pt129, l130, at131, rel132⟩ := p1.at (ix_nat hx22)
  obtain rfl := eI_open rel132
  refine FL.v (E.indexAddr te84 k125 k122 pt129) ?_
  refine FL.v (E.load rfl (run_load0 Tryz.isAgg3 ((at131.mono i119).now S118.sl) rfl)) ?_
  refine FL.v (E.assign (v := Value.int .i64 ((i22 : Nat) : Int)) rfl) ?_
  refine FL.v (E.assign (v := Value.int .i64 y21) rfl) ?_
  refine FL.nil (FW.seq ?_)
  refine FW.draw (fun w' => Run w120.heap.size H117 w120 H117 w') (by kernel_rfl) (by kernel_rfl) (run_drew S118.sl) ?_
  refine FD.val rfl rfl rfl (fun w' hw' => (E.move k123)) ?_
  refine FD.val rfl rfl rfl (fun w' hw' => (E.move (v := Value.int .i64 y21) rfl)) ?_
  refine FD.call rfl rfl rfl (fun w' hw' => (E.call Tryz.call199 (A2 rfl rfl))) (fun w' hw' => Calls.cls hw' (w_impl_isLiteral (S118.call hw').sl a0 y21)) ?_
  refine FD.val rfl rfl rfl (fun w' hw' => (E.not rfl)) ?_
  refine FD.val rfl rfl rfl (fun w' hw' => (E.move (v := Value.bool (!(PF.impl_isLiteral a0 y21))) rfl)) ?_
  obtain ⟨t164, hqt164, hp⟩ := bnd hp
  refine FD.cut 14 (fun f => f 0 = Value.int .i64 a0 ∧ f 1 = v1 ∧ f 7 = v1 ∧ f 8 = Value.int .i64 (len a1) ∧ f 9 = Value.int .i64 ((i22 : Nat) : Int) ∧ f 32 = Value.bool t164) ?_ ?_
  ·
   clear hp; have hp := hqt164; clear hqt164
   rcases ifB hp with ⟨c170, hp⟩ | ⟨c170, hp⟩
   ·
    refine FD.skip (wF_no rfl rfl rfl c170) rfl ?_
    refine FD.skip (wF_no rfl rfl rfl c170) rfl ?_
    refine FD.skip (wF_no rfl rfl rfl c170) rfl ?_
    refine FD.skip (wF_undef rfl rfl rfl) rfl ?_
    refine FD.skip (wF_undef rfl rfl rfl) rfl ?_
    refine FD.skip (wF_undef rfl rfl rfl) rfl ?_
    refine FD.skip (wF_undef rfl rfl rfl) rfl ?_
    refine FD.skip (wF_undef rfl rfl rfl) rfl ?_
    refine FD.skip (wF_undef rfl rfl rfl) rfl ?_
    refine FD.skip (wF_undef rfl rfl rfl) rfl ?_
    refine FD.skip (wF_undef rfl rfl rfl) rfl ?_
    refine FD.skip (wF_undef rfl rfl rfl) rfl ?_
    refine FD.skip (wF_no rfl rfl rfl c170) rfl ?_
    obtain rfl := Option.some.inj hp
    refine FD.val rfl rfl rfl (fun w' hw' => (E.pickT rfl c170 rfl)) ?_
    exact FD.nil ⟨k123, k124, k125, k126, k122, rfl⟩
   ·
    refine FD.val (wF_yes rfl rfl rfl c170) rfl rfl (fun w' hw' => (E.move (v := Value.int .i64 ((i22 : Nat) : Int)) rfl)) ?_
    refine FD.val (wF_yes rfl rfl rfl c170) rfl rfl (fun w' hw' => (E.gtr rfl rfl)) ?_
    refine FD.val (wF_yes rfl rfl rfl c170) rfl rfl (fun w' hw' => (E.move (v := Value.bool (decide (0 < ((i22 : Nat) : Int)))) rfl)) ?_
    obtain ⟨t179, hqt179, hp⟩ := bnd hp
    refine FD.cut 10 (fun f => f 0 = Value.int .i64 a0 ∧ f 1 = v1 ∧ f 7 = v1 ∧ f 8 = Value.int .i64 (len a1) ∧ f 9 = Value.int .i64 ((i22 : Nat) : Int) ∧ f 18 = Value.bool (!(PF.impl_isLiteral a0 y21)) ∧ f 31 = Value.bool t179) ?_ ?_
    ·
     clear hp; have hp := hqt179; clear hqt179
     rcases ifB hp with ⟨c185, hp⟩ | ⟨c185, hp⟩
     ·
      refine FD.val (wF_yes rfl rfl rfl c185) rfl rfl (fun w' hw' => (E.move (v := Value.int .i64 y21) rfl)) ?_
      refine FD.call (wF_yes rfl rfl rfl c185) rfl rfl (fun w' hw' => (E.call Tryz.call166 (A1 rfl))) (fun w' hw' => Calls.cls hw' (w_impl_abs (S118.call hw').sl y21)) ?_
      refine FD.val (wF_yes rfl rfl rfl c185) rfl rfl (fun w' hw' => (E.move k124)) ?_
      refine FD.val (wF_yes rfl rfl rfl c185) rfl rfl (fun w' hw' => (E.move (v := Value.int .i64 ((i22 : Nat) : Int)) rfl)) ?_
      refine FD.val (wF_yes rfl rfl rfl c185) rfl rfl (fun w' hw' => (E.sub rfl rfl)) ?_
      obtain ⟨x192, hx193, hp⟩ := bnd hp
      obtain ⟨p186, cs187, pt188, l189, at190, rel191⟩ := p1.at hx193
      obtain rfl := eI_open rel191
      refine FD.val (wF_yes rfl rfl rfl c185) rfl rfl (fun w' hw' => (E.indexAddr te84 rfl rfl pt188)) ?_
      refine FD.val (wF_yes rfl rfl rfl c185) rfl rfl (fun w' hw' => (E.load rfl (run_load0 Tryz.isAgg3 ((at190.mono i119).now (S118.call hw').sl) rfl))) ?_
      refine FD.call (wF_yes rfl rfl rfl c185) rfl rfl (fun w' hw' => (E.call Tryz.call166 (A1 rfl))) (fun w' hw' => Calls.cls hw' (w_impl_abs (S118.call hw').sl x192)) ?_
      refine FD.val (wF_yes rfl rfl rfl c185) rfl rfl (fun w' hw' => (E.leq rfl rfl)) ?_
      obtain rfl := Option.some.inj hp
      refine FD.val (wF_yes rfl rfl rfl c170) rfl rfl (fun w' hw' => (E.pickT rfl c185 rfl)) ?_
      exact FD.nil ⟨k123, k124, k125, k126, k122, rfl, rfl⟩
     ·
      refine FD.skip (wF_no rfl rfl rfl c185) rfl ?_
      refine FD.skip (wF_no rfl rfl rfl c185) rfl ?_
      refine FD.skip (wF_no rfl rfl rfl c185) rfl ?_
      refine FD.skip (wF_no rfl rfl rfl c185) rfl ?_
      refine FD.skip (wF_no rfl rfl rfl c185) rfl ?_
      refine FD.skip (wF_no rfl rfl rfl c185) rfl ?_
      refine FD.skip (wF_no rfl rfl rfl c185) rfl ?_
      refine FD.skip (wF_no rfl rfl rfl c185) rfl ?_
      refine FD.skip (wF_no rfl rfl rfl c185) rfl ?_
      obtain rfl := Option.some.inj hp
      refine FD.val (wF_yes rfl rfl rfl c170) rfl rfl (fun w' hw' => (E.pickF rfl c185 rfl)) ?_
      exact FD.nil ⟨k123, k124, k125, k126, k122, rfl, rfl⟩
    rintro f184 ⟨k194, k195, k196, k197, k198, k199, k200⟩
    obtain rfl := Option.some.inj hp
    refine FD.val rfl rfl rfl (fun w' hw' => (E.pickF k199 c170 k200)) ?_
    exact FD.nil ⟨k194, k195, k196, k197, k198, rfl⟩
  rintro f169 ⟨k201, k202, k203, k204, k205, k206⟩
  refine FD.nil ?_
  intro w207 r209
  have S208 := S118.call r209
  rcases ifB hp with ⟨c210, hp⟩ | ⟨c210, hp⟩
  ·
   refine FW.condT k206 c210 ?_
   refine FW.seq (FW.region ?_)
   refine FL.v (E.assign (v := Value.bool false) rfl) ?_
   refine FL.nil ?_
   refine FW.ret ?_
   obtain rfl := Option.some.inj hp
   exact ⟨nofun, rfl, ⟨.inr rfl, res1 rfl rfl ⟨rfl, S208.back⟩⟩⟩
  ·
   refine FW.condF k206 c210 ?_
   refine FW.skip (FW.region ?_)
   refine FL.v (E.add k205 rfl) ?_
   refine FL.v (E.move (v := Value.int .i64 (wr (((i22 : Nat) : Int) + 1))) rfl) ?_
   refine FL.nil ?_
   obtain rfl := Option.some.inj hp
   exact ⟨rfl, ⟨_, S208, i119, (nat_succ rfl (lt_of_get hx22) (p1.mono i119).le), k201, k202, k203, k204⟩⟩
 ·
  clear hp hq
  rintro s22 f225 w224 ⟨H221, S222, i223, k226, k227, k228, k229, k230⟩
  refine FW.seq (FW.region ?_)
  refine FL.v (E.lss k226 k230) ?_
  refine FL.nil (FW.seq ?_)
  refine FW.condF rfl dlt_len ?_
  refine FW.exit ?_
  exact ⟨nofun, rfl, ⟨_, S222, i223, k227⟩⟩
 ·
  clear hq
  intro e f216 w215 hD
  rcases q22 with s22 | x22
  ·
   obtain ⟨rfl, hD⟩ := hD
   obtain ⟨H212, S213, i214, k217⟩ := hD
   replace hp := el_go hp
   refine FW.seq (FW.region ?_)
   refine FL.v (E.move k217) ?_
   refine FL.call rfl rfl rfl (E.call Tryz.call109 (A1 rfl)) (w_impl_varsOk S213.sl a0) ?_
   rintro e w218 ⟨rfl, r219⟩
   refine ⟨_, rfl, ?_⟩
   have S220 := S213.call r219
   refine FL.v (E.assign (v := Value.bool (PF.impl_varsOk a0)) rfl) ?_
   refine FL.nil ?_
   refine FW.ret ?_
   obtain rfl := Option.some.inj hp
   exact ⟨.inr rfl, res1 rfl rfl ⟨rfl, S220.back⟩⟩
  ·
   obtain ⟨he, hL⟩ := hD
   replace hp := el_rt hp
   obtain rfl := Option.some.inj hp
   subst he
   exact hL

theorem w_impl_IsCnf {Ha : GH} {wa : World} (hs : Sl Ha wa) (a0 : Cnf) (v0_1 : Value) (p0_1 : RSl Ha (eL eI 1) 1 v0_1 a0.clauses) {r : Bool} (hp : (PF.impl_IsCnf a0) = some r) :
  Calls Tryz.prog 95 #[Value.agg #[Value.int .i64 a0.vars, v0_1]] wa (Sc Ha wa (Value.bool r)) := by
 unfold PF.impl_IsCnf at hp
 have S0 := St.init hs
 refine calls_go (N := 27) (args := [Value.agg #[Value.int .i64 a0.vars, v0_1]]) Tryz.func95 rfl rfl rfl ?_
 refine FW.seq (FW.region ?_)
 obtain ⟨b21, w22, run23, S24⟩ := S0.box (P := Tryz.prog) 30 [Value.int .i64 a0.vars, v0_1] (v := Value.agg #[Value.int .i64 a0.vars, v0_1]) rfl (ones_cons rfl (ones_cons p0_1.one ones_nil))
 refine FL.v (E.box rfl run23) ?_
 obtain ⟨H25, S26, i27, at28⟩ := S24.sealBox (i := 0) (l' := []) rfl rfl
 refine FL.v (E.assign (v := Value.bool false) rfl) ?_
 refine FL.nil (FW.seq (FW.seq (FW.region ?_)))
 refine FL.v (E.fieldAddr tf30_1 rfl) ?_
 refine FL.v (E.load rfl (run_load1 Tryz.isAgg22 (at28.now S26.sl) rfl)) ?_
 refine FL.v (E.lenP te22 rfl p0_1) ?_
 refine FL.v (E.move (v := Value.int .i64 0) rfl) ?_
 refine FL.nil ?_
 obtain ⟨q30, hq, hp⟩ := bndR hp
 refine FW.block ?_
 refine FW.mono (FW.forL (S := Unit) (X := Bool) (fun (i30 : Nat) (s30 : Unit) f w => ∃ H : GH, St Ha wa H w [] ∧ Inc H25 H ∧ f 8 = Value.int .i64 ((i30 : Nat) : Int) ∧ f 1 = Value.pointer (some ⟨b21, 0, none⟩) ∧ f 6 = v0_1 ∧ f 7 = Value.int .i64 (len a0.clauses)) (fun q e f w => match q with | .go s30 => e = Exit.exit 0 ∧ (∃ H : GH, St Ha wa H w [] ∧ Inc H25 H ∧ f 1 = Value.pointer (some ⟨b21, 0, none⟩)) | .rt x => ((e = Exit.ret) ∧ (fun e f w => (e = Exit.normal ∨ e = Exit.ret) ∧ ∀ a, Fr (δ := []) 27 a f → ∃ v, (results Tryz.f95 a.tmps).run Tryz.prog w = .ok v w ∧ (Sc Ha wa (Value.bool x)) (.returned v) w) e f w)) hq ⟨_, S26, (Inc.rfl _), rfl, rfl, rfl, rfl⟩ ?_ ?_) ?_
 ·
  clear hp hq
  rintro i30 y29 s30 f58 w57 ⟨H54, S55, i56, k59, k60, k61, k62⟩ hx30 o77 hp
  refine FW.seq (FW.region ?_)
  refine FL.v (E.lssT k59 k62 (lss_len hx30)) ?_
  refine FL.nil (FW.seq ?_)
  refine FW.condT rfl rfl ?_
  refine FW.skip (FW.seq (FW.block (FW.seq (FW.region ?_))))
  obtain ⟨p63, cs64, pt65, l66, at67, rel68⟩ := p0_1.at (ix_nat hx30)
  obtain ⟨v69, rfl, h70⟩ := eL_open rel68
  refine FL.v (E.indexAddr te22 k61 k59 pt65) ?_
  refine FL.v (E.load rfl (run_load0 Tryz.isAgg84 ((at67.mono (i27.tr i56)).now S55.sl) rfl)) ?_
  refine FL.v (E.assign (v := v69) rfl) ?_
  refine FL.nil (FW.seq (FW.region ?_))
  refine FL.v (E.fieldAddr tf30_0 k60) ?_
  refine FL.v (E.load rfl (run_load1 Tryz.isAgg3 ((at28.mono i56).now S55.sl) rfl)) ?_
  refine FL.v (E.move (v := v69) rfl) ?_
  obtain ⟨r71, hr72, hp⟩ := bnd hp
  refine FL.call rfl rfl rfl (E.call Tryz.call151 (A2 rfl rfl)) (w_impl_IsClause S55.sl a0.vars v69 y29 (h70.mono (i27.tr i56)) hr72) ?_
  rintro e w73 ⟨rfl, r74⟩
  refine ⟨_, rfl, ?_⟩
  have S75 := S55.call r74
  refine FL.v (E.not rfl) ?_
  refine FL.nil ?_
  rcases ifB hp with ⟨c76, hp⟩ | ⟨c76, hp⟩
  ·
   refine FW.condT rfl c76 ?_
   refine FW.seq (FW.region ?_)
   refine FL.v (E.assign (v := Value.bool false) rfl) ?_
   refine FL.nil ?_
   refine FW.ret ?_
   obtain rfl := Option.some.inj hp
   exact ⟨nofun, rfl, ⟨.inr rfl, res1 rfl rfl ⟨rfl, S75.back⟩⟩⟩
  ·
   refine FW.condF rfl c76 ?_
   refine FW.skip (FW.region ?_)
   refine FL.v (E.add k59 rfl) ?_
   refine FL.v (E.move (v := Value.int .i64 (wr (((i30 : Nat) : Int) + 1))) rfl) ?_
   refine FL.nil ?_
   obtain rfl := Option.some.inj hp
   exact ⟨rfl, ⟨_, S75, i56, (nat_succ rfl (lt_of_get hx30) (p0_1.mono (i27.tr i56)).le), k60, k61, k62⟩⟩
 ·
  clear hp hq
  rintro s30 f99 w98 ⟨H95, S96, i97, k100, k101, k102, k103⟩
  refine FW.seq (FW.region ?_)
  refine FL.v (E.lss k100 k103) ?_
  refine FL.nil (FW.seq ?_)
  refine FW.condF rfl dlt_len ?_
  refine FW.exit ?_
  exact ⟨nofun, rfl, ⟨_, S96, i97, k101⟩⟩
 ·
  clear hq
  intro e f82 w81 hD
  rcases q30 with s30 | x30
  ·
   obtain ⟨rfl, hD⟩ := hD
   obtain ⟨H78, S79, i80, k83⟩ := hD
   replace hp := el_go hp
   refine FW.seq (FW.region ?_)
   refine FL.v (E.fieldAddr tf30_0 k83) ?_
   refine FL.v (E.load rfl (run_load1 Tryz.isAgg3 ((at28.mono i80).now S79.sl) rfl)) ?_
   refine FL.call rfl rfl rfl (E.call Tryz.call109 (A1 rfl)) (w_impl_varsOk S79.sl a0.vars) ?_
   rintro e w84 ⟨rfl, r85⟩
   refine ⟨_, rfl, ?_⟩
   have S86 := S79.call r85
   refine FL.v (E.move (v := Value.bool (PF.impl_varsOk a0.vars)) rfl) ?_
   refine FL.cut 5 (fun f w => ∃ H : GH, St Ha wa H w [] ∧ Inc H78 H ∧ f 26 = Value.bool (bif (PF.impl_varsOk a0.vars) then (decide ((len a0.clauses) ≤ 60)) else false)) ?_ ?_
   ·
    rcases bcase (PF.impl_varsOk a0.vars) with c93 | c93
    ·
     refine FL.val (wF_yes rfl rfl rfl c93) rfl rfl (E.fieldAddr tf30_1 k83) ?_
     refine FL.val (wF_yes rfl rfl rfl c93) rfl rfl (E.load rfl (run_load1 Tryz.isAgg22 ((at28.mono i80).now S86.sl) rfl)) ?_
     refine FL.val (wF_yes rfl rfl rfl c93) rfl rfl (E.lenP te22 rfl p0_1) ?_
     refine FL.val (wF_yes rfl rfl rfl c93) rfl rfl (E.leq rfl rfl) ?_
     refine FL.v (E.pickT rfl c93 rfl) ?_
     exact FL.nil ⟨rfl, _, S86, (Inc.rfl _), (congrArg Value.bool (bifT c93).symm)⟩
    ·
     refine FL.skip (wF_no rfl rfl rfl c93) rfl ?_
     refine FL.skip (wF_no rfl rfl rfl c93) rfl ?_
     refine FL.skip (wF_no rfl rfl rfl c93) rfl ?_
     refine FL.skip (wF_no rfl rfl rfl c93) rfl ?_
     refine FL.v (E.pickF rfl c93 rfl) ?_
     exact FL.nil ⟨rfl, _, S86, (Inc.rfl _), (congrArg Value.bool (bifF c93).symm)⟩
   rintro f92 w91 ⟨H88, S89, i90, k94⟩
   refine FL.v (E.assign k94) ?_
   refine FL.nil ?_
   refine FW.ret ?_
   obtain rfl := Option.some.inj hp
   exact ⟨.inr rfl, res1 rfl rfl ⟨rfl, S89.back⟩⟩
  ·
   obtain ⟨he, hL⟩ := hD
   replace hp := el_rt hp
   obtain rfl := Option.some.inj hp
   subst he
   exact hL

@[reducible] def p_impl_ring_zero (Ha : GH) (wa : World) (r : (List Int)) : Ending → World → Prop :=
 fun e w' => ∃ H' : GH, ∃ v0 : Value, ∃ n0 : Nat, ∃ c0 : List Value, e = .returned (v0) ∧ St Ha wa H' w' [.row 3 1 v0 n0 c0] ∧ Els (up wa.heap.size H') eI 1 c0 r
theorem w_impl_ring_zero {Ha : GH} {wa : World} (hs : Sl Ha wa) (a0 : ring) {r : (List Int)} (hp : (PF.impl_ring_zero a0) = some r) :
  Calls Tryz.prog 197 #[Value.agg #[Value.int .i64 a0.p, Value.int .i64 a0.vars]] wa (p_impl_ring_zero Ha wa r) := by
 unfold PF.impl_ring_zero at hp
 have S0 := St.init hs
 refine calls_go (N := 7) (args := [Value.agg #[Value.int .i64 a0.p, Value.int .i64 a0.vars]]) Tryz.func197 rfl rfl rfl ?_
 refine FW.seq (FW.region ?_)
 obtain ⟨b21, w22, run23, S24⟩ := S0.box (P := Tryz.prog) 137 [Value.int .i64 a0.p, Value.int .i64 a0.vars] (v := Value.agg #[Value.int .i64 a0.p, Value.int .i64 a0.vars]) rfl (ones_cons rfl (ones_cons rfl ones_nil))
 refine FL.v (E.box rfl run23) ?_
 obtain ⟨H25, S26, i27, at28⟩ := S24.sealBox (i := 0) (l' := []) rfl rfl
 refine FL.v (E.assign (v := Value.slice none 0 0) rfl) ?_
 refine FL.nil (FW.seq (FW.region ?_))
 refine FL.v (E.fieldAddr tf137_1 rfl) ?_
 refine FL.v (E.load rfl (run_load1 Tryz.isAgg3 (at28.now S26.sl) rfl)) ?_
 obtain ⟨u30, z29, hp⟩ := bnd hp
 refine FL.v (E.shl rfl rfl (nn_ge z29)) ?_
 obtain ⟨xs31, hm32, hp⟩ := bnd hp
 obtain ⟨v33, w34, n38, cs39, run35, S36, els37, hbl40⟩ := S26.makeEls (P := Tryz.prog) te132 (G := (up wa.heap.size H25)) (En := eI) (x0 := (0 : Int)) hm32 rfl (ones_cons rfl ones_nil) .i64 .i64
 refine FL.v (E.makeSlice rfl rfl run35) ?_
 refine FL.v (E.assign (v := v33) rfl) ?_
 refine FL.nil ?_
 refine FW.ret ?_
 obtain rfl := Option.some.inj hp
 exact ⟨.inr rfl, res1 rfl rfl ⟨_, _, _, _, rfl, S36, els37⟩⟩

@[reducible] def p_impl_ring_mono (Ha : GH) (wa : World) (r : (List Int)) : Ending → World → Prop :=
 fun e w' => ∃ H' : GH, ∃ v0 : Value, ∃ n0 : Nat, ∃ c0 : List Value, e = .returned (v0) ∧ St Ha wa H' w' [.row 3 1 v0 n0 c0] ∧ Els (up wa.heap.size H') eI 1 c0 r
theorem w_impl_ring_mono {Ha : GH} {wa : World} (hs : Sl Ha wa) (a0 : ring) (a1 : Int) {r : (List Int)} (hp : (PF.impl_ring_mono a0 a1) = some r) :
  Calls Tryz.prog 145 #[Value.agg #[Value.int .i64 a0.p, Value.int .i64 a0.vars], Value.int .i64 a1] wa (p_impl_ring_mono Ha wa r) := by
 unfold PF.impl_ring_mono at hp
 have S0 := St.init hs
 refine calls_go (N := 12) (args := [Value.agg #[Value.int .i64 a0.p, Value.int .i64 a0.vars], Value.int .i64 a1]) Tryz.func145 rfl rfl rfl ?_
 refine FW.seq (FW.region ?_)
 obtain ⟨b21, w22, run23, S24⟩ := S0.box (P := Tryz.prog) 137 [Value.int .i64 a0.p, Value.int .i64 a0.vars] (v := Value.agg #[Value.int .i64 a0.p, Value.int .i64 a0.vars]) rfl (ones_cons rfl (ones_cons rfl ones_nil))
 refine FL.v (E.box rfl run23) ?_
 obtain ⟨H25, S26, i27, at28⟩ := S24.sealBox (i := 0) (l' := []) rfl rfl
 refine FL.v (E.assign (v := Value.slice none 0 0) rfl) ?_
 refine FL.nil (FW.seq (FW.region ?_))
 refine FL.v (E.load rfl (run_loadA Tryz.isAgg137 Tryz.sizeOf137 (at28.now S26.sl) rfl)) ?_
 obtain ⟨r29, hr30, hp⟩ := bnd hp
 refine FL.call rfl rfl rfl (E.call Tryz.call197 (A1 rfl)) (w_impl_ring_zero S26.sl a0 hr30) ?_
 rintro e w32 ⟨H31, v35, n36, cs37, rfl, r34, els38⟩
 refine ⟨_, rfl, ?_⟩
 have els38 := els38.mono (up_le S26.size)
 have S33 := S26.join (l' := [.row 3 1 v35 n36 cs37]) r34 rfl
 refine FL.v (E.assign (v := v35) rfl) ?_
 refine FL.nil (FW.seq (FW.region ?_))
 refine FL.v (E.move (v := v35) rfl) ?_
 refine FL.v (E.move (v := Value.int .i64 a1) rfl) ?_
 obtain ⟨x45, hx46, hp⟩ := bnd hp
 obtain ⟨p39, cs40, pt41, l42, at43, rel44⟩ := S33.row_at (i := 0) rfl els38 (by decide) hx46
 obtain rfl := eI_open rel44
 refine FL.v (E.indexAddr te132 rfl rfl pt41) ?_
 obtain ⟨xs50, hput51, hp⟩ := bnd hp
 obtain ⟨w47, cs53, run48, S49, els52, ce54⟩ := S33.putEls (P := Tryz.prog) (t := 3) (i := 0) rfl els38 hput51 pt41 Tryz.sizeOf3 (u := Value.int .i64 1) (c := [Value.int .i64 1]) rfl rfl (ones_cons rfl ones_nil) rfl
 have S49 : St Ha wa H31 w47 [.row 3 1 v35 n36 cs53] := S49
 refine FL.act rfl rfl (E.store rfl rfl run48) ?_
 refine FL.nil (FW.seq (FW.region ?_))
 refine FL.v (E.move (v := v35) rfl) ?_
 refine FL.v (E.assign (v := v35) rfl) ?_
 refine FL.nil ?_
 refine FW.ret ?_
 obtain rfl := Option.some.inj hp
 exact ⟨.inr rfl, res1 rfl rfl ⟨_, _, _, _, rfl, S49, els52⟩⟩

@[reducible] def p_slices_Clone_impl_dense_int (Ha : GH) (wa : World) (r : (List Int)) : Ending → World → Prop :=
 fun e w' => ∃ H' : GH, ∃ v0 : Value, ∃ n0 : Nat, ∃ c0 : List Value, e = .returned (v0) ∧ St Ha wa H' w' [.row 3 1 v0 n0 c0] ∧ Els (up wa.heap.size H') eI 1 c0 r
theorem w_slices_Clone_impl_dense_int {Ha : GH} {wa : World} (hs : Sl Ha wa) (v0 : Value) (a0 : List Int) (p0 : RSl Ha eI 1 v0 a0) {r : (List Int)} (hp : (PF.slices_Clone_impl_dense_int a0) = some r) :
  Calls Tryz.prog 196 #[v0] wa (p_slices_Clone_impl_dense_int Ha wa r) := by
 unfold PF.slices_Clone_impl_dense_int at hp
 have S0 := St.init hs
 refine calls_go (N := 8) (args := [v0]) Tryz.func196 rfl rfl rfl ?_
 refine FW.seq (FW.region ?_)
 refine FL.v (E.assign (v := Value.slice none 0 0) rfl) ?_
 refine FL.nil (FW.seq (FW.seq (FW.region ?_)))
 refine FL.v (E.move (v := v0) rfl) ?_
 obtain ⟨nb21, run22, hn23⟩ := RSl.nilTest te132 p0
 refine FL.v (run22 _ _ _ _ _ _ _ _ _ _ _ _ rfl rfl) ?_
 refine FL.nil ?_
 rcases bcase nb21 with c24 | c24
 ·
  refine FW.condT (b := nb21) rfl c24 ?_
  rw [hn23 c24, app_nil2] at hp
  refine FW.seq (FW.region ?_)
  refine FL.v (E.assign (v := Value.slice none 0 0) rfl) ?_
  refine FL.nil ?_
  refine FW.ret ?_
  obtain rfl := Option.some.inj hp
  exact ⟨.inr rfl, res1 rfl rfl ⟨_, _, _, _, rfl, (S0.nil 3 1), Els.nil⟩⟩
 ·
  refine FW.condF (b := nb21) rfl c24 ?_
  refine FW.skip (FW.seq (FW.region ?_))
  obtain ⟨v25, w26, run27, S28⟩ := S0.buildSlice (P := Tryz.prog) te132 [] (parts := #[]) (cells := []) rfl szs_nil fc_nil ones_nil (Nat.le_of_ble_eq_true rfl)
  have els29 : Els (up wa.heap.size Ha) eI 1 [] [] := Els.nil
  refine FL.v (E.buildSlice (B0) run27) ?_
  refine FL.v (E.move (v := v0) rfl) ?_
  obtain ⟨xs30, hz31, hp⟩ := bnd hp
  obtain ⟨v32, w35, n33, cs34, run36, S37, els38⟩ := S28.appendP (P := Tryz.prog) (Inc.rfl _) te132 (i := 0) rfl (els29.mono upI) p0 hz31
  have S37 : St Ha wa Ha w35 [.row 3 1 v32 n33 cs34] := S37
  have els38 : Els (up wa.heap.size Ha) eI 1 cs34 xs30 := els38.any (fun _ _ _ _ h => h)
  refine FL.v (E.append rfl rfl run36) ?_
  refine FL.v (E.assign (v := v32) rfl) ?_
  refine FL.nil ?_
  refine FW.ret ?_
  obtain rfl := Option.some.inj hp
  exact ⟨.inr rfl, res1 rfl rfl ⟨_, _, _, _, rfl, S37, els38⟩⟩

@[reducible] def p_impl_ring_plus (Ha : GH) (wa : World) (r : (List Int)) : Ending → World → Prop :=
  fun e w' => ∃ H' : GH, ∃ v0 : Value, ∃ n0 : Nat, ∃ c0 : List Value, e = .returned (v0) ∧ St Ha wa H' w' [.row 3 1 v0 n0 c0] ∧ Els (up wa.heap.size H') eI 1 c0 r
theorem w_impl_ring_plus {Ha : GH} {wa : World} (hs : Sl Ha wa) (a0 : ring) (v1 : Value) (a1 : List Int) (p1 : RSl Ha eI 1 v1 a1) (v2 : Value) (a2 : List Int) (p2 : RSl Ha eI 1 v2 a2) (a3 : Int) {r : (List Int)} (hp : (PF.impl_ring_plus a0 a1 a2 a3) = some r) :
    Calls Tryz.prog 144 #[Value.agg #[Value.int .i64 a0.p, Value.int .i64 a0.vars], v1, v2, Value.int .i64 a3] wa (p_impl_ring_plus Ha wa r) := by
  unfold PF.impl_ring_plus at hp
  have S0 := St.init hs
  refine calls_go (N := 37) (args := [Value.agg #[Value.int .i64 a0.p, Value.int .i64 a0.vars], v1, v2, Value.int .i64 a3]) Tryz.func144 rfl rfl rfl ?_
  refine FW.seq (FW.region ?_)
  obtain ⟨b21, w22, run23, S24⟩ := S0.box (P := Tryz.prog) 137 [Value.int .i64 a0.p, Value.int .i64 a0.vars] (v := Value.agg #[Value.int .i64 a0.p, Value.int .i64 a0.vars]) rfl (ones_cons rfl (ones_cons rfl ones_nil))
  refine FL.v (E.box rfl run23) ?_
  obtain ⟨H25, S26, i27, at28⟩ := S24.sealBox (i := 0) (l' := []) rfl rfl
  refine FL.v (E.assign (v := Value.slice none 0 0) rfl) ?_
  refine FL.nil (FW.seq (FW.region ?_))
  refine FL.v (E.move (v := v1) rfl) ?_
  obtain ⟨r29, hr30, hp⟩ := bnd hp
  refine FL.call rfl rfl rfl (E.call Tryz.call196 (A1 rfl)) (w_slices_Clone_impl_dense_int S26.sl v1 a1 (p1.mono i27) hr30) ?_
  rintro e w32 ⟨H31, v35, n36, cs37, rfl, r34, els38⟩
  refine ⟨_, rfl, ?_⟩
  have els38 := els38.mono (up_le S26.size)
  have S33 := S26.join (l' := [.row 3 1 v35 n36 cs37]) r34 rfl
  refine FL.v (E.assign (v := v35) rfl) ?_
  refine FL.nil (FW.seq (FW.seq (FW.region ?_)))
  refine FL.v (E.move (v := v2) rfl) ?_
  refine FL.v (E.lenP te132 rfl p2) ?_
  refine FL.v (E.move (v := Value.int .i64 0) rfl) ?_
  refine FL.nil ?_
  obtain ⟨q40, hq, hp⟩ := bndR hp
  refine FW.block ?_
  refine FW.mono (FW.forL (S := (List Int)) (X := Empty) (fun (i40 : Nat) (s40 : (List Int)) f w => ∃ H : GH, ∃ v41 : Value, ∃ n42 : Nat, ∃ cs43 : List Value, St Ha wa H w [.row 3 1 v41 n42 cs43] ∧ Inc H31 H ∧ Els (up wa.heap.size H) eI 1 cs43 s40 ∧ f 16 = Value.int .i64 ((i40 : Nat) : Int) ∧ f 3 = Value.int .i64 a3 ∧ f 4 = Value.pointer (some ⟨b21, 0, none⟩) ∧ f 9 = v41 ∧ f 14 = v2 ∧ f 15 = Value.int .i64 (len a2)) (fun (q : Rs (List Int) Empty) e f w => match q with | .go s40 => e = Exit.exit 0 ∧ (∃ H : GH, ∃ v41 : Value, ∃ n42 : Nat, ∃ cs43 : List Value, St Ha wa H w [.row 3 1 v41 n42 cs43] ∧ Inc H31 H ∧ Els (up wa.heap.size H) eI 1 cs43 s40 ∧ f 9 = v41) | .rt x => x.elim) hq ⟨_, _, _, _, S33, (Inc.rfl _), els38, rfl, rfl, rfl, rfl, rfl, rfl⟩ ?_ ?_) ?_
  ·
    clear hp hq
    rintro i40 y39 s40 f49 w48 ⟨H45, v41, n42, cs43, S46, i47, els44, k50, k51, k52, k53, k54, k55⟩ hx40 o108 hp
    refine FW.seq (FW.region ?_)
    refine FL.v (E.lssT k50 k55 (lss_len hx40)) ?_
    refine FL.nil (FW.seq ?_)
    refine FW.condT rfl rfl ?_
    refine FW.skip (FW.seq (FW.block (FW.seq (FW.region ?_))))
    refine FL.v (E.move k50) ?_
    obtain ⟨p56, cs57, pt58, l59, at60, rel61⟩ := p2.at (ix_nat hx40)
    obtain rfl := eI_open rel61
    refine FL.v (E.indexAddr te132 k54 k50 pt58) ?_
    refine FL.v (E.load rfl (run_load0 Tryz.isAgg3 ((at60.mono ((i27.tr r34.run.inc).tr i47)).now S46.sl) rfl)) ?_
    refine FL.v (E.assign (v := Value.int .i64 ((i40 : Nat) : Int)) rfl) ?_
    refine FL.v (E.assign (v := Value.int .i64 y39) rfl) ?_
    refine FL.nil ?_
    obtain ⟨x71, hx72, hp⟩ := bnd hp
    obtain ⟨u75, z74, hp⟩ := bnd hp
    obtain ⟨x82, hx83, hp⟩ := bnd hp
    obtain ⟨xs88, hput89, hp⟩ := bnd hp
    refine FW.drawB (Sl H45) (fun f w => ∃ H : GH, ∃ v93 : Value, ∃ n94 : Nat, ∃ cs95 : List Value, St Ha wa H w [.row 3 1 v93 n94 cs95] ∧ Inc H45 H ∧ Els (up wa.heap.size H) eI 1 cs95 xs88 ∧ f 3 = Value.int .i64 a3 ∧ f 4 = Value.pointer (some ⟨b21, 0, none⟩) ∧ f 9 = v93 ∧ f 14 = v2 ∧ f 15 = Value.int .i64 (len a2) ∧ f 16 = Value.int .i64 ((i40 : Nat) : Int)) (by kernel_rfl) S46.sl ?_ ?_
    ·
      intro w62 r63
      have S64 := S46.call r63
      refine FB.t (i := 0) (bs 15 1) rfl (SP.nil S64.sl) rfl (fun w' hw' => (E.move k53)) ?_
      refine FB.t (i := 1) (bs 15 3) rfl (SP.nil S64.sl) rfl (fun w' hw' => (E.move (v := Value.int .i64 ((i40 : Nat) : Int)) rfl)) ?_
      refine FB.t (i := 2) (bs 15 7) rfl (SP.nil S64.sl) rfl (fun w' hw' => (E.move k53)) ?_
      refine FB.t (i := 3) (bs 15 15) rfl (SP.nil S64.sl) rfl (fun w' hw' => (E.move (v := Value.int .i64 ((i40 : Nat) : Int)) rfl)) ?_
      obtain ⟨p65, cs66, pt67, l68, at69, rel70, hall73⟩ := S64.row_atA (i := 0) rfl els44 (by decide) hx72
      obtain rfl := eI_open rel70
      refine FB.t (i := 4) (bs 15 31) rfl (SP.nil S64.sl) rfl (fun w' hw' => (E.indexAddr te132 rfl rfl pt67)) ?_
      refine FB.phase [14] (fun w' => WAt w' p65 [Value.int .i64 x71]) ?_
      refine FB.p (i := 5) (bs 15 63) 0 [9, 12, 13, 14] rfl (SP.on (hall73 _ _ _ 0 S64 rfl) (SP.nil S64.sl)) rfl rfl (fun w' hw' => (E.load rfl (run_load0 Tryz.isAgg3 hw' rfl))) ?_
      refine FB.t (i := 6) (bs 15 127) rfl (SP.on (hall73 _ _ _ 0 S64 rfl) (SP.nil S64.sl)) rfl (fun w' hw' => (E.move k51)) ?_
      refine FB.t (i := 7) (bs 15 255) rfl (SP.on (hall73 _ _ _ 0 S64 rfl) (SP.nil S64.sl)) rfl (fun w' hw' => (E.move (v := Value.int .i64 y39) rfl)) ?_
      refine FB.t (i := 8) (bs 15 511) rfl (SP.on (hall73 _ _ _ 0 S64 rfl) (SP.nil S64.sl)) rfl (fun w' hw' => (E.mul rfl rfl)) ?_
      refine FB.t (i := 9) (bs 15 1023) rfl (SP.on (hall73 _ _ _ 0 S64 rfl) (SP.nil S64.sl)) rfl (fun w' hw' => (E.add rfl rfl)) ?_
      refine FB.t (i := 10) (bs 15 2047) rfl (SP.on (hall73 _ _ _ 0 S64 rfl) (SP.nil S64.sl)) rfl (fun w' hw' => (E.fieldAddr tf137_0 k52)) ?_
      refine FB.t (i := 11) (bs 15 4095) rfl (SP.on (hall73 _ _ _ 0 S64 rfl) (SP.nil S64.sl)) rfl (fun w' hw' => (E.load rfl (run_load1 Tryz.isAgg3 ((at28.mono (r34.run.inc.tr i47)).now hw') rfl))) ?_
      refine FB.t (i := 12) (bs 15 8191) rfl (SP.on (hall73 _ _ _ 0 S64 rfl) (SP.nil S64.sl)) rfl (fun w' hw' => (E.rem rfl rfl (nz_ne z74))) ?_
      obtain ⟨p76, cs77, pt78, l79, at80, rel81, hall84⟩ := S64.row_atA (i := 0) rfl els44 (by decide) hx83
      obtain rfl := eI_open rel81
      refine FB.t (i := 13) (bs 15 16383) rfl (SP.on (hall73 _ _ _ 0 S64 rfl) (SP.nil S64.sl)) rfl (fun w' hw' => (E.indexAddr te132 rfl rfl pt78)) ?_
      refine FB.all1 (i := 14) (by kernel_rfl) ?_
      ·
        obtain ⟨w85, cs91, run86, S87, els90, ce92⟩ := S64.putEls (P := Tryz.prog) (t := 3) (i := 0) rfl els44 hput89 pt78 Tryz.sizeOf3 (u := Value.int .i64 ((wr (x71 + (wr (a3 * y39)))).tmod a0.p)) (c := [Value.int .i64 ((wr (x71 + (wr (a3 * y39)))).tmod a0.p)]) rfl rfl (ones_cons rfl ones_nil) rfl
        have S87 : St Ha wa H45 w85 [.row 3 1 v41 n42 cs91] := S87
        refine FC.act (l' := (bs 15 32767)) rfl (by kernel_rfl) rfl rfl (E.store rfl rfl run86) ?_
        refine ⟨(SP.o (SP.nil S87.sl)), ?_⟩
        exact FB.done (by kernel_rfl) ⟨_, _, _, _, S87, (Inc.rfl _), els90, k51, k52, k53, k54, k55, k50⟩
    ·
      rintro f101 w100 ⟨H97, v93, n94, cs95, S98, i99, els96, k102, k103, k104, k105, k106, k107⟩
      refine FW.region ?_
      refine FL.v (E.add k107 rfl) ?_
      refine FL.v (E.move (v := Value.int .i64 (wr (((i40 : Nat) : Int) + 1))) rfl) ?_
      refine FL.nil ?_
      obtain rfl := Option.some.inj hp
      exact ⟨rfl, ⟨_, _, _, _, S98, (i47.tr i99), els96, (nat_succ rfl (lt_of_get hx40) (p2.mono (((i27.tr r34.run.inc).tr i47).tr i99)).le), k102, k103, k104, k105, k106⟩⟩
  ·
    clear hp hq
    rintro s40 f119 w118 ⟨H115, v41, n42, cs43, S116, i117, els44, k120, k121, k122, k123, k124, k125⟩
    refine FW.seq (FW.region ?_)
    refine FL.v (E.lss k120 k125) ?_
    refine FL.nil (FW.seq ?_)
    refine FW.condF rfl dlt_len ?_
    refine FW.exit ?_
    exact ⟨nofun, rfl, ⟨_, _, _, _, S116, i117, els44, k123⟩⟩
  ·
    clear hq
    intro e f113 w112 hD
    rcases q40 with s40 | x40
    ·
      obtain ⟨rfl, hD⟩ := hD
      obtain ⟨H109, v41, n42, cs43, S110, i111, els44, k114⟩ := hD
      replace hp := el_go hp
      refine FW.seq (FW.region ?_)
      refine FL.v (E.move k114) ?_
      refine FL.v (E.assign (v := v41) rfl) ?_
      refine FL.nil ?_
      refine FW.ret ?_
      obtain rfl := Option.some.inj hp
      exact ⟨.inr rfl, res1 rfl rfl ⟨_, _, _, _, rfl, S110, els44⟩⟩
    · exact x40.elim

@[reducible] def p_impl_ring_literal (Ha : GH) (wa : World) (r : (List Int)) : Ending → World → Prop :=
 fun e w' => ∃ H' : GH, ∃ v0 : Value, ∃ n0 : Nat, ∃ c0 : List Value, e = .returned (v0) ∧ St Ha wa H' w' [.row 3 1 v0 n0 c0] ∧ Els (up wa.heap.size H') eI 1 c0 r
theorem w_impl_ring_literal {Ha : GH} {wa : World} (hs : Sl Ha wa) (a0 : ring) (a1 : Int) {r : (List Int)} (hp : (PF.impl_ring_literal a0 a1) = some r) :
  Calls Tryz.prog 147 #[Value.agg #[Value.int .i64 a0.p, Value.int .i64 a0.vars], Value.int .i64 a1] wa (p_impl_ring_literal Ha wa r) := by
 unfold PF.impl_ring_literal at hp
 have S0 := St.init hs
 refine calls_go (N := 25) (args := [Value.agg #[Value.int .i64 a0.p, Value.int .i64 a0.vars], Value.int .i64 a1]) Tryz.func147 rfl rfl rfl ?_
 refine FW.seq (FW.region ?_)
 obtain ⟨b21, w22, run23, S24⟩ := S0.box (P := Tryz.prog) 137 [Value.int .i64 a0.p, Value.int .i64 a0.vars] (v := Value.agg #[Value.int .i64 a0.p, Value.int .i64 a0.vars]) rfl (ones_cons rfl (ones_cons rfl ones_nil))
 refine FL.v (E.box rfl run23) ?_
 obtain ⟨H25, S26, i27, at28⟩ := S24.sealBox (i := 0) (l' := []) rfl rfl
 refine FL.v (E.assign (v := Value.slice none 0 0) rfl) ?_
 refine FL.nil (FW.seq (FW.seq (FW.region ?_)))
 refine FL.v (E.move (v := Value.int .i64 a1) rfl) ?_
 refine FL.v (E.gtr rfl rfl) ?_
 refine FL.nil ?_
 rcases ifB hp with ⟨c29, hp⟩ | ⟨c29, hp⟩
 ·
  refine FW.condT rfl c29 ?_
  refine FW.seq ?_
  obtain ⟨u34, z33, hp⟩ := bnd hp
  obtain ⟨r35, hr36, hp⟩ := bnd hp
  refine FW.drawB (Sl H25) (fun f w => ∃ H : GH, ∃ v45 : Value, ∃ n46 : Nat, ∃ cs47 : List Value, St Ha wa H w [.row 3 1 v45 n46 cs47] ∧ Inc H25 H ∧ Els (up wa.heap.size H) eI 1 cs47 r35 ∧ f 4 = v45) (by kernel_rfl) S26.sl ?_ ?_
  ·
   intro w30 r31
   have S32 := S26.call r31
   refine FB.t (i := 0) (bs 6 1) rfl (SP.nil S32.sl) rfl (fun w' hw' => (E.load rfl (run_loadA Tryz.isAgg137 Tryz.sizeOf137 (at28.now hw') rfl))) ?_
   refine FB.t (i := 1) (bs 6 3) rfl (SP.nil S32.sl) rfl (fun w' hw' => (E.move (v := Value.int .i64 a1) rfl)) ?_
   refine FB.t (i := 2) (bs 6 7) rfl (SP.nil S32.sl) rfl (fun w' hw' => (E.sub rfl rfl)) ?_
   refine FB.t (i := 3) (bs 6 15) rfl (SP.nil S32.sl) rfl (fun w' hw' => (E.shl rfl rfl (nn_ge z33))) ?_
   refine FB.all1 (i := 4) (by kernel_rfl) ?_
   ·
    refine FC.call (l' := (bs 6 31)) rfl (by kernel_rfl) rfl rfl rfl (E.call Tryz.call145 (A2 rfl rfl)) (w_impl_ring_mono S32.sl a0 (shlK true 64 1 (wr (a1 - 1))) hr36) ?_
    rintro e w38 ⟨H37, v41, n42, cs43, rfl, r40, els44⟩
    refine ⟨_, rfl, ?_⟩
    have els44 := els44.mono (up_le S32.size)
    have S39 := S32.join (l' := [.row 3 1 v41 n42 cs43]) r40 rfl
    refine ⟨(SP.nil (Sl.of_inc r40.run.inc S39.sl)), ?_⟩
    refine FB.t (i := 5) (bs 6 63) rfl (SP.nil (Sl.of_inc r40.run.inc S39.sl)) rfl (fun w' hw' => (E.assign (v := v41) rfl)) ?_
    exact FB.done (by kernel_rfl) ⟨_, _, _, _, S39, r40.run.inc, els44, rfl⟩
  ·
   rintro f53 w52 ⟨H49, v45, n46, cs47, S50, i51, els48, k54⟩
   refine FW.ret ?_
   obtain rfl := Option.some.inj hp
   exact ⟨.inr rfl, res1 rfl k54 ⟨_, _, _, _, rfl, S50, els48⟩⟩
 ·
  refine FW.condF rfl c29 ?_
  refine FW.skip (FW.seq ?_)
  obtain ⟨r58, hr59, hp⟩ := bnd hp
  obtain ⟨u69, z68, hp⟩ := bnd hp
  obtain ⟨r70, hr71, hp⟩ := bnd hp
  obtain ⟨r90, hr91, hp⟩ := bnd hp
  refine FW.drawB (Sl H25) (fun f w => ∃ H : GH, ∃ v102 : Value, ∃ n103 : Nat, ∃ cs104 : List Value, St Ha wa H w [.row 3 1 v102 n103 cs104] ∧ Inc H25 H ∧ Els (up wa.heap.size H) eI 1 cs104 r90 ∧ f 4 = v102) (by kernel_rfl) S26.sl ?_ ?_
  ·
   intro w55 r56
   have S57 := S26.call r56
   refine FB.t (i := 0) (bs 14 1) rfl (SP.nil S57.sl) rfl (fun w' hw' => (E.load rfl (run_loadA Tryz.isAgg137 Tryz.sizeOf137 (at28.now hw') rfl))) ?_
   refine FB.t (i := 1) (bs 14 3) rfl (SP.nil S57.sl) rfl (fun w' hw' => (E.load rfl (run_loadA Tryz.isAgg137 Tryz.sizeOf137 (at28.now hw') rfl))) ?_
   refine FB.t (i := 3) (bs 14 11) rfl (SP.nil S57.sl) rfl (fun w' hw' => (E.load rfl (run_loadA Tryz.isAgg137 Tryz.sizeOf137 (at28.now hw') rfl))) ?_
   refine FB.t (i := 4) (bs 14 27) rfl (SP.nil S57.sl) rfl (fun w' hw' => (E.move (v := Value.int .i64 a1) rfl)) ?_
   refine FB.t (i := 5) (bs 14 59) rfl (SP.nil S57.sl) rfl (fun w' hw' => (E.neg rfl)) ?_
   refine FB.t (i := 6) (bs 14 123) rfl (SP.nil S57.sl) rfl (fun w' hw' => (E.sub rfl rfl)) ?_
   refine FB.t (i := 7) (bs 14 251) rfl (SP.nil S57.sl) rfl (fun w' hw' => (E.shl rfl rfl (nn_ge z68))) ?_
   refine FB.t (i := 9) (bs 14 763) rfl (SP.nil S57.sl) rfl (fun w' hw' => (E.fieldAddr tf137_0 rfl)) ?_
   refine FB.t (i := 10) (bs 14 1787) rfl (SP.nil S57.sl) rfl (fun w' hw' => (E.load rfl (run_load1 Tryz.isAgg3 (at28.now hw') rfl))) ?_
   refine FB.t (i := 11) (bs 14 3835) rfl (SP.nil S57.sl) rfl (fun w' hw' => (E.sub rfl rfl)) ?_
   refine FB.all1 (i := 2) (by kernel_rfl) ?_
   ·
    refine FC.call (l' := (bs 14 3839)) rfl (by kernel_rfl) rfl rfl rfl (E.call Tryz.call145 (A2 rfl rfl)) (w_impl_ring_mono S57.sl a0 0 hr59) ?_
    rintro e w61 ⟨H60, v64, n65, cs66, rfl, r63, els67⟩
    refine ⟨_, rfl, ?_⟩
    have els67 := els67.mono (up_le S57.size)
    have S62 := S57.join (l' := [.row 3 1 v64 n65 cs66]) r63 rfl
    refine ⟨(SP.nil (Sl.of_inc r63.run.inc S62.sl)), ?_⟩
    refine FB.all1 (i := 8) (by kernel_rfl) ?_
    ·
     refine FC.call (l' := (bs 14 4095)) rfl (by kernel_rfl) rfl rfl rfl (E.call Tryz.call145 (A2 rfl rfl)) (w_impl_ring_mono S62.sl a0 (shlK true 64 1 (wr ((wr (-a1)) - 1))) hr71) ?_
     rintro e w73 ⟨H72, v76, n77, cs78, rfl, r75, els79⟩
     refine ⟨_, rfl, ?_⟩
     have els79 := els79.mono (up_le S62.size)
     have S74 := S62.join (l' := [.row 3 1 v76 n77 cs78, .row 3 1 v64 n65 cs66]) r75 rfl
     refine ⟨(SP.nil (Sl.of_inc (r63.run.inc.tr r75.run.inc) S74.sl)), ?_⟩
     refine FB.all1 (i := 12) (by kernel_rfl) ?_
     ·
      obtain ⟨H80, S81, i82, h83, nv84⟩ := S74.sealRowU (i := 1) (l' := [.row 3 1 v76 n77 cs78]) rfl (els67.mono (up_mono r75.run.inc)) (by decide) rfl
      obtain ⟨H85, S86, i87, h88, nv89⟩ := S81.sealRowU (i := 0) (l' := []) rfl (els79.mono (up_mono i82)) (by decide) rfl
      refine FC.call (l' := (bs 14 8191)) rfl (by kernel_rfl) rfl rfl rfl (E.call Tryz.call144 (A4 rfl rfl rfl rfl)) (w_impl_ring_plus S86.sl a0 v64 r58 (h83.mono (upI.tr i87)) v76 r70 (h88.mono upI) (wr (a0.p - 1)) hr91) ?_
      rintro e w93 ⟨H92, v98, n99, cs100, rfl, r95, els101⟩
      refine ⟨_, rfl, ?_⟩
      obtain ⟨H96, r95, hU97⟩ := St.lendX (i82.tr i87) S74.sl r95
      have els101 := els101.mono (hU97.tr (up_le S74.size))
      have S94 := S74.join (l' := [.row 3 1 v98 n99 cs100, .row 3 1 v76 n77 cs78, .row 3 1 v64 n65 cs66]) r95 rfl
      refine ⟨(SP.nil (Sl.of_inc ((r63.run.inc.tr r75.run.inc).tr r95.run.inc) S94.sl)), ?_⟩
      refine FB.t (i := 13) (bs 14 16383) rfl (SP.nil (Sl.of_inc ((r63.run.inc.tr r75.run.inc).tr r95.run.inc) S94.sl)) rfl (fun w' hw' => (E.assign (v := v98) rfl)) ?_
      exact FB.done (by kernel_rfl) ⟨_, _, _, _, (S94.sel [0] (by decide) rfl), ((r63.run.inc.tr r75.run.inc).tr r95.run.inc), els101, rfl⟩
  ·
   rintro f110 w109 ⟨H106, v102, n103, cs104, S107, i108, els105, k111⟩
   refine FW.ret ?_
   obtain rfl := Option.some.inj hp
   exact ⟨.inr rfl, res1 rfl k111 ⟨_, _, _, _, rfl, S107, els105⟩⟩

@[reducible] def p_impl_ring_times (Ha : GH) (wa : World) (r : (List Int)) : Ending → World → Prop :=
  fun e w' => ∃ H' : GH, ∃ v0 : Value, ∃ n0 : Nat, ∃ c0 : List Value, e = .returned (v0) ∧ St Ha wa H' w' [.row 3 1 v0 n0 c0] ∧ Els (up wa.heap.size H') eI 1 c0 r
theorem w_impl_ring_times {Ha : GH} {wa : World} (hs : Sl Ha wa) (a0 : ring) (v1 : Value) (a1 : List Int) (p1 : RSl Ha eI 1 v1 a1) (v2 : Value) (a2 : List Int) (p2 : RSl Ha eI 1 v2 a2) {r : (List Int)} (hp : (PF.impl_ring_times a0 a1 a2) = some r) :
    Calls Tryz.prog 146 #[Value.agg #[Value.int .i64 a0.p, Value.int .i64 a0.vars], v1, v2] wa (p_impl_ring_times Ha wa r) := by
  unfold PF.impl_ring_times at hp
  have S0 := St.init hs
  refine calls_go (N := 49) (args := [Value.agg #[Value.int .i64 a0.p, Value.int .i64 a0.vars], v1, v2]) Tryz.func146 rfl rfl rfl ?_
  refine FW.seq (FW.region ?_)
  obtain ⟨b21, w22, run23, S24⟩ := S0.box (P := Tryz.prog) 137 [Value.int .i64 a0.p, Value.int .i64 a0.vars] (v := Value.agg #[Value.int .i64 a0.p, Value.int .i64 a0.vars]) rfl (ones_cons rfl (ones_cons rfl ones_nil))
  refine FL.v (E.box rfl run23) ?_
  obtain ⟨H25, S26, i27, at28⟩ := S24.sealBox (i := 0) (l' := []) rfl rfl
  refine FL.v (E.assign (v := Value.slice none 0 0) rfl) ?_
  refine FL.nil (FW.seq (FW.region ?_))
  refine FL.v (E.load rfl (run_loadA Tryz.isAgg137 Tryz.sizeOf137 (at28.now S26.sl) rfl)) ?_
  obtain ⟨r29, hr30, hp⟩ := bnd hp
  refine FL.call rfl rfl rfl (E.call Tryz.call197 (A1 rfl)) (w_impl_ring_zero S26.sl a0 hr30) ?_
  rintro e w32 ⟨H31, v35, n36, cs37, rfl, r34, els38⟩
  refine ⟨_, rfl, ?_⟩
  have els38 := els38.mono (up_le S26.size)
  have S33 := S26.join (l' := [.row 3 1 v35 n36 cs37]) r34 rfl
  refine FL.v (E.assign (v := v35) rfl) ?_
  refine FL.nil (FW.seq (FW.seq (FW.region ?_)))
  refine FL.v (E.move (v := v1) rfl) ?_
  refine FL.v (E.lenP te132 rfl p1) ?_
  refine FL.v (E.move (v := Value.int .i64 0) rfl) ?_
  refine FL.nil ?_
  obtain ⟨q40, hq, hp⟩ := bndR hp
  refine FW.block ?_
  refine FW.mono (FW.forL (S := (List Int)) (X := Empty) (fun (i40 : Nat) (s40 : (List Int)) f w => ∃ H : GH, ∃ v41 : Value, ∃ n42 : Nat, ∃ cs43 : List Value, St Ha wa H w [.row 3 1 v41 n42 cs43] ∧ Inc H31 H ∧ Els (up wa.heap.size H) eI 1 cs43 s40 ∧ f 16 = Value.int .i64 ((i40 : Nat) : Int) ∧ f 2 = v2 ∧ f 3 = Value.pointer (some ⟨b21, 0, none⟩) ∧ f 7 = v41 ∧ f 14 = v1 ∧ f 15 = Value.int .i64 (len a1)) (fun (q : Rs (List Int) Empty) e f w => match q with | .go s40 => e = Exit.exit 0 ∧ (∃ H : GH, ∃ v41 : Value, ∃ n42 : Nat, ∃ cs43 : List Value, St Ha wa H w [.row 3 1 v41 n42 cs43] ∧ Inc H31 H ∧ Els (up wa.heap.size H) eI 1 cs43 s40 ∧ f 7 = v41) | .rt x => x.elim) hq ⟨_, _, _, _, S33, (Inc.rfl _), els38, rfl, rfl, rfl, rfl, rfl, rfl⟩ ?_ ?_) ?_
  ·
    clear hp hq
    rintro i40 y39 s40 f49 w48 ⟨H45, v41, n42, cs43, S46, i47, els44, k50, k51, k52, k53, k54, k55⟩ hx40 o171 hp
    refine FW.seq (FW.region ?_)
    refine FL.v (E.lssT k50 k55 (lss_len hx40)) ?_
    refine FL.nil (FW.seq ?_)
    refine FW.condT rfl rfl ?_
    refine FW.skip (FW.seq (FW.block (FW.seq (FW.region ?_))))
    refine FL.v (E.move k50) ?_
    obtain ⟨p56, cs57, pt58, l59, at60, rel61⟩ := p1.at (ix_nat hx40)
    obtain rfl := eI_open rel61
    refine FL.v (E.indexAddr te132 k54 k50 pt58) ?_
    refine FL.v (E.load rfl (run_load0 Tryz.isAgg3 ((at60.mono ((i27.tr r34.run.inc).tr i47)).now S46.sl) rfl)) ?_
    refine FL.v (E.assign (v := Value.int .i64 ((i40 : Nat) : Int)) rfl) ?_
    refine FL.v (E.assign (v := Value.int .i64 y39) rfl) ?_
    refine FL.nil (FW.seq (FW.region ?_))
    refine FL.v (E.move k51) ?_
    refine FL.v (E.lenP te132 rfl p2) ?_
    refine FL.v (E.move (v := Value.int .i64 0) rfl) ?_
    refine FL.nil ?_
    obtain ⟨q63, hq, hp⟩ := bndR hp
    refine FW.block ?_
    refine FW.mono (FW.forL (S := (List Int)) (X := Empty) (fun (i63 : Nat) (s63 : (List Int)) f w => ∃ H : GH, ∃ v64 : Value, ∃ n65 : Nat, ∃ cs66 : List Value, St Ha wa H w [.row 3 1 v64 n65 cs66] ∧ Inc H45 H ∧ Els (up wa.heap.size H) eI 1 cs66 s63 ∧ f 23 = Value.int .i64 ((i63 : Nat) : Int) ∧ f 2 = v2 ∧ f 3 = Value.pointer (some ⟨b21, 0, none⟩) ∧ f 7 = v64 ∧ f 8 = Value.int .i64 ((i40 : Nat) : Int) ∧ f 9 = Value.int .i64 y39 ∧ f 14 = v1 ∧ f 15 = Value.int .i64 (len a1) ∧ f 16 = Value.int .i64 ((i40 : Nat) : Int) ∧ f 21 = v2 ∧ f 22 = Value.int .i64 (len a2)) (fun (q : Rs (List Int) Empty) e f w => match q with | .go s63 => e = Exit.exit 2 ∧ (∃ H : GH, ∃ v64 : Value, ∃ n65 : Nat, ∃ cs66 : List Value, St Ha wa H w [.row 3 1 v64 n65 cs66] ∧ Inc H45 H ∧ Els (up wa.heap.size H) eI 1 cs66 s63 ∧ f 2 = v2 ∧ f 3 = Value.pointer (some ⟨b21, 0, none⟩) ∧ f 7 = v64 ∧ f 14 = v1 ∧ f 15 = Value.int .i64 (len a1) ∧ f 16 = Value.int .i64 ((i40 : Nat) : Int)) | .rt x => x.elim) hq ⟨_, _, _, _, S46, (Inc.rfl _), els44, rfl, k51, k52, k53, rfl, rfl, k54, k55, k50, rfl, rfl⟩ ?_ ?_) ?_
    ·
      clear hp hq
      rintro i63 y62 s63 f72 w71 ⟨H68, v64, n65, cs66, S69, i70, els67, k73, k74, k75, k76, k77, k78, k79, k80, k81, k82, k83⟩ hx63 o143 hp
      refine FW.seq (FW.region ?_)
      refine FL.v (E.lssT k73 k83 (lss_len hx63)) ?_
      refine FL.nil (FW.seq ?_)
      refine FW.condT rfl rfl ?_
      refine FW.skip (FW.seq (FW.block (FW.seq (FW.region ?_))))
      refine FL.v (E.move k73) ?_
      obtain ⟨p84, cs85, pt86, l87, at88, rel89⟩ := p2.at (ix_nat hx63)
      obtain rfl := eI_open rel89
      refine FL.v (E.indexAddr te132 k82 k73 pt86) ?_
      refine FL.v (E.load rfl (run_load0 Tryz.isAgg3 ((at88.mono (((i27.tr r34.run.inc).tr i47).tr i70)).now S69.sl) rfl)) ?_
      refine FL.v (E.assign (v := Value.int .i64 ((i63 : Nat) : Int)) rfl) ?_
      refine FL.v (E.assign (v := Value.int .i64 y62) rfl) ?_
      refine FL.nil ?_
      obtain ⟨x99, hx100, hp⟩ := bnd hp
      obtain ⟨u103, z102, hp⟩ := bnd hp
      obtain ⟨x110, hx111, hp⟩ := bnd hp
      obtain ⟨xs116, hput117, hp⟩ := bnd hp
      refine FW.drawB (Sl H68) (fun f w => ∃ H : GH, ∃ v121 : Value, ∃ n122 : Nat, ∃ cs123 : List Value, St Ha wa H w [.row 3 1 v121 n122 cs123] ∧ Inc H68 H ∧ Els (up wa.heap.size H) eI 1 cs123 xs116 ∧ f 2 = v2 ∧ f 3 = Value.pointer (some ⟨b21, 0, none⟩) ∧ f 7 = v121 ∧ f 8 = Value.int .i64 ((i40 : Nat) : Int) ∧ f 9 = Value.int .i64 y39 ∧ f 14 = v1 ∧ f 15 = Value.int .i64 (len a1) ∧ f 16 = Value.int .i64 ((i40 : Nat) : Int) ∧ f 21 = v2 ∧ f 22 = Value.int .i64 (len a2) ∧ f 23 = Value.int .i64 ((i63 : Nat) : Int)) (by kernel_rfl) S69.sl ?_ ?_
      ·
        intro w90 r91
        have S92 := S69.call r91
        refine FB.t (i := 0) (bs 19 1) rfl (SP.nil S92.sl) rfl (fun w' hw' => (E.move k76)) ?_
        refine FB.t (i := 1) (bs 19 3) rfl (SP.nil S92.sl) rfl (fun w' hw' => (E.move k77)) ?_
        refine FB.t (i := 2) (bs 19 7) rfl (SP.nil S92.sl) rfl (fun w' hw' => (E.move (v := Value.int .i64 ((i63 : Nat) : Int)) rfl)) ?_
        refine FB.t (i := 3) (bs 19 15) rfl (SP.nil S92.sl) rfl (fun w' hw' => (E.or rfl rfl)) ?_
        refine FB.t (i := 4) (bs 19 31) rfl (SP.nil S92.sl) rfl (fun w' hw' => (E.move k76)) ?_
        refine FB.t (i := 5) (bs 19 63) rfl (SP.nil S92.sl) rfl (fun w' hw' => (E.move k77)) ?_
        refine FB.t (i := 6) (bs 19 127) rfl (SP.nil S92.sl) rfl (fun w' hw' => (E.move (v := Value.int .i64 ((i63 : Nat) : Int)) rfl)) ?_
        refine FB.t (i := 7) (bs 19 255) rfl (SP.nil S92.sl) rfl (fun w' hw' => (E.or rfl rfl)) ?_
        obtain ⟨p93, cs94, pt95, l96, at97, rel98, hall101⟩ := S92.row_atA (i := 0) rfl els67 (by decide) hx100
        obtain rfl := eI_open rel98
        refine FB.t (i := 8) (bs 19 511) rfl (SP.nil S92.sl) rfl (fun w' hw' => (E.indexAddr te132 rfl rfl pt95)) ?_
        refine FB.phase [18] (fun w' => WAt w' p93 [Value.int .i64 x99]) ?_
        refine FB.p (i := 9) (bs 19 1023) 0 [13, 16, 17, 18] rfl (SP.on (hall101 _ _ _ 0 S92 rfl) (SP.nil S92.sl)) rfl rfl (fun w' hw' => (E.load rfl (run_load0 Tryz.isAgg3 hw' rfl))) ?_
        refine FB.t (i := 10) (bs 19 2047) rfl (SP.on (hall101 _ _ _ 0 S92 rfl) (SP.nil S92.sl)) rfl (fun w' hw' => (E.move k78)) ?_
        refine FB.t (i := 11) (bs 19 4095) rfl (SP.on (hall101 _ _ _ 0 S92 rfl) (SP.nil S92.sl)) rfl (fun w' hw' => (E.move (v := Value.int .i64 y62) rfl)) ?_
        refine FB.t (i := 12) (bs 19 8191) rfl (SP.on (hall101 _ _ _ 0 S92 rfl) (SP.nil S92.sl)) rfl (fun w' hw' => (E.mul rfl rfl)) ?_
        refine FB.t (i := 13) (bs 19 16383) rfl (SP.on (hall101 _ _ _ 0 S92 rfl) (SP.nil S92.sl)) rfl (fun w' hw' => (E.add rfl rfl)) ?_
        refine FB.t (i := 14) (bs 19 32767) rfl (SP.on (hall101 _ _ _ 0 S92 rfl) (SP.nil S92.sl)) rfl (fun w' hw' => (E.fieldAddr tf137_0 k75)) ?_
        refine FB.t (i := 15) (bs 19 65535) rfl (SP.on (hall101 _ _ _ 0 S92 rfl) (SP.nil S92.sl)) rfl (fun w' hw' => (E.load rfl (run_load1 Tryz.isAgg3 ((at28.mono ((r34.run.inc.tr i47).tr i70)).now hw') rfl))) ?_
        refine FB.t (i := 16) (bs 19 131071) rfl (SP.on (hall101 _ _ _ 0 S92 rfl) (SP.nil S92.sl)) rfl (fun w' hw' => (E.rem rfl rfl (nz_ne z102))) ?_
        obtain ⟨p104, cs105, pt106, l107, at108, rel109, hall112⟩ := S92.row_atA (i := 0) rfl els67 (by decide) hx111
        obtain rfl := eI_open rel109
        refine FB.t (i := 17) (bs 19 262143) rfl (SP.on (hall101 _ _ _ 0 S92 rfl) (SP.nil S92.sl)) rfl (fun w' hw' => (E.indexAddr te132 rfl rfl pt106)) ?_
        refine FB.all1 (i := 18) (by kernel_rfl) ?_
        ·
          obtain ⟨w113, cs119, run114, S115, els118, ce120⟩ := S92.putEls (P := Tryz.prog) (t := 3) (i := 0) rfl els67 hput117 pt106 Tryz.sizeOf3 (u := Value.int .i64 ((wr (x99 + (wr (y39 * y62)))).tmod a0.p)) (c := [Value.int .i64 ((wr (x99 + (wr (y39 * y62)))).tmod a0.p)]) rfl rfl (ones_cons rfl ones_nil) rfl
          have S115 : St Ha wa H68 w113 [.row 3 1 v64 n65 cs119] := S115
          refine FC.act (l' := (bs 19 524287)) rfl (by kernel_rfl) rfl rfl (E.store rfl rfl run114) ?_
          refine ⟨(SP.o (SP.nil S115.sl)), ?_⟩
          exact FB.done (by kernel_rfl) ⟨_, _, _, _, S115, (Inc.rfl _), els118, k74, k75, k76, k77, k78, k79, k80, k81, k82, k83, k73⟩
      ·
        rintro f129 w128 ⟨H125, v121, n122, cs123, S126, i127, els124, k130, k131, k133, k134, k135, k136, k138, k139, k140, k141, k142⟩
        refine FW.region ?_
        refine FL.v (E.add k142 rfl) ?_
        refine FL.v (E.move (v := Value.int .i64 (wr (((i63 : Nat) : Int) + 1))) rfl) ?_
        refine FL.nil ?_
        obtain rfl := Option.some.inj hp
        exact ⟨rfl, ⟨_, _, _, _, S126, (i70.tr i127), els124, (nat_succ rfl (lt_of_get hx63) (p2.mono ((((i27.tr r34.run.inc).tr i47).tr i70).tr i127)).le), k130, k131, k133, k134, k135, k136, k138, k139, k140, k141⟩⟩
    ·
      clear hp hq
      rintro s63 f159 w158 ⟨H155, v64, n65, cs66, S156, i157, els67, k160, k161, k162, k163, k164, k165, k166, k167, k168, k169, k170⟩
      refine FW.seq (FW.region ?_)
      refine FL.v (E.lss k160 k170) ?_
      refine FL.nil (FW.seq ?_)
      refine FW.condF rfl dlt_len ?_
      refine FW.exit ?_
      exact ⟨nofun, rfl, ⟨_, _, _, _, S156, i157, els67, k161, k162, k163, k166, k167, k168⟩⟩
    ·
      clear hq
      intro e f148 w147 hD
      rcases q63 with s63 | x63
      ·
        obtain ⟨rfl, hD⟩ := hD
        obtain ⟨H144, v64, n65, cs66, S145, i146, els67, k149, k150, k151, k152, k153, k154⟩ := hD
        replace hp := el_go hp
        refine FW.region ?_
        refine FL.v (E.add k154 rfl) ?_
        refine FL.v (E.move (v := Value.int .i64 (wr (((i40 : Nat) : Int) + 1))) rfl) ?_
        refine FL.nil ?_
        obtain rfl := Option.some.inj hp
        exact ⟨rfl, ⟨_, _, _, _, S145, (i47.tr i146), els67, (nat_succ rfl (lt_of_get hx40) (p1.mono (((i27.tr r34.run.inc).tr i47).tr i146)).le), k149, k150, k151, k152, k153⟩⟩
      · exact x63.elim
  ·
    clear hp hq
    rintro s40 f182 w181 ⟨H178, v41, n42, cs43, S179, i180, els44, k183, k184, k185, k186, k187, k188⟩
    refine FW.seq (FW.region ?_)
    refine FL.v (E.lss k183 k188) ?_
    refine FL.nil (FW.seq ?_)
    refine FW.condF rfl dlt_len ?_
    refine FW.exit ?_
    exact ⟨nofun, rfl, ⟨_, _, _, _, S179, i180, els44, k186⟩⟩
  ·
    clear hq
    intro e f176 w175 hD
    rcases q40 with s40 | x40
    ·
      obtain ⟨rfl, hD⟩ := hD
      obtain ⟨H172, v41, n42, cs43, S173, i174, els44, k177⟩ := hD
      replace hp := el_go hp
      refine FW.seq (FW.region ?_)
      refine FL.v (E.move k177) ?_
      refine FL.v (E.assign (v := v41) rfl) ?_
      refine FL.nil ?_
      refine FW.ret ?_
      obtain rfl := Option.some.inj hp
      exact ⟨.inr rfl, res1 rfl rfl ⟨_, _, _, _, rfl, S173, els44⟩⟩
    · exact x40.elim

@[reducible] def p_impl_ring_clause (Ha : GH) (wa : World) (r : (List Int)) : Ending → World → Prop :=
  fun e w' => ∃ H' : GH, ∃ v0 : Value, ∃ n0 : Nat, ∃ c0 : List Value, e = .returned (v0) ∧ St Ha wa H' w' [.row 3 1 v0 n0 c0] ∧ Els (up wa.heap.size H') eI 1 c0 r
theorem w_impl_ring_clause {Ha : GH} {wa : World} (hs : Sl Ha wa) (a0 : ring) (v1 : Value) (a1 : List Int) (p1 : RSl Ha eI 1 v1 a1) {r : (List Int)} (hp : (PF.impl_ring_clause a0 a1) = some r) :
    Calls Tryz.prog 87 #[Value.agg #[Value.int .i64 a0.p, Value.int .i64 a0.vars], v1] wa (p_impl_ring_clause Ha wa r) := by
  unfold PF.impl_ring_clause at hp
  have S0 := St.init hs
  refine calls_go (N := 25) (args := [Value.agg #[Value.int .i64 a0.p, Value.int .i64 a0.vars], v1]) Tryz.func87 rfl rfl rfl ?_
  refine FW.seq (FW.region ?_)
  obtain ⟨b21, w22, run23, S24⟩ := S0.box (P := Tryz.prog) 137 [Value.int .i64 a0.p, Value.int .i64 a0.vars] (v := Value.agg #[Value.int .i64 a0.p, Value.int .i64 a0.vars]) rfl (ones_cons rfl (ones_cons rfl ones_nil))
  refine FL.v (E.box rfl run23) ?_
  obtain ⟨H25, S26, i27, at28⟩ := S24.sealBox (i := 0) (l' := []) rfl rfl
  refine FL.v (E.assign (v := Value.slice none 0 0) rfl) ?_
  refine FL.nil (FW.seq (FW.region ?_))
  refine FL.v (E.load rfl (run_loadA Tryz.isAgg137 Tryz.sizeOf137 (at28.now S26.sl) rfl)) ?_
  obtain ⟨r29, hr30, hp⟩ := bnd hp
  refine FL.call rfl rfl rfl (E.call Tryz.call145 (A2 rfl rfl)) (w_impl_ring_mono S26.sl a0 0 hr30) ?_
  rintro e w32 ⟨H31, v35, n36, cs37, rfl, r34, els38⟩
  refine ⟨_, rfl, ?_⟩
  have els38 := els38.mono (up_le S26.size)
  have S33 := S26.join (l' := [.row 3 1 v35 n36 cs37]) r34 rfl
  refine FL.v (E.assign (v := v35) rfl) ?_
  refine FL.nil (FW.seq (FW.seq (FW.region ?_)))
  refine FL.v (E.move (v := v1) rfl) ?_
  refine FL.v (E.lenP te84 rfl p1) ?_
  refine FL.v (E.move (v := Value.int .i64 0) rfl) ?_
  refine FL.nil ?_
  obtain ⟨q40, hq, hp⟩ := bndR hp
  refine FW.block ?_
  refine FW.mono (FW.forL (S := (List Int)) (X := Empty) (fun (i40 : Nat) (s40 : (List Int)) f w => ∃ H : GH, ∃ v41 : Value, ∃ n42 : Nat, ∃ cs43 : List Value, St Ha wa H w [.row 3 1 v41 n42 cs43] ∧ Inc H31 H ∧ Els (up wa.heap.size H) eI 1 cs43 s40 ∧ f 12 = Value.int .i64 ((i40 : Nat) : Int) ∧ f 2 = Value.pointer (some ⟨b21, 0, none⟩) ∧ f 5 = v41 ∧ f 10 = v1 ∧ f 11 = Value.int .i64 (len a1)) (fun (q : Rs (List Int) Empty) e f w => match q with | .go s40 => e = Exit.exit 0 ∧ (∃ H : GH, ∃ v41 : Value, ∃ n42 : Nat, ∃ cs43 : List Value, St Ha wa H w [.row 3 1 v41 n42 cs43] ∧ Inc H31 H ∧ Els (up wa.heap.size H) eI 1 cs43 s40 ∧ f 5 = v41) | .rt x => x.elim) hq ⟨_, _, _, _, S33, (Inc.rfl _), els38, rfl, rfl, rfl, rfl, rfl⟩ ?_ ?_) ?_
  ·
    clear hp hq
    rintro i40 y39 s40 f49 w48 ⟨H45, v41, n42, cs43, S46, i47, els44, k50, k51, k52, k53, k54⟩ hx40 o111 hp
    refine FW.seq (FW.region ?_)
    refine FL.v (E.lssT k50 k54 (lss_len hx40)) ?_
    refine FL.nil (FW.seq ?_)
    refine FW.condT rfl rfl ?_
    refine FW.skip (FW.seq (FW.block (FW.seq (FW.region ?_))))
    obtain ⟨p55, cs56, pt57, l58, at59, rel60⟩ := p1.at (ix_nat hx40)
    obtain rfl := eI_open rel60
    refine FL.v (E.indexAddr te84 k53 k50 pt57) ?_
    refine FL.v (E.load rfl (run_load0 Tryz.isAgg3 ((at59.mono ((i27.tr r34.run.inc).tr i47)).now S46.sl) rfl)) ?_
    refine FL.v (E.assign (v := Value.int .i64 y39) rfl) ?_
    refine FL.nil ?_
    obtain ⟨r64, hr65, hp⟩ := bnd hp
    obtain ⟨r85, hr86, hp⟩ := bnd hp
    refine FW.drawB (Sl H45) (fun f w => ∃ H : GH, ∃ v97 : Value, ∃ n98 : Nat, ∃ cs99 : List Value, St Ha wa H w [.row 3 1 v97 n98 cs99] ∧ Inc H45 H ∧ Els (up wa.heap.size H) eI 1 cs99 r85 ∧ f 2 = Value.pointer (some ⟨b21, 0, none⟩) ∧ f 5 = v97 ∧ f 10 = v1 ∧ f 11 = Value.int .i64 (len a1) ∧ f 12 = Value.int .i64 ((i40 : Nat) : Int)) (by kernel_rfl) S46.sl ?_ ?_
    ·
      intro w61 r62
      have S63 := S46.call r62
      refine FB.t (i := 0) (bs 8 1) rfl (SP.nil S63.sl) rfl (fun w' hw' => (E.load k51 (run_loadA Tryz.isAgg137 Tryz.sizeOf137 ((at28.mono (r34.run.inc.tr i47)).now hw') rfl))) ?_
      refine FB.t (i := 1) (bs 8 3) rfl (SP.nil S63.sl) rfl (fun w' hw' => (E.move k52)) ?_
      refine FB.t (i := 2) (bs 8 7) rfl (SP.nil S63.sl) rfl (fun w' hw' => (E.load k51 (run_loadA Tryz.isAgg137 Tryz.sizeOf137 ((at28.mono (r34.run.inc.tr i47)).now hw') rfl))) ?_
      refine FB.t (i := 3) (bs 8 15) rfl (SP.nil S63.sl) rfl (fun w' hw' => (E.move (v := Value.int .i64 y39) rfl)) ?_
      refine FB.t (i := 4) (bs 8 31) rfl (SP.nil S63.sl) rfl (fun w' hw' => (E.neg rfl)) ?_
      refine FB.all1 (i := 5) (by kernel_rfl) ?_
      ·
        refine FC.call (l' := (bs 8 63)) rfl (by kernel_rfl) rfl rfl rfl (E.call Tryz.call147 (A2 rfl rfl)) (w_impl_ring_literal S63.sl a0 (wr (-y39)) hr65) ?_
        rintro e w67 ⟨H66, v70, n71, cs72, rfl, r69, els73⟩
        refine ⟨_, rfl, ?_⟩
        have els73 := els73.mono (up_le S63.size)
        have S68 := S63.join (l' := [.row 3 1 v70 n71 cs72, .row 3 1 v41 n42 cs43]) r69 rfl
        refine ⟨(SP.nil (Sl.of_inc r69.run.inc S68.sl)), ?_⟩
        refine FB.all1 (i := 6) (by kernel_rfl) ?_
        ·
          obtain ⟨H74, S75, i76, h77, nv78⟩ := S68.sealRowU (i := 1) (l' := [.row 3 1 v70 n71 cs72]) rfl (els44.mono (up_mono r69.run.inc)) (by decide) rfl
          obtain ⟨H79, S80, i81, h82, nv83⟩ := S75.sealRowU (i := 0) (l' := []) rfl (els73.mono (up_mono i76)) (by decide) rfl
          refine FC.call (l' := (bs 8 127)) rfl (by kernel_rfl) rfl rfl rfl (E.call Tryz.call146 (A3 rfl rfl rfl)) (w_impl_ring_times S80.sl a0 v41 s40 (h77.mono (upI.tr i81)) v70 r64 (h82.mono upI) hr86) ?_
          rintro e w88 ⟨H87, v93, n94, cs95, rfl, r90, els96⟩
          refine ⟨_, rfl, ?_⟩
          obtain ⟨H91, r90, hU92⟩ := St.lendX (i76.tr i81) S68.sl r90
          have els96 := els96.mono (hU92.tr (up_le S68.size))
          have S89 := S68.join (l' := [.row 3 1 v93 n94 cs95, .row 3 1 v70 n71 cs72, .row 3 1 v41 n42 cs43]) r90 rfl
          refine ⟨(SP.nil (Sl.of_inc (r69.run.inc.tr r90.run.inc) S89.sl)), ?_⟩
          refine FB.t (i := 7) (bs 8 255) rfl (SP.nil (Sl.of_inc (r69.run.inc.tr r90.run.inc) S89.sl)) rfl (fun w' hw' => (E.assign (v := v93) rfl)) ?_
          exact FB.done (by kernel_rfl) ⟨_, _, _, _, (S89.sel [0] (by decide) rfl), (r69.run.inc.tr r90.run.inc), els96, k51, rfl, k53, k54, k50⟩
    ·
      rintro f105 w104 ⟨H101, v97, n98, cs99, S102, i103, els100, k106, k107, k108, k109, k110⟩
      refine FW.region ?_
      refine FL.v (E.add k110 rfl) ?_
      refine FL.v (E.move (v := Value.int .i64 (wr (((i40 : Nat) : Int) + 1))) rfl) ?_
      refine FL.nil ?_
      obtain rfl := Option.some.inj hp
      exact ⟨rfl, ⟨_, _, _, _, S102, (i47.tr i103), els100, (nat_succ rfl (lt_of_get hx40) (p1.mono (((i27.tr r34.run.inc).tr i47).tr i103)).le), k106, k107, k108, k109⟩⟩
  ·
    clear hp hq
    rintro s40 f122 w121 ⟨H118, v41, n42, cs43, S119, i120, els44, k123, k124, k125, k126, k127⟩
    refine FW.seq (FW.region ?_)
    refine FL.v (E.lss k123 k127) ?_
    refine FL.nil (FW.seq ?_)
    refine FW.condF rfl dlt_len ?_
    refine FW.exit ?_
    exact ⟨nofun, rfl, ⟨_, _, _, _, S119, i120, els44, k125⟩⟩
  ·
    clear hq
    intro e f116 w115 hD
    rcases q40 with s40 | x40
    ·
      obtain ⟨rfl, hD⟩ := hD
      obtain ⟨H112, v41, n42, cs43, S113, i114, els44, k117⟩ := hD
      replace hp := el_go hp
      refine FW.seq (FW.region ?_)
      refine FL.v (E.move k117) ?_
      refine FL.v (E.assign (v := v41) rfl) ?_
      refine FL.nil ?_
      refine FW.ret ?_
      obtain rfl := Option.some.inj hp
      exact ⟨.inr rfl, res1 rfl rfl ⟨_, _, _, _, rfl, S113, els44⟩⟩
    · exact x40.elim

@[reducible] def p_impl_algebraOf (Ha : GH) (wa : World) (r : ((Option algebra) × Bool)) : Ending → World → Prop :=
  fun e w' => ∃ H' : GH, ∃ v0 : Value, e = .returned (Value.tuple #[v0, Value.bool r.2]) ∧ Run wa.heap.size Ha wa H' w' ∧ OP (fun (q : Addr) (x : algebra) => ∃ v0R_3 : Value, ∃ v0R_4 : Value, RSl H' (eL eI 1) 1 v0R_3 x.f.clauses ∧ (∃ c, Nest (up wa.heap.size H') (eL eI 1) 1 v0R_4 x.q c) ∧ CAt H' q [Value.int .i64 x.ring.p, Value.int .i64 x.ring.vars, Value.int .i64 x.f.vars, v0R_3, v0R_4]) v0 r.1
theorem w_impl_algebraOf {Ha : GH} {wa : World} (hs : Sl Ha wa) (a0 : Int) (a1 : Cnf) (v1_1 : Value) (p1_1 : RSl Ha (eL eI 1) 1 v1_1 a1.clauses) {r : ((Option algebra) × Bool)} (hp : (PF.impl_algebraOf a0 a1) = some r) :
    Calls Tryz.prog 140 #[Value.int .i64 a0, Value.agg #[Value.int .i64 a1.vars, v1_1]] wa (p_impl_algebraOf Ha wa r) := by
  unfold PF.impl_algebraOf at hp
  have S0 := St.init hs
  refine calls_go (N := 50) (args := [Value.int .i64 a0, Value.agg #[Value.int .i64 a1.vars, v1_1]]) Tryz.func140 rfl rfl rfl ?_
  refine FW.seq (FW.region ?_)
  obtain ⟨b21, w22, run23, S24⟩ := S0.box (P := Tryz.prog) 30 [Value.int .i64 a1.vars, v1_1] (v := Value.agg #[Value.int .i64 a1.vars, v1_1]) rfl (ones_cons rfl (ones_cons p1_1.one ones_nil))
  refine FL.v (E.box rfl run23) ?_
  obtain ⟨H25, S26, i27, at28⟩ := S24.sealBox (i := 0) (l' := []) rfl rfl
  refine FL.v (E.assign (v := Value.pointer none) rfl) ?_
  refine FL.v (E.assign (v := Value.bool false) rfl) ?_
  refine FL.nil (FW.seq (FW.region ?_))
  refine FL.v (E.move (v := Value.int .i64 a0) rfl) ?_
  refine FL.v (E.fieldAddr tf30_0 rfl) ?_
  refine FL.v (E.load rfl (run_load1 Tryz.isAgg3 (at28.now S26.sl) rfl)) ?_
  refine FL.call rfl rfl rfl (E.call Tryz.call188 (A2 rfl rfl)) (w_impl_ringOf S26.sl a0 a1.vars) ?_
  rintro e w29 ⟨rfl, r30⟩
  refine ⟨_, rfl, ?_⟩
  have S31 := S26.call r30
  refine FL.v (E.move (v := Value.tuple #[Value.agg #[Value.int .i64 (((PF.impl_ringOf a0 a1.vars).1).p), Value.int .i64 (((PF.impl_ringOf a0 a1.vars).1).vars)], Value.bool ((PF.impl_ringOf a0 a1.vars).2)]) rfl) ?_
  refine FL.v (E.extract (i := 0) rfl rfl) ?_
  refine FL.v (E.extract (i := 1) rfl rfl) ?_
  obtain ⟨b32, w33, run34, S35⟩ := S31.alloc (P := Tryz.prog) 137 [Value.int .i64 0, Value.int .i64 0] Tryz.zeroValue137 rfl (ones_cons rfl (ones_cons rfl ones_nil))
  refine FL.v (E.alloc run34) ?_
  obtain ⟨w36, run37, S38⟩ := S35.store0 (P := Tryz.prog) (t := 137) (i := 0) (cs' := [Value.int .i64 (((PF.impl_ringOf a0 a1.vars).1).p), Value.int .i64 (((PF.impl_ringOf a0 a1.vars).1).vars)]) (l' := [.box b32 137 [Value.int .i64 (((PF.impl_ringOf a0 a1.vars).1).p), Value.int .i64 (((PF.impl_ringOf a0 a1.vars).1).vars)]]) (v := Value.agg #[Value.int .i64 (((PF.impl_ringOf a0 a1.vars).1).p), Value.int .i64 (((PF.impl_ringOf a0 a1.vars).1).vars)]) (c := [Value.int .i64 (((PF.impl_ringOf a0 a1.vars).1).p), Value.int .i64 (((PF.impl_ringOf a0 a1.vars).1).vars)]) rfl Tryz.sizeOf137 rfl rfl (ones_cons rfl (ones_cons rfl ones_nil)) (Nat.le_of_ble_eq_true rfl) rfl rfl
  refine FL.act rfl rfl (E.store rfl rfl run37) ?_
  obtain ⟨H39, S40, i41, at42⟩ := S38.sealBox (i := 0) (l' := []) rfl rfl
  refine FL.v (E.assign (v := Value.bool ((PF.impl_ringOf a0 a1.vars).2)) rfl) ?_
  refine FL.nil (FW.seq (FW.seq (FW.region ?_)))
  refine FL.v (E.move (v := Value.bool ((PF.impl_ringOf a0 a1.vars).2)) rfl) ?_
  refine FL.v (E.not rfl) ?_
  refine FL.v (E.move (v := Value.bool (!((PF.impl_ringOf a0 a1.vars).2))) rfl) ?_
  obtain ⟨t48, hqt48, hp⟩ := bnd hp
  refine FL.cut 4 (fun f w => ∃ H : GH, St Ha wa H w [] ∧ Inc H39 H ∧ f 3 = Value.pointer (some ⟨b21, 0, none⟩) ∧ f 6 = Value.pointer (some ⟨b32, 0, none⟩) ∧ f 24 = Value.bool t48) ?_ ?_
  ·
    clear hp; have hp := hqt48; clear hqt48
    rcases ifB hp with ⟨c54, hp⟩ | ⟨c54, hp⟩
    ·
      refine FL.skip (wF_no rfl rfl rfl c54) rfl ?_
      refine FL.skip (wF_no rfl rfl rfl c54) rfl ?_
      refine FL.skip (wF_no rfl rfl rfl c54) rfl ?_
      obtain rfl := Option.some.inj hp
      refine FL.v (E.pickT rfl c54 rfl) ?_
      exact FL.nil ⟨rfl, _, S40, (Inc.rfl _), rfl, rfl, rfl⟩
    ·
      refine FL.val (wF_yes rfl rfl rfl c54) rfl rfl (E.load rfl (run_loadA Tryz.isAgg30 Tryz.sizeOf30 ((at28.mono i41).now S40.sl) rfl)) ?_
      obtain ⟨r55, hr56, hp⟩ := bnd hp
      refine FL.call (wF_yes rfl rfl rfl c54) rfl rfl (E.call Tryz.call95 (A1 rfl)) (w_impl_IsCnf S40.sl a1 v1_1 (p1_1.mono (i27.tr i41)) hr56) ?_
      rintro e w57 ⟨rfl, r58⟩
      refine ⟨_, rfl, ?_⟩
      have S59 := S40.call r58
      refine FL.val (wF_yes rfl rfl rfl c54) rfl rfl (E.not rfl) ?_
      obtain rfl := Option.some.inj hp
      refine FL.v (E.pickF rfl c54 rfl) ?_
      exact FL.nil ⟨rfl, _, S59, (Inc.rfl _), rfl, rfl, rfl⟩
  rintro f53 w52 ⟨H49, S50, i51, k60, k61, k62⟩
  refine FL.nil ?_
  rcases ifB hp with ⟨c63, hp⟩ | ⟨c63, hp⟩
  ·
    refine FW.condT k62 c63 ?_
    refine FW.seq (FW.region ?_)
    refine FL.v (E.assign (v := Value.pointer none) rfl) ?_
    refine FL.v (E.assign (v := Value.bool false) rfl) ?_
    refine FL.nil ?_
    refine FW.ret ?_
    obtain rfl := Option.some.inj hp
    exact ⟨.inr rfl, res2 rfl rfl rfl ⟨_, _, rfl, S50.run, rfl⟩⟩
  ·
    refine FW.condF k62 c63 ?_
    refine FW.skip (FW.seq (FW.region ?_))
    refine FL.v (E.load k61 (run_loadA Tryz.isAgg137 Tryz.sizeOf137 ((at42.mono i51).now S50.sl) rfl)) ?_
    refine FL.v (E.load k60 (run_loadA Tryz.isAgg30 Tryz.sizeOf30 ((at28.mono (i41.tr i51)).now S50.sl) rfl)) ?_
    refine FL.v (E.build (B2 rfl rfl) (run_build _ 140 #[(0, Value.agg #[Value.int .i64 (((PF.impl_ringOf a0 a1.vars).1).p), Value.int .i64 (((PF.impl_ringOf a0 a1.vars).1).vars)]), (1, Value.agg #[Value.int .i64 a1.vars, v1_1])] #[Value.int .i64 (((PF.impl_ringOf a0 a1.vars).1).p), Value.int .i64 (((PF.impl_ringOf a0 a1.vars).1).vars), Value.int .i64 a1.vars, v1_1, Value.slice none 0 0] (by obtain ⟨_, _, rfl⟩ := RSl.ln (p1_1.mono ((i27.tr i41).tr i51)); rfl))) ?_
    have S68 := S50.nil 132 1
    have els69 : Els (up wa.heap.size H49) (eL eI 1) 1 [] [] := Els.nil
    obtain ⟨b64, w65, run66, S67⟩ := S68.box (P := Tryz.prog) 140 [Value.int .i64 (((PF.impl_ringOf a0 a1.vars).1).p), Value.int .i64 (((PF.impl_ringOf a0 a1.vars).1).vars), Value.int .i64 a1.vars, v1_1, (Value.slice none 0 0)] (v := Value.agg #[Value.int .i64 (((PF.impl_ringOf a0 a1.vars).1).p), Value.int .i64 (((PF.impl_ringOf a0 a1.vars).1).vars), Value.int .i64 a1.vars, v1_1, Value.slice none 0 0]) rfl (ones_cons rfl (ones_cons rfl (ones_cons rfl (ones_cons p1_1.one (ones_cons (Ln.one (S68.row_ln (i := 0) rfl)) ones_nil)))))
    refine FL.v (E.box rfl run66) ?_
    refine FL.v (E.assign (v := Value.pointer (some (⟨b64, 0, none⟩ : Addr))) rfl) ?_
    refine FL.nil (FW.seq (FW.seq (FW.region ?_)))
    refine FL.v (E.fieldAddr tf30_1 k60) ?_
    refine FL.v (E.load rfl (run_load1 Tryz.isAgg22 ((at28.mono (i41.tr i51)).now S67.sl) rfl)) ?_
    refine FL.v (E.lenP te22 rfl p1_1) ?_
    refine FL.v (E.move (v := Value.int .i64 0) rfl) ?_
    refine FL.nil ?_
    obtain ⟨q71, hq, hp⟩ := bndR hp
    refine FW.block ?_
    refine FW.mono (FW.forL (S := ((List (List Int)) × Int × Int × Int × (List (List Int)))) (X := Empty) (fun (i71 : Nat) (s71 : ((List (List Int)) × Int × Int × Int × (List (List Int)))) f w => ∃ H : GH, ∃ v43 : Value, ∃ n44 : Nat, ∃ cs45 : List Value, ∃ v72 : Value, St Ha wa H w [.box b64 140 [Value.int .i64 s71.2.1, Value.int .i64 s71.2.2.1, Value.int .i64 s71.2.2.2.1, v72, v43], .row 132 1 v43 n44 cs45] ∧ Inc H49 H ∧ Els (up wa.heap.size H) (eL eI 1) 1 cs45 s71.1 ∧ RSl H (eL eI 1) 1 v72 s71.2.2.2.2 ∧ (bl cs45).Nodup ∧ f 32 = Value.int .i64 ((i71 : Nat) : Int) ∧ f 6 = Value.pointer (some ⟨b32, 0, none⟩) ∧ f 8 = Value.pointer (some (⟨b64, 0, none⟩ : Addr)) ∧ f 30 = v1_1 ∧ f 31 = Value.int .i64 (len a1.clauses)) (fun (q : Rs ((List (List Int)) × Int × Int × Int × (List (List Int))) Empty) e f w => match q with | .go s71 => e = Exit.exit 0 ∧ (∃ H : GH, ∃ v43 : Value, ∃ n44 : Nat, ∃ cs45 : List Value, ∃ v72 : Value, St Ha wa H w [.box b64 140 [Value.int .i64 s71.2.1, Value.int .i64 s71.2.2.1, Value.int .i64 s71.2.2.2.1, v72, v43], .row 132 1 v43 n44 cs45] ∧ Inc H49 H ∧ Els (up wa.heap.size H) (eL eI 1) 1 cs45 s71.1 ∧ RSl H (eL eI 1) 1 v72 s71.2.2.2.2 ∧ (bl cs45).Nodup ∧ f 8 = Value.pointer (some (⟨b64, 0, none⟩ : Addr))) | .rt x => x.elim) hq ⟨_, _, _, _, _, S67, (Inc.rfl _), els69, (p1_1.mono ((i27.tr i41).tr i51)), (show (bl []).Nodup from List.nodup_nil), rfl, k61, rfl, rfl, rfl⟩ ?_ ?_) ?_
    ·
      clear hp hq
      rintro i71 y70 s71 f78 w77 ⟨H74, v43, n44, cs45, v72, S75, i76, els46, h73, nd47, k79, k80, k81, k82, k83⟩ hx71 o150 hp
      refine FW.seq (FW.region ?_)
      refine FL.v (E.lssT k79 k83 (lss_len hx71)) ?_
      refine FL.nil (FW.seq ?_)
      refine FW.condT rfl rfl ?_
      refine FW.skip (FW.seq (FW.block (FW.seq (FW.region ?_))))
      obtain ⟨p84, cs85, pt86, l87, at88, rel89⟩ := p1_1.at (ix_nat hx71)
      obtain ⟨v90, rfl, h91⟩ := eL_open rel89
      refine FL.v (E.indexAddr te22 k82 k79 pt86) ?_
      refine FL.v (E.load rfl (run_load0 Tryz.isAgg84 ((at88.mono (((i27.tr i41).tr i51).tr i76)).now S75.sl) rfl)) ?_
      refine FL.v (E.assign (v := v90) rfl) ?_
      refine FL.nil ?_
      obtain ⟨r95, hr96, hp⟩ := bnd hp
      obtain ⟨xs116, hz117, hp⟩ := bnd hp
      refine FW.drawB (Sl H74) (fun f w => ∃ H : GH, ∃ v131 : Value, ∃ n132 : Nat, ∃ cs133 : List Value, ∃ v136 : Value, St Ha wa H w [.box b64 140 [Value.int .i64 s71.2.1, Value.int .i64 s71.2.2.1, Value.int .i64 s71.2.2.2.1, v136, v131], .row 132 1 v131 n132 cs133] ∧ Inc H74 H ∧ Els (up wa.heap.size H) (eL eI 1) 1 cs133 xs116 ∧ RSl H (eL eI 1) 1 v136 s71.2.2.2.2 ∧ (bl cs133).Nodup ∧ f 6 = Value.pointer (some ⟨b32, 0, none⟩) ∧ f 8 = Value.pointer (some (⟨b64, 0, none⟩ : Addr)) ∧ f 30 = v1_1 ∧ f 31 = Value.int .i64 (len a1.clauses) ∧ f 32 = Value.int .i64 ((i71 : Nat) : Int)) (by kernel_rfl) S75.sl ?_ ?_
      ·
        intro w92 r93
        have S94 := S75.call r93
        refine FB.phase [12] (fun w => WAt w (Addr.add ⟨b64, 0, none⟩ 4) [v43]) ?_
        refine FB.t (i := 0) (bs 13 1) rfl (SP.on ((S94.box_now (i := 0) rfl).sub (j := 4) (n := 1) (c := [v43]) rfl) (SP.nil S94.sl)) rfl (fun w' hw' => (E.move k81)) ?_
        refine FB.t (i := 1) (bs 13 3) rfl (SP.on ((S94.box_now (i := 0) rfl).sub (j := 4) (n := 1) (c := [v43]) rfl) (SP.nil S94.sl)) rfl (fun w' hw' => (E.move k81)) ?_
        refine FB.t (i := 2) (bs 13 7) rfl (SP.on ((S94.box_now (i := 0) rfl).sub (j := 4) (n := 1) (c := [v43]) rfl) (SP.nil S94.sl)) rfl (fun w' hw' => (E.nilCheck rfl)) ?_
        refine FB.t (i := 3) (bs 13 15) rfl (SP.on ((S94.box_now (i := 0) rfl).sub (j := 4) (n := 1) (c := [v43]) rfl) (SP.nil S94.sl)) rfl (fun w' hw' => (E.fieldAddr tf140_2 rfl)) ?_
        refine FB.p (i := 4) (bs 13 31) 0 [9, 10, 11, 12] rfl (SP.on ((S94.box_now (i := 0) rfl).sub (j := 4) (n := 1) (c := [v43]) rfl) (SP.nil S94.sl)) rfl rfl (fun w' hw' => (E.load rfl (run_load0 Tryz.isAgg138 hw' rfl))) ?_
        refine FB.t (i := 5) (bs 13 63) rfl (SP.on ((S94.box_now (i := 0) rfl).sub (j := 4) (n := 1) (c := [v43]) rfl) (SP.nil S94.sl)) rfl (fun w' hw' => (E.load k80 (run_loadA Tryz.isAgg137 Tryz.sizeOf137 ((at42.mono (i51.tr i76)).now hw') rfl))) ?_
        refine FB.t (i := 6) (bs 13 127) rfl (SP.on ((S94.box_now (i := 0) rfl).sub (j := 4) (n := 1) (c := [v43]) rfl) (SP.nil S94.sl)) rfl (fun w' hw' => (E.move (v := v90) rfl)) ?_
        refine FB.all1 (i := 7) (by kernel_rfl) ?_
        ·
          refine FC.call (l' := (bs 13 255)) rfl (by kernel_rfl) rfl rfl rfl (E.call Tryz.call87 (A2 rfl rfl)) (w_impl_ring_clause S94.sl ((PF.impl_ringOf a0 a1.vars).1) v90 y70 (h91.mono (((i27.tr i41).tr i51).tr i76)) hr96) ?_
          rintro e w98 ⟨H97, v101, n102, cs103, rfl, r100, els104⟩
          refine ⟨_, rfl, ?_⟩
          have els104 := els104.mono (up_le S94.size)
          have S99 := S94.join (l' := [.row 3 1 v101 n102 cs103, .box b64 140 [Value.int .i64 s71.2.1, Value.int .i64 s71.2.2.1, Value.int .i64 s71.2.2.2.1, v72, v43], .row 132 1 v43 n44 cs45]) r100 rfl
          refine ⟨(SP.on ((S99.box_now (i := 1) rfl).sub (j := 4) (n := 1) (c := [v43]) rfl) (SP.nil (Sl.of_inc r100.run.inc S99.sl))), ?_⟩
          refine FB.all1 (i := 8) (by kernel_rfl) ?_
          ·
            obtain ⟨H105, S106, i107, h108, nv109⟩ := S99.sealRowU (i := 0) (l' := [.box b64 140 [Value.int .i64 s71.2.1, Value.int .i64 s71.2.2.1, Value.int .i64 s71.2.2.2.1, v72, v43], .row 132 1 v43 n44 cs45]) rfl els104 (by decide) rfl
            obtain ⟨v110, w111, run112, S113⟩ := S106.buildSlice (P := Tryz.prog) te138 [v101] (parts := #[(0, v101)]) (cells := [v101]) rfl (szs_cons (cells_size h108.cells) szs_nil) (fc_cons h108.cells fc_nil) (ones_cons h108.one ones_nil) (Nat.le_of_ble_eq_true rfl)
            have els114 : Els (up wa.heap.size H105) (eL eI 1) 1 [v101] [r95] := (Els.snoc (H := (up wa.heap.size H105)) (E := (eL eI 1)) (k := 1) (c := [v101]) (x := r95) Els.nil rfl ⟨_, rfl, h108⟩)
            have nd115 : (bl [v101]).Nodup := by exact nd_one v101
            refine FC.val (l' := (bs 13 511)) rfl (by kernel_rfl) rfl rfl rfl (E.buildSlice (B1 rfl) run112) ?_
            refine ⟨(SP.on ((S113.box_now (i := 1) rfl).sub (j := 4) (n := 1) (c := [v43]) rfl) (SP.nil (Sl.of_inc (r100.run.inc.tr i107) S113.sl))), ?_⟩
            refine FB.all1 (i := 9) (by kernel_rfl) ?_
            ·
              obtain ⟨v118, w121, n119, cs120, run122, S123, els124, ce125⟩ := S113.appendO (P := Tryz.prog) te138 (i := 2) (j := 0) rfl (els46.mono (up_mono (r100.run.inc.tr i107))) rfl els114 hz117
              have S123 : St Ha wa H105 w121 [.row 132 1 v110 1 [v101], .box b64 140 [Value.int .i64 s71.2.1, Value.int .i64 s71.2.2.1, Value.int .i64 s71.2.2.2.1, v72, v43], .row 132 1 v118 n119 cs120] := S123
              have nd126 : (bl cs120).Nodup := by rw [ce125]; exact nd_app nd47 nd115 (Els.dom (els46.mono (upI.tr r100.run.inc))) (by exact nv109)
              have S127 : St Ha wa H105 w121 [.box b64 140 [Value.int .i64 s71.2.1, Value.int .i64 s71.2.2.1, Value.int .i64 s71.2.2.2.1, v72, v43], .row 132 1 v118 n119 cs120] := S123.drop 0
              refine FC.val (l' := (bs 13 1023)) rfl (by kernel_rfl) rfl rfl rfl (E.append rfl rfl run122) ?_
              refine ⟨(SP.on ((S127.box_now (i := 0) rfl).sub (j := 4) (n := 1) (c := [v43]) rfl) (SP.nil (Sl.of_inc (r100.run.inc.tr i107) S127.sl))), ?_⟩
              refine FB.t (i := 10) (bs 13 2047) rfl (SP.on ((S127.box_now (i := 0) rfl).sub (j := 4) (n := 1) (c := [v43]) rfl) (SP.nil (Sl.of_inc (r100.run.inc.tr i107) S127.sl))) rfl (fun w' hw' => (E.nilCheck rfl)) ?_
              refine FB.t (i := 11) (bs 13 4095) rfl (SP.on ((S127.box_now (i := 0) rfl).sub (j := 4) (n := 1) (c := [v43]) rfl) (SP.nil (Sl.of_inc (r100.run.inc.tr i107) S127.sl))) rfl (fun w' hw' => (E.fieldAddr tf140_2 rfl)) ?_
              refine FB.all1 (i := 12) (by kernel_rfl) ?_
              ·
                obtain ⟨w128, run129, S130⟩ := S127.store (P := Tryz.prog) (t := 138) (i := 0) (j := 4) (cs' := [Value.int .i64 s71.2.1, Value.int .i64 s71.2.2.1, Value.int .i64 s71.2.2.2.1, v72, v118]) (l' := [.box b64 140 [Value.int .i64 s71.2.1, Value.int .i64 s71.2.2.1, Value.int .i64 s71.2.2.2.1, v72, v118], .row 132 1 v118 n119 cs120]) (v := v118) (c := [v118]) rfl Tryz.sizeOf138 (Ln.cells (S127.row_ln (i := 1) rfl)) rfl (ones_cons (Ln.one (S127.row_ln (i := 1) rfl)) ones_nil) (Nat.le_of_ble_eq_true rfl) rfl rfl
                refine FC.act (l' := (bs 13 8191)) rfl (by kernel_rfl) rfl rfl (E.store rfl rfl run129) ?_
                refine ⟨(SP.o (SP.nil (Sl.of_inc (r100.run.inc.tr i107) S130.sl))), ?_⟩
                exact FB.done (by kernel_rfl) ⟨_, _, _, _, _, S130, (r100.run.inc.tr i107), els124, (h73.mono (r100.run.inc.tr i107)), nd126, k80, k81, k82, k83, k79⟩
      ·
        rintro f144 w143 ⟨H139, v131, n132, cs133, v136, S141, i142, els134, h137, nd135, k145, k146, k147, k148, k149⟩
        refine FW.region ?_
        refine FL.v (E.add k149 rfl) ?_
        refine FL.v (E.move (v := Value.int .i64 (wr (((i71 : Nat) : Int) + 1))) rfl) ?_
        refine FL.nil ?_
        obtain rfl := Option.some.inj hp
        exact ⟨rfl, ⟨_, _, _, _, _, S141, (i76.tr i142), els134, h137, nd135, (nat_succ rfl (lt_of_get hx71) (p1_1.mono ((((i27.tr i41).tr i51).tr i76).tr i142)).le), k145, k146, k147, k148⟩⟩
    ·
      clear hp hq
      rintro s71 f171 w170 ⟨H167, v43, n44, cs45, v72, S168, i169, els46, h73, nd47, k172, k173, k174, k175, k176⟩
      refine FW.seq (FW.region ?_)
      refine FL.v (E.lss k172 k176) ?_
      refine FL.nil (FW.seq ?_)
      refine FW.condF rfl dlt_len ?_
      refine FW.exit ?_
      exact ⟨nofun, rfl, ⟨_, _, _, _, _, S168, i169, els46, h73, nd47, k174⟩⟩
    ·
      clear hq
      intro e f155 w154 hD
      rcases q71 with s71 | x71
      ·
        obtain ⟨rfl, hD⟩ := hD
        obtain ⟨H151, v43, n44, cs45, v72, S152, i153, els46, h73, nd47, k156⟩ := hD
        replace hp := el_go hp
        refine FW.seq (FW.region ?_)
        refine FL.v (E.move k156) ?_
        refine FL.v (E.assign (v := Value.pointer (some (⟨b64, 0, none⟩ : Addr))) rfl) ?_
        refine FL.v (E.assign (v := Value.bool true) rfl) ?_
        refine FL.nil ?_
        refine FW.ret ?_
        obtain ⟨H157, S158, i159, ns162, nv161⟩ := S152.sealRowN (i := 1) (l' := [.box b64 140 [Value.int .i64 s71.2.1, Value.int .i64 s71.2.2.1, Value.int .i64 s71.2.2.2.1, v72, v43]]) rfl els46 nd47 (by decide) rfl
        have h160 := ns162.rsl
        obtain ⟨H163, S164, i165, at166⟩ := S158.sealBox (i := 0) (l' := []) rfl rfl
        obtain rfl := Option.some.inj hp
        exact ⟨.inr rfl, res2 rfl rfl rfl ⟨_, _, rfl, S164.run, ⟨_, rfl, _, _, (h73.mono (i159.tr i165)), ⟨_, (ns162.mono (up_mono i165))⟩, at166⟩⟩⟩
      · exact x71.elim

theorem w_impl_degreeOk {Ha : GH} {wa : World} (hs : Sl Ha wa) (a0 : Int) :
  Calls Tryz.prog 141 #[Value.int .i64 a0] wa (Sc Ha wa (Value.bool (PF.impl_degreeOk a0))) := by
 obtain ⟨r, hp⟩ : ∃ r, (PF.impl_degreeOk a0) = r := ⟨_, rfl⟩
 rw [hp]
 unfold PF.impl_degreeOk at hp
 have S0 := St.init hs
 refine calls_go (N := 5) (args := [Value.int .i64 a0]) Tryz.func141 rfl rfl rfl ?_
 refine FW.seq (FW.region ?_)
 refine FL.v (E.assign (v := Value.bool false) rfl) ?_
 refine FL.nil (FW.seq (FW.region ?_))
 refine FL.v (E.move (v := Value.int .i64 a0) rfl) ?_
 refine FL.call rfl rfl rfl (E.call Tryz.call108 (A3 rfl rfl rfl)) (w_impl_within S0.sl a0 0 6) ?_
 rintro e w21 ⟨rfl, r22⟩
 refine ⟨_, rfl, ?_⟩
 have S23 := S0.call r22
 refine FL.v (E.assign (v := Value.bool (PF.impl_within a0 0 6)) rfl) ?_
 refine FL.nil ?_
 refine FW.ret ?_
 obtain rfl := hp
 exact ⟨.inr rfl, res1 rfl rfl ⟨rfl, S23.back⟩⟩

theorem w_math_bits_OnesCount64 {Ha : GH} {wa : World} (hs : Sl Ha wa) (a0 : Int) :
  Calls Tryz.prog 247 #[Value.int .u64 a0] wa (Sc Ha wa (Value.int .i64 (PF.math_bits_OnesCount64 a0))) := by
 obtain ⟨r, hp⟩ : ∃ r, (PF.math_bits_OnesCount64 a0) = r := ⟨_, rfl⟩
 rw [hp]
 unfold PF.math_bits_OnesCount64 at hp
 have S0 := St.init hs
 refine calls_go (N := 35) (args := [Value.int .u64 a0]) Tryz.func247 rfl rfl rfl ?_
 refine FW.seq (FW.region ?_)
 refine FL.v (E.assign (v := Value.int .i64 0) rfl) ?_
 refine FL.nil (FW.seq (FW.region ?_))
 refine FL.v (E.move (v := Value.int .u64 a0) rfl) ?_
 refine FL.v (E.shr rfl rfl (by decide)) ?_
 refine FL.v (E.and rfl rfl) ?_
 refine FL.v (E.move (v := Value.int .u64 a0) rfl) ?_
 refine FL.v (E.and rfl rfl) ?_
 refine FL.v (E.addK rfl rfl) ?_
 refine FL.v (E.assign (v := Value.int .u64 (wrk false 64 ((andK false 64 (shrK 64 a0 1) 6148914691236517205) + (andK false 64 a0 6148914691236517205)))) rfl) ?_
 refine FL.nil (FW.seq (FW.region ?_))
 refine FL.v (E.move (v := Value.int .u64 (wrk false 64 ((andK false 64 (shrK 64 a0 1) 6148914691236517205) + (andK false 64 a0 6148914691236517205)))) rfl) ?_
 refine FL.v (E.shr rfl rfl (by decide)) ?_
 refine FL.v (E.and rfl rfl) ?_
 refine FL.v (E.move (v := Value.int .u64 (wrk false 64 ((andK false 64 (shrK 64 a0 1) 6148914691236517205) + (andK false 64 a0 6148914691236517205)))) rfl) ?_
 refine FL.v (E.and rfl rfl) ?_
 refine FL.v (E.addK rfl rfl) ?_
 refine FL.v (E.assign (v := Value.int .u64 (wrk false 64 ((andK false 64 (shrK 64 (wrk false 64 ((andK false 64 (shrK 64 a0 1) 6148914691236517205) + (andK false 64 a0 6148914691236517205))) 2) 3689348814741910323) + (andK false 64 (wrk false 64 ((andK false 64 (shrK 64 a0 1) 6148914691236517205) + (andK false 64 a0 6148914691236517205))) 3689348814741910323)))) rfl) ?_
 refine FL.nil (FW.seq (FW.region ?_))
 refine FL.v (E.move (v := Value.int .u64 (wrk false 64 ((andK false 64 (shrK 64 (wrk false 64 ((andK false 64 (shrK 64 a0 1) 6148914691236517205) + (andK false 64 a0 6148914691236517205))) 2) 3689348814741910323) + (andK false 64 (wrk false 64 ((andK false 64 (shrK 64 a0 1) 6148914691236517205) + (andK false 64 a0 6148914691236517205))) 3689348814741910323)))) rfl) ?_
 refine FL.v (E.shr rfl rfl (by decide)) ?_
 refine FL.v (E.move (v := Value.int .u64 (wrk false 64 ((andK false 64 (shrK 64 (wrk false 64 ((andK false 64 (shrK 64 a0 1) 6148914691236517205) + (andK false 64 a0 6148914691236517205))) 2) 3689348814741910323) + (andK false 64 (wrk false 64 ((andK false 64 (shrK 64 a0 1) 6148914691236517205) + (andK false 64 a0 6148914691236517205))) 3689348814741910323)))) rfl) ?_
 refine FL.v (E.addK rfl rfl) ?_
 refine FL.v (E.and rfl rfl) ?_
 refine FL.v (E.assign (v := Value.int .u64 (andK false 64 (wrk false 64 ((shrK 64 (wrk false 64 ((andK false 64 (shrK 64 (wrk false 64 ((andK false 64 (shrK 64 a0 1) 6148914691236517205) + (andK false 64 a0 6148914691236517205))) 2) 3689348814741910323) + (andK false 64 (wrk false 64 ((andK false 64 (shrK 64 a0 1) 6148914691236517205) + (andK false 64 a0 6148914691236517205))) 3689348814741910323))) 4) + (wrk false 64 ((andK false 64 (shrK 64 (wrk false 64 ((andK false 64 (shrK 64 a0 1) 6148914691236517205) + (andK false 64 a0 6148914691236517205))) 2) 3689348814741910323) + (andK false 64 (wrk false 64 ((andK false 64 (shrK 64 a0 1) 6148914691236517205) + (andK false 64 a0 6148914691236517205))) 3689348814741910323))))) 1085102592571150095)) rfl) ?_
 refine FL.nil (FW.seq (FW.region ?_))
 refine FL.v (E.move (v := Value.int .u64 (andK false 64 (wrk false 64 ((shrK 64 (wrk false 64 ((andK false 64 (shrK 64 (wrk false 64 ((andK false 64 (shrK 64 a0 1) 6148914691236517205) + (andK false 64 a0 6148914691236517205))) 2) 3689348814741910323) + (andK false 64 (wrk false 64 ((andK false 64 (shrK 64 a0 1) 6148914691236517205) + (andK false 64 a0 6148914691236517205))) 3689348814741910323))) 4) + (wrk false 64 ((andK false 64 (shrK 64 (wrk false 64 ((andK false 64 (shrK 64 a0 1) 6148914691236517205) + (andK false 64 a0 6148914691236517205))) 2) 3689348814741910323) + (andK false 64 (wrk false 64 ((andK false 64 (shrK 64 a0 1) 6148914691236517205) + (andK false 64 a0 6148914691236517205))) 3689348814741910323))))) 1085102592571150095)) rfl) ?_
 refine FL.v (E.move (v := Value.int .u64 (andK false 64 (wrk false 64 ((shrK 64 (wrk false 64 ((andK false 64 (shrK 64 (wrk false 64 ((andK false 64 (shrK 64 a0 1) 6148914691236517205) + (andK false 64 a0 6148914691236517205))) 2) 3689348814741910323) + (andK false 64 (wrk false 64 ((andK false 64 (shrK 64 a0 1) 6148914691236517205) + (andK false 64 a0 6148914691236517205))) 3689348814741910323))) 4) + (wrk false 64 ((andK false 64 (shrK 64 (wrk false 64 ((andK false 64 (shrK 64 a0 1) 6148914691236517205) + (andK false 64 a0 6148914691236517205))) 2) 3689348814741910323) + (andK false 64 (wrk false 64 ((andK false 64 (shrK 64 a0 1) 6148914691236517205) + (andK false 64 a0 6148914691236517205))) 3689348814741910323))))) 1085102592571150095)) rfl) ?_
 refine FL.v (E.shr rfl rfl (by decide)) ?_
 refine FL.v (E.addK rfl rfl) ?_
 refine FL.v (E.assign (v := Value.int .u64 (wrk false 64 ((andK false 64 (wrk false 64 ((shrK 64 (wrk false 64 ((andK false 64 (shrK 64 (wrk false 64 ((andK false 64 (shrK 64 a0 1) 6148914691236517205) + (andK false 64 a0 6148914691236517205))) 2) 3689348814741910323) + (andK false 64 (wrk false 64 ((andK false 64 (shrK 64 a0 1) 6148914691236517205) + (andK false 64 a0 6148914691236517205))) 3689348814741910323))) 4) + (wrk false 64 ((andK false 64 (shrK 64 (wrk false 64 ((andK false 64 (shrK 64 a0 1) 6148914691236517205) + (andK false 64 a0 6148914691236517205))) 2) 3689348814741910323) + (andK false 64 (wrk false 64 ((andK false 64 (shrK 64 a0 1) 6148914691236517205) + (andK false 64 a0 6148914691236517205))) 3689348814741910323))))) 1085102592571150095) + (shrK 64 (andK false 64 (wrk false 64 ((shrK 64 (wrk false 64 ((andK false 64 (shrK 64 (wrk false 64 ((andK false 64 (shrK 64 a0 1) 6148914691236517205) + (andK false 64 a0 6148914691236517205))) 2) 3689348814741910323) + (andK false 64 (wrk false 64 ((andK false 64 (shrK 64 a0 1) 6148914691236517205) + (andK false 64 a0 6148914691236517205))) 3689348814741910323))) 4) + (wrk false 64 ((andK false 64 (shrK 64 (wrk false 64 ((andK false 64 (shrK 64 a0 1) 6148914691236517205) + (andK false 64 a0 6148914691236517205))) 2) 3689348814741910323) + (andK false 64 (wrk false 64 ((andK false 64 (shrK 64 a0 1) 6148914691236517205) + (andK false 64 a0 6148914691236517205))) 3689348814741910323))))) 1085102592571150095) 8)))) rfl) ?_
 refine FL.nil (FW.seq (FW.region ?_))
 refine FL.v (E.move (v := Value.int .u64 (wrk false 64 ((andK false 64 (wrk false 64 ((shrK 64 (wrk false 64 ((andK false 64 (shrK 64 (wrk false 64 ((andK false 64 (shrK 64 a0 1) 6148914691236517205) + (andK false 64 a0 6148914691236517205))) 2) 3689348814741910323) + (andK false 64 (wrk false 64 ((andK false 64 (shrK 64 a0 1) 6148914691236517205) + (andK false 64 a0 6148914691236517205))) 3689348814741910323))) 4) + (wrk false 64 ((andK false 64 (shrK 64 (wrk false 64 ((andK false 64 (shrK 64 a0 1) 6148914691236517205) + (andK false 64 a0 6148914691236517205))) 2) 3689348814741910323) + (andK false 64 (wrk false 64 ((andK false 64 (shrK 64 a0 1) 6148914691236517205) + (andK false 64 a0 6148914691236517205))) 3689348814741910323))))) 1085102592571150095) + (shrK 64 (andK false 64 (wrk false 64 ((shrK 64 (wrk false 64 ((andK false 64 (shrK 64 (wrk false 64 ((andK false 64 (shrK 64 a0 1) 6148914691236517205) + (andK false 64 a0 6148914691236517205))) 2) 3689348814741910323) + (andK false 64 (wrk false 64 ((andK false 64 (shrK 64 a0 1) 6148914691236517205) + (andK false 64 a0 6148914691236517205))) 3689348814741910323))) 4) + (wrk false 64 ((andK false 64 (shrK 64 (wrk false 64 ((andK false 64 (shrK 64 a0 1) 6148914691236517205) + (andK false 64 a0 6148914691236517205))) 2) 3689348814741910323) + (andK false 64 (wrk false 64 ((andK false 64 (shrK 64 a0 1) 6148914691236517205) + (andK false 64 a0 6148914691236517205))) 3689348814741910323))))) 1085102592571150095) 8)))) rfl) ?_
 refine FL.v (E.move (v := Value.int .u64 (wrk false 64 ((andK false 64 (wrk false 64 ((shrK 64 (wrk false 64 ((andK false 64 (shrK 64 (wrk false 64 ((andK false 64 (shrK 64 a0 1) 6148914691236517205) + (andK false 64 a0 6148914691236517205))) 2) 3689348814741910323) + (andK false 64 (wrk false 64 ((andK false 64 (shrK 64 a0 1) 6148914691236517205) + (andK false 64 a0 6148914691236517205))) 3689348814741910323))) 4) + (wrk false 64 ((andK false 64 (shrK 64 (wrk false 64 ((andK false 64 (shrK 64 a0 1) 6148914691236517205) + (andK false 64 a0 6148914691236517205))) 2) 3689348814741910323) + (andK false 64 (wrk false 64 ((andK false 64 (shrK 64 a0 1) 6148914691236517205) + (andK false 64 a0 6148914691236517205))) 3689348814741910323))))) 1085102592571150095) + (shrK 64 (andK false 64 (wrk false 64 ((shrK 64 (wrk false 64 ((andK false 64 (shrK 64 (wrk false 64 ((andK false 64 (shrK 64 a0 1) 6148914691236517205) + (andK false 64 a0 6148914691236517205))) 2) 3689348814741910323) + (andK false 64 (wrk false 64 ((andK false 64 (shrK 64 a0 1) 6148914691236517205) + (andK false 64 a0 6148914691236517205))) 3689348814741910323))) 4) + (wrk false 64 ((andK false 64 (shrK 64 (wrk false 64 ((andK false 64 (shrK 64 a0 1) 6148914691236517205) + (andK false 64 a0 6148914691236517205))) 2) 3689348814741910323) + (andK false 64 (wrk false 64 ((andK false 64 (shrK 64 a0 1) 6148914691236517205) + (andK false 64 a0 6148914691236517205))) 3689348814741910323))))) 1085102592571150095) 8)))) rfl) ?_
 refine FL.v (E.shr rfl rfl (by decide)) ?_
 refine FL.v (E.addK rfl rfl) ?_
 refine FL.v (E.assign (v := Value.int .u64 (wrk false 64 ((wrk false 64 ((andK false 64 (wrk false 64 ((shrK 64 (wrk false 64 ((andK false 64 (shrK 64 (wrk false 64 ((andK false 64 (shrK 64 a0 1) 6148914691236517205) + (andK false 64 a0 6148914691236517205))) 2) 3689348814741910323) + (andK false 64 (wrk false 64 ((andK false 64 (shrK 64 a0 1) 6148914691236517205) + (andK false 64 a0 6148914691236517205))) 3689348814741910323))) 4) + (wrk false 64 ((andK false 64 (shrK 64 (wrk false 64 ((andK false 64 (shrK 64 a0 1) 6148914691236517205) + (andK false 64 a0 6148914691236517205))) 2) 3689348814741910323) + (andK false 64 (wrk false 64 ((andK false 64 (shrK 64 a0 1) 6148914691236517205) + (andK false 64 a0 6148914691236517205))) 3689348814741910323))))) 1085102592571150095) + (shrK 64 (andK false 64 (wrk false 64 ((shrK 64 (wrk false 64 ((andK false 64 (shrK 64 (wrk false 64 ((andK false 64 (shrK 64 a0 1) 6148914691236517205) + (andK false 64 a0 6148914691236517205))) 2) 3689348814741910323) + (andK false 64 (wrk false 64 ((andK false 64 (shrK 64 a0 1) 6148914691236517205) + (andK false 64 a0 6148914691236517205))) 3689348814741910323))) 4) + (wrk false 64 ((andK false 64 (shrK 64 (wrk false 64 ((andK false 64 (shrK 64 a0 1) 6148914691236517205) + (andK false 64 a0 6148914691236517205))) 2) 3689348814741910323) + (andK false 64 (wrk false 64 ((andK false 64 (shrK 64 a0 1) 6148914691236517205) + (andK false 64 a0 6148914691236517205))) 3689348814741910323))))) 1085102592571150095) 8))) + (shrK 64 (wrk false 64 ((andK false 64 (wrk false 64 ((shrK 64 (wrk false 64 ((andK false 64 (shrK 64 (wrk false 64 ((andK false 64 (shrK 64 a0 1) 6148914691236517205) + (andK false 64 a0 6148914691236517205))) 2) 3689348814741910323) + (andK false 64 (wrk false 64 ((andK false 64 (shrK 64 a0 1) 6148914691236517205) + (andK false 64 a0 6148914691236517205))) 3689348814741910323))) 4) + (wrk false 64 ((andK false 64 (shrK 64 (wrk false 64 ((andK false 64 (shrK 64 a0 1) 6148914691236517205) + (andK false 64 a0 6148914691236517205))) 2) 3689348814741910323) + (andK false 64 (wrk false 64 ((andK false 64 (shrK 64 a0 1) 6148914691236517205) + (andK false 64 a0 6148914691236517205))) 3689348814741910323))))) 1085102592571150095) + (shrK 64 (andK false 64 (wrk false 64 ((shrK 64 (wrk false 64 ((andK false 64 (shrK 64 (wrk false 64 ((andK false 64 (shrK 64 a0 1) 6148914691236517205) + (andK false 64 a0 6148914691236517205))) 2) 3689348814741910323) + (andK false 64 (wrk false 64 ((andK false 64 (shrK 64 a0 1) 6148914691236517205) + (andK false 64 a0 6148914691236517205))) 3689348814741910323))) 4) + (wrk false 64 ((andK false 64 (shrK 64 (wrk false 64 ((andK false 64 (shrK 64 a0 1) 6148914691236517205) + (andK false 64 a0 6148914691236517205))) 2) 3689348814741910323) + (andK false 64 (wrk false 64 ((andK false 64 (shrK 64 a0 1) 6148914691236517205) + (andK false 64 a0 6148914691236517205))) 3689348814741910323))))) 1085102592571150095) 8))) 16)))) rfl) ?_
 refine FL.nil (FW.seq (FW.region ?_))
 refine FL.v (E.move (v := Value.int .u64 (wrk false 64 ((wrk false 64 ((andK false 64 (wrk false 64 ((shrK 64 (wrk false 64 ((andK false 64 (shrK 64 (wrk false 64 ((andK false 64 (shrK 64 a0 1) 6148914691236517205) + (andK false 64 a0 6148914691236517205))) 2) 3689348814741910323) + (andK false 64 (wrk false 64 ((andK false 64 (shrK 64 a0 1) 6148914691236517205) + (andK false 64 a0 6148914691236517205))) 3689348814741910323))) 4) + (wrk false 64 ((andK false 64 (shrK 64 (wrk false 64 ((andK false 64 (shrK 64 a0 1) 6148914691236517205) + (andK false 64 a0 6148914691236517205))) 2) 3689348814741910323) + (andK false 64 (wrk false 64 ((andK false 64 (shrK 64 a0 1) 6148914691236517205) + (andK false 64 a0 6148914691236517205))) 3689348814741910323))))) 1085102592571150095) + (shrK 64 (andK false 64 (wrk false 64 ((shrK 64 (wrk false 64 ((andK false 64 (shrK 64 (wrk false 64 ((andK false 64 (shrK 64 a0 1) 6148914691236517205) + (andK false 64 a0 6148914691236517205))) 2) 3689348814741910323) + (andK false 64 (wrk false 64 ((andK false 64 (shrK 64 a0 1) 6148914691236517205) + (andK false 64 a0 6148914691236517205))) 3689348814741910323))) 4) + (wrk false 64 ((andK false 64 (shrK 64 (wrk false 64 ((andK false 64 (shrK 64 a0 1) 6148914691236517205) + (andK false 64 a0 6148914691236517205))) 2) 3689348814741910323) + (andK false 64 (wrk false 64 ((andK false 64 (shrK 64 a0 1) 6148914691236517205) + (andK false 64 a0 6148914691236517205))) 3689348814741910323))))) 1085102592571150095) 8))) + (shrK 64 (wrk false 64 ((andK false 64 (wrk false 64 ((shrK 64 (wrk false 64 ((andK false 64 (shrK 64 (wrk false 64 ((andK false 64 (shrK 64 a0 1) 6148914691236517205) + (andK false 64 a0 6148914691236517205))) 2) 3689348814741910323) + (andK false 64 (wrk false 64 ((andK false 64 (shrK 64 a0 1) 6148914691236517205) + (andK false 64 a0 6148914691236517205))) 3689348814741910323))) 4) + (wrk false 64 ((andK false 64 (shrK 64 (wrk false 64 ((andK false 64 (shrK 64 a0 1) 6148914691236517205) + (andK false 64 a0 6148914691236517205))) 2) 3689348814741910323) + (andK false 64 (wrk false 64 ((andK false 64 (shrK 64 a0 1) 6148914691236517205) + (andK false 64 a0 6148914691236517205))) 3689348814741910323))))) 1085102592571150095) + (shrK 64 (andK false 64 (wrk false 64 ((shrK 64 (wrk false 64 ((andK false 64 (shrK 64 (wrk false 64 ((andK false 64 (shrK 64 a0 1) 6148914691236517205) + (andK false 64 a0 6148914691236517205))) 2) 3689348814741910323) + (andK false 64 (wrk false 64 ((andK false 64 (shrK 64 a0 1) 6148914691236517205) + (andK false 64 a0 6148914691236517205))) 3689348814741910323))) 4) + (wrk false 64 ((andK false 64 (shrK 64 (wrk false 64 ((andK false 64 (shrK 64 a0 1) 6148914691236517205) + (andK false 64 a0 6148914691236517205))) 2) 3689348814741910323) + (andK false 64 (wrk false 64 ((andK false 64 (shrK 64 a0 1) 6148914691236517205) + (andK false 64 a0 6148914691236517205))) 3689348814741910323))))) 1085102592571150095) 8))) 16)))) rfl) ?_
 refine FL.v (E.move (v := Value.int .u64 (wrk false 64 ((wrk false 64 ((andK false 64 (wrk false 64 ((shrK 64 (wrk false 64 ((andK false 64 (shrK 64 (wrk false 64 ((andK false 64 (shrK 64 a0 1) 6148914691236517205) + (andK false 64 a0 6148914691236517205))) 2) 3689348814741910323) + (andK false 64 (wrk false 64 ((andK false 64 (shrK 64 a0 1) 6148914691236517205) + (andK false 64 a0 6148914691236517205))) 3689348814741910323))) 4) + (wrk false 64 ((andK false 64 (shrK 64 (wrk false 64 ((andK false 64 (shrK 64 a0 1) 6148914691236517205) + (andK false 64 a0 6148914691236517205))) 2) 3689348814741910323) + (andK false 64 (wrk false 64 ((andK false 64 (shrK 64 a0 1) 6148914691236517205) + (andK false 64 a0 6148914691236517205))) 3689348814741910323))))) 1085102592571150095) + (shrK 64 (andK false 64 (wrk false 64 ((shrK 64 (wrk false 64 ((andK false 64 (shrK 64 (wrk false 64 ((andK false 64 (shrK 64 a0 1) 6148914691236517205) + (andK false 64 a0 6148914691236517205))) 2) 3689348814741910323) + (andK false 64 (wrk false 64 ((andK false 64 (shrK 64 a0 1) 6148914691236517205) + (andK false 64 a0 6148914691236517205))) 3689348814741910323))) 4) + (wrk false 64 ((andK false 64 (shrK 64 (wrk false 64 ((andK false 64 (shrK 64 a0 1) 6148914691236517205) + (andK false 64 a0 6148914691236517205))) 2) 3689348814741910323) + (andK false 64 (wrk false 64 ((andK false 64 (shrK 64 a0 1) 6148914691236517205) + (andK false 64 a0 6148914691236517205))) 3689348814741910323))))) 1085102592571150095) 8))) + (shrK 64 (wrk false 64 ((andK false 64 (wrk false 64 ((shrK 64 (wrk false 64 ((andK false 64 (shrK 64 (wrk false 64 ((andK false 64 (shrK 64 a0 1) 6148914691236517205) + (andK false 64 a0 6148914691236517205))) 2) 3689348814741910323) + (andK false 64 (wrk false 64 ((andK false 64 (shrK 64 a0 1) 6148914691236517205) + (andK false 64 a0 6148914691236517205))) 3689348814741910323))) 4) + (wrk false 64 ((andK false 64 (shrK 64 (wrk false 64 ((andK false 64 (shrK 64 a0 1) 6148914691236517205) + (andK false 64 a0 6148914691236517205))) 2) 3689348814741910323) + (andK false 64 (wrk false 64 ((andK false 64 (shrK 64 a0 1) 6148914691236517205) + (andK false 64 a0 6148914691236517205))) 3689348814741910323))))) 1085102592571150095) + (shrK 64 (andK false 64 (wrk false 64 ((shrK 64 (wrk false 64 ((andK false 64 (shrK 64 (wrk false 64 ((andK false 64 (shrK 64 a0 1) 6148914691236517205) + (andK false 64 a0 6148914691236517205))) 2) 3689348814741910323) + (andK false 64 (wrk false 64 ((andK false 64 (shrK 64 a0 1) 6148914691236517205) + (andK false 64 a0 6148914691236517205))) 3689348814741910323))) 4) + (wrk false 64 ((andK false 64 (shrK 64 (wrk false 64 ((andK false 64 (shrK 64 a0 1) 6148914691236517205) + (andK false 64 a0 6148914691236517205))) 2) 3689348814741910323) + (andK false 64 (wrk false 64 ((andK false 64 (shrK 64 a0 1) 6148914691236517205) + (andK false 64 a0 6148914691236517205))) 3689348814741910323))))) 1085102592571150095) 8))) 16)))) rfl) ?_
 refine FL.v (E.shr rfl rfl (by decide)) ?_
 refine FL.v (E.addK rfl rfl) ?_
 refine FL.v (E.assign (v := Value.int .u64 (wrk false 64 ((wrk false 64 ((wrk false 64 ((andK false 64 (wrk false 64 ((shrK 64 (wrk false 64 ((andK false 64 (shrK 64 (wrk false 64 ((andK false 64 (shrK 64 a0 1) 6148914691236517205) + (andK false 64 a0 6148914691236517205))) 2) 3689348814741910323) + (andK false 64 (wrk false 64 ((andK false 64 (shrK 64 a0 1) 6148914691236517205) + (andK false 64 a0 6148914691236517205))) 3689348814741910323))) 4) + (wrk false 64 ((andK false 64 (shrK 64 (wrk false 64 ((andK false 64 (shrK 64 a0 1) 6148914691236517205) + (andK false 64 a0 6148914691236517205))) 2) 3689348814741910323) + (andK false 64 (wrk false 64 ((andK false 64 (shrK 64 a0 1) 6148914691236517205) + (andK false 64 a0 6148914691236517205))) 3689348814741910323))))) 1085102592571150095) + (shrK 64 (andK false 64 (wrk false 64 ((shrK 64 (wrk false 64 ((andK false 64 (shrK 64 (wrk false 64 ((andK false 64 (shrK 64 a0 1) 6148914691236517205) + (andK false 64 a0 6148914691236517205))) 2) 3689348814741910323) + (andK false 64 (wrk false 64 ((andK false 64 (shrK 64 a0 1) 6148914691236517205) + (andK false 64 a0 6148914691236517205))) 3689348814741910323))) 4) + (wrk false 64 ((andK false 64 (shrK 64 (wrk false 64 ((andK false 64 (shrK 64 a0 1) 6148914691236517205) + (andK false 64 a0 6148914691236517205))) 2) 3689348814741910323) + (andK false 64 (wrk false 64 ((andK false 64 (shrK 64 a0 1) 6148914691236517205) + (andK false 64 a0 6148914691236517205))) 3689348814741910323))))) 1085102592571150095) 8))) + (shrK 64 (wrk false 64 ((andK false 64 (wrk false 64 ((shrK 64 (wrk false 64 ((andK false 64 (shrK 64 (wrk false 64 ((andK false 64 (shrK 64 a0 1) 6148914691236517205) + (andK false 64 a0 6148914691236517205))) 2) 3689348814741910323) + (andK false 64 (wrk false 64 ((andK false 64 (shrK 64 a0 1) 6148914691236517205) + (andK false 64 a0 6148914691236517205))) 3689348814741910323))) 4) + (wrk false 64 ((andK false 64 (shrK 64 (wrk false 64 ((andK false 64 (shrK 64 a0 1) 6148914691236517205) + (andK false 64 a0 6148914691236517205))) 2) 3689348814741910323) + (andK false 64 (wrk false 64 ((andK false 64 (shrK 64 a0 1) 6148914691236517205) + (andK false 64 a0 6148914691236517205))) 3689348814741910323))))) 1085102592571150095) + (shrK 64 (andK false 64 (wrk false 64 ((shrK 64 (wrk false 64 ((andK false 64 (shrK 64 (wrk false 64 ((andK false 64 (shrK 64 a0 1) 6148914691236517205) + (andK false 64 a0 6148914691236517205))) 2) 3689348814741910323) + (andK false 64 (wrk false 64 ((andK false 64 (shrK 64 a0 1) 6148914691236517205) + (andK false 64 a0 6148914691236517205))) 3689348814741910323))) 4) + (wrk false 64 ((andK false 64 (shrK 64 (wrk false 64 ((andK false 64 (shrK 64 a0 1) 6148914691236517205) + (andK false 64 a0 6148914691236517205))) 2) 3689348814741910323) + (andK false 64 (wrk false 64 ((andK false 64 (shrK 64 a0 1) 6148914691236517205) + (andK false 64 a0 6148914691236517205))) 3689348814741910323))))) 1085102592571150095) 8))) 16))) + (shrK 64 (wrk false 64 ((wrk false 64 ((andK false 64 (wrk false 64 ((shrK 64 (wrk false 64 ((andK false 64 (shrK 64 (wrk false 64 ((andK false 64 (shrK 64 a0 1) 6148914691236517205) + (andK false 64 a0 6148914691236517205))) 2) 3689348814741910323) + (andK false 64 (wrk false 64 ((andK false 64 (shrK 64 a0 1) 6148914691236517205) + (andK false 64 a0 6148914691236517205))) 3689348814741910323))) 4) + (wrk false 64 ((andK false 64 (shrK 64 (wrk false 64 ((andK false 64 (shrK 64 a0 1) 6148914691236517205) + (andK false 64 a0 6148914691236517205))) 2) 3689348814741910323) + (andK false 64 (wrk false 64 ((andK false 64 (shrK 64 a0 1) 6148914691236517205) + (andK false 64 a0 6148914691236517205))) 3689348814741910323))))) 1085102592571150095) + (shrK 64 (andK false 64 (wrk false 64 ((shrK 64 (wrk false 64 ((andK false 64 (shrK 64 (wrk false 64 ((andK false 64 (shrK 64 a0 1) 6148914691236517205) + (andK false 64 a0 6148914691236517205))) 2) 3689348814741910323) + (andK false 64 (wrk false 64 ((andK false 64 (shrK 64 a0 1) 6148914691236517205) + (andK false 64 a0 6148914691236517205))) 3689348814741910323))) 4) + (wrk false 64 ((andK false 64 (shrK 64 (wrk false 64 ((andK false 64 (shrK 64 a0 1) 6148914691236517205) + (andK false 64 a0 6148914691236517205))) 2) 3689348814741910323) + (andK false 64 (wrk false 64 ((andK false 64 (shrK 64 a0 1) 6148914691236517205) + (andK false 64 a0 6148914691236517205))) 3689348814741910323))))) 1085102592571150095) 8))) + (shrK 64 (wrk false 64 ((andK false 64 (wrk false 64 ((shrK 64 (wrk false 64 ((andK false 64 (shrK 64 (wrk false 64 ((andK false 64 (shrK 64 a0 1) 6148914691236517205) + (andK false 64 a0 6148914691236517205))) 2) 3689348814741910323) + (andK false 64 (wrk false 64 ((andK false 64 (shrK 64 a0 1) 6148914691236517205) + (andK false 64 a0 6148914691236517205))) 3689348814741910323))) 4) + (wrk false 64 ((andK false 64 (shrK 64 (wrk false 64 ((andK false 64 (shrK 64 a0 1) 6148914691236517205) + (andK false 64 a0 6148914691236517205))) 2) 3689348814741910323) + (andK false 64 (wrk false 64 ((andK false 64 (shrK 64 a0 1) 6148914691236517205) + (andK false 64 a0 6148914691236517205))) 3689348814741910323))))) 1085102592571150095) + (shrK 64 (andK false 64 (wrk false 64 ((shrK 64 (wrk false 64 ((andK false 64 (shrK 64 (wrk false 64 ((andK false 64 (shrK 64 a0 1) 6148914691236517205) + (andK false 64 a0 6148914691236517205))) 2) 3689348814741910323) + (andK false 64 (wrk false 64 ((andK false 64 (shrK 64 a0 1) 6148914691236517205) + (andK false 64 a0 6148914691236517205))) 3689348814741910323))) 4) + (wrk false 64 ((andK false 64 (shrK 64 (wrk false 64 ((andK false 64 (shrK 64 a0 1) 6148914691236517205) + (andK false 64 a0 6148914691236517205))) 2) 3689348814741910323) + (andK false 64 (wrk false 64 ((andK false 64 (shrK 64 a0 1) 6148914691236517205) + (andK false 64 a0 6148914691236517205))) 3689348814741910323))))) 1085102592571150095) 8))) 16))) 32)))) rfl) ?_
 refine FL.nil (FW.seq (FW.region ?_))
 refine FL.v (E.move (v := Value.int .u64 (wrk false 64 ((wrk false 64 ((wrk false 64 ((andK false 64 (wrk false 64 ((shrK 64 (wrk false 64 ((andK false 64 (shrK 64 (wrk false 64 ((andK false 64 (shrK 64 a0 1) 6148914691236517205) + (andK false 64 a0 6148914691236517205))) 2) 3689348814741910323) + (andK false 64 (wrk false 64 ((andK false 64 (shrK 64 a0 1) 6148914691236517205) + (andK false 64 a0 6148914691236517205))) 3689348814741910323))) 4) + (wrk false 64 ((andK false 64 (shrK 64 (wrk false 64 ((andK false 64 (shrK 64 a0 1) 6148914691236517205) + (andK false 64 a0 6148914691236517205))) 2) 3689348814741910323) + (andK false 64 (wrk false 64 ((andK false 64 (shrK 64 a0 1) 6148914691236517205) + (andK false 64 a0 6148914691236517205))) 3689348814741910323))))) 1085102592571150095) + (shrK 64 (andK false 64 (wrk false 64 ((shrK 64 (wrk false 64 ((andK false 64 (shrK 64 (wrk false 64 ((andK false 64 (shrK 64 a0 1) 6148914691236517205) + (andK false 64 a0 6148914691236517205))) 2) 3689348814741910323) + (andK false 64 (wrk false 64 ((andK false 64 (shrK 64 a0 1) 6148914691236517205) + (andK false 64 a0 6148914691236517205))) 3689348814741910323))) 4) + (wrk false 64 ((andK false 64 (shrK 64 (wrk false 64 ((andK false 64 (shrK 64 a0 1) 6148914691236517205) + (andK false 64 a0 6148914691236517205))) 2) 3689348814741910323) + (andK false 64 (wrk false 64 ((andK false 64 (shrK 64 a0 1) 6148914691236517205) + (andK false 64 a0 6148914691236517205))) 3689348814741910323))))) 1085102592571150095) 8))) + (shrK 64 (wrk false 64 ((andK false 64 (wrk false 64 ((shrK 64 (wrk false 64 ((andK false 64 (shrK 64 (wrk false 64 ((andK false 64 (shrK 64 a0 1) 6148914691236517205) + (andK false 64 a0 6148914691236517205))) 2) 3689348814741910323) + (andK false 64 (wrk false 64 ((andK false 64 (shrK 64 a0 1) 6148914691236517205) + (andK false 64 a0 6148914691236517205))) 3689348814741910323))) 4) + (wrk false 64 ((andK false 64 (shrK 64 (wrk false 64 ((andK false 64 (shrK 64 a0 1) 6148914691236517205) + (andK false 64 a0 6148914691236517205))) 2) 3689348814741910323) + (andK false 64 (wrk false 64 ((andK false 64 (shrK 64 a0 1) 6148914691236517205) + (andK false 64 a0 6148914691236517205))) 3689348814741910323))))) 1085102592571150095) + (shrK 64 (andK false 64 (wrk false 64 ((shrK 64 (wrk false 64 ((andK false 64 (shrK 64 (wrk false 64 ((andK false 64 (shrK 64 a0 1) 6148914691236517205) + (andK false 64 a0 6148914691236517205))) 2) 3689348814741910323) + (andK false 64 (wrk false 64 ((andK false 64 (shrK 64 a0 1) 6148914691236517205) + (andK false 64 a0 6148914691236517205))) 3689348814741910323))) 4) + (wrk false 64 ((andK false 64 (shrK 64 (wrk false 64 ((andK false 64 (shrK 64 a0 1) 6148914691236517205) + (andK false 64 a0 6148914691236517205))) 2) 3689348814741910323) + (andK false 64 (wrk false 64 ((andK false 64 (shrK 64 a0 1) 6148914691236517205) + (andK false 64 a0 6148914691236517205))) 3689348814741910323))))) 1085102592571150095) 8))) 16))) + (shrK 64 (wrk false 64 ((wrk false 64 ((andK false 64 (wrk false 64 ((shrK 64 (wrk false 64 ((andK false 64 (shrK 64 (wrk false 64 ((andK false 64 (shrK 64 a0 1) 6148914691236517205) + (andK false 64 a0 6148914691236517205))) 2) 3689348814741910323) + (andK false 64 (wrk false 64 ((andK false 64 (shrK 64 a0 1) 6148914691236517205) + (andK false 64 a0 6148914691236517205))) 3689348814741910323))) 4) + (wrk false 64 ((andK false 64 (shrK 64 (wrk false 64 ((andK false 64 (shrK 64 a0 1) 6148914691236517205) + (andK false 64 a0 6148914691236517205))) 2) 3689348814741910323) + (andK false 64 (wrk false 64 ((andK false 64 (shrK 64 a0 1) 6148914691236517205) + (andK false 64 a0 6148914691236517205))) 3689348814741910323))))) 1085102592571150095) + (shrK 64 (andK false 64 (wrk false 64 ((shrK 64 (wrk false 64 ((andK false 64 (shrK 64 (wrk false 64 ((andK false 64 (shrK 64 a0 1) 6148914691236517205) + (andK false 64 a0 6148914691236517205))) 2) 3689348814741910323) + (andK false 64 (wrk false 64 ((andK false 64 (shrK 64 a0 1) 6148914691236517205) + (andK false 64 a0 6148914691236517205))) 3689348814741910323))) 4) + (wrk false 64 ((andK false 64 (shrK 64 (wrk false 64 ((andK false 64 (shrK 64 a0 1) 6148914691236517205) + (andK false 64 a0 6148914691236517205))) 2) 3689348814741910323) + (andK false 64 (wrk false 64 ((andK false 64 (shrK 64 a0 1) 6148914691236517205) + (andK false 64 a0 6148914691236517205))) 3689348814741910323))))) 1085102592571150095) 8))) + (shrK 64 (wrk false 64 ((andK false 64 (wrk false 64 ((shrK 64 (wrk false 64 ((andK false 64 (shrK 64 (wrk false 64 ((andK false 64 (shrK 64 a0 1) 6148914691236517205) + (andK false 64 a0 6148914691236517205))) 2) 3689348814741910323) + (andK false 64 (wrk false 64 ((andK false 64 (shrK 64 a0 1) 6148914691236517205) + (andK false 64 a0 6148914691236517205))) 3689348814741910323))) 4) + (wrk false 64 ((andK false 64 (shrK 64 (wrk false 64 ((andK false 64 (shrK 64 a0 1) 6148914691236517205) + (andK false 64 a0 6148914691236517205))) 2) 3689348814741910323) + (andK false 64 (wrk false 64 ((andK false 64 (shrK 64 a0 1) 6148914691236517205) + (andK false 64 a0 6148914691236517205))) 3689348814741910323))))) 1085102592571150095) + (shrK 64 (andK false 64 (wrk false 64 ((shrK 64 (wrk false 64 ((andK false 64 (shrK 64 (wrk false 64 ((andK false 64 (shrK 64 a0 1) 6148914691236517205) + (andK false 64 a0 6148914691236517205))) 2) 3689348814741910323) + (andK false 64 (wrk false 64 ((andK false 64 (shrK 64 a0 1) 6148914691236517205) + (andK false 64 a0 6148914691236517205))) 3689348814741910323))) 4) + (wrk false 64 ((andK false 64 (shrK 64 (wrk false 64 ((andK false 64 (shrK 64 a0 1) 6148914691236517205) + (andK false 64 a0 6148914691236517205))) 2) 3689348814741910323) + (andK false 64 (wrk false 64 ((andK false 64 (shrK 64 a0 1) 6148914691236517205) + (andK false 64 a0 6148914691236517205))) 3689348814741910323))))) 1085102592571150095) 8))) 16))) 32)))) rfl) ?_
 refine FL.v (E.conv Tryz.runUnderlying205 Tryz.runUnderlying3 rfl) ?_
 refine FL.v (E.and rfl rfl) ?_
 refine FL.v (E.assign (v := Value.int .i64 (andK true 64 (wrk true 64 (wrk false 64 ((wrk false 64 ((wrk false 64 ((andK false 64 (wrk false 64 ((shrK 64 (wrk false 64 ((andK false 64 (shrK 64 (wrk false 64 ((andK false 64 (shrK 64 a0 1) 6148914691236517205) + (andK false 64 a0 6148914691236517205))) 2) 3689348814741910323) + (andK false 64 (wrk false 64 ((andK false 64 (shrK 64 a0 1) 6148914691236517205) + (andK false 64 a0 6148914691236517205))) 3689348814741910323))) 4) + (wrk false 64 ((andK false 64 (shrK 64 (wrk false 64 ((andK false 64 (shrK 64 a0 1) 6148914691236517205) + (andK false 64 a0 6148914691236517205))) 2) 3689348814741910323) + (andK false 64 (wrk false 64 ((andK false 64 (shrK 64 a0 1) 6148914691236517205) + (andK false 64 a0 6148914691236517205))) 3689348814741910323))))) 1085102592571150095) + (shrK 64 (andK false 64 (wrk false 64 ((shrK 64 (wrk false 64 ((andK false 64 (shrK 64 (wrk false 64 ((andK false 64 (shrK 64 a0 1) 6148914691236517205) + (andK false 64 a0 6148914691236517205))) 2) 3689348814741910323) + (andK false 64 (wrk false 64 ((andK false 64 (shrK 64 a0 1) 6148914691236517205) + (andK false 64 a0 6148914691236517205))) 3689348814741910323))) 4) + (wrk false 64 ((andK false 64 (shrK 64 (wrk false 64 ((andK false 64 (shrK 64 a0 1) 6148914691236517205) + (andK false 64 a0 6148914691236517205))) 2) 3689348814741910323) + (andK false 64 (wrk false 64 ((andK false 64 (shrK 64 a0 1) 6148914691236517205) + (andK false 64 a0 6148914691236517205))) 3689348814741910323))))) 1085102592571150095) 8))) + (shrK 64 (wrk false 64 ((andK false 64 (wrk false 64 ((shrK 64 (wrk false 64 ((andK false 64 (shrK 64 (wrk false 64 ((andK false 64 (shrK 64 a0 1) 6148914691236517205) + (andK false 64 a0 6148914691236517205))) 2) 3689348814741910323) + (andK false 64 (wrk false 64 ((andK false 64 (shrK 64 a0 1) 6148914691236517205) + (andK false 64 a0 6148914691236517205))) 3689348814741910323))) 4) + (wrk false 64 ((andK false 64 (shrK 64 (wrk false 64 ((andK false 64 (shrK 64 a0 1) 6148914691236517205) + (andK false 64 a0 6148914691236517205))) 2) 3689348814741910323) + (andK false 64 (wrk false 64 ((andK false 64 (shrK 64 a0 1) 6148914691236517205) + (andK false 64 a0 6148914691236517205))) 3689348814741910323))))) 1085102592571150095) + (shrK 64 (andK false 64 (wrk false 64 ((shrK 64 (wrk false 64 ((andK false 64 (shrK 64 (wrk false 64 ((andK false 64 (shrK 64 a0 1) 6148914691236517205) + (andK false 64 a0 6148914691236517205))) 2) 3689348814741910323) + (andK false 64 (wrk false 64 ((andK false 64 (shrK 64 a0 1) 6148914691236517205) + (andK false 64 a0 6148914691236517205))) 3689348814741910323))) 4) + (wrk false 64 ((andK false 64 (shrK 64 (wrk false 64 ((andK false 64 (shrK 64 a0 1) 6148914691236517205) + (andK false 64 a0 6148914691236517205))) 2) 3689348814741910323) + (andK false 64 (wrk false 64 ((andK false 64 (shrK 64 a0 1) 6148914691236517205) + (andK false 64 a0 6148914691236517205))) 3689348814741910323))))) 1085102592571150095) 8))) 16))) + (shrK 64 (wrk false 64 ((wrk false 64 ((andK false 64 (wrk false 64 ((shrK 64 (wrk false 64 ((andK false 64 (shrK 64 (wrk false 64 ((andK false 64 (shrK 64 a0 1) 6148914691236517205) + (andK false 64 a0 6148914691236517205))) 2) 3689348814741910323) + (andK false 64 (wrk false 64 ((andK false 64 (shrK 64 a0 1) 6148914691236517205) + (andK false 64 a0 6148914691236517205))) 3689348814741910323))) 4) + (wrk false 64 ((andK false 64 (shrK 64 (wrk false 64 ((andK false 64 (shrK 64 a0 1) 6148914691236517205) + (andK false 64 a0 6148914691236517205))) 2) 3689348814741910323) + (andK false 64 (wrk false 64 ((andK false 64 (shrK 64 a0 1) 6148914691236517205) + (andK false 64 a0 6148914691236517205))) 3689348814741910323))))) 1085102592571150095) + (shrK 64 (andK false 64 (wrk false 64 ((shrK 64 (wrk false 64 ((andK false 64 (shrK 64 (wrk false 64 ((andK false 64 (shrK 64 a0 1) 6148914691236517205) + (andK false 64 a0 6148914691236517205))) 2) 3689348814741910323) + (andK false 64 (wrk false 64 ((andK false 64 (shrK 64 a0 1) 6148914691236517205) + (andK false 64 a0 6148914691236517205))) 3689348814741910323))) 4) + (wrk false 64 ((andK false 64 (shrK 64 (wrk false 64 ((andK false 64 (shrK 64 a0 1) 6148914691236517205) + (andK false 64 a0 6148914691236517205))) 2) 3689348814741910323) + (andK false 64 (wrk false 64 ((andK false 64 (shrK 64 a0 1) 6148914691236517205) + (andK false 64 a0 6148914691236517205))) 3689348814741910323))))) 1085102592571150095) 8))) + (shrK 64 (wrk false 64 ((andK false 64 (wrk false 64 ((shrK 64 (wrk false 64 ((andK false 64 (shrK 64 (wrk false 64 ((andK false 64 (shrK 64 a0 1) 6148914691236517205) + (andK false 64 a0 6148914691236517205))) 2) 3689348814741910323) + (andK false 64 (wrk false 64 ((andK false 64 (shrK 64 a0 1) 6148914691236517205) + (andK false 64 a0 6148914691236517205))) 3689348814741910323))) 4) + (wrk false 64 ((andK false 64 (shrK 64 (wrk false 64 ((andK false 64 (shrK 64 a0 1) 6148914691236517205) + (andK false 64 a0 6148914691236517205))) 2) 3689348814741910323) + (andK false 64 (wrk false 64 ((andK false 64 (shrK 64 a0 1) 6148914691236517205) + (andK false 64 a0 6148914691236517205))) 3689348814741910323))))) 1085102592571150095) + (shrK 64 (andK false 64 (wrk false 64 ((shrK 64 (wrk false 64 ((andK false 64 (shrK 64 (wrk false 64 ((andK false 64 (shrK 64 a0 1) 6148914691236517205) + (andK false 64 a0 6148914691236517205))) 2) 3689348814741910323) + (andK false 64 (wrk false 64 ((andK false 64 (shrK 64 a0 1) 6148914691236517205) + (andK false 64 a0 6148914691236517205))) 3689348814741910323))) 4) + (wrk false 64 ((andK false 64 (shrK 64 (wrk false 64 ((andK false 64 (shrK 64 a0 1) 6148914691236517205) + (andK false 64 a0 6148914691236517205))) 2) 3689348814741910323) + (andK false 64 (wrk false 64 ((andK false 64 (shrK 64 a0 1) 6148914691236517205) + (andK false 64 a0 6148914691236517205))) 3689348814741910323))))) 1085102592571150095) 8))) 16))) 32)))) 127)) rfl) ?_
 refine FL.nil ?_
 refine FW.ret ?_
 obtain rfl := hp
 exact ⟨.inr rfl, res1 rfl rfl ⟨rfl, S0.back⟩⟩

theorem w_math_bits_OnesCount {Ha : GH} {wa : World} (hs : Sl Ha wa) (a0 : Int) :
  Calls Tryz.prog 226 #[Value.int .u64 a0] wa (Sc Ha wa (Value.int .i64 (PF.math_bits_OnesCount a0))) := by
 obtain ⟨r, hp⟩ : ∃ r, (PF.math_bits_OnesCount a0) = r := ⟨_, rfl⟩
 rw [hp]
 unfold PF.math_bits_OnesCount at hp
 have S0 := St.init hs
 refine calls_go (N := 8) (args := [Value.int .u64 a0]) Tryz.func226 rfl rfl rfl ?_
 refine FW.seq (FW.region ?_)
 refine FL.v (E.assign (v := Value.int .i64 0) rfl) ?_
 refine FL.nil (FW.seq ?_)
 refine FW.condF rfl rfl ?_
 refine FW.skip (FW.seq (FW.region ?_))
 refine FL.v (E.move (v := Value.int .u64 a0) rfl) ?_
 refine FL.call rfl rfl rfl (E.call Tryz.call247 (A1 rfl)) (w_math_bits_OnesCount64 S0.sl a0) ?_
 rintro e w21 ⟨rfl, r22⟩
 refine ⟨_, rfl, ?_⟩
 have S23 := S0.call r22
 refine FL.v (E.assign (v := Value.int .i64 (PF.math_bits_OnesCount64 a0)) rfl) ?_
 refine FL.nil ?_
 refine FW.ret ?_
 obtain rfl := hp
 exact ⟨.inr rfl, res1 rfl rfl ⟨rfl, S23.back⟩⟩

theorem w_impl_degreeOf {Ha : GH} {wa : World} (hs : Sl Ha wa) (a0 : Int) :
  Calls Tryz.prog 198 #[Value.int .i64 a0] wa (Sc Ha wa (Value.int .i64 (PF.impl_degreeOf a0))) := by
 obtain ⟨r, hp⟩ : ∃ r, (PF.impl_degreeOf a0) = r := ⟨_, rfl⟩
 rw [hp]
 unfold PF.impl_degreeOf at hp
 have S0 := St.init hs
 refine calls_go (N := 6) (args := [Value.int .i64 a0]) Tryz.func198 rfl rfl rfl ?_
 refine FW.seq (FW.region ?_)
 refine FL.v (E.assign (v := Value.int .i64 0) rfl) ?_
 refine FL.nil (FW.seq (FW.region ?_))
 refine FL.v (E.move (v := Value.int .i64 a0) rfl) ?_
 refine FL.v (E.conv Tryz.runUnderlying3 Tryz.runUnderlying152 rfl) ?_
 refine FL.call rfl rfl rfl (E.call Tryz.call226 (A1 rfl)) (w_math_bits_OnesCount S0.sl (wrk false 64 a0)) ?_
 rintro e w21 ⟨rfl, r22⟩
 refine ⟨_, rfl, ?_⟩
 have S23 := S0.call r22
 refine FL.v (E.assign (v := Value.int .i64 (PF.math_bits_OnesCount (wrk false 64 a0))) rfl) ?_
 refine FL.nil ?_
 refine FW.ret ?_
 obtain rfl := hp
 exact ⟨.inr rfl, res1 rfl rfl ⟨rfl, S23.back⟩⟩

theorem w_cmp_isNaN_int {Ha : GH} {wa : World} (hs : Sl Ha wa) (a0 : Int) :
  Calls Tryz.prog 165 #[Value.int .i64 a0] wa (Sc Ha wa (Value.bool (PF.cmp_isNaN_int a0))) := by
 obtain ⟨r, hp⟩ : ∃ r, (PF.cmp_isNaN_int a0) = r := ⟨_, rfl⟩
 rw [hp]
 unfold PF.cmp_isNaN_int at hp
 have S0 := St.init hs
 refine calls_go (N := 6) (args := [Value.int .i64 a0]) Tryz.func165 rfl rfl rfl ?_
 refine FW.seq (FW.region ?_)
 refine FL.v (E.assign (v := Value.bool false) rfl) ?_
 refine FL.nil (FW.seq (FW.region ?_))
 refine FL.v (E.move (v := Value.int .i64 a0) rfl) ?_
 refine FL.v (E.move (v := Value.int .i64 a0) rfl) ?_
 refine FL.v (E.neq rfl rfl) ?_
 refine FL.v (E.assign (v := Value.bool (!(a0 == a0))) rfl) ?_
 refine FL.nil ?_
 refine FW.ret ?_
 obtain rfl := hp
 exact ⟨.inr rfl, res1 rfl rfl ⟨rfl, S0.back⟩⟩

theorem w_cmp_Compare_int {Ha : GH} {wa : World} (hs : Sl Ha wa) (a0 : Int) (a1 : Int) :
  Calls Tryz.prog 101 #[Value.int .i64 a0, Value.int .i64 a1] wa (Sc Ha wa (Value.int .i64 (PF.cmp_Compare_int a0 a1))) := by
 obtain ⟨r, hp⟩ : ∃ r, (PF.cmp_Compare_int a0 a1) = r := ⟨_, rfl⟩
 rw [hp]
 unfold PF.cmp_Compare_int at hp
 have S0 := St.init hs
 refine calls_go (N := 20) (args := [Value.int .i64 a0, Value.int .i64 a1]) Tryz.func101 rfl rfl rfl ?_
 refine FW.seq (FW.region ?_)
 refine FL.v (E.assign (v := Value.int .i64 0) rfl) ?_
 refine FL.nil (FW.seq (FW.region ?_))
 refine FL.v (E.move (v := Value.int .i64 a0) rfl) ?_
 refine FL.call rfl rfl rfl (E.call Tryz.call165 (A1 rfl)) (w_cmp_isNaN_int S0.sl a0) ?_
 rintro e w21 ⟨rfl, r22⟩
 refine ⟨_, rfl, ?_⟩
 have S23 := S0.call r22
 refine FL.v (E.assign (v := Value.bool (PF.cmp_isNaN_int a0)) rfl) ?_
 refine FL.nil (FW.seq (FW.region ?_))
 refine FL.v (E.move (v := Value.int .i64 a1) rfl) ?_
 refine FL.call rfl rfl rfl (E.call Tryz.call165 (A1 rfl)) (w_cmp_isNaN_int S23.sl a1) ?_
 rintro e w24 ⟨rfl, r25⟩
 refine ⟨_, rfl, ?_⟩
 have S26 := S23.call r25
 refine FL.v (E.assign (v := Value.bool (PF.cmp_isNaN_int a1)) rfl) ?_
 refine FL.nil (FW.seq (FW.seq (FW.region ?_)))
 refine FL.v (E.move (v := Value.bool (PF.cmp_isNaN_int a0)) rfl) ?_
 refine FL.nil ?_
 rcases ifT hp with ⟨c27, hp⟩ | ⟨c27, hp⟩
 ·
  refine FW.condT rfl c27 ?_
  refine FW.seq (FW.seq (FW.region ?_))
  refine FL.v (E.move (v := Value.bool (PF.cmp_isNaN_int a1)) rfl) ?_
  refine FL.nil ?_
  rcases ifT hp with ⟨c28, hp⟩ | ⟨c28, hp⟩
  ·
   refine FW.condT rfl c28 ?_
   refine FW.seq (FW.region ?_)
   refine FL.v (E.assign (v := Value.int .i64 0) rfl) ?_
   refine FL.nil ?_
   refine FW.ret ?_
   obtain rfl := hp
   exact ⟨.inr rfl, res1 rfl rfl ⟨rfl, S26.back⟩⟩
  ·
   refine FW.condF rfl c28 ?_
   refine FW.skip (FW.seq (FW.region ?_))
   refine FL.v (E.assign (v := Value.int .i64 (-1)) rfl) ?_
   refine FL.nil ?_
   refine FW.ret ?_
   obtain rfl := hp
   exact ⟨.inr rfl, res1 rfl rfl ⟨rfl, S26.back⟩⟩
 ·
  refine FW.condF rfl c27 ?_
  refine FW.skip (FW.seq (FW.seq (FW.region ?_)))
  refine FL.v (E.move (v := Value.bool (PF.cmp_isNaN_int a1)) rfl) ?_
  refine FL.nil ?_
  rcases ifT hp with ⟨c29, hp⟩ | ⟨c29, hp⟩
  ·
   refine FW.condT rfl c29 ?_
   refine FW.seq (FW.region ?_)
   refine FL.v (E.assign (v := Value.int .i64 1) rfl) ?_
   refine FL.nil ?_
   refine FW.ret ?_
   obtain rfl := hp
   exact ⟨.inr rfl, res1 rfl rfl ⟨rfl, S26.back⟩⟩
  ·
   refine FW.condF rfl c29 ?_
   refine FW.skip (FW.seq (FW.seq (FW.region ?_)))
   refine FL.v (E.move (v := Value.int .i64 a0) rfl) ?_
   refine FL.v (E.move (v := Value.int .i64 a1) rfl) ?_
   refine FL.v (E.lss rfl rfl) ?_
   refine FL.nil ?_
   rcases ifT hp with ⟨c30, hp⟩ | ⟨c30, hp⟩
   ·
    refine FW.condT rfl c30 ?_
    refine FW.seq (FW.region ?_)
    refine FL.v (E.assign (v := Value.int .i64 (-1)) rfl) ?_
    refine FL.nil ?_
    refine FW.ret ?_
    obtain rfl := hp
    exact ⟨.inr rfl, res1 rfl rfl ⟨rfl, S26.back⟩⟩
   ·
    refine FW.condF rfl c30 ?_
    refine FW.skip (FW.seq (FW.seq (FW.region ?_)))
    refine FL.v (E.move (v := Value.int .i64 a0) rfl) ?_
    refine FL.v (E.move (v := Value.int .i64 a1) rfl) ?_
    refine FL.v (E.gtr rfl rfl) ?_
    refine FL.nil ?_
    rcases ifT hp with ⟨c31, hp⟩ | ⟨c31, hp⟩
    ·
     refine FW.condT rfl c31 ?_
     refine FW.seq (FW.region ?_)
     refine FL.v (E.assign (v := Value.int .i64 1) rfl) ?_
     refine FL.nil ?_
     refine FW.ret ?_
     obtain rfl := hp
     exact ⟨.inr rfl, res1 rfl rfl ⟨rfl, S26.back⟩⟩
    ·
     refine FW.condF rfl c31 ?_
     refine FW.skip (FW.seq (FW.region ?_))
     refine FL.v (E.assign (v := Value.int .i64 0) rfl) ?_
     refine FL.nil ?_
     refine FW.ret ?_
     obtain rfl := hp
     exact ⟨.inr rfl, res1 rfl rfl ⟨rfl, S26.back⟩⟩

theorem w_cmp_Or_int {Ha : GH} {wa : World} (hs : Sl Ha wa) (v0 : Value) (a0 : List Int) (p0 : RSl Ha eI 1 v0 a0) {r : Int} (hp : (PF.cmp_Or_int a0) = some r) :
  Calls Tryz.prog 100 #[v0] wa (Sc Ha wa (Value.int .i64 r)) := by
 unfold PF.cmp_Or_int at hp
 have S0 := St.init hs
 refine calls_go (N := 18) (args := [v0]) Tryz.func100 rfl rfl rfl ?_
 refine FW.seq (FW.region ?_)
 refine FL.v (E.assign (v := Value.int .i64 0) rfl) ?_
 refine FL.nil (FW.seq (FW.region ?_))
 refine FL.v (E.assign (v := Value.int .i64 0) rfl) ?_
 refine FL.nil (FW.seq (FW.seq (FW.region ?_)))
 refine FL.v (E.move (v := v0) rfl) ?_
 refine FL.v (E.lenP te84 rfl p0) ?_
 refine FL.v (E.move (v := Value.int .i64 0) rfl) ?_
 refine FL.nil ?_
 obtain ⟨q22, hq, hp⟩ := bndR hp
 refine FW.block ?_
 refine FW.mono (FW.forL (S := Unit) (X := Int) (fun (i22 : Nat) (s22 : Unit) f w => ∃ H : GH, St Ha wa H w [] ∧ Inc Ha H ∧ f 8 = Value.int .i64 ((i22 : Nat) : Int) ∧ f 3 = Value.int .i64 0 ∧ f 6 = v0 ∧ f 7 = Value.int .i64 (len a0)) (fun q e f w => match q with | .go s22 => e = Exit.exit 0 ∧ (∃ H : GH, St Ha wa H w [] ∧ Inc Ha H ∧ f 3 = Value.int .i64 0) | .rt x => ((e = Exit.ret) ∧ (fun e f w => (e = Exit.normal ∨ e = Exit.ret) ∧ ∀ a, Fr (δ := []) 18 a f → ∃ v, (results Tryz.f100 a.tmps).run Tryz.prog w = .ok v w ∧ (Sc Ha wa (Value.int .i64 x)) (.returned v) w) e f w)) hq ⟨_, S0, (Inc.rfl _), rfl, rfl, rfl, rfl⟩ ?_ ?_) ?_
 ·
  clear hp hq
  rintro i22 y21 s22 f43 w42 ⟨H39, S40, i41, k44, k45, k46, k47⟩ hx22 o55 hp
  refine FW.seq (FW.region ?_)
  refine FL.v (E.lssT k44 k47 (lss_len hx22)) ?_
  refine FL.nil (FW.seq ?_)
  refine FW.condT rfl rfl ?_
  refine FW.skip (FW.seq (FW.block (FW.seq (FW.region ?_))))
  obtain ⟨p48, cs49, pt50, l51, at52, rel53⟩ := p0.at (ix_nat hx22)
  obtain rfl := eI_open rel53
  refine FL.v (E.indexAddr te84 k46 k44 pt50) ?_
  refine FL.v (E.load rfl (run_load0 Tryz.isAgg3 ((at52.mono i41).now S40.sl) rfl)) ?_
  refine FL.v (E.assign (v := Value.int .i64 y21) rfl) ?_
  refine FL.nil (FW.seq (FW.region ?_))
  refine FL.v (E.move (v := Value.int .i64 y21) rfl) ?_
  refine FL.v (E.move k45) ?_
  refine FL.v (E.neq rfl rfl) ?_
  refine FL.nil ?_
  rcases ifB hp with ⟨c54, hp⟩ | ⟨c54, hp⟩
  ·
   refine FW.condT rfl c54 ?_
   refine FW.seq (FW.region ?_)
   refine FL.v (E.move (v := Value.int .i64 y21) rfl) ?_
   refine FL.v (E.assign (v := Value.int .i64 y21) rfl) ?_
   refine FL.nil ?_
   refine FW.ret ?_
   obtain rfl := Option.some.inj hp
   exact ⟨nofun, rfl, ⟨.inr rfl, res1 rfl rfl ⟨rfl, S40.back⟩⟩⟩
  ·
   refine FW.condF rfl c54 ?_
   refine FW.skip (FW.region ?_)
   refine FL.v (E.add k44 rfl) ?_
   refine FL.v (E.move (v := Value.int .i64 (wr (((i22 : Nat) : Int) + 1))) rfl) ?_
   refine FL.nil ?_
   obtain rfl := Option.some.inj hp
   exact ⟨rfl, ⟨_, S40, i41, (nat_succ rfl (lt_of_get hx22) (p0.mono i41).le), k45, k46, k47⟩⟩
 ·
  clear hp hq
  rintro s22 f66 w65 ⟨H62, S63, i64, k67, k68, k69, k70⟩
  refine FW.seq (FW.region ?_)
  refine FL.v (E.lss k67 k70) ?_
  refine FL.nil (FW.seq ?_)
  refine FW.condF rfl dlt_len ?_
  refine FW.exit ?_
  exact ⟨nofun, rfl, ⟨_, S63, i64, k68⟩⟩
 ·
  clear hq
  intro e f60 w59 hD
  rcases q22 with s22 | x22
  ·
   obtain ⟨rfl, hD⟩ := hD
   obtain ⟨H56, S57, i58, k61⟩ := hD
   replace hp := el_go hp
   refine FW.seq (FW.region ?_)
   refine FL.v (E.move k61) ?_
   refine FL.v (E.assign (v := Value.int .i64 0) rfl) ?_
   refine FL.nil ?_
   refine FW.ret ?_
   obtain rfl := Option.some.inj hp
   exact ⟨.inr rfl, res1 rfl rfl ⟨rfl, S57.back⟩⟩
  ·
   obtain ⟨he, hL⟩ := hD
   replace hp := el_rt hp
   obtain rfl := Option.some.inj hp
   subst he
   exact hL

theorem w_impl_compareMonos {Ha : GH} {wa : World} (hs : Sl Ha wa) (a0 : Int) (a1 : Int) {r : Int} (hp : (PF.impl_compareMonos a0 a1) = some r) :
  Calls Tryz.prog 195 #[Value.int .i64 a0, Value.int .i64 a1] wa (Sc Ha wa (Value.int .i64 r)) := by
 unfold PF.impl_compareMonos at hp
 have S0 := St.init hs
 refine calls_go (N := 15) (args := [Value.int .i64 a0, Value.int .i64 a1]) Tryz.func195 rfl rfl rfl ?_
 refine FW.seq (FW.region ?_)
 refine FL.v (E.assign (v := Value.int .i64 0) rfl) ?_
 refine FL.nil (FW.seq (FW.region ?_))
 refine FL.v (E.move (v := Value.int .i64 a0) rfl) ?_
 refine FL.call rfl rfl rfl (E.call Tryz.call198 (A1 rfl)) (w_impl_degreeOf S0.sl a0) ?_
 rintro e w21 ⟨rfl, r22⟩
 refine ⟨_, rfl, ?_⟩
 have S23 := S0.call r22
 refine FL.v (E.move (v := Value.int .i64 a1) rfl) ?_
 refine FL.call rfl rfl rfl (E.call Tryz.call198 (A1 rfl)) (w_impl_degreeOf S23.sl a1) ?_
 rintro e w24 ⟨rfl, r25⟩
 refine ⟨_, rfl, ?_⟩
 have S26 := S23.call r25
 refine FL.call rfl rfl rfl (E.call Tryz.call101 (A2 rfl rfl)) (w_cmp_Compare_int S26.sl (PF.impl_degreeOf a0) (PF.impl_degreeOf a1)) ?_
 rintro e w27 ⟨rfl, r28⟩
 refine ⟨_, rfl, ?_⟩
 have S29 := S26.call r28
 refine FL.v (E.move (v := Value.int .i64 a0) rfl) ?_
 refine FL.v (E.move (v := Value.int .i64 a1) rfl) ?_
 refine FL.call rfl rfl rfl (E.call Tryz.call101 (A2 rfl rfl)) (w_cmp_Compare_int S29.sl a0 a1) ?_
 rintro e w30 ⟨rfl, r31⟩
 refine ⟨_, rfl, ?_⟩
 have S32 := S29.call r31
 obtain ⟨v33, w34, run35, S36⟩ := S32.buildSlice (P := Tryz.prog) te84 [Value.int .i64 (PF.cmp_Compare_int (PF.impl_degreeOf a0) (PF.impl_degreeOf a1)), Value.int .i64 (PF.cmp_Compare_int a0 a1)] (parts := #[(0, Value.int .i64 (PF.cmp_Compare_int (PF.impl_degreeOf a0) (PF.impl_degreeOf a1))), (1, Value.int .i64 (PF.cmp_Compare_int a0 a1))]) (cells := [Value.int .i64 (PF.cmp_Compare_int (PF.impl_degreeOf a0) (PF.impl_degreeOf a1)), Value.int .i64 (PF.cmp_Compare_int a0 a1)]) rfl (szs_cons rfl (szs_cons rfl szs_nil)) (fc_cons rfl (fc_cons rfl fc_nil)) (ones_cons rfl (ones_cons rfl ones_nil)) (Nat.le_of_ble_eq_true rfl)
 have els37 : Els (up wa.heap.size Ha) eI 1 [Value.int .i64 (PF.cmp_Compare_int (PF.impl_degreeOf a0) (PF.impl_degreeOf a1)), Value.int .i64 (PF.cmp_Compare_int a0 a1)] [(PF.cmp_Compare_int (PF.impl_degreeOf a0) (PF.impl_degreeOf a1)), (PF.cmp_Compare_int a0 a1)] := (Els.snoc (H := (up wa.heap.size Ha)) (E := eI) (k := 1) (c := [Value.int .i64 (PF.cmp_Compare_int a0 a1)]) (x := (PF.cmp_Compare_int a0 a1)) (Els.snoc (H := (up wa.heap.size Ha)) (E := eI) (k := 1) (c := [Value.int .i64 (PF.cmp_Compare_int (PF.impl_degreeOf a0) (PF.impl_degreeOf a1))]) (x := (PF.cmp_Compare_int (PF.impl_degreeOf a0) (PF.impl_degreeOf a1))) Els.nil rfl rfl) rfl rfl)
 refine FL.v (E.buildSlice (B2 rfl rfl) run35) ?_
 obtain ⟨H38, S39, i40, h41, nv42⟩ := S36.sealRowU (i := 0) (l' := []) rfl els37 (by decide) rfl
 obtain ⟨r43, hr44, hp⟩ := bnd hp
 refine FL.call rfl rfl rfl (E.call Tryz.call100 (A1 rfl)) (w_cmp_Or_int S39.sl v33 [(PF.cmp_Compare_int (PF.impl_degreeOf a0) (PF.impl_degreeOf a1)), (PF.cmp_Compare_int a0 a1)] (h41.mono upI) hr44) ?_
 rintro e w45 ⟨rfl, r46⟩
 refine ⟨_, rfl, ?_⟩
 have r46 := Run.lend i40 S36.sl r46
 have S47 := S36.call r46
 refine FL.v (E.assign (v := Value.int .i64 r43) rfl) ?_
 refine FL.nil ?_
 refine FW.ret ?_
 obtain rfl := Option.some.inj hp
 exact ⟨.inr rfl, res1 rfl rfl ⟨rfl, S47.back⟩⟩

theorem w_impl_leading {Ha : GH} {wa : World} (hs : Sl Ha wa) (v0 : Value) (a0 : List Int) (p0 : RSl Ha eI 1 v0 a0) {r : Int} (hp : (PF.impl_leading a0) = some r) :
    Calls Tryz.prog 143 #[v0] wa (Sc Ha wa (Value.int .i64 r)) := by
  unfold PF.impl_leading at hp
  have S0 := St.init hs
  refine calls_go (N := 28) (args := [v0]) Tryz.func143 rfl rfl rfl ?_
  refine FW.seq (FW.region ?_)
  refine FL.v (E.assign (v := Value.int .i64 0) rfl) ?_
  refine FL.nil (FW.seq (FW.region ?_))
  refine FL.v (E.assign (v := Value.int .i64 (-1)) rfl) ?_
  refine FL.nil (FW.seq (FW.seq (FW.region ?_)))
  refine FL.v (E.move (v := v0) rfl) ?_
  refine FL.v (E.lenP te132 rfl p0) ?_
  refine FL.v (E.move (v := Value.int .i64 0) rfl) ?_
  refine FL.nil ?_
  obtain ⟨q22, hq, hp⟩ := bndR hp
  refine FW.block ?_
  refine FW.mono (FW.forL (S := Int) (X := Empty) (fun (i22 : Nat) (s22 : Int) f w => ∃ H : GH, St Ha wa H w [] ∧ Inc Ha H ∧ f 8 = Value.int .i64 ((i22 : Nat) : Int) ∧ f 3 = Value.int .i64 s22 ∧ f 6 = v0 ∧ f 7 = Value.int .i64 (len a0)) (fun (q : Rs Int Empty) e f w => match q with | .go s22 => e = Exit.exit 0 ∧ (∃ H : GH, St Ha wa H w [] ∧ Inc Ha H ∧ f 3 = Value.int .i64 s22) | .rt x => x.elim) hq ⟨_, S0, (Inc.rfl _), rfl, rfl, rfl, rfl⟩ ?_ ?_) ?_
  ·
    clear hp hq
    rintro i22 y21 s22 f104 w103 ⟨H100, S101, i102, k105, k106, k107, k108⟩ hx22 o177 hp
    refine FW.seq (FW.region ?_)
    refine FL.v (E.lssT k105 k108 (lss_len hx22)) ?_
    refine FL.nil (FW.seq ?_)
    refine FW.condT rfl rfl ?_
    refine FW.skip (FW.seq (FW.block (FW.seq (FW.region ?_))))
    refine FL.v (E.move k105) ?_
    obtain ⟨p109, cs110, pt111, l112, at113, rel114⟩ := p0.at (ix_nat hx22)
    obtain rfl := eI_open rel114
    refine FL.v (E.indexAddr te132 k107 k105 pt111) ?_
    refine FL.v (E.load rfl (run_load0 Tryz.isAgg3 ((at113.mono i102).now S101.sl) rfl)) ?_
    refine FL.v (E.assign (v := Value.int .i64 ((i22 : Nat) : Int)) rfl) ?_
    refine FL.v (E.assign (v := Value.int .i64 y21) rfl) ?_
    refine FL.nil (FW.seq (FW.region ?_))
    refine FL.v (E.move (v := Value.int .i64 y21) rfl) ?_
    refine FL.v (E.neq rfl rfl) ?_
    refine FL.v (E.move (v := Value.bool (!(y21 == 0))) rfl) ?_
    obtain ⟨t139, hqt139, hp⟩ := bnd hp
    refine FL.cut 9 (fun f w => ∃ H : GH, St Ha wa H w [] ∧ Inc H100 H ∧ f 3 = Value.int .i64 s22 ∧ f 4 = Value.int .i64 ((i22 : Nat) : Int) ∧ f 6 = v0 ∧ f 7 = Value.int .i64 (len a0) ∧ f 8 = Value.int .i64 ((i22 : Nat) : Int) ∧ f 24 = Value.bool t139) ?_ ?_
    ·
      clear hp; have hp := hqt139; clear hqt139
      rcases ifB hp with ⟨c145, hp⟩ | ⟨c145, hp⟩
      ·
        refine FL.val (wF_yes rfl rfl rfl c145) rfl rfl (E.move k106) ?_
        refine FL.val (wF_yes rfl rfl rfl c145) rfl rfl (E.lss rfl rfl) ?_
        refine FL.val (wF_yes rfl rfl rfl c145) rfl rfl (E.move (v := Value.bool (decide (s22 < 0))) rfl) ?_
        obtain ⟨t151, hqt151, hp⟩ := bnd hp
        refine FL.cut 5 (fun f w => ∃ H : GH, St Ha wa H w [] ∧ Inc H100 H ∧ f 3 = Value.int .i64 s22 ∧ f 4 = Value.int .i64 ((i22 : Nat) : Int) ∧ f 6 = v0 ∧ f 7 = Value.int .i64 (len a0) ∧ f 8 = Value.int .i64 ((i22 : Nat) : Int) ∧ f 15 = Value.bool (!(y21 == 0)) ∧ f 23 = Value.bool t151) ?_ ?_
        ·
          clear hp; have hp := hqt151; clear hqt151
          rcases ifB hp with ⟨c157, hp⟩ | ⟨c157, hp⟩
          ·
            refine FL.skip (wF_no rfl rfl rfl c157) rfl ?_
            refine FL.skip (wF_no rfl rfl rfl c157) rfl ?_
            refine FL.skip (wF_no rfl rfl rfl c157) rfl ?_
            refine FL.skip (wF_no rfl rfl rfl c157) rfl ?_
            obtain rfl := Option.some.inj hp
            refine FL.val (wF_yes rfl rfl rfl c145) rfl rfl (E.pickT rfl c157 rfl) ?_
            exact FL.nil ⟨rfl, _, S101, (Inc.rfl _), k106, rfl, k107, k108, k105, rfl, rfl⟩
          ·
            refine FL.val (wF_yes rfl rfl rfl c157) rfl rfl (E.move (v := Value.int .i64 ((i22 : Nat) : Int)) rfl) ?_
            refine FL.val (wF_yes rfl rfl rfl c157) rfl rfl (E.move k106) ?_
            obtain ⟨r158, hr159, hp⟩ := bnd hp
            refine FL.call (wF_yes rfl rfl rfl c157) rfl rfl (E.call Tryz.call195 (A2 rfl rfl)) (w_impl_compareMonos S101.sl ((i22 : Nat) : Int) s22 hr159) ?_
            rintro e w160 ⟨rfl, r161⟩
            refine ⟨_, rfl, ?_⟩
            have S162 := S101.call r161
            refine FL.val (wF_yes rfl rfl rfl c157) rfl rfl (E.gtr rfl rfl) ?_
            obtain rfl := Option.some.inj hp
            refine FL.val (wF_yes rfl rfl rfl c145) rfl rfl (E.pickF rfl c157 rfl) ?_
            exact FL.nil ⟨rfl, _, S162, (Inc.rfl _), k106, rfl, k107, k108, k105, rfl, rfl⟩
        rintro f156 w155 ⟨H152, S153, i154, k163, k164, k165, k166, k167, k168, k169⟩
        obtain rfl := Option.some.inj hp
        refine FL.v (E.pickT k168 c145 k169) ?_
        exact FL.nil ⟨rfl, _, S153, i154, k163, k164, k165, k166, k167, rfl⟩
      ·
        refine FL.skip (wF_no rfl rfl rfl c145) rfl ?_
        refine FL.skip (wF_no rfl rfl rfl c145) rfl ?_
        refine FL.skip (wF_no rfl rfl rfl c145) rfl ?_
        refine FL.skip (wF_undef rfl rfl rfl) rfl ?_
        refine FL.skip (wF_undef rfl rfl rfl) rfl ?_
        refine FL.skip (wF_undef rfl rfl rfl) rfl ?_
        refine FL.skip (wF_undef rfl rfl rfl) rfl ?_
        refine FL.skip (wF_no rfl rfl rfl c145) rfl ?_
        obtain rfl := Option.some.inj hp
        refine FL.v (E.pickF rfl c145 rfl) ?_
        exact FL.nil ⟨rfl, _, S101, (Inc.rfl _), k106, rfl, k107, k108, k105, rfl⟩
    rintro f144 w143 ⟨H140, S141, i142, k170, k171, k172, k173, k174, k175⟩
    refine FL.nil ?_
    rcases ifB hp with ⟨c176, hp⟩ | ⟨c176, hp⟩
    ·
      refine FW.condT k175 c176 ?_
      refine FW.region ?_
      refine FL.v (E.move k171) ?_
      refine FL.v (E.assign (v := Value.int .i64 ((i22 : Nat) : Int)) rfl) ?_
      refine FL.nil (FW.region ?_)
      refine FL.v (E.add k174 rfl) ?_
      refine FL.v (E.move (v := Value.int .i64 (wr (((i22 : Nat) : Int) + 1))) rfl) ?_
      refine FL.nil ?_
      obtain rfl := Option.some.inj hp
      exact ⟨rfl, ⟨_, S141, (i102.tr i142), (nat_succ rfl (lt_of_get hx22) (p0.mono (i102.tr i142)).le), rfl, k172, k173⟩⟩
    ·
      refine FW.condF k175 c176 ?_
      refine FW.skip (FW.region ?_)
      refine FL.v (E.add k174 rfl) ?_
      refine FL.v (E.move (v := Value.int .i64 (wr (((i22 : Nat) : Int) + 1))) rfl) ?_
      refine FL.nil ?_
      obtain rfl := Option.some.inj hp
      exact ⟨rfl, ⟨_, S141, (i102.tr i142), (nat_succ rfl (lt_of_get hx22) (p0.mono (i102.tr i142)).le), k170, k172, k173⟩⟩
  ·
    clear hp hq
    rintro s22 f188 w187 ⟨H184, S185, i186, k189, k190, k191, k192⟩
    refine FW.seq (FW.region ?_)
    refine FL.v (E.lss k189 k192) ?_
    refine FL.nil (FW.seq ?_)
    refine FW.condF rfl dlt_len ?_
    refine FW.exit ?_
    exact ⟨nofun, rfl, ⟨_, S185, i186, k190⟩⟩
  ·
    clear hq
    intro e f182 w181 hD
    rcases q22 with s22 | x22
    ·
      obtain ⟨rfl, hD⟩ := hD
      obtain ⟨H178, S179, i180, k183⟩ := hD
      replace hp := el_go hp
      refine FW.seq (FW.region ?_)
      refine FL.v (E.move k183) ?_
      refine FL.v (E.assign (v := Value.int .i64 s22) rfl) ?_
      refine FL.nil ?_
      refine FW.ret ?_
      obtain rfl := Option.some.inj hp
      exact ⟨.inr rfl, res1 rfl rfl ⟨rfl, S179.back⟩⟩
    · exact x22.elim

@[reducible] def p_impl_echelon_reduce (H0 : GH) (w0 : World) (Ha : GH) (L : List MO) (b0 : Nat) (v0_2 : Value) (n0_2 : Nat) (k0_2 : List Value) (v0_3 : Value) (n0_3 : Nat) (k0_3 : List Value) (r : ((List Int) × (List Int) × echelon)) : Ending → World → Prop :=
  fun e w' => ∃ H' : GH, ∃ v0 : Value, ∃ v1 : Value, ∃ n1 : Nat, ∃ c1 : List Value, e = .returned (Value.tuple #[v0, v1]) ∧ (St H0 w0 H' w' (.row 3 1 v1 n1 c1 :: .box b0 185 [Value.int .i64 r.2.2.ring.p, Value.int .i64 r.2.2.ring.vars, v0_2, v0_3, Value.int .i64 r.2.2.many] :: .row 132 1 v0_2 n0_2 k0_2 :: .row 132 1 v0_3 n0_3 k0_3 :: L) ∧ Inc Ha H') ∧ RSl H' eI 1 v0 r.1 ∧ Els (up w0.heap.size H') eI 1 c1 r.2.1
set_option maxHeartbeats 4000000 in
theorem w_impl_echelon_reduce {H0 Ha : GH} {w0 wa : World} {L : List MO} {a0 : echelon} {b0 : Nat} {v0_2 : Value} {n0_2 : Nat} {k0_2 : List Value} {v0_3 : Value} {n0_3 : Nat} {k0_3 : List Value} (S0 : St H0 w0 Ha wa (.box b0 185 [Value.int .i64 a0.ring.p, Value.int .i64 a0.ring.vars, v0_2, v0_3, Value.int .i64 a0.many] :: .row 132 1 v0_2 n0_2 k0_2 :: .row 132 1 v0_3 n0_3 k0_3 :: L)) (p0_2 : Els (up w0.heap.size Ha) (eL eI 1) 1 k0_2 a0.rows) (d0_2 : (bl k0_2).Nodup) (p0_3 : Els (up w0.heap.size Ha) (eL eI 1) 1 k0_3 a0.made) (v1 : Value) (a1 : List Int) (p1 : RSl Ha eI 1 v1 a1) {r : ((List Int) × (List Int) × echelon)} (hp : (PF.impl_echelon_reduce a0 a1) = some r) :
    Calls Tryz.prog 86 #[Value.pointer (some (⟨b0, 0, none⟩ : Addr)), v1] wa (p_impl_echelon_reduce H0 w0 Ha L b0 v0_2 n0_2 k0_2 v0_3 n0_3 k0_3 r) := by
  unfold PF.impl_echelon_reduce at hp
  refine calls_go (N := 82) (args := [Value.pointer (some (⟨b0, 0, none⟩ : Addr)), v1]) Tryz.func86 rfl rfl rfl ?_
  refine FW.seq (FW.region ?_)
  refine FL.v (E.assign (v := Value.slice none 0 0) rfl) ?_
  refine FL.v (E.assign (v := Value.slice none 0 0) rfl) ?_
  refine FL.nil (FW.seq (FW.region ?_))
  refine FL.v (E.move (v := Value.pointer (some (⟨b0, 0, none⟩ : Addr))) rfl) ?_
  refine FL.v (E.nilCheck rfl) ?_
  refine FL.v (E.fieldAddr tf185_3 rfl) ?_
  refine FL.v (E.load rfl (run_load1 Tryz.isAgg3 (S0.box_now (i := 0) rfl) rfl)) ?_
  obtain ⟨xs21, hm22, hp⟩ := bnd hp
  obtain ⟨v23, w24, n28, cs29, run25, S26, els27, hbl30⟩ := S0.makeEls (P := Tryz.prog) te132 (G := (up w0.heap.size Ha)) (En := eI) (x0 := (0 : Int)) hm22 rfl (ones_cons rfl ones_nil) .i64 .i64
  refine FL.v (E.makeSlice rfl rfl run25) ?_
  refine FL.v (E.assign (v := v23) rfl) ?_
  refine FL.nil (FW.seq (FW.seq (FW.region ?_)))
  refine FL.v (E.move (v := Value.pointer (some (⟨b0, 0, none⟩ : Addr))) rfl) ?_
  refine FL.v (E.nilCheck rfl) ?_
  refine FL.v (E.fieldAddr tf185_1 rfl) ?_
  refine FL.v (E.load rfl (run_load1 Tryz.isAgg138 (S26.box_now (i := 1) rfl) rfl)) ?_
  refine FL.v (E.lenO te138 rfl S26 (i := 2) rfl p0_2 (by decide)) ?_
  refine FL.v (E.move (v := Value.int .i64 0) rfl) ?_
  refine FL.nil ?_
  obtain ⟨m31, hchk32, hp⟩ := bnd hp
  obtain ⟨q32, hq, hp⟩ := bndR hp
  refine FW.block ?_
  refine FW.mono (FW.forR (S := ((List Int) × (List Int))) (X := Empty) (fun (i32 : Nat) (s32 : ((List Int) × (List Int))) f w => ∃ H : GH, ∃ v33 : Value, ∃ n34 : Nat, ∃ cs35 : List Value, ∃ v37 : Value, St H0 w0 H w (.row 3 1 v33 n34 cs35 :: .box b0 185 [Value.int .i64 a0.ring.p, Value.int .i64 a0.ring.vars, v0_2, v0_3, Value.int .i64 a0.many] :: .row 132 1 v0_2 n0_2 k0_2 :: .row 132 1 v0_3 n0_3 k0_3 :: L) ∧ Inc Ha H ∧ Els (up w0.heap.size H) eI 1 cs35 s32.1 ∧ RSl H eI 1 v37 s32.2 ∧ f 22 = Value.int .i64 ((i32 : Nat) : Int) ∧ f 0 = Value.pointer (some (⟨b0, 0, none⟩ : Addr)) ∧ f 1 = v37 ∧ f 6 = v33 ∧ f 20 = v0_2 ∧ f 21 = Value.int .i64 (len a0.rows)) (fun (q : Rs ((List Int) × (List Int)) Empty) e f w => match q with | .go s32 => e = Exit.exit 0 ∧ (∃ H : GH, ∃ v33 : Value, ∃ n34 : Nat, ∃ cs35 : List Value, ∃ v37 : Value, St H0 w0 H w (.row 3 1 v33 n34 cs35 :: .box b0 185 [Value.int .i64 a0.ring.p, Value.int .i64 a0.ring.vars, v0_2, v0_3, Value.int .i64 a0.many] :: .row 132 1 v0_2 n0_2 k0_2 :: .row 132 1 v0_3 n0_3 k0_3 :: L) ∧ Inc Ha H ∧ Els (up w0.heap.size H) eI 1 cs35 s32.1 ∧ RSl H eI 1 v37 s32.2 ∧ f 1 = v37 ∧ f 6 = v33) | .rt x => x.elim) hq ⟨_, _, _, _, _, S26, (Inc.rfl _), els27, p1, rfl, rfl, rfl, rfl, rfl, rfl⟩ ?_ ?_) ?_
  ·
    clear hp hq
    rintro i32 s32 f43 w42 ⟨H39, v33, n34, cs35, v37, S40, i41, els36, h38, k44, k45, k46, k47, k48, k49⟩ hi32 hj32 o227 hp
    refine FW.seq (FW.region ?_)
    refine FL.v (E.lssT k44 k49 (lss_chk hj32 hchk32)) ?_
    refine FL.nil (FW.seq ?_)
    refine FW.condT rfl rfl ?_
    refine FW.skip (FW.seq (FW.block (FW.seq (FW.region ?_))))
    refine FL.v (E.move k44) ?_
    obtain ⟨x56, hx57, hp⟩ := bnd hp
    obtain ⟨p50, cs51, pt52, l53, at54, rel55⟩ := S40.row_at (i := 2) rfl p0_2 (by decide) hx57
    obtain ⟨v58, rfl, h59⟩ := eL_open rel55
    refine FL.v (E.indexAddr te138 k48 k44 pt52) ?_
    refine FL.v (E.load rfl (run_load0 Tryz.isAgg132 at54 rfl)) ?_
    refine FL.v (E.assign (v := Value.int .i64 ((i32 : Nat) : Int)) rfl) ?_
    refine FL.v (E.assign (v := v58) rfl) ?_
    refine FL.nil (FW.seq (FW.region ?_))
    refine FL.v (E.move k46) ?_
    refine FL.v (E.move (v := v58) rfl) ?_
    obtain ⟨r60, hr61, hp⟩ := bnd hp
    refine FL.call rfl rfl rfl (E.call Tryz.call143 (A1 rfl)) (w_impl_leading S40.sl v58 x56 (h59.mono (upI.tr i41)) hr61) ?_
    rintro e w62 ⟨rfl, r63⟩
    refine ⟨_, rfl, ?_⟩
    have S64 := S40.call r63
    obtain ⟨x71, hx72, hp⟩ := bnd hp
    obtain ⟨p65, cs66, pt67, l68, at69, rel70⟩ := h38.at hx72
    obtain rfl := eI_open rel70
    refine FL.v (E.indexAddr te132 rfl rfl pt67) ?_
    refine FL.v (E.load rfl (run_load0 Tryz.isAgg3 (at69.now S64.sl) rfl)) ?_
    refine FL.v (E.assign (v := Value.int .i64 x71) rfl) ?_
    refine FL.nil (FW.seq (FW.region ?_))
    refine FL.v (E.move (v := Value.int .i64 x71) rfl) ?_
    refine FL.v (E.neq rfl rfl) ?_
    refine FL.nil ?_
    rcases ifB hp with ⟨c73, hp⟩ | ⟨c73, hp⟩
    ·
      refine FW.condT rfl c73 ?_
      refine FW.seq ?_
      obtain ⟨r77, hr78, hp⟩ := bnd hp
      refine FW.drawB (SX H0 w0 H39 (.box b0 185 [Value.int .i64 a0.ring.p, Value.int .i64 a0.ring.vars, v0_2, v0_3, Value.int .i64 a0.many] :: L)) (fun f w => ∃ H : GH, ∃ v87 : Value, ∃ n88 : Nat, ∃ cs89 : List Value, St H0 w0 H w (.row 3 1 v33 n34 cs35 :: .box b0 185 [Value.int .i64 a0.ring.p, Value.int .i64 a0.ring.vars, v0_2, v0_3, Value.int .i64 a0.many] :: .row 132 1 v0_2 n0_2 k0_2 :: .row 132 1 v0_3 n0_3 k0_3 :: .row 3 1 v87 n88 cs89 :: L) ∧ Inc H39 H ∧ Els (up w0.heap.size H) eI 1 cs89 r77 ∧ f 0 = Value.pointer (some (⟨b0, 0, none⟩ : Addr)) ∧ f 1 = v87 ∧ f 6 = v33 ∧ f 7 = Value.int .i64 ((i32 : Nat) : Int) ∧ f 9 = Value.int .i64 x71 ∧ f 20 = v0_2 ∧ f 21 = Value.int .i64 (len a0.rows) ∧ f 22 = Value.int .i64 ((i32 : Nat) : Int)) (by kernel_rfl) S64.sl ?_ ?_
      ·
        intro w74 r75
        have S76 := S64.call r75
        refine FB.t (i := 0) (bs 15 1) rfl (SP.nil ⟨_, (S76.selT (a := [.row 3 1 v33 n34 cs35, .box b0 185 [Value.int .i64 a0.ring.p, Value.int .i64 a0.ring.vars, v0_2, v0_3, Value.int .i64 a0.many], .row 132 1 v0_2 n0_2 k0_2, .row 132 1 v0_3 n0_3 k0_3]) (l' := [.box b0 185 [Value.int .i64 a0.ring.p, Value.int .i64 a0.ring.vars, v0_2, v0_3, Value.int .i64 a0.many]]) [1] (by decide) rfl), (Inc.rfl _)⟩) rfl (fun w' hw' => (E.move k45)) ?_
        refine FB.t (i := 1) (bs 15 3) rfl (SP.nil ⟨_, (S76.selT (a := [.row 3 1 v33 n34 cs35, .box b0 185 [Value.int .i64 a0.ring.p, Value.int .i64 a0.ring.vars, v0_2, v0_3, Value.int .i64 a0.many], .row 132 1 v0_2 n0_2 k0_2, .row 132 1 v0_3 n0_3 k0_3]) (l' := [.box b0 185 [Value.int .i64 a0.ring.p, Value.int .i64 a0.ring.vars, v0_2, v0_3, Value.int .i64 a0.many]]) [1] (by decide) rfl), (Inc.rfl _)⟩) rfl (fun w' hw' => (E.nilCheck rfl)) ?_
        refine FB.t (i := 2) (bs 15 7) rfl (SP.nil ⟨_, (S76.selT (a := [.row 3 1 v33 n34 cs35, .box b0 185 [Value.int .i64 a0.ring.p, Value.int .i64 a0.ring.vars, v0_2, v0_3, Value.int .i64 a0.many], .row 132 1 v0_2 n0_2 k0_2, .row 132 1 v0_3 n0_3 k0_3]) (l' := [.box b0 185 [Value.int .i64 a0.ring.p, Value.int .i64 a0.ring.vars, v0_2, v0_3, Value.int .i64 a0.many]]) [1] (by decide) rfl), (Inc.rfl _)⟩) rfl (fun w' hw' => (E.fieldAddr tf185_0 rfl)) ?_
        refine FB.t (i := 3) (bs 15 15) rfl (SP.nil ⟨_, (S76.selT (a := [.row 3 1 v33 n34 cs35, .box b0 185 [Value.int .i64 a0.ring.p, Value.int .i64 a0.ring.vars, v0_2, v0_3, Value.int .i64 a0.many], .row 132 1 v0_2 n0_2 k0_2, .row 132 1 v0_3 n0_3 k0_3]) (l' := [.box b0 185 [Value.int .i64 a0.ring.p, Value.int .i64 a0.ring.vars, v0_2, v0_3, Value.int .i64 a0.many]]) [1] (by decide) rfl), (Inc.rfl _)⟩) rfl (fun w' hw' => (E.load rfl (run_loadA Tryz.isAgg137 Tryz.sizeOf137 ((SX.box_now hw' (i := 0) rfl).sub (j := 0) (n := 2) (c := [Value.int .i64 a0.ring.p, Value.int .i64 a0.ring.vars]) rfl) rfl))) ?_
        refine FB.t (i := 4) (bs 15 31) rfl (SP.nil ⟨_, (S76.selT (a := [.row 3 1 v33 n34 cs35, .box b0 185 [Value.int .i64 a0.ring.p, Value.int .i64 a0.ring.vars, v0_2, v0_3, Value.int .i64 a0.many], .row 132 1 v0_2 n0_2 k0_2, .row 132 1 v0_3 n0_3 k0_3]) (l' := [.box b0 185 [Value.int .i64 a0.ring.p, Value.int .i64 a0.ring.vars, v0_2, v0_3, Value.int .i64 a0.many]]) [1] (by decide) rfl), (Inc.rfl _)⟩) rfl (fun w' hw' => (E.move k46)) ?_
        refine FB.t (i := 5) (bs 15 63) rfl (SP.nil ⟨_, (S76.selT (a := [.row 3 1 v33 n34 cs35, .box b0 185 [Value.int .i64 a0.ring.p, Value.int .i64 a0.ring.vars, v0_2, v0_3, Value.int .i64 a0.many], .row 132 1 v0_2 n0_2 k0_2, .row 132 1 v0_3 n0_3 k0_3]) (l' := [.box b0 185 [Value.int .i64 a0.ring.p, Value.int .i64 a0.ring.vars, v0_2, v0_3, Value.int .i64 a0.many]]) [1] (by decide) rfl), (Inc.rfl _)⟩) rfl (fun w' hw' => (E.move (v := v58) rfl)) ?_
        refine FB.t (i := 6) (bs 15 127) rfl (SP.nil ⟨_, (S76.selT (a := [.row 3 1 v33 n34 cs35, .box b0 185 [Value.int .i64 a0.ring.p, Value.int .i64 a0.ring.vars, v0_2, v0_3, Value.int .i64 a0.many], .row 132 1 v0_2 n0_2 k0_2, .row 132 1 v0_3 n0_3 k0_3]) (l' := [.box b0 185 [Value.int .i64 a0.ring.p, Value.int .i64 a0.ring.vars, v0_2, v0_3, Value.int .i64 a0.many]]) [1] (by decide) rfl), (Inc.rfl _)⟩) rfl (fun w' hw' => (E.move k45)) ?_
        refine FB.t (i := 7) (bs 15 255) rfl (SP.nil ⟨_, (S76.selT (a := [.row 3 1 v33 n34 cs35, .box b0 185 [Value.int .i64 a0.ring.p, Value.int .i64 a0.ring.vars, v0_2, v0_3, Value.int .i64 a0.many], .row 132 1 v0_2 n0_2 k0_2, .row 132 1 v0_3 n0_3 k0_3]) (l' := [.box b0 185 [Value.int .i64 a0.ring.p, Value.int .i64 a0.ring.vars, v0_2, v0_3, Value.int .i64 a0.many]]) [1] (by decide) rfl), (Inc.rfl _)⟩) rfl (fun w' hw' => (E.nilCheck rfl)) ?_
        refine FB.t (i := 8) (bs 15 511) rfl (SP.nil ⟨_, (S76.selT (a := [.row 3 1 v33 n34 cs35, .box b0 185 [Value.int .i64 a0.ring.p, Value.int .i64 a0.ring.vars, v0_2, v0_3, Value.int .i64 a0.many], .row 132 1 v0_2 n0_2 k0_2, .row 132 1 v0_3 n0_3 k0_3]) (l' := [.box b0 185 [Value.int .i64 a0.ring.p, Value.int .i64 a0.ring.vars, v0_2, v0_3, Value.int .i64 a0.many]]) [1] (by decide) rfl), (Inc.rfl _)⟩) rfl (fun w' hw' => (E.fieldAddr tf185_0 rfl)) ?_
        refine FB.t (i := 9) (bs 15 1023) rfl (SP.nil ⟨_, (S76.selT (a := [.row 3 1 v33 n34 cs35, .box b0 185 [Value.int .i64 a0.ring.p, Value.int .i64 a0.ring.vars, v0_2, v0_3, Value.int .i64 a0.many], .row 132 1 v0_2 n0_2 k0_2, .row 132 1 v0_3 n0_3 k0_3]) (l' := [.box b0 185 [Value.int .i64 a0.ring.p, Value.int .i64 a0.ring.vars, v0_2, v0_3, Value.int .i64 a0.many]]) [1] (by decide) rfl), (Inc.rfl _)⟩) rfl (fun w' hw' => (E.fieldAddrN tf137_0 rfl rfl)) ?_
        refine FB.t (i := 10) (bs 15 2047) rfl (SP.nil ⟨_, (S76.selT (a := [.row 3 1 v33 n34 cs35, .box b0 185 [Value.int .i64 a0.ring.p, Value.int .i64 a0.ring.vars, v0_2, v0_3, Value.int .i64 a0.many], .row 132 1 v0_2 n0_2 k0_2, .row 132 1 v0_3 n0_3 k0_3]) (l' := [.box b0 185 [Value.int .i64 a0.ring.p, Value.int .i64 a0.ring.vars, v0_2, v0_3, Value.int .i64 a0.many]]) [1] (by decide) rfl), (Inc.rfl _)⟩) rfl (fun w' hw' => (E.load rfl (run_load1 Tryz.isAgg3 (SX.box_now hw' (i := 0) rfl) rfl))) ?_
        refine FB.t (i := 11) (bs 15 4095) rfl (SP.nil ⟨_, (S76.selT (a := [.row 3 1 v33 n34 cs35, .box b0 185 [Value.int .i64 a0.ring.p, Value.int .i64 a0.ring.vars, v0_2, v0_3, Value.int .i64 a0.many], .row 132 1 v0_2 n0_2 k0_2, .row 132 1 v0_3 n0_3 k0_3]) (l' := [.box b0 185 [Value.int .i64 a0.ring.p, Value.int .i64 a0.ring.vars, v0_2, v0_3, Value.int .i64 a0.many]]) [1] (by decide) rfl), (Inc.rfl _)⟩) rfl (fun w' hw' => (E.move (v := Value.int .i64 x71) rfl)) ?_
        refine FB.t (i := 12) (bs 15 8191) rfl (SP.nil ⟨_, (S76.selT (a := [.row 3 1 v33 n34 cs35, .box b0 185 [Value.int .i64 a0.ring.p, Value.int .i64 a0.ring.vars, v0_2, v0_3, Value.int .i64 a0.many], .row 132 1 v0_2 n0_2 k0_2, .row 132 1 v0_3 n0_3 k0_3]) (l' := [.box b0 185 [Value.int .i64 a0.ring.p, Value.int .i64 a0.ring.vars, v0_2, v0_3, Value.int .i64 a0.many]]) [1] (by decide) rfl), (Inc.rfl _)⟩) rfl (fun w' hw' => (E.sub rfl rfl)) ?_
        refine FB.all1 (i := 13) (by kernel_rfl) ?_
        ·
          refine FC.call (l' := (bs 15 16383)) rfl (by kernel_rfl) rfl rfl rfl (E.call Tryz.call144 (A4 rfl rfl rfl rfl)) (w_impl_ring_plus S76.sl a0.ring v37 s32.2 h38 v58 x56 (h59.mono (upI.tr i41)) (wr (a0.ring.p - x71)) hr78) ?_
          rintro e w80 ⟨H79, v83, n84, cs85, rfl, r82, els86⟩
          refine ⟨_, rfl, ?_⟩
          have els86 := els86.mono (up_le S76.size)
          have S81 := S76.join (l' := (.row 3 1 v83 n84 cs85 :: .row 3 1 v33 n34 cs35 :: .box b0 185 [Value.int .i64 a0.ring.p, Value.int .i64 a0.ring.vars, v0_2, v0_3, Value.int .i64 a0.many] :: .row 132 1 v0_2 n0_2 k0_2 :: .row 132 1 v0_3 n0_3 k0_3 :: L)) r82 rfl
          refine ⟨(SP.nil ⟨_, (S81.selT (a := [.row 3 1 v83 n84 cs85, .row 3 1 v33 n34 cs35, .box b0 185 [Value.int .i64 a0.ring.p, Value.int .i64 a0.ring.vars, v0_2, v0_3, Value.int .i64 a0.many], .row 132 1 v0_2 n0_2 k0_2, .row 132 1 v0_3 n0_3 k0_3]) (l' := [.box b0 185 [Value.int .i64 a0.ring.p, Value.int .i64 a0.ring.vars, v0_2, v0_3, Value.int .i64 a0.many]]) [2] (by decide) rfl), r82.run.inc⟩), ?_⟩
          refine FB.t (i := 14) (bs 15 32767) rfl (SP.nil ⟨_, (S81.selT (a := [.row 3 1 v83 n84 cs85, .row 3 1 v33 n34 cs35, .box b0 185 [Value.int .i64 a0.ring.p, Value.int .i64 a0.ring.vars, v0_2, v0_3, Value.int .i64 a0.many], .row 132 1 v0_2 n0_2 k0_2, .row 132 1 v0_3 n0_3 k0_3]) (l' := [.box b0 185 [Value.int .i64 a0.ring.p, Value.int .i64 a0.ring.vars, v0_2, v0_3, Value.int .i64 a0.many]]) [2] (by decide) rfl), r82.run.inc⟩) rfl (fun w' hw' => (E.assign (v := v83) rfl)) ?_
          exact FB.done (by kernel_rfl) ⟨_, _, _, _, (S81.selT (a := [.row 3 1 v83 n84 cs85, .row 3 1 v33 n34 cs35, .box b0 185 [Value.int .i64 a0.ring.p, Value.int .i64 a0.ring.vars, v0_2, v0_3, Value.int .i64 a0.many], .row 132 1 v0_2 n0_2 k0_2, .row 132 1 v0_3 n0_3 k0_3]) (l' := [.row 3 1 v33 n34 cs35, .box b0 185 [Value.int .i64 a0.ring.p, Value.int .i64 a0.ring.vars, v0_2, v0_3, Value.int .i64 a0.many], .row 132 1 v0_2 n0_2 k0_2, .row 132 1 v0_3 n0_3 k0_3, .row 3 1 v83 n84 cs85]) [1, 2, 3, 4, 0] (by decide) rfl), r82.run.inc, els86, k45, rfl, k47, rfl, rfl, k48, k49, k44⟩
      ·
        rintro f95 w94 ⟨H91, v87, n88, cs89, S92, i93, els90, k96, k97, k98, k99, k100, k101, k102, k103⟩
        refine FW.seq (FW.region ?_)
        refine FL.v (E.move k96) ?_
        refine FL.v (E.nilCheck rfl) ?_
        refine FL.v (E.fieldAddr tf185_2 rfl) ?_
        refine FL.v (E.load rfl (run_load1 Tryz.isAgg138 (S92.box_now (i := 1) rfl) rfl)) ?_
        refine FL.v (E.move k99) ?_
        obtain ⟨x110, hx111, hp⟩ := bnd hp
        obtain ⟨p104, cs105, pt106, l107, at108, rel109⟩ := S92.row_at (i := 3) rfl p0_3 (by decide) hx111
        obtain ⟨v112, rfl, h113⟩ := eL_open rel109
        refine FL.v (E.indexAddr te138 rfl rfl pt106) ?_
        refine FL.v (E.load rfl (run_load0 Tryz.isAgg132 at108 rfl)) ?_
        refine FL.v (E.lenP te132 rfl h113) ?_
        refine FL.v (E.move (v := Value.int .i64 0) rfl) ?_
        refine FL.nil ?_
        obtain ⟨q115, hq, hp⟩ := bndR hp
        refine FW.block ?_
        refine FW.mono (FW.forL (S := (List Int)) (X := Empty) (fun (i115 : Nat) (s115 : (List Int)) f w => ∃ H : GH, ∃ v116 : Value, ∃ n117 : Nat, ∃ cs118 : List Value, St H0 w0 H w (.row 3 1 v116 n117 cs118 :: .box b0 185 [Value.int .i64 a0.ring.p, Value.int .i64 a0.ring.vars, v0_2, v0_3, Value.int .i64 a0.many] :: .row 132 1 v0_2 n0_2 k0_2 :: .row 132 1 v0_3 n0_3 k0_3 :: .row 3 1 v87 n88 cs89 :: L) ∧ Inc H91 H ∧ Els (up w0.heap.size H) eI 1 cs118 s115 ∧ f 56 = Value.int .i64 ((i115 : Nat) : Int) ∧ f 0 = Value.pointer (some (⟨b0, 0, none⟩ : Addr)) ∧ f 1 = v87 ∧ f 6 = v116 ∧ f 9 = Value.int .i64 x71 ∧ f 20 = v0_2 ∧ f 21 = Value.int .i64 (len a0.rows) ∧ f 22 = Value.int .i64 ((i32 : Nat) : Int) ∧ f 54 = v112 ∧ f 55 = Value.int .i64 (len x110)) (fun (q : Rs (List Int) Empty) e f w => match q with | .go s115 => e = Exit.exit 2 ∧ (∃ H : GH, ∃ v116 : Value, ∃ n117 : Nat, ∃ cs118 : List Value, St H0 w0 H w (.row 3 1 v116 n117 cs118 :: .box b0 185 [Value.int .i64 a0.ring.p, Value.int .i64 a0.ring.vars, v0_2, v0_3, Value.int .i64 a0.many] :: .row 132 1 v0_2 n0_2 k0_2 :: .row 132 1 v0_3 n0_3 k0_3 :: .row 3 1 v87 n88 cs89 :: L) ∧ Inc H91 H ∧ Els (up w0.heap.size H) eI 1 cs118 s115 ∧ f 0 = Value.pointer (some (⟨b0, 0, none⟩ : Addr)) ∧ f 1 = v87 ∧ f 6 = v116 ∧ f 20 = v0_2 ∧ f 21 = Value.int .i64 (len a0.rows) ∧ f 22 = Value.int .i64 ((i32 : Nat) : Int)) | .rt x => x.elim) hq ⟨_, _, _, _, S92, (Inc.rfl _), (els36.mono (up_mono i93)), rfl, k96, k97, k98, k100, k101, k102, k103, rfl, rfl⟩ ?_ ?_) ?_
        ·
          clear hp hq
          rintro i115 y114 s115 f124 w123 ⟨H120, v116, n117, cs118, S121, i122, els119, k125, k126, k127, k128, k129, k130, k131, k133, k134, k135⟩ hx115 o195 hp
          refine FW.seq (FW.region ?_)
          refine FL.v (E.lssT k125 k135 (lss_len hx115)) ?_
          refine FL.nil (FW.seq ?_)
          refine FW.condT rfl rfl ?_
          refine FW.skip (FW.seq (FW.block (FW.seq (FW.region ?_))))
          refine FL.v (E.move k125) ?_
          obtain ⟨p136, cs139, pt140, l141, at142, rel143⟩ := h113.at (ix_nat hx115)
          obtain rfl := eI_open rel143
          refine FL.v (E.indexAddr te132 k134 k125 pt140) ?_
          refine FL.v (E.load rfl (run_load0 Tryz.isAgg3 ((at142.mono (upI.tr ((i41.tr i93).tr i122))).now S121.sl) rfl)) ?_
          refine FL.v (E.assign (v := Value.int .i64 ((i115 : Nat) : Int)) rfl) ?_
          refine FL.v (E.assign (v := Value.int .i64 y114) rfl) ?_
          refine FL.nil ?_
          obtain ⟨x153, hx154, hp⟩ := bnd hp
          obtain ⟨u157, z156, hp⟩ := bnd hp
          obtain ⟨x164, hx165, hp⟩ := bnd hp
          obtain ⟨xs170, hput171, hp⟩ := bnd hp
          refine FW.drawB (SX H0 w0 H120 (.box b0 185 [Value.int .i64 a0.ring.p, Value.int .i64 a0.ring.vars, v0_2, v0_3, Value.int .i64 a0.many] :: L)) (fun f w => ∃ H : GH, ∃ v175 : Value, ∃ n176 : Nat, ∃ cs177 : List Value, St H0 w0 H w (.row 3 1 v175 n176 cs177 :: .box b0 185 [Value.int .i64 a0.ring.p, Value.int .i64 a0.ring.vars, v0_2, v0_3, Value.int .i64 a0.many] :: .row 132 1 v0_2 n0_2 k0_2 :: .row 132 1 v0_3 n0_3 k0_3 :: .row 3 1 v87 n88 cs89 :: L) ∧ Inc H120 H ∧ Els (up w0.heap.size H) eI 1 cs177 xs170 ∧ f 0 = Value.pointer (some (⟨b0, 0, none⟩ : Addr)) ∧ f 1 = v87 ∧ f 6 = v175 ∧ f 9 = Value.int .i64 x71 ∧ f 20 = v0_2 ∧ f 21 = Value.int .i64 (len a0.rows) ∧ f 22 = Value.int .i64 ((i32 : Nat) : Int) ∧ f 54 = v112 ∧ f 55 = Value.int .i64 (len x110) ∧ f 56 = Value.int .i64 ((i115 : Nat) : Int)) (by kernel_rfl) S121.sl ?_ ?_
          ·
            intro w144 r145
            have S146 := S121.call r145
            refine FB.t (i := 0) (bs 18 1) rfl (SP.nil ⟨_, (S146.selT (a := [.row 3 1 v116 n117 cs118, .box b0 185 [Value.int .i64 a0.ring.p, Value.int .i64 a0.ring.vars, v0_2, v0_3, Value.int .i64 a0.many], .row 132 1 v0_2 n0_2 k0_2, .row 132 1 v0_3 n0_3 k0_3, .row 3 1 v87 n88 cs89]) (l' := [.box b0 185 [Value.int .i64 a0.ring.p, Value.int .i64 a0.ring.vars, v0_2, v0_3, Value.int .i64 a0.many]]) [1] (by decide) rfl), (Inc.rfl _)⟩) rfl (fun w' hw' => (E.move k128)) ?_
            refine FB.t (i := 1) (bs 18 3) rfl (SP.nil ⟨_, (S146.selT (a := [.row 3 1 v116 n117 cs118, .box b0 185 [Value.int .i64 a0.ring.p, Value.int .i64 a0.ring.vars, v0_2, v0_3, Value.int .i64 a0.many], .row 132 1 v0_2 n0_2 k0_2, .row 132 1 v0_3 n0_3 k0_3, .row 3 1 v87 n88 cs89]) (l' := [.box b0 185 [Value.int .i64 a0.ring.p, Value.int .i64 a0.ring.vars, v0_2, v0_3, Value.int .i64 a0.many]]) [1] (by decide) rfl), (Inc.rfl _)⟩) rfl (fun w' hw' => (E.move (v := Value.int .i64 ((i115 : Nat) : Int)) rfl)) ?_
            refine FB.t (i := 2) (bs 18 7) rfl (SP.nil ⟨_, (S146.selT (a := [.row 3 1 v116 n117 cs118, .box b0 185 [Value.int .i64 a0.ring.p, Value.int .i64 a0.ring.vars, v0_2, v0_3, Value.int .i64 a0.many], .row 132 1 v0_2 n0_2 k0_2, .row 132 1 v0_3 n0_3 k0_3, .row 3 1 v87 n88 cs89]) (l' := [.box b0 185 [Value.int .i64 a0.ring.p, Value.int .i64 a0.ring.vars, v0_2, v0_3, Value.int .i64 a0.many]]) [1] (by decide) rfl), (Inc.rfl _)⟩) rfl (fun w' hw' => (E.move k128)) ?_
            refine FB.t (i := 3) (bs 18 15) rfl (SP.nil ⟨_, (S146.selT (a := [.row 3 1 v116 n117 cs118, .box b0 185 [Value.int .i64 a0.ring.p, Value.int .i64 a0.ring.vars, v0_2, v0_3, Value.int .i64 a0.many], .row 132 1 v0_2 n0_2 k0_2, .row 132 1 v0_3 n0_3 k0_3, .row 3 1 v87 n88 cs89]) (l' := [.box b0 185 [Value.int .i64 a0.ring.p, Value.int .i64 a0.ring.vars, v0_2, v0_3, Value.int .i64 a0.many]]) [1] (by decide) rfl), (Inc.rfl _)⟩) rfl (fun w' hw' => (E.move (v := Value.int .i64 ((i115 : Nat) : Int)) rfl)) ?_
            obtain ⟨p147, cs148, pt149, l150, at151, rel152, hall155⟩ := S146.row_atA (i := 0) rfl els119 (by decide) hx154
            obtain rfl := eI_open rel152
            refine FB.t (i := 4) (bs 18 31) rfl (SP.nil ⟨_, (S146.selT (a := [.row 3 1 v116 n117 cs118, .box b0 185 [Value.int .i64 a0.ring.p, Value.int .i64 a0.ring.vars, v0_2, v0_3, Value.int .i64 a0.many], .row 132 1 v0_2 n0_2 k0_2, .row 132 1 v0_3 n0_3 k0_3, .row 3 1 v87 n88 cs89]) (l' := [.box b0 185 [Value.int .i64 a0.ring.p, Value.int .i64 a0.ring.vars, v0_2, v0_3, Value.int .i64 a0.many]]) [1] (by decide) rfl), (Inc.rfl _)⟩) rfl (fun w' hw' => (E.indexAddr te132 rfl rfl pt149)) ?_
            refine FB.phase [17] (fun w' => WAt w' p147 [Value.int .i64 x153]) ?_
            refine FB.p (i := 5) (bs 18 63) 0 [9, 15, 16, 17] rfl (SP.on (hall155 _ _ _ 0 S146 rfl) (SP.nil ⟨_, (S146.selT (a := [.row 3 1 v116 n117 cs118, .box b0 185 [Value.int .i64 a0.ring.p, Value.int .i64 a0.ring.vars, v0_2, v0_3, Value.int .i64 a0.many], .row 132 1 v0_2 n0_2 k0_2, .row 132 1 v0_3 n0_3 k0_3, .row 3 1 v87 n88 cs89]) (l' := [.box b0 185 [Value.int .i64 a0.ring.p, Value.int .i64 a0.ring.vars, v0_2, v0_3, Value.int .i64 a0.many]]) [1] (by decide) rfl), (Inc.rfl _)⟩)) rfl rfl (fun w' hw' => (E.load rfl (run_load0 Tryz.isAgg3 hw' rfl))) ?_
            refine FB.t (i := 6) (bs 18 127) rfl (SP.on (hall155 _ _ _ 0 S146 rfl) (SP.nil ⟨_, (S146.selT (a := [.row 3 1 v116 n117 cs118, .box b0 185 [Value.int .i64 a0.ring.p, Value.int .i64 a0.ring.vars, v0_2, v0_3, Value.int .i64 a0.many], .row 132 1 v0_2 n0_2 k0_2, .row 132 1 v0_3 n0_3 k0_3, .row 3 1 v87 n88 cs89]) (l' := [.box b0 185 [Value.int .i64 a0.ring.p, Value.int .i64 a0.ring.vars, v0_2, v0_3, Value.int .i64 a0.many]]) [1] (by decide) rfl), (Inc.rfl _)⟩)) rfl (fun w' hw' => (E.move k129)) ?_
            refine FB.t (i := 7) (bs 18 255) rfl (SP.on (hall155 _ _ _ 0 S146 rfl) (SP.nil ⟨_, (S146.selT (a := [.row 3 1 v116 n117 cs118, .box b0 185 [Value.int .i64 a0.ring.p, Value.int .i64 a0.ring.vars, v0_2, v0_3, Value.int .i64 a0.many], .row 132 1 v0_2 n0_2 k0_2, .row 132 1 v0_3 n0_3 k0_3, .row 3 1 v87 n88 cs89]) (l' := [.box b0 185 [Value.int .i64 a0.ring.p, Value.int .i64 a0.ring.vars, v0_2, v0_3, Value.int .i64 a0.many]]) [1] (by decide) rfl), (Inc.rfl _)⟩)) rfl (fun w' hw' => (E.move (v := Value.int .i64 y114) rfl)) ?_
            refine FB.t (i := 8) (bs 18 511) rfl (SP.on (hall155 _ _ _ 0 S146 rfl) (SP.nil ⟨_, (S146.selT (a := [.row 3 1 v116 n117 cs118, .box b0 185 [Value.int .i64 a0.ring.p, Value.int .i64 a0.ring.vars, v0_2, v0_3, Value.int .i64 a0.many], .row 132 1 v0_2 n0_2 k0_2, .row 132 1 v0_3 n0_3 k0_3, .row 3 1 v87 n88 cs89]) (l' := [.box b0 185 [Value.int .i64 a0.ring.p, Value.int .i64 a0.ring.vars, v0_2, v0_3, Value.int .i64 a0.many]]) [1] (by decide) rfl), (Inc.rfl _)⟩)) rfl (fun w' hw' => (E.mul rfl rfl)) ?_
            refine FB.t (i := 9) (bs 18 1023) rfl (SP.on (hall155 _ _ _ 0 S146 rfl) (SP.nil ⟨_, (S146.selT (a := [.row 3 1 v116 n117 cs118, .box b0 185 [Value.int .i64 a0.ring.p, Value.int .i64 a0.ring.vars, v0_2, v0_3, Value.int .i64 a0.many], .row 132 1 v0_2 n0_2 k0_2, .row 132 1 v0_3 n0_3 k0_3, .row 3 1 v87 n88 cs89]) (l' := [.box b0 185 [Value.int .i64 a0.ring.p, Value.int .i64 a0.ring.vars, v0_2, v0_3, Value.int .i64 a0.many]]) [1] (by decide) rfl), (Inc.rfl _)⟩)) rfl (fun w' hw' => (E.add rfl rfl)) ?_
            refine FB.t (i := 10) (bs 18 2047) rfl (SP.on (hall155 _ _ _ 0 S146 rfl) (SP.nil ⟨_, (S146.selT (a := [.row 3 1 v116 n117 cs118, .box b0 185 [Value.int .i64 a0.ring.p, Value.int .i64 a0.ring.vars, v0_2, v0_3, Value.int .i64 a0.many], .row 132 1 v0_2 n0_2 k0_2, .row 132 1 v0_3 n0_3 k0_3, .row 3 1 v87 n88 cs89]) (l' := [.box b0 185 [Value.int .i64 a0.ring.p, Value.int .i64 a0.ring.vars, v0_2, v0_3, Value.int .i64 a0.many]]) [1] (by decide) rfl), (Inc.rfl _)⟩)) rfl (fun w' hw' => (E.move k126)) ?_
            refine FB.t (i := 11) (bs 18 4095) rfl (SP.on (hall155 _ _ _ 0 S146 rfl) (SP.nil ⟨_, (S146.selT (a := [.row 3 1 v116 n117 cs118, .box b0 185 [Value.int .i64 a0.ring.p, Value.int .i64 a0.ring.vars, v0_2, v0_3, Value.int .i64 a0.many], .row 132 1 v0_2 n0_2 k0_2, .row 132 1 v0_3 n0_3 k0_3, .row 3 1 v87 n88 cs89]) (l' := [.box b0 185 [Value.int .i64 a0.ring.p, Value.int .i64 a0.ring.vars, v0_2, v0_3, Value.int .i64 a0.many]]) [1] (by decide) rfl), (Inc.rfl _)⟩)) rfl (fun w' hw' => (E.nilCheck rfl)) ?_
            refine FB.t (i := 12) (bs 18 8191) rfl (SP.on (hall155 _ _ _ 0 S146 rfl) (SP.nil ⟨_, (S146.selT (a := [.row 3 1 v116 n117 cs118, .box b0 185 [Value.int .i64 a0.ring.p, Value.int .i64 a0.ring.vars, v0_2, v0_3, Value.int .i64 a0.many], .row 132 1 v0_2 n0_2 k0_2, .row 132 1 v0_3 n0_3 k0_3, .row 3 1 v87 n88 cs89]) (l' := [.box b0 185 [Value.int .i64 a0.ring.p, Value.int .i64 a0.ring.vars, v0_2, v0_3, Value.int .i64 a0.many]]) [1] (by decide) rfl), (Inc.rfl _)⟩)) rfl (fun w' hw' => (E.fieldAddr tf185_0 rfl)) ?_
            refine FB.t (i := 13) (bs 18 16383) rfl (SP.on (hall155 _ _ _ 0 S146 rfl) (SP.nil ⟨_, (S146.selT (a := [.row 3 1 v116 n117 cs118, .box b0 185 [Value.int .i64 a0.ring.p, Value.int .i64 a0.ring.vars, v0_2, v0_3, Value.int .i64 a0.many], .row 132 1 v0_2 n0_2 k0_2, .row 132 1 v0_3 n0_3 k0_3, .row 3 1 v87 n88 cs89]) (l' := [.box b0 185 [Value.int .i64 a0.ring.p, Value.int .i64 a0.ring.vars, v0_2, v0_3, Value.int .i64 a0.many]]) [1] (by decide) rfl), (Inc.rfl _)⟩)) rfl (fun w' hw' => (E.fieldAddrN tf137_0 rfl rfl)) ?_
            refine FB.t (i := 14) (bs 18 32767) rfl (SP.on (hall155 _ _ _ 0 S146 rfl) (SP.nil ⟨_, (S146.selT (a := [.row 3 1 v116 n117 cs118, .box b0 185 [Value.int .i64 a0.ring.p, Value.int .i64 a0.ring.vars, v0_2, v0_3, Value.int .i64 a0.many], .row 132 1 v0_2 n0_2 k0_2, .row 132 1 v0_3 n0_3 k0_3, .row 3 1 v87 n88 cs89]) (l' := [.box b0 185 [Value.int .i64 a0.ring.p, Value.int .i64 a0.ring.vars, v0_2, v0_3, Value.int .i64 a0.many]]) [1] (by decide) rfl), (Inc.rfl _)⟩)) rfl (fun w' hw' => (E.load rfl (run_load1 Tryz.isAgg3 (SX.box_now hw' (i := 0) rfl) rfl))) ?_
            refine FB.t (i := 15) (bs 18 65535) rfl (SP.on (hall155 _ _ _ 0 S146 rfl) (SP.nil ⟨_, (S146.selT (a := [.row 3 1 v116 n117 cs118, .box b0 185 [Value.int .i64 a0.ring.p, Value.int .i64 a0.ring.vars, v0_2, v0_3, Value.int .i64 a0.many], .row 132 1 v0_2 n0_2 k0_2, .row 132 1 v0_3 n0_3 k0_3, .row 3 1 v87 n88 cs89]) (l' := [.box b0 185 [Value.int .i64 a0.ring.p, Value.int .i64 a0.ring.vars, v0_2, v0_3, Value.int .i64 a0.many]]) [1] (by decide) rfl), (Inc.rfl _)⟩)) rfl (fun w' hw' => (E.rem rfl rfl (nz_ne z156))) ?_
            obtain ⟨p158, cs159, pt160, l161, at162, rel163, hall166⟩ := S146.row_atA (i := 0) rfl els119 (by decide) hx165
            obtain rfl := eI_open rel163
            refine FB.t (i := 16) (bs 18 131071) rfl (SP.on (hall155 _ _ _ 0 S146 rfl) (SP.nil ⟨_, (S146.selT (a := [.row 3 1 v116 n117 cs118, .box b0 185 [Value.int .i64 a0.ring.p, Value.int .i64 a0.ring.vars, v0_2, v0_3, Value.int .i64 a0.many], .row 132 1 v0_2 n0_2 k0_2, .row 132 1 v0_3 n0_3 k0_3, .row 3 1 v87 n88 cs89]) (l' := [.box b0 185 [Value.int .i64 a0.ring.p, Value.int .i64 a0.ring.vars, v0_2, v0_3, Value.int .i64 a0.many]]) [1] (by decide) rfl), (Inc.rfl _)⟩)) rfl (fun w' hw' => (E.indexAddr te132 rfl rfl pt160)) ?_
            refine FB.all1 (i := 17) (by kernel_rfl) ?_
            ·
              obtain ⟨w167, cs173, run168, S169, els172, ce174⟩ := S146.putEls (P := Tryz.prog) (t := 3) (i := 0) rfl els119 hput171 pt160 Tryz.sizeOf3 (u := Value.int .i64 ((wr (x153 + (wr (x71 * y114)))).tmod a0.ring.p)) (c := [Value.int .i64 ((wr (x153 + (wr (x71 * y114)))).tmod a0.ring.p)]) rfl rfl (ones_cons rfl ones_nil) rfl
              have S169 : St H0 w0 H120 w167 (.row 3 1 v116 n117 cs173 :: .box b0 185 [Value.int .i64 a0.ring.p, Value.int .i64 a0.ring.vars, v0_2, v0_3, Value.int .i64 a0.many] :: .row 132 1 v0_2 n0_2 k0_2 :: .row 132 1 v0_3 n0_3 k0_3 :: .row 3 1 v87 n88 cs89 :: L) := S169
              refine FC.act (l' := (bs 18 262143)) rfl (by kernel_rfl) rfl rfl (E.store rfl rfl run168) ?_
              refine ⟨(SP.o (SP.nil ⟨_, (S169.selT (a := [.row 3 1 v116 n117 cs173, .box b0 185 [Value.int .i64 a0.ring.p, Value.int .i64 a0.ring.vars, v0_2, v0_3, Value.int .i64 a0.many], .row 132 1 v0_2 n0_2 k0_2, .row 132 1 v0_3 n0_3 k0_3, .row 3 1 v87 n88 cs89]) (l' := [.box b0 185 [Value.int .i64 a0.ring.p, Value.int .i64 a0.ring.vars, v0_2, v0_3, Value.int .i64 a0.many]]) [1] (by decide) rfl), (Inc.rfl _)⟩)), ?_⟩
              exact FB.done (by kernel_rfl) ⟨_, _, _, _, S169, (Inc.rfl _), els172, k126, k127, k128, k129, k130, k131, k133, k134, k135, k125⟩
          ·
            rintro f183 w182 ⟨H179, v175, n176, cs177, S180, i181, els178, k184, k186, k187, k188, k189, k190, k191, k192, k193, k194⟩
            refine FW.region ?_
            refine FL.v (E.add k194 rfl) ?_
            refine FL.v (E.move (v := Value.int .i64 (wr (((i115 : Nat) : Int) + 1))) rfl) ?_
            refine FL.nil ?_
            obtain rfl := Option.some.inj hp
            exact ⟨rfl, ⟨_, _, _, _, S180, (i122.tr i181), els178, (nat_succ rfl (lt_of_get hx115) (h113.mono (upI.tr (((i41.tr i93).tr i122).tr i181))).le), k184, k186, k187, k188, k189, k190, k191, k192, k193⟩⟩
        ·
          clear hp hq
          rintro s115 f216 w215 ⟨H212, v116, n117, cs118, S213, i214, els119, k217, k218, k219, k220, k221, k222, k223, k224, k225, k226⟩
          refine FW.seq (FW.region ?_)
          refine FL.v (E.lss k217 k226) ?_
          refine FL.nil (FW.seq ?_)
          refine FW.condF rfl dlt_len ?_
          refine FW.exit ?_
          exact ⟨nofun, rfl, ⟨_, _, _, _, S213, i214, els119, k218, k219, k220, k222, k223, k224⟩⟩
        ·
          clear hq
          intro e f200 w199 hD
          rcases q115 with s115 | x115
          ·
            obtain ⟨rfl, hD⟩ := hD
            obtain ⟨H196, v116, n117, cs118, S197, i198, els119, k201, k202, k203, k204, k205, k206⟩ := hD
            replace hp := el_go hp
            refine FW.region ?_
            refine FL.v (E.add k206 rfl) ?_
            refine FL.v (E.move (v := Value.int .i64 (wr (((i32 : Nat) : Int) + 1))) rfl) ?_
            refine FL.nil ?_
            obtain ⟨H207, S208, i209, h210, nv211⟩ := S197.sealRowU (i := 4) (l' := (.row 3 1 v116 n117 cs118 :: .box b0 185 [Value.int .i64 a0.ring.p, Value.int .i64 a0.ring.vars, v0_2, v0_3, Value.int .i64 a0.many] :: .row 132 1 v0_2 n0_2 k0_2 :: .row 132 1 v0_3 n0_3 k0_3 :: L)) rfl (els90.mono (up_mono i198)) (by decide) rfl
            obtain rfl := Option.some.inj hp
            exact ⟨rfl, ⟨_, _, _, _, _, S208, (((i41.tr i93).tr i198).tr i209), (els119.mono (up_mono i209)), (h210.mono upI), (nat_succ rfl hj32 (chk_le hchk32)), k201, k202, k203, k204, k205⟩⟩
          · exact x115.elim
    ·
      refine FW.condF rfl c73 ?_
      refine FW.skip (FW.region ?_)
      refine FL.v (E.add k44 rfl) ?_
      refine FL.v (E.move (v := Value.int .i64 (wr (((i32 : Nat) : Int) + 1))) rfl) ?_
      refine FL.nil ?_
      obtain rfl := Option.some.inj hp
      exact ⟨rfl, ⟨_, _, _, _, _, S64, i41, els36, h38, (nat_succ rfl hj32 (chk_le hchk32)), k45, k46, k47, k48, k49⟩⟩
  ·
    clear hp hq
    rintro s32 f239 w238 ⟨H235, v33, n34, cs35, v37, S236, i237, els36, h38, k240, k241, k242, k243, k244, k245⟩
    refine FW.seq (FW.region ?_)
    refine FL.v (E.lss k240 k245) ?_
    refine FL.nil (FW.seq ?_)
    refine FW.condF rfl (dlt_maxchk hchk32) ?_
    refine FW.exit ?_
    exact ⟨nofun, rfl, ⟨_, _, _, _, _, S236, i237, els36, h38, k242, k243⟩⟩
  ·
    clear hq
    intro e f232 w231 hD
    rcases q32 with s32 | x32
    ·
      obtain ⟨rfl, hD⟩ := hD
      obtain ⟨H228, v33, n34, cs35, v37, S229, i230, els36, h38, k233, k234⟩ := hD
      replace hp := el_go hp
      refine FW.seq (FW.region ?_)
      refine FL.v (E.move k233) ?_
      refine FL.v (E.move k234) ?_
      refine FL.v (E.assign (v := v37) rfl) ?_
      refine FL.v (E.assign (v := v33) rfl) ?_
      refine FL.nil ?_
      refine FW.ret ?_
      obtain rfl := Option.some.inj hp
      exact ⟨.inr rfl, res2 rfl rfl rfl ⟨_, _, _, _, _, rfl, ⟨S229, i230⟩, h38, els36⟩⟩
    · exact x32.elim

theorem w_impl_ring_inverse {Ha : GH} {wa : World} (hs : Sl Ha wa) (a0 : ring) (a1 : Int) {r : Int} (hp : (PF.impl_ring_inverse a0 a1) = some r) :
  Calls Tryz.prog 224 #[Value.agg #[Value.int .i64 a0.p, Value.int .i64 a0.vars], Value.int .i64 a1] wa (Sc Ha wa (Value.int .i64 r)) := by
 unfold PF.impl_ring_inverse at hp
 have S0 := St.init hs
 refine calls_go (N := 16) (args := [Value.agg #[Value.int .i64 a0.p, Value.int .i64 a0.vars], Value.int .i64 a1]) Tryz.func224 rfl rfl rfl ?_
 refine FW.seq (FW.region ?_)
 obtain ⟨b21, w22, run23, S24⟩ := S0.box (P := Tryz.prog) 137 [Value.int .i64 a0.p, Value.int .i64 a0.vars] (v := Value.agg #[Value.int .i64 a0.p, Value.int .i64 a0.vars]) rfl (ones_cons rfl (ones_cons rfl ones_nil))
 refine FL.v (E.box rfl run23) ?_
 obtain ⟨H25, S26, i27, at28⟩ := S24.sealBox (i := 0) (l' := []) rfl rfl
 refine FL.v (E.assign (v := Value.int .i64 0) rfl) ?_
 refine FL.nil (FW.seq (FW.region ?_))
 refine FL.v (E.assign (v := Value.int .i64 1) rfl) ?_
 refine FL.nil ?_
 obtain ⟨q29, hq, hp⟩ := bndR hp
 refine FW.block ?_
 refine FW.mono (FW.iter (S := Int) (X := Int) (fun (s29 : Int) f w => ∃ H : GH, St Ha wa H w [] ∧ Inc H25 H ∧ f 1 = Value.int .i64 a1 ∧ f 2 = Value.pointer (some ⟨b21, 0, none⟩) ∧ f 5 = Value.int .i64 s29) (fun q e f w => match q with | .go s29 => e = Exit.exit 0 ∧ (∃ H : GH, St Ha wa H w [] ∧ Inc H25 H ∧ f 4 = Value.int .i64 0) | .rt x => ((e = Exit.ret) ∧ (fun e f w => (e = Exit.normal ∨ e = Exit.ret) ∧ ∀ a, Fr (δ := []) 16 a f → ∃ v, (results Tryz.f224 a.tmps).run Tryz.prog w = .ok v w ∧ (Sc Ha wa (Value.int .i64 x)) (.returned v) w) e f w)) hq ⟨_, S26, (Inc.rfl _), rfl, rfl, rfl⟩ ?_) ?_
 ·
  clear hp hq
  rintro s29 f45 w44 ⟨H41, S42, i43, k46, k47, k48⟩ o52 hp
  refine FW.seq (FW.block (FW.seq (FW.region ?_)))
  refine FL.v (E.move k46) ?_
  refine FL.v (E.move k48) ?_
  refine FL.v (E.mul rfl rfl) ?_
  refine FL.v (E.fieldAddr tf137_0 k47) ?_
  refine FL.v (E.load rfl (run_load1 Tryz.isAgg3 ((at28.mono i43).now S42.sl) rfl)) ?_
  obtain ⟨u50, z49, hp⟩ := bnd hp
  refine FL.v (E.rem rfl rfl (nz_ne z49)) ?_
  refine FL.v (E.eql rfl rfl) ?_
  refine FL.nil ?_
  rcases ifB hp with ⟨c51, hp⟩ | ⟨c51, hp⟩
  ·
   refine FW.condT rfl c51 ?_
   refine FW.seq (FW.region ?_)
   refine FL.v (E.move k48) ?_
   refine FL.v (E.assign (v := Value.int .i64 s29) rfl) ?_
   refine FL.nil ?_
   refine FW.ret ?_
   obtain rfl := Option.some.inj hp
   exact ⟨nofun, rfl, ⟨.inr rfl, res1 rfl rfl ⟨rfl, S42.back⟩⟩⟩
  ·
   refine FW.condF rfl c51 ?_
   refine FW.skip (FW.region ?_)
   refine FL.v (E.move k48) ?_
   refine FL.v (E.add rfl rfl) ?_
   refine FL.v (E.assign (v := Value.int .i64 (wr (s29 + 1))) rfl) ?_
   refine FL.nil ?_
   obtain rfl := Option.some.inj hp
   exact ⟨rfl, ⟨_, S42, i43, k46, k47, rfl⟩⟩
 ·
  clear hq
  intro e f57 w56 hD
  rcases q29 with s29 | x29
  ·
   obtain ⟨rfl, hD⟩ := hD
   obtain ⟨H53, S54, i55, k58⟩ := hD
   replace hp := el_go hp
   obtain rfl := Option.some.inj hp
   exact ⟨.inl rfl, res1 rfl k58 ⟨rfl, S54.back⟩⟩
  ·
   obtain ⟨he, hL⟩ := hD
   replace hp := el_rt hp
   obtain rfl := Option.some.inj hp
   subst he
   exact hL

end Go.Proofs
