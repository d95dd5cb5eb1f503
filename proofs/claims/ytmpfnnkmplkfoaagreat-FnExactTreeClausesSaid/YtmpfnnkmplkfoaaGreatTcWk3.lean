/- Part of the walks and plain laws behind the claim: it proves helpers, under no condition beyond their own. -/
import Derived.Test.YtmpfnnkmplkfoaaGreatTcWk2
set_option linter.unusedVariables false
set_option maxRecDepth 100000
namespace Go.Proofs
open Go.Mr Go.Pu Go.PF Go.RowKit

theorem w_laws_markTreeNodeS {H0 Ha : GH} {w0 wa : World} {l : List MO} (S0 : St H0 w0 Ha wa l) (hs0 : Sl H0 w0) (v0 : Value) (a0 : List TreeNode) (p0 : RSl (up w0.heap.size Ha) eTreeNode 4 v0 a0) (a1 : Int) :
  Calls Tryz.prog 32 #[v0, Value.int .i64 a1] wa (M1 H0 w0 Ha l eTreeNode 4 v0 (PF.laws_markTreeNodeS a0 a1)) := by
 obtain ⟨c0, n0, hc0⟩ := p0.nest eTreeNode_flat (by decide)
 have hln := p0.ln
 have hle := p0.le
 refine calls_go (N := 41) (args := [v0, Value.int .i64 a1]) Tryz.func32 rfl rfl rfl ?_
 refine FW.seq (FW.region ?_)
 refine FL.v (E.assign (v := Value.int .i64 0) rfl) ?_
 refine FL.nil (FW.seq (FW.seq (FW.region ?_)))
 refine FL.v (E.assign (v := Value.int .i64 0) rfl) ?_
 refine FL.nil (FW.block ?_)
 refine FW.mono (FW.mark (F := fun y m => ((TreeNode.mk m (wr (m + 1)) (wr ((wr (m + 1)) + 1)) (wr ((wr ((wr (m + 1)) + 1)) + 1))), (wr ((wr ((wr ((wr (m + 1)) + 1)) + 1)) + 1)))) (a0 := a0) (k0 := a1) (fun (i : Nat) (xs : List TreeNode) (k : Int) f w => ∃ (H : GH) (c : List Value), St H0 w0 H w l ∧ Nest (up w0.heap.size H) eTreeNode 4 v0 xs c ∧ bl c = bl c0 ∧ (∀ b, b ∉ bl [v0] → b ∉ bl c0 → H b = Ha b) ∧ f 0 = v0 ∧ f 1 = Value.int .i64 k ∧ f 5 = Value.int .i64 ((i : Nat) : Int)) (fun e f w => e = Exit.exit 0 ∧ ∃ (H : GH) (c : List Value), St H0 w0 H w l ∧ Nest (up w0.heap.size H) eTreeNode 4 v0 (markFrom (fun y m => ((TreeNode.mk m (wr (m + 1)) (wr ((wr (m + 1)) + 1)) (wr ((wr ((wr (m + 1)) + 1)) + 1))), (wr ((wr ((wr ((wr (m + 1)) + 1)) + 1)) + 1)))) a0 a1).1 c ∧ bl c = bl c0 ∧ (∀ b, b ∉ bl [v0] → b ∉ bl c0 → H b = Ha b) ∧ f 0 = v0 ∧ f 1 = Value.int .i64 (markFrom (fun y m => ((TreeNode.mk m (wr (m + 1)) (wr ((wr (m + 1)) + 1)) (wr ((wr ((wr (m + 1)) + 1)) + 1))), (wr ((wr ((wr ((wr (m + 1)) + 1)) + 1)) + 1)))) a0 a1).2) ⟨_, _, S0, n0, rfl, fun _ _ _ => rfl, rfl, rfl, rfl⟩ ?_ ?_) ?_
 ·
  rintro i y xs m f1 w1 ⟨H1, c1, S1, n1, hb, ho, kv, kk, kc⟩ hx hy
  obtain ⟨p, hpt, wr0, hB, hr, nd⟩ := n1.begin hy (by decide)
  have hci := eTreeNode_open hr
  have rd := wr0.opens hci
  refine FW.seq (FW.seq (FW.region ?_))
  refine FL.v (E.move kc) ?_
  refine FL.v (E.move kv) ?_
  refine FL.v (E.len te56 rfl hln) ?_
  refine FL.v (E.lssT rfl rfl (lss_len hx)) ?_
  refine FL.nil ?_
  refine FW.condT rfl rfl ?_
  refine FW.skip (FW.seq (FW.block (FW.seq (FW.region ?_))))
  refine FL.v (E.move kv) ?_
  refine FL.v (E.move kc) ?_
  refine FL.v (E.move kk) ?_
  refine FL.v (E.indexAddr te56 rfl rfl hpt) ?_
  refine FL.v (E.fieldAddr tf98_0 rfl) ?_
  obtain ⟨w21, H22, run24, S23, wr25, o26⟩ := rd.poke (P := Tryz.prog) (t := 3) (u := Value.int .i64 m) S1 hs0 hB (j := 0) rfl rfl rfl Tryz.sizeOf3 rfl rfl (c2 := [Value.int .i64 m, Value.int .i64 y.low, Value.int .i64 y.high, Value.int .i64 y.clause]) rfl
  refine FL.act rfl rfl (E.store rfl rfl run24) ?_
  refine FL.nil (FW.seq (FW.region ?_))
  refine FL.v (E.move kk) ?_
  refine FL.v (E.add rfl rfl) ?_
  refine FL.v (E.assign (v := Value.int .i64 (wr (m + 1))) rfl) ?_
  refine FL.nil (FW.seq (FW.region ?_))
  refine FL.v (E.move kv) ?_
  refine FL.v (E.move kc) ?_
  refine FL.v (E.move (v := Value.int .i64 (wr (m + 1))) rfl) ?_
  refine FL.v (E.indexAddr te56 rfl rfl hpt) ?_
  refine FL.v (E.fieldAddr tf98_1 rfl) ?_
  obtain ⟨w27, H28, run30, S29, wr31, o32⟩ := wr25.poke (P := Tryz.prog) (t := 3) (u := Value.int .i64 (wr (m + 1))) S23 hs0 hB (j := 1) rfl rfl rfl Tryz.sizeOf3 rfl rfl (c2 := [Value.int .i64 m, Value.int .i64 (wr (m + 1)), Value.int .i64 y.high, Value.int .i64 y.clause]) rfl
  refine FL.act rfl rfl (E.store rfl rfl run30) ?_
  refine FL.nil (FW.seq (FW.region ?_))
  refine FL.v (E.move (v := Value.int .i64 (wr (m + 1))) rfl) ?_
  refine FL.v (E.add rfl rfl) ?_
  refine FL.v (E.assign (v := Value.int .i64 (wr ((wr (m + 1)) + 1))) rfl) ?_
  refine FL.nil (FW.seq (FW.region ?_))
  refine FL.v (E.move kv) ?_
  refine FL.v (E.move kc) ?_
  refine FL.v (E.move (v := Value.int .i64 (wr ((wr (m + 1)) + 1))) rfl) ?_
  refine FL.v (E.indexAddr te56 rfl rfl hpt) ?_
  refine FL.v (E.fieldAddr tf98_2 rfl) ?_
  obtain ⟨w33, H34, run36, S35, wr37, o38⟩ := wr31.poke (P := Tryz.prog) (t := 3) (u := Value.int .i64 (wr ((wr (m + 1)) + 1))) S29 hs0 hB (j := 2) rfl rfl rfl Tryz.sizeOf3 rfl rfl (c2 := [Value.int .i64 m, Value.int .i64 (wr (m + 1)), Value.int .i64 (wr ((wr (m + 1)) + 1)), Value.int .i64 y.clause]) rfl
  refine FL.act rfl rfl (E.store rfl rfl run36) ?_
  refine FL.nil (FW.seq (FW.region ?_))
  refine FL.v (E.move (v := Value.int .i64 (wr ((wr (m + 1)) + 1))) rfl) ?_
  refine FL.v (E.add rfl rfl) ?_
  refine FL.v (E.assign (v := Value.int .i64 (wr ((wr ((wr (m + 1)) + 1)) + 1))) rfl) ?_
  refine FL.nil (FW.seq (FW.region ?_))
  refine FL.v (E.move kv) ?_
  refine FL.v (E.move kc) ?_
  refine FL.v (E.move (v := Value.int .i64 (wr ((wr ((wr (m + 1)) + 1)) + 1))) rfl) ?_
  refine FL.v (E.indexAddr te56 rfl rfl hpt) ?_
  refine FL.v (E.fieldAddr tf98_3 rfl) ?_
  obtain ⟨w39, H40, run42, S41, wr43, o44⟩ := wr37.poke (P := Tryz.prog) (t := 3) (u := Value.int .i64 (wr ((wr ((wr (m + 1)) + 1)) + 1))) S35 hs0 hB (j := 3) rfl rfl rfl Tryz.sizeOf3 rfl rfl (c2 := [Value.int .i64 m, Value.int .i64 (wr (m + 1)), Value.int .i64 (wr ((wr (m + 1)) + 1)), Value.int .i64 (wr ((wr ((wr (m + 1)) + 1)) + 1))]) rfl
  refine FL.act rfl rfl (E.store rfl rfl run42) ?_
  refine FL.nil (FW.region ?_)
  refine FL.v (E.move (v := Value.int .i64 (wr ((wr ((wr (m + 1)) + 1)) + 1))) rfl) ?_
  refine FL.v (E.add rfl rfl) ?_
  refine FL.v (E.assign (v := Value.int .i64 (wr ((wr ((wr ((wr (m + 1)) + 1)) + 1)) + 1))) rfl) ?_
  refine FL.nil (FW.region ?_)
  refine FL.v (E.move kc) ?_
  refine FL.v (E.add rfl rfl) ?_
  refine FL.v (E.assign (v := Value.int .i64 (wr (((i : Nat) : Int) + 1))) rfl) ?_
  refine FL.nil ?_
  obtain ⟨c2, n2, hb2, ho2⟩ := n1.round eTreeNode_flat.loc hy (by decide) hpt wr43 (y' := (TreeNode.mk m (wr (m + 1)) (wr ((wr (m + 1)) + 1)) (wr ((wr ((wr (m + 1)) + 1)) + 1)))) rfl
  exact ⟨rfl, _, _, S41, n2, hb2.trans hb, fun b q1 q2 => (ho2 b q1 (by rw [hb]; exact q2)).trans (ho b q1 q2), kv, rfl, nat_succ rfl (lt_of_get hx) hle⟩
 ·
  rintro f1 w1 ⟨H1, c1, S1, n1, hb, ho, kv, kk, kc⟩
  refine FW.seq (FW.seq (FW.region ?_))
  refine FL.v (E.move kc) ?_
  refine FL.v (E.move kv) ?_
  refine FL.v (E.len te56 rfl hln) ?_
  refine FL.v (E.lss rfl rfl) ?_
  refine FL.nil ?_
  refine FW.condF rfl dlt_len ?_
  refine FW.exit ?_
  exact ⟨nofun, rfl, _, _, S1, n1, hb, ho, kv, kk⟩
 ·
  rintro e f2 w2 ⟨rfl, H2, c2, S2, n2, hb, ho, kv, kk⟩
  refine FW.seq (FW.region ?_)
  refine FL.v (E.move kk) ?_
  refine FL.v (E.assign (v := Value.int .i64 ((markFrom (fun y m => ((TreeNode.mk m (wr (m + 1)) (wr ((wr (m + 1)) + 1)) (wr ((wr ((wr (m + 1)) + 1)) + 1))), (wr ((wr ((wr ((wr (m + 1)) + 1)) + 1)) + 1)))) a0 a1).2)) rfl) ?_
  refine FL.nil ?_
  refine FW.ret ?_
  exact ⟨.inr rfl, res1 rfl rfl ⟨_, rfl, S2, n2.rsl, fun b q => ho b q (by rw [hc0]; simp)⟩⟩

theorem w_laws_heldIntS {Ha : GH} {wa : World} (hs : Sl Ha wa) (v0 : Value) (a0 : List Int) (p0 : RSl Ha eI 1 v0 a0) (a1 : Int) {r : Int} (hp : (PF.laws_heldIntS a0 a1) = some r) :
  Calls Tryz.prog 57 #[v0, Value.int .i64 a1] wa (Sc Ha wa (Value.int .i64 r)) := by
 unfold PF.laws_heldIntS at hp
 have S0 := St.init hs
 refine calls_go (N := 21) (args := [v0, Value.int .i64 a1]) Tryz.func57 rfl rfl rfl ?_
 refine FW.seq (FW.region ?_)
 refine FL.v (E.assign (v := Value.int .i64 0) rfl) ?_
 refine FL.nil (FW.seq (FW.seq (FW.region ?_)))
 refine FL.v (E.assign (v := Value.int .i64 0) rfl) ?_
 refine FL.nil ?_
 obtain ⟨q22, hq, hp⟩ := bndR hp
 refine FW.block ?_
 refine FW.mono (FW.forL (S := Int) (X := Int) (fun (i22 : Nat) (s22 : Int) f w => ∃ H : GH, St Ha wa H w [] ∧ Inc Ha H ∧ f 5 = Value.int .i64 ((i22 : Nat) : Int) ∧ f 0 = v0 ∧ f 1 = Value.int .i64 s22) (fun q e f w => match q with | .go s22 => e = Exit.exit 0 ∧ (∃ H : GH, St Ha wa H w [] ∧ Inc Ha H ∧ f 1 = Value.int .i64 s22) | .rt x => ((e = Exit.ret) ∧ (fun e f w => (e = Exit.normal ∨ e = Exit.ret) ∧ ∀ a, Fr (δ := []) 21 a f → ∃ v, (results Tryz.f57 a.tmps).run Tryz.prog w = .ok v w ∧ (Sc Ha wa (Value.int .i64 x)) (.returned v) w) e f w)) hq ⟨_, S0, (Inc.rfl _), rfl, rfl, rfl⟩ ?_ ?_) ?_
 ·
  clear hp hq
  rintro i22 y21 s22 f42 w41 ⟨H38, S39, i40, k43, k44, k45⟩ hx22 o53 hp
  refine FW.seq (FW.seq (FW.region ?_))
  refine FL.v (E.move k43) ?_
  refine FL.v (E.move k44) ?_
  refine FL.v (E.lenP te84 rfl p0) ?_
  refine FL.v (E.lssT rfl rfl (lss_len hx22)) ?_
  refine FL.nil ?_
  refine FW.condT rfl rfl ?_
  refine FW.skip (FW.seq (FW.block (FW.seq (FW.seq (FW.region ?_)))))
  refine FL.v (E.move k44) ?_
  refine FL.v (E.move k43) ?_
  obtain ⟨p46, cs47, pt48, l49, at50, rel51⟩ := p0.at (ix_nat hx22)
  obtain rfl := eI_open rel51
  refine FL.v (E.indexAddr te84 rfl rfl pt48) ?_
  refine FL.v (E.load rfl (run_load0 Tryz.isAgg3 ((at50.mono i40).now S39.sl) rfl)) ?_
  refine FL.v (E.move k45) ?_
  refine FL.v (E.neq rfl rfl) ?_
  refine FL.nil ?_
  rcases ifB hp with ⟨c52, hp⟩ | ⟨c52, hp⟩
  ·
   refine FW.condT rfl c52 ?_
   refine FW.seq (FW.region ?_)
   refine FL.v (E.assign (v := Value.int .i64 (-1)) rfl) ?_
   refine FL.nil ?_
   refine FW.ret ?_
   obtain rfl := Option.some.inj hp
   exact ⟨nofun, rfl, ⟨.inr rfl, res1 rfl rfl ⟨rfl, S39.back⟩⟩⟩
  ·
   refine FW.condF rfl c52 ?_
   refine FW.skip (FW.region ?_)
   refine FL.v (E.move k45) ?_
   refine FL.v (E.add rfl rfl) ?_
   refine FL.v (E.assign (v := Value.int .i64 (wr (s22 + 1))) rfl) ?_
   refine FL.nil (FW.region ?_)
   refine FL.v (E.move k43) ?_
   refine FL.v (E.add rfl rfl) ?_
   refine FL.v (E.assign (v := Value.int .i64 (wr (((i22 : Nat) : Int) + 1))) rfl) ?_
   refine FL.nil ?_
   obtain rfl := Option.some.inj hp
   exact ⟨rfl, ⟨_, S39, i40, (nat_succ rfl (lt_of_get hx22) (p0.mono i40).le), k44, rfl⟩⟩
 ·
  clear hp hq
  rintro s22 f64 w63 ⟨H60, S61, i62, k65, k66, k67⟩
  refine FW.seq (FW.seq (FW.region ?_))
  refine FL.v (E.move k65) ?_
  refine FL.v (E.move k66) ?_
  refine FL.v (E.lenP te84 rfl p0) ?_
  refine FL.v (E.lss rfl rfl) ?_
  refine FL.nil ?_
  refine FW.condF rfl dlt_len ?_
  refine FW.exit ?_
  exact ⟨nofun, rfl, ⟨_, S61, i62, k67⟩⟩
 ·
  clear hq
  intro e f58 w57 hD
  rcases q22 with s22 | x22
  ·
   obtain ⟨rfl, hD⟩ := hD
   obtain ⟨H54, S55, i56, k59⟩ := hD
   replace hp := el_go hp
   refine FW.seq (FW.region ?_)
   refine FL.v (E.move k59) ?_
   refine FL.v (E.assign (v := Value.int .i64 s22) rfl) ?_
   refine FL.nil ?_
   refine FW.ret ?_
   obtain rfl := Option.some.inj hp
   exact ⟨.inr rfl, res1 rfl rfl ⟨rfl, S55.back⟩⟩
  ·
   obtain ⟨he, hL⟩ := hD
   replace hp := el_rt hp
   obtain rfl := Option.some.inj hp
   subst he
   exact hL

theorem w_laws_heldIntSS {Ha : GH} {wa : World} (hs : Sl Ha wa) (v0 : Value) (a0 : List (List Int)) (p0 : RSl Ha (eL eI 1) 1 v0 a0) (a1 : Int) {r : Int} (hp : (PF.laws_heldIntSS a0 a1) = some r) :
  Calls Tryz.prog 20 #[v0, Value.int .i64 a1] wa (Sc Ha wa (Value.int .i64 r)) := by
 unfold PF.laws_heldIntSS at hp
 have S0 := St.init hs
 refine calls_go (N := 21) (args := [v0, Value.int .i64 a1]) Tryz.func20 rfl rfl rfl ?_
 refine FW.seq (FW.region ?_)
 refine FL.v (E.assign (v := Value.int .i64 0) rfl) ?_
 refine FL.nil (FW.seq (FW.seq (FW.region ?_)))
 refine FL.v (E.assign (v := Value.int .i64 0) rfl) ?_
 refine FL.nil ?_
 obtain ⟨q22, hq, hp⟩ := bndR hp
 refine FW.block ?_
 refine FW.mono (FW.forL (S := Int) (X := Int) (fun (i22 : Nat) (s22 : Int) f w => ∃ H : GH, St Ha wa H w [] ∧ Inc Ha H ∧ f 5 = Value.int .i64 ((i22 : Nat) : Int) ∧ f 0 = v0 ∧ f 1 = Value.int .i64 s22) (fun q e f w => match q with | .go s22 => e = Exit.exit 0 ∧ (∃ H : GH, St Ha wa H w [] ∧ Inc Ha H ∧ f 1 = Value.int .i64 s22) | .rt x => ((e = Exit.ret) ∧ (fun e f w => (e = Exit.normal ∨ e = Exit.ret) ∧ ∀ a, Fr (δ := []) 21 a f → ∃ v, (results Tryz.f20 a.tmps).run Tryz.prog w = .ok v w ∧ (Sc Ha wa (Value.int .i64 x)) (.returned v) w) e f w)) hq ⟨_, S0, (Inc.rfl _), rfl, rfl, rfl⟩ ?_ ?_) ?_
 ·
  clear hp hq
  rintro i22 y21 s22 f49 w48 ⟨H45, S46, i47, k50, k51, k52⟩ hx22 o67 hp
  refine FW.seq (FW.seq (FW.region ?_))
  refine FL.v (E.move k50) ?_
  refine FL.v (E.move k51) ?_
  refine FL.v (E.lenP te22 rfl p0) ?_
  refine FL.v (E.lssT rfl rfl (lss_len hx22)) ?_
  refine FL.nil ?_
  refine FW.condT rfl rfl ?_
  refine FW.skip (FW.seq (FW.block (FW.seq (FW.region ?_))))
  refine FL.v (E.move k51) ?_
  refine FL.v (E.move k50) ?_
  obtain ⟨p53, cs54, pt55, l56, at57, rel58⟩ := p0.at (ix_nat hx22)
  obtain ⟨v59, rfl, h60⟩ := eL_open rel58
  refine FL.v (E.indexAddr te22 rfl rfl pt55) ?_
  refine FL.v (E.load rfl (run_load0 Tryz.isAgg84 ((at57.mono i47).now S46.sl) rfl)) ?_
  refine FL.v (E.move k52) ?_
  obtain ⟨r61, hr62, hp⟩ := bnd hp
  refine FL.call rfl rfl rfl (E.call Tryz.call57 (A2 rfl rfl)) (w_laws_heldIntS S46.sl v59 y21 (h60.mono i47) s22 hr62) ?_
  rintro e w63 ⟨rfl, r64⟩
  refine ⟨_, rfl, ?_⟩
  have S65 := S46.call r64
  refine FL.v (E.assign (v := Value.int .i64 r61) rfl) ?_
  refine FL.nil (FW.seq (FW.region ?_))
  refine FL.v (E.move (v := Value.int .i64 r61) rfl) ?_
  refine FL.v (E.lss rfl rfl) ?_
  refine FL.nil ?_
  rcases ifB hp with ⟨c66, hp⟩ | ⟨c66, hp⟩
  ·
   refine FW.condT rfl c66 ?_
   refine FW.seq (FW.region ?_)
   refine FL.v (E.assign (v := Value.int .i64 (-1)) rfl) ?_
   refine FL.nil ?_
   refine FW.ret ?_
   obtain rfl := Option.some.inj hp
   exact ⟨nofun, rfl, ⟨.inr rfl, res1 rfl rfl ⟨rfl, S65.back⟩⟩⟩
  ·
   refine FW.condF rfl c66 ?_
   refine FW.skip (FW.region ?_)
   refine FL.v (E.move k50) ?_
   refine FL.v (E.add rfl rfl) ?_
   refine FL.v (E.assign (v := Value.int .i64 (wr (((i22 : Nat) : Int) + 1))) rfl) ?_
   refine FL.nil ?_
   obtain rfl := Option.some.inj hp
   exact ⟨rfl, ⟨_, S65, i47, (nat_succ rfl (lt_of_get hx22) (p0.mono i47).le), k51, rfl⟩⟩
 ·
  clear hp hq
  rintro s22 f78 w77 ⟨H74, S75, i76, k79, k80, k81⟩
  refine FW.seq (FW.seq (FW.region ?_))
  refine FL.v (E.move k79) ?_
  refine FL.v (E.move k80) ?_
  refine FL.v (E.lenP te22 rfl p0) ?_
  refine FL.v (E.lss rfl rfl) ?_
  refine FL.nil ?_
  refine FW.condF rfl dlt_len ?_
  refine FW.exit ?_
  exact ⟨nofun, rfl, ⟨_, S75, i76, k81⟩⟩
 ·
  clear hq
  intro e f72 w71 hD
  rcases q22 with s22 | x22
  ·
   obtain ⟨rfl, hD⟩ := hD
   obtain ⟨H68, S69, i70, k73⟩ := hD
   replace hp := el_go hp
   refine FW.seq (FW.region ?_)
   refine FL.v (E.move k73) ?_
   refine FL.v (E.assign (v := Value.int .i64 s22) rfl) ?_
   refine FL.nil ?_
   refine FW.ret ?_
   obtain rfl := Option.some.inj hp
   exact ⟨.inr rfl, res1 rfl rfl ⟨rfl, S69.back⟩⟩
  ·
   obtain ⟨he, hL⟩ := hD
   replace hp := el_rt hp
   obtain rfl := Option.some.inj hp
   subst he
   exact hL

set_option maxHeartbeats 4000000 in
theorem w_laws_FnExactTreeClauses {Ha : GH} {wa : World} (hs : Sl Ha wa) (a0 : Cnf) (v0_1 : Value) (p0_1 : RSl Ha (eL eI 1) 1 v0_1 a0.clauses) (v1 : Value) (a1 : List TreeNode) (p1 : RSl Ha eTreeNode 4 v1 a1) {r : Bool} (hp : (PF.laws_FnExactTreeClauses a0 a1) = some r) :
  Calls Tryz.prog 5 #[Value.agg #[Value.int .i64 a0.vars, v0_1], v1] wa (Sc Ha wa (Value.bool r)) := by
 unfold PF.laws_FnExactTreeClauses at hp
 have S0 := St.init hs
 refine calls_go (N := 119) (args := [Value.agg #[Value.int .i64 a0.vars, v0_1], v1]) Tryz.func5 rfl rfl rfl ?_
 refine FW.seq (FW.region ?_)
 obtain ⟨w21, run22, S23, z24⟩ := S0.boxB (P := Tryz.prog) 24 [Value.int .i64 a0.vars, v0_1] (v := Value.agg #[Value.int .i64 a0.vars, v0_1]) rfl (ones_cons rfl (ones_cons p0_1.one ones_nil))
 refine FL.v (E.box rfl run22) ?_
 obtain ⟨H25, S26, i27, at28⟩ := S23.sealBoxB (i := 0) (l' := []) rfl rfl
 refine FL.v (E.assign (v := Value.bool false) rfl) ?_
 refine FL.nil (FW.seq (FW.region ?_))
 refine FL.v (E.assign (v := Value.int .i64 1048576) rfl) ?_
 refine FL.nil (FW.seq (FW.region ?_))
 refine FL.v (E.load rfl (run_loadA Tryz.isAgg24 Tryz.sizeOf24 ((at28.mono sgI).now S26.sl) rfl)) ?_
 refine FL.v (E.move (v := Value.int .i64 1048576) rfl) ?_
 obtain ⟨r29, hr30, hp⟩ := bnd hp
 refine FL.call rfl rfl rfl (E.call Tryz.call8 (A2 rfl rfl)) (w_laws_szCnf S26.sl a0 v0_1 (p0_1.mono i27) 1048576 hr30) ?_
 rintro e w31 ⟨rfl, r32⟩
 refine ⟨_, rfl, ?_⟩
 have S33 := S26.call r32
 have z34 := r32.bel.size
 refine FL.v (E.assign (v := Value.int .i64 r29) rfl) ?_
 refine FL.nil (FW.seq (FW.seq (FW.region ?_)))
 refine FL.v (E.move (v := Value.int .i64 r29) rfl) ?_
 refine FL.v (E.lss rfl rfl) ?_
 refine FL.nil ?_
 rcases ifB hp with ⟨c35, hp⟩ | ⟨c35, hp⟩
 ·
  refine FW.condT rfl c35 ?_
  refine FW.seq (FW.region ?_)
  refine FL.v (E.assign (v := Value.bool true) rfl) ?_
  refine FL.nil ?_
  refine FW.ret ?_
  obtain rfl := Option.some.inj hp
  exact ⟨.inr rfl, res1 rfl rfl ⟨rfl, S33.back⟩⟩
 ·
  refine FW.condF rfl c35 ?_
  refine FW.skip (FW.seq (FW.region ?_))
  refine FL.v (E.move (v := v1) rfl) ?_
  refine FL.v (E.move (v := Value.int .i64 r29) rfl) ?_
  refine FL.call rfl rfl rfl (E.call Tryz.call27 (A2 rfl rfl)) (w_laws_szTreeNodeS S33.sl v1 a1 (p1.mono i27) r29) ?_
  rintro e w36 ⟨rfl, r37⟩
  refine ⟨_, rfl, ?_⟩
  have S38 := S33.call r37
  have z39 := r37.bel.size
  refine FL.v (E.assign (v := Value.int .i64 (PF.laws_szTreeNodeS a1 r29)) rfl) ?_
  refine FL.nil (FW.seq (FW.seq (FW.region ?_)))
  refine FL.v (E.move (v := Value.int .i64 (PF.laws_szTreeNodeS a1 r29)) rfl) ?_
  refine FL.v (E.lss rfl rfl) ?_
  refine FL.nil ?_
  rcases ifB hp with ⟨c40, hp⟩ | ⟨c40, hp⟩
  ·
   refine FW.condT rfl c40 ?_
   refine FW.seq (FW.region ?_)
   refine FL.v (E.assign (v := Value.bool true) rfl) ?_
   refine FL.nil ?_
   refine FW.ret ?_
   obtain rfl := Option.some.inj hp
   exact ⟨.inr rfl, res1 rfl rfl ⟨rfl, S38.back⟩⟩
  ·
   refine FW.condF rfl c40 ?_
   refine FW.skip (FW.seq (FW.region ?_))
   refine FL.v (E.load rfl (run_loadA Tryz.isAgg24 Tryz.sizeOf24 ((at28.mono sgI).now S38.sl) rfl)) ?_
   obtain ⟨r41, hr42, hp⟩ := bnd hp
   refine FL.call rfl rfl rfl (E.call Tryz.call11 (A1 rfl)) (w_laws_toCnf S38.sl a0 v0_1 (p0_1.mono i27) hr42) ?_
   rintro e w44 ⟨H43, v47, rfl, r46, ⟨c50, ns49⟩⟩
   refine ⟨_, rfl, ?_⟩
   have h48 := ns49.rsl
   have nv51 : New H25 [v47] := New.of_up S38.sl h48.dom
   have S45 := S38.call r46
   have z52 := r46.bel.size
   have h48 := h48.mono (sg_of S45.sl)
   have ns49 := ns49.mono (sg_of S45.sl)
   refine FL.v (E.move (v := v1) rfl) ?_
   obtain ⟨r53, hr54, hp⟩ := bnd hp
   refine FL.call rfl rfl rfl (E.call Tryz.call29 (A1 rfl)) (w_laws_toTreeNodeS S45.sl v1 a1 (p1.mono (i27.tr r46.inc)) hr54) ?_
   rintro e w56 ⟨H55, v59, n60, cs61, rfl, r58, els62⟩
   refine ⟨_, rfl, ?_⟩
   obtain ⟨H63, r64, i65, h66, nv67⟩ := r58.sealRowU (i := 0) (l' := []) rfl els62 (by decide) rfl
   have S57 := S45.call r64.run
   have z68 := r64.run.bel.size
   have h66 := h66.mono (sg_of S57.sl)
   obtain ⟨r69, hr70, hp⟩ := bnd hp
   refine FL.call rfl rfl rfl (E.call Tryz.call28 (A2 rfl rfl)) (w_spec_TreeClauses S57.sl r41 v47 (h48.mono (sgI.tr r64.run.inc)) v59 r53 (h66.mono sgI) hr70) ?_
   rintro e w72 ⟨H71, v75, n76, cs77, rfl, r74, els78, nd79⟩
   refine ⟨_, rfl, ?_⟩
   have nv80 : New H63 cs77 := New.of_up S57.sl els78.dom
   obtain ⟨H81, r82, i83, ns86, nv85⟩ := r74.sealRowN (i := 0) (l' := []) rfl els78 nd79 (by decide) rfl
   have h84 := ns86.rsl
   have S73 := S57.call r82.run
   have z87 := r82.run.bel.size
   have h84 := h84.mono (sg_of S73.sl)
   have ns86 := ns86.mono (sg_of S73.sl)
   refine FL.v (E.move (v := Value.tuple #[v75, Value.bool r69.2]) rfl) ?_
   refine FL.v (E.extract (i := 0) rfl rfl) ?_
   refine FL.v (E.extract (i := 1) rfl rfl) ?_
   refine FL.v (E.assign (v := v75) rfl) ?_
   refine FL.v (E.assign (v := Value.bool r69.2) rfl) ?_
   refine FL.nil (FW.seq (FW.region ?_))
   refine FL.v (E.load rfl (run_loadA Tryz.isAgg24 Tryz.sizeOf24 ((at28.mono (sgI.tr ((r46.inc.tr r64.run.inc).tr r82.run.inc))).now S73.sl) rfl)) ?_
   obtain ⟨r88, hr89, hp⟩ := bnd hp
   refine FL.call rfl rfl rfl (E.call Tryz.call11 (A1 rfl)) (w_laws_toCnf S73.sl a0 v0_1 (p0_1.mono (((i27.tr r46.inc).tr r64.run.inc).tr r82.run.inc)) hr89) ?_
   rintro e w91 ⟨H90, v94, rfl, r93, ⟨c97, ns96⟩⟩
   refine ⟨_, rfl, ?_⟩
   have h95 := ns96.rsl
   have nv98 : New H81 [v94] := New.of_up S73.sl h95.dom
   have S92 := S73.call r93
   have z99 := r93.bel.size
   have h95 := h95.mono (sg_of S92.sl)
   have ns96 := ns96.mono (sg_of S92.sl)
   obtain ⟨w100, run101, S102, z103⟩ := S92.allocB (P := Tryz.prog) 30 [Value.int .i64 0, Value.slice none 0 0] Tryz.zeroValue30 rfl (ones_cons rfl (ones_cons rfl ones_nil))
   refine FL.v (E.alloc run101) ?_
   obtain ⟨w104, run105, S106, z107⟩ := S102.store0B (P := Tryz.prog) (t := 30) (i := 0) (cs' := [Value.int .i64 r88.vars, v94]) (l' := [.box w91.heap.size 30 [Value.int .i64 r88.vars, v94]]) (v := Value.agg #[Value.int .i64 r88.vars, v94]) (c := [Value.int .i64 r88.vars, v94]) rfl Tryz.sizeOf30 rfl rfl (ones_cons rfl (ones_cons h95.one ones_nil)) (Nat.le_of_ble_eq_true rfl) rfl rfl
   refine FL.act rfl rfl (E.store rfl rfl run105) ?_
   obtain ⟨H108, S109, i110, at111⟩ := S106.sealBoxB (i := 0) (l' := []) rfl rfl
   refine FL.nil (FW.seq (FW.region ?_))
   refine FL.v (E.move (v := v1) rfl) ?_
   obtain ⟨r112, hr113, hp⟩ := bnd hp
   refine FL.call rfl rfl rfl (E.call Tryz.call29 (A1 rfl)) (w_laws_toTreeNodeS S109.sl v1 a1 (p1.mono (((((i27.tr r46.inc).tr r64.run.inc).tr r82.run.inc).tr r93.inc).tr i110)) hr113) ?_
   rintro e w115 ⟨H114, v118, n119, cs120, rfl, r117, els121⟩
   refine ⟨_, rfl, ?_⟩
   obtain ⟨H122, r123, i124, h125, nv126⟩ := r117.sealRowU (i := 0) (l' := []) rfl els121 (by decide) rfl
   have S116 := S109.call r123.run
   have z127 := r123.run.bel.size
   have h125 := h125.mono (sg_of S116.sl)
   refine FL.v (E.assign (v := v118) rfl) ?_
   refine FL.nil (FW.seq (FW.region ?_))
   refine FL.v (E.load rfl (run_loadA Tryz.isAgg30 Tryz.sizeOf30 ((at111.mono (sgI.tr r123.run.inc)).now S116.sl) rfl)) ?_
   refine FL.v (E.move (v := v118) rfl) ?_
   obtain ⟨r128, hr129, hp⟩ := bnd hp
   refine FL.call rfl rfl rfl (E.call Tryz.call30 (A2 rfl rfl)) (w_impl_TreeClauses S116.sl r88 v94 (h95.mono (sgI.tr (i110.tr r123.run.inc))) v118 r112 (h125.mono sgI) hr129) ?_
   rintro e w131 ⟨H130, v134, n135, cs136, rfl, r133, els137, nd138⟩
   refine ⟨_, rfl, ?_⟩
   have nv139 : New H122 cs136 := New.of_up S116.sl els137.dom
   obtain ⟨H140, r141, i142, ns145, nv144⟩ := r133.sealRowN (i := 0) (l' := []) rfl els137 nd138 (by decide) rfl
   have h143 := ns145.rsl
   have S132 := S116.call r141.run
   have z146 := r141.run.bel.size
   have h143 := h143.mono (sg_of S132.sl)
   have ns145 := ns145.mono (sg_of S132.sl)
   refine FL.v (E.move (v := Value.tuple #[v134, Value.bool r128.2]) rfl) ?_
   refine FL.v (E.extract (i := 0) rfl rfl) ?_
   refine FL.v (E.extract (i := 1) rfl rfl) ?_
   refine FL.v (E.assign (v := v134) rfl) ?_
   refine FL.v (E.assign (v := Value.bool r128.2) rfl) ?_
   refine FL.nil (FW.seq (FW.seq (FW.region ?_)))
   refine FL.v (E.move (v := v134) rfl) ?_
   refine FL.v (E.move (v := v75) rfl) ?_
   obtain ⟨r147, hr148, hp⟩ := bnd hp
   refine FL.call rfl rfl rfl (E.call Tryz.call14 (A2 rfl rfl)) (w_laws_eqIntSS S132.sl v134 r128.1 (h143.mono sgI) v75 r69.1 (h84.mono (sgI.tr (((r93.inc.tr i110).tr r123.run.inc).tr r141.run.inc))) hr148) ?_
   rintro e w149 ⟨rfl, r150⟩
   refine ⟨_, rfl, ?_⟩
   have S151 := S132.call r150
   have z152 := r150.bel.size
   refine FL.v (E.not rfl) ?_
   refine FL.v (E.move (v := Value.bool (!r147)) rfl) ?_
   refine FL.cut 4 (fun f w => ∃ H : GH, St Ha wa H w [] ∧ Inc H140 H ∧ f 1 = v1 ∧ f 2 = Value.pointer (some ⟨wa.heap.size, 0, none⟩) ∧ f 6 = v75 ∧ f 7 = Value.bool r69.2 ∧ f 8 = Value.pointer (some ⟨w91.heap.size, 0, none⟩) ∧ f 9 = v118 ∧ f 10 = v134 ∧ f 11 = Value.bool r128.2 ∧ f 53 = Value.bool (bif (!r147) then true else (!(r128.2 == r69.2)))) ?_ ?_
   ·
    rcases bcase (!r147) with c159 | c159
    ·
     refine FL.skip (wF_no rfl rfl rfl c159) rfl ?_
     refine FL.skip (wF_no rfl rfl rfl c159) rfl ?_
     refine FL.skip (wF_no rfl rfl rfl c159) rfl ?_
     refine FL.v (E.pickT rfl c159 rfl) ?_
     exact FL.nil ⟨rfl, _, S151, (Inc.rfl _), rfl, rfl, rfl, rfl, rfl, rfl, rfl, rfl, (congrArg Value.bool (bifT c159).symm)⟩
    ·
     refine FL.val (wF_yes rfl rfl rfl c159) rfl rfl (E.move (v := Value.bool r128.2) rfl) ?_
     refine FL.val (wF_yes rfl rfl rfl c159) rfl rfl (E.move (v := Value.bool r69.2) rfl) ?_
     refine FL.val (wF_yes rfl rfl rfl c159) rfl rfl (E.neqB Tryz.runUnderlying4 rfl rfl) ?_
     refine FL.v (E.pickF rfl c159 rfl) ?_
     exact FL.nil ⟨rfl, _, S151, (Inc.rfl _), rfl, rfl, rfl, rfl, rfl, rfl, rfl, rfl, (congrArg Value.bool (bifF c159).symm)⟩
   rintro f158 w157 ⟨H154, S155, i156, k160, k161, k162, k163, k164, k165, k166, k167, k168⟩
   refine FL.nil ?_
   rcases ifB hp with ⟨c169, hp⟩ | ⟨c169, hp⟩
   ·
    refine FW.condT k168 c169 ?_
    refine FW.seq (FW.region ?_)
    refine FL.v (E.assign (v := Value.bool false) rfl) ?_
    refine FL.nil ?_
    refine FW.ret ?_
    obtain rfl := Option.some.inj hp
    exact ⟨.inr rfl, res1 rfl rfl ⟨rfl, S155.back⟩⟩
   ·
    refine FW.condF k168 c169 ?_
    refine FW.skip (FW.seq (FW.seq ?_))
    obtain ⟨r153, hr173, hp⟩ := bnd hp
    obtain ⟨r184, hr185, hp⟩ := bnd hp
    refine FW.drawB (Sl H154) (fun f w => ∃ H : GH, St Ha wa H w [] ∧ Inc H154 H ∧ f 1 = v1 ∧ f 2 = Value.pointer (some ⟨wa.heap.size, 0, none⟩) ∧ f 6 = v75 ∧ f 7 = Value.bool r69.2 ∧ f 8 = Value.pointer (some ⟨w91.heap.size, 0, none⟩) ∧ f 9 = v118 ∧ f 10 = v134 ∧ f 11 = Value.bool r128.2 ∧ f 58 = Value.bool (!r184)) (by kernel_rfl) S155.sl ?_ ?_
    ·
     intro w170 r171
     have S172 := S155.call r171
     refine FB.t (i := 0) (bs 5 1) rfl (SP.nil S172.sl) rfl (fun w' hw' => (E.load k164 (run_loadA Tryz.isAgg30 Tryz.sizeOf30 ((at111.mono (sgI.tr ((r123.run.inc.tr r141.run.inc).tr i156))).now hw') rfl))) ?_
     refine FB.t (i := 1) (bs 5 3) rfl (SP.nil S172.sl) rfl (fun w' hw' => (E.load k161 (run_loadA Tryz.isAgg24 Tryz.sizeOf24 ((at28.mono (sgI.tr (((((((r46.inc.tr r64.run.inc).tr r82.run.inc).tr r93.inc).tr i110).tr r123.run.inc).tr r141.run.inc).tr i156))).now hw') rfl))) ?_
     refine FB.all1 (i := 2) (by kernel_rfl) ?_
     ·
      refine FC.call (l' := (bs 5 7)) rfl (by kernel_rfl) rfl rfl rfl (E.call Tryz.call11 (A1 rfl)) (w_laws_toCnf S172.sl a0 v0_1 (p0_1.mono ((((((((i27.tr r46.inc).tr r64.run.inc).tr r82.run.inc).tr r93.inc).tr i110).tr r123.run.inc).tr r141.run.inc).tr i156)) hr173) ?_
      rintro e w175 ⟨H174, v178, rfl, r177, ⟨c181, ns180⟩⟩
      refine ⟨_, rfl, ?_⟩
      have h179 := ns180.rsl
      have nv182 : New H154 [v178] := New.of_up S172.sl h179.dom
      have S176 := S172.call r177
      have z183 := r177.bel.size
      have h179 := h179.mono (sg_of S176.sl)
      have ns180 := ns180.mono (sg_of S176.sl)
      refine ⟨(SP.nil (Sl.of_inc r177.inc S176.sl)), ?_⟩
      refine FB.all1 (i := 3) (by kernel_rfl) ?_
      ·
       refine FC.call (l' := (bs 5 15)) rfl (by kernel_rfl) rfl rfl rfl (E.call Tryz.call15 (A2 rfl rfl)) (w_laws_eqCnf S176.sl r88 v94 (h95.mono (sgI.tr ((((i110.tr r123.run.inc).tr r141.run.inc).tr i156).tr r177.inc))) r153 v178 (h179.mono sgI) hr185) ?_
       rintro e w186 ⟨rfl, r187⟩
       refine ⟨_, rfl, ?_⟩
       have S188 := S176.call r187
       have z189 := r187.bel.size
       refine ⟨(SP.nil (Sl.of_inc r177.inc S188.sl)), ?_⟩
       refine FB.t (i := 4) (bs 5 31) rfl (SP.nil (Sl.of_inc r177.inc S188.sl)) rfl (fun w' hw' => (E.not rfl)) ?_
       exact FB.done (by kernel_rfl) ⟨_, S188, r177.inc, k160, k161, k162, k163, k164, k165, k166, k167, rfl⟩
    ·
     rintro f194 w193 ⟨H190, S191, i192, k195, k196, k197, k198, k199, k200, k201, k202, k203⟩
     rcases ifB hp with ⟨c204, hp⟩ | ⟨c204, hp⟩
     ·
      refine FW.condT k203 c204 ?_
      refine FW.seq (FW.region ?_)
      refine FL.v (E.assign (v := Value.bool false) rfl) ?_
      refine FL.nil ?_
      refine FW.ret ?_
      obtain rfl := Option.some.inj hp
      exact ⟨.inr rfl, res1 rfl rfl ⟨rfl, S191.back⟩⟩
     ·
      refine FW.condF k203 c204 ?_
      refine FW.skip (FW.seq (FW.seq (FW.region ?_)))
      refine FL.v (E.move k200) ?_
      refine FL.v (E.move k195) ?_
      obtain ⟨r205, hr206, hp⟩ := bnd hp
      refine FL.call rfl rfl rfl (E.call Tryz.call29 (A1 rfl)) (w_laws_toTreeNodeS S191.sl v1 a1 (p1.mono (((((((((i27.tr r46.inc).tr r64.run.inc).tr r82.run.inc).tr r93.inc).tr i110).tr r123.run.inc).tr r141.run.inc).tr i156).tr i192)) hr206) ?_
      rintro e w208 ⟨H207, v211, n212, cs213, rfl, r210, els214⟩
      refine ⟨_, rfl, ?_⟩
      obtain ⟨H215, r216, i217, h218, nv219⟩ := r210.sealRowU (i := 0) (l' := []) rfl els214 (by decide) rfl
      have S209 := S191.call r216.run
      have z220 := r216.run.bel.size
      have h218 := h218.mono (sg_of S209.sl)
      obtain ⟨r221, hr222, hp⟩ := bnd hp
      refine FL.call rfl rfl rfl (E.call Tryz.call31 (A2 rfl rfl)) (w_laws_eqTreeNodeS S209.sl v118 r112 (h125.mono (sgI.tr (((r141.run.inc.tr i156).tr i192).tr r216.run.inc))) v211 r205 (h218.mono sgI) hr222) ?_
      rintro e w223 ⟨rfl, r224⟩
      refine ⟨_, rfl, ?_⟩
      have S225 := S209.call r224
      have z226 := r224.bel.size
      refine FL.v (E.not rfl) ?_
      refine FL.nil ?_
      rcases ifB hp with ⟨c227, hp⟩ | ⟨c227, hp⟩
      ·
       refine FW.condT rfl c227 ?_
       refine FW.seq (FW.region ?_)
       refine FL.v (E.assign (v := Value.bool false) rfl) ?_
       refine FL.nil ?_
       refine FW.ret ?_
       obtain rfl := Option.some.inj hp
       exact ⟨.inr rfl, res1 rfl rfl ⟨rfl, S225.back⟩⟩
      ·
       refine FW.condF rfl c227 ?_
       refine FW.skip (FW.seq (FW.region ?_))
       refine FL.v (E.assign (v := Value.int .i64 1) rfl) ?_
       refine FL.nil (FW.seq (FW.region ?_))
       refine FL.v (E.load k199 (run_loadA Tryz.isAgg30 Tryz.sizeOf30 ((at111.mono (sgI.tr ((((r123.run.inc.tr r141.run.inc).tr i156).tr i192).tr r216.run.inc))).now S225.sl) rfl)) ?_
       refine FL.v (E.move (v := Value.int .i64 1) rfl) ?_
       refine FL.call rfl rfl rfl (E.call Tryz.call17 (A2 rfl rfl)) (w_laws_markCnf S225 hs r88 v94 c97 (ns96.mono (sg_up (by omega) (((((i110.tr r123.run.inc).tr r141.run.inc).tr i156).tr i192).tr r216.run.inc))) 1) ?_
       rintro e w229 ⟨H228, c234, rfl, S230, ns236, hb235, o232⟩
       refine ⟨_, rfl, ?_⟩
       have o233 := (ns96.mono (sg_mono (hi := w91.heap.size) (((((i110.tr r123.run.inc).tr r141.run.inc).tr i156).tr i192).tr r216.run.inc))).outside o232
       have ns236 := ns96.span (eL_loc eI_flat) (by omega) ns236 hb235
       have h231 := ns236.rsl
       have f237 := at28.mono ((sg_mono (lo := wa.heap.size) (hi := wa.heap.size + 1) (((((((((r46.inc.tr r64.run.inc).tr r82.run.inc).tr r93.inc).tr i110).tr r123.run.inc).tr r141.run.inc).tr i156).tr i192).tr r216.run.inc)).tr (sg_keep o233 (by omega)))
       have f238 := h84.mono ((sg_mono (lo := w56.heap.size) (hi := w72.heap.size) ((((((r93.inc.tr i110).tr r123.run.inc).tr r141.run.inc).tr i156).tr i192).tr r216.run.inc)).tr (sg_keep o233 (by omega)))
       have f239 := ns86.mono ((sg_mono (lo := w56.heap.size) (hi := w72.heap.size) ((((((r93.inc.tr i110).tr r123.run.inc).tr r141.run.inc).tr i156).tr i192).tr r216.run.inc)).tr (sg_keep o233 (by omega)))
       have f240 := at111.mono ((sg_mono (lo := w91.heap.size) (hi := w91.heap.size + 1) ((((r123.run.inc.tr r141.run.inc).tr i156).tr i192).tr r216.run.inc)).tr (sg_keep o233 (by omega)))
       have f241 := h125.mono ((sg_mono (lo := w104.heap.size) (hi := w115.heap.size) (((r141.run.inc.tr i156).tr i192).tr r216.run.inc)).tr (sg_keep o233 (by omega)))
       have f242 := h143.mono ((sg_mono (lo := w115.heap.size) (hi := w131.heap.size) ((i156.tr i192).tr r216.run.inc)).tr (sg_keep o233 (by omega)))
       have f243 := ns145.mono ((sg_mono (lo := w115.heap.size) (hi := w131.heap.size) ((i156.tr i192).tr r216.run.inc)).tr (sg_keep o233 (by omega)))
       refine FL.v (E.assign (v := Value.int .i64 ((PF.laws_markCnf r88 1).2)) rfl) ?_
       refine FL.nil (FW.seq (FW.region ?_))
       refine FL.v (E.move k200) ?_
       refine FL.v (E.move (v := Value.int .i64 ((PF.laws_markCnf r88 1).2)) rfl) ?_
       refine FL.call rfl rfl rfl (E.call Tryz.call32 (A2 rfl rfl)) (w_laws_markTreeNodeS S230 hs v118 r112 (f241.mono (sg_up (by omega) (Inc.rfl _))) ((PF.laws_markCnf r88 1).2)) ?_
       rintro e w245 ⟨H244, rfl, S246, h247, o248⟩
       refine ⟨_, rfl, ?_⟩
       have o249 := (f241.mono (sg_mono (hi := w115.heap.size) (Inc.rfl _))).outside o248
       have h247 := f241.span eTreeNode_flat (by omega) h247
       have f250 := f237.mono ((sg_mono (lo := wa.heap.size) (hi := wa.heap.size + 1) (Inc.rfl _)).tr (sg_keep o249 (by omega)))
       have f251 := f238.mono ((sg_mono (lo := w56.heap.size) (hi := w72.heap.size) (Inc.rfl _)).tr (sg_keep o249 (by omega)))
       have f252 := f239.mono ((sg_mono (lo := w56.heap.size) (hi := w72.heap.size) (Inc.rfl _)).tr (sg_keep o249 (by omega)))
       have f253 := f240.mono ((sg_mono (lo := w91.heap.size) (hi := w91.heap.size + 1) (Inc.rfl _)).tr (sg_keep o249 (by omega)))
       have f254 := h231.mono ((sg_mono (lo := w72.heap.size) (hi := w91.heap.size) (Inc.rfl _)).tr (sg_keep o249 (by omega)))
       have f255 := ns236.mono ((sg_mono (lo := w72.heap.size) (hi := w91.heap.size) (Inc.rfl _)).tr (sg_keep o249 (by omega)))
       have f256 := f242.mono ((sg_mono (lo := w115.heap.size) (hi := w131.heap.size) (Inc.rfl _)).tr (sg_keep o249 (by omega)))
       have f257 := f243.mono ((sg_mono (lo := w115.heap.size) (hi := w131.heap.size) (Inc.rfl _)).tr (sg_keep o249 (by omega)))
       refine FL.v (E.assign (v := Value.int .i64 ((PF.laws_markTreeNodeS r112 ((PF.laws_markCnf r88 1).2)).2)) rfl) ?_
       refine FL.nil (FW.seq (FW.seq (FW.region ?_)))
       refine FL.v (E.move (v := Value.int .i64 ((PF.laws_markTreeNodeS r112 ((PF.laws_markCnf r88 1).2)).2)) rfl) ?_
       refine FL.v (E.lss rfl rfl) ?_
       refine FL.v (E.move (v := Value.bool (decide ((PF.laws_markTreeNodeS r112 ((PF.laws_markCnf r88 1).2)).2 < 0))) rfl) ?_
       obtain ⟨t258, hqt258, hp⟩ := bnd hp
       refine FL.cut 5 (fun f w => ∃ H : GH, St Ha wa H w [] ∧ Inc H244 H ∧ f 1 = v1 ∧ f 2 = Value.pointer (some ⟨wa.heap.size, 0, none⟩) ∧ f 6 = v75 ∧ f 7 = Value.bool r69.2 ∧ f 10 = v134 ∧ f 11 = Value.bool r128.2 ∧ f 77 = Value.bool t258) ?_ ?_
       ·
        clear hp; have hp := hqt258; clear hqt258
        rcases ifB hp with ⟨c264, hp⟩ | ⟨c264, hp⟩
        ·
         refine FL.skip (wF_no rfl rfl rfl c264) rfl ?_
         refine FL.skip (wF_no rfl rfl rfl c264) rfl ?_
         refine FL.skip (wF_no rfl rfl rfl c264) rfl ?_
         refine FL.skip (wF_no rfl rfl rfl c264) rfl ?_
         obtain rfl := Option.some.inj hp
         refine FL.v (E.pickT rfl c264 rfl) ?_
         exact FL.nil ⟨rfl, _, S246, (Inc.rfl _), k195, k196, k197, k198, k201, k202, rfl⟩
        ·
         refine FL.val (wF_yes rfl rfl rfl c264) rfl rfl (E.move k201) ?_
         refine FL.val (wF_yes rfl rfl rfl c264) rfl rfl (E.move k197) ?_
         obtain ⟨r265, hr266, hp⟩ := bnd hp
         refine FL.call (wF_yes rfl rfl rfl c264) rfl rfl (E.call Tryz.call14 (A2 rfl rfl)) (w_laws_eqIntSS S246.sl v134 r128.1 (f256.mono sgI) v75 r69.1 (f251.mono sgI) hr266) ?_
         rintro e w267 ⟨rfl, r268⟩
         refine ⟨_, rfl, ?_⟩
         have S269 := S246.call r268
         have z270 := r268.bel.size
         refine FL.val (wF_yes rfl rfl rfl c264) rfl rfl (E.not rfl) ?_
         obtain rfl := Option.some.inj hp
         refine FL.v (E.pickF rfl c264 rfl) ?_
         exact FL.nil ⟨rfl, _, S269, (Inc.rfl _), k195, k196, k197, k198, k201, k202, rfl⟩
       rintro f263 w262 ⟨H259, S260, i261, k271, k272, k273, k274, k275, k276, k277⟩
       refine FL.v (E.move k277) ?_
       refine FL.cut 4 (fun f w => ∃ H : GH, St Ha wa H w [] ∧ Inc H259 H ∧ f 1 = v1 ∧ f 2 = Value.pointer (some ⟨wa.heap.size, 0, none⟩) ∧ f 6 = v75 ∧ f 7 = Value.bool r69.2 ∧ f 10 = v134 ∧ f 82 = Value.bool (bif t258 then true else (!(r128.2 == r69.2)))) ?_ ?_
       ·
        rcases bcase t258 with c283 | c283
        ·
         refine FL.skip (wF_no rfl rfl rfl c283) rfl ?_
         refine FL.skip (wF_no rfl rfl rfl c283) rfl ?_
         refine FL.skip (wF_no rfl rfl rfl c283) rfl ?_
         refine FL.v (E.pickT rfl c283 rfl) ?_
         exact FL.nil ⟨rfl, _, S260, (Inc.rfl _), k271, k272, k273, k274, k275, (congrArg Value.bool (bifT c283).symm)⟩
        ·
         refine FL.val (wF_yes rfl rfl rfl c283) rfl rfl (E.move k276) ?_
         refine FL.val (wF_yes rfl rfl rfl c283) rfl rfl (E.move k274) ?_
         refine FL.val (wF_yes rfl rfl rfl c283) rfl rfl (E.neqB Tryz.runUnderlying4 rfl rfl) ?_
         refine FL.v (E.pickF rfl c283 rfl) ?_
         exact FL.nil ⟨rfl, _, S260, (Inc.rfl _), k271, k272, k273, k274, k275, (congrArg Value.bool (bifF c283).symm)⟩
       rintro f282 w281 ⟨H278, S279, i280, k284, k285, k286, k287, k288, k289⟩
       refine FL.nil ?_
       rcases ifB hp with ⟨c290, hp⟩ | ⟨c290, hp⟩
       ·
        refine FW.condT k289 c290 ?_
        refine FW.seq (FW.region ?_)
        refine FL.v (E.assign (v := Value.bool false) rfl) ?_
        refine FL.nil ?_
        refine FW.ret ?_
        obtain rfl := Option.some.inj hp
        exact ⟨.inr rfl, res1 rfl rfl ⟨rfl, S279.back⟩⟩
       ·
        refine FW.condF k289 c290 ?_
        refine FW.skip (FW.seq (FW.region ?_))
        refine FL.v (E.assign (v := Value.int .i64 1) rfl) ?_
        refine FL.nil (FW.seq (FW.region ?_))
        refine FL.v (E.move k288) ?_
        refine FL.v (E.move (v := Value.int .i64 1) rfl) ?_
        refine FL.call rfl rfl rfl (E.call Tryz.call19 (A2 rfl rfl)) (w_laws_markIntSS S279 hs v134 r128.1 cs136 (f257.mono (sg_up (by omega) (i261.tr i280))) 1) ?_
        rintro e w292 ⟨H291, c297, rfl, S293, ns299, hb298, o295⟩
        refine ⟨_, rfl, ?_⟩
        have o296 := (f257.mono (sg_mono (hi := w131.heap.size) (i261.tr i280))).outside o295
        have ns299 := f257.span (eL_loc eI_flat) (by omega) ns299 hb298
        have h294 := ns299.rsl
        have f300 := f250.mono ((sg_mono (lo := wa.heap.size) (hi := wa.heap.size + 1) (i261.tr i280)).tr (sg_keep o296 (by omega)))
        have f301 := f251.mono ((sg_mono (lo := w56.heap.size) (hi := w72.heap.size) (i261.tr i280)).tr (sg_keep o296 (by omega)))
        have f302 := f252.mono ((sg_mono (lo := w56.heap.size) (hi := w72.heap.size) (i261.tr i280)).tr (sg_keep o296 (by omega)))
        refine FL.v (E.assign (v := Value.int .i64 ((PF.laws_markIntSS r128.1 1).2)) rfl) ?_
        refine FL.nil (FW.seq (FW.region ?_))
        refine FL.v (E.assign (v := Value.int .i64 1) rfl) ?_
        refine FL.nil (FW.seq (FW.region ?_))
        refine FL.v (E.move k288) ?_
        refine FL.v (E.move (v := Value.int .i64 1) rfl) ?_
        obtain ⟨r303, hr304, hp⟩ := bnd hp
        refine FL.call rfl rfl rfl (E.call Tryz.call20 (A2 rfl rfl)) (w_laws_heldIntSS S293.sl v134 ((PF.laws_markIntSS r128.1 1).1) (h294.mono sgI) 1 hr304) ?_
        rintro e w305 ⟨rfl, r306⟩
        refine ⟨_, rfl, ?_⟩
        have S307 := S293.call r306
        have z308 := r306.bel.size
        refine FL.v (E.assign (v := Value.int .i64 r303) rfl) ?_
        refine FL.nil (FW.seq (FW.seq (FW.region ?_)))
        refine FL.v (E.move (v := Value.int .i64 r303) rfl) ?_
        refine FL.v (E.lss rfl rfl) ?_
        refine FL.nil ?_
        rcases ifB hp with ⟨c309, hp⟩ | ⟨c309, hp⟩
        ·
         refine FW.condT rfl c309 ?_
         refine FW.seq (FW.region ?_)
         refine FL.v (E.assign (v := Value.bool false) rfl) ?_
         refine FL.nil ?_
         refine FW.ret ?_
         obtain rfl := Option.some.inj hp
         exact ⟨.inr rfl, res1 rfl rfl ⟨rfl, S307.back⟩⟩
        ·
         refine FW.condF rfl c309 ?_
         refine FW.skip (FW.seq (FW.seq (FW.region ?_)))
         refine FL.v (E.move (v := Value.int .i64 r303) rfl) ?_
         refine FL.v (E.move (v := Value.int .i64 ((PF.laws_markIntSS r128.1 1).2)) rfl) ?_
         refine FL.v (E.neq rfl rfl) ?_
         refine FL.nil ?_
         rcases ifB hp with ⟨c310, hp⟩ | ⟨c310, hp⟩
         ·
          refine FW.condT rfl c310 ?_
          refine FW.seq (FW.region ?_)
          refine FL.v (E.assign (v := Value.bool false) rfl) ?_
          refine FL.nil ?_
          refine FW.ret ?_
          obtain rfl := Option.some.inj hp
          exact ⟨.inr rfl, res1 rfl rfl ⟨rfl, S307.back⟩⟩
         ·
          refine FW.condF rfl c310 ?_
          refine FW.skip (FW.seq (FW.region ?_))
          refine FL.v (E.load k285 (run_loadA Tryz.isAgg24 Tryz.sizeOf24 ((f300.mono sgI).now S307.sl) rfl)) ?_
          obtain ⟨r311, hr312, hp⟩ := bnd hp
          refine FL.call rfl rfl rfl (E.call Tryz.call11 (A1 rfl)) (w_laws_toCnf S307.sl a0 v0_1 (p0_1.mono S293.inc) hr312) ?_
          rintro e w314 ⟨H313, v317, rfl, r316, ⟨c320, ns319⟩⟩
          refine ⟨_, rfl, ?_⟩
          have h318 := ns319.rsl
          have nv321 : New H291 [v317] := New.of_up S307.sl h318.dom
          have S315 := S307.call r316
          have z322 := r316.bel.size
          have h318 := h318.mono (sg_of S315.sl)
          have ns319 := ns319.mono (sg_of S315.sl)
          refine FL.v (E.move k284) ?_
          obtain ⟨r323, hr324, hp⟩ := bnd hp
          refine FL.call rfl rfl rfl (E.call Tryz.call29 (A1 rfl)) (w_laws_toTreeNodeS S315.sl v1 a1 (p1.mono (S293.inc.tr r316.inc)) hr324) ?_
          rintro e w326 ⟨H325, v329, n330, cs331, rfl, r328, els332⟩
          refine ⟨_, rfl, ?_⟩
          obtain ⟨H333, r334, i335, h336, nv337⟩ := r328.sealRowU (i := 0) (l' := []) rfl els332 (by decide) rfl
          have S327 := S315.call r334.run
          have z338 := r334.run.bel.size
          have h336 := h336.mono (sg_of S327.sl)
          obtain ⟨r339, hr340, hp⟩ := bnd hp
          refine FL.call rfl rfl rfl (E.call Tryz.call30 (A2 rfl rfl)) (w_impl_TreeClauses S327.sl r311 v317 (h318.mono (sgI.tr r334.run.inc)) v329 r323 (h336.mono sgI) hr340) ?_
          rintro e w342 ⟨H341, v345, n346, cs347, rfl, r344, els348, nd349⟩
          refine ⟨_, rfl, ?_⟩
          have nv350 : New H333 cs347 := New.of_up S327.sl els348.dom
          obtain ⟨H351, r352, i353, ns356, nv355⟩ := r344.sealRowN (i := 0) (l' := []) rfl els348 nd349 (by decide) rfl
          have h354 := ns356.rsl
          have S343 := S327.call r352.run
          have z357 := r352.run.bel.size
          have h354 := h354.mono (sg_of S343.sl)
          have ns356 := ns356.mono (sg_of S343.sl)
          refine FL.v (E.move (v := Value.tuple #[v345, Value.bool r339.2]) rfl) ?_
          refine FL.v (E.extract (i := 0) rfl rfl) ?_
          refine FL.v (E.extract (i := 1) rfl rfl) ?_
          refine FL.v (E.assign (v := v345) rfl) ?_
          refine FL.v (E.assign (v := Value.bool r339.2) rfl) ?_
          refine FL.nil (FW.seq (FW.seq (FW.region ?_)))
          refine FL.v (E.move (v := v345) rfl) ?_
          refine FL.v (E.move k286) ?_
          obtain ⟨r358, hr359, hp⟩ := bnd hp
          refine FL.call rfl rfl rfl (E.call Tryz.call14 (A2 rfl rfl)) (w_laws_eqIntSS S343.sl v345 r339.1 (h354.mono sgI) v75 r69.1 (f301.mono (sgI.tr ((r316.inc.tr r334.run.inc).tr r352.run.inc))) hr359) ?_
          rintro e w360 ⟨rfl, r361⟩
          refine ⟨_, rfl, ?_⟩
          have S362 := S343.call r361
          have z363 := r361.bel.size
          refine FL.v (E.not rfl) ?_
          refine FL.v (E.move (v := Value.bool (!r358)) rfl) ?_
          refine FL.cut 4 (fun f w => ∃ H : GH, St Ha wa H w [] ∧ Inc H351 H ∧ f 10 = v134 ∧ f 13 = Value.int .i64 ((PF.laws_markIntSS r128.1 1).2) ∧ f 110 = Value.bool (bif (!r358) then true else (!(r339.2 == r69.2)))) ?_ ?_
          ·
           rcases bcase (!r358) with c369 | c369
           ·
            refine FL.skip (wF_no rfl rfl rfl c369) rfl ?_
            refine FL.skip (wF_no rfl rfl rfl c369) rfl ?_
            refine FL.skip (wF_no rfl rfl rfl c369) rfl ?_
            refine FL.v (E.pickT rfl c369 rfl) ?_
            exact FL.nil ⟨rfl, _, S362, (Inc.rfl _), k288, rfl, (congrArg Value.bool (bifT c369).symm)⟩
           ·
            refine FL.val (wF_yes rfl rfl rfl c369) rfl rfl (E.move (v := Value.bool r339.2) rfl) ?_
            refine FL.val (wF_yes rfl rfl rfl c369) rfl rfl (E.move k287) ?_
            refine FL.val (wF_yes rfl rfl rfl c369) rfl rfl (E.neqB Tryz.runUnderlying4 rfl rfl) ?_
            refine FL.v (E.pickF rfl c369 rfl) ?_
            exact FL.nil ⟨rfl, _, S362, (Inc.rfl _), k288, rfl, (congrArg Value.bool (bifF c369).symm)⟩
          rintro f368 w367 ⟨H364, S365, i366, k370, k371, k372⟩
          refine FL.nil ?_
          rcases ifB hp with ⟨c373, hp⟩ | ⟨c373, hp⟩
          ·
           refine FW.condT k372 c373 ?_
           refine FW.seq (FW.region ?_)
           refine FL.v (E.assign (v := Value.bool false) rfl) ?_
           refine FL.nil ?_
           refine FW.ret ?_
           obtain rfl := Option.some.inj hp
           exact ⟨.inr rfl, res1 rfl rfl ⟨rfl, S365.back⟩⟩
          ·
           refine FW.condF k372 c373 ?_
           refine FW.skip (FW.seq (FW.region ?_))
           refine FL.v (E.assign (v := Value.int .i64 1) rfl) ?_
           refine FL.nil (FW.seq (FW.region ?_))
           refine FL.v (E.move k370) ?_
           refine FL.v (E.move (v := Value.int .i64 1) rfl) ?_
           obtain ⟨r374, hr375, hp⟩ := bnd hp
           refine FL.call rfl rfl rfl (E.call Tryz.call20 (A2 rfl rfl)) (w_laws_heldIntSS S365.sl v134 ((PF.laws_markIntSS r128.1 1).1) (h294.mono (sgI.tr (((r316.inc.tr r334.run.inc).tr r352.run.inc).tr i366))) 1 hr375) ?_
           rintro e w376 ⟨rfl, r377⟩
           refine ⟨_, rfl, ?_⟩
           have S378 := S365.call r377
           have z379 := r377.bel.size
           refine FL.v (E.assign (v := Value.int .i64 r374) rfl) ?_
           refine FL.nil (FW.seq (FW.seq (FW.region ?_)))
           refine FL.v (E.move (v := Value.int .i64 r374) rfl) ?_
           refine FL.v (E.lss rfl rfl) ?_
           refine FL.nil ?_
           rcases ifB hp with ⟨c380, hp⟩ | ⟨c380, hp⟩
           ·
            refine FW.condT rfl c380 ?_
            refine FW.seq (FW.region ?_)
            refine FL.v (E.assign (v := Value.bool false) rfl) ?_
            refine FL.nil ?_
            refine FW.ret ?_
            obtain rfl := Option.some.inj hp
            exact ⟨.inr rfl, res1 rfl rfl ⟨rfl, S378.back⟩⟩
           ·
            refine FW.condF rfl c380 ?_
            refine FW.skip (FW.seq (FW.seq (FW.region ?_)))
            refine FL.v (E.move (v := Value.int .i64 r374) rfl) ?_
            refine FL.v (E.move k371) ?_
            refine FL.v (E.neq rfl rfl) ?_
            refine FL.nil ?_
            rcases ifB hp with ⟨c381, hp⟩ | ⟨c381, hp⟩
            ·
             refine FW.condT rfl c381 ?_
             refine FW.seq (FW.region ?_)
             refine FL.v (E.assign (v := Value.bool false) rfl) ?_
             refine FL.nil ?_
             refine FW.ret ?_
             obtain rfl := Option.some.inj hp
             exact ⟨.inr rfl, res1 rfl rfl ⟨rfl, S378.back⟩⟩
            ·
             refine FW.condF rfl c381 ?_
             refine FW.skip (FW.seq (FW.region ?_))
             refine FL.v (E.assign (v := Value.bool true) rfl) ?_
             refine FL.nil ?_
             refine FW.ret ?_
             obtain rfl := Option.some.inj hp
             exact ⟨.inr rfl, res1 rfl rfl ⟨rfl, S378.back⟩⟩

end Go.Proofs
