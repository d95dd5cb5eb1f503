/- Part of the walks and plain laws behind the claim: it proves helpers, under no condition beyond their own. -/
import Derived.Test.YtjpjbfbloplacaaGreatTdWk4
set_option linter.unusedVariables false
set_option maxRecDepth 100000
namespace Go.Proofs
open Go.Mr Go.Pu Go.PF Go.RowKit Tryz

@[reducible] def p_impl_algebra_pcDue (Ha : GH) (wa : World) (r : ((List Int) × Bool)) : Ending → World → Prop :=
 fun e w' => ∃ H' : GH, ∃ v0 : Value, e = .returned (Value.tuple #[v0, vB r.2]) ∧ Run wa.heap.size Ha wa H' w' ∧ RSl H' eI 1 v0 r.1
set_option maxHeartbeats 4000000 in
theorem w_impl_algebra_pcDue {Ha : GH} {wa : World} (hs : Sl Ha wa) (q0P : Addr) (a0 : algebra) (v0P_3 : Value) (v0P_4 : Value) (p0P_3 : RSl Ha (eL eI 1) 1 v0P_3 a0.f.clauses) (p0P_4 : RSl Ha (eL eI 1) 1 v0P_4 a0.q) (c0P : CAt Ha q0P [vI a0.ring.p, vI a0.ring.vars, vI a0.f.vars, v0P_3, v0P_4]) (v1 : Value) (a1 : List PcStep) (p1 : RSl Ha ePcStep 6 v1 a1) (a2 : Int) {r : ((List Int) × Bool)} (hp : (PF.impl_algebra_pcDue a0 a1 a2) = some r) :
  Calls prog 235 #[vP (q0P), v1, vI a2] wa (p_impl_algebra_pcDue Ha wa r) := by
 unfold PF.impl_algebra_pcDue at hp; have S0 := St.init hs; refine calls_go (N := 166) (args := [vP (q0P), v1, vI a2]) func235 rfl rfl rfl ?_; refine FW.sr ?_; refine FL.as (v := vN) rfl ?_; refine FL.as (v := vB false) rfl ?_; refine FL.nil (FW.sr ?_); refine FL.mv (v := v1) rfl ?_; refine FL.mv (v := vI a2) rfl ?_; obtain ⟨x27, hx28, hp⟩ := bnd hp; obtain ⟨p21, cs22, pt23, l24, at25, rel26⟩ := p1.at hx28; obtain ⟨v29, rfl, h30⟩ := ePcStep_open rel26; refine FL.v (E.indexAddr te36 rfl rfl pt23) ?_; refine FL.v (E.load rfl (run_loadA isAgg90 sizeOf90 (at25.now S0.sl) rfl)) ?_; obtain ⟨b31, w32, run33, S34⟩ := S0.alloc (P := prog) 90 [vI 0, vN, vI 0, vI 0, vI 0, vI 0] zeroValue90 rfl (oC rfl (oC rfl (oC rfl (oC rfl (oC rfl (oC rfl ones_nil)))))); refine FL.v (E.alloc run33) ?_; obtain ⟨w35, run36, S37⟩ := S34.store0 (P := prog) (t := 90) (i := 0) (cs' := [vI x27.kind, v29, vI x27.a, vI x27.b, vI x27.x, vI x27.y]) (l' := [.box b31 90 [vI x27.kind, v29, vI x27.a, vI x27.b, vI x27.x, vI x27.y]]) (v := vA #[vI x27.kind, v29, vI x27.a, vI x27.b, vI x27.x, vI x27.y]) (c := [vI x27.kind, v29, vI x27.a, vI x27.b, vI x27.x, vI x27.y]) rfl sizeOf90 rfl rfl (oC rfl (oC h30.one (oC rfl (oC rfl (oC rfl (oC rfl ones_nil)))))) (nB rfl) rfl rfl; refine FL.act rfl rfl (E.store rfl rfl run36) ?_; obtain ⟨H38, S39, i40, at41⟩ := S37.sealBox (i := 0) (l' := []) rfl rfl; refine FL.nil (FW.sr ?_); refine FL.mv (v := vP (q0P)) rfl ?_; refine FL.mv (v := v1) rfl ?_; refine FL.mv (v := vI a2) rfl ?_; refine FL.v (E.fieldAddr tf90_2 rfl) ?_; refine FL.v (E.load rfl (run_load1 isAgg3 (at41.now S39.sl) rfl)) ?_; obtain ⟨r42, hr43, hp⟩ := bnd hp; refine FL.c (E.call call259 (A4 rfl rfl rfl rfl)) (w_impl_algebra_polyBefore S39.sl q0P a0 v0P_3 v0P_4 (p0P_3.mono i40) (p0P_4.mono i40) (c0P.mono i40) v1 a1 (p1.mono i40) a2 x27.a hr43) ?_; rintro e w45 ⟨H44, v48, n49, cs50, rfl, r47, els51⟩; refine ⟨_, rfl, ?_⟩; have els51 := els51.mono (up_le S39.size); have S46 := S39.join (l' := [.row 3 1 v48 n49 cs50]) r47 rfl; refine FL.mv (v := Value.tuple #[v48, vB r42.2]) rfl ?_; refine FL.v (E.extract (i := 0) rfl rfl) ?_; refine FL.v (E.extract (i := 1) rfl rfl) ?_; refine FL.as (v := v48) rfl ?_; refine FL.as (v := vB r42.2) rfl ?_; refine FL.nil (FW.sr ?_); refine FL.mv (v := vP (q0P)) rfl ?_; refine FL.mv (v := v1) rfl ?_; refine FL.mv (v := vI a2) rfl ?_; refine FL.v (E.fieldAddr tf90_3 rfl) ?_; refine FL.v (E.load rfl (run_load1 isAgg3 ((at41.mono r47.run.inc).now S46.sl) rfl)) ?_; obtain ⟨r52, hr53, hp⟩ := bnd hp; refine FL.c (E.call call259 (A4 rfl rfl rfl rfl)) (w_impl_algebra_polyBefore S46.sl q0P a0 v0P_3 v0P_4 (p0P_3.mono (i40.tr r47.run.inc)) (p0P_4.mono (i40.tr r47.run.inc)) (c0P.mono (i40.tr r47.run.inc)) v1 a1 (p1.mono (i40.tr r47.run.inc)) a2 x27.b hr53) ?_; rintro e w55 ⟨H54, v58, n59, cs60, rfl, r57, els61⟩; refine ⟨_, rfl, ?_⟩; have els61 := els61.mono (up_le S46.size); have S56 := S46.join (l' := [.row 3 1 v58 n59 cs60, .row 3 1 v48 n49 cs50]) r57 rfl; refine FL.mv (v := Value.tuple #[v58, vB r52.2]) rfl ?_; refine FL.v (E.extract (i := 0) rfl rfl) ?_; refine FL.v (E.extract (i := 1) rfl rfl) ?_; refine FL.as (v := v58) rfl ?_; refine FL.as (v := vB r52.2) rfl ?_; refine FL.nil (FW.seq (FW.block (FW.seq ?_))); refine FW.draw (fun w' => Run w55.heap.size H54 w55 H54 w') (by kernel_rfl) (by kernel_rfl) (run_drew S56.sl) ?_; refine FD.v (fun _ z => (E.fieldAddr tf90_0 rfl)) ?_; refine FD.v (fun _ z => (E.load rfl (run_load1 isAgg3 ((at41.mono (r47.run.inc.tr r57.run.inc)).now (S56.call z).sl) rfl))) ?_; refine FD.v (fun _ z => (E.eql rfl rfl)) ?_; refine FD.v (fun _ z => (E.move (v := vB (x27.kind == 1)) rfl)) ?_; refine FD.cut 10 (fun f => f 0 = vP (q0P) ∧ f 8 = vP (⟨b31, 0, none⟩) ∧ f 9 = v48 ∧ f 10 = vB r42.2 ∧ f 11 = v58 ∧ f 12 = vB r52.2 ∧ f 49 = vB (bif (x27.kind == 1) then (PF.impl_within x27.a 0 (wr ((len a0.q) - 1))) else false)) ?_ ?_
 ·
  rcases bcase (x27.kind == 1) with c69 | c69
  ·
   refine FD.y (wY c69) (fun _ z => (E.fieldAddr tf90_2 rfl)) ?_; refine FD.y (wY c69) (fun _ z => (E.load rfl (run_load1 isAgg3 ((at41.mono (r47.run.inc.tr r57.run.inc)).now (S56.call z).sl) rfl))) ?_; refine FD.y (wY c69) (fun _ z => (E.move (v := vP (q0P)) rfl)) ?_; refine FD.y (wY c69) (fun _ z => (E.nilCheck rfl)) ?_; refine FD.y (wY c69) (fun _ z => (E.fieldAddr tf105_2 rfl)) ?_; refine FD.y (wY c69) (fun _ z => (E.load rfl (run_load1 isAgg103 ((c0P.mono ((i40.tr r47.run.inc).tr r57.run.inc)).now (S56.call z).sl) rfl))) ?_; refine FD.y (wY c69) (fun _ z => (E.lenP te103 rfl p0P_4)) ?_; refine FD.y (wY c69) (fun _ z => (E.sub rfl rfl)) ?_; refine FD.call (wY c69) rfl rfl (fun _ z => (E.call call162 (A3 rfl rfl rfl))) (fun _ z => Calls.cls z (w_impl_within (S56.call z).sl x27.a 0 (wr ((len a0.q) - 1)))) ?_; refine FD.v (fun _ z => (E.pickT rfl c69 rfl)) ?_; exact FD.nil ⟨rfl, rfl, rfl, rfl, rfl, rfl, (congrArg vB (bifT c69).symm)⟩
  ·
   refine FD.skip (wN c69) rfl ?_; refine FD.skip (wN c69) rfl ?_; refine FD.skip (wN c69) rfl ?_; refine FD.skip (wN c69) rfl ?_; refine FD.skip (wN c69) rfl ?_; refine FD.skip (wN c69) rfl ?_; refine FD.skip (wN c69) rfl ?_; refine FD.skip (wN c69) rfl ?_; refine FD.skip (wN c69) rfl ?_; refine FD.v (fun _ z => (E.pickF rfl c69 rfl)) ?_; exact FD.nil ⟨rfl, rfl, rfl, rfl, rfl, rfl, (congrArg vB (bifF c69).symm)⟩
 rintro f68 ⟨k70, k71, k72, k73, k74, k75, k76⟩; refine FD.v (fun _ z => (E.move k76)) ?_; refine FD.cut 4 (fun f => f 0 = vP (q0P) ∧ f 8 = vP (⟨b31, 0, none⟩) ∧ f 9 = v48 ∧ f 10 = vB r42.2 ∧ f 11 = v58 ∧ f 12 = vB r52.2 ∧ f 54 = vB (bif (bif (x27.kind == 1) then (PF.impl_within x27.a 0 (wr ((len a0.q) - 1))) else false) then (x27.b == 0) else false)) ?_ ?_
 ·
  rcases bcase (bif (x27.kind == 1) then (PF.impl_within x27.a 0 (wr ((len a0.q) - 1))) else false) with c83 | c83
  ·
   refine FD.y (wY c83) (fun _ z => (E.fieldAddr tf90_3 k71)) ?_; refine FD.y (wY c83) (fun _ z => (E.load rfl (run_load1 isAgg3 ((at41.mono (r47.run.inc.tr r57.run.inc)).now (S56.call z).sl) rfl))) ?_; refine FD.y (wY c83) (fun _ z => (E.eql rfl rfl)) ?_; refine FD.v (fun _ z => (E.pickT rfl c83 rfl)) ?_; exact FD.nil ⟨k70, k71, k72, k73, k74, k75, (congrArg vB (bifT c83).symm)⟩
  ·
   refine FD.skip (wN c83) rfl ?_; refine FD.skip (wN c83) rfl ?_; refine FD.skip (wN c83) rfl ?_; refine FD.v (fun _ z => (E.pickF rfl c83 rfl)) ?_; exact FD.nil ⟨k70, k71, k72, k73, k74, k75, (congrArg vB (bifF c83).symm)⟩
 rintro f82 ⟨k84, k85, k86, k87, k88, k89, k90⟩; refine FD.v (fun _ z => (E.move k90)) ?_; refine FD.cut 4 (fun f => f 0 = vP (q0P) ∧ f 8 = vP (⟨b31, 0, none⟩) ∧ f 9 = v48 ∧ f 10 = vB r42.2 ∧ f 11 = v58 ∧ f 12 = vB r52.2 ∧ f 59 = vB (bif (bif (bif (x27.kind == 1) then (PF.impl_within x27.a 0 (wr ((len a0.q) - 1))) else false) then (x27.b == 0) else false) then (x27.x == 0) else false)) ?_ ?_
 ·
  rcases bcase (bif (bif (x27.kind == 1) then (PF.impl_within x27.a 0 (wr ((len a0.q) - 1))) else false) then (x27.b == 0) else false) with c97 | c97
  ·
   refine FD.y (wY c97) (fun _ z => (E.fieldAddr tf90_4 k85)) ?_; refine FD.y (wY c97) (fun _ z => (E.load rfl (run_load1 isAgg3 ((at41.mono (r47.run.inc.tr r57.run.inc)).now (S56.call z).sl) rfl))) ?_; refine FD.y (wY c97) (fun _ z => (E.eql rfl rfl)) ?_; refine FD.v (fun _ z => (E.pickT rfl c97 rfl)) ?_; exact FD.nil ⟨k84, k85, k86, k87, k88, k89, (congrArg vB (bifT c97).symm)⟩
  ·
   refine FD.skip (wN c97) rfl ?_; refine FD.skip (wN c97) rfl ?_; refine FD.skip (wN c97) rfl ?_; refine FD.v (fun _ z => (E.pickF rfl c97 rfl)) ?_; exact FD.nil ⟨k84, k85, k86, k87, k88, k89, (congrArg vB (bifF c97).symm)⟩
 rintro f96 ⟨k98, k99, k100, k101, k102, k103, k104⟩; refine FD.v (fun _ z => (E.move k104)) ?_; refine FD.cut 4 (fun f => f 0 = vP (q0P) ∧ f 8 = vP (⟨b31, 0, none⟩) ∧ f 9 = v48 ∧ f 10 = vB r42.2 ∧ f 11 = v58 ∧ f 12 = vB r52.2 ∧ f 64 = vB (bif (bif (bif (bif (x27.kind == 1) then (PF.impl_within x27.a 0 (wr ((len a0.q) - 1))) else false) then (x27.b == 0) else false) then (x27.x == 0) else false) then (x27.y == 0) else false)) ?_ ?_
 ·
  rcases bcase (bif (bif (bif (x27.kind == 1) then (PF.impl_within x27.a 0 (wr ((len a0.q) - 1))) else false) then (x27.b == 0) else false) then (x27.x == 0) else false) with c111 | c111
  ·
   refine FD.y (wY c111) (fun _ z => (E.fieldAddr tf90_5 k99)) ?_; refine FD.y (wY c111) (fun _ z => (E.load rfl (run_load1 isAgg3 ((at41.mono (r47.run.inc.tr r57.run.inc)).now (S56.call z).sl) rfl))) ?_; refine FD.y (wY c111) (fun _ z => (E.eql rfl rfl)) ?_; refine FD.v (fun _ z => (E.pickT rfl c111 rfl)) ?_; exact FD.nil ⟨k98, k99, k100, k101, k102, k103, (congrArg vB (bifT c111).symm)⟩
  ·
   refine FD.skip (wN c111) rfl ?_; refine FD.skip (wN c111) rfl ?_; refine FD.skip (wN c111) rfl ?_; refine FD.v (fun _ z => (E.pickF rfl c111 rfl)) ?_; exact FD.nil ⟨k98, k99, k100, k101, k102, k103, (congrArg vB (bifF c111).symm)⟩
 rintro f110 ⟨k112, k113, k114, k115, k116, k117, k118⟩; refine FD.v (fun _ z => (E.assign k118)) ?_; refine FD.nil ?_; intro w119 r121; have S120 := S56.call r121; rcases ifB hp with ⟨c122, hp⟩ | ⟨c122, hp⟩
 ·
  refine FW.condT rfl c122 ?_; refine FW.seq ?_; refine FW.draw (fun w' => Run w119.heap.size H54 w119 H54 w') (by kernel_rfl) (by kernel_rfl) (run_drew S120.sl) ?_; refine FD.v (fun _ z => (E.move k112)) ?_; refine FD.v (fun _ z => (E.nilCheck rfl)) ?_; refine FD.v (fun _ z => (E.fieldAddr tf105_2 rfl)) ?_; refine FD.v (fun _ z => (E.load rfl (run_load1 isAgg103 ((c0P.mono ((i40.tr r47.run.inc).tr r57.run.inc)).now (S120.call z).sl) rfl))) ?_; refine FD.v (fun _ z => (E.fieldAddr tf90_2 k113)) ?_; refine FD.v (fun _ z => (E.load rfl (run_load1 isAgg3 ((at41.mono (r47.run.inc.tr r57.run.inc)).now (S120.call z).sl) rfl))) ?_; obtain ⟨x130, hx131, hp⟩ := bnd hp; obtain ⟨p124, cs125, pt126, l127, at128, rel129⟩ := p0P_4.at hx131; obtain ⟨v132, rfl, h133⟩ := eL_open rel129; refine FD.v (fun _ z => (E.indexAddr te103 rfl rfl pt126)) ?_; refine FD.v (fun _ z => (E.load rfl (run_load0 isAgg99 ((at128.mono ((i40.tr r47.run.inc).tr r57.run.inc)).now (S120.call z).sl) rfl))) ?_; refine FD.v (fun _ z => (E.assign (v := v132) rfl)) ?_; refine FD.v (fun _ z => (E.assign (v := vB true) rfl)) ?_; refine FD.nil ?_; intro w134 r136; have S135 := S120.call r136; refine FW.ret ?_; cases hp; exact ⟨.inr rfl, res2 rfl rfl rfl ⟨_, _, rfl, S135.run, (h133.mono ((i40.tr r47.run.inc).tr r57.run.inc))⟩⟩
 ·
  refine FW.condF rfl c122 ?_; refine FW.seq ?_; refine FW.draw (fun w' => Run w119.heap.size H54 w119 H54 w') (by kernel_rfl) (by kernel_rfl) (run_drew S120.sl) ?_; refine FD.v (fun _ z => (E.fieldAddr tf90_0 k113)) ?_; refine FD.v (fun _ z => (E.load rfl (run_load1 isAgg3 ((at41.mono (r47.run.inc.tr r57.run.inc)).now (S120.call z).sl) rfl))) ?_; refine FD.v (fun _ z => (E.eql rfl rfl)) ?_; refine FD.v (fun _ z => (E.move (v := vB (x27.kind == 2)) rfl)) ?_; refine FD.cut 2 (fun f => f 0 = vP (q0P) ∧ f 8 = vP (⟨b31, 0, none⟩) ∧ f 9 = v48 ∧ f 10 = vB r42.2 ∧ f 11 = v58 ∧ f 12 = vB r52.2 ∧ f 79 = vB (bif (x27.kind == 2) then r42.2 else false)) ?_ ?_
  ·
   rcases bcase (x27.kind == 2) with c144 | c144
   ·
    refine FD.y (wY c144) (fun _ z => (E.move k115)) ?_; refine FD.v (fun _ z => (E.pickT rfl c144 rfl)) ?_; exact FD.nil ⟨k112, k113, k114, k115, k116, k117, (congrArg vB (bifT c144).symm)⟩
   ·
    refine FD.skip (wN c144) rfl ?_; refine FD.v (fun _ z => (E.pickF rfl c144 rfl)) ?_; exact FD.nil ⟨k112, k113, k114, k115, k116, k117, (congrArg vB (bifF c144).symm)⟩
  rintro f143 ⟨k145, k146, k147, k148, k149, k150, k151⟩; refine FD.v (fun _ z => (E.move k151)) ?_; refine FD.cut 2 (fun f => f 0 = vP (q0P) ∧ f 8 = vP (⟨b31, 0, none⟩) ∧ f 9 = v48 ∧ f 10 = vB r42.2 ∧ f 11 = v58 ∧ f 82 = vB (bif (bif (x27.kind == 2) then r42.2 else false) then r52.2 else false)) ?_ ?_
  ·
   rcases bcase (bif (x27.kind == 2) then r42.2 else false) with c158 | c158
   ·
    refine FD.y (wY c158) (fun _ z => (E.move k150)) ?_; refine FD.v (fun _ z => (E.pickT rfl c158 rfl)) ?_; exact FD.nil ⟨k145, k146, k147, k148, k149, (congrArg vB (bifT c158).symm)⟩
   ·
    refine FD.skip (wN c158) rfl ?_; refine FD.v (fun _ z => (E.pickF rfl c158 rfl)) ?_; exact FD.nil ⟨k145, k146, k147, k148, k149, (congrArg vB (bifF c158).symm)⟩
  rintro f157 ⟨k159, k160, k161, k162, k163, k164⟩; refine FD.v (fun _ z => (E.move k164)) ?_; refine FD.cut 10 (fun f => f 0 = vP (q0P) ∧ f 8 = vP (⟨b31, 0, none⟩) ∧ f 9 = v48 ∧ f 10 = vB r42.2 ∧ f 11 = v58 ∧ f 93 = vB (bif (bif (bif (x27.kind == 2) then r42.2 else false) then r52.2 else false) then (PF.impl_within x27.x 0 (wr (a0.ring.p - 1))) else false)) ?_ ?_
  ·
   rcases bcase (bif (bif (x27.kind == 2) then r42.2 else false) then r52.2 else false) with c171 | c171
   ·
    refine FD.y (wY c171) (fun _ z => (E.fieldAddr tf90_4 k160)) ?_; refine FD.y (wY c171) (fun _ z => (E.load rfl (run_load1 isAgg3 ((at41.mono (r47.run.inc.tr r57.run.inc)).now (S120.call z).sl) rfl))) ?_; refine FD.y (wY c171) (fun _ z => (E.move k159)) ?_; refine FD.y (wY c171) (fun _ z => (E.nilCheck rfl)) ?_; refine FD.y (wY c171) (fun _ z => (E.fieldAddr tf105_0 rfl)) ?_; refine FD.y (wY c171) (fun _ z => (E.fieldAddrN tf102_0 rfl rfl)) ?_; refine FD.y (wY c171) (fun _ z => (E.load rfl (run_load1 isAgg3 ((c0P.mono ((i40.tr r47.run.inc).tr r57.run.inc)).now (S120.call z).sl) rfl))) ?_; refine FD.y (wY c171) (fun _ z => (E.sub rfl rfl)) ?_; refine FD.call (wY c171) rfl rfl (fun _ z => (E.call call162 (A3 rfl rfl rfl))) (fun _ z => Calls.cls z (w_impl_within (S120.call z).sl x27.x 0 (wr (a0.ring.p - 1)))) ?_; refine FD.v (fun _ z => (E.pickT rfl c171 rfl)) ?_; exact FD.nil ⟨k159, k160, k161, k162, k163, (congrArg vB (bifT c171).symm)⟩
   ·
    refine FD.skip (wN c171) rfl ?_; refine FD.skip (wN c171) rfl ?_; refine FD.skip (wN c171) rfl ?_; refine FD.skip (wN c171) rfl ?_; refine FD.skip (wN c171) rfl ?_; refine FD.skip (wN c171) rfl ?_; refine FD.skip (wN c171) rfl ?_; refine FD.skip (wN c171) rfl ?_; refine FD.skip (wN c171) rfl ?_; refine FD.v (fun _ z => (E.pickF rfl c171 rfl)) ?_; exact FD.nil ⟨k159, k160, k161, k162, k163, (congrArg vB (bifF c171).symm)⟩
  rintro f170 ⟨k172, k173, k174, k175, k176, k177⟩; refine FD.v (fun _ z => (E.move k177)) ?_; refine FD.cut 10 (fun f => f 0 = vP (q0P) ∧ f 8 = vP (⟨b31, 0, none⟩) ∧ f 9 = v48 ∧ f 10 = vB r42.2 ∧ f 11 = v58 ∧ f 104 = vB (bif (bif (bif (bif (x27.kind == 2) then r42.2 else false) then r52.2 else false) then (PF.impl_within x27.x 0 (wr (a0.ring.p - 1))) else false) then (PF.impl_within x27.y 0 (wr (a0.ring.p - 1))) else false)) ?_ ?_
  ·
   rcases bcase (bif (bif (bif (x27.kind == 2) then r42.2 else false) then r52.2 else false) then (PF.impl_within x27.x 0 (wr (a0.ring.p - 1))) else false) with c184 | c184
   ·
    refine FD.y (wY c184) (fun _ z => (E.fieldAddr tf90_5 k173)) ?_; refine FD.y (wY c184) (fun _ z => (E.load rfl (run_load1 isAgg3 ((at41.mono (r47.run.inc.tr r57.run.inc)).now (S120.call z).sl) rfl))) ?_; refine FD.y (wY c184) (fun _ z => (E.move k172)) ?_; refine FD.y (wY c184) (fun _ z => (E.nilCheck rfl)) ?_; refine FD.y (wY c184) (fun _ z => (E.fieldAddr tf105_0 rfl)) ?_; refine FD.y (wY c184) (fun _ z => (E.fieldAddrN tf102_0 rfl rfl)) ?_; refine FD.y (wY c184) (fun _ z => (E.load rfl (run_load1 isAgg3 ((c0P.mono ((i40.tr r47.run.inc).tr r57.run.inc)).now (S120.call z).sl) rfl))) ?_; refine FD.y (wY c184) (fun _ z => (E.sub rfl rfl)) ?_; refine FD.call (wY c184) rfl rfl (fun _ z => (E.call call162 (A3 rfl rfl rfl))) (fun _ z => Calls.cls z (w_impl_within (S120.call z).sl x27.y 0 (wr (a0.ring.p - 1)))) ?_; refine FD.v (fun _ z => (E.pickT rfl c184 rfl)) ?_; exact FD.nil ⟨k172, k173, k174, k175, k176, (congrArg vB (bifT c184).symm)⟩
   ·
    refine FD.skip (wN c184) rfl ?_; refine FD.skip (wN c184) rfl ?_; refine FD.skip (wN c184) rfl ?_; refine FD.skip (wN c184) rfl ?_; refine FD.skip (wN c184) rfl ?_; refine FD.skip (wN c184) rfl ?_; refine FD.skip (wN c184) rfl ?_; refine FD.skip (wN c184) rfl ?_; refine FD.skip (wN c184) rfl ?_; refine FD.v (fun _ z => (E.pickF rfl c184 rfl)) ?_; exact FD.nil ⟨k172, k173, k174, k175, k176, (congrArg vB (bifF c184).symm)⟩
  rintro f183 ⟨k185, k186, k187, k188, k189, k190⟩; refine FD.v (fun _ z => (E.assign k190)) ?_; refine FD.nil ?_; intro w191 r193; have S192 := S120.call r193; rcases ifB hp with ⟨c194, hp⟩ | ⟨c194, hp⟩
  ·
   refine FW.condT rfl c194 ?_; refine FW.seq ?_; obtain ⟨r62, hr63, hp⟩ := bnd hp; obtain ⟨r123, hr137, hp⟩ := bnd hp; obtain ⟨r198, hr199, hp⟩ := bnd hp; refine FW.drawB (Sl H54) (fun f w => ∃ H : GH, ∃ v210 : Value, ∃ n211 : Nat, ∃ cs212 : List Value, St Ha wa H w [.row 3 1 v210 n211 cs212] ∧ Inc H54 H ∧ Els (up wa.heap.size H) eI 1 cs212 r198 ∧ f 6 = v210 ∧ f 7 = vB true) (by kernel_rfl) S192.sl ?_ ?_
   ·
    intro w195 r196; have S197 := S192.call r196; refine FB.T 0 23 1 rfl S197.sl rfl (fun _ z => (E.move k185)) ?_; refine FB.T 1 23 3 rfl S197.sl rfl (fun _ z => (E.nilCheck rfl)) ?_; refine FB.T 2 23 7 rfl S197.sl rfl (fun _ z => (E.fieldAddr tf105_0 rfl)) ?_; refine FB.T 3 23 15 rfl S197.sl rfl (fun _ z => (E.load rfl (run_loadA isAgg102 sizeOf102 (((c0P.mono ((i40.tr r47.run.inc).tr r57.run.inc)).now z).sub (j := 0) (n := 2) (c := [vI a0.ring.p, vI a0.ring.vars]) rfl) rfl))) ?_; refine FB.T 4 23 31 rfl S197.sl rfl (fun _ z => (E.move k185)) ?_; refine FB.T 5 23 63 rfl S197.sl rfl (fun _ z => (E.nilCheck rfl)) ?_; refine FB.T 6 23 127 rfl S197.sl rfl (fun _ z => (E.fieldAddr tf105_0 rfl)) ?_; refine FB.T 7 23 255 rfl S197.sl rfl (fun _ z => (E.load rfl (run_loadA isAgg102 sizeOf102 (((c0P.mono ((i40.tr r47.run.inc).tr r57.run.inc)).now z).sub (j := 0) (n := 2) (c := [vI a0.ring.p, vI a0.ring.vars]) rfl) rfl))) ?_; refine FB.T 8 23 511 rfl S197.sl rfl (fun _ z => (E.move k185)) ?_; refine FB.T 9 23 1023 rfl S197.sl rfl (fun _ z => (E.nilCheck rfl)) ?_; refine FB.T 10 23 2047 rfl S197.sl rfl (fun _ z => (E.fieldAddr tf105_0 rfl)) ?_; refine FB.T 11 23 4095 rfl S197.sl rfl (fun _ z => (E.load rfl (run_loadA isAgg102 sizeOf102 (((c0P.mono ((i40.tr r47.run.inc).tr r57.run.inc)).now z).sub (j := 0) (n := 2) (c := [vI a0.ring.p, vI a0.ring.vars]) rfl) rfl))) ?_; refine FB.T 13 23 12287 rfl S197.sl rfl (fun _ z => (E.move k187)) ?_; refine FB.T 14 23 28671 rfl S197.sl rfl (fun _ z => (E.fieldAddr tf90_4 k186)) ?_; refine FB.T 15 23 61439 rfl S197.sl rfl (fun _ z => (E.load rfl (run_load1 isAgg3 ((at41.mono (r47.run.inc.tr r57.run.inc)).now z) rfl))) ?_; refine FB.T 17 23 192511 rfl S197.sl rfl (fun _ z => (E.move k189)) ?_; refine FB.T 18 23 454655 rfl S197.sl rfl (fun _ z => (E.fieldAddr tf90_5 k186)) ?_; refine FB.T 19 23 978943 rfl S197.sl rfl (fun _ z => (E.load rfl (run_load1 isAgg3 ((at41.mono (r47.run.inc.tr r57.run.inc)).now z) rfl))) ?_; refine FB.all1 (i := 12) (by kernel_rfl) ?_
    ·
     refine FC.call (l' := (bs 23 983039)) rfl (by kernel_rfl) rfl rfl rfl (E.call call165 (A1 rfl)) (w_impl_ring_zero S197.sl a0.ring hr63) ?_; rintro e w65 ⟨H64, v77, n78, cs79, rfl, r67, els80⟩; refine ⟨_, rfl, ?_⟩; have els80 := els80.mono (up_le S197.size); have S66 := S197.join (l' := [.row 3 1 v77 n78 cs79, .row 3 1 v58 n59 cs60, .row 3 1 v48 n49 cs50]) r67 rfl; refine ⟨(SP.nil (Sl.of_inc r67.run.inc S66.sl)), ?_⟩; refine FB.all1 (i := 16) (by kernel_rfl) ?_
     ·
      obtain ⟨H81, S91, i92, h93, nv94⟩ := S66.sealRowU (i := 0) (l' := [.row 3 1 v58 n59 cs60, .row 3 1 v48 n49 cs50]) rfl els80 (by decide) rfl; obtain ⟨H95, S106, i107, h108, nv109⟩ := S91.sealRowU (i := 1) (l' := [.row 3 1 v58 n59 cs60]) rfl (els51.mono (up_mono ((r57.run.inc.tr r67.run.inc).tr i92))) (by decide) rfl; refine FC.call (l' := (bs 23 1048575)) rfl (by kernel_rfl) rfl rfl rfl (E.call call164 (A4 rfl rfl rfl rfl)) (w_impl_ring_plus S106.sl a0.ring v77 r62 (h93.mono (upI.tr i107)) v48 r42.1 (h108.mono upI) x27.x hr137) ?_; rintro e w139 ⟨H138, v153, n154, cs155, rfl, r141, els156⟩; refine ⟨_, rfl, ?_⟩; obtain ⟨H142, r141, hU152⟩ := St.lendX (i92.tr i107) S66.sl r141; have els156 := els156.mono (hU152.tr (up_le S66.size)); have S140 := S66.join (l' := [.row 3 1 v153 n154 cs155, .row 3 1 v77 n78 cs79, .row 3 1 v58 n59 cs60, .row 3 1 v48 n49 cs50]) r141 rfl; refine ⟨(SP.nil (Sl.of_inc (r67.run.inc.tr r141.run.inc) S140.sl)), ?_⟩; refine FB.all1 (i := 20) (by kernel_rfl) ?_
      ·
       obtain ⟨H165, S166, i167, h168, nv169⟩ := S140.sealRowU (i := 0) (l' := [.row 3 1 v77 n78 cs79, .row 3 1 v58 n59 cs60, .row 3 1 v48 n49 cs50]) rfl els156 (by decide) rfl; obtain ⟨H178, S179, i180, h181, nv182⟩ := S166.sealRowU (i := 1) (l' := [.row 3 1 v77 n78 cs79, .row 3 1 v48 n49 cs50]) rfl (els61.mono (up_mono ((r67.run.inc.tr r141.run.inc).tr i167))) (by decide) rfl; refine FC.call (l' := (bs 23 2097151)) rfl (by kernel_rfl) rfl rfl rfl (E.call call164 (A4 rfl rfl rfl rfl)) (w_impl_ring_plus S179.sl a0.ring v153 r123 (h168.mono (upI.tr i180)) v58 r52.1 (h181.mono upI) x27.y hr199) ?_; rintro e w201 ⟨H200, v206, n207, cs208, rfl, r203, els209⟩; refine ⟨_, rfl, ?_⟩; obtain ⟨H204, r203, hU205⟩ := St.lendX (i167.tr i180) S140.sl r203; have els209 := els209.mono (hU205.tr (up_le S140.size)); have S202 := S140.join (l' := [.row 3 1 v206 n207 cs208, .row 3 1 v153 n154 cs155, .row 3 1 v77 n78 cs79, .row 3 1 v58 n59 cs60, .row 3 1 v48 n49 cs50]) r203 rfl; refine ⟨(SP.nil (Sl.of_inc ((r67.run.inc.tr r141.run.inc).tr r203.run.inc) S202.sl)), ?_⟩; refine FB.T 21 23 4194303 rfl (Sl.of_inc ((r67.run.inc.tr r141.run.inc).tr r203.run.inc) S202.sl) rfl (fun _ z => (E.assign (v := v206) rfl)) ?_; refine FB.T 22 23 8388607 rfl (Sl.of_inc ((r67.run.inc.tr r141.run.inc).tr r203.run.inc) S202.sl) rfl (fun _ z => (E.assign (v := vB true) rfl)) ?_; exact FB.done (by kernel_rfl) ⟨_, _, _, _, (S202.sel [0] (by decide) rfl), ((r67.run.inc.tr r141.run.inc).tr r203.run.inc), els209, rfl, rfl⟩
   ·
    rintro f218 w217 ⟨H214, v210, n211, cs212, S215, i216, els213, k219, k220⟩; refine FW.ret ?_; obtain ⟨H221, S222, i223, h224, nv225⟩ := S215.sealRowU (i := 0) (l' := []) rfl els213 (by decide) rfl; cases hp; exact ⟨.inr rfl, res2 rfl k219 k220 ⟨_, _, rfl, S222.run, (h224.mono upI)⟩⟩
  ·
   refine FW.condF rfl c194 ?_; refine FW.seq ?_; refine FW.draw (fun w' => Run w191.heap.size H54 w191 H54 w') (by kernel_rfl) (by kernel_rfl) (run_drew S192.sl) ?_; refine FD.v (fun _ z => (E.fieldAddr tf90_0 k186)) ?_; refine FD.v (fun _ z => (E.load rfl (run_load1 isAgg3 ((at41.mono (r47.run.inc.tr r57.run.inc)).now (S192.call z).sl) rfl))) ?_; refine FD.v (fun _ z => (E.eql rfl rfl)) ?_; refine FD.v (fun _ z => (E.move (v := vB (x27.kind == 3)) rfl)) ?_; refine FD.cut 2 (fun f => f 0 = vP (q0P) ∧ f 8 = vP (⟨b31, 0, none⟩) ∧ f 9 = v48 ∧ f 132 = vB (bif (x27.kind == 3) then r42.2 else false)) ?_ ?_
   ·
    rcases bcase (x27.kind == 3) with c227 | c227
    ·
     refine FD.y (wY c227) (fun _ z => (E.move k188)) ?_; refine FD.v (fun _ z => (E.pickT rfl c227 rfl)) ?_; exact FD.nil ⟨k185, k186, k187, (congrArg vB (bifT c227).symm)⟩
    ·
     refine FD.skip (wN c227) rfl ?_; refine FD.v (fun _ z => (E.pickF rfl c227 rfl)) ?_; exact FD.nil ⟨k185, k186, k187, (congrArg vB (bifF c227).symm)⟩
   rintro f226 ⟨k228, k229, k230, k231⟩; refine FD.v (fun _ z => (E.move k231)) ?_; refine FD.cut 4 (fun f => f 0 = vP (q0P) ∧ f 8 = vP (⟨b31, 0, none⟩) ∧ f 9 = v48 ∧ f 137 = vB (bif (bif (x27.kind == 3) then r42.2 else false) then (x27.b == 0) else false)) ?_ ?_
   ·
    rcases bcase (bif (x27.kind == 3) then r42.2 else false) with c233 | c233
    ·
     refine FD.y (wY c233) (fun _ z => (E.fieldAddr tf90_3 k229)) ?_; refine FD.y (wY c233) (fun _ z => (E.load rfl (run_load1 isAgg3 ((at41.mono (r47.run.inc.tr r57.run.inc)).now (S192.call z).sl) rfl))) ?_; refine FD.y (wY c233) (fun _ z => (E.eql rfl rfl)) ?_; refine FD.v (fun _ z => (E.pickT rfl c233 rfl)) ?_; exact FD.nil ⟨k228, k229, k230, (congrArg vB (bifT c233).symm)⟩
    ·
     refine FD.skip (wN c233) rfl ?_; refine FD.skip (wN c233) rfl ?_; refine FD.skip (wN c233) rfl ?_; refine FD.v (fun _ z => (E.pickF rfl c233 rfl)) ?_; exact FD.nil ⟨k228, k229, k230, (congrArg vB (bifF c233).symm)⟩
   rintro f232 ⟨k234, k235, k236, k237⟩; refine FD.v (fun _ z => (E.move k237)) ?_; refine FD.cut 9 (fun f => f 0 = vP (q0P) ∧ f 8 = vP (⟨b31, 0, none⟩) ∧ f 9 = v48 ∧ f 147 = vB (bif (bif (bif (x27.kind == 3) then r42.2 else false) then (x27.b == 0) else false) then (PF.impl_isVar a0.ring.vars x27.x) else false)) ?_ ?_
   ·
    rcases bcase (bif (bif (x27.kind == 3) then r42.2 else false) then (x27.b == 0) else false) with c239 | c239
    ·
     refine FD.y (wY c239) (fun _ z => (E.move k234)) ?_; refine FD.y (wY c239) (fun _ z => (E.nilCheck rfl)) ?_; refine FD.y (wY c239) (fun _ z => (E.fieldAddr tf105_0 rfl)) ?_; refine FD.y (wY c239) (fun _ z => (E.fieldAddrN tf102_1 rfl rfl)) ?_; refine FD.y (wY c239) (fun _ z => (E.load rfl (run_load1 isAgg3 ((c0P.mono ((i40.tr r47.run.inc).tr r57.run.inc)).now (S192.call z).sl) rfl))) ?_; refine FD.y (wY c239) (fun _ z => (E.fieldAddr tf90_4 k235)) ?_; refine FD.y (wY c239) (fun _ z => (E.load rfl (run_load1 isAgg3 ((at41.mono (r47.run.inc.tr r57.run.inc)).now (S192.call z).sl) rfl))) ?_; refine FD.call (wY c239) rfl rfl (fun _ z => (E.call call233 (A2 rfl rfl))) (fun _ z => Calls.cls z (w_impl_isVar (S192.call z).sl a0.ring.vars x27.x)) ?_; refine FD.v (fun _ z => (E.pickT rfl c239 rfl)) ?_; exact FD.nil ⟨k234, k235, k236, (congrArg vB (bifT c239).symm)⟩
    ·
     refine FD.skip (wN c239) rfl ?_; refine FD.skip (wN c239) rfl ?_; refine FD.skip (wN c239) rfl ?_; refine FD.skip (wN c239) rfl ?_; refine FD.skip (wN c239) rfl ?_; refine FD.skip (wN c239) rfl ?_; refine FD.skip (wN c239) rfl ?_; refine FD.skip (wN c239) rfl ?_; refine FD.v (fun _ z => (E.pickF rfl c239 rfl)) ?_; exact FD.nil ⟨k234, k235, k236, (congrArg vB (bifF c239).symm)⟩
   rintro f238 ⟨k240, k241, k242, k243⟩; refine FD.v (fun _ z => (E.move k243)) ?_; refine FD.cut 4 (fun f => f 0 = vP (q0P) ∧ f 8 = vP (⟨b31, 0, none⟩) ∧ f 9 = v48 ∧ f 152 = vB (bif (bif (bif (bif (x27.kind == 3) then r42.2 else false) then (x27.b == 0) else false) then (PF.impl_isVar a0.ring.vars x27.x) else false) then (x27.y == 0) else false)) ?_ ?_
   ·
    rcases bcase (bif (bif (bif (x27.kind == 3) then r42.2 else false) then (x27.b == 0) else false) then (PF.impl_isVar a0.ring.vars x27.x) else false) with c245 | c245
    ·
     refine FD.y (wY c245) (fun _ z => (E.fieldAddr tf90_5 k241)) ?_; refine FD.y (wY c245) (fun _ z => (E.load rfl (run_load1 isAgg3 ((at41.mono (r47.run.inc.tr r57.run.inc)).now (S192.call z).sl) rfl))) ?_; refine FD.y (wY c245) (fun _ z => (E.eql rfl rfl)) ?_; refine FD.v (fun _ z => (E.pickT rfl c245 rfl)) ?_; exact FD.nil ⟨k240, k241, k242, (congrArg vB (bifT c245).symm)⟩
    ·
     refine FD.skip (wN c245) rfl ?_; refine FD.skip (wN c245) rfl ?_; refine FD.skip (wN c245) rfl ?_; refine FD.v (fun _ z => (E.pickF rfl c245 rfl)) ?_; exact FD.nil ⟨k240, k241, k242, (congrArg vB (bifF c245).symm)⟩
   rintro f244 ⟨k246, k247, k248, k249⟩; refine FD.v (fun _ z => (E.assign k249)) ?_; refine FD.nil ?_; intro w250 r252; have S251 := S192.call r252; rcases ifB hp with ⟨c253, hp⟩ | ⟨c253, hp⟩
   ·
    refine FW.condT rfl c253 ?_; refine FW.seq ?_; obtain ⟨r257, hr258, hp⟩ := bnd hp; obtain ⟨r277, hr278, hp⟩ := bnd hp; refine FW.drawB (Sl H54) (fun f w => ∃ H : GH, ∃ v289 : Value, ∃ n290 : Nat, ∃ cs291 : List Value, St Ha wa H w [.row 3 1 v289 n290 cs291] ∧ Inc H54 H ∧ Els (up wa.heap.size H) eI 1 cs291 r277 ∧ f 6 = v289 ∧ f 7 = vB true) (by kernel_rfl) S251.sl ?_ ?_
    ·
     intro w254 r255; have S256 := S251.call r255; refine FB.T 0 15 1 rfl S256.sl rfl (fun _ z => (E.move k246)) ?_; refine FB.T 1 15 3 rfl S256.sl rfl (fun _ z => (E.nilCheck rfl)) ?_; refine FB.T 2 15 7 rfl S256.sl rfl (fun _ z => (E.fieldAddr tf105_0 rfl)) ?_; refine FB.T 3 15 15 rfl S256.sl rfl (fun _ z => (E.load rfl (run_loadA isAgg102 sizeOf102 (((c0P.mono ((i40.tr r47.run.inc).tr r57.run.inc)).now z).sub (j := 0) (n := 2) (c := [vI a0.ring.p, vI a0.ring.vars]) rfl) rfl))) ?_; refine FB.T 4 15 31 rfl S256.sl rfl (fun _ z => (E.move k248)) ?_; refine FB.T 5 15 63 rfl S256.sl rfl (fun _ z => (E.move k246)) ?_; refine FB.T 6 15 127 rfl S256.sl rfl (fun _ z => (E.nilCheck rfl)) ?_; refine FB.T 7 15 255 rfl S256.sl rfl (fun _ z => (E.fieldAddr tf105_0 rfl)) ?_; refine FB.T 8 15 511 rfl S256.sl rfl (fun _ z => (E.load rfl (run_loadA isAgg102 sizeOf102 (((c0P.mono ((i40.tr r47.run.inc).tr r57.run.inc)).now z).sub (j := 0) (n := 2) (c := [vI a0.ring.p, vI a0.ring.vars]) rfl) rfl))) ?_; refine FB.T 9 15 1023 rfl S256.sl rfl (fun _ z => (E.fieldAddr tf90_4 k247)) ?_; refine FB.T 10 15 2047 rfl S256.sl rfl (fun _ z => (E.load rfl (run_load1 isAgg3 ((at41.mono (r47.run.inc.tr r57.run.inc)).now z) rfl))) ?_; refine FB.all1 (i := 11) (by kernel_rfl) ?_
     ·
      refine FC.call (l' := (bs 15 4095)) rfl (by kernel_rfl) rfl rfl rfl (E.call call125 (A2 rfl rfl)) (w_impl_ring_literal S256.sl a0.ring x27.x hr258) ?_; rintro e w260 ⟨H259, v263, n264, cs265, rfl, r262, els266⟩; refine ⟨_, rfl, ?_⟩; have els266 := els266.mono (up_le S256.size); have S261 := S256.join (l' := [.row 3 1 v263 n264 cs265, .row 3 1 v58 n59 cs60, .row 3 1 v48 n49 cs50]) r262 rfl; refine ⟨(SP.nil (Sl.of_inc r262.run.inc S261.sl)), ?_⟩; refine FB.all1 (i := 12) (by kernel_rfl) ?_
      ·
       obtain ⟨H267, S268, i269, h270, nv271⟩ := S261.sealRowU (i := 2) (l' := [.row 3 1 v263 n264 cs265, .row 3 1 v58 n59 cs60]) rfl (els51.mono (up_mono (r57.run.inc.tr r262.run.inc))) (by decide) rfl; obtain ⟨H272, S273, i274, h275, nv276⟩ := S268.sealRowU (i := 0) (l' := [.row 3 1 v58 n59 cs60]) rfl (els266.mono (up_mono i269)) (by decide) rfl; refine FC.call (l' := (bs 15 8191)) rfl (by kernel_rfl) rfl rfl rfl (E.call call124 (A3 rfl rfl rfl)) (w_impl_ring_times S273.sl a0.ring v48 r42.1 (h270.mono (upI.tr i274)) v263 r257 (h275.mono upI) hr278) ?_; rintro e w280 ⟨H279, v285, n286, cs287, rfl, r282, els288⟩; refine ⟨_, rfl, ?_⟩; obtain ⟨H283, r282, hU284⟩ := St.lendX (i269.tr i274) S261.sl r282; have els288 := els288.mono (hU284.tr (up_le S261.size)); have S281 := S261.join (l' := [.row 3 1 v285 n286 cs287, .row 3 1 v263 n264 cs265, .row 3 1 v58 n59 cs60, .row 3 1 v48 n49 cs50]) r282 rfl; refine ⟨(SP.nil (Sl.of_inc (r262.run.inc.tr r282.run.inc) S281.sl)), ?_⟩; refine FB.T 13 15 16383 rfl (Sl.of_inc (r262.run.inc.tr r282.run.inc) S281.sl) rfl (fun _ z => (E.assign (v := v285) rfl)) ?_; refine FB.T 14 15 32767 rfl (Sl.of_inc (r262.run.inc.tr r282.run.inc) S281.sl) rfl (fun _ z => (E.assign (v := vB true) rfl)) ?_; exact FB.done (by kernel_rfl) ⟨_, _, _, _, (S281.sel [0] (by decide) rfl), (r262.run.inc.tr r282.run.inc), els288, rfl, rfl⟩
    ·
     rintro f297 w296 ⟨H293, v289, n290, cs291, S294, i295, els292, k298, k299⟩; refine FW.ret ?_; obtain ⟨H300, S301, i302, h303, nv304⟩ := S294.sealRowU (i := 0) (l' := []) rfl els292 (by decide) rfl; cases hp; exact ⟨.inr rfl, res2 rfl k298 k299 ⟨_, _, rfl, S301.run, (h303.mono upI)⟩⟩
   ·
    refine FW.condF rfl c253 ?_; refine FW.skip (FW.sr ?_); refine FL.as (v := vN) rfl ?_; refine FL.as (v := vB false) rfl ?_; refine FL.nil (FW.ret ?_); cases hp; exact ⟨.inr rfl, res2 rfl rfl rfl ⟨_, _, rfl, S251.run, (RSl.nil _ _ _)⟩⟩

theorem w_slices_Equal_impl_dense_int {Ha : GH} {wa : World} (hs : Sl Ha wa) (v0 : Value) (a0 : List Int) (p0 : RSl Ha eI 1 v0 a0) (v1 : Value) (a1 : List Int) (p1 : RSl Ha eI 1 v1 a1) {r : Bool} (hp : (PF.slices_Equal_impl_dense_int a0 a1) = some r) :
  Calls prog 236 #[v0, v1] wa (Sc Ha wa (vB r)) := by
 unfold PF.slices_Equal_impl_dense_int at hp; have S0 := St.init hs; refine calls_go (N := 26) (args := [v0, v1]) func236 rfl rfl rfl ?_; refine FW.sr ?_; refine FL.as (v := vB false) rfl ?_; refine FL.nil (FW.seq (FW.sr ?_)); refine FL.mv (v := v0) rfl ?_; refine FL.v (E.lenP te99 rfl p0) ?_; refine FL.mv (v := v1) rfl ?_; refine FL.v (E.lenP te99 rfl p1) ?_; refine FL.v (E.neq rfl rfl) ?_; refine FL.nil ?_; rcases ifB hp with ⟨c21, hp⟩ | ⟨c21, hp⟩
 ·
  refine FW.condT rfl c21 ?_; refine FW.sr ?_; refine FL.as (v := vB false) rfl ?_; refine FL.nil (FW.ret ?_); cases hp; exact ⟨.inr rfl, res1 rfl rfl ⟨rfl, S0.back⟩⟩
 ·
  refine FW.condF rfl c21 ?_; refine FW.skip (FW.seq (FW.sr ?_)); refine FL.mv (v := v0) rfl ?_; refine FL.v (E.lenP te99 rfl p0) ?_; refine FL.mv (v := vI 0) rfl ?_; refine FL.nil ?_; obtain ⟨q23, hq, hp⟩ := bndR hp; refine FW.block ?_; refine FW.mono (FW.forL (S := Unit) (X := Bool) (fun (i23 : Nat) (s23 : Unit) f w => ∃ H : GH, St Ha wa H w [] ∧ Inc Ha H ∧ f 13 = vI ((i23 : Nat) : Int) ∧ f 0 = v0 ∧ f 1 = v1 ∧ f 12 = vI (len a0)) (fun q e f w => match q with | .go s23 => e = Exit.exit 0 ∧ (∃ H : GH, St Ha wa H w [] ∧ Inc Ha H) | .rt x => ((e = Exit.ret) ∧ (fun e f w => (e = Exit.normal ∨ e = Exit.ret) ∧ ∀ a, Fr (δ := []) 26 a f → ∃ v, (results Tryz.f236 a.tmps).run prog w = .ok v w ∧ (Sc Ha wa (vB x)) (.returned v) w) e f w)) hq ⟨_, S0, I0, rfl, rfl, rfl, rfl⟩ ?_ ?_) ?_
  ·
   clear hp hq; rintro i23 y22 s23 f56 w55 ⟨H52, S53, i54, k57, k58, k59, k60⟩ hx23 o80 hp; refine FW.sr ?_; refine FL.v (E.lssT k57 k60 (lss_len hx23)) ?_; refine FL.nil (FW.seq ?_); refine FW.condT rfl rfl ?_; refine FW.skip (FW.seq (FW.block (FW.sr ?_))); refine FL.mv k57 ?_; refine FL.as (v := vI ((i23 : Nat) : Int)) rfl ?_; refine FL.nil (FW.seq ?_); refine FW.draw (fun w' => Run w55.heap.size H52 w55 H52 w') (by kernel_rfl) (by kernel_rfl) (run_drew S53.sl) ?_; refine FD.v (fun _ z => (E.move k58)) ?_; refine FD.v (fun _ z => (E.move (v := vI ((i23 : Nat) : Int)) rfl)) ?_; obtain ⟨p62, cs63, pt64, l65, at66, rel67⟩ := p0.at (ix_nat hx23); obtain rfl := eI_open rel67; refine FD.v (fun _ z => (E.indexAddr te99 rfl rfl pt64)) ?_; refine FD.v (fun _ z => (E.load rfl (run_load0 isAgg3 ((at66.mono i54).now (S53.call z).sl) rfl))) ?_; refine FD.v (fun _ z => (E.move k59)) ?_; refine FD.v (fun _ z => (E.move (v := vI ((i23 : Nat) : Int)) rfl)) ?_; obtain ⟨x74, hx75, hp⟩ := bnd hp; obtain ⟨p68, cs69, pt70, l71, at72, rel73⟩ := p1.at hx75; obtain rfl := eI_open rel73; refine FD.v (fun _ z => (E.indexAddr te99 rfl rfl pt70)) ?_; refine FD.v (fun _ z => (E.load rfl (run_load0 isAgg3 ((at72.mono i54).now (S53.call z).sl) rfl))) ?_; refine FD.v (fun _ z => (E.neq rfl rfl)) ?_; refine FD.nil ?_; intro w76 r78; have S77 := S53.call r78; rcases ifB hp with ⟨c79, hp⟩ | ⟨c79, hp⟩
   ·
    refine FW.condT rfl c79 ?_; refine FW.sr ?_; refine FL.as (v := vB false) rfl ?_; refine FL.nil (FW.ret ?_); cases hp; exact ⟨nofun, rfl, ⟨.inr rfl, res1 rfl rfl ⟨rfl, S77.back⟩⟩⟩
   ·
    refine FW.condF rfl c79 ?_; refine FW.skip (FW.region ?_); refine FL.v (E.add k57 rfl) ?_; refine FL.mv (v := vI (wr (((i23 : Nat) : Int) + 1))) rfl ?_; refine FL.nil ?_; cases hp; exact ⟨rfl, ⟨_, S77, i54, (nat_succ rfl (lt_of_get hx23) (p0.mono i54).le), k58, k59, k60⟩⟩
  ·
   clear hp hq; rintro s23 f90 w89 ⟨H86, S87, i88, k91, k92, k93, k94⟩; refine FW.sr ?_; refine FL.v (E.lss k91 k94) ?_; refine FL.nil (FW.seq ?_); refine FW.condF rfl dlt_len ?_; refine FW.exit ?_; exact ⟨nofun, rfl, ⟨_, S87, i88⟩⟩
  ·
   clear hq; intro e f85 w84 hD; rcases q23 with s23 | x23
   ·
    obtain ⟨rfl, hD⟩ := hD; obtain ⟨H81, S82, i83⟩ := hD; replace hp := el_go hp; refine FW.sr ?_; refine FL.as (v := vB true) rfl ?_; refine FL.nil (FW.ret ?_); cases hp; exact ⟨.inr rfl, res1 rfl rfl ⟨rfl, S82.back⟩⟩
   ·
    obtain ⟨he, hL⟩ := hD; replace hp := el_rt hp; cases hp; subst he; exact hL

theorem w_impl_algebra_pcCorrect {Ha : GH} {wa : World} (hs : Sl Ha wa) (q0P : Addr) (a0 : algebra) (v0P_3 : Value) (v0P_4 : Value) (p0P_3 : RSl Ha (eL eI 1) 1 v0P_3 a0.f.clauses) (p0P_4 : RSl Ha (eL eI 1) 1 v0P_4 a0.q) (c0P : CAt Ha q0P [vI a0.ring.p, vI a0.ring.vars, vI a0.f.vars, v0P_3, v0P_4]) (v1 : Value) (a1 : List PcStep) (p1 : RSl Ha ePcStep 6 v1 a1) (a2 : Int) {r : Bool} (hp : (PF.impl_algebra_pcCorrect a0 a1 a2) = some r) :
  Calls prog 183 #[vP (q0P), v1, vI a2] wa (Sc Ha wa (vB r)) := by
 unfold PF.impl_algebra_pcCorrect at hp; have S0 := St.init hs; refine calls_go (N := 43) (args := [vP (q0P), v1, vI a2]) func183 rfl rfl rfl ?_; refine FW.sr ?_; refine FL.as (v := vB false) rfl ?_; refine FL.nil (FW.sr ?_); refine FL.mv (v := vP (q0P)) rfl ?_; refine FL.mv (v := v1) rfl ?_; refine FL.mv (v := vI a2) rfl ?_; obtain ⟨r21, hr22, hp⟩ := bnd hp; refine FL.c (E.call call235 (A3 rfl rfl rfl)) (w_impl_algebra_pcDue S0.sl q0P a0 v0P_3 v0P_4 p0P_3 p0P_4 c0P v1 a1 p1 a2 hr22) ?_; rintro e w24 ⟨H23, v27, rfl, r26, h28⟩; refine ⟨_, rfl, ?_⟩; have S25 := S0.call r26; refine FL.mv (v := Value.tuple #[v27, vB r21.2]) rfl ?_; refine FL.v (E.extract (i := 0) rfl rfl) ?_; refine FL.v (E.extract (i := 1) rfl rfl) ?_; refine FL.as (v := v27) rfl ?_; refine FL.as (v := vB r21.2) rfl ?_; refine FL.nil (FW.seq ?_); obtain ⟨t28_12, hqt28_12, hp⟩ := bnd hp; obtain ⟨t28_26, hqt28_26, hp⟩ := bnd hp; refine FW.drawB (Sl H23) (fun f w => ∃ H : GH, St Ha wa H w [] ∧ Inc H23 H ∧ f 6 = vB t28_26) (by kernel_rfl) S25.sl ?_ ?_
 ·
  intro w29 r30; have S31 := S25.call r30; refine FB.T 0 28 1 rfl S31.sl rfl (fun _ z => (E.move (v := vB r21.2) rfl)) ?_; refine FB.T 1 28 3 rfl S31.sl rfl (fun _ z => (E.move (v := vB r21.2) rfl)) ?_; rcases ifB hqt28_12 with ⟨hc28_1, hqt28_12⟩ | ⟨hc28_1, hqt28_12⟩
  ·
   obtain ⟨x39, hx40, hqt28_12⟩ := bnd hqt28_12; obtain ⟨r43, hr44, hqt28_12⟩ := bnd hqt28_12; refine FB.T 2 28 7 rfl S31.sl (wY hc28_1) (fun _ z => (E.move (v := vP (q0P)) rfl)) ?_; refine FB.T 3 28 15 rfl S31.sl (wY hc28_1) (fun _ z => (E.nilCheck rfl)) ?_; refine FB.T 4 28 31 rfl S31.sl (wY hc28_1) (fun _ z => (E.fieldAddr tf105_0 rfl)) ?_; refine FB.T 5 28 63 rfl S31.sl (wY hc28_1) (fun _ z => (E.load rfl (run_loadA isAgg102 sizeOf102 (((c0P.mono r26.inc).now z).sub (j := 0) (n := 2) (c := [vI a0.ring.p, vI a0.ring.vars]) rfl) rfl))) ?_; refine FB.T 6 28 127 rfl S31.sl (wY hc28_1) (fun _ z => (E.move (v := v1) rfl)) ?_; refine FB.T 7 28 255 rfl S31.sl (wY hc28_1) (fun _ z => (E.move (v := vI a2) rfl)) ?_; obtain ⟨p32, cs33, pt34, l35, at37, rel38⟩ := p1.at hx40; obtain ⟨v41, rfl, h42⟩ := ePcStep_open rel38; refine FB.T 8 28 511 rfl S31.sl (wY hc28_1) (fun _ z => (E.indexAddr te36 rfl rfl pt34)) ?_; refine FB.T 9 28 1023 rfl S31.sl (wY hc28_1) (fun _ z => (E.fieldAddr tf90_1 rfl)) ?_; refine FB.T 10 28 2047 rfl S31.sl (wY hc28_1) (fun _ z => (E.load rfl (run_load1 isAgg55 ((at37.mono r26.inc).now z) rfl))) ?_; refine FB.all1 (i := 11) (by kernel_rfl) ?_
   ·
    refine FC.call (l' := (bs 28 4095)) rfl (by kernel_rfl) (wF_yes rfl rfl rfl hc28_1) rfl rfl (E.call call98 (A2 rfl rfl)) (w_impl_ring_is S31.sl a0.ring v41 x39.poly (h42.mono r26.inc) hr44) ?_; rintro e w45 ⟨rfl, r46⟩; refine ⟨_, rfl, ?_⟩; have S47 := S31.call r46; refine ⟨(SP.nil S47.sl), ?_⟩; refine FB.T 12 28 8191 rfl S47.sl rfl (fun _ z => (E.asB (E.pickT rfl hc28_1 rfl) (Option.some.inj hqt28_12))) ?_; refine FB.T 13 28 16383 rfl S47.sl rfl (fun _ z => (E.move (v := vB t28_12) rfl)) ?_; rcases ifB hqt28_26 with ⟨hc28_13, hqt28_26⟩ | ⟨hc28_13, hqt28_26⟩
    ·
     obtain ⟨x54, hx55, hqt28_26⟩ := bnd hqt28_26; obtain ⟨r58, hr59, hqt28_26⟩ := bnd hqt28_26; obtain ⟨r73, hr74, hqt28_26⟩ := bnd hqt28_26; refine FB.T 14 28 32767 rfl S47.sl (wY hc28_13) (fun _ z => (E.move (v := v27) rfl)) ?_; refine FB.T 15 28 65535 rfl S47.sl (wY hc28_13) (fun _ z => (E.move (v := vP (q0P)) rfl)) ?_; refine FB.T 16 28 131071 rfl S47.sl (wY hc28_13) (fun _ z => (E.nilCheck rfl)) ?_; refine FB.T 17 28 262143 rfl S47.sl (wY hc28_13) (fun _ z => (E.fieldAddr tf105_0 rfl)) ?_; refine FB.T 18 28 524287 rfl S47.sl (wY hc28_13) (fun _ z => (E.load rfl (run_loadA isAgg102 sizeOf102 (((c0P.mono r26.inc).now z).sub (j := 0) (n := 2) (c := [vI a0.ring.p, vI a0.ring.vars]) rfl) rfl))) ?_; refine FB.T 19 28 1048575 rfl S47.sl (wY hc28_13) (fun _ z => (E.move (v := v1) rfl)) ?_; refine FB.T 20 28 2097151 rfl S47.sl (wY hc28_13) (fun _ z => (E.move (v := vI a2) rfl)) ?_; obtain ⟨p48, cs49, pt50, l51, at52, rel53⟩ := p1.at hx55; obtain ⟨v56, rfl, h57⟩ := ePcStep_open rel53; refine FB.T 21 28 4194303 rfl S47.sl (wY hc28_13) (fun _ z => (E.indexAddr te36 rfl rfl pt50)) ?_; refine FB.T 22 28 8388607 rfl S47.sl (wY hc28_13) (fun _ z => (E.fieldAddr tf90_1 rfl)) ?_; refine FB.T 23 28 16777215 rfl S47.sl (wY hc28_13) (fun _ z => (E.load rfl (run_load1 isAgg55 ((at52.mono r26.inc).now z) rfl))) ?_; refine FB.all1 (i := 24) (by kernel_rfl) ?_
     ·
      refine FC.call (l' := (bs 28 33554431)) rfl (by kernel_rfl) (wF_yes rfl rfl rfl hc28_13) rfl rfl (E.call call100 (A2 rfl rfl)) (w_impl_ring_dense S47.sl a0.ring v56 x54.poly (h57.mono r26.inc) hr59) ?_; rintro e w61 ⟨H60, v64, n65, cs66, rfl, r63, els67⟩; refine ⟨_, rfl, ?_⟩; have els67 := els67.mono (up_le S47.size); have S62 := S47.join (l' := [.row 3 1 v64 n65 cs66]) r63 rfl; refine ⟨(SP.nil (Sl.of_inc r63.run.inc S62.sl)), ?_⟩; refine FB.all1 (i := 25) (by kernel_rfl) ?_
      ·
       obtain ⟨H68, S69, i70, h71, nv72⟩ := S62.sealRowU (i := 0) (l' := []) rfl els67 (by decide) rfl; refine FC.call (l' := (bs 28 67108863)) rfl (by kernel_rfl) (wF_yes rfl rfl rfl hc28_13) rfl rfl (E.call call236 (A2 rfl rfl)) (w_slices_Equal_impl_dense_int S69.sl v27 r21.1 (h28.mono (r63.run.inc.tr i70)) v64 r58 (h71.mono upI) hr74) ?_; rintro e w75 ⟨rfl, r76⟩; refine ⟨_, rfl, ?_⟩; have r76 := Run.lend i70 S62.sl r76; have S77 := S62.call r76; refine ⟨(SP.nil (Sl.of_inc r63.run.inc S77.sl)), ?_⟩; refine FB.T 26 28 134217727 rfl (Sl.of_inc r63.run.inc S77.sl) rfl (fun _ z => (E.asB (E.pickT rfl hc28_13 rfl) (Option.some.inj hqt28_26))) ?_; refine FB.T 27 28 268435455 rfl (Sl.of_inc r63.run.inc S77.sl) rfl (fun _ z => (E.assign (v := vB t28_26) rfl)) ?_; exact FB.done (by kernel_rfl) ⟨_, (S77.sel [] (by decide) rfl), r63.run.inc, rfl⟩
    ·
     refine FB.S 14 28 32767 S47.sl hc28_13 ?_; refine FB.S 15 28 65535 S47.sl hc28_13 ?_; refine FB.S 16 28 131071 S47.sl hc28_13 ?_; refine FB.S 17 28 262143 S47.sl hc28_13 ?_; refine FB.S 18 28 524287 S47.sl hc28_13 ?_; refine FB.S 19 28 1048575 S47.sl hc28_13 ?_; refine FB.S 20 28 2097151 S47.sl hc28_13 ?_; refine FB.S 21 28 4194303 S47.sl hc28_13 ?_; refine FB.S 22 28 8388607 S47.sl hc28_13 ?_; refine FB.S 23 28 16777215 S47.sl hc28_13 ?_; refine FB.S 24 28 33554431 S47.sl hc28_13 ?_; refine FB.S 25 28 67108863 S47.sl hc28_13 ?_; refine FB.T 26 28 134217727 rfl S47.sl rfl (fun _ z => (E.asB (E.pickF rfl hc28_13 rfl) (Option.some.inj hqt28_26))) ?_; refine FB.T 27 28 268435455 rfl S47.sl rfl (fun _ z => (E.assign (v := vB t28_26) rfl)) ?_; exact FB.done (by kernel_rfl) ⟨_, S47, I0, rfl⟩
  ·
   refine FB.S 2 28 7 S31.sl hc28_1 ?_; refine FB.S 3 28 15 S31.sl hc28_1 ?_; refine FB.S 4 28 31 S31.sl hc28_1 ?_; refine FB.S 5 28 63 S31.sl hc28_1 ?_; refine FB.S 6 28 127 S31.sl hc28_1 ?_; refine FB.S 7 28 255 S31.sl hc28_1 ?_; refine FB.S 8 28 511 S31.sl hc28_1 ?_; refine FB.S 9 28 1023 S31.sl hc28_1 ?_; refine FB.S 10 28 2047 S31.sl hc28_1 ?_; refine FB.S 11 28 4095 S31.sl hc28_1 ?_; refine FB.T 12 28 8191 rfl S31.sl rfl (fun _ z => (E.asB (E.pickF rfl hc28_1 rfl) (Option.some.inj hqt28_12))) ?_; refine FB.T 13 28 16383 rfl S31.sl rfl (fun _ z => (E.move (v := vB t28_12) rfl)) ?_; have hc28_13 : t28_12 = false := (Option.some.inj hqt28_12).symm; have hqt28_26 := (bifF hc28_13).symm.trans hqt28_26; refine FB.S 14 28 32767 S31.sl hc28_13 ?_; refine FB.S 15 28 65535 S31.sl hc28_13 ?_; refine FB.S 16 28 131071 S31.sl hc28_13 ?_; refine FB.S 17 28 262143 S31.sl hc28_13 ?_; refine FB.S 18 28 524287 S31.sl hc28_13 ?_; refine FB.S 19 28 1048575 S31.sl hc28_13 ?_; refine FB.S 20 28 2097151 S31.sl hc28_13 ?_; refine FB.S 21 28 4194303 S31.sl hc28_13 ?_; refine FB.S 22 28 8388607 S31.sl hc28_13 ?_; refine FB.S 23 28 16777215 S31.sl hc28_13 ?_; refine FB.S 24 28 33554431 S31.sl hc28_13 ?_; refine FB.S 25 28 67108863 S31.sl hc28_13 ?_; refine FB.T 26 28 134217727 rfl S31.sl rfl (fun _ z => (E.asB (E.pickF rfl hc28_13 rfl) (Option.some.inj hqt28_26))) ?_; refine FB.T 27 28 268435455 rfl S31.sl rfl (fun _ z => (E.assign (v := vB t28_26) rfl)) ?_; exact FB.done (by kernel_rfl) ⟨_, S31, I0, rfl⟩
 ·
  rintro f82 w81 ⟨H78, S79, i80, k83⟩; refine FW.ret ?_; cases hp; exact ⟨.inr rfl, res1 rfl k83 ⟨rfl, S79.back⟩⟩

theorem w_impl_algebra_firstWrongPc {Ha : GH} {wa : World} (hs : Sl Ha wa) (q0P : Addr) (a0 : algebra) (v0P_3 : Value) (v0P_4 : Value) (p0P_3 : RSl Ha (eL eI 1) 1 v0P_3 a0.f.clauses) (p0P_4 : RSl Ha (eL eI 1) 1 v0P_4 a0.q) (c0P : CAt Ha q0P [vI a0.ring.p, vI a0.ring.vars, vI a0.f.vars, v0P_3, v0P_4]) (v1 : Value) (a1 : List PcStep) (p1 : RSl Ha ePcStep 6 v1 a1) {r : Int} (hp : (PF.impl_algebra_firstWrongPc a0 a1) = some r) :
  Calls prog 122 #[vP (q0P), v1] wa (Sc Ha wa (vI r)) := by
 unfold PF.impl_algebra_firstWrongPc at hp; have S0 := St.init hs; refine calls_go (N := 18) (args := [vP (q0P), v1]) func122 rfl rfl rfl ?_; refine FW.sr ?_; refine FL.as (v := vI 0) rfl ?_; refine FL.nil (FW.seq (FW.sr ?_)); refine FL.mv (v := v1) rfl ?_; refine FL.v (E.lenP te36 rfl p1) ?_; refine FL.mv (v := vI 0) rfl ?_; refine FL.nil ?_; obtain ⟨q22, hq, hp⟩ := bndR hp; refine FW.block ?_; refine FW.mono (FW.forL (S := Unit) (X := Int) (fun (i22 : Nat) (s22 : Unit) f w => ∃ H : GH, St Ha wa H w [] ∧ Inc Ha H ∧ f 8 = vI ((i22 : Nat) : Int) ∧ f 0 = vP (q0P) ∧ f 1 = v1 ∧ f 7 = vI (len a1)) (fun q e f w => match q with | .go s22 => e = Exit.exit 0 ∧ (∃ H : GH, St Ha wa H w [] ∧ Inc Ha H) | .rt x => ((e = Exit.ret) ∧ (fun e f w => (e = Exit.normal ∨ e = Exit.ret) ∧ ∀ a, Fr (δ := []) 18 a f → ∃ v, (results Tryz.f122 a.tmps).run prog w = .ok v w ∧ (Sc Ha wa (vI x)) (.returned v) w) e f w)) hq ⟨_, S0, I0, rfl, rfl, rfl, rfl⟩ ?_ ?_) ?_
 ·
  clear hp hq; rintro i22 y21 s22 f42 w41 ⟨H38, S39, i40, k43, k44, k45, k46⟩ hx22 o53 hp; refine FW.sr ?_; refine FL.v (E.lssT k43 k46 (lss_len hx22)) ?_; refine FL.nil (FW.seq ?_); refine FW.condT rfl rfl ?_; refine FW.skip (FW.seq (FW.block (FW.sr ?_))); refine FL.mv k43 ?_; refine FL.as (v := vI ((i22 : Nat) : Int)) rfl ?_; refine FL.nil (FW.sr ?_); refine FL.mv k44 ?_; refine FL.mv k45 ?_; refine FL.mv (v := vI ((i22 : Nat) : Int)) rfl ?_; obtain ⟨r47, hr48, hp⟩ := bnd hp; refine FL.c (E.call call183 (A3 rfl rfl rfl)) (w_impl_algebra_pcCorrect S39.sl q0P a0 v0P_3 v0P_4 (p0P_3.mono i40) (p0P_4.mono i40) (c0P.mono i40) v1 a1 (p1.mono i40) ((i22 : Nat) : Int) hr48) ?_; rintro e w49 ⟨rfl, r50⟩; refine ⟨_, rfl, ?_⟩; have S51 := S39.call r50; refine FL.v (E.not rfl) ?_; refine FL.nil ?_; rcases ifB hp with ⟨c52, hp⟩ | ⟨c52, hp⟩
  ·
   refine FW.condT rfl c52 ?_; refine FW.sr ?_; refine FL.mv (v := vI ((i22 : Nat) : Int)) rfl ?_; refine FL.as (v := vI ((i22 : Nat) : Int)) rfl ?_; refine FL.nil (FW.ret ?_); cases hp; exact ⟨nofun, rfl, ⟨.inr rfl, res1 rfl rfl ⟨rfl, S51.back⟩⟩⟩
  ·
   refine FW.condF rfl c52 ?_; refine FW.skip (FW.region ?_); refine FL.v (E.add k43 rfl) ?_; refine FL.mv (v := vI (wr (((i22 : Nat) : Int) + 1))) rfl ?_; refine FL.nil ?_; cases hp; exact ⟨rfl, ⟨_, S51, i40, (nat_succ rfl (lt_of_get hx22) (p1.mono i40).le), k44, k45, k46⟩⟩
 ·
  clear hp hq; rintro s22 f63 w62 ⟨H59, S60, i61, k64, k65, k66, k67⟩; refine FW.sr ?_; refine FL.v (E.lss k64 k67) ?_; refine FL.nil (FW.seq ?_); refine FW.condF rfl dlt_len ?_; refine FW.exit ?_; exact ⟨nofun, rfl, ⟨_, S60, i61⟩⟩
 ·
  clear hq; intro e f58 w57 hD; rcases q22 with s22 | x22
  ·
   obtain ⟨rfl, hD⟩ := hD; obtain ⟨H54, S55, i56⟩ := hD; replace hp := el_go hp; refine FW.sr ?_; refine FL.as (v := vI (-1)) rfl ?_; refine FL.nil (FW.ret ?_); cases hp; exact ⟨.inr rfl, res1 rfl rfl ⟨rfl, S55.back⟩⟩
  ·
   obtain ⟨he, hL⟩ := hD; replace hp := el_rt hp; cases hp; subst he; exact hL

theorem w_impl_algebra_pcDerivation {Ha : GH} {wa : World} (hs : Sl Ha wa) (q0P : Addr) (a0 : algebra) (v0P_3 : Value) (v0P_4 : Value) (p0P_3 : RSl Ha (eL eI 1) 1 v0P_3 a0.f.clauses) (p0P_4 : RSl Ha (eL eI 1) 1 v0P_4 a0.q) (c0P : CAt Ha q0P [vI a0.ring.p, vI a0.ring.vars, vI a0.f.vars, v0P_3, v0P_4]) (v1 : Value) (a1 : List PcStep) (p1 : RSl Ha ePcStep 6 v1 a1) {r : Bool} (hp : (PF.impl_algebra_pcDerivation a0 a1) = some r) :
  Calls prog 67 #[vP (q0P), v1] wa (Sc Ha wa (vB r)) := by
 unfold PF.impl_algebra_pcDerivation at hp; have S0 := St.init hs; refine calls_go (N := 14) (args := [vP (q0P), v1]) func67 rfl rfl rfl ?_; refine FW.sr ?_; refine FL.as (v := vB false) rfl ?_; refine FL.nil (FW.sr ?_); refine FL.mv (v := v1) rfl ?_; refine FL.v (E.lenP te36 rfl p1) ?_; refine FL.v (E.leq rfl rfl) ?_; refine FL.mv (v := vB (decide ((len a1) ≤ 300))) rfl ?_; obtain ⟨t26, hqt26, hp⟩ := bnd hp; refine FL.cut 5 (fun f w => ∃ H : GH, St Ha wa H w [] ∧ Inc Ha H ∧ f 13 = vB t26) ?_ ?_
 ·
  clear hp; have hp := hqt26; clear hqt26; rcases ifB hp with ⟨c32, hp⟩ | ⟨c32, hp⟩
  ·
   refine FL.y (wY c32) (E.move (v := vP (q0P)) rfl) ?_; refine FL.y (wY c32) (E.move (v := v1) rfl) ?_; obtain ⟨r33, hr34, hp⟩ := bnd hp; refine FL.call (wY c32) rfl rfl (E.call call122 (A2 rfl rfl)) (w_impl_algebra_firstWrongPc S0.sl q0P a0 v0P_3 v0P_4 p0P_3 p0P_4 c0P v1 a1 p1 hr34) ?_; rintro e w35 ⟨rfl, r36⟩; refine ⟨_, rfl, ?_⟩; have S37 := S0.call r36; refine FL.y (wY c32) (E.lss rfl rfl) ?_; cases hp; refine FL.v (E.pickT rfl c32 rfl) ?_; exact FL.nil ⟨rfl, _, S37, I0, rfl⟩
  ·
   refine FL.skip (wN c32) rfl ?_; refine FL.skip (wN c32) rfl ?_; refine FL.skip (wN c32) rfl ?_; refine FL.skip (wN c32) rfl ?_; cases hp; refine FL.v (E.pickF rfl c32 rfl) ?_; exact FL.nil ⟨rfl, _, S0, I0, rfl⟩
 rintro f31 w30 ⟨H27, S28, i29, k38⟩; refine FL.as k38 ?_; refine FL.nil (FW.ret ?_); cases hp; exact ⟨.inr rfl, res1 rfl rfl ⟨rfl, S28.back⟩⟩

theorem w_math_bits_OnesCount64 {Ha : GH} {wa : World} (hs : Sl Ha wa) (a0 : Int) :
  Calls prog 262 #[Value.int .u64 a0] wa (Sc Ha wa (vI (PF.math_bits_OnesCount64 a0))) := by
 obtain ⟨r, hp⟩ : ∃ r, (PF.math_bits_OnesCount64 a0) = r := ⟨_, rfl⟩; rw [hp]; unfold PF.math_bits_OnesCount64 at hp; have S0 := St.init hs; refine calls_go (N := 35) (args := [Value.int .u64 a0]) func262 rfl rfl rfl ?_; refine FW.sr ?_; refine FL.as (v := vI 0) rfl ?_; refine FL.nil (FW.sr ?_); refine FL.mv (v := Value.int .u64 a0) rfl ?_; refine FL.v (E.shr rfl rfl (by decide)) ?_; refine FL.v (E.and rfl rfl) ?_; refine FL.mv (v := Value.int .u64 a0) rfl ?_; refine FL.v (E.and rfl rfl) ?_; refine FL.v (E.addK rfl rfl) ?_; refine FL.as (v := Value.int .u64 (PF.oc0 a0)) rfl ?_; refine FL.nil (FW.sr ?_); refine FL.mv (v := Value.int .u64 (PF.oc0 a0)) rfl ?_; refine FL.v (E.shr rfl rfl (by decide)) ?_; refine FL.v (E.and rfl rfl) ?_; refine FL.mv (v := Value.int .u64 (PF.oc0 a0)) rfl ?_; refine FL.v (E.and rfl rfl) ?_; refine FL.v (E.addK rfl rfl) ?_; refine FL.as (v := Value.int .u64 (PF.oc1 a0)) rfl ?_; refine FL.nil (FW.sr ?_); refine FL.mv (v := Value.int .u64 (PF.oc1 a0)) rfl ?_; refine FL.v (E.shr rfl rfl (by decide)) ?_; refine FL.mv (v := Value.int .u64 (PF.oc1 a0)) rfl ?_; refine FL.v (E.addK rfl rfl) ?_; refine FL.v (E.and rfl rfl) ?_; refine FL.as (v := Value.int .u64 (PF.oc2 a0)) rfl ?_; refine FL.nil (FW.sr ?_); refine FL.mv (v := Value.int .u64 (PF.oc2 a0)) rfl ?_; refine FL.mv (v := Value.int .u64 (PF.oc2 a0)) rfl ?_; refine FL.v (E.shr rfl rfl (by decide)) ?_; refine FL.v (E.addK rfl rfl) ?_; refine FL.as (v := Value.int .u64 (PF.oc3 a0)) rfl ?_; refine FL.nil (FW.sr ?_); refine FL.mv (v := Value.int .u64 (PF.oc3 a0)) rfl ?_; refine FL.mv (v := Value.int .u64 (PF.oc3 a0)) rfl ?_; refine FL.v (E.shr rfl rfl (by decide)) ?_; refine FL.v (E.addK rfl rfl) ?_; refine FL.as (v := Value.int .u64 (PF.oc4 a0)) rfl ?_; refine FL.nil (FW.sr ?_); refine FL.mv (v := Value.int .u64 (PF.oc4 a0)) rfl ?_; refine FL.mv (v := Value.int .u64 (PF.oc4 a0)) rfl ?_; refine FL.v (E.shr rfl rfl (by decide)) ?_; refine FL.v (E.addK rfl rfl) ?_; refine FL.as (v := Value.int .u64 (PF.oc5 a0)) rfl ?_; refine FL.nil (FW.sr ?_); refine FL.mv (v := Value.int .u64 (PF.oc5 a0)) rfl ?_; refine FL.v (E.conv runUnderlying237 runUnderlying3 rfl) ?_; refine FL.v (E.and rfl rfl) ?_; refine FL.as (v := vI (andK true 64 (wrk true 64 (PF.oc5 a0)) 127)) rfl ?_; refine FL.nil (FW.ret ?_); obtain rfl := hp; exact ⟨.inr rfl, res1 rfl rfl ⟨rfl, S0.back⟩⟩

theorem w_math_bits_OnesCount {Ha : GH} {wa : World} (hs : Sl Ha wa) (a0 : Int) :
  Calls prog 241 #[Value.int .u64 a0] wa (Sc Ha wa (vI (PF.math_bits_OnesCount a0))) := by
 obtain ⟨r, hp⟩ : ∃ r, (PF.math_bits_OnesCount a0) = r := ⟨_, rfl⟩; rw [hp]; unfold PF.math_bits_OnesCount at hp; have S0 := St.init hs; refine calls_go (N := 8) (args := [Value.int .u64 a0]) func241 rfl rfl rfl ?_; refine FW.sr ?_; refine FL.as (v := vI 0) rfl ?_; refine FL.nil (FW.seq ?_); refine FW.condF rfl rfl ?_; refine FW.skip (FW.sr ?_); refine FL.mv (v := Value.int .u64 a0) rfl ?_; refine FL.c (E.call call262 (A1 rfl)) (w_math_bits_OnesCount64 S0.sl a0) ?_; rintro e w21 ⟨rfl, r22⟩; refine ⟨_, rfl, ?_⟩; have S23 := S0.call r22; refine FL.as (v := vI (PF.math_bits_OnesCount64 a0)) rfl ?_; refine FL.nil (FW.ret ?_); obtain rfl := hp; exact ⟨.inr rfl, res1 rfl rfl ⟨rfl, S23.back⟩⟩

theorem w_impl_degreeOf {Ha : GH} {wa : World} (hs : Sl Ha wa) (a0 : Int) :
  Calls prog 188 #[vI a0] wa (Sc Ha wa (vI (PF.impl_degreeOf a0))) := by
 obtain ⟨r, hp⟩ : ∃ r, (PF.impl_degreeOf a0) = r := ⟨_, rfl⟩; rw [hp]; unfold PF.impl_degreeOf at hp; have S0 := St.init hs; refine calls_go (N := 6) (args := [vI a0]) func188 rfl rfl rfl ?_; refine FW.sr ?_; refine FL.as (v := vI 0) rfl ?_; refine FL.nil (FW.sr ?_); refine FL.mv (v := vI a0) rfl ?_; refine FL.v (E.conv runUnderlying3 runUnderlying202 rfl) ?_; refine FL.c (E.call call241 (A1 rfl)) (w_math_bits_OnesCount S0.sl (wrk false 64 a0)) ?_; rintro e w21 ⟨rfl, r22⟩; refine ⟨_, rfl, ?_⟩; have S23 := S0.call r22; refine FL.as (v := vI (PF.math_bits_OnesCount (wrk false 64 a0))) rfl ?_; refine FL.nil (FW.ret ?_); obtain rfl := hp; exact ⟨.inr rfl, res1 rfl rfl ⟨rfl, S23.back⟩⟩

theorem w_impl_dense_degree {Ha : GH} {wa : World} (hs : Sl Ha wa) (v0 : Value) (a0 : List Int) (p0 : RSl Ha eI 1 v0 a0) {r : Int} (hp : (PF.impl_dense_degree a0) = some r) :
    Calls prog 130 #[v0] wa (Sc Ha wa (vI r)) := by
  unfold PF.impl_dense_degree at hp
  have S0 := St.init hs
  refine calls_go (N := 21) (args := [v0]) Tryz.func130 rfl rfl rfl ?_
  refine FW.seq (FW.region ?_)
  refine FL.v (E.assign (v := vI 0) rfl) ?_
  refine FL.nil (FW.seq (FW.region ?_))
  refine FL.v (E.assign (v := vI (-1)) rfl) ?_
  refine FL.nil (FW.seq (FW.seq (FW.region ?_)))
  refine FL.v (E.move (v := v0) rfl) ?_
  refine FL.v (E.lenP te99 rfl p0) ?_
  refine FL.v (E.move (v := vI 0) rfl) ?_
  refine FL.nil ?_
  obtain ⟨q22, hq, hp⟩ := bndR hp
  refine FW.block ?_
  refine FW.mono (FW.forL (S := Int) (X := Empty) (fun (i22 : Nat) (s22 : Int) f w => ∃ H : GH, St Ha wa H w [] ∧ Inc Ha H ∧ f 8 = vI ((i22 : Nat) : Int) ∧ f 3 = vI s22 ∧ f 6 = v0 ∧ f 7 = vI (len a0)) (fun (q : Rs Int Empty) e f w => match q with | .go s22 => e = Exit.exit 0 ∧ (∃ H : GH, St Ha wa H w [] ∧ Inc Ha H ∧ f 3 = vI s22) | .rt x => x.elim) hq ⟨_, S0, (Inc.rfl _), rfl, rfl, rfl, rfl⟩ ?_ ?_) ?_
  ·
    clear hp hq
    rintro i22 y21 s22 f46 w45 ⟨H42, S43, i44, k47, k48, k49, k50⟩ hx22 o61 hp
    refine FW.seq (FW.region ?_)
    refine FL.v (E.lssT k47 k50 (lss_len hx22)) ?_
    refine FL.nil (FW.seq ?_)
    refine FW.condT rfl rfl ?_
    refine FW.skip (FW.seq (FW.block (FW.seq (FW.region ?_))))
    refine FL.v (E.move k47) ?_
    obtain ⟨p51, cs52, pt53, l54, at55, rel56⟩ := p0.at (ix_nat hx22)
    obtain rfl := eI_open rel56
    refine FL.v (E.indexAddr te99 k49 k47 pt53) ?_
    refine FL.v (E.load rfl (run_load0 Tryz.isAgg3 ((at55.mono i44).now S43.sl) rfl)) ?_
    refine FL.v (E.assign (v := vI ((i22 : Nat) : Int)) rfl) ?_
    refine FL.v (E.assign (v := vI y21) rfl) ?_
    refine FL.nil (FW.seq (FW.region ?_))
    refine FL.v (E.move (v := vI y21) rfl) ?_
    refine FL.v (E.neq rfl rfl) ?_
    refine FL.nil ?_
    rcases ifB hp with ⟨c57, hp⟩ | ⟨c57, hp⟩
    ·
      refine FW.condT rfl c57 ?_
      refine FW.region ?_
      refine FL.v (E.move k48) ?_
      refine FL.v (E.move (v := vI ((i22 : Nat) : Int)) rfl) ?_
      refine FL.call rfl rfl rfl (E.call Tryz.call188 (A1 rfl)) (w_impl_degreeOf S43.sl ((i22 : Nat) : Int)) ?_
      rintro e w58 ⟨rfl, r59⟩
      refine ⟨_, rfl, ?_⟩
      have S60 := S43.call r59
      refine FL.v (E.max2 rfl rfl) ?_
      refine FL.v (E.assign (v := vI (mx s22 (PF.impl_degreeOf ((i22 : Nat) : Int)))) rfl) ?_
      refine FL.nil (FW.region ?_)
      refine FL.v (E.add k47 rfl) ?_
      refine FL.v (E.move (v := vI (wr (((i22 : Nat) : Int) + 1))) rfl) ?_
      refine FL.nil ?_
      obtain rfl := Option.some.inj hp
      exact ⟨rfl, ⟨_, S60, i44, (nat_succ rfl (lt_of_get hx22) (p0.mono i44).le), rfl, k49, k50⟩⟩
    ·
      refine FW.condF rfl c57 ?_
      refine FW.skip (FW.region ?_)
      refine FL.v (E.add k47 rfl) ?_
      refine FL.v (E.move (v := vI (wr (((i22 : Nat) : Int) + 1))) rfl) ?_
      refine FL.nil ?_
      obtain rfl := Option.some.inj hp
      exact ⟨rfl, ⟨_, S43, i44, (nat_succ rfl (lt_of_get hx22) (p0.mono i44).le), k48, k49, k50⟩⟩
  ·
    clear hp hq
    rintro s22 f72 w71 ⟨H68, S69, i70, k73, k74, k75, k76⟩
    refine FW.seq (FW.region ?_)
    refine FL.v (E.lss k73 k76) ?_
    refine FL.nil (FW.seq ?_)
    refine FW.condF rfl dlt_len ?_
    refine FW.exit ?_
    exact ⟨nofun, rfl, ⟨_, S69, i70, k74⟩⟩
  ·
    clear hq
    intro e f66 w65 hD
    rcases q22 with s22 | x22
    ·
      obtain ⟨rfl, hD⟩ := hD
      obtain ⟨H62, S63, i64, k67⟩ := hD
      replace hp := el_go hp
      refine FW.seq (FW.region ?_)
      refine FL.v (E.move k67) ?_
      refine FL.v (E.assign (v := vI s22) rfl) ?_
      refine FL.nil ?_
      refine FW.ret ?_
      obtain rfl := Option.some.inj hp
      exact ⟨.inr rfl, res1 rfl rfl ⟨rfl, S63.back⟩⟩
    · exact x22.elim

theorem w_impl_PcDegree {Ha : GH} {wa : World} (hs : Sl Ha wa) (a0 : Int) (a1 : Cnf) (v1_1 : Value) (p1_1 : RSl Ha (eL eI 1) 1 v1_1 a1.clauses) (v2 : Value) (a2 : List PcStep) (p2 : RSl Ha ePcStep 6 v2 a2) {r : (Int × Bool)} (hp : (PF.impl_PcDegree a0 a1 a2) = some r) :
    Calls prog 76 #[vI a0, vA #[vI a1.vars, v1_1], v2] wa (Sc Ha wa (Value.tuple #[vI r.1, vB r.2])) := by
  unfold PF.impl_PcDegree at hp
  have S0 := St.init hs
  refine calls_go (N := 45) (args := [vI a0, vA #[vI a1.vars, v1_1], v2]) Tryz.func76 rfl rfl rfl ?_
  refine FW.seq (FW.region ?_)
  obtain ⟨b21, w22, run23, S24⟩ := S0.box (P := prog) 32 [vI a1.vars, v1_1] (v := vA #[vI a1.vars, v1_1]) rfl (ones_cons rfl (ones_cons p1_1.one ones_nil))
  refine FL.v (E.box rfl run23) ?_
  obtain ⟨H25, S26, i27, at28⟩ := S24.sealBox (i := 0) (l' := []) rfl rfl
  refine FL.v (E.assign (v := vI 0) rfl) ?_
  refine FL.v (E.assign (v := vB false) rfl) ?_
  refine FL.nil (FW.seq (FW.region ?_))
  refine FL.v (E.move (v := vI a0) rfl) ?_
  refine FL.v (E.load rfl (run_loadA Tryz.isAgg32 Tryz.sizeOf32 (at28.now S26.sl) rfl)) ?_
  obtain ⟨r29, hr30, hp⟩ := bnd hp
  refine FL.call rfl rfl rfl (E.call Tryz.call65 (A2 rfl rfl)) (w_impl_algebraOf S26.sl a0 a1 v1_1 (p1_1.mono i27) hr30) ?_
  rintro e w32 ⟨H31, v35, rfl, r34, h36⟩
  refine ⟨_, rfl, ?_⟩
  have S33 := S26.call r34
  refine FL.v (E.move (v := Value.tuple #[v35, vB r29.2]) rfl) ?_
  refine FL.v (E.extract (i := 0) rfl rfl) ?_
  refine FL.v (E.extract (i := 1) rfl rfl) ?_
  refine FL.v (E.assign (v := v35) rfl) ?_
  refine FL.v (E.assign (v := vB r29.2) rfl) ?_
  refine FL.nil (FW.seq (FW.seq (FW.region ?_)))
  refine FL.v (E.move (v := vB r29.2) rfl) ?_
  refine FL.v (E.not rfl) ?_
  refine FL.v (E.move (v := vB (!r29.2)) rfl) ?_
  obtain ⟨t53, hqt53, hp⟩ := bnd hp
  refine FL.cut 5 (fun f w => ∃ H : GH, St Ha wa H w [] ∧ Inc H31 H ∧ f 2 = v2 ∧ f 8 = v35 ∧ f 26 = vB t53) ?_ ?_
  ·
    clear hp; have hp := hqt53; clear hqt53
    rcases ifB hp with ⟨c59, hp⟩ | ⟨c59, hp⟩
    ·
      refine FL.skip (wF_no rfl rfl rfl c59) rfl ?_
      refine FL.skip (wF_no rfl rfl rfl c59) rfl ?_
      refine FL.skip (wF_no rfl rfl rfl c59) rfl ?_
      refine FL.skip (wF_no rfl rfl rfl c59) rfl ?_
      obtain rfl := Option.some.inj hp
      refine FL.v (E.pickT rfl c59 rfl) ?_
      exact FL.nil ⟨rfl, _, S33, (Inc.rfl _), rfl, rfl, rfl⟩
    ·
      refine FL.val (wF_yes rfl rfl rfl c59) rfl rfl (E.move (v := v35) rfl) ?_
      refine FL.val (wF_yes rfl rfl rfl c59) rfl rfl (E.move (v := v2) rfl) ?_
      obtain ⟨y60, hy61, hp⟩ := bnd hp
      rw [hy61] at h36
      obtain ⟨q62, rfl, v63, v65, h64, ⟨c68, ns67⟩, at70⟩ := h36
      have h66 := ns67.rsl
      have nv69 : New H25 [v65] := New.of_up S26.sl h66.dom
      have h66 := h66.mono (up_le S26.size)
      have ns67 := ns67.mono (up_le S26.size)
      obtain ⟨r71, hr72, hp⟩ := bnd hp
      refine FL.call (wF_yes rfl rfl rfl c59) rfl rfl (E.call Tryz.call67 (A2 rfl rfl)) (w_impl_algebra_pcDerivation S33.sl q62 y60 v63 v65 h64 (h66.mono upI) at70 v2 a2 (p2.mono (i27.tr r34.inc)) hr72) ?_
      rintro e w73 ⟨rfl, r74⟩
      refine ⟨_, rfl, ?_⟩
      have S75 := S33.call r74
      refine FL.val (wF_yes rfl rfl rfl c59) rfl rfl (E.not rfl) ?_
      obtain rfl := Option.some.inj hp
      refine FL.v (E.pickF rfl c59 rfl) ?_
      exact FL.nil ⟨rfl, _, S75, (Inc.rfl _), rfl, rfl, rfl⟩
  rintro f58 w57 ⟨H54, S55, i56, k76, k77, k78⟩
  refine FL.nil ?_
  rcases ifB hp with ⟨c79, hp⟩ | ⟨c79, hp⟩
  ·
    refine FW.condT k78 c79 ?_
    refine FW.seq (FW.region ?_)
    refine FL.v (E.assign (v := vI 0) rfl) ?_
    refine FL.v (E.assign (v := vB false) rfl) ?_
    refine FL.nil ?_
    refine FW.ret ?_
    obtain rfl := Option.some.inj hp
    exact ⟨.inr rfl, res2 rfl rfl rfl ⟨rfl, S55.back⟩⟩
  ·
    refine FW.condF k78 c79 ?_
    refine FW.skip (FW.seq (FW.region ?_))
    refine FL.v (E.assign (v := vI (-1)) rfl) ?_
    refine FL.nil (FW.seq (FW.seq (FW.region ?_)))
    refine FL.v (E.move k76) ?_
    refine FL.v (E.lenP te36 rfl p2) ?_
    refine FL.v (E.move (v := vI 0) rfl) ?_
    refine FL.nil ?_
    obtain ⟨q81, hq, hp⟩ := bndR hp
    refine FW.block ?_
    refine FW.mono (FW.forL (S := Int) (X := Empty) (fun (i81 : Nat) (s81 : Int) f w => ∃ H : GH, St Ha wa H w [] ∧ Inc H54 H ∧ f 29 = vI ((i81 : Nat) : Int) ∧ f 8 = v35 ∧ f 10 = vI s81 ∧ f 27 = v2 ∧ f 28 = vI (len a2)) (fun (q : Rs Int Empty) e f w => match q with | .go s81 => e = Exit.exit 0 ∧ (∃ H : GH, St Ha wa H w [] ∧ Inc H54 H ∧ f 10 = vI s81) | .rt x => x.elim) hq ⟨_, S55, (Inc.rfl _), rfl, k77, rfl, rfl, rfl⟩ ?_ ?_) ?_
    ·
      clear hp hq
      rintro i81 y80 s81 f41 w40 ⟨H37, S38, i39, k42, k43, k44, k45, k46⟩ hx81 o141 hp
      refine FW.seq (FW.region ?_)
      refine FL.v (E.lssT k42 k46 (lss_len hx81)) ?_
      refine FL.nil (FW.seq ?_)
      refine FW.condT rfl rfl ?_
      refine FW.skip (FW.seq (FW.block (FW.seq (FW.region ?_))))
      obtain ⟨p47, cs48, pt49, l50, at51, rel52⟩ := p2.at (ix_nat hx81)
      obtain ⟨v82, rfl, h83⟩ := ePcStep_open rel52
      refine FL.v (E.indexAddr te36 k45 k42 pt49) ?_
      refine FL.v (E.load rfl (run_loadA Tryz.isAgg90 Tryz.sizeOf90 ((at51.mono (((i27.tr r34.inc).tr i56).tr i39)).now S38.sl) rfl)) ?_
      obtain ⟨b84, w85, run86, S87⟩ := S38.alloc (P := prog) 90 [vI 0, vN, vI 0, vI 0, vI 0, vI 0] Tryz.zeroValue90 rfl (ones_cons rfl (ones_cons rfl (ones_cons rfl (ones_cons rfl (ones_cons rfl (ones_cons rfl ones_nil))))))
      refine FL.v (E.alloc run86) ?_
      obtain ⟨w88, run89, S91⟩ := S87.store0 (P := prog) (t := 90) (i := 0) (cs' := [vI y80.kind, v82, vI y80.a, vI y80.b, vI y80.x, vI y80.y]) (l' := [.box b84 90 [vI y80.kind, v82, vI y80.a, vI y80.b, vI y80.x, vI y80.y]]) (v := vA #[vI y80.kind, v82, vI y80.a, vI y80.b, vI y80.x, vI y80.y]) (c := [vI y80.kind, v82, vI y80.a, vI y80.b, vI y80.x, vI y80.y]) rfl Tryz.sizeOf90 rfl rfl (ones_cons rfl (ones_cons h83.one (ones_cons rfl (ones_cons rfl (ones_cons rfl (ones_cons rfl ones_nil)))))) (Nat.le_of_ble_eq_true rfl) rfl rfl
      refine FL.act rfl rfl (E.store rfl rfl run89) ?_
      obtain ⟨H92, S93, i94, at95⟩ := S91.sealBox (i := 0) (l' := []) rfl rfl
      refine FL.nil ?_
      obtain ⟨y96, hy97, hp⟩ := bnd hp
      rw [hy97] at h36
      obtain ⟨q98, rfl, v99, v101, h100, ⟨c104, ns103⟩, at107⟩ := h36
      have h102 := ns103.rsl
      have nv106 : New H25 [v101] := New.of_up S26.sl h102.dom
      have h102 := h102.mono (up_le S26.size)
      have ns103 := ns103.mono (up_le S26.size)
      obtain ⟨r111, hr112, hp⟩ := bnd hp
      obtain ⟨r126, hr127, hp⟩ := bnd hp
      refine FW.drawB (Sl H92) (fun f w => ∃ H : GH, St Ha wa H w [] ∧ Inc H92 H ∧ f 8 = vP (q98) ∧ f 10 = vI (mx s81 r126) ∧ f 27 = v2 ∧ f 28 = vI (len a2) ∧ f 29 = vI ((i81 : Nat) : Int)) (by kernel_rfl) S93.sl ?_ ?_
      ·
        intro w108 r109
        have S110 := S93.call r109
        refine FB.t (i := 0) (bs 11 1) rfl (SP.nil S110.sl) rfl (fun _ z => (E.move k44)) ?_
        refine FB.t (i := 1) (bs 11 3) rfl (SP.nil S110.sl) rfl (fun _ z => (E.move k43)) ?_
        refine FB.t (i := 2) (bs 11 7) rfl (SP.nil S110.sl) rfl (fun _ z => (E.nilCheck rfl)) ?_
        refine FB.t (i := 3) (bs 11 15) rfl (SP.nil S110.sl) rfl (fun _ z => (E.fieldAddr tf105_0 rfl)) ?_
        refine FB.t (i := 4) (bs 11 31) rfl (SP.nil S110.sl) rfl (fun _ z => (E.load rfl (run_loadA Tryz.isAgg102 Tryz.sizeOf102 (((at107.mono ((i56.tr i39).tr i94)).now z).sub (j := 0) (n := 2) (c := [vI y96.ring.p, vI y96.ring.vars]) rfl) rfl))) ?_
        refine FB.t (i := 5) (bs 11 63) rfl (SP.nil S110.sl) rfl (fun _ z => (E.fieldAddr tf90_1 rfl)) ?_
        refine FB.t (i := 6) (bs 11 127) rfl (SP.nil S110.sl) rfl (fun _ z => (E.load rfl (run_load1 Tryz.isAgg55 (at95.now z) rfl))) ?_
        refine FB.all1 (i := 7) (by kernel_rfl) ?_
        ·
          refine FC.call (l' := (bs 11 255)) rfl (by kernel_rfl) rfl rfl rfl (E.call Tryz.call100 (A2 rfl rfl)) (w_impl_ring_dense S110.sl y96.ring v82 y80.poly (h83.mono ((((i27.tr r34.inc).tr i56).tr i39).tr i94)) hr112) ?_
          rintro e w114 ⟨H113, v117, n118, cs119, rfl, r116, els120⟩
          refine ⟨_, rfl, ?_⟩
          have els120 := els120.mono (up_le S110.size)
          have S115 := S110.join (l' := [.row 3 1 v117 n118 cs119]) r116 rfl
          refine ⟨(SP.nil (Sl.of_inc r116.run.inc S115.sl)), ?_⟩
          refine FB.all1 (i := 8) (by kernel_rfl) ?_
          ·
            obtain ⟨H121, S122, i123, h124, nv125⟩ := S115.sealRowU (i := 0) (l' := []) rfl els120 (by decide) rfl
            refine FC.call (l' := (bs 11 511)) rfl (by kernel_rfl) rfl rfl rfl (E.call Tryz.call130 (A1 rfl)) (w_impl_dense_degree S122.sl v117 r111 (h124.mono upI) hr127) ?_
            rintro e w128 ⟨rfl, r129⟩
            refine ⟨_, rfl, ?_⟩
            have r129 := Run.lend i123 S115.sl r129
            have S130 := S115.call r129
            refine ⟨(SP.nil (Sl.of_inc r116.run.inc S130.sl)), ?_⟩
            refine FB.t (i := 9) (bs 11 1023) rfl (SP.nil (Sl.of_inc r116.run.inc S130.sl)) rfl (fun _ z => (E.max2 rfl rfl)) ?_
            refine FB.t (i := 10) (bs 11 2047) rfl (SP.nil (Sl.of_inc r116.run.inc S130.sl)) rfl (fun _ z => (E.assign (v := vI (mx s81 r126)) rfl)) ?_
            exact FB.done (by kernel_rfl) ⟨_, (S130.sel [] (by decide) rfl), r116.run.inc, k43, rfl, k45, k46, k42⟩
      ·
        rintro f135 w134 ⟨H131, S132, i133, k136, k137, k138, k139, k140⟩
        refine FW.region ?_
        refine FL.v (E.add k140 rfl) ?_
        refine FL.v (E.move (v := vI (wr (((i81 : Nat) : Int) + 1))) rfl) ?_
        refine FL.nil ?_
        obtain rfl := Option.some.inj hp
        exact ⟨rfl, ⟨_, S132, ((i39.tr i94).tr i133), (nat_succ rfl (lt_of_get hx81) (p2.mono (((((i27.tr r34.inc).tr i56).tr i39).tr i94).tr i133)).le), k136, k137, k138, k139⟩⟩
    ·
      clear hp hq
      rintro s81 f152 w151 ⟨H148, S149, i150, k153, k154, k155, k156, k157⟩
      refine FW.seq (FW.region ?_)
      refine FL.v (E.lss k153 k157) ?_
      refine FL.nil (FW.seq ?_)
      refine FW.condF rfl dlt_len ?_
      refine FW.exit ?_
      exact ⟨nofun, rfl, ⟨_, S149, i150, k155⟩⟩
    ·
      clear hq
      intro e f146 w145 hD
      rcases q81 with s81 | x81
      ·
        obtain ⟨rfl, hD⟩ := hD
        obtain ⟨H142, S143, i144, k147⟩ := hD
        replace hp := el_go hp
        refine FW.seq (FW.region ?_)
        refine FL.v (E.move k147) ?_
        refine FL.v (E.assign (v := vI s81) rfl) ?_
        refine FL.v (E.assign (v := vB true) rfl) ?_
        refine FL.nil ?_
        refine FW.ret ?_
        obtain rfl := Option.some.inj hp
        exact ⟨.inr rfl, res2 rfl rfl rfl ⟨rfl, S143.back⟩⟩
      · exact x81.elim

theorem w_impl_TranslatedDegree {Ha : GH} {wa : World} (hs : Sl Ha wa) (a0 : Int) (a1 : Cnf) (v1_1 : Value) (p1_1 : RSl Ha (eL eI 1) 1 v1_1 a1.clauses) (v2 : Value) (a2 : List ResStep) (p2 : RSl Ha eResStep 4 v2 a2) {r : (Int × Bool)} (hp : (PF.impl_TranslatedDegree a0 a1 a2) = some r) :
  Calls prog 23 #[vI a0, vA #[vI a1.vars, v1_1], v2] wa (Sc Ha wa (Value.tuple #[vI r.1, vB r.2])) := by
 unfold PF.impl_TranslatedDegree at hp; have S0 := St.init hs; refine calls_go (N := 25) (args := [vI a0, vA #[vI a1.vars, v1_1], v2]) func23 rfl rfl rfl ?_; refine FW.sr ?_; obtain ⟨b21, w22, run23, S24⟩ := S0.box (P := prog) 32 [vI a1.vars, v1_1] (v := vA #[vI a1.vars, v1_1]) rfl (oC rfl (oC p1_1.one ones_nil)); refine FL.v (E.box rfl run23) ?_; obtain ⟨H25, S26, i27, at28⟩ := S24.sealBox (i := 0) (l' := []) rfl rfl; refine FL.as (v := vI 0) rfl ?_; refine FL.as (v := vB false) rfl ?_; refine FL.nil (FW.sr ?_); refine FL.mv (v := vI a0) rfl ?_; refine FL.v (E.load rfl (run_loadA isAgg32 sizeOf32 (at28.now S26.sl) rfl)) ?_; refine FL.mv (v := v2) rfl ?_; obtain ⟨r29, hr30, hp⟩ := bnd hp; refine FL.c (E.call call75 (A3 rfl rfl rfl)) (w_impl_ResToPc S26.sl a0 a1 v1_1 (p1_1.mono i27) v2 a2 (p2.mono i27) hr30) ?_; rintro e w32 ⟨H31, v35, rfl, r34, ⟨c38, ns37⟩⟩; refine ⟨_, rfl, ?_⟩; have h36 := ns37.rsl; have nv39 : New H25 [v35] := New.of_up S26.sl h36.dom; have h36 := h36.mono (up_le S26.size); have ns37 := ns37.mono (up_le S26.size); have S33 := S26.call r34; refine FL.mv (v := Value.tuple #[v35, vB r29.2]) rfl ?_; refine FL.v (E.extract (i := 0) rfl rfl) ?_; refine FL.v (E.extract (i := 1) rfl rfl) ?_; refine FL.as (v := v35) rfl ?_; refine FL.as (v := vB r29.2) rfl ?_; refine FL.nil (FW.seq (FW.sr ?_)); refine FL.mv (v := vB r29.2) rfl ?_; refine FL.v (E.not rfl) ?_; refine FL.nil ?_; rcases ifB hp with ⟨c40, hp⟩ | ⟨c40, hp⟩
 ·
  refine FW.condT rfl c40 ?_; refine FW.sr ?_; refine FL.as (v := vI 0) rfl ?_; refine FL.as (v := vB false) rfl ?_; refine FL.nil (FW.ret ?_); cases hp; exact ⟨.inr rfl, res2 rfl rfl rfl ⟨rfl, S33.back⟩⟩
 ·
  refine FW.condF rfl c40 ?_; refine FW.skip (FW.sr ?_); refine FL.mv (v := vI a0) rfl ?_; refine FL.v (E.load rfl (run_loadA isAgg32 sizeOf32 ((at28.mono r34.inc).now S33.sl) rfl)) ?_; refine FL.mv (v := v35) rfl ?_; obtain ⟨r41, hr42, hp⟩ := bnd hp; refine FL.c (E.call call76 (A3 rfl rfl rfl)) (w_impl_PcDegree S33.sl a0 a1 v1_1 (p1_1.mono (i27.tr r34.inc)) v35 r29.1 (h36.mono upI) hr42) ?_; rintro e w43 ⟨rfl, r44⟩; refine ⟨_, rfl, ?_⟩; have S45 := S33.call r44; refine FL.v (E.extract (i := 0) rfl rfl) ?_; refine FL.v (E.extract (i := 1) rfl rfl) ?_; refine FL.as (v := vI r41.1) rfl ?_; refine FL.as (v := vB r41.2) rfl ?_; refine FL.nil (FW.ret ?_); cases hp; exact ⟨.inr rfl, res2 rfl rfl rfl ⟨rfl, S45.back⟩⟩

theorem w_laws_eqIntS {Ha : GH} {wa : World} (hs : Sl Ha wa) (v0 : Value) (a0 : List Int) (p0 : RSl Ha eI 1 v0 a0) (v1 : Value) (a1 : List Int) (p1 : RSl Ha eI 1 v1 a1) {r : Bool} (hp : (PF.laws_eqIntS a0 a1) = some r) :
  Calls prog 52 #[v0, v1] wa (Sc Ha wa (vB r)) := by
 unfold PF.laws_eqIntS at hp; have S0 := St.init hs; refine calls_go (N := 26) (args := [v0, v1]) func52 rfl rfl rfl ?_; refine FW.sr ?_; refine FL.as (v := vB false) rfl ?_; refine FL.nil (FW.seq (FW.sr ?_)); refine FL.mv (v := v0) rfl ?_; refine FL.v (E.lenP te73 rfl p0) ?_; refine FL.mv (v := v1) rfl ?_; refine FL.v (E.lenP te73 rfl p1) ?_; refine FL.v (E.neq rfl rfl) ?_; refine FL.nil ?_; rcases ifB hp with ⟨c21, hp⟩ | ⟨c21, hp⟩
 ·
  refine FW.condT rfl c21 ?_; refine FW.sr ?_; refine FL.as (v := vB false) rfl ?_; refine FL.nil (FW.ret ?_); cases hp; exact ⟨.inr rfl, res1 rfl rfl ⟨rfl, S0.back⟩⟩
 ·
  refine FW.condF rfl c21 ?_; refine FW.skip (FW.seq (FW.sr ?_)); refine FL.as (v := vI 0) rfl ?_; refine FL.nil ?_; obtain ⟨q23, hq, hp⟩ := bndR hp; refine FW.block ?_; refine FW.mono (FW.forL (S := Unit) (X := Bool) (fun (i23 : Nat) (s23 : Unit) f w => ∃ H : GH, St Ha wa H w [] ∧ Inc Ha H ∧ f 5 = vI ((i23 : Nat) : Int) ∧ f 0 = v0 ∧ f 1 = v1) (fun q e f w => match q with | .go s23 => e = Exit.exit 0 ∧ (∃ H : GH, St Ha wa H w [] ∧ Inc Ha H) | .rt x => ((e = Exit.ret) ∧ (fun e f w => (e = Exit.normal ∨ e = Exit.ret) ∧ ∀ a, Fr (δ := []) 26 a f → ∃ v, (results Tryz.f52 a.tmps).run prog w = .ok v w ∧ (Sc Ha wa (vB x)) (.returned v) w) e f w)) hq ⟨_, S0, I0, rfl, rfl, rfl⟩ ?_ ?_) ?_
  ·
   clear hp hq; rintro i23 y22 s23 f55 w54 ⟨H51, S52, i53, k56, k57, k58⟩ hx23 o78 hp; refine FW.seq (FW.sr ?_); refine FL.mv k56 ?_; refine FL.mv k57 ?_; refine FL.v (E.lenP te73 rfl p0) ?_; refine FL.v (E.lssT rfl rfl (lss_len hx23)) ?_; refine FL.nil ?_; refine FW.condT rfl rfl ?_; refine FW.skip (FW.seq (FW.block (FW.seq ?_))); refine FW.draw (fun w' => Run w54.heap.size H51 w54 H51 w') (by kernel_rfl) (by kernel_rfl) (run_drew S52.sl) ?_; refine FD.v (fun _ z => (E.move k57)) ?_; refine FD.v (fun _ z => (E.move k56)) ?_; obtain ⟨p60, cs61, pt62, l63, at64, rel65⟩ := p0.at (ix_nat hx23); obtain rfl := eI_open rel65; refine FD.v (fun _ z => (E.indexAddr te73 rfl rfl pt62)) ?_; refine FD.v (fun _ z => (E.load rfl (run_load0 isAgg3 ((at64.mono i53).now (S52.call z).sl) rfl))) ?_; refine FD.v (fun _ z => (E.move k58)) ?_; refine FD.v (fun _ z => (E.move k56)) ?_; obtain ⟨x72, hx73, hp⟩ := bnd hp; obtain ⟨p66, cs67, pt68, l69, at70, rel71⟩ := p1.at hx73; obtain rfl := eI_open rel71; refine FD.v (fun _ z => (E.indexAddr te73 rfl rfl pt68)) ?_; refine FD.v (fun _ z => (E.load rfl (run_load0 isAgg3 ((at70.mono i53).now (S52.call z).sl) rfl))) ?_; refine FD.v (fun _ z => (E.neq rfl rfl)) ?_; refine FD.nil ?_; intro w74 r76; have S75 := S52.call r76; rcases ifB hp with ⟨c77, hp⟩ | ⟨c77, hp⟩
   ·
    refine FW.condT rfl c77 ?_; refine FW.sr ?_; refine FL.as (v := vB false) rfl ?_; refine FL.nil (FW.ret ?_); cases hp; exact ⟨nofun, rfl, ⟨.inr rfl, res1 rfl rfl ⟨rfl, S75.back⟩⟩⟩
   ·
    refine FW.condF rfl c77 ?_; refine FW.skip (FW.region ?_); refine FL.mv k56 ?_; refine FL.v (E.add rfl rfl) ?_; refine FL.as (v := vI (wr (((i23 : Nat) : Int) + 1))) rfl ?_; refine FL.nil ?_; cases hp; exact ⟨rfl, ⟨_, S75, i53, (nat_succ rfl (lt_of_get hx23) (p0.mono i53).le), k57, k58⟩⟩
  ·
   clear hp hq; rintro s23 f88 w87 ⟨H84, S85, i86, k89, k90, k91⟩; refine FW.seq (FW.sr ?_); refine FL.mv k89 ?_; refine FL.mv k90 ?_; refine FL.v (E.lenP te73 rfl p0) ?_; refine FL.v (E.lss rfl rfl) ?_; refine FL.nil ?_; refine FW.condF rfl dlt_len ?_; refine FW.exit ?_; exact ⟨nofun, rfl, ⟨_, S85, i86⟩⟩
  ·
   clear hq; intro e f83 w82 hD; rcases q23 with s23 | x23
   ·
    obtain ⟨rfl, hD⟩ := hD; obtain ⟨H79, S80, i81⟩ := hD; replace hp := el_go hp; refine FW.sr ?_; refine FL.as (v := vB true) rfl ?_; refine FL.nil (FW.ret ?_); cases hp; exact ⟨.inr rfl, res1 rfl rfl ⟨rfl, S80.back⟩⟩
   ·
    obtain ⟨he, hL⟩ := hD; replace hp := el_rt hp; cases hp; subst he; exact hL

theorem w_laws_eqIntSS {Ha : GH} {wa : World} (hs : Sl Ha wa) (v0 : Value) (a0 : List (List Int)) (p0 : RSl Ha (eL eI 1) 1 v0 a0) (v1 : Value) (a1 : List (List Int)) (p1 : RSl Ha (eL eI 1) 1 v1 a1) {r : Bool} (hp : (PF.laws_eqIntSS a0 a1) = some r) :
  Calls prog 47 #[v0, v1] wa (Sc Ha wa (vB r)) := by
 unfold PF.laws_eqIntSS at hp; have S0 := St.init hs; refine calls_go (N := 27) (args := [v0, v1]) func47 rfl rfl rfl ?_; refine FW.sr ?_; refine FL.as (v := vB false) rfl ?_; refine FL.nil (FW.seq (FW.sr ?_)); refine FL.mv (v := v0) rfl ?_; refine FL.v (E.lenP te22 rfl p0) ?_; refine FL.mv (v := v1) rfl ?_; refine FL.v (E.lenP te22 rfl p1) ?_; refine FL.v (E.neq rfl rfl) ?_; refine FL.nil ?_; rcases ifB hp with ⟨c21, hp⟩ | ⟨c21, hp⟩
 ·
  refine FW.condT rfl c21 ?_; refine FW.sr ?_; refine FL.as (v := vB false) rfl ?_; refine FL.nil (FW.ret ?_); cases hp; exact ⟨.inr rfl, res1 rfl rfl ⟨rfl, S0.back⟩⟩
 ·
  refine FW.condF rfl c21 ?_; refine FW.skip (FW.seq (FW.sr ?_)); refine FL.as (v := vI 0) rfl ?_; refine FL.nil ?_; obtain ⟨q23, hq, hp⟩ := bndR hp; refine FW.block ?_; refine FW.mono (FW.forL (S := Unit) (X := Bool) (fun (i23 : Nat) (s23 : Unit) f w => ∃ H : GH, St Ha wa H w [] ∧ Inc Ha H ∧ f 5 = vI ((i23 : Nat) : Int) ∧ f 0 = v0 ∧ f 1 = v1) (fun q e f w => match q with | .go s23 => e = Exit.exit 0 ∧ (∃ H : GH, St Ha wa H w [] ∧ Inc Ha H) | .rt x => ((e = Exit.ret) ∧ (fun e f w => (e = Exit.normal ∨ e = Exit.ret) ∧ ∀ a, Fr (δ := []) 27 a f → ∃ v, (results Tryz.f47 a.tmps).run prog w = .ok v w ∧ (Sc Ha wa (vB x)) (.returned v) w) e f w)) hq ⟨_, S0, I0, rfl, rfl, rfl⟩ ?_ ?_) ?_
  ·
   clear hp hq; rintro i23 y22 s23 f61 w60 ⟨H57, S58, i59, k62, k63, k64⟩ hx23 o90 hp; refine FW.seq (FW.sr ?_); refine FL.mv k62 ?_; refine FL.mv k63 ?_; refine FL.v (E.lenP te22 rfl p0) ?_; refine FL.v (E.lssT rfl rfl (lss_len hx23)) ?_; refine FL.nil ?_; refine FW.condT rfl rfl ?_; refine FW.skip (FW.seq (FW.block (FW.seq ?_))); refine FW.draw (fun w' => Run w60.heap.size H57 w60 H57 w') (by kernel_rfl) (by kernel_rfl) (run_drew S58.sl) ?_; refine FD.v (fun _ z => (E.move k63)) ?_; refine FD.v (fun _ z => (E.move k62)) ?_; obtain ⟨p66, cs67, pt68, l69, at70, rel71⟩ := p0.at (ix_nat hx23); obtain ⟨v72, rfl, h73⟩ := eL_open rel71; refine FD.v (fun _ z => (E.indexAddr te22 rfl rfl pt68)) ?_; refine FD.v (fun _ z => (E.load rfl (run_load0 isAgg73 ((at70.mono i59).now (S58.call z).sl) rfl))) ?_; refine FD.v (fun _ z => (E.move k64)) ?_; refine FD.v (fun _ z => (E.move k62)) ?_; obtain ⟨x80, hx81, hp⟩ := bnd hp; obtain ⟨p74, cs75, pt76, l77, at78, rel79⟩ := p1.at hx81; obtain ⟨v82, rfl, h83⟩ := eL_open rel79; refine FD.v (fun _ z => (E.indexAddr te22 rfl rfl pt76)) ?_; refine FD.v (fun _ z => (E.load rfl (run_load0 isAgg73 ((at78.mono i59).now (S58.call z).sl) rfl))) ?_; obtain ⟨r84, hr85, hp⟩ := bnd hp; refine FD.call rfl rfl rfl (fun _ z => (E.call call52 (A2 rfl rfl))) (fun _ z => Calls.cls z (w_laws_eqIntS (S58.call z).sl v72 y22 (h73.mono i59) v82 x80 (h83.mono i59) hr85)) ?_; refine FD.v (fun _ z => (E.not rfl)) ?_; refine FD.nil ?_; intro w86 r88; have S87 := S58.call r88; rcases ifB hp with ⟨c89, hp⟩ | ⟨c89, hp⟩
   ·
    refine FW.condT rfl c89 ?_; refine FW.sr ?_; refine FL.as (v := vB false) rfl ?_; refine FL.nil (FW.ret ?_); cases hp; exact ⟨nofun, rfl, ⟨.inr rfl, res1 rfl rfl ⟨rfl, S87.back⟩⟩⟩
   ·
    refine FW.condF rfl c89 ?_; refine FW.skip (FW.region ?_); refine FL.mv k62 ?_; refine FL.v (E.add rfl rfl) ?_; refine FL.as (v := vI (wr (((i23 : Nat) : Int) + 1))) rfl ?_; refine FL.nil ?_; cases hp; exact ⟨rfl, ⟨_, S87, i59, (nat_succ rfl (lt_of_get hx23) (p0.mono i59).le), k63, k64⟩⟩
  ·
   clear hp hq; rintro s23 f100 w99 ⟨H96, S97, i98, k101, k102, k103⟩; refine FW.seq (FW.sr ?_); refine FL.mv k101 ?_; refine FL.mv k102 ?_; refine FL.v (E.lenP te22 rfl p0) ?_; refine FL.v (E.lss rfl rfl) ?_; refine FL.nil ?_; refine FW.condF rfl dlt_len ?_; refine FW.exit ?_; exact ⟨nofun, rfl, ⟨_, S97, i98⟩⟩
  ·
   clear hq; intro e f95 w94 hD; rcases q23 with s23 | x23
   ·
    obtain ⟨rfl, hD⟩ := hD; obtain ⟨H91, S92, i93⟩ := hD; replace hp := el_go hp; refine FW.sr ?_; refine FL.as (v := vB true) rfl ?_; refine FL.nil (FW.ret ?_); cases hp; exact ⟨.inr rfl, res1 rfl rfl ⟨rfl, S92.back⟩⟩
   ·
    obtain ⟨he, hL⟩ := hD; replace hp := el_rt hp; cases hp; subst he; exact hL

theorem w_laws_eqCnf {Ha : GH} {wa : World} (hs : Sl Ha wa) (a0 : Cnf) (v0_1 : Value) (p0_1 : RSl Ha (eL eI 1) 1 v0_1 a0.clauses) (a1 : Cnf) (v1_1 : Value) (p1_1 : RSl Ha (eL eI 1) 1 v1_1 a1.clauses) {r : Bool} (hp : (PF.laws_eqCnf a0 a1) = some r) :
  Calls prog 19 #[vA #[vI a0.vars, v0_1], vA #[vI a1.vars, v1_1]] wa (Sc Ha wa (vB r)) := by
 unfold PF.laws_eqCnf at hp; have S0 := St.init hs; refine calls_go (N := 16) (args := [vA #[vI a0.vars, v0_1], vA #[vI a1.vars, v1_1]]) func19 rfl rfl rfl ?_; refine FW.sr ?_; obtain ⟨b21, w22, run23, S24⟩ := S0.box (P := prog) 32 [vI a0.vars, v0_1] (v := vA #[vI a0.vars, v0_1]) rfl (oC rfl (oC p0_1.one ones_nil)); refine FL.v (E.box rfl run23) ?_; obtain ⟨H25, S26, i27, at28⟩ := S24.sealBox (i := 0) (l' := []) rfl rfl; obtain ⟨b29, w30, run31, S32⟩ := S26.box (P := prog) 32 [vI a1.vars, v1_1] (v := vA #[vI a1.vars, v1_1]) rfl (oC rfl (oC p1_1.one ones_nil)); refine FL.v (E.box rfl run31) ?_; obtain ⟨H33, S34, i35, at36⟩ := S32.sealBox (i := 0) (l' := []) rfl rfl; refine FL.as (v := vB false) rfl ?_; refine FL.nil (FW.seq (FW.sr ?_)); refine FL.v (E.fieldAddr tf32_0 rfl) ?_; refine FL.v (E.load rfl (run_load1 isAgg3 ((at28.mono i35).now S34.sl) rfl)) ?_; refine FL.v (E.fieldAddr tf32_0 rfl) ?_; refine FL.v (E.load rfl (run_load1 isAgg3 (at36.now S34.sl) rfl)) ?_; refine FL.v (E.neq rfl rfl) ?_; refine FL.nil ?_; rcases ifB hp with ⟨c37, hp⟩ | ⟨c37, hp⟩
 ·
  refine FW.condT rfl c37 ?_; refine FW.sr ?_; refine FL.as (v := vB false) rfl ?_; refine FL.nil (FW.ret ?_); cases hp; exact ⟨.inr rfl, res1 rfl rfl ⟨rfl, S34.back⟩⟩
 ·
  refine FW.condF rfl c37 ?_; refine FW.skip (FW.seq (FW.sr ?_)); refine FL.v (E.fieldAddr tf32_1 rfl) ?_; refine FL.v (E.load rfl (run_load1 isAgg22 ((at28.mono i35).now S34.sl) rfl)) ?_; refine FL.v (E.fieldAddr tf32_1 rfl) ?_; refine FL.v (E.load rfl (run_load1 isAgg22 (at36.now S34.sl) rfl)) ?_; obtain ⟨r38, hr39, hp⟩ := bnd hp; refine FL.c (E.call call47 (A2 rfl rfl)) (w_laws_eqIntSS S34.sl v0_1 a0.clauses (p0_1.mono (i27.tr i35)) v1_1 a1.clauses (p1_1.mono (i27.tr i35)) hr39) ?_; rintro e w40 ⟨rfl, r41⟩; refine ⟨_, rfl, ?_⟩; have S42 := S34.call r41; refine FL.v (E.not rfl) ?_; refine FL.nil ?_; rcases ifB hp with ⟨c43, hp⟩ | ⟨c43, hp⟩
  ·
   refine FW.condT rfl c43 ?_; refine FW.sr ?_; refine FL.as (v := vB false) rfl ?_; refine FL.nil (FW.ret ?_); cases hp; exact ⟨.inr rfl, res1 rfl rfl ⟨rfl, S42.back⟩⟩
  ·
   refine FW.condF rfl c43 ?_; refine FW.skip (FW.sr ?_); refine FL.as (v := vB true) rfl ?_; refine FL.nil (FW.ret ?_); cases hp; exact ⟨.inr rfl, res1 rfl rfl ⟨rfl, S42.back⟩⟩

theorem w_laws_eqResStep {Ha : GH} {wa : World} (hs : Sl Ha wa) (a0 : ResStep) (v0_0 : Value) (p0_0 : RSl Ha eI 1 v0_0 a0.clause) (a1 : ResStep) (v1_0 : Value) (p1_0 : RSl Ha eI 1 v1_0 a1.clause) {r : Bool} (hp : (PF.laws_eqResStep a0 a1) = some r) :
  Calls prog 71 #[vA #[v0_0, vI a0.left, vI a0.right, vI a0.pivot], vA #[v1_0, vI a1.left, vI a1.right, vI a1.pivot]] wa (Sc Ha wa (vB r)) := by
 unfold PF.laws_eqResStep at hp; have S0 := St.init hs; refine calls_go (N := 26) (args := [vA #[v0_0, vI a0.left, vI a0.right, vI a0.pivot], vA #[v1_0, vI a1.left, vI a1.right, vI a1.pivot]]) func71 rfl rfl rfl ?_; refine FW.sr ?_; obtain ⟨b21, w22, run23, S24⟩ := S0.box (P := prog) 88 [v0_0, vI a0.left, vI a0.right, vI a0.pivot] (v := vA #[v0_0, vI a0.left, vI a0.right, vI a0.pivot]) rfl (oC p0_0.one (oC rfl (oC rfl (oC rfl ones_nil)))); refine FL.v (E.box rfl run23) ?_; obtain ⟨H25, S26, i27, at28⟩ := S24.sealBox (i := 0) (l' := []) rfl rfl; obtain ⟨b29, w30, run31, S32⟩ := S26.box (P := prog) 88 [v1_0, vI a1.left, vI a1.right, vI a1.pivot] (v := vA #[v1_0, vI a1.left, vI a1.right, vI a1.pivot]) rfl (oC p1_0.one (oC rfl (oC rfl (oC rfl ones_nil)))); refine FL.v (E.box rfl run31) ?_; obtain ⟨H33, S34, i35, at36⟩ := S32.sealBox (i := 0) (l' := []) rfl rfl; refine FL.as (v := vB false) rfl ?_; refine FL.nil (FW.seq (FW.sr ?_)); refine FL.v (E.fieldAddr tf88_0 rfl) ?_; refine FL.v (E.load rfl (run_load1 isAgg73 ((at28.mono i35).now S34.sl) rfl)) ?_; refine FL.v (E.fieldAddr tf88_0 rfl) ?_; refine FL.v (E.load rfl (run_load1 isAgg73 (at36.now S34.sl) rfl)) ?_; obtain ⟨r37, hr38, hp⟩ := bnd hp; refine FL.c (E.call call52 (A2 rfl rfl)) (w_laws_eqIntS S34.sl v0_0 a0.clause (p0_0.mono (i27.tr i35)) v1_0 a1.clause (p1_0.mono (i27.tr i35)) hr38) ?_; rintro e w39 ⟨rfl, r40⟩; refine ⟨_, rfl, ?_⟩; have S41 := S34.call r40; refine FL.v (E.not rfl) ?_; refine FL.nil ?_; rcases ifB hp with ⟨c42, hp⟩ | ⟨c42, hp⟩
 ·
  refine FW.condT rfl c42 ?_; refine FW.sr ?_; refine FL.as (v := vB false) rfl ?_; refine FL.nil (FW.ret ?_); cases hp; exact ⟨.inr rfl, res1 rfl rfl ⟨rfl, S41.back⟩⟩
 ·
  refine FW.condF rfl c42 ?_; refine FW.skip (FW.seq (FW.sr ?_)); refine FL.v (E.fieldAddr tf88_1 rfl) ?_; refine FL.v (E.load rfl (run_load1 isAgg3 ((at28.mono i35).now S41.sl) rfl)) ?_; refine FL.v (E.fieldAddr tf88_1 rfl) ?_; refine FL.v (E.load rfl (run_load1 isAgg3 (at36.now S41.sl) rfl)) ?_; refine FL.v (E.neq rfl rfl) ?_; refine FL.nil ?_; rcases ifB hp with ⟨c43, hp⟩ | ⟨c43, hp⟩
  ·
   refine FW.condT rfl c43 ?_; refine FW.sr ?_; refine FL.as (v := vB false) rfl ?_; refine FL.nil (FW.ret ?_); cases hp; exact ⟨.inr rfl, res1 rfl rfl ⟨rfl, S41.back⟩⟩
  ·
   refine FW.condF rfl c43 ?_; refine FW.skip (FW.seq (FW.sr ?_)); refine FL.v (E.fieldAddr tf88_2 rfl) ?_; refine FL.v (E.load rfl (run_load1 isAgg3 ((at28.mono i35).now S41.sl) rfl)) ?_; refine FL.v (E.fieldAddr tf88_2 rfl) ?_; refine FL.v (E.load rfl (run_load1 isAgg3 (at36.now S41.sl) rfl)) ?_; refine FL.v (E.neq rfl rfl) ?_; refine FL.nil ?_; rcases ifB hp with ⟨c44, hp⟩ | ⟨c44, hp⟩
   ·
    refine FW.condT rfl c44 ?_; refine FW.sr ?_; refine FL.as (v := vB false) rfl ?_; refine FL.nil (FW.ret ?_); cases hp; exact ⟨.inr rfl, res1 rfl rfl ⟨rfl, S41.back⟩⟩
   ·
    refine FW.condF rfl c44 ?_; refine FW.skip (FW.seq (FW.sr ?_)); refine FL.v (E.fieldAddr tf88_3 rfl) ?_; refine FL.v (E.load rfl (run_load1 isAgg3 ((at28.mono i35).now S41.sl) rfl)) ?_; refine FL.v (E.fieldAddr tf88_3 rfl) ?_; refine FL.v (E.load rfl (run_load1 isAgg3 (at36.now S41.sl) rfl)) ?_; refine FL.v (E.neq rfl rfl) ?_; refine FL.nil ?_; rcases ifB hp with ⟨c45, hp⟩ | ⟨c45, hp⟩
    ·
     refine FW.condT rfl c45 ?_; refine FW.sr ?_; refine FL.as (v := vB false) rfl ?_; refine FL.nil (FW.ret ?_); cases hp; exact ⟨.inr rfl, res1 rfl rfl ⟨rfl, S41.back⟩⟩
    ·
     refine FW.condF rfl c45 ?_; refine FW.skip (FW.sr ?_); refine FL.as (v := vB true) rfl ?_; refine FL.nil (FW.ret ?_); cases hp; exact ⟨.inr rfl, res1 rfl rfl ⟨rfl, S41.back⟩⟩

theorem w_laws_eqResStepS {Ha : GH} {wa : World} (hs : Sl Ha wa) (v0 : Value) (a0 : List ResStep) (p0 : RSl Ha eResStep 4 v0 a0) (v1 : Value) (a1 : List ResStep) (p1 : RSl Ha eResStep 4 v1 a1) {r : Bool} (hp : (PF.laws_eqResStepS a0 a1) = some r) :
  Calls prog 20 #[v0, v1] wa (Sc Ha wa (vB r)) := by
 unfold PF.laws_eqResStepS at hp; have S0 := St.init hs; refine calls_go (N := 27) (args := [v0, v1]) func20 rfl rfl rfl ?_; refine FW.sr ?_; refine FL.as (v := vB false) rfl ?_; refine FL.nil (FW.seq (FW.sr ?_)); refine FL.mv (v := v0) rfl ?_; refine FL.v (E.lenP te34 rfl p0) ?_; refine FL.mv (v := v1) rfl ?_; refine FL.v (E.lenP te34 rfl p1) ?_; refine FL.v (E.neq rfl rfl) ?_; refine FL.nil ?_; rcases ifB hp with ⟨c21, hp⟩ | ⟨c21, hp⟩
 ·
  refine FW.condT rfl c21 ?_; refine FW.sr ?_; refine FL.as (v := vB false) rfl ?_; refine FL.nil (FW.ret ?_); cases hp; exact ⟨.inr rfl, res1 rfl rfl ⟨rfl, S0.back⟩⟩
 ·
  refine FW.condF rfl c21 ?_; refine FW.skip (FW.seq (FW.sr ?_)); refine FL.as (v := vI 0) rfl ?_; refine FL.nil ?_; obtain ⟨q23, hq, hp⟩ := bndR hp; refine FW.block ?_; refine FW.mono (FW.forL (S := Unit) (X := Bool) (fun (i23 : Nat) (s23 : Unit) f w => ∃ H : GH, St Ha wa H w [] ∧ Inc Ha H ∧ f 5 = vI ((i23 : Nat) : Int) ∧ f 0 = v0 ∧ f 1 = v1) (fun q e f w => match q with | .go s23 => e = Exit.exit 0 ∧ (∃ H : GH, St Ha wa H w [] ∧ Inc Ha H) | .rt x => ((e = Exit.ret) ∧ (fun e f w => (e = Exit.normal ∨ e = Exit.ret) ∧ ∀ a, Fr (δ := []) 27 a f → ∃ v, (results Tryz.f20 a.tmps).run prog w = .ok v w ∧ (Sc Ha wa (vB x)) (.returned v) w) e f w)) hq ⟨_, S0, I0, rfl, rfl, rfl⟩ ?_ ?_) ?_
  ·
   clear hp hq; rintro i23 y22 s23 f61 w60 ⟨H57, S58, i59, k62, k63, k64⟩ hx23 o90 hp; refine FW.seq (FW.sr ?_); refine FL.mv k62 ?_; refine FL.mv k63 ?_; refine FL.v (E.lenP te34 rfl p0) ?_; refine FL.v (E.lssT rfl rfl (lss_len hx23)) ?_; refine FL.nil ?_; refine FW.condT rfl rfl ?_; refine FW.skip (FW.seq (FW.block (FW.seq ?_))); refine FW.draw (fun w' => Run w60.heap.size H57 w60 H57 w') (by kernel_rfl) (by kernel_rfl) (run_drew S58.sl) ?_; refine FD.v (fun _ z => (E.move k63)) ?_; refine FD.v (fun _ z => (E.move k62)) ?_; obtain ⟨p66, cs67, pt68, l69, at70, rel71⟩ := p0.at (ix_nat hx23); obtain ⟨v72, rfl, h73⟩ := eResStep_open rel71; refine FD.v (fun _ z => (E.indexAddr te34 rfl rfl pt68)) ?_; refine FD.v (fun _ z => (E.load rfl (run_loadA isAgg88 sizeOf88 ((at70.mono i59).now (S58.call z).sl) rfl))) ?_; refine FD.v (fun _ z => (E.move k64)) ?_; refine FD.v (fun _ z => (E.move k62)) ?_; obtain ⟨x80, hx81, hp⟩ := bnd hp; obtain ⟨p74, cs75, pt76, l77, at78, rel79⟩ := p1.at hx81; obtain ⟨v82, rfl, h83⟩ := eResStep_open rel79; refine FD.v (fun _ z => (E.indexAddr te34 rfl rfl pt76)) ?_; refine FD.v (fun _ z => (E.load rfl (run_loadA isAgg88 sizeOf88 ((at78.mono i59).now (S58.call z).sl) rfl))) ?_; obtain ⟨r84, hr85, hp⟩ := bnd hp; refine FD.call rfl rfl rfl (fun _ z => (E.call call71 (A2 rfl rfl))) (fun _ z => Calls.cls z (w_laws_eqResStep (S58.call z).sl y22 v72 (h73.mono i59) x80 v82 (h83.mono i59) hr85)) ?_; refine FD.v (fun _ z => (E.not rfl)) ?_; refine FD.nil ?_; intro w86 r88; have S87 := S58.call r88; rcases ifB hp with ⟨c89, hp⟩ | ⟨c89, hp⟩
   ·
    refine FW.condT rfl c89 ?_; refine FW.sr ?_; refine FL.as (v := vB false) rfl ?_; refine FL.nil (FW.ret ?_); cases hp; exact ⟨nofun, rfl, ⟨.inr rfl, res1 rfl rfl ⟨rfl, S87.back⟩⟩⟩
   ·
    refine FW.condF rfl c89 ?_; refine FW.skip (FW.region ?_); refine FL.mv k62 ?_; refine FL.v (E.add rfl rfl) ?_; refine FL.as (v := vI (wr (((i23 : Nat) : Int) + 1))) rfl ?_; refine FL.nil ?_; cases hp; exact ⟨rfl, ⟨_, S87, i59, (nat_succ rfl (lt_of_get hx23) (p0.mono i59).le), k63, k64⟩⟩
  ·
   clear hp hq; rintro s23 f100 w99 ⟨H96, S97, i98, k101, k102, k103⟩; refine FW.seq (FW.sr ?_); refine FL.mv k101 ?_; refine FL.mv k102 ?_; refine FL.v (E.lenP te34 rfl p0) ?_; refine FL.v (E.lss rfl rfl) ?_; refine FL.nil ?_; refine FW.condF rfl dlt_len ?_; refine FW.exit ?_; exact ⟨nofun, rfl, ⟨_, S97, i98⟩⟩
  ·
   clear hq; intro e f95 w94 hD; rcases q23 with s23 | x23
   ·
    obtain ⟨rfl, hD⟩ := hD; obtain ⟨H91, S92, i93⟩ := hD; replace hp := el_go hp; refine FW.sr ?_; refine FL.as (v := vB true) rfl ?_; refine FL.nil (FW.ret ?_); cases hp; exact ⟨.inr rfl, res1 rfl rfl ⟨rfl, S92.back⟩⟩
   ·
    obtain ⟨he, hL⟩ := hD; replace hp := el_rt hp; cases hp; subst he; exact hL

set_option maxHeartbeats 4000000 in
theorem w_laws_FnExactTranslatedDegree {Ha : GH} {wa : World} (hs : Sl Ha wa) (a0 : Int) (a1 : Cnf) (v1_1 : Value) (p1_1 : RSl Ha (eL eI 1) 1 v1_1 a1.clauses) (v2 : Value) (a2 : List ResStep) (p2 : RSl Ha eResStep 4 v2 a2) {r : Bool} (hp : (PF.laws_FnExactTranslatedDegree a0 a1 a2) = some r) :
  Calls prog 4 #[vI a0, vA #[vI a1.vars, v1_1], v2] wa (Sc Ha wa (vB r)) := by
 unfold PF.laws_FnExactTranslatedDegree at hp; have S0 := St.init hs; refine calls_go (N := 62) (args := [vI a0, vA #[vI a1.vars, v1_1], v2]) func4 rfl rfl rfl ?_; refine FW.sr ?_; obtain ⟨w21, run22, S23, z24⟩ := S0.boxB (P := prog) 24 [vI a1.vars, v1_1] (v := vA #[vI a1.vars, v1_1]) rfl (oC rfl (oC p1_1.one ones_nil)); refine FL.v (E.box rfl run22) ?_; obtain ⟨H25, S26, i27, at28⟩ := S23.sealBoxB (i := 0) (l' := []) rfl rfl; refine FL.as (v := vB false) rfl ?_; refine FL.nil (FW.sr ?_); refine FL.as (v := vI 1048576) rfl ?_; refine FL.nil (FW.sr ?_); refine FL.v (E.load rfl (run_loadA isAgg24 sizeOf24 ((at28.mono sgI).now S26.sl) rfl)) ?_; refine FL.mv (v := vI 1048576) rfl ?_; obtain ⟨r29, hr30, hp⟩ := bnd hp; refine FL.c (E.call call11 (A2 rfl rfl)) (w_laws_szCnf S26.sl a1 v1_1 (p1_1.mono i27) 1048576 hr30) ?_; rintro e w31 ⟨rfl, r32⟩; refine ⟨_, rfl, ?_⟩; have S33 := S26.call r32; have z34 := r32.bel.size; refine FL.as (v := vI r29) rfl ?_; refine FL.nil (FW.seq (FW.sr ?_)); refine FL.mv (v := vI r29) rfl ?_; refine FL.v (E.lss rfl rfl) ?_; refine FL.nil ?_; rcases ifB hp with ⟨c35, hp⟩ | ⟨c35, hp⟩
 ·
  refine FW.condT rfl c35 ?_; refine FW.sr ?_; refine FL.as (v := vB true) rfl ?_; refine FL.nil (FW.ret ?_); cases hp; exact ⟨.inr rfl, res1 rfl rfl ⟨rfl, S33.back⟩⟩
 ·
  refine FW.condF rfl c35 ?_; refine FW.skip (FW.sr ?_); refine FL.mv (v := v2) rfl ?_; refine FL.mv (v := vI r29) rfl ?_; obtain ⟨r36, hr37, hp⟩ := bnd hp; refine FL.c (E.call call12 (A2 rfl rfl)) (w_laws_szResStepS S33.sl v2 a2 (p2.mono i27) r29 hr37) ?_; rintro e w38 ⟨rfl, r39⟩; refine ⟨_, rfl, ?_⟩; have S40 := S33.call r39; have z41 := r39.bel.size; refine FL.as (v := vI r36) rfl ?_; refine FL.nil (FW.seq (FW.sr ?_)); refine FL.mv (v := vI r36) rfl ?_; refine FL.v (E.lss rfl rfl) ?_; refine FL.nil ?_; rcases ifB hp with ⟨c42, hp⟩ | ⟨c42, hp⟩
  ·
   refine FW.condT rfl c42 ?_; refine FW.sr ?_; refine FL.as (v := vB true) rfl ?_; refine FL.nil (FW.ret ?_); cases hp; exact ⟨.inr rfl, res1 rfl rfl ⟨rfl, S40.back⟩⟩
  ·
   refine FW.condF rfl c42 ?_; refine FW.skip (FW.sr ?_); refine FL.mv (v := vI a0) rfl ?_; refine FL.v (E.load rfl (run_loadA isAgg24 sizeOf24 ((at28.mono sgI).now S40.sl) rfl)) ?_; obtain ⟨r43, hr44, hp⟩ := bnd hp; refine FL.c (E.call call15 (A1 rfl)) (w_laws_toCnf S40.sl a1 v1_1 (p1_1.mono i27) hr44) ?_; rintro e w46 ⟨H45, v49, rfl, r48, ⟨c52, ns51⟩⟩; refine ⟨_, rfl, ?_⟩; have h50 := ns51.rsl; have nv53 : New H25 [v49] := New.of_up S40.sl h50.dom; have S47 := S40.call r48; have z54 := r48.bel.size; have h50 := h50.mono (sg_of S47.sl); have ns51 := ns51.mono (sg_of S47.sl); refine FL.mv (v := v2) rfl ?_; obtain ⟨r55, hr56, hp⟩ := bnd hp; refine FL.c (E.call call16 (A1 rfl)) (w_laws_toResStepS S47.sl v2 a2 (p2.mono (i27.tr r48.inc)) hr56) ?_; rintro e w58 ⟨H57, v61, n62, cs63, rfl, r60, els64, nd65⟩; refine ⟨_, rfl, ?_⟩; have nv66 : New H45 cs63 := New.of_up S47.sl els64.dom; obtain ⟨H67, r68, i69, ns72, nv71⟩ := r60.sealRowN (i := 0) (l' := []) rfl els64 nd65 (by decide) rfl; have h70 := ns72.rsl; have S59 := S47.call r68.run; have z73 := r68.run.bel.size; have h70 := h70.mono (sg_of S59.sl); have ns72 := ns72.mono (sg_of S59.sl); obtain ⟨r74, hr75, hp⟩ := bnd hp; refine FL.c (E.call call22 (A3 rfl rfl rfl)) (w_spec_TranslatedDegree S59.sl a0 r43 v49 (h50.mono (sgI.tr r68.run.inc)) v61 r55 (h70.mono sgI) hr75) ?_; rintro e w76 ⟨rfl, r77⟩; refine ⟨_, rfl, ?_⟩; have S78 := S59.call r77; have z79 := r77.bel.size; refine FL.mv (v := Value.tuple #[vI r74.1, vB r74.2]) rfl ?_; refine FL.v (E.extract (i := 0) rfl rfl) ?_; refine FL.v (E.extract (i := 1) rfl rfl) ?_; refine FL.as (v := vI r74.1) rfl ?_; refine FL.as (v := vB r74.2) rfl ?_; refine FL.nil (FW.sr ?_); refine FL.v (E.load rfl (run_loadA isAgg24 sizeOf24 ((at28.mono (sgI.tr (r48.inc.tr r68.run.inc))).now S78.sl) rfl)) ?_; obtain ⟨r80, hr81, hp⟩ := bnd hp; refine FL.c (E.call call15 (A1 rfl)) (w_laws_toCnf S78.sl a1 v1_1 (p1_1.mono ((i27.tr r48.inc).tr r68.run.inc)) hr81) ?_; rintro e w83 ⟨H82, v86, rfl, r85, ⟨c89, ns88⟩⟩; refine ⟨_, rfl, ?_⟩; have h87 := ns88.rsl; have nv90 : New H67 [v86] := New.of_up S78.sl h87.dom; have S84 := S78.call r85; have z91 := r85.bel.size; have h87 := h87.mono (sg_of S84.sl); have ns88 := ns88.mono (sg_of S84.sl); obtain ⟨w92, run93, S94, z95⟩ := S84.allocB (P := prog) 32 [vI 0, vN] zeroValue32 rfl (oC rfl (oC rfl ones_nil)); refine FL.v (E.alloc run93) ?_; obtain ⟨w96, run97, S98, z99⟩ := S94.store0B (P := prog) (t := 32) (i := 0) (cs' := [vI r80.vars, v86]) (l' := [.box w83.heap.size 32 [vI r80.vars, v86]]) (v := vA #[vI r80.vars, v86]) (c := [vI r80.vars, v86]) rfl sizeOf32 rfl rfl (oC rfl (oC h87.one ones_nil)) (nB rfl) rfl rfl; refine FL.act rfl rfl (E.store rfl rfl run97) ?_; obtain ⟨H100, S101, i102, at103⟩ := S98.sealBoxB (i := 0) (l' := []) rfl rfl; refine FL.nil (FW.sr ?_); refine FL.mv (v := v2) rfl ?_; obtain ⟨r104, hr105, hp⟩ := bnd hp; refine FL.c (E.call call16 (A1 rfl)) (w_laws_toResStepS S101.sl v2 a2 (p2.mono ((((i27.tr r48.inc).tr r68.run.inc).tr r85.inc).tr i102)) hr105) ?_; rintro e w107 ⟨H106, v110, n111, cs112, rfl, r109, els113, nd114⟩; refine ⟨_, rfl, ?_⟩; have nv115 : New H100 cs112 := New.of_up S101.sl els113.dom; obtain ⟨H116, r117, i118, ns121, nv120⟩ := r109.sealRowN (i := 0) (l' := []) rfl els113 nd114 (by decide) rfl; have h119 := ns121.rsl; have S108 := S101.call r117.run; have z122 := r117.run.bel.size; have h119 := h119.mono (sg_of S108.sl); have ns121 := ns121.mono (sg_of S108.sl); refine FL.as (v := v110) rfl ?_; refine FL.nil (FW.sr ?_); refine FL.mv (v := vI a0) rfl ?_; refine FL.v (E.load rfl (run_loadA isAgg32 sizeOf32 ((at103.mono (sgI.tr r117.run.inc)).now S108.sl) rfl)) ?_; refine FL.mv (v := v110) rfl ?_; obtain ⟨r123, hr124, hp⟩ := bnd hp; refine FL.c (E.call call23 (A3 rfl rfl rfl)) (w_impl_TranslatedDegree S108.sl a0 r80 v86 (h87.mono (sgI.tr (i102.tr r117.run.inc))) v110 r104 (h119.mono sgI) hr124) ?_; rintro e w125 ⟨rfl, r126⟩; refine ⟨_, rfl, ?_⟩; have S127 := S108.call r126; have z128 := r126.bel.size
   refine FL.mv (v := Value.tuple #[vI r123.1, vB r123.2]) rfl ?_; refine FL.v (E.extract (i := 0) rfl rfl) ?_; refine FL.v (E.extract (i := 1) rfl rfl) ?_; refine FL.as (v := vI r123.1) rfl ?_; refine FL.as (v := vB r123.2) rfl ?_; refine FL.nil (FW.seq (FW.sr ?_)); refine FL.mv (v := vI r123.1) rfl ?_; refine FL.mv (v := vI r74.1) rfl ?_; refine FL.v (E.neq rfl rfl) ?_; refine FL.mv (v := vB (!(r123.1 == r74.1))) rfl ?_; refine FL.cut 4 (fun f w => ∃ H : GH, St Ha wa H w [] ∧ Inc H116 H ∧ f 2 = v2 ∧ f 4 = vP (⟨wa.heap.size, 0, none⟩) ∧ f 10 = vP (⟨w83.heap.size, 0, none⟩) ∧ f 11 = v110 ∧ f 51 = vB (bif (!(r123.1 == r74.1)) then true else (!(r123.2 == r74.2)))) ?_ ?_
   ·
    rcases bcase (!(r123.1 == r74.1)) with c135 | c135
    ·
     refine FL.skip (wN c135) rfl ?_; refine FL.skip (wN c135) rfl ?_; refine FL.skip (wN c135) rfl ?_; refine FL.v (E.pickT rfl c135 rfl) ?_; exact FL.nil ⟨rfl, _, S127, I0, rfl, rfl, rfl, rfl, (congrArg vB (bifT c135).symm)⟩
    ·
     refine FL.y (wY c135) (E.move (v := vB r123.2) rfl) ?_; refine FL.y (wY c135) (E.move (v := vB r74.2) rfl) ?_; refine FL.y (wY c135) (E.neqB runUnderlying4 rfl rfl) ?_; refine FL.v (E.pickF rfl c135 rfl) ?_; exact FL.nil ⟨rfl, _, S127, I0, rfl, rfl, rfl, rfl, (congrArg vB (bifF c135).symm)⟩
   rintro f134 w133 ⟨H130, S131, i132, k136, k137, k138, k139, k140⟩; refine FL.nil ?_; rcases ifB hp with ⟨c141, hp⟩ | ⟨c141, hp⟩
   ·
    refine FW.condT k140 c141 ?_; refine FW.sr ?_; refine FL.as (v := vB false) rfl ?_; refine FL.nil (FW.ret ?_); cases hp; exact ⟨.inr rfl, res1 rfl rfl ⟨rfl, S131.back⟩⟩
   ·
    refine FW.condF k140 c141 ?_; refine FW.skip (FW.seq (FW.seq ?_)); obtain ⟨r129, hr145, hp⟩ := bnd hp; obtain ⟨r156, hr157, hp⟩ := bnd hp; refine FW.drawB (Sl H130) (fun f w => ∃ H : GH, St Ha wa H w [] ∧ Inc H130 H ∧ f 2 = v2 ∧ f 11 = v110 ∧ f 56 = vB (!r156)) (by kernel_rfl) S131.sl ?_ ?_
    ·
     intro w142 r143; have S144 := S131.call r143; refine FB.T 0 5 1 rfl S144.sl rfl (fun _ z => (E.load k138 (run_loadA isAgg32 sizeOf32 ((at103.mono (sgI.tr (r117.run.inc.tr i132))).now z) rfl))) ?_; refine FB.T 1 5 3 rfl S144.sl rfl (fun _ z => (E.load k137 (run_loadA isAgg24 sizeOf24 ((at28.mono (sgI.tr (((((r48.inc.tr r68.run.inc).tr r85.inc).tr i102).tr r117.run.inc).tr i132))).now z) rfl))) ?_; refine FB.all1 (i := 2) (by kernel_rfl) ?_
     ·
      refine FC.call (l' := (bs 5 7)) rfl (by kernel_rfl) rfl rfl rfl (E.call call15 (A1 rfl)) (w_laws_toCnf S144.sl a1 v1_1 (p1_1.mono ((((((i27.tr r48.inc).tr r68.run.inc).tr r85.inc).tr i102).tr r117.run.inc).tr i132)) hr145) ?_; rintro e w147 ⟨H146, v150, rfl, r149, ⟨c153, ns152⟩⟩; refine ⟨_, rfl, ?_⟩; have h151 := ns152.rsl; have nv154 : New H130 [v150] := New.of_up S144.sl h151.dom; have S148 := S144.call r149; have z155 := r149.bel.size; have h151 := h151.mono (sg_of S148.sl); have ns152 := ns152.mono (sg_of S148.sl); refine ⟨(SP.nil (Sl.of_inc r149.inc S148.sl)), ?_⟩; refine FB.all1 (i := 3) (by kernel_rfl) ?_
      ·
       refine FC.call (l' := (bs 5 15)) rfl (by kernel_rfl) rfl rfl rfl (E.call call19 (A2 rfl rfl)) (w_laws_eqCnf S148.sl r80 v86 (h87.mono (sgI.tr (((i102.tr r117.run.inc).tr i132).tr r149.inc))) r129 v150 (h151.mono sgI) hr157) ?_; rintro e w158 ⟨rfl, r159⟩; refine ⟨_, rfl, ?_⟩; have S160 := S148.call r159; have z161 := r159.bel.size; refine ⟨(SP.nil (Sl.of_inc r149.inc S160.sl)), ?_⟩; refine FB.T 4 5 31 rfl (Sl.of_inc r149.inc S160.sl) rfl (fun _ z => (E.not rfl)) ?_; exact FB.done (by kernel_rfl) ⟨_, S160, r149.inc, k136, k139, rfl⟩
    ·
     rintro f166 w165 ⟨H162, S163, i164, k167, k168, k169⟩; rcases ifB hp with ⟨c170, hp⟩ | ⟨c170, hp⟩
     ·
      refine FW.condT k169 c170 ?_; refine FW.sr ?_; refine FL.as (v := vB false) rfl ?_; refine FL.nil (FW.ret ?_); cases hp; exact ⟨.inr rfl, res1 rfl rfl ⟨rfl, S163.back⟩⟩
     ·
      refine FW.condF k169 c170 ?_; refine FW.skip (FW.seq (FW.sr ?_)); refine FL.mv k168 ?_; refine FL.mv k167 ?_; obtain ⟨r171, hr172, hp⟩ := bnd hp; refine FL.c (E.call call16 (A1 rfl)) (w_laws_toResStepS S163.sl v2 a2 (p2.mono (((((((i27.tr r48.inc).tr r68.run.inc).tr r85.inc).tr i102).tr r117.run.inc).tr i132).tr i164)) hr172) ?_; rintro e w174 ⟨H173, v177, n178, cs179, rfl, r176, els180, nd181⟩; refine ⟨_, rfl, ?_⟩; have nv182 : New H162 cs179 := New.of_up S163.sl els180.dom; obtain ⟨H183, r184, i185, ns188, nv187⟩ := r176.sealRowN (i := 0) (l' := []) rfl els180 nd181 (by decide) rfl; have h186 := ns188.rsl; have S175 := S163.call r184.run; have z189 := r184.run.bel.size; have h186 := h186.mono (sg_of S175.sl); have ns188 := ns188.mono (sg_of S175.sl); obtain ⟨r190, hr191, hp⟩ := bnd hp; refine FL.c (E.call call20 (A2 rfl rfl)) (w_laws_eqResStepS S175.sl v110 r104 (h119.mono (sgI.tr ((i132.tr i164).tr r184.run.inc))) v177 r171 (h186.mono sgI) hr191) ?_; rintro e w192 ⟨rfl, r193⟩; refine ⟨_, rfl, ?_⟩; have S194 := S175.call r193; have z195 := r193.bel.size; refine FL.v (E.not rfl) ?_; refine FL.nil ?_; rcases ifB hp with ⟨c196, hp⟩ | ⟨c196, hp⟩
      ·
       refine FW.condT rfl c196 ?_; refine FW.sr ?_; refine FL.as (v := vB false) rfl ?_; refine FL.nil (FW.ret ?_); cases hp; exact ⟨.inr rfl, res1 rfl rfl ⟨rfl, S194.back⟩⟩
      ·
       refine FW.condF rfl c196 ?_; refine FW.skip (FW.sr ?_); refine FL.as (v := vB true) rfl ?_; refine FL.nil (FW.ret ?_); cases hp; exact ⟨.inr rfl, res1 rfl rfl ⟨rfl, S194.back⟩⟩

end Go.Proofs
