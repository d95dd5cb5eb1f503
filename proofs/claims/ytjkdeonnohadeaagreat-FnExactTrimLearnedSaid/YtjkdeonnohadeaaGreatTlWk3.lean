/- Part of the walks and plain laws behind the claim: it proves helpers, under no condition beyond their own. -/
import Derived.Test.YtjkdeonnohadeaaGreatTlWk2
set_option linter.unusedVariables false
set_option maxRecDepth 100000
namespace Go.Proofs
open Go.Mr Go.Pu Go.PF Go.RowKit

set_option maxHeartbeats 4000000 in
theorem w_laws_FnExactTrimLearned {Ha : GH} {wa : World} (hs : Sl Ha wa) (a0 : Cnf) (v0_1 : Value) (p0_1 : RSl Ha (eL eI 1) 1 v0_1 a0.clauses) (v1 : Value) (a1 : List (List Int)) (p1 : RSl Ha (eL eI 1) 1 v1 a1) {r : Bool} (hp : (PF.laws_FnExactTrimLearned a0 a1) = some r) :
  Calls Tryz.prog 5 #[Value.agg #[Value.int .i64 a0.vars, v0_1], v1] wa (Sc Ha wa (Value.bool r)) := by
 unfold PF.laws_FnExactTrimLearned at hp
 have S0 := St.init hs
 refine calls_go (N := 119) (args := [Value.agg #[Value.int .i64 a0.vars, v0_1], v1]) Tryz.func5 rfl rfl rfl ?_
 refine FW.seq (FW.region ?_)
 obtain ⟨w21, run22, S23, z24⟩ := S0.boxB (P := Tryz.prog) 24 [Value.int .i64 a0.vars, v0_1] (v := Value.agg #[Value.int .i64 a0.vars, v0_1]) rfl (ones_cons rfl (ones_cons p0_1.one ones_nil))
 refine FL.v (E.box rfl run22) ?_
 obtain ⟨H25, S26, i27, at28⟩ := S23.sealBoxB (i := 0) (l' := []) rfl rfl
 refine FL.v (E.assign (v := Value.bool false) rfl) ?_
 refine FL.nil (FW.seq (FW.region ?_))
 refine FL.v (E.assign (v := Value.int .i64 1048576) rfl) ?_
 refine FL.nil (FW.seq (FW.region ?_))
 refine FL.v (E.load rfl (run_loadA Tryz.isAgg24 Tryz.sizeOf24 ((at28.mono sgI).now S26.sl) rfl)) ?_
 refine FL.v (E.move (v := Value.int .i64 1048576) rfl) ?_
 obtain ⟨r29, hr30, hp⟩ := bnd hp
 refine FL.call rfl rfl rfl (E.call Tryz.call7 (A2 rfl rfl)) (w_laws_szCnf S26.sl a0 v0_1 (p0_1.mono i27) 1048576 hr30) ?_
 rintro e w31 ⟨rfl, r32⟩
 refine ⟨_, rfl, ?_⟩
 have S33 := S26.call r32
 have z34 := r32.bel.size
 refine FL.v (E.assign (v := Value.int .i64 r29) rfl) ?_
 refine FL.nil (FW.seq (FW.seq (FW.region ?_)))
 refine FL.v (E.move (v := Value.int .i64 r29) rfl) ?_
 refine FL.v (E.lss rfl rfl) ?_
 refine FL.nil ?_
 rcases ifB hp with ⟨c35, hp⟩ | ⟨c35, hp⟩
 ·
  refine FW.condT rfl c35 ?_
  refine FW.seq (FW.region ?_)
  refine FL.v (E.assign (v := Value.bool true) rfl) ?_
  refine FL.nil ?_
  refine FW.ret ?_
  obtain rfl := Option.some.inj hp
  exact ⟨.inr rfl, res1 rfl rfl ⟨rfl, S33.back⟩⟩
 ·
  refine FW.condF rfl c35 ?_
  refine FW.skip (FW.seq (FW.region ?_))
  refine FL.v (E.move (v := v1) rfl) ?_
  refine FL.v (E.move (v := Value.int .i64 r29) rfl) ?_
  obtain ⟨r36, hr37, hp⟩ := bnd hp
  refine FL.call rfl rfl rfl (E.call Tryz.call20 (A2 rfl rfl)) (w_laws_szIntSS S33.sl v1 a1 (p1.mono i27) r29 hr37) ?_
  rintro e w38 ⟨rfl, r39⟩
  refine ⟨_, rfl, ?_⟩
  have S40 := S33.call r39
  have z41 := r39.bel.size
  refine FL.v (E.assign (v := Value.int .i64 r36) rfl) ?_
  refine FL.nil (FW.seq (FW.seq (FW.region ?_)))
  refine FL.v (E.move (v := Value.int .i64 r36) rfl) ?_
  refine FL.v (E.lss rfl rfl) ?_
  refine FL.nil ?_
  rcases ifB hp with ⟨c42, hp⟩ | ⟨c42, hp⟩
  ·
   refine FW.condT rfl c42 ?_
   refine FW.seq (FW.region ?_)
   refine FL.v (E.assign (v := Value.bool true) rfl) ?_
   refine FL.nil ?_
   refine FW.ret ?_
   obtain rfl := Option.some.inj hp
   exact ⟨.inr rfl, res1 rfl rfl ⟨rfl, S40.back⟩⟩
  ·
   refine FW.condF rfl c42 ?_
   refine FW.skip (FW.seq (FW.region ?_))
   refine FL.v (E.load rfl (run_loadA Tryz.isAgg24 Tryz.sizeOf24 ((at28.mono sgI).now S40.sl) rfl)) ?_
   obtain ⟨r43, hr44, hp⟩ := bnd hp
   refine FL.call rfl rfl rfl (E.call Tryz.call10 (A1 rfl)) (w_laws_toCnf S40.sl a0 v0_1 (p0_1.mono i27) hr44) ?_
   rintro e w46 ⟨H45, v49, rfl, r48, ⟨c52, ns51⟩⟩
   refine ⟨_, rfl, ?_⟩
   have h50 := ns51.rsl
   have nv53 : New H25 [v49] := New.of_up S40.sl h50.dom
   have S47 := S40.call r48
   have z54 := r48.bel.size
   have h50 := h50.mono (sg_of S47.sl)
   have ns51 := ns51.mono (sg_of S47.sl)
   refine FL.v (E.move (v := v1) rfl) ?_
   obtain ⟨r55, hr56, hp⟩ := bnd hp
   refine FL.call rfl rfl rfl (E.call Tryz.call22 (A1 rfl)) (w_laws_toIntSS S47.sl v1 a1 (p1.mono (i27.tr r48.inc)) hr56) ?_
   rintro e w58 ⟨H57, v61, n62, cs63, rfl, r60, els64, nd65⟩
   refine ⟨_, rfl, ?_⟩
   have nv66 : New H45 cs63 := New.of_up S47.sl els64.dom
   obtain ⟨H67, r68, i69, ns72, nv71⟩ := r60.sealRowN (i := 0) (l' := []) rfl els64 nd65 (by decide) rfl
   have h70 := ns72.rsl
   have S59 := S47.call r68.run
   have z73 := r68.run.bel.size
   have h70 := h70.mono (sg_of S59.sl)
   have ns72 := ns72.mono (sg_of S59.sl)
   obtain ⟨r74, hr75, hp⟩ := bnd hp
   refine FL.call rfl rfl rfl (E.call Tryz.call29 (A2 rfl rfl)) (w_spec_TrimLearned S59.sl r43 v49 (h50.mono (sgI.tr r68.run.inc)) v61 r55 (h70.mono sgI) hr75) ?_
   rintro e w77 ⟨H76, v80, n81, cs82, rfl, r79, els83, nd84⟩
   refine ⟨_, rfl, ?_⟩
   have nv85 : New H67 cs82 := New.of_up S59.sl els83.dom
   obtain ⟨H86, r87, i88, ns91, nv90⟩ := r79.sealRowN (i := 0) (l' := []) rfl els83 nd84 (by decide) rfl
   have h89 := ns91.rsl
   have S78 := S59.call r87.run
   have z92 := r87.run.bel.size
   have h89 := h89.mono (sg_of S78.sl)
   have ns91 := ns91.mono (sg_of S78.sl)
   refine FL.v (E.move (v := Value.tuple #[v80, Value.bool r74.2]) rfl) ?_
   refine FL.v (E.extract (i := 0) rfl rfl) ?_
   refine FL.v (E.extract (i := 1) rfl rfl) ?_
   refine FL.v (E.assign (v := v80) rfl) ?_
   refine FL.v (E.assign (v := Value.bool r74.2) rfl) ?_
   refine FL.nil (FW.seq (FW.region ?_))
   refine FL.v (E.load rfl (run_loadA Tryz.isAgg24 Tryz.sizeOf24 ((at28.mono (sgI.tr ((r48.inc.tr r68.run.inc).tr r87.run.inc))).now S78.sl) rfl)) ?_
   obtain ⟨r93, hr94, hp⟩ := bnd hp
   refine FL.call rfl rfl rfl (E.call Tryz.call10 (A1 rfl)) (w_laws_toCnf S78.sl a0 v0_1 (p0_1.mono (((i27.tr r48.inc).tr r68.run.inc).tr r87.run.inc)) hr94) ?_
   rintro e w96 ⟨H95, v99, rfl, r98, ⟨c102, ns101⟩⟩
   refine ⟨_, rfl, ?_⟩
   have h100 := ns101.rsl
   have nv103 : New H86 [v99] := New.of_up S78.sl h100.dom
   have S97 := S78.call r98
   have z104 := r98.bel.size
   have h100 := h100.mono (sg_of S97.sl)
   have ns101 := ns101.mono (sg_of S97.sl)
   obtain ⟨w105, run106, S107, z108⟩ := S97.allocB (P := Tryz.prog) 28 [Value.int .i64 0, Value.slice none 0 0] Tryz.zeroValue28 rfl (ones_cons rfl (ones_cons rfl ones_nil))
   refine FL.v (E.alloc run106) ?_
   obtain ⟨w109, run110, S111, z112⟩ := S107.store0B (P := Tryz.prog) (t := 28) (i := 0) (cs' := [Value.int .i64 r93.vars, v99]) (l' := [.box w96.heap.size 28 [Value.int .i64 r93.vars, v99]]) (v := Value.agg #[Value.int .i64 r93.vars, v99]) (c := [Value.int .i64 r93.vars, v99]) rfl Tryz.sizeOf28 rfl rfl (ones_cons rfl (ones_cons h100.one ones_nil)) (Nat.le_of_ble_eq_true rfl) rfl rfl
   refine FL.act rfl rfl (E.store rfl rfl run110) ?_
   obtain ⟨H113, S114, i115, at116⟩ := S111.sealBoxB (i := 0) (l' := []) rfl rfl
   refine FL.nil (FW.seq (FW.region ?_))
   refine FL.v (E.move (v := v1) rfl) ?_
   obtain ⟨r117, hr118, hp⟩ := bnd hp
   refine FL.call rfl rfl rfl (E.call Tryz.call22 (A1 rfl)) (w_laws_toIntSS S114.sl v1 a1 (p1.mono (((((i27.tr r48.inc).tr r68.run.inc).tr r87.run.inc).tr r98.inc).tr i115)) hr118) ?_
   rintro e w120 ⟨H119, v123, n124, cs125, rfl, r122, els126, nd127⟩
   refine ⟨_, rfl, ?_⟩
   have nv128 : New H113 cs125 := New.of_up S114.sl els126.dom
   obtain ⟨H129, r130, i131, ns134, nv133⟩ := r122.sealRowN (i := 0) (l' := []) rfl els126 nd127 (by decide) rfl
   have h132 := ns134.rsl
   have S121 := S114.call r130.run
   have z135 := r130.run.bel.size
   have h132 := h132.mono (sg_of S121.sl)
   have ns134 := ns134.mono (sg_of S121.sl)
   refine FL.v (E.assign (v := v123) rfl) ?_
   refine FL.nil (FW.seq (FW.region ?_))
   refine FL.v (E.load rfl (run_loadA Tryz.isAgg28 Tryz.sizeOf28 ((at116.mono (sgI.tr r130.run.inc)).now S121.sl) rfl)) ?_
   refine FL.v (E.move (v := v123) rfl) ?_
   obtain ⟨r136, hr137, hp⟩ := bnd hp
   refine FL.call rfl rfl rfl (E.call Tryz.call30 (A2 rfl rfl)) (w_impl_TrimLearned S121.sl r93 v99 (h100.mono (sgI.tr (i115.tr r130.run.inc))) v123 r117 (h132.mono sgI) hr137) ?_
   rintro e w139 ⟨H138, v142, n143, cs144, rfl, r141, els145, nd146⟩
   refine ⟨_, rfl, ?_⟩
   have nv147 : New H129 cs144 := New.of_up S121.sl els145.dom
   obtain ⟨H148, r149, i150, ns153, nv152⟩ := r141.sealRowN (i := 0) (l' := []) rfl els145 nd146 (by decide) rfl
   have h151 := ns153.rsl
   have S140 := S121.call r149.run
   have z154 := r149.run.bel.size
   have h151 := h151.mono (sg_of S140.sl)
   have ns153 := ns153.mono (sg_of S140.sl)
   refine FL.v (E.move (v := Value.tuple #[v142, Value.bool r136.2]) rfl) ?_
   refine FL.v (E.extract (i := 0) rfl rfl) ?_
   refine FL.v (E.extract (i := 1) rfl rfl) ?_
   refine FL.v (E.assign (v := v142) rfl) ?_
   refine FL.v (E.assign (v := Value.bool r136.2) rfl) ?_
   refine FL.nil (FW.seq (FW.seq (FW.region ?_)))
   refine FL.v (E.move (v := v142) rfl) ?_
   refine FL.v (E.move (v := v80) rfl) ?_
   obtain ⟨r155, hr156, hp⟩ := bnd hp
   refine FL.call rfl rfl rfl (E.call Tryz.call25 (A2 rfl rfl)) (w_laws_eqIntSS S140.sl v142 r136.1 (h151.mono sgI) v80 r74.1 (h89.mono (sgI.tr (((r98.inc.tr i115).tr r130.run.inc).tr r149.run.inc))) hr156) ?_
   rintro e w157 ⟨rfl, r158⟩
   refine ⟨_, rfl, ?_⟩
   have S159 := S140.call r158
   have z160 := r158.bel.size
   refine FL.v (E.not rfl) ?_
   refine FL.v (E.move (v := Value.bool (!r155)) rfl) ?_
   refine FL.cut 4 (fun f w => ∃ H : GH, St Ha wa H w [] ∧ Inc H148 H ∧ f 1 = v1 ∧ f 2 = Value.pointer (some ⟨wa.heap.size, 0, none⟩) ∧ f 6 = v80 ∧ f 7 = Value.bool r74.2 ∧ f 8 = Value.pointer (some ⟨w96.heap.size, 0, none⟩) ∧ f 9 = v123 ∧ f 10 = v142 ∧ f 11 = Value.bool r136.2 ∧ f 53 = Value.bool (bif (!r155) then true else (!(r136.2 == r74.2)))) ?_ ?_
   ·
    rcases bcase (!r155) with c167 | c167
    ·
     refine FL.skip (wF_no rfl rfl rfl c167) rfl ?_
     refine FL.skip (wF_no rfl rfl rfl c167) rfl ?_
     refine FL.skip (wF_no rfl rfl rfl c167) rfl ?_
     refine FL.v (E.pickT rfl c167 rfl) ?_
     exact FL.nil ⟨rfl, _, S159, (Inc.rfl _), rfl, rfl, rfl, rfl, rfl, rfl, rfl, rfl, (congrArg Value.bool (bifT c167).symm)⟩
    ·
     refine FL.val (wF_yes rfl rfl rfl c167) rfl rfl (E.move (v := Value.bool r136.2) rfl) ?_
     refine FL.val (wF_yes rfl rfl rfl c167) rfl rfl (E.move (v := Value.bool r74.2) rfl) ?_
     refine FL.val (wF_yes rfl rfl rfl c167) rfl rfl (E.neqB Tryz.runUnderlying4 rfl rfl) ?_
     refine FL.v (E.pickF rfl c167 rfl) ?_
     exact FL.nil ⟨rfl, _, S159, (Inc.rfl _), rfl, rfl, rfl, rfl, rfl, rfl, rfl, rfl, (congrArg Value.bool (bifF c167).symm)⟩
   rintro f166 w165 ⟨H162, S163, i164, k168, k169, k170, k171, k172, k173, k174, k175, k176⟩
   refine FL.nil ?_
   rcases ifB hp with ⟨c177, hp⟩ | ⟨c177, hp⟩
   ·
    refine FW.condT k176 c177 ?_
    refine FW.seq (FW.region ?_)
    refine FL.v (E.assign (v := Value.bool false) rfl) ?_
    refine FL.nil ?_
    refine FW.ret ?_
    obtain rfl := Option.some.inj hp
    exact ⟨.inr rfl, res1 rfl rfl ⟨rfl, S163.back⟩⟩
   ·
    refine FW.condF k176 c177 ?_
    refine FW.skip (FW.seq (FW.seq ?_))
    obtain ⟨r161, hr181, hp⟩ := bnd hp
    obtain ⟨r192, hr193, hp⟩ := bnd hp
    refine FW.drawB (Sl H162) (fun f w => ∃ H : GH, St Ha wa H w [] ∧ Inc H162 H ∧ f 1 = v1 ∧ f 2 = Value.pointer (some ⟨wa.heap.size, 0, none⟩) ∧ f 6 = v80 ∧ f 7 = Value.bool r74.2 ∧ f 8 = Value.pointer (some ⟨w96.heap.size, 0, none⟩) ∧ f 9 = v123 ∧ f 10 = v142 ∧ f 11 = Value.bool r136.2 ∧ f 58 = Value.bool (!r192)) (by kernel_rfl) S163.sl ?_ ?_
    ·
     intro w178 r179
     have S180 := S163.call r179
     refine FB.t (i := 0) (bs 5 1) rfl (SP.nil S180.sl) rfl (fun w' hw' => (E.load k172 (run_loadA Tryz.isAgg28 Tryz.sizeOf28 ((at116.mono (sgI.tr ((r130.run.inc.tr r149.run.inc).tr i164))).now hw') rfl))) ?_
     refine FB.t (i := 1) (bs 5 3) rfl (SP.nil S180.sl) rfl (fun w' hw' => (E.load k169 (run_loadA Tryz.isAgg24 Tryz.sizeOf24 ((at28.mono (sgI.tr (((((((r48.inc.tr r68.run.inc).tr r87.run.inc).tr r98.inc).tr i115).tr r130.run.inc).tr r149.run.inc).tr i164))).now hw') rfl))) ?_
     refine FB.all1 (i := 2) (by kernel_rfl) ?_
     ·
      refine FC.call (l' := (bs 5 7)) rfl (by kernel_rfl) rfl rfl rfl (E.call Tryz.call10 (A1 rfl)) (w_laws_toCnf S180.sl a0 v0_1 (p0_1.mono ((((((((i27.tr r48.inc).tr r68.run.inc).tr r87.run.inc).tr r98.inc).tr i115).tr r130.run.inc).tr r149.run.inc).tr i164)) hr181) ?_
      rintro e w183 ⟨H182, v186, rfl, r185, ⟨c189, ns188⟩⟩
      refine ⟨_, rfl, ?_⟩
      have h187 := ns188.rsl
      have nv190 : New H162 [v186] := New.of_up S180.sl h187.dom
      have S184 := S180.call r185
      have z191 := r185.bel.size
      have h187 := h187.mono (sg_of S184.sl)
      have ns188 := ns188.mono (sg_of S184.sl)
      refine ⟨(SP.nil (Sl.of_inc r185.inc S184.sl)), ?_⟩
      refine FB.all1 (i := 3) (by kernel_rfl) ?_
      ·
       refine FC.call (l' := (bs 5 15)) rfl (by kernel_rfl) rfl rfl rfl (E.call Tryz.call14 (A2 rfl rfl)) (w_laws_eqCnf S184.sl r93 v99 (h100.mono (sgI.tr ((((i115.tr r130.run.inc).tr r149.run.inc).tr i164).tr r185.inc))) r161 v186 (h187.mono sgI) hr193) ?_
       rintro e w194 ⟨rfl, r195⟩
       refine ⟨_, rfl, ?_⟩
       have S196 := S184.call r195
       have z197 := r195.bel.size
       refine ⟨(SP.nil (Sl.of_inc r185.inc S196.sl)), ?_⟩
       refine FB.t (i := 4) (bs 5 31) rfl (SP.nil (Sl.of_inc r185.inc S196.sl)) rfl (fun w' hw' => (E.not rfl)) ?_
       exact FB.done (by kernel_rfl) ⟨_, S196, r185.inc, k168, k169, k170, k171, k172, k173, k174, k175, rfl⟩
    ·
     rintro f202 w201 ⟨H198, S199, i200, k203, k204, k205, k206, k207, k208, k209, k210, k211⟩
     rcases ifB hp with ⟨c212, hp⟩ | ⟨c212, hp⟩
     ·
      refine FW.condT k211 c212 ?_
      refine FW.seq (FW.region ?_)
      refine FL.v (E.assign (v := Value.bool false) rfl) ?_
      refine FL.nil ?_
      refine FW.ret ?_
      obtain rfl := Option.some.inj hp
      exact ⟨.inr rfl, res1 rfl rfl ⟨rfl, S199.back⟩⟩
     ·
      refine FW.condF k211 c212 ?_
      refine FW.skip (FW.seq (FW.seq (FW.region ?_)))
      refine FL.v (E.move k208) ?_
      refine FL.v (E.move k203) ?_
      obtain ⟨r213, hr214, hp⟩ := bnd hp
      refine FL.call rfl rfl rfl (E.call Tryz.call22 (A1 rfl)) (w_laws_toIntSS S199.sl v1 a1 (p1.mono (((((((((i27.tr r48.inc).tr r68.run.inc).tr r87.run.inc).tr r98.inc).tr i115).tr r130.run.inc).tr r149.run.inc).tr i164).tr i200)) hr214) ?_
      rintro e w216 ⟨H215, v219, n220, cs221, rfl, r218, els222, nd223⟩
      refine ⟨_, rfl, ?_⟩
      have nv224 : New H198 cs221 := New.of_up S199.sl els222.dom
      obtain ⟨H225, r226, i227, ns230, nv229⟩ := r218.sealRowN (i := 0) (l' := []) rfl els222 nd223 (by decide) rfl
      have h228 := ns230.rsl
      have S217 := S199.call r226.run
      have z231 := r226.run.bel.size
      have h228 := h228.mono (sg_of S217.sl)
      have ns230 := ns230.mono (sg_of S217.sl)
      obtain ⟨r232, hr233, hp⟩ := bnd hp
      refine FL.call rfl rfl rfl (E.call Tryz.call25 (A2 rfl rfl)) (w_laws_eqIntSS S217.sl v123 r117 (h132.mono (sgI.tr (((r149.run.inc.tr i164).tr i200).tr r226.run.inc))) v219 r213 (h228.mono sgI) hr233) ?_
      rintro e w234 ⟨rfl, r235⟩
      refine ⟨_, rfl, ?_⟩
      have S236 := S217.call r235
      have z237 := r235.bel.size
      refine FL.v (E.not rfl) ?_
      refine FL.nil ?_
      rcases ifB hp with ⟨c238, hp⟩ | ⟨c238, hp⟩
      ·
       refine FW.condT rfl c238 ?_
       refine FW.seq (FW.region ?_)
       refine FL.v (E.assign (v := Value.bool false) rfl) ?_
       refine FL.nil ?_
       refine FW.ret ?_
       obtain rfl := Option.some.inj hp
       exact ⟨.inr rfl, res1 rfl rfl ⟨rfl, S236.back⟩⟩
      ·
       refine FW.condF rfl c238 ?_
       refine FW.skip (FW.seq (FW.region ?_))
       refine FL.v (E.assign (v := Value.int .i64 1) rfl) ?_
       refine FL.nil (FW.seq (FW.region ?_))
       refine FL.v (E.load k207 (run_loadA Tryz.isAgg28 Tryz.sizeOf28 ((at116.mono (sgI.tr ((((r130.run.inc.tr r149.run.inc).tr i164).tr i200).tr r226.run.inc))).now S236.sl) rfl)) ?_
       refine FL.v (E.move (v := Value.int .i64 1) rfl) ?_
       refine FL.call rfl rfl rfl (E.call Tryz.call16 (A2 rfl rfl)) (w_laws_markCnf S236 hs r93 v99 c102 (ns101.mono (sg_up (by omega) (((((i115.tr r130.run.inc).tr r149.run.inc).tr i164).tr i200).tr r226.run.inc))) 1) ?_
       rintro e w240 ⟨H239, c245, rfl, S241, ns247, hb246, o243⟩
       refine ⟨_, rfl, ?_⟩
       have o244 := (ns101.mono (sg_mono (hi := w96.heap.size) (((((i115.tr r130.run.inc).tr r149.run.inc).tr i164).tr i200).tr r226.run.inc))).outside o243
       have ns247 := ns101.span (eL_loc eI_flat) (by omega) ns247 hb246
       have h242 := ns247.rsl
       have f248 := at28.mono ((sg_mono (lo := wa.heap.size) (hi := wa.heap.size + 1) (((((((((r48.inc.tr r68.run.inc).tr r87.run.inc).tr r98.inc).tr i115).tr r130.run.inc).tr r149.run.inc).tr i164).tr i200).tr r226.run.inc)).tr (sg_keep o244 (by omega)))
       have f249 := h89.mono ((sg_mono (lo := w58.heap.size) (hi := w77.heap.size) ((((((r98.inc.tr i115).tr r130.run.inc).tr r149.run.inc).tr i164).tr i200).tr r226.run.inc)).tr (sg_keep o244 (by omega)))
       have f250 := ns91.mono ((sg_mono (lo := w58.heap.size) (hi := w77.heap.size) ((((((r98.inc.tr i115).tr r130.run.inc).tr r149.run.inc).tr i164).tr i200).tr r226.run.inc)).tr (sg_keep o244 (by omega)))
       have f251 := at116.mono ((sg_mono (lo := w96.heap.size) (hi := w96.heap.size + 1) ((((r130.run.inc.tr r149.run.inc).tr i164).tr i200).tr r226.run.inc)).tr (sg_keep o244 (by omega)))
       have f252 := h132.mono ((sg_mono (lo := w109.heap.size) (hi := w120.heap.size) (((r149.run.inc.tr i164).tr i200).tr r226.run.inc)).tr (sg_keep o244 (by omega)))
       have f253 := ns134.mono ((sg_mono (lo := w109.heap.size) (hi := w120.heap.size) (((r149.run.inc.tr i164).tr i200).tr r226.run.inc)).tr (sg_keep o244 (by omega)))
       have f254 := h151.mono ((sg_mono (lo := w120.heap.size) (hi := w139.heap.size) ((i164.tr i200).tr r226.run.inc)).tr (sg_keep o244 (by omega)))
       have f255 := ns153.mono ((sg_mono (lo := w120.heap.size) (hi := w139.heap.size) ((i164.tr i200).tr r226.run.inc)).tr (sg_keep o244 (by omega)))
       refine FL.v (E.assign (v := Value.int .i64 ((PF.laws_markCnf r93 1).2)) rfl) ?_
       refine FL.nil (FW.seq (FW.region ?_))
       refine FL.v (E.move k208) ?_
       refine FL.v (E.move (v := Value.int .i64 ((PF.laws_markCnf r93 1).2)) rfl) ?_
       refine FL.call rfl rfl rfl (E.call Tryz.call26 (A2 rfl rfl)) (w_laws_markIntSS S241 hs v123 r117 cs125 (f253.mono (sg_up (by omega) (Inc.rfl _))) ((PF.laws_markCnf r93 1).2)) ?_
       rintro e w257 ⟨H256, c262, rfl, S258, ns264, hb263, o260⟩
       refine ⟨_, rfl, ?_⟩
       have o261 := (f253.mono (sg_mono (hi := w120.heap.size) (Inc.rfl _))).outside o260
       have ns264 := f253.span (eL_loc eI_flat) (by omega) ns264 hb263
       have h259 := ns264.rsl
       have f265 := f248.mono ((sg_mono (lo := wa.heap.size) (hi := wa.heap.size + 1) (Inc.rfl _)).tr (sg_keep o261 (by omega)))
       have f266 := f249.mono ((sg_mono (lo := w58.heap.size) (hi := w77.heap.size) (Inc.rfl _)).tr (sg_keep o261 (by omega)))
       have f267 := f250.mono ((sg_mono (lo := w58.heap.size) (hi := w77.heap.size) (Inc.rfl _)).tr (sg_keep o261 (by omega)))
       have f268 := f251.mono ((sg_mono (lo := w96.heap.size) (hi := w96.heap.size + 1) (Inc.rfl _)).tr (sg_keep o261 (by omega)))
       have f269 := h242.mono ((sg_mono (lo := w77.heap.size) (hi := w96.heap.size) (Inc.rfl _)).tr (sg_keep o261 (by omega)))
       have f270 := ns247.mono ((sg_mono (lo := w77.heap.size) (hi := w96.heap.size) (Inc.rfl _)).tr (sg_keep o261 (by omega)))
       have f271 := f254.mono ((sg_mono (lo := w120.heap.size) (hi := w139.heap.size) (Inc.rfl _)).tr (sg_keep o261 (by omega)))
       have f272 := f255.mono ((sg_mono (lo := w120.heap.size) (hi := w139.heap.size) (Inc.rfl _)).tr (sg_keep o261 (by omega)))
       refine FL.v (E.assign (v := Value.int .i64 ((PF.laws_markIntSS r117 ((PF.laws_markCnf r93 1).2)).2)) rfl) ?_
       refine FL.nil (FW.seq (FW.seq (FW.region ?_)))
       refine FL.v (E.move (v := Value.int .i64 ((PF.laws_markIntSS r117 ((PF.laws_markCnf r93 1).2)).2)) rfl) ?_
       refine FL.v (E.lss rfl rfl) ?_
       refine FL.v (E.move (v := Value.bool (decide ((PF.laws_markIntSS r117 ((PF.laws_markCnf r93 1).2)).2 < 0))) rfl) ?_
       obtain ⟨t273, hqt273, hp⟩ := bnd hp
       refine FL.cut 5 (fun f w => ∃ H : GH, St Ha wa H w [] ∧ Inc H256 H ∧ f 1 = v1 ∧ f 2 = Value.pointer (some ⟨wa.heap.size, 0, none⟩) ∧ f 6 = v80 ∧ f 7 = Value.bool r74.2 ∧ f 10 = v142 ∧ f 11 = Value.bool r136.2 ∧ f 77 = Value.bool t273) ?_ ?_
       ·
        clear hp; have hp := hqt273; clear hqt273
        rcases ifB hp with ⟨c279, hp⟩ | ⟨c279, hp⟩
        ·
         refine FL.skip (wF_no rfl rfl rfl c279) rfl ?_
         refine FL.skip (wF_no rfl rfl rfl c279) rfl ?_
         refine FL.skip (wF_no rfl rfl rfl c279) rfl ?_
         refine FL.skip (wF_no rfl rfl rfl c279) rfl ?_
         obtain rfl := Option.some.inj hp
         refine FL.v (E.pickT rfl c279 rfl) ?_
         exact FL.nil ⟨rfl, _, S258, (Inc.rfl _), k203, k204, k205, k206, k209, k210, rfl⟩
        ·
         refine FL.val (wF_yes rfl rfl rfl c279) rfl rfl (E.move k209) ?_
         refine FL.val (wF_yes rfl rfl rfl c279) rfl rfl (E.move k205) ?_
         obtain ⟨r280, hr281, hp⟩ := bnd hp
         refine FL.call (wF_yes rfl rfl rfl c279) rfl rfl (E.call Tryz.call25 (A2 rfl rfl)) (w_laws_eqIntSS S258.sl v142 r136.1 (f271.mono sgI) v80 r74.1 (f266.mono sgI) hr281) ?_
         rintro e w282 ⟨rfl, r283⟩
         refine ⟨_, rfl, ?_⟩
         have S284 := S258.call r283
         have z285 := r283.bel.size
         refine FL.val (wF_yes rfl rfl rfl c279) rfl rfl (E.not rfl) ?_
         obtain rfl := Option.some.inj hp
         refine FL.v (E.pickF rfl c279 rfl) ?_
         exact FL.nil ⟨rfl, _, S284, (Inc.rfl _), k203, k204, k205, k206, k209, k210, rfl⟩
       rintro f278 w277 ⟨H274, S275, i276, k286, k287, k288, k289, k290, k291, k292⟩
       refine FL.v (E.move k292) ?_
       refine FL.cut 4 (fun f w => ∃ H : GH, St Ha wa H w [] ∧ Inc H274 H ∧ f 1 = v1 ∧ f 2 = Value.pointer (some ⟨wa.heap.size, 0, none⟩) ∧ f 6 = v80 ∧ f 7 = Value.bool r74.2 ∧ f 10 = v142 ∧ f 82 = Value.bool (bif t273 then true else (!(r136.2 == r74.2)))) ?_ ?_
       ·
        rcases bcase t273 with c298 | c298
        ·
         refine FL.skip (wF_no rfl rfl rfl c298) rfl ?_
         refine FL.skip (wF_no rfl rfl rfl c298) rfl ?_
         refine FL.skip (wF_no rfl rfl rfl c298) rfl ?_
         refine FL.v (E.pickT rfl c298 rfl) ?_
         exact FL.nil ⟨rfl, _, S275, (Inc.rfl _), k286, k287, k288, k289, k290, (congrArg Value.bool (bifT c298).symm)⟩
        ·
         refine FL.val (wF_yes rfl rfl rfl c298) rfl rfl (E.move k291) ?_
         refine FL.val (wF_yes rfl rfl rfl c298) rfl rfl (E.move k289) ?_
         refine FL.val (wF_yes rfl rfl rfl c298) rfl rfl (E.neqB Tryz.runUnderlying4 rfl rfl) ?_
         refine FL.v (E.pickF rfl c298 rfl) ?_
         exact FL.nil ⟨rfl, _, S275, (Inc.rfl _), k286, k287, k288, k289, k290, (congrArg Value.bool (bifF c298).symm)⟩
       rintro f297 w296 ⟨H293, S294, i295, k299, k300, k301, k302, k303, k304⟩
       refine FL.nil ?_
       rcases ifB hp with ⟨c305, hp⟩ | ⟨c305, hp⟩
       ·
        refine FW.condT k304 c305 ?_
        refine FW.seq (FW.region ?_)
        refine FL.v (E.assign (v := Value.bool false) rfl) ?_
        refine FL.nil ?_
        refine FW.ret ?_
        obtain rfl := Option.some.inj hp
        exact ⟨.inr rfl, res1 rfl rfl ⟨rfl, S294.back⟩⟩
       ·
        refine FW.condF k304 c305 ?_
        refine FW.skip (FW.seq (FW.region ?_))
        refine FL.v (E.assign (v := Value.int .i64 1) rfl) ?_
        refine FL.nil (FW.seq (FW.region ?_))
        refine FL.v (E.move k303) ?_
        refine FL.v (E.move (v := Value.int .i64 1) rfl) ?_
        refine FL.call rfl rfl rfl (E.call Tryz.call26 (A2 rfl rfl)) (w_laws_markIntSS S294 hs v142 r136.1 cs144 (f272.mono (sg_up (by omega) (i276.tr i295))) 1) ?_
        rintro e w307 ⟨H306, c312, rfl, S308, ns314, hb313, o310⟩
        refine ⟨_, rfl, ?_⟩
        have o311 := (f272.mono (sg_mono (hi := w139.heap.size) (i276.tr i295))).outside o310
        have ns314 := f272.span (eL_loc eI_flat) (by omega) ns314 hb313
        have h309 := ns314.rsl
        have f315 := f265.mono ((sg_mono (lo := wa.heap.size) (hi := wa.heap.size + 1) (i276.tr i295)).tr (sg_keep o311 (by omega)))
        have f316 := f266.mono ((sg_mono (lo := w58.heap.size) (hi := w77.heap.size) (i276.tr i295)).tr (sg_keep o311 (by omega)))
        have f317 := f267.mono ((sg_mono (lo := w58.heap.size) (hi := w77.heap.size) (i276.tr i295)).tr (sg_keep o311 (by omega)))
        refine FL.v (E.assign (v := Value.int .i64 ((PF.laws_markIntSS r136.1 1).2)) rfl) ?_
        refine FL.nil (FW.seq (FW.region ?_))
        refine FL.v (E.assign (v := Value.int .i64 1) rfl) ?_
        refine FL.nil (FW.seq (FW.region ?_))
        refine FL.v (E.move k303) ?_
        refine FL.v (E.move (v := Value.int .i64 1) rfl) ?_
        obtain ⟨r318, hr319, hp⟩ := bnd hp
        refine FL.call rfl rfl rfl (E.call Tryz.call31 (A2 rfl rfl)) (w_laws_heldIntSS S308.sl v142 ((PF.laws_markIntSS r136.1 1).1) (h309.mono sgI) 1 hr319) ?_
        rintro e w320 ⟨rfl, r321⟩
        refine ⟨_, rfl, ?_⟩
        have S322 := S308.call r321
        have z323 := r321.bel.size
        refine FL.v (E.assign (v := Value.int .i64 r318) rfl) ?_
        refine FL.nil (FW.seq (FW.seq (FW.region ?_)))
        refine FL.v (E.move (v := Value.int .i64 r318) rfl) ?_
        refine FL.v (E.lss rfl rfl) ?_
        refine FL.nil ?_
        rcases ifB hp with ⟨c324, hp⟩ | ⟨c324, hp⟩
        ·
         refine FW.condT rfl c324 ?_
         refine FW.seq (FW.region ?_)
         refine FL.v (E.assign (v := Value.bool false) rfl) ?_
         refine FL.nil ?_
         refine FW.ret ?_
         obtain rfl := Option.some.inj hp
         exact ⟨.inr rfl, res1 rfl rfl ⟨rfl, S322.back⟩⟩
        ·
         refine FW.condF rfl c324 ?_
         refine FW.skip (FW.seq (FW.seq (FW.region ?_)))
         refine FL.v (E.move (v := Value.int .i64 r318) rfl) ?_
         refine FL.v (E.move (v := Value.int .i64 ((PF.laws_markIntSS r136.1 1).2)) rfl) ?_
         refine FL.v (E.neq rfl rfl) ?_
         refine FL.nil ?_
         rcases ifB hp with ⟨c325, hp⟩ | ⟨c325, hp⟩
         ·
          refine FW.condT rfl c325 ?_
          refine FW.seq (FW.region ?_)
          refine FL.v (E.assign (v := Value.bool false) rfl) ?_
          refine FL.nil ?_
          refine FW.ret ?_
          obtain rfl := Option.some.inj hp
          exact ⟨.inr rfl, res1 rfl rfl ⟨rfl, S322.back⟩⟩
         ·
          refine FW.condF rfl c325 ?_
          refine FW.skip (FW.seq (FW.region ?_))
          refine FL.v (E.load k300 (run_loadA Tryz.isAgg24 Tryz.sizeOf24 ((f315.mono sgI).now S322.sl) rfl)) ?_
          obtain ⟨r326, hr327, hp⟩ := bnd hp
          refine FL.call rfl rfl rfl (E.call Tryz.call10 (A1 rfl)) (w_laws_toCnf S322.sl a0 v0_1 (p0_1.mono S308.inc) hr327) ?_
          rintro e w329 ⟨H328, v332, rfl, r331, ⟨c335, ns334⟩⟩
          refine ⟨_, rfl, ?_⟩
          have h333 := ns334.rsl
          have nv336 : New H306 [v332] := New.of_up S322.sl h333.dom
          have S330 := S322.call r331
          have z337 := r331.bel.size
          have h333 := h333.mono (sg_of S330.sl)
          have ns334 := ns334.mono (sg_of S330.sl)
          refine FL.v (E.move k299) ?_
          obtain ⟨r338, hr339, hp⟩ := bnd hp
          refine FL.call rfl rfl rfl (E.call Tryz.call22 (A1 rfl)) (w_laws_toIntSS S330.sl v1 a1 (p1.mono (S308.inc.tr r331.inc)) hr339) ?_
          rintro e w341 ⟨H340, v344, n345, cs346, rfl, r343, els347, nd348⟩
          refine ⟨_, rfl, ?_⟩
          have nv349 : New H328 cs346 := New.of_up S330.sl els347.dom
          obtain ⟨H350, r351, i352, ns355, nv354⟩ := r343.sealRowN (i := 0) (l' := []) rfl els347 nd348 (by decide) rfl
          have h353 := ns355.rsl
          have S342 := S330.call r351.run
          have z356 := r351.run.bel.size
          have h353 := h353.mono (sg_of S342.sl)
          have ns355 := ns355.mono (sg_of S342.sl)
          obtain ⟨r357, hr358, hp⟩ := bnd hp
          refine FL.call rfl rfl rfl (E.call Tryz.call30 (A2 rfl rfl)) (w_impl_TrimLearned S342.sl r326 v332 (h333.mono (sgI.tr r351.run.inc)) v344 r338 (h353.mono sgI) hr358) ?_
          rintro e w360 ⟨H359, v363, n364, cs365, rfl, r362, els366, nd367⟩
          refine ⟨_, rfl, ?_⟩
          have nv368 : New H350 cs365 := New.of_up S342.sl els366.dom
          obtain ⟨H369, r370, i371, ns374, nv373⟩ := r362.sealRowN (i := 0) (l' := []) rfl els366 nd367 (by decide) rfl
          have h372 := ns374.rsl
          have S361 := S342.call r370.run
          have z375 := r370.run.bel.size
          have h372 := h372.mono (sg_of S361.sl)
          have ns374 := ns374.mono (sg_of S361.sl)
          refine FL.v (E.move (v := Value.tuple #[v363, Value.bool r357.2]) rfl) ?_
          refine FL.v (E.extract (i := 0) rfl rfl) ?_
          refine FL.v (E.extract (i := 1) rfl rfl) ?_
          refine FL.v (E.assign (v := v363) rfl) ?_
          refine FL.v (E.assign (v := Value.bool r357.2) rfl) ?_
          refine FL.nil (FW.seq (FW.seq (FW.region ?_)))
          refine FL.v (E.move (v := v363) rfl) ?_
          refine FL.v (E.move k301) ?_
          obtain ⟨r376, hr377, hp⟩ := bnd hp
          refine FL.call rfl rfl rfl (E.call Tryz.call25 (A2 rfl rfl)) (w_laws_eqIntSS S361.sl v363 r357.1 (h372.mono sgI) v80 r74.1 (f316.mono (sgI.tr ((r331.inc.tr r351.run.inc).tr r370.run.inc))) hr377) ?_
          rintro e w378 ⟨rfl, r379⟩
          refine ⟨_, rfl, ?_⟩
          have S380 := S361.call r379
          have z381 := r379.bel.size
          refine FL.v (E.not rfl) ?_
          refine FL.v (E.move (v := Value.bool (!r376)) rfl) ?_
          refine FL.cut 4 (fun f w => ∃ H : GH, St Ha wa H w [] ∧ Inc H369 H ∧ f 10 = v142 ∧ f 13 = Value.int .i64 ((PF.laws_markIntSS r136.1 1).2) ∧ f 110 = Value.bool (bif (!r376) then true else (!(r357.2 == r74.2)))) ?_ ?_
          ·
           rcases bcase (!r376) with c387 | c387
           ·
            refine FL.skip (wF_no rfl rfl rfl c387) rfl ?_
            refine FL.skip (wF_no rfl rfl rfl c387) rfl ?_
            refine FL.skip (wF_no rfl rfl rfl c387) rfl ?_
            refine FL.v (E.pickT rfl c387 rfl) ?_
            exact FL.nil ⟨rfl, _, S380, (Inc.rfl _), k303, rfl, (congrArg Value.bool (bifT c387).symm)⟩
           ·
            refine FL.val (wF_yes rfl rfl rfl c387) rfl rfl (E.move (v := Value.bool r357.2) rfl) ?_
            refine FL.val (wF_yes rfl rfl rfl c387) rfl rfl (E.move k302) ?_
            refine FL.val (wF_yes rfl rfl rfl c387) rfl rfl (E.neqB Tryz.runUnderlying4 rfl rfl) ?_
            refine FL.v (E.pickF rfl c387 rfl) ?_
            exact FL.nil ⟨rfl, _, S380, (Inc.rfl _), k303, rfl, (congrArg Value.bool (bifF c387).symm)⟩
          rintro f386 w385 ⟨H382, S383, i384, k388, k389, k390⟩
          refine FL.nil ?_
          rcases ifB hp with ⟨c391, hp⟩ | ⟨c391, hp⟩
          ·
           refine FW.condT k390 c391 ?_
           refine FW.seq (FW.region ?_)
           refine FL.v (E.assign (v := Value.bool false) rfl) ?_
           refine FL.nil ?_
           refine FW.ret ?_
           obtain rfl := Option.some.inj hp
           exact ⟨.inr rfl, res1 rfl rfl ⟨rfl, S383.back⟩⟩
          ·
           refine FW.condF k390 c391 ?_
           refine FW.skip (FW.seq (FW.region ?_))
           refine FL.v (E.assign (v := Value.int .i64 1) rfl) ?_
           refine FL.nil (FW.seq (FW.region ?_))
           refine FL.v (E.move k388) ?_
           refine FL.v (E.move (v := Value.int .i64 1) rfl) ?_
           obtain ⟨r392, hr393, hp⟩ := bnd hp
           refine FL.call rfl rfl rfl (E.call Tryz.call31 (A2 rfl rfl)) (w_laws_heldIntSS S383.sl v142 ((PF.laws_markIntSS r136.1 1).1) (h309.mono (sgI.tr (((r331.inc.tr r351.run.inc).tr r370.run.inc).tr i384))) 1 hr393) ?_
           rintro e w394 ⟨rfl, r395⟩
           refine ⟨_, rfl, ?_⟩
           have S396 := S383.call r395
           have z397 := r395.bel.size
           refine FL.v (E.assign (v := Value.int .i64 r392) rfl) ?_
           refine FL.nil (FW.seq (FW.seq (FW.region ?_)))
           refine FL.v (E.move (v := Value.int .i64 r392) rfl) ?_
           refine FL.v (E.lss rfl rfl) ?_
           refine FL.nil ?_
           rcases ifB hp with ⟨c398, hp⟩ | ⟨c398, hp⟩
           ·
            refine FW.condT rfl c398 ?_
            refine FW.seq (FW.region ?_)
            refine FL.v (E.assign (v := Value.bool false) rfl) ?_
            refine FL.nil ?_
            refine FW.ret ?_
            obtain rfl := Option.some.inj hp
            exact ⟨.inr rfl, res1 rfl rfl ⟨rfl, S396.back⟩⟩
           ·
            refine FW.condF rfl c398 ?_
            refine FW.skip (FW.seq (FW.seq (FW.region ?_)))
            refine FL.v (E.move (v := Value.int .i64 r392) rfl) ?_
            refine FL.v (E.move k389) ?_
            refine FL.v (E.neq rfl rfl) ?_
            refine FL.nil ?_
            rcases ifB hp with ⟨c399, hp⟩ | ⟨c399, hp⟩
            ·
             refine FW.condT rfl c399 ?_
             refine FW.seq (FW.region ?_)
             refine FL.v (E.assign (v := Value.bool false) rfl) ?_
             refine FL.nil ?_
             refine FW.ret ?_
             obtain rfl := Option.some.inj hp
             exact ⟨.inr rfl, res1 rfl rfl ⟨rfl, S396.back⟩⟩
            ·
             refine FW.condF rfl c399 ?_
             refine FW.skip (FW.seq (FW.region ?_))
             refine FL.v (E.assign (v := Value.bool true) rfl) ?_
             refine FL.nil ?_
             refine FW.ret ?_
             obtain rfl := Option.some.inj hp
             exact ⟨.inr rfl, res1 rfl rfl ⟨rfl, S396.back⟩⟩

end Go.Proofs
