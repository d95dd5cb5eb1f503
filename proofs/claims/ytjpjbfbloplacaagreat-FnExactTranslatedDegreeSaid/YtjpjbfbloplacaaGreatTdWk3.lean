/- Part of the walks and plain laws behind the claim: it proves helpers, under no condition beyond their own. -/
import Derived.Test.YtjpjbfbloplacaaGreatTdWk2
set_option linter.unusedVariables false
set_option maxRecDepth 100000
namespace Go.Proofs
open Go.Mr Go.Pu Go.PF Go.RowKit Tryz

set_option maxHeartbeats 4000000 in
theorem w_spec_l20Correct {Ha : GH} {wa : World} (hs : Sl Ha wa) (a0 : Int) (a1 : Cnf) (v1_1 : Value) (p1_1 : RSl Ha (eL eI 1) 1 v1_1 a1.clauses) (v2 : Value) (a2 : List PcStep) (p2 : RSl Ha ePcStep 6 v2 a2) (a3 : Int) {r : Bool} (hp : (PF.spec_l20Correct a0 a1 a2 a3) = some r) :
  Calls prog 178 #[vI a0, vA #[vI a1.vars, v1_1], v2, vI a3] wa (Sc Ha wa (vB r)) := by
 unfold PF.spec_l20Correct at hp; have S0 := St.init hs; refine calls_go (N := 161) (args := [vI a0, vA #[vI a1.vars, v1_1], v2, vI a3]) func178 rfl rfl rfl ?_; refine FW.sr ?_; obtain ⟨b21, w22, run23, S24⟩ := S0.box (P := prog) 32 [vI a1.vars, v1_1] (v := vA #[vI a1.vars, v1_1]) rfl (oC rfl (oC p1_1.one ones_nil)); refine FL.v (E.box rfl run23) ?_; obtain ⟨H25, S26, i27, at28⟩ := S24.sealBox (i := 0) (l' := []) rfl rfl; refine FL.as (v := vB false) rfl ?_; refine FL.nil (FW.sr ?_); refine FL.mv (v := v2) rfl ?_; refine FL.mv (v := vI a3) rfl ?_; obtain ⟨x35, hx36, hp⟩ := bnd hp; obtain ⟨p29, cs30, pt31, l32, at33, rel34⟩ := p2.at hx36; obtain ⟨v37, rfl, h38⟩ := ePcStep_open rel34; refine FL.v (E.indexAddr te36 rfl rfl pt31) ?_; refine FL.v (E.load rfl (run_loadA isAgg90 sizeOf90 ((at33.mono i27).now S26.sl) rfl)) ?_; obtain ⟨b39, w40, run41, S42⟩ := S26.alloc (P := prog) 90 [vI 0, vN, vI 0, vI 0, vI 0, vI 0] zeroValue90 rfl (oC rfl (oC rfl (oC rfl (oC rfl (oC rfl (oC rfl ones_nil)))))); refine FL.v (E.alloc run41) ?_; obtain ⟨w43, run44, S45⟩ := S42.store0 (P := prog) (t := 90) (i := 0) (cs' := [vI x35.kind, v37, vI x35.a, vI x35.b, vI x35.x, vI x35.y]) (l' := [.box b39 90 [vI x35.kind, v37, vI x35.a, vI x35.b, vI x35.x, vI x35.y]]) (v := vA #[vI x35.kind, v37, vI x35.a, vI x35.b, vI x35.x, vI x35.y]) (c := [vI x35.kind, v37, vI x35.a, vI x35.b, vI x35.x, vI x35.y]) rfl sizeOf90 rfl rfl (oC rfl (oC h38.one (oC rfl (oC rfl (oC rfl (oC rfl ones_nil)))))) (nB rfl) rfl rfl; refine FL.act rfl rfl (E.store rfl rfl run44) ?_; obtain ⟨H46, S47, i48, at49⟩ := S45.sealBox (i := 0) (l' := []) rfl rfl; refine FL.nil (FW.seq (FW.sr ?_)); refine FL.mv (v := vI a0) rfl ?_; refine FL.v (E.fieldAddr tf32_0 rfl) ?_; refine FL.v (E.load rfl (run_load1 isAgg3 ((at28.mono i48).now S47.sl) rfl)) ?_; refine FL.v (E.fieldAddr tf90_1 rfl) ?_; refine FL.v (E.load rfl (run_load1 isAgg55 (at49.now S47.sl) rfl)) ?_; obtain ⟨r50, hr51, hp⟩ := bnd hp; refine FL.c (E.call call92 (A3 rfl rfl rfl)) (w_spec_l18Good S47.sl a0 a1.vars v37 x35.poly (h38.mono (i27.tr i48)) hr51) ?_; rintro e w52 ⟨rfl, r53⟩; refine ⟨_, rfl, ?_⟩; have S54 := S47.call r53; refine FL.v (E.not rfl) ?_; refine FL.nil ?_; rcases ifB hp with ⟨c55, hp⟩ | ⟨c55, hp⟩
 ·
  refine FW.condT rfl c55 ?_; refine FW.sr ?_; refine FL.as (v := vB false) rfl ?_; refine FL.nil (FW.ret ?_); cases hp; exact ⟨.inr rfl, res1 rfl rfl ⟨rfl, S54.back⟩⟩
 ·
  refine FW.condF rfl c55 ?_; refine FW.skip (FW.seq (FW.sr ?_)); refine FL.v (E.fieldAddr tf90_0 rfl) ?_; refine FL.v (E.load rfl (run_load1 isAgg3 (at49.now S54.sl) rfl)) ?_; refine FL.v (E.eql rfl rfl) ?_; refine FL.nil ?_; rcases ifB hp with ⟨c56, hp⟩ | ⟨c56, hp⟩
  ·
   refine FW.condT rfl c56 ?_; refine FW.seq ?_; obtain ⟨t56_36, hqt56_36, hp⟩ := bnd hp; refine FW.drawB (Sl H46) (fun f w => ∃ H : GH, St Ha wa H w [] ∧ Inc H46 H ∧ f 8 = vB t56_36) (by kernel_rfl) S54.sl ?_ ?_
   ·
    intro w57 r58; have S59 := S54.call r58; refine FB.T 0 38 1 rfl S59.sl rfl (fun _ z => (E.fieldAddr tf90_3 rfl)) ?_; refine FB.T 1 38 3 rfl S59.sl rfl (fun _ z => (E.load rfl (run_load1 isAgg3 (at49.now z) rfl))) ?_; refine FB.T 2 38 7 rfl S59.sl rfl (fun _ z => (E.eql rfl rfl)) ?_; refine FB.T 3 38 15 rfl S59.sl rfl (fun _ z => (E.move (v := vB (x35.b == 0)) rfl)) ?_; rcases bcase (x35.b == 0) with hc56_3 | hc56_3
    ·
     refine FB.T 4 38 31 rfl S59.sl (wY hc56_3) (fun _ z => (E.fieldAddr tf90_4 rfl)) ?_; refine FB.T 5 38 63 rfl S59.sl (wY hc56_3) (fun _ z => (E.load rfl (run_load1 isAgg3 (at49.now z) rfl))) ?_; refine FB.T 6 38 127 rfl S59.sl (wY hc56_3) (fun _ z => (E.eql rfl rfl)) ?_; refine FB.T 7 38 255 rfl S59.sl rfl (fun _ z => (E.asB (b := (bif (x35.b == 0) then (x35.x == 0) else false)) (E.pickT rfl hc56_3 rfl) (bifT hc56_3).symm)) ?_; refine FB.T 8 38 511 rfl S59.sl rfl (fun _ z => (E.move (v := vB (bif (x35.b == 0) then (x35.x == 0) else false)) rfl)) ?_; rcases bcase (bif (x35.b == 0) then (x35.x == 0) else false) with hc56_8 | hc56_8
     ·
      refine FB.T 9 38 1023 rfl S59.sl (wY hc56_8) (fun _ z => (E.fieldAddr tf90_5 rfl)) ?_; refine FB.T 10 38 2047 rfl S59.sl (wY hc56_8) (fun _ z => (E.load rfl (run_load1 isAgg3 (at49.now z) rfl))) ?_; refine FB.T 11 38 4095 rfl S59.sl (wY hc56_8) (fun _ z => (E.eql rfl rfl)) ?_; refine FB.T 12 38 8191 rfl S59.sl rfl (fun _ z => (E.asB (b := (bif (bif (x35.b == 0) then (x35.x == 0) else false) then (x35.y == 0) else false)) (E.pickT rfl hc56_8 rfl) (bifT hc56_8).symm)) ?_; refine FB.T 13 38 16383 rfl S59.sl rfl (fun _ z => (E.move (v := vB (bif (bif (x35.b == 0) then (x35.x == 0) else false) then (x35.y == 0) else false)) rfl)) ?_; rcases bcase (bif (bif (x35.b == 0) then (x35.x == 0) else false) then (x35.y == 0) else false) with hc56_13 | hc56_13
      ·
       refine FB.T 14 38 32767 rfl S59.sl (wY hc56_13) (fun _ z => (E.fieldAddr tf90_2 rfl)) ?_; refine FB.T 15 38 65535 rfl S59.sl (wY hc56_13) (fun _ z => (E.load rfl (run_load1 isAgg3 (at49.now z) rfl))) ?_; refine FB.T 16 38 131071 rfl S59.sl (wY hc56_13) (fun _ z => (E.fieldAddr tf32_1 rfl)) ?_; refine FB.T 17 38 262143 rfl S59.sl (wY hc56_13) (fun _ z => (E.load rfl (run_load1 isAgg22 ((at28.mono i48).now z) rfl))) ?_; refine FB.T 18 38 524287 rfl S59.sl (wY hc56_13) (fun _ z => (E.lenP te22 rfl p1_1)) ?_; refine FB.T 19 38 1048575 rfl S59.sl (wY hc56_13) (fun _ z => (E.sub rfl rfl)) ?_; refine FB.all1 (i := 20) (by kernel_rfl) ?_
       ·
        refine FC.call (l' := (bs 38 2097151)) rfl (by kernel_rfl) (wF_yes rfl rfl rfl hc56_13) rfl rfl (E.call call153 (A3 rfl rfl rfl)) (w_spec_l1In S59.sl x35.a 0 (wr ((len a1.clauses) - 1))) ?_; rintro e w60 ⟨rfl, r61⟩; refine ⟨_, rfl, ?_⟩; have S62 := S59.call r61; refine ⟨(SP.nil S62.sl), ?_⟩; refine FB.T 21 38 4194303 rfl S62.sl rfl (fun _ z => (E.asB (b := (bif (bif (bif (x35.b == 0) then (x35.x == 0) else false) then (x35.y == 0) else false) then (PF.spec_l1In x35.a 0 (wr ((len a1.clauses) - 1))) else false)) (E.pickT rfl hc56_13 rfl) (bifT hc56_13).symm)) ?_; refine FB.T 22 38 8388607 rfl S62.sl rfl (fun _ z => (E.move (v := vB (bif (bif (bif (x35.b == 0) then (x35.x == 0) else false) then (x35.y == 0) else false) then (PF.spec_l1In x35.a 0 (wr ((len a1.clauses) - 1))) else false)) rfl)) ?_; rcases ifB hqt56_36 with ⟨hc56_22, hqt56_36⟩ | ⟨hc56_22, hqt56_36⟩
        ·
         obtain ⟨x69, hx70, hqt56_36⟩ := bnd hqt56_36; obtain ⟨r73, hr74, hqt56_36⟩ := bnd hqt56_36; obtain ⟨r88, hr89, hqt56_36⟩ := bnd hqt56_36; refine FB.T 23 38 16777215 rfl S62.sl (wY hc56_22) (fun _ z => (E.fieldAddr tf90_1 rfl)) ?_; refine FB.T 24 38 33554431 rfl S62.sl (wY hc56_22) (fun _ z => (E.load rfl (run_load1 isAgg55 (at49.now z) rfl))) ?_; refine FB.T 25 38 67108863 rfl S62.sl (wY hc56_22) (fun _ z => (E.move (v := vI a0) rfl)) ?_; refine FB.T 26 38 134217727 rfl S62.sl (wY hc56_22) (fun _ z => (E.fieldAddr tf32_0 rfl)) ?_; refine FB.T 27 38 268435455 rfl S62.sl (wY hc56_22) (fun _ z => (E.load rfl (run_load1 isAgg3 ((at28.mono i48).now z) rfl))) ?_; refine FB.T 28 38 536870911 rfl S62.sl (wY hc56_22) (fun _ z => (E.fieldAddr tf32_1 rfl)) ?_; refine FB.T 29 38 1073741823 rfl S62.sl (wY hc56_22) (fun _ z => (E.load rfl (run_load1 isAgg22 ((at28.mono i48).now z) rfl))) ?_; refine FB.T 30 38 2147483647 rfl S62.sl (wY hc56_22) (fun _ z => (E.fieldAddr tf90_2 rfl)) ?_; refine FB.T 31 38 4294967295 rfl S62.sl (wY hc56_22) (fun _ z => (E.load rfl (run_load1 isAgg3 (at49.now z) rfl))) ?_; obtain ⟨p63, cs64, pt65, l66, at67, rel68⟩ := p1_1.at hx70; obtain ⟨v71, rfl, h72⟩ := eL_open rel68; refine FB.T 32 38 8589934591 rfl S62.sl (wY hc56_22) (fun _ z => (E.indexAddr te22 rfl rfl pt65)) ?_; refine FB.T 33 38 17179869183 rfl S62.sl (wY hc56_22) (fun _ z => (E.load rfl (run_load0 isAgg73 ((at67.mono (i27.tr i48)).now z) rfl))) ?_; refine FB.all1 (i := 34) (by kernel_rfl) ?_
         ·
          refine FC.call (l' := (bs 38 34359738367)) rfl (by kernel_rfl) (wF_yes rfl rfl rfl hc56_22) rfl rfl (E.call call60 (A3 rfl rfl rfl)) (w_spec_l18Clause S62.sl a0 a1.vars v71 x69 (h72.mono (i27.tr i48)) hr74) ?_; rintro e w76 ⟨H75, v79, n80, cs81, rfl, r78, els82⟩; refine ⟨_, rfl, ?_⟩; have els82 := els82.mono (up_le S62.size); have S77 := S62.join (l' := [.row 108 2 v79 n80 cs81]) r78 rfl; refine ⟨(SP.nil (Sl.of_inc r78.run.inc S77.sl)), ?_⟩; refine FB.all1 (i := 35) (by kernel_rfl) ?_
          ·
           obtain ⟨H83, S84, i85, h86, nv87⟩ := S77.sealRowU (i := 0) (l' := []) rfl els82 (by decide) rfl; refine FC.call (l' := (bs 38 68719476735)) rfl (by kernel_rfl) (wF_yes rfl rfl rfl hc56_22) rfl rfl (E.call call61 (A2 rfl rfl)) (w_spec_l20Same S84.sl v37 x35.poly (h38.mono (((i27.tr i48).tr r78.run.inc).tr i85)) v79 r73 (h86.mono upI) hr89) ?_; rintro e w91 ⟨rfl, r92⟩; refine ⟨_, rfl, ?_⟩; have r92 := Run.lend i85 S77.sl r92; have S93 := S77.call r92; refine ⟨(SP.nil (Sl.of_inc r78.run.inc S93.sl)), ?_⟩; refine FB.T 36 38 137438953471 rfl (Sl.of_inc r78.run.inc S93.sl) rfl (fun _ z => (E.asB (E.pickT rfl hc56_22 rfl) (Option.some.inj hqt56_36))) ?_; refine FB.T 37 38 274877906943 rfl (Sl.of_inc r78.run.inc S93.sl) rfl (fun _ z => (E.assign (v := vB t56_36) rfl)) ?_; exact FB.done (by kernel_rfl) ⟨_, (S93.sel [] (by decide) rfl), r78.run.inc, rfl⟩
        ·
         refine FB.S 23 38 16777215 S62.sl hc56_22 ?_; refine FB.S 24 38 33554431 S62.sl hc56_22 ?_; refine FB.S 25 38 67108863 S62.sl hc56_22 ?_; refine FB.S 26 38 134217727 S62.sl hc56_22 ?_; refine FB.S 27 38 268435455 S62.sl hc56_22 ?_; refine FB.S 28 38 536870911 S62.sl hc56_22 ?_; refine FB.S 29 38 1073741823 S62.sl hc56_22 ?_; refine FB.S 30 38 2147483647 S62.sl hc56_22 ?_; refine FB.S 31 38 4294967295 S62.sl hc56_22 ?_; refine FB.S 32 38 8589934591 S62.sl hc56_22 ?_; refine FB.S 33 38 17179869183 S62.sl hc56_22 ?_; refine FB.S 34 38 34359738367 S62.sl hc56_22 ?_; refine FB.S 35 38 68719476735 S62.sl hc56_22 ?_; refine FB.T 36 38 137438953471 rfl S62.sl rfl (fun _ z => (E.asB (E.pickF rfl hc56_22 rfl) (Option.some.inj hqt56_36))) ?_; refine FB.T 37 38 274877906943 rfl S62.sl rfl (fun _ z => (E.assign (v := vB t56_36) rfl)) ?_; exact FB.done (by kernel_rfl) ⟨_, S62, I0, rfl⟩
      ·
       refine FB.S 14 38 32767 S59.sl hc56_13 ?_; refine FB.S 15 38 65535 S59.sl hc56_13 ?_; refine FB.S 16 38 131071 S59.sl hc56_13 ?_; refine FB.S 17 38 262143 S59.sl hc56_13 ?_; refine FB.S 18 38 524287 S59.sl hc56_13 ?_; refine FB.S 19 38 1048575 S59.sl hc56_13 ?_; refine FB.S 20 38 2097151 S59.sl hc56_13 ?_; refine FB.T 21 38 4194303 rfl S59.sl rfl (fun _ z => (E.asB (b := (bif (bif (bif (x35.b == 0) then (x35.x == 0) else false) then (x35.y == 0) else false) then (PF.spec_l1In x35.a 0 (wr ((len a1.clauses) - 1))) else false)) (E.pickF rfl hc56_13 rfl) (bifF hc56_13).symm)) ?_; refine FB.T 22 38 8388607 rfl S59.sl rfl (fun _ z => (E.move (v := vB (bif (bif (bif (x35.b == 0) then (x35.x == 0) else false) then (x35.y == 0) else false) then (PF.spec_l1In x35.a 0 (wr ((len a1.clauses) - 1))) else false)) rfl)) ?_; have hc56_22 : (bif (bif (bif (x35.b == 0) then (x35.x == 0) else false) then (x35.y == 0) else false) then (PF.spec_l1In x35.a 0 (wr ((len a1.clauses) - 1))) else false) = false := (bifF hc56_13); have hqt56_36 := (bifF hc56_22).symm.trans hqt56_36; refine FB.S 23 38 16777215 S59.sl hc56_22 ?_; refine FB.S 24 38 33554431 S59.sl hc56_22 ?_; refine FB.S 25 38 67108863 S59.sl hc56_22 ?_; refine FB.S 26 38 134217727 S59.sl hc56_22 ?_; refine FB.S 27 38 268435455 S59.sl hc56_22 ?_; refine FB.S 28 38 536870911 S59.sl hc56_22 ?_; refine FB.S 29 38 1073741823 S59.sl hc56_22 ?_; refine FB.S 30 38 2147483647 S59.sl hc56_22 ?_; refine FB.S 31 38 4294967295 S59.sl hc56_22 ?_; refine FB.S 32 38 8589934591 S59.sl hc56_22 ?_; refine FB.S 33 38 17179869183 S59.sl hc56_22 ?_; refine FB.S 34 38 34359738367 S59.sl hc56_22 ?_; refine FB.S 35 38 68719476735 S59.sl hc56_22 ?_; refine FB.T 36 38 137438953471 rfl S59.sl rfl (fun _ z => (E.asB (E.pickF rfl hc56_22 rfl) (Option.some.inj hqt56_36))) ?_; refine FB.T 37 38 274877906943 rfl S59.sl rfl (fun _ z => (E.assign (v := vB t56_36) rfl)) ?_; exact FB.done (by kernel_rfl) ⟨_, S59, I0, rfl⟩
     ·
      refine FB.S 9 38 1023 S59.sl hc56_8 ?_; refine FB.S 10 38 2047 S59.sl hc56_8 ?_; refine FB.S 11 38 4095 S59.sl hc56_8 ?_; refine FB.T 12 38 8191 rfl S59.sl rfl (fun _ z => (E.asB (b := (bif (bif (x35.b == 0) then (x35.x == 0) else false) then (x35.y == 0) else false)) (E.pickF rfl hc56_8 rfl) (bifF hc56_8).symm)) ?_; refine FB.T 13 38 16383 rfl S59.sl rfl (fun _ z => (E.move (v := vB (bif (bif (x35.b == 0) then (x35.x == 0) else false) then (x35.y == 0) else false)) rfl)) ?_; have hc56_13 : (bif (bif (x35.b == 0) then (x35.x == 0) else false) then (x35.y == 0) else false) = false := (bifF hc56_8); refine FB.S 14 38 32767 S59.sl hc56_13 ?_; refine FB.S 15 38 65535 S59.sl hc56_13 ?_; refine FB.S 16 38 131071 S59.sl hc56_13 ?_; refine FB.S 17 38 262143 S59.sl hc56_13 ?_; refine FB.S 18 38 524287 S59.sl hc56_13 ?_; refine FB.S 19 38 1048575 S59.sl hc56_13 ?_; refine FB.S 20 38 2097151 S59.sl hc56_13 ?_; refine FB.T 21 38 4194303 rfl S59.sl rfl (fun _ z => (E.asB (b := (bif (bif (bif (x35.b == 0) then (x35.x == 0) else false) then (x35.y == 0) else false) then (PF.spec_l1In x35.a 0 (wr ((len a1.clauses) - 1))) else false)) (E.pickF rfl hc56_13 rfl) (bifF hc56_13).symm)) ?_; refine FB.T 22 38 8388607 rfl S59.sl rfl (fun _ z => (E.move (v := vB (bif (bif (bif (x35.b == 0) then (x35.x == 0) else false) then (x35.y == 0) else false) then (PF.spec_l1In x35.a 0 (wr ((len a1.clauses) - 1))) else false)) rfl)) ?_; have hc56_22 : (bif (bif (bif (x35.b == 0) then (x35.x == 0) else false) then (x35.y == 0) else false) then (PF.spec_l1In x35.a 0 (wr ((len a1.clauses) - 1))) else false) = false := (bifF hc56_13); have hqt56_36 := (bifF hc56_22).symm.trans hqt56_36; refine FB.S 23 38 16777215 S59.sl hc56_22 ?_; refine FB.S 24 38 33554431 S59.sl hc56_22 ?_; refine FB.S 25 38 67108863 S59.sl hc56_22 ?_; refine FB.S 26 38 134217727 S59.sl hc56_22 ?_; refine FB.S 27 38 268435455 S59.sl hc56_22 ?_; refine FB.S 28 38 536870911 S59.sl hc56_22 ?_; refine FB.S 29 38 1073741823 S59.sl hc56_22 ?_; refine FB.S 30 38 2147483647 S59.sl hc56_22 ?_; refine FB.S 31 38 4294967295 S59.sl hc56_22 ?_; refine FB.S 32 38 8589934591 S59.sl hc56_22 ?_; refine FB.S 33 38 17179869183 S59.sl hc56_22 ?_; refine FB.S 34 38 34359738367 S59.sl hc56_22 ?_; refine FB.S 35 38 68719476735 S59.sl hc56_22 ?_; refine FB.T 36 38 137438953471 rfl S59.sl rfl (fun _ z => (E.asB (E.pickF rfl hc56_22 rfl) (Option.some.inj hqt56_36))) ?_; refine FB.T 37 38 274877906943 rfl S59.sl rfl (fun _ z => (E.assign (v := vB t56_36) rfl)) ?_; exact FB.done (by kernel_rfl) ⟨_, S59, I0, rfl⟩
    ·
     refine FB.S 4 38 31 S59.sl hc56_3 ?_; refine FB.S 5 38 63 S59.sl hc56_3 ?_; refine FB.S 6 38 127 S59.sl hc56_3 ?_; refine FB.T 7 38 255 rfl S59.sl rfl (fun _ z => (E.asB (b := (bif (x35.b == 0) then (x35.x == 0) else false)) (E.pickF rfl hc56_3 rfl) (bifF hc56_3).symm)) ?_; refine FB.T 8 38 511 rfl S59.sl rfl (fun _ z => (E.move (v := vB (bif (x35.b == 0) then (x35.x == 0) else false)) rfl)) ?_; have hc56_8 : (bif (x35.b == 0) then (x35.x == 0) else false) = false := (bifF hc56_3); refine FB.S 9 38 1023 S59.sl hc56_8 ?_; refine FB.S 10 38 2047 S59.sl hc56_8 ?_; refine FB.S 11 38 4095 S59.sl hc56_8 ?_; refine FB.T 12 38 8191 rfl S59.sl rfl (fun _ z => (E.asB (b := (bif (bif (x35.b == 0) then (x35.x == 0) else false) then (x35.y == 0) else false)) (E.pickF rfl hc56_8 rfl) (bifF hc56_8).symm)) ?_; refine FB.T 13 38 16383 rfl S59.sl rfl (fun _ z => (E.move (v := vB (bif (bif (x35.b == 0) then (x35.x == 0) else false) then (x35.y == 0) else false)) rfl)) ?_; have hc56_13 : (bif (bif (x35.b == 0) then (x35.x == 0) else false) then (x35.y == 0) else false) = false := (bifF hc56_8); refine FB.S 14 38 32767 S59.sl hc56_13 ?_; refine FB.S 15 38 65535 S59.sl hc56_13 ?_; refine FB.S 16 38 131071 S59.sl hc56_13 ?_; refine FB.S 17 38 262143 S59.sl hc56_13 ?_; refine FB.S 18 38 524287 S59.sl hc56_13 ?_; refine FB.S 19 38 1048575 S59.sl hc56_13 ?_; refine FB.S 20 38 2097151 S59.sl hc56_13 ?_; refine FB.T 21 38 4194303 rfl S59.sl rfl (fun _ z => (E.asB (b := (bif (bif (bif (x35.b == 0) then (x35.x == 0) else false) then (x35.y == 0) else false) then (PF.spec_l1In x35.a 0 (wr ((len a1.clauses) - 1))) else false)) (E.pickF rfl hc56_13 rfl) (bifF hc56_13).symm)) ?_; refine FB.T 22 38 8388607 rfl S59.sl rfl (fun _ z => (E.move (v := vB (bif (bif (bif (x35.b == 0) then (x35.x == 0) else false) then (x35.y == 0) else false) then (PF.spec_l1In x35.a 0 (wr ((len a1.clauses) - 1))) else false)) rfl)) ?_; have hc56_22 : (bif (bif (bif (x35.b == 0) then (x35.x == 0) else false) then (x35.y == 0) else false) then (PF.spec_l1In x35.a 0 (wr ((len a1.clauses) - 1))) else false) = false := (bifF hc56_13); have hqt56_36 := (bifF hc56_22).symm.trans hqt56_36; refine FB.S 23 38 16777215 S59.sl hc56_22 ?_; refine FB.S 24 38 33554431 S59.sl hc56_22 ?_; refine FB.S 25 38 67108863 S59.sl hc56_22 ?_; refine FB.S 26 38 134217727 S59.sl hc56_22 ?_; refine FB.S 27 38 268435455 S59.sl hc56_22 ?_; refine FB.S 28 38 536870911 S59.sl hc56_22 ?_; refine FB.S 29 38 1073741823 S59.sl hc56_22 ?_; refine FB.S 30 38 2147483647 S59.sl hc56_22 ?_; refine FB.S 31 38 4294967295 S59.sl hc56_22 ?_; refine FB.S 32 38 8589934591 S59.sl hc56_22 ?_; refine FB.S 33 38 17179869183 S59.sl hc56_22 ?_; refine FB.S 34 38 34359738367 S59.sl hc56_22 ?_; refine FB.S 35 38 68719476735 S59.sl hc56_22 ?_; refine FB.T 36 38 137438953471 rfl S59.sl rfl (fun _ z => (E.asB (E.pickF rfl hc56_22 rfl) (Option.some.inj hqt56_36))) ?_; refine FB.T 37 38 274877906943 rfl S59.sl rfl (fun _ z => (E.assign (v := vB t56_36) rfl)) ?_; exact FB.done (by kernel_rfl) ⟨_, S59, I0, rfl⟩
   ·
    rintro f98 w97 ⟨H94, S95, i96, k99⟩; refine FW.ret ?_; cases hp; exact ⟨.inr rfl, res1 rfl k99 ⟨rfl, S95.back⟩⟩
  ·
   refine FW.condF rfl c56 ?_; refine FW.skip (FW.seq (FW.sr ?_)); refine FL.v (E.fieldAddr tf90_0 rfl) ?_; refine FL.v (E.load rfl (run_load1 isAgg3 (at49.now S54.sl) rfl)) ?_; refine FL.v (E.neq rfl rfl) ?_; refine FL.mv (v := vB (!(x35.kind == 2))) rfl ?_; refine FL.cut 4 (fun f w => ∃ H : GH, St Ha wa H w [] ∧ Inc H46 H ∧ f 0 = vI a0 ∧ f 2 = v2 ∧ f 3 = vI a3 ∧ f 5 = vP (⟨b21, 0, none⟩) ∧ f 9 = vP (⟨b39, 0, none⟩) ∧ f 68 = vB (bif (!(x35.kind == 2)) then (!(x35.kind == 3)) else false)) ?_ ?_
   ·
    rcases bcase (!(x35.kind == 2)) with c105 | c105
    ·
     refine FL.y (wY c105) (E.fieldAddr tf90_0 rfl) ?_; refine FL.y (wY c105) (E.load rfl (run_load1 isAgg3 (at49.now S54.sl) rfl)) ?_; refine FL.y (wY c105) (E.neq rfl rfl) ?_; refine FL.v (E.pickT rfl c105 rfl) ?_; exact FL.nil ⟨rfl, _, S54, I0, rfl, rfl, rfl, rfl, rfl, (congrArg vB (bifT c105).symm)⟩
    ·
     refine FL.skip (wN c105) rfl ?_; refine FL.skip (wN c105) rfl ?_; refine FL.skip (wN c105) rfl ?_; refine FL.v (E.pickF rfl c105 rfl) ?_; exact FL.nil ⟨rfl, _, S54, I0, rfl, rfl, rfl, rfl, rfl, (congrArg vB (bifF c105).symm)⟩
   rintro f104 w103 ⟨H100, S101, i102, k106, k107, k108, k109, k110, k111⟩; refine FL.mv k111 ?_; obtain ⟨t112, hqt112, hp⟩ := bnd hp; refine FL.cut 9 (fun f w => ∃ H : GH, St Ha wa H w [] ∧ Inc H100 H ∧ f 0 = vI a0 ∧ f 2 = v2 ∧ f 3 = vI a3 ∧ f 5 = vP (⟨b21, 0, none⟩) ∧ f 9 = vP (⟨b39, 0, none⟩) ∧ f 78 = vB t112) ?_ ?_
   ·
    clear hp; have hp := hqt112; clear hqt112; rcases ifB hp with ⟨c118, hp⟩ | ⟨c118, hp⟩
    ·
     refine FL.skip (wN c118) rfl ?_; refine FL.skip (wN c118) rfl ?_; refine FL.skip (wN c118) rfl ?_; refine FL.skip (wN c118) rfl ?_; refine FL.skip (wN c118) rfl ?_; refine FL.skip (wN c118) rfl ?_; refine FL.skip (wN c118) rfl ?_; refine FL.skip (wN c118) rfl ?_; cases hp; refine FL.v (E.pickT rfl c118 rfl) ?_; exact FL.nil ⟨rfl, _, S101, I0, k106, k107, k108, k109, k110, rfl⟩
    ·
     refine FL.y (wY c118) (E.move k106) ?_; refine FL.y (wY c118) (E.load k109 (run_loadA isAgg32 sizeOf32 ((at28.mono (i48.tr i102)).now S101.sl) rfl)) ?_; refine FL.y (wY c118) (E.move k107) ?_; refine FL.y (wY c118) (E.move k108) ?_; refine FL.y (wY c118) (E.fieldAddr tf90_2 k110) ?_; refine FL.y (wY c118) (E.load rfl (run_load1 isAgg3 ((at49.mono i102).now S101.sl) rfl)) ?_; obtain ⟨r119, hr120, hp⟩ := bnd hp; refine FL.call (wY c118) rfl rfl (E.call call228 (A5 rfl rfl rfl rfl rfl)) (w_spec_l20Earlier S101.sl a0 a1 v1_1 (p1_1.mono ((i27.tr i48).tr i102)) v2 a2 (p2.mono ((i27.tr i48).tr i102)) a3 x35.a hr120) ?_; rintro e w121 ⟨rfl, r122⟩; refine ⟨_, rfl, ?_⟩; have S123 := S101.call r122; refine FL.y (wY c118) (E.not rfl) ?_; cases hp; refine FL.v (E.pickF rfl c118 rfl) ?_; exact FL.nil ⟨rfl, _, S123, I0, k106, k107, k108, k109, k110, rfl⟩
   rintro f117 w116 ⟨H113, S114, i115, k124, k125, k126, k127, k128, k129⟩; refine FL.nil ?_; rcases ifB hp with ⟨c130, hp⟩ | ⟨c130, hp⟩
   ·
    refine FW.condT k129 c130 ?_; refine FW.sr ?_; refine FL.as (v := vB false) rfl ?_; refine FL.nil (FW.ret ?_); cases hp; exact ⟨.inr rfl, res1 rfl rfl ⟨rfl, S114.back⟩⟩
   ·
    refine FW.condF k129 c130 ?_; refine FW.skip (FW.seq (FW.sr ?_)); refine FL.v (E.fieldAddr tf90_0 k128) ?_; refine FL.v (E.load rfl (run_load1 isAgg3 ((at49.mono (i102.tr i115)).now S114.sl) rfl)) ?_; refine FL.v (E.eql rfl rfl) ?_; refine FL.nil ?_; rcases ifB hp with ⟨c131, hp⟩ | ⟨c131, hp⟩
    ·
     refine FW.condT rfl c131 ?_; refine FW.seq ?_; obtain ⟨t131_31, hqt131_31, hp⟩ := bnd hp; refine FW.drawB (Sl H113) (fun f w => ∃ H : GH, St Ha wa H w [] ∧ Inc H113 H ∧ f 8 = vB t131_31) (by kernel_rfl) S114.sl ?_ ?_
     ·
      intro w132 r133; have S134 := S114.call r133; refine FB.T 0 33 1 rfl S134.sl rfl (fun _ z => (E.fieldAddr tf90_3 k128)) ?_; refine FB.T 1 33 3 rfl S134.sl rfl (fun _ z => (E.load rfl (run_load1 isAgg3 ((at49.mono (i102.tr i115)).now z) rfl))) ?_; refine FB.T 2 33 7 rfl S134.sl rfl (fun _ z => (E.eql rfl rfl)) ?_; refine FB.T 3 33 15 rfl S134.sl rfl (fun _ z => (E.move (v := vB (x35.b == 0)) rfl)) ?_; rcases bcase (x35.b == 0) with hc131_3 | hc131_3
      ·
       refine FB.T 4 33 31 rfl S134.sl (wY hc131_3) (fun _ z => (E.fieldAddr tf90_5 k128)) ?_; refine FB.T 5 33 63 rfl S134.sl (wY hc131_3) (fun _ z => (E.load rfl (run_load1 isAgg3 ((at49.mono (i102.tr i115)).now z) rfl))) ?_; refine FB.T 6 33 127 rfl S134.sl (wY hc131_3) (fun _ z => (E.eql rfl rfl)) ?_; refine FB.T 7 33 255 rfl S134.sl rfl (fun _ z => (E.asB (b := (bif (x35.b == 0) then (x35.y == 0) else false)) (E.pickT rfl hc131_3 rfl) (bifT hc131_3).symm)) ?_; refine FB.T 8 33 511 rfl S134.sl rfl (fun _ z => (E.move (v := vB (bif (x35.b == 0) then (x35.y == 0) else false)) rfl)) ?_; rcases bcase (bif (x35.b == 0) then (x35.y == 0) else false) with hc131_8 | hc131_8
       ·
        refine FB.T 9 33 1023 rfl S134.sl (wY hc131_8) (fun _ z => (E.fieldAddr tf90_4 k128)) ?_; refine FB.T 10 33 2047 rfl S134.sl (wY hc131_8) (fun _ z => (E.load rfl (run_load1 isAgg3 ((at49.mono (i102.tr i115)).now z) rfl))) ?_; refine FB.T 11 33 4095 rfl S134.sl (wY hc131_8) (fun _ z => (E.fieldAddr tf32_0 k127)) ?_; refine FB.T 12 33 8191 rfl S134.sl (wY hc131_8) (fun _ z => (E.load rfl (run_load1 isAgg3 ((at28.mono ((i48.tr i102).tr i115)).now z) rfl))) ?_; refine FB.all1 (i := 13) (by kernel_rfl) ?_
        ·
         refine FC.call (l' := (bs 33 16383)) rfl (by kernel_rfl) (wF_yes rfl rfl rfl hc131_8) rfl rfl (E.call call153 (A3 rfl rfl rfl)) (w_spec_l1In S134.sl x35.x 1 a1.vars) ?_; rintro e w135 ⟨rfl, r136⟩; refine ⟨_, rfl, ?_⟩; have S137 := S134.call r136; refine ⟨(SP.nil S137.sl), ?_⟩; refine FB.T 14 33 32767 rfl S137.sl rfl (fun _ z => (E.asB (b := (bif (bif (x35.b == 0) then (x35.y == 0) else false) then (PF.spec_l1In x35.x 1 a1.vars) else false)) (E.pickT rfl hc131_8 rfl) (bifT hc131_8).symm)) ?_; refine FB.T 15 33 65535 rfl S137.sl rfl (fun _ z => (E.move (v := vB (bif (bif (x35.b == 0) then (x35.y == 0) else false) then (PF.spec_l1In x35.x 1 a1.vars) else false)) rfl)) ?_; rcases ifB hqt131_31 with ⟨hc131_15, hqt131_31⟩ | ⟨hc131_15, hqt131_31⟩
         ·
          obtain ⟨x144, hx145, hqt131_31⟩ := bnd hqt131_31; obtain ⟨r148, hr149, hqt131_31⟩ := bnd hqt131_31; obtain ⟨r163, hr164, hqt131_31⟩ := bnd hqt131_31; refine FB.T 16 33 131071 rfl S137.sl (wY hc131_15) (fun _ z => (E.fieldAddr tf90_1 k128)) ?_; refine FB.T 17 33 262143 rfl S137.sl (wY hc131_15) (fun _ z => (E.load rfl (run_load1 isAgg55 ((at49.mono (i102.tr i115)).now z) rfl))) ?_; refine FB.T 18 33 524287 rfl S137.sl (wY hc131_15) (fun _ z => (E.move k124)) ?_; refine FB.T 19 33 1048575 rfl S137.sl (wY hc131_15) (fun _ z => (E.fieldAddr tf32_0 k127)) ?_; refine FB.T 20 33 2097151 rfl S137.sl (wY hc131_15) (fun _ z => (E.load rfl (run_load1 isAgg3 ((at28.mono ((i48.tr i102).tr i115)).now z) rfl))) ?_; refine FB.T 21 33 4194303 rfl S137.sl (wY hc131_15) (fun _ z => (E.move k125)) ?_; refine FB.T 22 33 8388607 rfl S137.sl (wY hc131_15) (fun _ z => (E.fieldAddr tf90_2 k128)) ?_; refine FB.T 23 33 16777215 rfl S137.sl (wY hc131_15) (fun _ z => (E.load rfl (run_load1 isAgg3 ((at49.mono (i102.tr i115)).now z) rfl))) ?_; obtain ⟨p138, cs139, pt140, l141, at142, rel143⟩ := p2.at hx145; obtain ⟨v146, rfl, h147⟩ := ePcStep_open rel143; refine FB.T 24 33 33554431 rfl S137.sl (wY hc131_15) (fun _ z => (E.indexAddr te36 rfl rfl pt140)) ?_; refine FB.T 25 33 67108863 rfl S137.sl (wY hc131_15) (fun _ z => (E.fieldAddr tf90_1 rfl)) ?_; refine FB.T 26 33 134217727 rfl S137.sl (wY hc131_15) (fun _ z => (E.load rfl (run_load1 isAgg55 ((at142.mono (((i27.tr i48).tr i102).tr i115)).now z) rfl))) ?_; refine FB.T 27 33 268435455 rfl S137.sl (wY hc131_15) (fun _ z => (E.fieldAddr tf90_4 k128)) ?_; refine FB.T 28 33 536870911 rfl S137.sl (wY hc131_15) (fun _ z => (E.load rfl (run_load1 isAgg3 ((at49.mono (i102.tr i115)).now z) rfl))) ?_; refine FB.all1 (i := 29) (by kernel_rfl) ?_
          ·
           refine FC.call (l' := (bs 33 1073741823)) rfl (by kernel_rfl) (wF_yes rfl rfl rfl hc131_15) rfl rfl (E.call call158 (A4 rfl rfl rfl rfl)) (w_spec_l20Times S137.sl a0 a1.vars v146 x144.poly (h147.mono (((i27.tr i48).tr i102).tr i115)) x35.x hr149) ?_; rintro e w151 ⟨H150, v154, n155, cs156, rfl, r153, els157⟩; refine ⟨_, rfl, ?_⟩; have els157 := els157.mono (up_le S137.size); have S152 := S137.join (l' := [.row 108 2 v154 n155 cs156]) r153 rfl; refine ⟨(SP.nil (Sl.of_inc r153.run.inc S152.sl)), ?_⟩; refine FB.all1 (i := 30) (by kernel_rfl) ?_
           ·
            obtain ⟨H158, S159, i160, h161, nv162⟩ := S152.sealRowU (i := 0) (l' := []) rfl els157 (by decide) rfl; refine FC.call (l' := (bs 33 2147483647)) rfl (by kernel_rfl) (wF_yes rfl rfl rfl hc131_15) rfl rfl (E.call call61 (A2 rfl rfl)) (w_spec_l20Same S159.sl v37 x35.poly (h38.mono (((((i27.tr i48).tr i102).tr i115).tr r153.run.inc).tr i160)) v154 r148 (h161.mono upI) hr164) ?_; rintro e w165 ⟨rfl, r166⟩; refine ⟨_, rfl, ?_⟩; have r166 := Run.lend i160 S152.sl r166; have S167 := S152.call r166; refine ⟨(SP.nil (Sl.of_inc r153.run.inc S167.sl)), ?_⟩; refine FB.T 31 33 4294967295 rfl (Sl.of_inc r153.run.inc S167.sl) rfl (fun _ z => (E.asB (E.pickT rfl hc131_15 rfl) (Option.some.inj hqt131_31))) ?_; refine FB.T 32 33 8589934591 rfl (Sl.of_inc r153.run.inc S167.sl) rfl (fun _ z => (E.assign (v := vB t131_31) rfl)) ?_; exact FB.done (by kernel_rfl) ⟨_, (S167.sel [] (by decide) rfl), r153.run.inc, rfl⟩
         ·
          refine FB.S 16 33 131071 S137.sl hc131_15 ?_; refine FB.S 17 33 262143 S137.sl hc131_15 ?_; refine FB.S 18 33 524287 S137.sl hc131_15 ?_; refine FB.S 19 33 1048575 S137.sl hc131_15 ?_; refine FB.S 20 33 2097151 S137.sl hc131_15 ?_; refine FB.S 21 33 4194303 S137.sl hc131_15 ?_; refine FB.S 22 33 8388607 S137.sl hc131_15 ?_; refine FB.S 23 33 16777215 S137.sl hc131_15 ?_; refine FB.S 24 33 33554431 S137.sl hc131_15 ?_; refine FB.S 25 33 67108863 S137.sl hc131_15 ?_; refine FB.S 26 33 134217727 S137.sl hc131_15 ?_; refine FB.S 27 33 268435455 S137.sl hc131_15 ?_; refine FB.S 28 33 536870911 S137.sl hc131_15 ?_; refine FB.S 29 33 1073741823 S137.sl hc131_15 ?_; refine FB.S 30 33 2147483647 S137.sl hc131_15 ?_; refine FB.T 31 33 4294967295 rfl S137.sl rfl (fun _ z => (E.asB (E.pickF rfl hc131_15 rfl) (Option.some.inj hqt131_31))) ?_; refine FB.T 32 33 8589934591 rfl S137.sl rfl (fun _ z => (E.assign (v := vB t131_31) rfl)) ?_; exact FB.done (by kernel_rfl) ⟨_, S137, I0, rfl⟩
       ·
        refine FB.S 9 33 1023 S134.sl hc131_8 ?_; refine FB.S 10 33 2047 S134.sl hc131_8 ?_; refine FB.S 11 33 4095 S134.sl hc131_8 ?_; refine FB.S 12 33 8191 S134.sl hc131_8 ?_; refine FB.S 13 33 16383 S134.sl hc131_8 ?_; refine FB.T 14 33 32767 rfl S134.sl rfl (fun _ z => (E.asB (b := (bif (bif (x35.b == 0) then (x35.y == 0) else false) then (PF.spec_l1In x35.x 1 a1.vars) else false)) (E.pickF rfl hc131_8 rfl) (bifF hc131_8).symm)) ?_; refine FB.T 15 33 65535 rfl S134.sl rfl (fun _ z => (E.move (v := vB (bif (bif (x35.b == 0) then (x35.y == 0) else false) then (PF.spec_l1In x35.x 1 a1.vars) else false)) rfl)) ?_; have hc131_15 : (bif (bif (x35.b == 0) then (x35.y == 0) else false) then (PF.spec_l1In x35.x 1 a1.vars) else false) = false := (bifF hc131_8); have hqt131_31 := (bifF hc131_15).symm.trans hqt131_31; refine FB.S 16 33 131071 S134.sl hc131_15 ?_; refine FB.S 17 33 262143 S134.sl hc131_15 ?_; refine FB.S 18 33 524287 S134.sl hc131_15 ?_; refine FB.S 19 33 1048575 S134.sl hc131_15 ?_; refine FB.S 20 33 2097151 S134.sl hc131_15 ?_; refine FB.S 21 33 4194303 S134.sl hc131_15 ?_; refine FB.S 22 33 8388607 S134.sl hc131_15 ?_; refine FB.S 23 33 16777215 S134.sl hc131_15 ?_; refine FB.S 24 33 33554431 S134.sl hc131_15 ?_; refine FB.S 25 33 67108863 S134.sl hc131_15 ?_; refine FB.S 26 33 134217727 S134.sl hc131_15 ?_; refine FB.S 27 33 268435455 S134.sl hc131_15 ?_; refine FB.S 28 33 536870911 S134.sl hc131_15 ?_; refine FB.S 29 33 1073741823 S134.sl hc131_15 ?_; refine FB.S 30 33 2147483647 S134.sl hc131_15 ?_; refine FB.T 31 33 4294967295 rfl S134.sl rfl (fun _ z => (E.asB (E.pickF rfl hc131_15 rfl) (Option.some.inj hqt131_31))) ?_; refine FB.T 32 33 8589934591 rfl S134.sl rfl (fun _ z => (E.assign (v := vB t131_31) rfl)) ?_; exact FB.done (by kernel_rfl) ⟨_, S134, I0, rfl⟩
      ·
       refine FB.S 4 33 31 S134.sl hc131_3 ?_; refine FB.S 5 33 63 S134.sl hc131_3 ?_; refine FB.S 6 33 127 S134.sl hc131_3 ?_; refine FB.T 7 33 255 rfl S134.sl rfl (fun _ z => (E.asB (b := (bif (x35.b == 0) then (x35.y == 0) else false)) (E.pickF rfl hc131_3 rfl) (bifF hc131_3).symm)) ?_; refine FB.T 8 33 511 rfl S134.sl rfl (fun _ z => (E.move (v := vB (bif (x35.b == 0) then (x35.y == 0) else false)) rfl)) ?_; have hc131_8 : (bif (x35.b == 0) then (x35.y == 0) else false) = false := (bifF hc131_3); refine FB.S 9 33 1023 S134.sl hc131_8 ?_; refine FB.S 10 33 2047 S134.sl hc131_8 ?_; refine FB.S 11 33 4095 S134.sl hc131_8 ?_; refine FB.S 12 33 8191 S134.sl hc131_8 ?_; refine FB.S 13 33 16383 S134.sl hc131_8 ?_; refine FB.T 14 33 32767 rfl S134.sl rfl (fun _ z => (E.asB (b := (bif (bif (x35.b == 0) then (x35.y == 0) else false) then (PF.spec_l1In x35.x 1 a1.vars) else false)) (E.pickF rfl hc131_8 rfl) (bifF hc131_8).symm)) ?_; refine FB.T 15 33 65535 rfl S134.sl rfl (fun _ z => (E.move (v := vB (bif (bif (x35.b == 0) then (x35.y == 0) else false) then (PF.spec_l1In x35.x 1 a1.vars) else false)) rfl)) ?_; have hc131_15 : (bif (bif (x35.b == 0) then (x35.y == 0) else false) then (PF.spec_l1In x35.x 1 a1.vars) else false) = false := (bifF hc131_8); have hqt131_31 := (bifF hc131_15).symm.trans hqt131_31; refine FB.S 16 33 131071 S134.sl hc131_15 ?_; refine FB.S 17 33 262143 S134.sl hc131_15 ?_; refine FB.S 18 33 524287 S134.sl hc131_15 ?_; refine FB.S 19 33 1048575 S134.sl hc131_15 ?_; refine FB.S 20 33 2097151 S134.sl hc131_15 ?_; refine FB.S 21 33 4194303 S134.sl hc131_15 ?_; refine FB.S 22 33 8388607 S134.sl hc131_15 ?_; refine FB.S 23 33 16777215 S134.sl hc131_15 ?_; refine FB.S 24 33 33554431 S134.sl hc131_15 ?_; refine FB.S 25 33 67108863 S134.sl hc131_15 ?_; refine FB.S 26 33 134217727 S134.sl hc131_15 ?_; refine FB.S 27 33 268435455 S134.sl hc131_15 ?_; refine FB.S 28 33 536870911 S134.sl hc131_15 ?_; refine FB.S 29 33 1073741823 S134.sl hc131_15 ?_; refine FB.S 30 33 2147483647 S134.sl hc131_15 ?_; refine FB.T 31 33 4294967295 rfl S134.sl rfl (fun _ z => (E.asB (E.pickF rfl hc131_15 rfl) (Option.some.inj hqt131_31))) ?_; refine FB.T 32 33 8589934591 rfl S134.sl rfl (fun _ z => (E.assign (v := vB t131_31) rfl)) ?_; exact FB.done (by kernel_rfl) ⟨_, S134, I0, rfl⟩
     ·
      rintro f172 w171 ⟨H168, S169, i170, k173⟩; refine FW.ret ?_; cases hp; exact ⟨.inr rfl, res1 rfl k173 ⟨rfl, S169.back⟩⟩
    ·
     refine FW.condF rfl c131 ?_; refine FW.skip (FW.seq (FW.sr ?_)); refine FL.mv k124 ?_; refine FL.v (E.load k127 (run_loadA isAgg32 sizeOf32 ((at28.mono ((i48.tr i102).tr i115)).now S114.sl) rfl)) ?_; refine FL.mv k125 ?_; refine FL.mv k126 ?_; refine FL.v (E.fieldAddr tf90_3 k128) ?_; refine FL.v (E.load rfl (run_load1 isAgg3 ((at49.mono (i102.tr i115)).now S114.sl) rfl)) ?_; obtain ⟨r174, hr175, hp⟩ := bnd hp; refine FL.c (E.call call228 (A5 rfl rfl rfl rfl rfl)) (w_spec_l20Earlier S114.sl a0 a1 v1_1 (p1_1.mono (((i27.tr i48).tr i102).tr i115)) v2 a2 (p2.mono (((i27.tr i48).tr i102).tr i115)) a3 x35.b hr175) ?_; rintro e w176 ⟨rfl, r177⟩; refine ⟨_, rfl, ?_⟩; have S178 := S114.call r177; refine FL.v (E.not rfl) ?_; refine FL.mv (v := vB (!r174)) rfl ?_; refine FL.cut 7 (fun f w => ∃ H : GH, St Ha wa H w [] ∧ Inc H113 H ∧ f 0 = vI a0 ∧ f 2 = v2 ∧ f 5 = vP (⟨b21, 0, none⟩) ∧ f 9 = vP (⟨b39, 0, none⟩) ∧ f 129 = vB (bif (!r174) then true else (!(PF.spec_l1In x35.x 0 (wr (a0 - 1)))))) ?_ ?_
     ·
      rcases bcase (!r174) with c184 | c184
      ·
       refine FL.skip (wN c184) rfl ?_; refine FL.skip (wN c184) rfl ?_; refine FL.skip (wN c184) rfl ?_; refine FL.skip (wN c184) rfl ?_; refine FL.skip (wN c184) rfl ?_; refine FL.skip (wN c184) rfl ?_; refine FL.v (E.pickT rfl c184 rfl) ?_; exact FL.nil ⟨rfl, _, S178, I0, k124, k125, k127, k128, (congrArg vB (bifT c184).symm)⟩
      ·
       refine FL.y (wY c184) (E.fieldAddr tf90_4 k128) ?_; refine FL.y (wY c184) (E.load rfl (run_load1 isAgg3 ((at49.mono (i102.tr i115)).now S178.sl) rfl)) ?_; refine FL.y (wY c184) (E.move k124) ?_; refine FL.y (wY c184) (E.sub rfl rfl) ?_; refine FL.call (wY c184) rfl rfl (E.call call153 (A3 rfl rfl rfl)) (w_spec_l1In S178.sl x35.x 0 (wr (a0 - 1))) ?_; rintro e w185 ⟨rfl, r186⟩; refine ⟨_, rfl, ?_⟩; have S187 := S178.call r186; refine FL.y (wY c184) (E.not rfl) ?_; refine FL.v (E.pickF rfl c184 rfl) ?_; exact FL.nil ⟨rfl, _, S187, I0, k124, k125, k127, k128, (congrArg vB (bifF c184).symm)⟩
     rintro f183 w182 ⟨H179, S180, i181, k188, k189, k190, k191, k192⟩; refine FL.mv k192 ?_; refine FL.cut 7 (fun f w => ∃ H : GH, St Ha wa H w [] ∧ Inc H179 H ∧ f 0 = vI a0 ∧ f 2 = v2 ∧ f 5 = vP (⟨b21, 0, none⟩) ∧ f 9 = vP (⟨b39, 0, none⟩) ∧ f 137 = vB (bif (bif (!r174) then true else (!(PF.spec_l1In x35.x 0 (wr (a0 - 1))))) then true else (!(PF.spec_l1In x35.y 0 (wr (a0 - 1)))))) ?_ ?_
     ·
      rcases bcase (bif (!r174) then true else (!(PF.spec_l1In x35.x 0 (wr (a0 - 1))))) with c198 | c198
      ·
       refine FL.skip (wN c198) rfl ?_; refine FL.skip (wN c198) rfl ?_; refine FL.skip (wN c198) rfl ?_; refine FL.skip (wN c198) rfl ?_; refine FL.skip (wN c198) rfl ?_; refine FL.skip (wN c198) rfl ?_; refine FL.v (E.pickT rfl c198 rfl) ?_; exact FL.nil ⟨rfl, _, S180, I0, k188, k189, k190, k191, (congrArg vB (bifT c198).symm)⟩
      ·
       refine FL.y (wY c198) (E.fieldAddr tf90_5 k191) ?_; refine FL.y (wY c198) (E.load rfl (run_load1 isAgg3 ((at49.mono ((i102.tr i115).tr i181)).now S180.sl) rfl)) ?_; refine FL.y (wY c198) (E.move k188) ?_; refine FL.y (wY c198) (E.sub rfl rfl) ?_; refine FL.call (wY c198) rfl rfl (E.call call153 (A3 rfl rfl rfl)) (w_spec_l1In S180.sl x35.y 0 (wr (a0 - 1))) ?_; rintro e w199 ⟨rfl, r200⟩; refine ⟨_, rfl, ?_⟩; have S201 := S180.call r200; refine FL.y (wY c198) (E.not rfl) ?_; refine FL.v (E.pickF rfl c198 rfl) ?_; exact FL.nil ⟨rfl, _, S201, I0, k188, k189, k190, k191, (congrArg vB (bifF c198).symm)⟩
     rintro f197 w196 ⟨H193, S194, i195, k202, k203, k204, k205, k206⟩; refine FL.nil ?_; rcases ifB hp with ⟨c207, hp⟩ | ⟨c207, hp⟩
     ·
      refine FW.condT k206 c207 ?_; refine FW.sr ?_; refine FL.as (v := vB false) rfl ?_; refine FL.nil (FW.ret ?_); cases hp; exact ⟨.inr rfl, res1 rfl rfl ⟨rfl, S194.back⟩⟩
     ·
      refine FW.condF k206 c207 ?_; refine FW.skip (FW.seq ?_); obtain ⟨x217, hx218, hp⟩ := bnd hp; obtain ⟨x227, hx228, hp⟩ := bnd hp; obtain ⟨r231, hr232, hp⟩ := bnd hp; obtain ⟨r246, hr247, hp⟩ := bnd hp; refine FW.drawB (Sl H193) (fun f w => ∃ H : GH, St Ha wa H w [] ∧ Inc H193 H ∧ f 8 = vB r246) (by kernel_rfl) S194.sl ?_ ?_
      ·
       intro w208 r209; have S210 := S194.call r209; refine FB.T 0 24 1 rfl S210.sl rfl (fun _ z => (E.fieldAddr tf90_1 k205)) ?_; refine FB.T 1 24 3 rfl S210.sl rfl (fun _ z => (E.load rfl (run_load1 isAgg55 ((at49.mono (((i102.tr i115).tr i181).tr i195)).now z) rfl))) ?_; refine FB.T 2 24 7 rfl S210.sl rfl (fun _ z => (E.move k202)) ?_; refine FB.T 3 24 15 rfl S210.sl rfl (fun _ z => (E.fieldAddr tf32_0 k204)) ?_; refine FB.T 4 24 31 rfl S210.sl rfl (fun _ z => (E.load rfl (run_load1 isAgg3 ((at28.mono ((((i48.tr i102).tr i115).tr i181).tr i195)).now z) rfl))) ?_; refine FB.T 5 24 63 rfl S210.sl rfl (fun _ z => (E.move k203)) ?_; refine FB.T 6 24 127 rfl S210.sl rfl (fun _ z => (E.fieldAddr tf90_2 k205)) ?_; refine FB.T 7 24 255 rfl S210.sl rfl (fun _ z => (E.load rfl (run_load1 isAgg3 ((at49.mono (((i102.tr i115).tr i181).tr i195)).now z) rfl))) ?_; obtain ⟨p211, cs212, pt213, l214, at215, rel216⟩ := p2.at hx218; obtain ⟨v219, rfl, h220⟩ := ePcStep_open rel216; refine FB.T 8 24 511 rfl S210.sl rfl (fun _ z => (E.indexAddr te36 rfl rfl pt213)) ?_; refine FB.T 9 24 1023 rfl S210.sl rfl (fun _ z => (E.fieldAddr tf90_1 rfl)) ?_; refine FB.T 10 24 2047 rfl S210.sl rfl (fun _ z => (E.load rfl (run_load1 isAgg55 ((at215.mono (((((i27.tr i48).tr i102).tr i115).tr i181).tr i195)).now z) rfl))) ?_; refine FB.T 11 24 4095 rfl S210.sl rfl (fun _ z => (E.fieldAddr tf90_4 k205)) ?_; refine FB.T 12 24 8191 rfl S210.sl rfl (fun _ z => (E.load rfl (run_load1 isAgg3 ((at49.mono (((i102.tr i115).tr i181).tr i195)).now z) rfl))) ?_; refine FB.T 13 24 16383 rfl S210.sl rfl (fun _ z => (E.move k203)) ?_; refine FB.T 14 24 32767 rfl S210.sl rfl (fun _ z => (E.fieldAddr tf90_3 k205)) ?_; refine FB.T 15 24 65535 rfl S210.sl rfl (fun _ z => (E.load rfl (run_load1 isAgg3 ((at49.mono (((i102.tr i115).tr i181).tr i195)).now z) rfl))) ?_; obtain ⟨p221, cs222, pt223, l224, at225, rel226⟩ := p2.at hx228; obtain ⟨v229, rfl, h230⟩ := ePcStep_open rel226; refine FB.T 16 24 131071 rfl S210.sl rfl (fun _ z => (E.indexAddr te36 rfl rfl pt223)) ?_; refine FB.T 17 24 262143 rfl S210.sl rfl (fun _ z => (E.fieldAddr tf90_1 rfl)) ?_; refine FB.T 18 24 524287 rfl S210.sl rfl (fun _ z => (E.load rfl (run_load1 isAgg55 ((at225.mono (((((i27.tr i48).tr i102).tr i115).tr i181).tr i195)).now z) rfl))) ?_; refine FB.T 19 24 1048575 rfl S210.sl rfl (fun _ z => (E.fieldAddr tf90_5 k205)) ?_; refine FB.T 20 24 2097151 rfl S210.sl rfl (fun _ z => (E.load rfl (run_load1 isAgg3 ((at49.mono (((i102.tr i115).tr i181).tr i195)).now z) rfl))) ?_; refine FB.all1 (i := 21) (by kernel_rfl) ?_
       ·
        refine FC.call (l' := (bs 24 4194303)) rfl (by kernel_rfl) rfl rfl rfl (E.call call185 (A6 rfl rfl rfl rfl rfl rfl)) (w_spec_l20Sum S210.sl a0 a1.vars v219 x217.poly (h220.mono (((((i27.tr i48).tr i102).tr i115).tr i181).tr i195)) x35.x v229 x227.poly (h230.mono (((((i27.tr i48).tr i102).tr i115).tr i181).tr i195)) x35.y hr232) ?_; rintro e w234 ⟨H233, v237, n238, cs239, rfl, r236, els240⟩; refine ⟨_, rfl, ?_⟩; have els240 := els240.mono (up_le S210.size); have S235 := S210.join (l' := [.row 108 2 v237 n238 cs239]) r236 rfl; refine ⟨(SP.nil (Sl.of_inc r236.run.inc S235.sl)), ?_⟩; refine FB.all1 (i := 22) (by kernel_rfl) ?_
        ·
         obtain ⟨H241, S242, i243, h244, nv245⟩ := S235.sealRowU (i := 0) (l' := []) rfl els240 (by decide) rfl; refine FC.call (l' := (bs 24 8388607)) rfl (by kernel_rfl) rfl rfl rfl (E.call call61 (A2 rfl rfl)) (w_spec_l20Same S242.sl v37 x35.poly (h38.mono (((((((i27.tr i48).tr i102).tr i115).tr i181).tr i195).tr r236.run.inc).tr i243)) v237 r231 (h244.mono upI) hr247) ?_; rintro e w248 ⟨rfl, r249⟩; refine ⟨_, rfl, ?_⟩; have r249 := Run.lend i243 S235.sl r249; have S250 := S235.call r249; refine ⟨(SP.nil (Sl.of_inc r236.run.inc S250.sl)), ?_⟩; refine FB.T 23 24 16777215 rfl (Sl.of_inc r236.run.inc S250.sl) rfl (fun _ z => (E.assign (v := vB r246) rfl)) ?_; exact FB.done (by kernel_rfl) ⟨_, (S250.sel [] (by decide) rfl), r236.run.inc, rfl⟩
      ·
       rintro f255 w254 ⟨H251, S252, i253, k256⟩; refine FW.ret ?_; cases hp; exact ⟨.inr rfl, res1 rfl k256 ⟨rfl, S252.back⟩⟩

theorem w_spec_l20Wrong {Ha : GH} {wa : World} (hs : Sl Ha wa) (a0 : Int) (a1 : Cnf) (v1_1 : Value) (p1_1 : RSl Ha (eL eI 1) 1 v1_1 a1.clauses) (v2 : Value) (a2 : List PcStep) (p2 : RSl Ha ePcStep 6 v2 a2) {r : Int} (hp : (PF.spec_l20Wrong a0 a1 a2) = some r) :
  Calls prog 115 #[vI a0, vA #[vI a1.vars, v1_1], v2] wa (Sc Ha wa (vI r)) := by
 unfold PF.spec_l20Wrong at hp; have S0 := St.init hs; refine calls_go (N := 21) (args := [vI a0, vA #[vI a1.vars, v1_1], v2]) func115 rfl rfl rfl ?_; refine FW.sr ?_; obtain ⟨b21, w22, run23, S24⟩ := S0.box (P := prog) 32 [vI a1.vars, v1_1] (v := vA #[vI a1.vars, v1_1]) rfl (oC rfl (oC p1_1.one ones_nil)); refine FL.v (E.box rfl run23) ?_; obtain ⟨H25, S26, i27, at28⟩ := S24.sealBox (i := 0) (l' := []) rfl rfl; refine FL.as (v := vI 0) rfl ?_; refine FL.nil (FW.seq (FW.sr ?_)); refine FL.as (v := vI 0) rfl ?_; refine FL.nil ?_; obtain ⟨q30, hq, hp⟩ := bndR hp; refine FW.block ?_; refine FW.mono (FW.forL (S := Unit) (X := Int) (fun (i30 : Nat) (s30 : Unit) f w => ∃ H : GH, St Ha wa H w [] ∧ Inc H25 H ∧ f 7 = vI ((i30 : Nat) : Int) ∧ f 0 = vI a0 ∧ f 2 = v2 ∧ f 4 = vP (⟨b21, 0, none⟩)) (fun q e f w => match q with | .go s30 => e = Exit.exit 0 ∧ (∃ H : GH, St Ha wa H w [] ∧ Inc H25 H) | .rt x => ((e = Exit.ret) ∧ (fun e f w => (e = Exit.normal ∨ e = Exit.ret) ∧ ∀ a, Fr (δ := []) 21 a f → ∃ v, (results Tryz.f115 a.tmps).run prog w = .ok v w ∧ (Sc Ha wa (vI x)) (.returned v) w) e f w)) hq ⟨_, S26, I0, rfl, rfl, rfl, rfl⟩ ?_ ?_) ?_
 ·
  clear hp hq; rintro i30 y29 s30 f50 w49 ⟨H46, S47, i48, k51, k52, k53, k54⟩ hx30 o61 hp; refine FW.seq (FW.sr ?_); refine FL.mv k51 ?_; refine FL.mv k53 ?_; refine FL.v (E.lenP te36 rfl p2) ?_; refine FL.v (E.lssT rfl rfl (lss_len hx30)) ?_; refine FL.nil ?_; refine FW.condT rfl rfl ?_; refine FW.skip (FW.seq (FW.block (FW.sr ?_))); refine FL.mv k52 ?_; refine FL.v (E.load k54 (run_loadA isAgg32 sizeOf32 ((at28.mono i48).now S47.sl) rfl)) ?_; refine FL.mv k53 ?_; refine FL.mv k51 ?_; obtain ⟨r55, hr56, hp⟩ := bnd hp; refine FL.c (E.call call178 (A4 rfl rfl rfl rfl)) (w_spec_l20Correct S47.sl a0 a1 v1_1 (p1_1.mono (i27.tr i48)) v2 a2 (p2.mono (i27.tr i48)) ((i30 : Nat) : Int) hr56) ?_; rintro e w57 ⟨rfl, r58⟩; refine ⟨_, rfl, ?_⟩; have S59 := S47.call r58; refine FL.v (E.not rfl) ?_; refine FL.nil ?_; rcases ifB hp with ⟨c60, hp⟩ | ⟨c60, hp⟩
  ·
   refine FW.condT rfl c60 ?_; refine FW.sr ?_; refine FL.mv k51 ?_; refine FL.as (v := vI ((i30 : Nat) : Int)) rfl ?_; refine FL.nil (FW.ret ?_); cases hp; exact ⟨nofun, rfl, ⟨.inr rfl, res1 rfl rfl ⟨rfl, S59.back⟩⟩⟩
  ·
   refine FW.condF rfl c60 ?_; refine FW.skip (FW.region ?_); refine FL.mv k51 ?_; refine FL.v (E.add rfl rfl) ?_; refine FL.as (v := vI (wr (((i30 : Nat) : Int) + 1))) rfl ?_; refine FL.nil ?_; cases hp; exact ⟨rfl, ⟨_, S59, i48, (nat_succ rfl (lt_of_get hx30) (p2.mono (i27.tr i48)).le), k52, k53, k54⟩⟩
 ·
  clear hp hq; rintro s30 f71 w70 ⟨H67, S68, i69, k72, k73, k74, k75⟩; refine FW.seq (FW.sr ?_); refine FL.mv k72 ?_; refine FL.mv k74 ?_; refine FL.v (E.lenP te36 rfl p2) ?_; refine FL.v (E.lss rfl rfl) ?_; refine FL.nil ?_; refine FW.condF rfl dlt_len ?_; refine FW.exit ?_; exact ⟨nofun, rfl, ⟨_, S68, i69⟩⟩
 ·
  clear hq; intro e f66 w65 hD; rcases q30 with s30 | x30
  ·
   obtain ⟨rfl, hD⟩ := hD; obtain ⟨H62, S63, i64⟩ := hD; replace hp := el_go hp; refine FW.sr ?_; refine FL.as (v := vI (-1)) rfl ?_; refine FL.nil (FW.ret ?_); cases hp; exact ⟨.inr rfl, res1 rfl rfl ⟨rfl, S63.back⟩⟩
  ·
   obtain ⟨he, hL⟩ := hD; replace hp := el_rt hp; cases hp; subst he; exact hL

theorem w_spec_l20Good {Ha : GH} {wa : World} (hs : Sl Ha wa) (a0 : Int) (a1 : Cnf) (v1_1 : Value) (p1_1 : RSl Ha (eL eI 1) 1 v1_1 a1.clauses) (v2 : Value) (a2 : List PcStep) (p2 : RSl Ha ePcStep 6 v2 a2) {r : Bool} (hp : (PF.spec_l20Good a0 a1 a2) = some r) :
  Calls prog 59 #[vI a0, vA #[vI a1.vars, v1_1], v2] wa (Sc Ha wa (vB r)) := by
 unfold PF.spec_l20Good at hp; have S0 := St.init hs; refine calls_go (N := 22) (args := [vI a0, vA #[vI a1.vars, v1_1], v2]) func59 rfl rfl rfl ?_; refine FW.sr ?_; obtain ⟨b21, w22, run23, S24⟩ := S0.box (P := prog) 32 [vI a1.vars, v1_1] (v := vA #[vI a1.vars, v1_1]) rfl (oC rfl (oC p1_1.one ones_nil)); refine FL.v (E.box rfl run23) ?_; obtain ⟨H25, S26, i27, at28⟩ := S24.sealBox (i := 0) (l' := []) rfl rfl; refine FL.as (v := vB false) rfl ?_; refine FL.nil (FW.sr ?_); refine FL.mv (v := vI a0) rfl ?_; refine FL.v (E.load rfl (run_loadA isAgg32 sizeOf32 (at28.now S26.sl) rfl)) ?_; obtain ⟨r29, hr30, hp⟩ := bnd hp; refine FL.c (E.call call90 (A2 rfl rfl)) (w_spec_l20Asked S26.sl a0 a1 v1_1 (p1_1.mono i27) hr30) ?_; rintro e w31 ⟨rfl, r32⟩; refine ⟨_, rfl, ?_⟩; have S33 := S26.call r32; refine FL.mv (v := vB r29) rfl ?_; refine FL.cut 4 (fun f w => ∃ H : GH, St Ha wa H w [] ∧ Inc H25 H ∧ f 0 = vI a0 ∧ f 2 = v2 ∧ f 4 = vP (⟨b21, 0, none⟩) ∧ f 14 = vB (bif r29 then (decide ((len a2) ≤ 300)) else false)) ?_ ?_
 ·
  rcases bcase r29 with c40 | c40
  ·
   refine FL.y (wY c40) (E.move (v := v2) rfl) ?_; refine FL.y (wY c40) (E.lenP te36 rfl p2) ?_; refine FL.y (wY c40) (E.leq rfl rfl) ?_; refine FL.v (E.pickT rfl c40 rfl) ?_; exact FL.nil ⟨rfl, _, S33, I0, rfl, rfl, rfl, (congrArg vB (bifT c40).symm)⟩
  ·
   refine FL.skip (wN c40) rfl ?_; refine FL.skip (wN c40) rfl ?_; refine FL.skip (wN c40) rfl ?_; refine FL.v (E.pickF rfl c40 rfl) ?_; exact FL.nil ⟨rfl, _, S33, I0, rfl, rfl, rfl, (congrArg vB (bifF c40).symm)⟩
 rintro f39 w38 ⟨H35, S36, i37, k41, k42, k43, k44⟩; refine FL.mv k44 ?_; obtain ⟨t50, hqt50, hp⟩ := bnd hp; refine FL.cut 6 (fun f w => ∃ H : GH, St Ha wa H w [] ∧ Inc H35 H ∧ f 21 = vB t50) ?_ ?_
 ·
  clear hp; have hp := hqt50; clear hqt50; rcases ifB hp with ⟨c56, hp⟩ | ⟨c56, hp⟩
  ·
   refine FL.y (wY c56) (E.move k41) ?_; refine FL.y (wY c56) (E.load k43 (run_loadA isAgg32 sizeOf32 ((at28.mono i37).now S36.sl) rfl)) ?_; refine FL.y (wY c56) (E.move k42) ?_; obtain ⟨r57, hr58, hp⟩ := bnd hp; refine FL.call (wY c56) rfl rfl (E.call call115 (A3 rfl rfl rfl)) (w_spec_l20Wrong S36.sl a0 a1 v1_1 (p1_1.mono (i27.tr i37)) v2 a2 (p2.mono (i27.tr i37)) hr58) ?_; rintro e w59 ⟨rfl, r60⟩; refine ⟨_, rfl, ?_⟩; have S61 := S36.call r60; refine FL.y (wY c56) (E.lss rfl rfl) ?_; cases hp; refine FL.v (E.pickT rfl c56 rfl) ?_; exact FL.nil ⟨rfl, _, S61, I0, rfl⟩
  ·
   refine FL.skip (wN c56) rfl ?_; refine FL.skip (wN c56) rfl ?_; refine FL.skip (wN c56) rfl ?_; refine FL.skip (wN c56) rfl ?_; refine FL.skip (wN c56) rfl ?_; cases hp; refine FL.v (E.pickF rfl c56 rfl) ?_; exact FL.nil ⟨rfl, _, S36, I0, rfl⟩
 rintro f55 w54 ⟨H51, S52, i53, k62⟩; refine FL.as k62 ?_; refine FL.nil (FW.ret ?_); cases hp; exact ⟨.inr rfl, res1 rfl rfl ⟨rfl, S52.back⟩⟩

theorem w_spec_l14Count {Ha : GH} {wa : World} (hs : Sl Ha wa) (a0 : Int) {r : Int} (hp : (PF.spec_l14Count a0) = some r) :
    Calls prog 186 #[vI a0] wa (Sc Ha wa (vI r)) := by
  unfold PF.spec_l14Count at hp
  have S0 := St.init hs
  refine calls_go (N := 13) (args := [vI a0]) Tryz.func186 rfl rfl rfl ?_
  refine FW.seq (FW.region ?_)
  refine FL.v (E.assign (v := vI 0) rfl) ?_
  refine FL.nil (FW.seq (FW.region ?_))
  refine FL.v (E.assign (v := vI 0) rfl) ?_
  refine FL.nil (FW.seq ?_)
  obtain ⟨q21, hq, hp⟩ := bndR hp
  refine FW.block ?_
  refine FW.mono (FW.iter (S := (Int × Int)) (X := Empty) (fun (s21 : (Int × Int)) f w => ∃ H : GH, St Ha wa H w [] ∧ Inc Ha H ∧ f 0 = vI s21.1 ∧ f 3 = vI s21.2) (fun (q : Rs (Int × Int) Empty) e f w => match q with | .go s21 => e = Exit.exit 0 ∧ (∃ H : GH, St Ha wa H w [] ∧ Inc Ha H ∧ f 3 = vI s21.2) | .rt x => x.elim) hq ⟨_, S0, (Inc.rfl _), rfl, rfl⟩ ?_) ?_
  ·
    clear hp hq
    rintro s21 f34 w33 ⟨H30, S31, i32, k35, k36⟩ o38 hp
    refine FW.seq (FW.seq (FW.region ?_))
    refine FL.v (E.move k35) ?_
    refine FL.v (E.gtr rfl rfl) ?_
    refine FL.nil ?_
    rcases ifB hp with ⟨c37, hp⟩ | ⟨c37, hp⟩
    ·
      refine FW.condT rfl c37 ?_
      refine FW.skip (FW.seq (FW.block (FW.region ?_)))
      refine FL.v (E.move k36) ?_
      refine FL.v (E.move k35) ?_
      refine FL.v (E.rem rfl rfl (by decide)) ?_
      refine FL.v (E.add rfl rfl) ?_
      refine FL.v (E.assign (v := vI (wr (s21.2 + (s21.1.tmod 2)))) rfl) ?_
      refine FL.nil (FW.region ?_)
      refine FL.v (E.move k35) ?_
      refine FL.v (E.quo rfl rfl (by decide)) ?_
      refine FL.v (E.assign (v := vI (wr (s21.1.tdiv 2))) rfl) ?_
      refine FL.nil ?_
      obtain rfl := Option.some.inj hp
      exact ⟨rfl, ⟨_, S31, i32, rfl, rfl⟩⟩
    ·
      refine FW.condF rfl c37 ?_
      refine FW.exit ?_
      obtain rfl := Option.some.inj hp
      exact ⟨nofun, rfl, ⟨_, S31, i32, k36⟩⟩
  ·
    clear hq
    intro e f43 w42 hD
    rcases q21 with s21 | x21
    ·
      obtain ⟨rfl, hD⟩ := hD
      obtain ⟨H39, S40, i41, k44⟩ := hD
      replace hp := el_go hp
      refine FW.seq (FW.region ?_)
      refine FL.v (E.move k44) ?_
      refine FL.v (E.assign (v := vI s21.2) rfl) ?_
      refine FL.nil ?_
      refine FW.ret ?_
      obtain rfl := Option.some.inj hp
      exact ⟨.inr rfl, res1 rfl rfl ⟨rfl, S40.back⟩⟩
    · exact x21.elim

theorem w_spec_l1Most {Ha : GH} {wa : World} (hs : Sl Ha wa) (a0 : Int) (a1 : Int) :
  Calls prog 127 #[vI a0, vI a1] wa (Sc Ha wa (vI (PF.spec_l1Most a0 a1))) := by
 obtain ⟨r, hp⟩ : ∃ r, (PF.spec_l1Most a0 a1) = r := ⟨_, rfl⟩; rw [hp]; unfold PF.spec_l1Most at hp; have S0 := St.init hs; refine calls_go (N := 10) (args := [vI a0, vI a1]) func127 rfl rfl rfl ?_; refine FW.sr ?_; refine FL.as (v := vI 0) rfl ?_; refine FL.nil (FW.seq (FW.sr ?_)); refine FL.mv (v := vI a0) rfl ?_; refine FL.mv (v := vI a1) rfl ?_; refine FL.v (E.gtr rfl rfl) ?_; refine FL.nil ?_; rcases ifT hp with ⟨c21, hp⟩ | ⟨c21, hp⟩
 ·
  refine FW.condT rfl c21 ?_; refine FW.sr ?_; refine FL.mv (v := vI a0) rfl ?_; refine FL.as (v := vI a0) rfl ?_; refine FL.nil (FW.ret ?_); obtain rfl := hp; exact ⟨.inr rfl, res1 rfl rfl ⟨rfl, S0.back⟩⟩
 ·
  refine FW.condF rfl c21 ?_; refine FW.skip (FW.sr ?_); refine FL.mv (v := vI a1) rfl ?_; refine FL.as (v := vI a1) rfl ?_; refine FL.nil (FW.ret ?_); obtain rfl := hp; exact ⟨.inr rfl, res1 rfl rfl ⟨rfl, S0.back⟩⟩

theorem w_spec_l18Degree {Ha : GH} {wa : World} (hs : Sl Ha wa) (v0 : Value) (a0 : List Term) (p0 : RSl Ha eTerm 2 v0 a0) {r : Int} (hp : (PF.spec_l18Degree a0) = some r) :
    Calls prog 128 #[v0] wa (Sc Ha wa (vI r)) := by
  unfold PF.spec_l18Degree at hp
  have S0 := St.init hs
  refine calls_go (N := 20) (args := [v0]) Tryz.func128 rfl rfl rfl ?_
  refine FW.seq (FW.region ?_)
  refine FL.v (E.assign (v := vI 0) rfl) ?_
  refine FL.nil (FW.seq (FW.region ?_))
  refine FL.v (E.assign (v := vI (-1)) rfl) ?_
  refine FL.nil (FW.seq (FW.seq (FW.region ?_)))
  refine FL.v (E.assign (v := vI 0) rfl) ?_
  refine FL.nil ?_
  obtain ⟨q22, hq, hp⟩ := bndR hp
  refine FW.block ?_
  refine FW.mono (FW.forL (S := Int) (X := Empty) (fun (i22 : Nat) (s22 : Int) f w => ∃ H : GH, St Ha wa H w [] ∧ Inc Ha H ∧ f 4 = vI ((i22 : Nat) : Int) ∧ f 0 = v0 ∧ f 3 = vI s22) (fun (q : Rs Int Empty) e f w => match q with | .go s22 => e = Exit.exit 0 ∧ (∃ H : GH, St Ha wa H w [] ∧ Inc Ha H ∧ f 3 = vI s22) | .rt x => x.elim) hq ⟨_, S0, (Inc.rfl _), rfl, rfl, rfl⟩ ?_ ?_) ?_
  ·
    clear hp hq
    rintro i22 y21 s22 f49 w48 ⟨H45, S46, i47, k50, k51, k52⟩ hx22 o67 hp
    refine FW.seq (FW.seq (FW.region ?_))
    refine FL.v (E.move k50) ?_
    refine FL.v (E.move k51) ?_
    refine FL.v (E.lenP te55 rfl p0) ?_
    refine FL.v (E.lssT rfl rfl (lss_len hx22)) ?_
    refine FL.nil ?_
    refine FW.condT rfl rfl ?_
    refine FW.skip (FW.seq (FW.block (FW.region ?_)))
    refine FL.v (E.move k52) ?_
    refine FL.v (E.move k51) ?_
    refine FL.v (E.move k50) ?_
    obtain ⟨p53, cs54, pt55, l56, at57, rel58⟩ := p0.at (ix_nat hx22)
    obtain rfl := eTerm_open rel58
    refine FL.v (E.indexAddr te55 rfl rfl pt55) ?_
    refine FL.v (E.fieldAddr tf108_0 rfl) ?_
    refine FL.v (E.load rfl (run_load1 Tryz.isAgg3 ((at57.mono i47).now S46.sl) rfl)) ?_
    obtain ⟨r59, hr60, hp⟩ := bnd hp
    refine FL.call rfl rfl rfl (E.call Tryz.call186 (A1 rfl)) (w_spec_l14Count S46.sl y21.mono hr60) ?_
    rintro e w61 ⟨rfl, r62⟩
    refine ⟨_, rfl, ?_⟩
    have S63 := S46.call r62
    refine FL.call rfl rfl rfl (E.call Tryz.call127 (A2 rfl rfl)) (w_spec_l1Most S63.sl s22 r59) ?_
    rintro e w64 ⟨rfl, r65⟩
    refine ⟨_, rfl, ?_⟩
    have S66 := S63.call r65
    refine FL.v (E.assign (v := vI (PF.spec_l1Most s22 r59)) rfl) ?_
    refine FL.nil (FW.region ?_)
    refine FL.v (E.move k50) ?_
    refine FL.v (E.add rfl rfl) ?_
    refine FL.v (E.assign (v := vI (wr (((i22 : Nat) : Int) + 1))) rfl) ?_
    refine FL.nil ?_
    obtain rfl := Option.some.inj hp
    exact ⟨rfl, ⟨_, S66, i47, (nat_succ rfl (lt_of_get hx22) (p0.mono i47).le), k51, rfl⟩⟩
  ·
    clear hp hq
    rintro s22 f78 w77 ⟨H74, S75, i76, k79, k80, k81⟩
    refine FW.seq (FW.seq (FW.region ?_))
    refine FL.v (E.move k79) ?_
    refine FL.v (E.move k80) ?_
    refine FL.v (E.lenP te55 rfl p0) ?_
    refine FL.v (E.lss rfl rfl) ?_
    refine FL.nil ?_
    refine FW.condF rfl dlt_len ?_
    refine FW.exit ?_
    exact ⟨nofun, rfl, ⟨_, S75, i76, k81⟩⟩
  ·
    clear hq
    intro e f72 w71 hD
    rcases q22 with s22 | x22
    ·
      obtain ⟨rfl, hD⟩ := hD
      obtain ⟨H68, S69, i70, k73⟩ := hD
      replace hp := el_go hp
      refine FW.seq (FW.region ?_)
      refine FL.v (E.move k73) ?_
      refine FL.v (E.assign (v := vI s22) rfl) ?_
      refine FL.nil ?_
      refine FW.ret ?_
      obtain rfl := Option.some.inj hp
      exact ⟨.inr rfl, res1 rfl rfl ⟨rfl, S69.back⟩⟩
    · exact x22.elim

theorem w_spec_PcDegree {Ha : GH} {wa : World} (hs : Sl Ha wa) (a0 : Int) (a1 : Cnf) (v1_1 : Value) (p1_1 : RSl Ha (eL eI 1) 1 v1_1 a1.clauses) (v2 : Value) (a2 : List PcStep) (p2 : RSl Ha ePcStep 6 v2 a2) {r : (Int × Bool)} (hp : (PF.spec_PcDegree a0 a1 a2) = some r) :
    Calls prog 74 #[vI a0, vA #[vI a1.vars, v1_1], v2] wa (Sc Ha wa (Value.tuple #[vI r.1, vB r.2])) := by
  unfold PF.spec_PcDegree at hp
  have S0 := St.init hs
  refine calls_go (N := 30) (args := [vI a0, vA #[vI a1.vars, v1_1], v2]) Tryz.func74 rfl rfl rfl ?_
  refine FW.seq (FW.region ?_)
  obtain ⟨b21, w22, run23, S24⟩ := S0.box (P := prog) 32 [vI a1.vars, v1_1] (v := vA #[vI a1.vars, v1_1]) rfl (ones_cons rfl (ones_cons p1_1.one ones_nil))
  refine FL.v (E.box rfl run23) ?_
  obtain ⟨H25, S26, i27, at28⟩ := S24.sealBox (i := 0) (l' := []) rfl rfl
  refine FL.v (E.assign (v := vI 0) rfl) ?_
  refine FL.v (E.assign (v := vB false) rfl) ?_
  refine FL.nil (FW.seq (FW.seq (FW.region ?_)))
  refine FL.v (E.move (v := vI a0) rfl) ?_
  refine FL.v (E.load rfl (run_loadA Tryz.isAgg32 Tryz.sizeOf32 (at28.now S26.sl) rfl)) ?_
  refine FL.v (E.move (v := v2) rfl) ?_
  obtain ⟨r29, hr30, hp⟩ := bnd hp
  refine FL.call rfl rfl rfl (E.call Tryz.call59 (A3 rfl rfl rfl)) (w_spec_l20Good S26.sl a0 a1 v1_1 (p1_1.mono i27) v2 a2 (p2.mono i27) hr30) ?_
  rintro e w31 ⟨rfl, r32⟩
  refine ⟨_, rfl, ?_⟩
  have S33 := S26.call r32
  refine FL.v (E.not rfl) ?_
  refine FL.nil ?_
  rcases ifB hp with ⟨c34, hp⟩ | ⟨c34, hp⟩
  ·
    refine FW.condT rfl c34 ?_
    refine FW.seq (FW.region ?_)
    refine FL.v (E.assign (v := vI 0) rfl) ?_
    refine FL.v (E.assign (v := vB false) rfl) ?_
    refine FL.nil ?_
    refine FW.ret ?_
    obtain rfl := Option.some.inj hp
    exact ⟨.inr rfl, res2 rfl rfl rfl ⟨rfl, S33.back⟩⟩
  ·
    refine FW.condF rfl c34 ?_
    refine FW.skip (FW.seq (FW.region ?_))
    refine FL.v (E.assign (v := vI (-1)) rfl) ?_
    refine FL.nil (FW.seq (FW.seq (FW.region ?_)))
    refine FL.v (E.assign (v := vI 0) rfl) ?_
    refine FL.nil ?_
    obtain ⟨q36, hq, hp⟩ := bndR hp
    refine FW.block ?_
    refine FW.mono (FW.forL (S := Int) (X := Empty) (fun (i36 : Nat) (s36 : Int) f w => ∃ H : GH, St Ha wa H w [] ∧ Inc H25 H ∧ f 9 = vI ((i36 : Nat) : Int) ∧ f 2 = v2 ∧ f 8 = vI s36) (fun (q : Rs Int Empty) e f w => match q with | .go s36 => e = Exit.exit 0 ∧ (∃ H : GH, St Ha wa H w [] ∧ Inc H25 H ∧ f 8 = vI s36) | .rt x => x.elim) hq ⟨_, S33, (Inc.rfl _), rfl, rfl, rfl⟩ ?_ ?_) ?_
    ·
      clear hp hq
      rintro i36 y35 s36 f65 w64 ⟨H61, S62, i63, k66, k67, k68⟩ hx36 o85 hp
      refine FW.seq (FW.seq (FW.region ?_))
      refine FL.v (E.move k66) ?_
      refine FL.v (E.move k67) ?_
      refine FL.v (E.lenP te36 rfl p2) ?_
      refine FL.v (E.lssT rfl rfl (lss_len hx36)) ?_
      refine FL.nil ?_
      refine FW.condT rfl rfl ?_
      refine FW.skip (FW.seq (FW.block (FW.region ?_)))
      refine FL.v (E.move k68) ?_
      refine FL.v (E.move k67) ?_
      refine FL.v (E.move k66) ?_
      obtain ⟨p69, cs70, pt71, l72, at73, rel74⟩ := p2.at (ix_nat hx36)
      obtain ⟨v75, rfl, h76⟩ := ePcStep_open rel74
      refine FL.v (E.indexAddr te36 rfl rfl pt71) ?_
      refine FL.v (E.fieldAddr tf90_1 rfl) ?_
      refine FL.v (E.load rfl (run_load1 Tryz.isAgg55 ((at73.mono (i27.tr i63)).now S62.sl) rfl)) ?_
      obtain ⟨r77, hr78, hp⟩ := bnd hp
      refine FL.call rfl rfl rfl (E.call Tryz.call128 (A1 rfl)) (w_spec_l18Degree S62.sl v75 y35.poly (h76.mono (i27.tr i63)) hr78) ?_
      rintro e w79 ⟨rfl, r80⟩
      refine ⟨_, rfl, ?_⟩
      have S81 := S62.call r80
      refine FL.call rfl rfl rfl (E.call Tryz.call127 (A2 rfl rfl)) (w_spec_l1Most S81.sl s36 r77) ?_
      rintro e w82 ⟨rfl, r83⟩
      refine ⟨_, rfl, ?_⟩
      have S84 := S81.call r83
      refine FL.v (E.assign (v := vI (PF.spec_l1Most s36 r77)) rfl) ?_
      refine FL.nil (FW.region ?_)
      refine FL.v (E.move k66) ?_
      refine FL.v (E.add rfl rfl) ?_
      refine FL.v (E.assign (v := vI (wr (((i36 : Nat) : Int) + 1))) rfl) ?_
      refine FL.nil ?_
      obtain rfl := Option.some.inj hp
      exact ⟨rfl, ⟨_, S84, i63, (nat_succ rfl (lt_of_get hx36) (p2.mono (i27.tr i63)).le), k67, rfl⟩⟩
    ·
      clear hp hq
      rintro s36 f96 w95 ⟨H92, S93, i94, k97, k98, k99⟩
      refine FW.seq (FW.seq (FW.region ?_))
      refine FL.v (E.move k97) ?_
      refine FL.v (E.move k98) ?_
      refine FL.v (E.lenP te36 rfl p2) ?_
      refine FL.v (E.lss rfl rfl) ?_
      refine FL.nil ?_
      refine FW.condF rfl dlt_len ?_
      refine FW.exit ?_
      exact ⟨nofun, rfl, ⟨_, S93, i94, k99⟩⟩
    ·
      clear hq
      intro e f90 w89 hD
      rcases q36 with s36 | x36
      ·
        obtain ⟨rfl, hD⟩ := hD
        obtain ⟨H86, S87, i88, k91⟩ := hD
        replace hp := el_go hp
        refine FW.seq (FW.region ?_)
        refine FL.v (E.move k91) ?_
        refine FL.v (E.assign (v := vI s36) rfl) ?_
        refine FL.v (E.assign (v := vB true) rfl) ?_
        refine FL.nil ?_
        refine FW.ret ?_
        obtain rfl := Option.some.inj hp
        exact ⟨.inr rfl, res2 rfl rfl rfl ⟨rfl, S87.back⟩⟩
      · exact x36.elim

theorem w_spec_TranslatedDegree {Ha : GH} {wa : World} (hs : Sl Ha wa) (a0 : Int) (a1 : Cnf) (v1_1 : Value) (p1_1 : RSl Ha (eL eI 1) 1 v1_1 a1.clauses) (v2 : Value) (a2 : List ResStep) (p2 : RSl Ha eResStep 4 v2 a2) {r : (Int × Bool)} (hp : (PF.spec_TranslatedDegree a0 a1 a2) = some r) :
  Calls prog 22 #[vI a0, vA #[vI a1.vars, v1_1], v2] wa (Sc Ha wa (Value.tuple #[vI r.1, vB r.2])) := by
 unfold PF.spec_TranslatedDegree at hp; have S0 := St.init hs; refine calls_go (N := 25) (args := [vI a0, vA #[vI a1.vars, v1_1], v2]) func22 rfl rfl rfl ?_; refine FW.sr ?_; obtain ⟨b21, w22, run23, S24⟩ := S0.box (P := prog) 32 [vI a1.vars, v1_1] (v := vA #[vI a1.vars, v1_1]) rfl (oC rfl (oC p1_1.one ones_nil)); refine FL.v (E.box rfl run23) ?_; obtain ⟨H25, S26, i27, at28⟩ := S24.sealBox (i := 0) (l' := []) rfl rfl; refine FL.as (v := vI 0) rfl ?_; refine FL.as (v := vB false) rfl ?_; refine FL.nil (FW.sr ?_); refine FL.mv (v := vI a0) rfl ?_; refine FL.v (E.load rfl (run_loadA isAgg32 sizeOf32 (at28.now S26.sl) rfl)) ?_; refine FL.mv (v := v2) rfl ?_; obtain ⟨r29, hr30, hp⟩ := bnd hp; refine FL.c (E.call call73 (A3 rfl rfl rfl)) (w_spec_l21Pc S26.sl a0 a1 v1_1 (p1_1.mono i27) v2 a2 (p2.mono i27) hr30) ?_; rintro e w32 ⟨H31, v35, rfl, r34, ⟨c38, ns37⟩⟩; refine ⟨_, rfl, ?_⟩; have h36 := ns37.rsl; have nv39 : New H25 [v35] := New.of_up S26.sl h36.dom; have h36 := h36.mono (up_le S26.size); have ns37 := ns37.mono (up_le S26.size); have S33 := S26.call r34; refine FL.mv (v := Value.tuple #[v35, vB r29.2]) rfl ?_; refine FL.v (E.extract (i := 0) rfl rfl) ?_; refine FL.v (E.extract (i := 1) rfl rfl) ?_; refine FL.as (v := v35) rfl ?_; refine FL.as (v := vB r29.2) rfl ?_; refine FL.nil (FW.seq (FW.sr ?_)); refine FL.mv (v := vB r29.2) rfl ?_; refine FL.v (E.not rfl) ?_; refine FL.nil ?_; rcases ifB hp with ⟨c40, hp⟩ | ⟨c40, hp⟩
 ·
  refine FW.condT rfl c40 ?_; refine FW.sr ?_; refine FL.as (v := vI 0) rfl ?_; refine FL.as (v := vB false) rfl ?_; refine FL.nil (FW.ret ?_); cases hp; exact ⟨.inr rfl, res2 rfl rfl rfl ⟨rfl, S33.back⟩⟩
 ·
  refine FW.condF rfl c40 ?_; refine FW.skip (FW.sr ?_); refine FL.mv (v := vI a0) rfl ?_; refine FL.v (E.load rfl (run_loadA isAgg32 sizeOf32 ((at28.mono r34.inc).now S33.sl) rfl)) ?_; refine FL.mv (v := v35) rfl ?_; obtain ⟨r41, hr42, hp⟩ := bnd hp; refine FL.c (E.call call74 (A3 rfl rfl rfl)) (w_spec_PcDegree S33.sl a0 a1 v1_1 (p1_1.mono (i27.tr r34.inc)) v35 r29.1 (h36.mono upI) hr42) ?_; rintro e w43 ⟨rfl, r44⟩; refine ⟨_, rfl, ?_⟩; have S45 := S33.call r44; refine FL.v (E.extract (i := 0) rfl rfl) ?_; refine FL.v (E.extract (i := 1) rfl rfl) ?_; refine FL.as (v := vI r41.1) rfl ?_; refine FL.as (v := vB r41.2) rfl ?_; refine FL.nil (FW.ret ?_); cases hp; exact ⟨.inr rfl, res2 rfl rfl rfl ⟨rfl, S45.back⟩⟩

theorem w_impl_within {Ha : GH} {wa : World} (hs : Sl Ha wa) (a0 : Int) (a1 : Int) (a2 : Int) :
  Calls prog 162 #[vI a0, vI a1, vI a2] wa (Sc Ha wa (vB (PF.impl_within a0 a1 a2))) := by
 obtain ⟨r, hp⟩ : ∃ r, (PF.impl_within a0 a1 a2) = r := ⟨_, rfl⟩; rw [hp]; unfold PF.impl_within at hp; have S0 := St.init hs; refine calls_go (N := 15) (args := [vI a0, vI a1, vI a2]) func162 rfl rfl rfl ?_; refine FW.sr ?_; refine FL.as (v := vB false) rfl ?_; refine FL.nil (FW.sr ?_); refine FL.mv (v := vI a0) rfl ?_; refine FL.mv (v := vI a1) rfl ?_; refine FL.v (E.geq rfl rfl) ?_; refine FL.mv (v := vB (decide (a1 ≤ a0))) rfl ?_; refine FL.cut 4 (fun f w => ∃ H : GH, St Ha wa H w [] ∧ Inc Ha H ∧ f 14 = vB (bif (decide (a1 ≤ a0)) then (decide (a0 ≤ a2)) else false)) ?_ ?_
 ·
  rcases bcase (decide (a1 ≤ a0)) with c27 | c27
  ·
   refine FL.y (wY c27) (E.move (v := vI a0) rfl) ?_; refine FL.y (wY c27) (E.move (v := vI a2) rfl) ?_; refine FL.y (wY c27) (E.leq rfl rfl) ?_; refine FL.v (E.pickT rfl c27 rfl) ?_; exact FL.nil ⟨rfl, _, S0, I0, (congrArg vB (bifT c27).symm)⟩
  ·
   refine FL.skip (wN c27) rfl ?_; refine FL.skip (wN c27) rfl ?_; refine FL.skip (wN c27) rfl ?_; refine FL.v (E.pickF rfl c27 rfl) ?_; exact FL.nil ⟨rfl, _, S0, I0, (congrArg vB (bifF c27).symm)⟩
 rintro f26 w25 ⟨H22, S23, i24, k28⟩; refine FL.as k28 ?_; refine FL.nil (FW.ret ?_); obtain rfl := hp; exact ⟨.inr rfl, res1 rfl rfl ⟨rfl, S23.back⟩⟩

theorem w_impl_ringOf {Ha : GH} {wa : World} (hs : Sl Ha wa) (a0 : Int) (a1 : Int) :
  Calls prog 119 #[vI a0, vI a1] wa (Sc Ha wa (Value.tuple #[vA #[vI (((PF.impl_ringOf a0 a1).1).p), vI (((PF.impl_ringOf a0 a1).1).vars)], vB ((PF.impl_ringOf a0 a1).2)])) := by
 obtain ⟨r, hp⟩ : ∃ r, (PF.impl_ringOf a0 a1) = r := ⟨_, rfl⟩; rw [hp]; unfold PF.impl_ringOf at hp; have S0 := St.init hs; refine calls_go (N := 23) (args := [vI a0, vI a1]) func119 rfl rfl rfl ?_; refine FW.sr ?_; obtain ⟨b21, w22, run23, S24⟩ := S0.alloc (P := prog) 102 [vI 0, vI 0] zeroValue102 rfl (oC rfl (oC rfl ones_nil)); refine FL.v (E.alloc run23) ?_; refine FL.as (v := vB false) rfl ?_; refine FL.nil (FW.sr ?_); refine FL.mv (v := vI a0) rfl ?_; refine FL.mv (v := vI a1) rfl ?_; refine FL.v (E.build (B2 rfl rfl) (run_build _ 102 #[(0, vI a0), (1, vI a1)] #[vI a0, vI a1] (by rfl))) ?_; refine FL.mv (v := vI a0) rfl ?_; refine FL.v (E.eql rfl rfl) ?_; refine FL.mv (v := vB (a0 == 2)) rfl ?_; refine FL.cut 3 (fun f w => ∃ H : GH, St Ha wa H w [.box b21 102 [vI 0, vI 0]] ∧ Inc Ha H ∧ f 0 = vI a0 ∧ f 1 = vI a1 ∧ f 4 = vP ((⟨b21, 0, none⟩ : Addr)) ∧ f 8 = vA #[vI a0, vI a1] ∧ f 14 = vB (bif (a0 == 2) then true else (a0 == 3))) ?_ ?_
 ·
  rcases bcase (a0 == 2) with c31 | c31
  ·
   refine FL.skip (wN c31) rfl ?_; refine FL.skip (wN c31) rfl ?_; refine FL.v (E.pickT rfl c31 rfl) ?_; exact FL.nil ⟨rfl, _, S24, I0, rfl, rfl, rfl, rfl, (congrArg vB (bifT c31).symm)⟩
  ·
   refine FL.y (wY c31) (E.move (v := vI a0) rfl) ?_; refine FL.y (wY c31) (E.eql rfl rfl) ?_; refine FL.v (E.pickF rfl c31 rfl) ?_; exact FL.nil ⟨rfl, _, S24, I0, rfl, rfl, rfl, rfl, (congrArg vB (bifF c31).symm)⟩
 rintro f30 w29 ⟨H26, S27, i28, k32, k33, k34, k35, k36⟩; refine FL.mv k36 ?_; refine FL.cut 3 (fun f w => ∃ H : GH, St Ha wa H w [.box b21 102 [vI 0, vI 0]] ∧ Inc H26 H ∧ f 1 = vI a1 ∧ f 4 = vP ((⟨b21, 0, none⟩ : Addr)) ∧ f 8 = vA #[vI a0, vI a1] ∧ f 18 = vB (bif (bif (a0 == 2) then true else (a0 == 3)) then true else (a0 == 5))) ?_ ?_
 ·
  rcases bcase (bif (a0 == 2) then true else (a0 == 3)) with c43 | c43
  ·
   refine FL.skip (wN c43) rfl ?_; refine FL.skip (wN c43) rfl ?_; refine FL.v (E.pickT rfl c43 rfl) ?_; exact FL.nil ⟨rfl, _, S27, I0, k33, k34, k35, (congrArg vB (bifT c43).symm)⟩
  ·
   refine FL.y (wY c43) (E.move k32) ?_; refine FL.y (wY c43) (E.eql rfl rfl) ?_; refine FL.v (E.pickF rfl c43 rfl) ?_; exact FL.nil ⟨rfl, _, S27, I0, k33, k34, k35, (congrArg vB (bifF c43).symm)⟩
 rintro f42 w41 ⟨H38, S39, i40, k44, k45, k46, k47⟩; refine FL.mv k47 ?_; refine FL.cut 3 (fun f w => ∃ H : GH, St Ha wa H w [.box b21 102 [vI 0, vI 0]] ∧ Inc H38 H ∧ f 4 = vP ((⟨b21, 0, none⟩ : Addr)) ∧ f 8 = vA #[vI a0, vI a1] ∧ f 22 = vB (bif (bif (bif (a0 == 2) then true else (a0 == 3)) then true else (a0 == 5)) then (PF.impl_within a1 0 6) else false)) ?_ ?_
 ·
  rcases bcase (bif (bif (a0 == 2) then true else (a0 == 3)) then true else (a0 == 5)) with c57 | c57
  ·
   refine FL.y (wY c57) (E.move k44) ?_; refine FL.call (wY c57) rfl rfl (E.call call162 (A3 rfl rfl rfl)) (w_impl_within S39.sl a1 0 6) ?_; rintro e w58 ⟨rfl, r59⟩; refine ⟨_, rfl, ?_⟩; have S60 := S39.call r59; refine FL.v (E.pickT rfl c57 rfl) ?_; exact FL.nil ⟨rfl, _, S60, I0, k45, k46, (congrArg vB (bifT c57).symm)⟩
  ·
   refine FL.skip (wN c57) rfl ?_; refine FL.skip (wN c57) rfl ?_; refine FL.v (E.pickF rfl c57 rfl) ?_; exact FL.nil ⟨rfl, _, S39, I0, k45, k46, (congrArg vB (bifF c57).symm)⟩
 rintro f56 w55 ⟨H52, S53, i54, k61, k62, k63⟩; obtain ⟨w64, run65, S66⟩ := S53.store0 (P := prog) (t := 102) (i := 0) (cs' := [vI a0, vI a1]) (l' := [.box b21 102 [vI a0, vI a1]]) (v := vA #[vI a0, vI a1]) (c := [vI a0, vI a1]) rfl sizeOf102 rfl rfl (oC rfl (oC rfl ones_nil)) (nB rfl) rfl rfl; refine FL.act rfl rfl (E.store k61 k62 run65) ?_; obtain ⟨H67, S68, i69, at70⟩ := S66.sealBox (i := 0) (l' := []) rfl rfl; refine FL.as k63 ?_; refine FL.nil (FW.ret ?_); obtain rfl := hp; exact ⟨.inr rfl, resC2 rfl k61 (loadVar_A isAgg102 sizeOf102 (at70.now S68.sl) rfl) rfl ⟨rfl, S68.back⟩⟩

theorem w_impl_isLiteral {Ha : GH} {wa : World} (hs : Sl Ha wa) (a0 : Int) (a1 : Int) :
  Calls prog 229 #[vI a0, vI a1] wa (Sc Ha wa (vB (PF.impl_isLiteral a0 a1))) := by
 obtain ⟨r, hp⟩ : ∃ r, (PF.impl_isLiteral a0 a1) = r := ⟨_, rfl⟩; rw [hp]; unfold PF.impl_isLiteral at hp; have S0 := St.init hs; refine calls_go (N := 14) (args := [vI a0, vI a1]) func229 rfl rfl rfl ?_; refine FW.sr ?_; refine FL.as (v := vB false) rfl ?_; refine FL.nil (FW.sr ?_); refine FL.mv (v := vI a1) rfl ?_; refine FL.v (E.neq rfl rfl) ?_; refine FL.mv (v := vB (!(a1 == 0))) rfl ?_; refine FL.cut 6 (fun f w => ∃ H : GH, St Ha wa H w [] ∧ Inc Ha H ∧ f 13 = vB (bif (!(a1 == 0)) then (PF.impl_within a1 (wr (-a0)) a0) else false)) ?_ ?_
 ·
  rcases bcase (!(a1 == 0)) with c30 | c30
  ·
   refine FL.y (wY c30) (E.move (v := vI a1) rfl) ?_; refine FL.y (wY c30) (E.move (v := vI a0) rfl) ?_; refine FL.y (wY c30) (E.neg rfl) ?_; refine FL.y (wY c30) (E.move (v := vI a0) rfl) ?_; refine FL.call (wY c30) rfl rfl (E.call call162 (A3 rfl rfl rfl)) (w_impl_within S0.sl a1 (wr (-a0)) a0) ?_; rintro e w31 ⟨rfl, r32⟩; refine ⟨_, rfl, ?_⟩; have S33 := S0.call r32; refine FL.v (E.pickT rfl c30 rfl) ?_; exact FL.nil ⟨rfl, _, S33, I0, (congrArg vB (bifT c30).symm)⟩
  ·
   refine FL.skip (wN c30) rfl ?_; refine FL.skip (wN c30) rfl ?_; refine FL.skip (wN c30) rfl ?_; refine FL.skip (wN c30) rfl ?_; refine FL.skip (wN c30) rfl ?_; refine FL.v (E.pickF rfl c30 rfl) ?_; exact FL.nil ⟨rfl, _, S0, I0, (congrArg vB (bifF c30).symm)⟩
 rintro f29 w28 ⟨H25, S26, i27, k34⟩; refine FL.as k34 ?_; refine FL.nil (FW.ret ?_); obtain rfl := hp; exact ⟨.inr rfl, res1 rfl rfl ⟨rfl, S26.back⟩⟩

theorem w_impl_abs {Ha : GH} {wa : World} (hs : Sl Ha wa) (a0 : Int) :
  Calls prog 143 #[vI a0] wa (Sc Ha wa (vI (PF.impl_abs a0))) := by
 obtain ⟨r, hp⟩ : ∃ r, (PF.impl_abs a0) = r := ⟨_, rfl⟩; rw [hp]; unfold PF.impl_abs at hp; have S0 := St.init hs; refine calls_go (N := 7) (args := [vI a0]) func143 rfl rfl rfl ?_; refine FW.sr ?_; refine FL.as (v := vI 0) rfl ?_; refine FL.nil (FW.sr ?_); refine FL.mv (v := vI a0) rfl ?_; refine FL.mv (v := vI a0) rfl ?_; refine FL.v (E.neg rfl) ?_; refine FL.v (E.max2 rfl rfl) ?_; refine FL.as (v := vI (mx a0 (wr (-a0)))) rfl ?_; refine FL.nil (FW.ret ?_); obtain rfl := hp; exact ⟨.inr rfl, res1 rfl rfl ⟨rfl, S0.back⟩⟩

theorem w_impl_varsOk {Ha : GH} {wa : World} (hs : Sl Ha wa) (a0 : Int) :
  Calls prog 181 #[vI a0] wa (Sc Ha wa (vB (PF.impl_varsOk a0))) := by
 obtain ⟨r, hp⟩ : ∃ r, (PF.impl_varsOk a0) = r := ⟨_, rfl⟩; rw [hp]; unfold PF.impl_varsOk at hp; have S0 := St.init hs; refine calls_go (N := 5) (args := [vI a0]) func181 rfl rfl rfl ?_; refine FW.sr ?_; refine FL.as (v := vB false) rfl ?_; refine FL.nil (FW.sr ?_); refine FL.mv (v := vI a0) rfl ?_; refine FL.c (E.call call162 (A3 rfl rfl rfl)) (w_impl_within S0.sl a0 0 12) ?_; rintro e w21 ⟨rfl, r22⟩; refine ⟨_, rfl, ?_⟩; have S23 := S0.call r22; refine FL.as (v := vB (PF.impl_within a0 0 12)) rfl ?_; refine FL.nil (FW.ret ?_); obtain rfl := hp; exact ⟨.inr rfl, res1 rfl rfl ⟨rfl, S23.back⟩⟩

theorem w_impl_IsClause {Ha : GH} {wa : World} (hs : Sl Ha wa) (a0 : Int) (v1 : Value) (a1 : List Int) (p1 : RSl Ha eI 1 v1 a1) {r : Bool} (hp : (PF.impl_IsClause a0 a1) = some r) :
  Calls prog 180 #[vI a0, v1] wa (Sc Ha wa (vB r)) := by
 unfold PF.impl_IsClause at hp; have S0 := St.init hs; refine calls_go (N := 36) (args := [vI a0, v1]) func180 rfl rfl rfl ?_; refine FW.sr ?_; refine FL.as (v := vB false) rfl ?_; refine FL.nil (FW.seq (FW.sr ?_)); refine FL.mv (v := v1) rfl ?_; refine FL.v (E.lenP te73 rfl p1) ?_; refine FL.mv (v := vI 0) rfl ?_; refine FL.nil ?_; obtain ⟨q22, hq, hp⟩ := bndR hp; refine FW.block ?_; refine FW.mono (FW.forL (S := Unit) (X := Bool) (fun (i22 : Nat) (s22 : Unit) f w => ∃ H : GH, St Ha wa H w [] ∧ Inc Ha H ∧ f 9 = vI ((i22 : Nat) : Int) ∧ f 0 = vI a0 ∧ f 1 = v1 ∧ f 7 = v1 ∧ f 8 = vI (len a1)) (fun q e f w => match q with | .go s22 => e = Exit.exit 0 ∧ (∃ H : GH, St Ha wa H w [] ∧ Inc Ha H ∧ f 0 = vI a0) | .rt x => ((e = Exit.ret) ∧ (fun e f w => (e = Exit.normal ∨ e = Exit.ret) ∧ ∀ a, Fr (δ := []) 36 a f → ∃ v, (results Tryz.f180 a.tmps).run prog w = .ok v w ∧ (Sc Ha wa (vB x)) (.returned v) w) e f w)) hq ⟨_, S0, I0, rfl, rfl, rfl, rfl, rfl⟩ ?_ ?_) ?_
 ·
  clear hp hq; rintro i22 y21 s22 f121 w120 ⟨H117, S118, i119, k122, k123, k124, k125, k126⟩ hx22 o211 hp; refine FW.sr ?_; refine FL.v (E.lssT k122 k126 (lss_len hx22)) ?_; refine FL.nil (FW.seq ?_); refine FW.condT rfl rfl ?_; refine FW.skip (FW.seq (FW.block (FW.sr ?_))); refine FL.mv k122 ?_; obtain ⟨p127, cs128, pt129, l130, at131, rel132⟩ := p1.at (ix_nat hx22); obtain rfl := eI_open rel132; refine FL.v (E.indexAddr te73 k125 k122 pt129) ?_; refine FL.v (E.load rfl (run_load0 isAgg3 ((at131.mono i119).now S118.sl) rfl)) ?_; refine FL.as (v := vI ((i22 : Nat) : Int)) rfl ?_; refine FL.as (v := vI y21) rfl ?_; refine FL.nil (FW.seq ?_); refine FW.draw (fun w' => Run w120.heap.size H117 w120 H117 w') (by kernel_rfl) (by kernel_rfl) (run_drew S118.sl) ?_; refine FD.v (fun _ z => (E.move k123)) ?_; refine FD.v (fun _ z => (E.move (v := vI y21) rfl)) ?_; refine FD.call rfl rfl rfl (fun _ z => (E.call call229 (A2 rfl rfl))) (fun _ z => Calls.cls z (w_impl_isLiteral (S118.call z).sl a0 y21)) ?_; refine FD.v (fun _ z => (E.not rfl)) ?_; refine FD.v (fun _ z => (E.move (v := vB (!(PF.impl_isLiteral a0 y21))) rfl)) ?_; obtain ⟨t164, hqt164, hp⟩ := bnd hp; refine FD.cut 14 (fun f => f 0 = vI a0 ∧ f 1 = v1 ∧ f 7 = v1 ∧ f 8 = vI (len a1) ∧ f 9 = vI ((i22 : Nat) : Int) ∧ f 32 = vB t164) ?_ ?_
  ·
   clear hp; have hp := hqt164; clear hqt164; rcases ifB hp with ⟨c170, hp⟩ | ⟨c170, hp⟩
   ·
    refine FD.skip (wN c170) rfl ?_; refine FD.skip (wN c170) rfl ?_; refine FD.skip (wN c170) rfl ?_; refine FD.skip (wF_undef rfl rfl rfl) rfl ?_; refine FD.skip (wF_undef rfl rfl rfl) rfl ?_; refine FD.skip (wF_undef rfl rfl rfl) rfl ?_; refine FD.skip (wF_undef rfl rfl rfl) rfl ?_; refine FD.skip (wF_undef rfl rfl rfl) rfl ?_; refine FD.skip (wF_undef rfl rfl rfl) rfl ?_; refine FD.skip (wF_undef rfl rfl rfl) rfl ?_; refine FD.skip (wF_undef rfl rfl rfl) rfl ?_; refine FD.skip (wF_undef rfl rfl rfl) rfl ?_; refine FD.skip (wN c170) rfl ?_; cases hp; refine FD.v (fun _ z => (E.pickT rfl c170 rfl)) ?_; exact FD.nil ⟨k123, k124, k125, k126, k122, rfl⟩
   ·
    refine FD.y (wY c170) (fun _ z => (E.move (v := vI ((i22 : Nat) : Int)) rfl)) ?_; refine FD.y (wY c170) (fun _ z => (E.gtr rfl rfl)) ?_; refine FD.y (wY c170) (fun _ z => (E.move (v := vB (decide (0 < ((i22 : Nat) : Int)))) rfl)) ?_; obtain ⟨t179, hqt179, hp⟩ := bnd hp; refine FD.cut 10 (fun f => f 0 = vI a0 ∧ f 1 = v1 ∧ f 7 = v1 ∧ f 8 = vI (len a1) ∧ f 9 = vI ((i22 : Nat) : Int) ∧ f 18 = vB (!(PF.impl_isLiteral a0 y21)) ∧ f 31 = vB t179) ?_ ?_
    ·
     clear hp; have hp := hqt179; clear hqt179; rcases ifB hp with ⟨c185, hp⟩ | ⟨c185, hp⟩
     ·
      refine FD.y (wY c185) (fun _ z => (E.move (v := vI y21) rfl)) ?_; refine FD.call (wY c185) rfl rfl (fun _ z => (E.call call143 (A1 rfl))) (fun _ z => Calls.cls z (w_impl_abs (S118.call z).sl y21)) ?_; refine FD.y (wY c185) (fun _ z => (E.move k124)) ?_; refine FD.y (wY c185) (fun _ z => (E.move (v := vI ((i22 : Nat) : Int)) rfl)) ?_; refine FD.y (wY c185) (fun _ z => (E.sub rfl rfl)) ?_; obtain ⟨x192, hx193, hp⟩ := bnd hp; obtain ⟨p186, cs187, pt188, l189, at190, rel191⟩ := p1.at hx193; obtain rfl := eI_open rel191; refine FD.y (wY c185) (fun _ z => (E.indexAddr te73 rfl rfl pt188)) ?_; refine FD.y (wY c185) (fun _ z => (E.load rfl (run_load0 isAgg3 ((at190.mono i119).now (S118.call z).sl) rfl))) ?_; refine FD.call (wY c185) rfl rfl (fun _ z => (E.call call143 (A1 rfl))) (fun _ z => Calls.cls z (w_impl_abs (S118.call z).sl x192)) ?_; refine FD.y (wY c185) (fun _ z => (E.leq rfl rfl)) ?_; cases hp; refine FD.y (wY c170) (fun _ z => (E.pickT rfl c185 rfl)) ?_; exact FD.nil ⟨k123, k124, k125, k126, k122, rfl, rfl⟩
     ·
      refine FD.skip (wN c185) rfl ?_; refine FD.skip (wN c185) rfl ?_; refine FD.skip (wN c185) rfl ?_; refine FD.skip (wN c185) rfl ?_; refine FD.skip (wN c185) rfl ?_; refine FD.skip (wN c185) rfl ?_; refine FD.skip (wN c185) rfl ?_; refine FD.skip (wN c185) rfl ?_; refine FD.skip (wN c185) rfl ?_; cases hp; refine FD.y (wY c170) (fun _ z => (E.pickF rfl c185 rfl)) ?_; exact FD.nil ⟨k123, k124, k125, k126, k122, rfl, rfl⟩
    rintro f184 ⟨k194, k195, k196, k197, k198, k199, k200⟩; cases hp; refine FD.v (fun _ z => (E.pickF k199 c170 k200)) ?_; exact FD.nil ⟨k194, k195, k196, k197, k198, rfl⟩
  rintro f169 ⟨k201, k202, k203, k204, k205, k206⟩; refine FD.nil ?_; intro w207 r209; have S208 := S118.call r209; rcases ifB hp with ⟨c210, hp⟩ | ⟨c210, hp⟩
  ·
   refine FW.condT k206 c210 ?_; refine FW.sr ?_; refine FL.as (v := vB false) rfl ?_; refine FL.nil (FW.ret ?_); cases hp; exact ⟨nofun, rfl, ⟨.inr rfl, res1 rfl rfl ⟨rfl, S208.back⟩⟩⟩
  ·
   refine FW.condF k206 c210 ?_; refine FW.skip (FW.region ?_); refine FL.v (E.add k205 rfl) ?_; refine FL.mv (v := vI (wr (((i22 : Nat) : Int) + 1))) rfl ?_; refine FL.nil ?_; cases hp; exact ⟨rfl, ⟨_, S208, i119, (nat_succ rfl (lt_of_get hx22) (p1.mono i119).le), k201, k202, k203, k204⟩⟩
 ·
  clear hp hq; rintro s22 f225 w224 ⟨H221, S222, i223, k226, k227, k228, k229, k230⟩; refine FW.sr ?_; refine FL.v (E.lss k226 k230) ?_; refine FL.nil (FW.seq ?_); refine FW.condF rfl dlt_len ?_; refine FW.exit ?_; exact ⟨nofun, rfl, ⟨_, S222, i223, k227⟩⟩
 ·
  clear hq; intro e f216 w215 hD; rcases q22 with s22 | x22
  ·
   obtain ⟨rfl, hD⟩ := hD; obtain ⟨H212, S213, i214, k217⟩ := hD; replace hp := el_go hp; refine FW.sr ?_; refine FL.mv k217 ?_; refine FL.c (E.call call181 (A1 rfl)) (w_impl_varsOk S213.sl a0) ?_; rintro e w218 ⟨rfl, r219⟩; refine ⟨_, rfl, ?_⟩; have S220 := S213.call r219; refine FL.as (v := vB (PF.impl_varsOk a0)) rfl ?_; refine FL.nil (FW.ret ?_); cases hp; exact ⟨.inr rfl, res1 rfl rfl ⟨rfl, S220.back⟩⟩
  ·
   obtain ⟨he, hL⟩ := hD; replace hp := el_rt hp; cases hp; subst he; exact hL

theorem w_impl_IsCnf {Ha : GH} {wa : World} (hs : Sl Ha wa) (a0 : Cnf) (v0_1 : Value) (p0_1 : RSl Ha (eL eI 1) 1 v0_1 a0.clauses) {r : Bool} (hp : (PF.impl_IsCnf a0) = some r) :
  Calls prog 120 #[vA #[vI a0.vars, v0_1]] wa (Sc Ha wa (vB r)) := by
 unfold PF.impl_IsCnf at hp; have S0 := St.init hs; refine calls_go (N := 27) (args := [vA #[vI a0.vars, v0_1]]) func120 rfl rfl rfl ?_; refine FW.sr ?_; obtain ⟨b21, w22, run23, S24⟩ := S0.box (P := prog) 32 [vI a0.vars, v0_1] (v := vA #[vI a0.vars, v0_1]) rfl (oC rfl (oC p0_1.one ones_nil)); refine FL.v (E.box rfl run23) ?_; obtain ⟨H25, S26, i27, at28⟩ := S24.sealBox (i := 0) (l' := []) rfl rfl; refine FL.as (v := vB false) rfl ?_; refine FL.nil (FW.seq (FW.sr ?_)); refine FL.v (E.fieldAddr tf32_1 rfl) ?_; refine FL.v (E.load rfl (run_load1 isAgg22 (at28.now S26.sl) rfl)) ?_; refine FL.v (E.lenP te22 rfl p0_1) ?_; refine FL.mv (v := vI 0) rfl ?_; refine FL.nil ?_; obtain ⟨q30, hq, hp⟩ := bndR hp; refine FW.block ?_; refine FW.mono (FW.forL (S := Unit) (X := Bool) (fun (i30 : Nat) (s30 : Unit) f w => ∃ H : GH, St Ha wa H w [] ∧ Inc H25 H ∧ f 8 = vI ((i30 : Nat) : Int) ∧ f 1 = vP (⟨b21, 0, none⟩) ∧ f 6 = v0_1 ∧ f 7 = vI (len a0.clauses)) (fun q e f w => match q with | .go s30 => e = Exit.exit 0 ∧ (∃ H : GH, St Ha wa H w [] ∧ Inc H25 H ∧ f 1 = vP (⟨b21, 0, none⟩)) | .rt x => ((e = Exit.ret) ∧ (fun e f w => (e = Exit.normal ∨ e = Exit.ret) ∧ ∀ a, Fr (δ := []) 27 a f → ∃ v, (results Tryz.f120 a.tmps).run prog w = .ok v w ∧ (Sc Ha wa (vB x)) (.returned v) w) e f w)) hq ⟨_, S26, I0, rfl, rfl, rfl, rfl⟩ ?_ ?_) ?_
 ·
  clear hp hq; rintro i30 y29 s30 f58 w57 ⟨H54, S55, i56, k59, k60, k61, k62⟩ hx30 o77 hp; refine FW.sr ?_; refine FL.v (E.lssT k59 k62 (lss_len hx30)) ?_; refine FL.nil (FW.seq ?_); refine FW.condT rfl rfl ?_; refine FW.skip (FW.seq (FW.block (FW.sr ?_))); obtain ⟨p63, cs64, pt65, l66, at67, rel68⟩ := p0_1.at (ix_nat hx30); obtain ⟨v69, rfl, h70⟩ := eL_open rel68; refine FL.v (E.indexAddr te22 k61 k59 pt65) ?_; refine FL.v (E.load rfl (run_load0 isAgg73 ((at67.mono (i27.tr i56)).now S55.sl) rfl)) ?_; refine FL.as (v := v69) rfl ?_; refine FL.nil (FW.sr ?_); refine FL.v (E.fieldAddr tf32_0 k60) ?_; refine FL.v (E.load rfl (run_load1 isAgg3 ((at28.mono i56).now S55.sl) rfl)) ?_; refine FL.mv (v := v69) rfl ?_; obtain ⟨r71, hr72, hp⟩ := bnd hp; refine FL.c (E.call call180 (A2 rfl rfl)) (w_impl_IsClause S55.sl a0.vars v69 y29 (h70.mono (i27.tr i56)) hr72) ?_; rintro e w73 ⟨rfl, r74⟩; refine ⟨_, rfl, ?_⟩; have S75 := S55.call r74; refine FL.v (E.not rfl) ?_; refine FL.nil ?_; rcases ifB hp with ⟨c76, hp⟩ | ⟨c76, hp⟩
  ·
   refine FW.condT rfl c76 ?_; refine FW.sr ?_; refine FL.as (v := vB false) rfl ?_; refine FL.nil (FW.ret ?_); cases hp; exact ⟨nofun, rfl, ⟨.inr rfl, res1 rfl rfl ⟨rfl, S75.back⟩⟩⟩
  ·
   refine FW.condF rfl c76 ?_; refine FW.skip (FW.region ?_); refine FL.v (E.add k59 rfl) ?_; refine FL.mv (v := vI (wr (((i30 : Nat) : Int) + 1))) rfl ?_; refine FL.nil ?_; cases hp; exact ⟨rfl, ⟨_, S75, i56, (nat_succ rfl (lt_of_get hx30) (p0_1.mono (i27.tr i56)).le), k60, k61, k62⟩⟩
 ·
  clear hp hq; rintro s30 f99 w98 ⟨H95, S96, i97, k100, k101, k102, k103⟩; refine FW.sr ?_; refine FL.v (E.lss k100 k103) ?_; refine FL.nil (FW.seq ?_); refine FW.condF rfl dlt_len ?_; refine FW.exit ?_; exact ⟨nofun, rfl, ⟨_, S96, i97, k101⟩⟩
 ·
  clear hq; intro e f82 w81 hD; rcases q30 with s30 | x30
  ·
   obtain ⟨rfl, hD⟩ := hD; obtain ⟨H78, S79, i80, k83⟩ := hD; replace hp := el_go hp; refine FW.sr ?_; refine FL.v (E.fieldAddr tf32_0 k83) ?_; refine FL.v (E.load rfl (run_load1 isAgg3 ((at28.mono i80).now S79.sl) rfl)) ?_; refine FL.c (E.call call181 (A1 rfl)) (w_impl_varsOk S79.sl a0.vars) ?_; rintro e w84 ⟨rfl, r85⟩; refine ⟨_, rfl, ?_⟩; have S86 := S79.call r85; refine FL.mv (v := vB (PF.impl_varsOk a0.vars)) rfl ?_; refine FL.cut 5 (fun f w => ∃ H : GH, St Ha wa H w [] ∧ Inc H78 H ∧ f 26 = vB (bif (PF.impl_varsOk a0.vars) then (decide ((len a0.clauses) ≤ 60)) else false)) ?_ ?_
   ·
    rcases bcase (PF.impl_varsOk a0.vars) with c93 | c93
    ·
     refine FL.y (wY c93) (E.fieldAddr tf32_1 k83) ?_; refine FL.y (wY c93) (E.load rfl (run_load1 isAgg22 ((at28.mono i80).now S86.sl) rfl)) ?_; refine FL.y (wY c93) (E.lenP te22 rfl p0_1) ?_; refine FL.y (wY c93) (E.leq rfl rfl) ?_; refine FL.v (E.pickT rfl c93 rfl) ?_; exact FL.nil ⟨rfl, _, S86, I0, (congrArg vB (bifT c93).symm)⟩
    ·
     refine FL.skip (wN c93) rfl ?_; refine FL.skip (wN c93) rfl ?_; refine FL.skip (wN c93) rfl ?_; refine FL.skip (wN c93) rfl ?_; refine FL.v (E.pickF rfl c93 rfl) ?_; exact FL.nil ⟨rfl, _, S86, I0, (congrArg vB (bifF c93).symm)⟩
   rintro f92 w91 ⟨H88, S89, i90, k94⟩; refine FL.as k94 ?_; refine FL.nil (FW.ret ?_); cases hp; exact ⟨.inr rfl, res1 rfl rfl ⟨rfl, S89.back⟩⟩
  ·
   obtain ⟨he, hL⟩ := hD; replace hp := el_rt hp; cases hp; subst he; exact hL

@[reducible] def p_impl_ring_zero (Ha : GH) (wa : World) (r : (List Int)) : Ending → World → Prop :=
 fun e w' => ∃ H' : GH, ∃ v0 : Value, ∃ n0 : Nat, ∃ c0 : List Value, e = .returned (v0) ∧ St Ha wa H' w' [.row 3 1 v0 n0 c0] ∧ Els (up wa.heap.size H') eI 1 c0 r
theorem w_impl_ring_zero {Ha : GH} {wa : World} (hs : Sl Ha wa) (a0 : ring) {r : (List Int)} (hp : (PF.impl_ring_zero a0) = some r) :
  Calls prog 165 #[vA #[vI a0.p, vI a0.vars]] wa (p_impl_ring_zero Ha wa r) := by
 unfold PF.impl_ring_zero at hp; have S0 := St.init hs; refine calls_go (N := 7) (args := [vA #[vI a0.p, vI a0.vars]]) func165 rfl rfl rfl ?_; refine FW.sr ?_; obtain ⟨b21, w22, run23, S24⟩ := S0.box (P := prog) 102 [vI a0.p, vI a0.vars] (v := vA #[vI a0.p, vI a0.vars]) rfl (oC rfl (oC rfl ones_nil)); refine FL.v (E.box rfl run23) ?_; obtain ⟨H25, S26, i27, at28⟩ := S24.sealBox (i := 0) (l' := []) rfl rfl; refine FL.as (v := vN) rfl ?_; refine FL.nil (FW.sr ?_); refine FL.v (E.fieldAddr tf102_1 rfl) ?_; refine FL.v (E.load rfl (run_load1 isAgg3 (at28.now S26.sl) rfl)) ?_; obtain ⟨u30, z29, hp⟩ := bnd hp; refine FL.v (E.shl rfl rfl (nn_ge z29)) ?_; obtain ⟨xs31, hm32, hp⟩ := bnd hp; obtain ⟨v33, w34, n38, cs39, run35, S36, els37, hbl40⟩ := S26.makeEls (P := prog) te99 (G := (up wa.heap.size H25)) (En := eI) (x0 := (0 : Int)) hm32 rfl (oC rfl ones_nil) .i64 .i64; refine FL.v (E.makeSlice rfl rfl run35) ?_; refine FL.as (v := v33) rfl ?_; refine FL.nil (FW.ret ?_); cases hp; exact ⟨.inr rfl, res1 rfl rfl ⟨_, _, _, _, rfl, S36, els37⟩⟩

@[reducible] def p_impl_ring_mono (Ha : GH) (wa : World) (r : (List Int)) : Ending → World → Prop :=
 fun e w' => ∃ H' : GH, ∃ v0 : Value, ∃ n0 : Nat, ∃ c0 : List Value, e = .returned (v0) ∧ St Ha wa H' w' [.row 3 1 v0 n0 c0] ∧ Els (up wa.heap.size H') eI 1 c0 r
theorem w_impl_ring_mono {Ha : GH} {wa : World} (hs : Sl Ha wa) (a0 : ring) (a1 : Int) {r : (List Int)} (hp : (PF.impl_ring_mono a0 a1) = some r) :
  Calls prog 123 #[vA #[vI a0.p, vI a0.vars], vI a1] wa (p_impl_ring_mono Ha wa r) := by
 unfold PF.impl_ring_mono at hp; have S0 := St.init hs; refine calls_go (N := 12) (args := [vA #[vI a0.p, vI a0.vars], vI a1]) func123 rfl rfl rfl ?_; refine FW.sr ?_; obtain ⟨b21, w22, run23, S24⟩ := S0.box (P := prog) 102 [vI a0.p, vI a0.vars] (v := vA #[vI a0.p, vI a0.vars]) rfl (oC rfl (oC rfl ones_nil)); refine FL.v (E.box rfl run23) ?_; obtain ⟨H25, S26, i27, at28⟩ := S24.sealBox (i := 0) (l' := []) rfl rfl; refine FL.as (v := vN) rfl ?_; refine FL.nil (FW.sr ?_); refine FL.v (E.load rfl (run_loadA isAgg102 sizeOf102 (at28.now S26.sl) rfl)) ?_; obtain ⟨r29, hr30, hp⟩ := bnd hp; refine FL.c (E.call call165 (A1 rfl)) (w_impl_ring_zero S26.sl a0 hr30) ?_; rintro e w32 ⟨H31, v35, n36, cs37, rfl, r34, els38⟩; refine ⟨_, rfl, ?_⟩; have els38 := els38.mono (up_le S26.size); have S33 := S26.join (l' := [.row 3 1 v35 n36 cs37]) r34 rfl; refine FL.as (v := v35) rfl ?_; refine FL.nil (FW.sr ?_); refine FL.mv (v := v35) rfl ?_; refine FL.mv (v := vI a1) rfl ?_; obtain ⟨x45, hx46, hp⟩ := bnd hp; obtain ⟨p39, cs40, pt41, l42, at43, rel44⟩ := S33.row_at (i := 0) rfl els38 (by decide) hx46; obtain rfl := eI_open rel44; refine FL.v (E.indexAddr te99 rfl rfl pt41) ?_; obtain ⟨xs50, hput51, hp⟩ := bnd hp; obtain ⟨w47, cs53, run48, S49, els52, ce54⟩ := S33.putEls (P := prog) (t := 3) (i := 0) rfl els38 hput51 pt41 sizeOf3 (u := vI 1) (c := [vI 1]) rfl rfl (oC rfl ones_nil) rfl; have S49 : St Ha wa H31 w47 [.row 3 1 v35 n36 cs53] := S49; refine FL.act rfl rfl (E.store rfl rfl run48) ?_; refine FL.nil (FW.sr ?_); refine FL.mv (v := v35) rfl ?_; refine FL.as (v := v35) rfl ?_; refine FL.nil (FW.ret ?_); cases hp; exact ⟨.inr rfl, res1 rfl rfl ⟨_, _, _, _, rfl, S49, els52⟩⟩

@[reducible] def p_slices_Clone_impl_dense_int (Ha : GH) (wa : World) (r : (List Int)) : Ending → World → Prop :=
 fun e w' => ∃ H' : GH, ∃ v0 : Value, ∃ n0 : Nat, ∃ c0 : List Value, e = .returned (v0) ∧ St Ha wa H' w' [.row 3 1 v0 n0 c0] ∧ Els (up wa.heap.size H') eI 1 c0 r
theorem w_slices_Clone_impl_dense_int {Ha : GH} {wa : World} (hs : Sl Ha wa) (v0 : Value) (a0 : List Int) (p0 : RSl Ha eI 1 v0 a0) {r : (List Int)} (hp : (PF.slices_Clone_impl_dense_int a0) = some r) :
  Calls prog 213 #[v0] wa (p_slices_Clone_impl_dense_int Ha wa r) := by
 unfold PF.slices_Clone_impl_dense_int at hp; have S0 := St.init hs; refine calls_go (N := 8) (args := [v0]) func213 rfl rfl rfl ?_; refine FW.sr ?_; refine FL.as (v := vN) rfl ?_; refine FL.nil (FW.seq (FW.sr ?_)); refine FL.mv (v := v0) rfl ?_; obtain ⟨nb21, run22, hn23⟩ := RSl.nilTest te99 p0; refine FL.v (run22 _ _ _ _ _ _ _ _ _ _ _ _ rfl rfl) ?_; refine FL.nil ?_; rcases bcase nb21 with c24 | c24
 ·
  refine FW.condT (b := nb21) rfl c24 ?_; rw [hn23 c24, app_nil2] at hp; refine FW.sr ?_; refine FL.as (v := vN) rfl ?_; refine FL.nil (FW.ret ?_); cases hp; exact ⟨.inr rfl, res1 rfl rfl ⟨_, _, _, _, rfl, (S0.nil 3 1), Els.nil⟩⟩
 ·
  refine FW.condF (b := nb21) rfl c24 ?_; refine FW.skip (FW.sr ?_); obtain ⟨v25, w26, run27, S28⟩ := S0.buildSlice (P := prog) te99 [] (parts := #[]) (cells := []) rfl szs_nil fc_nil ones_nil (nB rfl); have els29 : Els (up wa.heap.size Ha) eI 1 [] [] := Els.nil; refine FL.v (E.buildSlice (B0) run27) ?_; refine FL.mv (v := v0) rfl ?_; obtain ⟨xs30, hz31, hp⟩ := bnd hp; obtain ⟨v32, w35, n33, cs34, run36, S37, els38⟩ := S28.appendP (P := prog) I0 te99 (i := 0) rfl (els29.mono upI) p0 hz31; have S37 : St Ha wa Ha w35 [.row 3 1 v32 n33 cs34] := S37; have els38 : Els (up wa.heap.size Ha) eI 1 cs34 xs30 := els38.any (fun _ _ _ _ h => h); refine FL.v (E.append rfl rfl run36) ?_; refine FL.as (v := v32) rfl ?_; refine FL.nil (FW.ret ?_); cases hp; exact ⟨.inr rfl, res1 rfl rfl ⟨_, _, _, _, rfl, S37, els38⟩⟩

@[reducible] def p_impl_ring_plus (Ha : GH) (wa : World) (r : (List Int)) : Ending → World → Prop :=
  fun e w' => ∃ H' : GH, ∃ v0 : Value, ∃ n0 : Nat, ∃ c0 : List Value, e = .returned (v0) ∧ St Ha wa H' w' [.row 3 1 v0 n0 c0] ∧ Els (up wa.heap.size H') eI 1 c0 r
theorem w_impl_ring_plus {Ha : GH} {wa : World} (hs : Sl Ha wa) (a0 : ring) (v1 : Value) (a1 : List Int) (p1 : RSl Ha eI 1 v1 a1) (v2 : Value) (a2 : List Int) (p2 : RSl Ha eI 1 v2 a2) (a3 : Int) {r : (List Int)} (hp : (PF.impl_ring_plus a0 a1 a2 a3) = some r) :
    Calls prog 164 #[vA #[vI a0.p, vI a0.vars], v1, v2, vI a3] wa (p_impl_ring_plus Ha wa r) := by
  unfold PF.impl_ring_plus at hp
  have S0 := St.init hs
  refine calls_go (N := 37) (args := [vA #[vI a0.p, vI a0.vars], v1, v2, vI a3]) Tryz.func164 rfl rfl rfl ?_
  refine FW.seq (FW.region ?_)
  obtain ⟨b21, w22, run23, S24⟩ := S0.box (P := prog) 102 [vI a0.p, vI a0.vars] (v := vA #[vI a0.p, vI a0.vars]) rfl (ones_cons rfl (ones_cons rfl ones_nil))
  refine FL.v (E.box rfl run23) ?_
  obtain ⟨H25, S26, i27, at28⟩ := S24.sealBox (i := 0) (l' := []) rfl rfl
  refine FL.v (E.assign (v := vN) rfl) ?_
  refine FL.nil (FW.seq (FW.region ?_))
  refine FL.v (E.move (v := v1) rfl) ?_
  obtain ⟨r29, hr30, hp⟩ := bnd hp
  refine FL.call rfl rfl rfl (E.call Tryz.call213 (A1 rfl)) (w_slices_Clone_impl_dense_int S26.sl v1 a1 (p1.mono i27) hr30) ?_
  rintro e w32 ⟨H31, v35, n36, cs37, rfl, r34, els38⟩
  refine ⟨_, rfl, ?_⟩
  have els38 := els38.mono (up_le S26.size)
  have S33 := S26.join (l' := [.row 3 1 v35 n36 cs37]) r34 rfl
  refine FL.v (E.assign (v := v35) rfl) ?_
  refine FL.nil (FW.seq (FW.seq (FW.region ?_)))
  refine FL.v (E.move (v := v2) rfl) ?_
  refine FL.v (E.lenP te99 rfl p2) ?_
  refine FL.v (E.move (v := vI 0) rfl) ?_
  refine FL.nil ?_
  obtain ⟨q40, hq, hp⟩ := bndR hp
  refine FW.block ?_
  refine FW.mono (FW.forL (S := (List Int)) (X := Empty) (fun (i40 : Nat) (s40 : (List Int)) f w => ∃ H : GH, ∃ v41 : Value, ∃ n42 : Nat, ∃ cs43 : List Value, St Ha wa H w [.row 3 1 v41 n42 cs43] ∧ Inc H31 H ∧ Els (up wa.heap.size H) eI 1 cs43 s40 ∧ f 16 = vI ((i40 : Nat) : Int) ∧ f 3 = vI a3 ∧ f 4 = vP (⟨b21, 0, none⟩) ∧ f 9 = v41 ∧ f 14 = v2 ∧ f 15 = vI (len a2)) (fun (q : Rs (List Int) Empty) e f w => match q with | .go s40 => e = Exit.exit 0 ∧ (∃ H : GH, ∃ v41 : Value, ∃ n42 : Nat, ∃ cs43 : List Value, St Ha wa H w [.row 3 1 v41 n42 cs43] ∧ Inc H31 H ∧ Els (up wa.heap.size H) eI 1 cs43 s40 ∧ f 9 = v41) | .rt x => x.elim) hq ⟨_, _, _, _, S33, (Inc.rfl _), els38, rfl, rfl, rfl, rfl, rfl, rfl⟩ ?_ ?_) ?_
  ·
    clear hp hq
    rintro i40 y39 s40 f49 w48 ⟨H45, v41, n42, cs43, S46, i47, els44, k50, k51, k52, k53, k54, k55⟩ hx40 o110 hp
    refine FW.seq (FW.region ?_)
    refine FL.v (E.lssT k50 k55 (lss_len hx40)) ?_
    refine FL.nil (FW.seq ?_)
    refine FW.condT rfl rfl ?_
    refine FW.skip (FW.seq (FW.block (FW.seq (FW.region ?_))))
    refine FL.v (E.move k50) ?_
    obtain ⟨p56, cs57, pt58, l59, at60, rel61⟩ := p2.at (ix_nat hx40)
    obtain rfl := eI_open rel61
    refine FL.v (E.indexAddr te99 k54 k50 pt58) ?_
    refine FL.v (E.load rfl (run_load0 Tryz.isAgg3 ((at60.mono ((i27.tr r34.run.inc).tr i47)).now S46.sl) rfl)) ?_
    refine FL.v (E.assign (v := vI ((i40 : Nat) : Int)) rfl) ?_
    refine FL.v (E.assign (v := vI y39) rfl) ?_
    refine FL.nil ?_
    obtain ⟨x71, hx72, hp⟩ := bnd hp
    obtain ⟨u75, z74, hp⟩ := bnd hp
    obtain ⟨x82, hx83, hp⟩ := bnd hp
    obtain ⟨xs88, hput89, hp⟩ := bnd hp
    refine FW.drawB (Sl H45) (fun f w => ∃ H : GH, ∃ v93 : Value, ∃ n94 : Nat, ∃ cs95 : List Value, St Ha wa H w [.row 3 1 v93 n94 cs95] ∧ Inc H45 H ∧ Els (up wa.heap.size H) eI 1 cs95 xs88 ∧ f 3 = vI a3 ∧ f 4 = vP (⟨b21, 0, none⟩) ∧ f 9 = v93 ∧ f 14 = v2 ∧ f 15 = vI (len a2) ∧ f 16 = vI ((i40 : Nat) : Int)) (by kernel_rfl) S46.sl ?_ ?_
    ·
      intro w62 r63
      have S64 := S46.call r63
      refine FB.t (i := 0) (bs 15 1) rfl (SP.nil S64.sl) rfl (fun _ z => (E.move k53)) ?_
      refine FB.t (i := 1) (bs 15 3) rfl (SP.nil S64.sl) rfl (fun _ z => (E.move (v := vI ((i40 : Nat) : Int)) rfl)) ?_
      refine FB.t (i := 2) (bs 15 7) rfl (SP.nil S64.sl) rfl (fun _ z => (E.move k53)) ?_
      refine FB.t (i := 3) (bs 15 15) rfl (SP.nil S64.sl) rfl (fun _ z => (E.move (v := vI ((i40 : Nat) : Int)) rfl)) ?_
      obtain ⟨p65, cs66, pt67, l68, at69, rel70, hall73⟩ := S64.row_atA (i := 0) rfl els44 (by decide) hx72
      obtain rfl := eI_open rel70
      refine FB.t (i := 4) (bs 15 31) rfl (SP.nil S64.sl) rfl (fun _ z => (E.indexAddr te99 rfl rfl pt67)) ?_
      refine FB.phase [14] (fun w' => WAt w' p65 [vI x71]) ?_
      refine FB.p (i := 5) (bs 15 63) 0 [9, 12, 13, 14] rfl (SP.on (hall73 _ _ _ 0 S64 rfl) (SP.nil S64.sl)) rfl rfl (fun _ z => (E.load rfl (run_load0 Tryz.isAgg3 z rfl))) ?_
      refine FB.t (i := 6) (bs 15 127) rfl (SP.on (hall73 _ _ _ 0 S64 rfl) (SP.nil S64.sl)) rfl (fun _ z => (E.move k51)) ?_
      refine FB.t (i := 7) (bs 15 255) rfl (SP.on (hall73 _ _ _ 0 S64 rfl) (SP.nil S64.sl)) rfl (fun _ z => (E.move (v := vI y39) rfl)) ?_
      refine FB.t (i := 8) (bs 15 511) rfl (SP.on (hall73 _ _ _ 0 S64 rfl) (SP.nil S64.sl)) rfl (fun _ z => (E.mul rfl rfl)) ?_
      refine FB.t (i := 9) (bs 15 1023) rfl (SP.on (hall73 _ _ _ 0 S64 rfl) (SP.nil S64.sl)) rfl (fun _ z => (E.add rfl rfl)) ?_
      refine FB.t (i := 10) (bs 15 2047) rfl (SP.on (hall73 _ _ _ 0 S64 rfl) (SP.nil S64.sl)) rfl (fun _ z => (E.fieldAddr tf102_0 k52)) ?_
      refine FB.t (i := 11) (bs 15 4095) rfl (SP.on (hall73 _ _ _ 0 S64 rfl) (SP.nil S64.sl)) rfl (fun _ z => (E.load rfl (run_load1 Tryz.isAgg3 ((at28.mono (r34.run.inc.tr i47)).now z) rfl))) ?_
      refine FB.t (i := 12) (bs 15 8191) rfl (SP.on (hall73 _ _ _ 0 S64 rfl) (SP.nil S64.sl)) rfl (fun _ z => (E.rem rfl rfl (nz_ne z74))) ?_
      obtain ⟨p76, cs77, pt78, l79, at80, rel81, hall84⟩ := S64.row_atA (i := 0) rfl els44 (by decide) hx83
      obtain rfl := eI_open rel81
      refine FB.t (i := 13) (bs 15 16383) rfl (SP.on (hall73 _ _ _ 0 S64 rfl) (SP.nil S64.sl)) rfl (fun _ z => (E.indexAddr te99 rfl rfl pt78)) ?_
      refine FB.all1 (i := 14) (by kernel_rfl) ?_
      ·
        obtain ⟨w85, cs91, run86, S87, els90, ce92⟩ := S64.putEls (P := prog) (t := 3) (i := 0) rfl els44 hput89 pt78 Tryz.sizeOf3 (u := vI ((wr (x71 + (wr (a3 * y39)))).tmod a0.p)) (c := [vI ((wr (x71 + (wr (a3 * y39)))).tmod a0.p)]) rfl rfl (ones_cons rfl ones_nil) rfl
        have S87 : St Ha wa H45 w85 [.row 3 1 v41 n42 cs91] := S87
        refine FC.act (l' := (bs 15 32767)) rfl (by kernel_rfl) rfl rfl (E.store rfl rfl run86) ?_
        refine ⟨(SP.o (SP.nil S87.sl)), ?_⟩
        exact FB.done (by kernel_rfl) ⟨_, _, _, _, S87, (Inc.rfl _), els90, k51, k52, k53, k54, k55, k50⟩
    ·
      rintro f103 w101 ⟨H97, v93, n94, cs95, S98, i100, els96, k104, k105, k106, k107, k108, k109⟩
      refine FW.region ?_
      refine FL.v (E.add k109 rfl) ?_
      refine FL.v (E.move (v := vI (wr (((i40 : Nat) : Int) + 1))) rfl) ?_
      refine FL.nil ?_
      obtain rfl := Option.some.inj hp
      exact ⟨rfl, ⟨_, _, _, _, S98, (i47.tr i100), els96, (nat_succ rfl (lt_of_get hx40) (p2.mono (((i27.tr r34.run.inc).tr i47).tr i100)).le), k104, k105, k106, k107, k108⟩⟩
  ·
    clear hp hq
    rintro s40 f121 w120 ⟨H117, v41, n42, cs43, S118, i119, els44, k122, k123, k124, k125, k126, k127⟩
    refine FW.seq (FW.region ?_)
    refine FL.v (E.lss k122 k127) ?_
    refine FL.nil (FW.seq ?_)
    refine FW.condF rfl dlt_len ?_
    refine FW.exit ?_
    exact ⟨nofun, rfl, ⟨_, _, _, _, S118, i119, els44, k125⟩⟩
  ·
    clear hq
    intro e f115 w114 hD
    rcases q40 with s40 | x40
    ·
      obtain ⟨rfl, hD⟩ := hD
      obtain ⟨H111, v41, n42, cs43, S112, i113, els44, k116⟩ := hD
      replace hp := el_go hp
      refine FW.seq (FW.region ?_)
      refine FL.v (E.move k116) ?_
      refine FL.v (E.assign (v := v41) rfl) ?_
      refine FL.nil ?_
      refine FW.ret ?_
      obtain rfl := Option.some.inj hp
      exact ⟨.inr rfl, res1 rfl rfl ⟨_, _, _, _, rfl, S112, els44⟩⟩
    · exact x40.elim

@[reducible] def p_impl_ring_literal (Ha : GH) (wa : World) (r : (List Int)) : Ending → World → Prop :=
 fun e w' => ∃ H' : GH, ∃ v0 : Value, ∃ n0 : Nat, ∃ c0 : List Value, e = .returned (v0) ∧ St Ha wa H' w' [.row 3 1 v0 n0 c0] ∧ Els (up wa.heap.size H') eI 1 c0 r
theorem w_impl_ring_literal {Ha : GH} {wa : World} (hs : Sl Ha wa) (a0 : ring) (a1 : Int) {r : (List Int)} (hp : (PF.impl_ring_literal a0 a1) = some r) :
  Calls prog 125 #[vA #[vI a0.p, vI a0.vars], vI a1] wa (p_impl_ring_literal Ha wa r) := by
 unfold PF.impl_ring_literal at hp; have S0 := St.init hs; refine calls_go (N := 25) (args := [vA #[vI a0.p, vI a0.vars], vI a1]) func125 rfl rfl rfl ?_; refine FW.sr ?_; obtain ⟨b21, w22, run23, S24⟩ := S0.box (P := prog) 102 [vI a0.p, vI a0.vars] (v := vA #[vI a0.p, vI a0.vars]) rfl (oC rfl (oC rfl ones_nil)); refine FL.v (E.box rfl run23) ?_; obtain ⟨H25, S26, i27, at28⟩ := S24.sealBox (i := 0) (l' := []) rfl rfl; refine FL.as (v := vN) rfl ?_; refine FL.nil (FW.seq (FW.sr ?_)); refine FL.mv (v := vI a1) rfl ?_; refine FL.v (E.gtr rfl rfl) ?_; refine FL.nil ?_; rcases ifB hp with ⟨c29, hp⟩ | ⟨c29, hp⟩
 ·
  refine FW.condT rfl c29 ?_; refine FW.seq ?_; obtain ⟨u34, z33, hp⟩ := bnd hp; obtain ⟨r35, hr36, hp⟩ := bnd hp; refine FW.drawB (Sl H25) (fun f w => ∃ H : GH, ∃ v45 : Value, ∃ n46 : Nat, ∃ cs47 : List Value, St Ha wa H w [.row 3 1 v45 n46 cs47] ∧ Inc H25 H ∧ Els (up wa.heap.size H) eI 1 cs47 r35 ∧ f 4 = v45) (by kernel_rfl) S26.sl ?_ ?_
  ·
   intro w30 r31; have S32 := S26.call r31; refine FB.T 0 6 1 rfl S32.sl rfl (fun _ z => (E.load rfl (run_loadA isAgg102 sizeOf102 (at28.now z) rfl))) ?_; refine FB.T 1 6 3 rfl S32.sl rfl (fun _ z => (E.move (v := vI a1) rfl)) ?_; refine FB.T 2 6 7 rfl S32.sl rfl (fun _ z => (E.sub rfl rfl)) ?_; refine FB.T 3 6 15 rfl S32.sl rfl (fun _ z => (E.shl rfl rfl (nn_ge z33))) ?_; refine FB.all1 (i := 4) (by kernel_rfl) ?_
   ·
    refine FC.call (l' := (bs 6 31)) rfl (by kernel_rfl) rfl rfl rfl (E.call call123 (A2 rfl rfl)) (w_impl_ring_mono S32.sl a0 (shlK true 64 1 (wr (a1 - 1))) hr36) ?_; rintro e w38 ⟨H37, v41, n42, cs43, rfl, r40, els44⟩; refine ⟨_, rfl, ?_⟩; have els44 := els44.mono (up_le S32.size); have S39 := S32.join (l' := [.row 3 1 v41 n42 cs43]) r40 rfl; refine ⟨(SP.nil (Sl.of_inc r40.run.inc S39.sl)), ?_⟩; refine FB.T 5 6 63 rfl (Sl.of_inc r40.run.inc S39.sl) rfl (fun _ z => (E.assign (v := v41) rfl)) ?_; exact FB.done (by kernel_rfl) ⟨_, _, _, _, S39, r40.run.inc, els44, rfl⟩
  ·
   rintro f53 w52 ⟨H49, v45, n46, cs47, S50, i51, els48, k54⟩; refine FW.ret ?_; cases hp; exact ⟨.inr rfl, res1 rfl k54 ⟨_, _, _, _, rfl, S50, els48⟩⟩
 ·
  refine FW.condF rfl c29 ?_; refine FW.skip (FW.seq ?_); obtain ⟨r58, hr59, hp⟩ := bnd hp; obtain ⟨u69, z68, hp⟩ := bnd hp; obtain ⟨r70, hr71, hp⟩ := bnd hp; obtain ⟨r90, hr91, hp⟩ := bnd hp; refine FW.drawB (Sl H25) (fun f w => ∃ H : GH, ∃ v103 : Value, ∃ n104 : Nat, ∃ cs105 : List Value, St Ha wa H w [.row 3 1 v103 n104 cs105] ∧ Inc H25 H ∧ Els (up wa.heap.size H) eI 1 cs105 r90 ∧ f 4 = v103) (by kernel_rfl) S26.sl ?_ ?_
  ·
   intro w55 r56; have S57 := S26.call r56; refine FB.T 0 14 1 rfl S57.sl rfl (fun _ z => (E.load rfl (run_loadA isAgg102 sizeOf102 (at28.now z) rfl))) ?_; refine FB.T 1 14 3 rfl S57.sl rfl (fun _ z => (E.load rfl (run_loadA isAgg102 sizeOf102 (at28.now z) rfl))) ?_; refine FB.T 3 14 11 rfl S57.sl rfl (fun _ z => (E.load rfl (run_loadA isAgg102 sizeOf102 (at28.now z) rfl))) ?_; refine FB.T 4 14 27 rfl S57.sl rfl (fun _ z => (E.move (v := vI a1) rfl)) ?_; refine FB.T 5 14 59 rfl S57.sl rfl (fun _ z => (E.neg rfl)) ?_; refine FB.T 6 14 123 rfl S57.sl rfl (fun _ z => (E.sub rfl rfl)) ?_; refine FB.T 7 14 251 rfl S57.sl rfl (fun _ z => (E.shl rfl rfl (nn_ge z68))) ?_; refine FB.T 9 14 763 rfl S57.sl rfl (fun _ z => (E.fieldAddr tf102_0 rfl)) ?_; refine FB.T 10 14 1787 rfl S57.sl rfl (fun _ z => (E.load rfl (run_load1 isAgg3 (at28.now z) rfl))) ?_; refine FB.T 11 14 3835 rfl S57.sl rfl (fun _ z => (E.sub rfl rfl)) ?_; refine FB.all1 (i := 2) (by kernel_rfl) ?_
   ·
    refine FC.call (l' := (bs 14 3839)) rfl (by kernel_rfl) rfl rfl rfl (E.call call123 (A2 rfl rfl)) (w_impl_ring_mono S57.sl a0 0 hr59) ?_; rintro e w61 ⟨H60, v64, n65, cs66, rfl, r63, els67⟩; refine ⟨_, rfl, ?_⟩; have els67 := els67.mono (up_le S57.size); have S62 := S57.join (l' := [.row 3 1 v64 n65 cs66]) r63 rfl; refine ⟨(SP.nil (Sl.of_inc r63.run.inc S62.sl)), ?_⟩; refine FB.all1 (i := 8) (by kernel_rfl) ?_
    ·
     refine FC.call (l' := (bs 14 4095)) rfl (by kernel_rfl) rfl rfl rfl (E.call call123 (A2 rfl rfl)) (w_impl_ring_mono S62.sl a0 (shlK true 64 1 (wr ((wr (-a1)) - 1))) hr71) ?_; rintro e w73 ⟨H72, v76, n77, cs78, rfl, r75, els79⟩; refine ⟨_, rfl, ?_⟩; have els79 := els79.mono (up_le S62.size); have S74 := S62.join (l' := [.row 3 1 v76 n77 cs78, .row 3 1 v64 n65 cs66]) r75 rfl; refine ⟨(SP.nil (Sl.of_inc (r63.run.inc.tr r75.run.inc) S74.sl)), ?_⟩; refine FB.all1 (i := 12) (by kernel_rfl) ?_
     ·
      obtain ⟨H80, S81, i82, h83, nv84⟩ := S74.sealRowU (i := 1) (l' := [.row 3 1 v76 n77 cs78]) rfl (els67.mono (up_mono r75.run.inc)) (by decide) rfl; obtain ⟨H85, S86, i87, h88, nv89⟩ := S81.sealRowU (i := 0) (l' := []) rfl (els79.mono (up_mono i82)) (by decide) rfl; refine FC.call (l' := (bs 14 8191)) rfl (by kernel_rfl) rfl rfl rfl (E.call call164 (A4 rfl rfl rfl rfl)) (w_impl_ring_plus S86.sl a0 v64 r58 (h83.mono (upI.tr i87)) v76 r70 (h88.mono upI) (wr (a0.p - 1)) hr91) ?_; rintro e w93 ⟨H92, v98, n99, cs100, rfl, r95, els101⟩; refine ⟨_, rfl, ?_⟩; obtain ⟨H96, r95, hU97⟩ := St.lendX (i82.tr i87) S74.sl r95; have els101 := els101.mono (hU97.tr (up_le S74.size)); have S94 := S74.join (l' := [.row 3 1 v98 n99 cs100, .row 3 1 v76 n77 cs78, .row 3 1 v64 n65 cs66]) r95 rfl; refine ⟨(SP.nil (Sl.of_inc ((r63.run.inc.tr r75.run.inc).tr r95.run.inc) S94.sl)), ?_⟩; refine FB.T 13 14 16383 rfl (Sl.of_inc ((r63.run.inc.tr r75.run.inc).tr r95.run.inc) S94.sl) rfl (fun _ z => (E.assign (v := v98) rfl)) ?_; exact FB.done (by kernel_rfl) ⟨_, _, _, _, (S94.sel [0] (by decide) rfl), ((r63.run.inc.tr r75.run.inc).tr r95.run.inc), els101, rfl⟩
  ·
   rintro f111 w110 ⟨H107, v103, n104, cs105, S108, i109, els106, k112⟩; refine FW.ret ?_; cases hp; exact ⟨.inr rfl, res1 rfl k112 ⟨_, _, _, _, rfl, S108, els106⟩⟩

@[reducible] def p_impl_ring_times (Ha : GH) (wa : World) (r : (List Int)) : Ending → World → Prop :=
  fun e w' => ∃ H' : GH, ∃ v0 : Value, ∃ n0 : Nat, ∃ c0 : List Value, e = .returned (v0) ∧ St Ha wa H' w' [.row 3 1 v0 n0 c0] ∧ Els (up wa.heap.size H') eI 1 c0 r
theorem w_impl_ring_times {Ha : GH} {wa : World} (hs : Sl Ha wa) (a0 : ring) (v1 : Value) (a1 : List Int) (p1 : RSl Ha eI 1 v1 a1) (v2 : Value) (a2 : List Int) (p2 : RSl Ha eI 1 v2 a2) {r : (List Int)} (hp : (PF.impl_ring_times a0 a1 a2) = some r) :
    Calls prog 124 #[vA #[vI a0.p, vI a0.vars], v1, v2] wa (p_impl_ring_times Ha wa r) := by
  unfold PF.impl_ring_times at hp
  have S0 := St.init hs
  refine calls_go (N := 49) (args := [vA #[vI a0.p, vI a0.vars], v1, v2]) Tryz.func124 rfl rfl rfl ?_
  refine FW.seq (FW.region ?_)
  obtain ⟨b21, w22, run23, S24⟩ := S0.box (P := prog) 102 [vI a0.p, vI a0.vars] (v := vA #[vI a0.p, vI a0.vars]) rfl (ones_cons rfl (ones_cons rfl ones_nil))
  refine FL.v (E.box rfl run23) ?_
  obtain ⟨H25, S26, i27, at28⟩ := S24.sealBox (i := 0) (l' := []) rfl rfl
  refine FL.v (E.assign (v := vN) rfl) ?_
  refine FL.nil (FW.seq (FW.region ?_))
  refine FL.v (E.load rfl (run_loadA Tryz.isAgg102 Tryz.sizeOf102 (at28.now S26.sl) rfl)) ?_
  obtain ⟨r29, hr30, hp⟩ := bnd hp
  refine FL.call rfl rfl rfl (E.call Tryz.call165 (A1 rfl)) (w_impl_ring_zero S26.sl a0 hr30) ?_
  rintro e w32 ⟨H31, v35, n36, cs37, rfl, r34, els38⟩
  refine ⟨_, rfl, ?_⟩
  have els38 := els38.mono (up_le S26.size)
  have S33 := S26.join (l' := [.row 3 1 v35 n36 cs37]) r34 rfl
  refine FL.v (E.assign (v := v35) rfl) ?_
  refine FL.nil (FW.seq (FW.seq (FW.region ?_)))
  refine FL.v (E.move (v := v1) rfl) ?_
  refine FL.v (E.lenP te99 rfl p1) ?_
  refine FL.v (E.move (v := vI 0) rfl) ?_
  refine FL.nil ?_
  obtain ⟨q40, hq, hp⟩ := bndR hp
  refine FW.block ?_
  refine FW.mono (FW.forL (S := (List Int)) (X := Empty) (fun (i40 : Nat) (s40 : (List Int)) f w => ∃ H : GH, ∃ v41 : Value, ∃ n42 : Nat, ∃ cs43 : List Value, St Ha wa H w [.row 3 1 v41 n42 cs43] ∧ Inc H31 H ∧ Els (up wa.heap.size H) eI 1 cs43 s40 ∧ f 16 = vI ((i40 : Nat) : Int) ∧ f 2 = v2 ∧ f 3 = vP (⟨b21, 0, none⟩) ∧ f 7 = v41 ∧ f 14 = v1 ∧ f 15 = vI (len a1)) (fun (q : Rs (List Int) Empty) e f w => match q with | .go s40 => e = Exit.exit 0 ∧ (∃ H : GH, ∃ v41 : Value, ∃ n42 : Nat, ∃ cs43 : List Value, St Ha wa H w [.row 3 1 v41 n42 cs43] ∧ Inc H31 H ∧ Els (up wa.heap.size H) eI 1 cs43 s40 ∧ f 7 = v41) | .rt x => x.elim) hq ⟨_, _, _, _, S33, (Inc.rfl _), els38, rfl, rfl, rfl, rfl, rfl, rfl⟩ ?_ ?_) ?_
  ·
    clear hp hq
    rintro i40 y39 s40 f49 w48 ⟨H45, v41, n42, cs43, S46, i47, els44, k50, k51, k52, k53, k54, k55⟩ hx40 o171 hp
    refine FW.seq (FW.region ?_)
    refine FL.v (E.lssT k50 k55 (lss_len hx40)) ?_
    refine FL.nil (FW.seq ?_)
    refine FW.condT rfl rfl ?_
    refine FW.skip (FW.seq (FW.block (FW.seq (FW.region ?_))))
    refine FL.v (E.move k50) ?_
    obtain ⟨p56, cs57, pt58, l59, at60, rel61⟩ := p1.at (ix_nat hx40)
    obtain rfl := eI_open rel61
    refine FL.v (E.indexAddr te99 k54 k50 pt58) ?_
    refine FL.v (E.load rfl (run_load0 Tryz.isAgg3 ((at60.mono ((i27.tr r34.run.inc).tr i47)).now S46.sl) rfl)) ?_
    refine FL.v (E.assign (v := vI ((i40 : Nat) : Int)) rfl) ?_
    refine FL.v (E.assign (v := vI y39) rfl) ?_
    refine FL.nil (FW.seq (FW.region ?_))
    refine FL.v (E.move k51) ?_
    refine FL.v (E.lenP te99 rfl p2) ?_
    refine FL.v (E.move (v := vI 0) rfl) ?_
    refine FL.nil ?_
    obtain ⟨q63, hq, hp⟩ := bndR hp
    refine FW.block ?_
    refine FW.mono (FW.forL (S := (List Int)) (X := Empty) (fun (i63 : Nat) (s63 : (List Int)) f w => ∃ H : GH, ∃ v64 : Value, ∃ n65 : Nat, ∃ cs66 : List Value, St Ha wa H w [.row 3 1 v64 n65 cs66] ∧ Inc H45 H ∧ Els (up wa.heap.size H) eI 1 cs66 s63 ∧ f 23 = vI ((i63 : Nat) : Int) ∧ f 2 = v2 ∧ f 3 = vP (⟨b21, 0, none⟩) ∧ f 7 = v64 ∧ f 8 = vI ((i40 : Nat) : Int) ∧ f 9 = vI y39 ∧ f 14 = v1 ∧ f 15 = vI (len a1) ∧ f 16 = vI ((i40 : Nat) : Int) ∧ f 21 = v2 ∧ f 22 = vI (len a2)) (fun (q : Rs (List Int) Empty) e f w => match q with | .go s63 => e = Exit.exit 2 ∧ (∃ H : GH, ∃ v64 : Value, ∃ n65 : Nat, ∃ cs66 : List Value, St Ha wa H w [.row 3 1 v64 n65 cs66] ∧ Inc H45 H ∧ Els (up wa.heap.size H) eI 1 cs66 s63 ∧ f 2 = v2 ∧ f 3 = vP (⟨b21, 0, none⟩) ∧ f 7 = v64 ∧ f 14 = v1 ∧ f 15 = vI (len a1) ∧ f 16 = vI ((i40 : Nat) : Int)) | .rt x => x.elim) hq ⟨_, _, _, _, S46, (Inc.rfl _), els44, rfl, k51, k52, k53, rfl, rfl, k54, k55, k50, rfl, rfl⟩ ?_ ?_) ?_
    ·
      clear hp hq
      rintro i63 y62 s63 f72 w71 ⟨H68, v64, n65, cs66, S69, i70, els67, k73, k74, k75, k76, k77, k78, k79, k80, k81, k82, k83⟩ hx63 o143 hp
      refine FW.seq (FW.region ?_)
      refine FL.v (E.lssT k73 k83 (lss_len hx63)) ?_
      refine FL.nil (FW.seq ?_)
      refine FW.condT rfl rfl ?_
      refine FW.skip (FW.seq (FW.block (FW.seq (FW.region ?_))))
      refine FL.v (E.move k73) ?_
      obtain ⟨p84, cs85, pt86, l87, at88, rel89⟩ := p2.at (ix_nat hx63)
      obtain rfl := eI_open rel89
      refine FL.v (E.indexAddr te99 k82 k73 pt86) ?_
      refine FL.v (E.load rfl (run_load0 Tryz.isAgg3 ((at88.mono (((i27.tr r34.run.inc).tr i47).tr i70)).now S69.sl) rfl)) ?_
      refine FL.v (E.assign (v := vI ((i63 : Nat) : Int)) rfl) ?_
      refine FL.v (E.assign (v := vI y62) rfl) ?_
      refine FL.nil ?_
      obtain ⟨x100, hx101, hp⟩ := bnd hp
      obtain ⟨u105, z104, hp⟩ := bnd hp
      obtain ⟨x112, hx113, hp⟩ := bnd hp
      obtain ⟨xs118, hput119, hp⟩ := bnd hp
      refine FW.drawB (Sl H68) (fun f w => ∃ H : GH, ∃ v123 : Value, ∃ n124 : Nat, ∃ cs125 : List Value, St Ha wa H w [.row 3 1 v123 n124 cs125] ∧ Inc H68 H ∧ Els (up wa.heap.size H) eI 1 cs125 xs118 ∧ f 2 = v2 ∧ f 3 = vP (⟨b21, 0, none⟩) ∧ f 7 = v123 ∧ f 8 = vI ((i40 : Nat) : Int) ∧ f 9 = vI y39 ∧ f 14 = v1 ∧ f 15 = vI (len a1) ∧ f 16 = vI ((i40 : Nat) : Int) ∧ f 21 = v2 ∧ f 22 = vI (len a2) ∧ f 23 = vI ((i63 : Nat) : Int)) (by kernel_rfl) S69.sl ?_ ?_
      ·
        intro w90 r91
        have S92 := S69.call r91
        refine FB.t (i := 0) (bs 19 1) rfl (SP.nil S92.sl) rfl (fun _ z => (E.move k76)) ?_
        refine FB.t (i := 1) (bs 19 3) rfl (SP.nil S92.sl) rfl (fun _ z => (E.move k77)) ?_
        refine FB.t (i := 2) (bs 19 7) rfl (SP.nil S92.sl) rfl (fun _ z => (E.move (v := vI ((i63 : Nat) : Int)) rfl)) ?_
        refine FB.t (i := 3) (bs 19 15) rfl (SP.nil S92.sl) rfl (fun _ z => (E.or rfl rfl)) ?_
        refine FB.t (i := 4) (bs 19 31) rfl (SP.nil S92.sl) rfl (fun _ z => (E.move k76)) ?_
        refine FB.t (i := 5) (bs 19 63) rfl (SP.nil S92.sl) rfl (fun _ z => (E.move k77)) ?_
        refine FB.t (i := 6) (bs 19 127) rfl (SP.nil S92.sl) rfl (fun _ z => (E.move (v := vI ((i63 : Nat) : Int)) rfl)) ?_
        refine FB.t (i := 7) (bs 19 255) rfl (SP.nil S92.sl) rfl (fun _ z => (E.or rfl rfl)) ?_
        obtain ⟨p93, cs94, pt95, l96, at97, rel98, hall103⟩ := S92.row_atA (i := 0) rfl els67 (by decide) hx101
        obtain rfl := eI_open rel98
        refine FB.t (i := 8) (bs 19 511) rfl (SP.nil S92.sl) rfl (fun _ z => (E.indexAddr te99 rfl rfl pt95)) ?_
        refine FB.phase [18] (fun w' => WAt w' p93 [vI x100]) ?_
        refine FB.p (i := 9) (bs 19 1023) 0 [13, 16, 17, 18] rfl (SP.on (hall103 _ _ _ 0 S92 rfl) (SP.nil S92.sl)) rfl rfl (fun _ z => (E.load rfl (run_load0 Tryz.isAgg3 z rfl))) ?_
        refine FB.t (i := 10) (bs 19 2047) rfl (SP.on (hall103 _ _ _ 0 S92 rfl) (SP.nil S92.sl)) rfl (fun _ z => (E.move k78)) ?_
        refine FB.t (i := 11) (bs 19 4095) rfl (SP.on (hall103 _ _ _ 0 S92 rfl) (SP.nil S92.sl)) rfl (fun _ z => (E.move (v := vI y62) rfl)) ?_
        refine FB.t (i := 12) (bs 19 8191) rfl (SP.on (hall103 _ _ _ 0 S92 rfl) (SP.nil S92.sl)) rfl (fun _ z => (E.mul rfl rfl)) ?_
        refine FB.t (i := 13) (bs 19 16383) rfl (SP.on (hall103 _ _ _ 0 S92 rfl) (SP.nil S92.sl)) rfl (fun _ z => (E.add rfl rfl)) ?_
        refine FB.t (i := 14) (bs 19 32767) rfl (SP.on (hall103 _ _ _ 0 S92 rfl) (SP.nil S92.sl)) rfl (fun _ z => (E.fieldAddr tf102_0 k75)) ?_
        refine FB.t (i := 15) (bs 19 65535) rfl (SP.on (hall103 _ _ _ 0 S92 rfl) (SP.nil S92.sl)) rfl (fun _ z => (E.load rfl (run_load1 Tryz.isAgg3 ((at28.mono ((r34.run.inc.tr i47).tr i70)).now z) rfl))) ?_
        refine FB.t (i := 16) (bs 19 131071) rfl (SP.on (hall103 _ _ _ 0 S92 rfl) (SP.nil S92.sl)) rfl (fun _ z => (E.rem rfl rfl (nz_ne z104))) ?_
        obtain ⟨p106, cs107, pt108, l109, at110, rel111, hall114⟩ := S92.row_atA (i := 0) rfl els67 (by decide) hx113
        obtain rfl := eI_open rel111
        refine FB.t (i := 17) (bs 19 262143) rfl (SP.on (hall103 _ _ _ 0 S92 rfl) (SP.nil S92.sl)) rfl (fun _ z => (E.indexAddr te99 rfl rfl pt108)) ?_
        refine FB.all1 (i := 18) (by kernel_rfl) ?_
        ·
          obtain ⟨w115, cs121, run116, S117, els120, ce122⟩ := S92.putEls (P := prog) (t := 3) (i := 0) rfl els67 hput119 pt108 Tryz.sizeOf3 (u := vI ((wr (x100 + (wr (y39 * y62)))).tmod a0.p)) (c := [vI ((wr (x100 + (wr (y39 * y62)))).tmod a0.p)]) rfl rfl (ones_cons rfl ones_nil) rfl
          have S117 : St Ha wa H68 w115 [.row 3 1 v64 n65 cs121] := S117
          refine FC.act (l' := (bs 19 524287)) rfl (by kernel_rfl) rfl rfl (E.store rfl rfl run116) ?_
          refine ⟨(SP.o (SP.nil S117.sl)), ?_⟩
          exact FB.done (by kernel_rfl) ⟨_, _, _, _, S117, (Inc.rfl _), els120, k74, k75, k76, k77, k78, k79, k80, k81, k82, k83, k73⟩
      ·
        rintro f131 w130 ⟨H127, v123, n124, cs125, S128, i129, els126, k132, k133, k134, k135, k136, k137, k138, k139, k140, k141, k142⟩
        refine FW.region ?_
        refine FL.v (E.add k142 rfl) ?_
        refine FL.v (E.move (v := vI (wr (((i63 : Nat) : Int) + 1))) rfl) ?_
        refine FL.nil ?_
        obtain rfl := Option.some.inj hp
        exact ⟨rfl, ⟨_, _, _, _, S128, (i70.tr i129), els126, (nat_succ rfl (lt_of_get hx63) (p2.mono ((((i27.tr r34.run.inc).tr i47).tr i70).tr i129)).le), k132, k133, k134, k135, k136, k137, k138, k139, k140, k141⟩⟩
    ·
      clear hp hq
      rintro s63 f159 w158 ⟨H155, v64, n65, cs66, S156, i157, els67, k160, k161, k162, k163, k164, k165, k166, k167, k168, k169, k170⟩
      refine FW.seq (FW.region ?_)
      refine FL.v (E.lss k160 k170) ?_
      refine FL.nil (FW.seq ?_)
      refine FW.condF rfl dlt_len ?_
      refine FW.exit ?_
      exact ⟨nofun, rfl, ⟨_, _, _, _, S156, i157, els67, k161, k162, k163, k166, k167, k168⟩⟩
    ·
      clear hq
      intro e f148 w147 hD
      rcases q63 with s63 | x63
      ·
        obtain ⟨rfl, hD⟩ := hD
        obtain ⟨H144, v64, n65, cs66, S145, i146, els67, k149, k150, k151, k152, k153, k154⟩ := hD
        replace hp := el_go hp
        refine FW.region ?_
        refine FL.v (E.add k154 rfl) ?_
        refine FL.v (E.move (v := vI (wr (((i40 : Nat) : Int) + 1))) rfl) ?_
        refine FL.nil ?_
        obtain rfl := Option.some.inj hp
        exact ⟨rfl, ⟨_, _, _, _, S145, (i47.tr i146), els67, (nat_succ rfl (lt_of_get hx40) (p1.mono (((i27.tr r34.run.inc).tr i47).tr i146)).le), k149, k150, k151, k152, k153⟩⟩
      · exact x63.elim
  ·
    clear hp hq
    rintro s40 f182 w181 ⟨H178, v41, n42, cs43, S179, i180, els44, k183, k184, k185, k186, k187, k188⟩
    refine FW.seq (FW.region ?_)
    refine FL.v (E.lss k183 k188) ?_
    refine FL.nil (FW.seq ?_)
    refine FW.condF rfl dlt_len ?_
    refine FW.exit ?_
    exact ⟨nofun, rfl, ⟨_, _, _, _, S179, i180, els44, k186⟩⟩
  ·
    clear hq
    intro e f176 w175 hD
    rcases q40 with s40 | x40
    ·
      obtain ⟨rfl, hD⟩ := hD
      obtain ⟨H172, v41, n42, cs43, S173, i174, els44, k177⟩ := hD
      replace hp := el_go hp
      refine FW.seq (FW.region ?_)
      refine FL.v (E.move k177) ?_
      refine FL.v (E.assign (v := v41) rfl) ?_
      refine FL.nil ?_
      refine FW.ret ?_
      obtain rfl := Option.some.inj hp
      exact ⟨.inr rfl, res1 rfl rfl ⟨_, _, _, _, rfl, S173, els44⟩⟩
    · exact x40.elim

@[reducible] def p_impl_ring_clause (Ha : GH) (wa : World) (r : (List Int)) : Ending → World → Prop :=
  fun e w' => ∃ H' : GH, ∃ v0 : Value, ∃ n0 : Nat, ∃ c0 : List Value, e = .returned (v0) ∧ St Ha wa H' w' [.row 3 1 v0 n0 c0] ∧ Els (up wa.heap.size H') eI 1 c0 r
theorem w_impl_ring_clause {Ha : GH} {wa : World} (hs : Sl Ha wa) (a0 : ring) (v1 : Value) (a1 : List Int) (p1 : RSl Ha eI 1 v1 a1) {r : (List Int)} (hp : (PF.impl_ring_clause a0 a1) = some r) :
    Calls prog 68 #[vA #[vI a0.p, vI a0.vars], v1] wa (p_impl_ring_clause Ha wa r) := by
  unfold PF.impl_ring_clause at hp
  have S0 := St.init hs
  refine calls_go (N := 25) (args := [vA #[vI a0.p, vI a0.vars], v1]) Tryz.func68 rfl rfl rfl ?_
  refine FW.seq (FW.region ?_)
  obtain ⟨b21, w22, run23, S24⟩ := S0.box (P := prog) 102 [vI a0.p, vI a0.vars] (v := vA #[vI a0.p, vI a0.vars]) rfl (ones_cons rfl (ones_cons rfl ones_nil))
  refine FL.v (E.box rfl run23) ?_
  obtain ⟨H25, S26, i27, at28⟩ := S24.sealBox (i := 0) (l' := []) rfl rfl
  refine FL.v (E.assign (v := vN) rfl) ?_
  refine FL.nil (FW.seq (FW.region ?_))
  refine FL.v (E.load rfl (run_loadA Tryz.isAgg102 Tryz.sizeOf102 (at28.now S26.sl) rfl)) ?_
  obtain ⟨r29, hr30, hp⟩ := bnd hp
  refine FL.call rfl rfl rfl (E.call Tryz.call123 (A2 rfl rfl)) (w_impl_ring_mono S26.sl a0 0 hr30) ?_
  rintro e w32 ⟨H31, v35, n36, cs37, rfl, r34, els38⟩
  refine ⟨_, rfl, ?_⟩
  have els38 := els38.mono (up_le S26.size)
  have S33 := S26.join (l' := [.row 3 1 v35 n36 cs37]) r34 rfl
  refine FL.v (E.assign (v := v35) rfl) ?_
  refine FL.nil (FW.seq (FW.seq (FW.region ?_)))
  refine FL.v (E.move (v := v1) rfl) ?_
  refine FL.v (E.lenP te73 rfl p1) ?_
  refine FL.v (E.move (v := vI 0) rfl) ?_
  refine FL.nil ?_
  obtain ⟨q40, hq, hp⟩ := bndR hp
  refine FW.block ?_
  refine FW.mono (FW.forL (S := (List Int)) (X := Empty) (fun (i40 : Nat) (s40 : (List Int)) f w => ∃ H : GH, ∃ v41 : Value, ∃ n42 : Nat, ∃ cs43 : List Value, St Ha wa H w [.row 3 1 v41 n42 cs43] ∧ Inc H31 H ∧ Els (up wa.heap.size H) eI 1 cs43 s40 ∧ f 12 = vI ((i40 : Nat) : Int) ∧ f 2 = vP (⟨b21, 0, none⟩) ∧ f 5 = v41 ∧ f 10 = v1 ∧ f 11 = vI (len a1)) (fun (q : Rs (List Int) Empty) e f w => match q with | .go s40 => e = Exit.exit 0 ∧ (∃ H : GH, ∃ v41 : Value, ∃ n42 : Nat, ∃ cs43 : List Value, St Ha wa H w [.row 3 1 v41 n42 cs43] ∧ Inc H31 H ∧ Els (up wa.heap.size H) eI 1 cs43 s40 ∧ f 5 = v41) | .rt x => x.elim) hq ⟨_, _, _, _, S33, (Inc.rfl _), els38, rfl, rfl, rfl, rfl, rfl⟩ ?_ ?_) ?_
  ·
    clear hp hq
    rintro i40 y39 s40 f49 w48 ⟨H45, v41, n42, cs43, S46, i47, els44, k50, k51, k52, k53, k54⟩ hx40 o111 hp
    refine FW.seq (FW.region ?_)
    refine FL.v (E.lssT k50 k54 (lss_len hx40)) ?_
    refine FL.nil (FW.seq ?_)
    refine FW.condT rfl rfl ?_
    refine FW.skip (FW.seq (FW.block (FW.seq (FW.region ?_))))
    obtain ⟨p55, cs56, pt57, l58, at59, rel60⟩ := p1.at (ix_nat hx40)
    obtain rfl := eI_open rel60
    refine FL.v (E.indexAddr te73 k53 k50 pt57) ?_
    refine FL.v (E.load rfl (run_load0 Tryz.isAgg3 ((at59.mono ((i27.tr r34.run.inc).tr i47)).now S46.sl) rfl)) ?_
    refine FL.v (E.assign (v := vI y39) rfl) ?_
    refine FL.nil ?_
    obtain ⟨r64, hr65, hp⟩ := bnd hp
    obtain ⟨r85, hr86, hp⟩ := bnd hp
    refine FW.drawB (Sl H45) (fun f w => ∃ H : GH, ∃ v97 : Value, ∃ n98 : Nat, ∃ cs99 : List Value, St Ha wa H w [.row 3 1 v97 n98 cs99] ∧ Inc H45 H ∧ Els (up wa.heap.size H) eI 1 cs99 r85 ∧ f 2 = vP (⟨b21, 0, none⟩) ∧ f 5 = v97 ∧ f 10 = v1 ∧ f 11 = vI (len a1) ∧ f 12 = vI ((i40 : Nat) : Int)) (by kernel_rfl) S46.sl ?_ ?_
    ·
      intro w61 r62
      have S63 := S46.call r62
      refine FB.t (i := 0) (bs 8 1) rfl (SP.nil S63.sl) rfl (fun _ z => (E.load k51 (run_loadA Tryz.isAgg102 Tryz.sizeOf102 ((at28.mono (r34.run.inc.tr i47)).now z) rfl))) ?_
      refine FB.t (i := 1) (bs 8 3) rfl (SP.nil S63.sl) rfl (fun _ z => (E.move k52)) ?_
      refine FB.t (i := 2) (bs 8 7) rfl (SP.nil S63.sl) rfl (fun _ z => (E.load k51 (run_loadA Tryz.isAgg102 Tryz.sizeOf102 ((at28.mono (r34.run.inc.tr i47)).now z) rfl))) ?_
      refine FB.t (i := 3) (bs 8 15) rfl (SP.nil S63.sl) rfl (fun _ z => (E.move (v := vI y39) rfl)) ?_
      refine FB.t (i := 4) (bs 8 31) rfl (SP.nil S63.sl) rfl (fun _ z => (E.neg rfl)) ?_
      refine FB.all1 (i := 5) (by kernel_rfl) ?_
      ·
        refine FC.call (l' := (bs 8 63)) rfl (by kernel_rfl) rfl rfl rfl (E.call Tryz.call125 (A2 rfl rfl)) (w_impl_ring_literal S63.sl a0 (wr (-y39)) hr65) ?_
        rintro e w67 ⟨H66, v70, n71, cs72, rfl, r69, els74⟩
        refine ⟨_, rfl, ?_⟩
        have els74 := els74.mono (up_le S63.size)
        have S68 := S63.join (l' := [.row 3 1 v70 n71 cs72, .row 3 1 v41 n42 cs43]) r69 rfl
        refine ⟨(SP.nil (Sl.of_inc r69.run.inc S68.sl)), ?_⟩
        refine FB.all1 (i := 6) (by kernel_rfl) ?_
        ·
          obtain ⟨H75, S76, i77, h78, nv79⟩ := S68.sealRowU (i := 1) (l' := [.row 3 1 v70 n71 cs72]) rfl (els44.mono (up_mono r69.run.inc)) (by decide) rfl
          obtain ⟨H80, S81, i82, h83, nv84⟩ := S76.sealRowU (i := 0) (l' := []) rfl (els74.mono (up_mono i77)) (by decide) rfl
          refine FC.call (l' := (bs 8 127)) rfl (by kernel_rfl) rfl rfl rfl (E.call Tryz.call124 (A3 rfl rfl rfl)) (w_impl_ring_times S81.sl a0 v41 s40 (h78.mono (upI.tr i82)) v70 r64 (h83.mono upI) hr86) ?_
          rintro e w88 ⟨H87, v93, n94, cs95, rfl, r90, els96⟩
          refine ⟨_, rfl, ?_⟩
          obtain ⟨H91, r90, hU92⟩ := St.lendX (i77.tr i82) S68.sl r90
          have els96 := els96.mono (hU92.tr (up_le S68.size))
          have S89 := S68.join (l' := [.row 3 1 v93 n94 cs95, .row 3 1 v70 n71 cs72, .row 3 1 v41 n42 cs43]) r90 rfl
          refine ⟨(SP.nil (Sl.of_inc (r69.run.inc.tr r90.run.inc) S89.sl)), ?_⟩
          refine FB.t (i := 7) (bs 8 255) rfl (SP.nil (Sl.of_inc (r69.run.inc.tr r90.run.inc) S89.sl)) rfl (fun _ z => (E.assign (v := v93) rfl)) ?_
          exact FB.done (by kernel_rfl) ⟨_, _, _, _, (S89.sel [0] (by decide) rfl), (r69.run.inc.tr r90.run.inc), els96, k51, rfl, k53, k54, k50⟩
    ·
      rintro f105 w104 ⟨H101, v97, n98, cs99, S102, i103, els100, k106, k107, k108, k109, k110⟩
      refine FW.region ?_
      refine FL.v (E.add k110 rfl) ?_
      refine FL.v (E.move (v := vI (wr (((i40 : Nat) : Int) + 1))) rfl) ?_
      refine FL.nil ?_
      obtain rfl := Option.some.inj hp
      exact ⟨rfl, ⟨_, _, _, _, S102, (i47.tr i103), els100, (nat_succ rfl (lt_of_get hx40) (p1.mono (((i27.tr r34.run.inc).tr i47).tr i103)).le), k106, k107, k108, k109⟩⟩
  ·
    clear hp hq
    rintro s40 f122 w121 ⟨H118, v41, n42, cs43, S119, i120, els44, k123, k124, k125, k126, k127⟩
    refine FW.seq (FW.region ?_)
    refine FL.v (E.lss k123 k127) ?_
    refine FL.nil (FW.seq ?_)
    refine FW.condF rfl dlt_len ?_
    refine FW.exit ?_
    exact ⟨nofun, rfl, ⟨_, _, _, _, S119, i120, els44, k125⟩⟩
  ·
    clear hq
    intro e f116 w115 hD
    rcases q40 with s40 | x40
    ·
      obtain ⟨rfl, hD⟩ := hD
      obtain ⟨H112, v41, n42, cs43, S113, i114, els44, k117⟩ := hD
      replace hp := el_go hp
      refine FW.seq (FW.region ?_)
      refine FL.v (E.move k117) ?_
      refine FL.v (E.assign (v := v41) rfl) ?_
      refine FL.nil ?_
      refine FW.ret ?_
      obtain rfl := Option.some.inj hp
      exact ⟨.inr rfl, res1 rfl rfl ⟨_, _, _, _, rfl, S113, els44⟩⟩
    · exact x40.elim

@[reducible] def p_impl_algebraOf (Ha : GH) (wa : World) (r : ((Option algebra) × Bool)) : Ending → World → Prop :=
  fun e w' => ∃ H' : GH, ∃ v0 : Value, e = .returned (Value.tuple #[v0, vB r.2]) ∧ Run wa.heap.size Ha wa H' w' ∧ OP (fun (q : Addr) (x : algebra) => ∃ v0R_3 : Value, ∃ v0R_4 : Value, RSl H' (eL eI 1) 1 v0R_3 x.f.clauses ∧ (∃ c, Nest (up wa.heap.size H') (eL eI 1) 1 v0R_4 x.q c) ∧ CAt H' q [vI x.ring.p, vI x.ring.vars, vI x.f.vars, v0R_3, v0R_4]) v0 r.1
theorem w_impl_algebraOf {Ha : GH} {wa : World} (hs : Sl Ha wa) (a0 : Int) (a1 : Cnf) (v1_1 : Value) (p1_1 : RSl Ha (eL eI 1) 1 v1_1 a1.clauses) {r : ((Option algebra) × Bool)} (hp : (PF.impl_algebraOf a0 a1) = some r) :
    Calls prog 65 #[vI a0, vA #[vI a1.vars, v1_1]] wa (p_impl_algebraOf Ha wa r) := by
  unfold PF.impl_algebraOf at hp
  have S0 := St.init hs
  refine calls_go (N := 50) (args := [vI a0, vA #[vI a1.vars, v1_1]]) Tryz.func65 rfl rfl rfl ?_
  refine FW.seq (FW.region ?_)
  obtain ⟨b21, w22, run23, S24⟩ := S0.box (P := prog) 32 [vI a1.vars, v1_1] (v := vA #[vI a1.vars, v1_1]) rfl (ones_cons rfl (ones_cons p1_1.one ones_nil))
  refine FL.v (E.box rfl run23) ?_
  obtain ⟨H25, S26, i27, at28⟩ := S24.sealBox (i := 0) (l' := []) rfl rfl
  refine FL.v (E.assign (v := Value.pointer none) rfl) ?_
  refine FL.v (E.assign (v := vB false) rfl) ?_
  refine FL.nil (FW.seq (FW.region ?_))
  refine FL.v (E.move (v := vI a0) rfl) ?_
  refine FL.v (E.fieldAddr tf32_0 rfl) ?_
  refine FL.v (E.load rfl (run_load1 Tryz.isAgg3 (at28.now S26.sl) rfl)) ?_
  refine FL.call rfl rfl rfl (E.call Tryz.call119 (A2 rfl rfl)) (w_impl_ringOf S26.sl a0 a1.vars) ?_
  rintro e w29 ⟨rfl, r30⟩
  refine ⟨_, rfl, ?_⟩
  have S31 := S26.call r30
  refine FL.v (E.move (v := Value.tuple #[vA #[vI (((PF.impl_ringOf a0 a1.vars).1).p), vI (((PF.impl_ringOf a0 a1.vars).1).vars)], vB ((PF.impl_ringOf a0 a1.vars).2)]) rfl) ?_
  refine FL.v (E.extract (i := 0) rfl rfl) ?_
  refine FL.v (E.extract (i := 1) rfl rfl) ?_
  obtain ⟨b32, w33, run34, S35⟩ := S31.alloc (P := prog) 102 [vI 0, vI 0] Tryz.zeroValue102 rfl (ones_cons rfl (ones_cons rfl ones_nil))
  refine FL.v (E.alloc run34) ?_
  obtain ⟨w36, run37, S38⟩ := S35.store0 (P := prog) (t := 102) (i := 0) (cs' := [vI (((PF.impl_ringOf a0 a1.vars).1).p), vI (((PF.impl_ringOf a0 a1.vars).1).vars)]) (l' := [.box b32 102 [vI (((PF.impl_ringOf a0 a1.vars).1).p), vI (((PF.impl_ringOf a0 a1.vars).1).vars)]]) (v := vA #[vI (((PF.impl_ringOf a0 a1.vars).1).p), vI (((PF.impl_ringOf a0 a1.vars).1).vars)]) (c := [vI (((PF.impl_ringOf a0 a1.vars).1).p), vI (((PF.impl_ringOf a0 a1.vars).1).vars)]) rfl Tryz.sizeOf102 rfl rfl (ones_cons rfl (ones_cons rfl ones_nil)) (Nat.le_of_ble_eq_true rfl) rfl rfl
  refine FL.act rfl rfl (E.store rfl rfl run37) ?_
  obtain ⟨H39, S40, i41, at42⟩ := S38.sealBox (i := 0) (l' := []) rfl rfl
  refine FL.v (E.assign (v := vB ((PF.impl_ringOf a0 a1.vars).2)) rfl) ?_
  refine FL.nil (FW.seq (FW.seq (FW.region ?_)))
  refine FL.v (E.move (v := vB ((PF.impl_ringOf a0 a1.vars).2)) rfl) ?_
  refine FL.v (E.not rfl) ?_
  refine FL.v (E.move (v := vB (!((PF.impl_ringOf a0 a1.vars).2))) rfl) ?_
  obtain ⟨t48, hqt48, hp⟩ := bnd hp
  refine FL.cut 4 (fun f w => ∃ H : GH, St Ha wa H w [] ∧ Inc H39 H ∧ f 3 = vP (⟨b21, 0, none⟩) ∧ f 6 = vP (⟨b32, 0, none⟩) ∧ f 24 = vB t48) ?_ ?_
  ·
    clear hp; have hp := hqt48; clear hqt48
    rcases ifB hp with ⟨c54, hp⟩ | ⟨c54, hp⟩
    ·
      refine FL.skip (wF_no rfl rfl rfl c54) rfl ?_
      refine FL.skip (wF_no rfl rfl rfl c54) rfl ?_
      refine FL.skip (wF_no rfl rfl rfl c54) rfl ?_
      obtain rfl := Option.some.inj hp
      refine FL.v (E.pickT rfl c54 rfl) ?_
      exact FL.nil ⟨rfl, _, S40, (Inc.rfl _), rfl, rfl, rfl⟩
    ·
      refine FL.val (wF_yes rfl rfl rfl c54) rfl rfl (E.load rfl (run_loadA Tryz.isAgg32 Tryz.sizeOf32 ((at28.mono i41).now S40.sl) rfl)) ?_
      obtain ⟨r55, hr56, hp⟩ := bnd hp
      refine FL.call (wF_yes rfl rfl rfl c54) rfl rfl (E.call Tryz.call120 (A1 rfl)) (w_impl_IsCnf S40.sl a1 v1_1 (p1_1.mono (i27.tr i41)) hr56) ?_
      rintro e w57 ⟨rfl, r58⟩
      refine ⟨_, rfl, ?_⟩
      have S59 := S40.call r58
      refine FL.val (wF_yes rfl rfl rfl c54) rfl rfl (E.not rfl) ?_
      obtain rfl := Option.some.inj hp
      refine FL.v (E.pickF rfl c54 rfl) ?_
      exact FL.nil ⟨rfl, _, S59, (Inc.rfl _), rfl, rfl, rfl⟩
  rintro f53 w52 ⟨H49, S50, i51, k60, k61, k62⟩
  refine FL.nil ?_
  rcases ifB hp with ⟨c63, hp⟩ | ⟨c63, hp⟩
  ·
    refine FW.condT k62 c63 ?_
    refine FW.seq (FW.region ?_)
    refine FL.v (E.assign (v := Value.pointer none) rfl) ?_
    refine FL.v (E.assign (v := vB false) rfl) ?_
    refine FL.nil ?_
    refine FW.ret ?_
    obtain rfl := Option.some.inj hp
    exact ⟨.inr rfl, res2 rfl rfl rfl ⟨_, _, rfl, S50.run, rfl⟩⟩
  ·
    refine FW.condF k62 c63 ?_
    refine FW.skip (FW.seq (FW.region ?_))
    refine FL.v (E.load k61 (run_loadA Tryz.isAgg102 Tryz.sizeOf102 ((at42.mono i51).now S50.sl) rfl)) ?_
    refine FL.v (E.load k60 (run_loadA Tryz.isAgg32 Tryz.sizeOf32 ((at28.mono (i41.tr i51)).now S50.sl) rfl)) ?_
    refine FL.v (E.build (B2 rfl rfl) (run_build _ 105 #[(0, vA #[vI (((PF.impl_ringOf a0 a1.vars).1).p), vI (((PF.impl_ringOf a0 a1.vars).1).vars)]), (1, vA #[vI a1.vars, v1_1])] #[vI (((PF.impl_ringOf a0 a1.vars).1).p), vI (((PF.impl_ringOf a0 a1.vars).1).vars), vI a1.vars, v1_1, vN] (by obtain ⟨_, _, rfl⟩ := RSl.ln (p1_1.mono ((i27.tr i41).tr i51)); rfl))) ?_
    have S68 := S50.nil 99 1
    have els69 : Els (up wa.heap.size H49) (eL eI 1) 1 [] [] := Els.nil
    obtain ⟨b64, w65, run66, S67⟩ := S68.box (P := prog) 105 [vI (((PF.impl_ringOf a0 a1.vars).1).p), vI (((PF.impl_ringOf a0 a1.vars).1).vars), vI a1.vars, v1_1, (vN)] (v := vA #[vI (((PF.impl_ringOf a0 a1.vars).1).p), vI (((PF.impl_ringOf a0 a1.vars).1).vars), vI a1.vars, v1_1, vN]) rfl (ones_cons rfl (ones_cons rfl (ones_cons rfl (ones_cons p1_1.one (ones_cons (Ln.one (S68.row_ln (i := 0) rfl)) ones_nil)))))
    refine FL.v (E.box rfl run66) ?_
    refine FL.v (E.assign (v := vP ((⟨b64, 0, none⟩ : Addr))) rfl) ?_
    refine FL.nil (FW.seq (FW.seq (FW.region ?_)))
    refine FL.v (E.fieldAddr tf32_1 k60) ?_
    refine FL.v (E.load rfl (run_load1 Tryz.isAgg22 ((at28.mono (i41.tr i51)).now S67.sl) rfl)) ?_
    refine FL.v (E.lenP te22 rfl p1_1) ?_
    refine FL.v (E.move (v := vI 0) rfl) ?_
    refine FL.nil ?_
    obtain ⟨q71, hq, hp⟩ := bndR hp
    refine FW.block ?_
    refine FW.mono (FW.forL (S := ((List (List Int)) × Int × Int × Int × (List (List Int)))) (X := Empty) (fun (i71 : Nat) (s71 : ((List (List Int)) × Int × Int × Int × (List (List Int)))) f w => ∃ H : GH, ∃ v43 : Value, ∃ n44 : Nat, ∃ cs45 : List Value, ∃ v72 : Value, St Ha wa H w [.box b64 105 [vI s71.2.1, vI s71.2.2.1, vI s71.2.2.2.1, v72, v43], .row 99 1 v43 n44 cs45] ∧ Inc H49 H ∧ Els (up wa.heap.size H) (eL eI 1) 1 cs45 s71.1 ∧ RSl H (eL eI 1) 1 v72 s71.2.2.2.2 ∧ (bl cs45).Nodup ∧ f 32 = vI ((i71 : Nat) : Int) ∧ f 6 = vP (⟨b32, 0, none⟩) ∧ f 8 = vP ((⟨b64, 0, none⟩ : Addr)) ∧ f 30 = v1_1 ∧ f 31 = vI (len a1.clauses)) (fun (q : Rs ((List (List Int)) × Int × Int × Int × (List (List Int))) Empty) e f w => match q with | .go s71 => e = Exit.exit 0 ∧ (∃ H : GH, ∃ v43 : Value, ∃ n44 : Nat, ∃ cs45 : List Value, ∃ v72 : Value, St Ha wa H w [.box b64 105 [vI s71.2.1, vI s71.2.2.1, vI s71.2.2.2.1, v72, v43], .row 99 1 v43 n44 cs45] ∧ Inc H49 H ∧ Els (up wa.heap.size H) (eL eI 1) 1 cs45 s71.1 ∧ RSl H (eL eI 1) 1 v72 s71.2.2.2.2 ∧ (bl cs45).Nodup ∧ f 8 = vP ((⟨b64, 0, none⟩ : Addr))) | .rt x => x.elim) hq ⟨_, _, _, _, _, S67, (Inc.rfl _), els69, (p1_1.mono ((i27.tr i41).tr i51)), (show (bl []).Nodup from List.nodup_nil), rfl, k61, rfl, rfl, rfl⟩ ?_ ?_) ?_
    ·
      clear hp hq
      rintro i71 y70 s71 f78 w77 ⟨H74, v43, n44, cs45, v72, S75, i76, els46, h73, nd47, k79, k80, k81, k82, k83⟩ hx71 o150 hp
      refine FW.seq (FW.region ?_)
      refine FL.v (E.lssT k79 k83 (lss_len hx71)) ?_
      refine FL.nil (FW.seq ?_)
      refine FW.condT rfl rfl ?_
      refine FW.skip (FW.seq (FW.block (FW.seq (FW.region ?_))))
      obtain ⟨p84, cs85, pt86, l87, at88, rel89⟩ := p1_1.at (ix_nat hx71)
      obtain ⟨v90, rfl, h91⟩ := eL_open rel89
      refine FL.v (E.indexAddr te22 k82 k79 pt86) ?_
      refine FL.v (E.load rfl (run_load0 Tryz.isAgg73 ((at88.mono (((i27.tr i41).tr i51).tr i76)).now S75.sl) rfl)) ?_
      refine FL.v (E.assign (v := v90) rfl) ?_
      refine FL.nil ?_
      obtain ⟨r95, hr96, hp⟩ := bnd hp
      obtain ⟨xs118, hz119, hp⟩ := bnd hp
      refine FW.drawB (Sl H74) (fun f w => ∃ H : GH, ∃ v133 : Value, ∃ n134 : Nat, ∃ cs135 : List Value, ∃ v138 : Value, St Ha wa H w [.box b64 105 [vI s71.2.1, vI s71.2.2.1, vI s71.2.2.2.1, v138, v133], .row 99 1 v133 n134 cs135] ∧ Inc H74 H ∧ Els (up wa.heap.size H) (eL eI 1) 1 cs135 xs118 ∧ RSl H (eL eI 1) 1 v138 s71.2.2.2.2 ∧ (bl cs135).Nodup ∧ f 6 = vP (⟨b32, 0, none⟩) ∧ f 8 = vP ((⟨b64, 0, none⟩ : Addr)) ∧ f 30 = v1_1 ∧ f 31 = vI (len a1.clauses) ∧ f 32 = vI ((i71 : Nat) : Int)) (by kernel_rfl) S75.sl ?_ ?_
      ·
        intro w92 r93
        have S94 := S75.call r93
        refine FB.phase [12] (fun w => WAt w (Addr.add ⟨b64, 0, none⟩ 4) [v43]) ?_
        refine FB.t (i := 0) (bs 13 1) rfl (SP.on ((S94.box_now (i := 0) rfl).sub (j := 4) (n := 1) (c := [v43]) rfl) (SP.nil S94.sl)) rfl (fun _ z => (E.move k81)) ?_
        refine FB.t (i := 1) (bs 13 3) rfl (SP.on ((S94.box_now (i := 0) rfl).sub (j := 4) (n := 1) (c := [v43]) rfl) (SP.nil S94.sl)) rfl (fun _ z => (E.move k81)) ?_
        refine FB.t (i := 2) (bs 13 7) rfl (SP.on ((S94.box_now (i := 0) rfl).sub (j := 4) (n := 1) (c := [v43]) rfl) (SP.nil S94.sl)) rfl (fun _ z => (E.nilCheck rfl)) ?_
        refine FB.t (i := 3) (bs 13 15) rfl (SP.on ((S94.box_now (i := 0) rfl).sub (j := 4) (n := 1) (c := [v43]) rfl) (SP.nil S94.sl)) rfl (fun _ z => (E.fieldAddr tf105_2 rfl)) ?_
        refine FB.p (i := 4) (bs 13 31) 0 [9, 10, 11, 12] rfl (SP.on ((S94.box_now (i := 0) rfl).sub (j := 4) (n := 1) (c := [v43]) rfl) (SP.nil S94.sl)) rfl rfl (fun _ z => (E.load rfl (run_load0 Tryz.isAgg103 z rfl))) ?_
        refine FB.t (i := 5) (bs 13 63) rfl (SP.on ((S94.box_now (i := 0) rfl).sub (j := 4) (n := 1) (c := [v43]) rfl) (SP.nil S94.sl)) rfl (fun _ z => (E.load k80 (run_loadA Tryz.isAgg102 Tryz.sizeOf102 ((at42.mono (i51.tr i76)).now z) rfl))) ?_
        refine FB.t (i := 6) (bs 13 127) rfl (SP.on ((S94.box_now (i := 0) rfl).sub (j := 4) (n := 1) (c := [v43]) rfl) (SP.nil S94.sl)) rfl (fun _ z => (E.move (v := v90) rfl)) ?_
        refine FB.all1 (i := 7) (by kernel_rfl) ?_
        ·
          refine FC.call (l' := (bs 13 255)) rfl (by kernel_rfl) rfl rfl rfl (E.call Tryz.call68 (A2 rfl rfl)) (w_impl_ring_clause S94.sl ((PF.impl_ringOf a0 a1.vars).1) v90 y70 (h91.mono (((i27.tr i41).tr i51).tr i76)) hr96) ?_
          rintro e w98 ⟨H97, v101, n102, cs104, rfl, r100, els106⟩
          refine ⟨_, rfl, ?_⟩
          have els106 := els106.mono (up_le S94.size)
          have S99 := S94.join (l' := [.row 3 1 v101 n102 cs104, .box b64 105 [vI s71.2.1, vI s71.2.2.1, vI s71.2.2.2.1, v72, v43], .row 99 1 v43 n44 cs45]) r100 rfl
          refine ⟨(SP.on ((S99.box_now (i := 1) rfl).sub (j := 4) (n := 1) (c := [v43]) rfl) (SP.nil (Sl.of_inc r100.run.inc S99.sl))), ?_⟩
          refine FB.all1 (i := 8) (by kernel_rfl) ?_
          ·
            obtain ⟨H107, S108, i109, h110, nv111⟩ := S99.sealRowU (i := 0) (l' := [.box b64 105 [vI s71.2.1, vI s71.2.2.1, vI s71.2.2.2.1, v72, v43], .row 99 1 v43 n44 cs45]) rfl els106 (by decide) rfl
            obtain ⟨v112, w113, run114, S115⟩ := S108.buildSlice (P := prog) te103 [v101] (parts := #[(0, v101)]) (cells := [v101]) rfl (szs_cons (cells_size h110.cells) szs_nil) (fc_cons h110.cells fc_nil) (ones_cons h110.one ones_nil) (Nat.le_of_ble_eq_true rfl)
            have els116 : Els (up wa.heap.size H107) (eL eI 1) 1 [v101] [r95] := (Els.snoc (H := (up wa.heap.size H107)) (E := (eL eI 1)) (k := 1) (c := [v101]) (x := r95) Els.nil rfl ⟨_, rfl, h110⟩)
            have nd117 : (bl [v101]).Nodup := by exact nd_one v101
            refine FC.val (l' := (bs 13 511)) rfl (by kernel_rfl) rfl rfl rfl (E.buildSlice (B1 rfl) run114) ?_
            refine ⟨(SP.on ((S115.box_now (i := 1) rfl).sub (j := 4) (n := 1) (c := [v43]) rfl) (SP.nil (Sl.of_inc (r100.run.inc.tr i109) S115.sl))), ?_⟩
            refine FB.all1 (i := 9) (by kernel_rfl) ?_
            ·
              obtain ⟨v120, w123, n121, cs122, run124, S125, els126, ce127⟩ := S115.appendO (P := prog) te103 (i := 2) (j := 0) rfl (els46.mono (up_mono (r100.run.inc.tr i109))) rfl els116 hz119
              have S125 : St Ha wa H107 w123 [.row 99 1 v112 1 [v101], .box b64 105 [vI s71.2.1, vI s71.2.2.1, vI s71.2.2.2.1, v72, v43], .row 99 1 v120 n121 cs122] := S125
              have nd128 : (bl cs122).Nodup := by rw [ce127]; exact nd_app nd47 nd117 (Els.dom (els46.mono (upI.tr r100.run.inc))) (by exact nv111)
              have S129 : St Ha wa H107 w123 [.box b64 105 [vI s71.2.1, vI s71.2.2.1, vI s71.2.2.2.1, v72, v43], .row 99 1 v120 n121 cs122] := S125.drop 0
              refine FC.val (l' := (bs 13 1023)) rfl (by kernel_rfl) rfl rfl rfl (E.append rfl rfl run124) ?_
              refine ⟨(SP.on ((S129.box_now (i := 0) rfl).sub (j := 4) (n := 1) (c := [v43]) rfl) (SP.nil (Sl.of_inc (r100.run.inc.tr i109) S129.sl))), ?_⟩
              refine FB.t (i := 10) (bs 13 2047) rfl (SP.on ((S129.box_now (i := 0) rfl).sub (j := 4) (n := 1) (c := [v43]) rfl) (SP.nil (Sl.of_inc (r100.run.inc.tr i109) S129.sl))) rfl (fun _ z => (E.nilCheck rfl)) ?_
              refine FB.t (i := 11) (bs 13 4095) rfl (SP.on ((S129.box_now (i := 0) rfl).sub (j := 4) (n := 1) (c := [v43]) rfl) (SP.nil (Sl.of_inc (r100.run.inc.tr i109) S129.sl))) rfl (fun _ z => (E.fieldAddr tf105_2 rfl)) ?_
              refine FB.all1 (i := 12) (by kernel_rfl) ?_
              ·
                obtain ⟨w130, run131, S132⟩ := S129.store (P := prog) (t := 103) (i := 0) (j := 4) (cs' := [vI s71.2.1, vI s71.2.2.1, vI s71.2.2.2.1, v72, v120]) (l' := [.box b64 105 [vI s71.2.1, vI s71.2.2.1, vI s71.2.2.2.1, v72, v120], .row 99 1 v120 n121 cs122]) (v := v120) (c := [v120]) rfl Tryz.sizeOf103 (Ln.cells (S129.row_ln (i := 1) rfl)) rfl (ones_cons (Ln.one (S129.row_ln (i := 1) rfl)) ones_nil) (Nat.le_of_ble_eq_true rfl) rfl rfl
                refine FC.act (l' := (bs 13 8191)) rfl (by kernel_rfl) rfl rfl (E.store rfl rfl run131) ?_
                refine ⟨(SP.o (SP.nil (Sl.of_inc (r100.run.inc.tr i109) S132.sl))), ?_⟩
                exact FB.done (by kernel_rfl) ⟨_, _, _, _, _, S132, (r100.run.inc.tr i109), els126, (h73.mono (r100.run.inc.tr i109)), nd128, k80, k81, k82, k83, k79⟩
      ·
        rintro f144 w143 ⟨H140, v133, n134, cs135, v138, S141, i142, els136, h139, nd137, k145, k146, k147, k148, k149⟩
        refine FW.region ?_
        refine FL.v (E.add k149 rfl) ?_
        refine FL.v (E.move (v := vI (wr (((i71 : Nat) : Int) + 1))) rfl) ?_
        refine FL.nil ?_
        obtain rfl := Option.some.inj hp
        exact ⟨rfl, ⟨_, _, _, _, _, S141, (i76.tr i142), els136, h139, nd137, (nat_succ rfl (lt_of_get hx71) (p1_1.mono ((((i27.tr i41).tr i51).tr i76).tr i142)).le), k145, k146, k147, k148⟩⟩
    ·
      clear hp hq
      rintro s71 f171 w170 ⟨H167, v43, n44, cs45, v72, S168, i169, els46, h73, nd47, k172, k173, k174, k175, k176⟩
      refine FW.seq (FW.region ?_)
      refine FL.v (E.lss k172 k176) ?_
      refine FL.nil (FW.seq ?_)
      refine FW.condF rfl dlt_len ?_
      refine FW.exit ?_
      exact ⟨nofun, rfl, ⟨_, _, _, _, _, S168, i169, els46, h73, nd47, k174⟩⟩
    ·
      clear hq
      intro e f155 w154 hD
      rcases q71 with s71 | x71
      ·
        obtain ⟨rfl, hD⟩ := hD
        obtain ⟨H151, v43, n44, cs45, v72, S152, i153, els46, h73, nd47, k156⟩ := hD
        replace hp := el_go hp
        refine FW.seq (FW.region ?_)
        refine FL.v (E.move k156) ?_
        refine FL.v (E.assign (v := vP ((⟨b64, 0, none⟩ : Addr))) rfl) ?_
        refine FL.v (E.assign (v := vB true) rfl) ?_
        refine FL.nil ?_
        refine FW.ret ?_
        obtain ⟨H157, S158, i159, ns162, nv161⟩ := S152.sealRowN (i := 1) (l' := [.box b64 105 [vI s71.2.1, vI s71.2.2.1, vI s71.2.2.2.1, v72, v43]]) rfl els46 nd47 (by decide) rfl
        have h160 := ns162.rsl
        obtain ⟨H163, S164, i165, at166⟩ := S158.sealBox (i := 0) (l' := []) rfl rfl
        obtain rfl := Option.some.inj hp
        exact ⟨.inr rfl, res2 rfl rfl rfl ⟨_, _, rfl, S164.run, ⟨_, rfl, _, _, (h73.mono (i159.tr i165)), ⟨_, (ns162.mono (up_mono i165))⟩, at166⟩⟩⟩
      · exact x71.elim

theorem w_slices_Equal_int_int {Ha : GH} {wa : World} (hs : Sl Ha wa) (v0 : Value) (a0 : List Int) (p0 : RSl Ha eI 1 v0 a0) (v1 : Value) (a1 : List Int) (p1 : RSl Ha eI 1 v1 a1) {r : Bool} (hp : (PF.slices_Equal_int_int a0 a1) = some r) :
  Calls prog 230 #[v0, v1] wa (Sc Ha wa (vB r)) := by
 unfold PF.slices_Equal_int_int at hp; have S0 := St.init hs; refine calls_go (N := 26) (args := [v0, v1]) func230 rfl rfl rfl ?_; refine FW.sr ?_; refine FL.as (v := vB false) rfl ?_; refine FL.nil (FW.seq (FW.sr ?_)); refine FL.mv (v := v0) rfl ?_; refine FL.v (E.lenP te73 rfl p0) ?_; refine FL.mv (v := v1) rfl ?_; refine FL.v (E.lenP te73 rfl p1) ?_; refine FL.v (E.neq rfl rfl) ?_; refine FL.nil ?_; rcases ifB hp with ⟨c21, hp⟩ | ⟨c21, hp⟩
 ·
  refine FW.condT rfl c21 ?_; refine FW.sr ?_; refine FL.as (v := vB false) rfl ?_; refine FL.nil (FW.ret ?_); cases hp; exact ⟨.inr rfl, res1 rfl rfl ⟨rfl, S0.back⟩⟩
 ·
  refine FW.condF rfl c21 ?_; refine FW.skip (FW.seq (FW.sr ?_)); refine FL.mv (v := v0) rfl ?_; refine FL.v (E.lenP te73 rfl p0) ?_; refine FL.mv (v := vI 0) rfl ?_; refine FL.nil ?_; obtain ⟨q23, hq, hp⟩ := bndR hp; refine FW.block ?_; refine FW.mono (FW.forL (S := Unit) (X := Bool) (fun (i23 : Nat) (s23 : Unit) f w => ∃ H : GH, St Ha wa H w [] ∧ Inc Ha H ∧ f 13 = vI ((i23 : Nat) : Int) ∧ f 0 = v0 ∧ f 1 = v1 ∧ f 12 = vI (len a0)) (fun q e f w => match q with | .go s23 => e = Exit.exit 0 ∧ (∃ H : GH, St Ha wa H w [] ∧ Inc Ha H) | .rt x => ((e = Exit.ret) ∧ (fun e f w => (e = Exit.normal ∨ e = Exit.ret) ∧ ∀ a, Fr (δ := []) 26 a f → ∃ v, (results Tryz.f230 a.tmps).run prog w = .ok v w ∧ (Sc Ha wa (vB x)) (.returned v) w) e f w)) hq ⟨_, S0, I0, rfl, rfl, rfl, rfl⟩ ?_ ?_) ?_
  ·
   clear hp hq; rintro i23 y22 s23 f56 w55 ⟨H52, S53, i54, k57, k58, k59, k60⟩ hx23 o80 hp; refine FW.sr ?_; refine FL.v (E.lssT k57 k60 (lss_len hx23)) ?_; refine FL.nil (FW.seq ?_); refine FW.condT rfl rfl ?_; refine FW.skip (FW.seq (FW.block (FW.sr ?_))); refine FL.mv k57 ?_; refine FL.as (v := vI ((i23 : Nat) : Int)) rfl ?_; refine FL.nil (FW.seq ?_); refine FW.draw (fun w' => Run w55.heap.size H52 w55 H52 w') (by kernel_rfl) (by kernel_rfl) (run_drew S53.sl) ?_; refine FD.v (fun _ z => (E.move k58)) ?_; refine FD.v (fun _ z => (E.move (v := vI ((i23 : Nat) : Int)) rfl)) ?_; obtain ⟨p62, cs63, pt64, l65, at66, rel67⟩ := p0.at (ix_nat hx23); obtain rfl := eI_open rel67; refine FD.v (fun _ z => (E.indexAddr te73 rfl rfl pt64)) ?_; refine FD.v (fun _ z => (E.load rfl (run_load0 isAgg3 ((at66.mono i54).now (S53.call z).sl) rfl))) ?_; refine FD.v (fun _ z => (E.move k59)) ?_; refine FD.v (fun _ z => (E.move (v := vI ((i23 : Nat) : Int)) rfl)) ?_; obtain ⟨x74, hx75, hp⟩ := bnd hp; obtain ⟨p68, cs69, pt70, l71, at72, rel73⟩ := p1.at hx75; obtain rfl := eI_open rel73; refine FD.v (fun _ z => (E.indexAddr te73 rfl rfl pt70)) ?_; refine FD.v (fun _ z => (E.load rfl (run_load0 isAgg3 ((at72.mono i54).now (S53.call z).sl) rfl))) ?_; refine FD.v (fun _ z => (E.neq rfl rfl)) ?_; refine FD.nil ?_; intro w76 r78; have S77 := S53.call r78; rcases ifB hp with ⟨c79, hp⟩ | ⟨c79, hp⟩
   ·
    refine FW.condT rfl c79 ?_; refine FW.sr ?_; refine FL.as (v := vB false) rfl ?_; refine FL.nil (FW.ret ?_); cases hp; exact ⟨nofun, rfl, ⟨.inr rfl, res1 rfl rfl ⟨rfl, S77.back⟩⟩⟩
   ·
    refine FW.condF rfl c79 ?_; refine FW.skip (FW.region ?_); refine FL.v (E.add k57 rfl) ?_; refine FL.mv (v := vI (wr (((i23 : Nat) : Int) + 1))) rfl ?_; refine FL.nil ?_; cases hp; exact ⟨rfl, ⟨_, S77, i54, (nat_succ rfl (lt_of_get hx23) (p0.mono i54).le), k58, k59, k60⟩⟩
  ·
   clear hp hq; rintro s23 f90 w89 ⟨H86, S87, i88, k91, k92, k93, k94⟩; refine FW.sr ?_; refine FL.v (E.lss k91 k94) ?_; refine FL.nil (FW.seq ?_); refine FW.condF rfl dlt_len ?_; refine FW.exit ?_; exact ⟨nofun, rfl, ⟨_, S87, i88⟩⟩
  ·
   clear hq; intro e f85 w84 hD; rcases q23 with s23 | x23
   ·
    obtain ⟨rfl, hD⟩ := hD; obtain ⟨H81, S82, i83⟩ := hD; replace hp := el_go hp; refine FW.sr ?_; refine FL.as (v := vB true) rfl ?_; refine FL.nil (FW.ret ?_); cases hp; exact ⟨.inr rfl, res1 rfl rfl ⟨rfl, S82.back⟩⟩
   ·
    obtain ⟨he, hL⟩ := hD; replace hp := el_rt hp; cases hp; subst he; exact hL

@[reducible] def p_impl_earlier (Ha : GH) (wa : World) (r : ((List Int) × Bool)) : Ending → World → Prop :=
 fun e w' => ∃ H' : GH, ∃ v0 : Value, e = .returned (Value.tuple #[v0, vB r.2]) ∧ Run wa.heap.size Ha wa H' w' ∧ RSl H' eI 1 v0 r.1
theorem w_impl_earlier {Ha : GH} {wa : World} (hs : Sl Ha wa) (a0 : Cnf) (v0_1 : Value) (p0_1 : RSl Ha (eL eI 1) 1 v0_1 a0.clauses) (v1 : Value) (a1 : List ResStep) (p1 : RSl Ha eResStep 4 v1 a1) (a2 : Int) (a3 : Int) {r : ((List Int) × Bool)} (hp : (PF.impl_earlier a0 a1 a2 a3) = some r) :
  Calls prog 231 #[vA #[vI a0.vars, v0_1], v1, vI a2, vI a3] wa (p_impl_earlier Ha wa r) := by
 unfold PF.impl_earlier at hp; have S0 := St.init hs; refine calls_go (N := 31) (args := [vA #[vI a0.vars, v0_1], v1, vI a2, vI a3]) func231 rfl rfl rfl ?_; refine FW.sr ?_; obtain ⟨b21, w22, run23, S24⟩ := S0.box (P := prog) 32 [vI a0.vars, v0_1] (v := vA #[vI a0.vars, v0_1]) rfl (oC rfl (oC p0_1.one ones_nil)); refine FL.v (E.box rfl run23) ?_; obtain ⟨H25, S26, i27, at28⟩ := S24.sealBox (i := 0) (l' := []) rfl rfl; refine FL.as (v := vN) rfl ?_; refine FL.as (v := vB false) rfl ?_; refine FL.nil (FW.seq (FW.seq ?_)); refine FW.draw (fun w' => Run w22.heap.size H25 w22 H25 w') (by kernel_rfl) (by kernel_rfl) (run_drew S26.sl) ?_; refine FD.v (fun _ z => (E.move (v := vI a3) rfl)) ?_; refine FD.v (fun _ z => (E.move (v := vI a2) rfl)) ?_; refine FD.v (fun _ z => (E.sub rfl rfl)) ?_; refine FD.call rfl rfl rfl (fun _ z => (E.call call162 (A3 rfl rfl rfl))) (fun _ z => Calls.cls z (w_impl_within (S26.call z).sl a3 0 (wr (a2 - 1)))) ?_; refine FD.v (fun _ z => (E.not rfl)) ?_; refine FD.v (fun _ z => (E.move (v := vB (!(PF.impl_within a3 0 (wr (a2 - 1))))) rfl)) ?_; obtain ⟨t42, hqt42, hp⟩ := bnd hp; refine FD.cut 10 (fun f => f 1 = v1 ∧ f 3 = vI a3 ∧ f 25 = vB t42) ?_ ?_
 ·
  clear hp; have hp := hqt42; clear hqt42; rcases ifB hp with ⟨c48, hp⟩ | ⟨c48, hp⟩
  ·
   refine FD.skip (wN c48) rfl ?_; refine FD.skip (wN c48) rfl ?_; refine FD.skip (wN c48) rfl ?_; refine FD.skip (wN c48) rfl ?_; refine FD.skip (wN c48) rfl ?_; refine FD.skip (wN c48) rfl ?_; refine FD.skip (wN c48) rfl ?_; refine FD.skip (wN c48) rfl ?_; refine FD.skip (wN c48) rfl ?_; cases hp; refine FD.v (fun _ z => (E.pickT rfl c48 rfl)) ?_; exact FD.nil ⟨rfl, rfl, rfl⟩
  ·
   refine FD.y (wY c48) (fun _ z => (E.fieldAddr tf32_0 rfl)) ?_; refine FD.y (wY c48) (fun _ z => (E.load rfl (run_load1 isAgg3 (at28.now (S26.call z).sl) rfl))) ?_; refine FD.y (wY c48) (fun _ z => (E.move (v := v1) rfl)) ?_; refine FD.y (wY c48) (fun _ z => (E.move (v := vI a3) rfl)) ?_; obtain ⟨x55, hx56, hp⟩ := bnd hp; obtain ⟨p49, cs50, pt51, l52, at53, rel54⟩ := p1.at hx56; obtain ⟨v57, rfl, h58⟩ := eResStep_open rel54; refine FD.y (wY c48) (fun _ z => (E.indexAddr te34 rfl rfl pt51)) ?_; refine FD.y (wY c48) (fun _ z => (E.fieldAddr tf88_0 rfl)) ?_; refine FD.y (wY c48) (fun _ z => (E.load rfl (run_load1 isAgg73 ((at53.mono i27).now (S26.call z).sl) rfl))) ?_; obtain ⟨r59, hr60, hp⟩ := bnd hp; refine FD.call (wY c48) rfl rfl (fun _ z => (E.call call180 (A2 rfl rfl))) (fun _ z => Calls.cls z (w_impl_IsClause (S26.call z).sl a0.vars v57 x55.clause (h58.mono i27) hr60)) ?_; refine FD.y (wY c48) (fun _ z => (E.not rfl)) ?_; cases hp; refine FD.v (fun _ z => (E.pickF rfl c48 rfl)) ?_; exact FD.nil ⟨rfl, rfl, rfl⟩
 rintro f47 ⟨k61, k62, k63⟩; refine FD.nil ?_; intro w64 r66; have S65 := S26.call r66; rcases ifB hp with ⟨c67, hp⟩ | ⟨c67, hp⟩
 ·
  refine FW.condT k63 c67 ?_; refine FW.sr ?_; refine FL.as (v := vN) rfl ?_; refine FL.as (v := vB false) rfl ?_; refine FL.nil (FW.ret ?_); cases hp; exact ⟨.inr rfl, res2 rfl rfl rfl ⟨_, _, rfl, S65.run, (RSl.nil _ _ _)⟩⟩
 ·
  refine FW.condF k63 c67 ?_; refine FW.skip (FW.sr ?_); refine FL.mv k61 ?_; refine FL.mv k62 ?_; obtain ⟨x74, hx75, hp⟩ := bnd hp; obtain ⟨p68, cs69, pt70, l71, at72, rel73⟩ := p1.at hx75; obtain ⟨v76, rfl, h77⟩ := eResStep_open rel73; refine FL.v (E.indexAddr te34 rfl rfl pt70) ?_; refine FL.v (E.fieldAddr tf88_0 rfl) ?_; refine FL.v (E.load rfl (run_load1 isAgg73 ((at72.mono i27).now S65.sl) rfl)) ?_; refine FL.as (v := v76) rfl ?_; refine FL.as (v := vB true) rfl ?_; refine FL.nil (FW.ret ?_); cases hp; exact ⟨.inr rfl, res2 rfl rfl rfl ⟨_, _, rfl, S65.run, (h77.mono i27)⟩⟩

theorem w_slices_IndexFunc_int_int {Ha : GH} {wa : World} (hs : Sl Ha wa) (v0 : Value) (a0 : List Int) (p0 : RSl Ha eI 1 v0 a0) (v1 : Value) (a1 : Int → Option Bool) (p1 : Fn_I_to_B prog Ha v1 a1) {r : Int} (hp : (PF.slices_IndexFunc_int_int a0 a1) = some r) :
  Calls prog 193 #[v0, v1] wa (Sc Ha wa (vI r)) := by
 unfold PF.slices_IndexFunc_int_int at hp; have S0 := St.init hs; refine calls_go (N := 19) (args := [v0, v1]) func193 rfl rfl rfl ?_; refine FW.sr ?_; refine FL.as (v := vI 0) rfl ?_; refine FL.nil (FW.seq (FW.sr ?_)); refine FL.mv (v := v0) rfl ?_; refine FL.v (E.lenP te73 rfl p0) ?_; refine FL.mv (v := vI 0) rfl ?_; refine FL.nil ?_; obtain ⟨q22, hq, hp⟩ := bndR hp; refine FW.block ?_; refine FW.mono (FW.forL (S := Unit) (X := Int) (fun (i22 : Nat) (s22 : Unit) f w => ∃ H : GH, St Ha wa H w [] ∧ Inc Ha H ∧ f 8 = vI ((i22 : Nat) : Int) ∧ f 0 = v0 ∧ f 1 = v1 ∧ f 7 = vI (len a0)) (fun q e f w => match q with | .go s22 => e = Exit.exit 0 ∧ (∃ H : GH, St Ha wa H w [] ∧ Inc Ha H) | .rt x => ((e = Exit.ret) ∧ (fun e f w => (e = Exit.normal ∨ e = Exit.ret) ∧ ∀ a, Fr (δ := []) 19 a f → ∃ v, (results Tryz.f193 a.tmps).run prog w = .ok v w ∧ (Sc Ha wa (vI x)) (.returned v) w) e f w)) hq ⟨_, S0, I0, rfl, rfl, rfl, rfl⟩ ?_ ?_) ?_
 ·
  clear hp hq; rintro i22 y21 s22 f53 w52 ⟨H49, S50, i51, k54, k55, k56, k57⟩ hx22 o75 hp; refine FW.sr ?_; refine FL.v (E.lssT k54 k57 (lss_len hx22)) ?_; refine FL.nil (FW.seq ?_); refine FW.condT rfl rfl ?_; refine FW.skip (FW.seq (FW.block (FW.sr ?_))); refine FL.mv k54 ?_; refine FL.as (v := vI ((i22 : Nat) : Int)) rfl ?_; refine FL.nil (FW.sr ?_); refine FL.mv k56 ?_; refine FL.mv k55 ?_; refine FL.mv (v := vI ((i22 : Nat) : Int)) rfl ?_; obtain ⟨p58, cs59, pt60, l61, at62, rel63⟩ := p0.at (ix_nat hx22); obtain rfl := eI_open rel63; refine FL.v (E.indexAddr te73 rfl rfl pt60) ?_; refine FL.v (E.load rfl (run_load0 isAgg3 ((at62.mono i51).now S50.sl) rfl)) ?_; obtain ⟨r64, hr65, hp⟩ := bnd hp; obtain ⟨fi69, cs70, hv71, he72, hc73⟩ := (p1.mono i51) H49 w52 I0 S50.sl y21 r64 hr65; refine FL.c (E.callV he72 (Eq.trans rfl hv71) (appA (A1 rfl) cs70)) hc73 ?_; rintro e w66 ⟨rfl, r67⟩; refine ⟨_, rfl, ?_⟩; have S68 := S50.call r67; refine FL.nil ?_; rcases ifB hp with ⟨c74, hp⟩ | ⟨c74, hp⟩
  ·
   refine FW.condT rfl c74 ?_; refine FW.sr ?_; refine FL.mv (v := vI ((i22 : Nat) : Int)) rfl ?_; refine FL.as (v := vI ((i22 : Nat) : Int)) rfl ?_; refine FL.nil (FW.ret ?_); cases hp; exact ⟨nofun, rfl, ⟨.inr rfl, res1 rfl rfl ⟨rfl, S68.back⟩⟩⟩
  ·
   refine FW.condF rfl c74 ?_; refine FW.skip (FW.region ?_); refine FL.v (E.add k54 rfl) ?_; refine FL.mv (v := vI (wr (((i22 : Nat) : Int) + 1))) rfl ?_; refine FL.nil ?_; cases hp; exact ⟨rfl, ⟨_, S68, i51, (nat_succ rfl (lt_of_get hx22) (p0.mono i51).le), k55, k56, k57⟩⟩
 ·
  clear hp hq; rintro s22 f85 w84 ⟨H81, S82, i83, k86, k87, k88, k89⟩; refine FW.sr ?_; refine FL.v (E.lss k86 k89) ?_; refine FL.nil (FW.seq ?_); refine FW.condF rfl dlt_len ?_; refine FW.exit ?_; exact ⟨nofun, rfl, ⟨_, S82, i83⟩⟩
 ·
  clear hq; intro e f80 w79 hD; rcases q22 with s22 | x22
  ·
   obtain ⟨rfl, hD⟩ := hD; obtain ⟨H76, S77, i78⟩ := hD; replace hp := el_go hp; refine FW.sr ?_; refine FL.as (v := vI (-1)) rfl ?_; refine FL.nil (FW.ret ?_); cases hp; exact ⟨.inr rfl, res1 rfl rfl ⟨rfl, S77.back⟩⟩
  ·
   obtain ⟨he, hL⟩ := hD; replace hp := el_rt hp; cases hp; subst he; exact hL

theorem w_slices_ContainsFunc_int_int {Ha : GH} {wa : World} (hs : Sl Ha wa) (v0 : Value) (a0 : List Int) (p0 : RSl Ha eI 1 v0 a0) (v1 : Value) (a1 : Int → Option Bool) (p1 : Fn_I_to_B prog Ha v1 a1) {r : Bool} (hp : (PF.slices_ContainsFunc_int_int a0 a1) = some r) :
  Calls prog 197 #[v0, v1] wa (Sc Ha wa (vB r)) := by
 unfold PF.slices_ContainsFunc_int_int at hp; have S0 := St.init hs; refine calls_go (N := 9) (args := [v0, v1]) func197 rfl rfl rfl ?_; refine FW.sr ?_; refine FL.as (v := vB false) rfl ?_; refine FL.nil (FW.sr ?_); refine FL.mv (v := v0) rfl ?_; refine FL.mv (v := v1) rfl ?_; obtain ⟨r21, hr22, hp⟩ := bnd hp; refine FL.c (E.call call193 (A2 rfl rfl)) (w_slices_IndexFunc_int_int S0.sl v0 a0 p0 v1 a1 p1 hr22) ?_; rintro e w23 ⟨rfl, r24⟩; refine ⟨_, rfl, ?_⟩; have S25 := S0.call r24; refine FL.v (E.geq rfl rfl) ?_; refine FL.as (v := vB (decide (0 ≤ r21))) rfl ?_; refine FL.nil (FW.ret ?_); cases hp; exact ⟨.inr rfl, res1 rfl rfl ⟨rfl, S25.back⟩⟩

theorem w_slices_Index_int_int {Ha : GH} {wa : World} (hs : Sl Ha wa) (v0 : Value) (a0 : List Int) (p0 : RSl Ha eI 1 v0 a0) (a1 : Int) {r : Int} (hp : (PF.slices_Index_int_int a0 a1) = some r) :
  Calls prog 194 #[v0, vI a1] wa (Sc Ha wa (vI r)) := by
 unfold PF.slices_Index_int_int at hp; have S0 := St.init hs; refine calls_go (N := 19) (args := [v0, vI a1]) func194 rfl rfl rfl ?_; refine FW.sr ?_; refine FL.as (v := vI 0) rfl ?_; refine FL.nil (FW.seq (FW.sr ?_)); refine FL.mv (v := v0) rfl ?_; refine FL.v (E.lenP te73 rfl p0) ?_; refine FL.mv (v := vI 0) rfl ?_; refine FL.nil ?_; obtain ⟨q22, hq, hp⟩ := bndR hp; refine FW.block ?_; refine FW.mono (FW.forL (S := Unit) (X := Int) (fun (i22 : Nat) (s22 : Unit) f w => ∃ H : GH, St Ha wa H w [] ∧ Inc Ha H ∧ f 8 = vI ((i22 : Nat) : Int) ∧ f 0 = v0 ∧ f 1 = vI a1 ∧ f 7 = vI (len a0)) (fun q e f w => match q with | .go s22 => e = Exit.exit 0 ∧ (∃ H : GH, St Ha wa H w [] ∧ Inc Ha H) | .rt x => ((e = Exit.ret) ∧ (fun e f w => (e = Exit.normal ∨ e = Exit.ret) ∧ ∀ a, Fr (δ := []) 19 a f → ∃ v, (results Tryz.f194 a.tmps).run prog w = .ok v w ∧ (Sc Ha wa (vI x)) (.returned v) w) e f w)) hq ⟨_, S0, I0, rfl, rfl, rfl, rfl⟩ ?_ ?_) ?_
 ·
  clear hp hq; rintro i22 y21 s22 f43 w42 ⟨H39, S40, i41, k44, k45, k46, k47⟩ hx22 o55 hp; refine FW.sr ?_; refine FL.v (E.lssT k44 k47 (lss_len hx22)) ?_; refine FL.nil (FW.seq ?_); refine FW.condT rfl rfl ?_; refine FW.skip (FW.seq (FW.block (FW.sr ?_))); refine FL.mv k44 ?_; refine FL.as (v := vI ((i22 : Nat) : Int)) rfl ?_; refine FL.nil (FW.sr ?_); refine FL.mv k46 ?_; refine FL.mv k45 ?_; refine FL.mv (v := vI ((i22 : Nat) : Int)) rfl ?_; obtain ⟨p48, cs49, pt50, l51, at52, rel53⟩ := p0.at (ix_nat hx22); obtain rfl := eI_open rel53; refine FL.v (E.indexAddr te73 rfl rfl pt50) ?_; refine FL.v (E.load rfl (run_load0 isAgg3 ((at52.mono i41).now S40.sl) rfl)) ?_; refine FL.v (E.eql rfl rfl) ?_; refine FL.nil ?_; rcases ifB hp with ⟨c54, hp⟩ | ⟨c54, hp⟩
  ·
   refine FW.condT rfl c54 ?_; refine FW.sr ?_; refine FL.mv (v := vI ((i22 : Nat) : Int)) rfl ?_; refine FL.as (v := vI ((i22 : Nat) : Int)) rfl ?_; refine FL.nil (FW.ret ?_); cases hp; exact ⟨nofun, rfl, ⟨.inr rfl, res1 rfl rfl ⟨rfl, S40.back⟩⟩⟩
  ·
   refine FW.condF rfl c54 ?_; refine FW.skip (FW.region ?_); refine FL.v (E.add k44 rfl) ?_; refine FL.mv (v := vI (wr (((i22 : Nat) : Int) + 1))) rfl ?_; refine FL.nil ?_; cases hp; exact ⟨rfl, ⟨_, S40, i41, (nat_succ rfl (lt_of_get hx22) (p0.mono i41).le), k45, k46, k47⟩⟩
 ·
  clear hp hq; rintro s22 f65 w64 ⟨H61, S62, i63, k66, k67, k68, k69⟩; refine FW.sr ?_; refine FL.v (E.lss k66 k69) ?_; refine FL.nil (FW.seq ?_); refine FW.condF rfl dlt_len ?_; refine FW.exit ?_; exact ⟨nofun, rfl, ⟨_, S62, i63⟩⟩
 ·
  clear hq; intro e f60 w59 hD; rcases q22 with s22 | x22
  ·
   obtain ⟨rfl, hD⟩ := hD; obtain ⟨H56, S57, i58⟩ := hD; replace hp := el_go hp; refine FW.sr ?_; refine FL.as (v := vI (-1)) rfl ?_; refine FL.nil (FW.ret ?_); cases hp; exact ⟨.inr rfl, res1 rfl rfl ⟨rfl, S57.back⟩⟩
  ·
   obtain ⟨he, hL⟩ := hD; replace hp := el_rt hp; cases hp; subst he; exact hL

theorem w_slices_Contains_int_int {Ha : GH} {wa : World} (hs : Sl Ha wa) (v0 : Value) (a0 : List Int) (p0 : RSl Ha eI 1 v0 a0) (a1 : Int) {r : Bool} (hp : (PF.slices_Contains_int_int a0 a1) = some r) :
  Calls prog 146 #[v0, vI a1] wa (Sc Ha wa (vB r)) := by
 unfold PF.slices_Contains_int_int at hp; have S0 := St.init hs; refine calls_go (N := 9) (args := [v0, vI a1]) func146 rfl rfl rfl ?_; refine FW.sr ?_; refine FL.as (v := vB false) rfl ?_; refine FL.nil (FW.sr ?_); refine FL.mv (v := v0) rfl ?_; refine FL.mv (v := vI a1) rfl ?_; obtain ⟨r21, hr22, hp⟩ := bnd hp; refine FL.c (E.call call194 (A2 rfl rfl)) (w_slices_Index_int_int S0.sl v0 a0 p0 a1 hr22) ?_; rintro e w23 ⟨rfl, r24⟩; refine ⟨_, rfl, ?_⟩; have S25 := S0.call r24; refine FL.v (E.geq rfl rfl) ?_; refine FL.as (v := vB (decide (0 ≤ r21))) rfl ?_; refine FL.nil (FW.ret ?_); cases hp; exact ⟨.inr rfl, res1 rfl rfl ⟨rfl, S25.back⟩⟩

theorem w_impl_part_1 {Ha : GH} {wa : World} (hs : Sl Ha wa) (a0 : Int) (q0 : Addr) (b0 : List Int) (u0_0 : Value) (g0_0 : RSl Ha eI 1 u0_0 b0) (c0 : CAt Ha q0 [u0_0]) {r : Bool} (hp : (PF.impl_part_1 a0 b0) = some r) :
  Calls prog 256 #[vI a0, vP (q0)] wa (Sc Ha wa (vB r)) := by
 unfold PF.impl_part_1 at hp; have S0 := St.init hs; refine calls_go (N := 8) (args := [vI a0, vP (q0)]) func256 rfl rfl rfl ?_; refine FW.sr ?_; refine FL.as (v := vB false) rfl ?_; refine FL.nil (FW.sr ?_); refine FL.v (E.load rfl (run_load0 isAgg73 (c0.now S0.sl) rfl)) ?_; refine FL.mv (v := vI a0) rfl ?_; obtain ⟨r21, hr22, hp⟩ := bnd hp; refine FL.c (E.call call146 (A2 rfl rfl)) (w_slices_Contains_int_int S0.sl u0_0 b0 g0_0 a0 hr22) ?_; rintro e w23 ⟨rfl, r24⟩; refine ⟨_, rfl, ?_⟩; have S25 := S0.call r24; refine FL.v (E.not rfl) ?_; refine FL.as (v := vB (!r21)) rfl ?_; refine FL.nil (FW.ret ?_); cases hp; exact ⟨.inr rfl, res1 rfl rfl ⟨rfl, S25.back⟩⟩

theorem w_impl_part {Ha : GH} {wa : World} (hs : Sl Ha wa) (v0 : Value) (a0 : List Int) (p0 : RSl Ha eI 1 v0 a0) (v1 : Value) (a1 : List Int) (p1 : RSl Ha eI 1 v1 a1) {r : Bool} (hp : (PF.impl_part a0 a1) = some r) :
  Calls prog 232 #[v0, v1] wa (Sc Ha wa (vB r)) := by
 unfold PF.impl_part at hp; have S0 := St.init hs; refine calls_go (N := 9) (args := [v0, v1]) func232 rfl rfl rfl ?_; refine FW.sr ?_; obtain ⟨b21, w22, run23, S24⟩ := S0.box (P := prog) 73 [v1] (v := v1) p1.cells (oC p1.one ones_nil); refine FL.v (E.box rfl run23) ?_; obtain ⟨H25, S26, i27, at28⟩ := S24.sealBox (i := 0) (l' := []) rfl rfl; refine FL.as (v := vB false) rfl ?_; refine FL.nil (FW.sr ?_); refine FL.mv (v := v0) rfl ?_; refine FL.v (E.makeFunc A0 (A1 rfl)) ?_; obtain ⟨r29, hr30, hp⟩ := bnd hp; refine FL.c (E.call call197 (A2 rfl rfl)) (w_slices_ContainsFunc_int_int S26.sl v0 a0 (p0.mono i27) (Value.func (.func 256) #[] #[vP (⟨b21, 0, none⟩)]) (fun x0 => PF.impl_part_1 x0 a1) (fun H2 w2 hi2 hs2 x0 r hr => ⟨256, #[vP (⟨b21, 0, none⟩)], rfl, call256, w_impl_part_1 hs2 x0 ⟨b21, 0, none⟩ a1 v1 ((p1.mono i27).mono hi2) (at28.mono hi2) hr⟩) hr30) ?_; rintro e w31 ⟨rfl, r32⟩; refine ⟨_, rfl, ?_⟩; have S33 := S26.call r32; refine FL.v (E.not rfl) ?_; refine FL.as (v := vB (!r29)) rfl ?_; refine FL.nil (FW.ret ?_); cases hp; exact ⟨.inr rfl, res1 rfl rfl ⟨rfl, S33.back⟩⟩

theorem w_impl_isVar {Ha : GH} {wa : World} (hs : Sl Ha wa) (a0 : Int) (a1 : Int) :
  Calls prog 233 #[vI a0, vI a1] wa (Sc Ha wa (vB (PF.impl_isVar a0 a1))) := by
 obtain ⟨r, hp⟩ : ∃ r, (PF.impl_isVar a0 a1) = r := ⟨_, rfl⟩; rw [hp]; unfold PF.impl_isVar at hp; have S0 := St.init hs; refine calls_go (N := 8) (args := [vI a0, vI a1]) func233 rfl rfl rfl ?_; refine FW.sr ?_; refine FL.as (v := vB false) rfl ?_; refine FL.nil (FW.sr ?_); refine FL.mv (v := vI a1) rfl ?_; refine FL.mv (v := vI a0) rfl ?_; refine FL.c (E.call call162 (A3 rfl rfl rfl)) (w_impl_within S0.sl a1 1 a0) ?_; rintro e w21 ⟨rfl, r22⟩; refine ⟨_, rfl, ?_⟩; have S23 := S0.call r22; refine FL.as (v := vB (PF.impl_within a1 1 a0)) rfl ?_; refine FL.nil (FW.ret ?_); obtain rfl := hp; exact ⟨.inr rfl, res1 rfl rfl ⟨rfl, S23.back⟩⟩

@[reducible] def p_slices_Clone_int_int (Ha : GH) (wa : World) (r : (List Int)) : Ending → World → Prop :=
 fun e w' => ∃ H' : GH, ∃ v0 : Value, ∃ n0 : Nat, ∃ c0 : List Value, e = .returned (v0) ∧ St Ha wa H' w' [.row 3 1 v0 n0 c0] ∧ Els (up wa.heap.size H') eI 1 c0 r
theorem w_slices_Clone_int_int {Ha : GH} {wa : World} (hs : Sl Ha wa) (v0 : Value) (a0 : List Int) (p0 : RSl Ha eI 1 v0 a0) {r : (List Int)} (hp : (PF.slices_Clone_int_int a0) = some r) :
  Calls prog 108 #[v0] wa (p_slices_Clone_int_int Ha wa r) := by
 unfold PF.slices_Clone_int_int at hp; have S0 := St.init hs; refine calls_go (N := 8) (args := [v0]) func108 rfl rfl rfl ?_; refine FW.sr ?_; refine FL.as (v := vN) rfl ?_; refine FL.nil (FW.seq (FW.sr ?_)); refine FL.mv (v := v0) rfl ?_; obtain ⟨nb21, run22, hn23⟩ := RSl.nilTest te73 p0; refine FL.v (run22 _ _ _ _ _ _ _ _ _ _ _ _ rfl rfl) ?_; refine FL.nil ?_; rcases bcase nb21 with c24 | c24
 ·
  refine FW.condT (b := nb21) rfl c24 ?_; rw [hn23 c24, app_nil2] at hp; refine FW.sr ?_; refine FL.as (v := vN) rfl ?_; refine FL.nil (FW.ret ?_); cases hp; exact ⟨.inr rfl, res1 rfl rfl ⟨_, _, _, _, rfl, (S0.nil 3 1), Els.nil⟩⟩
 ·
  refine FW.condF (b := nb21) rfl c24 ?_; refine FW.skip (FW.sr ?_); obtain ⟨v25, w26, run27, S28⟩ := S0.buildSlice (P := prog) te73 [] (parts := #[]) (cells := []) rfl szs_nil fc_nil ones_nil (nB rfl); have els29 : Els (up wa.heap.size Ha) eI 1 [] [] := Els.nil; refine FL.v (E.buildSlice (B0) run27) ?_; refine FL.mv (v := v0) rfl ?_; obtain ⟨xs30, hz31, hp⟩ := bnd hp; obtain ⟨v32, w35, n33, cs34, run36, S37, els38⟩ := S28.appendP (P := prog) I0 te73 (i := 0) rfl (els29.mono upI) p0 hz31; have S37 : St Ha wa Ha w35 [.row 3 1 v32 n33 cs34] := S37; have els38 : Els (up wa.heap.size Ha) eI 1 cs34 xs30 := els38.any (fun _ _ _ _ h => h); refine FL.v (E.append rfl rfl run36) ?_; refine FL.as (v := v32) rfl ?_; refine FL.nil (FW.ret ?_); cases hp; exact ⟨.inr rfl, res1 rfl rfl ⟨_, _, _, _, rfl, S37, els38⟩⟩

@[reducible] def p_slices_DeleteFunc_int_int (H0 : GH) (w0 : World) (Ha : GH) (L : List MO) (r : (List Int)) : Ending → World → Prop :=
  fun e w' => ∃ H' : GH, ∃ v0r : Value, ∃ n0r : Nat, ∃ c0r : List Value, e = .returned (v0r) ∧ (St H0 w0 H' w' (.row 3 1 v0r n0r c0r :: L) ∧ Inc Ha H') ∧ Els (up w0.heap.size H') eI 1 c0r r
theorem w_slices_DeleteFunc_int_int {H0 Ha : GH} {w0 wa : World} {L : List MO} {v0 : Value} {n0 : Nat} {k0 : List Value} (S0 : St H0 w0 Ha wa (.row 3 1 v0 n0 k0 :: L)) (a0 : List Int) (p0 : Els (up w0.heap.size Ha) eI 1 k0 a0) (v1 : Value) (a1 : Int → Option Bool) (p1 : Fn_I_to_B prog Ha v1 a1) {r : (List Int)} (hp : (PF.slices_DeleteFunc_int_int a0 a1) = some r) :
    Calls prog 144 #[v0, v1] wa (p_slices_DeleteFunc_int_int H0 w0 Ha L r) := by
  unfold PF.slices_DeleteFunc_int_int at hp
  refine calls_go (N := 42) (args := [v0, v1]) Tryz.func144 rfl rfl rfl ?_
  refine FW.seq (FW.region ?_)
  refine FL.v (E.assign (v := vN) rfl) ?_
  refine FL.nil (FW.seq (FW.region ?_))
  refine FL.v (E.move (v := v0) rfl) ?_
  refine FL.v (E.move (v := v1) rfl) ?_
  obtain ⟨H21, S22, i23, h24, nv25⟩ := S0.sealRowU (i := 0) (l' := L) rfl p0 (by decide) rfl
  obtain ⟨r26, hr27, hp⟩ := bnd hp
  refine FL.call rfl rfl rfl (E.call Tryz.call193 (A2 rfl rfl)) (w_slices_IndexFunc_int_int S22.sl v0 a0 (h24.mono upI) v1 a1 (p1.mono i23) hr27) ?_
  rintro e w28 ⟨rfl, r29⟩
  refine ⟨_, rfl, ?_⟩
  have r29 := Run.lend i23 S0.sl r29
  have S30 := S0.call r29
  refine FL.v (E.assign (v := vI r26) rfl) ?_
  refine FL.nil (FW.seq (FW.seq (FW.region ?_)))
  refine FL.v (E.move (v := vI r26) rfl) ?_
  refine FL.v (E.eql rfl rfl) ?_
  refine FL.nil ?_
  rcases ifB hp with ⟨c31, hp⟩ | ⟨c31, hp⟩
  ·
    refine FW.condT rfl c31 ?_
    refine FW.seq (FW.region ?_)
    refine FL.v (E.move (v := v0) rfl) ?_
    refine FL.v (E.assign (v := v0) rfl) ?_
    refine FL.nil ?_
    refine FW.ret ?_
    obtain rfl := Option.some.inj hp
    exact ⟨.inr rfl, res1 rfl rfl ⟨_, _, _, _, rfl, ⟨S30, (Inc.rfl _)⟩, p0⟩⟩
  ·
    refine FW.condF rfl c31 ?_
    refine FW.skip (FW.seq (FW.seq (FW.region ?_)))
    refine FL.v (E.move (v := vI r26) rfl) ?_
    refine FL.v (E.add rfl rfl) ?_
    refine FL.v (E.assign (v := vI (wr (r26 + 1))) rfl) ?_
    refine FL.nil ?_
    obtain ⟨q32, hq, hp⟩ := bndR hp
    refine FW.block ?_
    refine FW.mono (FW.iter (S := ((List Int) × Int × Int)) (X := Empty) (fun (s32 : ((List Int) × Int × Int)) f w => ∃ H : GH, ∃ cs78 : List Value, St H0 w0 H w (.row 3 1 v0 n0 cs78 :: L) ∧ Inc Ha H ∧ Els (up w0.heap.size H) eI 1 cs78 s32.1 ∧ f 0 = v0 ∧ f 1 = v1 ∧ f 5 = vI s32.2.1 ∧ f 6 = vI s32.2.2) (fun (q : Rs ((List Int) × Int × Int) Empty) e f w => match q with | .go s32 => e = Exit.exit 0 ∧ (∃ H : GH, ∃ cs78 : List Value, St H0 w0 H w (.row 3 1 v0 n0 cs78 :: L) ∧ Inc Ha H ∧ Els (up w0.heap.size H) eI 1 cs78 s32.1 ∧ f 0 = v0 ∧ f 5 = vI s32.2.1) | .rt x => x.elim) hq ⟨_, _, S30, (Inc.rfl _), p0, rfl, rfl, rfl, rfl⟩ ?_) ?_
    ·
      clear hp hq
      rintro s32 f129 w128 ⟨H125, cs78, S126, i127, els79, k130, k131, k132, k133⟩ o170 hp
      refine FW.seq (FW.seq (FW.region ?_))
      refine FL.v (E.move k133) ?_
      refine FL.v (E.move k130) ?_
      refine FL.v (E.lenO te73 rfl S126 (i := 0) rfl els79 (by decide)) ?_
      refine FL.v (E.lss rfl rfl) ?_
      refine FL.nil ?_
      rcases ifB hp with ⟨c134, hp⟩ | ⟨c134, hp⟩
      ·
        refine FW.condT rfl c134 ?_
        refine FW.skip (FW.seq (FW.block (FW.seq (FW.region ?_))))
        refine FL.v (E.move k130) ?_
        refine FL.v (E.move k133) ?_
        obtain ⟨x141, hx142, hp⟩ := bnd hp
        obtain ⟨p135, cs136, pt137, l138, at139, rel140⟩ := S126.row_at (i := 0) rfl els79 (by decide) hx142
        obtain rfl := eI_open rel140
        refine FL.v (E.indexAddr te73 rfl rfl pt137) ?_
        refine FL.v (E.load rfl (run_load0 Tryz.isAgg3 at139 rfl)) ?_
        refine FL.v (E.assign (v := vI x141) rfl) ?_
        refine FL.nil (FW.seq (FW.region ?_))
        refine FL.v (E.move k131) ?_
        refine FL.v (E.move (v := vI x141) rfl) ?_
        obtain ⟨r143, hr144, hp⟩ := bnd hp
        obtain ⟨fi148, cs149, hv150, he151, hc152⟩ := (p1.mono i127) H125 w128 (Inc.rfl _) S126.sl x141 r143 hr144
        refine FL.call rfl rfl rfl (E.callV he151 (Eq.trans rfl hv150) (appA (A1 rfl) cs149)) hc152 ?_
        rintro e w145 ⟨rfl, r146⟩
        refine ⟨_, rfl, ?_⟩
        have S147 := S126.call r146
        refine FL.v (E.not rfl) ?_
        refine FL.nil ?_
        rcases ifB hp with ⟨c153, hp⟩ | ⟨c153, hp⟩
        ·
          refine FW.condT rfl c153 ?_
          refine FW.seq (FW.region ?_)
          refine FL.v (E.move k130) ?_
          refine FL.v (E.move k132) ?_
          refine FL.v (E.move (v := vI x141) rfl) ?_
          obtain ⟨x160, hx161, hp⟩ := bnd hp
          obtain ⟨p154, cs155, pt156, l157, at158, rel159⟩ := S147.row_at (i := 0) rfl els79 (by decide) hx161
          obtain rfl := eI_open rel159
          refine FL.v (E.indexAddr te73 rfl rfl pt156) ?_
          obtain ⟨xs165, hput166, hp⟩ := bnd hp
          obtain ⟨w162, cs168, run163, S164, els167, ce169⟩ := S147.putEls (P := prog) (t := 3) (i := 0) rfl els79 hput166 pt156 Tryz.sizeOf3 (u := vI x141) (c := [vI x141]) rfl rfl (ones_cons rfl ones_nil) rfl
          have S164 : St H0 w0 H125 w162 (.row 3 1 v0 n0 cs168 :: L) := S164
          refine FL.act rfl rfl (E.store rfl rfl run163) ?_
          refine FL.nil (FW.region ?_)
          refine FL.v (E.move k132) ?_
          refine FL.v (E.add rfl rfl) ?_
          refine FL.v (E.assign (v := vI (wr (s32.2.1 + 1))) rfl) ?_
          refine FL.nil (FW.region ?_)
          refine FL.v (E.move k133) ?_
          refine FL.v (E.add rfl rfl) ?_
          refine FL.v (E.assign (v := vI (wr (s32.2.2 + 1))) rfl) ?_
          refine FL.nil ?_
          obtain rfl := Option.some.inj hp
          exact ⟨rfl, ⟨_, _, S164, i127, els167, k130, k131, rfl, rfl⟩⟩
        ·
          refine FW.condF rfl c153 ?_
          refine FW.skip (FW.region ?_)
          refine FL.v (E.move k133) ?_
          refine FL.v (E.add rfl rfl) ?_
          refine FL.v (E.assign (v := vI (wr (s32.2.2 + 1))) rfl) ?_
          refine FL.nil ?_
          obtain rfl := Option.some.inj hp
          exact ⟨rfl, ⟨_, _, S147, i127, els79, k130, k131, k132, rfl⟩⟩
      ·
        refine FW.condF rfl c134 ?_
        refine FW.exit ?_
        obtain rfl := Option.some.inj hp
        exact ⟨nofun, rfl, ⟨_, _, S126, i127, els79, k130, k132⟩⟩
    ·
      clear hq
      intro e f175 w174 hD
      rcases q32 with s32 | x32
      ·
        obtain ⟨rfl, hD⟩ := hD
        obtain ⟨H171, cs78, S172, i173, els79, k176, k177⟩ := hD
        replace hp := el_go hp
        refine FW.seq (FW.region ?_)
        refine FL.v (E.move k176) ?_
        refine FL.v (E.move k177) ?_
        obtain ⟨xs178, hc179, hp⟩ := bnd hp
        obtain ⟨v180, run181, h182⟩ := S172.tail te73 (kk := .i64) (i := 0) rfl els79 hc179
        refine FL.v (E.slice te73 rfl (congrArg some rfl) rfl rfl (run181 _)) ?_
        obtain ⟨w183, cs184, run185, S186, els187⟩ := S172.clearTail (P := prog) te73 (i := 0) rfl els79 h182 rfl (ones_cons rfl ones_nil)
        have S186 : St H0 w0 H171 w183 (.row 3 1 v0 n0 cs184 :: L) := S186
        refine FL.val0 rfl rfl (E.clear rfl run185) ?_
        refine FL.nil (FW.seq (FW.region ?_))
        refine FL.v (E.move k176) ?_
        refine FL.v (E.move k177) ?_
        obtain ⟨xs188, hc189, hp⟩ := bnd hp
        obtain ⟨v190, n191, cs192, run193, S194, els195, nd196⟩ := S186.cutRow te73 (kk := .i64) (i := 0) rfl els187 hc189
        have S194 : St H0 w0 H171 w183 (.row 3 1 v190 n191 cs192 :: L) := S194
        refine FL.v (E.slice te73 rfl rfl (congrArg some rfl) rfl (run193 _)) ?_
        refine FL.v (E.assign (v := v190) rfl) ?_
        refine FL.nil ?_
        refine FW.ret ?_
        obtain rfl := Option.some.inj hp
        exact ⟨.inr rfl, res1 rfl rfl ⟨_, _, _, _, rfl, ⟨S194, i173⟩, els195⟩⟩
      · exact x32.elim

theorem w_impl_withoutVar_1 {Ha : GH} {wa : World} (hs : Sl Ha wa) (a0 : Int) (q0 : Addr) (b0 : Int) (c0 : CAt Ha q0 [vI b0]) :
  Calls prog 260 #[vI a0, vP (q0)] wa (Sc Ha wa (vB (PF.impl_withoutVar_1 a0 b0))) := by
 obtain ⟨r, hp⟩ : ∃ r, (PF.impl_withoutVar_1 a0 b0) = r := ⟨_, rfl⟩; rw [hp]; unfold PF.impl_withoutVar_1 at hp; have S0 := St.init hs; refine calls_go (N := 8) (args := [vI a0, vP (q0)]) func260 rfl rfl rfl ?_; refine FW.sr ?_; refine FL.as (v := vB false) rfl ?_; refine FL.nil (FW.seq ?_); refine FW.draw (fun w' => Run wa.heap.size Ha wa Ha w') (by kernel_rfl) (by kernel_rfl) (run_drew S0.sl) ?_; refine FD.v (fun _ z => (E.move (v := vI a0) rfl)) ?_; refine FD.call rfl rfl rfl (fun _ z => (E.call call143 (A1 rfl))) (fun _ z => Calls.cls z (w_impl_abs (S0.call z).sl a0)) ?_; refine FD.v (fun _ z => (E.load rfl (run_load0 isAgg3 (c0.now (S0.call z).sl) rfl))) ?_; refine FD.v (fun _ z => (E.eql rfl rfl)) ?_; refine FD.v (fun _ z => (E.assign (v := vB ((PF.impl_abs a0) == b0)) rfl)) ?_; refine FD.nil ?_; intro w22 r24; have S23 := S0.call r24; refine FW.ret ?_; obtain rfl := hp; exact ⟨.inr rfl, res1 rfl rfl ⟨rfl, S23.back⟩⟩

@[reducible] def p_impl_withoutVar (Ha : GH) (wa : World) (r : (List Int)) : Ending → World → Prop :=
 fun e w' => ∃ H' : GH, ∃ v0 : Value, ∃ n0 : Nat, ∃ c0 : List Value, e = .returned (v0) ∧ St Ha wa H' w' [.row 3 1 v0 n0 c0] ∧ Els (up wa.heap.size H') eI 1 c0 r
theorem w_impl_withoutVar {Ha : GH} {wa : World} (hs : Sl Ha wa) (v0 : Value) (a0 : List Int) (p0 : RSl Ha eI 1 v0 a0) (a1 : Int) {r : (List Int)} (hp : (PF.impl_withoutVar a0 a1) = some r) :
  Calls prog 240 #[v0, vI a1] wa (p_impl_withoutVar Ha wa r) := by
 unfold PF.impl_withoutVar at hp; have S0 := St.init hs; refine calls_go (N := 9) (args := [v0, vI a1]) func240 rfl rfl rfl ?_; refine FW.sr ?_; obtain ⟨b21, w22, run23, S24⟩ := S0.box (P := prog) 3 [vI a1] (v := vI a1) rfl (oC rfl ones_nil); refine FL.v (E.box rfl run23) ?_; obtain ⟨H25, S26, i27, at28⟩ := S24.sealBox (i := 0) (l' := []) rfl rfl; refine FL.as (v := vN) rfl ?_; refine FL.nil (FW.sr ?_); refine FL.mv (v := v0) rfl ?_; obtain ⟨r29, hr30, hp⟩ := bnd hp; refine FL.c (E.call call108 (A1 rfl)) (w_slices_Clone_int_int S26.sl v0 a0 (p0.mono i27) hr30) ?_; rintro e w32 ⟨H31, v35, n36, cs37, rfl, r34, els38⟩; refine ⟨_, rfl, ?_⟩; have els38 := els38.mono (up_le S26.size); have S33 := S26.join (l' := [.row 3 1 v35 n36 cs37]) r34 rfl; refine FL.v (E.makeFunc A0 (A1 rfl)) ?_; obtain ⟨r39, hr40, hp⟩ := bnd hp; refine FL.c (E.call call144 (A2 rfl rfl)) (w_slices_DeleteFunc_int_int (L := []) S33 r29 els38 (Value.func (.func 260) #[] #[vP (⟨b21, 0, none⟩)]) (fun x0 => some (PF.impl_withoutVar_1 x0 a1)) (fun H2 w2 hi2 hs2 x0 r hr => ⟨260, #[vP (⟨b21, 0, none⟩)], rfl, call260, by cases hr; exact w_impl_withoutVar_1 hs2 x0 ⟨b21, 0, none⟩ a1 ((at28.mono r34.run.inc).mono hi2)⟩) hr40) ?_; rintro e w42 ⟨H41, v45, n46, cs47, rfl, ⟨S43, i44⟩, els48⟩; refine ⟨_, rfl, ?_⟩; have S43 : St Ha wa H41 w42 [.row 3 1 v45 n46 cs47] := S43; refine FL.as (v := v45) rfl ?_; refine FL.nil (FW.ret ?_); cases hp; exact ⟨.inr rfl, res1 rfl rfl ⟨_, _, _, _, rfl, S43, els48⟩⟩

@[reducible] def p_slices_Grow_int_int (Ha : GH) (wa : World) (r : List Int) : Ending → World → Prop :=
  fun e w' => ∃ H' : GH, ∃ v0 : Value, ∃ n0 : Nat, ∃ c0 : List Value, e = .returned (v0) ∧ St Ha wa H' w' [.row 3 1 v0 n0 c0] ∧ Els (up wa.heap.size H') eI 1 c0 r
theorem w_slices_Grow_int_int {Ha : GH} {wa : World} (hs : Sl Ha wa) (a1 : Int) {r : List Int} (hp : PF.slices_Grow_int_int a1 = some r) :
    Calls prog 276 #[.slice none 0 0, .int .i64 a1] wa (p_slices_Grow_int_int Ha wa r) := by
  unfold PF.slices_Grow_int_int at hp
  split at hp
  · rename_i h
    cases hp
    refine (growNil (En := eI) te73 hs h.1 h.2 (fun w => Any8.slices_Grow_room (P := prog) Tryz.grow276 none 0 0 0 w (Nat.le_refl _) (by decide) (by decide) (by decide))
      (fun n w h0 hl => ?_)).mono ?_
    · have h := Any8.slices_Grow_grow (P := prog) Tryz.grow276 _ _ Tryz.type3 rfl (by decide) none 0 0 n [] w (Nat.le_refl _) (by omega) ?_ (by unfold lim at hl; omega) (by simp) (fun _ => rfl) (by simp)
      · refine h.mono ?_
        rintro _ _ ⟨rfl, rfl⟩
        refine ⟨by simp; rfl, ?_⟩
        simp
        rfl
      · rw [Nat.zero_add]; refine Nat.le_trans (Nat.mul_le_mul hl (show _ ≤ 4096 by decide)) (by decide)
    · rintro e w' ⟨v, n, c, rfl, h1, h2⟩
      exact ⟨_, _, _, _, rfl, h1, h2 _⟩
  · cases hp

@[reducible] def p_slices_Concat_int_int (Ha : GH) (wa : World) (r : (List Int)) : Ending → World → Prop :=
  fun e w' => ∃ H' : GH, ∃ v0 : Value, ∃ n0 : Nat, ∃ c0 : List Value, e = .returned (v0) ∧ St Ha wa H' w' [.row 3 1 v0 n0 c0] ∧ Els (up wa.heap.size H') eI 1 c0 r
theorem w_slices_Concat_int_int {Ha : GH} {wa : World} (hs : Sl Ha wa) (v0 : Value) (a0 : List (List Int)) (p0 : RSl Ha (eL eI 1) 1 v0 a0) {r : (List Int)} (hp : (PF.slices_Concat_int_int a0) = some r) :
    Calls prog 258 #[v0] wa (p_slices_Concat_int_int Ha wa r) := by
  unfold PF.slices_Concat_int_int at hp
  have S0 := St.init hs
  refine calls_go (N := 36) (args := [v0]) Tryz.func258 rfl rfl rfl ?_
  refine FW.seq (FW.region ?_)
  refine FL.v (E.assign (v := vN) rfl) ?_
  refine FL.nil (FW.seq (FW.region ?_))
  refine FL.v (E.assign (v := vI 0) rfl) ?_
  refine FL.nil (FW.seq (FW.seq (FW.region ?_)))
  refine FL.v (E.move (v := v0) rfl) ?_
  refine FL.v (E.lenP te22 rfl p0) ?_
  refine FL.v (E.move (v := vI 0) rfl) ?_
  refine FL.nil ?_
  obtain ⟨q22, hq, hp⟩ := bndR hp
  refine FW.block ?_
  refine FW.mono (FW.forL (S := Int) (X := Empty) (fun (i22 : Nat) (s22 : Int) f w => ∃ H : GH, St Ha wa H w [] ∧ Inc Ha H ∧ f 11 = vI ((i22 : Nat) : Int) ∧ f 0 = v0 ∧ f 3 = vI s22 ∧ f 9 = v0 ∧ f 10 = vI (len a0)) (fun (q : Rs Int Empty) e f w => match q with | .go s22 => e = Exit.exit 0 ∧ (∃ H : GH, St Ha wa H w [] ∧ Inc Ha H ∧ f 0 = v0 ∧ f 3 = vI s22) | .rt x => x.elim) hq ⟨_, S0, (Inc.rfl _), rfl, rfl, rfl, rfl, rfl⟩ ?_ ?_) ?_
  ·
    clear hp hq
    rintro i22 y21 s22 f46 w45 ⟨H42, S43, i44, k47, k48, k49, k50, k51⟩ hx22 o61 hp
    refine FW.seq (FW.region ?_)
    refine FL.v (E.lssT k47 k51 (lss_len hx22)) ?_
    refine FL.nil (FW.seq ?_)
    refine FW.condT rfl rfl ?_
    refine FW.skip (FW.seq (FW.block (FW.seq (FW.region ?_))))
    obtain ⟨p52, cs53, pt54, l55, at56, rel57⟩ := p0.at (ix_nat hx22)
    obtain ⟨v58, rfl, h59⟩ := eL_open rel57
    refine FL.v (E.indexAddr te22 k50 k47 pt54) ?_
    refine FL.v (E.load rfl (run_load0 Tryz.isAgg73 ((at56.mono i44).now S43.sl) rfl)) ?_
    refine FL.v (E.assign (v := v58) rfl) ?_
    refine FL.nil (FW.seq (FW.region ?_))
    refine FL.v (E.move k49) ?_
    refine FL.v (E.move (v := v58) rfl) ?_
    refine FL.v (E.lenP te73 rfl h59) ?_
    refine FL.v (E.add rfl rfl) ?_
    refine FL.v (E.assign (v := vI (wr (s22 + (len y21)))) rfl) ?_
    refine FL.nil (FW.seq (FW.region ?_))
    refine FL.v (E.move (v := vI (wr (s22 + (len y21)))) rfl) ?_
    refine FL.v (E.lss rfl rfl) ?_
    refine FL.nil ?_
    rcases ifB hp with ⟨c60, hp⟩ | ⟨c60, hp⟩
    ·
      refine FW.condT rfl c60 ?_
      cases hp
    ·
      refine FW.condF rfl c60 ?_
      refine FW.skip (FW.region ?_)
      refine FL.v (E.add k47 rfl) ?_
      refine FL.v (E.move (v := vI (wr (((i22 : Nat) : Int) + 1))) rfl) ?_
      refine FL.nil ?_
      obtain rfl := Option.some.inj hp
      exact ⟨rfl, ⟨_, S43, i44, (nat_succ rfl (lt_of_get hx22) (p0.mono i44).le), k48, rfl, k50, k51⟩⟩
  ·
    clear hp hq
    rintro s22 f159 w158 ⟨H155, S156, i157, k160, k161, k162, k163, k164⟩
    refine FW.seq (FW.region ?_)
    refine FL.v (E.lss k160 k164) ?_
    refine FL.nil (FW.seq ?_)
    refine FW.condF rfl dlt_len ?_
    refine FW.exit ?_
    exact ⟨nofun, rfl, ⟨_, S156, i157, k161, k162⟩⟩
  ·
    clear hq
    intro e f66 w65 hD
    rcases q22 with s22 | x22
    ·
      obtain ⟨rfl, hD⟩ := hD
      obtain ⟨H62, S63, i64, k67, k68⟩ := hD
      replace hp := el_go hp
      refine FW.seq (FW.region ?_)
      refine FL.v (E.move k68) ?_
      obtain ⟨r69, hr70, hp⟩ := bnd hp
      refine FL.call rfl rfl rfl (E.call Tryz.call276 (A2 rfl rfl)) (w_slices_Grow_int_int S63.sl s22 hr70) ?_
      rintro e w72 ⟨H71, v75, n76, cs77, rfl, r74, els78⟩
      refine ⟨_, rfl, ?_⟩
      have els78 := els78.mono (up_le S63.size)
      have S73 := S63.join (l' := [.row 3 1 v75 n76 cs77]) r74 rfl
      refine FL.v (E.assign (v := v75) rfl) ?_
      refine FL.nil (FW.seq (FW.seq (FW.region ?_)))
      refine FL.v (E.move k67) ?_
      refine FL.v (E.lenP te22 rfl p0) ?_
      refine FL.v (E.move (v := vI 0) rfl) ?_
      refine FL.nil ?_
      obtain ⟨q80, hq, hp⟩ := bndR hp
      refine FW.block ?_
      refine FW.mono (FW.forL (S := (List Int)) (X := Empty) (fun (i80 : Nat) (s80 : (List Int)) f w => ∃ H : GH, ∃ v81 : Value, ∃ n82 : Nat, ∃ cs83 : List Value, St Ha wa H w [.row 3 1 v81 n82 cs83] ∧ Inc H71 H ∧ Els (up wa.heap.size H) eI 1 cs83 s80 ∧ f 27 = vI ((i80 : Nat) : Int) ∧ f 6 = v81 ∧ f 25 = v0 ∧ f 26 = vI (len a0)) (fun (q : Rs (List Int) Empty) e f w => match q with | .go s80 => e = Exit.exit 2 ∧ (∃ H : GH, ∃ v81 : Value, ∃ n82 : Nat, ∃ cs83 : List Value, St Ha wa H w [.row 3 1 v81 n82 cs83] ∧ Inc H71 H ∧ Els (up wa.heap.size H) eI 1 cs83 s80 ∧ f 6 = v81) | .rt x => x.elim) hq ⟨_, _, _, _, S73, (Inc.rfl _), els78, rfl, rfl, rfl, rfl⟩ ?_ ?_) ?_
      ·
        clear hp hq
        rintro i80 y79 s80 f116 w115 ⟨H112, v81, n82, cs83, S113, i114, els84, k117, k118, k119, k120⟩ hx80 o139 hp
        refine FW.seq (FW.region ?_)
        refine FL.v (E.lssT k117 k120 (lss_len hx80)) ?_
        refine FL.nil (FW.seq ?_)
        refine FW.condT rfl rfl ?_
        refine FW.skip (FW.seq (FW.block (FW.seq (FW.region ?_))))
        obtain ⟨p121, cs122, pt123, l124, at125, rel126⟩ := p0.at (ix_nat hx80)
        obtain ⟨v127, rfl, h128⟩ := eL_open rel126
        refine FL.v (E.indexAddr te22 k119 k117 pt123) ?_
        refine FL.v (E.load rfl (run_load0 Tryz.isAgg73 ((at125.mono ((i64.tr r74.run.inc).tr i114)).now S113.sl) rfl)) ?_
        refine FL.v (E.assign (v := v127) rfl) ?_
        refine FL.nil (FW.region ?_)
        refine FL.v (E.move k118) ?_
        refine FL.v (E.move (v := v127) rfl) ?_
        obtain ⟨xs129, hz130, hp⟩ := bnd hp
        obtain ⟨v131, w134, n132, cs133, run135, S136, els137⟩ := S113.appendP (P := prog) (Inc.rfl _) te73 (i := 0) rfl (els84.mono upI) (h128.mono ((i64.tr r74.run.inc).tr i114)) hz130
        have S136 : St Ha wa H112 w134 [.row 3 1 v131 n132 cs133] := S136
        have els137 : Els (up wa.heap.size H112) eI 1 cs133 xs129 := els137.any (fun _ _ _ _ h => h)
        refine FL.v (E.append rfl rfl run135) ?_
        refine FL.v (E.assign (v := v131) rfl) ?_
        refine FL.nil (FW.region ?_)
        refine FL.v (E.add k117 rfl) ?_
        refine FL.v (E.move (v := vI (wr (((i80 : Nat) : Int) + 1))) rfl) ?_
        refine FL.nil ?_
        obtain rfl := Option.some.inj hp
        exact ⟨rfl, ⟨_, _, _, _, S136, i114, els137, (nat_succ rfl (lt_of_get hx80) (p0.mono ((i64.tr r74.run.inc).tr i114)).le), rfl, k119, k120⟩⟩
      ·
        clear hp hq
        rintro s80 f150 w149 ⟨H146, v81, n82, cs83, S147, i148, els84, k151, k152, k153, k154⟩
        refine FW.seq (FW.region ?_)
        refine FL.v (E.lss k151 k154) ?_
        refine FL.nil (FW.seq ?_)
        refine FW.condF rfl dlt_len ?_
        refine FW.exit ?_
        exact ⟨nofun, rfl, ⟨_, _, _, _, S147, i148, els84, k152⟩⟩
      ·
        clear hq
        intro e f144 w143 hD
        rcases q80 with s80 | x80
        ·
          obtain ⟨rfl, hD⟩ := hD
          obtain ⟨H140, v81, n82, cs83, S141, i142, els84, k145⟩ := hD
          replace hp := el_go hp
          refine FW.seq (FW.region ?_)
          refine FL.v (E.move k145) ?_
          refine FL.v (E.assign (v := v81) rfl) ?_
          refine FL.nil ?_
          refine FW.ret ?_
          obtain rfl := Option.some.inj hp
          exact ⟨.inr rfl, res1 rfl rfl ⟨_, _, _, _, rfl, S141, els84⟩⟩
        · exact x80.elim
    · exact x22.elim

@[reducible] def p_slices_SortFunc_int_int (H0 : GH) (w0 : World) (Ha : GH) (L : List MO) (v0 : Value) (n0 : Nat) (r : (List Int)) : Ending → World → Prop :=
 fun e w' => ∃ H' : GH, ∃ c0k : List Value, e = .returned (Value.tuple #[]) ∧ (St H0 w0 H' w' (.row 3 1 v0 n0 c0k :: L) ∧ Inc Ha H') ∧ Els (up w0.heap.size H') eI 1 c0k r
theorem w_slices_SortFunc_int_int {H0 Ha : GH} {w0 wa : World} {L : List MO} {v0 : Value} {n0 : Nat} {k0 : List Value} (S0 : St H0 w0 Ha wa (.row 3 1 v0 n0 k0 :: L)) (a0 : List Int) (p0 : Els (up w0.heap.size Ha) eI 1 k0 a0) (v1 : Value) (a1 : Int → Int → Option Int) (p1 : Fn_I_I_to_I prog Ha v1 a1) {r : (List Int)} (hp : (PF.slices_SortFunc_int_int a0 a1) = some r) :
  Calls prog 274 #[v0, v1] wa (p_slices_SortFunc_int_int H0 w0 Ha L v0 n0 r) := by
 refine (St.sortF (l := .row 3 1 v0 n0 k0 :: L) (i := 0) upI S0 rfl p0 (fun H2 w2 hi hs2 c x hc d y hd r hr => by cases eI_open hc; cases eI_open hd; exact p1 H2 w2 hi hs2 x y r hr) (fun p cap fv w => AnyF.slices_SortFunc_none (P := prog) (ρ := Tryz.sort274_ren) { Tryz.sort274 with } p cap fv w) (fun α _ enc h1 cf hO g cb blk off cap d w eg hc hH hb hs => Any.slices_SortFunc Tryz.sort274 enc h1 cf hO g cb blk off cap d w eg hc hH hb hs) hp).mono ?_; rintro e w' ⟨rfl, c', h1, h2⟩; exact ⟨_, _, rfl, ⟨h1, Inc.rfl _⟩, h2⟩

theorem w_cmp_isNaN_int {Ha : GH} {wa : World} (hs : Sl Ha wa) (a0 : Int) :
  Calls prog 225 #[vI a0] wa (Sc Ha wa (vB (PF.cmp_isNaN_int a0))) := by
 obtain ⟨r, hp⟩ : ∃ r, (PF.cmp_isNaN_int a0) = r := ⟨_, rfl⟩; rw [hp]; unfold PF.cmp_isNaN_int at hp; have S0 := St.init hs; refine calls_go (N := 6) (args := [vI a0]) func225 rfl rfl rfl ?_; refine FW.sr ?_; refine FL.as (v := vB false) rfl ?_; refine FL.nil (FW.sr ?_); refine FL.mv (v := vI a0) rfl ?_; refine FL.mv (v := vI a0) rfl ?_; refine FL.v (E.neq rfl rfl) ?_; refine FL.as (v := vB (!(a0 == a0))) rfl ?_; refine FL.nil (FW.ret ?_); obtain rfl := hp; exact ⟨.inr rfl, res1 rfl rfl ⟨rfl, S0.back⟩⟩

theorem w_cmp_Compare_int {Ha : GH} {wa : World} (hs : Sl Ha wa) (a0 : Int) (a1 : Int) :
  Calls prog 171 #[vI a0, vI a1] wa (Sc Ha wa (vI (PF.cmp_Compare_int a0 a1))) := by
 obtain ⟨r, hp⟩ : ∃ r, (PF.cmp_Compare_int a0 a1) = r := ⟨_, rfl⟩; rw [hp]; unfold PF.cmp_Compare_int at hp; have S0 := St.init hs; refine calls_go (N := 20) (args := [vI a0, vI a1]) func171 rfl rfl rfl ?_; refine FW.sr ?_; refine FL.as (v := vI 0) rfl ?_; refine FL.nil (FW.sr ?_); refine FL.mv (v := vI a0) rfl ?_; refine FL.c (E.call call225 (A1 rfl)) (w_cmp_isNaN_int S0.sl a0) ?_; rintro e w21 ⟨rfl, r22⟩; refine ⟨_, rfl, ?_⟩; have S23 := S0.call r22; refine FL.as (v := vB (PF.cmp_isNaN_int a0)) rfl ?_; refine FL.nil (FW.sr ?_); refine FL.mv (v := vI a1) rfl ?_; refine FL.c (E.call call225 (A1 rfl)) (w_cmp_isNaN_int S23.sl a1) ?_; rintro e w24 ⟨rfl, r25⟩; refine ⟨_, rfl, ?_⟩; have S26 := S23.call r25; refine FL.as (v := vB (PF.cmp_isNaN_int a1)) rfl ?_; refine FL.nil (FW.seq (FW.sr ?_)); refine FL.mv (v := vB (PF.cmp_isNaN_int a0)) rfl ?_; refine FL.nil ?_; rcases ifT hp with ⟨c27, hp⟩ | ⟨c27, hp⟩
 ·
  refine FW.condT rfl c27 ?_; refine FW.seq (FW.sr ?_); refine FL.mv (v := vB (PF.cmp_isNaN_int a1)) rfl ?_; refine FL.nil ?_; rcases ifT hp with ⟨c28, hp⟩ | ⟨c28, hp⟩
  ·
   refine FW.condT rfl c28 ?_; refine FW.sr ?_; refine FL.as (v := vI 0) rfl ?_; refine FL.nil (FW.ret ?_); obtain rfl := hp; exact ⟨.inr rfl, res1 rfl rfl ⟨rfl, S26.back⟩⟩
  ·
   refine FW.condF rfl c28 ?_; refine FW.skip (FW.sr ?_); refine FL.as (v := vI (-1)) rfl ?_; refine FL.nil (FW.ret ?_); obtain rfl := hp; exact ⟨.inr rfl, res1 rfl rfl ⟨rfl, S26.back⟩⟩
 ·
  refine FW.condF rfl c27 ?_; refine FW.skip (FW.seq (FW.sr ?_)); refine FL.mv (v := vB (PF.cmp_isNaN_int a1)) rfl ?_; refine FL.nil ?_; rcases ifT hp with ⟨c29, hp⟩ | ⟨c29, hp⟩
  ·
   refine FW.condT rfl c29 ?_; refine FW.sr ?_; refine FL.as (v := vI 1) rfl ?_; refine FL.nil (FW.ret ?_); obtain rfl := hp; exact ⟨.inr rfl, res1 rfl rfl ⟨rfl, S26.back⟩⟩
  ·
   refine FW.condF rfl c29 ?_; refine FW.skip (FW.seq (FW.sr ?_)); refine FL.mv (v := vI a0) rfl ?_; refine FL.mv (v := vI a1) rfl ?_; refine FL.v (E.lss rfl rfl) ?_; refine FL.nil ?_; rcases ifT hp with ⟨c30, hp⟩ | ⟨c30, hp⟩
   ·
    refine FW.condT rfl c30 ?_; refine FW.sr ?_; refine FL.as (v := vI (-1)) rfl ?_; refine FL.nil (FW.ret ?_); obtain rfl := hp; exact ⟨.inr rfl, res1 rfl rfl ⟨rfl, S26.back⟩⟩
   ·
    refine FW.condF rfl c30 ?_; refine FW.skip (FW.seq (FW.sr ?_)); refine FL.mv (v := vI a0) rfl ?_; refine FL.mv (v := vI a1) rfl ?_; refine FL.v (E.gtr rfl rfl) ?_; refine FL.nil ?_; rcases ifT hp with ⟨c31, hp⟩ | ⟨c31, hp⟩
    ·
     refine FW.condT rfl c31 ?_; refine FW.sr ?_; refine FL.as (v := vI 1) rfl ?_; refine FL.nil (FW.ret ?_); obtain rfl := hp; exact ⟨.inr rfl, res1 rfl rfl ⟨rfl, S26.back⟩⟩
    ·
     refine FW.condF rfl c31 ?_; refine FW.skip (FW.sr ?_); refine FL.as (v := vI 0) rfl ?_; refine FL.nil (FW.ret ?_); obtain rfl := hp; exact ⟨.inr rfl, res1 rfl rfl ⟨rfl, S26.back⟩⟩

theorem w_cmp_Or_int {Ha : GH} {wa : World} (hs : Sl Ha wa) (v0 : Value) (a0 : List Int) (p0 : RSl Ha eI 1 v0 a0) {r : Int} (hp : (PF.cmp_Or_int a0) = some r) :
  Calls prog 170 #[v0] wa (Sc Ha wa (vI r)) := by
 unfold PF.cmp_Or_int at hp; have S0 := St.init hs; refine calls_go (N := 18) (args := [v0]) func170 rfl rfl rfl ?_; refine FW.sr ?_; refine FL.as (v := vI 0) rfl ?_; refine FL.nil (FW.sr ?_); refine FL.as (v := vI 0) rfl ?_; refine FL.nil (FW.seq (FW.sr ?_)); refine FL.mv (v := v0) rfl ?_; refine FL.v (E.lenP te73 rfl p0) ?_; refine FL.mv (v := vI 0) rfl ?_; refine FL.nil ?_; obtain ⟨q22, hq, hp⟩ := bndR hp; refine FW.block ?_; refine FW.mono (FW.forL (S := Unit) (X := Int) (fun (i22 : Nat) (s22 : Unit) f w => ∃ H : GH, St Ha wa H w [] ∧ Inc Ha H ∧ f 8 = vI ((i22 : Nat) : Int) ∧ f 3 = vI 0 ∧ f 6 = v0 ∧ f 7 = vI (len a0)) (fun q e f w => match q with | .go s22 => e = Exit.exit 0 ∧ (∃ H : GH, St Ha wa H w [] ∧ Inc Ha H ∧ f 3 = vI 0) | .rt x => ((e = Exit.ret) ∧ (fun e f w => (e = Exit.normal ∨ e = Exit.ret) ∧ ∀ a, Fr (δ := []) 18 a f → ∃ v, (results Tryz.f170 a.tmps).run prog w = .ok v w ∧ (Sc Ha wa (vI x)) (.returned v) w) e f w)) hq ⟨_, S0, I0, rfl, rfl, rfl, rfl⟩ ?_ ?_) ?_
 ·
  clear hp hq; rintro i22 y21 s22 f43 w42 ⟨H39, S40, i41, k44, k45, k46, k47⟩ hx22 o55 hp; refine FW.sr ?_; refine FL.v (E.lssT k44 k47 (lss_len hx22)) ?_; refine FL.nil (FW.seq ?_); refine FW.condT rfl rfl ?_; refine FW.skip (FW.seq (FW.block (FW.sr ?_))); obtain ⟨p48, cs49, pt50, l51, at52, rel53⟩ := p0.at (ix_nat hx22); obtain rfl := eI_open rel53; refine FL.v (E.indexAddr te73 k46 k44 pt50) ?_; refine FL.v (E.load rfl (run_load0 isAgg3 ((at52.mono i41).now S40.sl) rfl)) ?_; refine FL.as (v := vI y21) rfl ?_; refine FL.nil (FW.sr ?_); refine FL.mv (v := vI y21) rfl ?_; refine FL.mv k45 ?_; refine FL.v (E.neq rfl rfl) ?_; refine FL.nil ?_; rcases ifB hp with ⟨c54, hp⟩ | ⟨c54, hp⟩
  ·
   refine FW.condT rfl c54 ?_; refine FW.sr ?_; refine FL.mv (v := vI y21) rfl ?_; refine FL.as (v := vI y21) rfl ?_; refine FL.nil (FW.ret ?_); cases hp; exact ⟨nofun, rfl, ⟨.inr rfl, res1 rfl rfl ⟨rfl, S40.back⟩⟩⟩
  ·
   refine FW.condF rfl c54 ?_; refine FW.skip (FW.region ?_); refine FL.v (E.add k44 rfl) ?_; refine FL.mv (v := vI (wr (((i22 : Nat) : Int) + 1))) rfl ?_; refine FL.nil ?_; cases hp; exact ⟨rfl, ⟨_, S40, i41, (nat_succ rfl (lt_of_get hx22) (p0.mono i41).le), k45, k46, k47⟩⟩
 ·
  clear hp hq; rintro s22 f66 w65 ⟨H62, S63, i64, k67, k68, k69, k70⟩; refine FW.sr ?_; refine FL.v (E.lss k67 k70) ?_; refine FL.nil (FW.seq ?_); refine FW.condF rfl dlt_len ?_; refine FW.exit ?_; exact ⟨nofun, rfl, ⟨_, S63, i64, k68⟩⟩
 ·
  clear hq; intro e f60 w59 hD; rcases q22 with s22 | x22
  ·
   obtain ⟨rfl, hD⟩ := hD; obtain ⟨H56, S57, i58, k61⟩ := hD; replace hp := el_go hp; refine FW.sr ?_; refine FL.mv k61 ?_; refine FL.as (v := vI 0) rfl ?_; refine FL.nil (FW.ret ?_); cases hp; exact ⟨.inr rfl, res1 rfl rfl ⟨rfl, S57.back⟩⟩
  ·
   obtain ⟨he, hL⟩ := hD; replace hp := el_rt hp; cases hp; subst he; exact hL

theorem w_impl_compareLiterals {Ha : GH} {wa : World} (hs : Sl Ha wa) (a0 : Int) (a1 : Int) {r : Int} (hp : (PF.impl_compareLiterals a0 a1) = some r) :
  Calls prog 173 #[vI a0, vI a1] wa (Sc Ha wa (vI r)) := by
 unfold PF.impl_compareLiterals at hp; have S0 := St.init hs; refine calls_go (N := 15) (args := [vI a0, vI a1]) func173 rfl rfl rfl ?_; refine FW.sr ?_; refine FL.as (v := vI 0) rfl ?_; refine FL.nil (FW.sr ?_); refine FL.mv (v := vI a0) rfl ?_; refine FL.c (E.call call143 (A1 rfl)) (w_impl_abs S0.sl a0) ?_; rintro e w21 ⟨rfl, r22⟩; refine ⟨_, rfl, ?_⟩; have S23 := S0.call r22; refine FL.mv (v := vI a1) rfl ?_; refine FL.c (E.call call143 (A1 rfl)) (w_impl_abs S23.sl a1) ?_; rintro e w24 ⟨rfl, r25⟩; refine ⟨_, rfl, ?_⟩; have S26 := S23.call r25; refine FL.c (E.call call171 (A2 rfl rfl)) (w_cmp_Compare_int S26.sl (PF.impl_abs a0) (PF.impl_abs a1)) ?_; rintro e w27 ⟨rfl, r28⟩; refine ⟨_, rfl, ?_⟩; have S29 := S26.call r28; refine FL.mv (v := vI a1) rfl ?_; refine FL.mv (v := vI a0) rfl ?_; refine FL.c (E.call call171 (A2 rfl rfl)) (w_cmp_Compare_int S29.sl a1 a0) ?_; rintro e w30 ⟨rfl, r31⟩; refine ⟨_, rfl, ?_⟩; have S32 := S29.call r31; obtain ⟨v33, w34, run35, S36⟩ := S32.buildSlice (P := prog) te73 [vI (PF.cmp_Compare_int (PF.impl_abs a0) (PF.impl_abs a1)), vI (PF.cmp_Compare_int a1 a0)] (parts := #[(0, vI (PF.cmp_Compare_int (PF.impl_abs a0) (PF.impl_abs a1))), (1, vI (PF.cmp_Compare_int a1 a0))]) (cells := [vI (PF.cmp_Compare_int (PF.impl_abs a0) (PF.impl_abs a1)), vI (PF.cmp_Compare_int a1 a0)]) rfl (szs_cons rfl (szs_cons rfl szs_nil)) (fc_cons rfl (fc_cons rfl fc_nil)) (oC rfl (oC rfl ones_nil)) (nB rfl); have els37 : Els (up wa.heap.size Ha) eI 1 [vI (PF.cmp_Compare_int (PF.impl_abs a0) (PF.impl_abs a1)), vI (PF.cmp_Compare_int a1 a0)] [(PF.cmp_Compare_int (PF.impl_abs a0) (PF.impl_abs a1)), (PF.cmp_Compare_int a1 a0)] := (Els.snoc (H := (up wa.heap.size Ha)) (E := eI) (k := 1) (c := [vI (PF.cmp_Compare_int a1 a0)]) (x := (PF.cmp_Compare_int a1 a0)) (Els.snoc (H := (up wa.heap.size Ha)) (E := eI) (k := 1) (c := [vI (PF.cmp_Compare_int (PF.impl_abs a0) (PF.impl_abs a1))]) (x := (PF.cmp_Compare_int (PF.impl_abs a0) (PF.impl_abs a1))) Els.nil rfl rfl) rfl rfl); refine FL.v (E.buildSlice (B2 rfl rfl) run35) ?_; obtain ⟨H38, S39, i40, h41, nv42⟩ := S36.sealRowU (i := 0) (l' := []) rfl els37 (by decide) rfl; obtain ⟨r43, hr44, hp⟩ := bnd hp; refine FL.c (E.call call170 (A1 rfl)) (w_cmp_Or_int S39.sl v33 [(PF.cmp_Compare_int (PF.impl_abs a0) (PF.impl_abs a1)), (PF.cmp_Compare_int a1 a0)] (h41.mono upI) hr44) ?_; rintro e w45 ⟨rfl, r46⟩; refine ⟨_, rfl, ?_⟩; have r46 := Run.lend i40 S36.sl r46; have S47 := S36.call r46; refine FL.as (v := vI r43) rfl ?_; refine FL.nil (FW.ret ?_); cases hp; exact ⟨.inr rfl, res1 rfl rfl ⟨rfl, S47.back⟩⟩

@[reducible] def p_slices_Compact_int_int (H0 : GH) (w0 : World) (Ha : GH) (L : List MO) (r : (List Int)) : Ending → World → Prop :=
 fun e w' => ∃ H' : GH, ∃ v0r : Value, ∃ n0r : Nat, ∃ c0r : List Value, e = .returned (v0r) ∧ (St H0 w0 H' w' (.row 3 1 v0r n0r c0r :: L) ∧ Inc Ha H') ∧ Els (up w0.heap.size H') eI 1 c0r r
theorem w_slices_Compact_int_int {H0 Ha : GH} {w0 wa : World} {L : List MO} {v0 : Value} {n0 : Nat} {k0 : List Value} (S0 : St H0 w0 Ha wa (.row 3 1 v0 n0 k0 :: L)) (a0 : List Int) (p0 : Els (up w0.heap.size Ha) eI 1 k0 a0) {r : (List Int)} (hp : (PF.slices_Compact_int_int a0) = some r) :
  Calls prog 275 #[v0] wa (p_slices_Compact_int_int H0 w0 Ha L r) := by
 cases hp; refine (St.compactF (l := .row 3 1 v0 n0 k0 :: L) (i := 0) S0 rfl p0 (enc := Value.int .i64) (fun _ => rfl) (fun _ _ _ h => by cases eI_open h; rfl) (fun _ _ => rfl) 0 (fun w => compact_none Tryz.comp275 w) (fun blk off cap d w hH hs hc => AnyE.slices_Compact Tryz.comp275 (Value.int .i64) (fun _ => rfl) (EqlAt.intD _ _ _) (NeqAt.intD _ _ _) 0 (fun w => zeroValue3 w) blk off cap d w hH hs hc)).mono ?_; rintro e w' ⟨v', n', c', rfl, h1, h2⟩; exact ⟨_, _, _, _, rfl, ⟨h1, Inc.rfl _⟩, h2⟩

@[reducible] def p_impl_clause (Ha : GH) (wa : World) (r : ((List Int) × Bool)) : Ending → World → Prop :=
 fun e w' => ∃ H' : GH, ∃ v0 : Value, ∃ n0 : Nat, ∃ c0 : List Value, e = .returned (Value.tuple #[v0, vB r.2]) ∧ St Ha wa H' w' [.row 3 1 v0 n0 c0] ∧ Els (up wa.heap.size H') eI 1 c0 r.1
theorem w_impl_clause {Ha : GH} {wa : World} (hs : Sl Ha wa) (v0 : Value) (a0 : List Int) (p0 : RSl Ha eI 1 v0 a0) {r : ((List Int) × Bool)} (hp : (PF.impl_clause a0) = some r) :
  Calls prog 257 #[v0] wa (p_impl_clause Ha wa r) := by
 unfold PF.impl_clause at hp; have S0 := St.init hs; refine calls_go (N := 30) (args := [v0]) func257 rfl rfl rfl ?_; refine FW.sr ?_; refine FL.as (v := vN) rfl ?_; refine FL.as (v := vB false) rfl ?_; refine FL.nil (FW.sr ?_); refine FL.mv (v := v0) rfl ?_; obtain ⟨r21, hr22, hp⟩ := bnd hp; refine FL.c (E.call call108 (A1 rfl)) (w_slices_Clone_int_int S0.sl v0 a0 p0 hr22) ?_; rintro e w24 ⟨H23, v27, n28, cs29, rfl, r26, els30⟩; refine ⟨_, rfl, ?_⟩; have els30 := els30.mono (up_le S0.size); have S25 := S0.join (l' := [.row 3 1 v27 n28 cs29]) r26 rfl; refine FL.as (v := v27) rfl ?_; refine FL.nil (FW.sr ?_); refine FL.mv (v := v27) rfl ?_; obtain ⟨r31, hr32, hp⟩ := bnd hp; refine FL.c (E.call call274 (A2 rfl rfl)) (w_slices_SortFunc_int_int (L := []) S25 r21 els30 (Value.func (.func 173) #[] #[]) (fun x0 x1 => PF.impl_compareLiterals x0 x1) (fun H2 w2 hi2 hs2 x0 x1 r hr => ⟨173, #[], rfl, call173, w_impl_compareLiterals hs2 x0 x1  hr⟩) hr32) ?_; rintro e w34 ⟨H33, cs37, rfl, ⟨S35, i36⟩, els38⟩; refine ⟨_, rfl, ?_⟩; have S35 : St Ha wa H33 w34 [.row 3 1 v27 n28 cs37] := S35; refine FL.nil (FW.sr ?_); refine FL.mv (v := v27) rfl ?_; obtain ⟨r39, hr40, hp⟩ := bnd hp; refine FL.c (E.call call275 (A1 rfl)) (w_slices_Compact_int_int (L := []) S35 r31 els38 hr40) ?_; rintro e w42 ⟨H41, v45, n46, cs47, rfl, ⟨S43, i44⟩, els48⟩; refine ⟨_, rfl, ?_⟩; have S43 : St Ha wa H41 w42 [.row 3 1 v45 n46 cs47] := S43; refine FL.as (v := v45) rfl ?_; refine FL.nil (FW.seq (FW.sr ?_)); refine FL.as (v := vI 1) rfl ?_; refine FL.nil ?_; obtain ⟨q49, hq, hp⟩ := bndR hp; refine FW.block ?_; refine FW.mono (FW.iter (S := Int) (X := ((List Int) × Bool)) (fun (s49 : Int) f w => ∃ H : GH, St Ha wa H w [.row 3 1 v45 n46 cs47] ∧ Inc H41 H ∧ f 4 = v45 ∧ f 5 = vI s49) (fun q e f w => match q with | .go s49 => e = Exit.exit 0 ∧ (∃ H : GH, St Ha wa H w [.row 3 1 v45 n46 cs47] ∧ Inc H41 H ∧ f 4 = v45) | .rt x => ((e = Exit.ret) ∧ (fun e f w => (e = Exit.normal ∨ e = Exit.ret) ∧ ∀ a, Fr (δ := []) 30 a f → ∃ v, (results Tryz.f257 a.tmps).run prog w = .ok v w ∧ (p_impl_clause Ha wa x) (.returned v) w) e f w)) hq ⟨_, S43, I0, rfl, rfl⟩ ?_) ?_
 ·
  clear hp hq; rintro s49 f83 w82 ⟨H79, S80, i81, k84, k85⟩ o108 hp; refine FW.seq (FW.sr ?_); refine FL.mv k85 ?_; refine FL.mv k84 ?_; refine FL.v (E.lenO te73 rfl S80 (i := 0) rfl els48 (by decide)) ?_; refine FL.v (E.lss rfl rfl) ?_; refine FL.nil ?_; rcases ifB hp with ⟨c86, hp⟩ | ⟨c86, hp⟩
  ·
   refine FW.condT rfl c86 ?_; refine FW.skip (FW.seq (FW.block (FW.seq ?_))); refine FW.draw (fun w' => Run w82.heap.size H79 w82 H79 w') (by kernel_rfl) (by kernel_rfl) (run_drew S80.sl) ?_; refine FD.v (fun _ z => (E.move k84)) ?_; refine FD.v (fun _ z => (E.move k85)) ?_; obtain ⟨x94, hx95, hp⟩ := bnd hp; obtain ⟨p88, cs89, pt90, l91, at92, rel93⟩ := S80.row_at (i := 0) rfl els48 (by decide) hx95; obtain rfl := eI_open rel93; refine FD.v (fun _ z => (E.indexAddr te73 rfl rfl pt90)) ?_; refine FD.v (fun _ z => (E.load rfl (run_load0 isAgg3 (at92.cls z) rfl))) ?_; refine FD.v (fun _ z => (E.move k84)) ?_; refine FD.v (fun _ z => (E.move k85)) ?_; refine FD.v (fun _ z => (E.sub rfl rfl)) ?_; obtain ⟨x102, hx103, hp⟩ := bnd hp; obtain ⟨p96, cs97, pt98, l99, at100, rel101⟩ := S80.row_at (i := 0) rfl els48 (by decide) hx103; obtain rfl := eI_open rel101; refine FD.v (fun _ z => (E.indexAddr te73 rfl rfl pt98)) ?_; refine FD.v (fun _ z => (E.load rfl (run_load0 isAgg3 (at100.cls z) rfl))) ?_; refine FD.v (fun _ z => (E.neg rfl)) ?_; refine FD.v (fun _ z => (E.eql rfl rfl)) ?_; refine FD.nil ?_; intro w104 r106; have S105 := S80.call r106; rcases ifB hp with ⟨c107, hp⟩ | ⟨c107, hp⟩
   ·
    refine FW.condT rfl c107 ?_; refine FW.sr ?_; refine FL.as (v := vN) rfl ?_; refine FL.as (v := vB false) rfl ?_; refine FL.nil (FW.ret ?_); cases hp; exact ⟨nofun, rfl, ⟨.inr rfl, res2 rfl rfl rfl ⟨_, _, _, _, rfl, ((S105.nil 3 1).sel [0] (by decide) rfl), Els.nil⟩⟩⟩
   ·
    refine FW.condF rfl c107 ?_; refine FW.skip (FW.region ?_); refine FL.mv k85 ?_; refine FL.v (E.add rfl rfl) ?_; refine FL.as (v := vI (wr (s49 + 1))) rfl ?_; refine FL.nil ?_; cases hp; exact ⟨rfl, ⟨_, S105, i81, k84, rfl⟩⟩
  ·
   refine FW.condF rfl c86 ?_; refine FW.exit ?_; cases hp; exact ⟨nofun, rfl, ⟨_, S80, i81, k84⟩⟩
 ·
  clear hq; intro e f113 w112 hD; rcases q49 with s49 | x49
  ·
   obtain ⟨rfl, hD⟩ := hD; obtain ⟨H109, S110, i111, k114⟩ := hD; replace hp := el_go hp; refine FW.sr ?_; refine FL.mv k114 ?_; refine FL.as (v := v45) rfl ?_; refine FL.as (v := vB true) rfl ?_; refine FL.nil (FW.ret ?_); cases hp; exact ⟨.inr rfl, res2 rfl rfl rfl ⟨_, _, _, _, rfl, S110, (els48.mono (up_mono i111))⟩⟩
  ·
   obtain ⟨he, hL⟩ := hD; replace hp := el_rt hp; cases hp; subst he; exact hL

@[reducible] def p_impl_resolve (Ha : GH) (wa : World) (r : ((List Int) × Bool)) : Ending → World → Prop :=
 fun e w' => ∃ H' : GH, ∃ v0 : Value, ∃ n0 : Nat, ∃ c0 : List Value, e = .returned (Value.tuple #[v0, vB r.2]) ∧ St Ha wa H' w' [.row 3 1 v0 n0 c0] ∧ Els (up wa.heap.size H') eI 1 c0 r.1
theorem w_impl_resolve {Ha : GH} {wa : World} (hs : Sl Ha wa) (v0 : Value) (a0 : List Int) (p0 : RSl Ha eI 1 v0 a0) (v1 : Value) (a1 : List Int) (p1 : RSl Ha eI 1 v1 a1) (a2 : Int) {r : ((List Int) × Bool)} (hp : (PF.impl_resolve a0 a1 a2) = some r) :
  Calls prog 234 #[v0, v1, vI a2] wa (p_impl_resolve Ha wa r) := by
 unfold PF.impl_resolve at hp; have S0 := St.init hs; refine calls_go (N := 30) (args := [v0, v1, vI a2]) func234 rfl rfl rfl ?_; refine FW.sr ?_; refine FL.as (v := vN) rfl ?_; refine FL.as (v := vB false) rfl ?_; refine FL.nil (FW.seq (FW.sr ?_)); refine FL.mv (v := v0) rfl ?_; refine FL.mv (v := vI a2) rfl ?_; obtain ⟨r21, hr22, hp⟩ := bnd hp; refine FL.c (E.call call146 (A2 rfl rfl)) (w_slices_Contains_int_int S0.sl v0 a0 p0 a2 hr22) ?_; rintro e w23 ⟨rfl, r24⟩; refine ⟨_, rfl, ?_⟩; have S25 := S0.call r24; refine FL.v (E.not rfl) ?_; refine FL.mv (v := vB (!r21)) rfl ?_; obtain ⟨t31, hqt31, hp⟩ := bnd hp; refine FL.cut 6 (fun f w => ∃ H : GH, St Ha wa H w [] ∧ Inc Ha H ∧ f 0 = v0 ∧ f 1 = v1 ∧ f 2 = vI a2 ∧ f 18 = vB t31) ?_ ?_
 ·
  clear hp; have hp := hqt31; clear hqt31; rcases ifB hp with ⟨c37, hp⟩ | ⟨c37, hp⟩
  ·
   refine FL.skip (wN c37) rfl ?_; refine FL.skip (wN c37) rfl ?_; refine FL.skip (wN c37) rfl ?_; refine FL.skip (wN c37) rfl ?_; refine FL.skip (wN c37) rfl ?_; cases hp; refine FL.v (E.pickT rfl c37 rfl) ?_; exact FL.nil ⟨rfl, _, S25, I0, rfl, rfl, rfl, rfl⟩
  ·
   refine FL.y (wY c37) (E.move (v := v1) rfl) ?_; refine FL.y (wY c37) (E.move (v := vI a2) rfl) ?_; refine FL.y (wY c37) (E.neg rfl) ?_; obtain ⟨r38, hr39, hp⟩ := bnd hp; refine FL.call (wY c37) rfl rfl (E.call call146 (A2 rfl rfl)) (w_slices_Contains_int_int S25.sl v1 a1 p1 (wr (-a2)) hr39) ?_; rintro e w40 ⟨rfl, r41⟩; refine ⟨_, rfl, ?_⟩; have S42 := S25.call r41; refine FL.y (wY c37) (E.not rfl) ?_; cases hp; refine FL.v (E.pickF rfl c37 rfl) ?_; exact FL.nil ⟨rfl, _, S42, I0, rfl, rfl, rfl, rfl⟩
 rintro f36 w35 ⟨H32, S33, i34, k43, k44, k45, k46⟩; refine FL.nil ?_; rcases ifB hp with ⟨c47, hp⟩ | ⟨c47, hp⟩
 ·
  refine FW.condT k46 c47 ?_; refine FW.sr ?_; refine FL.as (v := vN) rfl ?_; refine FL.as (v := vB false) rfl ?_; refine FL.nil (FW.ret ?_); cases hp; exact ⟨.inr rfl, res2 rfl rfl rfl ⟨_, _, _, _, rfl, (S33.nil 3 1), Els.nil⟩⟩
 ·
  refine FW.condF k46 c47 ?_; refine FW.skip (FW.sr ?_); refine FL.mv k43 ?_; refine FL.mv k45 ?_; obtain ⟨r48, hr49, hp⟩ := bnd hp; refine FL.c (E.call call240 (A2 rfl rfl)) (w_impl_withoutVar S33.sl v0 a0 (p0.mono i34) a2 hr49) ?_; rintro e w51 ⟨H50, v54, n55, cs56, rfl, r53, els57⟩; refine ⟨_, rfl, ?_⟩; have els57 := els57.mono (up_le S33.size); have S52 := S33.join (l' := [.row 3 1 v54 n55 cs56]) r53 rfl; refine FL.mv k44 ?_; refine FL.mv k45 ?_; obtain ⟨r58, hr59, hp⟩ := bnd hp; refine FL.c (E.call call240 (A2 rfl rfl)) (w_impl_withoutVar S52.sl v1 a1 (p1.mono (i34.tr r53.run.inc)) a2 hr59) ?_; rintro e w61 ⟨H60, v64, n65, cs66, rfl, r63, els67⟩; refine ⟨_, rfl, ?_⟩; have els67 := els67.mono (up_le S52.size); have S62 := S52.join (l' := [.row 3 1 v64 n65 cs66, .row 3 1 v54 n55 cs56]) r63 rfl; obtain ⟨H68, S69, i70, h71, nv72⟩ := S62.sealRowU (i := 1) (l' := [.row 3 1 v64 n65 cs66]) rfl (els57.mono (up_mono r63.run.inc)) (by decide) rfl; obtain ⟨H73, S74, i75, h76, nv77⟩ := S69.sealRowU (i := 0) (l' := []) rfl (els67.mono (up_mono i70)) (by decide) rfl; obtain ⟨v78, w79, run80, S81⟩ := S74.buildSlice (P := prog) te22 [v54, v64] (parts := #[(0, v54), (1, v64)]) (cells := [v54, v64]) rfl (szs_cons (cells_size h71.cells) (szs_cons (cells_size h76.cells) szs_nil)) (fc_cons h71.cells (fc_cons h76.cells fc_nil)) (oC h71.one (oC h76.one ones_nil)) (nB rfl); have els82 : Els (up wa.heap.size H73) (eL eI 1) 1 [v54, v64] [r48, r58] := (Els.snoc (H := (up wa.heap.size H73)) (E := (eL eI 1)) (k := 1) (c := [v64]) (x := r58) (Els.snoc (H := (up wa.heap.size H73)) (E := (eL eI 1)) (k := 1) (c := [v54]) (x := r48) Els.nil rfl ⟨_, rfl, (h71.mono (up_mono i75))⟩) rfl ⟨_, rfl, h76⟩); refine FL.v (E.buildSlice (B2 rfl rfl) run80) ?_; obtain ⟨H83, S84, i85, h86, nv87⟩ := S81.sealRowU (i := 0) (l' := []) rfl els82 (by decide) rfl; obtain ⟨r88, hr89, hp⟩ := bnd hp; refine FL.c (E.call call258 (A1 rfl)) (w_slices_Concat_int_int S84.sl v78 [r48, r58] (h86.mono upI) hr89) ?_; rintro e w91 ⟨H90, v96, n97, cs98, rfl, r93, els99⟩; refine ⟨_, rfl, ?_⟩; obtain ⟨H94, r93, hU95⟩ := St.lendX i85 S81.sl r93; have els99 := els99.mono (hU95.tr (up_le S81.size)); have S92 := S81.join (l' := [.row 3 1 v96 n97 cs98, .row 73 1 v78 2 [v54, v64]]) r93 rfl; obtain ⟨H100, S101, i102, h103, nv104⟩ := S92.sealRowU (i := 0) (l' := [.row 73 1 v78 2 [v54, v64]]) rfl els99 (by decide) rfl; obtain ⟨r105, hr106, hp⟩ := bnd hp; refine FL.c (E.call call257 (A1 rfl)) (w_impl_clause S101.sl v96 r88 (h103.mono upI) hr106) ?_; rintro e w108 ⟨H107, v113, n114, cs115, rfl, r110, els116⟩; refine ⟨_, rfl, ?_⟩; obtain ⟨H111, r110, hU112⟩ := St.lendX i102 S92.sl r110; have els116 := els116.mono (hU112.tr (up_le S92.size)); have S109 := S92.join (l' := [.row 3 1 v113 n114 cs115, .row 3 1 v96 n97 cs98, .row 73 1 v78 2 [v54, v64]]) r110 rfl; refine FL.v (E.extract (i := 0) rfl rfl) ?_; refine FL.v (E.extract (i := 1) rfl rfl) ?_; refine FL.as (v := v113) rfl ?_; refine FL.as (v := vB r105.2) rfl ?_; refine FL.nil (FW.ret ?_); cases hp; exact ⟨.inr rfl, res2 rfl rfl rfl ⟨_, _, _, _, rfl, (S109.sel [0] (by decide) rfl), els116⟩⟩

end Go.Proofs
