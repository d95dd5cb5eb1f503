/- Part of the walks and plain laws behind the claim: it proves helpers, under no condition beyond their own. -/
import Derived.Test.YtjfiedidpiopbaaGreatLsWk4
set_option linter.unusedVariables false
set_option maxRecDepth 100000
namespace Go.Proofs
open Go.Mr Go.Pu Go.PF Go.RowKit

set_option maxHeartbeats 4000000 in
theorem w_laws_FnExactLeastSpace {Ha:GH} {wa:World} (hs:Sl Ha wa) (a0:Cnf) (v0_1:Value) (p0_1:RSl Ha (eL eI 1) 1 v0_1 a0.clauses) {r:Bool} (hp:(PF.zc7 a0)=some r) :
  Calls Tryz.prog 4 #[Value.agg #[Value.int .i64 a0.vars,v0_1]] wa (Sc Ha wa (Value.bool r)):=by
 unfold PF.zc7 at hp
 have S0:=St.init hs
 refine zag (N:=40) (args:=[Value.agg #[Value.int .i64 a0.vars,v0_1]]) Tryz.func4 rfl rfl rfl ?_
 refine FW.seq (FW.region ?_)
 obtain ⟨w21,run22,S23,z24⟩:=S0.boxB (P:=Tryz.prog) 24 [Value.int .i64 a0.vars,v0_1] (v:=Value.agg #[Value.int .i64 a0.vars,v0_1]) rfl (zab rfl (zab p0_1.one zad))
 refine FL.v (E.box rfl run22) ?_
 obtain ⟨H25,S26,i27,at28⟩:=S23.sealBoxB (i:=0) (l':=[]) rfl rfl
 refine FL.v (E.assign (v:=Value.bool false) rfl) ?_
 refine FL.nil (FW.seq (FW.region ?_))
 refine FL.v (E.assign (v:=Value.int .i64 1048576) rfl) ?_
 refine FL.nil (FW.seq (FW.region ?_))
 refine FL.v (E.load rfl (zax Tryz.isAgg24 Tryz.sizeOf24 ((at28.mono sgI).now S26.sl) rfl)) ?_
 refine FL.v (E.move (v:=Value.int .i64 1048576) rfl) ?_
 obtain ⟨r29,hr30,hp⟩:=bnd hp
 refine FL.call rfl rfl rfl (E.call Tryz.call6 (A2 rfl rfl)) (w_laws_szCnf S26.sl a0 v0_1 (p0_1.mono i27) 1048576 hr30) ?_
 rintro e w31 ⟨rfl,r32⟩
 refine ⟨_,rfl,?_⟩
 have S33:=S26.call r32
 have z34:=r32.bel.size
 refine FL.v (E.assign (v:=Value.int .i64 r29) rfl) ?_
 refine FL.nil (FW.seq (FW.seq (FW.region ?_)))
 refine FL.v (E.move (v:=Value.int .i64 r29) rfl) ?_
 refine FL.v (E.lss rfl rfl) ?_
 refine FL.nil ?_
 rcases ifB hp with ⟨c35,hp⟩|⟨c35,hp⟩
 ·
  refine FW.condT rfl c35 ?_
  refine FW.seq (FW.region ?_)
  refine FL.v (E.assign (v:=Value.bool true) rfl) ?_
  refine FL.nil ?_
  refine FW.ret ?_
  obtain rfl:=Option.some.inj hp
  exact ⟨.inr rfl,res1 rfl rfl ⟨rfl,S33.back⟩⟩
 ·
  refine FW.condF rfl c35 ?_
  refine FW.skip (FW.seq (FW.region ?_))
  refine FL.v (E.load rfl (zax Tryz.isAgg24 Tryz.sizeOf24 ((at28.mono sgI).now S33.sl) rfl)) ?_
  obtain ⟨r36,hr37,hp⟩:=bnd hp
  refine FL.call rfl rfl rfl (E.call Tryz.call8 (A1 rfl)) (zdo S33.sl a0 v0_1 (p0_1.mono i27) hr37) ?_
  rintro e w39 ⟨H38,v42,rfl,r41,⟨c45,ns44⟩⟩
  refine ⟨_,rfl,?_⟩
  have h43:=ns44.rsl
  have nv46:New H25 c45:=New.of_up S33.sl (fun b hb=>ns44.dom b (.inr hb))
  have nv47:New H25 [v42]:=New.of_up S33.sl h43.dom
  have S40:=S33.call r41
  have z48:=r41.bel.size
  have h43:=h43.mono (sg_of S40.sl)
  have ns44:=ns44.mono (sg_of S40.sl)
  obtain ⟨r49,hr50,hp⟩:=bnd hp
  refine FL.call rfl rfl rfl (E.call Tryz.call11 (A1 rfl)) (w_spec_LeastSpace S40.sl r36 v42 (h43.mono sgI) hr50) ?_
  rintro e w51 ⟨rfl,r52⟩
  refine ⟨_,rfl,?_⟩
  have S53:=S40.call r52
  have z54:=r52.bel.size
  refine FL.v (E.move (v:=Value.tuple #[Value.int .i64 r49.1,Value.bool r49.2]) rfl) ?_
  refine FL.v (E.extract (i:=0) rfl rfl) ?_
  refine FL.v (E.extract (i:=1) rfl rfl) ?_
  refine FL.v (E.assign (v:=Value.int .i64 r49.1) rfl) ?_
  refine FL.v (E.assign (v:=Value.bool r49.2) rfl) ?_
  refine FL.nil (FW.seq (FW.region ?_))
  refine FL.v (E.load rfl (zax Tryz.isAgg24 Tryz.sizeOf24 ((at28.mono (sgI.tr r41.inc)).now S53.sl) rfl)) ?_
  obtain ⟨r55,hr56,hp⟩:=bnd hp
  refine FL.call rfl rfl rfl (E.call Tryz.call8 (A1 rfl)) (zdo S53.sl a0 v0_1 (p0_1.mono (i27.tr r41.inc)) hr56) ?_
  rintro e w58 ⟨H57,v61,rfl,r60,⟨c64,ns63⟩⟩
  refine ⟨_,rfl,?_⟩
  have h62:=ns63.rsl
  have nv65:New H38 c64:=New.of_up S53.sl (fun b hb=>ns63.dom b (.inr hb))
  have nv66:New H38 [v61]:=New.of_up S53.sl h62.dom
  have S59:=S53.call r60
  have z67:=r60.bel.size
  have h62:=h62.mono (sg_of S59.sl)
  have ns63:=ns63.mono (sg_of S59.sl)
  obtain ⟨w68,run69,S70,z71⟩:=S59.allocB (P:=Tryz.prog) 28 [Value.int .i64 0,Value.slice none 0 0] Tryz.zeroValue28 rfl (zab rfl (zab rfl zad))
  refine FL.v (E.alloc run69) ?_
  obtain ⟨w72,run73,S74,z75⟩:=S70.store0B (P:=Tryz.prog) (t:=28) (i:=0) (cs':=[Value.int .i64 r55.vars,v61]) (l':=[.box w58.heap.size 28 [Value.int .i64 r55.vars,v61]]) (v:=Value.agg #[Value.int .i64 r55.vars,v61]) (c:=[Value.int .i64 r55.vars,v61]) rfl Tryz.sizeOf28 rfl rfl (zab rfl (zab h62.one zad)) (Nat.le_of_ble_eq_true rfl) rfl rfl
  refine FL.act rfl rfl (E.store rfl rfl run73) ?_
  obtain ⟨H76,S77,i78,at79⟩:=S74.sealBoxB (i:=0) (l':=[]) rfl rfl
  refine FL.nil (FW.seq (FW.region ?_))
  refine FL.v (E.load rfl (zax Tryz.isAgg28 Tryz.sizeOf28 ((at79.mono sgI).now S77.sl) rfl)) ?_
  obtain ⟨r80,hr81,hp⟩:=bnd hp
  refine FL.call rfl rfl rfl (E.call Tryz.call12 (A1 rfl)) (w_impl_LeastSpace S77.sl r55 v61 (h62.mono (sgI.tr i78)) hr81) ?_
  rintro e w82 ⟨rfl,r83⟩
  refine ⟨_,rfl,?_⟩
  have S84:=S77.call r83
  have z85:=r83.bel.size
  refine FL.v (E.move (v:=Value.tuple #[Value.int .i64 r80.1,Value.bool r80.2]) rfl) ?_
  refine FL.v (E.extract (i:=0) rfl rfl) ?_
  refine FL.v (E.extract (i:=1) rfl rfl) ?_
  refine FL.v (E.assign (v:=Value.int .i64 r80.1) rfl) ?_
  refine FL.v (E.assign (v:=Value.bool r80.2) rfl) ?_
  refine FL.nil (FW.seq (FW.seq (FW.region ?_)))
  refine FL.v (E.move (v:=Value.int .i64 r80.1) rfl) ?_
  refine FL.v (E.move (v:=Value.int .i64 r49.1) rfl) ?_
  refine FL.v (E.neq rfl rfl) ?_
  refine FL.v (E.move (v:=Value.bool (!(r80.1 == r49.1))) rfl) ?_
  refine FL.cut 4 (fun f w=>∃ H:GH,St Ha wa H w []∧Inc H76 H∧f 1=Value.pointer (some ⟨wa.heap.size,0,none⟩)∧f 6=Value.pointer (some ⟨w58.heap.size,0,none⟩)∧f 34=Value.bool (bif (!(r80.1 == r49.1)) then true else (!(r80.2 == r49.2)))) ?_ ?_
  ·
   rcases bcase (!(r80.1 == r49.1)) with c92|c92
   ·
    refine FL.skip (wF_no rfl rfl rfl c92) rfl ?_
    refine FL.skip (wF_no rfl rfl rfl c92) rfl ?_
    refine FL.skip (wF_no rfl rfl rfl c92) rfl ?_
    refine FL.v (E.pickT rfl c92 rfl) ?_
    exact FL.nil ⟨rfl,_,S84,(Inc.rfl _),rfl,rfl,(congrArg Value.bool (bifT c92).symm)⟩
   ·
    refine FL.val (zac rfl rfl rfl c92) rfl rfl (E.move (v:=Value.bool r80.2) rfl) ?_
    refine FL.val (zac rfl rfl rfl c92) rfl rfl (E.move (v:=Value.bool r49.2) rfl) ?_
    refine FL.val (zac rfl rfl rfl c92) rfl rfl (E.neqB Tryz.runUnderlying4 rfl rfl) ?_
    refine FL.v (E.pickF rfl c92 rfl) ?_
    exact FL.nil ⟨rfl,_,S84,(Inc.rfl _),rfl,rfl,(congrArg Value.bool (bifF c92).symm)⟩
  rintro f91 w90 ⟨H87,S88,i89,k93,k94,k95⟩
  refine FL.nil ?_
  rcases ifB hp with ⟨c96,hp⟩|⟨c96,hp⟩
  ·
   refine FW.condT k95 c96 ?_
   refine FW.seq (FW.region ?_)
   refine FL.v (E.assign (v:=Value.bool false) rfl) ?_
   refine FL.nil ?_
   refine FW.ret ?_
   obtain rfl:=Option.some.inj hp
   exact ⟨.inr rfl,res1 rfl rfl ⟨rfl,S88.back⟩⟩
  ·
   refine FW.condF k95 c96 ?_
   refine FW.skip (FW.seq (FW.seq ?_))
   obtain ⟨r86,hrA0,hp⟩:=bnd hp
   obtain ⟨rAc,hrAd,hp⟩:=bnd hp
   refine FW.drawB (Sl H87) (fun f w=>∃ H:GH,St Ha wa H w []∧Inc H87 H∧f 39=Value.bool (!rAc)) (by kernel_rfl) S88.sl ?_ ?_
   ·
    intro w97 r98
    have S99:=S88.call r98
    refine FB.t (i:=0) (bs 5 1) rfl (SP.nil S99.sl) rfl (fun w' hw'=>(E.load k94 (zax Tryz.isAgg28 Tryz.sizeOf28 ((at79.mono (sgI.tr i89)).now hw') rfl))) ?_
    refine FB.t (i:=1) (bs 5 3) rfl (SP.nil S99.sl) rfl (fun w' hw'=>(E.load k93 (zax Tryz.isAgg24 Tryz.sizeOf24 ((at28.mono (sgI.tr (((r41.inc.tr r60.inc).tr i78).tr i89))).now hw') rfl))) ?_
    refine FB.all1 (i:=2) (by kernel_rfl) ?_
    ·
     refine FC.call (l':=(bs 5 7)) rfl (by kernel_rfl) rfl rfl rfl (E.call Tryz.call8 (A1 rfl)) (zdo S99.sl a0 v0_1 (p0_1.mono ((((i27.tr r41.inc).tr r60.inc).tr i78).tr i89)) hrA0) ?_
     rintro e wA2 ⟨HA1,vA5,rfl,rA4,⟨cA8,nsA7⟩⟩
     refine ⟨_,rfl,?_⟩
     have hA6:=nsA7.rsl
     have nvA9:New H87 cA8:=New.of_up S99.sl (fun b hb=>nsA7.dom b (.inr hb))
     have nvAa:New H87 [vA5]:=New.of_up S99.sl hA6.dom
     have SA3:=S99.call rA4
     have zAb:=rA4.bel.size
     have hA6:=hA6.mono (sg_of SA3.sl)
     have nsA7:=nsA7.mono (sg_of SA3.sl)
     refine ⟨(SP.nil (Sl.of_inc rA4.inc SA3.sl)),?_⟩
     refine FB.all1 (i:=3) (by kernel_rfl) ?_
     ·
      refine FC.call (l':=(bs 5 15)) rfl (by kernel_rfl) rfl rfl rfl (E.call Tryz.call10 (A2 rfl rfl)) (w_laws_eqCnf SA3.sl r55 v61 (h62.mono (sgI.tr ((i78.tr i89).tr rA4.inc))) r86 vA5 (hA6.mono sgI) hrAd) ?_
      rintro e wAe ⟨rfl,rAf⟩
      refine ⟨_,rfl,?_⟩
      have SAg:=SA3.call rAf
      have zAh:=rAf.bel.size
      refine ⟨(SP.nil (Sl.of_inc rA4.inc SAg.sl)),?_⟩
      refine FB.t (i:=4) (bs 5 31) rfl (SP.nil (Sl.of_inc rA4.inc SAg.sl)) rfl (fun w' hw'=>(E.not rfl)) ?_
      exact FB.done (by kernel_rfl) ⟨_,SAg,rA4.inc,rfl⟩
   ·
    rintro fAm wAl ⟨HAi,SAj,iAk,kAn⟩
    rcases ifB hp with ⟨cAo,hp⟩|⟨cAo,hp⟩
    ·
     refine FW.condT kAn cAo ?_
     refine FW.seq (FW.region ?_)
     refine FL.v (E.assign (v:=Value.bool false) rfl) ?_
     refine FL.nil ?_
     refine FW.ret ?_
     obtain rfl:=Option.some.inj hp
     exact ⟨.inr rfl,res1 rfl rfl ⟨rfl,SAj.back⟩⟩
    ·
     refine FW.condF kAn cAo ?_
     refine FW.skip (FW.seq (FW.region ?_))
     refine FL.v (E.assign (v:=Value.bool true) rfl) ?_
     refine FL.nil ?_
     refine FW.ret ?_
     obtain rfl:=Option.some.inj hp
     exact ⟨.inr rfl,res1 rfl rfl ⟨rfl,SAj.back⟩⟩

end Go.Proofs
