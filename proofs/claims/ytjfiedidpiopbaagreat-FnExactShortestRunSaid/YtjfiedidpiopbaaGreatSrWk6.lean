/- Part of the walks and plain laws behind the claim: it proves helpers, under no condition beyond their own. -/
import Derived.Test.YtjfiedidpiopbaaGreatSrWk5
set_option linter.unusedVariables false
set_option maxRecDepth 100000
namespace Go.Proofs
open Go.Mr Go.Pu Go.PF Go.RowKit Tryz

set_option maxHeartbeats 4000000 in
theorem w_laws_FnExactShortestRun {Ha:GH} {wa:World} (hs:Sl Ha wa) (a0:Cnf) (v0_1:Value) (p0_1:RSl Ha (eL eI 1) 1 v0_1 a0.clauses) (a1:Int) {r:Bool} (hp:(PF.zdS a0 a1)=some r) :
  Calls prog 5 #[vA #[vI a0.vars,v0_1],vI a1] wa (Sc Ha wa (vB r)):=by
 unfold PF.zdS at hp;have S0:=St.init hs;refine zag (N:=101) (args:=[vA #[vI a0.vars,v0_1],vI a1]) func5 rfl rfl rfl ?_;refine FW.sr ?_;obtain ⟨w21,run22,S23,z24⟩:=S0.boxB (P:=prog) 24 [vI a0.vars,v0_1] (v:=vA #[vI a0.vars,v0_1]) rfl (oC rfl (oC p0_1.one zad));refine FL.v (E.box rfl run22) ?_;obtain ⟨H25,S26,i27,at28⟩:=S23.sealBoxB (i:=0) (l':=[]) rfl rfl;refine FL.as (v:=vB false) rfl<|FL.nil<|FW.sr<|FL.as (v:=vI 1048576) rfl<|FL.nil<|FW.sr<|FL.v (E.load rfl (zap isAgg24 sizeOf24 ((at28.mono sgI).now S26.sl) rfl)) ?_;refine FL.mv (v:=vI 1048576) rfl ?_;obtain ⟨r29,hr30,hp⟩:=bnd hp;refine FL.c (E.call call6 (A2 rfl rfl)) (w_laws_szCnf S26.sl a0 v0_1 (p0_1.mono i27) 1048576 hr30) ?_;rintro e w31 ⟨rfl,r32⟩;refine ⟨_,rfl,?_⟩;have S33:=S26.call r32;have z34:=r32.bel.size;refine FL.as (v:=vI r29) rfl<|FL.nil (FW.seq (FW.sr ?_));refine FL.mv (v:=vI r29) rfl<|FL.v (E.lss rfl rfl) ?_;refine FL.nil ?_;rcases ifB hp with ⟨c35,hp⟩|⟨c35,hp⟩
 ·
  refine FW.condT rfl c35 ?_;refine FW.sr<|FL.as (v:=vB true) rfl<|FL.nil (FW.ret ?_);cases hp;exact ⟨.inr rfl,res1 rfl rfl ⟨rfl,S33.back⟩⟩
 ·
  refine FW.condF rfl c35 ?_;refine FW.skip<|FW.sr<|FL.v (E.load rfl (zap isAgg24 sizeOf24 ((at28.mono sgI).now S33.sl) rfl)) ?_;obtain ⟨r36,hr37,hp⟩:=bnd hp;refine FL.c (E.call call8 (A1 rfl)) (zdU S33.sl a0 v0_1 (p0_1.mono i27) hr37) ?_;rintro e w39 ⟨H38,v42,rfl,r41,⟨c45,ns44⟩⟩;refine ⟨_,rfl,?_⟩;have h43:=ns44.rsl;have nv46:New H25 c45:=New.of_up S33.sl (fun b hb=>ns44.dom b (.inr hb));have nv47:New H25 [v42]:=New.of_up S33.sl h43.dom;have S40:=S33.call r41;have z48:=r41.bel.size;have h43:=h43.mono (sg_of S40.sl);have ns44:=ns44.mono (sg_of S40.sl);refine FL.mv (v:=vI a1) rfl ?_;obtain ⟨r49,hr50,hp⟩:=bnd hp;refine FL.c (E.call call13 (A2 rfl rfl)) (w_spec_ShortestRun S40.sl r36 v42 (h43.mono sgI) a1 hr50) ?_;rintro e w52 ⟨H51,v55,n56,cs57,rfl,r54,els58⟩;refine ⟨_,rfl,?_⟩;obtain ⟨H59,r60,i61,h62,nv63⟩:=r54.sealRowU (i:=0) (l':=[]) rfl els58 (by decide) rfl;have S53:=S40.call r60.run;have z64:=r60.run.bel.size;have h62:=h62.mono (sg_of S53.sl);refine FL.mv (v:=Value.tuple #[v55,vB r49.2]) rfl<|FL.v (E.extract (i:=0) rfl rfl) ?_;refine FL.v (E.extract (i:=1) rfl rfl) ?_;refine FL.as (v:=v55) rfl<|FL.as (v:=vB r49.2) rfl<|FL.nil<|FW.sr<|FL.v (E.load rfl (zap isAgg24 sizeOf24 ((at28.mono (sgI.tr (r41.inc.tr r60.run.inc))).now S53.sl) rfl)) ?_;obtain ⟨r65,hr66,hp⟩:=bnd hp;refine FL.c (E.call call8 (A1 rfl)) (zdU S53.sl a0 v0_1 (p0_1.mono ((i27.tr r41.inc).tr r60.run.inc)) hr66) ?_;rintro e w68 ⟨H67,v71,rfl,r70,⟨c74,ns73⟩⟩;refine ⟨_,rfl,?_⟩;have h72:=ns73.rsl;have nv75:New H59 c74:=New.of_up S53.sl (fun b hb=>ns73.dom b (.inr hb));have nv76:New H59 [v71]:=New.of_up S53.sl h72.dom;have S69:=S53.call r70;have z77:=r70.bel.size;have h72:=h72.mono (sg_of S69.sl);have ns73:=ns73.mono (sg_of S69.sl);obtain ⟨w78,run79,S80,z81⟩:=S69.allocB (P:=prog) 28 [vI 0,vN] zeroValue28 rfl (oC rfl (oC rfl zad));refine FL.v (E.alloc run79) ?_;obtain ⟨w82,run83,S84,z85⟩:=S80.store0B (P:=prog) (t:=28) (i:=0) (cs':=[vI r65.vars,v71]) (l':=[.box w68.heap.size 28 [vI r65.vars,v71]]) (v:=vA #[vI r65.vars,v71]) (c:=[vI r65.vars,v71]) rfl sizeOf28 rfl rfl (oC rfl (oC h72.one zad)) (nB rfl) rfl rfl;refine FL.act rfl rfl (E.store rfl rfl run83) ?_;obtain ⟨H86,S87,i88,at89⟩:=S84.sealBoxB (i:=0) (l':=[]) rfl rfl;refine FL.nil<|FW.sr<|FL.v (E.load rfl (zap isAgg28 sizeOf28 ((at89.mono sgI).now S87.sl) rfl)) ?_;refine FL.mv (v:=vI a1) rfl ?_;obtain ⟨r90,hr91,hp⟩:=bnd hp;refine FL.c (E.call call14 (A2 rfl rfl)) (zeK S87.sl r65 v71 (h72.mono (sgI.tr i88)) a1 hr91) ?_;rintro e w93 ⟨H92,v96,n97,cs98,rfl,r95,els99⟩;refine ⟨_,rfl,?_⟩;obtain ⟨HA0,rA1,iA2,hA3,nvA4⟩:=r95.sealRowU (i:=0) (l':=[]) rfl els99 (by decide) rfl;have S94:=S87.call rA1.run;have zA5:=rA1.run.bel.size;have hA3:=hA3.mono (sg_of S94.sl);refine FL.mv (v:=Value.tuple #[v96,vB r90.2]) rfl<|FL.v (E.extract (i:=0) rfl rfl) ?_;refine FL.v (E.extract (i:=1) rfl rfl) ?_;refine FL.as (v:=v96) rfl<|FL.as (v:=vB r90.2) rfl<|FL.nil (FW.seq (FW.sr ?_));refine FL.mv (v:=v96) rfl<|FL.mv (v:=v55) rfl ?_;obtain ⟨rA6,hrA7,hp⟩:=bnd hp;refine FL.c (E.call call15 (A2 rfl rfl)) (zej S94.sl v96 r90.1 (hA3.mono sgI) v55 r49.1 (h62.mono (sgI.tr ((r70.inc.tr i88).tr rA1.run.inc))) hrA7) ?_;rintro e wA8 ⟨rfl,rA9⟩;refine ⟨_,rfl,?_⟩;have SAa:=S94.call rA9;have zAb:=rA9.bel.size;refine FL.v (E.not rfl) ?_;refine FL.mv (v:=vB (!rA6)) rfl ?_;refine FL.cut 4 (fun f w=>∃ H:GH,St Ha wa H w []∧Inc HA0 H∧f 1=vI a1∧f 2=vP (⟨wa.heap.size,0,none⟩)∧f 6=v55∧f 7=vB r49.2∧f 8=vP (⟨w68.heap.size,0,none⟩)∧f 9=v96∧f 10=vB r90.2∧f 44=vB (bif (!rA6) then true else (!(r90.2 == r49.2)))) ?_ ?_
  ·
   rcases bcase (!rA6) with cAi|cAi
   ·
    refine FL.n cAi<|FL.n cAi<|FL.n cAi<|FL.v (E.pickT rfl cAi rfl) ?_;exact FL.nil ⟨rfl,_,SAa,I0,rfl,rfl,rfl,rfl,rfl,rfl,rfl,(congrArg vB (bifT cAi).symm)⟩
   ·
    refine FL.y (wY cAi) (E.move (v:=vB r90.2) rfl) ?_;refine FL.y (wY cAi) (E.move (v:=vB r49.2) rfl) ?_;refine FL.y (wY cAi) (E.neqB runUnderlying4 rfl rfl) ?_;refine FL.v (E.pickF rfl cAi rfl) ?_;exact FL.nil ⟨rfl,_,SAa,I0,rfl,rfl,rfl,rfl,rfl,rfl,rfl,(congrArg vB (bifF cAi).symm)⟩
  rintro fAh wAg ⟨HAd,SAe,iAf,kAj,kAk,kAl,kAm,kAn,kAo,kAp,kAq⟩;refine FL.nil ?_;rcases ifB hp with ⟨cAr,hp⟩|⟨cAr,hp⟩
  ·
   refine FW.condT kAq cAr ?_;refine FW.sr<|FL.as (v:=vB false) rfl<|FL.nil (FW.ret ?_);cases hp;exact ⟨.inr rfl,res1 rfl rfl ⟨rfl,SAe.back⟩⟩
  ·
   refine FW.condF kAq cAr ?_;refine FW.skip (FW.seq (FW.seq ?_));obtain ⟨rAc,hrAv,hp⟩:=bnd hp;obtain ⟨rAH,hrAI,hp⟩:=bnd hp;refine FW.drawB (Sl HAd) (fun f w=>∃ H:GH,St Ha wa H w []∧Inc HAd H∧f 1=vI a1∧f 2=vP (⟨wa.heap.size,0,none⟩)∧f 6=v55∧f 7=vB r49.2∧f 8=vP (⟨w68.heap.size,0,none⟩)∧f 9=v96∧f 10=vB r90.2∧f 49=vB (!rAH)) (by kernel_rfl) SAe.sl ?_ ?_
   ·
    intro wAs rAt;have SAu:=SAe.call rAt;refine FB.T 0 5 1 rfl SAu.sl rfl (fun _ z=>(E.load kAn (zap isAgg28 sizeOf28 ((at89.mono (sgI.tr (rA1.run.inc.tr iAf))).now z) rfl))) ?_;refine FB.T 1 5 3 rfl SAu.sl rfl (fun _ z=>(E.load kAk (zap isAgg24 sizeOf24 ((at28.mono (sgI.tr (((((r41.inc.tr r60.run.inc).tr r70.inc).tr i88).tr rA1.run.inc).tr iAf))).now z) rfl))) ?_;refine FB.all1 (i:=2) (by kernel_rfl) ?_
    ·
     refine FC.call (l':=(bs 5 7)) rfl (by kernel_rfl) rfl rfl rfl (E.call call8 (A1 rfl)) (zdU SAu.sl a0 v0_1 (p0_1.mono ((((((i27.tr r41.inc).tr r60.run.inc).tr r70.inc).tr i88).tr rA1.run.inc).tr iAf)) hrAv) ?_;rintro e wAx ⟨HAw,vAA,rfl,rAz,⟨cAD,nsAC⟩⟩;refine ⟨_,rfl,?_⟩;have hAB:=nsAC.rsl;have nvAE:New HAd cAD:=New.of_up SAu.sl (fun b hb=>nsAC.dom b (.inr hb));have nvAF:New HAd [vAA]:=New.of_up SAu.sl hAB.dom;have SAy:=SAu.call rAz;have zAG:=rAz.bel.size;have hAB:=hAB.mono (sg_of SAy.sl);have nsAC:=nsAC.mono (sg_of SAy.sl);refine ⟨(SP.nil (Sl.of_inc rAz.inc SAy.sl)),?_⟩;refine FB.all1 (i:=3) (by kernel_rfl) ?_
     ·
      refine FC.call (l':=(bs 5 15)) rfl (by kernel_rfl) rfl rfl rfl (E.call call10 (A2 rfl rfl)) (w_laws_eqCnf SAy.sl r65 v71 (h72.mono (sgI.tr (((i88.tr rA1.run.inc).tr iAf).tr rAz.inc))) rAc vAA (hAB.mono sgI) hrAI) ?_;rintro e wAJ ⟨rfl,rAK⟩;refine ⟨_,rfl,?_⟩;have SAL:=SAy.call rAK;have zAM:=rAK.bel.size;refine sgo (SP.nil (Sl.of_inc rAz.inc SAL.sl)) fun sp=>?_;refine FB.r 4 5 31 rfl sp (fun _ z=>(E.not rfl)) (fun sp=>?_);exact FB.done (by kernel_rfl) ⟨_,SAL,rAz.inc,kAj,kAk,kAl,kAm,kAn,kAo,kAp,rfl⟩
   ·
    rintro fAR wAQ ⟨HAN,SAO,iAP,kAS,kAT,kAU,kAV,kAW,kAX,kAY,kAZ⟩;rcases ifB hp with ⟨cB0,hp⟩|⟨cB0,hp⟩
    ·
     refine FW.condT kAZ cB0 ?_;refine FW.sr<|FL.as (v:=vB false) rfl<|FL.nil (FW.ret ?_);cases hp;exact ⟨.inr rfl,res1 rfl rfl ⟨rfl,SAO.back⟩⟩
    ·
     refine FW.condF kAZ cB0 ?_;refine FW.skip<|FW.sr<|FL.as (v:=vI 1) rfl<|FL.nil<|FW.sr<|FL.v (E.load kAW (zap isAgg28 sizeOf28 ((at89.mono (sgI.tr ((rA1.run.inc.tr iAf).tr iAP))).now SAO.sl) rfl)) ?_;refine FL.mv (v:=vI 1) rfl ?_;refine FL.c (E.call call16 (A2 rfl rfl)) (w_laws_markCnf SAO hs r65 v71 c74 (ns73.mono (sg_up (by omega) (((i88.tr rA1.run.inc).tr iAf).tr iAP))) 1) ?_;rintro e wB2 ⟨HB1,cB7,rfl,SB3,nsB9,hb170,oB5⟩;refine ⟨_,rfl,?_⟩;have oB6:=(ns73.mono (zbO (hi:=w68.heap.size) (((i88.tr rA1.run.inc).tr iAf).tr iAP))).outside oB5;have nsB9:=ns73.span (eL_loc eI_flat) (by omega) nsB9 hb170;have hB4:=nsB9.rsl;have fBa:=at28.mono ((zbO (lo:=wa.heap.size) (hi:=wa.heap.size + 1) ((((((r41.inc.tr r60.run.inc).tr r70.inc).tr i88).tr rA1.run.inc).tr iAf).tr iAP)).tr (sg_keep oB6 (by omega)));have fBb:=h62.mono ((zbO (lo:=w39.heap.size) (hi:=w52.heap.size) ((((r70.inc.tr i88).tr rA1.run.inc).tr iAf).tr iAP)).tr (sg_keep oB6 (by omega)));have fBc:=at89.mono ((zbO (lo:=w68.heap.size) (hi:=w68.heap.size + 1) ((rA1.run.inc.tr iAf).tr iAP)).tr (sg_keep oB6 (by omega)));have fBd:=hA3.mono ((zbO (lo:=w82.heap.size) (hi:=w93.heap.size) (iAf.tr iAP)).tr (sg_keep oB6 (by omega)));refine FL.as (v:=vI ((PF.zci r65 1).2)) rfl<|FL.nil (FW.seq (FW.sr ?_));refine FL.mv (v:=vI ((PF.zci r65 1).2)) rfl<|FL.v (E.lss rfl rfl) ?_;refine FL.mv (v:=vB (decide ((PF.zci r65 1).2 < 0))) rfl ?_;obtain ⟨t176,hqtBe,hp⟩:=bnd hp;refine FL.cut 5 (fun f w=>∃ H:GH,St Ha wa H w []∧Inc HB1 H∧f 1=vI a1∧f 2=vP (⟨wa.heap.size,0,none⟩)∧f 6=v55∧f 7=vB r49.2∧f 9=v96∧f 10=vB r90.2∧f 60=vB t176) ?_ ?_
     ·
      clear hp;have hp:=hqtBe;clear hqtBe;rcases ifB hp with ⟨cBk,hp⟩|⟨cBk,hp⟩
      ·
       refine FL.n cBk<|FL.n cBk<|FL.n cBk<|FL.n cBk ?_;cases hp;refine FL.v (E.pickT rfl cBk rfl) ?_;exact FL.nil ⟨rfl,_,SB3,I0,kAS,kAT,kAU,kAV,kAX,kAY,rfl⟩
      ·
       refine FL.y (wY cBk) (E.move kAX) ?_;refine FL.y (wY cBk) (E.move kAU) ?_;obtain ⟨rBl,hrBm,hp⟩:=bnd hp;refine FL.call (wY cBk) rfl rfl (E.call call15 (A2 rfl rfl)) (zej SB3.sl v96 r90.1 (fBd.mono sgI) v55 r49.1 (fBb.mono sgI) hrBm) ?_;rintro e wBn ⟨rfl,rBo⟩;refine ⟨_,rfl,?_⟩;have SBp:=SB3.call rBo;have zBq:=rBo.bel.size;refine FL.y (wY cBk) (E.not rfl) ?_;cases hp;refine FL.v (E.pickF rfl cBk rfl) ?_;exact FL.nil ⟨rfl,_,SBp,I0,kAS,kAT,kAU,kAV,kAX,kAY,rfl⟩
     rintro fBj wBi ⟨HBf,SBg,iBh,kBr,kBs,kBt,kBu,kBv,kBw,kBx⟩;refine FL.mv kBx ?_;refine FL.cut 4 (fun f w=>∃ H:GH,St Ha wa H w []∧Inc HBf H∧f 1=vI a1∧f 2=vP (⟨wa.heap.size,0,none⟩)∧f 6=v55∧f 7=vB r49.2∧f 9=v96∧f 65=vB (bif t176 then true else (!(r90.2 == r49.2)))) ?_ ?_
     ·
      rcases bcase t176 with cBD|cBD
      ·
       refine FL.n cBD<|FL.n cBD<|FL.n cBD<|FL.v (E.pickT rfl cBD rfl) ?_;exact FL.nil ⟨rfl,_,SBg,I0,kBr,kBs,kBt,kBu,kBv,(congrArg vB (bifT cBD).symm)⟩
      ·
       refine FL.y (wY cBD) (E.move kBw) ?_;refine FL.y (wY cBD) (E.move kBu) ?_;refine FL.y (wY cBD) (E.neqB runUnderlying4 rfl rfl) ?_;refine FL.v (E.pickF rfl cBD rfl) ?_;exact FL.nil ⟨rfl,_,SBg,I0,kBr,kBs,kBt,kBu,kBv,(congrArg vB (bifF cBD).symm)⟩
     rintro fBC wBB ⟨HBy,SBz,iBA,kBE,kBF,kBG,kBH,kBI,kBJ⟩;refine FL.nil ?_;rcases ifB hp with ⟨cBK,hp⟩|⟨cBK,hp⟩
     ·
      refine FW.condT kBJ cBK ?_;refine FW.sr<|FL.as (v:=vB false) rfl<|FL.nil (FW.ret ?_);cases hp;exact ⟨.inr rfl,res1 rfl rfl ⟨rfl,SBz.back⟩⟩
     ·
      refine FW.condF kBJ cBK ?_;refine FW.skip<|FW.sr<|FL.as (v:=vI 1) rfl<|FL.nil<|FW.sr<|FL.mv kBI<|FL.mv (v:=vI 1) rfl ?_;refine FL.c (E.call call17 (A2 rfl rfl)) (zft SBz hs v96 r90.1 (fBd.mono (sg_up (by omega) (iBh.tr iBA))) 1) ?_;rintro e wBM ⟨HBL,rfl,SBN,hBO,oBP⟩;refine ⟨_,rfl,?_⟩;have oBQ:=(fBd.mono (zbO (hi:=w93.heap.size) (iBh.tr iBA))).outside oBP;have hBO:=fBd.span zec (by omega) hBO;have fBR:=fBa.mono ((zbO (lo:=wa.heap.size) (hi:=wa.heap.size + 1) (iBh.tr iBA)).tr (sg_keep oBQ (by omega)));have fBS:=fBb.mono ((zbO (lo:=w39.heap.size) (hi:=w52.heap.size) (iBh.tr iBA)).tr (sg_keep oBQ (by omega)));refine FL.as (v:=vI ((PF.zaW r90.1 1).2)) rfl<|FL.nil<|FW.sr<|FL.as (v:=vI 1) rfl<|FL.nil<|FW.sr<|FL.mv kBI<|FL.mv (v:=vI 1) rfl ?_;obtain ⟨rBT,hrBU,hp⟩:=bnd hp;refine FL.c (E.call call18 (A2 rfl rfl)) (zeL SBN.sl v96 ((PF.zaW r90.1 1).1) (hBO.mono sgI) 1 hrBU) ?_;rintro e wBV ⟨rfl,rBW⟩;refine ⟨_,rfl,?_⟩;have SBX:=SBN.call rBW;have zBY:=rBW.bel.size;refine FL.as (v:=vI rBT) rfl<|FL.nil (FW.seq (FW.sr ?_));refine FL.mv (v:=vI rBT) rfl<|FL.v (E.lss rfl rfl) ?_;refine FL.nil ?_;rcases ifB hp with ⟨cBZ,hp⟩|⟨cBZ,hp⟩
      ·
       refine FW.condT rfl cBZ ?_;refine FW.sr<|FL.as (v:=vB false) rfl<|FL.nil (FW.ret ?_);cases hp;exact ⟨.inr rfl,res1 rfl rfl ⟨rfl,SBX.back⟩⟩
      ·
       refine FW.condF rfl cBZ ?_;refine FW.skip (FW.seq (FW.sr ?_));refine FL.mv (v:=vI rBT) rfl<|FL.mv (v:=vI ((PF.zaW r90.1 1).2)) rfl<|FL.v (E.neq rfl rfl) ?_;refine FL.nil ?_;rcases ifB hp with ⟨cC0,hp⟩|⟨cC0,hp⟩
       ·
        refine FW.condT rfl cC0 ?_;refine FW.sr<|FL.as (v:=vB false) rfl<|FL.nil (FW.ret ?_);cases hp;exact ⟨.inr rfl,res1 rfl rfl ⟨rfl,SBX.back⟩⟩
       ·
        refine FW.condF rfl cC0 ?_;refine FW.skip<|FW.sr<|FL.v (E.load kBF (zap isAgg24 sizeOf24 ((fBR.mono sgI).now SBX.sl) rfl)) ?_;obtain ⟨rC1,hrC2,hp⟩:=bnd hp;refine FL.c (E.call call8 (A1 rfl)) (zdU SBX.sl a0 v0_1 (p0_1.mono SBN.inc) hrC2) ?_;rintro e wC4 ⟨HC3,vC7,rfl,rC6,⟨cCa,nsC9⟩⟩;refine ⟨_,rfl,?_⟩;have hC8:=nsC9.rsl;have nvCb:New HBL cCa:=New.of_up SBX.sl (fun b hb=>nsC9.dom b (.inr hb));have nvCc:New HBL [vC7]:=New.of_up SBX.sl hC8.dom;have SC5:=SBX.call rC6;have zCd:=rC6.bel.size;have hC8:=hC8.mono (sg_of SC5.sl);have nsC9:=nsC9.mono (sg_of SC5.sl);refine FL.mv kBE ?_;obtain ⟨rCe,hrCf,hp⟩:=bnd hp;refine FL.c (E.call call14 (A2 rfl rfl)) (zeK SC5.sl rC1 vC7 (hC8.mono sgI) a1 hrCf) ?_;rintro e wCh ⟨HCg,vCk,nCl,csCm,rfl,rCj,elsCn⟩;refine ⟨_,rfl,?_⟩;obtain ⟨HCo,rCp,iCq,hCr,nvCs⟩:=rCj.sealRowU (i:=0) (l':=[]) rfl elsCn (by decide) rfl;have SCi:=SC5.call rCp.run;have zCt:=rCp.run.bel.size;have hCr:=hCr.mono (sg_of SCi.sl);refine FL.mv (v:=Value.tuple #[vCk,vB rCe.2]) rfl<|FL.v (E.extract (i:=0) rfl rfl) ?_;refine FL.v (E.extract (i:=1) rfl rfl) ?_;refine FL.as (v:=vCk) rfl<|FL.as (v:=vB rCe.2) rfl<|FL.nil (FW.seq (FW.sr ?_));refine FL.mv (v:=vCk) rfl<|FL.mv kBG ?_;obtain ⟨rCu,hrCv,hp⟩:=bnd hp;refine FL.c (E.call call15 (A2 rfl rfl)) (zej SCi.sl vCk rCe.1 (hCr.mono sgI) v55 r49.1 (fBS.mono (sgI.tr (rC6.inc.tr rCp.run.inc))) hrCv) ?_;rintro e wCw ⟨rfl,rCx⟩;refine ⟨_,rfl,?_⟩;have SCy:=SCi.call rCx;have zCz:=rCx.bel.size;refine FL.v (E.not rfl) ?_;refine FL.mv (v:=vB (!rCu)) rfl ?_;refine FL.cut 4 (fun f w=>∃ H:GH,St Ha wa H w []∧Inc HCo H∧f 9=v96∧f 12=vI ((PF.zaW r90.1 1).2)∧f 92=vB (bif (!rCu) then true else (!(rCe.2 == r49.2)))) ?_ ?_
        ·
         rcases bcase (!rCu) with cCF|cCF
         ·
          refine FL.n cCF<|FL.n cCF<|FL.n cCF<|FL.v (E.pickT rfl cCF rfl) ?_;exact FL.nil ⟨rfl,_,SCy,I0,kBI,rfl,(congrArg vB (bifT cCF).symm)⟩
         ·
          refine FL.y (wY cCF) (E.move (v:=vB rCe.2) rfl) ?_;refine FL.y (wY cCF) (E.move kBH) ?_;refine FL.y (wY cCF) (E.neqB runUnderlying4 rfl rfl) ?_;refine FL.v (E.pickF rfl cCF rfl) ?_;exact FL.nil ⟨rfl,_,SCy,I0,kBI,rfl,(congrArg vB (bifF cCF).symm)⟩
        rintro fCE wCD ⟨HCA,SCB,iCC,kCG,kCH,kCI⟩;refine FL.nil ?_;rcases ifB hp with ⟨cCJ,hp⟩|⟨cCJ,hp⟩
        ·
         refine FW.condT kCI cCJ ?_;refine FW.sr<|FL.as (v:=vB false) rfl<|FL.nil (FW.ret ?_);cases hp;exact ⟨.inr rfl,res1 rfl rfl ⟨rfl,SCB.back⟩⟩
        ·
         refine FW.condF kCI cCJ ?_;refine FW.skip<|FW.sr<|FL.as (v:=vI 1) rfl<|FL.nil<|FW.sr<|FL.mv kCG<|FL.mv (v:=vI 1) rfl ?_;obtain ⟨rCK,hrCL,hp⟩:=bnd hp;refine FL.c (E.call call18 (A2 rfl rfl)) (zeL SCB.sl v96 ((PF.zaW r90.1 1).1) (hBO.mono (sgI.tr ((rC6.inc.tr rCp.run.inc).tr iCC))) 1 hrCL) ?_;rintro e wCM ⟨rfl,rCN⟩;refine ⟨_,rfl,?_⟩;have SCO:=SCB.call rCN;have zCP:=rCN.bel.size;refine FL.as (v:=vI rCK) rfl<|FL.nil (FW.seq (FW.sr ?_));refine FL.mv (v:=vI rCK) rfl<|FL.v (E.lss rfl rfl) ?_;refine FL.nil ?_;rcases ifB hp with ⟨cCQ,hp⟩|⟨cCQ,hp⟩
         ·
          refine FW.condT rfl cCQ ?_;refine FW.sr<|FL.as (v:=vB false) rfl<|FL.nil (FW.ret ?_);cases hp;exact ⟨.inr rfl,res1 rfl rfl ⟨rfl,SCO.back⟩⟩
         ·
          refine FW.condF rfl cCQ ?_;refine FW.skip (FW.seq (FW.sr ?_));refine FL.mv (v:=vI rCK) rfl<|FL.mv kCH<|FL.v (E.neq rfl rfl) ?_;refine FL.nil ?_;rcases ifB hp with ⟨cCR,hp⟩|⟨cCR,hp⟩
          ·
           refine FW.condT rfl cCR ?_;refine FW.sr<|FL.as (v:=vB false) rfl<|FL.nil (FW.ret ?_);cases hp;exact ⟨.inr rfl,res1 rfl rfl ⟨rfl,SCO.back⟩⟩
          ·
           refine FW.condF rfl cCR ?_;refine FW.skip<|FW.sr<|FL.as (v:=vB true) rfl<|FL.nil (FW.ret ?_);cases hp;exact ⟨.inr rfl,res1 rfl rfl ⟨rfl,SCO.back⟩⟩

end Go.Proofs
