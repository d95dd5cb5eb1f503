/- Part of the walks and plain laws behind the claim: it proves helpers, under no condition beyond their own. -/
import Derived.Test.YtfgonpeogehopaaGreatPcWk3
set_option linter.unusedVariables false
set_option maxRecDepth 100000
namespace Go.Proofs
open Go.Mr Go.Pu Go.PF Go.RowKit Tryz

@[reducible] def p_impl_xorClauses (Ha:GH) (wa:World) (r:(List (List Int))):Ending→World→Prop :=
 fun e w'=>∃ H':GH,∃ v0:Value,∃ n0:Nat,∃ c0:List Value,e=.returned (v0)∧St Ha wa H' w' [.row 25 1 v0 n0 c0]∧Els (up wa.heap.size H') (eL eI 1) 1 c0 r
set_option maxHeartbeats 4000000 in
theorem w_impl_xorClauses {Ha:GH} {wa:World} (hs:Sl Ha wa) (v0:Value) (a0:List Int) (p0:RSl Ha eI 1 v0 a0) (a1:Bool) {r:(List (List Int))} (hp:(PF.zcb a0 a1)=some r) :
  Calls prog 38 #[v0,vB a1] wa (p_impl_xorClauses Ha wa r):=by
 unfold PF.zcb at hp;have S0:=St.init hs;refine zag (N:=40) (args:=[v0,vB a1]) func38 rfl rfl rfl ?_;refine FW.sr<|FL.as (v:=vN) rfl<|FL.nil<|FW.sr<|FL.as (v:=vN) rfl<|FL.nil (FW.seq (FW.sr ?_));refine FL.mv (v:=v0) rfl ?_;obtain ⟨r21,hr22,hp⟩:=bnd hp;refine FL.c (E.call call64 (A1 rfl)) (w_impl_signings S0.sl v0 a0 p0 hr22) ?_;rintro e w24 ⟨H23,v27,n28,cs29,rfl,r26,els30⟩;refine ⟨_,rfl,?_⟩;have nv31:New Ha cs29:=New.of_up S0.sl els30.dom;have els30:=els30.mono (up_le S0.size);have S25:=S0.join (l':=[.row 25 1 v27 n28 cs29]) r26 rfl;refine FL.v (E.lenO te39 rfl S25 (i:=0) rfl els30 (by decide)) ?_;refine FL.mv (v:=vI 0) rfl<|FL.nil ?_;obtain ⟨m32,hchk33,hp⟩:=bnd hp;obtain ⟨q33,hq,hp⟩:=bndR hp;refine FW.block ?_;refine FW.mono (FW.forR (S:=(List (List Int))) (X:=Empty) (fun (i33:Nat) (s33:(List (List Int))) f w=>∃ H:GH,∃ v34:Value,∃ n35:Nat,∃ cs36:List Value,St Ha wa H w [.row 25 1 v27 n28 cs29,.row 25 1 v34 n35 cs36]∧Inc H23 H∧Els (up wa.heap.size H) (eL eI 1) 1 cs36 s33∧f 14=vI ((i33:Nat):Int)∧f 1=vB a1∧f 5=v34∧f 12=v27∧f 13=vI (len r21)) (fun (q:Rs (List (List Int)) Empty) e f w=>match q with|.go s33=>e=Exit.exit 0∧(∃ H:GH,∃ v34:Value,∃ n35:Nat,∃ cs36:List Value,St Ha wa H w [.row 25 1 v27 n28 cs29,.row 25 1 v34 n35 cs36]∧Inc H23 H∧Els (up wa.heap.size H) (eL eI 1) 1 cs36 s33∧f 5=v34)|.rt x=>x.elim) hq ⟨_,_,_,_,((S25.nil 25 1).sel [1,0] (by decide) rfl),I0,Els.nil,rfl,rfl,rfl,rfl,rfl⟩ ?_ ?_) ?_
 ·
  clear hp hq;rintro i33 s33 fAu wAt ⟨HAq,v34,n35,cs36,SAr,iAs,els37,kAv,kAw,kAx,kAy,kAz⟩ hi33 hj33 oCd hp;refine FW.sr<|FL.v (E.lssT kAv kAz (zaU hj33 hchk33)) ?_;refine FL.nil<|FW.seq<|FW.condT rfl rfl ?_;refine FW.skip (FW.seq (FW.block (FW.sr ?_)));obtain ⟨xAG,hxAH,hp⟩:=bnd hp;obtain ⟨pAA,csAB,ptAC,lAD,atAE,relAF⟩:=SAr.row_at (i:=0) rfl els30 (by decide) hxAH;obtain ⟨vAI,rfl,hAJ⟩:=zaE relAF;refine FL.v (E.indexAddr te39 kAy kAv ptAC) ?_;refine FL.v (E.load rfl (zaf isAgg25 atAE rfl)) ?_;refine FL.as (v:=vAI) rfl<|FL.nil<|FW.sr<|FL.as (v:=vI 0) rfl<|FL.nil (FW.seq (FW.sr ?_));refine FL.mv (v:=vAI) rfl<|FL.v (E.lenP te25 rfl hAJ) ?_;refine FL.mv (v:=vI 0) rfl<|FL.nil ?_;obtain ⟨qAL,hq,hp⟩:=bndR hp;refine FW.block ?_;refine FW.mono (FW.forL (S:=Int) (X:=Empty) (fun (iAL:Nat) (sAL:Int) f w=>∃ H:GH,St Ha wa H w [.row 25 1 v27 n28 cs29,.row 25 1 v34 n35 cs36]∧Inc HAq H∧f 20=vI ((iAL:Nat):Int)∧f 1=vB a1∧f 5=v34∧f 7=vAI∧f 8=vI sAL∧f 12=v27∧f 13=vI (len r21)∧f 14=vI ((i33:Nat):Int)∧f 18=vAI∧f 19=vI (len xAG)) (fun (q:Rs Int Empty) e f w=>match q with|.go sAL=>e=Exit.exit 2∧(∃ H:GH,St Ha wa H w [.row 25 1 v27 n28 cs29,.row 25 1 v34 n35 cs36]∧Inc HAq H∧f 1=vB a1∧f 5=v34∧f 7=vAI∧f 8=vI sAL∧f 12=v27∧f 13=vI (len r21)∧f 14=vI ((i33:Nat):Int))|.rt x=>x.elim) hq ⟨_,SAr,I0,rfl,kAw,kAx,rfl,rfl,kAy,kAz,kAv,rfl,rfl⟩ ?_ ?_) ?_
  ·
   clear hp hq;rintro iAL yAK sAL fBc wBb ⟨HB8,SB9,iBa,kBd,kBe,kBf,kBg,kBh,kBi,kBj,kBk,kBl,kBm⟩ hxAL oBu hp;refine FW.sr<|FL.v (E.lssT kBd kBm (zar hxAL)) ?_;refine FL.nil<|FW.seq<|FW.condT rfl rfl ?_;refine FW.skip (FW.seq (FW.block (FW.sr ?_)));obtain ⟨pBn,csBo,ptBp,lBq,atBr,relBs⟩:=hAJ.at (zal hxAL);obtain rfl:=zak relBs;refine FL.v (E.indexAddr te25 kBl kBd ptBp) ?_;refine FL.v (E.load rfl (zaf isAgg3 ((atBr.mono (upI.tr (iAs.tr iBa))).now SB9.sl) rfl)) ?_;refine FL.as (v:=vI yAK) rfl<|FL.nil<|FW.sr<|FL.mv (v:=vI yAK) rfl<|FL.v (E.lss rfl rfl) ?_;refine FL.nil ?_;rcases ifB hp with ⟨cBt,hp⟩|⟨cBt,hp⟩
   ·
    refine FW.condT rfl cBt ?_;refine FW.region<|FL.mv kBh<|FL.v (E.add rfl rfl) ?_;refine FL.as (v:=vI (wr (sAL + 1))) rfl<|FL.nil<|FW.region<|FL.v (E.add kBd rfl) ?_;refine FL.mv (v:=vI (wr (((iAL:Nat):Int) + 1))) rfl<|FL.nil ?_;cases hp;exact ⟨rfl,⟨_,SB9,iBa,(zam rfl (zao hxAL) (hAJ.mono (upI.tr (iAs.tr iBa))).le),kBe,kBf,kBg,rfl,kBi,kBj,kBk,kBl,kBm⟩⟩
   ·
    refine FW.condF rfl cBt ?_;refine FW.skip<|FW.region<|FL.v (E.add kBd rfl) ?_;refine FL.mv (v:=vI (wr (((iAL:Nat):Int) + 1))) rfl<|FL.nil ?_;cases hp;exact ⟨rfl,⟨_,SB9,iBa,(zam rfl (zao hxAL) (hAJ.mono (upI.tr (iAs.tr iBa))).le),kBe,kBf,kBg,kBh,kBi,kBj,kBk,kBl,kBm⟩⟩
  ·
   clear hp hq;rintro sAL fC2 wC1 ⟨HBY,SBZ,iC0,kC3,kC4,kC5,kC6,kC7,kC8,kC9,kCa,kCb,kCc⟩;refine FW.sr<|FL.v (E.lss kC3 kCc) ?_;refine FL.nil<|FW.seq<|FW.condF rfl zas ?_;refine FW.exit ?_;exact ⟨nofun,rfl,⟨_,SBZ,iC0,kC4,kC5,kC6,kC7,kC8,kC9,kCa⟩⟩
  ·
   clear hq;intro e fBz wBy hD;rcases qAL with sAL|xAL
   ·
    obtain ⟨rfl,hD⟩:=hD;obtain ⟨HBv,SBw,iBx,kBA,kBB,kBC,kBD,kBE,kBF,kBG⟩:=hD;replace hp:=el_go hp;refine FW.sr<|FL.mv kBD<|FL.v (E.rem rfl rfl (by decide)) ?_;refine FL.v (E.eql rfl rfl) ?_;refine FL.mv kBA<|FL.v (E.eqlB runUnderlying4 rfl rfl) ?_;refine FL.nil ?_;rcases ifB hp with ⟨cBH,hp⟩|⟨cBH,hp⟩
    ·
     refine FW.condT rfl cBH ?_;refine FW.region<|FL.mv kBB<|FL.mv kBC ?_;obtain ⟨vBI,wBJ,runBK,SBL⟩:=SBw.b1 te39 hAJ.cells hAJ.one;have elsBM:Els (up wa.heap.size HBv) (eL eI 1) 1 [vAI] [xAG]:=(Els.snoc (H:=(up wa.heap.size HBv)) (E:=(eL eI 1)) (k:=1) (c:=[vAI]) (x:=xAG) Els.nil rfl ⟨_,rfl,(hAJ.mono (zac (iAs.tr iBx)))⟩);refine FL.v (E.buildSlice (B1 rfl) runBK) ?_;obtain ⟨xsBN,hzBO,hp⟩:=bnd hp;obtain ⟨vBP,wBS,nBQ,csBR,runBT,SBU,elsBV,ceBW⟩:=SBL.appendO (P:=prog) te39 (i:=2) (j:=0) rfl (els37.mono (zac iBx)) rfl elsBM hzBO;have SBX:St Ha wa HBv wBS [.row 25 1 v27 n28 cs29,.row 25 1 vBP nBQ csBR]:=SBU.drop 0;refine FL.v (E.append rfl rfl runBT) ?_;refine FL.as (v:=vBP) rfl<|FL.nil<|FW.region<|FL.v (E.add kBG rfl) ?_;refine FL.mv (v:=vI (wr (((i33:Nat):Int) + 1))) rfl<|FL.nil ?_;cases hp;exact ⟨rfl,⟨_,_,_,_,SBX,(iAs.tr iBx),elsBV,(zam rfl hj33 (zaF hchk33)),kBA,rfl,kBE,kBF⟩⟩
    ·
     refine FW.condF rfl cBH ?_;refine FW.skip<|FW.region<|FL.v (E.add kBG rfl) ?_;refine FL.mv (v:=vI (wr (((i33:Nat):Int) + 1))) rfl<|FL.nil ?_;cases hp;exact ⟨rfl,⟨_,_,_,_,SBw,(iAs.tr iBx),(els37.mono (zac iBx)),(zam rfl hj33 (zaF hchk33)),kBA,kBB,kBE,kBF⟩⟩
   ·
    exact xAL.elim
 ·
  clear hp hq;rintro s33 fCo wCn ⟨HCk,v34,n35,cs36,SCl,iCm,els37,kCp,kCq,kCr,kCs,kCt⟩;refine FW.sr<|FL.v (E.lss kCp kCt) ?_;refine FL.nil<|FW.seq<|FW.condF rfl (zaV hchk33) ?_;refine FW.exit ?_;exact ⟨nofun,rfl,⟨_,_,_,_,SCl,iCm,els37,kCr⟩⟩
 ·
  clear hq;intro e fCi wCh hD;rcases q33 with s33|x33
  ·
   obtain ⟨rfl,hD⟩:=hD;obtain ⟨HCe,v34,n35,cs36,SCf,iCg,els37,kCj⟩:=hD;replace hp:=el_go hp;refine FW.sr<|FL.mv kCj<|FL.as (v:=v34) rfl<|FL.nil (FW.ret ?_);cases hp;exact ⟨.inr rfl,res1 rfl rfl ⟨_,_,_,_,rfl,(SCf.sel [1] (by decide) rfl),els37⟩⟩
  ·
   exact x33.elim

theorem w_impl_isLiteral {Ha:GH} {wa:World} (hs:Sl Ha wa) (a0:Int) (a1:Int) :
  Calls prog 101 #[vI a0,vI a1] wa (Sc Ha wa (vB (PF.zby a0 a1))):=by
 obtain ⟨r,hp⟩:∃ r,(PF.zby a0 a1)=r:=⟨_,rfl⟩;rw [hp];unfold PF.zby at hp;have S0:=St.init hs;refine zag (N:=14) (args:=[vI a0,vI a1]) func101 rfl rfl rfl ?_;refine FW.sr<|FL.as (v:=vB false) rfl<|FL.nil<|FW.sr<|FL.mv (v:=vI a1) rfl<|FL.v (E.neq rfl rfl) ?_;refine FL.mv (v:=vB (!(a1 == 0))) rfl ?_;refine FL.cut 6 (fun f w=>∃ H:GH,St Ha wa H w []∧Inc Ha H∧f 13=vB (bif (!(a1 == 0)) then (PF.zay a1 (wr (-a0)) a0) else false)) ?_ ?_
 ·
  rcases bcase (!(a1 == 0)) with c30|c30
  ·
   refine FL.y (wY c30) (E.move (v:=vI a1) rfl) ?_;refine FL.y (wY c30) (E.move (v:=vI a0) rfl) ?_;refine FL.y (wY c30) (E.neg rfl) ?_;refine FL.y (wY c30) (E.move (v:=vI a0) rfl) ?_;refine FL.call (wY c30) rfl rfl (E.call call53 (A3 rfl rfl rfl)) (zbV S0.sl a1 (wr (-a0)) a0) ?_;rintro e w31 ⟨rfl,r32⟩;refine ⟨_,rfl,?_⟩;have S33:=S0.call r32;refine FL.v (E.pickT rfl c30 rfl) ?_;exact FL.nil ⟨rfl,_,S33,I0,(congrArg vB (bifT c30).symm)⟩
  ·
   refine FL.n c30<|FL.n c30<|FL.n c30<|FL.n c30<|FL.n c30<|FL.v (E.pickF rfl c30 rfl) ?_;exact FL.nil ⟨rfl,_,S0,I0,(congrArg vB (bifF c30).symm)⟩
 rintro f29 w28 ⟨H25,S26,i27,k34⟩;refine FL.as k34 ?_;refine FL.nil (FW.ret ?_);obtain rfl:=hp;exact ⟨.inr rfl,res1 rfl rfl ⟨rfl,S26.back⟩⟩

theorem w_impl_abs {Ha:GH} {wa:World} (hs:Sl Ha wa) (a0:Int) :
  Calls prog 102 #[vI a0] wa (Sc Ha wa (vI (PF.zaP a0))):=by
 obtain ⟨r,hp⟩:∃ r,(PF.zaP a0)=r:=⟨_,rfl⟩;rw [hp];unfold PF.zaP at hp;have S0:=St.init hs;refine zag (N:=7) (args:=[vI a0]) func102 rfl rfl rfl ?_;refine FW.sr<|FL.as (v:=vI 0) rfl<|FL.nil<|FW.sr<|FL.mv (v:=vI a0) rfl<|FL.mv (v:=vI a0) rfl<|FL.v (E.neg rfl) ?_;refine FL.v (E.max2 rfl rfl) ?_;refine FL.as (v:=vI (mx a0 (wr (-a0)))) rfl<|FL.nil (FW.ret ?_);obtain rfl:=hp;exact ⟨.inr rfl,res1 rfl rfl ⟨rfl,S0.back⟩⟩

theorem w_impl_varsOk {Ha:GH} {wa:World} (hs:Sl Ha wa) (a0:Int) :
  Calls prog 78 #[vI a0] wa (Sc Ha wa (vB (PF.zbh a0))):=by
 obtain ⟨r,hp⟩:∃ r,(PF.zbh a0)=r:=⟨_,rfl⟩;rw [hp];unfold PF.zbh at hp;have S0:=St.init hs;refine zag (N:=5) (args:=[vI a0]) func78 rfl rfl rfl ?_;refine FW.sr<|FL.as (v:=vB false) rfl<|FL.nil<|FW.sr<|FL.mv (v:=vI a0) rfl ?_;refine FL.c (E.call call53 (A3 rfl rfl rfl)) (zbV S0.sl a0 0 12) ?_;rintro e w21 ⟨rfl,r22⟩;refine ⟨_,rfl,?_⟩;have S23:=S0.call r22;refine FL.as (v:=vB (PF.zay a0 0 12)) rfl<|FL.nil (FW.ret ?_);obtain rfl:=hp;exact ⟨.inr rfl,res1 rfl rfl ⟨rfl,S23.back⟩⟩

set_option maxHeartbeats 4000000 in
theorem w_impl_IsClause {Ha:GH} {wa:World} (hs:Sl Ha wa) (a0:Int) (v1:Value) (a1:List Int) (p1:RSl Ha eI 1 v1 a1) {r:Bool} (hp:(PF.zcO a0 a1)=some r) :
  Calls prog 77 #[vI a0,v1] wa (Sc Ha wa (vB r)):=by
 unfold PF.zcO at hp;have S0:=St.init hs;refine zag (N:=36) (args:=[vI a0,v1]) func77 rfl rfl rfl ?_;refine FW.sr<|FL.as (v:=vB false) rfl<|FL.nil (FW.seq (FW.sr ?_));refine FL.mv (v:=v1) rfl<|FL.v (E.lenP te25 rfl p1) ?_;refine FL.mv (v:=vI 0) rfl<|FL.nil ?_;obtain ⟨q22,hq,hp⟩:=bndR hp;refine FW.block ?_;refine FW.mono (FW.forL (S:=Unit) (X:=Bool) (fun (i22:Nat) (s22:Unit) f w=>∃ H:GH,St Ha wa H w []∧Inc Ha H∧f 9=vI ((i22:Nat):Int)∧f 0=vI a0∧f 1=v1∧f 7=v1∧f 8=vI (len a1)) (fun q e f w=>match q with|.go s22=>e=Exit.exit 0∧(∃ H:GH,St Ha wa H w []∧Inc Ha H∧f 0=vI a0)|.rt x=>((e=Exit.ret)∧(fun e f w=>(e=Exit.normal∨e=Exit.ret)∧∀ a,Fr (δ:=[]) 36 a f→∃ v,(results Tryz.f77 a.tmps).run prog w=.ok v w∧(Sc Ha wa (vB x)) (.returned v) w) e f w)) hq ⟨_,S0,I0,rfl,rfl,rfl,rfl,rfl⟩ ?_ ?_) ?_
 ·
  clear hp hq;rintro i22 y21 s22 fAl wAk ⟨HAh,SAi,iAj,kAm,kAn,kAo,kAp,kAq⟩ hx22 oBN hp;refine FW.sr<|FL.v (E.lssT kAm kAq (zar hx22)) ?_;refine FL.nil<|FW.seq<|FW.condT rfl rfl ?_;refine FW.skip (FW.seq (FW.block (FW.sr ?_)));refine FL.mv kAm ?_;obtain ⟨pAr,csAs,ptAt,lAu,atAv,relAw⟩:=p1.at (zal hx22);obtain rfl:=zak relAw;refine FL.v (E.indexAddr te25 kAp kAm ptAt) ?_;refine FL.v (E.load rfl (zaf isAgg3 ((atAv.mono iAj).now SAi.sl) rfl)) ?_;refine FL.as (v:=vI ((i22:Nat):Int)) rfl<|FL.as (v:=vI y21) rfl<|FL.nil<|FW.seq ?_;refine FW.draw (fun w'=>Run wAk.heap.size HAh wAk HAh w') (by kernel_rfl) (by kernel_rfl) (zaz SAi.sl) ?_;refine FD.v (fun _ z=>(E.move kAn)) ?_;refine FD.v (fun _ z=>(E.move (v:=vI y21) rfl)) ?_;refine FD.call rfl rfl rfl (fun _ z=>(E.call call101 (A2 rfl rfl))) (fun _ z=>Calls.cls z (w_impl_isLiteral (SAi.call z).sl a0 y21)) ?_;refine FD.v (fun _ z=>(E.not rfl)) ?_;refine FD.v (fun _ z=>(E.move (v:=vB (!(PF.zby a0 y21))) rfl)) ?_;obtain ⟨t164,hqtB2,hp⟩:=bnd hp;refine FD.cut 14 (fun f=>f 0=vI a0∧f 1=v1∧f 7=v1∧f 8=vI (len a1)∧f 9=vI ((i22:Nat):Int)∧f 32=vB t164) ?_ ?_
  ·
   clear hp;have hp:=hqtB2;clear hqtB2;rcases ifB hp with ⟨cB8,hp⟩|⟨cB8,hp⟩
   ·
    refine FD.n cB8<|FD.n cB8<|FD.n cB8<|FD.skip (zap rfl rfl rfl) rfl ?_;refine FD.skip (zap rfl rfl rfl) rfl ?_;refine FD.skip (zap rfl rfl rfl) rfl ?_;refine FD.skip (zap rfl rfl rfl) rfl ?_;refine FD.skip (zap rfl rfl rfl) rfl ?_;refine FD.skip (zap rfl rfl rfl) rfl ?_;refine FD.skip (zap rfl rfl rfl) rfl ?_;refine FD.skip (zap rfl rfl rfl) rfl ?_;refine FD.skip (zap rfl rfl rfl) rfl ?_;refine FD.n cB8 ?_;cases hp;refine FD.v (fun _ z=>(E.pickT rfl cB8 rfl)) ?_;exact FD.nil ⟨kAn,kAo,kAp,kAq,kAm,rfl⟩
   ·
    refine FD.y (wY cB8) (fun _ z=>(E.move (v:=vI ((i22:Nat):Int)) rfl)) ?_;refine FD.y (wY cB8) (fun _ z=>(E.gtr rfl rfl)) ?_;refine FD.y (wY cB8) (fun _ z=>(E.move (v:=vB (decide (0 < ((i22:Nat):Int)))) rfl)) ?_;obtain ⟨t179,hqtBh,hp⟩:=bnd hp;refine FD.cut 10 (fun f=>f 0=vI a0∧f 1=v1∧f 7=v1∧f 8=vI (len a1)∧f 9=vI ((i22:Nat):Int)∧f 18=vB (!(PF.zby a0 y21))∧f 31=vB t179) ?_ ?_
    ·
     clear hp;have hp:=hqtBh;clear hqtBh;rcases ifB hp with ⟨cBn,hp⟩|⟨cBn,hp⟩
     ·
      refine FD.y (wY cBn) (fun _ z=>(E.move (v:=vI y21) rfl)) ?_;refine FD.call (wY cBn) rfl rfl (fun _ z=>(E.call call102 (A1 rfl))) (fun _ z=>Calls.cls z (w_impl_abs (SAi.call z).sl y21)) ?_;refine FD.y (wY cBn) (fun _ z=>(E.move kAo)) ?_;refine FD.y (wY cBn) (fun _ z=>(E.move (v:=vI ((i22:Nat):Int)) rfl)) ?_;refine FD.y (wY cBn) (fun _ z=>(E.sub rfl rfl)) ?_;obtain ⟨xBu,hxBv,hp⟩:=bnd hp;obtain ⟨pBo,csBp,ptBq,lBr,atBs,relBt⟩:=p1.at hxBv;obtain rfl:=zak relBt;refine FD.y (wY cBn) (fun _ z=>(E.indexAddr te25 rfl rfl ptBq)) ?_;refine FD.y (wY cBn) (fun _ z=>(E.load rfl (zaf isAgg3 ((atBs.mono iAj).now (SAi.call z).sl) rfl))) ?_;refine FD.call (wY cBn) rfl rfl (fun _ z=>(E.call call102 (A1 rfl))) (fun _ z=>Calls.cls z (w_impl_abs (SAi.call z).sl xBu)) ?_;refine FD.y (wY cBn) (fun _ z=>(E.leq rfl rfl)) ?_;cases hp;refine FD.y (wY cB8) (fun _ z=>(E.pickT rfl cBn rfl)) ?_;exact FD.nil ⟨kAn,kAo,kAp,kAq,kAm,rfl,rfl⟩
     ·
      refine FD.n cBn<|FD.n cBn<|FD.n cBn<|FD.n cBn<|FD.n cBn<|FD.n cBn<|FD.n cBn<|FD.n cBn<|FD.n cBn ?_;cases hp;refine FD.y (wY cB8) (fun _ z=>(E.pickF rfl cBn rfl)) ?_;exact FD.nil ⟨kAn,kAo,kAp,kAq,kAm,rfl,rfl⟩
    rintro fBm ⟨kBw,kBx,kBy,kBz,kBA,kBB,kBC⟩;cases hp;refine FD.v (fun _ z=>(E.pickF kBB cB8 kBC)) ?_;exact FD.nil ⟨kBw,kBx,kBy,kBz,kBA,rfl⟩
  rintro fB7 ⟨kBD,kBE,kBF,kBG,kBH,kBI⟩;refine FD.nil ?_;intro wBJ rBL;have SBK:=SAi.call rBL;rcases ifB hp with ⟨cBM,hp⟩|⟨cBM,hp⟩
  ·
   refine FW.condT kBI cBM ?_;refine FW.sr<|FL.as (v:=vB false) rfl<|FL.nil (FW.ret ?_);cases hp;exact ⟨nofun,rfl,⟨.inr rfl,res1 rfl rfl ⟨rfl,SBK.back⟩⟩⟩
  ·
   refine FW.condF kBI cBM ?_;refine FW.skip<|FW.region<|FL.v (E.add kBH rfl) ?_;refine FL.mv (v:=vI (wr (((i22:Nat):Int) + 1))) rfl<|FL.nil ?_;cases hp;exact ⟨rfl,⟨_,SBK,iAj,(zam rfl (zao hx22) (p1.mono iAj).le),kBD,kBE,kBF,kBG⟩⟩
 ·
  clear hp hq;rintro s22 fC1 wC0 ⟨HBX,SBY,iBZ,kC2,kC3,kC4,kC5,kC6⟩;refine FW.sr<|FL.v (E.lss kC2 kC6) ?_;refine FL.nil<|FW.seq<|FW.condF rfl zas ?_;refine FW.exit ?_;exact ⟨nofun,rfl,⟨_,SBY,iBZ,kC3⟩⟩
 ·
  clear hq;intro e fBS wBR hD;rcases q22 with s22|x22
  ·
   obtain ⟨rfl,hD⟩:=hD;obtain ⟨HBO,SBP,iBQ,kBT⟩:=hD;replace hp:=el_go hp;refine FW.sr<|FL.mv kBT ?_;refine FL.c (E.call call78 (A1 rfl)) (w_impl_varsOk SBP.sl a0) ?_;rintro e wBU ⟨rfl,rBV⟩;refine ⟨_,rfl,?_⟩;have SBW:=SBP.call rBV;refine FL.as (v:=vB (PF.zbh a0)) rfl<|FL.nil (FW.ret ?_);cases hp;exact ⟨.inr rfl,res1 rfl rfl ⟨rfl,SBW.back⟩⟩
  ·
   obtain ⟨he,hL⟩:=hD;replace hp:=el_rt hp;cases hp;subst he;exact hL

set_option maxHeartbeats 4000000 in
theorem w_impl_IsCnf {Ha:GH} {wa:World} (hs:Sl Ha wa) (a0:Cnf) (v0_1:Value) (p0_1:RSl Ha (eL eI 1) 1 v0_1 a0.clauses) {r:Bool} (hp:(PF.zcc a0)=some r) :
  Calls prog 65 #[vA #[vI a0.vars,v0_1]] wa (Sc Ha wa (vB r)):=by
 unfold PF.zcc at hp;have S0:=St.init hs;refine zag (N:=27) (args:=[vA #[vI a0.vars,v0_1]]) func65 rfl rfl rfl ?_;refine FW.sr ?_;obtain ⟨b21,w22,run23,S24⟩:=S0.box (P:=prog) 44 [vI a0.vars,v0_1] (v:=vA #[vI a0.vars,v0_1]) rfl (oC rfl (oC p0_1.one zab));refine FL.v (E.box rfl run23) ?_;obtain ⟨H25,S26,i27,at28⟩:=S24.sealBox (i:=0) (l':=[]) rfl rfl;refine FL.as (v:=vB false) rfl<|FL.nil (FW.seq (FW.sr ?_));refine FL.v (E.fieldAddr tf44_1 rfl) ?_;refine FL.v (E.load rfl (zad isAgg39 (at28.now S26.sl) rfl)) ?_;refine FL.v (E.lenP te39 rfl p0_1) ?_;refine FL.mv (v:=vI 0) rfl<|FL.nil ?_;obtain ⟨q30,hq,hp⟩:=bndR hp;refine FW.block ?_;refine FW.mono (FW.forL (S:=Unit) (X:=Bool) (fun (i30:Nat) (s30:Unit) f w=>∃ H:GH,St Ha wa H w []∧Inc H25 H∧f 8=vI ((i30:Nat):Int)∧f 1=vK b21∧f 6=v0_1∧f 7=vI (len a0.clauses)) (fun q e f w=>match q with|.go s30=>e=Exit.exit 0∧(∃ H:GH,St Ha wa H w []∧Inc H25 H∧f 1=vK b21)|.rt x=>((e=Exit.ret)∧(fun e f w=>(e=Exit.normal∨e=Exit.ret)∧∀ a,Fr (δ:=[]) 27 a f→∃ v,(results Tryz.f65 a.tmps).run prog w=.ok v w∧(Sc Ha wa (vB x)) (.returned v) w) e f w)) hq ⟨_,S26,I0,rfl,rfl,rfl,rfl⟩ ?_ ?_) ?_
 ·
  clear hp hq;rintro i30 y29 s30 f58 w57 ⟨H54,S55,i56,k59,k60,k61,k62⟩ hx30 o77 hp;refine FW.sr<|FL.v (E.lssT k59 k62 (zar hx30)) ?_;refine FL.nil<|FW.seq<|FW.condT rfl rfl ?_;refine FW.skip (FW.seq (FW.block (FW.sr ?_)));obtain ⟨p63,cs64,pt65,l66,at67,rel68⟩:=p0_1.at (zal hx30);obtain ⟨v69,rfl,h70⟩:=zaE rel68;refine FL.v (E.indexAddr te39 k61 k59 pt65) ?_;refine FL.v (E.load rfl (zaf isAgg25 ((at67.mono (i27.tr i56)).now S55.sl) rfl)) ?_;refine FL.as (v:=v69) rfl<|FL.nil<|FW.sr<|FL.v (E.fieldAddr tf44_0 k60) ?_;refine FL.v (E.load rfl (zad isAgg3 ((at28.mono i56).now S55.sl) rfl)) ?_;refine FL.mv (v:=v69) rfl ?_;obtain ⟨r71,hr72,hp⟩:=bnd hp;refine FL.c (E.call call77 (A2 rfl rfl)) (w_impl_IsClause S55.sl a0.vars v69 y29 (h70.mono (i27.tr i56)) hr72) ?_;rintro e w73 ⟨rfl,r74⟩;refine ⟨_,rfl,?_⟩;have S75:=S55.call r74;refine FL.v (E.not rfl) ?_;refine FL.nil ?_;rcases ifB hp with ⟨c76,hp⟩|⟨c76,hp⟩
  ·
   refine FW.condT rfl c76 ?_;refine FW.sr<|FL.as (v:=vB false) rfl<|FL.nil (FW.ret ?_);cases hp;exact ⟨nofun,rfl,⟨.inr rfl,res1 rfl rfl ⟨rfl,S75.back⟩⟩⟩
  ·
   refine FW.condF rfl c76 ?_;refine FW.skip<|FW.region<|FL.v (E.add k59 rfl) ?_;refine FL.mv (v:=vI (wr (((i30:Nat):Int) + 1))) rfl<|FL.nil ?_;cases hp;exact ⟨rfl,⟨_,S75,i56,(zam rfl (zao hx30) (p0_1.mono (i27.tr i56)).le),k60,k61,k62⟩⟩
 ·
  clear hp hq;rintro s30 f99 w98 ⟨H95,S96,i97,kA0,kA1,kA2,kA3⟩;refine FW.sr<|FL.v (E.lss kA0 kA3) ?_;refine FL.nil<|FW.seq<|FW.condF rfl zas ?_;refine FW.exit ?_;exact ⟨nofun,rfl,⟨_,S96,i97,kA1⟩⟩
 ·
  clear hq;intro e f82 w81 hD;rcases q30 with s30|x30
  ·
   obtain ⟨rfl,hD⟩:=hD;obtain ⟨H78,S79,i80,k83⟩:=hD;replace hp:=el_go hp;refine FW.sr<|FL.v (E.fieldAddr tf44_0 k83) ?_;refine FL.v (E.load rfl (zad isAgg3 ((at28.mono i80).now S79.sl) rfl)) ?_;refine FL.c (E.call call78 (A1 rfl)) (w_impl_varsOk S79.sl a0.vars) ?_;rintro e w84 ⟨rfl,r85⟩;refine ⟨_,rfl,?_⟩;have S86:=S79.call r85;refine FL.mv (v:=vB (PF.zbh a0.vars)) rfl ?_;refine FL.cut 5 (fun f w=>∃ H:GH,St Ha wa H w []∧Inc H78 H∧f 26=vB (bif (PF.zbh a0.vars) then (decide ((len a0.clauses)≤60)) else false)) ?_ ?_
   ·
    rcases bcase (PF.zbh a0.vars) with c93|c93
    ·
     refine FL.y (wY c93) (E.fieldAddr tf44_1 k83) ?_;refine FL.y (wY c93) (E.load rfl (zad isAgg39 ((at28.mono i80).now S86.sl) rfl)) ?_;refine FL.y (wY c93) (E.lenP te39 rfl p0_1) ?_;refine FL.y (wY c93) (E.leq rfl rfl) ?_;refine FL.v (E.pickT rfl c93 rfl) ?_;exact FL.nil ⟨rfl,_,S86,I0,(congrArg vB (bifT c93).symm)⟩
    ·
     refine FL.n c93<|FL.n c93<|FL.n c93<|FL.n c93<|FL.v (E.pickF rfl c93 rfl) ?_;exact FL.nil ⟨rfl,_,S86,I0,(congrArg vB (bifF c93).symm)⟩
   rintro f92 w91 ⟨H88,S89,i90,k94⟩;refine FL.as k94 ?_;refine FL.nil (FW.ret ?_);cases hp;exact ⟨.inr rfl,res1 rfl rfl ⟨rfl,S89.back⟩⟩
  ·
   obtain ⟨he,hL⟩:=hD;replace hp:=el_rt hp;cases hp;subst he;exact hL

@[reducible] def p_impl_family_cnf (H0:GH) (w0:World) (Ha:GH) (L:List MO) (b0:Nat) (r:(Cnf×Bool×family)):Ending→World→Prop :=
 fun e w'=>∃ H':GH,∃ v0_1:Value,∃ v0_1r:Value,e=.returned (Value.tuple #[vA #[vI r.1.vars,v0_1],vB r.2.1])∧(St H0 w0 H' w' (.box b0 68 [vI r.2.2.vars,v0_1r]::L)∧Inc Ha H')∧RSl H' (eL eI 1) 1 v0_1 r.1.clauses∧RSl H' (eL eI 1) 1 v0_1r r.2.2.clauses
theorem w_impl_family_cnf {H0 Ha:GH} {w0 wa:World} {L:List MO} {a0:family} {b0:Nat} {v0_1:Value} (S0:St H0 w0 Ha wa (.box b0 68 [vI a0.vars,v0_1]::L)) (p0_1:RSl Ha (eL eI 1) 1 v0_1 a0.clauses) {r:(Cnf×Bool×family)} (hp:(PF.zcP a0)=some r) :
  Calls prog 39 #[vK b0] wa (p_impl_family_cnf H0 w0 Ha L b0 r):=by
 unfold PF.zcP at hp;refine zag (N:=19) (args:=[vK b0]) func39 rfl rfl rfl ?_;refine FW.sr ?_;obtain ⟨b21,w22,run23,S24⟩:=S0.alloc (P:=prog) 44 [vI 0,vN] zeroValue44 rfl (oC rfl (oC rfl zab));refine FL.v (E.alloc run23) ?_;refine FL.as (v:=vB false) rfl<|FL.nil<|FW.seq ?_;refine FW.drawB (SX H0 w0 Ha (.box b0 68 [vI a0.vars,v0_1]::L)) (fun f w=>∃ H:GH,∃ q39:Addr,∃ v41:Value,St H0 w0 H w (.box b21 44 [vI 0,vN]::.box b0 68 [vI a0.vars,v0_1]::L)∧Inc Ha H∧RSl H (eL eI 1) 1 v41 a0.clauses∧CAt H q39 [vI a0.vars,v41]∧f 2=vK b21∧f 4=vP (q39)) (by kernel_rfl) S24.sl ?_ ?_
 ·
  intro w25 r26;have S27:=S24.call r26;refine FB.go (SP.nil ⟨_,(S27.selT (a:=[.box b21 44 [vI 0,vN],.box b0 68 [vI a0.vars,v0_1]]) (l':=[.box b0 68 [vI a0.vars,v0_1]]) [1] (by decide) rfl),I0⟩) fun sp=>?_;refine FB.r 0 11 1 rfl sp (fun _ z=>(E.move (v:=vK b0) rfl)) (fun sp=>?_);refine FB.r 1 11 3 rfl sp (fun _ z=>(E.nilCheck rfl)) (fun sp=>?_);refine FB.r 2 11 7 rfl sp (fun _ z=>(E.fieldAddr tf68_0 rfl)) (fun sp=>?_);refine FB.r 3 11 15 rfl sp (fun _ z=>(E.load rfl (zad isAgg3 (SX.box_now z (i:=0) rfl) rfl))) (fun sp=>?_);refine FB.r 4 11 31 rfl sp (fun _ z=>(E.move (v:=vK b0) rfl)) (fun sp=>?_);refine FB.r 5 11 63 rfl sp (fun _ z=>(E.nilCheck rfl)) (fun sp=>?_);refine FB.r 6 11 127 rfl sp (fun _ z=>(E.fieldAddr tf68_1 rfl)) (fun sp=>?_);refine FB.r 7 11 255 rfl sp (fun _ z=>(E.load rfl (zad isAgg39 (SX.box_now z (i:=0) rfl) rfl))) (fun sp=>?_);refine FB.r 8 11 511 rfl sp (fun _ z=>(E.build (B2 rfl rfl) (run_build _ 44 #[(0,vI a0.vars),(1,v0_1)] #[vI a0.vars,v0_1] (by obtain ⟨_,_,rfl⟩:=RSl.ln p0_1;rfl)))) (fun sp=>?_);refine FB.all1 (i:=9) (by kernel_rfl) ?_
  ·
   obtain ⟨b28,w29,run30,S31⟩:=S27.alloc (P:=prog) 44 [vI 0,vN] zeroValue44 rfl (oC rfl (oC rfl zab));refine FC.val (l':=(bs 11 1023)) rfl (by kernel_rfl) rfl rfl rfl (E.alloc run30) ?_;refine ⟨(SP.nil ⟨_,(S31.selT (a:=[.box b28 44 [vI 0,vN],.box b21 44 [vI 0,vN],.box b0 68 [vI a0.vars,v0_1]]) (l':=[.box b0 68 [vI a0.vars,v0_1]]) [2] (by decide) rfl),I0⟩),?_⟩;refine FB.all1 (i:=10) (by kernel_rfl) ?_
   ·
    obtain ⟨w32,run33,S34⟩:=S31.s0 0 [vI a0.vars,v0_1] (l':=(.box b28 44 [vI a0.vars,v0_1]::.box b21 44 [vI 0,vN]::.box b0 68 [vI a0.vars,v0_1]::L)) sizeOf44 (oC rfl (oC p0_1.one zab));refine FC.act (l':=(bs 11 2047)) rfl (by kernel_rfl) rfl rfl (E.store rfl rfl run33) ?_;obtain ⟨H35,S36,i37,at38⟩:=S34.sealBox (i:=0) (l':=(.box b21 44 [vI 0,vN]::.box b0 68 [vI a0.vars,v0_1]::L)) rfl rfl;refine ⟨(SP.nil ⟨_,(S36.selT (a:=[.box b21 44 [vI 0,vN],.box b0 68 [vI a0.vars,v0_1]]) (l':=[.box b0 68 [vI a0.vars,v0_1]]) [1] (by decide) rfl),i37⟩),?_⟩;exact FB.done (by kernel_rfl) ⟨_,_,_,S36,i37,(p0_1.mono i37),at38,rfl,rfl⟩
 ·
  rintro f47 w46 ⟨H43,q39,v41,S44,i45,h42,at40,k48,k49⟩;refine FW.seq<|FW.sr<|FL.v (E.load k49 (zah isAgg44 sizeOf44 (at40.now S44.sl) rfl)) ?_;obtain ⟨r50,hr51,hp⟩:=bnd hp;refine FL.c (E.call call65 (A1 rfl)) (w_impl_IsCnf S44.sl (Cnf.mk a0.vars a0.clauses) v41 h42 hr51) ?_;rintro e w52 ⟨rfl,r53⟩;refine ⟨_,rfl,?_⟩;have S54:=S44.call r53;refine FL.v (E.not rfl) ?_;refine FL.nil ?_;rcases ifB hp with ⟨c55,hp⟩|⟨c55,hp⟩
  ·
   refine FW.condT rfl c55 ?_;refine FW.sr<|FL.v (E.build (B0) (run_build _ 44 #[] #[vI 0,vN] (by rfl))) ?_;obtain ⟨w56,run57,S58⟩:=S54.s0 0 [vI 0,vN] (l':=(.box b21 44 [vI 0,vN]::.box b0 68 [vI a0.vars,v0_1]::L)) sizeOf44 (oC rfl (oC rfl zab));refine FL.act rfl rfl (E.store k48 rfl run57) ?_;refine FL.as (v:=vB false) rfl<|FL.nil (FW.ret ?_);cases hp;exact ⟨.inr rfl,resC2 rfl k48 (zax isAgg44 sizeOf44 (S58.box_now (i:=0) rfl) rfl) rfl ⟨_,_,_,rfl,⟨(S58.selT (a:=[.box b21 44 [vI 0,vN],.box b0 68 [vI a0.vars,v0_1]]) (l':=[.box b0 68 [vI a0.vars,v0_1]]) [1] (by decide) rfl),i45⟩,(RSl.nil _ _ _),(p0_1.mono i45)⟩⟩
  ·
   refine FW.condF rfl c55 ?_;refine FW.skip<|FW.sr<|FL.v (E.load k49 (zah isAgg44 sizeOf44 (at40.now S54.sl) rfl)) ?_;obtain ⟨w59,run60,S61⟩:=S54.s0 0 [vI a0.vars,v41] (l':=(.box b21 44 [vI a0.vars,v41]::.box b0 68 [vI a0.vars,v0_1]::L)) sizeOf44 (oC rfl (oC h42.one zab));refine FL.act rfl rfl (E.store k48 rfl run60) ?_;refine FL.as (v:=vB true) rfl<|FL.nil (FW.ret ?_);cases hp;exact ⟨.inr rfl,resC2 rfl k48 (zax isAgg44 sizeOf44 (S61.box_now (i:=0) rfl) rfl) rfl ⟨_,_,_,rfl,⟨(S61.selT (a:=[.box b21 44 [vI a0.vars,v41],.box b0 68 [vI a0.vars,v0_1]]) (l':=[.box b0 68 [vI a0.vars,v0_1]]) [1] (by decide) rfl),i45⟩,h42,(p0_1.mono i45)⟩⟩

@[reducible] def p_impl_ParityCnf (Ha:GH) (wa:World) (r:(Cnf×Bool)):Ending→World→Prop :=
 fun e w'=>∃ H':GH,∃ v0_1:Value,e=.returned (Value.tuple #[vA #[vI r.1.vars,v0_1],vB r.2])∧Run wa.heap.size Ha wa H' w'∧RSl H' (eL eI 1) 1 v0_1 r.1.clauses
set_option maxHeartbeats 4000000 in
theorem w_impl_ParityCnf {Ha:GH} {wa:World} (hs:Sl Ha wa) (a0:zae) (v0_1:Value) (p0_1:RSl Ha eI2 2 v0_1 a0.edges) (v0_2:Value) (p0_2:RSl Ha eI 1 v0_2 a0.charges) {r:(Cnf×Bool)} (hp:(PF.zcQ a0)=some r) :
  Calls prog 17 #[vA #[vI a0.vertices,v0_1,v0_2]] wa (p_impl_ParityCnf Ha wa r):=by
 unfold PF.zcQ at hp;have S0:=St.init hs;refine zag (N:=58) (args:=[vA #[vI a0.vertices,v0_1,v0_2]]) func17 rfl rfl rfl ?_;refine FW.sr ?_;obtain ⟨b21,w22,run23,S24⟩:=S0.box (P:=prog) 27 [vI a0.vertices,v0_1,v0_2] (v:=vA #[vI a0.vertices,v0_1,v0_2]) rfl (oC rfl (oC p0_1.one (oC p0_2.one zab)));refine FL.v (E.box rfl run23) ?_;obtain ⟨H25,S26,i27,at28⟩:=S24.sealBox (i:=0) (l':=[]) rfl rfl;obtain ⟨b29,w30,run31,S32⟩:=S26.alloc (P:=prog) 44 [vI 0,vN] zeroValue44 rfl (oC rfl (oC rfl zab));refine FL.v (E.alloc run31) ?_;refine FL.as (v:=vB false) rfl<|FL.nil (FW.seq (FW.sr ?_));refine FL.v (E.load rfl (zah isAgg27 sizeOf27 (at28.now S32.sl) rfl)) ?_;obtain ⟨r33,hr34,hp⟩:=bnd hp;refine FL.c (E.call call23 (A1 rfl)) (zbW S32.sl a0 v0_1 (p0_1.mono i27) v0_2 (p0_2.mono i27) hr34) ?_;rintro e w35 ⟨rfl,r36⟩;refine ⟨_,rfl,?_⟩;have S37:=S32.call r36;refine FL.v (E.not rfl) ?_;refine FL.nil ?_;rcases ifB hp with ⟨c38,hp⟩|⟨c38,hp⟩
 ·
  refine FW.condT rfl c38 ?_;refine FW.sr<|FL.v (E.build (B0) (run_build _ 44 #[] #[vI 0,vN] (by rfl))) ?_;obtain ⟨w39,run40,S41⟩:=S37.s0 0 [vI 0,vN] (l':=[.box b29 44 [vI 0,vN]]) sizeOf44 (oC rfl (oC rfl zab));refine FL.act rfl rfl (E.store rfl rfl run40) ?_;refine FL.as (v:=vB false) rfl<|FL.nil (FW.ret ?_);cases hp;exact ⟨.inr rfl,resC2 rfl rfl (zax isAgg44 sizeOf44 (S41.box_now (i:=0) rfl) rfl) rfl ⟨_,_,rfl,S41.run,(RSl.nil _ _ _)⟩⟩
 ·
  refine FW.condF rfl c38 ?_;refine FW.skip<|FW.sr<|FL.v (E.fieldAddr zaq rfl) ?_;refine FL.v (E.load rfl (zad isAgg24 (at28.now S37.sl) rfl)) ?_;refine FL.v (E.lenP te24 rfl p0_1) ?_;refine FL.v (E.build (B1 rfl) (run_build _ 68 #[(0,vI (len a0.edges))] #[vI (len a0.edges),vN] (by rfl))) ?_;have S46:=S37.nil 25 1;have els47:Els (up wa.heap.size H25) (eL eI 1) 1 [] []:=Els.nil;obtain ⟨b42,w43,run44,S45⟩:=S46.box (P:=prog) 68 [vI (len a0.edges),(vN)] (v:=vA #[vI (len a0.edges),vN]) rfl (oC rfl (oC (Ln.one (S46.row_ln (i:=0) rfl)) zab));refine FL.v (E.box rfl run44) ?_;refine FL.as (v:=vK b42) rfl<|FL.nil (FW.seq (FW.sr ?_));refine FL.v (E.fieldAddr zaS rfl) ?_;refine FL.v (E.load rfl (zad isAgg25 (at28.now S45.sl) rfl)) ?_;refine FL.v (E.lenP te25 rfl p0_2) ?_;refine FL.mv (v:=vI 0) rfl<|FL.nil ?_;obtain ⟨q49,hq,hp⟩:=bndR hp;refine FW.block ?_;refine FW.mono (FW.forL (S:=(List (List Int))) (X:=Empty) (fun (i49:Nat) (s49:(List (List Int))) f w=>∃ H:GH,∃ v50:Value,∃ n51:Nat,∃ cs52:List Value,St Ha wa H w [.box b42 68 [vI (len a0.edges),v50],.row 25 1 v50 n51 cs52,.box b29 44 [vI 0,vN]]∧Inc H25 H∧Els (up wa.heap.size H) (eL eI 1) 1 cs52 s49∧f 22=vI ((i49:Nat):Int)∧f 1=vK b21∧f 2=vK b29∧f 4=vK b42∧f 20=v0_2∧f 21=vI (len a0.charges)) (fun (q:Rs (List (List Int)) Empty) e f w=>match q with|.go s49=>e=Exit.exit 0∧(∃ H:GH,∃ v50:Value,∃ n51:Nat,∃ cs52:List Value,St Ha wa H w [.box b42 68 [vI (len a0.edges),v50],.row 25 1 v50 n51 cs52,.box b29 44 [vI 0,vN]]∧Inc H25 H∧Els (up wa.heap.size H) (eL eI 1) 1 cs52 s49∧f 2=vK b29∧f 4=vK b42)|.rt x=>x.elim) hq ⟨_,_,_,_,S45,I0,els47,rfl,rfl,rfl,rfl,rfl,rfl⟩ ?_ ?_) ?_
  ·
   clear hp hq;rintro i49 y48 s49 f58 w57 ⟨H54,v50,n51,cs52,S55,i56,els53,k59,k60,k61,k62,k63,k64⟩ hx49 oBJ hp;refine FW.sr<|FL.v (E.lssT k59 k64 (zar hx49)) ?_;refine FL.nil<|FW.seq<|FW.condT rfl rfl ?_;refine FW.skip (FW.seq (FW.block (FW.sr ?_)));refine FL.mv k59 ?_;obtain ⟨p65,cs66,pt67,l69,at70,rel71⟩:=p0_2.at (zal hx49);obtain rfl:=zak rel71;refine FL.v (E.indexAddr te25 k63 k59 pt67) ?_;refine FL.v (E.load rfl (zaf isAgg3 ((at70.mono (i27.tr i56)).now S55.sl) rfl)) ?_;refine FL.as (v:=vI ((i49:Nat):Int)) rfl<|FL.as (v:=vI y48) rfl<|FL.nil<|FW.sr<|FL.as (v:=vN) rfl<|FL.nil (FW.seq (FW.sr ?_));refine FL.v (E.load k60 (zah isAgg27 sizeOf27 ((at28.mono i56).now S55.sl) rfl)) ?_;refine FL.mv (v:=vI ((i49:Nat):Int)) rfl ?_;obtain ⟨r72,hr73,hp⟩:=bnd hp;refine FL.c (E.call call37 (A2 rfl rfl)) (zdg S55.sl a0 v0_1 (p0_1.mono (i27.tr i56)) v0_2 (p0_2.mono (i27.tr i56)) ((i49:Nat):Int) hr73) ?_;rintro e w75 ⟨H74,v78,n79,cs80,rfl,r77,els81⟩;refine ⟨_,rfl,?_⟩;have els81:=els81.mono (up_le S55.size);have S76:=S55.join (l':=[.row 3 1 v78 n79 cs80,.box b42 68 [vI (len a0.edges),v50],.row 25 1 v50 n51 cs52,.box b29 44 [vI 0,vN]]) r77 rfl;refine FL.v (E.lenO te25 rfl S76 (i:=0) rfl els81 (by decide)) ?_;refine FL.mv (v:=vI 0) rfl<|FL.nil ?_;obtain ⟨m82,hchk83,hp⟩:=bnd hp;obtain ⟨q83,hq,hp⟩:=bndR hp;refine FW.block ?_;refine FW.mono (FW.forR (S:=(List Int)) (X:=Empty) (fun (i83:Nat) (s83:(List Int)) f w=>∃ H:GH,∃ v84:Value,∃ n85:Nat,∃ cs86:List Value,St Ha wa H w [.row 3 1 v78 n79 cs80,.box b42 68 [vI (len a0.edges),v50],.row 25 1 v50 n51 cs52,.box b29 44 [vI 0,vN],.row 3 1 v84 n85 cs86]∧Inc H74 H∧Els (up wa.heap.size H) eI 1 cs86 s83∧f 31=vI ((i83:Nat):Int)∧f 1=vK b21∧f 2=vK b29∧f 4=vK b42∧f 6=vI y48∧f 7=v84∧f 20=v0_2∧f 21=vI (len a0.charges)∧f 22=vI ((i49:Nat):Int)∧f 29=v78∧f 30=vI (len r72)) (fun (q:Rs (List Int) Empty) e f w=>match q with|.go s83=>e=Exit.exit 2∧(∃ H:GH,∃ v84:Value,∃ n85:Nat,∃ cs86:List Value,St Ha wa H w [.row 3 1 v78 n79 cs80,.box b42 68 [vI (len a0.edges),v50],.row 25 1 v50 n51 cs52,.box b29 44 [vI 0,vN],.row 3 1 v84 n85 cs86]∧Inc H74 H∧Els (up wa.heap.size H) eI 1 cs86 s83∧f 1=vK b21∧f 2=vK b29∧f 4=vK b42∧f 6=vI y48∧f 7=v84∧f 20=v0_2∧f 21=vI (len a0.charges)∧f 22=vI ((i49:Nat):Int))|.rt x=>x.elim) hq ⟨_,_,_,_,((S76.nil 3 1).sel [1,2,3,4,0] (by decide) rfl),I0,Els.nil,rfl,k60,k61,k62,rfl,rfl,k63,k64,k59,rfl,rfl⟩ ?_ ?_) ?_
   ·
    clear hp hq;rintro i83 s83 f92 w91 ⟨H88,v84,n85,cs86,S89,i90,els87,k93,k94,k95,k96,k97,k98,k99,kA0,kA1,kA2,kA3⟩ hi83 hj83 oAs hp;refine FW.sr<|FL.v (E.lssT k93 kA3 (zaU hj83 hchk83)) ?_;refine FL.nil<|FW.seq<|FW.condT rfl rfl ?_;refine FW.skip (FW.seq (FW.block (FW.sr ?_)));obtain ⟨xAa,hxAb,hp⟩:=bnd hp;obtain ⟨pA4,csA5,ptA6,lA7,atA8,relA9⟩:=S89.row_at (i:=0) rfl els81 (by decide) hxAb;obtain rfl:=zak relA9;refine FL.v (E.indexAddr te25 kA2 k93 ptA6) ?_;refine FL.v (E.load rfl (zaf isAgg3 atA8 rfl)) ?_;refine FL.as (v:=vI xAa) rfl<|FL.nil<|FW.region<|FL.mv k98<|FL.mv (v:=vI xAa) rfl<|FL.v (E.add rfl rfl) ?_;obtain ⟨vAc,wAd,runAe,SAf,elsAg⟩:=S89.ints (P:=prog) te25 (up wa.heap.size H88) 1 [(wr (xAa + 1))];refine FL.v (E.buildSlice (B1 rfl) runAe) ?_;obtain ⟨xsAh,hzAi,hp⟩:=bnd hp;obtain ⟨vAj,wAm,nAk,csAl,runAn,SAo,elsAp,ceAq⟩:=SAf.appendO (P:=prog) te25 (i:=5) (j:=0) rfl els87 rfl elsAg hzAi;have SAr:St Ha wa H88 wAm [.row 3 1 v78 n79 cs80,.box b42 68 [vI (len a0.edges),v50],.row 25 1 v50 n51 cs52,.box b29 44 [vI 0,vN],.row 3 1 vAj nAk csAl]:=SAo.drop 0;refine FL.v (E.append rfl rfl runAn) ?_;refine FL.as (v:=vAj) rfl<|FL.nil<|FW.region<|FL.v (E.add k93 rfl) ?_;refine FL.mv (v:=vI (wr (((i83:Nat):Int) + 1))) rfl<|FL.nil ?_;cases hp;exact ⟨rfl,⟨_,_,_,_,SAr,i90,elsAp,(zam rfl hj83 (zaF hchk83)),k94,k95,k96,k97,rfl,k99,kA0,kA1,kA2,kA3⟩⟩
   ·
    clear hp hq;rintro s83 fBx wBw ⟨HBt,v84,n85,cs86,SBu,iBv,els87,kBy,kBz,kBA,kBB,kBC,kBD,kBE,kBF,kBG,kBH,kBI⟩;refine FW.sr<|FL.v (E.lss kBy kBI) ?_;refine FL.nil<|FW.seq<|FW.condF rfl (zaV hchk83) ?_;refine FW.exit ?_;exact ⟨nofun,rfl,⟨_,_,_,_,SBu,iBv,els87,kBz,kBA,kBB,kBC,kBD,kBE,kBF,kBG⟩⟩
   ·
    clear hq;intro e fAx wAw hD;rcases q83 with s83|x83
    ·
     obtain ⟨rfl,hD⟩:=hD;obtain ⟨HAt,v84,n85,cs86,SAu,iAv,els87,kAy,kAz,kAA,kAB,kAC,kAD,kAE,kAF⟩:=hD;replace hp:=el_go hp;obtain ⟨rAO,hrAP,hp⟩:=bnd hp;obtain ⟨xsB1,hzB2,hp⟩:=bnd hp;refine FW.drawB (Sl HAt) (fun f w=>∃ H:GH,∃ vBe:Value,∃ nBf:Nat,∃ csBg:List Value,St Ha wa H w [.box b42 68 [vI (len a0.edges),vBe],.row 25 1 vBe nBf csBg,.box b29 44 [vI 0,vN]]∧Inc HAt H∧Els (up wa.heap.size H) (eL eI 1) 1 csBg xsB1∧f 1=vK b21∧f 2=vK b29∧f 4=vK b42∧f 20=v0_2∧f 21=vI (len a0.charges)∧f 22=vI ((i49:Nat):Int)) (by kernel_rfl) SAu.sl ?_ ?_
     ·
      intro wAG rAH;have SAI:=SAu.call rAH;refine FB.phase [12] (fun w=>WAt w (Addr.add ⟨b42,0,none⟩ 1) [v50]) ?_;refine FB.go (SP.on ((SAI.box_now (i:=1) rfl).sub (j:=1) (n:=1) (c:=[v50]) rfl) (SP.nil SAI.sl)) fun sp=>?_;refine FB.r 0 13 1 rfl sp (fun _ z=>(E.move kAA)) (fun sp=>?_);refine FB.r 1 13 3 rfl sp (fun _ z=>(E.move kAA)) (fun sp=>?_);refine FB.r 2 13 7 rfl sp (fun _ z=>(E.nilCheck rfl)) (fun sp=>?_);refine FB.r 3 13 15 rfl sp (fun _ z=>(E.fieldAddr tf68_1 rfl)) (fun sp=>?_);refine FB.q 4 13 31 0 [9,10,11,12] rfl sp rfl (fun _ z=>(E.load rfl (zaf isAgg39 z rfl))) (fun sp=>?_);refine FB.r 5 13 63 rfl sp (fun _ z=>(E.move kAC)) (fun sp=>?_);refine FB.r 6 13 127 rfl sp (fun _ z=>(E.move kAB)) (fun sp=>?_);refine FB.r 7 13 255 rfl sp (fun _ z=>(E.eql rfl rfl)) (fun sp=>?_);refine FB.all1 (i:=8) (by kernel_rfl) ?_
      ·
       obtain ⟨HAJ,SAK,iAL,hAM,nvAN⟩:=SAI.sealRowU (i:=4) (l':=[.row 3 1 v78 n79 cs80,.box b42 68 [vI (len a0.edges),v50],.row 25 1 v50 n51 cs52,.box b29 44 [vI 0,vN]]) rfl els87 (by decide) rfl;refine FC.call (l':=(bs 13 511)) rfl (by kernel_rfl) rfl rfl rfl (E.call call38 (A2 rfl rfl)) (w_impl_xorClauses SAK.sl v84 s83 (hAM.mono upI) (y48 == 1) hrAP) ?_;rintro e wAR ⟨HAQ,vAW,nAX,csAY,rfl,rAT,elsAZ⟩;refine ⟨_,rfl,?_⟩;obtain ⟨HAU,rAT,hU157⟩:=St.lendX iAL SAI.sl rAT;have nvB0:New HAt csAY:=New.of_up SAI.sl elsAZ.dom;have elsAZ:=elsAZ.mono (hU157.tr (up_le SAI.size));have SAS:=SAI.join (l':=[.row 25 1 vAW nAX csAY,.row 3 1 v78 n79 cs80,.box b42 68 [vI (len a0.edges),v50],.row 25 1 v50 n51 cs52,.box b29 44 [vI 0,vN],.row 3 1 v84 n85 cs86]) rAT rfl;refine ⟨(SP.on ((SAS.box_now (i:=2) rfl).sub (j:=1) (n:=1) (c:=[v50]) rfl) (SP.nil (Sl.of_inc rAT.run.inc SAS.sl))),?_⟩;refine FB.all1 (i:=9) (by kernel_rfl) ?_
       ·
        obtain ⟨vB3,wB6,nB4,csB5,runB7,SB8,elsB9,ceBa⟩:=SAS.appendO (P:=prog) te39 (i:=3) (j:=0) rfl (els53.mono (zac ((r77.run.inc.tr iAv).tr rAT.run.inc))) rfl elsAZ hzB2;refine FC.val (l':=(bs 13 1023)) rfl (by kernel_rfl) rfl rfl rfl (E.append rfl rfl runB7) ?_;refine sgo (SP.on ((SB8.box_now (i:=2) rfl).sub (j:=1) (n:=1) (c:=[v50]) rfl) (SP.nil (Sl.of_inc rAT.run.inc SB8.sl))) fun sp=>?_;refine FB.r 10 13 2047 rfl sp (fun _ z=>(E.nilCheck rfl)) (fun sp=>?_);refine FB.r 11 13 4095 rfl sp (fun _ z=>(E.fieldAddr tf68_1 rfl)) (fun sp=>?_);refine FB.all1 (i:=12) (by kernel_rfl) ?_
        ·
         obtain ⟨wBb,runBc,SBd⟩:=SB8.store (P:=prog) (t:=39) (i:=2) (j:=1) (cs':=[vI (len a0.edges),vB3]) (l':=[.row 25 1 vAW nAX csAY,.row 3 1 v78 n79 cs80,.box b42 68 [vI (len a0.edges),vB3],.row 25 1 vB3 nB4 csB5,.box b29 44 [vI 0,vN],.row 3 1 v84 n85 cs86]) (v:=vB3) (c:=[vB3]) rfl sizeOf39 (Ln.cells (SB8.row_ln (i:=3) rfl)) rfl (oC (Ln.one (SB8.row_ln (i:=3) rfl)) zab) (nB rfl) rfl rfl;refine FC.act (l':=(bs 13 8191)) rfl (by kernel_rfl) rfl rfl (E.store rfl rfl runBc) ?_;refine ⟨(SP.o (SP.nil (Sl.of_inc rAT.run.inc SBd.sl))),?_⟩;exact FB.done (by kernel_rfl) ⟨_,_,_,_,(SBd.sel [2,3,4] (by decide) rfl),rAT.run.inc,elsB9,kAy,kAz,kAA,kAD,kAE,kAF⟩
     ·
      rintro fBm wBl ⟨HBi,vBe,nBf,csBg,SBj,iBk,elsBh,kBn,kBo,kBp,kBq,kBr,kBs⟩;refine FW.region<|FL.v (E.add kBs rfl) ?_;refine FL.mv (v:=vI (wr (((i49:Nat):Int) + 1))) rfl<|FL.nil ?_;cases hp;exact ⟨rfl,⟨_,_,_,_,SBj,(((i56.tr r77.run.inc).tr iAv).tr iBk),elsBh,(zam rfl (zao hx49) (p0_2.mono ((((i27.tr i56).tr r77.run.inc).tr iAv).tr iBk)).le),kBn,kBo,kBp,kBq,kBr⟩⟩
    ·
     exact x83.elim
  ·
   clear hp hq;rintro s49 fCd wCc ⟨HC9,v50,n51,cs52,SCa,iCb,els53,kCe,kCf,kCg,kCh,kCi,kCj⟩;refine FW.sr<|FL.v (E.lss kCe kCj) ?_;refine FL.nil<|FW.seq<|FW.condF rfl zas ?_;refine FW.exit ?_;exact ⟨nofun,rfl,⟨_,_,_,_,SCa,iCb,els53,kCg,kCh⟩⟩
  ·
   clear hq;intro e fBO wBN hD;rcases q49 with s49|x49
   ·
    obtain ⟨rfl,hD⟩:=hD;obtain ⟨HBK,v50,n51,cs52,SBL,iBM,els53,kBP,kBQ⟩:=hD;replace hp:=el_go hp;refine FW.sr<|FL.mv kBQ ?_;obtain ⟨HBR,SBS,iBT,hBU,nvBV⟩:=SBL.sealRowU (i:=1) (l':=[.box b42 68 [vI (len a0.edges),v50],.box b29 44 [vI 0,vN]]) rfl els53 (by decide) rfl;obtain ⟨rBW,hrBX,hp⟩:=bnd hp;refine FL.c (E.call call39 (A1 rfl)) (w_impl_family_cnf (L:=[.box b29 44 [vI 0,vN]]) SBS (a0:=(family.mk (len a0.edges) s49)) (hBU.mono upI) hrBX) ?_;rintro e wBZ ⟨HBY,vC2,vC4,rfl,⟨SC0,iC1⟩,hC3,hC5⟩;refine ⟨_,rfl,?_⟩;refine FL.v (E.extract (i:=0) rfl rfl) ?_;refine FL.v (E.extract (i:=1) rfl rfl) ?_;obtain ⟨wC6,runC7,SC8⟩:=SC0.s0 1 [vI rBW.1.vars,vC2] (l':=[.box b42 68 [vI rBW.2.2.vars,vC4],.box b29 44 [vI rBW.1.vars,vC2]]) sizeOf44 (oC rfl (oC hC3.one zab));refine FL.act rfl rfl (E.store kBP rfl runC7) ?_;refine FL.as (v:=vB rBW.2.1) rfl<|FL.nil (FW.ret ?_);cases hp;exact ⟨.inr rfl,resC2 rfl kBP (zax isAgg44 sizeOf44 (SC8.box_now (i:=1) rfl) rfl) rfl ⟨_,_,rfl,SC8.run,hC3⟩⟩
   ·
    exact x49.elim

theorem w_impl_narrowOk {Ha:GH} {wa:World} (hs:Sl Ha wa) (a0:Cnf) (v0_1:Value) (p0_1:RSl Ha (eL eI 1) 1 v0_1 a0.clauses) (a1:Int) {r:Bool} (hp:(PF.zcR a0 a1)=some r) :
  Calls prog 40 #[vA #[vI a0.vars,v0_1],vI a1] wa (Sc Ha wa (vB r)):=by
 unfold PF.zcR at hp;have S0:=St.init hs;refine zag (N:=16) (args:=[vA #[vI a0.vars,v0_1],vI a1]) func40 rfl rfl rfl ?_;refine FW.sr ?_;obtain ⟨b21,w22,run23,S24⟩:=S0.box (P:=prog) 44 [vI a0.vars,v0_1] (v:=vA #[vI a0.vars,v0_1]) rfl (oC rfl (oC p0_1.one zab));refine FL.v (E.box rfl run23) ?_;obtain ⟨H25,S26,i27,at28⟩:=S24.sealBox (i:=0) (l':=[]) rfl rfl;refine FL.as (v:=vB false) rfl<|FL.nil<|FW.sr<|FL.v (E.load rfl (zah isAgg44 sizeOf44 (at28.now S26.sl) rfl)) ?_;obtain ⟨r29,hr30,hp⟩:=bnd hp;refine FL.c (E.call call65 (A1 rfl)) (w_impl_IsCnf S26.sl a0 v0_1 (p0_1.mono i27) hr30) ?_;rintro e w31 ⟨rfl,r32⟩;refine ⟨_,rfl,?_⟩;have S33:=S26.call r32;refine FL.mv (v:=vB r29) rfl ?_;refine FL.cut 4 (fun f w=>∃ H:GH,St Ha wa H w []∧Inc H25 H∧f 1=vI a1∧f 11=vB (bif r29 then (decide (a0.vars≤6)) else false)) ?_ ?_
 ·
  rcases bcase r29 with c40|c40
  ·
   refine FL.y (wY c40) (E.fieldAddr tf44_0 rfl) ?_;refine FL.y (wY c40) (E.load rfl (zad isAgg3 (at28.now S33.sl) rfl)) ?_;refine FL.y (wY c40) (E.leq rfl rfl) ?_;refine FL.v (E.pickT rfl c40 rfl) ?_;exact FL.nil ⟨rfl,_,S33,I0,rfl,(congrArg vB (bifT c40).symm)⟩
  ·
   refine FL.n c40<|FL.n c40<|FL.n c40<|FL.v (E.pickF rfl c40 rfl) ?_;exact FL.nil ⟨rfl,_,S33,I0,rfl,(congrArg vB (bifF c40).symm)⟩
 rintro f39 w38 ⟨H35,S36,i37,k41,k42⟩;refine FL.mv k42 ?_;refine FL.cut 3 (fun f w=>∃ H:GH,St Ha wa H w []∧Inc H35 H∧f 15=vB (bif (bif r29 then (decide (a0.vars≤6)) else false) then (PF.zay a1 0 6) else false)) ?_ ?_
 ·
  rcases bcase (bif r29 then (decide (a0.vars≤6)) else false) with c52|c52
  ·
   refine FL.y (wY c52) (E.move k41) ?_;refine FL.call (wY c52) rfl rfl (E.call call53 (A3 rfl rfl rfl)) (zbV S36.sl a1 0 6) ?_;rintro e w53 ⟨rfl,r54⟩;refine ⟨_,rfl,?_⟩;have S55:=S36.call r54;refine FL.v (E.pickT rfl c52 rfl) ?_;exact FL.nil ⟨rfl,_,S55,I0,(congrArg vB (bifT c52).symm)⟩
  ·
   refine FL.n c52<|FL.n c52<|FL.v (E.pickF rfl c52 rfl) ?_;exact FL.nil ⟨rfl,_,S36,I0,(congrArg vB (bifF c52).symm)⟩
 rintro f51 w50 ⟨H47,S48,i49,k56⟩;refine FL.as k56 ?_;refine FL.nil (FW.ret ?_);cases hp;exact ⟨.inr rfl,res1 rfl rfl ⟨rfl,S48.back⟩⟩

set_option maxHeartbeats 4000000 in
theorem w_impl_maskOf {Ha:GH} {wa:World} (hs:Sl Ha wa) (v0:Value) (a0:List Int) (p0:RSl Ha eI 1 v0 a0) {r:Int} (hp:(PF.zbQ a0)=some r) :
  Calls prog 80 #[v0] wa (Sc Ha wa (Value.int .u16 r)):=by
 unfold PF.zbQ at hp;have S0:=St.init hs;refine zag (N:=27) (args:=[v0]) func80 rfl rfl rfl ?_;refine FW.sr<|FL.as (v:=Value.int .u16 0) rfl<|FL.nil<|FW.sr<|FL.as (v:=Value.int .u16 0) rfl<|FL.nil (FW.seq (FW.sr ?_));refine FL.mv (v:=v0) rfl<|FL.v (E.lenP te25 rfl p0) ?_;refine FL.mv (v:=vI 0) rfl<|FL.nil ?_;obtain ⟨q22,hq,hp⟩:=bndR hp;refine FW.block ?_;refine FW.mono (FW.forL (S:=Int) (X:=Empty) (fun (i22:Nat) (s22:Int) f w=>∃ H:GH,St Ha wa H w []∧Inc Ha H∧f 8=vI ((i22:Nat):Int)∧f 3=Value.int .u16 s22∧f 6=v0∧f 7=vI (len a0)) (fun (q:Rs Int Empty) e f w=>match q with|.go s22=>e=Exit.exit 0∧(∃ H:GH,St Ha wa H w []∧Inc Ha H∧f 3=Value.int .u16 s22)|.rt x=>x.elim) hq ⟨_,S0,I0,rfl,rfl,rfl,rfl⟩ ?_ ?_) ?_
 ·
  clear hp hq;rintro i22 y21 s22 f47 w46 ⟨H43,S44,i45,k48,k49,k50,k51⟩ hx22 o63 hp;refine FW.sr<|FL.v (E.lssT k48 k51 (zar hx22)) ?_;refine FL.nil<|FW.seq<|FW.condT rfl rfl ?_;refine FW.skip (FW.seq (FW.block (FW.sr ?_)));obtain ⟨p52,cs53,pt54,l55,at56,rel57⟩:=p0.at (zal hx22);obtain rfl:=zak rel57;refine FL.v (E.indexAddr te25 k50 k48 pt54) ?_;refine FL.v (E.load rfl (zaf isAgg3 ((at56.mono i45).now S44.sl) rfl)) ?_;refine FL.as (v:=vI y21) rfl<|FL.nil<|FW.sr<|FL.mv (v:=vI y21) rfl<|FL.v (E.gtr rfl rfl) ?_;refine FL.nil ?_;rcases ifB hp with ⟨c58,hp⟩|⟨c58,hp⟩
  ·
   refine FW.condT rfl c58 ?_;refine FW.region<|FL.mv k49<|FL.mv (v:=vI y21) rfl<|FL.v (E.sub rfl rfl) ?_;obtain ⟨u60,z59,hp⟩:=bnd hp;refine FL.v (E.shl rfl rfl (nn_ge z59)) ?_;refine FL.v (E.or rfl rfl) ?_;refine FL.as (v:=Value.int .u16 (orK false 16 s22 (shlK false 16 1 (wr (y21 - 1))))) rfl<|FL.nil<|FW.region<|FL.v (E.add k48 rfl) ?_;refine FL.mv (v:=vI (wr (((i22:Nat):Int) + 1))) rfl<|FL.nil ?_;cases hp;exact ⟨rfl,⟨_,S44,i45,(zam rfl (zao hx22) (p0.mono i45).le),rfl,k50,k51⟩⟩
  ·
   refine FW.condF rfl c58 ?_;refine FW.region<|FL.mv k49<|FL.mv (v:=vI y21) rfl<|FL.v (E.sub rfl rfl) ?_;refine FL.v (E.sub rfl rfl) ?_;obtain ⟨u62,z61,hp⟩:=bnd hp;refine FL.v (E.shl rfl rfl (nn_ge z61)) ?_;refine FL.v (E.or rfl rfl) ?_;refine FL.as (v:=Value.int .u16 (orK false 16 s22 (shlK false 16 1 (wr ((wr (6 - y21)) - 1))))) rfl<|FL.nil<|FW.region<|FL.v (E.add k48 rfl) ?_;refine FL.mv (v:=vI (wr (((i22:Nat):Int) + 1))) rfl<|FL.nil ?_;cases hp;exact ⟨rfl,⟨_,S44,i45,(zam rfl (zao hx22) (p0.mono i45).le),rfl,k50,k51⟩⟩
 ·
  clear hp hq;rintro s22 f74 w73 ⟨H70,S71,i72,k75,k76,k77,k78⟩;refine FW.sr<|FL.v (E.lss k75 k78) ?_;refine FL.nil<|FW.seq<|FW.condF rfl zas ?_;refine FW.exit ?_;exact ⟨nofun,rfl,⟨_,S71,i72,k76⟩⟩
 ·
  clear hq;intro e f68 w67 hD;rcases q22 with s22|x22
  ·
   obtain ⟨rfl,hD⟩:=hD;obtain ⟨H64,S65,i66,k69⟩:=hD;replace hp:=el_go hp;refine FW.sr<|FL.mv k69<|FL.as (v:=Value.int .u16 s22) rfl<|FL.nil (FW.ret ?_);cases hp;exact ⟨.inr rfl,res1 rfl rfl ⟨rfl,S65.back⟩⟩
  ·
   exact x22.elim

theorem zel {Ha:GH} {wa:World} (hs:Sl Ha wa) (a0:Int) :
  Calls prog 103 #[Value.int .u16 a0] wa (Sc Ha wa (Value.int .u16 (PF.za4 a0))):=by
 obtain ⟨r,hp⟩:∃ r,(PF.za4 a0)=r:=⟨_,rfl⟩;rw [hp];unfold PF.za4 at hp;have S0:=St.init hs;refine zag (N:=9) (args:=[Value.int .u16 a0]) func103 rfl rfl rfl ?_;refine FW.sr<|FL.as (v:=Value.int .u16 0) rfl<|FL.nil<|FW.sr<|FL.mv (v:=Value.int .u16 a0) rfl<|FL.v (E.and rfl rfl) ?_;refine FL.v (E.shl rfl rfl (by decide)) ?_;refine FL.mv (v:=Value.int .u16 a0) rfl<|FL.v (E.shr rfl rfl (by decide)) ?_;refine FL.v (E.or rfl rfl) ?_;refine FL.as (v:=Value.int .u16 (orK false 16 (shlK false 16 (andK false 16 a0 63) 6) (shrK 16 a0 6))) rfl<|FL.nil (FW.ret ?_);obtain rfl:=hp;exact ⟨.inr rfl,res1 rfl rfl ⟨rfl,S0.back⟩⟩

theorem w_impl_bothOf {Ha:GH} {wa:World} (hs:Sl Ha wa) (a0:Int) (a1:Int) :
  Calls prog 81 #[Value.int .u16 a0,Value.int .u16 a1] wa (Sc Ha wa (Value.int .u16 (PF.zaj a0 a1))):=by
 obtain ⟨r, hp⟩ : ∃ r, (PF.zaj a0 a1) = r := ⟨_, rfl⟩; rw [hp]; unfold PF.zaj at hp; have S0 := St.init hs; refine zag (N := 15) (args := [Value.int .u16 a0, Value.int .u16 a1]) func81 rfl rfl rfl ?_; refine FW.sr <| FL.as (v := Value.int .u16 0) rfl <| FL.nil <| FW.sr <| FL.mv (v := Value.int .u16 a0) rfl <| FL.mv (v := Value.int .u16 a1) rfl ?_; refine FL.c (E.call call103 (A1 rfl)) (zel S0.sl a1) ?_; rintro e w21 ⟨rfl, r22⟩; refine ⟨_, rfl, ?_⟩; have S23 := S0.call r22; refine FL.v (E.and rfl rfl) ?_; refine FL.as (v := Value.int .u16 (andK false 16 a0 (PF.za4 a1))) rfl <| FL.nil <| FW.sr <| FL.mv (v := Value.int .u16 (andK false 16 a0 (PF.za4 a1))) rfl <| FL.mv (v := Value.int .u16 (andK false 16 a0 (PF.za4 a1))) rfl <| FL.v (E.shr rfl rfl (by decide)) ?_; refine FL.v (E.or rfl rfl) ?_; refine FL.v (E.and rfl rfl) ?_; refine FL.as (v := Value.int .u16 (andK false 16 (orK false 16 (andK false 16 a0 (PF.za4 a1)) (shrK 16 (andK false 16 a0 (PF.za4 a1)) 6)) 63)) rfl <| FL.nil (FW.ret ?_);obtain rfl:=hp;exact ⟨.inr rfl,res1 rfl rfl ⟨rfl,S23.back⟩⟩

theorem w_impl_mask_one {Ha:GH} {wa:World} (hs:Sl Ha wa) (a0:Int) :
  Calls prog 82 #[Value.int .u16 a0] wa (Sc Ha wa (vB (PF.zbR a0))):=by
 obtain ⟨r,hp⟩:∃ r,(PF.zbR a0)=r:=⟨_,rfl⟩;rw [hp];unfold PF.zbR at hp;have S0:=St.init hs;refine zag (N:=12) (args:=[Value.int .u16 a0]) func82 rfl rfl rfl ?_;refine FW.sr<|FL.as (v:=vB false) rfl<|FL.nil<|FW.sr<|FL.mv (v:=Value.int .u16 a0) rfl<|FL.v (E.neq rfl rfl) ?_;refine FL.mv (v:=vB (!(a0 == 0))) rfl ?_;refine FL.cut 6 (fun f w=>∃ H:GH,St Ha wa H w []∧Inc Ha H∧f 11=vB (bif (!(a0 == 0)) then ((andK false 16 a0 (wrk false 16 (a0 - 1))) == 0) else false)) ?_ ?_
 ·
  rcases bcase (!(a0 == 0)) with c27|c27
  ·
   refine FL.y (wY c27) (E.move (v:=Value.int .u16 a0) rfl) ?_;refine FL.y (wY c27) (E.move (v:=Value.int .u16 a0) rfl) ?_;refine FL.y (wY c27) (E.subK rfl rfl) ?_;refine FL.y (wY c27) (E.and rfl rfl) ?_;refine FL.y (wY c27) (E.eql rfl rfl) ?_;refine FL.v (E.pickT rfl c27 rfl) ?_;exact FL.nil ⟨rfl,_,S0,I0,(congrArg vB (bifT c27).symm)⟩
  ·
   refine FL.n c27<|FL.n c27<|FL.n c27<|FL.n c27<|FL.n c27<|FL.v (E.pickF rfl c27 rfl) ?_;exact FL.nil ⟨rfl,_,S0,I0,(congrArg vB (bifF c27).symm)⟩
 rintro f26 w25 ⟨H22,S23,i24,k28⟩;refine FL.as k28 ?_;refine FL.nil (FW.ret ?_);obtain rfl:=hp;exact ⟨.inr rfl,res1 rfl rfl ⟨rfl,S23.back⟩⟩

theorem w_impl_mask_count {Ha:GH} {wa:World} (hs:Sl Ha wa) (a0:Int) {r:Int} (hp:(PF.zbz a0)=some r) :
  Calls prog 83 #[Value.int .u16 a0] wa (Sc Ha wa (vI r)):=by
 unfold PF.zbz at hp;have S0:=St.init hs;refine zag (N:=13) (args:=[Value.int .u16 a0]) func83 rfl rfl rfl ?_;refine FW.sr<|FL.as (v:=vI 0) rfl<|FL.nil<|FW.sr<|FL.as (v:=vI 0) rfl<|FL.nil<|FW.seq ?_;obtain ⟨q21,hq,hp⟩:=bndR hp;refine FW.block ?_;refine FW.mono (FW.iter (S:=(Int×Int)) (X:=Empty) (fun (s21:(Int×Int)) f w=>∃ H:GH,St Ha wa H w []∧Inc Ha H∧f 0=Value.int .u16 s21.1∧f 3=vI s21.2) (fun (q:Rs (Int×Int) Empty) e f w=>match q with|.go s21=>e=Exit.exit 0∧(∃ H:GH,St Ha wa H w []∧Inc Ha H∧f 3=vI s21.2)|.rt x=>x.elim) hq ⟨_,S0,I0,rfl,rfl⟩ ?_) ?_
 ·
  clear hp hq;rintro s21 f34 w33 ⟨H30,S31,i32,k35,k36⟩ o38 hp;refine FW.seq<|FW.sr<|FL.mv k35<|FL.v (E.neq rfl rfl) ?_;refine FL.nil ?_;rcases ifB hp with ⟨c37,hp⟩|⟨c37,hp⟩
  ·
   refine FW.condT rfl c37 ?_;refine FW.skip (FW.seq (FW.block (FW.region ?_)));refine FL.mv k36<|FL.v (E.add rfl rfl) ?_;refine FL.as (v:=vI (wr (s21.2 + 1))) rfl<|FL.nil<|FW.region<|FL.mv k35<|FL.mv k35<|FL.v (E.subK rfl rfl) ?_;refine FL.v (E.and rfl rfl) ?_;refine FL.as (v:=Value.int .u16 (andK false 16 s21.1 (wrk false 16 (s21.1 - 1)))) rfl<|FL.nil ?_;cases hp;exact ⟨rfl,⟨_,S31,i32,rfl,rfl⟩⟩
  ·
   refine FW.condF rfl c37 ?_;refine FW.exit ?_;cases hp;exact ⟨nofun,rfl,⟨_,S31,i32,k36⟩⟩
 ·
  clear hq;intro e f43 w42 hD;rcases q21 with s21|x21
  ·
   obtain ⟨rfl,hD⟩:=hD;obtain ⟨H39,S40,i41,k44⟩:=hD;replace hp:=el_go hp;refine FW.sr<|FL.mv k44<|FL.as (v:=vI s21.2) rfl<|FL.nil (FW.ret ?_);cases hp;exact ⟨.inr rfl,res1 rfl rfl ⟨rfl,S40.back⟩⟩
  ·
   exact x21.elim

@[reducible] def p_impl_closureOf (Ha:GH) (wa:World) (r:(Option zbo)):Ending→World→Prop :=
 fun e w'=>∃ H':GH,∃ v0:Value,e=.returned (v0)∧Run wa.heap.size Ha wa H' w'∧OP (fun (q:Addr) (x:zbo)=>∃ v0R_0:Value,∃ v0R_1:Value,RSl (up wa.heap.size H') (eN .u16) 1 v0R_0 x.masks∧MAt (K:=Int) (V:=Int) H' (Value.int .u16) (Value.int .i64) v0R_1 x.rounds∧CAt H' q [v0R_0,v0R_1,vI x.last]) v0 r
set_option maxHeartbeats 4000000 in
theorem w_impl_closureOf {Ha:GH} {wa:World} (hs:Sl Ha wa) (a0:Cnf) (v0_1:Value) (p0_1:RSl Ha (eL eI 1) 1 v0_1 a0.clauses) (a1:Int) {r:(Option zbo)} (hp:(PF.zcS a0 a1)=some r) :
  Calls prog 66 #[vA #[vI a0.vars,v0_1],vI a1] wa (p_impl_closureOf Ha wa r):=by
 unfold PF.zcS at hp;have S0:=St.init hs;refine zag (N:=99) (args:=[vA #[vI a0.vars,v0_1],vI a1]) func66 rfl rfl rfl ?_;refine FW.sr ?_;obtain ⟨b21,w22,run23,S24⟩:=S0.box (P:=prog) 44 [vI a0.vars,v0_1] (v:=vA #[vI a0.vars,v0_1]) rfl (oC rfl (oC p0_1.one zab));refine FL.v (E.box rfl run23) ?_;obtain ⟨H25,S26,i27,at28⟩:=S24.sealBox (i:=0) (l':=[]) rfl rfl;refine FL.as (v:=Value.pointer none) rfl<|FL.nil<|FW.sr ?_;obtain ⟨b29,o30,w31,run32,S33,hm34⟩:=S26.makeMap (P:=prog) (K:=Int) (V:=Int) 106 (Value.int .u16) (Value.int .i64);refine FL.v (E.makeMap run32) ?_;refine FL.v (E.build (B1 rfl) (run_build _ 109 #[(1,Value.map (some b29))] #[vN,Value.map (some b29),vI 0] (by rfl))) ?_;have S39:=S33.nil 112 1;have els40:Els (up wa.heap.size H25) (eN .u16) 1 [] []:=Els.nil;obtain ⟨b35,w36,run37,S38⟩:=S39.box (P:=prog) 109 [(vN),Value.map (some b29),vI 0] (v:=vA #[vN,Value.map (some b29),vI 0]) rfl (oC (Ln.one (S39.row_ln (i:=0) rfl)) (oC rfl (oC rfl zab)));refine FL.v (E.box rfl run37) ?_;refine FL.as (v:=vK b35) rfl<|FL.nil (FW.seq (FW.sr ?_));refine FL.v (E.fieldAddr tf44_1 rfl) ?_;refine FL.v (E.load rfl (zad isAgg39 (at28.now S38.sl) rfl)) ?_;refine FL.v (E.lenP te39 rfl p0_1) ?_;refine FL.mv (v:=vI 0) rfl<|FL.nil ?_;obtain ⟨q42,hq,hp⟩:=bndR hp;refine FW.block ?_;refine FW.mono (FW.forL (S:=((List Int)×Int×(List (Int×Int)))) (X:=Empty) (fun (i42:Nat) (s42:((List Int)×Int×(List (Int×Int)))) f w=>∃ H:GH,∃ vA7:Value,∃ nA8:Nat,∃ csA9:List Value,∃ oAb:Obj,St Ha wa H w [.box b35 109 [vA7,Value.map (some b29),vI s42.2.1],.row 112 1 vA7 nA8 csA9,.raw b29 oAb]∧Inc H25 H∧Els (up wa.heap.size H) (eN .u16) 1 csA9 s42.1∧MapOf (K:=Int) (V:=Int) (Value.int .u16) (Value.int .i64) oAb s42.2.2∧f 23=vI ((i42:Nat):Int)∧f 1=vI a1∧f 5=vK b35∧f 21=v0_1∧f 22=vI (len a0.clauses)) (fun (q:Rs ((List Int)×Int×(List (Int×Int))) Empty) e f w=>match q with|.go s42=>e=Exit.exit 0∧(∃ H:GH,∃ vA7:Value,∃ nA8:Nat,∃ csA9:List Value,∃ oAb:Obj,St Ha wa H w [.box b35 109 [vA7,Value.map (some b29),vI s42.2.1],.row 112 1 vA7 nA8 csA9,.raw b29 oAb]∧Inc H25 H∧Els (up wa.heap.size H) (eN .u16) 1 csA9 s42.1∧MapOf (K:=Int) (V:=Int) (Value.int .u16) (Value.int .i64) oAb s42.2.2∧f 1=vI a1∧f 5=vK b35)|.rt x=>x.elim) hq ⟨_,_,_,_,_,S38,I0,els40,hm34,rfl,rfl,rfl,rfl,rfl⟩ ?_ ?_) ?_
 ·
  clear hp hq;rintro i42 y41 s42 fBj wBi ⟨HBf,vA7,nA8,csA9,oAb,SBg,iBh,elsAa,hm112,kBk,kBl,kBm,kBn,kBo⟩ hx42 oCJ hp;refine FW.sr<|FL.v (E.lssT kBk kBo (zar hx42)) ?_;refine FL.nil<|FW.seq<|FW.condT rfl rfl ?_;refine FW.skip (FW.seq (FW.block (FW.sr ?_)));obtain ⟨pBp,csBq,ptBr,lBs,atBt,relBu⟩:=p0_1.at (zal hx42);obtain ⟨vBv,rfl,hBw⟩:=zaE relBu;refine FL.v (E.indexAddr te39 kBn kBk ptBr) ?_;refine FL.v (E.load rfl (zaf isAgg25 ((atBt.mono (i27.tr iBh)).now SBg.sl) rfl)) ?_;refine FL.as (v:=vBv) rfl<|FL.nil<|FW.sr<|FL.mv (v:=vBv) rfl<|FL.v (E.lenP te25 rfl hBw) ?_;refine FL.mv kBl<|FL.v (E.leq rfl rfl) ?_;refine FL.nil ?_;rcases ifB hp with ⟨cBx,hp⟩|⟨cBx,hp⟩
  ·
   refine FW.condT rfl cBx ?_;refine FW.region<|FL.mv kBm<|FL.mv (v:=vBv) rfl ?_;obtain ⟨rBy,hrBz,hp⟩:=bnd hp;refine FL.c (E.call call80 (A1 rfl)) (w_impl_maskOf SBg.sl vBv y41 (hBw.mono (i27.tr iBh)) hrBz) ?_;rintro e wBA ⟨rfl,rBB⟩;refine ⟨_,rfl,?_⟩;have SBC:=SBg.call rBB;obtain ⟨sC5,hqC5,hp⟩:=bnd hp;obtain ⟨R229,hRC5⟩:∃ R229:((List Int)×Int×(List (Int×Int)))→Ending→World→Prop,R229=(fun sC5 e w=>∃ H:GH,∃ vC6:Value,∃ nC7:Nat,∃ csC8:List Value,∃ oCa:Obj,e=Ending.returned (Value.tuple #[])∧St Ha wa H w [.box b35 109 [vC6,Value.map (some b29),vI sC5.2.1],.row 112 1 vC6 nC7 csC8,.raw b29 oCa]∧Inc HBf H∧Els (up wa.heap.size H) (eN .u16) 1 csC8 sC5.1∧MapOf (K:=Int) (V:=Int) (Value.int .u16) (Value.int .i64) oCa sC5.2.2):=⟨_,rfl⟩;have hcC5:Calls prog 79 #[vK b35,Value.int .u16 rBy,vI 0] wBA (R229 sC5):=by
    clear hp;have hp:=hqC5;clear hqC5;refine zag (N:=39) (args:=[vK b35,Value.int .u16 rBy,vI 0]) func79 rfl rfl rfl ?_;refine FW.sr<|FL.mv (v:=vK b35) rfl<|FL.v (E.nilCheck rfl) ?_;refine FL.v (E.fieldAddr tf109_1 rfl) ?_;refine FL.v (E.load rfl (zad isAgg106 (SBC.box_now (i:=0) rfl) rfl)) ?_;refine FL.mv (v:=Value.int .u16 rBy) rfl<|FL.v (E.lookup rfl rfl (SBC.mapGetOk (P:=prog) (i:=2) rfl hm112 runUnderlying106 (zbc.intk runUnderlying112) (z:=0) zeroValue3 rBy)) ?_;refine FL.mv (v:=Value.tuple #[vI ((mget s42.2.2 rBy).getD 0),vB ((mget s42.2.2 rBy).isSome)]) rfl<|FL.v (E.extract (i:=0) rfl rfl) ?_;refine FL.v (E.extract (i:=1) rfl rfl) ?_;refine FL.as (v:=vI ((mget s42.2.2 rBy).getD 0)) rfl<|FL.as (v:=vB ((mget s42.2.2 rBy).isSome)) rfl<|FL.nil<|FW.sr<|FL.mv (v:=vB ((mget s42.2.2 rBy).isSome)) rfl<|FL.v (E.not rfl) ?_;refine FL.nil ?_;rcases ifB hp with ⟨cCc,hp⟩|⟨cCc,hp⟩
    ·
     refine FW.condT rfl cCc ?_;refine FW.sr<|FL.mv (v:=vK b35) rfl<|FL.v (E.nilCheck rfl) ?_;refine FL.v (E.fieldAddr tf109_1 rfl) ?_;refine FL.v (E.load rfl (zad isAgg106 (SBC.box_now (i:=0) rfl) rfl)) ?_;refine FL.mv (v:=Value.int .u16 rBy) rfl<|FL.mv (v:=vI 0) rfl ?_;obtain ⟨oCd,wCe,runCf,SCg,hm241⟩:=SBC.mapPut (P:=prog) (i:=2) rfl hm112 runUnderlying106 (zbc.intk runUnderlying112) rBy 0;refine FL.act rfl rfl (E.mapUpdate rfl rfl rfl runCf) ?_;refine FL.nil<|FW.sr<|FL.mv (v:=vK b35) rfl<|FL.mv (v:=vK b35) rfl<|FL.v (E.nilCheck rfl) ?_;refine FL.v (E.fieldAddr zbC rfl) ?_;refine FL.v (E.load rfl (zad isAgg107 (SCg.box_now (i:=0) rfl) rfl)) ?_;refine FL.mv (v:=Value.int .u16 rBy) rfl ?_;obtain ⟨vCi,wCj,runCk,SCl⟩:=SCg.buildSlice (P:=prog) te107 [Value.int .u16 rBy] (parts:=#[(0,Value.int .u16 rBy)]) (cells:=[Value.int .u16 rBy]) rfl (za0 rfl zbb) (za7 rfl fc_nil) (oC rfl zab) (nB rfl);have elsCm:Els (up wa.heap.size HBf) (eN .u16) 1 [Value.int .u16 rBy] [rBy]:=(Els.snoc (H:=(up wa.heap.size HBf)) (E:=(eN .u16)) (k:=1) (c:=[Value.int .u16 rBy]) (x:=rBy) Els.nil rfl rfl);refine FL.v (E.buildSlice (B1 rfl) runCk) ?_;obtain ⟨xsCn,hzCo,hp⟩:=bnd hp;obtain ⟨vCp,wCs,nCq,csCr,runCt,SCu,elsCv,ceCw⟩:=SCl.appendO (P:=prog) te107 (i:=2) (j:=0) rfl elsAa rfl elsCm hzCo;have SCx:St Ha wa HBf wCs [.box b35 109 [vA7,Value.map (some b29),vI s42.2.1],.row 112 1 vCp nCq csCr,.raw b29 oCd]:=SCu.drop 0;refine FL.v (E.append rfl rfl runCt) ?_;refine FL.v (E.nilCheck rfl) ?_;refine FL.v (E.fieldAddr zbC rfl) ?_;obtain ⟨wCy,runCz,SCA⟩:=SCx.store (P:=prog) (t:=107) (i:=0) (j:=0) (cs':=[vCp,Value.map (some b29),vI s42.2.1]) (l':=[.box b35 109 [vCp,Value.map (some b29),vI s42.2.1],.row 112 1 vCp nCq csCr,.raw b29 oCd]) (v:=vCp) (c:=[vCp]) rfl sizeOf107 (Ln.cells (SCx.row_ln (i:=1) rfl)) rfl (oC (Ln.one (SCx.row_ln (i:=1) rfl)) zab) (nB rfl) rfl rfl;refine FL.act rfl rfl (E.store rfl rfl runCz) ?_;refine FL.nil<|FW.region<|FL.mv (v:=vK b35) rfl<|FL.mv (v:=vI 0) rfl<|FL.v (E.nilCheck rfl) ?_;refine FL.v (E.fieldAddr tf109_2 rfl) ?_;obtain ⟨wCB,runCC,SCD⟩:=SCA.store (P:=prog) (t:=3) (i:=0) (j:=2) (cs':=[vCp,Value.map (some b29),vI 0]) (l':=[.box b35 109 [vCp,Value.map (some b29),vI 0],.row 112 1 vCp nCq csCr,.raw b29 oCd]) (v:=vI 0) (c:=[vI 0]) rfl sizeOf3 rfl rfl (oC rfl zab) (nB rfl) rfl rfl;refine FL.act rfl rfl (E.store rfl rfl runCC) ?_;refine FL.nil ?_;cases hp;exact ⟨.inl rfl,res0 rfl (by rw [hRC5];exact ⟨_,_,_,_,_,rfl,SCD,I0,elsCv,hm241⟩)⟩
    ·
     refine FW.condF rfl cCc ?_;refine FW.skip ?_;cases hp;exact ⟨.inl rfl,res0 rfl (by rw [hRC5];exact ⟨_,_,_,_,_,rfl,SBC,I0,elsAa,hm112⟩)⟩
   clear hqC5;refine FL.c (E.call call79 (A3 rfl rfl rfl)) hcC5 ?_;intro e wCH hQC5;rw [hRC5] at hQC5;obtain ⟨HCE,vC6,nC7,csC8,oCa,rfl,SCF,iCG,elsC9,hm235⟩:=hQC5;refine ⟨_,rfl,?_⟩;refine FL.nil<|FW.region<|FL.v (E.add kBk rfl) ?_;refine FL.mv (v:=vI (wr (((i42:Nat):Int) + 1))) rfl<|FL.nil ?_;cases hp;exact ⟨rfl,⟨_,_,_,_,_,SCF,(iBh.tr iCG),elsC9,hm235,(zam rfl (zao hx42) (p0_1.mono ((i27.tr iBh).tr iCG)).le),kBl,kBm,kBn,kBo⟩⟩
  ·
   refine FW.condF rfl cBx ?_;refine FW.skip<|FW.region<|FL.v (E.add kBk rfl) ?_;refine FL.mv (v:=vI (wr (((i42:Nat):Int) + 1))) rfl<|FL.nil ?_;cases hp;exact ⟨rfl,⟨_,_,_,_,_,SBg,iBh,elsAa,hm112,(zam rfl (zao hx42) (p0_1.mono (i27.tr iBh)).le),kBl,kBm,kBn,kBo⟩⟩
 ·
  clear hp hq;rintro s42 fDo wDn ⟨HDk,vA7,nA8,csA9,oAb,SDl,iDm,elsAa,hm112,kDp,kDq,kDr,kDs,kDt⟩;refine FW.sr<|FL.v (E.lss kDp kDt) ?_;refine FL.nil<|FW.seq<|FW.condF rfl zas ?_;refine FW.exit ?_;exact ⟨nofun,rfl,⟨_,_,_,_,_,SDl,iDm,elsAa,hm112,kDq,kDr⟩⟩
 ·
  clear hq;intro e fCO wCN hD;rcases q42 with s42|x42
  ·
   obtain ⟨rfl,hD⟩:=hD;obtain ⟨HCK,vA7,nA8,csA9,oAb,SCL,iCM,elsAa,hm112,kCP,kCQ⟩:=hD;replace hp:=el_go hp;refine FW.seq<|FW.sr<|FL.as (v:=vI 0) rfl<|FL.as (v:=vI 1) rfl<|FL.nil ?_;obtain ⟨qCR,hq,hp⟩:=bndR hp;refine FW.block ?_;refine FW.mono (FW.iter (S:=((List Int)×Int×(List (Int×Int))×Int×Int)) (X:=Empty) (fun (sCR:((List Int)×Int×(List (Int×Int))×Int×Int)) f w=>∃ H:GH,∃ vKA:Value,∃ nKB:Nat,∃ csKC:List Value,∃ oKE:Obj,St Ha wa H w [.box b35 109 [vKA,Value.map (some b29),vI sCR.2.1],.row 112 1 vKA nKB csKC,.raw b29 oKE]∧Inc HCK H∧Els (up wa.heap.size H) (eN .u16) 1 csKC sCR.1∧MapOf (K:=Int) (V:=Int) (Value.int .u16) (Value.int .i64) oKE sCR.2.2.1∧f 1=vI a1∧f 5=vK b35∧f 8=vI sCR.2.2.2.1∧f 9=vI sCR.2.2.2.2) (fun (q:Rs ((List Int)×Int×(List (Int×Int))×Int×Int) Empty) e f w=>match q with|.go sCR=>e=Exit.exit 2∧(∃ H:GH,∃ vKA:Value,∃ nKB:Nat,∃ csKC:List Value,∃ oKE:Obj,St Ha wa H w [.box b35 109 [vKA,Value.map (some b29),vI sCR.2.1],.row 112 1 vKA nKB csKC,.raw b29 oKE]∧Inc HCK H∧Els (up wa.heap.size H) (eN .u16) 1 csKC sCR.1∧MapOf (K:=Int) (V:=Int) (Value.int .u16) (Value.int .i64) oKE sCR.2.2.1∧f 5=vK b35)|.rt x=>x.elim) hq ⟨_,_,_,_,_,SCL,I0,elsAa,hm112,kCP,kCQ,rfl,rfl⟩ ?_) ?_
   ·
    clear hp hq;rintro sCR f48 w47 ⟨H43,vKA,nKB,csKC,oKE,S45,i46,elsKD,hm761,k49,k50,k51,k52⟩ oD0 hp;refine FW.seq<|FW.sr<|FL.mv k51<|FL.mv k50<|FL.v (E.nilCheck rfl) ?_;refine FL.v (E.fieldAddr zbC rfl) ?_;refine FL.v (E.load rfl (zad isAgg107 (S45.box_now (i:=0) rfl) rfl)) ?_;refine FL.v (E.lenO te107 rfl S45 (i:=1) rfl elsKD (by decide)) ?_;refine FL.v (E.lss rfl rfl) ?_;refine FL.nil ?_;rcases ifB hp with ⟨c53,hp⟩|⟨c53,hp⟩
    ·
     refine FW.condT rfl c53 ?_;refine FW.skip (FW.seq (FW.block (FW.sr ?_)));refine FL.mv k50<|FL.v (E.nilCheck rfl) ?_;refine FL.v (E.fieldAddr zbC rfl) ?_;refine FL.v (E.load rfl (zad isAgg107 (S45.box_now (i:=0) rfl) rfl)) ?_;refine FL.v (E.lenO te107 rfl S45 (i:=1) rfl elsKD (by decide)) ?_;refine FL.as (v:=vI (len sCR.1)) rfl<|FL.nil (FW.seq (FW.sr ?_));refine FL.mv k51<|FL.as (v:=vI sCR.2.2.2.1) rfl<|FL.nil ?_;obtain ⟨q54,hq,hp⟩:=bndR hp;refine FW.block ?_;refine FW.mono (FW.iter (S:=((List Int)×Int×(List (Int×Int))×Int)) (X:=Empty) (fun (s54:((List Int)×Int×(List (Int×Int))×Int)) f w=>∃ H:GH,∃ v55:Value,∃ n56:Nat,∃ cs57:List Value,∃ o59:Obj,St Ha wa H w [.box b35 109 [v55,Value.map (some b29),vI s54.2.1],.row 112 1 v55 n56 cs57,.raw b29 o59]∧Inc H43 H∧Els (up wa.heap.size H) (eN .u16) 1 cs57 s54.1∧MapOf (K:=Int) (V:=Int) (Value.int .u16) (Value.int .i64) o59 s54.2.2.1∧f 1=vI a1∧f 5=vK b35∧f 9=vI sCR.2.2.2.2∧f 10=vI (len sCR.1)∧f 11=vI s54.2.2.2) (fun (q:Rs ((List Int)×Int×(List (Int×Int))×Int) Empty) e f w=>match q with|.go s54=>e=Exit.exit 4∧(∃ H:GH,∃ v55:Value,∃ n56:Nat,∃ cs57:List Value,∃ o59:Obj,St Ha wa H w [.box b35 109 [v55,Value.map (some b29),vI s54.2.1],.row 112 1 v55 n56 cs57,.raw b29 o59]∧Inc H43 H∧Els (up wa.heap.size H) (eN .u16) 1 cs57 s54.1∧MapOf (K:=Int) (V:=Int) (Value.int .u16) (Value.int .i64) o59 s54.2.2.1∧f 1=vI a1∧f 5=vK b35∧f 9=vI sCR.2.2.2.2∧f 10=vI (len sCR.1))|.rt x=>x.elim) hq ⟨_,_,_,_,_,S45,I0,elsKD,hm761,k49,k50,k52,rfl,rfl⟩ ?_) ?_
     ·
      clear hp hq;rintro s54 f65 w64 ⟨H61,v55,n56,cs57,o59,S62,i63,els58,hm60,k66,k67,k68,k69,k70⟩ oC4 hp;refine FW.seq<|FW.sr<|FL.mv k70<|FL.mv k69<|FL.v (E.lss rfl rfl) ?_;refine FL.nil ?_;rcases ifB hp with ⟨c71,hp⟩|⟨c71,hp⟩
      ·
       refine FW.condT rfl c71 ?_;refine FW.skip (FW.seq (FW.block (FW.sr ?_)));refine FL.mv k67<|FL.v (E.nilCheck rfl) ?_;refine FL.v (E.fieldAddr zbC rfl) ?_;refine FL.v (E.load rfl (zad isAgg107 (S62.box_now (i:=0) rfl) rfl)) ?_;refine FL.mv k70 ?_;obtain ⟨xs72,hc73,hp⟩:=bnd hp;obtain ⟨v74,cs75,run76,S77,vw78,els79,vl80⟩:=S62.view te107 (kk:=.i64) (i:=1) rfl els58 hc73;refine FL.v (E.slice te107 rfl rfl (congrArg some rfl) rfl (run76 _)) ?_;refine FL.v (E.len te107 rfl vl80.ln) ?_;refine FL.mv (v:=vI 0) rfl<|FL.nil ?_;obtain ⟨q82,hq,hp⟩:=bndR hp;refine FW.block ?_;refine FW.mono (FW.forL (S:=((List Int)×Int×(List (Int×Int)))) (X:=Empty) (fun (i82:Nat) (s82:((List Int)×Int×(List (Int×Int)))) f w=>∃ H:GH,∃ v83:Value,∃ n84:Nat,∃ cs85:List Value,∃ o87:MO,∃ o89:Obj,St Ha wa H w [o87,.box b35 109 [v83,Value.map (some b29),vI s82.2.1],.row 112 1 v83 n84 cs85,.raw b29 o89]∧Inc H61 H∧Els (up wa.heap.size H) (eN .u16) 1 cs85 s82.1∧View 1 v83 v74 cs85 cs75 o87∧MapOf (K:=Int) (V:=Int) (Value.int .u16) (Value.int .i64) o89 s82.2.2∧f 63=vI ((i82:Nat):Int)∧f 1=vI a1∧f 5=vK b35∧f 9=vI sCR.2.2.2.2∧f 10=vI (len sCR.1)∧f 11=vI s54.2.2.2∧f 61=v74∧f 62=vI (len xs72)) (fun (q:Rs ((List Int)×Int×(List (Int×Int))) Empty) e f w=>match q with|.go s82=>e=Exit.exit 6∧(∃ H:GH,∃ v83:Value,∃ n84:Nat,∃ cs85:List Value,∃ o87:MO,∃ o89:Obj,St Ha wa H w [o87,.box b35 109 [v83,Value.map (some b29),vI s82.2.1],.row 112 1 v83 n84 cs85,.raw b29 o89]∧Inc H61 H∧Els (up wa.heap.size H) (eN .u16) 1 cs85 s82.1∧View 1 v83 v74 cs85 cs75 o87∧MapOf (K:=Int) (V:=Int) (Value.int .u16) (Value.int .i64) o89 s82.2.2∧f 1=vI a1∧f 5=vK b35∧f 9=vI sCR.2.2.2.2∧f 10=vI (len sCR.1)∧f 11=vI s54.2.2.2)|.rt x=>x.elim) hq ⟨_,_,_,_,_,_,S77,I0,els58,vw78,hm60,rfl,k66,k67,k68,k69,k70,rfl,rfl⟩ ?_ ?_) ?_
       ·
        clear hp hq;rintro i82 y81 s82 f95 w94 ⟨H91,v83,n84,cs85,o87,o89,S92,i93,els86,vw88,hm90,k96,k97,k98,k99,kA0,kA1,kA2,kA3⟩ hx82 oBG hp;refine FW.sr<|FL.v (E.lssT k96 kA3 (zar hx82)) ?_;refine FL.nil<|FW.seq<|FW.condT rfl rfl ?_;refine FW.skip (FW.seq (FW.block (FW.sr ?_)));obtain ⟨pA4,csA5,ptA6,lAd,atAe,relAf⟩:=S92.view_at (i:=2) (q:=0) rfl rfl vw88 els79 (by decide) (zal hx82);obtain rfl:=eN_open relAf;refine FL.v (E.indexAddr te107 kA2 k96 ptA6) ?_;refine FL.v (E.load rfl (zaf isAgg112 atAe rfl)) ?_;refine FL.as (v:=Value.int .u16 y81) rfl<|FL.nil<|FW.sr<|FL.mv k98<|FL.v (E.nilCheck rfl) ?_;refine FL.v (E.fieldAddr zbC rfl) ?_;refine FL.v (E.load rfl (zad isAgg107 (S92.box_now (i:=1) rfl) rfl)) ?_;refine FL.mv kA1 ?_;obtain ⟨xAm,hxAn,hp⟩:=bnd hp;obtain ⟨pAg,csAh,ptAi,lAj,atAk,relAl⟩:=S92.row_at (i:=2) rfl els86 (by decide) hxAn;obtain rfl:=eN_open relAl;refine FL.v (E.indexAddr te107 rfl rfl ptAi) ?_;refine FL.v (E.load rfl (zaf isAgg112 atAk rfl)) ?_;refine FL.as (v:=Value.int .u16 xAm) rfl<|FL.nil<|FW.sr<|FL.mv (v:=Value.int .u16 xAm) rfl<|FL.mv (v:=Value.int .u16 y81) rfl ?_;refine FL.c (E.call call81 (A2 rfl rfl)) (w_impl_bothOf S92.sl xAm y81) ?_;rintro e wAo ⟨rfl,rAp⟩;refine ⟨_,rfl,?_⟩;have SAq:=S92.call rAp;refine FL.as (v:=Value.int .u16 (PF.zaj xAm y81)) rfl<|FL.nil (FW.seq (FW.sr ?_));refine FL.mv (v:=Value.int .u16 (PF.zaj xAm y81)) rfl ?_;refine FL.c (E.call call82 (A1 rfl)) (w_impl_mask_one SAq.sl (PF.zaj xAm y81)) ?_;rintro e wAr ⟨rfl,rAs⟩;refine ⟨_,rfl,?_⟩;have SAt:=SAq.call rAs;refine FL.v (E.not rfl) ?_;refine FL.nil ?_;rcases ifB hp with ⟨cAu,hp⟩|⟨cAu,hp⟩
        ·
         refine FW.condT rfl cAu ?_;refine FW.exit ?_;refine FW.region<|FL.v (E.add k96 rfl) ?_;refine FL.mv (v:=vI (wr (((i82:Nat):Int) + 1))) rfl<|FL.nil ?_;cases hp;exact ⟨rfl,⟨_,_,_,_,_,_,SAt,i93,els86,vw88,hm90,(zam rfl (zao hx82) vl80.le),k97,k98,k99,kA0,kA1,kA2,kA3⟩⟩
        ·
         refine FW.condF rfl cAu ?_;refine FW.skip<|FW.sr<|FL.mv (v:=Value.int .u16 xAm) rfl<|FL.mv (v:=Value.int .u16 y81) rfl<|FL.v (E.or rfl rfl) ?_;refine FL.mv (v:=Value.int .u16 (PF.zaj xAm y81)) rfl<|FL.mv (v:=Value.int .u16 (PF.zaj xAm y81)) rfl<|FL.v (E.shl rfl rfl (by decide)) ?_;refine FL.v (E.or rfl rfl) ?_;refine FL.v (E.andNot rfl rfl) ?_;refine FL.as (v:=Value.int .u16 (anK false 16 (orK false 16 xAm y81) (orK false 16 (PF.zaj xAm y81) (shlK false 16 (PF.zaj xAm y81) 6)))) rfl<|FL.nil<|FW.sr<|FL.mv (v:=Value.int .u16 (anK false 16 (orK false 16 xAm y81) (orK false 16 (PF.zaj xAm y81) (shlK false 16 (PF.zaj xAm y81) 6)))) rfl ?_;obtain ⟨rAv,hrAw,hp⟩:=bnd hp;refine FL.c (E.call call83 (A1 rfl)) (w_impl_mask_count SAt.sl (anK false 16 (orK false 16 xAm y81) (orK false 16 (PF.zaj xAm y81) (shlK false 16 (PF.zaj xAm y81) 6))) hrAw) ?_;rintro e wAx ⟨rfl,rAy⟩;refine ⟨_,rfl,?_⟩;have SAz:=SAt.call rAy;refine FL.mv k97<|FL.v (E.leq rfl rfl) ?_;refine FL.nil ?_;rcases ifB hp with ⟨cAA,hp⟩|⟨cAA,hp⟩
         ·
          refine FW.condT rfl cAA ?_;refine FW.region<|FL.mv k98<|FL.mv (v:=Value.int .u16 (anK false 16 (orK false 16 xAm y81) (orK false 16 (PF.zaj xAm y81) (shlK false 16 (PF.zaj xAm y81) 6)))) rfl<|FL.mv k99 ?_;obtain ⟨sAB,hqAB,hp⟩:=bnd hp;obtain ⟨R137,hRAB⟩:∃ R137:((List Int)×Int×(List (Int×Int)))→Ending→World→Prop,R137=(fun sAB e w=>∃ H:GH,∃ vAC:Value,∃ nAD:Nat,∃ csAE:List Value,∃ oAG:MO,∃ oAI:Obj,e=Ending.returned (Value.tuple #[])∧St Ha wa H w [oAG,.box b35 109 [vAC,Value.map (some b29),vI sAB.2.1],.row 112 1 vAC nAD csAE,.raw b29 oAI]∧Inc H91 H∧Els (up wa.heap.size H) (eN .u16) 1 csAE sAB.1∧View 1 vAC v74 csAE cs75 oAG∧MapOf (K:=Int) (V:=Int) (Value.int .u16) (Value.int .i64) oAI sAB.2.2):=⟨_,rfl⟩;have hcAB:Calls prog 79 #[vK b35,Value.int .u16 (anK false 16 (orK false 16 xAm y81) (orK false 16 (PF.zaj xAm y81) (shlK false 16 (PF.zaj xAm y81) 6))),vI sCR.2.2.2.2] wAx (R137 sAB):=by
           clear hp;have hp:=hqAB;clear hqAB;refine zag (N:=39) (args:=[vK b35,Value.int .u16 (anK false 16 (orK false 16 xAm y81) (orK false 16 (PF.zaj xAm y81) (shlK false 16 (PF.zaj xAm y81) 6))),vI sCR.2.2.2.2]) func79 rfl rfl rfl ?_;refine FW.sr<|FL.mv (v:=vK b35) rfl<|FL.v (E.nilCheck rfl) ?_;refine FL.v (E.fieldAddr tf109_1 rfl) ?_;refine FL.v (E.load rfl (zad isAgg106 (SAz.box_now (i:=1) rfl) rfl)) ?_;refine FL.mv (v:=Value.int .u16 (anK false 16 (orK false 16 xAm y81) (orK false 16 (PF.zaj xAm y81) (shlK false 16 (PF.zaj xAm y81) 6)))) rfl<|FL.v (E.lookup rfl rfl (SAz.mapGetOk (P:=prog) (i:=3) rfl hm90 runUnderlying106 (zbc.intk runUnderlying112) (z:=0) zeroValue3 (anK false 16 (orK false 16 xAm y81) (orK false 16 (PF.zaj xAm y81) (shlK false 16 (PF.zaj xAm y81) 6))))) ?_;refine FL.mv (v:=Value.tuple #[vI ((mget s82.2.2 (anK false 16 (orK false 16 xAm y81) (orK false 16 (PF.zaj xAm y81) (shlK false 16 (PF.zaj xAm y81) 6)))).getD 0),vB ((mget s82.2.2 (anK false 16 (orK false 16 xAm y81) (orK false 16 (PF.zaj xAm y81) (shlK false 16 (PF.zaj xAm y81) 6)))).isSome)]) rfl<|FL.v (E.extract (i:=0) rfl rfl) ?_;refine FL.v (E.extract (i:=1) rfl rfl) ?_;refine FL.as (v:=vI ((mget s82.2.2 (anK false 16 (orK false 16 xAm y81) (orK false 16 (PF.zaj xAm y81) (shlK false 16 (PF.zaj xAm y81) 6)))).getD 0)) rfl<|FL.as (v:=vB ((mget s82.2.2 (anK false 16 (orK false 16 xAm y81) (orK false 16 (PF.zaj xAm y81) (shlK false 16 (PF.zaj xAm y81) 6)))).isSome)) rfl<|FL.nil<|FW.sr<|FL.mv (v:=vB ((mget s82.2.2 (anK false 16 (orK false 16 xAm y81) (orK false 16 (PF.zaj xAm y81) (shlK false 16 (PF.zaj xAm y81) 6)))).isSome)) rfl<|FL.v (E.not rfl) ?_;refine FL.nil ?_;rcases ifB hp with ⟨cAK,hp⟩|⟨cAK,hp⟩
           ·
            refine FW.condT rfl cAK ?_;refine FW.sr<|FL.mv (v:=vK b35) rfl<|FL.v (E.nilCheck rfl) ?_;refine FL.v (E.fieldAddr tf109_1 rfl) ?_;refine FL.v (E.load rfl (zad isAgg106 (SAz.box_now (i:=1) rfl) rfl)) ?_;refine FL.mv (v:=Value.int .u16 (anK false 16 (orK false 16 xAm y81) (orK false 16 (PF.zaj xAm y81) (shlK false 16 (PF.zaj xAm y81) 6)))) rfl<|FL.mv (v:=vI sCR.2.2.2.2) rfl ?_;obtain ⟨oAL,wAM,runAN,SAO,hm151⟩:=SAz.mapPut (P:=prog) (i:=3) rfl hm90 runUnderlying106 (zbc.intk runUnderlying112) (anK false 16 (orK false 16 xAm y81) (orK false 16 (PF.zaj xAm y81) (shlK false 16 (PF.zaj xAm y81) 6))) sCR.2.2.2.2;refine FL.act rfl rfl (E.mapUpdate rfl rfl rfl runAN) ?_;refine FL.nil<|FW.sr<|FL.mv (v:=vK b35) rfl<|FL.mv (v:=vK b35) rfl<|FL.v (E.nilCheck rfl) ?_;refine FL.v (E.fieldAddr zbC rfl) ?_;refine FL.v (E.load rfl (zad isAgg107 (SAO.box_now (i:=1) rfl) rfl)) ?_;refine FL.mv (v:=Value.int .u16 (anK false 16 (orK false 16 xAm y81) (orK false 16 (PF.zaj xAm y81) (shlK false 16 (PF.zaj xAm y81) 6)))) rfl ?_;obtain ⟨vAQ,wAR,runAS,SAT⟩:=SAO.buildSlice (P:=prog) te107 [Value.int .u16 (anK false 16 (orK false 16 xAm y81) (orK false 16 (PF.zaj xAm y81) (shlK false 16 (PF.zaj xAm y81) 6)))] (parts:=#[(0,Value.int .u16 (anK false 16 (orK false 16 xAm y81) (orK false 16 (PF.zaj xAm y81) (shlK false 16 (PF.zaj xAm y81) 6))))]) (cells:=[Value.int .u16 (anK false 16 (orK false 16 xAm y81) (orK false 16 (PF.zaj xAm y81) (shlK false 16 (PF.zaj xAm y81) 6)))]) rfl (za0 rfl zbb) (za7 rfl fc_nil) (oC rfl zab) (nB rfl);have elsAU:Els (up wa.heap.size H91) (eN .u16) 1 [Value.int .u16 (anK false 16 (orK false 16 xAm y81) (orK false 16 (PF.zaj xAm y81) (shlK false 16 (PF.zaj xAm y81) 6)))] [(anK false 16 (orK false 16 xAm y81) (orK false 16 (PF.zaj xAm y81) (shlK false 16 (PF.zaj xAm y81) 6)))]:=(Els.snoc (H:=(up wa.heap.size H91)) (E:=(eN .u16)) (k:=1) (c:=[Value.int .u16 (anK false 16 (orK false 16 xAm y81) (orK false 16 (PF.zaj xAm y81) (shlK false 16 (PF.zaj xAm y81) 6)))]) (x:=(anK false 16 (orK false 16 xAm y81) (orK false 16 (PF.zaj xAm y81) (shlK false 16 (PF.zaj xAm y81) 6)))) Els.nil rfl rfl);refine FL.v (E.buildSlice (B1 rfl) runAS) ?_;obtain ⟨xsAV,hzAW,hp⟩:=bnd hp;obtain ⟨vAX,wB0,nAY,csAZ,oB5,runB1,SB2,elsB3,ceB4,vw168⟩:=SAT.appendVO (P:=prog) te107 (i:=3) (j:=0) (q:=1) rfl els86 rfl elsAU hzAW rfl vw88;have SB7:St Ha wa H91 wB0 [oB5,.box b35 109 [v83,Value.map (some b29),vI s82.2.1],.row 112 1 vAX nAY csAZ,.raw b29 oAL]:=SB2.drop 0;refine FL.v (E.append rfl rfl runB1) ?_;refine FL.v (E.nilCheck rfl) ?_;refine FL.v (E.fieldAddr zbC rfl) ?_;obtain ⟨wB8,runB9,SBa⟩:=SB7.store (P:=prog) (t:=107) (i:=1) (j:=0) (cs':=[vAX,Value.map (some b29),vI s82.2.1]) (l':=[oB5,.box b35 109 [vAX,Value.map (some b29),vI s82.2.1],.row 112 1 vAX nAY csAZ,.raw b29 oAL]) (v:=vAX) (c:=[vAX]) rfl sizeOf107 (Ln.cells (SB7.row_ln (i:=2) rfl)) rfl (oC (Ln.one (SB7.row_ln (i:=2) rfl)) zab) (nB rfl) rfl rfl;refine FL.act rfl rfl (E.store rfl rfl runB9) ?_;refine FL.nil<|FW.region<|FL.mv (v:=vK b35) rfl<|FL.mv (v:=vI sCR.2.2.2.2) rfl<|FL.v (E.nilCheck rfl) ?_;refine FL.v (E.fieldAddr tf109_2 rfl) ?_;obtain ⟨wBb,runBc,SBd⟩:=SBa.store (P:=prog) (t:=3) (i:=1) (j:=2) (cs':=[vAX,Value.map (some b29),vI sCR.2.2.2.2]) (l':=[oB5,.box b35 109 [vAX,Value.map (some b29),vI sCR.2.2.2.2],.row 112 1 vAX nAY csAZ,.raw b29 oAL]) (v:=vI sCR.2.2.2.2) (c:=[vI sCR.2.2.2.2]) rfl sizeOf3 rfl rfl (oC rfl zab) (nB rfl) rfl rfl
            refine FL.act rfl rfl (E.store rfl rfl runBc) ?_;refine FL.nil ?_;cases hp;exact ⟨.inl rfl,res0 rfl (by rw [hRAB];exact ⟨_,_,_,_,_,_,rfl,SBd,I0,elsB3,vw168,hm151⟩)⟩
           ·
            refine FW.condF rfl cAK ?_;refine FW.skip ?_;cases hp;exact ⟨.inl rfl,res0 rfl (by rw [hRAB];exact ⟨_,_,_,_,_,_,rfl,SAz,I0,els86,vw88,hm90⟩)⟩
          clear hqAB;refine FL.c (E.call call79 (A3 rfl rfl rfl)) hcAB ?_;intro e wBF hQAB;rw [hRAB] at hQAB;obtain ⟨HBe,vAC,nAD,csAE,oAG,oAI,rfl,SBD,iBE,elsAF,vw143,hm145⟩:=hQAB;refine ⟨_,rfl,?_⟩;refine FL.nil<|FW.region<|FL.v (E.add k96 rfl) ?_;refine FL.mv (v:=vI (wr (((i82:Nat):Int) + 1))) rfl<|FL.nil ?_;cases hp;exact ⟨rfl,⟨_,_,_,_,_,_,SBD,(i93.tr iBE),elsAF,vw143,hm145,(zam rfl (zao hx82) vl80.le),k97,k98,k99,kA0,kA1,kA2,kA3⟩⟩
         ·
          refine FW.condF rfl cAA ?_;refine FW.skip<|FW.region<|FL.v (E.add k96 rfl) ?_;refine FL.mv (v:=vI (wr (((i82:Nat):Int) + 1))) rfl<|FL.nil ?_;cases hp;exact ⟨rfl,⟨_,_,_,_,_,_,SAz,i93,els86,vw88,hm90,(zam rfl (zao hx82) vl80.le),k97,k98,k99,kA0,kA1,kA2,kA3⟩⟩
       ·
        clear hp hq;rintro s82 fBV wBU ⟨HBR,v83,n84,cs85,o87,o89,SBS,iBT,els86,vw88,hm90,kBW,kBX,kBY,kBZ,kC0,kC1,kC2,kC3⟩;refine FW.sr<|FL.v (E.lss kBW kC3) ?_;refine FL.nil<|FW.seq<|FW.condF rfl zas ?_;refine FW.exit ?_;exact ⟨nofun,rfl,⟨_,_,_,_,_,_,SBS,iBT,els86,vw88,hm90,kBX,kBY,kBZ,kC0,kC1⟩⟩
       ·
        clear hq;intro e fBL wBK hD;rcases q82 with s82|x82
        ·
         obtain ⟨rfl,hD⟩:=hD;obtain ⟨HBH,v83,n84,cs85,o87,o89,SBI,iBJ,els86,vw88,hm90,kBM,kBN,kBO,kBP,kBQ⟩:=hD;replace hp:=el_go hp;refine FW.region<|FL.mv kBQ<|FL.v (E.add rfl rfl) ?_;refine FL.as (v:=vI (wr (s54.2.2.2 + 1))) rfl<|FL.nil ?_;cases hp;exact ⟨rfl,⟨_,_,_,_,_,(SBI.sel [1,2,3] (by decide) rfl),(i63.tr iBJ),els86,hm90,kBM,kBN,kBO,kBP,rfl⟩⟩
        ·
         exact x82.elim
      ·
       refine FW.condF rfl c71 ?_;refine FW.exit ?_;cases hp;exact ⟨nofun,rfl,⟨_,_,_,_,_,S62,i63,els58,hm60,k66,k67,k68,k69⟩⟩
     ·
      clear hq;intro e fCV wCU hD;rcases q54 with s54|x54
      ·
       obtain ⟨rfl,hD⟩:=hD;obtain ⟨HCI,v55,n56,cs57,o59,SCS,iCT,els58,hm60,kCW,kCX,kCY,kCZ⟩:=hD;replace hp:=el_go hp;refine FW.region<|FL.mv kCZ<|FL.as (v:=vI (len sCR.1)) rfl<|FL.nil<|FW.region<|FL.mv kCY<|FL.v (E.add rfl rfl) ?_;refine FL.as (v:=vI (wr (sCR.2.2.2.2 + 1))) rfl<|FL.nil ?_;cases hp;exact ⟨rfl,⟨_,_,_,_,_,SCS,(i46.tr iCT),els58,hm60,kCW,kCX,rfl,rfl⟩⟩
      ·
       exact x54.elim
    ·
     refine FW.condF rfl c53 ?_;refine FW.exit ?_;cases hp;exact ⟨nofun,rfl,⟨_,_,_,_,_,S45,i46,elsKD,hm761,k50⟩⟩
   ·
    clear hq;intro e fD5 wD4 hD;rcases qCR with sCR|xCR
    ·
     obtain ⟨rfl,hD⟩:=hD;obtain ⟨HD1,vKA,nKB,csKC,oKE,SD2,iD3,elsKD,hm761,kD6⟩:=hD;replace hp:=el_go hp;refine FW.sr<|FL.mv kD6<|FL.as (v:=vK b35) rfl<|FL.nil (FW.ret ?_);obtain ⟨HD7,SD8,iD9,hDa,nvDb⟩:=SD2.sealRowU (i:=1) (l':=[.box b35 109 [vKA,Value.map (some b29),vI sCR.2.1],.raw b29 oKE]) rfl elsKD (by decide) rfl;obtain ⟨HDc,SDd,iDe,hDf⟩:=SD8.sealMap (i:=1) (l':=[.box b35 109 [vKA,Value.map (some b29),vI sCR.2.1]]) rfl hm761 rfl;obtain ⟨HDg,SDh,iDi,atDj⟩:=SDd.sealBox (i:=0) (l':=[]) rfl rfl;cases hp;exact ⟨.inr rfl,res1 rfl rfl ⟨_,_,rfl,SDh.run,⟨_,rfl,_,_,(hDa.mono (zac (iDe.tr iDi))),(hDf.mono iDi),atDj⟩⟩⟩
    ·
     exact xCR.elim
  ·
   exact x42.elim

theorem zem {Ha:GH} {wa:World} (hs:Sl Ha wa) (q0P:Addr) (a0:zbo) (v0P_0:Value) (v0P_1:Value) (p0P_0:RSl Ha (eN .u16) 1 v0P_0 a0.masks) (p0P_1:MAt (K:=Int) (V:=Int) Ha (Value.int .u16) (Value.int .i64) v0P_1 a0.rounds) (c0P:CAt Ha q0P [v0P_0,v0P_1,vI a0.last]) (v1:Value) (a1:List Int) (p1:RSl Ha eI 1 v1 a1) {r:Int} (hp:(PF.zcT a0 a1)=some r) :
  Calls prog 67 #[vP (q0P),v1] wa (Sc Ha wa (vI r)):=by
 unfold PF.zcT at hp;have S0:=St.init hs;refine zag (N:=19) (args:=[vP (q0P),v1]) func67 rfl rfl rfl ?_;refine FW.sr<|FL.as (v:=vI 0) rfl<|FL.nil (FW.seq (FW.seq ?_));refine FW.draw (fun w'=>Run wa.heap.size Ha wa Ha w') (by kernel_rfl) (by kernel_rfl) (zaz S0.sl) ?_;refine FD.v (fun _ z=>(E.move (v:=vP (q0P)) rfl)) ?_;refine FD.v (fun _ z=>(E.nilCheck rfl)) ?_;refine FD.v (fun _ z=>(E.fieldAddr tf109_1 rfl)) ?_;refine FD.v (fun _ z=>(E.load rfl (zad isAgg106 (c0P.now (S0.call z).sl) rfl))) ?_;refine FD.v (fun _ z=>(E.move (v:=v1) rfl)) ?_;obtain ⟨r22,hr23,hp⟩:=bnd hp;refine FD.call rfl rfl rfl (fun _ z=>(E.call call80 (A1 rfl))) (fun _ z=>Calls.cls z (w_impl_maskOf (S0.call z).sl v1 a1 p1 hr23)) ?_;refine FD.v (fun _ z=>(E.lookup rfl rfl (p0P_1.getOk (P:=prog) (S0.call z).sl runUnderlying106 (zbc.intk runUnderlying112) (z:=0) zeroValue3 r22))) ?_;refine FD.v (fun _ z=>(E.move (v:=Value.tuple #[vI ((mget a0.rounds r22).getD 0),vB ((mget a0.rounds r22).isSome)]) rfl)) ?_;refine FD.v (fun _ z=>(E.extract (i:=0) rfl rfl)) ?_;refine FD.v (fun _ z=>(E.extract (i:=1) rfl rfl)) ?_;refine FD.v (fun _ z=>(E.assign (v:=vI ((mget a0.rounds r22).getD 0)) rfl)) ?_;refine FD.v (fun _ z=>(E.assign (v:=vB ((mget a0.rounds r22).isSome)) rfl)) ?_;refine FD.nil ?_;intro w24 r26;have S25:=S0.call r26;refine FW.sr<|FL.mv (v:=vB ((mget a0.rounds r22).isSome)) rfl<|FL.nil ?_;rcases ifB hp with ⟨c27,hp⟩|⟨c27,hp⟩
 ·
  refine FW.condT rfl c27 ?_;refine FW.sr<|FL.mv (v:=vI ((mget a0.rounds r22).getD 0)) rfl<|FL.as (v:=vI ((mget a0.rounds r22).getD 0)) rfl<|FL.nil (FW.ret ?_);cases hp;exact ⟨.inr rfl,res1 rfl rfl ⟨rfl,S25.back⟩⟩
 ·
  refine FW.condF rfl c27 ?_;refine FW.skip<|FW.sr<|FL.as (v:=vI (-1)) rfl<|FL.nil (FW.ret ?_);cases hp;exact ⟨.inr rfl,res1 rfl rfl ⟨rfl,S25.back⟩⟩

theorem w_impl_narrow {Ha:GH} {wa:World} (hs:Sl Ha wa) (a0:Cnf) (v0_1:Value) (p0_1:RSl Ha (eL eI 1) 1 v0_1 a0.clauses) (a1:Int) {r:Bool} (hp:(PF.zcd a0 a1)=some r) :
  Calls prog 41 #[vA #[vI a0.vars,v0_1],vI a1] wa (Sc Ha wa (vB r)):=by
 unfold PF.zcd at hp; have S0 := St.init hs; refine zag (N := 10) (args := [vA #[vI a0.vars, v0_1], vI a1]) func41 rfl rfl rfl ?_; refine FW.sr ?_; obtain ⟨b21, w22, run23, S24⟩ := S0.box (P := prog) 44 [vI a0.vars, v0_1] (v := vA #[vI a0.vars, v0_1]) rfl (oC rfl (oC p0_1.one zab)); refine FL.v (E.box rfl run23) ?_; obtain ⟨H25, S26, i27, at28⟩ := S24.sealBox (i := 0) (l' := []) rfl rfl; refine FL.as (v := vB false) rfl <| FL.nil <| FW.sr <| FL.v (E.load rfl (zah isAgg44 sizeOf44 (at28.now S26.sl) rfl)) ?_; refine FL.mv (v := vI a1) rfl ?_; obtain ⟨r29, hr30, hp⟩ := bnd hp; refine FL.c (E.call call66 (A2 rfl rfl)) (w_impl_closureOf S26.sl a0 v0_1 (p0_1.mono i27) a1 hr30) ?_; rintro e w32 ⟨H31, v35, rfl, r34, h36⟩; refine ⟨_, rfl, ?_⟩; have S33 := S26.call r34; obtain ⟨y37, hy38, hp⟩ := bnd hp; rw [hy38] at h36; obtain ⟨q39, rfl, v40, v43, h41, h44, at45⟩ := h36; have nv42 : New H25 [v40] := New.of_up S26.sl h41.dom; have h41 := h41.mono (up_le S26.size); obtain ⟨r46, hr47, hp⟩ := bnd hp;refine FL.c (E.call call67 (A2 rfl rfl)) (zem S33.sl q39 y37 v40 v43 (h41.mono upI) h44 at45 _ [] (RSl.nil _ _ _) hr47) ?_;rintro e w48 ⟨rfl,r49⟩;refine ⟨_,rfl,?_⟩;have S50:=S33.call r49;refine FL.v (E.geq rfl rfl) ?_;refine FL.as (v:=vB (decide (0≤r46))) rfl<|FL.nil (FW.ret ?_);cases hp;exact ⟨.inr rfl,res1 rfl rfl ⟨rfl,S50.back⟩⟩

set_option maxHeartbeats 4000000 in
theorem w_impl_LeastWidth {Ha:GH} {wa:World} (hs:Sl Ha wa) (a0:Cnf) (v0_1:Value) (p0_1:RSl Ha (eL eI 1) 1 v0_1 a0.clauses) {r:(Int×Bool)} (hp:(PF.zbA a0)=some r) :
  Calls prog 18 #[vA #[vI a0.vars,v0_1]] wa (Sc Ha wa (Value.tuple #[vI r.1,vB r.2])):=by
 unfold PF.zbA at hp;have S0:=St.init hs;refine zag (N:=16) (args:=[vA #[vI a0.vars,v0_1]]) func18 rfl rfl rfl ?_;refine FW.sr ?_;obtain ⟨b21,w22,run23,S24⟩:=S0.box (P:=prog) 44 [vI a0.vars,v0_1] (v:=vA #[vI a0.vars,v0_1]) rfl (oC rfl (oC p0_1.one zab));refine FL.v (E.box rfl run23) ?_;obtain ⟨H25,S26,i27,at28⟩:=S24.sealBox (i:=0) (l':=[]) rfl rfl;refine FL.as (v:=vI 0) rfl<|FL.as (v:=vB false) rfl<|FL.nil (FW.seq (FW.sr ?_));refine FL.v (E.load rfl (zah isAgg44 sizeOf44 (at28.now S26.sl) rfl)) ?_;obtain ⟨r29,hr30,hp⟩:=bnd hp;refine FL.c (E.call call40 (A2 rfl rfl)) (w_impl_narrowOk S26.sl a0 v0_1 (p0_1.mono i27) 0 hr30) ?_;rintro e w31 ⟨rfl,r32⟩;refine ⟨_,rfl,?_⟩;have S33:=S26.call r32;refine FL.v (E.not rfl) ?_;refine FL.nil ?_;rcases ifB hp with ⟨c34,hp⟩|⟨c34,hp⟩
 ·
  refine FW.condT rfl c34 ?_;refine FW.sr<|FL.as (v:=vI 0) rfl<|FL.as (v:=vB false) rfl<|FL.nil (FW.ret ?_);cases hp;exact ⟨.inr rfl,res2 rfl rfl rfl ⟨rfl,S33.back⟩⟩
 ·
  refine FW.condF rfl c34 ?_;refine FW.skip (FW.seq (FW.sr ?_));refine FL.as (v:=vI 0) rfl<|FL.nil ?_;obtain ⟨q35,hq,hp⟩:=bndR hp;refine FW.block ?_;refine FW.mono (FW.iter (S:=Int) (X:=(Int×Bool)) (fun (s35:Int) f w=>∃ H:GH,St Ha wa H w []∧Inc H25 H∧f 1=vK b21∧f 4=vI s35) (fun q e f w=>match q with|.go s35=>e=Exit.exit 0∧(∃ H:GH,St Ha wa H w []∧Inc H25 H)|.rt x=>((e=Exit.ret)∧(fun e f w=>(e=Exit.normal∨e=Exit.ret)∧∀ a,Fr (δ:=[]) 16 a f→∃ v,(results Tryz.f18 a.tmps).run prog w=.ok v w∧(Sc Ha wa (Value.tuple #[vI x.1,vB x.2])) (.returned v) w) e f w)) hq ⟨_,S33,I0,rfl,rfl⟩ ?_) ?_
  ·
   clear hp hq;rintro s35 f54 w53 ⟨H50,S51,i52,k55,k56⟩ o64 hp;refine FW.seq<|FW.sr<|FL.mv k56<|FL.v (E.leq rfl rfl) ?_;refine FL.nil ?_;rcases ifB hp with ⟨c57,hp⟩|⟨c57,hp⟩
   ·
    refine FW.condT rfl c57 ?_;refine FW.skip (FW.seq (FW.block (FW.sr ?_)));refine FL.v (E.load k55 (zah isAgg44 sizeOf44 ((at28.mono i52).now S51.sl) rfl)) ?_;refine FL.mv k56 ?_;obtain ⟨r58,hr59,hp⟩:=bnd hp;refine FL.c (E.call call41 (A2 rfl rfl)) (w_impl_narrow S51.sl a0 v0_1 (p0_1.mono (i27.tr i52)) s35 hr59) ?_;rintro e w60 ⟨rfl,r61⟩;refine ⟨_,rfl,?_⟩;have S62:=S51.call r61;refine FL.nil ?_;rcases ifB hp with ⟨c63,hp⟩|⟨c63,hp⟩
    ·
     refine FW.condT rfl c63 ?_;refine FW.sr<|FL.mv k56<|FL.as (v:=vI s35) rfl<|FL.as (v:=vB true) rfl<|FL.nil (FW.ret ?_);cases hp;exact ⟨nofun,rfl,⟨.inr rfl,res2 rfl rfl rfl ⟨rfl,S62.back⟩⟩⟩
    ·
     refine FW.condF rfl c63 ?_;refine FW.skip<|FW.region<|FL.mv k56<|FL.v (E.add rfl rfl) ?_;refine FL.as (v:=vI (wr (s35 + 1))) rfl<|FL.nil ?_;cases hp;exact ⟨rfl,⟨_,S62,i52,k55,rfl⟩⟩
   ·
    refine FW.condF rfl c57 ?_;refine FW.exit ?_;cases hp;exact ⟨nofun,rfl,⟨_,S51,i52⟩⟩
  ·
   clear hq;intro e f69 w68 hD;rcases q35 with s35|x35
   ·
    obtain ⟨rfl,hD⟩:=hD;obtain ⟨H65,S66,i67⟩:=hD;replace hp:=el_go hp;refine FW.sr<|FL.as (v:=vI 0) rfl<|FL.as (v:=vB false) rfl<|FL.nil (FW.ret ?_);cases hp;exact ⟨.inr rfl,res2 rfl rfl rfl ⟨rfl,S66.back⟩⟩
   ·
    obtain ⟨he,hL⟩:=hD;replace hp:=el_rt hp;cases hp;subst he;exact hL

theorem w_spec_l2Lit {Ha:GH} {wa:World} (hs:Sl Ha wa) (a0:Int) (a1:Int) :
  Calls prog 104 #[vI a0,vI a1] wa (Sc Ha wa (vB (PF.zbB a0 a1))):=by
 obtain ⟨r,hp⟩:∃ r,(PF.zbB a0 a1)=r:=⟨_,rfl⟩;rw [hp];unfold PF.zbB at hp;have S0:=St.init hs;refine zag (N:=14) (args:=[vI a0,vI a1]) func104 rfl rfl rfl ?_;refine FW.sr<|FL.as (v:=vB false) rfl<|FL.nil<|FW.sr<|FL.mv (v:=vI a1) rfl<|FL.mv (v:=vI a0) rfl<|FL.v (E.neg rfl) ?_;refine FL.mv (v:=vI a0) rfl ?_;refine FL.c (E.call call58 (A3 rfl rfl rfl)) (zbj S0.sl a1 (wr (-a0)) a0) ?_;rintro e w21 ⟨rfl,r22⟩;refine ⟨_,rfl,?_⟩;have S23:=S0.call r22;refine FL.mv (v:=vB (PF.zau a1 (wr (-a0)) a0)) rfl ?_;refine FL.cut 3 (fun f w=>∃ H:GH,St Ha wa H w []∧Inc Ha H∧f 13=vB (bif (PF.zau a1 (wr (-a0)) a0) then (!(a1 == 0)) else false)) ?_ ?_
 ·
  rcases bcase (PF.zau a1 (wr (-a0)) a0) with c30|c30
  ·
   refine FL.y (wY c30) (E.move (v:=vI a1) rfl) ?_;refine FL.y (wY c30) (E.neq rfl rfl) ?_;refine FL.v (E.pickT rfl c30 rfl) ?_;exact FL.nil ⟨rfl,_,S23,I0,(congrArg vB (bifT c30).symm)⟩
  ·
   refine FL.n c30<|FL.n c30<|FL.v (E.pickF rfl c30 rfl) ?_;exact FL.nil ⟨rfl,_,S23,I0,(congrArg vB (bifF c30).symm)⟩
 rintro f29 w28 ⟨H25,S26,i27,k31⟩;refine FL.as k31 ?_;refine FL.nil (FW.ret ?_);obtain rfl:=hp;exact ⟨.inr rfl,res1 rfl rfl ⟨rfl,S26.back⟩⟩

theorem zc4 {Ha:GH} {wa:World} (hs:Sl Ha wa) (a0:Int) :
  Calls prog 105 #[vI a0] wa (Sc Ha wa (vI (PF.zbr a0))):=by
 obtain ⟨r,hp⟩:∃ r,(PF.zbr a0)=r:=⟨_,rfl⟩;rw [hp];unfold PF.zbr at hp;have S0:=St.init hs;refine zag (N:=8) (args:=[vI a0]) func105 rfl rfl rfl ?_;refine FW.sr<|FL.as (v:=vI 0) rfl<|FL.nil (FW.seq (FW.sr ?_));refine FL.mv (v:=vI a0) rfl<|FL.v (E.lss rfl rfl) ?_;refine FL.nil ?_;rcases ifT hp with ⟨c21,hp⟩|⟨c21,hp⟩
 ·
  refine FW.condT rfl c21 ?_;refine FW.sr<|FL.mv (v:=vI a0) rfl<|FL.v (E.neg rfl) ?_;refine FL.as (v:=vI (wr (-a0))) rfl<|FL.nil (FW.ret ?_);obtain rfl:=hp;exact ⟨.inr rfl,res1 rfl rfl ⟨rfl,S0.back⟩⟩
 ·
  refine FW.condF rfl c21 ?_;refine FW.skip<|FW.sr<|FL.mv (v:=vI a0) rfl<|FL.as (v:=vI a0) rfl<|FL.nil (FW.ret ?_);obtain rfl:=hp;exact ⟨.inr rfl,res1 rfl rfl ⟨rfl,S0.back⟩⟩

set_option maxHeartbeats 4000000 in
theorem w_spec_l2Clause {Ha:GH} {wa:World} (hs:Sl Ha wa) (a0:Int) (v1:Value) (a1:List Int) (p1:RSl Ha eI 1 v1 a1) {r:Bool} (hp:(PF.zcU a0 a1)=some r) :
  Calls prog 84 #[vI a0,v1] wa (Sc Ha wa (vB r)):=by
 unfold PF.zcU at hp;have S0:=St.init hs;refine zag (N:=40) (args:=[vI a0,v1]) func84 rfl rfl rfl ?_;refine FW.sr<|FL.as (v:=vB false) rfl<|FL.nil (FW.seq (FW.sr ?_));refine FL.mv (v:=vI a0) rfl ?_;refine FL.c (E.call call52 (A1 rfl)) (zdv S0.sl a0) ?_;rintro e w21 ⟨rfl,r22⟩;refine ⟨_,rfl,?_⟩;have S23:=S0.call r22;refine FL.v (E.not rfl) ?_;refine FL.nil ?_;rcases ifB hp with ⟨c24,hp⟩|⟨c24,hp⟩
 ·
  refine FW.condT rfl c24 ?_;refine FW.sr<|FL.as (v:=vB false) rfl<|FL.nil (FW.ret ?_);cases hp;exact ⟨.inr rfl,res1 rfl rfl ⟨rfl,S23.back⟩⟩
 ·
  refine FW.condF rfl c24 ?_;refine FW.skip (FW.seq (FW.sr ?_));refine FL.as (v:=vI 0) rfl<|FL.nil ?_;obtain ⟨q26,hq,hp⟩:=bndR hp;refine FW.block ?_;refine FW.mono (FW.forL (S:=Unit) (X:=Bool) (fun (i26:Nat) (s26:Unit) f w=>∃ H:GH,St Ha wa H w []∧Inc Ha H∧f 5=vI ((i26:Nat):Int)∧f 0=vI a0∧f 1=v1) (fun q e f w=>match q with|.go s26=>e=Exit.exit 0∧(∃ H:GH,St Ha wa H w []∧Inc Ha H)|.rt x=>((e=Exit.ret)∧(fun e f w=>(e=Exit.normal∨e=Exit.ret)∧∀ a,Fr (δ:=[]) 40 a f→∃ v,(results Tryz.f84 a.tmps).run prog w=.ok v w∧(Sc Ha wa (vB x)) (.returned v) w) e f w)) hq ⟨_,S23,I0,rfl,rfl,rfl⟩ ?_ ?_) ?_
  ·
   clear hp hq;rintro i26 y25 s26 fAF wAE ⟨HAB,SAC,iAD,kAG,kAH,kAI⟩ hx26 oCn hp;refine FW.seq<|FW.sr<|FL.mv kAG<|FL.mv kAI<|FL.v (E.lenP te25 rfl p1) ?_;refine FL.v (E.lssT rfl rfl (zar hx26)) ?_;refine FL.nil<|FW.condT rfl rfl ?_;refine FW.skip (FW.seq (FW.block (FW.seq ?_)));refine FW.draw (fun w'=>Run wAE.heap.size HAB wAE HAB w') (by kernel_rfl) (by kernel_rfl) (zaz SAC.sl) ?_;refine FD.v (fun _ z=>(E.move kAH)) ?_;refine FD.v (fun _ z=>(E.move kAI)) ?_;refine FD.v (fun _ z=>(E.move kAG)) ?_;obtain ⟨pAK,csAL,ptAM,lAN,atAO,relAP⟩:=p1.at (zal hx26);obtain rfl:=zak relAP;refine FD.v (fun _ z=>(E.indexAddr te25 rfl rfl ptAM)) ?_;refine FD.v (fun _ z=>(E.load rfl (zaf isAgg3 ((atAO.mono iAD).now (SAC.call z).sl) rfl))) ?_;refine FD.call rfl rfl rfl (fun _ z=>(E.call call104 (A2 rfl rfl))) (fun _ z=>Calls.cls z (w_spec_l2Lit (SAC.call z).sl a0 y25)) ?_;refine FD.v (fun _ z=>(E.not rfl)) ?_;refine FD.v (fun _ z=>(E.move (v:=vB (!(PF.zbB a0 y25))) rfl)) ?_;obtain ⟨t192,hqtBu,hp⟩:=bnd hp;refine FD.cut 17 (fun f=>f 0=vI a0∧f 1=v1∧f 5=vI ((i26:Nat):Int)∧f 39=vB t192) ?_ ?_
   ·
    clear hp;have hp:=hqtBu;clear hqtBu;rcases ifB hp with ⟨cBA,hp⟩|⟨cBA,hp⟩
    ·
     refine FD.n cBA<|FD.n cBA<|FD.n cBA<|FD.skip (zap rfl rfl rfl) rfl ?_;refine FD.skip (zap rfl rfl rfl) rfl ?_;refine FD.skip (zap rfl rfl rfl) rfl ?_;refine FD.skip (zap rfl rfl rfl) rfl ?_;refine FD.skip (zap rfl rfl rfl) rfl ?_;refine FD.skip (zap rfl rfl rfl) rfl ?_;refine FD.skip (zap rfl rfl rfl) rfl ?_;refine FD.skip (zap rfl rfl rfl) rfl ?_;refine FD.skip (zap rfl rfl rfl) rfl ?_;refine FD.skip (zap rfl rfl rfl) rfl ?_;refine FD.skip (zap rfl rfl rfl) rfl ?_;refine FD.skip (zap rfl rfl rfl) rfl ?_;refine FD.n cBA ?_;cases hp;refine FD.v (fun _ z=>(E.pickT rfl cBA rfl)) ?_;exact FD.nil ⟨kAH,kAI,kAG,rfl⟩
    ·
     refine FD.y (wY cBA) (fun _ z=>(E.move kAG)) ?_;refine FD.y (wY cBA) (fun _ z=>(E.gtr rfl rfl)) ?_;refine FD.y (wY cBA) (fun _ z=>(E.move (v:=vB (decide (0 < ((i26:Nat):Int)))) rfl)) ?_;obtain ⟨t213,hqtBP,hp⟩:=bnd hp;refine FD.cut 13 (fun f=>f 0=vI a0∧f 1=v1∧f 5=vI ((i26:Nat):Int)∧f 22=vB (!(PF.zbB a0 y25))∧f 38=vB t213) ?_ ?_
     ·
      clear hp;have hp:=hqtBP;clear hqtBP;rcases ifB hp with ⟨cBV,hp⟩|⟨cBV,hp⟩
      ·
       refine FD.y (wY cBV) (fun _ z=>(E.move kAI)) ?_;refine FD.y (wY cBV) (fun _ z=>(E.move kAG)) ?_;refine FD.y (wY cBV) (fun _ z=>(E.sub rfl rfl)) ?_;obtain ⟨xC2,hxC3,hp⟩:=bnd hp;obtain ⟨pBW,csBX,ptBY,lBZ,atC0,relC1⟩:=p1.at hxC3;obtain rfl:=zak relC1;refine FD.y (wY cBV) (fun _ z=>(E.indexAddr te25 rfl rfl ptBY)) ?_;refine FD.y (wY cBV) (fun _ z=>(E.load rfl (zaf isAgg3 ((atC0.mono iAD).now (SAC.call z).sl) rfl))) ?_;refine FD.call (wY cBV) rfl rfl (fun _ z=>(E.call call105 (A1 rfl))) (fun _ z=>Calls.cls z (zc4 (SAC.call z).sl xC2)) ?_;refine FD.y (wY cBV) (fun _ z=>(E.move kAI)) ?_;refine FD.y (wY cBV) (fun _ z=>(E.move kAG)) ?_;obtain ⟨pC4,csC5,ptC6,lC7,atC8,relC9⟩:=p1.at (zal hx26);obtain rfl:=zak relC9;refine FD.y (wY cBV) (fun _ z=>(E.indexAddr te25 rfl rfl ptC6)) ?_;refine FD.y (wY cBV) (fun _ z=>(E.load rfl (zaf isAgg3 ((atC8.mono iAD).now (SAC.call z).sl) rfl))) ?_;refine FD.call (wY cBV) rfl rfl (fun _ z=>(E.call call105 (A1 rfl))) (fun _ z=>Calls.cls z (zc4 (SAC.call z).sl y25)) ?_;refine FD.y (wY cBV) (fun _ z=>(E.geq rfl rfl)) ?_;cases hp;refine FD.y (wY cBA) (fun _ z=>(E.pickT rfl cBV rfl)) ?_;exact FD.nil ⟨kAH,kAI,kAG,rfl,rfl⟩
      ·
       refine FD.n cBV<|FD.n cBV<|FD.n cBV<|FD.n cBV<|FD.n cBV<|FD.n cBV<|FD.n cBV<|FD.n cBV<|FD.n cBV ?_;refine FD.n cBV<|FD.n cBV<|FD.n cBV ?_;cases hp;refine FD.y (wY cBA) (fun _ z=>(E.pickF rfl cBV rfl)) ?_;exact FD.nil ⟨kAH,kAI,kAG,rfl,rfl⟩
     rintro fBU ⟨kCa,kCb,kCc,kCd,kCe⟩;cases hp;refine FD.v (fun _ z=>(E.pickF kCd cBA kCe)) ?_;exact FD.nil ⟨kCa,kCb,kCc,rfl⟩
   rintro fBz ⟨kCf,kCg,kCh,kCi⟩;refine FD.nil ?_;intro wCj rCl;have SCk:=SAC.call rCl;rcases ifB hp with ⟨cCm,hp⟩|⟨cCm,hp⟩
   ·
    refine FW.condT kCi cCm ?_;refine FW.sr<|FL.as (v:=vB false) rfl<|FL.nil (FW.ret ?_);cases hp;exact ⟨nofun,rfl,⟨.inr rfl,res1 rfl rfl ⟨rfl,SCk.back⟩⟩⟩
   ·
    refine FW.condF kCi cCm ?_;refine FW.skip<|FW.region<|FL.mv kCh<|FL.v (E.add rfl rfl) ?_;refine FL.as (v:=vI (wr (((i26:Nat):Int) + 1))) rfl<|FL.nil ?_;cases hp;exact ⟨rfl,⟨_,SCk,iAD,(zam rfl (zao hx26) (p1.mono iAD).le),kCf,kCg⟩⟩
  ·
   clear hp hq;rintro s26 fCx wCw ⟨HCt,SCu,iCv,kCy,kCz,kCA⟩;refine FW.seq<|FW.sr<|FL.mv kCy<|FL.mv kCA<|FL.v (E.lenP te25 rfl p1) ?_;refine FL.v (E.lss rfl rfl) ?_;refine FL.nil<|FW.condF rfl zas ?_;refine FW.exit ?_;exact ⟨nofun,rfl,⟨_,SCu,iCv⟩⟩
  ·
   clear hq;intro e fCs wCr hD;rcases q26 with s26|x26
   ·
    obtain ⟨rfl,hD⟩:=hD;obtain ⟨HCo,SCp,iCq⟩:=hD;replace hp:=el_go hp;refine FW.sr<|FL.as (v:=vB true) rfl<|FL.nil (FW.ret ?_);cases hp;exact ⟨.inr rfl,res1 rfl rfl ⟨rfl,SCp.back⟩⟩
   ·
    obtain ⟨he,hL⟩:=hD;replace hp:=el_rt hp;cases hp;subst he;exact hL

set_option maxHeartbeats 4000000 in
theorem w_spec_l2Good {Ha:GH} {wa:World} (hs:Sl Ha wa) (a0:Cnf) (v0_1:Value) (p0_1:RSl Ha (eL eI 1) 1 v0_1 a0.clauses) {r:Bool} (hp:(PF.zcV a0)=some r) :
  Calls prog 68 #[vA #[vI a0.vars,v0_1]] wa (Sc Ha wa (vB r)):=by
 unfold PF.zcV at hp;have S0:=St.init hs;refine zag (N:=30) (args:=[vA #[vI a0.vars,v0_1]]) func68 rfl rfl rfl ?_;refine FW.sr ?_;obtain ⟨b21,w22,run23,S24⟩:=S0.box (P:=prog) 44 [vI a0.vars,v0_1] (v:=vA #[vI a0.vars,v0_1]) rfl (oC rfl (oC p0_1.one zab));refine FL.v (E.box rfl run23) ?_;obtain ⟨H25,S26,i27,at28⟩:=S24.sealBox (i:=0) (l':=[]) rfl rfl;refine FL.as (v:=vB false) rfl<|FL.nil (FW.seq (FW.sr ?_));refine FL.v (E.fieldAddr tf44_0 rfl) ?_;refine FL.v (E.load rfl (zad isAgg3 (at28.now S26.sl) rfl)) ?_;refine FL.c (E.call call52 (A1 rfl)) (zdv S26.sl a0.vars) ?_;rintro e w29 ⟨rfl,r30⟩;refine ⟨_,rfl,?_⟩;have S31:=S26.call r30;refine FL.v (E.not rfl) ?_;refine FL.mv (v:=vB (!(PF.za2 a0.vars))) rfl ?_;refine FL.cut 5 (fun f w=>∃ H:GH,St Ha wa H w []∧Inc H25 H∧f 1=vK b21∧f 13=vB (bif (!(PF.za2 a0.vars)) then true else (decide (60 < (len a0.clauses))))) ?_ ?_
 ·
  rcases bcase (!(PF.za2 a0.vars)) with c38|c38
  ·
   refine FL.n c38<|FL.n c38<|FL.n c38<|FL.n c38<|FL.v (E.pickT rfl c38 rfl) ?_;exact FL.nil ⟨rfl,_,S31,I0,rfl,(congrArg vB (bifT c38).symm)⟩
  ·
   refine FL.y (wY c38) (E.fieldAddr tf44_1 rfl) ?_;refine FL.y (wY c38) (E.load rfl (zad isAgg39 (at28.now S31.sl) rfl)) ?_;refine FL.y (wY c38) (E.lenP te39 rfl p0_1) ?_;refine FL.y (wY c38) (E.gtr rfl rfl) ?_;refine FL.v (E.pickF rfl c38 rfl) ?_;exact FL.nil ⟨rfl,_,S31,I0,rfl,(congrArg vB (bifF c38).symm)⟩
 rintro f37 w36 ⟨H33,S34,i35,k39,k40⟩;refine FL.nil ?_;rcases ifB hp with ⟨c41,hp⟩|⟨c41,hp⟩
 ·
  refine FW.condT k40 c41 ?_;refine FW.sr<|FL.as (v:=vB false) rfl<|FL.nil (FW.ret ?_);cases hp;exact ⟨.inr rfl,res1 rfl rfl ⟨rfl,S34.back⟩⟩
 ·
  refine FW.condF k40 c41 ?_;refine FW.skip (FW.seq (FW.sr ?_));refine FL.as (v:=vI 0) rfl<|FL.nil ?_;obtain ⟨q42,hq,hp⟩:=bndR hp;refine FW.block ?_;refine FW.mono (FW.iter (S:=Int) (X:=Bool) (fun (s42:Int) f w=>∃ H:GH,St Ha wa H w []∧Inc H33 H∧f 1=vK b21∧f 3=vI s42) (fun q e f w=>match q with|.go s42=>e=Exit.exit 0∧(∃ H:GH,St Ha wa H w []∧Inc H33 H)|.rt x=>((e=Exit.ret)∧(fun e f w=>(e=Exit.normal∨e=Exit.ret)∧∀ a,Fr (δ:=[]) 30 a f→∃ v,(results Tryz.f68 a.tmps).run prog w=.ok v w∧(Sc Ha wa (vB x)) (.returned v) w) e f w)) hq ⟨_,S34,I0,k39,rfl⟩ ?_) ?_
  ·
   clear hp hq;rintro s42 f72 w71 ⟨H68,S69,i70,k73,k74⟩ o93 hp;refine FW.seq<|FW.sr<|FL.mv k74<|FL.v (E.fieldAddr tf44_1 k73) ?_;refine FL.v (E.load rfl (zad isAgg39 ((at28.mono (i35.tr i70)).now S69.sl) rfl)) ?_;refine FL.v (E.lenP te39 rfl p0_1) ?_;refine FL.v (E.lss rfl rfl) ?_;refine FL.nil ?_;rcases ifB hp with ⟨c75,hp⟩|⟨c75,hp⟩
   ·
    refine FW.condT rfl c75 ?_;refine FW.skip (FW.seq (FW.block (FW.seq ?_)));refine FW.draw (fun w'=>Run w71.heap.size H68 w71 H68 w') (by kernel_rfl) (by kernel_rfl) (zaz S69.sl) ?_;refine FD.v (fun _ z=>(E.fieldAddr tf44_0 k73)) ?_;refine FD.v (fun _ z=>(E.load rfl (zad isAgg3 ((at28.mono (i35.tr i70)).now (S69.call z).sl) rfl))) ?_;refine FD.v (fun _ z=>(E.fieldAddr tf44_1 k73)) ?_;refine FD.v (fun _ z=>(E.load rfl (zad isAgg39 ((at28.mono (i35.tr i70)).now (S69.call z).sl) rfl))) ?_;refine FD.v (fun _ z=>(E.move k74)) ?_;obtain ⟨x83,hx84,hp⟩:=bnd hp;obtain ⟨p77,cs78,pt79,l80,at81,rel82⟩:=p0_1.at hx84;obtain ⟨v85,rfl,h86⟩:=zaE rel82;refine FD.v (fun _ z=>(E.indexAddr te39 rfl rfl pt79)) ?_;refine FD.v (fun _ z=>(E.load rfl (zaf isAgg25 ((at81.mono ((i27.tr i35).tr i70)).now (S69.call z).sl) rfl))) ?_;obtain ⟨r87,hr88,hp⟩:=bnd hp;refine FD.call rfl rfl rfl (fun _ z=>(E.call call84 (A2 rfl rfl))) (fun _ z=>Calls.cls z (w_spec_l2Clause (S69.call z).sl a0.vars v85 x83 (h86.mono ((i27.tr i35).tr i70)) hr88)) ?_;refine FD.v (fun _ z=>(E.not rfl)) ?_;refine FD.nil ?_;intro w89 r91;have S90:=S69.call r91;rcases ifB hp with ⟨c92,hp⟩|⟨c92,hp⟩
    ·
     refine FW.condT rfl c92 ?_;refine FW.sr<|FL.as (v:=vB false) rfl<|FL.nil (FW.ret ?_);cases hp;exact ⟨nofun,rfl,⟨.inr rfl,res1 rfl rfl ⟨rfl,S90.back⟩⟩⟩
    ·
     refine FW.condF rfl c92 ?_;refine FW.skip<|FW.region<|FL.mv k74<|FL.v (E.add rfl rfl) ?_;refine FL.as (v:=vI (wr (s42 + 1))) rfl<|FL.nil ?_;cases hp;exact ⟨rfl,⟨_,S90,i70,k73,rfl⟩⟩
   ·
    refine FW.condF rfl c75 ?_;refine FW.exit ?_;cases hp;exact ⟨nofun,rfl,⟨_,S69,i70⟩⟩
  ·
   clear hq;intro e f98 w97 hD;rcases q42 with s42|x42
   ·
    obtain ⟨rfl,hD⟩:=hD;obtain ⟨H94,S95,i96⟩:=hD;replace hp:=el_go hp;refine FW.sr<|FL.as (v:=vB true) rfl<|FL.nil (FW.ret ?_);cases hp;exact ⟨.inr rfl,res1 rfl rfl ⟨rfl,S95.back⟩⟩
   ·
    obtain ⟨he,hL⟩:=hD;replace hp:=el_rt hp;cases hp;subst he;exact hL

theorem w_spec_l10Good {Ha:GH} {wa:World} (hs:Sl Ha wa) (a0:Cnf) (v0_1:Value) (p0_1:RSl Ha (eL eI 1) 1 v0_1 a0.clauses) {r:Bool} (hp:(PF.zcW a0)=some r) :
  Calls prog 42 #[vA #[vI a0.vars,v0_1]] wa (Sc Ha wa (vB r)):=by
 unfold PF.zcW at hp;have S0:=St.init hs;refine zag (N:=10) (args:=[vA #[vI a0.vars,v0_1]]) func42 rfl rfl rfl ?_;refine FW.sr ?_;obtain ⟨b21,w22,run23,S24⟩:=S0.box (P:=prog) 44 [vI a0.vars,v0_1] (v:=vA #[vI a0.vars,v0_1]) rfl (oC rfl (oC p0_1.one zab));refine FL.v (E.box rfl run23) ?_;obtain ⟨H25,S26,i27,at28⟩:=S24.sealBox (i:=0) (l':=[]) rfl rfl;refine FL.as (v:=vB false) rfl<|FL.nil<|FW.sr<|FL.v (E.fieldAddr tf44_0 rfl) ?_;refine FL.v (E.load rfl (zad isAgg3 (at28.now S26.sl) rfl)) ?_;refine FL.v (E.leq rfl rfl) ?_;refine FL.mv (v:=vB (decide (a0.vars≤6))) rfl ?_;obtain ⟨t34,hqt34,hp⟩:=bnd hp;refine FL.cut 3 (fun f w=>∃ H:GH,St Ha wa H w []∧Inc H25 H∧f 9=vB t34) ?_ ?_
 ·
  clear hp;have hp:=hqt34;clear hqt34;rcases ifB hp with ⟨c40,hp⟩|⟨c40,hp⟩
  ·
   refine FL.y (wY c40) (E.load rfl (zah isAgg44 sizeOf44 (at28.now S26.sl) rfl)) ?_;obtain ⟨r41,hr42,hp⟩:=bnd hp;refine FL.call (wY c40) rfl rfl (E.call call68 (A1 rfl)) (w_spec_l2Good S26.sl a0 v0_1 (p0_1.mono i27) hr42) ?_;rintro e w43 ⟨rfl,r44⟩;refine ⟨_,rfl,?_⟩;have S45:=S26.call r44;cases hp;refine FL.v (E.pickT rfl c40 rfl) ?_;exact FL.nil ⟨rfl,_,S45,I0,rfl⟩
  ·
   refine FL.n c40<|FL.n c40 ?_;cases hp;refine FL.v (E.pickF rfl c40 rfl) ?_;exact FL.nil ⟨rfl,_,S26,I0,rfl⟩
 rintro f39 w38 ⟨H35,S36,i37,k46⟩;refine FL.as k46 ?_;refine FL.nil (FW.ret ?_);cases hp;exact ⟨.inr rfl,res1 rfl rfl ⟨rfl,S36.back⟩⟩

@[reducible] def p_spec_l1Own (Ha:GH) (wa:World) (r:(List Int)):Ending→World→Prop :=
 fun e w'=>∃ H':GH,∃ v0:Value,∃ n0:Nat,∃ c0:List Value,e=.returned (v0)∧St Ha wa H' w' [.row 3 1 v0 n0 c0]∧Els (up wa.heap.size H') eI 1 c0 r
theorem zaT {Ha:GH} {wa:World} (hs:Sl Ha wa) (v0:Value) (a0:List Int) (p0:RSl Ha eI 1 v0 a0) {r:(List Int)} (hp:(PF.za5 a0)=some r) :
  Calls prog 86 #[v0] wa (p_spec_l1Own Ha wa r):=by
 unfold PF.za5 at hp;have S0:=St.init hs;refine zag (N:=6) (args:=[v0]) func86 rfl rfl rfl ?_;refine FW.sr<|FL.as (v:=vN) rfl<|FL.nil<|FW.sr ?_;obtain ⟨v21,w22,run23,S24⟩:=S0.b0 te25;have els25:Els (up wa.heap.size Ha) eI 1 [] []:=Els.nil;refine FL.v (E.buildSlice (B0) run23) ?_;refine FL.mv (v:=v0) rfl ?_;obtain ⟨xs26,hz27,hp⟩:=bnd hp;obtain ⟨v28,w31,n29,cs30,run32,S33,els34⟩:=S24.appendP (P:=prog) I0 te25 (i:=0) rfl (els25.mono upI) p0 hz27;have els34:Els (up wa.heap.size Ha) eI 1 cs30 xs26:=els34.any (fun _ _ _ _ h=>h);refine FL.v (E.append rfl rfl run32) ?_;refine FL.as (v:=v28) rfl<|FL.nil (FW.ret ?_);cases hp;exact ⟨.inr rfl,res1 rfl rfl ⟨_,_,_,_,rfl,S33,els34⟩⟩

theorem w_spec_l2Key {Ha:GH} {wa:World} (hs:Sl Ha wa) (a0:Int) :
  Calls prog 123 #[vI a0] wa (Sc Ha wa (vI (PF.zaK a0))):=by
 obtain ⟨r,hp⟩:∃ r,(PF.zaK a0)=r:=⟨_,rfl⟩;rw [hp];unfold PF.zaK at hp;have S0:=St.init hs;refine zag (N:=10) (args:=[vI a0]) func123 rfl rfl rfl ?_;refine FW.sr<|FL.as (v:=vI 0) rfl<|FL.nil (FW.seq (FW.sr ?_));refine FL.mv (v:=vI a0) rfl<|FL.v (E.lss rfl rfl) ?_;refine FL.nil ?_;rcases ifT hp with ⟨c21,hp⟩|⟨c21,hp⟩
 ·
  refine FW.condT rfl c21 ?_;refine FW.sr<|FL.mv (v:=vI a0) rfl<|FL.v (E.mul rfl rfl) ?_;refine FL.v (E.add rfl rfl) ?_;refine FL.as (v:=vI (wr ((wr ((-2) * a0)) + 1))) rfl<|FL.nil (FW.ret ?_);obtain rfl:=hp;exact ⟨.inr rfl,res1 rfl rfl ⟨rfl,S0.back⟩⟩
 ·
  refine FW.condF rfl c21 ?_;refine FW.skip<|FW.sr<|FL.mv (v:=vI a0) rfl<|FL.v (E.mul rfl rfl) ?_;refine FL.as (v:=vI (wr (2 * a0))) rfl<|FL.nil (FW.ret ?_);obtain rfl:=hp;exact ⟨.inr rfl,res1 rfl rfl ⟨rfl,S0.back⟩⟩

set_option maxHeartbeats 4000000 in
theorem zdV {Ha:GH} {wa:World} (hs:Sl Ha wa) (v0:Value) (a0:List Int) (p0:RSl Ha eI 1 v0 a0) (v1:Value) (a1:List Int) (p1:RSl Ha eI 1 v1 a1) {r:Bool} (hp:(PF.zce a0 a1)=some r) :
  Calls prog 118 #[v0,v1] wa (Sc Ha wa (vB r)):=by
 unfold PF.zce at hp;have S0:=St.init hs;refine zag (N:=42) (args:=[v0,v1]) func118 rfl rfl rfl ?_;refine FW.sr<|FL.as (v:=vB false) rfl<|FL.nil (FW.seq (FW.sr ?_));refine FL.mv (v:=v0) rfl<|FL.v (E.lenP te25 rfl p0) ?_;refine FL.mv (v:=v1) rfl<|FL.v (E.lenP te25 rfl p1) ?_;refine FL.v (E.neq rfl rfl) ?_;refine FL.nil ?_;rcases ifB hp with ⟨c21,hp⟩|⟨c21,hp⟩
 ·
  refine FW.condT rfl c21 ?_;refine FW.sr<|FL.mv (v:=v0) rfl<|FL.v (E.lenP te25 rfl p0) ?_;refine FL.mv (v:=v1) rfl<|FL.v (E.lenP te25 rfl p1) ?_;refine FL.v (E.lss rfl rfl) ?_;refine FL.as (v:=vB (decide ((len a0) < (len a1)))) rfl<|FL.nil (FW.ret ?_);cases hp;exact ⟨.inr rfl,res1 rfl rfl ⟨rfl,S0.back⟩⟩
 ·
  refine FW.condF rfl c21 ?_;refine FW.skip (FW.seq (FW.sr ?_));refine FL.as (v:=vI 0) rfl<|FL.nil ?_;obtain ⟨q23,hq,hp⟩:=bndR hp;refine FW.block ?_;refine FW.mono (FW.forL (S:=Unit) (X:=Bool) (fun (i23:Nat) (s23:Unit) f w=>∃ H:GH,St Ha wa H w []∧Inc Ha H∧f 5=vI ((i23:Nat):Int)∧f 0=v0∧f 1=v1) (fun q e f w=>match q with|.go s23=>e=Exit.exit 0∧(∃ H:GH,St Ha wa H w []∧Inc Ha H)|.rt x=>((e=Exit.ret)∧(fun e f w=>(e=Exit.normal∨e=Exit.ret)∧∀ a,Fr (δ:=[]) 42 a f→∃ v,(results Tryz.f118 a.tmps).run prog w=.ok v w∧(Sc Ha wa (vB x)) (.returned v) w) e f w)) hq ⟨_,S0,I0,rfl,rfl,rfl⟩ ?_ ?_) ?_
  ·
   clear hp hq;rintro i23 y22 s23 f73 w72 ⟨H69,S70,i71,k74,k75,k76⟩ hx23 oAe hp;refine FW.seq<|FW.sr<|FL.mv k74<|FL.mv k75<|FL.v (E.lenP te25 rfl p0) ?_;refine FL.v (E.lssT rfl rfl (zar hx23)) ?_;refine FL.nil<|FW.condT rfl rfl ?_;refine FW.skip (FW.seq (FW.block (FW.seq ?_)));refine FW.draw (fun w'=>Run w72.heap.size H69 w72 H69 w') (by kernel_rfl) (by kernel_rfl) (zaz S70.sl) ?_;refine FD.v (fun _ z=>(E.move k75)) ?_;refine FD.v (fun _ z=>(E.move k74)) ?_;obtain ⟨p78,cs79,pt80,l81,at82,rel83⟩:=p0.at (zal hx23);obtain rfl:=zak rel83;refine FD.v (fun _ z=>(E.indexAddr te25 rfl rfl pt80)) ?_;refine FD.v (fun _ z=>(E.load rfl (zaf isAgg3 ((at82.mono i71).now (S70.call z).sl) rfl))) ?_;refine FD.v (fun _ z=>(E.move k76)) ?_;refine FD.v (fun _ z=>(E.move k74)) ?_;obtain ⟨x90,hx91,hp⟩:=bnd hp;obtain ⟨p84,cs85,pt86,l87,at88,rel89⟩:=p1.at hx91;obtain rfl:=zak rel89;refine FD.v (fun _ z=>(E.indexAddr te25 rfl rfl pt86)) ?_;refine FD.v (fun _ z=>(E.load rfl (zaf isAgg3 ((at88.mono i71).now (S70.call z).sl) rfl))) ?_;refine FD.v (fun _ z=>(E.neq rfl rfl)) ?_;refine FD.nil ?_;intro w92 r94;have S93:=S70.call r94;rcases ifB hp with ⟨c95,hp⟩|⟨c95,hp⟩
   ·
    refine FW.condT rfl c95 ?_;refine FW.seq ?_;refine FW.draw (fun w'=>Run w92.heap.size H69 w92 H69 w') (by kernel_rfl) (by kernel_rfl) (zaz S93.sl) ?_;refine FD.v (fun _ z=>(E.move k75)) ?_;refine FD.v (fun _ z=>(E.move k74)) ?_;obtain ⟨p97,cs98,pt99,lA0,atA1,relA2⟩:=p0.at (zal hx23);obtain rfl:=zak relA2;refine FD.v (fun _ z=>(E.indexAddr te25 rfl rfl pt99)) ?_;refine FD.v (fun _ z=>(E.load rfl (zaf isAgg3 ((atA1.mono i71).now (S93.call z).sl) rfl))) ?_;refine FD.call rfl rfl rfl (fun _ z=>(E.call call123 (A1 rfl))) (fun _ z=>Calls.cls z (w_spec_l2Key (S93.call z).sl y22)) ?_;refine FD.v (fun _ z=>(E.move k76)) ?_;refine FD.v (fun _ z=>(E.move k74)) ?_;obtain ⟨xA9,hxAa,hp⟩:=bnd hp;obtain ⟨pA3,csA4,ptA5,lA6,atA7,relA8⟩:=p1.at hxAa;obtain rfl:=zak relA8;refine FD.v (fun _ z=>(E.indexAddr te25 rfl rfl ptA5)) ?_;refine FD.v (fun _ z=>(E.load rfl (zaf isAgg3 ((atA7.mono i71).now (S93.call z).sl) rfl))) ?_;refine FD.call rfl rfl rfl (fun _ z=>(E.call call123 (A1 rfl))) (fun _ z=>Calls.cls z (w_spec_l2Key (S93.call z).sl xA9)) ?_;refine FD.v (fun _ z=>(E.lss rfl rfl)) ?_;refine FD.v (fun _ z=>(E.assign (v:=vB (decide ((PF.zaK y22) < (PF.zaK xA9)))) rfl)) ?_;refine FD.nil ?_;intro wAb rAd;have SAc:=S93.call rAd;refine FW.ret ?_;cases hp;exact ⟨nofun,rfl,⟨.inr rfl,res1 rfl rfl ⟨rfl,SAc.back⟩⟩⟩
   ·
    refine FW.condF rfl c95 ?_;refine FW.skip<|FW.region<|FL.mv k74<|FL.v (E.add rfl rfl) ?_;refine FL.as (v:=vI (wr (((i23:Nat):Int) + 1))) rfl<|FL.nil ?_;cases hp;exact ⟨rfl,⟨_,S93,i71,(zam rfl (zao hx23) (p0.mono i71).le),k75,k76⟩⟩
  ·
   clear hp hq;rintro s23 fAo wAn ⟨HAk,SAl,iAm,kAp,kAq,kAr⟩;refine FW.seq<|FW.sr<|FL.mv kAp<|FL.mv kAq<|FL.v (E.lenP te25 rfl p0) ?_;refine FL.v (E.lss rfl rfl) ?_;refine FL.nil<|FW.condF rfl zas ?_;refine FW.exit ?_;exact ⟨nofun,rfl,⟨_,SAl,iAm⟩⟩
  ·
   clear hq;intro e fAj wAi hD;rcases q23 with s23|x23
   ·
    obtain ⟨rfl,hD⟩:=hD;obtain ⟨HAf,SAg,iAh⟩:=hD;replace hp:=el_go hp;refine FW.sr<|FL.as (v:=vB false) rfl<|FL.nil (FW.ret ?_);cases hp;exact ⟨.inr rfl,res1 rfl rfl ⟨rfl,SAg.back⟩⟩
   ·
    obtain ⟨he,hL⟩:=hD;replace hp:=el_rt hp;cases hp;subst he;exact hL

theorem zdz {Ha:GH} {wa:World} (hs:Sl Ha wa) (v0:Value) (a0:List (List Int)) (p0:RSl Ha (eL eI 1) 1 v0 a0) (v1:Value) (a1:List Int) (p1:RSl Ha eI 1 v1 a1) {r:Int} (hp:(PF.zbS a0 a1)=some r) :
  Calls prog 106 #[v0,v1] wa (Sc Ha wa (vI r)):=by
 unfold PF.zbS at hp;have S0:=St.init hs;refine zag (N:=27) (args:=[v0,v1]) func106 rfl rfl rfl ?_;refine FW.sr<|FL.as (v:=vI 0) rfl<|FL.nil<|FW.sr<|FL.mv (v:=v0) rfl<|FL.v (E.lenP te39 rfl p0) ?_;refine FL.as (v:=vI 0) rfl<|FL.as (v:=vI (len a0)) rfl<|FL.nil<|FW.seq ?_;obtain ⟨q21,hq,hp⟩:=bndR hp;refine FW.block ?_;refine FW.mono (FW.iter (S:=(Int×Int)) (X:=Empty) (fun (s21:(Int×Int)) f w=>∃ H:GH,St Ha wa H w []∧Inc Ha H∧f 0=v0∧f 1=v1∧f 5=vI s21.1∧f 6=vI s21.2) (fun (q:Rs (Int×Int) Empty) e f w=>match q with|.go s21=>e=Exit.exit 0∧(∃ H:GH,St Ha wa H w []∧Inc Ha H∧f 5=vI s21.1)|.rt x=>x.elim) hq ⟨_,S0,I0,rfl,rfl,rfl,rfl⟩ ?_) ?_
 ·
  clear hp hq;rintro s21 f52 w51 ⟨H48,S49,i50,k53,k54,k55,k56⟩ o74 hp;refine FW.seq<|FW.sr<|FL.mv k55<|FL.mv k56<|FL.v (E.lss rfl rfl) ?_;refine FL.nil ?_;rcases ifB hp with ⟨c57,hp⟩|⟨c57,hp⟩
  ·
   refine FW.condT rfl c57 ?_;refine FW.skip (FW.block (FW.sr ?_));refine FL.mv k55<|FL.mv k56<|FL.v (E.add rfl rfl) ?_;refine FL.v (E.quo rfl rfl (by decide)) ?_;refine FL.as (v:=vI (wr ((wr (s21.1 + s21.2)).tdiv 2))) rfl<|FL.nil<|FW.sr<|FL.mv k53<|FL.mv (v:=vI (wr ((wr (s21.1 + s21.2)).tdiv 2))) rfl ?_;obtain ⟨x64,hx65,hp⟩:=bnd hp;obtain ⟨p58,cs59,pt60,l61,at62,rel63⟩:=p0.at hx65;obtain ⟨v66,rfl,h67⟩:=zaE rel63;refine FL.v (E.indexAddr te39 rfl rfl pt60) ?_;refine FL.v (E.load rfl (zaf isAgg25 ((at62.mono i50).now S49.sl) rfl)) ?_;refine FL.mv k54 ?_;obtain ⟨r68,hr69,hp⟩:=bnd hp;refine FL.c (E.call call118 (A2 rfl rfl)) (zdV S49.sl v66 x64 (h67.mono i50) v1 a1 (p1.mono i50) hr69) ?_;rintro e w70 ⟨rfl,r71⟩;refine ⟨_,rfl,?_⟩;have S72:=S49.call r71;refine FL.nil ?_;rcases ifB hp with ⟨c73,hp⟩|⟨c73,hp⟩
   ·
    refine FW.condT rfl c73 ?_;refine FW.region<|FL.mv (v:=vI (wr ((wr (s21.1 + s21.2)).tdiv 2))) rfl<|FL.v (E.add rfl rfl) ?_;refine FL.as (v:=vI (wr ((wr ((wr (s21.1 + s21.2)).tdiv 2)) + 1))) rfl<|FL.nil ?_;cases hp;exact ⟨rfl,⟨_,S72,i50,k53,k54,rfl,k56⟩⟩
   ·
    refine FW.condF rfl c73 ?_;refine FW.region<|FL.mv (v:=vI (wr ((wr (s21.1 + s21.2)).tdiv 2))) rfl<|FL.as (v:=vI (wr ((wr (s21.1 + s21.2)).tdiv 2))) rfl<|FL.nil ?_;cases hp;exact ⟨rfl,⟨_,S72,i50,k53,k54,k55,rfl⟩⟩
  ·
   refine FW.condF rfl c57 ?_;refine FW.exit ?_;cases hp;exact ⟨nofun,rfl,⟨_,S49,i50,k55⟩⟩
 ·
  clear hq;intro e f79 w78 hD;rcases q21 with s21|x21
  ·
   obtain ⟨rfl,hD⟩:=hD;obtain ⟨H75,S76,i77,k80⟩:=hD;replace hp:=el_go hp;refine FW.sr<|FL.mv k80<|FL.as (v:=vI s21.1) rfl<|FL.nil (FW.ret ?_);cases hp;exact ⟨.inr rfl,res1 rfl rfl ⟨rfl,S76.back⟩⟩
  ·
   exact x21.elim

set_option maxHeartbeats 4000000 in
theorem w_spec_l1Same {Ha:GH} {wa:World} (hs:Sl Ha wa) (v0:Value) (a0:List Int) (p0:RSl Ha eI 1 v0 a0) (v1:Value) (a1:List Int) (p1:RSl Ha eI 1 v1 a1) {r:Bool} (hp:(PF.zcf a0 a1)=some r) :
  Calls prog 107 #[v0,v1] wa (Sc Ha wa (vB r)):=by
 unfold PF.zcf at hp;have S0:=St.init hs;refine zag (N:=26) (args:=[v0,v1]) func107 rfl rfl rfl ?_;refine FW.sr<|FL.as (v:=vB false) rfl<|FL.nil (FW.seq (FW.sr ?_));refine FL.mv (v:=v0) rfl<|FL.v (E.lenP te25 rfl p0) ?_;refine FL.mv (v:=v1) rfl<|FL.v (E.lenP te25 rfl p1) ?_;refine FL.v (E.neq rfl rfl) ?_;refine FL.nil ?_;rcases ifB hp with ⟨c21,hp⟩|⟨c21,hp⟩
 ·
  refine FW.condT rfl c21 ?_;refine FW.sr<|FL.as (v:=vB false) rfl<|FL.nil (FW.ret ?_);cases hp;exact ⟨.inr rfl,res1 rfl rfl ⟨rfl,S0.back⟩⟩
 ·
  refine FW.condF rfl c21 ?_;refine FW.skip (FW.seq (FW.sr ?_));refine FL.as (v:=vI 0) rfl<|FL.nil ?_;obtain ⟨q23,hq,hp⟩:=bndR hp;refine FW.block ?_;refine FW.mono (FW.forL (S:=Unit) (X:=Bool) (fun (i23:Nat) (s23:Unit) f w=>∃ H:GH,St Ha wa H w []∧Inc Ha H∧f 5=vI ((i23:Nat):Int)∧f 0=v0∧f 1=v1) (fun q e f w=>match q with|.go s23=>e=Exit.exit 0∧(∃ H:GH,St Ha wa H w []∧Inc Ha H)|.rt x=>((e=Exit.ret)∧(fun e f w=>(e=Exit.normal∨e=Exit.ret)∧∀ a,Fr (δ:=[]) 26 a f→∃ v,(results Tryz.f107 a.tmps).run prog w=.ok v w∧(Sc Ha wa (vB x)) (.returned v) w) e f w)) hq ⟨_,S0,I0,rfl,rfl,rfl⟩ ?_ ?_) ?_
  ·
   clear hp hq;rintro i23 y22 s23 f55 w54 ⟨H51,S52,i53,k56,k57,k58⟩ hx23 o78 hp;refine FW.seq<|FW.sr<|FL.mv k56<|FL.mv k57<|FL.v (E.lenP te25 rfl p0) ?_;refine FL.v (E.lssT rfl rfl (zar hx23)) ?_;refine FL.nil<|FW.condT rfl rfl ?_;refine FW.skip (FW.seq (FW.block (FW.seq ?_)));refine FW.draw (fun w'=>Run w54.heap.size H51 w54 H51 w') (by kernel_rfl) (by kernel_rfl) (zaz S52.sl) ?_;refine FD.v (fun _ z=>(E.move k57)) ?_;refine FD.v (fun _ z=>(E.move k56)) ?_;obtain ⟨p60,cs61,pt62,l63,at64,rel65⟩:=p0.at (zal hx23);obtain rfl:=zak rel65;refine FD.v (fun _ z=>(E.indexAddr te25 rfl rfl pt62)) ?_;refine FD.v (fun _ z=>(E.load rfl (zaf isAgg3 ((at64.mono i53).now (S52.call z).sl) rfl))) ?_;refine FD.v (fun _ z=>(E.move k58)) ?_;refine FD.v (fun _ z=>(E.move k56)) ?_;obtain ⟨x72,hx73,hp⟩:=bnd hp;obtain ⟨p66,cs67,pt68,l69,at70,rel71⟩:=p1.at hx73;obtain rfl:=zak rel71;refine FD.v (fun _ z=>(E.indexAddr te25 rfl rfl pt68)) ?_;refine FD.v (fun _ z=>(E.load rfl (zaf isAgg3 ((at70.mono i53).now (S52.call z).sl) rfl))) ?_;refine FD.v (fun _ z=>(E.neq rfl rfl)) ?_;refine FD.nil ?_;intro w74 r76;have S75:=S52.call r76;rcases ifB hp with ⟨c77,hp⟩|⟨c77,hp⟩
   ·
    refine FW.condT rfl c77 ?_;refine FW.sr<|FL.as (v:=vB false) rfl<|FL.nil (FW.ret ?_);cases hp;exact ⟨nofun,rfl,⟨.inr rfl,res1 rfl rfl ⟨rfl,S75.back⟩⟩⟩
   ·
    refine FW.condF rfl c77 ?_;refine FW.skip<|FW.region<|FL.mv k56<|FL.v (E.add rfl rfl) ?_;refine FL.as (v:=vI (wr (((i23:Nat):Int) + 1))) rfl<|FL.nil ?_;cases hp;exact ⟨rfl,⟨_,S75,i53,(zam rfl (zao hx23) (p0.mono i53).le),k57,k58⟩⟩
  ·
   clear hp hq;rintro s23 f88 w87 ⟨H84,S85,i86,k89,k90,k91⟩;refine FW.seq<|FW.sr<|FL.mv k89<|FL.mv k90<|FL.v (E.lenP te25 rfl p0) ?_;refine FL.v (E.lss rfl rfl) ?_;refine FL.nil<|FW.condF rfl zas ?_;refine FW.exit ?_;exact ⟨nofun,rfl,⟨_,S85,i86⟩⟩
  ·
   clear hq;intro e f83 w82 hD;rcases q23 with s23|x23
   ·
    obtain ⟨rfl,hD⟩:=hD;obtain ⟨H79,S80,i81⟩:=hD;replace hp:=el_go hp;refine FW.sr<|FL.as (v:=vB true) rfl<|FL.nil (FW.ret ?_);cases hp;exact ⟨.inr rfl,res1 rfl rfl ⟨rfl,S80.back⟩⟩
   ·
    obtain ⟨he,hL⟩:=hD;replace hp:=el_rt hp;cases hp;subst he;exact hL

@[reducible] def p_spec_l2Insert (Ha:GH) (wa:World) (r:(List (List Int))):Ending→World→Prop :=
 fun e w'=>∃ H':GH,∃ v0:Value,e=.returned (v0)∧Run wa.heap.size Ha wa H' w'∧RSl H' (eL eI 1) 1 v0 r
set_option maxHeartbeats 4000000 in
theorem zdA {Ha:GH} {wa:World} (hs:Sl Ha wa) (v0:Value) (a0:List (List Int)) (p0:RSl Ha (eL eI 1) 1 v0 a0) (v1:Value) (a1:List Int) (p1:RSl Ha eI 1 v1 a1) {r:(List (List Int))} (hp:(PF.zbT a0 a1)=some r) :
  Calls prog 85 #[v0,v1] wa (p_spec_l2Insert Ha wa r):=by
 unfold PF.zbT at hp;have S0:=St.init hs;refine zag (N:=34) (args:=[v0,v1]) func85 rfl rfl rfl ?_;refine FW.sr<|FL.as (v:=vN) rfl<|FL.nil<|FW.sr<|FL.mv (v:=v0) rfl<|FL.mv (v:=v1) rfl ?_;obtain ⟨r21,hr22,hp⟩:=bnd hp;refine FL.c (E.call call106 (A2 rfl rfl)) (zdz S0.sl v0 a0 p0 v1 a1 p1 hr22) ?_;rintro e w23 ⟨rfl,r24⟩;refine ⟨_,rfl,?_⟩;have S25:=S0.call r24;refine FL.as (v:=vI r21) rfl<|FL.nil (FW.seq (FW.sr ?_));refine FL.mv (v:=vI r21) rfl<|FL.mv (v:=v0) rfl<|FL.v (E.lenP te39 rfl p0) ?_;refine FL.v (E.lss rfl rfl) ?_;refine FL.mv (v:=vB (decide (r21 < (len a0)))) rfl ?_;obtain ⟨t41,hqt41,hp⟩:=bnd hp;refine FL.cut 7 (fun f w=>∃ H:GH,St Ha wa H w []∧Inc Ha H∧f 0=v0∧f 1=v1∧f 5=vI r21∧f 20=vB t41) ?_ ?_
 ·
  clear hp;have hp:=hqt41;clear hqt41;rcases ifB hp with ⟨c47,hp⟩|⟨c47,hp⟩
  ·
   refine FL.y (wY c47) (E.move (v:=v0) rfl) ?_;refine FL.y (wY c47) (E.move (v:=vI r21) rfl) ?_;obtain ⟨x54,hx55,hp⟩:=bnd hp;obtain ⟨p48,cs49,pt50,l51,at52,rel53⟩:=p0.at hx55;obtain ⟨v56,rfl,h57⟩:=zaE rel53;refine FL.y (wY c47) (E.indexAddr te39 rfl rfl pt50) ?_;refine FL.y (wY c47) (E.load rfl (zaf isAgg25 (at52.now S25.sl) rfl)) ?_;refine FL.y (wY c47) (E.move (v:=v1) rfl) ?_;obtain ⟨r58,hr59,hp⟩:=bnd hp;refine FL.call (wY c47) rfl rfl (E.call call107 (A2 rfl rfl)) (w_spec_l1Same S25.sl v56 x54 h57 v1 a1 p1 hr59) ?_;rintro e w60 ⟨rfl,r61⟩;refine ⟨_,rfl,?_⟩;have S62:=S25.call r61;cases hp;refine FL.v (E.pickT rfl c47 rfl) ?_;exact FL.nil ⟨rfl,_,S62,I0,rfl,rfl,rfl,rfl⟩
  ·
   refine FL.n c47<|FL.n c47<|FL.n c47<|FL.n c47<|FL.n c47<|FL.n c47 ?_;cases hp;refine FL.v (E.pickF rfl c47 rfl) ?_;exact FL.nil ⟨rfl,_,S25,I0,rfl,rfl,rfl,rfl⟩
 rintro f46 w45 ⟨H42,S43,i44,k63,k64,k65,k66⟩;refine FL.nil ?_;rcases ifB hp with ⟨c67,hp⟩|⟨c67,hp⟩
 ·
  refine FW.condT k66 c67 ?_;refine FW.sr<|FL.mv k63<|FL.as (v:=v0) rfl<|FL.nil (FW.ret ?_);cases hp;exact ⟨.inr rfl,res1 rfl rfl ⟨_,_,rfl,S43.run,(p0.mono i44)⟩⟩
 ·
  refine FW.condF k66 c67 ?_;refine FW.skip<|FW.seq ?_;obtain ⟨xs31,hc32,hp⟩:=bnd hp;obtain ⟨xs36,hz37,hp⟩:=bnd hp;obtain ⟨xs81,hz82,hp⟩:=bnd hp;obtain ⟨xs92,hc93,hp⟩:=bnd hp;obtain ⟨xs97,hz98,hp⟩:=bnd hp;refine FW.drawB (Sl H42) (fun f w=>∃ H:GH,∃ vA6:Value,∃ nA7:Nat,∃ csA8:List Value,St Ha wa H w [.row 25 1 vA6 nA7 csA8]∧Inc H42 H∧Els H (eL eI 1) 1 csA8 xs97∧f 4=vA6) (by kernel_rfl) S43.sl ?_ ?_
  ·
   intro w68 r69;have S70:=S43.call r69;refine FB.T 1 13 2 rfl S70.sl rfl (fun _ z=>(E.move k63)) ?_;refine FB.T 2 13 6 rfl S70.sl rfl (fun _ z=>(E.move k65)) ?_;obtain ⟨v33,run34,h35⟩:=p0.cut te39 hc32 (lo:=none) (hi:=some (vI r21)) (.inl ⟨rfl,rfl⟩) (.inr ⟨_,rfl⟩);refine FB.T 3 13 14 rfl S70.sl rfl (fun _ z=>(E.slice te39 rfl rfl (congrArg some rfl) rfl (run34 _))) ?_;refine FB.T 5 13 46 rfl S70.sl rfl (fun _ z=>(E.move k64)) ?_;refine FB.T 8 13 302 rfl S70.sl rfl (fun _ z=>(E.move k63)) ?_;refine FB.T 9 13 814 rfl S70.sl rfl (fun _ z=>(E.move k65)) ?_;obtain ⟨v94,run95,h96⟩:=p0.cut te39 hc93 (lo:=some (vI r21)) (hi:=none) (.inr ⟨_,rfl⟩) (.inl ⟨rfl,rfl⟩);refine FB.T 10 13 1838 rfl S70.sl rfl (fun _ z=>(E.slice te39 rfl (congrArg some rfl) rfl rfl (run95 _))) ?_;refine FB.all2 (i:=0) (j:=6) (by kernel_rfl) ?_ ?_
   ·
    obtain ⟨v26,w27,run28,S29⟩:=S70.b0 te39;have els30:Els (up wa.heap.size H42) (eL eI 1) 1 [] []:=Els.nil;refine FC.val (l':=(bs 13 1839)) rfl (by kernel_rfl) rfl rfl rfl (E.buildSlice (B0) run28) ?_;refine ⟨(SP.nil S29.sl),?_⟩;refine FB.all2 (i:=4) (j:=6) (by kernel_rfl) ?_ ?_
    ·
     obtain ⟨v38,w72,n40,cs71,run73,S74,els75⟩:=S29.appendP (P:=prog) I0 te39 (i:=0) rfl (els30.mono upI) (h35.mono i44) hz37;refine FC.val (l':=(bs 13 1855)) rfl (by kernel_rfl) rfl rfl rfl (E.append rfl rfl run73) ?_;refine ⟨(SP.nil S74.sl),?_⟩;refine FB.all1 (i:=6) (by kernel_rfl) ?_
     ·
      obtain ⟨v76,w77,run78,S79⟩:=S74.b1 te39 p1.cells p1.one;have els80:Els H42 (eL eI 1) 1 [v1] [a1]:=(Els.snoc (H:=H42) (E:=(eL eI 1)) (k:=1) (c:=[v1]) (x:=a1) Els.nil rfl ⟨_,rfl,(p1.mono i44)⟩);refine FC.val (l':=(bs 13 1919)) rfl (by kernel_rfl) rfl rfl rfl (E.buildSlice (B1 rfl) run78) ?_;refine ⟨(SP.nil S79.sl),?_⟩;refine FB.all1 (i:=7) (by kernel_rfl) ?_
      ·
       obtain ⟨v83,w86,n84,cs85,run87,S88,els89,ce90⟩:=S79.appendO (P:=prog) te39 (i:=1) (j:=0) rfl els75 rfl els80 hz82;have S91:St Ha wa H42 w86 [.row 25 1 v83 n84 cs85]:=S88.drop 0;refine FC.val (l':=(bs 13 2047)) rfl (by kernel_rfl) rfl rfl rfl (E.append rfl rfl run87) ?_;refine ⟨(SP.nil S91.sl),?_⟩;refine FB.all1 (i:=11) (by kernel_rfl) ?_
       ·
        obtain ⟨v99,wA2,nA0,csA1,runA3,SA4,elsA5⟩:=S91.appendP (P:=prog) I0 te39 (i:=0) rfl els89 (h96.mono i44) hz98;refine FC.val (l':=(bs 13 4095)) rfl (by kernel_rfl) rfl rfl rfl (E.append rfl rfl runA3) ?_;refine sgo (SP.nil SA4.sl) fun sp=>?_;refine FB.r 12 13 8191 rfl sp (fun _ z=>(E.assign (v:=v99) rfl)) (fun sp=>?_);exact FB.done (by kernel_rfl) ⟨_,_,_,_,SA4,I0,elsA5,rfl⟩
    ·
     obtain ⟨v76,w77,run78,S79⟩:=S29.b1 te39 p1.cells p1.one;have els80:Els H42 (eL eI 1) 1 [v1] [a1]:=(Els.snoc (H:=H42) (E:=(eL eI 1)) (k:=1) (c:=[v1]) (x:=a1) Els.nil rfl ⟨_,rfl,(p1.mono i44)⟩);refine FC.val (l':=(bs 13 1903)) rfl (by kernel_rfl) rfl rfl rfl (E.buildSlice (B1 rfl) run78) ?_;refine ⟨(SP.nil S79.sl),?_⟩;refine FB.all1 (i:=4) (by kernel_rfl) ?_
     ·
      obtain ⟨v38,w72,n40,cs71,run73,S74,els75⟩:=S79.appendP (P:=prog) I0 te39 (i:=1) rfl (els30.mono upI) (h35.mono i44) hz37;refine FC.val (l':=(bs 13 1919)) rfl (by kernel_rfl) rfl rfl rfl (E.append rfl rfl run73) ?_;refine ⟨(SP.nil S74.sl),?_⟩;refine FB.all1 (i:=7) (by kernel_rfl) ?_
      ·
       obtain ⟨v83,w86,n84,cs85,run87,S88,els89,ce90⟩:=S74.appendO (P:=prog) te39 (i:=1) (j:=0) rfl els75 rfl els80 hz82;have S91:St Ha wa H42 w86 [.row 25 1 v83 n84 cs85]:=S88.drop 0;refine FC.val (l':=(bs 13 2047)) rfl (by kernel_rfl) rfl rfl rfl (E.append rfl rfl run87) ?_;refine ⟨(SP.nil S91.sl),?_⟩;refine FB.all1 (i:=11) (by kernel_rfl) ?_
       ·
        obtain ⟨v99,wA2,nA0,csA1,runA3,SA4,elsA5⟩:=S91.appendP (P:=prog) I0 te39 (i:=0) rfl els89 (h96.mono i44) hz98;refine FC.val (l':=(bs 13 4095)) rfl (by kernel_rfl) rfl rfl rfl (E.append rfl rfl runA3) ?_;refine sgo (SP.nil SA4.sl) fun sp=>?_;refine FB.r 12 13 8191 rfl sp (fun _ z=>(E.assign (v:=v99) rfl)) (fun sp=>?_);exact FB.done (by kernel_rfl) ⟨_,_,_,_,SA4,I0,elsA5,rfl⟩
   ·
    obtain ⟨v76,w77,run78,S79⟩:=S70.b1 te39 p1.cells p1.one;have els80:Els H42 (eL eI 1) 1 [v1] [a1]:=(Els.snoc (H:=H42) (E:=(eL eI 1)) (k:=1) (c:=[v1]) (x:=a1) Els.nil rfl ⟨_,rfl,(p1.mono i44)⟩);refine FC.val (l':=(bs 13 1902)) rfl (by kernel_rfl) rfl rfl rfl (E.buildSlice (B1 rfl) run78) ?_;refine ⟨(SP.nil S79.sl),?_⟩;refine FB.all1 (i:=0) (by kernel_rfl) ?_
    ·
     obtain ⟨v26,w27,run28,S29⟩:=S79.b0 te39;have els30:Els (up wa.heap.size H42) (eL eI 1) 1 [] []:=Els.nil;refine FC.val (l':=(bs 13 1903)) rfl (by kernel_rfl) rfl rfl rfl (E.buildSlice (B0) run28) ?_;refine ⟨(SP.nil S29.sl),?_⟩;refine FB.all1 (i:=4) (by kernel_rfl) ?_
     ·
      obtain ⟨v38,w72,n40,cs71,run73,S74,els75⟩:=S29.appendP (P:=prog) I0 te39 (i:=0) rfl (els30.mono upI) (h35.mono i44) hz37;refine FC.val (l':=(bs 13 1919)) rfl (by kernel_rfl) rfl rfl rfl (E.append rfl rfl run73) ?_;refine ⟨(SP.nil S74.sl),?_⟩;refine FB.all1 (i:=7) (by kernel_rfl) ?_
      ·
       obtain ⟨v83,w86,n84,cs85,run87,S88,els89,ce90⟩:=S74.appendO (P:=prog) te39 (i:=0) (j:=1) rfl els75 rfl els80 hz82;have S91:St Ha wa H42 w86 [.row 25 1 v83 n84 cs85]:=S88.drop 1;refine FC.val (l':=(bs 13 2047)) rfl (by kernel_rfl) rfl rfl rfl (E.append rfl rfl run87) ?_;refine ⟨(SP.nil S91.sl),?_⟩;refine FB.all1 (i:=11) (by kernel_rfl) ?_
       ·
        obtain ⟨v99,wA2,nA0,csA1,runA3,SA4,elsA5⟩:=S91.appendP (P:=prog) I0 te39 (i:=0) rfl els89 (h96.mono i44) hz98;refine FC.val (l':=(bs 13 4095)) rfl (by kernel_rfl) rfl rfl rfl (E.append rfl rfl runA3) ?_;refine sgo (SP.nil SA4.sl) fun sp=>?_;refine FB.r 12 13 8191 rfl sp (fun _ z=>(E.assign (v:=v99) rfl)) (fun sp=>?_);exact FB.done (by kernel_rfl) ⟨_,_,_,_,SA4,I0,elsA5,rfl⟩
  ·
   rintro fAe wAd ⟨HAa,vA6,nA7,csA8,SAb,iAc,elsA9,kAf⟩;refine FW.ret ?_;obtain ⟨HAg,SAh,iAi,hAj⟩:=SAb.sealRow (i:=0) (l':=[]) rfl elsA9 (by decide) rfl;cases hp;exact ⟨.inr rfl,res1 rfl kAf ⟨_,_,rfl,SAh.run,hAj⟩⟩

@[reducible] def p_spec_l10Order (Ha:GH) (wa:World) (r:(List Int)):Ending→World→Prop :=
 fun e w'=>∃ H':GH,∃ v0:Value,∃ n0:Nat,∃ c0:List Value,e=.returned (v0)∧St Ha wa H' w' [.row 3 1 v0 n0 c0]∧Els (up wa.heap.size H') eI 1 c0 r
set_option maxHeartbeats 4000000 in
theorem w_spec_l10Order {Ha:GH} {wa:World} (hs:Sl Ha wa) (a0:zaD) (v0_0:Value) (p0_0:RSl Ha (eL eI 1) 1 v0_0 a0.list) (v0_1:Value) (p0_1:RSl Ha eI 1 v0_1 a0.rounds) (v0_2:Value) (p0_2:RSl Ha eI 1 v0_2 a0.left) (v0_3:Value) (p0_3:RSl Ha eI 1 v0_3 a0.right) (v0_4:Value) (p0_4:RSl Ha eI 1 v0_4 a0.pivots) (v0_5:Value) (p0_5:RSl Ha (eL eI 1) 1 v0_5 a0.sorted) {r:(List Int)} (hp:(PF.zcX a0)=some r) :
  Calls prog 108 #[vA #[v0_0,v0_1,v0_2,v0_3,v0_4,v0_5]] wa (p_spec_l10Order Ha wa r):=by
 unfold PF.zcX at hp;have S0:=St.init hs;refine zag (N:=54) (args:=[vA #[v0_0,v0_1,v0_2,v0_3,v0_4,v0_5]]) func108 rfl rfl rfl ?_;refine FW.sr ?_;obtain ⟨b21,w22,run23,S24⟩:=S0.box (P:=prog) 95 [v0_0,v0_1,v0_2,v0_3,v0_4,v0_5] (v:=vA #[v0_0,v0_1,v0_2,v0_3,v0_4,v0_5]) rfl (oC p0_0.one (oC p0_1.one (oC p0_2.one (oC p0_3.one (oC p0_4.one (oC p0_5.one zab))))));refine FL.v (E.box rfl run23) ?_;obtain ⟨H25,S26,i27,at28⟩:=S24.sealBox (i:=0) (l':=[]) rfl rfl;refine FL.as (v:=vN) rfl<|FL.nil<|FW.sr ?_;obtain ⟨v29,w30,run31,S32⟩:=S26.b0 te25;have els33:Els (up wa.heap.size H25) eI 1 [] []:=Els.nil;refine FL.v (E.buildSlice (B0) run31) ?_;refine FL.as (v:=v29) rfl<|FL.nil (FW.seq (FW.sr ?_));refine FL.as (v:=vI 0) rfl<|FL.nil ?_;obtain ⟨q34,hq,hp⟩:=bndR hp;refine FW.block ?_;refine FW.mono (FW.iter (S:=((List Int)×Int)) (X:=Empty) (fun (s34:((List Int)×Int)) f w=>∃ H:GH,∃ v35:Value,∃ n36:Nat,∃ cs37:List Value,St Ha wa H w [.row 3 1 v35 n36 cs37]∧Inc H25 H∧Els (up wa.heap.size H) eI 1 cs37 s34.1∧f 1=vK b21∧f 3=v35∧f 4=vI s34.2) (fun (q:Rs ((List Int)×Int) Empty) e f w=>match q with|.go s34=>e=Exit.exit 0∧(∃ H:GH,∃ v35:Value,∃ n36:Nat,∃ cs37:List Value,St Ha wa H w [.row 3 1 v35 n36 cs37]∧Inc H25 H∧Els (up wa.heap.size H) eI 1 cs37 s34.1∧f 3=v35)|.rt x=>x.elim) hq ⟨_,_,_,_,S32,I0,els33,rfl,rfl,rfl⟩ ?_) ?_
 ·
  clear hp hq;rintro s34 f44 w43 ⟨H40,v35,n36,cs37,S41,i42,els38,k45,k46,k47⟩ oBe hp;refine FW.seq<|FW.sr<|FL.mv k47<|FL.v (E.fieldAddr tf95_0 k45) ?_;refine FL.v (E.load rfl (zad isAgg39 ((at28.mono i42).now S41.sl) rfl)) ?_;refine FL.v (E.lenP te39 rfl p0_0) ?_;refine FL.v (E.lss rfl rfl) ?_;refine FL.nil ?_;rcases ifB hp with ⟨c48,hp⟩|⟨c48,hp⟩
  ·
   refine FW.condT rfl c48 ?_;refine FW.skip (FW.seq (FW.block (FW.sr ?_)));refine FL.mv k46<|FL.v (E.lenO te25 rfl S41 (i:=0) rfl els38 (by decide)) ?_;refine FL.as (v:=vI 0) rfl<|FL.as (v:=vI (len s34.1)) rfl<|FL.nil<|FW.seq ?_;obtain ⟨q49,hq,hp⟩:=bndR hp;refine FW.block ?_;refine FW.mono (FW.iter (S:=(Int×Int)) (X:=Empty) (fun (s49:(Int×Int)) f w=>∃ H:GH,St Ha wa H w [.row 3 1 v35 n36 cs37]∧Inc H40 H∧f 1=vK b21∧f 3=v35∧f 4=vI s34.2∧f 5=vI s49.1∧f 6=vI s49.2) (fun (q:Rs (Int×Int) Empty) e f w=>match q with|.go s49=>e=Exit.exit 2∧(∃ H:GH,St Ha wa H w [.row 3 1 v35 n36 cs37]∧Inc H40 H∧f 1=vK b21∧f 3=v35∧f 4=vI s34.2∧f 5=vI s49.1)|.rt x=>x.elim) hq ⟨_,S41,I0,k45,k46,k47,rfl,rfl⟩ ?_) ?_
   ·
    clear hp hq;rintro s49 f54 w53 ⟨H50,S51,i52,k55,k56,k57,k58,k59⟩ o96 hp;refine FW.seq<|FW.sr<|FL.mv k58<|FL.mv k59<|FL.v (E.lss rfl rfl) ?_;refine FL.nil ?_;rcases ifB hp with ⟨c60,hp⟩|⟨c60,hp⟩
    ·
     refine FW.condT rfl c60 ?_;refine FW.skip (FW.block (FW.sr ?_));refine FL.mv k58<|FL.mv k59<|FL.v (E.add rfl rfl) ?_;refine FL.v (E.quo rfl rfl (by decide)) ?_;refine FL.as (v:=vI (wr ((wr (s49.1 + s49.2)).tdiv 2))) rfl<|FL.nil<|FW.seq ?_;refine FW.draw (fun w'=>Run w53.heap.size H50 w53 H50 w') (by kernel_rfl) (by kernel_rfl) (zaz S51.sl) ?_;refine FD.v (fun _ z=>(E.fieldAddr tf95_0 k55)) ?_;refine FD.v (fun _ z=>(E.load rfl (zad isAgg39 ((at28.mono (i42.tr i52)).now (S51.call z).sl) rfl))) ?_;refine FD.v (fun _ z=>(E.move k56)) ?_;refine FD.v (fun _ z=>(E.move (v:=vI (wr ((wr (s49.1 + s49.2)).tdiv 2))) rfl)) ?_;obtain ⟨x67,hx68,hp⟩:=bnd hp;obtain ⟨p61,cs62,pt63,l64,at65,rel66⟩:=S51.row_at (i:=0) rfl els38 (by decide) hx68;obtain rfl:=zak rel66;refine FD.v (fun _ z=>(E.indexAddr te25 rfl rfl pt63)) ?_;refine FD.v (fun _ z=>(E.load rfl (zaf isAgg3 (at65.cls z) rfl))) ?_;obtain ⟨x75,hx76,hp⟩:=bnd hp;obtain ⟨p69,cs70,pt71,l72,at73,rel74⟩:=p0_0.at hx76;obtain ⟨v77,rfl,h78⟩:=zaE rel74;refine FD.v (fun _ z=>(E.indexAddr te39 rfl rfl pt71)) ?_;refine FD.v (fun _ z=>(E.load rfl (zaf isAgg25 ((at73.mono ((i27.tr i42).tr i52)).now (S51.call z).sl) rfl))) ?_;refine FD.v (fun _ z=>(E.fieldAddr tf95_0 k55)) ?_;refine FD.v (fun _ z=>(E.load rfl (zad isAgg39 ((at28.mono (i42.tr i52)).now (S51.call z).sl) rfl))) ?_;refine FD.v (fun _ z=>(E.move k57)) ?_;obtain ⟨x85,hx86,hp⟩:=bnd hp;obtain ⟨p79,cs80,pt81,l82,at83,rel84⟩:=p0_0.at hx86;obtain ⟨v87,rfl,h88⟩:=zaE rel84;refine FD.v (fun _ z=>(E.indexAddr te39 rfl rfl pt81)) ?_;refine FD.v (fun _ z=>(E.load rfl (zaf isAgg25 ((at83.mono ((i27.tr i42).tr i52)).now (S51.call z).sl) rfl))) ?_;obtain ⟨r89,hr90,hp⟩:=bnd hp;refine FD.call rfl rfl rfl (fun _ z=>(E.call call118 (A2 rfl rfl))) (fun _ z=>Calls.cls z (zdV (S51.call z).sl v77 x75 (h78.mono ((i27.tr i42).tr i52)) v87 x85 (h88.mono ((i27.tr i42).tr i52)) hr90)) ?_;refine FD.nil ?_;intro w91 r93;have S92:=S51.call r93;rcases ifB hp with ⟨c94,hp⟩|⟨c94,hp⟩
     ·
      refine FW.condT rfl c94 ?_;refine FW.region<|FL.mv (v:=vI (wr ((wr (s49.1 + s49.2)).tdiv 2))) rfl<|FL.v (E.add rfl rfl) ?_;refine FL.as (v:=vI (wr ((wr ((wr (s49.1 + s49.2)).tdiv 2)) + 1))) rfl<|FL.nil ?_;cases hp;exact ⟨rfl,⟨_,S92,i52,k55,k56,k57,rfl,k59⟩⟩
     ·
      refine FW.condF rfl c94 ?_;refine FW.region<|FL.mv (v:=vI (wr ((wr (s49.1 + s49.2)).tdiv 2))) rfl<|FL.as (v:=vI (wr ((wr (s49.1 + s49.2)).tdiv 2))) rfl<|FL.nil ?_;cases hp;exact ⟨rfl,⟨_,S92,i52,k55,k56,k57,k58,rfl⟩⟩
    ·
     refine FW.condF rfl c60 ?_;refine FW.exit ?_;cases hp;exact ⟨nofun,rfl,⟨_,S51,i52,k55,k56,k57,k58⟩⟩
   ·
    clear hq;intro e fA1 wA0 hD;rcases q49 with s49|x49
    ·
     obtain ⟨rfl,hD⟩:=hD;obtain ⟨H97,S98,i99,kA2,kA3,kA4,kA5⟩:=hD;replace hp:=el_go hp;obtain ⟨xsA9,hcAa,hp⟩:=bnd hp;obtain ⟨rAj,hrAk,hp⟩:=bnd hp;obtain ⟨xsAy,hzAz,hp⟩:=bnd hp;obtain ⟨xsAJ,hcAK,hp⟩:=bnd hp;obtain ⟨xsAT,hzAU,hp⟩:=bnd hp;refine FW.drawB (Sl H97) (fun f w=>∃ H:GH,∃ vB2:Value,∃ nB3:Nat,∃ csB4:List Value,St Ha wa H w [.row 3 1 vB2 nB3 csB4]∧Inc H97 H∧Els (up wa.heap.size H) eI 1 csB4 xsAT∧f 1=vK b21∧f 3=vB2∧f 4=vI s34.2) (by kernel_rfl) S98.sl ?_ ?_
     ·
      intro wA6 rA7;have SA8:=S98.call rA7;refine FB.T 0 12 1 rfl SA8.sl rfl (fun _ z=>(E.move kA3)) ?_;refine FB.T 1 12 3 rfl SA8.sl rfl (fun _ z=>(E.move kA5)) ?_;refine FB.T 4 12 19 rfl SA8.sl rfl (fun _ z=>(E.move kA4)) ?_;refine FB.T 7 12 147 rfl SA8.sl rfl (fun _ z=>(E.move kA3)) ?_;refine FB.T 8 12 403 rfl SA8.sl rfl (fun _ z=>(E.move kA5)) ?_;refine FB.all3 (i:=2) (j:=5) (k:=9) (by kernel_rfl) ?_ ?_ ?_
      ·
       obtain ⟨HAb,SAc,iAd,hAe,nvAf⟩:=SA8.sealRowU (i:=0) (l':=[]) rfl (els38.mono (zac i99)) (by decide) rfl;obtain ⟨vAg,runAh,hAi⟩:=hAe.cut te25 hcAa (lo:=none) (hi:=some (vI s49.1)) (.inl ⟨rfl,rfl⟩) (.inr ⟨_,rfl⟩);refine FC.val (l':=(bs 12 407)) rfl (by kernel_rfl) rfl rfl rfl (E.slice te25 rfl rfl (congrArg some rfl) rfl (runAh _)) ?_;refine sgo (SP.nil (Sl.of_inc iAd SAc.sl)) fun sp=>?_;obtain ⟨vAL,runAM,hAN⟩:=hAe.cut te25 hcAK (lo:=some (vI s49.1)) (hi:=none) (.inr ⟨_,rfl⟩) (.inl ⟨rfl,rfl⟩);refine FB.r 9 12 919 rfl sp (fun _ z=>(E.slice te25 rfl (congrArg some rfl) rfl rfl (runAM _))) (fun sp=>?_);refine FB.all2 (i:=3) (j:=5) (by kernel_rfl) ?_ ?_
       ·
        refine FC.call (l':=(bs 12 927)) rfl (by kernel_rfl) rfl rfl rfl (E.call call86 (A1 rfl)) (zaT SAc.sl vAg xsA9 (hAi.mono upI) hrAk) ?_;rintro e wAm ⟨HAl,vAp,nAq,csAr,rfl,rAo,elsAs⟩;refine ⟨_,rfl,?_⟩;have elsAs:=elsAs.mono (up_le SAc.size);have SAn:=SAc.join (l':=[.row 3 1 vAp nAq csAr]) rAo rfl;refine ⟨(SP.nil (Sl.of_inc (iAd.tr rAo.run.inc) SAn.sl)),?_⟩;refine FB.all1 (i:=5) (by kernel_rfl) ?_
        ·
         obtain ⟨vAt,wAu,runAv,SAw,elsAx⟩:=SAn.ints (P:=prog) te25 (up wa.heap.size HAl) 1 [s34.2];refine FC.val (l':=(bs 12 959)) rfl (by kernel_rfl) rfl rfl rfl (E.buildSlice (B1 rfl) runAv) ?_;refine ⟨(SP.nil (Sl.of_inc (iAd.tr rAo.run.inc) SAw.sl)),?_⟩;refine FB.all1 (i:=6) (by kernel_rfl) ?_
         ·
          obtain ⟨vAA,wAD,nAB,csAC,runAE,SAF,elsAG,ceAH⟩:=SAw.appendO (P:=prog) te25 (i:=1) (j:=0) rfl elsAs rfl elsAx hzAz;have SAI:St Ha wa HAl wAD [.row 3 1 vAA nAB csAC]:=SAF.drop 0;refine FC.val (l':=(bs 12 1023)) rfl (by kernel_rfl) rfl rfl rfl (E.append rfl rfl runAE) ?_;refine ⟨(SP.nil (Sl.of_inc (iAd.tr rAo.run.inc) SAI.sl)),?_⟩;refine FB.all1 (i:=10) (by kernel_rfl) ?_
          ·
           obtain ⟨vAV,wAY,nAW,csAX,runAZ,SB0,elsB1⟩:=SAI.appendP (P:=prog) upI te25 (i:=0) rfl elsAG (hAN.mono (zac rAo.run.inc)) hzAU;refine FC.val (l':=(bs 12 2047)) rfl (by kernel_rfl) rfl rfl rfl (E.append rfl rfl runAZ) ?_;refine sgo (SP.nil (Sl.of_inc (iAd.tr rAo.run.inc) SB0.sl)) fun sp=>?_;refine FB.r 11 12 4095 rfl sp (fun _ z=>(E.assign (v:=vAV) rfl)) (fun sp=>?_);exact FB.done (by kernel_rfl) ⟨_,_,_,_,SB0,(iAd.tr rAo.run.inc),elsB1,kA2,rfl,kA4⟩
       ·
        obtain ⟨vAt,wAu,runAv,SAw,elsAx⟩:=SAc.ints (P:=prog) te25 (up wa.heap.size HAb) 1 [s34.2];refine FC.val (l':=(bs 12 951)) rfl (by kernel_rfl) rfl rfl rfl (E.buildSlice (B1 rfl) runAv) ?_;refine ⟨(SP.nil (Sl.of_inc iAd SAw.sl)),?_⟩;refine FB.all1 (i:=3) (by kernel_rfl) ?_
        ·
         refine FC.call (l':=(bs 12 959)) rfl (by kernel_rfl) rfl rfl rfl (E.call call86 (A1 rfl)) (zaT SAw.sl vAg xsA9 (hAi.mono upI) hrAk) ?_;rintro e wAm ⟨HAl,vAp,nAq,csAr,rfl,rAo,elsAs⟩;refine ⟨_,rfl,?_⟩;have elsAs:=elsAs.mono (up_le SAw.size);have SAn:=SAw.join (l':=[.row 3 1 vAp nAq csAr,.row 3 1 vAt 1 (iC [s34.2])]) rAo rfl;refine ⟨(SP.nil (Sl.of_inc (iAd.tr rAo.run.inc) SAn.sl)),?_⟩;refine FB.all1 (i:=6) (by kernel_rfl) ?_
         ·
          obtain ⟨vAA,wAD,nAB,csAC,runAE,SAF,elsAG,ceAH⟩:=SAn.appendO (P:=prog) te25 (i:=0) (j:=1) rfl elsAs rfl (elsAx.mono (zac rAo.run.inc)) hzAz;have SAI:St Ha wa HAl wAD [.row 3 1 vAA nAB csAC]:=SAF.drop 1;refine FC.val (l':=(bs 12 1023)) rfl (by kernel_rfl) rfl rfl rfl (E.append rfl rfl runAE) ?_;refine ⟨(SP.nil (Sl.of_inc (iAd.tr rAo.run.inc) SAI.sl)),?_⟩;refine FB.all1 (i:=10) (by kernel_rfl) ?_
          ·
           obtain ⟨vAV,wAY,nAW,csAX,runAZ,SB0,elsB1⟩:=SAI.appendP (P:=prog) upI te25 (i:=0) rfl elsAG (hAN.mono (zac rAo.run.inc)) hzAU;refine FC.val (l':=(bs 12 2047)) rfl (by kernel_rfl) rfl rfl rfl (E.append rfl rfl runAZ) ?_;refine sgo (SP.nil (Sl.of_inc (iAd.tr rAo.run.inc) SB0.sl)) fun sp=>?_;refine FB.r 11 12 4095 rfl sp (fun _ z=>(E.assign (v:=vAV) rfl)) (fun sp=>?_);exact FB.done (by kernel_rfl) ⟨_,_,_,_,SB0,(iAd.tr rAo.run.inc),elsB1,kA2,rfl,kA4⟩
      ·
       obtain ⟨vAt,wAu,runAv,SAw,elsAx⟩:=SA8.ints (P:=prog) te25 (up wa.heap.size H97) 1 [s34.2];refine FC.val (l':=(bs 12 435)) rfl (by kernel_rfl) rfl rfl rfl (E.buildSlice (B1 rfl) runAv) ?_;refine ⟨(SP.nil SAw.sl),?_⟩;refine FB.phase [3,6,10] (fun w'=>w'=wAu) ?_;obtain ⟨HAb,SAc,iAd,hAe,nvAf⟩:=SAw.sealRowU (i:=1) (l':=[.row 3 1 vAt 1 (iC [s34.2])]) rfl (els38.mono (zac i99)) (by decide) rfl;obtain ⟨vAg,runAh,hAi⟩:=hAe.cut te25 hcAa (lo:=none) (hi:=some (vI s49.1)) (.inl ⟨rfl,rfl⟩) (.inr ⟨_,rfl⟩);refine FB.u (i:=2) (bs 12 439) [3,6,10,11] rfl (SP.on rfl (SP.nil SAw.sl)) rfl (E.slice te25 rfl rfl (congrArg some rfl) rfl (runAh _)) ?_;obtain ⟨vAL,runAM,hAN⟩:=hAe.cut te25 hcAK (lo:=some (vI s49.1)) (hi:=none) (.inr ⟨_,rfl⟩) (.inl ⟨rfl,rfl⟩);refine FB.t (i:=9) (bs 12 951) rfl (SP.on rfl (SP.nil (Sl.of_inc iAd SAc.sl))) rfl (fun _ z=>(E.slice te25 rfl (congrArg some rfl) rfl rfl (runAM _))) ?_;refine FB.all1 (i:=3) (by kernel_rfl) ?_
       ·
        refine FC.call (l':=(bs 12 959)) rfl (by kernel_rfl) rfl rfl rfl (E.call call86 (A1 rfl)) (zaT SAc.sl vAg xsA9 (hAi.mono upI) hrAk) ?_;rintro e wAm ⟨HAl,vAp,nAq,csAr,rfl,rAo,elsAs⟩;refine ⟨_,rfl,?_⟩;have elsAs:=elsAs.mono (up_le SAc.size);have SAn:=SAc.join (l':=[.row 3 1 vAp nAq csAr,.row 3 1 vAt 1 (iC [s34.2])]) rAo rfl;refine ⟨(SP.o (SP.nil (Sl.of_inc (iAd.tr rAo.run.inc) SAn.sl))),?_⟩;refine FB.all1 (i:=6) (by kernel_rfl) ?_
        ·
         obtain ⟨vAA,wAD,nAB,csAC,runAE,SAF,elsAG,ceAH⟩:=SAn.appendO (P:=prog) te25 (i:=0) (j:=1) rfl elsAs rfl (elsAx.mono (zac (iAd.tr rAo.run.inc))) hzAz;have SAI:St Ha wa HAl wAD [.row 3 1 vAA nAB csAC]:=SAF.drop 1;refine FC.val (l':=(bs 12 1023)) rfl (by kernel_rfl) rfl rfl rfl (E.append rfl rfl runAE) ?_;refine ⟨(SP.o (SP.nil (Sl.of_inc (iAd.tr rAo.run.inc) SAI.sl))),?_⟩;refine FB.all1 (i:=10) (by kernel_rfl) ?_
         ·
          obtain ⟨vAV,wAY,nAW,csAX,runAZ,SB0,elsB1⟩:=SAI.appendP (P:=prog) upI te25 (i:=0) rfl elsAG (hAN.mono (zac rAo.run.inc)) hzAU;refine FC.val (l':=(bs 12 2047)) rfl (by kernel_rfl) rfl rfl rfl (E.append rfl rfl runAZ) ?_;refine sgo (SP.o (SP.nil (Sl.of_inc (iAd.tr rAo.run.inc) SB0.sl))) fun sp=>?_;refine FB.r 11 12 4095 rfl sp (fun _ z=>(E.assign (v:=vAV) rfl)) (fun sp=>?_);exact FB.done (by kernel_rfl) ⟨_,_,_,_,SB0,(iAd.tr rAo.run.inc),elsB1,kA2,rfl,kA4⟩
      ·
       obtain ⟨HAL,SAM,iAN,hAO,nvAP⟩:=SA8.sealRowU (i:=0) (l':=[]) rfl (els38.mono (zac i99)) (by decide) rfl;obtain ⟨vAQ,runAR,hAS⟩:=hAO.cut te25 hcAK (lo:=some (vI s49.1)) (hi:=none) (.inr ⟨_,rfl⟩) (.inl ⟨rfl,rfl⟩);refine FC.val (l':=(bs 12 915)) rfl (by kernel_rfl) rfl rfl rfl (E.slice te25 rfl (congrArg some rfl) rfl rfl (runAR _)) ?_;refine sgo (SP.nil (Sl.of_inc iAN SAM.sl)) fun sp=>?_;obtain ⟨vAb,runAc,hAd⟩:=hAO.cut te25 hcAa (lo:=none) (hi:=some (vI s49.1)) (.inl ⟨rfl,rfl⟩) (.inr ⟨_,rfl⟩);refine FB.r 2 12 919 rfl sp (fun _ z=>(E.slice te25 rfl rfl (congrArg some rfl) rfl (runAc _))) (fun sp=>?_);refine FB.all2 (i:=3) (j:=5) (by kernel_rfl) ?_ ?_
       ·
        refine FC.call (l':=(bs 12 927)) rfl (by kernel_rfl) rfl rfl rfl (E.call call86 (A1 rfl)) (zaT SAM.sl vAb xsA9 (hAd.mono upI) hrAk) ?_;rintro e wAm ⟨HAl,vAp,nAq,csAr,rfl,rAo,elsAs⟩;refine ⟨_,rfl,?_⟩;have elsAs:=elsAs.mono (up_le SAM.size);have SAn:=SAM.join (l':=[.row 3 1 vAp nAq csAr]) rAo rfl;refine ⟨(SP.nil (Sl.of_inc (iAN.tr rAo.run.inc) SAn.sl)),?_⟩;refine FB.all1 (i:=5) (by kernel_rfl) ?_
        ·
         obtain ⟨vAt,wAu,runAv,SAw,elsAx⟩:=SAn.ints (P:=prog) te25 (up wa.heap.size HAl) 1 [s34.2];refine FC.val (l':=(bs 12 959)) rfl (by kernel_rfl) rfl rfl rfl (E.buildSlice (B1 rfl) runAv) ?_;refine ⟨(SP.nil (Sl.of_inc (iAN.tr rAo.run.inc) SAw.sl)),?_⟩;refine FB.all1 (i:=6) (by kernel_rfl) ?_
         ·
          obtain ⟨vAA,wAD,nAB,csAC,runAE,SAF,elsAG,ceAH⟩:=SAw.appendO (P:=prog) te25 (i:=1) (j:=0) rfl elsAs rfl elsAx hzAz;have SAI:St Ha wa HAl wAD [.row 3 1 vAA nAB csAC]:=SAF.drop 0;refine FC.val (l':=(bs 12 1023)) rfl (by kernel_rfl) rfl rfl rfl (E.append rfl rfl runAE) ?_;refine ⟨(SP.nil (Sl.of_inc (iAN.tr rAo.run.inc) SAI.sl)),?_⟩;refine FB.all1 (i:=10) (by kernel_rfl) ?_
          ·
           obtain ⟨vAV,wAY,nAW,csAX,runAZ,SB0,elsB1⟩:=SAI.appendP (P:=prog) upI te25 (i:=0) rfl elsAG (hAS.mono (zac rAo.run.inc)) hzAU;refine FC.val (l':=(bs 12 2047)) rfl (by kernel_rfl) rfl rfl rfl (E.append rfl rfl runAZ) ?_;refine sgo (SP.nil (Sl.of_inc (iAN.tr rAo.run.inc) SB0.sl)) fun sp=>?_;refine FB.r 11 12 4095 rfl sp (fun _ z=>(E.assign (v:=vAV) rfl)) (fun sp=>?_);exact FB.done (by kernel_rfl) ⟨_,_,_,_,SB0,(iAN.tr rAo.run.inc),elsB1,kA2,rfl,kA4⟩
       ·
        obtain ⟨vAt,wAu,runAv,SAw,elsAx⟩:=SAM.ints (P:=prog) te25 (up wa.heap.size HAL) 1 [s34.2];refine FC.val (l':=(bs 12 951)) rfl (by kernel_rfl) rfl rfl rfl (E.buildSlice (B1 rfl) runAv) ?_;refine ⟨(SP.nil (Sl.of_inc iAN SAw.sl)),?_⟩;refine FB.all1 (i:=3) (by kernel_rfl) ?_
        ·
         refine FC.call (l':=(bs 12 959)) rfl (by kernel_rfl) rfl rfl rfl (E.call call86 (A1 rfl)) (zaT SAw.sl vAb xsA9 (hAd.mono upI) hrAk) ?_;rintro e wAm ⟨HAl,vAp,nAq,csAr,rfl,rAo,elsAs⟩;refine ⟨_,rfl,?_⟩;have elsAs:=elsAs.mono (up_le SAw.size);have SAn:=SAw.join (l':=[.row 3 1 vAp nAq csAr,.row 3 1 vAt 1 (iC [s34.2])]) rAo rfl;refine ⟨(SP.nil (Sl.of_inc (iAN.tr rAo.run.inc) SAn.sl)),?_⟩;refine FB.all1 (i:=6) (by kernel_rfl) ?_
         ·
          obtain ⟨vAA,wAD,nAB,csAC,runAE,SAF,elsAG,ceAH⟩:=SAn.appendO (P:=prog) te25 (i:=0) (j:=1) rfl elsAs rfl (elsAx.mono (zac rAo.run.inc)) hzAz;have SAI:St Ha wa HAl wAD [.row 3 1 vAA nAB csAC]:=SAF.drop 1;refine FC.val (l':=(bs 12 1023)) rfl (by kernel_rfl) rfl rfl rfl (E.append rfl rfl runAE) ?_;refine ⟨(SP.nil (Sl.of_inc (iAN.tr rAo.run.inc) SAI.sl)),?_⟩;refine FB.all1 (i:=10) (by kernel_rfl) ?_
          ·
           obtain ⟨vAV,wAY,nAW,csAX,runAZ,SB0,elsB1⟩:=SAI.appendP (P:=prog) upI te25 (i:=0) rfl elsAG (hAS.mono (zac rAo.run.inc)) hzAU;refine FC.val (l':=(bs 12 2047)) rfl (by kernel_rfl) rfl rfl rfl (E.append rfl rfl runAZ) ?_;refine sgo (SP.nil (Sl.of_inc (iAN.tr rAo.run.inc) SB0.sl)) fun sp=>?_;refine FB.r 11 12 4095 rfl sp (fun _ z=>(E.assign (v:=vAV) rfl)) (fun sp=>?_);exact FB.done (by kernel_rfl) ⟨_,_,_,_,SB0,(iAN.tr rAo.run.inc),elsB1,kA2,rfl,kA4⟩
     ·
      rintro fBa wB9 ⟨HB6,vB2,nB3,csB4,SB7,iB8,elsB5,kBb,kBc,kBd⟩;refine FW.region<|FL.mv kBd<|FL.v (E.add rfl rfl) ?_;refine FL.as (v:=vI (wr (s34.2 + 1))) rfl<|FL.nil ?_;cases hp;exact ⟨rfl,⟨_,_,_,_,SB7,((i42.tr i99).tr iB8),elsB5,kBb,kBc,rfl⟩⟩
    ·
     exact x49.elim
  ·
   refine FW.condF rfl c48 ?_;refine FW.exit ?_;cases hp;exact ⟨nofun,rfl,⟨_,_,_,_,S41,i42,els38,k46⟩⟩
 ·
  clear hq;intro e fBj wBi hD;rcases q34 with s34|x34
  ·
   obtain ⟨rfl,hD⟩:=hD;obtain ⟨HBf,v35,n36,cs37,SBg,iBh,els38,kBk⟩:=hD;replace hp:=el_go hp;refine FW.sr<|FL.mv kBk<|FL.as (v:=v35) rfl<|FL.nil (FW.ret ?_);cases hp;exact ⟨.inr rfl,res1 rfl rfl ⟨_,_,_,_,rfl,SBg,els38⟩⟩
  ·
   exact x34.elim

theorem zdh {Ha:GH} {wa:World} (hs:Sl Ha wa) (v0:Value) (a0:List Int) (p0:RSl Ha eI 1 v0 a0) (a1:Int) {r:Bool} (hp:(PF.zbi a0 a1)=some r) :
  Calls prog 119 #[v0,vI a1] wa (Sc Ha wa (vB r)):=by
 unfold PF.zbi at hp;have S0:=St.init hs;refine zag (N:=8) (args:=[v0,vI a1]) func119 rfl rfl rfl ?_;refine FW.sr<|FL.as (v:=vB false) rfl<|FL.nil<|FW.sr<|FL.mv (v:=v0) rfl<|FL.mv (v:=vI a1) rfl ?_;obtain ⟨r21,hr22,hp⟩:=bnd hp;refine FL.c (E.call call59 (A2 rfl rfl)) (zdx S0.sl v0 a0 p0 a1 hr22) ?_;rintro e w23 ⟨rfl,r24⟩;refine ⟨_,rfl,?_⟩;have S25:=S0.call r24;refine FL.as (v:=vB r21) rfl<|FL.nil (FW.ret ?_);cases hp;exact ⟨.inr rfl,res1 rfl rfl ⟨rfl,S25.back⟩⟩

@[reducible] def p_spec_l2Without (Ha:GH) (wa:World) (r:(List Int)):Ending→World→Prop :=
 fun e w'=>∃ H':GH,∃ v0:Value,∃ n0:Nat,∃ c0:List Value,e=.returned (v0)∧St Ha wa H' w' [.row 3 1 v0 n0 c0]∧Els (up wa.heap.size H') eI 1 c0 r
set_option maxHeartbeats 4000000 in
theorem zdW {Ha:GH} {wa:World} (hs:Sl Ha wa) (v0:Value) (a0:List Int) (p0:RSl Ha eI 1 v0 a0) (a1:Int) {r:(List Int)} (hp:(PF.zcg a0 a1)=some r) :
  Calls prog 121 #[v0,vI a1] wa (p_spec_l2Without Ha wa r):=by
 unfold PF.zcg at hp;have S0:=St.init hs;refine zag (N:=29) (args:=[v0,vI a1]) func121 rfl rfl rfl ?_;refine FW.sr<|FL.as (v:=vN) rfl<|FL.nil<|FW.sr ?_;obtain ⟨v21,w22,run23,S24⟩:=S0.b0 te25;have els25:Els (up wa.heap.size Ha) eI 1 [] []:=Els.nil;refine FL.v (E.buildSlice (B0) run23) ?_;refine FL.as (v:=v21) rfl<|FL.nil (FW.seq (FW.sr ?_));refine FL.as (v:=vI 0) rfl<|FL.nil ?_;obtain ⟨q27,hq,hp⟩:=bndR hp;refine FW.block ?_;refine FW.mono (FW.forL (S:=(List Int)) (X:=Empty) (fun (i27:Nat) (s27:(List Int)) f w=>∃ H:GH,∃ v28:Value,∃ n29:Nat,∃ cs30:List Value,St Ha wa H w [.row 3 1 v28 n29 cs30]∧Inc Ha H∧Els (up wa.heap.size H) eI 1 cs30 s27∧f 6=vI ((i27:Nat):Int)∧f 0=v0∧f 1=vI a1∧f 5=v28) (fun (q:Rs (List Int) Empty) e f w=>match q with|.go s27=>e=Exit.exit 0∧(∃ H:GH,∃ v28:Value,∃ n29:Nat,∃ cs30:List Value,St Ha wa H w [.row 3 1 v28 n29 cs30]∧Inc Ha H∧Els (up wa.heap.size H) eI 1 cs30 s27∧f 5=v28)|.rt x=>x.elim) hq ⟨_,_,_,_,S24,I0,els25,rfl,rfl,rfl,rfl⟩ ?_ ?_) ?_
 ·
  clear hp hq;rintro i27 y26 s27 f77 w76 ⟨H73,v28,n29,cs30,S74,i75,els31,k78,k79,k80,k81⟩ hx27 oAe hp;refine FW.seq<|FW.sr<|FL.mv k78<|FL.mv k79<|FL.v (E.lenP te25 rfl p0) ?_;refine FL.v (E.lssT rfl rfl (zar hx27)) ?_;refine FL.nil<|FW.condT rfl rfl ?_;refine FW.skip (FW.seq (FW.block (FW.sr ?_)));refine FL.mv k79<|FL.mv k78 ?_;obtain ⟨p82,cs83,pt84,l85,at86,rel87⟩:=p0.at (zal hx27);obtain rfl:=zak rel87;refine FL.v (E.indexAddr te25 rfl rfl pt84) ?_;refine FL.v (E.load rfl (zaf isAgg3 ((at86.mono i75).now S74.sl) rfl)) ?_;refine FL.c (E.call call105 (A1 rfl)) (zc4 S74.sl y26) ?_;rintro e w88 ⟨rfl,r89⟩;refine ⟨_,rfl,?_⟩;have S90:=S74.call r89;refine FL.mv k80<|FL.v (E.neq rfl rfl) ?_;refine FL.nil ?_;rcases ifB hp with ⟨c91,hp⟩|⟨c91,hp⟩
  ·
   refine FW.condT rfl c91 ?_;refine FW.region<|FL.mv k81<|FL.mv k79<|FL.mv k78 ?_;obtain ⟨p92,cs93,pt94,l95,at96,rel97⟩:=p0.at (zal hx27);obtain rfl:=zak rel97;refine FL.v (E.indexAddr te25 rfl rfl pt94) ?_;refine FL.v (E.load rfl (zaf isAgg3 ((at96.mono i75).now S90.sl) rfl)) ?_;obtain ⟨v98,w99,runA0,SA1,elsA2⟩:=S90.ints (P:=prog) te25 (up wa.heap.size H73) 1 [y26];refine FL.v (E.buildSlice (B1 rfl) runA0) ?_;obtain ⟨xsA3,hzA4,hp⟩:=bnd hp;obtain ⟨vA5,wA8,nA6,csA7,runA9,SAa,elsAb,ceAc⟩:=SA1.appendO (P:=prog) te25 (i:=1) (j:=0) rfl els31 rfl elsA2 hzA4;have SAd:St Ha wa H73 wA8 [.row 3 1 vA5 nA6 csA7]:=SAa.drop 0;refine FL.v (E.append rfl rfl runA9) ?_;refine FL.as (v:=vA5) rfl<|FL.nil<|FW.region<|FL.mv k78<|FL.v (E.add rfl rfl) ?_;refine FL.as (v:=vI (wr (((i27:Nat):Int) + 1))) rfl<|FL.nil ?_;cases hp;exact ⟨rfl,⟨_,_,_,_,SAd,i75,elsAb,(zam rfl (zao hx27) (p0.mono i75).le),k79,k80,rfl⟩⟩
  ·
   refine FW.condF rfl c91 ?_;refine FW.skip<|FW.region<|FL.mv k78<|FL.v (E.add rfl rfl) ?_;refine FL.as (v:=vI (wr (((i27:Nat):Int) + 1))) rfl<|FL.nil ?_;cases hp;exact ⟨rfl,⟨_,_,_,_,S90,i75,els31,(zam rfl (zao hx27) (p0.mono i75).le),k79,k80,k81⟩⟩
 ·
  clear hp hq;rintro s27 fAp wAo ⟨HAl,v28,n29,cs30,SAm,iAn,els31,kAq,kAr,kAs,kAt⟩;refine FW.seq<|FW.sr<|FL.mv kAq<|FL.mv kAr<|FL.v (E.lenP te25 rfl p0) ?_;refine FL.v (E.lss rfl rfl) ?_;refine FL.nil<|FW.condF rfl zas ?_;refine FW.exit ?_;exact ⟨nofun,rfl,⟨_,_,_,_,SAm,iAn,els31,kAt⟩⟩
 ·
  clear hq;intro e fAj wAi hD;rcases q27 with s27|x27
  ·
   obtain ⟨rfl,hD⟩:=hD;obtain ⟨HAf,v28,n29,cs30,SAg,iAh,els31,kAk⟩:=hD;replace hp:=el_go hp;refine FW.sr<|FL.mv kAk<|FL.as (v:=v28) rfl<|FL.nil (FW.ret ?_);cases hp;exact ⟨.inr rfl,res1 rfl rfl ⟨_,_,_,_,rfl,SAg,els31⟩⟩
  ·
   exact x27.elim

@[reducible] def p_spec_l2Put (Ha:GH) (wa:World) (r:(List Int)):Ending→World→Prop :=
 fun e w'=>∃ H':GH,∃ v0:Value,∃ n0:Nat,∃ c0:List Value,e=.returned (v0)∧St Ha wa H' w' [.row 3 1 v0 n0 c0]∧Els (up wa.heap.size H') eI 1 c0 r
set_option maxHeartbeats 4000000 in
theorem w_spec_l2Put {Ha:GH} {wa:World} (hs:Sl Ha wa) (v0:Value) (a0:List Int) (p0:RSl Ha eI 1 v0 a0) (a1:Int) {r:(List Int)} (hp:(PF.zch a0 a1)=some r) :
  Calls prog 124 #[v0,vI a1] wa (p_spec_l2Put Ha wa r):=by
 unfold PF.zch at hp;have S0:=St.init hs;refine zag (N:=33) (args:=[v0,vI a1]) func124 rfl rfl rfl ?_;refine FW.sr<|FL.as (v:=vN) rfl<|FL.nil<|FW.sr<|FL.as (v:=vI 0) rfl<|FL.nil<|FW.seq ?_;obtain ⟨q21,hq,hp⟩:=bndR hp;refine FW.block ?_;refine FW.mono (FW.iter (S:=Int) (X:=Empty) (fun (s21:Int) f w=>∃ H:GH,St Ha wa H w []∧Inc Ha H∧f 0=v0∧f 1=vI a1∧f 5=vI s21) (fun (q:Rs Int Empty) e f w=>match q with|.go s21=>e=Exit.exit 0∧(∃ H:GH,St Ha wa H w []∧Inc Ha H∧f 0=v0∧f 1=vI a1∧f 5=vI s21)|.rt x=>x.elim) hq ⟨_,S0,I0,rfl,rfl,rfl⟩ ?_) ?_
 ·
  clear hp hq;rintro s21 f74 w73 ⟨H70,S71,i72,k75,k76,k77⟩ oAi hp;refine FW.seq<|FW.sr<|FL.mv k77<|FL.mv k75<|FL.v (E.lenP te25 rfl p0) ?_;refine FL.v (E.lss rfl rfl) ?_;refine FL.mv (v:=vB (decide (s21 < (len a0)))) rfl ?_;obtain ⟨t92,hqt92,hp⟩:=bnd hp;refine FL.cut 9 (fun f w=>∃ H:GH,St Ha wa H w []∧Inc H70 H∧f 0=v0∧f 1=vI a1∧f 5=vI s21∧f 19=vB t92) ?_ ?_
  ·
   clear hp;have hp:=hqt92;clear hqt92;rcases ifB hp with ⟨c98,hp⟩|⟨c98,hp⟩
   ·
    refine FL.y (wY c98) (E.move k75) ?_;refine FL.y (wY c98) (E.move k77) ?_;obtain ⟨xA5,hxA6,hp⟩:=bnd hp;obtain ⟨p99,csA0,ptA1,lA2,atA3,relA4⟩:=p0.at hxA6;obtain rfl:=zak relA4;refine FL.y (wY c98) (E.indexAddr te25 rfl rfl ptA1) ?_;refine FL.y (wY c98) (E.load rfl (zaf isAgg3 ((atA3.mono i72).now S71.sl) rfl)) ?_;refine FL.call (wY c98) rfl rfl (E.call call105 (A1 rfl)) (zc4 S71.sl xA5) ?_;rintro e wA7 ⟨rfl,rA8⟩;refine ⟨_,rfl,?_⟩;have SA9:=S71.call rA8;refine FL.y (wY c98) (E.move k76) ?_;refine FL.call (wY c98) rfl rfl (E.call call105 (A1 rfl)) (zc4 SA9.sl a1) ?_;rintro e wAa ⟨rfl,rAb⟩;refine ⟨_,rfl,?_⟩;have SAc:=SA9.call rAb;refine FL.y (wY c98) (E.lss rfl rfl) ?_;cases hp;refine FL.v (E.pickT rfl c98 rfl) ?_;exact FL.nil ⟨rfl,_,SAc,I0,k75,k76,k77,rfl⟩
   ·
    refine FL.n c98<|FL.n c98<|FL.n c98<|FL.n c98<|FL.n c98<|FL.n c98<|FL.n c98<|FL.n c98 ?_;cases hp;refine FL.v (E.pickF rfl c98 rfl) ?_;exact FL.nil ⟨rfl,_,S71,I0,k75,k76,k77,rfl⟩
  rintro f97 w96 ⟨H93,S94,i95,kAd,kAe,kAf,kAg⟩;refine FL.nil ?_;rcases ifB hp with ⟨cAh,hp⟩|⟨cAh,hp⟩
  ·
   refine FW.condT kAg cAh ?_;refine FW.skip (FW.block (FW.region ?_));refine FL.mv kAf<|FL.v (E.add rfl rfl) ?_;refine FL.as (v:=vI (wr (s21 + 1))) rfl<|FL.nil ?_;cases hp;exact ⟨rfl,⟨_,S94,(i72.tr i95),kAd,kAe,rfl⟩⟩
  ·
   refine FW.condF kAg cAh ?_;refine FW.exit ?_;cases hp;exact ⟨nofun,rfl,⟨_,S94,(i72.tr i95),kAd,kAe,kAf⟩⟩
 ·
  clear hq;intro e fAn wAm hD;rcases q21 with s21|x21
  ·
   obtain ⟨rfl,hD⟩:=hD;obtain ⟨HAj,SAk,iAl,kAo,kAp,kAq⟩:=hD;replace hp:=el_go hp;refine FW.seq ?_;obtain ⟨xs22,hc23,hp⟩:=bnd hp;obtain ⟨r28,hr29,hp⟩:=bnd hp;obtain ⟨xs43,hz44,hp⟩:=bnd hp;obtain ⟨xs54,hc55,hp⟩:=bnd hp;obtain ⟨xs59,hz60,hp⟩:=bnd hp;refine FW.drawB (Sl HAj) (fun f w=>∃ H:GH,∃ v68:Value,∃ n69:Nat,∃ cs78:List Value,St Ha wa H w [.row 3 1 v68 n69 cs78]∧Inc HAj H∧Els (up wa.heap.size H) eI 1 cs78 xs59∧f 4=v68) (by kernel_rfl) SAk.sl ?_ ?_
   ·
    intro wAr rAs;have SAt:=SAk.call rAs;refine FB.T 0 12 1 rfl SAt.sl rfl (fun _ z=>(E.move kAo)) ?_;refine FB.T 1 12 3 rfl SAt.sl rfl (fun _ z=>(E.move kAq)) ?_;obtain ⟨v24,run26,h27⟩:=p0.cut te25 hc23 (lo:=none) (hi:=some (vI s21)) (.inl ⟨rfl,rfl⟩) (.inr ⟨_,rfl⟩);refine FB.T 2 12 7 rfl SAt.sl rfl (fun _ z=>(E.slice te25 rfl rfl (congrArg some rfl) rfl (run26 _))) ?_;refine FB.T 4 12 23 rfl SAt.sl rfl (fun _ z=>(E.move kAp)) ?_;refine FB.T 7 12 151 rfl SAt.sl rfl (fun _ z=>(E.move kAo)) ?_;refine FB.T 8 12 407 rfl SAt.sl rfl (fun _ z=>(E.move kAq)) ?_;obtain ⟨v56,run57,h58⟩:=p0.cut te25 hc55 (lo:=some (vI s21)) (hi:=none) (.inr ⟨_,rfl⟩) (.inl ⟨rfl,rfl⟩);refine FB.T 9 12 919 rfl SAt.sl rfl (fun _ z=>(E.slice te25 rfl (congrArg some rfl) rfl rfl (run57 _))) ?_;refine FB.all2 (i:=3) (j:=5) (by kernel_rfl) ?_ ?_
    ·
     refine FC.call (l':=(bs 12 927)) rfl (by kernel_rfl) rfl rfl rfl (E.call call86 (A1 rfl)) (zaT SAt.sl v24 xs22 (h27.mono iAl) hr29) ?_;rintro e w31 ⟨H30,v34,n35,cs36,rfl,r33,els37⟩;refine ⟨_,rfl,?_⟩;have els37:=els37.mono (up_le SAt.size);have S32:=SAt.join (l':=[.row 3 1 v34 n35 cs36]) r33 rfl;refine ⟨(SP.nil (Sl.of_inc r33.run.inc S32.sl)),?_⟩;refine FB.all1 (i:=5) (by kernel_rfl) ?_
     ·
      obtain ⟨v38,w39,run40,S41,els42⟩:=S32.ints (P:=prog) te25 (up wa.heap.size H30) 1 [a1];refine FC.val (l':=(bs 12 959)) rfl (by kernel_rfl) rfl rfl rfl (E.buildSlice (B1 rfl) run40) ?_;refine ⟨(SP.nil (Sl.of_inc r33.run.inc S41.sl)),?_⟩;refine FB.all1 (i:=6) (by kernel_rfl) ?_
      ·
       obtain ⟨v45,w48,n46,cs47,run49,S50,els51,ce52⟩:=S41.appendO (P:=prog) te25 (i:=1) (j:=0) rfl els37 rfl els42 hz44;have S53:St Ha wa H30 w48 [.row 3 1 v45 n46 cs47]:=S50.drop 0;refine FC.val (l':=(bs 12 1023)) rfl (by kernel_rfl) rfl rfl rfl (E.append rfl rfl run49) ?_;refine ⟨(SP.nil (Sl.of_inc r33.run.inc S53.sl)),?_⟩;refine FB.all1 (i:=10) (by kernel_rfl) ?_
       ·
        obtain ⟨v61,w64,n62,cs63,run65,S66,els67⟩:=S53.appendP (P:=prog) I0 te25 (i:=0) rfl (els51.mono upI) (h58.mono (iAl.tr r33.run.inc)) hz60;have els67:Els (up wa.heap.size H30) eI 1 cs63 xs59:=els67.any (fun _ _ _ _ h=>h);refine FC.val (l':=(bs 12 2047)) rfl (by kernel_rfl) rfl rfl rfl (E.append rfl rfl run65) ?_;refine sgo (SP.nil (Sl.of_inc r33.run.inc S66.sl)) fun sp=>?_;refine FB.r 11 12 4095 rfl sp (fun _ z=>(E.assign (v:=v61) rfl)) (fun sp=>?_);exact FB.done (by kernel_rfl) ⟨_,_,_,_,S66,r33.run.inc,els67,rfl⟩
    ·
     obtain ⟨v38,w39,run40,S41,els42⟩:=SAt.ints (P:=prog) te25 (up wa.heap.size HAj) 1 [a1];refine FC.val (l':=(bs 12 951)) rfl (by kernel_rfl) rfl rfl rfl (E.buildSlice (B1 rfl) run40) ?_;refine ⟨(SP.nil S41.sl),?_⟩;refine FB.all1 (i:=3) (by kernel_rfl) ?_
     ·
      refine FC.call (l':=(bs 12 959)) rfl (by kernel_rfl) rfl rfl rfl (E.call call86 (A1 rfl)) (zaT S41.sl v24 xs22 (h27.mono iAl) hr29) ?_;rintro e w31 ⟨H30,v34,n35,cs36,rfl,r33,els37⟩;refine ⟨_,rfl,?_⟩;have els37:=els37.mono (up_le S41.size);have S32:=S41.join (l':=[.row 3 1 v34 n35 cs36,.row 3 1 v38 1 (iC [a1])]) r33 rfl;refine ⟨(SP.nil (Sl.of_inc r33.run.inc S32.sl)),?_⟩;refine FB.all1 (i:=6) (by kernel_rfl) ?_
      ·
       obtain ⟨v45,w48,n46,cs47,run49,S50,els51,ce52⟩:=S32.appendO (P:=prog) te25 (i:=0) (j:=1) rfl els37 rfl (els42.mono (zac r33.run.inc)) hz44;have S53:St Ha wa H30 w48 [.row 3 1 v45 n46 cs47]:=S50.drop 1;refine FC.val (l':=(bs 12 1023)) rfl (by kernel_rfl) rfl rfl rfl (E.append rfl rfl run49) ?_;refine ⟨(SP.nil (Sl.of_inc r33.run.inc S53.sl)),?_⟩;refine FB.all1 (i:=10) (by kernel_rfl) ?_
       ·
        obtain ⟨v61,w64,n62,cs63,run65,S66,els67⟩:=S53.appendP (P:=prog) I0 te25 (i:=0) rfl (els51.mono upI) (h58.mono (iAl.tr r33.run.inc)) hz60;have els67:Els (up wa.heap.size H30) eI 1 cs63 xs59:=els67.any (fun _ _ _ _ h=>h);refine FC.val (l':=(bs 12 2047)) rfl (by kernel_rfl) rfl rfl rfl (E.append rfl rfl run65) ?_;refine sgo (SP.nil (Sl.of_inc r33.run.inc S66.sl)) fun sp=>?_;refine FB.r 11 12 4095 rfl sp (fun _ z=>(E.assign (v:=v61) rfl)) (fun sp=>?_);exact FB.done (by kernel_rfl) ⟨_,_,_,_,S66,r33.run.inc,els67,rfl⟩
   ·
    rintro f84 w83 ⟨H80,v68,n69,cs78,S81,i82,els79,k85⟩;refine FW.ret ?_;cases hp;exact ⟨.inr rfl,res1 rfl k85 ⟨_,_,_,_,rfl,S81,els79⟩⟩
  ·
   exact x21.elim

@[reducible] def p_spec_l2Join (Ha:GH) (wa:World) (r:((List Int)×Bool)):Ending→World→Prop :=
 fun e w'=>∃ H':GH,∃ v0:Value,∃ n0:Nat,∃ c0:List Value,e=.returned (Value.tuple #[v0,vB r.2])∧St Ha wa H' w' [.row 3 1 v0 n0 c0]∧Els (up wa.heap.size H') eI 1 c0 r.1
set_option maxHeartbeats 4000000 in
theorem w_spec_l2Join {Ha:GH} {wa:World} (hs:Sl Ha wa) (v0:Value) (a0:List Int) (p0:RSl Ha eI 1 v0 a0) (v1:Value) (a1:List Int) (p1:RSl Ha eI 1 v1 a1) {r:((List Int)×Bool)} (hp:(PF.zcY a0 a1)=some r) :
  Calls prog 120 #[v0,v1] wa (p_spec_l2Join Ha wa r):=by
 unfold PF.zcY at hp;have S0:=St.init hs;refine zag (N:=38) (args:=[v0,v1]) func120 rfl rfl rfl ?_;refine FW.sr<|FL.as (v:=vN) rfl<|FL.as (v:=vB false) rfl<|FL.nil<|FW.sr<|FL.mv (v:=v0) rfl ?_;obtain ⟨r21,hr22,hp⟩:=bnd hp;refine FL.c (E.call call86 (A1 rfl)) (zaT S0.sl v0 a0 p0 hr22) ?_;rintro e w24 ⟨H23,v27,n28,cs29,rfl,r26,els30⟩;refine ⟨_,rfl,?_⟩;have els30:=els30.mono (up_le S0.size);have S25:=S0.join (l':=[.row 3 1 v27 n28 cs29]) r26 rfl;refine FL.as (v:=v27) rfl<|FL.nil (FW.seq (FW.sr ?_));refine FL.as (v:=vI 0) rfl<|FL.nil ?_;obtain ⟨q32,hq,hp⟩:=bndR hp;refine FW.block ?_;refine FW.mono (FW.forL (S:=(List Int)) (X:=((List Int)×Bool)) (fun (i32:Nat) (s32:(List Int)) f w=>∃ H:GH,∃ vA7:Value,∃ nA8:Nat,∃ csA9:List Value,St Ha wa H w [.row 3 1 vA7 nA8 csA9]∧Inc H23 H∧Els (up wa.heap.size H) eI 1 csA9 s32∧f 7=vI ((i32:Nat):Int)∧f 1=v1∧f 6=vA7) (fun q e f w=>match q with|.go s32=>e=Exit.exit 0∧(∃ H:GH,∃ vA7:Value,∃ nA8:Nat,∃ csA9:List Value,St Ha wa H w [.row 3 1 vA7 nA8 csA9]∧Inc H23 H∧Els (up wa.heap.size H) eI 1 csA9 s32∧f 6=vA7)|.rt x=>((e=Exit.ret)∧(fun e f w=>(e=Exit.normal∨e=Exit.ret)∧∀ a,Fr (δ:=[]) 38 a f→∃ v,(results Tryz.f120 a.tmps).run prog w=.ok v w∧(p_spec_l2Join Ha wa x) (.returned v) w) e f w)) hq ⟨_,_,_,_,S25,I0,els30,rfl,rfl,rfl⟩ ?_ ?_) ?_
 ·
  clear hp hq;rintro i32 y31 s32 fBn wBm ⟨HBj,vA7,nA8,csA9,SBk,iBl,elsAa,kBo,kBp,kBq⟩ hx32 oCr hp;refine FW.seq<|FW.sr<|FL.mv kBo<|FL.mv kBp<|FL.v (E.lenP te25 rfl p1) ?_;refine FL.v (E.lssT rfl rfl (zar hx32)) ?_;refine FL.nil<|FW.condT rfl rfl ?_;refine FW.skip (FW.seq (FW.block (FW.seq (FW.sr ?_))));refine FL.mv kBq<|FL.mv kBp<|FL.mv kBo ?_;obtain ⟨pBr,csBs,ptBt,lBu,atBv,relBw⟩:=p1.at (zal hx32);obtain rfl:=zak relBw;refine FL.v (E.indexAddr te25 rfl rfl ptBt) ?_;refine FL.v (E.load rfl (zaf isAgg3 ((atBv.mono (r26.run.inc.tr iBl)).now SBk.sl) rfl)) ?_;refine FL.v (E.neg rfl) ?_;obtain ⟨HBx,SBy,iBz,hBA,nvBB⟩:=SBk.sealRowU (i:=0) (l':=[]) rfl elsAa (by decide) rfl;obtain ⟨rBC,hrBD,hp⟩:=bnd hp;refine FL.c (E.call call119 (A2 rfl rfl)) (zdh SBy.sl vA7 s32 (hBA.mono upI) (wr (-y31)) hrBD) ?_;rintro e wBE ⟨rfl,rBF⟩;refine ⟨_,rfl,?_⟩;have rBF:=Run.lend iBz SBk.sl rBF;have SBG:=SBk.call rBF;refine FL.nil ?_;rcases ifB hp with ⟨cBH,hp⟩|⟨cBH,hp⟩
  ·
   refine FW.condT rfl cBH ?_;refine FW.sr ?_;obtain ⟨vBI,wBJ,runBK,SBL⟩:=SBG.b0 te25;have elsBM:Els (up wa.heap.size HBj) eI 1 [] []:=Els.nil;refine FL.v (E.buildSlice (B0) runBK) ?_;refine FL.as (v:=vBI) rfl<|FL.as (v:=vB false) rfl<|FL.nil (FW.ret ?_);cases hp;exact ⟨nofun,rfl,⟨.inr rfl,res2 rfl rfl rfl ⟨_,_,_,_,rfl,(SBL.sel [0] (by decide) rfl),elsBM⟩⟩⟩
  ·
   refine FW.condF rfl cBH ?_;refine FW.skip<|FW.sr<|FL.mv kBq<|FL.mv kBp<|FL.mv kBo ?_;obtain ⟨pBN,csBO,ptBP,lBQ,atBR,relBS⟩:=p1.at (zal hx32);obtain rfl:=zak relBS;refine FL.v (E.indexAddr te25 rfl rfl ptBP) ?_;refine FL.v (E.load rfl (zaf isAgg3 ((atBR.mono (r26.run.inc.tr iBl)).now SBG.sl) rfl)) ?_;obtain ⟨HBT,SBU,iBV,hBW,nvBX⟩:=SBG.sealRowU (i:=0) (l':=[]) rfl elsAa (by decide) rfl;obtain ⟨rBY,hrBZ,hp⟩:=bnd hp;refine FL.c (E.call call119 (A2 rfl rfl)) (zdh SBU.sl vA7 s32 (hBW.mono upI) y31 hrBZ) ?_;rintro e wC0 ⟨rfl,rC1⟩;refine ⟨_,rfl,?_⟩;have rC1:=Run.lend iBV SBG.sl rC1;have SC2:=SBG.call rC1;refine FL.v (E.not rfl) ?_;refine FL.nil ?_;rcases ifB hp with ⟨cC3,hp⟩|⟨cC3,hp⟩
   ·
    refine FW.condT rfl cC3 ?_;refine FW.region<|FL.mv kBq<|FL.mv kBp<|FL.mv kBo ?_;obtain ⟨pC4,csC5,ptC6,lC7,atC8,relC9⟩:=p1.at (zal hx32);obtain rfl:=zak relC9;refine FL.v (E.indexAddr te25 rfl rfl ptC6) ?_;refine FL.v (E.load rfl (zaf isAgg3 ((atC8.mono (r26.run.inc.tr iBl)).now SC2.sl) rfl)) ?_;obtain ⟨HCa,SCb,iCc,hCd,nvCe⟩:=SC2.sealRowU (i:=0) (l':=[]) rfl elsAa (by decide) rfl;obtain ⟨rCf,hrCg,hp⟩:=bnd hp;refine FL.c (E.call call124 (A2 rfl rfl)) (w_spec_l2Put SCb.sl vA7 s32 (hCd.mono upI) y31 hrCg) ?_;rintro e wCi ⟨HCh,vCn,nCo,csCp,rfl,rCk,elsCq⟩;refine ⟨_,rfl,?_⟩;obtain ⟨HCl,rCk,hU246⟩:=St.lendX iCc SC2.sl rCk;have elsCq:=elsCq.mono (hU246.tr (up_le SC2.size));have SCj:=SC2.join (l':=[.row 3 1 vCn nCo csCp,.row 3 1 vA7 nA8 csA9]) rCk rfl;refine FL.as (v:=vCn) rfl<|FL.nil<|FW.region<|FL.mv kBo<|FL.v (E.add rfl rfl) ?_;refine FL.as (v:=vI (wr (((i32:Nat):Int) + 1))) rfl<|FL.nil ?_;cases hp;exact ⟨rfl,⟨_,_,_,_,(SCj.sel [0] (by decide) rfl),(iBl.tr rCk.run.inc),elsCq,(zam rfl (zao hx32) (p1.mono ((r26.run.inc.tr iBl).tr rCk.run.inc)).le),kBp,rfl⟩⟩
   ·
    refine FW.condF rfl cC3 ?_;refine FW.skip<|FW.region<|FL.mv kBo<|FL.v (E.add rfl rfl) ?_;refine FL.as (v:=vI (wr (((i32:Nat):Int) + 1))) rfl<|FL.nil ?_;cases hp;exact ⟨rfl,⟨_,_,_,_,SC2,iBl,elsAa,(zam rfl (zao hx32) (p1.mono (r26.run.inc.tr iBl)).le),kBp,kBq⟩⟩
 ·
  clear hp hq;rintro s32 fCC wCB ⟨HCy,vA7,nA8,csA9,SCz,iCA,elsAa,kCD,kCE,kCF⟩;refine FW.seq<|FW.sr<|FL.mv kCD<|FL.mv kCE<|FL.v (E.lenP te25 rfl p1) ?_;refine FL.v (E.lss rfl rfl) ?_;refine FL.nil<|FW.condF rfl zas ?_;refine FW.exit ?_;exact ⟨nofun,rfl,⟨_,_,_,_,SCz,iCA,elsAa,kCF⟩⟩
 ·
  clear hq;intro e fCw wCv hD;rcases q32 with s32|x32
  ·
   obtain ⟨rfl,hD⟩:=hD;obtain ⟨HCs,vA7,nA8,csA9,SCt,iCu,elsAa,kCx⟩:=hD;replace hp:=el_go hp;refine FW.sr<|FL.mv kCx<|FL.as (v:=vA7) rfl<|FL.as (v:=vB true) rfl<|FL.nil (FW.ret ?_);cases hp;exact ⟨.inr rfl,res2 rfl rfl rfl ⟨_,_,_,_,rfl,SCt,elsAa⟩⟩
  ·
   obtain ⟨he,hL⟩:=hD;replace hp:=el_rt hp;cases hp;subst he;exact hL

@[reducible] def p_spec_l2Resolve (Ha:GH) (wa:World) (r:((List Int)×Bool)):Ending→World→Prop :=
 fun e w'=>∃ H':GH,∃ v0:Value,∃ n0:Nat,∃ c0:List Value,e=.returned (Value.tuple #[v0,vB r.2])∧St Ha wa H' w' [.row 3 1 v0 n0 c0]∧Els (up wa.heap.size H') eI 1 c0 r.1
theorem w_spec_l2Resolve {Ha:GH} {wa:World} (hs:Sl Ha wa) (v0:Value) (a0:List Int) (p0:RSl Ha eI 1 v0 a0) (v1:Value) (a1:List Int) (p1:RSl Ha eI 1 v1 a1) (a2:Int) {r:((List Int)×Bool)} (hp:(PF.zcZ a0 a1 a2)=some r) :
  Calls prog 109 #[v0,v1,vI a2] wa (p_spec_l2Resolve Ha wa r):=by
 unfold PF.zcZ at hp;have S0:=St.init hs;refine zag (N:=29) (args:=[v0,v1,vI a2]) func109 rfl rfl rfl ?_;refine FW.sr<|FL.as (v:=vN) rfl<|FL.as (v:=vB false) rfl<|FL.nil (FW.seq (FW.sr ?_));refine FL.mv (v:=v0) rfl<|FL.mv (v:=vI a2) rfl ?_;obtain ⟨r21,hr22,hp⟩:=bnd hp;refine FL.c (E.call call119 (A2 rfl rfl)) (zdh S0.sl v0 a0 p0 a2 hr22) ?_;rintro e w23 ⟨rfl,r24⟩;refine ⟨_,rfl,?_⟩;have S25:=S0.call r24;refine FL.v (E.not rfl) ?_;refine FL.mv (v:=vB (!r21)) rfl ?_;obtain ⟨t31,hqt31,hp⟩:=bnd hp;refine FL.cut 6 (fun f w=>∃ H:GH,St Ha wa H w []∧Inc Ha H∧f 0=v0∧f 1=v1∧f 2=vI a2∧f 18=vB t31) ?_ ?_
 ·
  clear hp;have hp:=hqt31;clear hqt31;rcases ifB hp with ⟨c37,hp⟩|⟨c37,hp⟩
  ·
   refine FL.n c37<|FL.n c37<|FL.n c37<|FL.n c37<|FL.n c37 ?_;cases hp;refine FL.v (E.pickT rfl c37 rfl) ?_;exact FL.nil ⟨rfl,_,S25,I0,rfl,rfl,rfl,rfl⟩
  ·
   refine FL.y (wY c37) (E.move (v:=v1) rfl) ?_;refine FL.y (wY c37) (E.move (v:=vI a2) rfl) ?_;refine FL.y (wY c37) (E.neg rfl) ?_;obtain ⟨r38,hr39,hp⟩:=bnd hp;refine FL.call (wY c37) rfl rfl (E.call call119 (A2 rfl rfl)) (zdh S25.sl v1 a1 p1 (wr (-a2)) hr39) ?_;rintro e w40 ⟨rfl,r41⟩;refine ⟨_,rfl,?_⟩;have S42:=S25.call r41;refine FL.y (wY c37) (E.not rfl) ?_;cases hp;refine FL.v (E.pickF rfl c37 rfl) ?_;exact FL.nil ⟨rfl,_,S42,I0,rfl,rfl,rfl,rfl⟩
 rintro f36 w35 ⟨H32,S33,i34,k43,k44,k45,k46⟩;refine FL.nil ?_;rcases ifB hp with ⟨c47,hp⟩|⟨c47,hp⟩
 ·
  refine FW.condT k46 c47 ?_;refine FW.sr ?_;obtain ⟨v48,w49,run50,S51⟩:=S33.b0 te25;have els52:Els (up wa.heap.size H32) eI 1 [] []:=Els.nil;refine FL.v (E.buildSlice (B0) run50) ?_;refine FL.as (v:=v48) rfl<|FL.as (v:=vB false) rfl<|FL.nil (FW.ret ?_);cases hp;exact ⟨.inr rfl,res2 rfl rfl rfl ⟨_,_,_,_,rfl,S51,els52⟩⟩
 ·
  refine FW.condF k46 c47 ?_;refine FW.skip<|FW.sr<|FL.mv k43<|FL.mv k45 ?_;obtain ⟨r53,hr54,hp⟩:=bnd hp;refine FL.c (E.call call121 (A2 rfl rfl)) (zdW S33.sl v0 a0 (p0.mono i34) a2 hr54) ?_;rintro e w56 ⟨H55,v59,n60,cs61,rfl,r58,els62⟩;refine ⟨_,rfl,?_⟩;have els62:=els62.mono (up_le S33.size);have S57:=S33.join (l':=[.row 3 1 v59 n60 cs61]) r58 rfl;refine FL.mv k44<|FL.mv k45 ?_;obtain ⟨r63,hr64,hp⟩:=bnd hp;refine FL.c (E.call call121 (A2 rfl rfl)) (zdW S57.sl v1 a1 (p1.mono (i34.tr r58.run.inc)) a2 hr64) ?_;rintro e w66 ⟨H65,v69,n70,cs71,rfl,r68,els72⟩;refine ⟨_,rfl,?_⟩;have els72:=els72.mono (up_le S57.size);have S67:=S57.join (l':=[.row 3 1 v69 n70 cs71,.row 3 1 v59 n60 cs61]) r68 rfl;obtain ⟨H73,S74,i75,h76,nv77⟩:=S67.sealRowU (i:=1) (l':=[.row 3 1 v69 n70 cs71]) rfl (els62.mono (zac r68.run.inc)) (by decide) rfl;obtain ⟨H78,S79,i80,h81,nv82⟩:=S74.sealRowU (i:=0) (l':=[]) rfl (els72.mono (zac i75)) (by decide) rfl;obtain ⟨r83,hr84,hp⟩:=bnd hp;refine FL.c (E.call call120 (A2 rfl rfl)) (w_spec_l2Join S79.sl v59 r53 (h76.mono (upI.tr i80)) v69 r63 (h81.mono upI) hr84) ?_;rintro e w86 ⟨H85,v91,n92,cs93,rfl,r88,els94⟩;refine ⟨_,rfl,?_⟩;obtain ⟨H89,r88,hU90⟩:=St.lendX (i75.tr i80) S67.sl r88;have els94:=els94.mono (hU90.tr (up_le S67.size));have S87:=S67.join (l':=[.row 3 1 v91 n92 cs93,.row 3 1 v69 n70 cs71,.row 3 1 v59 n60 cs61]) r88 rfl;refine FL.v (E.extract (i:=0) rfl rfl) ?_;refine FL.v (E.extract (i:=1) rfl rfl) ?_;refine FL.as (v:=v91) rfl<|FL.as (v:=vB r83.2) rfl<|FL.nil (FW.ret ?_);cases hp;exact ⟨.inr rfl,res2 rfl rfl rfl ⟨_,_,_,_,rfl,(S87.sel [0] (by decide) rfl),els94⟩⟩

theorem w_spec_l2At {Ha:GH} {wa:World} (hs:Sl Ha wa) (v0:Value) (a0:List (List Int)) (p0:RSl Ha (eL eI 1) 1 v0 a0) (v1:Value) (a1:List Int) (p1:RSl Ha eI 1 v1 a1) {r:Int} (hp:(PF.zci a0 a1)=some r) :
  Calls prog 110 #[v0,v1] wa (Sc Ha wa (vI r)):=by
 unfold PF.zci at hp;have S0:=St.init hs;refine zag (N:=22) (args:=[v0,v1]) func110 rfl rfl rfl ?_;refine FW.sr<|FL.as (v:=vI 0) rfl<|FL.nil<|FW.sr<|FL.mv (v:=v0) rfl<|FL.mv (v:=v1) rfl ?_;obtain ⟨r21,hr22,hp⟩:=bnd hp;refine FL.c (E.call call106 (A2 rfl rfl)) (zdz S0.sl v0 a0 p0 v1 a1 p1 hr22) ?_;rintro e w23 ⟨rfl,r24⟩;refine ⟨_,rfl,?_⟩;have S25:=S0.call r24;refine FL.as (v:=vI r21) rfl<|FL.nil (FW.seq (FW.sr ?_));refine FL.mv (v:=vI r21) rfl<|FL.mv (v:=v0) rfl<|FL.v (E.lenP te39 rfl p0) ?_;refine FL.v (E.lss rfl rfl) ?_;refine FL.mv (v:=vB (decide (r21 < (len a0)))) rfl ?_;obtain ⟨t41,hqt41,hp⟩:=bnd hp;refine FL.cut 7 (fun f w=>∃ H:GH,St Ha wa H w []∧Inc Ha H∧f 5=vI r21∧f 20=vB t41) ?_ ?_
 ·
  clear hp;have hp:=hqt41;clear hqt41;rcases ifB hp with ⟨c47,hp⟩|⟨c47,hp⟩
  ·
   refine FL.y (wY c47) (E.move (v:=v0) rfl) ?_;refine FL.y (wY c47) (E.move (v:=vI r21) rfl) ?_;obtain ⟨x54,hx55,hp⟩:=bnd hp;obtain ⟨p48,cs49,pt50,l51,at52,rel53⟩:=p0.at hx55;obtain ⟨v56,rfl,h57⟩:=zaE rel53;refine FL.y (wY c47) (E.indexAddr te39 rfl rfl pt50) ?_;refine FL.y (wY c47) (E.load rfl (zaf isAgg25 (at52.now S25.sl) rfl)) ?_;refine FL.y (wY c47) (E.move (v:=v1) rfl) ?_;obtain ⟨r58,hr59,hp⟩:=bnd hp;refine FL.call (wY c47) rfl rfl (E.call call107 (A2 rfl rfl)) (w_spec_l1Same S25.sl v56 x54 h57 v1 a1 p1 hr59) ?_;rintro e w60 ⟨rfl,r61⟩;refine ⟨_,rfl,?_⟩;have S62:=S25.call r61;cases hp;refine FL.v (E.pickT rfl c47 rfl) ?_;exact FL.nil ⟨rfl,_,S62,I0,rfl,rfl⟩
  ·
   refine FL.n c47<|FL.n c47<|FL.n c47<|FL.n c47<|FL.n c47<|FL.n c47 ?_;cases hp;refine FL.v (E.pickF rfl c47 rfl) ?_;exact FL.nil ⟨rfl,_,S25,I0,rfl,rfl⟩
 rintro f46 w45 ⟨H42,S43,i44,k63,k64⟩;refine FL.nil ?_;rcases ifB hp with ⟨c65,hp⟩|⟨c65,hp⟩
 ·
  refine FW.condT k64 c65 ?_;refine FW.sr<|FL.mv k63<|FL.as (v:=vI r21) rfl<|FL.nil (FW.ret ?_);cases hp;exact ⟨.inr rfl,res1 rfl rfl ⟨rfl,S43.back⟩⟩
 ·
  refine FW.condF k64 c65 ?_;refine FW.skip<|FW.sr<|FL.as (v:=vI (-1)) rfl<|FL.nil (FW.ret ?_);cases hp;exact ⟨.inr rfl,res1 rfl rfl ⟨rfl,S43.back⟩⟩

end Go.Proofs
