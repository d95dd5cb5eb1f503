/- Part of the walks and plain laws behind the claim: it proves helpers, under no condition beyond their own. -/
import Derived.Test.YtjoeckfdcalbnaaGreatPbWk3
set_option linter.unusedVariables false
set_option maxRecDepth 100000
namespace Go.Proofs
open Go.Mr Go.Pu Go.PF Go.RowKit

theorem w_impl_isFamily_1 {Ha:GH} {wa:World} (hs:Sl Ha wa) (v0:Value) (a0:List Int) (p0:RSl Ha eI 1 v0 a0) (q0:Addr) (b0:Cnf) (u0_1:Value) (g0_1:RSl Ha (eL eI 1) 1 u0_1 b0.clauses) (c0:CAt Ha q0 [Value.int .i64 b0.vars,u0_1]) (q1:Addr) (b1:Int) (c1:CAt Ha q1 [Value.int .i64 b1]) (q2:Addr) (b2:List Bool) (u2_0:Value) (g2_0:RSl Ha eB 1 u2_0 b2) (c2:CAt Ha q2 [u2_0]) {r:Bool} (hp:(PF.zcU a0 b0 b1 b2)=some r) :
  Calls Tryz.prog 73 #[v0,Value.pointer (some q0),Value.pointer (some q1),Value.pointer (some q2)] wa (Sc Ha wa (Value.bool r)):=by
 unfold PF.zcU at hp
 have S0:=St.init hs
 refine zae (N:=12) (args:=[v0,Value.pointer (some q0),Value.pointer (some q1),Value.pointer (some q2)]) Tryz.func73 rfl rfl rfl ?_
 refine FW.seq (FW.region ?_)
 refine FL.v (E.assign (v:=Value.bool false) rfl) ?_
 refine FL.nil (FW.seq (FW.region ?_))
 refine FL.v (E.load rfl (zai Tryz.isAgg26 Tryz.sizeOf26 (c0.now S0.sl) rfl)) ?_
 refine FL.v (E.load rfl (zaf Tryz.isAgg3 (c1.now S0.sl) rfl)) ?_
 refine FL.v (E.load rfl (zaf Tryz.isAgg52 (c2.now S0.sl) rfl)) ?_
 refine FL.v (E.move (v:=v0) rfl) ?_
 obtain ⟨r21,hr22,hp⟩:=bnd hp
 refine FL.call rfl rfl rfl (E.call Tryz.call46 (A4 rfl rfl rfl rfl)) (zeY S0.sl b0 u0_1 g0_1 b1 u2_0 b2 g2_0 v0 a0 p0 hr22) ?_
 rintro e w23 ⟨rfl,r24⟩
 refine ⟨_,rfl,?_⟩
 have S25:=S0.call r24
 refine FL.v (E.not rfl) ?_
 refine FL.v (E.assign (v:=Value.bool (!r21)) rfl) ?_
 refine FL.nil ?_
 refine FW.ret ?_
 obtain rfl:=Option.some.inj hp
 exact ⟨.inr rfl,res1 rfl rfl ⟨rfl,S25.back⟩⟩

set_option maxHeartbeats 4000000 in
theorem w_impl_isFamily {Ha:GH} {wa:World} (hs:Sl Ha wa) (a0:Cnf) (v0_1:Value) (p0_1:RSl Ha (eL eI 1) 1 v0_1 a0.clauses) (a1:Int) (v2:Value) (a2:List (List Int)) (p2:RSl Ha (eL eI 1) 1 v2 a2) {r:Bool} (hp:(PF.zdx a0 a1 a2)=some r) :
  Calls Tryz.prog 38 #[Value.agg #[Value.int .i64 a0.vars,v0_1],Value.int .i64 a1,v2] wa (Sc Ha wa (Value.bool r)):=by
 unfold PF.zdx at hp
 have S0:=St.init hs
 refine zae (N:=56) (args:=[Value.agg #[Value.int .i64 a0.vars,v0_1],Value.int .i64 a1,v2]) Tryz.func38 rfl rfl rfl ?_
 refine FW.seq (FW.region ?_)
 obtain ⟨b21,w22,run23,S24⟩:=S0.box (P:=Tryz.prog) 26 [Value.int .i64 a0.vars,v0_1] (v:=Value.agg #[Value.int .i64 a0.vars,v0_1]) rfl (zac rfl (zac p0_1.one zad))
 refine FL.v (E.box rfl run23) ?_
 obtain ⟨H25,S26,i27,at28⟩:=S24.sealBox (i:=0) (l':=[]) rfl rfl
 obtain ⟨b29,w30,run31,S32⟩:=S26.box (P:=Tryz.prog) 3 [Value.int .i64 a1] (v:=Value.int .i64 a1) rfl (zac rfl zad)
 refine FL.v (E.box rfl run31) ?_
 obtain ⟨H33,S34,i35,at36⟩:=S32.sealBox (i:=0) (l':=[]) rfl rfl
 refine FL.v (E.assign (v:=Value.bool false) rfl) ?_
 refine FL.nil (FW.seq (FW.seq (FW.region ?_)))
 refine FL.v (E.move (v:=v2) rfl) ?_
 refine FL.v (E.lenP te24 rfl p2) ?_
 refine FL.v (E.move (v:=Value.int .i64 0) rfl) ?_
 refine FL.nil ?_
 obtain ⟨q38,hq,hp⟩:=bndR hp
 refine FW.block ?_
 refine FW.mono (FW.forL (S:=Unit) (X:=Bool) (fun (i38:Nat) (s38:Unit) f w=>∃ H:GH,St Ha wa H w []∧Inc H33 H∧f 12=Value.int .i64 ((i38:Nat):Int)∧f 2=v2∧f 3=Value.pointer (some ⟨b21,0,none⟩)∧f 4=Value.pointer (some ⟨b29,0,none⟩)∧f 10=v2∧f 11=Value.int .i64 (len a2)) (fun q e f w=>match q with|.go s38=>e=Exit.exit 0∧(∃ H:GH,St Ha wa H w []∧Inc H33 H∧f 2=v2∧f 3=Value.pointer (some ⟨b21,0,none⟩)∧f 4=Value.pointer (some ⟨b29,0,none⟩))|.rt x=>((e=Exit.ret)∧(fun e f w=>(e=Exit.normal∨e=Exit.ret)∧∀ a,Fr (δ:=[]) 56 a f→∃ v,(results Tryz.f38 a.tmps).run Tryz.prog w=.ok v w∧(Sc Ha wa (Value.bool x)) (.returned v) w) e f w)) hq ⟨_,S34,(Inc.rfl _),rfl,rfl,rfl,rfl,rfl,rfl⟩ ?_ ?_) ?_
 ·
  clear hp hq
  rintro i38 y37 s38 fBA wBz ⟨HBw,SBx,iBy,kBB,kBC,kBD,kBE,kBF,kBG⟩ hx38 oE1 hp
  refine FW.seq (FW.region ?_)
  refine FL.v (E.lssT kBB kBG (zaw hx38)) ?_
  refine FL.nil (FW.seq ?_)
  refine FW.condT rfl rfl ?_
  refine FW.skip (FW.seq (FW.block (FW.seq (FW.region ?_))))
  refine FL.v (E.move kBB) ?_
  obtain ⟨pBH,csBI,ptBJ,lBK,atBL,relBM⟩:=p2.at (zal hx38)
  obtain ⟨vBN,rfl,hBO⟩:=zav relBM
  refine FL.v (E.indexAddr te24 kBF kBB ptBJ) ?_
  refine FL.v (E.load rfl (zaf Tryz.isAgg34 ((atBL.mono ((i27.tr i35).tr iBy)).now SBx.sl) rfl)) ?_
  refine FL.v (E.assign (v:=Value.int .i64 ((i38:Nat):Int)) rfl) ?_
  refine FL.v (E.assign (v:=vBN) rfl) ?_
  refine FL.nil (FW.seq (FW.region ?_))
  refine FL.v (E.fieldAddr zaC kBD) ?_
  refine FL.v (E.load rfl (zah Tryz.isAgg3 ((at28.mono (i35.tr iBy)).now SBx.sl) rfl)) ?_
  refine FL.v (E.move (v:=vBN) rfl) ?_
  obtain ⟨rBP,hrBQ,hp⟩:=bnd hp
  refine FL.call rfl rfl rfl (E.call Tryz.call36 (A2 rfl rfl)) (ze8 SBx.sl a0.vars vBN y37 (hBO.mono ((i27.tr i35).tr iBy)) hrBQ) ?_
  rintro e wBR ⟨rfl,rBS⟩
  refine ⟨_,rfl,?_⟩
  have SBT:=SBx.call rBS
  refine FL.v (E.not rfl) ?_
  refine FL.v (E.move (v:=Value.bool (!rBP)) rfl) ?_
  obtain ⟨t223,hqtBZ,hp⟩:=bnd hp
  refine FL.cut 6 (fun f w=>∃ H:GH,St Ha wa H w []∧Inc HBw H∧f 2=v2∧f 3=Value.pointer (some ⟨b21,0,none⟩)∧f 4=Value.pointer (some ⟨b29,0,none⟩)∧f 7=Value.int .i64 ((i38:Nat):Int)∧f 8=vBN∧f 10=v2∧f 11=Value.int .i64 (len a2)∧f 12=Value.int .i64 ((i38:Nat):Int)∧f 28=Value.bool t223) ?_ ?_
  ·
   clear hp;have hp:=hqtBZ;clear hqtBZ
   rcases ifB hp with ⟨cC5,hp⟩|⟨cC5,hp⟩
   ·
    refine FL.skip (wF_no rfl rfl rfl cC5) rfl ?_
    refine FL.skip (wF_no rfl rfl rfl cC5) rfl ?_
    refine FL.skip (wF_no rfl rfl rfl cC5) rfl ?_
    refine FL.skip (wF_no rfl rfl rfl cC5) rfl ?_
    refine FL.skip (wF_no rfl rfl rfl cC5) rfl ?_
    obtain rfl:=Option.some.inj hp
    refine FL.v (E.pickT rfl cC5 rfl) ?_
    exact FL.nil ⟨rfl,_,SBT,(Inc.rfl _),kBC,kBD,kBE,rfl,rfl,kBF,kBG,kBB,rfl⟩
   ·
    refine FL.val (zab rfl rfl rfl cC5) rfl rfl (E.load kBD (zai Tryz.isAgg26 Tryz.sizeOf26 ((at28.mono (i35.tr iBy)).now SBT.sl) rfl)) ?_
    refine FL.val (zab rfl rfl rfl cC5) rfl rfl (E.load kBE (zaf Tryz.isAgg3 ((at36.mono iBy).now SBT.sl) rfl)) ?_
    refine FL.val (zab rfl rfl rfl cC5) rfl rfl (E.move (v:=vBN) rfl) ?_
    obtain ⟨rC6,hrC7,hp⟩:=bnd hp
    refine FL.call (zab rfl rfl rfl cC5) rfl rfl (E.call Tryz.call57 (A3 rfl rfl rfl)) (zeU SBT.sl a0 v0_1 (p0_1.mono ((i27.tr i35).tr iBy)) a1 vBN y37 (hBO.mono ((i27.tr i35).tr iBy)) hrC7) ?_
    rintro e wC8 ⟨rfl,rC9⟩
    refine ⟨_,rfl,?_⟩
    have SCa:=SBT.call rC9
    refine FL.val (zab rfl rfl rfl cC5) rfl rfl (E.not rfl) ?_
    obtain rfl:=Option.some.inj hp
    refine FL.v (E.pickF rfl cC5 rfl) ?_
    exact FL.nil ⟨rfl,_,SCa,(Inc.rfl _),kBC,kBD,kBE,rfl,rfl,kBF,kBG,kBB,rfl⟩
  rintro fC4 wC3 ⟨HC0,SC1,iC2,kCb,kCc,kCd,kCe,kCf,kCg,kCh,kCi,kCj⟩
  refine FL.v (E.move kCj) ?_
  obtain ⟨t289,hqtD3,hp⟩:=bnd hp
  refine FL.cut 13 (fun f w=>∃ H:GH,St Ha wa H w []∧Inc HC0 H∧f 2=v2∧f 3=Value.pointer (some ⟨b21,0,none⟩)∧f 4=Value.pointer (some ⟨b29,0,none⟩)∧f 10=v2∧f 11=Value.int .i64 (len a2)∧f 12=Value.int .i64 ((i38:Nat):Int)∧f 42=Value.bool t289) ?_ ?_
  ·
   clear hp;have hp:=hqtD3;clear hqtD3
   rcases ifB hp with ⟨cD9,hp⟩|⟨cD9,hp⟩
   ·
    refine FL.skip (wF_no rfl rfl rfl cD9) rfl ?_
    refine FL.skip (wF_no rfl rfl rfl cD9) rfl ?_
    refine FL.skip (wF_no rfl rfl rfl cD9) rfl ?_
    refine FL.skip (zar rfl rfl rfl) rfl ?_
    refine FL.skip (zar rfl rfl rfl) rfl ?_
    refine FL.skip (zar rfl rfl rfl) rfl ?_
    refine FL.skip (zar rfl rfl rfl) rfl ?_
    refine FL.skip (zar rfl rfl rfl) rfl ?_
    refine FL.skip (zar rfl rfl rfl) rfl ?_
    refine FL.skip (zar rfl rfl rfl) rfl ?_
    refine FL.skip (zar rfl rfl rfl) rfl ?_
    refine FL.skip (wF_no rfl rfl rfl cD9) rfl ?_
    obtain rfl:=Option.some.inj hp
    refine FL.v (E.pickT rfl cD9 rfl) ?_
    exact FL.nil ⟨rfl,_,SC1,(Inc.rfl _),kCb,kCc,kCd,kCg,kCh,kCi,rfl⟩
   ·
    refine FL.val (zab rfl rfl rfl cD9) rfl rfl (E.move kCe) ?_
    refine FL.val (zab rfl rfl rfl cD9) rfl rfl (E.gtr rfl rfl) ?_
    refine FL.val (zab rfl rfl rfl cD9) rfl rfl (E.move (v:=Value.bool (decide (0 < ((i38:Nat):Int)))) rfl) ?_
    obtain ⟨t311,hqtDp,hp⟩:=bnd hp
    refine FL.cut 9 (fun f w=>∃ H:GH,St Ha wa H w []∧Inc HC0 H∧f 2=v2∧f 3=Value.pointer (some ⟨b21,0,none⟩)∧f 4=Value.pointer (some ⟨b29,0,none⟩)∧f 10=v2∧f 11=Value.int .i64 (len a2)∧f 12=Value.int .i64 ((i38:Nat):Int)∧f 29=Value.bool t223∧f 41=Value.bool t311) ?_ ?_
    ·
     clear hp;have hp:=hqtDp;clear hqtDp
     rcases ifB hp with ⟨cDv,hp⟩|⟨cDv,hp⟩
     ·
      refine FL.val (zab rfl rfl rfl cDv) rfl rfl (E.move kCb) ?_
      refine FL.val (zab rfl rfl rfl cDv) rfl rfl (E.move kCe) ?_
      refine FL.val (zab rfl rfl rfl cDv) rfl rfl (E.sub rfl rfl) ?_
      obtain ⟨xDC,hxDD,hp⟩:=bnd hp
      obtain ⟨pDw,csDx,ptDy,lDz,atDA,relDB⟩:=p2.at hxDD
      obtain ⟨vDE,rfl,hDF⟩:=zav relDB
      refine FL.val (zab rfl rfl rfl cDv) rfl rfl (E.indexAddr te24 rfl rfl ptDy) ?_
      refine FL.val (zab rfl rfl rfl cDv) rfl rfl (E.load rfl (zaf Tryz.isAgg34 ((atDA.mono (((i27.tr i35).tr iBy).tr iC2)).now SC1.sl) rfl)) ?_
      refine FL.val (zab rfl rfl rfl cDv) rfl rfl (E.move kCf) ?_
      obtain ⟨rDG,hrDH,hp⟩:=bnd hp
      refine FL.call (zab rfl rfl rfl cDv) rfl rfl (E.call Tryz.call59 (A2 rfl rfl)) (zeq SC1.sl vDE xDC (hDF.mono (((i27.tr i35).tr iBy).tr iC2)) vBN y37 (hBO.mono (((i27.tr i35).tr iBy).tr iC2)) hrDH) ?_
      rintro e wDI ⟨rfl,rDJ⟩
      refine ⟨_,rfl,?_⟩
      have SDK:=SC1.call rDJ
      refine FL.val (zab rfl rfl rfl cDv) rfl rfl (E.geq rfl rfl) ?_
      obtain rfl:=Option.some.inj hp
      refine FL.val (zab rfl rfl rfl cD9) rfl rfl (E.pickT rfl cDv rfl) ?_
      exact FL.nil ⟨rfl,_,SDK,(Inc.rfl _),kCb,kCc,kCd,kCg,kCh,kCi,rfl,rfl⟩
     ·
      refine FL.skip (wF_no rfl rfl rfl cDv) rfl ?_
      refine FL.skip (wF_no rfl rfl rfl cDv) rfl ?_
      refine FL.skip (wF_no rfl rfl rfl cDv) rfl ?_
      refine FL.skip (wF_no rfl rfl rfl cDv) rfl ?_
      refine FL.skip (wF_no rfl rfl rfl cDv) rfl ?_
      refine FL.skip (wF_no rfl rfl rfl cDv) rfl ?_
      refine FL.skip (wF_no rfl rfl rfl cDv) rfl ?_
      refine FL.skip (wF_no rfl rfl rfl cDv) rfl ?_
      obtain rfl:=Option.some.inj hp
      refine FL.val (zab rfl rfl rfl cD9) rfl rfl (E.pickF rfl cDv rfl) ?_
      exact FL.nil ⟨rfl,_,SC1,(Inc.rfl _),kCb,kCc,kCd,kCg,kCh,kCi,rfl,rfl⟩
    rintro fDu wDt ⟨HDq,SDr,iDs,kDL,kDM,kDN,kDO,kDP,kDQ,kDR,kDS⟩
    obtain rfl:=Option.some.inj hp
    refine FL.v (E.pickF kDR cD9 kDS) ?_
    exact FL.nil ⟨rfl,_,SDr,iDs,kDL,kDM,kDN,kDO,kDP,kDQ,rfl⟩
  rintro fD8 wD7 ⟨HD4,SD5,iD6,kDT,kDU,kDV,kDW,kDX,kDY,kDZ⟩
  refine FL.nil ?_
  rcases ifB hp with ⟨cE0,hp⟩|⟨cE0,hp⟩
  ·
   refine FW.condT kDZ cE0 ?_
   refine FW.seq (FW.region ?_)
   refine FL.v (E.assign (v:=Value.bool false) rfl) ?_
   refine FL.nil ?_
   refine FW.ret ?_
   obtain rfl:=Option.some.inj hp
   exact ⟨nofun,rfl,⟨.inr rfl,res1 rfl rfl ⟨rfl,SD5.back⟩⟩⟩
  ·
   refine FW.condF kDZ cE0 ?_
   refine FW.skip (FW.region ?_)
   refine FL.v (E.add kDY rfl) ?_
   refine FL.v (E.move (v:=Value.int .i64 (wr (((i38:Nat):Int) + 1))) rfl) ?_
   refine FL.nil ?_
   obtain rfl:=Option.some.inj hp
   exact ⟨rfl,⟨_,SD5,((iBy.tr iC2).tr iD6),(zap rfl (zaq hx38) (p2.mono ((((i27.tr i35).tr iBy).tr iC2).tr iD6)).le),kDT,kDU,kDV,kDW,kDX⟩⟩
 ·
  clear hp hq
  rintro s38 fEW wEV ⟨HES,SET,iEU,kEX,kEY,kEZ,kF0,kF1,kF2⟩
  refine FW.seq (FW.region ?_)
  refine FL.v (E.lss kEX kF2) ?_
  refine FL.nil (FW.seq ?_)
  refine FW.condF rfl zax ?_
  refine FW.exit ?_
  exact ⟨nofun,rfl,⟨_,SET,iEU,kEY,kEZ,kF0⟩⟩
 ·
  clear hq
  intro e fE6 wE5 hD
  rcases q38 with s38|x38
  ·
   obtain ⟨rfl,hD⟩:=hD
   obtain ⟨HE2,SE3,iE4,kE7,kE8,kE9⟩:=hD
   replace hp:=el_go hp
   refine FW.seq (FW.region ?_)
   refine FL.v (E.load kE8 (zai Tryz.isAgg26 Tryz.sizeOf26 ((at28.mono (i35.tr iE4)).now SE3.sl) rfl)) ?_
   refine FL.v (E.move kE7) ?_
   obtain ⟨rEa,hrEb,hp⟩:=bnd hp
   refine FL.call rfl rfl rfl (E.call Tryz.call44 (A2 rfl rfl)) (w_impl_marks SE3.sl a0 v0_1 (p0_1.mono ((i27.tr i35).tr iE4)) v2 a2 (p2.mono ((i27.tr i35).tr iE4)) hrEb) ?_
   rintro e wEd ⟨HEc,vEg,nEh,csEi,rfl,rEf,elsEj⟩
   refine ⟨_,rfl,?_⟩
   have elsEj:=elsEj.mono (up_le SE3.size)
   have SEe:=SE3.join (l':=[.row 4 1 vEg nEh csEi]) rEf rfl
   obtain ⟨bEk,wEl,runEm,SEn⟩:=SEe.alloc (P:=Tryz.prog) 52 [Value.slice none 0 0] Tryz.zeroValue52 rfl (zac rfl zad)
   refine FL.v (E.alloc runEm) ?_
   obtain ⟨wEo,runEp,SEq⟩:=SEn.store0 (P:=Tryz.prog) (t:=52) (i:=0) (cs':=[vEg]) (l':=[.box bEk 52 [vEg],.row 4 1 vEg nEh csEi]) (v:=vEg) (c:=[vEg]) rfl Tryz.sizeOf52 (Ln.cells (SEn.row_ln (i:=1) rfl)) rfl (zac (Ln.one (SEn.row_ln (i:=1) rfl)) zad) (Nat.le_of_ble_eq_true rfl) rfl rfl
   refine FL.act rfl rfl (E.store rfl rfl runEp) ?_
   obtain ⟨HEr,SEs,iEt,hEu,nvEv⟩:=SEq.sealRowU (i:=1) (l':=[.box bEk 52 [vEg]]) rfl elsEj (by decide) rfl
   obtain ⟨HEw,SEx,iEy,atEz⟩:=SEs.sealBox (i:=0) (l':=[]) rfl rfl
   refine FL.nil (FW.seq (FW.region ?_))
   refine FL.v (E.move kE7) ?_
   refine FL.v (E.lenP te24 rfl p2) ?_
   refine FL.v (E.gtr rfl rfl) ?_
   refine FL.v (E.move (v:=Value.bool (decide (0 < (len a2)))) rfl) ?_
   obtain ⟨t389,hqtEF,hp⟩:=bnd hp
   refine FL.cut 5 (fun f w=>∃ H:GH,St Ha wa H w []∧Inc HEw H∧f 55=Value.bool t389) ?_ ?_
   ·
    clear hp;have hp:=hqtEF;clear hqtEF
    rcases ifB hp with ⟨cEL,hp⟩|⟨cEL,hp⟩
    ·
     refine FL.val (zab rfl rfl rfl cEL) rfl rfl (E.move kE7) ?_
     refine FL.val (zab rfl rfl rfl cEL) rfl rfl (E.makeFunc A0 (A3 kE8 kE9 rfl)) ?_
     obtain ⟨rEM,hrEN,hp⟩:=bnd hp
     refine FL.call (zab rfl rfl rfl cEL) rfl rfl (E.call Tryz.call72 (A2 rfl rfl)) (zeS SEx.sl v2 a2 (p2.mono (((((i27.tr i35).tr iE4).tr rEf.run.inc).tr iEt).tr iEy)) (Value.func (.func 73) #[] #[Value.pointer (some ⟨b21,0,none⟩),Value.pointer (some ⟨b29,0,none⟩),Value.pointer (some ⟨bEk,0,none⟩)]) (fun x0=>PF.zcU x0 a0 a1 rEa) (fun H2 w2 hi2 hs2 x0 y0 z0 r hr=>⟨73,#[Value.pointer (some ⟨b21,0,none⟩),Value.pointer (some ⟨b29,0,none⟩),Value.pointer (some ⟨bEk,0,none⟩)],rfl,Tryz.call73,w_impl_isFamily_1 hs2 y0 x0 z0 ⟨b21,0,none⟩ a0 v0_1 ((p0_1.mono (((((i27.tr i35).tr iE4).tr rEf.run.inc).tr iEt).tr iEy)).mono hi2) ((at28.mono ((((i35.tr iE4).tr rEf.run.inc).tr iEt).tr iEy)).mono hi2) ⟨b29,0,none⟩ a1 ((at36.mono (((iE4.tr rEf.run.inc).tr iEt).tr iEy)).mono hi2) ⟨bEk,0,none⟩ rEa vEg ((hEu.mono (upI.tr iEy)).mono hi2) (atEz.mono hi2) hr⟩) hrEN) ?_
     rintro e wEO ⟨rfl,rEP⟩
     refine ⟨_,rfl,?_⟩
     have SEQ:=SEx.call rEP
     refine FL.val (zab rfl rfl rfl cEL) rfl rfl (E.not rfl) ?_
     obtain rfl:=Option.some.inj hp
     refine FL.v (E.pickT rfl cEL rfl) ?_
     exact FL.nil ⟨rfl,_,SEQ,(Inc.rfl _),rfl⟩
    ·
     refine FL.skip (wF_no rfl rfl rfl cEL) rfl ?_
     refine FL.skip (wF_no rfl rfl rfl cEL) rfl ?_
     refine FL.skip (wF_no rfl rfl rfl cEL) rfl ?_
     refine FL.skip (wF_no rfl rfl rfl cEL) rfl ?_
     obtain rfl:=Option.some.inj hp
     refine FL.v (E.pickF rfl cEL rfl) ?_
     exact FL.nil ⟨rfl,_,SEx,(Inc.rfl _),rfl⟩
   rintro fEK wEJ ⟨HEG,SEH,iEI,kER⟩
   refine FL.v (E.assign kER) ?_
   refine FL.nil ?_
   refine FW.ret ?_
   obtain rfl:=Option.some.inj hp
   exact ⟨.inr rfl,res1 rfl rfl ⟨rfl,SEH.back⟩⟩
  ·
   obtain ⟨he,hL⟩:=hD
   replace hp:=el_rt hp
   obtain rfl:=Option.some.inj hp
   subst he
   exact hL

theorem ze9 {Ha:GH} {wa:World} (hs:Sl Ha wa) (a0:Cnf) (v0_1:Value) (p0_1:RSl Ha (eL eI 1) 1 v0_1 a0.clauses) (a1:Int) (v2:Value) (a2:List (List Int)) (p2:RSl Ha (eL eI 1) 1 v2 a2) {r:(Bool×Bool)} (hp:(PF.zcj a0 a1 a2)=some r) :
  Calls Tryz.prog 19 #[Value.agg #[Value.int .i64 a0.vars,v0_1],Value.int .i64 a1,v2] wa (Sc Ha wa (Value.tuple #[Value.bool r.1,Value.bool r.2])):=by
 unfold PF.zcj at hp
 have S0:=St.init hs
 refine zae (N:=16) (args:=[Value.agg #[Value.int .i64 a0.vars,v0_1],Value.int .i64 a1,v2]) Tryz.func19 rfl rfl rfl ?_
 refine FW.seq (FW.region ?_)
 obtain ⟨b21,w22,run23,S24⟩:=S0.box (P:=Tryz.prog) 26 [Value.int .i64 a0.vars,v0_1] (v:=Value.agg #[Value.int .i64 a0.vars,v0_1]) rfl (zac rfl (zac p0_1.one zad))
 refine FL.v (E.box rfl run23) ?_
 obtain ⟨H25,S26,i27,at28⟩:=S24.sealBox (i:=0) (l':=[]) rfl rfl
 refine FL.v (E.assign (v:=Value.bool false) rfl) ?_
 refine FL.v (E.assign (v:=Value.bool false) rfl) ?_
 refine FL.nil (FW.seq (FW.seq (FW.region ?_)))
 refine FL.v (E.load rfl (zai Tryz.isAgg26 Tryz.sizeOf26 (at28.now S26.sl) rfl)) ?_
 refine FL.v (E.move (v:=Value.int .i64 a1) rfl) ?_
 obtain ⟨r29,hr30,hp⟩:=bnd hp
 refine FL.call rfl rfl rfl (E.call Tryz.call23 (A2 rfl rfl)) (zco S26.sl a0 v0_1 (p0_1.mono i27) a1 hr30) ?_
 rintro e w31 ⟨rfl,r32⟩
 refine ⟨_,rfl,?_⟩
 have S33:=S26.call r32
 refine FL.v (E.not rfl) ?_
 refine FL.nil ?_
 rcases ifB hp with ⟨c34,hp⟩|⟨c34,hp⟩
 ·
  refine FW.condT rfl c34 ?_
  refine FW.seq (FW.region ?_)
  refine FL.v (E.assign (v:=Value.bool false) rfl) ?_
  refine FL.v (E.assign (v:=Value.bool false) rfl) ?_
  refine FL.nil ?_
  refine FW.ret ?_
  obtain rfl:=Option.some.inj hp
  exact ⟨.inr rfl,res2 rfl rfl rfl ⟨rfl,S33.back⟩⟩
 ·
  refine FW.condF rfl c34 ?_
  refine FW.skip (FW.seq (FW.region ?_))
  refine FL.v (E.load rfl (zai Tryz.isAgg26 Tryz.sizeOf26 (at28.now S33.sl) rfl)) ?_
  refine FL.v (E.move (v:=Value.int .i64 a1) rfl) ?_
  refine FL.v (E.move (v:=v2) rfl) ?_
  obtain ⟨r35,hr36,hp⟩:=bnd hp
  refine FL.call rfl rfl rfl (E.call Tryz.call38 (A3 rfl rfl rfl)) (w_impl_isFamily S33.sl a0 v0_1 (p0_1.mono i27) a1 v2 a2 (p2.mono i27) hr36) ?_
  rintro e w37 ⟨rfl,r38⟩
  refine ⟨_,rfl,?_⟩
  have S39:=S33.call r38
  refine FL.v (E.assign (v:=Value.bool r35) rfl) ?_
  refine FL.v (E.assign (v:=Value.bool true) rfl) ?_
  refine FL.nil ?_
  refine FW.ret ?_
  obtain rfl:=Option.some.inj hp
  exact ⟨.inr rfl,res2 rfl rfl rfl ⟨rfl,S39.back⟩⟩

theorem w_spec_l1Least {Ha:GH} {wa:World} (hs:Sl Ha wa) (a0:Int) (a1:Int) :
  Calls Tryz.prog 135 #[Value.int .i64 a0,Value.int .i64 a1] wa (Sc Ha wa (Value.int .i64 (PF.zck a0 a1))):=by
 obtain ⟨r,hp⟩:∃ r,(PF.zck a0 a1)=r:=⟨_,rfl⟩
 rw [hp]
 unfold PF.zck at hp
 have S0:=St.init hs
 refine zae (N:=10) (args:=[Value.int .i64 a0,Value.int .i64 a1]) Tryz.func135 rfl rfl rfl ?_
 refine FW.seq (FW.region ?_)
 refine FL.v (E.assign (v:=Value.int .i64 0) rfl) ?_
 refine FL.nil (FW.seq (FW.seq (FW.region ?_)))
 refine FL.v (E.move (v:=Value.int .i64 a0) rfl) ?_
 refine FL.v (E.move (v:=Value.int .i64 a1) rfl) ?_
 refine FL.v (E.lss rfl rfl) ?_
 refine FL.nil ?_
 rcases ifT hp with ⟨c21,hp⟩|⟨c21,hp⟩
 ·
  refine FW.condT rfl c21 ?_
  refine FW.seq (FW.region ?_)
  refine FL.v (E.move (v:=Value.int .i64 a0) rfl) ?_
  refine FL.v (E.assign (v:=Value.int .i64 a0) rfl) ?_
  refine FL.nil ?_
  refine FW.ret ?_
  obtain rfl:=hp
  exact ⟨.inr rfl,res1 rfl rfl ⟨rfl,S0.back⟩⟩
 ·
  refine FW.condF rfl c21 ?_
  refine FW.skip (FW.seq (FW.region ?_))
  refine FL.v (E.move (v:=Value.int .i64 a1) rfl) ?_
  refine FL.v (E.assign (v:=Value.int .i64 a1) rfl) ?_
  refine FL.nil ?_
  refine FW.ret ?_
  obtain rfl:=hp
  exact ⟨.inr rfl,res1 rfl rfl ⟨rfl,S0.back⟩⟩

@[reducible] def zfW (H0:GH) (w0:World) (Ha:GH) (L:List MO) (b0:Nat) (r:((List Int)×l1Cur)):Ending→World→Prop :=
 fun e w'=>∃ H':GH,∃ v0:Value,∃ n0:Nat,∃ c0:List Value,∃ v0_0r:Value,e=.returned (v0)∧(St H0 w0 H' w' (.row 3 1 v0 n0 c0::.box b0 63 [v0_0r,Value.int .i64 r.2.at_,Value.int .u64 r.2.seed]::L)∧Inc Ha H')∧Els (up w0.heap.size H') eI 1 c0 r.1∧RSl H' (eN .u8) 1 v0_0r r.2.code
set_option maxHeartbeats 4000000 in
theorem zfX {H0 Ha:GH} {w0 wa:World} {L:List MO} {a0:l1Cur} {b0:Nat} {v0_0:Value} (S0:St H0 w0 Ha wa (.box b0 63 [v0_0,Value.int .i64 a0.at_,Value.int .u64 a0.seed]::L)) (p0_0:RSl Ha (eN .u8) 1 v0_0 a0.code) (a1:Int) {r:((List Int)×l1Cur)} (hp:(PF.zdy a0 a1)=some r) :
  Calls Tryz.prog 106 #[Value.pointer (some (⟨b0,0,none⟩:Addr)),Value.int .i64 a1] wa (zfW H0 w0 Ha L b0 r):=by
 unfold PF.zdy at hp
 refine zae (N:=30) (args:=[Value.pointer (some (⟨b0,0,none⟩:Addr)),Value.int .i64 a1]) Tryz.func106 rfl rfl rfl ?_
 refine FW.seq (FW.region ?_)
 refine FL.v (E.assign (v:=Value.slice none 0 0) rfl) ?_
 refine FL.nil (FW.seq (FW.region ?_))
 obtain ⟨v21,w22,run23,S24⟩:=S0.buildSlice (P:=Tryz.prog) te34 [] (parts:=#[]) (cells:=[]) rfl zao zan zad (Nat.le_of_ble_eq_true rfl)
 have els25:Els (up w0.heap.size Ha) eI 1 [] []:=Els.nil
 refine FL.v (E.buildSlice (B0) run23) ?_
 refine FL.v (E.assign (v:=v21) rfl) ?_
 refine FL.nil (FW.seq (FW.seq (FW.region ?_)))
 refine FL.v (E.assign (v:=Value.int .i64 1) rfl) ?_
 refine FL.nil ?_
 obtain ⟨q26,hq,hp⟩:=bndR hp
 refine FW.block ?_
 refine FW.mono (FW.iter (S:=((List Int)×(List Int)×Int×Int×Int)) (X:=Empty) (fun (s26:((List Int)×(List Int)×Int×Int×Int)) f w=>∃ H:GH,∃ v87:Value,∃ n88:Nat,∃ cs89:List Value,∃ v91:Value,St H0 w0 H w (.row 3 1 v87 n88 cs89::.box b0 63 [v91,Value.int .i64 s26.2.2.1,Value.int .u64 s26.2.2.2.1]::L)∧Inc Ha H∧Els (up w0.heap.size H) eI 1 cs89 s26.1∧RSl H (eN .u8) 1 v91 s26.2.1∧f 0=Value.pointer (some (⟨b0,0,none⟩:Addr))∧f 1=Value.int .i64 a1∧f 5=v87∧f 6=Value.int .i64 s26.2.2.2.2) (fun (q:Rs ((List Int)×(List Int)×Int×Int×Int) Empty) e f w=>match q with|.go s26=>e=Exit.exit 0∧(∃ H:GH,∃ v87:Value,∃ n88:Nat,∃ cs89:List Value,∃ v91:Value,St H0 w0 H w (.row 3 1 v87 n88 cs89::.box b0 63 [v91,Value.int .i64 s26.2.2.1,Value.int .u64 s26.2.2.2.1]::L)∧Inc Ha H∧Els (up w0.heap.size H) eI 1 cs89 s26.1∧RSl H (eN .u8) 1 v91 s26.2.1∧f 5=v87)|.rt x=>x.elim) hq ⟨_,_,_,_,_,S24,(Inc.rfl _),els25,p0_0,rfl,rfl,rfl,rfl⟩ ?_) ?_
 ·
  clear hp hq
  rintro s26 fAR wAQ ⟨HAN,v87,n88,cs89,v91,SAO,iAP,els90,h92,kAS,kAT,kAU,kAV⟩ oBH hp
  refine FW.seq (FW.seq (FW.region ?_))
  refine FL.v (E.move kAV) ?_
  refine FL.v (E.move kAT) ?_
  refine FL.call rfl rfl rfl (E.call Tryz.call135 (A2 rfl rfl)) (w_spec_l1Least SAO.sl a1 12) ?_
  rintro e wAW ⟨rfl,rAX⟩
  refine ⟨_,rfl,?_⟩
  have SAY:=SAO.call rAX
  refine FL.v (E.leq rfl rfl) ?_
  refine FL.nil ?_
  rcases ifB hp with ⟨cAZ,hp⟩|⟨cAZ,hp⟩
  ·
   refine FW.condT rfl cAZ ?_
   refine FW.skip (FW.seq (FW.block (FW.seq (FW.region ?_))))
   refine FL.v (E.move kAS) ?_
   obtain ⟨rB0,hrB1,hp⟩:=bnd hp
   have SB2:St H0 w0 HAN wAW (.box b0 63 [v91,Value.int .i64 s26.2.2.1,Value.int .u64 s26.2.2.2.1]::.row 3 1 v87 n88 cs89::L):=SAY.front 1 rfl rfl
   refine FL.call rfl rfl rfl (E.call Tryz.call74 (A2 rfl rfl)) (zaR (L:=(.row 3 1 v87 n88 cs89::L)) SB2 (a0:=(l1Cur.mk s26.2.1 s26.2.2.1 s26.2.2.2.1)) h92 4 hrB1) ?_
   rintro e wB4 ⟨HB3,vB7,rfl,⟨SB5,iB6⟩,hB8⟩
   refine ⟨_,rfl,?_⟩
   have SB5:St H0 w0 HB3 wB4 (.box b0 63 [vB7,Value.int .i64 rB0.2.at_,Value.int .u64 rB0.2.seed]::.row 3 1 v87 n88 cs89::L):=SB5
   refine FL.nil (FW.block (FW.seq (FW.region ?_)))
   refine FL.v (E.eql rfl rfl) ?_
   refine FL.v (E.assign (v:=Value.bool (rB0.1 == 0)) rfl) ?_
   refine FL.nil ?_
   rcases ifB hp with ⟨cB9,hp⟩|⟨cB9,hp⟩
   ·
    refine FW.condT rfl cB9 ?_
    refine FW.region ?_
    refine FL.v (E.move kAU) ?_
    refine FL.v (E.move kAV) ?_
    obtain ⟨vBa,wBb,runBc,SBd,elsBe⟩:=SB5.ints (P:=Tryz.prog) te34 (up w0.heap.size HB3) 1 [s26.2.2.2.2]
    refine FL.v (E.buildSlice (B1 rfl) runBc) ?_
    obtain ⟨xsBf,hzBg,hp⟩:=bnd hp
    obtain ⟨vBh,wBk,nBi,csBj,runBl,SBm,elsBn,ceBo⟩:=SBd.appendO (P:=Tryz.prog) te34 (i:=2) (j:=0) rfl (els90.mono (zag iB6)) rfl elsBe hzBg
    have SBm:St H0 w0 HB3 wBk (.row 3 1 vBa 1 (iC [s26.2.2.2.2])::.box b0 63 [vB7,Value.int .i64 rB0.2.at_,Value.int .u64 rB0.2.seed]::.row 3 1 vBh nBi csBj::L):=SBm
    have SBp:St H0 w0 HB3 wBk (.box b0 63 [vB7,Value.int .i64 rB0.2.at_,Value.int .u64 rB0.2.seed]::.row 3 1 vBh nBi csBj::L):=SBm.drop 0
    refine FL.v (E.append rfl rfl runBl) ?_
    refine FL.v (E.assign (v:=vBh) rfl) ?_
    refine FL.nil (FW.region ?_)
    refine FL.v (E.move kAV) ?_
    refine FL.v (E.add rfl rfl) ?_
    refine FL.v (E.assign (v:=Value.int .i64 (wr (s26.2.2.2.2 + 1))) rfl) ?_
    refine FL.nil ?_
    obtain rfl:=Option.some.inj hp
    exact ⟨rfl,⟨_,_,_,_,_,(SBp.selT (a:=[.box b0 63 [vB7,Value.int .i64 rB0.2.at_,Value.int .u64 rB0.2.seed],.row 3 1 vBh nBi csBj]) (l':=[.row 3 1 vBh nBi csBj,.box b0 63 [vB7,Value.int .i64 rB0.2.at_,Value.int .u64 rB0.2.seed]]) [1,0] (by decide) rfl),(iAP.tr iB6),elsBn,hB8,kAS,kAT,rfl,rfl⟩⟩
   ·
    refine FW.condF rfl cB9 ?_
    refine FW.seq (FW.region ?_)
    refine FL.v (E.eql rfl rfl) ?_
    refine FL.v (E.assign (v:=Value.bool (rB0.1 == 1)) rfl) ?_
    refine FL.nil ?_
    rcases ifB hp with ⟨cBq,hp⟩|⟨cBq,hp⟩
    ·
     refine FW.condT rfl cBq ?_
     refine FW.region ?_
     refine FL.v (E.move kAU) ?_
     refine FL.v (E.move kAV) ?_
     refine FL.v (E.neg rfl) ?_
     obtain ⟨vBr,wBs,runBt,SBu,elsBv⟩:=SB5.ints (P:=Tryz.prog) te34 (up w0.heap.size HB3) 1 [(wr (-s26.2.2.2.2))]
     refine FL.v (E.buildSlice (B1 rfl) runBt) ?_
     obtain ⟨xsBw,hzBx,hp⟩:=bnd hp
     obtain ⟨vBy,wBB,nBz,csBA,runBC,SBD,elsBE,ceBF⟩:=SBu.appendO (P:=Tryz.prog) te34 (i:=2) (j:=0) rfl (els90.mono (zag iB6)) rfl elsBv hzBx
     have SBD:St H0 w0 HB3 wBB (.row 3 1 vBr 1 (iC [(wr (-s26.2.2.2.2))])::.box b0 63 [vB7,Value.int .i64 rB0.2.at_,Value.int .u64 rB0.2.seed]::.row 3 1 vBy nBz csBA::L):=SBD
     have SBG:St H0 w0 HB3 wBB (.box b0 63 [vB7,Value.int .i64 rB0.2.at_,Value.int .u64 rB0.2.seed]::.row 3 1 vBy nBz csBA::L):=SBD.drop 0
     refine FL.v (E.append rfl rfl runBC) ?_
     refine FL.v (E.assign (v:=vBy) rfl) ?_
     refine FL.nil (FW.region ?_)
     refine FL.v (E.move kAV) ?_
     refine FL.v (E.add rfl rfl) ?_
     refine FL.v (E.assign (v:=Value.int .i64 (wr (s26.2.2.2.2 + 1))) rfl) ?_
     refine FL.nil ?_
     obtain rfl:=Option.some.inj hp
     exact ⟨rfl,⟨_,_,_,_,_,(SBG.selT (a:=[.box b0 63 [vB7,Value.int .i64 rB0.2.at_,Value.int .u64 rB0.2.seed],.row 3 1 vBy nBz csBA]) (l':=[.row 3 1 vBy nBz csBA,.box b0 63 [vB7,Value.int .i64 rB0.2.at_,Value.int .u64 rB0.2.seed]]) [1,0] (by decide) rfl),(iAP.tr iB6),elsBE,hB8,kAS,kAT,rfl,rfl⟩⟩
    ·
     refine FW.condF rfl cBq ?_
     refine FW.skip (FW.region ?_)
     refine FL.v (E.move kAV) ?_
     refine FL.v (E.add rfl rfl) ?_
     refine FL.v (E.assign (v:=Value.int .i64 (wr (s26.2.2.2.2 + 1))) rfl) ?_
     refine FL.nil ?_
     obtain rfl:=Option.some.inj hp
     exact ⟨rfl,⟨_,_,_,_,_,(SB5.selT (a:=[.box b0 63 [vB7,Value.int .i64 rB0.2.at_,Value.int .u64 rB0.2.seed],.row 3 1 v87 n88 cs89]) (l':=[.row 3 1 v87 n88 cs89,.box b0 63 [vB7,Value.int .i64 rB0.2.at_,Value.int .u64 rB0.2.seed]]) [1,0] (by decide) rfl),(iAP.tr iB6),(els90.mono (zag iB6)),hB8,kAS,kAT,kAU,rfl⟩⟩
  ·
   refine FW.condF rfl cAZ ?_
   refine FW.exit ?_
   obtain rfl:=Option.some.inj hp
   exact ⟨nofun,rfl,⟨_,_,_,_,_,SAY,iAP,els90,h92,kAU⟩⟩
 ·
  clear hq
  intro e fBM wBL hD
  rcases q26 with s26|x26
  ·
   obtain ⟨rfl,hD⟩:=hD
   obtain ⟨HBI,v87,n88,cs89,v91,SBJ,iBK,els90,h92,kBN⟩:=hD
   replace hp:=el_go hp
   refine FW.seq (FW.region ?_)
   refine FL.v (E.move kBN) ?_
   refine FL.v (E.assign (v:=v87) rfl) ?_
   refine FL.nil ?_
   refine FW.ret ?_
   obtain rfl:=Option.some.inj hp
   exact ⟨.inr rfl,res1 rfl rfl ⟨_,_,_,_,_,rfl,⟨SBJ,iBK⟩,els90,h92⟩⟩
  ·
   exact x26.elim

@[reducible] def zfY (H0:GH) (w0:World) (Ha:GH) (L:List MO) (b0:Nat) (r:((List Int)×l1Cur)):Ending→World→Prop :=
 fun e w'=>∃ H':GH,∃ v0:Value,∃ n0:Nat,∃ c0:List Value,∃ v0_0r:Value,e=.returned (v0)∧(St H0 w0 H' w' (.row 3 1 v0 n0 c0::.box b0 63 [v0_0r,Value.int .i64 r.2.at_,Value.int .u64 r.2.seed]::L)∧Inc Ha H')∧Els (up w0.heap.size H') eI 1 c0 r.1∧RSl H' (eN .u8) 1 v0_0r r.2.code
set_option maxHeartbeats 4000000 in
theorem zfZ {H0 Ha:GH} {w0 wa:World} {L:List MO} {a0:l1Cur} {b0:Nat} {v0_0:Value} (S0:St H0 w0 Ha wa (.box b0 63 [v0_0,Value.int .i64 a0.at_,Value.int .u64 a0.seed]::L)) (p0_0:RSl Ha (eN .u8) 1 v0_0 a0.code) (a1:Int) {r:((List Int)×l1Cur)} (hp:(PF.zdz a0 a1)=some r) :
  Calls Tryz.prog 75 #[Value.pointer (some (⟨b0,0,none⟩:Addr)),Value.int .i64 a1] wa (zfY H0 w0 Ha L b0 r):=by
 unfold PF.zdz at hp
 refine zae (N:=32) (args:=[Value.pointer (some (⟨b0,0,none⟩:Addr)),Value.int .i64 a1]) Tryz.func75 rfl rfl rfl ?_
 refine FW.seq (FW.region ?_)
 refine FL.v (E.assign (v:=Value.slice none 0 0) rfl) ?_
 refine FL.nil (FW.seq (FW.region ?_))
 refine FL.v (E.move (v:=Value.pointer (some (⟨b0,0,none⟩:Addr))) rfl) ?_
 refine FL.v (E.move (v:=Value.int .i64 a1) rfl) ?_
 obtain ⟨r21,hr22,hp⟩:=bnd hp
 refine FL.call rfl rfl rfl (E.call Tryz.call106 (A2 rfl rfl)) (zfX (L:=(L)) S0 (a0:=a0) p0_0 a1 hr22) ?_
 rintro e w24 ⟨H23,v27,n28,cs29,v31,rfl,⟨S25,i26⟩,els30,h32⟩
 refine ⟨_,rfl,?_⟩
 have S25:St H0 w0 H23 w24 (.row 3 1 v27 n28 cs29::.box b0 63 [v31,Value.int .i64 r21.2.at_,Value.int .u64 r21.2.seed]::L):=S25
 refine FL.v (E.assign (v:=v27) rfl) ?_
 refine FL.nil (FW.seq (FW.seq (FW.region ?_)))
 refine FL.v (E.move (v:=Value.pointer (some (⟨b0,0,none⟩:Addr))) rfl) ?_
 obtain ⟨r33,hr34,hp⟩:=bnd hp
 have S35:St H0 w0 H23 w24 (.box b0 63 [v31,Value.int .i64 r21.2.at_,Value.int .u64 r21.2.seed]::.row 3 1 v27 n28 cs29::L):=S25.front 1 rfl rfl
 refine FL.call rfl rfl rfl (E.call Tryz.call74 (A2 rfl rfl)) (zaR (L:=(.row 3 1 v27 n28 cs29::L)) S35 (a0:=r21.2) h32 32 hr34) ?_
 rintro e w37 ⟨H36,v40,rfl,⟨S38,i39⟩,h41⟩
 refine ⟨_,rfl,?_⟩
 have S38:St H0 w0 H36 w37 (.box b0 63 [v40,Value.int .i64 r33.2.at_,Value.int .u64 r33.2.seed]::.row 3 1 v27 n28 cs29::L):=S38
 refine FL.nil (FW.block (FW.seq (FW.region ?_)))
 refine FL.v (E.eql rfl rfl) ?_
 refine FL.v (E.assign (v:=Value.bool (r33.1 == 0)) rfl) ?_
 refine FL.nil ?_
 rcases ifB hp with ⟨c42,hp⟩|⟨c42,hp⟩
 ·
  refine FW.condT rfl c42 ?_
  refine FW.region ?_
  refine FL.v (E.move (v:=v27) rfl) ?_
  refine FL.v (E.move (v:=Value.pointer (some (⟨b0,0,none⟩:Addr))) rfl) ?_
  refine FL.v (E.move (v:=Value.int .i64 a1) rfl) ?_
  obtain ⟨r43,hr44,hp⟩:=bnd hp
  refine FL.call rfl rfl rfl (E.call Tryz.call107 (A2 rfl rfl)) (zeQ (L:=(.row 3 1 v27 n28 cs29::L)) S38 (a0:=r33.2) h41 a1 hr44) ?_
  rintro e w46 ⟨H45,v49,rfl,⟨S47,i48⟩,h50⟩
  refine ⟨_,rfl,?_⟩
  have S47:St H0 w0 H45 w46 (.box b0 63 [v49,Value.int .i64 r43.2.at_,Value.int .u64 r43.2.seed]::.row 3 1 v27 n28 cs29::L):=S47
  obtain ⟨v51,w52,run53,S54,els55⟩:=S47.ints (P:=Tryz.prog) te34 (up w0.heap.size H45) 1 [r43.1]
  refine FL.v (E.buildSlice (B1 rfl) run53) ?_
  obtain ⟨xs56,hz57,hp⟩:=bnd hp
  obtain ⟨v58,w61,n59,cs60,run62,S63,els64,ce65⟩:=S54.appendO (P:=Tryz.prog) te34 (i:=2) (j:=0) rfl (els30.mono (zag (i39.tr i48))) rfl els55 hz57
  have S63:St H0 w0 H45 w61 (.row 3 1 v51 1 (iC [r43.1])::.box b0 63 [v49,Value.int .i64 r43.2.at_,Value.int .u64 r43.2.seed]::.row 3 1 v58 n59 cs60::L):=S63
  have S66:St H0 w0 H45 w61 (.box b0 63 [v49,Value.int .i64 r43.2.at_,Value.int .u64 r43.2.seed]::.row 3 1 v58 n59 cs60::L):=S63.drop 0
  refine FL.v (E.append rfl rfl run62) ?_
  refine FL.v (E.assign (v:=v58) rfl) ?_
  refine FL.nil (FW.seq (FW.region ?_))
  refine FL.v (E.move (v:=v58) rfl) ?_
  refine FL.v (E.assign (v:=v58) rfl) ?_
  refine FL.nil ?_
  refine FW.ret ?_
  obtain rfl:=Option.some.inj hp
  exact ⟨.inr rfl,res1 rfl rfl ⟨_,_,_,_,_,rfl,⟨(S66.selT (a:=[.box b0 63 [v49,Value.int .i64 r43.2.at_,Value.int .u64 r43.2.seed],.row 3 1 v58 n59 cs60]) (l':=[.row 3 1 v58 n59 cs60,.box b0 63 [v49,Value.int .i64 r43.2.at_,Value.int .u64 r43.2.seed]]) [1,0] (by decide) rfl),((i26.tr i39).tr i48)⟩,els64,h50⟩⟩
 ·
  refine FW.condF rfl c42 ?_
  refine FW.seq (FW.region ?_)
  refine FL.v (E.eql rfl rfl) ?_
  refine FL.v (E.assign (v:=Value.bool (r33.1 == 1)) rfl) ?_
  refine FL.nil ?_
  rcases ifB hp with ⟨c67,hp⟩|⟨c67,hp⟩
  ·
   refine FW.condT rfl c67 ?_
   refine FW.seq (FW.region ?_)
   refine FL.v (E.move (v:=v27) rfl) ?_
   refine FL.v (E.lenO te34 rfl S38 (i:=1) rfl els30 (by decide)) ?_
   refine FL.v (E.gtr rfl rfl) ?_
   refine FL.nil ?_
   rcases ifB hp with ⟨c68,hp⟩|⟨c68,hp⟩
   ·
    refine FW.condT rfl c68 ?_
    refine FW.region ?_
    refine FL.v (E.move (v:=v27) rfl) ?_
    refine FL.v (E.move (v:=Value.pointer (some (⟨b0,0,none⟩:Addr))) rfl) ?_
    refine FL.v (E.move (v:=Value.int .i64 a1) rfl) ?_
    refine FL.v (E.add rfl rfl) ?_
    obtain ⟨v69,w70,run71,S72,els73⟩:=S38.ints (P:=Tryz.prog) te34 (up w0.heap.size H36) 3 [0,(wr (a1 + 1)),(-9223372036854775808)]
    refine FL.v (E.buildSlice (B3 rfl rfl rfl) run71) ?_
    obtain ⟨H74,S75,i76,h77,nv78⟩:=S72.sealRowU (i:=0) (l':=(.box b0 63 [v40,Value.int .i64 r33.2.at_,Value.int .u64 r33.2.seed]::.row 3 1 v27 n28 cs29::L)) rfl els73 (by decide) rfl
    obtain ⟨r79,hr80,hp⟩:=bnd hp
    refine FL.call rfl rfl rfl (E.call Tryz.call82 (A2 rfl rfl)) (zby (L:=(.row 3 1 v27 n28 cs29::L)) S75 (a0:=r33.2) (h41.mono i76) v69 [0,(wr (a1 + 1)),(-9223372036854775808)] (h77.mono upI) hr80) ?_
    rintro e w82 ⟨H81,v85,rfl,⟨S83,i84⟩,h86⟩
    refine ⟨_,rfl,?_⟩
    have S83:St H0 w0 H81 w82 (.box b0 63 [v85,Value.int .i64 r79.2.at_,Value.int .u64 r79.2.seed]::.row 3 1 v27 n28 cs29::L):=S83
    obtain ⟨x93,hx94,hp⟩:=bnd hp
    obtain ⟨p87,cs88,pt89,l90,at91,rel92⟩:=S83.row_at (i:=1) rfl els30 (by decide) hx94
    obtain rfl:=zam rel92
    refine FL.v (E.indexAddr te34 rfl rfl pt89) ?_
    obtain ⟨xs98,hput99,hp⟩:=bnd hp
    obtain ⟨w95,csA1,run96,S97,elsA0,ceA2⟩:=S83.putEls (P:=Tryz.prog) (t:=3) (i:=1) rfl (els30.mono (zag ((i39.tr i76).tr i84))) hput99 pt89 Tryz.sizeOf3 (u:=Value.int .i64 r79.1) (c:=[Value.int .i64 r79.1]) rfl rfl (zac rfl zad) rfl
    have S97:St H0 w0 H81 w95 (.box b0 63 [v85,Value.int .i64 r79.2.at_,Value.int .u64 r79.2.seed]::.row 3 1 v27 n28 csA1::L):=S97
    refine FL.act rfl rfl (E.store rfl rfl run96) ?_
    refine FL.nil (FW.seq (FW.region ?_))
    refine FL.v (E.move (v:=v27) rfl) ?_
    refine FL.v (E.assign (v:=v27) rfl) ?_
    refine FL.nil ?_
    refine FW.ret ?_
    obtain rfl:=Option.some.inj hp
    exact ⟨.inr rfl,res1 rfl rfl ⟨_,_,_,_,_,rfl,⟨(S97.selT (a:=[.box b0 63 [v85,Value.int .i64 r79.2.at_,Value.int .u64 r79.2.seed],.row 3 1 v27 n28 csA1]) (l':=[.row 3 1 v27 n28 csA1,.box b0 63 [v85,Value.int .i64 r79.2.at_,Value.int .u64 r79.2.seed]]) [1,0] (by decide) rfl),(((i26.tr i39).tr i76).tr i84)⟩,elsA0,h86⟩⟩
   ·
    refine FW.condF rfl c68 ?_
    refine FW.skip (FW.seq (FW.region ?_))
    refine FL.v (E.move (v:=v27) rfl) ?_
    refine FL.v (E.assign (v:=v27) rfl) ?_
    refine FL.nil ?_
    refine FW.ret ?_
    obtain rfl:=Option.some.inj hp
    exact ⟨.inr rfl,res1 rfl rfl ⟨_,_,_,_,_,rfl,⟨(S38.selT (a:=[.box b0 63 [v40,Value.int .i64 r33.2.at_,Value.int .u64 r33.2.seed],.row 3 1 v27 n28 cs29]) (l':=[.row 3 1 v27 n28 cs29,.box b0 63 [v40,Value.int .i64 r33.2.at_,Value.int .u64 r33.2.seed]]) [1,0] (by decide) rfl),(i26.tr i39)⟩,(els30.mono (zag i39)),h41⟩⟩
  ·
   refine FW.condF rfl c67 ?_
   refine FW.skip (FW.seq (FW.region ?_))
   refine FL.v (E.move (v:=v27) rfl) ?_
   refine FL.v (E.assign (v:=v27) rfl) ?_
   refine FL.nil ?_
   refine FW.ret ?_
   obtain rfl:=Option.some.inj hp
   exact ⟨.inr rfl,res1 rfl rfl ⟨_,_,_,_,_,rfl,⟨(S38.selT (a:=[.box b0 63 [v40,Value.int .i64 r33.2.at_,Value.int .u64 r33.2.seed],.row 3 1 v27 n28 cs29]) (l':=[.row 3 1 v27 n28 cs29,.box b0 63 [v40,Value.int .i64 r33.2.at_,Value.int .u64 r33.2.seed]]) [1,0] (by decide) rfl),(i26.tr i39)⟩,(els30.mono (zag i39)),h41⟩⟩

@[reducible] def zf0 (H0:GH) (w0:World) (Ha:GH) (L:List MO) (b0:Nat) (r:(Cnf×Int×(List (List Int))×l1Cur)):Ending→World→Prop :=
 fun e w'=>∃ H':GH,∃ v0_1:Value,∃ v2:Value,∃ v0_0r:Value,e=.returned (Value.tuple #[Value.agg #[Value.int .i64 r.1.vars,v0_1],Value.int .i64 r.2.1,v2])∧(St H0 w0 H' w' (.box b0 63 [v0_0r,Value.int .i64 r.2.2.2.at_,Value.int .u64 r.2.2.2.seed]::L)∧Inc Ha H')∧RSl (up w0.heap.size H') (eL eI 1) 1 v0_1 r.1.clauses∧RSl H' (eL eI 1) 1 v2 r.2.2.1∧RSl H' (eN .u8) 1 v0_0r r.2.2.2.code
set_option maxHeartbeats 4000000 in
theorem zf1 {H0 Ha:GH} {w0 wa:World} {L:List MO} {a0:l1Cur} {b0:Nat} {v0_0:Value} (S0:St H0 w0 Ha wa (.box b0 63 [v0_0,Value.int .i64 a0.at_,Value.int .u64 a0.seed]::L)) (p0_0:RSl Ha (eN .u8) 1 v0_0 a0.code) {r:(Cnf×Int×(List (List Int))×l1Cur)} (hp:(PF.zdS a0)=some r) :
  Calls Tryz.prog 39 #[Value.pointer (some (⟨b0,0,none⟩:Addr))] wa (zf0 H0 w0 Ha L b0 r):=by
 unfold PF.zdS at hp
 refine zae (N:=74) (args:=[Value.pointer (some (⟨b0,0,none⟩:Addr))]) Tryz.func39 rfl rfl rfl ?_
 refine FW.seq (FW.region ?_)
 obtain ⟨b21,w22,run23,S24⟩:=S0.alloc (P:=Tryz.prog) 26 [Value.int .i64 0,Value.slice none 0 0] Tryz.zeroValue26 rfl (zac rfl (zac rfl zad))
 refine FL.v (E.alloc run23) ?_
 refine FL.v (E.assign (v:=Value.int .i64 0) rfl) ?_
 refine FL.v (E.assign (v:=Value.slice none 0 0) rfl) ?_
 refine FL.nil (FW.seq (FW.region ?_))
 refine FL.v (E.move (v:=Value.pointer (some (⟨b0,0,none⟩:Addr))) rfl) ?_
 obtain ⟨r25,hr26,hp⟩:=bnd hp
 have S27:St H0 w0 Ha w22 (.box b0 63 [v0_0,Value.int .i64 a0.at_,Value.int .u64 a0.seed]::.box b21 26 [Value.int .i64 0,Value.slice none 0 0]::L):=S24.front 1 rfl rfl
 refine FL.call rfl rfl rfl (E.call Tryz.call41 (A1 rfl)) (zd0 (L:=(.box b21 26 [Value.int .i64 0,Value.slice none 0 0]::L)) S27 (a0:=a0) p0_0 hr26) ?_
 rintro e w29 ⟨H28,v32,v34,rfl,⟨S30,i31⟩,h33,h35⟩
 refine ⟨_,rfl,?_⟩
 have S30:St H0 w0 H28 w29 (.box b0 63 [v34,Value.int .i64 r25.2.2.at_,Value.int .u64 r25.2.2.seed]::.box b21 26 [Value.int .i64 0,Value.slice none 0 0]::L):=S30
 refine FL.v (E.move (v:=Value.tuple #[Value.agg #[Value.int .i64 r25.1.vars,v32],Value.int .i64 r25.2.1]) rfl) ?_
 refine FL.v (E.extract (i:=0) rfl rfl) ?_
 refine FL.v (E.extract (i:=1) rfl rfl) ?_
 obtain ⟨b36,w37,run38,S39⟩:=S30.alloc (P:=Tryz.prog) 26 [Value.int .i64 0,Value.slice none 0 0] Tryz.zeroValue26 rfl (zac rfl (zac rfl zad))
 refine FL.v (E.alloc run38) ?_
 obtain ⟨w40,run41,S42⟩:=S39.store0 (P:=Tryz.prog) (t:=26) (i:=0) (cs':=[Value.int .i64 r25.1.vars,v32]) (l':=(.box b36 26 [Value.int .i64 r25.1.vars,v32]::.box b0 63 [v34,Value.int .i64 r25.2.2.at_,Value.int .u64 r25.2.2.seed]::.box b21 26 [Value.int .i64 0,Value.slice none 0 0]::L)) (v:=Value.agg #[Value.int .i64 r25.1.vars,v32]) (c:=[Value.int .i64 r25.1.vars,v32]) rfl Tryz.sizeOf26 rfl rfl (zac rfl (zac h33.one zad)) (Nat.le_of_ble_eq_true rfl) rfl rfl
 refine FL.act rfl rfl (E.store rfl rfl run41) ?_
 refine FL.v (E.assign (v:=Value.int .i64 r25.2.1) rfl) ?_
 refine FL.nil (FW.seq (FW.region ?_))
 obtain ⟨v43,w44,run45,S46⟩:=S42.buildSlice (P:=Tryz.prog) te24 [] (parts:=#[]) (cells:=[]) rfl zao zan zad (Nat.le_of_ble_eq_true rfl)
 have els47:Els (up w0.heap.size H28) (eL eI 1) 1 [] []:=Els.nil
 refine FL.v (E.buildSlice (B0) run45) ?_
 refine FL.v (E.assign (v:=v43) rfl) ?_
 refine FL.nil (FW.seq (FW.seq (FW.region ?_)))
 refine FL.v (E.assign (v:=Value.int .i64 0) rfl) ?_
 refine FL.nil ?_
 obtain ⟨q48,hq,hp⟩:=bndR hp
 refine FW.block ?_
 refine FW.mono (FW.iter (S:=(Int×(List (List Int))×(List Int)×Int×Int×Int×(List (List Int))×Int)) (X:=Empty) (fun (s48:(Int×(List (List Int))×(List Int)×Int×Int×Int×(List (List Int))×Int)) f w=>∃ H:GH,∃ vAV:Value,∃ vAX:Value,∃ vAZ:Value,∃ nB0:Nat,∃ csB1:List Value,St H0 w0 H w (.box b36 26 [Value.int .i64 s48.1,vAV]::.box b0 63 [vAX,Value.int .i64 s48.2.2.2.1,Value.int .u64 s48.2.2.2.2.1]::.box b21 26 [Value.int .i64 0,Value.slice none 0 0]::.row 34 1 vAZ nB0 csB1::L)∧Inc H28 H∧RSl (up w0.heap.size H) (eL eI 1) 1 vAV s48.2.1∧RSl H (eN .u8) 1 vAX s48.2.2.1∧Els H (eL eI 1) 1 csB1 s48.2.2.2.2.2.2.1∧f 0=Value.pointer (some (⟨b0,0,none⟩:Addr))∧f 2=Value.pointer (some (⟨b21,0,none⟩:Addr))∧f 5=Value.pointer (some (⟨b36,0,none⟩:Addr))∧f 6=Value.int .i64 s48.2.2.2.2.2.1∧f 7=vAZ∧f 8=Value.int .i64 s48.2.2.2.2.2.2.2) (fun (q:Rs (Int×(List (List Int))×(List Int)×Int×Int×Int×(List (List Int))×Int) Empty) e f w=>match q with|.go s48=>e=Exit.exit 0∧(∃ H:GH,∃ vAV:Value,∃ vAX:Value,∃ vAZ:Value,∃ nB0:Nat,∃ csB1:List Value,St H0 w0 H w (.box b36 26 [Value.int .i64 s48.1,vAV]::.box b0 63 [vAX,Value.int .i64 s48.2.2.2.1,Value.int .u64 s48.2.2.2.2.1]::.box b21 26 [Value.int .i64 0,Value.slice none 0 0]::.row 34 1 vAZ nB0 csB1::L)∧Inc H28 H∧RSl (up w0.heap.size H) (eL eI 1) 1 vAV s48.2.1∧RSl H (eN .u8) 1 vAX s48.2.2.1∧Els H (eL eI 1) 1 csB1 s48.2.2.2.2.2.2.1∧f 0=Value.pointer (some (⟨b0,0,none⟩:Addr))∧f 2=Value.pointer (some (⟨b21,0,none⟩:Addr))∧f 5=Value.pointer (some (⟨b36,0,none⟩:Addr))∧f 6=Value.int .i64 s48.2.2.2.2.2.1∧f 7=vAZ)|.rt x=>x.elim) hq ⟨_,_,_,_,_,_,(S46.selT (a:=[.row 34 1 v43 0 [],.box b36 26 [Value.int .i64 r25.1.vars,v32],.box b0 63 [v34,Value.int .i64 r25.2.2.at_,Value.int .u64 r25.2.2.seed],.box b21 26 [Value.int .i64 0,Value.slice none 0 0]]) (l':=[.box b36 26 [Value.int .i64 r25.1.vars,v32],.box b0 63 [v34,Value.int .i64 r25.2.2.at_,Value.int .u64 r25.2.2.seed],.box b21 26 [Value.int .i64 0,Value.slice none 0 0],.row 34 1 v43 0 []]) [1,2,3,0] (by decide) rfl),(Inc.rfl _),h33,h35,(els47.mono upI),rfl,rfl,rfl,rfl,rfl,rfl⟩ ?_) ?_
 ·
  clear hp hq
  rintro s48 fCW wCV ⟨HCS,vAV,vAX,vAZ,nB0,csB1,SCT,iCU,hAW,hAY,elsB2,kCX,kCY,kCZ,kD0,kD1,kD2⟩ oEH hp
  refine FW.seq (FW.seq (FW.region ?_))
  refine FL.v (E.move kD2) ?_
  refine FL.v (E.lss rfl rfl) ?_
  refine FL.v (E.move (v:=Value.bool (decide (s48.2.2.2.2.2.2.2 < 6))) rfl) ?_
  refine FL.cut 4 (fun f w=>∃ H:GH,St H0 w0 H w (.box b36 26 [Value.int .i64 s48.1,vAV]::.box b0 63 [vAX,Value.int .i64 s48.2.2.2.1,Value.int .u64 s48.2.2.2.2.1]::.box b21 26 [Value.int .i64 0,Value.slice none 0 0]::.row 34 1 vAZ nB0 csB1::L)∧Inc HCS H∧f 0=Value.pointer (some (⟨b0,0,none⟩:Addr))∧f 2=Value.pointer (some (⟨b21,0,none⟩:Addr))∧f 5=Value.pointer (some (⟨b36,0,none⟩:Addr))∧f 6=Value.int .i64 s48.2.2.2.2.2.1∧f 7=vAZ∧f 8=Value.int .i64 s48.2.2.2.2.2.2.2∧f 21=Value.bool (bif (decide (s48.2.2.2.2.2.2.2 < 6)) then ((len s48.2.2.2.2.2.2.1) == 0) else false)) ?_ ?_
  ·
   rcases bcase (decide (s48.2.2.2.2.2.2.2 < 6)) with cD9|cD9
   ·
    refine FL.val (zab rfl rfl rfl cD9) rfl rfl (E.move kD1) ?_
    refine FL.val (zab rfl rfl rfl cD9) rfl rfl (E.lenO te24 rfl SCT (i:=3) rfl elsB2 (by decide)) ?_
    refine FL.val (zab rfl rfl rfl cD9) rfl rfl (E.eql rfl rfl) ?_
    refine FL.v (E.pickT rfl cD9 rfl) ?_
    exact FL.nil ⟨rfl,_,SCT,(Inc.rfl _),kCX,kCY,kCZ,kD0,kD1,kD2,(congrArg Value.bool (bifT cD9).symm)⟩
   ·
    refine FL.skip (wF_no rfl rfl rfl cD9) rfl ?_
    refine FL.skip (wF_no rfl rfl rfl cD9) rfl ?_
    refine FL.skip (wF_no rfl rfl rfl cD9) rfl ?_
    refine FL.v (E.pickF rfl cD9 rfl) ?_
    exact FL.nil ⟨rfl,_,SCT,(Inc.rfl _),kCX,kCY,kCZ,kD0,kD1,kD2,(congrArg Value.bool (bifF cD9).symm)⟩
  rintro fD8 wD7 ⟨HD4,SD5,iD6,kDa,kDb,kDc,kDd,kDe,kDf,kDg⟩
  refine FL.nil ?_
  rcases ifB hp with ⟨cDh,hp⟩|⟨cDh,hp⟩
  ·
   refine FW.condT kDg cDh ?_
   refine FW.skip (FW.seq (FW.block (FW.seq (FW.seq (FW.region ?_)))))
   refine FL.v (E.load kDc (zai Tryz.isAgg26 Tryz.sizeOf26 (SD5.box_now (i:=0) rfl) rfl)) ?_
   refine FL.v (E.move kDd) ?_
   obtain ⟨rDi,hrDj,hp⟩:=bnd hp
   refine FL.call rfl rfl rfl (E.call Tryz.call26 (A2 rfl rfl)) (zc0 SD5.sl (Cnf.mk s48.1 s48.2.1) vAV (hAW.mono (upI.tr iD6)) s48.2.2.2.2.2.1 hrDj) ?_
   rintro e wDk ⟨rfl,rDl⟩
   refine ⟨_,rfl,?_⟩
   have SDm:=SD5.call rDl
   refine FL.nil ?_
   rcases ifB hp with ⟨cDn,hp⟩|⟨cDn,hp⟩
   ·
    refine FW.condT rfl cDn ?_
    refine FW.region ?_
    refine FL.v (E.load kDc (zai Tryz.isAgg26 Tryz.sizeOf26 (SDm.box_now (i:=0) rfl) rfl)) ?_
    refine FL.v (E.move kDd) ?_
    obtain ⟨rDo,hrDp,hp⟩:=bnd hp
    refine FL.call rfl rfl rfl (E.call Tryz.call28 (A2 rfl rfl)) (zd4 SDm.sl (Cnf.mk s48.1 s48.2.1) vAV (hAW.mono (upI.tr iD6)) s48.2.2.2.2.2.1 hrDp) ?_
    rintro e wDr ⟨HDq,vDu,vDw,vDz,vDC,rfl,rDt,hDv,hDx,hDA,hDD,bk326⟩
    refine ⟨_,rfl,?_⟩
    have nvDy:New HD4 [vDw]:=New.of_up SDm.sl hDx.dom
    have hDx:=hDx.mono (up_le SDm.size)
    have nvDB:New HD4 [vDz]:=New.of_up SDm.sl hDA.dom
    have hDA:=hDA.mono (up_le SDm.size)
    have SDs:=SDm.call rDt
    obtain ⟨HDF,nDG,csDH,SDI,iDJ,elsDK⟩:=SDs.opened SDm rDt.inc bk326
    refine FL.v (E.field (fd49_3 rfl) rfl) ?_
    refine FL.v (E.assign (v:=vDC) rfl) ?_
    refine FL.nil (FW.seq (FW.region ?_))
    refine FL.v (E.move (v:=vDC) rfl) ?_
    refine FL.v (E.lenO te24 rfl SDI (i:=0) rfl elsDK (by decide)) ?_
    refine FL.v (E.eql rfl rfl) ?_
    refine FL.v (E.move (v:=Value.bool ((len rDo.left) == 0)) rfl) ?_
    refine FL.cut 3 (fun f w=>∃ H:GH,St H0 w0 H w (.row 34 1 vDC nDG csDH::.box b36 26 [Value.int .i64 s48.1,vAV]::.box b0 63 [vAX,Value.int .i64 s48.2.2.2.1,Value.int .u64 s48.2.2.2.2.1]::.box b21 26 [Value.int .i64 0,Value.slice none 0 0]::.row 34 1 vAZ nB0 csB1::L)∧Inc HDF H∧f 0=Value.pointer (some (⟨b0,0,none⟩:Addr))∧f 2=Value.pointer (some (⟨b21,0,none⟩:Addr))∧f 5=Value.pointer (some (⟨b36,0,none⟩:Addr))∧f 6=Value.int .i64 s48.2.2.2.2.2.1∧f 7=vDC∧f 8=Value.int .i64 s48.2.2.2.2.2.2.2∧f 37=Value.bool (bif ((len rDo.left) == 0) then (decide (s48.2.2.2.2.2.2.2 < 5)) else false)) ?_ ?_
    ·
     rcases bcase ((len rDo.left) == 0) with cDR|cDR
     ·
      refine FL.val (zab rfl rfl rfl cDR) rfl rfl (E.move kDf) ?_
      refine FL.val (zab rfl rfl rfl cDR) rfl rfl (E.lss rfl rfl) ?_
      refine FL.v (E.pickT rfl cDR rfl) ?_
      exact FL.nil ⟨rfl,_,SDI,(Inc.rfl _),kDa,kDb,kDc,kDd,rfl,kDf,(congrArg Value.bool (bifT cDR).symm)⟩
     ·
      refine FL.skip (wF_no rfl rfl rfl cDR) rfl ?_
      refine FL.skip (wF_no rfl rfl rfl cDR) rfl ?_
      refine FL.v (E.pickF rfl cDR rfl) ?_
      exact FL.nil ⟨rfl,_,SDI,(Inc.rfl _),kDa,kDb,kDc,kDd,rfl,kDf,(congrArg Value.bool (bifF cDR).symm)⟩
    rintro fDQ wDP ⟨HDM,SDN,iDO,kDS,kDT,kDU,kDV,kDW,kDX,kDY⟩
    refine FL.nil ?_
    rcases ifB hp with ⟨cDZ,hp⟩|⟨cDZ,hp⟩
    ·
     refine FW.condT kDY cDZ ?_
     refine FW.region ?_
     refine FL.v (E.move kDS) ?_
     obtain ⟨rE0,hrE1,hp⟩:=bnd hp
     have SE2:St H0 w0 HDM wDP (.box b0 63 [vAX,Value.int .i64 s48.2.2.2.1,Value.int .u64 s48.2.2.2.2.1]::.row 34 1 vDC nDG csDH::.box b36 26 [Value.int .i64 s48.1,vAV]::.box b21 26 [Value.int .i64 0,Value.slice none 0 0]::.row 34 1 vAZ nB0 csB1::L):=SDN.front 2 rfl rfl
     refine FL.call rfl rfl rfl (E.call Tryz.call41 (A1 rfl)) (zd0 (L:=(.row 34 1 vDC nDG csDH::.box b36 26 [Value.int .i64 s48.1,vAV]::.box b21 26 [Value.int .i64 0,Value.slice none 0 0]::.row 34 1 vAZ nB0 csB1::L)) SE2 (a0:=(l1Cur.mk s48.2.2.1 s48.2.2.2.1 s48.2.2.2.2.1)) (hAY.mono ((iD6.tr iDJ).tr iDO)) hrE1) ?_
     rintro e wE4 ⟨HE3,vE7,vE9,rfl,⟨SE5,iE6⟩,hE8,hEa⟩
     refine ⟨_,rfl,?_⟩
     have SE5:St H0 w0 HE3 wE4 (.box b0 63 [vE9,Value.int .i64 rE0.2.2.at_,Value.int .u64 rE0.2.2.seed]::.row 34 1 vDC nDG csDH::.box b36 26 [Value.int .i64 s48.1,vAV]::.box b21 26 [Value.int .i64 0,Value.slice none 0 0]::.row 34 1 vAZ nB0 csB1::L):=SE5
     refine FL.v (E.move (v:=Value.tuple #[Value.agg #[Value.int .i64 rE0.1.vars,vE7],Value.int .i64 rE0.2.1]) rfl) ?_
     refine FL.v (E.extract (i:=0) rfl rfl) ?_
     refine FL.v (E.extract (i:=1) rfl rfl) ?_
     obtain ⟨wEb,runEc,SEd⟩:=SE5.store0 (P:=Tryz.prog) (t:=26) (i:=2) (cs':=[Value.int .i64 rE0.1.vars,vE7]) (l':=(.box b0 63 [vE9,Value.int .i64 rE0.2.2.at_,Value.int .u64 rE0.2.2.seed]::.row 34 1 vDC nDG csDH::.box b36 26 [Value.int .i64 rE0.1.vars,vE7]::.box b21 26 [Value.int .i64 0,Value.slice none 0 0]::.row 34 1 vAZ nB0 csB1::L)) (v:=Value.agg #[Value.int .i64 rE0.1.vars,vE7]) (c:=[Value.int .i64 rE0.1.vars,vE7]) rfl Tryz.sizeOf26 rfl rfl (zac rfl (zac hE8.one zad)) (Nat.le_of_ble_eq_true rfl) rfl rfl
     refine FL.act rfl rfl (E.store kDU rfl runEc) ?_
     refine FL.v (E.assign (v:=Value.int .i64 rE0.2.1) rfl) ?_
     refine FL.nil (FW.region ?_)
     refine FL.v (E.move kDX) ?_
     refine FL.v (E.add rfl rfl) ?_
     refine FL.v (E.assign (v:=Value.int .i64 (wr (s48.2.2.2.2.2.2.2 + 1))) rfl) ?_
     refine FL.nil ?_
     obtain rfl:=Option.some.inj hp
     exact ⟨rfl,⟨_,_,_,_,_,_,(SEd.selT (a:=[.box b0 63 [vE9,Value.int .i64 rE0.2.2.at_,Value.int .u64 rE0.2.2.seed],.row 34 1 vDC nDG csDH,.box b36 26 [Value.int .i64 rE0.1.vars,vE7],.box b21 26 [Value.int .i64 0,Value.slice none 0 0],.row 34 1 vAZ nB0 csB1]) (l':=[.box b36 26 [Value.int .i64 rE0.1.vars,vE7],.box b0 63 [vE9,Value.int .i64 rE0.2.2.at_,Value.int .u64 rE0.2.2.seed],.box b21 26 [Value.int .i64 0,Value.slice none 0 0],.row 34 1 vDC nDG csDH]) [2,0,3,1] (by decide) rfl),((((iCU.tr iD6).tr iDJ).tr iDO).tr iE6),hE8,hEa,(elsDK.mono (iDO.tr iE6)),kDS,kDT,kDU,rfl,kDW,rfl⟩⟩
    ·
     refine FW.condF kDY cDZ ?_
     refine FW.skip (FW.region ?_)
     refine FL.v (E.move kDX) ?_
     refine FL.v (E.add rfl rfl) ?_
     refine FL.v (E.assign (v:=Value.int .i64 (wr (s48.2.2.2.2.2.2.2 + 1))) rfl) ?_
     refine FL.nil ?_
     obtain rfl:=Option.some.inj hp
     exact ⟨rfl,⟨_,_,_,_,_,_,(SDN.selT (a:=[.row 34 1 vDC nDG csDH,.box b36 26 [Value.int .i64 s48.1,vAV],.box b0 63 [vAX,Value.int .i64 s48.2.2.2.1,Value.int .u64 s48.2.2.2.2.1],.box b21 26 [Value.int .i64 0,Value.slice none 0 0],.row 34 1 vAZ nB0 csB1]) (l':=[.box b36 26 [Value.int .i64 s48.1,vAV],.box b0 63 [vAX,Value.int .i64 s48.2.2.2.1,Value.int .u64 s48.2.2.2.2.1],.box b21 26 [Value.int .i64 0,Value.slice none 0 0],.row 34 1 vDC nDG csDH]) [1,2,3,0] (by decide) rfl),(((iCU.tr iD6).tr iDJ).tr iDO),(hAW.mono (zag ((iD6.tr iDJ).tr iDO))),(hAY.mono ((iD6.tr iDJ).tr iDO)),(elsDK.mono iDO),kDS,kDT,kDU,kDV,kDW,rfl⟩⟩
   ·
    refine FW.condF rfl cDn ?_
    refine FW.skip (FW.seq (FW.region ?_))
    refine FL.v (E.move kDe) ?_
    refine FL.v (E.lenO te24 rfl SDm (i:=3) rfl elsB2 (by decide)) ?_
    refine FL.v (E.eql rfl rfl) ?_
    refine FL.v (E.move (v:=Value.bool ((len s48.2.2.2.2.2.2.1) == 0)) rfl) ?_
    refine FL.cut 3 (fun f w=>∃ H:GH,St H0 w0 H w (.box b36 26 [Value.int .i64 s48.1,vAV]::.box b0 63 [vAX,Value.int .i64 s48.2.2.2.1,Value.int .u64 s48.2.2.2.2.1]::.box b21 26 [Value.int .i64 0,Value.slice none 0 0]::.row 34 1 vAZ nB0 csB1::L)∧Inc HD4 H∧f 0=Value.pointer (some (⟨b0,0,none⟩:Addr))∧f 2=Value.pointer (some (⟨b21,0,none⟩:Addr))∧f 5=Value.pointer (some (⟨b36,0,none⟩:Addr))∧f 6=Value.int .i64 s48.2.2.2.2.2.1∧f 7=vAZ∧f 8=Value.int .i64 s48.2.2.2.2.2.2.2∧f 37=Value.bool (bif ((len s48.2.2.2.2.2.2.1) == 0) then (decide (s48.2.2.2.2.2.2.2 < 5)) else false)) ?_ ?_
    ·
     rcases bcase ((len s48.2.2.2.2.2.2.1) == 0) with cEk|cEk
     ·
      refine FL.val (zab rfl rfl rfl cEk) rfl rfl (E.move kDf) ?_
      refine FL.val (zab rfl rfl rfl cEk) rfl rfl (E.lss rfl rfl) ?_
      refine FL.v (E.pickT rfl cEk rfl) ?_
      exact FL.nil ⟨rfl,_,SDm,(Inc.rfl _),kDa,kDb,kDc,kDd,kDe,kDf,(congrArg Value.bool (bifT cEk).symm)⟩
     ·
      refine FL.skip (wF_no rfl rfl rfl cEk) rfl ?_
      refine FL.skip (wF_no rfl rfl rfl cEk) rfl ?_
      refine FL.v (E.pickF rfl cEk rfl) ?_
      exact FL.nil ⟨rfl,_,SDm,(Inc.rfl _),kDa,kDb,kDc,kDd,kDe,kDf,(congrArg Value.bool (bifF cEk).symm)⟩
    rintro fEj wEi ⟨HEf,SEg,iEh,kEl,kEm,kEn,kEo,kEp,kEq,kEr⟩
    refine FL.nil ?_
    rcases ifB hp with ⟨cEs,hp⟩|⟨cEs,hp⟩
    ·
     refine FW.condT kEr cEs ?_
     refine FW.region ?_
     refine FL.v (E.move kEl) ?_
     obtain ⟨rEt,hrEu,hp⟩:=bnd hp
     have SEv:St H0 w0 HEf wEi (.box b0 63 [vAX,Value.int .i64 s48.2.2.2.1,Value.int .u64 s48.2.2.2.2.1]::.box b36 26 [Value.int .i64 s48.1,vAV]::.box b21 26 [Value.int .i64 0,Value.slice none 0 0]::.row 34 1 vAZ nB0 csB1::L):=SEg.front 1 rfl rfl
     refine FL.call rfl rfl rfl (E.call Tryz.call41 (A1 rfl)) (zd0 (L:=(.box b36 26 [Value.int .i64 s48.1,vAV]::.box b21 26 [Value.int .i64 0,Value.slice none 0 0]::.row 34 1 vAZ nB0 csB1::L)) SEv (a0:=(l1Cur.mk s48.2.2.1 s48.2.2.2.1 s48.2.2.2.2.1)) (hAY.mono (iD6.tr iEh)) hrEu) ?_
     rintro e wEx ⟨HEw,vEA,vEC,rfl,⟨SEy,iEz⟩,hEB,hED⟩
     refine ⟨_,rfl,?_⟩
     have SEy:St H0 w0 HEw wEx (.box b0 63 [vEC,Value.int .i64 rEt.2.2.at_,Value.int .u64 rEt.2.2.seed]::.box b36 26 [Value.int .i64 s48.1,vAV]::.box b21 26 [Value.int .i64 0,Value.slice none 0 0]::.row 34 1 vAZ nB0 csB1::L):=SEy
     refine FL.v (E.move (v:=Value.tuple #[Value.agg #[Value.int .i64 rEt.1.vars,vEA],Value.int .i64 rEt.2.1]) rfl) ?_
     refine FL.v (E.extract (i:=0) rfl rfl) ?_
     refine FL.v (E.extract (i:=1) rfl rfl) ?_
     obtain ⟨wEE,runEF,SEG⟩:=SEy.store0 (P:=Tryz.prog) (t:=26) (i:=1) (cs':=[Value.int .i64 rEt.1.vars,vEA]) (l':=(.box b0 63 [vEC,Value.int .i64 rEt.2.2.at_,Value.int .u64 rEt.2.2.seed]::.box b36 26 [Value.int .i64 rEt.1.vars,vEA]::.box b21 26 [Value.int .i64 0,Value.slice none 0 0]::.row 34 1 vAZ nB0 csB1::L)) (v:=Value.agg #[Value.int .i64 rEt.1.vars,vEA]) (c:=[Value.int .i64 rEt.1.vars,vEA]) rfl Tryz.sizeOf26 rfl rfl (zac rfl (zac hEB.one zad)) (Nat.le_of_ble_eq_true rfl) rfl rfl
     refine FL.act rfl rfl (E.store kEn rfl runEF) ?_
     refine FL.v (E.assign (v:=Value.int .i64 rEt.2.1) rfl) ?_
     refine FL.nil (FW.region ?_)
     refine FL.v (E.move kEq) ?_
     refine FL.v (E.add rfl rfl) ?_
     refine FL.v (E.assign (v:=Value.int .i64 (wr (s48.2.2.2.2.2.2.2 + 1))) rfl) ?_
     refine FL.nil ?_
     obtain rfl:=Option.some.inj hp
     exact ⟨rfl,⟨_,_,_,_,_,_,(SEG.selT (a:=[.box b0 63 [vEC,Value.int .i64 rEt.2.2.at_,Value.int .u64 rEt.2.2.seed],.box b36 26 [Value.int .i64 rEt.1.vars,vEA],.box b21 26 [Value.int .i64 0,Value.slice none 0 0],.row 34 1 vAZ nB0 csB1]) (l':=[.box b36 26 [Value.int .i64 rEt.1.vars,vEA],.box b0 63 [vEC,Value.int .i64 rEt.2.2.at_,Value.int .u64 rEt.2.2.seed],.box b21 26 [Value.int .i64 0,Value.slice none 0 0],.row 34 1 vAZ nB0 csB1]) [1,0,2,3] (by decide) rfl),(((iCU.tr iD6).tr iEh).tr iEz),hEB,hED,(elsB2.mono ((iD6.tr iEh).tr iEz)),kEl,kEm,kEn,rfl,kEp,rfl⟩⟩
    ·
     refine FW.condF kEr cEs ?_
     refine FW.skip (FW.region ?_)
     refine FL.v (E.move kEq) ?_
     refine FL.v (E.add rfl rfl) ?_
     refine FL.v (E.assign (v:=Value.int .i64 (wr (s48.2.2.2.2.2.2.2 + 1))) rfl) ?_
     refine FL.nil ?_
     obtain rfl:=Option.some.inj hp
     exact ⟨rfl,⟨_,_,_,_,_,_,SEg,((iCU.tr iD6).tr iEh),(hAW.mono (zag (iD6.tr iEh))),(hAY.mono (iD6.tr iEh)),(elsB2.mono (iD6.tr iEh)),kEl,kEm,kEn,kEo,kEp,rfl⟩⟩
  ·
   refine FW.condF kDg cDh ?_
   refine FW.exit ?_
   obtain rfl:=Option.some.inj hp
   exact ⟨nofun,rfl,⟨_,_,_,_,_,_,SD5,(iCU.tr iD6),(hAW.mono (zag iD6)),(hAY.mono iD6),(elsB2.mono iD6),kDa,kDb,kDc,kDd,kDe⟩⟩
 ·
  clear hq
  intro e fEM wEL hD
  rcases q48 with s48|x48
  ·
   obtain ⟨rfl,hD⟩:=hD
   obtain ⟨HEI,vAV,vAX,vAZ,nB0,csB1,SEJ,iEK,hAW,hAY,elsB2,kEN,kEO,kEP,kEQ,kER⟩:=hD
   replace hp:=el_go hp
   refine FW.seq (FW.seq (FW.region ?_))
   refine FL.v (E.move kEN) ?_
   obtain ⟨rES,hrET,hp⟩:=bnd hp
   have SEU:St H0 w0 HEI wEL (.box b0 63 [vAX,Value.int .i64 s48.2.2.2.1,Value.int .u64 s48.2.2.2.2.1]::.box b36 26 [Value.int .i64 s48.1,vAV]::.box b21 26 [Value.int .i64 0,Value.slice none 0 0]::.row 34 1 vAZ nB0 csB1::L):=SEJ.front 1 rfl rfl
   refine FL.call rfl rfl rfl (E.call Tryz.call74 (A2 rfl rfl)) (zaR (L:=(.box b36 26 [Value.int .i64 s48.1,vAV]::.box b21 26 [Value.int .i64 0,Value.slice none 0 0]::.row 34 1 vAZ nB0 csB1::L)) SEU (a0:=(l1Cur.mk s48.2.2.1 s48.2.2.2.1 s48.2.2.2.2.1)) hAY 20 hrET) ?_
   rintro e wEW ⟨HEV,vEZ,rfl,⟨SEX,iEY⟩,hF0⟩
   refine ⟨_,rfl,?_⟩
   have SEX:St H0 w0 HEV wEW (.box b0 63 [vEZ,Value.int .i64 rES.2.at_,Value.int .u64 rES.2.seed]::.box b36 26 [Value.int .i64 s48.1,vAV]::.box b21 26 [Value.int .i64 0,Value.slice none 0 0]::.row 34 1 vAZ nB0 csB1::L):=SEX
   refine FL.nil (FW.block (FW.seq (FW.region ?_)))
   refine FL.v (E.eql rfl rfl) ?_
   refine FL.v (E.assign (v:=Value.bool (rES.1 == 0)) rfl) ?_
   refine FL.nil ?_
   rcases ifB hp with ⟨cF1,hp⟩|⟨cF1,hp⟩
   ·
    refine FW.condT rfl cF1 ?_
    refine FW.seq (FW.region ?_)
    refine FL.v (E.move kER) ?_
    refine FL.v (E.lenO te24 rfl SEX (i:=3) rfl elsB2 (by decide)) ?_
    refine FL.v (E.gtr rfl rfl) ?_
    refine FL.nil ?_
    rcases ifB hp with ⟨cF2,hp⟩|⟨cF2,hp⟩
    ·
     refine FW.condT rfl cF2 ?_
     refine FW.region ?_
     refine FL.v (E.move kER) ?_
     obtain ⟨xsF3,hcF4,hp⟩:=bnd hp
     obtain ⟨vF5,nF6,csF7,runF8,SF9,elsFa⟩:=(SEX.toQ 3).cutTailQ te24 (kk:=.i64) (i:=3) rfl elsB2 hcF4
     have SF9:St H0 w0 HEV wEW (.box b0 63 [vEZ,Value.int .i64 rES.2.at_,Value.int .u64 rES.2.seed]::.box b36 26 [Value.int .i64 s48.1,vAV]::.box b21 26 [Value.int .i64 0,Value.slice none 0 0]::.rowo 34 1 vF5 nF6 csF7::L):=SF9
     refine FL.v (E.slice te24 rfl (congrArg some rfl) rfl rfl (runF8 _)) ?_
     refine FL.v (E.assign (v:=vF5) rfl) ?_
     refine FL.nil (FW.seq (FW.region ?_))
     refine FL.v (E.load kEP (zai Tryz.isAgg26 Tryz.sizeOf26 (SF9.box_now (i:=1) rfl) rfl)) ?_
     refine FL.v (E.move kEQ) ?_
     refine FL.v (E.move (v:=vF5) rfl) ?_
     obtain ⟨wFb,runFc,SFd⟩:=SF9.store0 (P:=Tryz.prog) (t:=26) (i:=2) (cs':=[Value.int .i64 s48.1,vAV]) (l':=(.box b0 63 [vEZ,Value.int .i64 rES.2.at_,Value.int .u64 rES.2.seed]::.box b36 26 [Value.int .i64 s48.1,vAV]::.box b21 26 [Value.int .i64 s48.1,vAV]::.rowo 34 1 vF5 nF6 csF7::L)) (v:=Value.agg #[Value.int .i64 s48.1,vAV]) (c:=[Value.int .i64 s48.1,vAV]) rfl Tryz.sizeOf26 rfl rfl (zac rfl (zac hAW.one zad)) (Nat.le_of_ble_eq_true rfl) rfl rfl
     refine FL.act rfl rfl (E.store kEO rfl runFc) ?_
     obtain ⟨HFe,SFf,iFg,atFh⟩:=SFd.sealBox (i:=2) (l':=(.box b0 63 [vEZ,Value.int .i64 rES.2.at_,Value.int .u64 rES.2.seed]::.box b36 26 [Value.int .i64 s48.1,vAV]::.rowo 34 1 vF5 nF6 csF7::L)) rfl rfl
     refine FL.v (E.assign (v:=Value.int .i64 s48.2.2.2.2.2.1) rfl) ?_
     refine FL.v (E.assign (v:=vF5) rfl) ?_
     refine FL.nil ?_
     refine FW.ret ?_
     obtain ⟨HFi,SFj,iFk,hFl⟩:=SFf.sealRowQ (i:=2) (l':=(.box b0 63 [vEZ,Value.int .i64 rES.2.at_,Value.int .u64 rES.2.seed]::.box b36 26 [Value.int .i64 s48.1,vAV]::L)) rfl (elsFa.mono (iEY.tr iFg)) (by decide) rfl
     obtain rfl:=Option.some.inj hp
     exact ⟨.inr rfl,zbR rfl kEO (zaB Tryz.isAgg26 Tryz.sizeOf26 ((atFh.mono iFk).now SFj.sl) rfl) rfl rfl ⟨_,_,_,_,rfl,⟨(SFj.selT (a:=[.box b0 63 [vEZ,Value.int .i64 rES.2.at_,Value.int .u64 rES.2.seed],.box b36 26 [Value.int .i64 s48.1,vAV]]) (l':=[.box b0 63 [vEZ,Value.int .i64 rES.2.at_,Value.int .u64 rES.2.seed]]) [0] (by decide) rfl),((((i31.tr iEK).tr iEY).tr iFg).tr iFk)⟩,(hAW.mono (zag ((iEY.tr iFg).tr iFk))),hFl,(hF0.mono (iFg.tr iFk))⟩⟩
    ·
     refine FW.condF rfl cF2 ?_
     refine FW.skip (FW.seq (FW.region ?_))
     refine FL.v (E.load kEP (zai Tryz.isAgg26 Tryz.sizeOf26 (SEX.box_now (i:=1) rfl) rfl)) ?_
     refine FL.v (E.move kEQ) ?_
     refine FL.v (E.move kER) ?_
     obtain ⟨wFn,runFo,SFp⟩:=SEX.store0 (P:=Tryz.prog) (t:=26) (i:=2) (cs':=[Value.int .i64 s48.1,vAV]) (l':=(.box b0 63 [vEZ,Value.int .i64 rES.2.at_,Value.int .u64 rES.2.seed]::.box b36 26 [Value.int .i64 s48.1,vAV]::.box b21 26 [Value.int .i64 s48.1,vAV]::.row 34 1 vAZ nB0 csB1::L)) (v:=Value.agg #[Value.int .i64 s48.1,vAV]) (c:=[Value.int .i64 s48.1,vAV]) rfl Tryz.sizeOf26 rfl rfl (zac rfl (zac hAW.one zad)) (Nat.le_of_ble_eq_true rfl) rfl rfl
     refine FL.act rfl rfl (E.store kEO rfl runFo) ?_
     obtain ⟨HFq,SFr,iFs,atFt⟩:=SFp.sealBox (i:=2) (l':=(.box b0 63 [vEZ,Value.int .i64 rES.2.at_,Value.int .u64 rES.2.seed]::.box b36 26 [Value.int .i64 s48.1,vAV]::.row 34 1 vAZ nB0 csB1::L)) rfl rfl
     refine FL.v (E.assign (v:=Value.int .i64 s48.2.2.2.2.2.1) rfl) ?_
     refine FL.v (E.assign (v:=vAZ) rfl) ?_
     refine FL.nil ?_
     refine FW.ret ?_
     obtain ⟨HFu,SFv,iFw,hFx⟩:=SFr.sealRow (i:=2) (l':=(.box b0 63 [vEZ,Value.int .i64 rES.2.at_,Value.int .u64 rES.2.seed]::.box b36 26 [Value.int .i64 s48.1,vAV]::L)) rfl (elsB2.mono (iEY.tr iFs)) (by decide) rfl
     obtain rfl:=Option.some.inj hp
     exact ⟨.inr rfl,zbR rfl kEO (zaB Tryz.isAgg26 Tryz.sizeOf26 ((atFt.mono iFw).now SFv.sl) rfl) rfl rfl ⟨_,_,_,_,rfl,⟨(SFv.selT (a:=[.box b0 63 [vEZ,Value.int .i64 rES.2.at_,Value.int .u64 rES.2.seed],.box b36 26 [Value.int .i64 s48.1,vAV]]) (l':=[.box b0 63 [vEZ,Value.int .i64 rES.2.at_,Value.int .u64 rES.2.seed]]) [0] (by decide) rfl),((((i31.tr iEK).tr iEY).tr iFs).tr iFw)⟩,(hAW.mono (zag ((iEY.tr iFs).tr iFw))),hFx,(hF0.mono (iFs.tr iFw))⟩⟩
   ·
    refine FW.condF rfl cF1 ?_
    refine FW.seq (FW.region ?_)
    refine FL.v (E.eql rfl rfl) ?_
    refine FL.v (E.assign (v:=Value.bool (rES.1 == 1)) rfl) ?_
    refine FL.nil ?_
    rcases ifB hp with ⟨cFz,hp⟩|⟨cFz,hp⟩
    ·
     refine FW.condT rfl cFz ?_
     refine FW.region ?_
     refine FL.v (E.move kER) ?_
     refine FL.v (E.move kEN) ?_
     refine FL.v (E.fieldAddr zaC kEP) ?_
     refine FL.v (E.load rfl (zah Tryz.isAgg3 (SEX.box_now (i:=1) rfl) rfl)) ?_
     obtain ⟨rFA,hrFB,hp⟩:=bnd hp
     refine FL.call rfl rfl rfl (E.call Tryz.call75 (A2 rfl rfl)) (zfZ (L:=(.box b36 26 [Value.int .i64 s48.1,vAV]::.box b21 26 [Value.int .i64 0,Value.slice none 0 0]::.row 34 1 vAZ nB0 csB1::L)) SEX (a0:=rES.2) hF0 s48.1 hrFB) ?_
     rintro e wFD ⟨HFC,vFG,nFH,csFI,vFK,rfl,⟨SFE,iFF⟩,elsFJ,hFL⟩
     refine ⟨_,rfl,?_⟩
     have SFE:St H0 w0 HFC wFD (.row 3 1 vFG nFH csFI::.box b0 63 [vFK,Value.int .i64 rFA.2.at_,Value.int .u64 rFA.2.seed]::.box b36 26 [Value.int .i64 s48.1,vAV]::.box b21 26 [Value.int .i64 0,Value.slice none 0 0]::.row 34 1 vAZ nB0 csB1::L):=SFE
     obtain ⟨HFM,SFN,iFO,hFP,nvFQ⟩:=SFE.sealRowU (i:=0) (l':=(.box b0 63 [vFK,Value.int .i64 rFA.2.at_,Value.int .u64 rFA.2.seed]::.box b36 26 [Value.int .i64 s48.1,vAV]::.box b21 26 [Value.int .i64 0,Value.slice none 0 0]::.row 34 1 vAZ nB0 csB1::L)) rfl elsFJ (by decide) rfl
     obtain ⟨vFR,wFS,runFT,SFU⟩:=SFN.buildSlice (P:=Tryz.prog) te24 [vFG] (parts:=#[(0,vFG)]) (cells:=[vFG]) rfl (zat (zaH hFP.cells) zao) (zas hFP.cells zan) (zac hFP.one zad) (Nat.le_of_ble_eq_true rfl)
     have elsFV:Els (up w0.heap.size HFM) (eL eI 1) 1 [vFG] [rFA.1]:=(Els.snoc (H:=(up w0.heap.size HFM)) (E:=(eL eI 1)) (k:=1) (c:=[vFG]) (x:=rFA.1) Els.nil rfl ⟨_,rfl,hFP⟩)
     have ndFW:(bl [vFG]).Nodup:=by exact za5 vFG
     refine FL.v (E.buildSlice (B1 rfl) runFT) ?_
     obtain ⟨xsFX,hzFY,hp⟩:=bnd hp
     obtain ⟨vFZ,wG2,nG0,csG1,runG3,SG4,elsG5,ceG6⟩:=SFU.appendO (P:=Tryz.prog) te24 (i:=4) (j:=0) rfl (elsB2.mono ((iEY.tr iFF).tr iFO)) rfl (elsFV.mono upI) hzFY
     have SG4:St H0 w0 HFM wG2 (.row 34 1 vFR 1 [vFG]::.box b0 63 [vFK,Value.int .i64 rFA.2.at_,Value.int .u64 rFA.2.seed]::.box b36 26 [Value.int .i64 s48.1,vAV]::.box b21 26 [Value.int .i64 0,Value.slice none 0 0]::.row 34 1 vFZ nG0 csG1::L):=SG4
     have SG7:St H0 w0 HFM wG2 (.box b0 63 [vFK,Value.int .i64 rFA.2.at_,Value.int .u64 rFA.2.seed]::.box b36 26 [Value.int .i64 s48.1,vAV]::.box b21 26 [Value.int .i64 0,Value.slice none 0 0]::.row 34 1 vFZ nG0 csG1::L):=SG4.drop 0
     refine FL.v (E.append rfl rfl runG3) ?_
     refine FL.v (E.assign (v:=vFZ) rfl) ?_
     refine FL.nil (FW.seq (FW.region ?_))
     refine FL.v (E.load kEP (zai Tryz.isAgg26 Tryz.sizeOf26 (SG7.box_now (i:=1) rfl) rfl)) ?_
     refine FL.v (E.move kEQ) ?_
     refine FL.v (E.move (v:=vFZ) rfl) ?_
     obtain ⟨wG8,runG9,SGa⟩:=SG7.store0 (P:=Tryz.prog) (t:=26) (i:=2) (cs':=[Value.int .i64 s48.1,vAV]) (l':=(.box b0 63 [vFK,Value.int .i64 rFA.2.at_,Value.int .u64 rFA.2.seed]::.box b36 26 [Value.int .i64 s48.1,vAV]::.box b21 26 [Value.int .i64 s48.1,vAV]::.row 34 1 vFZ nG0 csG1::L)) (v:=Value.agg #[Value.int .i64 s48.1,vAV]) (c:=[Value.int .i64 s48.1,vAV]) rfl Tryz.sizeOf26 rfl rfl (zac rfl (zac hAW.one zad)) (Nat.le_of_ble_eq_true rfl) rfl rfl
     refine FL.act rfl rfl (E.store kEO rfl runG9) ?_
     obtain ⟨HGb,SGc,iGd,atGe⟩:=SGa.sealBox (i:=2) (l':=(.box b0 63 [vFK,Value.int .i64 rFA.2.at_,Value.int .u64 rFA.2.seed]::.box b36 26 [Value.int .i64 s48.1,vAV]::.row 34 1 vFZ nG0 csG1::L)) rfl rfl
     refine FL.v (E.assign (v:=Value.int .i64 s48.2.2.2.2.2.1) rfl) ?_
     refine FL.v (E.assign (v:=vFZ) rfl) ?_
     refine FL.nil ?_
     refine FW.ret ?_
     obtain ⟨HGf,SGg,iGh,hGi⟩:=SGc.sealRow (i:=2) (l':=(.box b0 63 [vFK,Value.int .i64 rFA.2.at_,Value.int .u64 rFA.2.seed]::.box b36 26 [Value.int .i64 s48.1,vAV]::L)) rfl (elsG5.mono iGd) (by decide) rfl
     obtain rfl:=Option.some.inj hp
     exact ⟨.inr rfl,zbR rfl kEO (zaB Tryz.isAgg26 Tryz.sizeOf26 ((atGe.mono iGh).now SGg.sl) rfl) rfl rfl ⟨_,_,_,_,rfl,⟨(SGg.selT (a:=[.box b0 63 [vFK,Value.int .i64 rFA.2.at_,Value.int .u64 rFA.2.seed],.box b36 26 [Value.int .i64 s48.1,vAV]]) (l':=[.box b0 63 [vFK,Value.int .i64 rFA.2.at_,Value.int .u64 rFA.2.seed]]) [0] (by decide) rfl),((((((i31.tr iEK).tr iEY).tr iFF).tr iFO).tr iGd).tr iGh)⟩,(hAW.mono (zag ((((iEY.tr iFF).tr iFO).tr iGd).tr iGh))),hGi,(hFL.mono ((iFO.tr iGd).tr iGh))⟩⟩
    ·
     refine FW.condF rfl cFz ?_
     refine FW.seq (FW.region ?_)
     refine FL.v (E.eql rfl rfl) ?_
     refine FL.v (E.assign (v:=Value.bool (rES.1 == 2)) rfl) ?_
     refine FL.nil ?_
     rcases ifB hp with ⟨cGk,hp⟩|⟨cGk,hp⟩
     ·
      refine FW.condT rfl cGk ?_
      refine FW.seq (FW.region ?_)
      refine FL.v (E.move kER) ?_
      refine FL.v (E.lenO te24 rfl SEX (i:=3) rfl elsB2 (by decide)) ?_
      refine FL.v (E.gtr rfl rfl) ?_
      refine FL.nil ?_
      rcases ifB hp with ⟨cGl,hp⟩|⟨cGl,hp⟩
      ·
       refine FW.condT rfl cGl ?_
       refine FW.region ?_
       refine FL.v (E.move kER) ?_
       refine FL.v (E.move kER) ?_
       refine FL.v (E.lenO te24 rfl SEX (i:=3) rfl elsB2 (by decide)) ?_
       refine FL.v (E.sub rfl rfl) ?_
       obtain ⟨xsGm,hcGn,hp⟩:=bnd hp
       obtain ⟨vGo,nGp,csGq,runGr,SGs,elsGt,ndGu⟩:=SEX.cutRow te24 (kk:=.i64) (i:=3) rfl elsB2 hcGn
       have SGs:St H0 w0 HEV wEW (.box b0 63 [vEZ,Value.int .i64 rES.2.at_,Value.int .u64 rES.2.seed]::.box b36 26 [Value.int .i64 s48.1,vAV]::.box b21 26 [Value.int .i64 0,Value.slice none 0 0]::.row 34 1 vGo nGp csGq::L):=SGs
       refine FL.v (E.slice te24 rfl rfl (congrArg some rfl) rfl (runGr _)) ?_
       refine FL.v (E.assign (v:=vGo) rfl) ?_
       refine FL.nil (FW.seq (FW.region ?_))
       refine FL.v (E.load kEP (zai Tryz.isAgg26 Tryz.sizeOf26 (SGs.box_now (i:=1) rfl) rfl)) ?_
       refine FL.v (E.move kEQ) ?_
       refine FL.v (E.move (v:=vGo) rfl) ?_
       obtain ⟨wGv,runGw,SGx⟩:=SGs.store0 (P:=Tryz.prog) (t:=26) (i:=2) (cs':=[Value.int .i64 s48.1,vAV]) (l':=(.box b0 63 [vEZ,Value.int .i64 rES.2.at_,Value.int .u64 rES.2.seed]::.box b36 26 [Value.int .i64 s48.1,vAV]::.box b21 26 [Value.int .i64 s48.1,vAV]::.row 34 1 vGo nGp csGq::L)) (v:=Value.agg #[Value.int .i64 s48.1,vAV]) (c:=[Value.int .i64 s48.1,vAV]) rfl Tryz.sizeOf26 rfl rfl (zac rfl (zac hAW.one zad)) (Nat.le_of_ble_eq_true rfl) rfl rfl
       refine FL.act rfl rfl (E.store kEO rfl runGw) ?_
       obtain ⟨HGy,SGz,iGA,atGB⟩:=SGx.sealBox (i:=2) (l':=(.box b0 63 [vEZ,Value.int .i64 rES.2.at_,Value.int .u64 rES.2.seed]::.box b36 26 [Value.int .i64 s48.1,vAV]::.row 34 1 vGo nGp csGq::L)) rfl rfl
       refine FL.v (E.assign (v:=Value.int .i64 s48.2.2.2.2.2.1) rfl) ?_
       refine FL.v (E.assign (v:=vGo) rfl) ?_
       refine FL.nil ?_
       refine FW.ret ?_
       obtain ⟨HGC,SGD,iGE,hGF⟩:=SGz.sealRow (i:=2) (l':=(.box b0 63 [vEZ,Value.int .i64 rES.2.at_,Value.int .u64 rES.2.seed]::.box b36 26 [Value.int .i64 s48.1,vAV]::L)) rfl (elsGt.mono (iEY.tr iGA)) (by decide) rfl
       obtain rfl:=Option.some.inj hp
       exact ⟨.inr rfl,zbR rfl kEO (zaB Tryz.isAgg26 Tryz.sizeOf26 ((atGB.mono iGE).now SGD.sl) rfl) rfl rfl ⟨_,_,_,_,rfl,⟨(SGD.selT (a:=[.box b0 63 [vEZ,Value.int .i64 rES.2.at_,Value.int .u64 rES.2.seed],.box b36 26 [Value.int .i64 s48.1,vAV]]) (l':=[.box b0 63 [vEZ,Value.int .i64 rES.2.at_,Value.int .u64 rES.2.seed]]) [0] (by decide) rfl),((((i31.tr iEK).tr iEY).tr iGA).tr iGE)⟩,(hAW.mono (zag ((iEY.tr iGA).tr iGE))),hGF,(hF0.mono (iGA.tr iGE))⟩⟩
      ·
       refine FW.condF rfl cGl ?_
       refine FW.skip (FW.seq (FW.region ?_))
       refine FL.v (E.load kEP (zai Tryz.isAgg26 Tryz.sizeOf26 (SEX.box_now (i:=1) rfl) rfl)) ?_
       refine FL.v (E.move kEQ) ?_
       refine FL.v (E.move kER) ?_
       obtain ⟨wGH,runGI,SGJ⟩:=SEX.store0 (P:=Tryz.prog) (t:=26) (i:=2) (cs':=[Value.int .i64 s48.1,vAV]) (l':=(.box b0 63 [vEZ,Value.int .i64 rES.2.at_,Value.int .u64 rES.2.seed]::.box b36 26 [Value.int .i64 s48.1,vAV]::.box b21 26 [Value.int .i64 s48.1,vAV]::.row 34 1 vAZ nB0 csB1::L)) (v:=Value.agg #[Value.int .i64 s48.1,vAV]) (c:=[Value.int .i64 s48.1,vAV]) rfl Tryz.sizeOf26 rfl rfl (zac rfl (zac hAW.one zad)) (Nat.le_of_ble_eq_true rfl) rfl rfl
       refine FL.act rfl rfl (E.store kEO rfl runGI) ?_
       obtain ⟨HGK,SGL,iGM,atGN⟩:=SGJ.sealBox (i:=2) (l':=(.box b0 63 [vEZ,Value.int .i64 rES.2.at_,Value.int .u64 rES.2.seed]::.box b36 26 [Value.int .i64 s48.1,vAV]::.row 34 1 vAZ nB0 csB1::L)) rfl rfl
       refine FL.v (E.assign (v:=Value.int .i64 s48.2.2.2.2.2.1) rfl) ?_
       refine FL.v (E.assign (v:=vAZ) rfl) ?_
       refine FL.nil ?_
       refine FW.ret ?_
       obtain ⟨HGO,SGP,iGQ,hGR⟩:=SGL.sealRow (i:=2) (l':=(.box b0 63 [vEZ,Value.int .i64 rES.2.at_,Value.int .u64 rES.2.seed]::.box b36 26 [Value.int .i64 s48.1,vAV]::L)) rfl (elsB2.mono (iEY.tr iGM)) (by decide) rfl
       obtain rfl:=Option.some.inj hp
       exact ⟨.inr rfl,zbR rfl kEO (zaB Tryz.isAgg26 Tryz.sizeOf26 ((atGN.mono iGQ).now SGP.sl) rfl) rfl rfl ⟨_,_,_,_,rfl,⟨(SGP.selT (a:=[.box b0 63 [vEZ,Value.int .i64 rES.2.at_,Value.int .u64 rES.2.seed],.box b36 26 [Value.int .i64 s48.1,vAV]]) (l':=[.box b0 63 [vEZ,Value.int .i64 rES.2.at_,Value.int .u64 rES.2.seed]]) [0] (by decide) rfl),((((i31.tr iEK).tr iEY).tr iGM).tr iGQ)⟩,(hAW.mono (zag ((iEY.tr iGM).tr iGQ))),hGR,(hF0.mono (iGM.tr iGQ))⟩⟩
     ·
      refine FW.condF rfl cGk ?_
      refine FW.skip (FW.seq (FW.region ?_))
      refine FL.v (E.load kEP (zai Tryz.isAgg26 Tryz.sizeOf26 (SEX.box_now (i:=1) rfl) rfl)) ?_
      refine FL.v (E.move kEQ) ?_
      refine FL.v (E.move kER) ?_
      obtain ⟨wGT,runGU,SGV⟩:=SEX.store0 (P:=Tryz.prog) (t:=26) (i:=2) (cs':=[Value.int .i64 s48.1,vAV]) (l':=(.box b0 63 [vEZ,Value.int .i64 rES.2.at_,Value.int .u64 rES.2.seed]::.box b36 26 [Value.int .i64 s48.1,vAV]::.box b21 26 [Value.int .i64 s48.1,vAV]::.row 34 1 vAZ nB0 csB1::L)) (v:=Value.agg #[Value.int .i64 s48.1,vAV]) (c:=[Value.int .i64 s48.1,vAV]) rfl Tryz.sizeOf26 rfl rfl (zac rfl (zac hAW.one zad)) (Nat.le_of_ble_eq_true rfl) rfl rfl
      refine FL.act rfl rfl (E.store kEO rfl runGU) ?_
      obtain ⟨HGW,SGX,iGY,atGZ⟩:=SGV.sealBox (i:=2) (l':=(.box b0 63 [vEZ,Value.int .i64 rES.2.at_,Value.int .u64 rES.2.seed]::.box b36 26 [Value.int .i64 s48.1,vAV]::.row 34 1 vAZ nB0 csB1::L)) rfl rfl
      refine FL.v (E.assign (v:=Value.int .i64 s48.2.2.2.2.2.1) rfl) ?_
      refine FL.v (E.assign (v:=vAZ) rfl) ?_
      refine FL.nil ?_
      refine FW.ret ?_
      obtain ⟨HH0,SH1,iH2,hH3⟩:=SGX.sealRow (i:=2) (l':=(.box b0 63 [vEZ,Value.int .i64 rES.2.at_,Value.int .u64 rES.2.seed]::.box b36 26 [Value.int .i64 s48.1,vAV]::L)) rfl (elsB2.mono (iEY.tr iGY)) (by decide) rfl
      obtain rfl:=Option.some.inj hp
      exact ⟨.inr rfl,zbR rfl kEO (zaB Tryz.isAgg26 Tryz.sizeOf26 ((atGZ.mono iH2).now SH1.sl) rfl) rfl rfl ⟨_,_,_,_,rfl,⟨(SH1.selT (a:=[.box b0 63 [vEZ,Value.int .i64 rES.2.at_,Value.int .u64 rES.2.seed],.box b36 26 [Value.int .i64 s48.1,vAV]]) (l':=[.box b0 63 [vEZ,Value.int .i64 rES.2.at_,Value.int .u64 rES.2.seed]]) [0] (by decide) rfl),((((i31.tr iEK).tr iEY).tr iGY).tr iH2)⟩,(hAW.mono (zag ((iEY.tr iGY).tr iH2))),hH3,(hF0.mono (iGY.tr iH2))⟩⟩
  ·
   exact x48.elim

@[reducible] def zf2 (Ha:GH) (wa:World) (r:(Cnf×Int×(List (List Int)))):Ending→World→Prop :=
 fun e w'=>∃ H':GH,∃ v0_1:Value,∃ v2:Value,e=.returned (Value.tuple #[Value.agg #[Value.int .i64 r.1.vars,v0_1],Value.int .i64 r.2.1,v2])∧Run wa.heap.size Ha wa H' w'∧RSl (up wa.heap.size H') (eL eI 1) 1 v0_1 r.1.clauses∧RSl H' (eL eI 1) 1 v2 r.2.2
theorem zf3 {Ha:GH} {wa:World} (hs:Sl Ha wa) (v0:Value) (a0:List Int) (p0:RSl Ha (eN .u8) 1 v0 a0) {r:(Cnf×Int×(List (List Int)))} (hp:(PF.zcV a0)=some r) :
  Calls Tryz.prog 20 #[v0] wa (zf2 Ha wa r):=by
 unfold PF.zcV at hp
 have S0:=St.init hs
 refine zae (N:=14) (args:=[v0]) Tryz.func20 rfl rfl rfl ?_
 refine FW.seq (FW.region ?_)
 obtain ⟨b21,w22,run23,S24⟩:=S0.alloc (P:=Tryz.prog) 26 [Value.int .i64 0,Value.slice none 0 0] Tryz.zeroValue26 rfl (zac rfl (zac rfl zad))
 refine FL.v (E.alloc run23) ?_
 refine FL.v (E.assign (v:=Value.int .i64 0) rfl) ?_
 refine FL.v (E.assign (v:=Value.slice none 0 0) rfl) ?_
 refine FL.nil (FW.seq (FW.region ?_))
 refine FL.v (E.move (v:=v0) rfl) ?_
 refine FL.v (E.build (B1 rfl) (run_build _ 63 #[(0,v0)] #[v0,Value.int .i64 0,Value.int .u64 0] (by obtain ⟨_,_,rfl⟩:=RSl.ln p0;rfl))) ?_
 obtain ⟨b25,w26,run27,S28⟩:=S24.box (P:=Tryz.prog) 63 [v0,Value.int .i64 0,Value.int .u64 0] (v:=Value.agg #[v0,Value.int .i64 0,Value.int .u64 0]) rfl (zac p0.one (zac rfl (zac rfl zad)))
 refine FL.v (E.box rfl run27) ?_
 refine FL.v (E.assign (v:=Value.pointer (some (⟨b25,0,none⟩:Addr))) rfl) ?_
 refine FL.nil (FW.seq (FW.region ?_))
 refine FL.v (E.move (v:=Value.pointer (some (⟨b25,0,none⟩:Addr))) rfl) ?_
 obtain ⟨r29,hr30,hp⟩:=bnd hp
 refine FL.call rfl rfl rfl (E.call Tryz.call39 (A1 rfl)) (zf1 (L:=[.box b21 26 [Value.int .i64 0,Value.slice none 0 0]]) S28 (a0:=(l1Cur.mk a0 0 0)) p0 hr30) ?_
 rintro e w32 ⟨H31,v35,v37,v39,rfl,⟨S33,i34⟩,h36,h38,h40⟩
 refine ⟨_,rfl,?_⟩
 have S33:St Ha wa H31 w32 [.box b25 63 [v39,Value.int .i64 r29.2.2.2.at_,Value.int .u64 r29.2.2.2.seed],.box b21 26 [Value.int .i64 0,Value.slice none 0 0]]:=S33
 refine FL.v (E.extract (i:=0) rfl rfl) ?_
 refine FL.v (E.extract (i:=1) rfl rfl) ?_
 refine FL.v (E.extract (i:=2) rfl rfl) ?_
 obtain ⟨w41,run42,S43⟩:=S33.store0 (P:=Tryz.prog) (t:=26) (i:=1) (cs':=[Value.int .i64 r29.1.vars,v35]) (l':=[.box b25 63 [v39,Value.int .i64 r29.2.2.2.at_,Value.int .u64 r29.2.2.2.seed],.box b21 26 [Value.int .i64 r29.1.vars,v35]]) (v:=Value.agg #[Value.int .i64 r29.1.vars,v35]) (c:=[Value.int .i64 r29.1.vars,v35]) rfl Tryz.sizeOf26 rfl rfl (zac rfl (zac h36.one zad)) (Nat.le_of_ble_eq_true rfl) rfl rfl
 refine FL.act rfl rfl (E.store rfl rfl run42) ?_
 obtain ⟨H44,S45,i46,at47⟩:=S43.sealBox (i:=1) (l':=[.box b25 63 [v39,Value.int .i64 r29.2.2.2.at_,Value.int .u64 r29.2.2.2.seed]]) rfl rfl
 refine FL.v (E.assign (v:=Value.int .i64 r29.2.1) rfl) ?_
 refine FL.v (E.assign (v:=v37) rfl) ?_
 refine FL.nil ?_
 refine FW.ret ?_
 obtain rfl:=Option.some.inj hp
 exact ⟨.inr rfl,zbR rfl rfl (zaB Tryz.isAgg26 Tryz.sizeOf26 (at47.now S45.sl) rfl) rfl rfl ⟨_,_,_,rfl,S45.run,(h36.mono (zag i46)),(h38.mono i46)⟩⟩

theorem w_spec_l3Good {Ha:GH} {wa:World} (hs:Sl Ha wa) (a0:Int) (v1:Value) (a1:List Int) (p1:RSl Ha eI 1 v1 a1) {r:Bool} (hp:(PF.zdT a0 a1)=some r) :
  Calls Tryz.prog 76 #[Value.int .i64 a0,v1] wa (Sc Ha wa (Value.bool r)):=by
 unfold PF.zdT at hp
 have S0:=St.init hs
 refine zae (N:=8) (args:=[Value.int .i64 a0,v1]) Tryz.func76 rfl rfl rfl ?_
 refine FW.seq (FW.region ?_)
 refine FL.v (E.assign (v:=Value.bool false) rfl) ?_
 refine FL.nil (FW.seq (FW.region ?_))
 refine FL.v (E.move (v:=Value.int .i64 a0) rfl) ?_
 refine FL.v (E.move (v:=v1) rfl) ?_
 obtain ⟨r21,hr22,hp⟩:=bnd hp
 refine FL.call rfl rfl rfl (E.call Tryz.call108 (A2 rfl rfl)) (zem S0.sl a0 v1 a1 p1 hr22) ?_
 rintro e w23 ⟨rfl,r24⟩
 refine ⟨_,rfl,?_⟩
 have S25:=S0.call r24
 refine FL.v (E.assign (v:=Value.bool r21) rfl) ?_
 refine FL.nil ?_
 refine FW.ret ?_
 obtain rfl:=Option.some.inj hp
 exact ⟨.inr rfl,res1 rfl rfl ⟨rfl,S25.back⟩⟩

set_option maxHeartbeats 4000000 in
theorem w_spec_l13Is {Ha:GH} {wa:World} (hs:Sl Ha wa) (a0:Cnf) (v0_1:Value) (p0_1:RSl Ha (eL eI 1) 1 v0_1 a0.clauses) (a1:Int) (v2:Value) (a2:List (List Int)) (p2:RSl Ha (eL eI 1) 1 v2 a2) {r:Bool} (hp:(PF.zdA a0 a1 a2)=some r) :
  Calls Tryz.prog 40 #[Value.agg #[Value.int .i64 a0.vars,v0_1],Value.int .i64 a1,v2] wa (Sc Ha wa (Value.bool r)):=by
 unfold PF.zdA at hp
 have S0:=St.init hs
 refine zae (N:=68) (args:=[Value.agg #[Value.int .i64 a0.vars,v0_1],Value.int .i64 a1,v2]) Tryz.func40 rfl rfl rfl ?_
 refine FW.seq (FW.region ?_)
 obtain ⟨b21,w22,run23,S24⟩:=S0.box (P:=Tryz.prog) 26 [Value.int .i64 a0.vars,v0_1] (v:=Value.agg #[Value.int .i64 a0.vars,v0_1]) rfl (zac rfl (zac p0_1.one zad))
 refine FL.v (E.box rfl run23) ?_
 obtain ⟨H25,S26,i27,at28⟩:=S24.sealBox (i:=0) (l':=[]) rfl rfl
 refine FL.v (E.assign (v:=Value.bool false) rfl) ?_
 refine FL.nil (FW.seq (FW.seq (FW.region ?_)))
 refine FL.v (E.assign (v:=Value.int .i64 0) rfl) ?_
 refine FL.nil ?_
 obtain ⟨q30,hq,hp⟩:=bndR hp
 refine FW.block ?_
 refine FW.mono (FW.forL (S:=Unit) (X:=Bool) (fun (i30:Nat) (s30:Unit) f w=>∃ H:GH,St Ha wa H w []∧Inc H25 H∧f 7=Value.int .i64 ((i30:Nat):Int)∧f 1=Value.int .i64 a1∧f 2=v2∧f 3=Value.pointer (some ⟨b21,0,none⟩)) (fun q e f w=>match q with|.go s30=>e=Exit.exit 0∧(∃ H:GH,St Ha wa H w []∧Inc H25 H∧f 1=Value.int .i64 a1∧f 2=v2∧f 3=Value.pointer (some ⟨b21,0,none⟩))|.rt x=>((e=Exit.ret)∧(fun e f w=>(e=Exit.normal∨e=Exit.ret)∧∀ a,Fr (δ:=[]) 68 a f→∃ v,(results Tryz.f40 a.tmps).run Tryz.prog w=.ok v w∧(Sc Ha wa (Value.bool x)) (.returned v) w) e f w)) hq ⟨_,S26,(Inc.rfl _),rfl,rfl,rfl,rfl⟩ ?_ ?_) ?_
 ·
  clear hp hq
  rintro i30 y29 s30 fBL wBK ⟨HBH,SBI,iBJ,kBM,kBN,kBO,kBP⟩ hx30 oEv hp
  refine FW.seq (FW.seq (FW.region ?_))
  refine FL.v (E.move kBM) ?_
  refine FL.v (E.move kBO) ?_
  refine FL.v (E.lenP te24 rfl p2) ?_
  refine FL.v (E.lssT rfl rfl (zaw hx30)) ?_
  refine FL.nil ?_
  refine FW.condT rfl rfl ?_
  refine FW.skip (FW.seq (FW.block (FW.seq ?_)))
  refine FW.draw (fun w'=>Run wBK.heap.size HBH wBK HBH w') (by kernel_rfl) (by kernel_rfl) (zaG SBI.sl) ?_
  refine FD.val rfl rfl rfl (fun w' hw'=>(E.fieldAddr zaC kBP)) ?_
  refine FD.val rfl rfl rfl (fun w' hw'=>(E.load rfl (zah Tryz.isAgg3 ((at28.mono iBJ).now (SBI.call hw').sl) rfl))) ?_
  refine FD.val rfl rfl rfl (fun w' hw'=>(E.move kBO)) ?_
  refine FD.val rfl rfl rfl (fun w' hw'=>(E.move kBM)) ?_
  obtain ⟨pBR,csBS,ptBT,lBU,atBV,relBW⟩:=p2.at (zal hx30)
  obtain ⟨vBX,rfl,hBY⟩:=zav relBW
  refine FD.val rfl rfl rfl (fun w' hw'=>(E.indexAddr te24 rfl rfl ptBT)) ?_
  refine FD.val rfl rfl rfl (fun w' hw'=>(E.load rfl (zaf Tryz.isAgg34 ((atBV.mono (i27.tr iBJ)).now (SBI.call hw').sl) rfl))) ?_
  obtain ⟨rBZ,hrC0,hp⟩:=bnd hp
  refine FD.call rfl rfl rfl (fun w' hw'=>(E.call Tryz.call76 (A2 rfl rfl))) (fun w' hw'=>Calls.cls hw' (w_spec_l3Good (SBI.call hw').sl a0.vars vBX y29 (hBY.mono (i27.tr iBJ)) hrC0)) ?_
  refine FD.val rfl rfl rfl (fun w' hw'=>(E.not rfl)) ?_
  refine FD.val rfl rfl rfl (fun w' hw'=>(E.move (v:=Value.bool (!rBZ)) rfl)) ?_
  obtain ⟨t235,hqtCb,hp⟩:=bnd hp
  refine FD.cut 9 (fun f=>f 1=Value.int .i64 a1∧f 2=v2∧f 3=Value.pointer (some ⟨b21,0,none⟩)∧f 7=Value.int .i64 ((i30:Nat):Int)∧f 32=Value.bool t235) ?_ ?_
  ·
   clear hp;have hp:=hqtCb;clear hqtCb
   rcases ifB hp with ⟨cCh,hp⟩|⟨cCh,hp⟩
   ·
    refine FD.skip (wF_no rfl rfl rfl cCh) rfl ?_
    refine FD.skip (wF_no rfl rfl rfl cCh) rfl ?_
    refine FD.skip (wF_no rfl rfl rfl cCh) rfl ?_
    refine FD.skip (wF_no rfl rfl rfl cCh) rfl ?_
    refine FD.skip (wF_no rfl rfl rfl cCh) rfl ?_
    refine FD.skip (wF_no rfl rfl rfl cCh) rfl ?_
    refine FD.skip (wF_no rfl rfl rfl cCh) rfl ?_
    refine FD.skip (wF_no rfl rfl rfl cCh) rfl ?_
    obtain rfl:=Option.some.inj hp
    refine FD.val rfl rfl rfl (fun w' hw'=>(E.pickT rfl cCh rfl)) ?_
    exact FD.nil ⟨kBN,kBO,kBP,kBM,rfl⟩
   ·
    refine FD.val (zab rfl rfl rfl cCh) rfl rfl (fun w' hw'=>(E.load kBP (zai Tryz.isAgg26 Tryz.sizeOf26 ((at28.mono iBJ).now (SBI.call hw').sl) rfl))) ?_
    refine FD.val (zab rfl rfl rfl cCh) rfl rfl (fun w' hw'=>(E.move kBN)) ?_
    refine FD.val (zab rfl rfl rfl cCh) rfl rfl (fun w' hw'=>(E.move kBO)) ?_
    refine FD.val (zab rfl rfl rfl cCh) rfl rfl (fun w' hw'=>(E.move kBM)) ?_
    obtain ⟨pCi,csCj,ptCk,lCl,atCm,relCn⟩:=p2.at (zal hx30)
    obtain ⟨vCo,rfl,hCp⟩:=zav relCn
    refine FD.val (zab rfl rfl rfl cCh) rfl rfl (fun w' hw'=>(E.indexAddr te24 rfl rfl ptCk)) ?_
    refine FD.val (zab rfl rfl rfl cCh) rfl rfl (fun w' hw'=>(E.load rfl (zaf Tryz.isAgg34 ((atCm.mono (i27.tr iBJ)).now (SBI.call hw').sl) rfl))) ?_
    obtain ⟨rCq,hrCr,hp⟩:=bnd hp
    refine FD.call (zab rfl rfl rfl cCh) rfl rfl (fun w' hw'=>(E.call Tryz.call77 (A3 rfl rfl rfl))) (fun w' hw'=>Calls.cls hw' (ze1 (SBI.call hw').sl a0 v0_1 (p0_1.mono (i27.tr iBJ)) a1 vCo y29 (hCp.mono (i27.tr iBJ)) hrCr)) ?_
    refine FD.val (zab rfl rfl rfl cCh) rfl rfl (fun w' hw'=>(E.not rfl)) ?_
    obtain rfl:=Option.some.inj hp
    refine FD.val rfl rfl rfl (fun w' hw'=>(E.pickF rfl cCh rfl)) ?_
    exact FD.nil ⟨kBN,kBO,kBP,kBM,rfl⟩
  rintro fCg ⟨kCs,kCt,kCu,kCv,kCw⟩
  refine FD.val rfl rfl rfl (fun w' hw'=>(E.move kCw)) ?_
  obtain ⟨t310,hqtDo,hp⟩:=bnd hp
  refine FD.cut 16 (fun f=>f 1=Value.int .i64 a1∧f 2=v2∧f 3=Value.pointer (some ⟨b21,0,none⟩)∧f 7=Value.int .i64 ((i30:Nat):Int)∧f 49=Value.bool t310) ?_ ?_
  ·
   clear hp;have hp:=hqtDo;clear hqtDo
   rcases ifB hp with ⟨cDu,hp⟩|⟨cDu,hp⟩
   ·
    refine FD.skip (wF_no rfl rfl rfl cDu) rfl ?_
    refine FD.skip (wF_no rfl rfl rfl cDu) rfl ?_
    refine FD.skip (wF_no rfl rfl rfl cDu) rfl ?_
    refine FD.skip (zar rfl rfl rfl) rfl ?_
    refine FD.skip (zar rfl rfl rfl) rfl ?_
    refine FD.skip (zar rfl rfl rfl) rfl ?_
    refine FD.skip (zar rfl rfl rfl) rfl ?_
    refine FD.skip (zar rfl rfl rfl) rfl ?_
    refine FD.skip (zar rfl rfl rfl) rfl ?_
    refine FD.skip (zar rfl rfl rfl) rfl ?_
    refine FD.skip (zar rfl rfl rfl) rfl ?_
    refine FD.skip (zar rfl rfl rfl) rfl ?_
    refine FD.skip (zar rfl rfl rfl) rfl ?_
    refine FD.skip (zar rfl rfl rfl) rfl ?_
    refine FD.skip (wF_no rfl rfl rfl cDu) rfl ?_
    obtain rfl:=Option.some.inj hp
    refine FD.val rfl rfl rfl (fun w' hw'=>(E.pickT rfl cDu rfl)) ?_
    exact FD.nil ⟨kCs,kCt,kCu,kCv,rfl⟩
   ·
    refine FD.val (zab rfl rfl rfl cDu) rfl rfl (fun w' hw'=>(E.move kCv)) ?_
    refine FD.val (zab rfl rfl rfl cDu) rfl rfl (fun w' hw'=>(E.gtr rfl rfl)) ?_
    refine FD.val (zab rfl rfl rfl cDu) rfl rfl (fun w' hw'=>(E.move (v:=Value.bool (decide (0 < ((i30:Nat):Int)))) rfl)) ?_
    obtain ⟨t337,hqtDP,hp⟩:=bnd hp
    refine FD.cut 12 (fun f=>f 1=Value.int .i64 a1∧f 2=v2∧f 3=Value.pointer (some ⟨b21,0,none⟩)∧f 7=Value.int .i64 ((i30:Nat):Int)∧f 33=Value.bool t235∧f 48=Value.bool t337) ?_ ?_
    ·
     clear hp;have hp:=hqtDP;clear hqtDP
     rcases ifB hp with ⟨cDV,hp⟩|⟨cDV,hp⟩
     ·
      refine FD.val (zab rfl rfl rfl cDV) rfl rfl (fun w' hw'=>(E.move kCt)) ?_
      refine FD.val (zab rfl rfl rfl cDV) rfl rfl (fun w' hw'=>(E.move kCv)) ?_
      refine FD.val (zab rfl rfl rfl cDV) rfl rfl (fun w' hw'=>(E.sub rfl rfl)) ?_
      obtain ⟨xE2,hxE3,hp⟩:=bnd hp
      obtain ⟨pDW,csDX,ptDY,lDZ,atE0,relE1⟩:=p2.at hxE3
      obtain ⟨vE4,rfl,hE5⟩:=zav relE1
      refine FD.val (zab rfl rfl rfl cDV) rfl rfl (fun w' hw'=>(E.indexAddr te24 rfl rfl ptDY)) ?_
      refine FD.val (zab rfl rfl rfl cDV) rfl rfl (fun w' hw'=>(E.load rfl (zaf Tryz.isAgg34 ((atE0.mono (i27.tr iBJ)).now (SBI.call hw').sl) rfl))) ?_
      refine FD.val (zab rfl rfl rfl cDV) rfl rfl (fun w' hw'=>(E.move kCt)) ?_
      refine FD.val (zab rfl rfl rfl cDV) rfl rfl (fun w' hw'=>(E.move kCv)) ?_
      obtain ⟨pE6,csE7,ptE8,lE9,atEa,relEb⟩:=p2.at (zal hx30)
      obtain ⟨vEc,rfl,hEd⟩:=zav relEb
      refine FD.val (zab rfl rfl rfl cDV) rfl rfl (fun w' hw'=>(E.indexAddr te24 rfl rfl ptE8)) ?_
      refine FD.val (zab rfl rfl rfl cDV) rfl rfl (fun w' hw'=>(E.load rfl (zaf Tryz.isAgg34 ((atEa.mono (i27.tr iBJ)).now (SBI.call hw').sl) rfl))) ?_
      obtain ⟨rEe,hrEf,hp⟩:=bnd hp
      refine FD.call (zab rfl rfl rfl cDV) rfl rfl (fun w' hw'=>(E.call Tryz.call78 (A2 rfl rfl))) (fun w' hw'=>Calls.cls hw' (ze2 (SBI.call hw').sl vE4 xE2 (hE5.mono (i27.tr iBJ)) vEc y29 (hEd.mono (i27.tr iBJ)) hrEf)) ?_
      refine FD.val (zab rfl rfl rfl cDV) rfl rfl (fun w' hw'=>(E.not rfl)) ?_
      obtain rfl:=Option.some.inj hp
      refine FD.val (zab rfl rfl rfl cDu) rfl rfl (fun w' hw'=>(E.pickT rfl cDV rfl)) ?_
      exact FD.nil ⟨kCs,kCt,kCu,kCv,rfl,rfl⟩
     ·
      refine FD.skip (wF_no rfl rfl rfl cDV) rfl ?_
      refine FD.skip (wF_no rfl rfl rfl cDV) rfl ?_
      refine FD.skip (wF_no rfl rfl rfl cDV) rfl ?_
      refine FD.skip (wF_no rfl rfl rfl cDV) rfl ?_
      refine FD.skip (wF_no rfl rfl rfl cDV) rfl ?_
      refine FD.skip (wF_no rfl rfl rfl cDV) rfl ?_
      refine FD.skip (wF_no rfl rfl rfl cDV) rfl ?_
      refine FD.skip (wF_no rfl rfl rfl cDV) rfl ?_
      refine FD.skip (wF_no rfl rfl rfl cDV) rfl ?_
      refine FD.skip (wF_no rfl rfl rfl cDV) rfl ?_
      refine FD.skip (wF_no rfl rfl rfl cDV) rfl ?_
      obtain rfl:=Option.some.inj hp
      refine FD.val (zab rfl rfl rfl cDu) rfl rfl (fun w' hw'=>(E.pickF rfl cDV rfl)) ?_
      exact FD.nil ⟨kCs,kCt,kCu,kCv,rfl,rfl⟩
    rintro fDU ⟨kEg,kEh,kEi,kEj,kEk,kEl⟩
    obtain rfl:=Option.some.inj hp
    refine FD.val rfl rfl rfl (fun w' hw'=>(E.pickF kEk cDu kEl)) ?_
    exact FD.nil ⟨kEg,kEh,kEi,kEj,rfl⟩
  rintro fDt ⟨kEm,kEn,kEo,kEp,kEq⟩
  refine FD.nil ?_
  intro wEr rEt
  have SEs:=SBI.call rEt
  rcases ifB hp with ⟨cEu,hp⟩|⟨cEu,hp⟩
  ·
   refine FW.condT kEq cEu ?_
   refine FW.seq (FW.region ?_)
   refine FL.v (E.assign (v:=Value.bool false) rfl) ?_
   refine FL.nil ?_
   refine FW.ret ?_
   obtain rfl:=Option.some.inj hp
   exact ⟨nofun,rfl,⟨.inr rfl,res1 rfl rfl ⟨rfl,SEs.back⟩⟩⟩
  ·
   refine FW.condF kEq cEu ?_
   refine FW.skip (FW.region ?_)
   refine FL.v (E.move kEp) ?_
   refine FL.v (E.add rfl rfl) ?_
   refine FL.v (E.assign (v:=Value.int .i64 (wr (((i30:Nat):Int) + 1))) rfl) ?_
   refine FL.nil ?_
   obtain rfl:=Option.some.inj hp
   exact ⟨rfl,⟨_,SEs,iBJ,(zap rfl (zaq hx30) (p2.mono (i27.tr iBJ)).le),kEm,kEn,kEo⟩⟩
 ·
  clear hp hq
  rintro s30 fFM wFL ⟨HFI,SFJ,iFK,kFN,kFO,kFP,kFQ⟩
  refine FW.seq (FW.seq (FW.region ?_))
  refine FL.v (E.move kFN) ?_
  refine FL.v (E.move kFP) ?_
  refine FL.v (E.lenP te24 rfl p2) ?_
  refine FL.v (E.lss rfl rfl) ?_
  refine FL.nil ?_
  refine FW.condF rfl zax ?_
  refine FW.exit ?_
  exact ⟨nofun,rfl,⟨_,SFJ,iFK,kFO,kFP,kFQ⟩⟩
 ·
  clear hq
  intro e fEA wEz hD
  rcases q30 with s30|x30
  ·
   obtain ⟨rfl,hD⟩:=hD
   obtain ⟨HEw,SEx,iEy,kEB,kEC,kED⟩:=hD
   replace hp:=el_go hp
   refine FW.seq (FW.seq (FW.region ?_))
   refine FL.v (E.assign (v:=Value.int .i64 0) rfl) ?_
   refine FL.nil ?_
   obtain ⟨qEF,hq,hp⟩:=bndR hp
   refine FW.block ?_
   refine FW.mono (FW.forL (S:=Unit) (X:=Bool) (fun (iEF:Nat) (sEF:Unit) f w=>∃ H:GH,St Ha wa H w []∧Inc HEw H∧f 8=Value.int .i64 ((iEF:Nat):Int)∧f 1=Value.int .i64 a1∧f 2=v2∧f 3=Value.pointer (some ⟨b21,0,none⟩)) (fun q e f w=>match q with|.go sEF=>e=Exit.exit 2∧(∃ H:GH,St Ha wa H w []∧Inc HEw H∧f 2=v2)|.rt x=>((e=Exit.ret)∧(fun e f w=>(e=Exit.normal∨e=Exit.ret)∧∀ a,Fr (δ:=[]) 68 a f→∃ v,(results Tryz.f40 a.tmps).run Tryz.prog w=.ok v w∧(Sc Ha wa (Value.bool x)) (.returned v) w) e f w)) hq ⟨_,SEx,(Inc.rfl _),rfl,kEB,kEC,kED⟩ ?_ ?_) ?_
   ·
    clear hp hq
    rintro iEF yEE sEF fF8 wF7 ⟨HF4,SF5,iF6,kF9,kFa,kFb,kFc⟩ hxEF oFs hp
    refine FW.seq (FW.seq (FW.region ?_))
    refine FL.v (E.move kF9) ?_
    refine FL.v (E.move kFb) ?_
    refine FL.v (E.lenP te24 rfl p2) ?_
    refine FL.v (E.lssT rfl rfl (zaw hxEF)) ?_
    refine FL.nil ?_
    refine FW.condT rfl rfl ?_
    refine FW.skip (FW.seq (FW.block (FW.seq ?_)))
    refine FW.draw (fun w'=>Run wF7.heap.size HF4 wF7 HF4 w') (by kernel_rfl) (by kernel_rfl) (zaG SF5.sl) ?_
    refine FD.val rfl rfl rfl (fun w' hw'=>(E.load kFc (zai Tryz.isAgg26 Tryz.sizeOf26 ((at28.mono (iEy.tr iF6)).now (SF5.call hw').sl) rfl))) ?_
    refine FD.val rfl rfl rfl (fun w' hw'=>(E.move kFa)) ?_
    refine FD.val rfl rfl rfl (fun w' hw'=>(E.move kFb)) ?_
    refine FD.val rfl rfl rfl (fun w' hw'=>(E.move kFb)) ?_
    refine FD.val rfl rfl rfl (fun w' hw'=>(E.move kF9)) ?_
    obtain ⟨pFe,csFf,ptFg,lFh,atFi,relFj⟩:=p2.at (zal hxEF)
    obtain ⟨vFk,rfl,hFl⟩:=zav relFj
    refine FD.val rfl rfl rfl (fun w' hw'=>(E.indexAddr te24 rfl rfl ptFg)) ?_
    refine FD.val rfl rfl rfl (fun w' hw'=>(E.load rfl (zaf Tryz.isAgg34 ((atFi.mono ((i27.tr iEy).tr iF6)).now (SF5.call hw').sl) rfl))) ?_
    obtain ⟨rFm,hrFn,hp⟩:=bnd hp
    refine FD.call rfl rfl rfl (fun w' hw'=>(E.call Tryz.call52 (A4 rfl rfl rfl rfl))) (fun w' hw'=>Calls.cls hw' (ze5 (SF5.call hw').sl a0 v0_1 (p0_1.mono ((i27.tr iEy).tr iF6)) a1 v2 a2 (p2.mono ((i27.tr iEy).tr iF6)) vFk yEE (hFl.mono ((i27.tr iEy).tr iF6)) hrFn)) ?_
    refine FD.val rfl rfl rfl (fun w' hw'=>(E.not rfl)) ?_
    refine FD.nil ?_
    intro wFo rFq
    have SFp:=SF5.call rFq
    rcases ifB hp with ⟨cFr,hp⟩|⟨cFr,hp⟩
    ·
     refine FW.condT rfl cFr ?_
     refine FW.seq (FW.region ?_)
     refine FL.v (E.assign (v:=Value.bool false) rfl) ?_
     refine FL.nil ?_
     refine FW.ret ?_
     obtain rfl:=Option.some.inj hp
     exact ⟨nofun,rfl,⟨.inr rfl,res1 rfl rfl ⟨rfl,SFp.back⟩⟩⟩
    ·
     refine FW.condF rfl cFr ?_
     refine FW.skip (FW.region ?_)
     refine FL.v (E.move kF9) ?_
     refine FL.v (E.add rfl rfl) ?_
     refine FL.v (E.assign (v:=Value.int .i64 (wr (((iEF:Nat):Int) + 1))) rfl) ?_
     refine FL.nil ?_
     obtain rfl:=Option.some.inj hp
     exact ⟨rfl,⟨_,SFp,iF6,(zap rfl (zaq hxEF) (p2.mono ((i27.tr iEy).tr iF6)).le),kFa,kFb,kFc⟩⟩
   ·
    clear hp hq
    rintro sEF fFD wFC ⟨HFz,SFA,iFB,kFE,kFF,kFG,kFH⟩
    refine FW.seq (FW.seq (FW.region ?_))
    refine FL.v (E.move kFE) ?_
    refine FL.v (E.move kFG) ?_
    refine FL.v (E.lenP te24 rfl p2) ?_
    refine FL.v (E.lss rfl rfl) ?_
    refine FL.nil ?_
    refine FW.condF rfl zax ?_
    refine FW.exit ?_
    exact ⟨nofun,rfl,⟨_,SFA,iFB,kFG⟩⟩
   ·
    clear hq
    intro e fFx wFw hD
    rcases qEF with sEF|xEF
    ·
     obtain ⟨rfl,hD⟩:=hD
     obtain ⟨HFt,SFu,iFv,kFy⟩:=hD
     replace hp:=el_go hp
     refine FW.seq (FW.region ?_)
     refine FL.v (E.move kFy) ?_
     refine FL.v (E.lenP te24 rfl p2) ?_
     refine FL.v (E.gtr rfl rfl) ?_
     refine FL.v (E.assign (v:=Value.bool (decide (0 < (len a2)))) rfl) ?_
     refine FL.nil ?_
     refine FW.ret ?_
     obtain rfl:=Option.some.inj hp
     exact ⟨.inr rfl,res1 rfl rfl ⟨rfl,SFu.back⟩⟩
    ·
     obtain ⟨he,hL⟩:=hD
     replace hp:=el_rt hp
     obtain rfl:=Option.some.inj hp
     subst he
     exact hL
  ·
   obtain ⟨he,hL⟩:=hD
   replace hp:=el_rt hp
   obtain rfl:=Option.some.inj hp
   subst he
   exact hL

theorem w_spec_IsFamily {Ha:GH} {wa:World} (hs:Sl Ha wa) (a0:Cnf) (v0_1:Value) (p0_1:RSl Ha (eL eI 1) 1 v0_1 a0.clauses) (a1:Int) (v2:Value) (a2:List (List Int)) (p2:RSl Ha (eL eI 1) 1 v2 a2) {r:(Bool×Bool)} (hp:(PF.zcW a0 a1 a2)=some r) :
  Calls Tryz.prog 21 #[Value.agg #[Value.int .i64 a0.vars,v0_1],Value.int .i64 a1,v2] wa (Sc Ha wa (Value.tuple #[Value.bool r.1,Value.bool r.2])):=by
 unfold PF.zcW at hp
 have S0:=St.init hs
 refine zae (N:=21) (args:=[Value.agg #[Value.int .i64 a0.vars,v0_1],Value.int .i64 a1,v2]) Tryz.func21 rfl rfl rfl ?_
 refine FW.seq (FW.region ?_)
 obtain ⟨b21,w22,run23,S24⟩:=S0.box (P:=Tryz.prog) 26 [Value.int .i64 a0.vars,v0_1] (v:=Value.agg #[Value.int .i64 a0.vars,v0_1]) rfl (zac rfl (zac p0_1.one zad))
 refine FL.v (E.box rfl run23) ?_
 obtain ⟨H25,S26,i27,at28⟩:=S24.sealBox (i:=0) (l':=[]) rfl rfl
 refine FL.v (E.assign (v:=Value.bool false) rfl) ?_
 refine FL.v (E.assign (v:=Value.bool false) rfl) ?_
 refine FL.nil (FW.seq (FW.seq (FW.region ?_)))
 refine FL.v (E.load rfl (zai Tryz.isAgg26 Tryz.sizeOf26 (at28.now S26.sl) rfl)) ?_
 refine FL.v (E.move (v:=Value.int .i64 a1) rfl) ?_
 obtain ⟨r29,hr30,hp⟩:=bnd hp
 refine FL.call rfl rfl rfl (E.call Tryz.call26 (A2 rfl rfl)) (zc0 S26.sl a0 v0_1 (p0_1.mono i27) a1 hr30) ?_
 rintro e w31 ⟨rfl,r32⟩
 refine ⟨_,rfl,?_⟩
 have S33:=S26.call r32
 refine FL.v (E.not rfl) ?_
 refine FL.nil ?_
 rcases ifB hp with ⟨c34,hp⟩|⟨c34,hp⟩
 ·
  refine FW.condT rfl c34 ?_
  refine FW.seq (FW.region ?_)
  refine FL.v (E.assign (v:=Value.bool false) rfl) ?_
  refine FL.v (E.assign (v:=Value.bool false) rfl) ?_
  refine FL.nil ?_
  refine FW.ret ?_
  obtain rfl:=Option.some.inj hp
  exact ⟨.inr rfl,res2 rfl rfl rfl ⟨rfl,S33.back⟩⟩
 ·
  refine FW.condF rfl c34 ?_
  refine FW.skip (FW.seq (FW.region ?_))
  refine FL.v (E.move (v:=v2) rfl) ?_
  refine FL.v (E.lenP te24 rfl p2) ?_
  refine FL.v (E.leq rfl rfl) ?_
  refine FL.v (E.move (v:=Value.bool (decide ((len a2)≤729))) rfl) ?_
  obtain ⟨t40,hqt40,hp⟩:=bnd hp
  refine FL.cut 5 (fun f w=>∃ H:GH,St Ha wa H w []∧Inc H25 H∧f 20=Value.bool t40) ?_ ?_
  ·
   clear hp;have hp:=hqt40;clear hqt40
   rcases ifB hp with ⟨c46,hp⟩|⟨c46,hp⟩
   ·
    refine FL.val (zab rfl rfl rfl c46) rfl rfl (E.load rfl (zai Tryz.isAgg26 Tryz.sizeOf26 (at28.now S33.sl) rfl)) ?_
    refine FL.val (zab rfl rfl rfl c46) rfl rfl (E.move (v:=Value.int .i64 a1) rfl) ?_
    refine FL.val (zab rfl rfl rfl c46) rfl rfl (E.move (v:=v2) rfl) ?_
    obtain ⟨r47,hr48,hp⟩:=bnd hp
    refine FL.call (zab rfl rfl rfl c46) rfl rfl (E.call Tryz.call40 (A3 rfl rfl rfl)) (w_spec_l13Is S33.sl a0 v0_1 (p0_1.mono i27) a1 v2 a2 (p2.mono i27) hr48) ?_
    rintro e w49 ⟨rfl,r50⟩
    refine ⟨_,rfl,?_⟩
    have S51:=S33.call r50
    obtain rfl:=Option.some.inj hp
    refine FL.v (E.pickT rfl c46 rfl) ?_
    exact FL.nil ⟨rfl,_,S51,(Inc.rfl _),rfl⟩
   ·
    refine FL.skip (wF_no rfl rfl rfl c46) rfl ?_
    refine FL.skip (wF_no rfl rfl rfl c46) rfl ?_
    refine FL.skip (wF_no rfl rfl rfl c46) rfl ?_
    refine FL.skip (wF_no rfl rfl rfl c46) rfl ?_
    obtain rfl:=Option.some.inj hp
    refine FL.v (E.pickF rfl c46 rfl) ?_
    exact FL.nil ⟨rfl,_,S33,(Inc.rfl _),rfl⟩
  rintro f45 w44 ⟨H41,S42,i43,k52⟩
  refine FL.v (E.assign k52) ?_
  refine FL.v (E.assign (v:=Value.bool true) rfl) ?_
  refine FL.nil ?_
  refine FW.ret ?_
  obtain rfl:=Option.some.inj hp
  exact ⟨.inr rfl,res2 rfl rfl rfl ⟨rfl,S42.back⟩⟩

set_option maxHeartbeats 4000000 in
theorem w_laws_FnPebbleFamilies {Ha:GH} {wa:World} (hs:Sl Ha wa) (v0:Value) (a0:List Int) (p0:RSl Ha (eN .u8) 1 v0 a0) {r:Bool} (hp:(PF.zdU a0)=some r) :
  Calls Tryz.prog 3 #[v0] wa (Sc Ha wa (Value.bool r)):=by
 unfold PF.zdU at hp
 have S0:=St.init hs
 refine zae (N:=282) (args:=[v0]) Tryz.func3 rfl rfl rfl ?_
 refine FW.seq (FW.region ?_)
 refine FL.v (E.assign (v:=Value.bool false) rfl) ?_
 refine FL.nil (FW.seq (FW.seq (FW.region ?_)))
 refine FL.v (E.move (v:=v0) rfl) ?_
 refine FL.call rfl rfl rfl (E.call Tryz.call4 (A1 rfl)) (w_laws_vBig S0.sl v0 a0 p0) ?_
 rintro e w21 ⟨rfl,r22⟩
 refine ⟨_,rfl,?_⟩
 have S23:=S0.call r22
 refine FL.nil ?_
 rcases ifB hp with ⟨c24,hp⟩|⟨c24,hp⟩
 ·
  refine FW.condT rfl c24 ?_
  refine FW.seq (FW.region ?_)
  refine FL.v (E.assign (v:=Value.bool true) rfl) ?_
  refine FL.nil ?_
  refine FW.ret ?_
  obtain rfl:=Option.some.inj hp
  exact ⟨.inr rfl,res1 rfl rfl ⟨rfl,S23.back⟩⟩
 ·
  refine FW.condF rfl c24 ?_
  refine FW.skip (FW.seq (FW.region ?_))
  refine FL.v (E.move (v:=v0) rfl) ?_
  obtain ⟨r25,hr26,hp⟩:=bnd hp
  refine FL.call rfl rfl rfl (E.call Tryz.call5 (A1 rfl)) (zfq S23.sl v0 a0 p0 hr26) ?_
  rintro e w28 ⟨H27,v31,rfl,r30,h32⟩
  refine ⟨_,rfl,?_⟩
  have nv33:New Ha [v31]:=New.of_up S23.sl h32.dom
  have h32:=h32.mono (up_le S23.size)
  have S29:=S23.call r30
  refine FL.v (E.move (v:=Value.tuple #[Value.agg #[Value.int .i64 r25.1.vars,v31],Value.int .i64 r25.2]) rfl) ?_
  refine FL.v (E.extract (i:=0) rfl rfl) ?_
  refine FL.v (E.extract (i:=1) rfl rfl) ?_
  obtain ⟨b34,w35,run36,S37⟩:=S29.alloc (P:=Tryz.prog) 26 [Value.int .i64 0,Value.slice none 0 0] Tryz.zeroValue26 rfl (zac rfl (zac rfl zad))
  refine FL.v (E.alloc run36) ?_
  obtain ⟨w38,run39,S40⟩:=S37.store0 (P:=Tryz.prog) (t:=26) (i:=0) (cs':=[Value.int .i64 r25.1.vars,v31]) (l':=[.box b34 26 [Value.int .i64 r25.1.vars,v31]]) (v:=Value.agg #[Value.int .i64 r25.1.vars,v31]) (c:=[Value.int .i64 r25.1.vars,v31]) rfl Tryz.sizeOf26 rfl rfl (zac rfl (zac h32.one zad)) (Nat.le_of_ble_eq_true rfl) rfl rfl
  refine FL.act rfl rfl (E.store rfl rfl run39) ?_
  obtain ⟨H41,S42,i43,at44⟩:=S40.sealBox (i:=0) (l':=[]) rfl rfl
  refine FL.v (E.assign (v:=Value.int .i64 r25.2) rfl) ?_
  refine FL.nil (FW.seq (FW.region ?_))
  refine FL.v (E.load rfl (zai Tryz.isAgg26 Tryz.sizeOf26 (at44.now S42.sl) rfl)) ?_
  refine FL.v (E.move (v:=Value.int .i64 r25.2) rfl) ?_
  obtain ⟨r45,hr46,hp⟩:=bnd hp
  refine FL.call rfl rfl rfl (E.call Tryz.call6 (A2 rfl rfl)) (zfF S42.sl r25.1 v31 (h32.mono (upI.tr i43)) r25.2 hr46) ?_
  rintro e w48 ⟨H47,v51,n52,cs53,rfl,r50,els54⟩
  refine ⟨_,rfl,?_⟩
  have nv55:New H41 cs53:=New.of_up S42.sl els54.dom
  have els54:=els54.mono (up_le S42.size)
  have S49:=S42.join (l':=[.row 34 1 v51 n52 cs53]) r50 rfl
  refine FL.v (E.move (v:=Value.tuple #[v51,Value.bool r45.2]) rfl) ?_
  refine FL.v (E.extract (i:=0) rfl rfl) ?_
  refine FL.v (E.extract (i:=1) rfl rfl) ?_
  refine FL.v (E.assign (v:=v51) rfl) ?_
  refine FL.v (E.assign (v:=Value.bool r45.2) rfl) ?_
  refine FL.nil (FW.seq (FW.seq (FW.region ?_)))
  refine FL.v (E.load rfl (zai Tryz.isAgg26 Tryz.sizeOf26 ((at44.mono r50.run.inc).now S49.sl) rfl)) ?_
  refine FL.v (E.move (v:=Value.int .i64 r25.2) rfl) ?_
  obtain ⟨r56,hr57,hp⟩:=bnd hp
  refine FL.call rfl rfl rfl (E.call Tryz.call7 (A2 rfl rfl)) (zfH S49.sl r25.1 v31 (h32.mono (upI.tr (i43.tr r50.run.inc))) r25.2 hr57) ?_
  rintro e w59 ⟨H58,v62,n63,cs64,rfl,r61,els65,nd66⟩
  refine ⟨_,rfl,?_⟩
  have nv67:New H47 cs64:=New.of_up S49.sl els65.dom
  have els65:=els65.mono (up_le S49.size)
  have S60:=S49.join (l':=[.row 34 1 v62 n63 cs64,.row 34 1 v51 n52 cs53]) r61 rfl
  refine FL.v (E.move (v:=Value.tuple #[v62,Value.bool r56.2]) rfl) ?_
  refine FL.v (E.extract (i:=0) rfl rfl) ?_
  refine FL.v (E.extract (i:=1) rfl rfl) ?_
  refine FL.v (E.assign (v:=v62) rfl) ?_
  refine FL.v (E.assign (v:=Value.bool r56.2) rfl) ?_
  refine FL.nil (FW.seq (FW.region ?_))
  refine FL.v (E.move (v:=Value.bool r45.2) rfl) ?_
  refine FL.v (E.move (v:=Value.bool r56.2) rfl) ?_
  refine FL.v (E.neqB Tryz.runUnderlying4 rfl rfl) ?_
  refine FL.v (E.move (v:=Value.bool (!(r45.2 == r56.2))) rfl) ?_
  obtain ⟨t84,hqt84,hp⟩:=bnd hp
  refine FL.cut 5 (fun f w=>∃ H:GH,St Ha wa H w [.row 34 1 v62 n63 cs64,.row 34 1 v51 n52 cs53]∧Inc H58 H∧f 0=v0∧f 3=Value.pointer (some ⟨b34,0,none⟩)∧f 4=Value.int .i64 r25.2∧f 5=v51∧f 6=Value.bool r45.2∧f 69=Value.bool t84) ?_ ?_
  ·
   clear hp;have hp:=hqt84;clear hqt84
   rcases ifB hp with ⟨c90,hp⟩|⟨c90,hp⟩
   ·
    refine FL.skip (wF_no rfl rfl rfl c90) rfl ?_
    refine FL.skip (wF_no rfl rfl rfl c90) rfl ?_
    refine FL.skip (wF_no rfl rfl rfl c90) rfl ?_
    refine FL.skip (wF_no rfl rfl rfl c90) rfl ?_
    obtain rfl:=Option.some.inj hp
    refine FL.v (E.pickT rfl c90 rfl) ?_
    exact FL.nil ⟨rfl,_,S60,(Inc.rfl _),rfl,rfl,rfl,rfl,rfl,rfl⟩
   ·
    refine FL.val (zab rfl rfl rfl c90) rfl rfl (E.move (v:=v51) rfl) ?_
    refine FL.val (zab rfl rfl rfl c90) rfl rfl (E.move (v:=v62) rfl) ?_
    obtain ⟨H91,S92,i93,h94,nv95⟩:=S60.sealRowU (i:=1) (l':=[.row 34 1 v62 n63 cs64]) rfl (els54.mono (zag r61.run.inc)) (by decide) rfl
    obtain ⟨H96,S97,i98,nsA1,nvA0⟩:=S92.sealRowN (i:=0) (l':=[]) rfl (els65.mono (zag i93)) nd66 (by decide) rfl
    have h99:=nsA1.rsl
    obtain ⟨rA2,hrA3,hp⟩:=bnd hp
    refine FL.call (zab rfl rfl rfl c90) rfl rfl (E.call Tryz.call8 (A2 rfl rfl)) (w_laws_vTable S97.sl v51 r45.1 (h94.mono (upI.tr i98)) v62 r56.1 (h99.mono upI) hrA3) ?_
    rintro e wA4 ⟨rfl,rA5⟩
    refine ⟨_,rfl,?_⟩
    have rA5:=Run.lend (i93.tr i98) S60.sl rA5
    have SA6:=S60.call rA5
    refine FL.val (zab rfl rfl rfl c90) rfl rfl (E.not rfl) ?_
    obtain rfl:=Option.some.inj hp
    refine FL.v (E.pickF rfl c90 rfl) ?_
    exact FL.nil ⟨rfl,_,SA6,(Inc.rfl _),rfl,rfl,rfl,rfl,rfl,rfl⟩
  rintro f89 w88 ⟨H85,S86,i87,kA7,kA8,kA9,kAa,kAb,kAc⟩
  refine FL.nil ?_
  rcases ifB hp with ⟨cAd,hp⟩|⟨cAd,hp⟩
  ·
   refine FW.condT kAc cAd ?_
   refine FW.seq (FW.region ?_)
   refine FL.v (E.assign (v:=Value.bool false) rfl) ?_
   refine FL.nil ?_
   refine FW.ret ?_
   obtain rfl:=Option.some.inj hp
   exact ⟨.inr rfl,res1 rfl rfl ⟨rfl,S86.back⟩⟩
  ·
   refine FW.condF kAc cAd ?_
   refine FW.skip (FW.seq (FW.region ?_))
   refine FL.v (E.load kA8 (zai Tryz.isAgg26 Tryz.sizeOf26 ((at44.mono ((r50.run.inc.tr r61.run.inc).tr i87)).now S86.sl) rfl)) ?_
   refine FL.v (E.move kA9) ?_
   obtain ⟨rAe,hrAf,hp⟩:=bnd hp
   refine FL.call rfl rfl rfl (E.call Tryz.call9 (A2 rfl rfl)) (w_impl_HasFamily S86.sl r25.1 v31 (h32.mono (upI.tr (((i43.tr r50.run.inc).tr r61.run.inc).tr i87))) r25.2 hrAf) ?_
   rintro e wAg ⟨rfl,rAh⟩
   refine ⟨_,rfl,?_⟩
   have SAi:=S86.call rAh
   refine FL.v (E.move (v:=Value.tuple #[Value.bool rAe.1,Value.bool rAe.2]) rfl) ?_
   refine FL.v (E.extract (i:=0) rfl rfl) ?_
   refine FL.v (E.extract (i:=1) rfl rfl) ?_
   refine FL.v (E.assign (v:=Value.bool rAe.1) rfl) ?_
   refine FL.v (E.assign (v:=Value.bool rAe.2) rfl) ?_
   refine FL.nil (FW.seq (FW.seq (FW.region ?_)))
   refine FL.v (E.load kA8 (zai Tryz.isAgg26 Tryz.sizeOf26 ((at44.mono ((r50.run.inc.tr r61.run.inc).tr i87)).now SAi.sl) rfl)) ?_
   refine FL.v (E.move kA9) ?_
   obtain ⟨rAj,hrAk,hp⟩:=bnd hp
   refine FL.call rfl rfl rfl (E.call Tryz.call10 (A2 rfl rfl)) (w_spec_HasFamily SAi.sl r25.1 v31 (h32.mono (upI.tr (((i43.tr r50.run.inc).tr r61.run.inc).tr i87))) r25.2 hrAk) ?_
   rintro e wAl ⟨rfl,rAm⟩
   refine ⟨_,rfl,?_⟩
   have SAn:=SAi.call rAm
   refine FL.v (E.move (v:=Value.tuple #[Value.bool rAj.1,Value.bool rAj.2]) rfl) ?_
   refine FL.v (E.extract (i:=0) rfl rfl) ?_
   refine FL.v (E.extract (i:=1) rfl rfl) ?_
   refine FL.v (E.assign (v:=Value.bool rAj.1) rfl) ?_
   refine FL.v (E.assign (v:=Value.bool rAj.2) rfl) ?_
   refine FL.nil (FW.seq (FW.region ?_))
   refine FL.v (E.move (v:=Value.bool rAe.1) rfl) ?_
   refine FL.v (E.move (v:=Value.bool rAj.1) rfl) ?_
   refine FL.v (E.neqB Tryz.runUnderlying4 rfl rfl) ?_
   refine FL.v (E.move (v:=Value.bool (!(rAe.1 == rAj.1))) rfl) ?_
   refine FL.cut 4 (fun f w=>∃ H:GH,St Ha wa H w [.row 34 1 v62 n63 cs64,.row 34 1 v51 n52 cs53]∧Inc H85 H∧f 0=v0∧f 3=Value.pointer (some ⟨b34,0,none⟩)∧f 4=Value.int .i64 r25.2∧f 5=v51∧f 6=Value.bool r45.2∧f 9=Value.bool rAe.1∧f 10=Value.bool rAe.2∧f 89=Value.bool (bif (!(rAe.1 == rAj.1)) then true else (!(rAe.2 == rAj.2)))) ?_ ?_
   ·
    rcases bcase (!(rAe.1 == rAj.1)) with cAu|cAu
    ·
     refine FL.skip (wF_no rfl rfl rfl cAu) rfl ?_
     refine FL.skip (wF_no rfl rfl rfl cAu) rfl ?_
     refine FL.skip (wF_no rfl rfl rfl cAu) rfl ?_
     refine FL.v (E.pickT rfl cAu rfl) ?_
     exact FL.nil ⟨rfl,_,SAn,(Inc.rfl _),kA7,kA8,kA9,kAa,kAb,rfl,rfl,(congrArg Value.bool (bifT cAu).symm)⟩
    ·
     refine FL.val (zab rfl rfl rfl cAu) rfl rfl (E.move (v:=Value.bool rAe.2) rfl) ?_
     refine FL.val (zab rfl rfl rfl cAu) rfl rfl (E.move (v:=Value.bool rAj.2) rfl) ?_
     refine FL.val (zab rfl rfl rfl cAu) rfl rfl (E.neqB Tryz.runUnderlying4 rfl rfl) ?_
     refine FL.v (E.pickF rfl cAu rfl) ?_
     exact FL.nil ⟨rfl,_,SAn,(Inc.rfl _),kA7,kA8,kA9,kAa,kAb,rfl,rfl,(congrArg Value.bool (bifF cAu).symm)⟩
   rintro fAt wAs ⟨HAp,SAq,iAr,kAv,kAw,kAx,kAy,kAz,kAA,kAB,kAC⟩
   refine FL.v (E.move kAC) ?_
   refine FL.cut 4 (fun f w=>∃ H:GH,St Ha wa H w [.row 34 1 v62 n63 cs64,.row 34 1 v51 n52 cs53]∧Inc HAp H∧f 0=v0∧f 3=Value.pointer (some ⟨b34,0,none⟩)∧f 4=Value.int .i64 r25.2∧f 5=v51∧f 6=Value.bool r45.2∧f 9=Value.bool rAe.1∧f 94=Value.bool (bif (bif (!(rAe.1 == rAj.1)) then true else (!(rAe.2 == rAj.2))) then true else (!(rAe.2 == r45.2)))) ?_ ?_
   ·
    rcases bcase (bif (!(rAe.1 == rAj.1)) then true else (!(rAe.2 == rAj.2))) with cAJ|cAJ
    ·
     refine FL.skip (wF_no rfl rfl rfl cAJ) rfl ?_
     refine FL.skip (wF_no rfl rfl rfl cAJ) rfl ?_
     refine FL.skip (wF_no rfl rfl rfl cAJ) rfl ?_
     refine FL.v (E.pickT rfl cAJ rfl) ?_
     exact FL.nil ⟨rfl,_,SAq,(Inc.rfl _),kAv,kAw,kAx,kAy,kAz,kAA,(congrArg Value.bool (bifT cAJ).symm)⟩
    ·
     refine FL.val (zab rfl rfl rfl cAJ) rfl rfl (E.move kAB) ?_
     refine FL.val (zab rfl rfl rfl cAJ) rfl rfl (E.move kAz) ?_
     refine FL.val (zab rfl rfl rfl cAJ) rfl rfl (E.neqB Tryz.runUnderlying4 rfl rfl) ?_
     refine FL.v (E.pickF rfl cAJ rfl) ?_
     exact FL.nil ⟨rfl,_,SAq,(Inc.rfl _),kAv,kAw,kAx,kAy,kAz,kAA,(congrArg Value.bool (bifF cAJ).symm)⟩
   rintro fAI wAH ⟨HAE,SAF,iAG,kAK,kAL,kAM,kAN,kAO,kAP,kAQ⟩
   refine FL.v (E.move kAQ) ?_
   refine FL.cut 6 (fun f w=>∃ H:GH,St Ha wa H w [.row 34 1 v62 n63 cs64,.row 34 1 v51 n52 cs53]∧Inc HAE H∧f 0=v0∧f 3=Value.pointer (some ⟨b34,0,none⟩)∧f 4=Value.int .i64 r25.2∧f 5=v51∧f 6=Value.bool r45.2∧f 9=Value.bool rAe.1∧f 101=Value.bool (bif (bif (bif (!(rAe.1 == rAj.1)) then true else (!(rAe.2 == rAj.2))) then true else (!(rAe.2 == r45.2))) then true else (!(rAe.1 == (decide (0 < (len r45.1))))))) ?_ ?_
   ·
    rcases bcase (bif (bif (!(rAe.1 == rAj.1)) then true else (!(rAe.2 == rAj.2))) then true else (!(rAe.2 == r45.2))) with cAX|cAX
    ·
     refine FL.skip (wF_no rfl rfl rfl cAX) rfl ?_
     refine FL.skip (wF_no rfl rfl rfl cAX) rfl ?_
     refine FL.skip (wF_no rfl rfl rfl cAX) rfl ?_
     refine FL.skip (wF_no rfl rfl rfl cAX) rfl ?_
     refine FL.skip (wF_no rfl rfl rfl cAX) rfl ?_
     refine FL.v (E.pickT rfl cAX rfl) ?_
     exact FL.nil ⟨rfl,_,SAF,(Inc.rfl _),kAK,kAL,kAM,kAN,kAO,kAP,(congrArg Value.bool (bifT cAX).symm)⟩
    ·
     refine FL.val (zab rfl rfl rfl cAX) rfl rfl (E.move kAP) ?_
     refine FL.val (zab rfl rfl rfl cAX) rfl rfl (E.move kAN) ?_
     refine FL.val (zab rfl rfl rfl cAX) rfl rfl (E.lenO te24 rfl SAF (i:=1) rfl els54 (by decide)) ?_
     refine FL.val (zab rfl rfl rfl cAX) rfl rfl (E.gtr rfl rfl) ?_
     refine FL.val (zab rfl rfl rfl cAX) rfl rfl (E.neqB Tryz.runUnderlying4 rfl rfl) ?_
     refine FL.v (E.pickF rfl cAX rfl) ?_
     exact FL.nil ⟨rfl,_,SAF,(Inc.rfl _),kAK,kAL,kAM,kAN,kAO,kAP,(congrArg Value.bool (bifF cAX).symm)⟩
   rintro fAW wAV ⟨HAS,SAT,iAU,kAY,kAZ,kB0,kB1,kB2,kB3,kB4⟩
   refine FL.nil ?_
   rcases ifB hp with ⟨cB5,hp⟩|⟨cB5,hp⟩
   ·
    refine FW.condT kB4 cB5 ?_
    refine FW.seq (FW.region ?_)
    refine FL.v (E.assign (v:=Value.bool false) rfl) ?_
    refine FL.nil ?_
    refine FW.ret ?_
    obtain rfl:=Option.some.inj hp
    exact ⟨.inr rfl,res1 rfl rfl ⟨rfl,SAT.back⟩⟩
   ·
    refine FW.condF kB4 cB5 ?_
    refine FW.skip (FW.seq (FW.region ?_))
    refine FL.v (E.load kAZ (zai Tryz.isAgg26 Tryz.sizeOf26 ((at44.mono (((((r50.run.inc.tr r61.run.inc).tr i87).tr iAr).tr iAG).tr iAU)).now SAT.sl) rfl)) ?_
    refine FL.v (E.move kB0) ?_
    obtain ⟨rB6,hrB7,hp⟩:=bnd hp
    refine FL.call rfl rfl rfl (E.call Tryz.call11 (A2 rfl rfl)) (zfK SAT.sl r25.1 v31 (h32.mono (upI.tr ((((((i43.tr r50.run.inc).tr r61.run.inc).tr i87).tr iAr).tr iAG).tr iAU))) r25.2 hrB7) ?_
    rintro e wB8 ⟨rfl,rB9⟩
    refine ⟨_,rfl,?_⟩
    have SBa:=SAT.call rB9
    refine FL.v (E.move (v:=Value.tuple #[Value.bool rB6.1,Value.bool rB6.2]) rfl) ?_
    refine FL.v (E.extract (i:=0) rfl rfl) ?_
    refine FL.v (E.extract (i:=1) rfl rfl) ?_
    refine FL.v (E.assign (v:=Value.bool rB6.1) rfl) ?_
    refine FL.v (E.assign (v:=Value.bool rB6.2) rfl) ?_
    refine FL.nil (FW.seq (FW.seq (FW.region ?_)))
    refine FL.v (E.move (v:=Value.bool rB6.2) rfl) ?_
    refine FL.v (E.move kB2) ?_
    refine FL.v (E.neqB Tryz.runUnderlying4 rfl rfl) ?_
    refine FL.v (E.move (v:=Value.bool (!(rB6.2 == r45.2))) rfl) ?_
    refine FL.cut 7 (fun f w=>∃ H:GH,St Ha wa H w [.row 34 1 v62 n63 cs64,.row 34 1 v51 n52 cs53]∧Inc HAS H∧f 0=v0∧f 3=Value.pointer (some ⟨b34,0,none⟩)∧f 4=Value.int .i64 r25.2∧f 5=v51∧f 6=Value.bool r45.2∧f 9=Value.bool rAe.1∧f 118=Value.bool (bif (!(rB6.2 == r45.2)) then true else (bif r45.2 then (rB6.1 == rAe.1) else false))) ?_ ?_
    ·
     rcases bcase (!(rB6.2 == r45.2)) with cBw|cBw
     ·
      refine FL.skip (wF_no rfl rfl rfl cBw) rfl ?_
      refine FL.skip (wF_no rfl rfl rfl cBw) rfl ?_
      refine FL.skip (zar rfl rfl rfl) rfl ?_
      refine FL.skip (zar rfl rfl rfl) rfl ?_
      refine FL.skip (zar rfl rfl rfl) rfl ?_
      refine FL.skip (wF_no rfl rfl rfl cBw) rfl ?_
      refine FL.v (E.pickT rfl cBw rfl) ?_
      exact FL.nil ⟨rfl,_,SBa,(Inc.rfl _),kAY,kAZ,kB0,kB1,kB2,kB3,(congrArg Value.bool (bifT cBw).symm)⟩
     ·
      refine FL.val (zab rfl rfl rfl cBw) rfl rfl (E.move kB2) ?_
      refine FL.val (zab rfl rfl rfl cBw) rfl rfl (E.move (v:=Value.bool r45.2) rfl) ?_
      refine FL.cut 4 (fun f w=>∃ H:GH,St Ha wa H w [.row 34 1 v62 n63 cs64,.row 34 1 v51 n52 cs53]∧Inc HAS H∧f 0=v0∧f 3=Value.pointer (some ⟨b34,0,none⟩)∧f 4=Value.int .i64 r25.2∧f 5=v51∧f 6=Value.bool r45.2∧f 9=Value.bool rAe.1∧f 111=Value.bool (!(rB6.2 == r45.2))∧f 117=Value.bool (bif r45.2 then (rB6.1 == rAe.1) else false)) ?_ ?_
      ·
       rcases bcase r45.2 with cBD|cBD
       ·
        refine FL.val (zab rfl rfl rfl cBD) rfl rfl (E.move (v:=Value.bool rB6.1) rfl) ?_
        refine FL.val (zab rfl rfl rfl cBD) rfl rfl (E.move kB3) ?_
        refine FL.val (zab rfl rfl rfl cBD) rfl rfl (E.eqlB Tryz.runUnderlying4 rfl rfl) ?_
        refine FL.val (zab rfl rfl rfl cBw) rfl rfl (E.pickT rfl cBD rfl) ?_
        exact FL.nil ⟨rfl,_,SBa,(Inc.rfl _),kAY,kAZ,kB0,kB1,kB2,kB3,rfl,(congrArg Value.bool (bifT cBD).symm)⟩
       ·
        refine FL.skip (wF_no rfl rfl rfl cBD) rfl ?_
        refine FL.skip (wF_no rfl rfl rfl cBD) rfl ?_
        refine FL.skip (wF_no rfl rfl rfl cBD) rfl ?_
        refine FL.val (zab rfl rfl rfl cBw) rfl rfl (E.pickF rfl cBD rfl) ?_
        exact FL.nil ⟨rfl,_,SBa,(Inc.rfl _),kAY,kAZ,kB0,kB1,kB2,kB3,rfl,(congrArg Value.bool (bifF cBD).symm)⟩
      rintro fBC wBB ⟨HBy,SBz,iBA,kBE,kBF,kBG,kBH,kBI,kBJ,kBK,kBL⟩
      refine FL.v (E.pickF kBK cBw kBL) ?_
      exact FL.nil ⟨rfl,_,SBz,iBA,kBE,kBF,kBG,kBH,kBI,kBJ,(congrArg Value.bool (bifF cBw).symm)⟩
    rintro fBv wBu ⟨HBr,SBs,iBt,kBM,kBN,kBO,kBP,kBQ,kBR,kBS⟩
    refine FL.nil ?_
    rcases ifB hp with ⟨cBT,hp⟩|⟨cBT,hp⟩
    ·
     refine FW.condT kBS cBT ?_
     refine FW.seq (FW.region ?_)
     refine FL.v (E.assign (v:=Value.bool false) rfl) ?_
     refine FL.nil ?_
     refine FW.ret ?_
     obtain rfl:=Option.some.inj hp
     exact ⟨.inr rfl,res1 rfl rfl ⟨rfl,SBs.back⟩⟩
    ·
     refine FW.condF kBS cBT ?_
     refine FW.skip (FW.seq (FW.region ?_))
     refine FL.v (E.load kBN (zai Tryz.isAgg26 Tryz.sizeOf26 ((at44.mono ((((((r50.run.inc.tr r61.run.inc).tr i87).tr iAr).tr iAG).tr iAU).tr iBt)).now SBs.sl) rfl)) ?_
     refine FL.v (E.move kBO) ?_
     obtain ⟨rBU,hrBV,hp⟩:=bnd hp
     refine FL.call rfl rfl rfl (E.call Tryz.call12 (A2 rfl rfl)) (zfM SBs.sl r25.1 v31 (h32.mono (upI.tr (((((((i43.tr r50.run.inc).tr r61.run.inc).tr i87).tr iAr).tr iAG).tr iAU).tr iBt))) r25.2 hrBV) ?_
     rintro e wBX ⟨HBW,vC0,nC1,csC2,rfl,rBZ,elsC3,ndC4⟩
     refine ⟨_,rfl,?_⟩
     have nvC5:New HBr csC2:=New.of_up SBs.sl elsC3.dom
     have elsC3:=elsC3.mono (up_le SBs.size)
     have SBY:=SBs.join (l':=[.row 34 1 vC0 nC1 csC2,.row 34 1 v62 n63 cs64,.row 34 1 v51 n52 cs53]) rBZ rfl
     refine FL.v (E.move (v:=Value.tuple #[vC0,Value.bool rBU.2]) rfl) ?_
     refine FL.v (E.extract (i:=0) rfl rfl) ?_
     refine FL.v (E.extract (i:=1) rfl rfl) ?_
     refine FL.v (E.assign (v:=vC0) rfl) ?_
     refine FL.v (E.assign (v:=Value.bool rBU.2) rfl) ?_
     refine FL.nil (FW.seq (FW.seq (FW.region ?_)))
     refine FL.v (E.load kBN (zai Tryz.isAgg26 Tryz.sizeOf26 ((at44.mono (((((((r50.run.inc.tr r61.run.inc).tr i87).tr iAr).tr iAG).tr iAU).tr iBt).tr rBZ.run.inc)).now SBY.sl) rfl)) ?_
     refine FL.v (E.move kBO) ?_
     obtain ⟨rC6,hrC7,hp⟩:=bnd hp
     refine FL.call rfl rfl rfl (E.call Tryz.call13 (A2 rfl rfl)) (zfO SBY.sl r25.1 v31 (h32.mono (upI.tr ((((((((i43.tr r50.run.inc).tr r61.run.inc).tr i87).tr iAr).tr iAG).tr iAU).tr iBt).tr rBZ.run.inc))) r25.2 hrC7) ?_
     rintro e wC9 ⟨HC8,vCc,rfl,rCb,hCd⟩
     refine ⟨_,rfl,?_⟩
     have SCa:=SBY.call rCb
     refine FL.v (E.move (v:=Value.tuple #[vCc,Value.bool rC6.2]) rfl) ?_
     refine FL.v (E.extract (i:=0) rfl rfl) ?_
     refine FL.v (E.extract (i:=1) rfl rfl) ?_
     refine FL.v (E.assign (v:=vCc) rfl) ?_
     refine FL.v (E.assign (v:=Value.bool rC6.2) rfl) ?_
     refine FL.nil (FW.seq (FW.region ?_))
     refine FL.v (E.move (v:=Value.bool rBU.2) rfl) ?_
     refine FL.v (E.move (v:=Value.bool rC6.2) rfl) ?_
     refine FL.v (E.neqB Tryz.runUnderlying4 rfl rfl) ?_
     refine FL.v (E.move (v:=Value.bool (!(rBU.2 == rC6.2))) rfl) ?_
     refine FL.cut 4 (fun f w=>∃ H:GH,St Ha wa H w [.row 34 1 vC0 nC1 csC2,.row 34 1 v62 n63 cs64,.row 34 1 v51 n52 cs53]∧Inc HC8 H∧f 0=v0∧f 3=Value.pointer (some ⟨b34,0,none⟩)∧f 4=Value.int .i64 r25.2∧f 5=v51∧f 6=Value.bool r45.2∧f 9=Value.bool rAe.1∧f 15=vC0∧f 17=vCc∧f 138=Value.bool (bif (!(rBU.2 == rC6.2)) then true else (!(rBU.2 == r45.2)))) ?_ ?_
     ·
      rcases bcase (!(rBU.2 == rC6.2)) with cCk|cCk
      ·
       refine FL.skip (wF_no rfl rfl rfl cCk) rfl ?_
       refine FL.skip (wF_no rfl rfl rfl cCk) rfl ?_
       refine FL.skip (wF_no rfl rfl rfl cCk) rfl ?_
       refine FL.v (E.pickT rfl cCk rfl) ?_
       exact FL.nil ⟨rfl,_,SCa,(Inc.rfl _),kBM,kBN,kBO,kBP,kBQ,kBR,rfl,rfl,(congrArg Value.bool (bifT cCk).symm)⟩
      ·
       refine FL.val (zab rfl rfl rfl cCk) rfl rfl (E.move (v:=Value.bool rBU.2) rfl) ?_
       refine FL.val (zab rfl rfl rfl cCk) rfl rfl (E.move kBQ) ?_
       refine FL.val (zab rfl rfl rfl cCk) rfl rfl (E.neqB Tryz.runUnderlying4 rfl rfl) ?_
       refine FL.v (E.pickF rfl cCk rfl) ?_
       exact FL.nil ⟨rfl,_,SCa,(Inc.rfl _),kBM,kBN,kBO,kBP,kBQ,kBR,rfl,rfl,(congrArg Value.bool (bifF cCk).symm)⟩
     rintro fCj wCi ⟨HCf,SCg,iCh,kCl,kCm,kCn,kCo,kCp,kCq,kCr,kCs,kCt⟩
     refine FL.v (E.move kCt) ?_
     obtain ⟨t265,hqtCF,hp⟩:=bnd hp
     refine FL.cut 5 (fun f w=>∃ H:GH,St Ha wa H w [.row 34 1 vC0 nC1 csC2,.row 34 1 v62 n63 cs64,.row 34 1 v51 n52 cs53]∧Inc HCf H∧f 0=v0∧f 3=Value.pointer (some ⟨b34,0,none⟩)∧f 4=Value.int .i64 r25.2∧f 5=v51∧f 6=Value.bool r45.2∧f 9=Value.bool rAe.1∧f 15=vC0∧f 144=Value.bool t265) ?_ ?_
     ·
      clear hp;have hp:=hqtCF;clear hqtCF
      rcases ifB hp with ⟨cCL,hp⟩|⟨cCL,hp⟩
      ·
       refine FL.skip (wF_no rfl rfl rfl cCL) rfl ?_
       refine FL.skip (wF_no rfl rfl rfl cCL) rfl ?_
       refine FL.skip (wF_no rfl rfl rfl cCL) rfl ?_
       refine FL.skip (wF_no rfl rfl rfl cCL) rfl ?_
       obtain rfl:=Option.some.inj hp
       refine FL.v (E.pickT rfl cCL rfl) ?_
       exact FL.nil ⟨rfl,_,SCg,(Inc.rfl _),kCl,kCm,kCn,kCo,kCp,kCq,kCr,rfl⟩
      ·
       refine FL.val (zab rfl rfl rfl cCL) rfl rfl (E.move kCr) ?_
       refine FL.val (zab rfl rfl rfl cCL) rfl rfl (E.move kCs) ?_
       obtain ⟨HCM,SCN,iCO,nsCR,nvCQ⟩:=SCg.sealRowN (i:=0) (l':=[.row 34 1 v62 n63 cs64,.row 34 1 v51 n52 cs53]) rfl (elsC3.mono (zag (rCb.inc.tr iCh))) ndC4 (by decide) rfl
       have hCP:=nsCR.rsl
       obtain ⟨rCS,hrCT,hp⟩:=bnd hp
       refine FL.call (zab rfl rfl rfl cCL) rfl rfl (E.call Tryz.call8 (A2 rfl rfl)) (w_laws_vTable SCN.sl vC0 rBU.1 (hCP.mono upI) vCc rC6.1 (hCd.mono (iCh.tr iCO)) hrCT) ?_
       rintro e wCU ⟨rfl,rCV⟩
       refine ⟨_,rfl,?_⟩
       have rCV:=Run.lend iCO SCg.sl rCV
       have SCW:=SCg.call rCV
       refine FL.val (zab rfl rfl rfl cCL) rfl rfl (E.not rfl) ?_
       obtain rfl:=Option.some.inj hp
       refine FL.v (E.pickF rfl cCL rfl) ?_
       exact FL.nil ⟨rfl,_,SCW,(Inc.rfl _),kCl,kCm,kCn,kCo,kCp,kCq,kCr,rfl⟩
     rintro fCK wCJ ⟨HCG,SCH,iCI,kCX,kCY,kCZ,kD0,kD1,kD2,kD3,kD4⟩
     refine FL.nil ?_
     rcases ifB hp with ⟨cD5,hp⟩|⟨cD5,hp⟩
     ·
      refine FW.condT kD4 cD5 ?_
      refine FW.seq (FW.region ?_)
      refine FL.v (E.assign (v:=Value.bool false) rfl) ?_
      refine FL.nil ?_
      refine FW.ret ?_
      obtain rfl:=Option.some.inj hp
      exact ⟨.inr rfl,res1 rfl rfl ⟨rfl,SCH.back⟩⟩
     ·
      refine FW.condF kD4 cD5 ?_
      refine FW.skip (FW.seq (FW.region ?_))
      refine FL.v (E.load kCY (zai Tryz.isAgg26 Tryz.sizeOf26 ((at44.mono ((((((((((r50.run.inc.tr r61.run.inc).tr i87).tr iAr).tr iAG).tr iAU).tr iBt).tr rBZ.run.inc).tr rCb.inc).tr iCh).tr iCI)).now SCH.sl) rfl)) ?_
      refine FL.v (E.move kCZ) ?_
      obtain ⟨rD6,hrD7,hp⟩:=bnd hp
      refine FL.call rfl rfl rfl (E.call Tryz.call14 (A2 rfl rfl)) (zfQ SCH.sl r25.1 v31 (h32.mono (upI.tr (((((((((((i43.tr r50.run.inc).tr r61.run.inc).tr i87).tr iAr).tr iAG).tr iAU).tr iBt).tr rBZ.run.inc).tr rCb.inc).tr iCh).tr iCI))) r25.2 hrD7) ?_
      rintro e wD9 ⟨HD8,vDc,nDd,csDe,rfl,rDb,elsDf⟩
      refine ⟨_,rfl,?_⟩
      have elsDf:=elsDf.mono (up_le SCH.size)
      have SDa:=SCH.join (l':=[.row 3 1 vDc nDd csDe,.row 34 1 vC0 nC1 csC2,.row 34 1 v62 n63 cs64,.row 34 1 v51 n52 cs53]) rDb rfl
      refine FL.v (E.move (v:=Value.tuple #[vDc,Value.bool rD6.2]) rfl) ?_
      refine FL.v (E.extract (i:=0) rfl rfl) ?_
      refine FL.v (E.extract (i:=1) rfl rfl) ?_
      refine FL.v (E.assign (v:=vDc) rfl) ?_
      refine FL.v (E.assign (v:=Value.bool rD6.2) rfl) ?_
      refine FL.nil (FW.seq (FW.seq (FW.region ?_)))
      refine FL.v (E.load kCY (zai Tryz.isAgg26 Tryz.sizeOf26 ((at44.mono (((((((((((r50.run.inc.tr r61.run.inc).tr i87).tr iAr).tr iAG).tr iAU).tr iBt).tr rBZ.run.inc).tr rCb.inc).tr iCh).tr iCI).tr rDb.run.inc)).now SDa.sl) rfl)) ?_
      refine FL.v (E.move kCZ) ?_
      obtain ⟨rDg,hrDh,hp⟩:=bnd hp
      refine FL.call rfl rfl rfl (E.call Tryz.call15 (A2 rfl rfl)) (zfS SDa.sl r25.1 v31 (h32.mono (upI.tr ((((((((((((i43.tr r50.run.inc).tr r61.run.inc).tr i87).tr iAr).tr iAG).tr iAU).tr iBt).tr rBZ.run.inc).tr rCb.inc).tr iCh).tr iCI).tr rDb.run.inc))) r25.2 hrDh) ?_
      rintro e wDj ⟨HDi,vDm,rfl,rDl,hDn⟩
      refine ⟨_,rfl,?_⟩
      have nvDo:New HD8 [vDm]:=New.of_up SDa.sl hDn.dom
      have hDn:=hDn.mono (up_le SDa.size)
      have SDk:=SDa.call rDl
      refine FL.v (E.move (v:=Value.tuple #[vDm,Value.bool rDg.2]) rfl) ?_
      refine FL.v (E.extract (i:=0) rfl rfl) ?_
      refine FL.v (E.extract (i:=1) rfl rfl) ?_
      refine FL.v (E.assign (v:=vDm) rfl) ?_
      refine FL.v (E.assign (v:=Value.bool rDg.2) rfl) ?_
      refine FL.nil (FW.seq (FW.region ?_))
      refine FL.v (E.move (v:=Value.bool rD6.2) rfl) ?_
      refine FL.v (E.move (v:=Value.bool rDg.2) rfl) ?_
      refine FL.v (E.neqB Tryz.runUnderlying4 rfl rfl) ?_
      refine FL.v (E.move (v:=Value.bool (!(rD6.2 == rDg.2))) rfl) ?_
      refine FL.cut 4 (fun f w=>∃ H:GH,St Ha wa H w [.row 3 1 vDc nDd csDe,.row 34 1 vC0 nC1 csC2,.row 34 1 v62 n63 cs64,.row 34 1 v51 n52 cs53]∧Inc HDi H∧f 0=v0∧f 3=Value.pointer (some ⟨b34,0,none⟩)∧f 4=Value.int .i64 r25.2∧f 5=v51∧f 6=Value.bool r45.2∧f 9=Value.bool rAe.1∧f 15=vC0∧f 19=vDc∧f 21=vDm∧f 164=Value.bool (bif (!(rD6.2 == rDg.2)) then true else (!(rD6.2 == r45.2)))) ?_ ?_
      ·
       rcases bcase (!(rD6.2 == rDg.2)) with cDv|cDv
       ·
        refine FL.skip (wF_no rfl rfl rfl cDv) rfl ?_
        refine FL.skip (wF_no rfl rfl rfl cDv) rfl ?_
        refine FL.skip (wF_no rfl rfl rfl cDv) rfl ?_
        refine FL.v (E.pickT rfl cDv rfl) ?_
        exact FL.nil ⟨rfl,_,SDk,(Inc.rfl _),kCX,kCY,kCZ,kD0,kD1,kD2,kD3,rfl,rfl,(congrArg Value.bool (bifT cDv).symm)⟩
       ·
        refine FL.val (zab rfl rfl rfl cDv) rfl rfl (E.move (v:=Value.bool rD6.2) rfl) ?_
        refine FL.val (zab rfl rfl rfl cDv) rfl rfl (E.move kD1) ?_
        refine FL.val (zab rfl rfl rfl cDv) rfl rfl (E.neqB Tryz.runUnderlying4 rfl rfl) ?_
        refine FL.v (E.pickF rfl cDv rfl) ?_
        exact FL.nil ⟨rfl,_,SDk,(Inc.rfl _),kCX,kCY,kCZ,kD0,kD1,kD2,kD3,rfl,rfl,(congrArg Value.bool (bifF cDv).symm)⟩
      rintro fDu wDt ⟨HDq,SDr,iDs,kDw,kDx,kDy,kDz,kDA,kDB,kDC,kDD,kDE,kDF⟩
      refine FL.v (E.move kDF) ?_
      obtain ⟨t338,hqtDQ,hp⟩:=bnd hp
      refine FL.cut 5 (fun f w=>∃ H:GH,St Ha wa H w [.row 3 1 vDc nDd csDe,.row 34 1 vC0 nC1 csC2,.row 34 1 v62 n63 cs64,.row 34 1 v51 n52 cs53]∧Inc HDq H∧f 0=v0∧f 3=Value.pointer (some ⟨b34,0,none⟩)∧f 4=Value.int .i64 r25.2∧f 5=v51∧f 6=Value.bool r45.2∧f 9=Value.bool rAe.1∧f 15=vC0∧f 19=vDc∧f 170=Value.bool t338) ?_ ?_
      ·
       clear hp;have hp:=hqtDQ;clear hqtDQ
       rcases ifB hp with ⟨cDW,hp⟩|⟨cDW,hp⟩
       ·
        refine FL.skip (wF_no rfl rfl rfl cDW) rfl ?_
        refine FL.skip (wF_no rfl rfl rfl cDW) rfl ?_
        refine FL.skip (wF_no rfl rfl rfl cDW) rfl ?_
        refine FL.skip (wF_no rfl rfl rfl cDW) rfl ?_
        obtain rfl:=Option.some.inj hp
        refine FL.v (E.pickT rfl cDW rfl) ?_
        exact FL.nil ⟨rfl,_,SDr,(Inc.rfl _),kDw,kDx,kDy,kDz,kDA,kDB,kDC,kDD,rfl⟩
       ·
        refine FL.val (zab rfl rfl rfl cDW) rfl rfl (E.move kDD) ?_
        refine FL.val (zab rfl rfl rfl cDW) rfl rfl (E.move kDE) ?_
        obtain ⟨HDX,SDY,iDZ,hE0,nvE1⟩:=SDr.sealRowU (i:=0) (l':=[.row 34 1 vC0 nC1 csC2,.row 34 1 v62 n63 cs64,.row 34 1 v51 n52 cs53]) rfl (elsDf.mono (zag (rDl.inc.tr iDs))) (by decide) rfl
        obtain ⟨rE2,hrE3,hp⟩:=bnd hp
        refine FL.call (zab rfl rfl rfl cDW) rfl rfl (E.call Tryz.call16 (A2 rfl rfl)) (w_laws_vInts SDY.sl vDc rD6.1 (hE0.mono upI) vDm rDg.1 (hDn.mono (upI.tr (iDs.tr iDZ))) hrE3) ?_
        rintro e wE4 ⟨rfl,rE5⟩
        refine ⟨_,rfl,?_⟩
        have rE5:=Run.lend iDZ SDr.sl rE5
        have SE6:=SDr.call rE5
        refine FL.val (zab rfl rfl rfl cDW) rfl rfl (E.not rfl) ?_
        obtain rfl:=Option.some.inj hp
        refine FL.v (E.pickF rfl cDW rfl) ?_
        exact FL.nil ⟨rfl,_,SE6,(Inc.rfl _),kDw,kDx,kDy,kDz,kDA,kDB,kDC,kDD,rfl⟩
      rintro fDV wDU ⟨HDR,SDS,iDT,kE7,kE8,kE9,kEa,kEb,kEc,kEd,kEe,kEf⟩
      refine FL.nil ?_
      rcases ifB hp with ⟨cEg,hp⟩|⟨cEg,hp⟩
      ·
       refine FW.condT kEf cEg ?_
       refine FW.seq (FW.region ?_)
       refine FL.v (E.assign (v:=Value.bool false) rfl) ?_
       refine FL.nil ?_
       refine FW.ret ?_
       obtain rfl:=Option.some.inj hp
       exact ⟨.inr rfl,res1 rfl rfl ⟨rfl,SDS.back⟩⟩
      ·
       refine FW.condF kEf cEg ?_
       refine FW.skip (FW.seq (FW.region ?_))
       refine FL.v (E.move kEd) ?_
       refine FL.v (E.lenO te24 rfl SDS (i:=1) rfl elsC3 (by decide)) ?_
       refine FL.v (E.assign (v:=Value.int .i64 (len rBU.1)) rfl) ?_
       refine FL.nil (FW.seq (FW.seq (FW.region ?_)))
       refine FL.v (E.assign (v:=Value.int .i64 0) rfl) ?_
       refine FL.nil ?_
       obtain ⟨qEh,hq,hp⟩:=bndR hp
       refine FW.block ?_
       refine FW.mono (FW.iter (S:=(Int×Int)) (X:=Empty) (fun (sEh:(Int×Int)) f w=>∃ H:GH,St Ha wa H w [.row 3 1 vDc nDd csDe,.row 34 1 vC0 nC1 csC2,.row 34 1 v51 n52 cs53]∧Inc HDR H∧f 0=v0∧f 3=Value.pointer (some ⟨b34,0,none⟩)∧f 4=Value.int .i64 r25.2∧f 5=v51∧f 6=Value.bool r45.2∧f 9=Value.bool rAe.1∧f 15=vC0∧f 19=vDc∧f 23=Value.int .i64 sEh.1∧f 24=Value.int .i64 sEh.2) (fun (q:Rs (Int×Int) Empty) e f w=>match q with|.go sEh=>e=Exit.exit 0∧(∃ H:GH,St Ha wa H w [.row 3 1 vDc nDd csDe,.row 34 1 vC0 nC1 csC2,.row 34 1 v51 n52 cs53]∧Inc HDR H∧f 0=v0∧f 3=Value.pointer (some ⟨b34,0,none⟩)∧f 4=Value.int .i64 r25.2∧f 5=v51∧f 6=Value.bool r45.2∧f 9=Value.bool rAe.1∧f 15=vC0∧f 23=Value.int .i64 sEh.1)|.rt x=>x.elim) hq ⟨_,(SDS.sel [0,1,3] (by decide) rfl),(Inc.rfl _),kE7,kE8,kE9,kEa,kEb,kEc,kEd,kEe,rfl,rfl⟩ ?_) ?_
       ·
        clear hp hq
        rintro sEh fEK wEJ ⟨HEG,SEH,iEI,kEL,kEM,kEN,kEO,kEP,kEQ,kER,kES,kET,kEU⟩ oF4 hp
        refine FW.seq (FW.seq (FW.region ?_))
        refine FL.v (E.move kEU) ?_
        refine FL.v (E.move kES) ?_
        refine FL.v (E.lenO te34 rfl SEH (i:=0) rfl elsDf (by decide)) ?_
        refine FL.v (E.lss rfl rfl) ?_
        refine FL.nil ?_
        rcases ifB hp with ⟨cEV,hp⟩|⟨cEV,hp⟩
        ·
         refine FW.condT rfl cEV ?_
         refine FW.skip (FW.seq (FW.block (FW.region ?_)))
         refine FL.v (E.move kET) ?_
         refine FL.v (E.move kES) ?_
         refine FL.v (E.move kEU) ?_
         obtain ⟨xF2,hxF3,hp⟩:=bnd hp
         obtain ⟨pEW,csEX,ptEY,lEZ,atF0,relF1⟩:=SEH.row_at (i:=0) rfl elsDf (by decide) hxF3
         obtain rfl:=zam relF1
         refine FL.v (E.indexAddr te34 rfl rfl ptEY) ?_
         refine FL.v (E.load rfl (zaf Tryz.isAgg3 atF0 rfl)) ?_
         refine FL.v (E.sub rfl rfl) ?_
         refine FL.v (E.assign (v:=Value.int .i64 (wr (sEh.1 - xF2))) rfl) ?_
         refine FL.nil (FW.region ?_)
         refine FL.v (E.move kEU) ?_
         refine FL.v (E.add rfl rfl) ?_
         refine FL.v (E.assign (v:=Value.int .i64 (wr (sEh.2 + 1))) rfl) ?_
         refine FL.nil ?_
         obtain rfl:=Option.some.inj hp
         exact ⟨rfl,⟨_,SEH,iEI,kEL,kEM,kEN,kEO,kEP,kEQ,kER,kES,rfl,rfl⟩⟩
        ·
         refine FW.condF rfl cEV ?_
         refine FW.exit ?_
         obtain rfl:=Option.some.inj hp
         exact ⟨nofun,rfl,⟨_,SEH,iEI,kEL,kEM,kEN,kEO,kEP,kEQ,kER,kET⟩⟩
       ·
        clear hq
        intro e fF9 wF8 hD
        rcases qEh with sEh|xEh
        ·
         obtain ⟨rfl,hD⟩:=hD
         obtain ⟨HF5,SF6,iF7,kFa,kFb,kFc,kFd,kFe,kFf,kFg,kFh⟩:=hD
         replace hp:=el_go hp
         refine FW.seq (FW.seq (FW.region ?_))
         refine FL.v (E.move kFh) ?_
         refine FL.v (E.move kFd) ?_
         refine FL.v (E.lenO te24 rfl SF6 (i:=2) rfl els54 (by decide)) ?_
         refine FL.v (E.neq rfl rfl) ?_
         refine FL.nil ?_
         rcases ifB hp with ⟨cFi,hp⟩|⟨cFi,hp⟩
         ·
          refine FW.condT rfl cFi ?_
          refine FW.seq (FW.region ?_)
          refine FL.v (E.assign (v:=Value.bool false) rfl) ?_
          refine FL.nil ?_
          refine FW.ret ?_
          obtain rfl:=Option.some.inj hp
          exact ⟨.inr rfl,res1 rfl rfl ⟨rfl,SF6.back⟩⟩
         ·
          refine FW.condF rfl cFi ?_
          refine FW.skip (FW.seq (FW.region ?_))
          refine FL.v (E.load kFb (zai Tryz.isAgg26 Tryz.sizeOf26 ((at44.mono (((((((((((((((r50.run.inc.tr r61.run.inc).tr i87).tr iAr).tr iAG).tr iAU).tr iBt).tr rBZ.run.inc).tr rCb.inc).tr iCh).tr iCI).tr rDb.run.inc).tr rDl.inc).tr iDs).tr iDT).tr iF7)).now SF6.sl) rfl)) ?_
          refine FL.v (E.move kFc) ?_
          obtain ⟨rFj,hrFk,hp⟩:=bnd hp
          refine FL.call rfl rfl rfl (E.call Tryz.call17 (A2 rfl rfl)) (w_impl_ClosureAt SF6.sl r25.1 v31 (h32.mono (upI.tr ((((((((((((((((i43.tr r50.run.inc).tr r61.run.inc).tr i87).tr iAr).tr iAG).tr iAU).tr iBt).tr rBZ.run.inc).tr rCb.inc).tr iCh).tr iCI).tr rDb.run.inc).tr rDl.inc).tr iDs).tr iDT).tr iF7))) r25.2 hrFk) ?_
          rintro e wFm ⟨HFl,vFp,nFq,csFr,rfl,rFo,elsFs⟩
          refine ⟨_,rfl,?_⟩
          have SFn:=SF6.join (l':=[.row 34 1 vFp nFq csFr,.row 3 1 vDc nDd csDe,.row 34 1 vC0 nC1 csC2,.row 34 1 v51 n52 cs53]) rFo rfl
          refine FL.v (E.move (v:=Value.tuple #[vFp,Value.bool rFj.2]) rfl) ?_
          refine FL.v (E.extract (i:=0) rfl rfl) ?_
          refine FL.v (E.extract (i:=1) rfl rfl) ?_
          refine FL.v (E.assign (v:=vFp) rfl) ?_
          refine FL.v (E.assign (v:=Value.bool rFj.2) rfl) ?_
          refine FL.nil (FW.seq (FW.seq (FW.region ?_)))
          refine FL.v (E.move kFe) ?_
          refine FL.v (E.move (v:=Value.bool r45.2) rfl) ?_
          refine FL.cut 2 (fun f w=>∃ H:GH,St Ha wa H w [.row 34 1 vFp nFq csFr,.row 3 1 vDc nDd csDe,.row 34 1 vC0 nC1 csC2,.row 34 1 v51 n52 cs53]∧Inc HFl H∧f 0=v0∧f 3=Value.pointer (some ⟨b34,0,none⟩)∧f 4=Value.int .i64 r25.2∧f 5=v51∧f 9=Value.bool rAe.1∧f 15=vC0∧f 25=vFp∧f 198=Value.bool (bif r45.2 then rFj.2 else false)) ?_ ?_
          ·
           rcases bcase r45.2 with cFz|cFz
           ·
            refine FL.val (zab rfl rfl rfl cFz) rfl rfl (E.move (v:=Value.bool rFj.2) rfl) ?_
            refine FL.v (E.pickT rfl cFz rfl) ?_
            exact FL.nil ⟨rfl,_,SFn,(Inc.rfl _),kFa,kFb,kFc,kFd,kFf,kFg,rfl,(congrArg Value.bool (bifT cFz).symm)⟩
           ·
            refine FL.skip (wF_no rfl rfl rfl cFz) rfl ?_
            refine FL.v (E.pickF rfl cFz rfl) ?_
            exact FL.nil ⟨rfl,_,SFn,(Inc.rfl _),kFa,kFb,kFc,kFd,kFf,kFg,rfl,(congrArg Value.bool (bifF cFz).symm)⟩
          rintro fFy wFx ⟨HFu,SFv,iFw,kFA,kFB,kFC,kFD,kFE,kFF,kFG,kFH⟩
          refine FL.nil ?_
          obtain ⟨qIf,hq,hp⟩:=bndR hp
          refine FW.joinE (S:=Unit) (X:=Bool) (q:=qIf) (fun sIe f w=>∃ H:GH,St Ha wa H w [.row 34 1 v51 n52 cs53]∧Inc HFu H∧f 0=v0∧f 3=Value.pointer (some ⟨b34,0,none⟩)∧f 4=Value.int .i64 r25.2∧f 5=v51∧f 9=Value.bool rAe.1) (fun x e f w=>(e=Exit.ret)∧(fun e f w=>(e=Exit.normal∨e=Exit.ret)∧∀ a,Fr (δ:=[]) 282 a f→∃ v,(results Tryz.f3 a.tmps).run Tryz.prog w=.ok v w∧(Sc Ha wa (Value.bool x)) (.returned v) w) e f w) ?_ ?_ ?_
          ·
           clear hp;have hp:=hq;clear hq
           rcases ifB hp with ⟨cIh,hp⟩|⟨cIh,hp⟩
           ·
            refine FW.condT kFH cIh ?_
            refine FW.seq (FW.region ?_)
            refine FL.v (E.assign (v:=Value.int .i64 0) rfl) ?_
            refine FL.nil (FW.seq (FW.seq (FW.region ?_)))
            refine FL.v (E.assign (v:=Value.int .i64 0) rfl) ?_
            refine FL.nil ?_
            obtain ⟨qIi,hq,hp⟩:=bndR hp
            refine FW.block ?_
            refine FW.mono (FW.iter (S:=(Int×Int)) (X:=Empty) (fun (sIi:(Int×Int)) f w=>∃ H:GH,St Ha wa H w [.row 34 1 vFp nFq csFr,.row 34 1 vC0 nC1 csC2,.row 34 1 v51 n52 cs53]∧Inc HFu H∧f 0=v0∧f 3=Value.pointer (some ⟨b34,0,none⟩)∧f 4=Value.int .i64 r25.2∧f 5=v51∧f 9=Value.bool rAe.1∧f 15=vC0∧f 25=vFp∧f 27=Value.int .i64 sIi.1∧f 28=Value.int .i64 sIi.2) (fun (q:Rs (Int×Int) Empty) e f w=>match q with|.go sIi=>e=Exit.exit 2∧(∃ H:GH,St Ha wa H w [.row 34 1 vFp nFq csFr,.row 34 1 vC0 nC1 csC2,.row 34 1 v51 n52 cs53]∧Inc HFu H∧f 0=v0∧f 3=Value.pointer (some ⟨b34,0,none⟩)∧f 4=Value.int .i64 r25.2∧f 5=v51∧f 9=Value.bool rAe.1∧f 27=Value.int .i64 sIi.1)|.rt x=>x.elim) hq ⟨_,(SFv.sel [0,2,3] (by decide) rfl),(Inc.rfl _),kFA,kFB,kFC,kFD,kFE,kFF,kFG,rfl,rfl⟩ ?_) ?_
            ·
             clear hp hq
             rintro sIi fKr wKq ⟨HKn,SKo,iKp,kKs,kKt,kKu,kKv,kKw,kKx,kKy,kKz,kKA⟩ oNu hp
             refine FW.seq (FW.seq (FW.region ?_))
             refine FL.v (E.move kKA) ?_
             refine FL.v (E.move kKx) ?_
             refine FL.v (E.lenO te24 rfl SKo (i:=1) rfl elsC3 (by decide)) ?_
             refine FL.v (E.lss rfl rfl) ?_
             refine FL.nil ?_
             rcases ifB hp with ⟨cKB,hp⟩|⟨cKB,hp⟩
             ·
              refine FW.condT rfl cKB ?_
              refine FW.skip (FW.seq (FW.block (FW.seq (FW.region ?_))))
              refine FL.v (E.assign (v:=Value.bool true) rfl) ?_
              refine FL.nil (FW.seq (FW.seq (FW.region ?_)))
              refine FL.v (E.assign (v:=Value.int .i64 0) rfl) ?_
              refine FL.nil ?_
              obtain ⟨qKC,hq,hp⟩:=bndR hp
              refine FW.block ?_
              refine FW.mono (FW.iter (S:=(Bool×Int)) (X:=Empty) (fun (sKC:(Bool×Int)) f w=>∃ H:GH,St Ha wa H w [.row 34 1 vFp nFq csFr,.row 34 1 vC0 nC1 csC2,.row 34 1 v51 n52 cs53]∧Inc HKn H∧f 0=v0∧f 3=Value.pointer (some ⟨b34,0,none⟩)∧f 4=Value.int .i64 r25.2∧f 5=v51∧f 9=Value.bool rAe.1∧f 15=vC0∧f 25=vFp∧f 27=Value.int .i64 sIi.1∧f 28=Value.int .i64 sIi.2∧f 29=Value.bool sKC.1∧f 30=Value.int .i64 sKC.2) (fun (q:Rs (Bool×Int) Empty) e f w=>match q with|.go sKC=>e=Exit.exit 4∧(∃ H:GH,St Ha wa H w [.row 34 1 vFp nFq csFr,.row 34 1 vC0 nC1 csC2,.row 34 1 v51 n52 cs53]∧Inc HKn H∧f 0=v0∧f 3=Value.pointer (some ⟨b34,0,none⟩)∧f 4=Value.int .i64 r25.2∧f 5=v51∧f 9=Value.bool rAe.1∧f 15=vC0∧f 25=vFp∧f 27=Value.int .i64 sIi.1∧f 28=Value.int .i64 sIi.2∧f 29=Value.bool sKC.1)|.rt x=>x.elim) hq ⟨_,SKo,(Inc.rfl _),kKs,kKt,kKu,kKv,kKw,kKx,kKy,kKz,kKA,rfl,rfl⟩ ?_) ?_
              ·
               clear hp hq
               rintro sKC fLZ wLY ⟨HLV,SLW,iLX,kM0,kM1,kM2,kM3,kM4,kM5,kM6,kM7,kM8,kM9,kMa⟩ oNd hp
               refine FW.seq (FW.seq (FW.region ?_))
               refine FL.v (E.move kMa) ?_
               refine FL.v (E.move kM6) ?_
               refine FL.v (E.lenO te24 rfl SLW (i:=0) rfl elsFs (by decide)) ?_
               refine FL.v (E.lss rfl rfl) ?_
               refine FL.v (E.move (v:=Value.bool (decide (sKC.2 < (len rFj.1)))) rfl) ?_
               refine FL.cut 2 (fun f w=>∃ H:GH,St Ha wa H w [.row 34 1 vFp nFq csFr,.row 34 1 vC0 nC1 csC2,.row 34 1 v51 n52 cs53]∧Inc HLV H∧f 0=v0∧f 3=Value.pointer (some ⟨b34,0,none⟩)∧f 4=Value.int .i64 r25.2∧f 5=v51∧f 9=Value.bool rAe.1∧f 15=vC0∧f 25=vFp∧f 27=Value.int .i64 sIi.1∧f 28=Value.int .i64 sIi.2∧f 29=Value.bool sKC.1∧f 30=Value.int .i64 sKC.2∧f 211=Value.bool (bif (decide (sKC.2 < (len rFj.1))) then sKC.1 else false)) ?_ ?_
               ·
                rcases bcase (decide (sKC.2 < (len rFj.1))) with cMh|cMh
                ·
                 refine FL.val (zab rfl rfl rfl cMh) rfl rfl (E.move kM9) ?_
                 refine FL.v (E.pickT rfl cMh rfl) ?_
                 exact FL.nil ⟨rfl,_,SLW,(Inc.rfl _),kM0,kM1,kM2,kM3,kM4,kM5,kM6,kM7,kM8,kM9,kMa,(congrArg Value.bool (bifT cMh).symm)⟩
                ·
                 refine FL.skip (wF_no rfl rfl rfl cMh) rfl ?_
                 refine FL.v (E.pickF rfl cMh rfl) ?_
                 exact FL.nil ⟨rfl,_,SLW,(Inc.rfl _),kM0,kM1,kM2,kM3,kM4,kM5,kM6,kM7,kM8,kM9,kMa,(congrArg Value.bool (bifF cMh).symm)⟩
               rintro fMg wMf ⟨HMc,SMd,iMe,kMi,kMj,kMk,kMl,kMm,kMn,kMo,kMp,kMq,kMr,kMs,kMt⟩
               refine FL.nil ?_
               rcases ifB hp with ⟨cMu,hp⟩|⟨cMu,hp⟩
               ·
                refine FW.condT kMt cMu ?_
                refine FW.skip (FW.seq (FW.block (FW.seq ?_)))
                refine FW.draw (fun w'=>Run wMf.heap.size HMc wMf HMc w') (by kernel_rfl) (by kernel_rfl) (zaG SMd.sl) ?_
                refine FD.val rfl rfl rfl (fun w' hw'=>(E.fieldAddr zaC kMj)) ?_
                refine FD.val rfl rfl rfl (fun w' hw'=>(E.load rfl (zah Tryz.isAgg3 ((at44.mono ((((((((((((((((((((r50.run.inc.tr r61.run.inc).tr i87).tr iAr).tr iAG).tr iAU).tr iBt).tr rBZ.run.inc).tr rCb.inc).tr iCh).tr iCI).tr rDb.run.inc).tr rDl.inc).tr iDs).tr iDT).tr iF7).tr rFo.run.inc).tr iFw).tr iKp).tr iLX).tr iMe)).now (SMd.call hw').sl) rfl))) ?_
                refine FD.val rfl rfl rfl (fun w' hw'=>(E.move kMo)) ?_
                refine FD.val rfl rfl rfl (fun w' hw'=>(E.move kMs)) ?_
                obtain ⟨xMC,hxMD,hp⟩:=bnd hp
                obtain ⟨pMw,csMx,ptMy,lMz,atMA,relMB⟩:=SMd.row_at (i:=0) rfl elsFs (by decide) hxMD
                obtain ⟨vME,rfl,hMF⟩:=zav relMB
                refine FD.val rfl rfl rfl (fun w' hw'=>(E.indexAddr te24 rfl rfl ptMy)) ?_
                refine FD.val rfl rfl rfl (fun w' hw'=>(E.load rfl (zaf Tryz.isAgg34 (atMA.cls hw') rfl))) ?_
                refine FD.val rfl rfl rfl (fun w' hw'=>(E.move kMn)) ?_
                refine FD.val rfl rfl rfl (fun w' hw'=>(E.move kMq)) ?_
                obtain ⟨xMM,hxMN,hp⟩:=bnd hp
                obtain ⟨pMG,csMH,ptMI,lMJ,atMK,relML⟩:=SMd.row_at (i:=1) rfl elsC3 (by decide) hxMN
                obtain ⟨vMO,rfl,hMP⟩:=zav relML
                refine FD.val rfl rfl rfl (fun w' hw'=>(E.indexAddr te24 rfl rfl ptMI)) ?_
                refine FD.val rfl rfl rfl (fun w' hw'=>(E.load rfl (zaf Tryz.isAgg34 (atMK.cls hw') rfl))) ?_
                obtain ⟨rMQ,hrMR,hp⟩:=bnd hp
                refine FD.call rfl rfl rfl (fun w' hw'=>(E.call Tryz.call18 (A3 rfl rfl rfl))) (fun w' hw'=>Calls.cls hw' (zfV (SMd.call hw').sl r25.1.vars vME xMC (hMF.mono (((iFw.tr iKp).tr iLX).tr iMe)) vMO xMM (hMP.mono (upI.tr ((((((((((((rCb.inc.tr iCh).tr iCI).tr rDb.run.inc).tr rDl.inc).tr iDs).tr iDT).tr iF7).tr rFo.run.inc).tr iFw).tr iKp).tr iLX).tr iMe))) hrMR)) ?_
                refine FD.val rfl rfl rfl (fun w' hw'=>(E.move (v:=Value.tuple #[Value.int .i64 rMQ.1,Value.bool rMQ.2]) rfl)) ?_
                refine FD.val rfl rfl rfl (fun w' hw'=>(E.extract (i:=0) rfl rfl)) ?_
                refine FD.val rfl rfl rfl (fun w' hw'=>(E.extract (i:=1) rfl rfl)) ?_
                refine FD.val rfl rfl rfl (fun w' hw'=>(E.assign (v:=Value.int .i64 rMQ.1) rfl)) ?_
                refine FD.val rfl rfl rfl (fun w' hw'=>(E.assign (v:=Value.bool rMQ.2) rfl)) ?_
                refine FD.nil ?_
                intro wMS rMU
                have SMT:=SMd.call rMU
                refine FW.region ?_
                refine FL.v (E.move (v:=Value.bool rMQ.2) rfl) ?_
                refine FL.v (E.move (v:=Value.bool rMQ.2) rfl) ?_
                refine FL.cut 3 (fun f w=>∃ H:GH,St Ha wa H w [.row 34 1 vFp nFq csFr,.row 34 1 vC0 nC1 csC2,.row 34 1 v51 n52 cs53]∧Inc HMc H∧f 0=v0∧f 3=Value.pointer (some ⟨b34,0,none⟩)∧f 4=Value.int .i64 r25.2∧f 5=v51∧f 9=Value.bool rAe.1∧f 15=vC0∧f 25=vFp∧f 27=Value.int .i64 sIi.1∧f 28=Value.int .i64 sIi.2∧f 30=Value.int .i64 sKC.2∧f 232=Value.bool (bif rMQ.2 then (decide ((-1) < rMQ.1)) else false)) ?_ ?_
                ·
                 rcases bcase rMQ.2 with cN1|cN1
                 ·
                  refine FL.val (zab rfl rfl rfl cN1) rfl rfl (E.move (v:=Value.int .i64 rMQ.1) rfl) ?_
                  refine FL.val (zab rfl rfl rfl cN1) rfl rfl (E.gtr rfl rfl) ?_
                  refine FL.v (E.pickT rfl cN1 rfl) ?_
                  exact FL.nil ⟨rfl,_,SMT,(Inc.rfl _),kMi,kMj,kMk,kMl,kMm,kMn,kMo,kMp,kMq,kMs,(congrArg Value.bool (bifT cN1).symm)⟩
                 ·
                  refine FL.skip (wF_no rfl rfl rfl cN1) rfl ?_
                  refine FL.skip (wF_no rfl rfl rfl cN1) rfl ?_
                  refine FL.v (E.pickF rfl cN1 rfl) ?_
                  exact FL.nil ⟨rfl,_,SMT,(Inc.rfl _),kMi,kMj,kMk,kMl,kMm,kMn,kMo,kMp,kMq,kMs,(congrArg Value.bool (bifF cN1).symm)⟩
                rintro fN0 wMZ ⟨HMW,SMX,iMY,kN2,kN3,kN4,kN5,kN6,kN7,kN8,kN9,kNa,kNb,kNc⟩
                refine FL.v (E.assign kNc) ?_
                refine FL.nil (FW.region ?_)
                refine FL.v (E.move kNb) ?_
                refine FL.v (E.add rfl rfl) ?_
                refine FL.v (E.assign (v:=Value.int .i64 (wr (sKC.2 + 1))) rfl) ?_
                refine FL.nil ?_
                obtain rfl:=Option.some.inj hp
                exact ⟨rfl,⟨_,SMX,((iLX.tr iMe).tr iMY),kN2,kN3,kN4,kN5,kN6,kN7,kN8,kN9,kNa,rfl,rfl⟩⟩
               ·
                refine FW.condF kMt cMu ?_
                refine FW.exit ?_
                obtain rfl:=Option.some.inj hp
                exact ⟨nofun,rfl,⟨_,SMd,(iLX.tr iMe),kMi,kMj,kMk,kMl,kMm,kMn,kMo,kMp,kMq,kMr⟩⟩
              ·
               clear hq
               intro e fNi wNh hD
               rcases qKC with sKC|xKC
               ·
                obtain ⟨rfl,hD⟩:=hD
                obtain ⟨HNe,SNf,iNg,kNj,kNk,kNl,kNm,kNn,kNo,kNp,kNq,kNr,kNs⟩:=hD
                replace hp:=el_go hp
                refine FW.seq (FW.region ?_)
                refine FL.v (E.move kNs) ?_
                refine FL.nil ?_
                rcases ifB hp with ⟨cNt,hp⟩|⟨cNt,hp⟩
                ·
                 refine FW.condT rfl cNt ?_
                 refine FW.region ?_
                 refine FL.v (E.move kNq) ?_
                 refine FL.v (E.add rfl rfl) ?_
                 refine FL.v (E.assign (v:=Value.int .i64 (wr (sIi.1 + 1))) rfl) ?_
                 refine FL.nil (FW.region ?_)
                 refine FL.v (E.move kNr) ?_
                 refine FL.v (E.add rfl rfl) ?_
                 refine FL.v (E.assign (v:=Value.int .i64 (wr (sIi.2 + 1))) rfl) ?_
                 refine FL.nil ?_
                 obtain rfl:=Option.some.inj hp
                 exact ⟨rfl,⟨_,SNf,(iKp.tr iNg),kNj,kNk,kNl,kNm,kNn,kNo,kNp,rfl,rfl⟩⟩
                ·
                 refine FW.condF rfl cNt ?_
                 refine FW.skip (FW.region ?_)
                 refine FL.v (E.move kNr) ?_
                 refine FL.v (E.add rfl rfl) ?_
                 refine FL.v (E.assign (v:=Value.int .i64 (wr (sIi.2 + 1))) rfl) ?_
                 refine FL.nil ?_
                 obtain rfl:=Option.some.inj hp
                 exact ⟨rfl,⟨_,SNf,(iKp.tr iNg),kNj,kNk,kNl,kNm,kNn,kNo,kNp,kNq,rfl⟩⟩
               ·
                exact xKC.elim
             ·
              refine FW.condF rfl cKB ?_
              refine FW.exit ?_
              obtain rfl:=Option.some.inj hp
              exact ⟨nofun,rfl,⟨_,SKo,iKp,kKs,kKt,kKu,kKv,kKw,kKz⟩⟩
            ·
             clear hq
             intro e fNz wNy hD
             rcases qIi with sIi|xIi
             ·
              obtain ⟨rfl,hD⟩:=hD
              obtain ⟨HNv,SNw,iNx,kNA,kNB,kNC,kND,kNE,kNF⟩:=hD
              replace hp:=el_go hp
              refine FW.seq (FW.region ?_)
              refine FL.v (E.move kNF) ?_
              refine FL.v (E.move kND) ?_
              refine FL.v (E.lenO te24 rfl SNw (i:=2) rfl els54 (by decide)) ?_
              refine FL.v (E.neq rfl rfl) ?_
              refine FL.nil ?_
              rcases ifB hp with ⟨cNG,hp⟩|⟨cNG,hp⟩
              ·
               refine FW.condT rfl cNG ?_
               refine FW.seq (FW.region ?_)
               refine FL.v (E.assign (v:=Value.bool false) rfl) ?_
               refine FL.nil ?_
               refine FW.ret ?_
               obtain rfl:=Option.some.inj hp
               exact ⟨nofun,rfl,⟨.inr rfl,res1 rfl rfl ⟨rfl,SNw.back⟩⟩⟩
              ·
               refine FW.condF rfl cNG ?_
               refine FW.skip ?_
               obtain rfl:=Option.some.inj hp
               exact ⟨rfl,⟨_,(SNw.sel [2] (by decide) rfl),iNx,kNA,kNB,kNC,kND,kNE⟩⟩
             ·
              exact xIi.elim
           ·
            refine FW.condF kFH cIh ?_
            refine FW.skip ?_
            obtain rfl:=Option.some.inj hp
            exact ⟨rfl,⟨_,(SFv.sel [3] (by decide) rfl),(Inc.rfl _),kFA,kFB,kFC,kFD,kFE⟩⟩
          ·
           rintro sIe rfl fNL wNK ⟨HNH,SNI,iNJ,kNM,kNN,kNO,kNP,kNQ⟩
           replace hp:=el_go hp
           refine FW.seq (FW.seq (FW.region ?_))
           refine FL.v (E.move kNQ) ?_
           refine FL.nil ?_
           obtain ⟨qOd,hq,hp⟩:=bndR hp
           refine FW.joinE (S:=Unit) (X:=Bool) (q:=qOd) (fun sOc f w=>∃ H:GH,St Ha wa H w []∧Inc HNH H∧f 0=v0) (fun x e f w=>(e=Exit.ret)∧(fun e f w=>(e=Exit.normal∨e=Exit.ret)∧∀ a,Fr (δ:=[]) 282 a f→∃ v,(results Tryz.f3 a.tmps).run Tryz.prog w=.ok v w∧(Sc Ha wa (Value.bool x)) (.returned v) w) e f w) ?_ ?_ ?_
           ·
            clear hp;have hp:=hq;clear hq
            rcases ifB hp with ⟨cOf,hp⟩|⟨cOf,hp⟩
            ·
             refine FW.condT rfl cOf ?_
             refine FW.seq (FW.region ?_)
             refine FL.v (E.load kNN (zai Tryz.isAgg26 Tryz.sizeOf26 ((at44.mono ((((((((((((((((((r50.run.inc.tr r61.run.inc).tr i87).tr iAr).tr iAG).tr iAU).tr iBt).tr rBZ.run.inc).tr rCb.inc).tr iCh).tr iCI).tr rDb.run.inc).tr rDl.inc).tr iDs).tr iDT).tr iF7).tr rFo.run.inc).tr iFw).tr iNJ)).now SNI.sl) rfl)) ?_
             refine FL.v (E.move kNO) ?_
             refine FL.v (E.move kNP) ?_
             obtain ⟨HOg,SOh,iOi,hOj,nvOk⟩:=SNI.sealRowU (i:=0) (l':=[]) rfl (els54.mono (zag (((((((((((((((((r61.run.inc.tr i87).tr iAr).tr iAG).tr iAU).tr iBt).tr rBZ.run.inc).tr rCb.inc).tr iCh).tr iCI).tr rDb.run.inc).tr rDl.inc).tr iDs).tr iDT).tr iF7).tr rFo.run.inc).tr iFw).tr iNJ))) (by decide) rfl
             obtain ⟨rOl,hrOm,hp⟩:=bnd hp
             refine FL.call rfl rfl rfl (E.call Tryz.call19 (A3 rfl rfl rfl)) (ze9 SOh.sl r25.1 v31 (h32.mono (upI.tr ((((((((((((((((((((i43.tr r50.run.inc).tr r61.run.inc).tr i87).tr iAr).tr iAG).tr iAU).tr iBt).tr rBZ.run.inc).tr rCb.inc).tr iCh).tr iCI).tr rDb.run.inc).tr rDl.inc).tr iDs).tr iDT).tr iF7).tr rFo.run.inc).tr iFw).tr iNJ).tr iOi))) r25.2 v51 r45.1 (hOj.mono upI) hrOm) ?_
             rintro e wOn ⟨rfl,rOo⟩
             refine ⟨_,rfl,?_⟩
             have rOo:=Run.lend iOi SNI.sl rOo
             have SOp:=SNI.call rOo
             refine FL.v (E.move (v:=Value.tuple #[Value.bool rOl.1,Value.bool rOl.2]) rfl) ?_
             refine FL.v (E.extract (i:=0) rfl rfl) ?_
             refine FL.v (E.extract (i:=1) rfl rfl) ?_
             refine FL.v (E.assign (v:=Value.bool rOl.1) rfl) ?_
             refine FL.v (E.assign (v:=Value.bool rOl.2) rfl) ?_
             refine FL.nil (FW.seq (FW.region ?_))
             refine FL.v (E.move (v:=Value.bool rOl.2) rfl) ?_
             refine FL.v (E.not rfl) ?_
             refine FL.v (E.move (v:=Value.bool (!rOl.2)) rfl) ?_
             refine FL.cut 3 (fun f w=>∃ H:GH,St Ha wa H w [.row 34 1 v51 n52 cs53]∧Inc HNH H∧f 0=v0∧f 253=Value.bool (bif (!rOl.2) then true else (!rOl.1))) ?_ ?_
             ·
              rcases bcase (!rOl.2) with c68|c68
              ·
               refine FL.skip (wF_no rfl rfl rfl c68) rfl ?_
               refine FL.skip (wF_no rfl rfl rfl c68) rfl ?_
               refine FL.v (E.pickT rfl c68 rfl) ?_
               exact FL.nil ⟨rfl,_,SOp,(Inc.rfl _),kNM,(congrArg Value.bool (bifT c68).symm)⟩
              ·
               refine FL.val (zab rfl rfl rfl c68) rfl rfl (E.move (v:=Value.bool rOl.1) rfl) ?_
               refine FL.val (zab rfl rfl rfl c68) rfl rfl (E.not rfl) ?_
               refine FL.v (E.pickF rfl c68 rfl) ?_
               exact FL.nil ⟨rfl,_,SOp,(Inc.rfl _),kNM,(congrArg Value.bool (bifF c68).symm)⟩
             rintro fOv wOu ⟨HOr,SOs,iOt,k69,k70⟩
             refine FL.nil ?_
             rcases ifB hp with ⟨c71,hp⟩|⟨c71,hp⟩
             ·
              refine FW.condT k70 c71 ?_
              refine FW.seq (FW.region ?_)
              refine FL.v (E.assign (v:=Value.bool false) rfl) ?_
              refine FL.nil ?_
              refine FW.ret ?_
              obtain rfl:=Option.some.inj hp
              exact ⟨nofun,rfl,⟨.inr rfl,res1 rfl rfl ⟨rfl,SOs.back⟩⟩⟩
             ·
              refine FW.condF k70 c71 ?_
              refine FW.skip ?_
              obtain rfl:=Option.some.inj hp
              exact ⟨rfl,⟨_,(SOs.sel [] (by decide) rfl),iOt,k69⟩⟩
            ·
             refine FW.condF rfl cOf ?_
             refine FW.skip ?_
             obtain rfl:=Option.some.inj hp
             exact ⟨rfl,⟨_,(SNI.sel [] (by decide) rfl),(Inc.rfl _),kNM⟩⟩
           ·
            rintro sOc rfl f76 w75 ⟨H72,S73,i74,k77⟩
            replace hp:=el_go hp
            refine FW.seq (FW.region ?_)
            refine FL.v (E.move k77) ?_
            obtain ⟨r78,hr79,hp⟩:=bnd hp
            refine FL.call rfl rfl rfl (E.call Tryz.call20 (A1 rfl)) (zf3 S73.sl v0 a0 (p0.mono (((((((((((((((((((((r30.inc.tr i43).tr r50.run.inc).tr r61.run.inc).tr i87).tr iAr).tr iAG).tr iAU).tr iBt).tr rBZ.run.inc).tr rCb.inc).tr iCh).tr iCI).tr rDb.run.inc).tr rDl.inc).tr iDs).tr iDT).tr iF7).tr rFo.run.inc).tr iFw).tr iNJ).tr i74)) hr79) ?_
            rintro e w81 ⟨H80,vAo,vBb,rfl,r83,hAD,hBc⟩
            refine ⟨_,rfl,?_⟩
            have nvAR:New H72 [vAo]:=New.of_up S73.sl hAD.dom
            have hAD:=hAD.mono (up_le S73.size)
            have S82:=S73.call r83
            refine FL.v (E.move (v:=Value.tuple #[Value.agg #[Value.int .i64 r78.1.vars,vAo],Value.int .i64 r78.2.1,vBb]) rfl) ?_
            refine FL.v (E.extract (i:=0) rfl rfl) ?_
            refine FL.v (E.extract (i:=1) rfl rfl) ?_
            refine FL.v (E.extract (i:=2) rfl rfl) ?_
            obtain ⟨bBd,wBe,runBf,SBg⟩:=S82.alloc (P:=Tryz.prog) 26 [Value.int .i64 0,Value.slice none 0 0] Tryz.zeroValue26 rfl (zac rfl (zac rfl zad))
            refine FL.v (E.alloc runBf) ?_
            obtain ⟨wBh,runBi,SBj⟩:=SBg.store0 (P:=Tryz.prog) (t:=26) (i:=0) (cs':=[Value.int .i64 r78.1.vars,vAo]) (l':=[.box bBd 26 [Value.int .i64 r78.1.vars,vAo]]) (v:=Value.agg #[Value.int .i64 r78.1.vars,vAo]) (c:=[Value.int .i64 r78.1.vars,vAo]) rfl Tryz.sizeOf26 rfl rfl (zac rfl (zac hAD.one zad)) (Nat.le_of_ble_eq_true rfl) rfl rfl
            refine FL.act rfl rfl (E.store rfl rfl runBi) ?_
            obtain ⟨HBk,SBl,iBm,atBn⟩:=SBj.sealBox (i:=0) (l':=[]) rfl rfl
            refine FL.v (E.assign (v:=Value.int .i64 r78.2.1) rfl) ?_
            refine FL.v (E.assign (v:=vBb) rfl) ?_
            refine FL.nil (FW.seq (FW.region ?_))
            refine FL.v (E.load rfl (zai Tryz.isAgg26 Tryz.sizeOf26 (atBn.now SBl.sl) rfl)) ?_
            refine FL.v (E.move (v:=Value.int .i64 r78.2.1) rfl) ?_
            refine FL.v (E.move (v:=vBb) rfl) ?_
            obtain ⟨rBo,hrBp,hp⟩:=bnd hp
            refine FL.call rfl rfl rfl (E.call Tryz.call19 (A3 rfl rfl rfl)) (ze9 SBl.sl r78.1 vAo (hAD.mono (upI.tr iBm)) r78.2.1 vBb r78.2.2 (hBc.mono iBm) hrBp) ?_
            rintro e wBq ⟨rfl,rBx⟩
            refine ⟨_,rfl,?_⟩
            have SCe:=SBl.call rBx
            refine FL.v (E.move (v:=Value.tuple #[Value.bool rBo.1,Value.bool rBo.2]) rfl) ?_
            refine FL.v (E.extract (i:=0) rfl rfl) ?_
            refine FL.v (E.extract (i:=1) rfl rfl) ?_
            refine FL.v (E.assign (v:=Value.bool rBo.1) rfl) ?_
            refine FL.v (E.assign (v:=Value.bool rBo.2) rfl) ?_
            refine FL.nil (FW.seq (FW.region ?_))
            refine FL.v (E.load rfl (zai Tryz.isAgg26 Tryz.sizeOf26 (atBn.now SCe.sl) rfl)) ?_
            refine FL.v (E.move (v:=Value.int .i64 r78.2.1) rfl) ?_
            refine FL.v (E.move (v:=vBb) rfl) ?_
            obtain ⟨rCu,hrCv,hp⟩:=bnd hp
            refine FL.call rfl rfl rfl (E.call Tryz.call21 (A3 rfl rfl rfl)) (w_spec_IsFamily SCe.sl r78.1 vAo (hAD.mono (upI.tr iBm)) r78.2.1 vBb r78.2.2 (hBc.mono iBm) hrCv) ?_
            rintro e wCw ⟨rfl,rCx⟩
            refine ⟨_,rfl,?_⟩
            have SCy:=SCe.call rCx
            refine FL.v (E.move (v:=Value.tuple #[Value.bool rCu.1,Value.bool rCu.2]) rfl) ?_
            refine FL.v (E.extract (i:=0) rfl rfl) ?_
            refine FL.v (E.extract (i:=1) rfl rfl) ?_
            refine FL.v (E.assign (v:=Value.bool rCu.1) rfl) ?_
            refine FL.v (E.assign (v:=Value.bool rCu.2) rfl) ?_
            refine FL.nil (FW.seq (FW.region ?_))
            refine FL.v (E.move (v:=Value.bool rBo.1) rfl) ?_
            refine FL.v (E.move (v:=Value.bool rCu.1) rfl) ?_
            refine FL.v (E.eqlB Tryz.runUnderlying4 rfl rfl) ?_
            refine FL.v (E.move (v:=Value.bool (rBo.1 == rCu.1)) rfl) ?_
            refine FL.cut 4 (fun f w=>∃ H:GH,St Ha wa H w []∧Inc HBk H∧f 281=Value.bool (bif (rBo.1 == rCu.1) then (rBo.2 == rCu.2) else false)) ?_ ?_
            ·
             rcases bcase (rBo.1 == rCu.1) with cCE|cCE
             ·
              refine FL.val (zab rfl rfl rfl cCE) rfl rfl (E.move (v:=Value.bool rBo.2) rfl) ?_
              refine FL.val (zab rfl rfl rfl cCE) rfl rfl (E.move (v:=Value.bool rCu.2) rfl) ?_
              refine FL.val (zab rfl rfl rfl cCE) rfl rfl (E.eqlB Tryz.runUnderlying4 rfl rfl) ?_
              refine FL.v (E.pickT rfl cCE rfl) ?_
              exact FL.nil ⟨rfl,_,SCy,(Inc.rfl _),(congrArg Value.bool (bifT cCE).symm)⟩
             ·
              refine FL.skip (wF_no rfl rfl rfl cCE) rfl ?_
              refine FL.skip (wF_no rfl rfl rfl cCE) rfl ?_
              refine FL.skip (wF_no rfl rfl rfl cCE) rfl ?_
              refine FL.v (E.pickF rfl cCE rfl) ?_
              exact FL.nil ⟨rfl,_,SCy,(Inc.rfl _),(congrArg Value.bool (bifF cCE).symm)⟩
            rintro fCD wCC ⟨HCz,SCA,iCB,kDp⟩
            refine FL.v (E.assign kDp) ?_
            refine FL.nil ?_
            refine FW.ret ?_
            obtain rfl:=Option.some.inj hp
            exact ⟨.inr rfl,res1 rfl rfl ⟨rfl,SCA.back⟩⟩
           ·
            rintro xOe rfl e f w hne ⟨he,hL⟩
            replace hp:=el_rt hp
            obtain rfl:=Option.some.inj hp
            subst he
            exact hL
          ·
           rintro xIg rfl e f w hne ⟨he,hL⟩
           replace hp:=el_rt hp
           obtain rfl:=Option.some.inj hp
           subst he
           exact hL
        ·
         exact xEh.elim

end Go.Proofs
