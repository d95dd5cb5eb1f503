/- Part of the walks and plain laws behind the claim: it proves helpers, under no condition beyond their own. -/
import Derived.Test.YtdkfkiifbagnnaaGreatMsWk1
set_option linter.unusedVariables false
set_option maxRecDepth 100000
namespace Go.Proofs
open Go.Mr Go.Pu Go.PF Go.RowKit

@[reducible] def p_spec_l23Uses (Ha:GH) (wa:World) (r:(List Int)):Ending→World→Prop :=
 fun e w'=>∃ H':GH,∃ v0:Value,∃ n0:Nat,∃ c0:List Value,e=.returned (v0)∧St Ha wa H' w' [.row 3 1 v0 n0 c0]∧Els (up wa.heap.size H') eI 1 c0 r
set_option maxHeartbeats 4000000 in
theorem w_spec_l23Uses {Ha:GH} {wa:World} (hs:Sl Ha wa) (a0:zac) (v0_0:Value) (p0_0:RSl Ha eS 1 v0_0 a0.seq.left) (v0_1:Value) (p0_1:RSl Ha eS 1 v0_1 a0.seq.right) :
  Calls Tryz.prog 59 #[Value.agg #[v0_0,v0_1,Value.int .i64 a0.rule,Value.string a0.main,Value.int .i64 a0.a,Value.int .i64 a0.b]] wa (p_spec_l23Uses Ha wa (PF.zbm a0)):=by
 obtain ⟨r,hp⟩:∃ r,(PF.zbm a0)=r:=⟨_,rfl⟩
 rw [hp]
 unfold PF.zbm at hp
 have S0:=St.init hs
 refine zaj (N:=21) (args:=[Value.agg #[v0_0,v0_1,Value.int .i64 a0.rule,Value.string a0.main,Value.int .i64 a0.a,Value.int .i64 a0.b]]) Tryz.func59 rfl rfl rfl ?_
 refine FW.seq (FW.region ?_)
 obtain ⟨b21,w22,run23,S24⟩:=S0.box (P:=Tryz.prog) 74 [v0_0,v0_1,Value.int .i64 a0.rule,Value.string a0.main,Value.int .i64 a0.a,Value.int .i64 a0.b] (v:=Value.agg #[v0_0,v0_1,Value.int .i64 a0.rule,Value.string a0.main,Value.int .i64 a0.a,Value.int .i64 a0.b]) rfl (zaa p0_0.one (zaa p0_1.one (zaa rfl (zaa rfl (zaa rfl (zaa rfl zag))))))
 refine FL.v (E.box rfl run23) ?_
 obtain ⟨H25,S26,i27,at28⟩:=S24.sealBox (i:=0) (l':=[]) rfl rfl
 refine FL.v (E.assign (v:=Value.slice none 0 0) rfl) ?_
 refine FL.nil (FW.seq (FW.seq (FW.region ?_)))
 refine FL.v (E.fieldAddr zaT rfl) ?_
 refine FL.v (E.load rfl (zaf Tryz.isAgg3 (at28.now S26.sl) rfl)) ?_
 refine FL.nil (FW.block (FW.seq (FW.region ?_)))
 refine FL.v (E.eql rfl rfl) ?_
 refine FL.v (E.assign (v:=Value.bool (a0.rule == 1)) rfl) ?_
 refine FL.nil ?_
 rcases ifT hp with ⟨c29,hp⟩|⟨c29,hp⟩
 ·
  refine FW.condT rfl c29 ?_
  refine FW.seq (FW.region ?_)
  obtain ⟨v30,w31,run32,S33⟩:=S26.buildSlice (P:=Tryz.prog) te82 [] (parts:=#[]) (cells:=[]) rfl zal zak zag (Nat.le_of_ble_eq_true rfl)
  have els34:Els (up wa.heap.size H25) eI 1 [] []:=Els.nil
  refine FL.v (E.buildSlice (B0) run32) ?_
  refine FL.v (E.assign (v:=v30) rfl) ?_
  refine FL.nil ?_
  refine FW.ret ?_
  obtain rfl:=hp
  exact ⟨.inr rfl,res1 rfl rfl ⟨_,_,_,_,rfl,S33,els34⟩⟩
 ·
  refine FW.condF rfl c29 ?_
  refine FW.seq (FW.seq (FW.region ?_))
  refine FL.v (E.eql rfl rfl) ?_
  refine FL.v (E.assign (v:=Value.bool (a0.rule == 5)) rfl) ?_
  refine FL.nil ?_
  rcases ifT hp with ⟨c35,hp⟩|⟨c35,hp⟩
  ·
   refine FW.condT rfl c35 ?_
   refine FW.skip ?_
   refine FW.condT rfl c35 ?_
   refine FW.seq (FW.region ?_)
   refine FL.v (E.fieldAddr zaE rfl) ?_
   refine FL.v (E.load rfl (zaf Tryz.isAgg3 (at28.now S26.sl) rfl)) ?_
   refine FL.v (E.fieldAddr zaH rfl) ?_
   refine FL.v (E.load rfl (zaf Tryz.isAgg3 (at28.now S26.sl) rfl)) ?_
   obtain ⟨v36,w37,run38,S39,els40⟩:=S26.ints (P:=Tryz.prog) te82 (up wa.heap.size H25) 2 [a0.a,a0.b]
   refine FL.v (E.buildSlice (B2 rfl rfl) run38) ?_
   refine FL.v (E.assign (v:=v36) rfl) ?_
   refine FL.nil ?_
   refine FW.ret ?_
   obtain rfl:=hp
   exact ⟨.inr rfl,res1 rfl rfl ⟨_,_,_,_,rfl,S39,els40⟩⟩
  ·
   refine FW.condF rfl c35 ?_
   refine FW.seq (FW.region ?_)
   refine FL.v (E.eql rfl rfl) ?_
   refine FL.v (E.assign (v:=Value.bool (a0.rule == 6)) rfl) ?_
   refine FL.nil ?_
   rcases ifT hp with ⟨c41,hp⟩|⟨c41,hp⟩
   ·
    refine FW.condT rfl c41 ?_
    refine FW.skip ?_
    refine FW.condT rfl c41 ?_
    refine FW.seq (FW.region ?_)
    refine FL.v (E.fieldAddr zaE rfl) ?_
    refine FL.v (E.load rfl (zaf Tryz.isAgg3 (at28.now S26.sl) rfl)) ?_
    refine FL.v (E.fieldAddr zaH rfl) ?_
    refine FL.v (E.load rfl (zaf Tryz.isAgg3 (at28.now S26.sl) rfl)) ?_
    obtain ⟨v42,w43,run44,S45,els46⟩:=S26.ints (P:=Tryz.prog) te82 (up wa.heap.size H25) 2 [a0.a,a0.b]
    refine FL.v (E.buildSlice (B2 rfl rfl) run44) ?_
    refine FL.v (E.assign (v:=v42) rfl) ?_
    refine FL.nil ?_
    refine FW.ret ?_
    obtain rfl:=hp
    exact ⟨.inr rfl,res1 rfl rfl ⟨_,_,_,_,rfl,S45,els46⟩⟩
   ·
    refine FW.condF rfl c41 ?_
    refine FW.seq (FW.region ?_)
    refine FL.v (E.eql rfl rfl) ?_
    refine FL.v (E.assign (v:=Value.bool (a0.rule == 8)) rfl) ?_
    refine FL.nil ?_
    rcases ifT hp with ⟨c47,hp⟩|⟨c47,hp⟩
    ·
     refine FW.condT rfl c47 ?_
     refine FW.skip ?_
     refine FW.condT rfl c47 ?_
     refine FW.seq (FW.region ?_)
     refine FL.v (E.fieldAddr zaE rfl) ?_
     refine FL.v (E.load rfl (zaf Tryz.isAgg3 (at28.now S26.sl) rfl)) ?_
     refine FL.v (E.fieldAddr zaH rfl) ?_
     refine FL.v (E.load rfl (zaf Tryz.isAgg3 (at28.now S26.sl) rfl)) ?_
     obtain ⟨v48,w49,run50,S51,els52⟩:=S26.ints (P:=Tryz.prog) te82 (up wa.heap.size H25) 2 [a0.a,a0.b]
     refine FL.v (E.buildSlice (B2 rfl rfl) run50) ?_
     refine FL.v (E.assign (v:=v48) rfl) ?_
     refine FL.nil ?_
     refine FW.ret ?_
     obtain rfl:=hp
     exact ⟨.inr rfl,res1 rfl rfl ⟨_,_,_,_,rfl,S51,els52⟩⟩
    ·
     refine FW.condF rfl c47 ?_
     refine FW.region ?_
     refine FL.v (E.eql rfl rfl) ?_
     refine FL.v (E.assign (v:=Value.bool (a0.rule == 11)) rfl) ?_
     refine FL.nil ?_
     rcases ifT hp with ⟨c53,hp⟩|⟨c53,hp⟩
     ·
      refine FW.condT rfl c53 ?_
      refine FW.seq (FW.region ?_)
      refine FL.v (E.fieldAddr zaE rfl) ?_
      refine FL.v (E.load rfl (zaf Tryz.isAgg3 (at28.now S26.sl) rfl)) ?_
      refine FL.v (E.fieldAddr zaH rfl) ?_
      refine FL.v (E.load rfl (zaf Tryz.isAgg3 (at28.now S26.sl) rfl)) ?_
      obtain ⟨v54,w55,run56,S57,els58⟩:=S26.ints (P:=Tryz.prog) te82 (up wa.heap.size H25) 2 [a0.a,a0.b]
      refine FL.v (E.buildSlice (B2 rfl rfl) run56) ?_
      refine FL.v (E.assign (v:=v54) rfl) ?_
      refine FL.nil ?_
      refine FW.ret ?_
      obtain rfl:=hp
      exact ⟨.inr rfl,res1 rfl rfl ⟨_,_,_,_,rfl,S57,els58⟩⟩
     ·
      refine FW.condF rfl c53 ?_
      refine FW.skip (FW.seq (FW.region ?_))
      refine FL.v (E.fieldAddr zaE rfl) ?_
      refine FL.v (E.load rfl (zaf Tryz.isAgg3 (at28.now S26.sl) rfl)) ?_
      obtain ⟨v59,w60,run61,S62,els63⟩:=S26.ints (P:=Tryz.prog) te82 (up wa.heap.size H25) 1 [a0.a]
      refine FL.v (E.buildSlice (B1 rfl) run61) ?_
      refine FL.v (E.assign (v:=v59) rfl) ?_
      refine FL.nil ?_
      refine FW.ret ?_
      obtain rfl:=hp
      exact ⟨.inr rfl,res1 rfl rfl ⟨_,_,_,_,rfl,S62,els63⟩⟩

@[reducible] def p_spec_l25Behind (Ha:GH) (wa:World) (r:(List zac)):Ending→World→Prop :=
 fun e w'=>∃ H':GH,∃ v0:Value,∃ n0:Nat,∃ c0:List Value,e=.returned (v0)∧St Ha wa H' w' [.row 74 6 v0 n0 c0]∧Els (up wa.heap.size H') eSeqStep 6 c0 r∧(bl c0).Nodup
set_option maxHeartbeats 4000000 in
theorem w_spec_l25Behind {Ha:GH} {wa:World} (hs:Sl Ha wa) (v0:Value) (a0:List zac) (p0:RSl Ha eSeqStep 6 v0 a0) (v1:Value) (a1:List zac) (p1:RSl Ha eSeqStep 6 v1 a1) {r:(List zac)} (hp:(PF.zcQ a0 a1)=some r) :
  Calls Tryz.prog 64 #[v0,v1] wa (p_spec_l25Behind Ha wa r):=by
 unfold PF.zcQ at hp
 have S0:=St.init hs
 refine zaj (N:=69) (args:=[v0,v1]) Tryz.func64 rfl rfl rfl ?_
 refine FW.seq (FW.region ?_)
 refine FL.v (E.assign (v:=Value.slice none 0 0) rfl) ?_
 refine FL.nil (FW.seq (FW.region ?_))
 obtain ⟨v21,w22,run23,S24⟩:=S0.buildSlice (P:=Tryz.prog) te24 [] (parts:=#[]) (cells:=[]) rfl zal zak zag (Nat.le_of_ble_eq_true rfl)
 have els25:Els (up wa.heap.size Ha) eSeqStep 6 [] []:=Els.nil
 refine FL.v (E.buildSlice (B0) run23) ?_
 refine FL.v (E.assign (v:=v21) rfl) ?_
 refine FL.nil (FW.seq (FW.seq (FW.region ?_)))
 refine FL.v (E.assign (v:=Value.int .i64 0) rfl) ?_
 refine FL.nil ?_
 obtain ⟨q27,hq,hp⟩:=bndR hp
 refine FW.block ?_
 refine FW.mono (FW.forL (S:=(List zac)) (X:=Empty) (fun (i27:Nat) (s27:(List zac)) f w=>∃ H:GH,∃ v28:Value,∃ n29:Nat,∃ cs30:List Value,St Ha wa H w [.row 74 6 v28 n29 cs30]∧Inc Ha H∧Els (up wa.heap.size H) eSeqStep 6 cs30 s27∧(bl cs30).Nodup∧f 6=Value.int .i64 ((i27:Nat):Int)∧f 0=v0∧f 1=v1∧f 5=v28) (fun (q:Rs (List zac) Empty) e f w=>match q with|.go s27=>e=Exit.exit 0∧(∃ H:GH,∃ v28:Value,∃ n29:Nat,∃ cs30:List Value,St Ha wa H w [.row 74 6 v28 n29 cs30]∧Inc Ha H∧Els (up wa.heap.size H) eSeqStep 6 cs30 s27∧(bl cs30).Nodup∧f 0=v0∧f 1=v1∧f 5=v28)|.rt x=>x.elim) hq ⟨_,_,_,_,S24,(Inc.rfl _),els25,(show (bl []).Nodup from List.nodup_nil),rfl,rfl,rfl,rfl⟩ ?_ ?_) ?_
 ·
  clear hp hq
  rintro i27 y26 s27 fA8 wA7 ⟨HA4,v28,n29,cs30,SA5,iA6,els31,nd32,kA9,kAa,kAb,kAc⟩ hx27 oBd hp
  refine FW.seq (FW.seq (FW.region ?_))
  refine FL.v (E.move kA9) ?_
  refine FL.v (E.move kAa) ?_
  refine FL.v (E.lenP te24 rfl p0) ?_
  refine FL.v (E.lssT rfl rfl (zaJ hx27)) ?_
  refine FL.nil ?_
  refine FW.condT rfl rfl ?_
  refine FW.skip (FW.seq (FW.block (FW.seq (FW.region ?_))))
  refine FL.v (E.move kAa) ?_
  refine FL.v (E.move kA9) ?_
  obtain ⟨pAd,csAe,ptAf,lAg,atAh,relAi⟩:=p0.at (zaF hx27)
  obtain ⟨vAj,vAl,rfl,hAk,hAm⟩:=zaD relAi
  refine FL.v (E.indexAddr te24 rfl rfl ptAf) ?_
  refine FL.v (E.load rfl (zao Tryz.isAgg74 Tryz.sizeOf74 ((atAh.mono iA6).now SA5.sl) rfl)) ?_
  obtain ⟨bAn,wAo,runAp,SAq⟩:=SA5.alloc (P:=Tryz.prog) 74 [Value.slice none 0 0,Value.slice none 0 0,Value.int .i64 0,Value.string ByteArray.empty,Value.int .i64 0,Value.int .i64 0] Tryz.zeroValue74 rfl (zaa rfl (zaa rfl (zaa rfl (zaa rfl (zaa rfl (zaa rfl zag))))))
  refine FL.v (E.alloc runAp) ?_
  obtain ⟨wAr,runAs,SAt⟩:=SAq.store0 (P:=Tryz.prog) (t:=74) (i:=0) (cs':=[vAj,vAl,Value.int .i64 y26.rule,Value.string y26.main,Value.int .i64 y26.a,Value.int .i64 y26.b]) (l':=[.box bAn 74 [vAj,vAl,Value.int .i64 y26.rule,Value.string y26.main,Value.int .i64 y26.a,Value.int .i64 y26.b],.row 74 6 v28 n29 cs30]) (v:=Value.agg #[vAj,vAl,Value.int .i64 y26.rule,Value.string y26.main,Value.int .i64 y26.a,Value.int .i64 y26.b]) (c:=[vAj,vAl,Value.int .i64 y26.rule,Value.string y26.main,Value.int .i64 y26.a,Value.int .i64 y26.b]) rfl Tryz.sizeOf74 rfl rfl (zaa hAk.one (zaa hAm.one (zaa rfl (zaa rfl (zaa rfl (zaa rfl zag)))))) (Nat.le_of_ble_eq_true rfl) rfl rfl
  refine FL.act rfl rfl (E.store rfl rfl runAs) ?_
  refine FL.nil (FW.seq (FW.region ?_))
  refine FL.v (E.fieldAddr zap rfl) ?_
  refine FL.v (E.load rfl (zao Tryz.isAgg68 Tryz.sizeOf68 ((SAt.box_now (i:=0) rfl).sub (j:=0) (n:=2) (c:=[vAj,vAl]) rfl) rfl)) ?_
  obtain ⟨rAu,hrAv,hp⟩:=bnd hp
  refine FL.call rfl rfl rfl (E.call Tryz.call60 (A1 rfl)) (w_spec_l23Own SAt.sl y26.seq vAj (hAk.mono iA6) vAl (hAm.mono iA6) hrAv) ?_
  rintro e wAx ⟨HAw,vAA,vAG,rfl,rAz,⟨cAD,cAJ,nsAC,nsAI,ap148⟩⟩
  refine ⟨_,rfl,?_⟩
  have hAB:=nsAC.rsl
  have nvAE:New HA4 cAD:=New.of_up SAt.sl (fun b hb=>nsAC.dom b (.inr hb))
  have nvAF:New HA4 [vAA]:=New.of_up SAt.sl hAB.dom
  have hAB:=hAB.mono (up_le SAt.size)
  have nsAC:=nsAC.mono (up_le SAt.size)
  have hAH:=nsAI.rsl
  have nvAK:New HA4 cAJ:=New.of_up SAt.sl (fun b hb=>nsAI.dom b (.inr hb))
  have nvAL:New HA4 [vAG]:=New.of_up SAt.sl hAH.dom
  have hAH:=hAH.mono (up_le SAt.size)
  have nsAI:=nsAI.mono (up_le SAt.size)
  have SAy:=SAt.call rAz
  refine FL.v (E.fieldAddr zap rfl) ?_
  obtain ⟨wAN,runAO,SAP⟩:=SAy.store (P:=Tryz.prog) (t:=68) (i:=0) (j:=0) (cs':=[vAA,vAG,Value.int .i64 y26.rule,Value.string y26.main,Value.int .i64 y26.a,Value.int .i64 y26.b]) (l':=[.box bAn 74 [vAA,vAG,Value.int .i64 y26.rule,Value.string y26.main,Value.int .i64 y26.a,Value.int .i64 y26.b],.row 74 6 v28 n29 cs30]) (v:=Value.agg #[vAA,vAG]) (c:=[vAA,vAG]) rfl Tryz.sizeOf68 rfl rfl (zaa hAB.one (zaa hAH.one zag)) (Nat.le_of_ble_eq_true rfl) rfl rfl
  refine FL.act rfl rfl (E.store rfl rfl runAO) ?_
  obtain ⟨HAQ,SAR,iAS,atAT⟩:=SAP.sealBox (i:=0) (l':=[.row 74 6 v28 n29 cs30]) rfl rfl
  refine FL.nil (FW.region ?_)
  refine FL.v (E.move kAc) ?_
  refine FL.v (E.load rfl (zao Tryz.isAgg74 Tryz.sizeOf74 (atAT.now SAR.sl) rfl)) ?_
  obtain ⟨vAU,wAV,runAW,SAX⟩:=SAR.buildSlice (P:=Tryz.prog) te24 [Value.agg #[vAA,vAG,Value.int .i64 y26.rule,Value.string y26.main,Value.int .i64 y26.a,Value.int .i64 y26.b]] (parts:=#[(0,Value.agg #[vAA,vAG,Value.int .i64 y26.rule,Value.string y26.main,Value.int .i64 y26.a,Value.int .i64 y26.b])]) (cells:=[vAA,vAG,Value.int .i64 y26.rule,Value.string y26.main,Value.int .i64 y26.a,Value.int .i64 y26.b]) rfl (zan rfl zal) (zam rfl zak) (zaa hAB.one (zaa hAH.one (zaa rfl (zaa rfl (zaa rfl (zaa rfl zag)))))) (Nat.le_of_ble_eq_true rfl)
  have elsAY:Els (up wa.heap.size HAQ) eSeqStep 6 [vAA,vAG,Value.int .i64 y26.rule,Value.string y26.main,Value.int .i64 y26.a,Value.int .i64 y26.b] [(zac.mk rAu y26.rule y26.main y26.a y26.b)]:=(Els.snoc (H:=(up wa.heap.size HAQ)) (E:=eSeqStep) (k:=6) (c:=[vAA,vAG,Value.int .i64 y26.rule,Value.string y26.main,Value.int .i64 y26.a,Value.int .i64 y26.b]) (x:=(zac.mk rAu y26.rule y26.main y26.a y26.b)) Els.nil rfl ⟨_,_,rfl,(hAB.mono (zai iAS)),(hAH.mono (zai iAS))⟩)
  have ndAZ:(bl [vAA,vAG,Value.int .i64 y26.rule,Value.string y26.main,Value.int .i64 y26.a,Value.int .i64 y26.b]).Nodup:=by exact zaR ap148.dis
  have nvB0:New HA4 [vAA,vAG,Value.int .i64 y26.rule,Value.string y26.main,Value.int .i64 y26.a,Value.int .i64 y26.b]:=by exact (New.two nvAF nvAL)
  refine FL.v (E.buildSlice (B1 rfl) runAW) ?_
  obtain ⟨xsB1,hzB2,hp⟩:=bnd hp
  obtain ⟨vB3,wB6,nB4,csB5,runB7,SB8,elsB9,ceBa⟩:=SAX.appendO (P:=Tryz.prog) te24 (i:=1) (j:=0) rfl (els31.mono (zai (rAz.inc.tr iAS))) rfl elsAY hzB2
  have SB8:St Ha wa HAQ wB6 [.row 74 6 vAU 1 [vAA,vAG,Value.int .i64 y26.rule,Value.string y26.main,Value.int .i64 y26.a,Value.int .i64 y26.b],.row 74 6 vB3 nB4 csB5]:=SB8
  have ndBb:(bl csB5).Nodup:=by rw [ceBa];exact za0 nd32 ndAZ (Els.dom (els31.mono (upI.tr (Inc.rfl _)))) (by exact nvB0)
  have SBc:St Ha wa HAQ wB6 [.row 74 6 vB3 nB4 csB5]:=SB8.drop 0
  refine FL.v (E.append rfl rfl runB7) ?_
  refine FL.v (E.assign (v:=vB3) rfl) ?_
  refine FL.nil (FW.region ?_)
  refine FL.v (E.move kA9) ?_
  refine FL.v (E.add rfl rfl) ?_
  refine FL.v (E.assign (v:=Value.int .i64 (wr (((i27:Nat):Int) + 1))) rfl) ?_
  refine FL.nil ?_
  obtain rfl:=Option.some.inj hp
  exact ⟨rfl,⟨_,_,_,_,SBc,((iA6.tr rAz.inc).tr iAS),elsB9,ndBb,(zaA rfl (zat hx27) (p0.mono ((iA6.tr rAz.inc).tr iAS)).le),kAa,kAb,rfl⟩⟩
 ·
  clear hp hq
  rintro s27 fG3 wG2 ⟨HFZ,v28,n29,cs30,SG0,iG1,els31,nd32,kG4,kG5,kG6,kG7⟩
  refine FW.seq (FW.seq (FW.region ?_))
  refine FL.v (E.move kG4) ?_
  refine FL.v (E.move kG5) ?_
  refine FL.v (E.lenP te24 rfl p0) ?_
  refine FL.v (E.lss rfl rfl) ?_
  refine FL.nil ?_
  refine FW.condF rfl zaK ?_
  refine FW.exit ?_
  exact ⟨nofun,rfl,⟨_,_,_,_,SG0,iG1,els31,nd32,kG5,kG6,kG7⟩⟩
 ·
  clear hq
  intro e fBi wBh hD
  rcases q27 with s27|x27
  ·
   obtain ⟨rfl,hD⟩:=hD
   obtain ⟨HBe,v28,n29,cs30,SBf,iBg,els31,nd32,kBj,kBk,kBl⟩:=hD
   replace hp:=el_go hp
   refine FW.seq (FW.seq (FW.region ?_))
   refine FL.v (E.assign (v:=Value.int .i64 0) rfl) ?_
   refine FL.nil ?_
   obtain ⟨qBn,hq,hp⟩:=bndR hp
   refine FW.block ?_
   refine FW.mono (FW.forL (S:=(List zac)) (X:=Empty) (fun (iBn:Nat) (sBn:(List zac)) f w=>∃ H:GH,∃ vBo:Value,∃ nBp:Nat,∃ csBq:List Value,St Ha wa H w [.row 74 6 vBo nBp csBq]∧Inc HBe H∧Els (up wa.heap.size H) eSeqStep 6 csBq sBn∧(bl csBq).Nodup∧f 8=Value.int .i64 ((iBn:Nat):Int)∧f 0=v0∧f 1=v1∧f 5=vBo) (fun (q:Rs (List zac) Empty) e f w=>match q with|.go sBn=>e=Exit.exit 2∧(∃ H:GH,∃ vBo:Value,∃ nBp:Nat,∃ csBq:List Value,St Ha wa H w [.row 74 6 vBo nBp csBq]∧Inc HBe H∧Els (up wa.heap.size H) eSeqStep 6 csBq sBn∧(bl csBq).Nodup∧f 5=vBo)|.rt x=>x.elim) hq ⟨_,_,_,_,SBf,(Inc.rfl _),els31,nd32,rfl,kBj,kBk,kBl⟩ ?_ ?_) ?_
   ·
    clear hp hq
    rintro iBn yBm sBn fDp wDo ⟨HDl,vBo,nBp,csBq,SDm,iDn,elsBr,ndBs,kDq,kDr,kDs,kDt⟩ hxBn oFJ hp
    refine FW.seq (FW.seq (FW.region ?_))
    refine FL.v (E.move kDq) ?_
    refine FL.v (E.move kDs) ?_
    refine FL.v (E.lenP te24 rfl p1) ?_
    refine FL.v (E.lssT rfl rfl (zaJ hxBn)) ?_
    refine FL.nil ?_
    refine FW.condT rfl rfl ?_
    refine FW.skip (FW.seq (FW.block (FW.seq (FW.region ?_))))
    refine FL.v (E.move kDs) ?_
    refine FL.v (E.move kDq) ?_
    obtain ⟨pDu,csDv,ptDw,lDx,atDy,relDz⟩:=p1.at (zaF hxBn)
    obtain ⟨vDA,vDC,rfl,hDB,hDD⟩:=zaD relDz
    refine FL.v (E.indexAddr te24 rfl rfl ptDw) ?_
    refine FL.v (E.load rfl (zao Tryz.isAgg74 Tryz.sizeOf74 ((atDy.mono (iBg.tr iDn)).now SDm.sl) rfl)) ?_
    obtain ⟨bDE,wDF,runDG,SDH⟩:=SDm.alloc (P:=Tryz.prog) 74 [Value.slice none 0 0,Value.slice none 0 0,Value.int .i64 0,Value.string ByteArray.empty,Value.int .i64 0,Value.int .i64 0] Tryz.zeroValue74 rfl (zaa rfl (zaa rfl (zaa rfl (zaa rfl (zaa rfl (zaa rfl zag))))))
    refine FL.v (E.alloc runDG) ?_
    obtain ⟨wDI,runDJ,SDK⟩:=SDH.store0 (P:=Tryz.prog) (t:=74) (i:=0) (cs':=[vDA,vDC,Value.int .i64 yBm.rule,Value.string yBm.main,Value.int .i64 yBm.a,Value.int .i64 yBm.b]) (l':=[.box bDE 74 [vDA,vDC,Value.int .i64 yBm.rule,Value.string yBm.main,Value.int .i64 yBm.a,Value.int .i64 yBm.b],.row 74 6 vBo nBp csBq]) (v:=Value.agg #[vDA,vDC,Value.int .i64 yBm.rule,Value.string yBm.main,Value.int .i64 yBm.a,Value.int .i64 yBm.b]) (c:=[vDA,vDC,Value.int .i64 yBm.rule,Value.string yBm.main,Value.int .i64 yBm.a,Value.int .i64 yBm.b]) rfl Tryz.sizeOf74 rfl rfl (zaa hDB.one (zaa hDD.one (zaa rfl (zaa rfl (zaa rfl (zaa rfl zag)))))) (Nat.le_of_ble_eq_true rfl) rfl rfl
    refine FL.act rfl rfl (E.store rfl rfl runDJ) ?_
    refine FL.nil (FW.seq (FW.region ?_))
    refine FL.v (E.fieldAddr zap rfl) ?_
    refine FL.v (E.load rfl (zao Tryz.isAgg68 Tryz.sizeOf68 ((SDK.box_now (i:=0) rfl).sub (j:=0) (n:=2) (c:=[vDA,vDC]) rfl) rfl)) ?_
    obtain ⟨rDL,hrDM,hp⟩:=bnd hp
    refine FL.call rfl rfl rfl (E.call Tryz.call60 (A1 rfl)) (w_spec_l23Own SDK.sl yBm.seq vDA (hDB.mono (iBg.tr iDn)) vDC (hDD.mono (iBg.tr iDn)) hrDM) ?_
    rintro e wDO ⟨HDN,vDR,vDX,rfl,rDQ,⟨cDU,cE0,nsDT,nsDZ,ap351⟩⟩
    refine ⟨_,rfl,?_⟩
    have hDS:=nsDT.rsl
    have nvDV:New HDl cDU:=New.of_up SDK.sl (fun b hb=>nsDT.dom b (.inr hb))
    have nvDW:New HDl [vDR]:=New.of_up SDK.sl hDS.dom
    have hDS:=hDS.mono (up_le SDK.size)
    have nsDT:=nsDT.mono (up_le SDK.size)
    have hDY:=nsDZ.rsl
    have nvE1:New HDl cE0:=New.of_up SDK.sl (fun b hb=>nsDZ.dom b (.inr hb))
    have nvE2:New HDl [vDX]:=New.of_up SDK.sl hDY.dom
    have hDY:=hDY.mono (up_le SDK.size)
    have nsDZ:=nsDZ.mono (up_le SDK.size)
    have SDP:=SDK.call rDQ
    refine FL.v (E.fieldAddr zap rfl) ?_
    obtain ⟨wE4,runE5,SE6⟩:=SDP.store (P:=Tryz.prog) (t:=68) (i:=0) (j:=0) (cs':=[vDR,vDX,Value.int .i64 yBm.rule,Value.string yBm.main,Value.int .i64 yBm.a,Value.int .i64 yBm.b]) (l':=[.box bDE 74 [vDR,vDX,Value.int .i64 yBm.rule,Value.string yBm.main,Value.int .i64 yBm.a,Value.int .i64 yBm.b],.row 74 6 vBo nBp csBq]) (v:=Value.agg #[vDR,vDX]) (c:=[vDR,vDX]) rfl Tryz.sizeOf68 rfl rfl (zaa hDS.one (zaa hDY.one zag)) (Nat.le_of_ble_eq_true rfl) rfl rfl
    refine FL.act rfl rfl (E.store rfl rfl runE5) ?_
    refine FL.nil (FW.seq (FW.region ?_))
    refine FL.v (E.load rfl (zao Tryz.isAgg74 Tryz.sizeOf74 (SE6.box_now (i:=0) rfl) rfl)) ?_
    refine FL.call rfl rfl rfl (E.call Tryz.call59 (A1 rfl)) (w_spec_l23Uses SE6.sl (zac.mk rDL yBm.rule yBm.main yBm.a yBm.b) vDR (hDS.mono upI) vDX (hDY.mono upI)) ?_
    rintro e wE8 ⟨HE7,vEb,nEc,csEd,rfl,rEa,elsEe⟩
    refine ⟨_,rfl,?_⟩
    have elsEe:=elsEe.mono (up_le SE6.size)
    have SE9:=SE6.join (l':=[.row 3 1 vEb nEc csEd,.box bDE 74 [vDR,vDX,Value.int .i64 yBm.rule,Value.string yBm.main,Value.int .i64 yBm.a,Value.int .i64 yBm.b],.row 74 6 vBo nBp csBq]) rEa rfl
    refine FL.v (E.assign (v:=vEb) rfl) ?_
    refine FL.nil (FW.seq (FW.seq (FW.region ?_)))
    refine FL.v (E.move (v:=vEb) rfl) ?_
    refine FL.v (E.lenO te82 rfl SE9 (i:=0) rfl elsEe (by decide)) ?_
    refine FL.v (E.gtr rfl rfl) ?_
    refine FL.nil ?_
    rcases ifB hp with ⟨cEf,hp⟩|⟨cEf,hp⟩
    ·
     refine FW.condT rfl cEf ?_
     refine FW.region ?_
     refine FL.v (E.fieldAddr zaE rfl) ?_
     refine FL.v (E.load rfl (zaf Tryz.isAgg3 (SE9.box_now (i:=1) rfl) rfl)) ?_
     refine FL.v (E.move kDr) ?_
     refine FL.v (E.lenP te24 rfl p0) ?_
     refine FL.v (E.add rfl rfl) ?_
     refine FL.v (E.fieldAddr zaE rfl) ?_
     obtain ⟨wEg,runEh,SEi⟩:=SE9.store (P:=Tryz.prog) (t:=3) (i:=1) (j:=4) (cs':=[vDR,vDX,Value.int .i64 yBm.rule,Value.string yBm.main,Value.int .i64 (wr (yBm.a + (len a0))),Value.int .i64 yBm.b]) (l':=[.row 3 1 vEb nEc csEd,.box bDE 74 [vDR,vDX,Value.int .i64 yBm.rule,Value.string yBm.main,Value.int .i64 (wr (yBm.a + (len a0))),Value.int .i64 yBm.b],.row 74 6 vBo nBp csBq]) (v:=Value.int .i64 (wr (yBm.a + (len a0)))) (c:=[Value.int .i64 (wr (yBm.a + (len a0)))]) rfl Tryz.sizeOf3 rfl rfl (zaa rfl zag) (Nat.le_of_ble_eq_true rfl) rfl rfl
     refine FL.act rfl rfl (E.store rfl rfl runEh) ?_
     refine FL.nil (FW.seq (FW.seq (FW.region ?_)))
     refine FL.v (E.move (v:=vEb) rfl) ?_
     refine FL.v (E.lenO te82 rfl SEi (i:=0) rfl elsEe (by decide)) ?_
     refine FL.v (E.gtr rfl rfl) ?_
     refine FL.nil ?_
     rcases ifB hp with ⟨cEj,hp⟩|⟨cEj,hp⟩
     ·
      refine FW.condT rfl cEj ?_
      refine FW.region ?_
      refine FL.v (E.fieldAddr zaH rfl) ?_
      refine FL.v (E.load rfl (zaf Tryz.isAgg3 (SEi.box_now (i:=1) rfl) rfl)) ?_
      refine FL.v (E.move kDr) ?_
      refine FL.v (E.lenP te24 rfl p0) ?_
      refine FL.v (E.add rfl rfl) ?_
      refine FL.v (E.fieldAddr zaH rfl) ?_
      obtain ⟨wEk,runEl,SEm⟩:=SEi.store (P:=Tryz.prog) (t:=3) (i:=1) (j:=5) (cs':=[vDR,vDX,Value.int .i64 yBm.rule,Value.string yBm.main,Value.int .i64 (wr (yBm.a + (len a0))),Value.int .i64 (wr (yBm.b + (len a0)))]) (l':=[.row 3 1 vEb nEc csEd,.box bDE 74 [vDR,vDX,Value.int .i64 yBm.rule,Value.string yBm.main,Value.int .i64 (wr (yBm.a + (len a0))),Value.int .i64 (wr (yBm.b + (len a0)))],.row 74 6 vBo nBp csBq]) (v:=Value.int .i64 (wr (yBm.b + (len a0)))) (c:=[Value.int .i64 (wr (yBm.b + (len a0)))]) rfl Tryz.sizeOf3 rfl rfl (zaa rfl zag) (Nat.le_of_ble_eq_true rfl) rfl rfl
      refine FL.act rfl rfl (E.store rfl rfl runEl) ?_
      obtain ⟨HEn,SEo,iEp,atEq⟩:=SEm.sealBox (i:=1) (l':=[.row 3 1 vEb nEc csEd,.row 74 6 vBo nBp csBq]) rfl rfl
      refine FL.nil (FW.region ?_)
      refine FL.v (E.move kDt) ?_
      refine FL.v (E.load rfl (zao Tryz.isAgg74 Tryz.sizeOf74 (atEq.now SEo.sl) rfl)) ?_
      obtain ⟨vEr,wEs,runEt,SEu⟩:=SEo.buildSlice (P:=Tryz.prog) te24 [Value.agg #[vDR,vDX,Value.int .i64 yBm.rule,Value.string yBm.main,Value.int .i64 (wr (yBm.a + (len a0))),Value.int .i64 (wr (yBm.b + (len a0)))]] (parts:=#[(0,Value.agg #[vDR,vDX,Value.int .i64 yBm.rule,Value.string yBm.main,Value.int .i64 (wr (yBm.a + (len a0))),Value.int .i64 (wr (yBm.b + (len a0)))])]) (cells:=[vDR,vDX,Value.int .i64 yBm.rule,Value.string yBm.main,Value.int .i64 (wr (yBm.a + (len a0))),Value.int .i64 (wr (yBm.b + (len a0)))]) rfl (zan rfl zal) (zam rfl zak) (zaa hDS.one (zaa hDY.one (zaa rfl (zaa rfl (zaa rfl (zaa rfl zag)))))) (Nat.le_of_ble_eq_true rfl)
      have elsEv:Els (up wa.heap.size HEn) eSeqStep 6 [vDR,vDX,Value.int .i64 yBm.rule,Value.string yBm.main,Value.int .i64 (wr (yBm.a + (len a0))),Value.int .i64 (wr (yBm.b + (len a0)))] [(zac.mk rDL yBm.rule yBm.main (wr (yBm.a + (len a0))) (wr (yBm.b + (len a0))))]:=(Els.snoc (H:=(up wa.heap.size HEn)) (E:=eSeqStep) (k:=6) (c:=[vDR,vDX,Value.int .i64 yBm.rule,Value.string yBm.main,Value.int .i64 (wr (yBm.a + (len a0))),Value.int .i64 (wr (yBm.b + (len a0)))]) (x:=(zac.mk rDL yBm.rule yBm.main (wr (yBm.a + (len a0))) (wr (yBm.b + (len a0))))) Els.nil rfl ⟨_,_,rfl,(hDS.mono (zai (rEa.run.inc.tr iEp))),(hDY.mono (zai (rEa.run.inc.tr iEp)))⟩)
      have ndEw:(bl [vDR,vDX,Value.int .i64 yBm.rule,Value.string yBm.main,Value.int .i64 (wr (yBm.a + (len a0))),Value.int .i64 (wr (yBm.b + (len a0)))]).Nodup:=by exact zaR ap351.dis
      have nvEx:New HDl [vDR,vDX,Value.int .i64 yBm.rule,Value.string yBm.main,Value.int .i64 (wr (yBm.a + (len a0))),Value.int .i64 (wr (yBm.b + (len a0)))]:=by exact (New.two nvDW nvE2)
      refine FL.v (E.buildSlice (B1 rfl) runEt) ?_
      obtain ⟨xsEy,hzEz,hp⟩:=bnd hp
      obtain ⟨vEA,wED,nEB,csEC,runEE,SEF,elsEG,ceEH⟩:=SEu.appendO (P:=Tryz.prog) te24 (i:=2) (j:=0) rfl (elsBr.mono (zai ((rDQ.inc.tr rEa.run.inc).tr iEp))) rfl elsEv hzEz
      have SEF:St Ha wa HEn wED [.row 74 6 vEr 1 [vDR,vDX,Value.int .i64 yBm.rule,Value.string yBm.main,Value.int .i64 (wr (yBm.a + (len a0))),Value.int .i64 (wr (yBm.b + (len a0)))],.row 3 1 vEb nEc csEd,.row 74 6 vEA nEB csEC]:=SEF
      have ndEI:(bl csEC).Nodup:=by rw [ceEH];exact za0 ndBs ndEw (Els.dom (elsBr.mono (upI.tr (Inc.rfl _)))) (by exact nvEx)
      have SEJ:St Ha wa HEn wED [.row 3 1 vEb nEc csEd,.row 74 6 vEA nEB csEC]:=SEF.drop 0
      refine FL.v (E.append rfl rfl runEE) ?_
      refine FL.v (E.assign (v:=vEA) rfl) ?_
      refine FL.nil (FW.region ?_)
      refine FL.v (E.move kDq) ?_
      refine FL.v (E.add rfl rfl) ?_
      refine FL.v (E.assign (v:=Value.int .i64 (wr (((iBn:Nat):Int) + 1))) rfl) ?_
      refine FL.nil ?_
      obtain rfl:=Option.some.inj hp
      exact ⟨rfl,⟨_,_,_,_,(SEJ.sel [1] (by decide) rfl),(((iDn.tr rDQ.inc).tr rEa.run.inc).tr iEp),elsEG,ndEI,(zaA rfl (zat hxBn) (p1.mono ((((iBg.tr iDn).tr rDQ.inc).tr rEa.run.inc).tr iEp)).le),kDr,kDs,rfl⟩⟩
     ·
      refine FW.condF rfl cEj ?_
      refine FW.skip (FW.region ?_)
      refine FL.v (E.move kDt) ?_
      refine FL.v (E.load rfl (zao Tryz.isAgg74 Tryz.sizeOf74 (SEi.box_now (i:=1) rfl) rfl)) ?_
      obtain ⟨vEK,wEL,runEM,SEN⟩:=SEi.buildSlice (P:=Tryz.prog) te24 [Value.agg #[vDR,vDX,Value.int .i64 yBm.rule,Value.string yBm.main,Value.int .i64 (wr (yBm.a + (len a0))),Value.int .i64 yBm.b]] (parts:=#[(0,Value.agg #[vDR,vDX,Value.int .i64 yBm.rule,Value.string yBm.main,Value.int .i64 (wr (yBm.a + (len a0))),Value.int .i64 yBm.b])]) (cells:=[vDR,vDX,Value.int .i64 yBm.rule,Value.string yBm.main,Value.int .i64 (wr (yBm.a + (len a0))),Value.int .i64 yBm.b]) rfl (zan rfl zal) (zam rfl zak) (zaa hDS.one (zaa hDY.one (zaa rfl (zaa rfl (zaa rfl (zaa rfl zag)))))) (Nat.le_of_ble_eq_true rfl)
      have elsEO:Els (up wa.heap.size HE7) eSeqStep 6 [vDR,vDX,Value.int .i64 yBm.rule,Value.string yBm.main,Value.int .i64 (wr (yBm.a + (len a0))),Value.int .i64 yBm.b] [(zac.mk rDL yBm.rule yBm.main (wr (yBm.a + (len a0))) yBm.b)]:=(Els.snoc (H:=(up wa.heap.size HE7)) (E:=eSeqStep) (k:=6) (c:=[vDR,vDX,Value.int .i64 yBm.rule,Value.string yBm.main,Value.int .i64 (wr (yBm.a + (len a0))),Value.int .i64 yBm.b]) (x:=(zac.mk rDL yBm.rule yBm.main (wr (yBm.a + (len a0))) yBm.b)) Els.nil rfl ⟨_,_,rfl,(hDS.mono (zai rEa.run.inc)),(hDY.mono (zai rEa.run.inc))⟩)
      have ndEP:(bl [vDR,vDX,Value.int .i64 yBm.rule,Value.string yBm.main,Value.int .i64 (wr (yBm.a + (len a0))),Value.int .i64 yBm.b]).Nodup:=by exact zaR ap351.dis
      have nvEQ:New HDl [vDR,vDX,Value.int .i64 yBm.rule,Value.string yBm.main,Value.int .i64 (wr (yBm.a + (len a0))),Value.int .i64 yBm.b]:=by exact (New.two nvDW nvE2)
      refine FL.v (E.buildSlice (B1 rfl) runEM) ?_
      obtain ⟨xsER,hzES,hp⟩:=bnd hp
      obtain ⟨vET,wEW,nEU,csEV,runEX,SEY,elsEZ,ceF0⟩:=SEN.appendO (P:=Tryz.prog) te24 (i:=3) (j:=0) rfl (elsBr.mono (zai (rDQ.inc.tr rEa.run.inc))) rfl elsEO hzES
      have SEY:St Ha wa HE7 wEW [.row 74 6 vEK 1 [vDR,vDX,Value.int .i64 yBm.rule,Value.string yBm.main,Value.int .i64 (wr (yBm.a + (len a0))),Value.int .i64 yBm.b],.row 3 1 vEb nEc csEd,.box bDE 74 [vDR,vDX,Value.int .i64 yBm.rule,Value.string yBm.main,Value.int .i64 (wr (yBm.a + (len a0))),Value.int .i64 yBm.b],.row 74 6 vET nEU csEV]:=SEY
      have ndF1:(bl csEV).Nodup:=by rw [ceF0];exact za0 ndBs ndEP (Els.dom (elsBr.mono (upI.tr (Inc.rfl _)))) (by exact nvEQ)
      have SF2:St Ha wa HE7 wEW [.row 3 1 vEb nEc csEd,.box bDE 74 [vDR,vDX,Value.int .i64 yBm.rule,Value.string yBm.main,Value.int .i64 (wr (yBm.a + (len a0))),Value.int .i64 yBm.b],.row 74 6 vET nEU csEV]:=SEY.drop 0
      refine FL.v (E.append rfl rfl runEX) ?_
      refine FL.v (E.assign (v:=vET) rfl) ?_
      refine FL.nil (FW.region ?_)
      refine FL.v (E.move kDq) ?_
      refine FL.v (E.add rfl rfl) ?_
      refine FL.v (E.assign (v:=Value.int .i64 (wr (((iBn:Nat):Int) + 1))) rfl) ?_
      refine FL.nil ?_
      obtain rfl:=Option.some.inj hp
      exact ⟨rfl,⟨_,_,_,_,(SF2.sel [2] (by decide) rfl),((iDn.tr rDQ.inc).tr rEa.run.inc),elsEZ,ndF1,(zaA rfl (zat hxBn) (p1.mono (((iBg.tr iDn).tr rDQ.inc).tr rEa.run.inc)).le),kDr,kDs,rfl⟩⟩
    ·
     refine FW.condF rfl cEf ?_
     refine FW.skip (FW.seq (FW.seq (FW.region ?_)))
     refine FL.v (E.move (v:=vEb) rfl) ?_
     refine FL.v (E.lenO te82 rfl SE9 (i:=0) rfl elsEe (by decide)) ?_
     refine FL.v (E.gtr rfl rfl) ?_
     refine FL.nil ?_
     rcases ifB hp with ⟨cF3,hp⟩|⟨cF3,hp⟩
     ·
      refine FW.condT rfl cF3 ?_
      refine FW.region ?_
      refine FL.v (E.fieldAddr zaH rfl) ?_
      refine FL.v (E.load rfl (zaf Tryz.isAgg3 (SE9.box_now (i:=1) rfl) rfl)) ?_
      refine FL.v (E.move kDr) ?_
      refine FL.v (E.lenP te24 rfl p0) ?_
      refine FL.v (E.add rfl rfl) ?_
      refine FL.v (E.fieldAddr zaH rfl) ?_
      obtain ⟨wF4,runF5,SF6⟩:=SE9.store (P:=Tryz.prog) (t:=3) (i:=1) (j:=5) (cs':=[vDR,vDX,Value.int .i64 yBm.rule,Value.string yBm.main,Value.int .i64 yBm.a,Value.int .i64 (wr (yBm.b + (len a0)))]) (l':=[.row 3 1 vEb nEc csEd,.box bDE 74 [vDR,vDX,Value.int .i64 yBm.rule,Value.string yBm.main,Value.int .i64 yBm.a,Value.int .i64 (wr (yBm.b + (len a0)))],.row 74 6 vBo nBp csBq]) (v:=Value.int .i64 (wr (yBm.b + (len a0)))) (c:=[Value.int .i64 (wr (yBm.b + (len a0)))]) rfl Tryz.sizeOf3 rfl rfl (zaa rfl zag) (Nat.le_of_ble_eq_true rfl) rfl rfl
      refine FL.act rfl rfl (E.store rfl rfl runF5) ?_
      refine FL.nil (FW.region ?_)
      refine FL.v (E.move kDt) ?_
      refine FL.v (E.load rfl (zao Tryz.isAgg74 Tryz.sizeOf74 (SF6.box_now (i:=1) rfl) rfl)) ?_
      obtain ⟨vF7,wF8,runF9,SFa⟩:=SF6.buildSlice (P:=Tryz.prog) te24 [Value.agg #[vDR,vDX,Value.int .i64 yBm.rule,Value.string yBm.main,Value.int .i64 yBm.a,Value.int .i64 (wr (yBm.b + (len a0)))]] (parts:=#[(0,Value.agg #[vDR,vDX,Value.int .i64 yBm.rule,Value.string yBm.main,Value.int .i64 yBm.a,Value.int .i64 (wr (yBm.b + (len a0)))])]) (cells:=[vDR,vDX,Value.int .i64 yBm.rule,Value.string yBm.main,Value.int .i64 yBm.a,Value.int .i64 (wr (yBm.b + (len a0)))]) rfl (zan rfl zal) (zam rfl zak) (zaa hDS.one (zaa hDY.one (zaa rfl (zaa rfl (zaa rfl (zaa rfl zag)))))) (Nat.le_of_ble_eq_true rfl)
      have elsFb:Els (up wa.heap.size HE7) eSeqStep 6 [vDR,vDX,Value.int .i64 yBm.rule,Value.string yBm.main,Value.int .i64 yBm.a,Value.int .i64 (wr (yBm.b + (len a0)))] [(zac.mk rDL yBm.rule yBm.main yBm.a (wr (yBm.b + (len a0))))]:=(Els.snoc (H:=(up wa.heap.size HE7)) (E:=eSeqStep) (k:=6) (c:=[vDR,vDX,Value.int .i64 yBm.rule,Value.string yBm.main,Value.int .i64 yBm.a,Value.int .i64 (wr (yBm.b + (len a0)))]) (x:=(zac.mk rDL yBm.rule yBm.main yBm.a (wr (yBm.b + (len a0))))) Els.nil rfl ⟨_,_,rfl,(hDS.mono (zai rEa.run.inc)),(hDY.mono (zai rEa.run.inc))⟩)
      have ndFc:(bl [vDR,vDX,Value.int .i64 yBm.rule,Value.string yBm.main,Value.int .i64 yBm.a,Value.int .i64 (wr (yBm.b + (len a0)))]).Nodup:=by exact zaR ap351.dis
      have nvFd:New HDl [vDR,vDX,Value.int .i64 yBm.rule,Value.string yBm.main,Value.int .i64 yBm.a,Value.int .i64 (wr (yBm.b + (len a0)))]:=by exact (New.two nvDW nvE2)
      refine FL.v (E.buildSlice (B1 rfl) runF9) ?_
      obtain ⟨xsFe,hzFf,hp⟩:=bnd hp
      obtain ⟨vFg,wFj,nFh,csFi,runFk,SFl,elsFm,ceFn⟩:=SFa.appendO (P:=Tryz.prog) te24 (i:=3) (j:=0) rfl (elsBr.mono (zai (rDQ.inc.tr rEa.run.inc))) rfl elsFb hzFf
      have SFl:St Ha wa HE7 wFj [.row 74 6 vF7 1 [vDR,vDX,Value.int .i64 yBm.rule,Value.string yBm.main,Value.int .i64 yBm.a,Value.int .i64 (wr (yBm.b + (len a0)))],.row 3 1 vEb nEc csEd,.box bDE 74 [vDR,vDX,Value.int .i64 yBm.rule,Value.string yBm.main,Value.int .i64 yBm.a,Value.int .i64 (wr (yBm.b + (len a0)))],.row 74 6 vFg nFh csFi]:=SFl
      have ndFo:(bl csFi).Nodup:=by rw [ceFn];exact za0 ndBs ndFc (Els.dom (elsBr.mono (upI.tr (Inc.rfl _)))) (by exact nvFd)
      have SFp:St Ha wa HE7 wFj [.row 3 1 vEb nEc csEd,.box bDE 74 [vDR,vDX,Value.int .i64 yBm.rule,Value.string yBm.main,Value.int .i64 yBm.a,Value.int .i64 (wr (yBm.b + (len a0)))],.row 74 6 vFg nFh csFi]:=SFl.drop 0
      refine FL.v (E.append rfl rfl runFk) ?_
      refine FL.v (E.assign (v:=vFg) rfl) ?_
      refine FL.nil (FW.region ?_)
      refine FL.v (E.move kDq) ?_
      refine FL.v (E.add rfl rfl) ?_
      refine FL.v (E.assign (v:=Value.int .i64 (wr (((iBn:Nat):Int) + 1))) rfl) ?_
      refine FL.nil ?_
      obtain rfl:=Option.some.inj hp
      exact ⟨rfl,⟨_,_,_,_,(SFp.sel [2] (by decide) rfl),((iDn.tr rDQ.inc).tr rEa.run.inc),elsFm,ndFo,(zaA rfl (zat hxBn) (p1.mono (((iBg.tr iDn).tr rDQ.inc).tr rEa.run.inc)).le),kDr,kDs,rfl⟩⟩
     ·
      refine FW.condF rfl cF3 ?_
      refine FW.skip (FW.region ?_)
      refine FL.v (E.move kDt) ?_
      refine FL.v (E.load rfl (zao Tryz.isAgg74 Tryz.sizeOf74 (SE9.box_now (i:=1) rfl) rfl)) ?_
      obtain ⟨vFq,wFr,runFs,SFt⟩:=SE9.buildSlice (P:=Tryz.prog) te24 [Value.agg #[vDR,vDX,Value.int .i64 yBm.rule,Value.string yBm.main,Value.int .i64 yBm.a,Value.int .i64 yBm.b]] (parts:=#[(0,Value.agg #[vDR,vDX,Value.int .i64 yBm.rule,Value.string yBm.main,Value.int .i64 yBm.a,Value.int .i64 yBm.b])]) (cells:=[vDR,vDX,Value.int .i64 yBm.rule,Value.string yBm.main,Value.int .i64 yBm.a,Value.int .i64 yBm.b]) rfl (zan rfl zal) (zam rfl zak) (zaa hDS.one (zaa hDY.one (zaa rfl (zaa rfl (zaa rfl (zaa rfl zag)))))) (Nat.le_of_ble_eq_true rfl)
      have elsFu:Els (up wa.heap.size HE7) eSeqStep 6 [vDR,vDX,Value.int .i64 yBm.rule,Value.string yBm.main,Value.int .i64 yBm.a,Value.int .i64 yBm.b] [(zac.mk rDL yBm.rule yBm.main yBm.a yBm.b)]:=(Els.snoc (H:=(up wa.heap.size HE7)) (E:=eSeqStep) (k:=6) (c:=[vDR,vDX,Value.int .i64 yBm.rule,Value.string yBm.main,Value.int .i64 yBm.a,Value.int .i64 yBm.b]) (x:=(zac.mk rDL yBm.rule yBm.main yBm.a yBm.b)) Els.nil rfl ⟨_,_,rfl,(hDS.mono (zai rEa.run.inc)),(hDY.mono (zai rEa.run.inc))⟩)
      have ndFv:(bl [vDR,vDX,Value.int .i64 yBm.rule,Value.string yBm.main,Value.int .i64 yBm.a,Value.int .i64 yBm.b]).Nodup:=by exact zaR ap351.dis
      have nvFw:New HDl [vDR,vDX,Value.int .i64 yBm.rule,Value.string yBm.main,Value.int .i64 yBm.a,Value.int .i64 yBm.b]:=by exact (New.two nvDW nvE2)
      refine FL.v (E.buildSlice (B1 rfl) runFs) ?_
      obtain ⟨xsFx,hzFy,hp⟩:=bnd hp
      obtain ⟨vFz,wFC,nFA,csFB,runFD,SFE,elsFF,ceFG⟩:=SFt.appendO (P:=Tryz.prog) te24 (i:=3) (j:=0) rfl (elsBr.mono (zai (rDQ.inc.tr rEa.run.inc))) rfl elsFu hzFy
      have SFE:St Ha wa HE7 wFC [.row 74 6 vFq 1 [vDR,vDX,Value.int .i64 yBm.rule,Value.string yBm.main,Value.int .i64 yBm.a,Value.int .i64 yBm.b],.row 3 1 vEb nEc csEd,.box bDE 74 [vDR,vDX,Value.int .i64 yBm.rule,Value.string yBm.main,Value.int .i64 yBm.a,Value.int .i64 yBm.b],.row 74 6 vFz nFA csFB]:=SFE
      have ndFH:(bl csFB).Nodup:=by rw [ceFG];exact za0 ndBs ndFv (Els.dom (elsBr.mono (upI.tr (Inc.rfl _)))) (by exact nvFw)
      have SFI:St Ha wa HE7 wFC [.row 3 1 vEb nEc csEd,.box bDE 74 [vDR,vDX,Value.int .i64 yBm.rule,Value.string yBm.main,Value.int .i64 yBm.a,Value.int .i64 yBm.b],.row 74 6 vFz nFA csFB]:=SFE.drop 0
      refine FL.v (E.append rfl rfl runFD) ?_
      refine FL.v (E.assign (v:=vFz) rfl) ?_
      refine FL.nil (FW.region ?_)
      refine FL.v (E.move kDq) ?_
      refine FL.v (E.add rfl rfl) ?_
      refine FL.v (E.assign (v:=Value.int .i64 (wr (((iBn:Nat):Int) + 1))) rfl) ?_
      refine FL.nil ?_
      obtain rfl:=Option.some.inj hp
      exact ⟨rfl,⟨_,_,_,_,(SFI.sel [2] (by decide) rfl),((iDn.tr rDQ.inc).tr rEa.run.inc),elsFF,ndFH,(zaA rfl (zat hxBn) (p1.mono (((iBg.tr iDn).tr rDQ.inc).tr rEa.run.inc)).le),kDr,kDs,rfl⟩⟩
   ·
    clear hp hq
    rintro sBn fFU wFT ⟨HFQ,vBo,nBp,csBq,SFR,iFS,elsBr,ndBs,kFV,kFW,kFX,kFY⟩
    refine FW.seq (FW.seq (FW.region ?_))
    refine FL.v (E.move kFV) ?_
    refine FL.v (E.move kFX) ?_
    refine FL.v (E.lenP te24 rfl p1) ?_
    refine FL.v (E.lss rfl rfl) ?_
    refine FL.nil ?_
    refine FW.condF rfl zaK ?_
    refine FW.exit ?_
    exact ⟨nofun,rfl,⟨_,_,_,_,SFR,iFS,elsBr,ndBs,kFY⟩⟩
   ·
    clear hq
    intro e fFO wFN hD
    rcases qBn with sBn|xBn
    ·
     obtain ⟨rfl,hD⟩:=hD
     obtain ⟨HFK,vBo,nBp,csBq,SFL,iFM,elsBr,ndBs,kFP⟩:=hD
     replace hp:=el_go hp
     refine FW.seq (FW.region ?_)
     refine FL.v (E.move kFP) ?_
     refine FL.v (E.assign (v:=vBo) rfl) ?_
     refine FL.nil ?_
     refine FW.ret ?_
     obtain rfl:=Option.some.inj hp
     exact ⟨.inr rfl,res1 rfl rfl ⟨_,_,_,_,rfl,SFL,elsBr,ndBs⟩⟩
    ·
     exact xBn.elim
  ·
   exact x27.elim

theorem w_spec_l22Join {Ha:GH} {wa:World} (hs:Sl Ha wa) (a0:ByteArray) (a1:ByteArray) (a2:ByteArray) {r:ByteArray} (hp:(PF.zcR a0 a1 a2)=some r) :
  Calls Tryz.prog 122 #[Value.string a0,Value.string a1,Value.string a2] wa (Sc Ha wa (Value.string r)):=by
 unfold PF.zcR at hp
 have S0:=St.init hs
 refine zaj (N:=14) (args:=[Value.string a0,Value.string a1,Value.string a2]) Tryz.func122 rfl rfl rfl ?_
 refine FW.seq (FW.region ?_)
 refine FL.v (E.assign (v:=Value.string (ByteArray.mk #[])) rfl) ?_
 refine FL.nil (FW.seq (FW.region ?_))
 refine FL.v (E.move (v:=Value.string a1) rfl) ?_
 obtain ⟨z21,h22,hp⟩:=bnd hp
 refine FL.v (E.addT rfl rfl h22) ?_
 refine FL.v (E.move (v:=Value.string a0) rfl) ?_
 obtain ⟨z23,h24,hp⟩:=bnd hp
 refine FL.v (E.addT rfl rfl h24) ?_
 refine FL.v (E.move (v:=Value.string a2) rfl) ?_
 obtain ⟨z25,h26,hp⟩:=bnd hp
 refine FL.v (E.addT rfl rfl h26) ?_
 obtain ⟨z27,h28,hp⟩:=bnd hp
 refine FL.v (E.addT rfl rfl h28) ?_
 refine FL.v (E.assign (v:=Value.string z27) rfl) ?_
 refine FL.nil ?_
 refine FW.ret ?_
 obtain rfl:=Option.some.inj hp
 exact ⟨.inr rfl,res1 rfl rfl ⟨rfl,S0.back⟩⟩

@[reducible] def p_spec_l25Modus (H0:GH) (w0:World) (Ha:GH) (L:List MO) (r:(List zac)):Ending→World→Prop :=
 fun e w'=>∃ H':GH,∃ v0r:Value,∃ n0r:Nat,∃ c0r:List Value,e=.returned (v0r)∧(St H0 w0 H' w' (.row 74 6 v0r n0r c0r::L)∧Inc Ha H')∧Els H' eSeqStep 6 c0r r
set_option maxHeartbeats 4000000 in
theorem w_spec_l25Modus {H0 Ha:GH} {w0 wa:World} {L:List MO} {v0:Value} {n0:Nat} {k0:List Value} (S0:St H0 w0 Ha wa (.row 74 6 v0 n0 k0::L)) (a0:List zac) (p0:Els Ha eSeqStep 6 k0 a0) (v1:Value) (a1:List ByteArray) (p1:RSl Ha eS 1 v1 a1) (a2:Int) (a3:Int) (a4:ByteArray) (a5:ByteArray) {r:(List zac)} (hp:(PF.zcS a0 a1 a2 a3 a4 a5)=some r) :
  Calls Tryz.prog 74 #[v0,v1,Value.int .i64 a2,Value.int .i64 a3,Value.string a4,Value.string a5] wa (p_spec_l25Modus H0 w0 Ha L r):=by
 unfold PF.zcS at hp
 refine zaj (N:=102) (args:=[v0,v1,Value.int .i64 a2,Value.int .i64 a3,Value.string a4,Value.string a5]) Tryz.func74 rfl rfl rfl ?_
 refine FW.seq (FW.region ?_)
 refine FL.v (E.assign (v:=Value.slice none 0 0) rfl) ?_
 refine FL.nil (FW.seq (FW.region ?_))
 refine FL.v (E.move (v:=Value.string a4) rfl) ?_
 refine FL.v (E.move (v:=Value.string a5) rfl) ?_
 obtain ⟨r21,hr22,hp⟩:=bnd hp
 refine FL.call rfl rfl rfl (E.call Tryz.call122 (A3 rfl rfl rfl)) (w_spec_l22Join S0.sl (ByteArray.mk #[62]) a4 a5 hr22) ?_
 rintro e w23 ⟨rfl,r24⟩
 refine ⟨_,rfl,?_⟩
 have S25:=S0.call r24
 refine FL.v (E.assign (v:=Value.string r21) rfl) ?_
 refine FL.nil (FW.seq (FW.region ?_))
 refine FL.v (E.move (v:=v1) rfl) ?_
 refine FL.v (E.move (v:=Value.string a4) rfl) ?_
 obtain ⟨r26,hr27,hp⟩:=bnd hp
 refine FL.call rfl rfl rfl (E.call Tryz.call123 (A2 rfl rfl)) (zbd S25.sl v1 a1 p1 a4 hr27) ?_
 rintro e w29 ⟨H28,v32,rfl,r31,h33⟩
 refine ⟨_,rfl,?_⟩
 have S30:=S25.call r31
 refine FL.v (E.assign (v:=v32) rfl) ?_
 refine FL.nil (FW.seq (FW.region ?_))
 refine FL.v (E.move (v:=v0) rfl) ?_
 refine FL.v (E.lenO te24 rfl S30 (i:=0) rfl p0 (by decide)) ?_
 refine FL.v (E.assign (v:=Value.int .i64 (len a0)) rfl) ?_
 refine FL.nil (FW.seq (FW.region ?_))
 refine FL.v (E.move (v:=v32) rfl) ?_
 refine FL.v (E.move (v:=Value.string r21) rfl) ?_
 obtain ⟨r34,hr35,hp⟩:=bnd hp
 refine FL.call rfl rfl rfl (E.call Tryz.call124 (A2 rfl rfl)) (zdH S30.sl v32 r26 h33 r21 hr35) ?_
 rintro e w37 ⟨H36,v40,n41,cs42,rfl,r39,els43⟩
 refine ⟨_,rfl,?_⟩
 have els43:=els43.mono (up_le S30.size)
 have S38:=S30.join (l':=(.row 9 1 v40 n41 cs42::.row 74 6 v0 n0 k0::L)) r39 rfl
 refine FL.v (E.assign (v:=v40) rfl) ?_
 refine FL.nil (FW.seq (FW.region ?_))
 refine FL.v (E.move (v:=Value.string a5) rfl) ?_
 obtain ⟨v44,w45,run46,S47⟩:=S38.buildSlice (P:=Tryz.prog) te22 [Value.string a5] (parts:=#[(0,Value.string a5)]) (cells:=[Value.string a5]) rfl (zan rfl zal) (zam rfl zak) (zaa rfl zag) (Nat.le_of_ble_eq_true rfl)
 have els48:Els (up w0.heap.size H36) eS 1 [Value.string a5] [a5]:=(Els.snoc (H:=(up w0.heap.size H36)) (E:=eS) (k:=1) (c:=[Value.string a5]) (x:=a5) Els.nil rfl rfl)
 refine FL.v (E.buildSlice (B1 rfl) run46) ?_
 refine FL.v (E.assign (v:=v44) rfl) ?_
 refine FL.nil (FW.seq (FW.region ?_))
 refine FL.v (E.move (v:=v0) rfl) ?_
 obtain ⟨v49,w50,run51,S52⟩:=S47.buildSlice (P:=Tryz.prog) te22 [] (parts:=#[]) (cells:=[]) rfl zal zak zag (Nat.le_of_ble_eq_true rfl)
 have els53:Els (up w0.heap.size H36) eS 1 [] []:=Els.nil
 refine FL.v (E.buildSlice (B0) run51) ?_
 refine FL.v (E.move (v:=v1) rfl) ?_
 obtain ⟨xs54,hz55,hp⟩:=bnd hp
 obtain ⟨v56,w59,n57,cs58,run60,S61,els62⟩:=S52.appendP (P:=Tryz.prog) (Inc.rfl _) te22 (i:=0) rfl (els53.mono upI) (p1.mono (r31.inc.tr r39.run.inc)) hz55
 have S61:St H0 w0 H36 w59 (.row 9 1 v56 n57 cs58::.row 9 1 v44 1 [Value.string a5]::.row 9 1 v40 n41 cs42::.row 74 6 v0 n0 k0::L):=S61
 have els62:Els (up w0.heap.size H36) eS 1 cs58 xs54:=els62.any (fun _ _ _ _ h=>h)
 refine FL.v (E.append rfl rfl run60) ?_
 refine FL.v (E.move (v:=v44) rfl) ?_
 refine FL.v (E.move (v:=Value.string a4) rfl) ?_
 obtain ⟨H93,S94,i95,h96,nv97⟩:=S61.sealRowU (i:=1) (l':=(.row 9 1 v56 n57 cs58::.row 9 1 v40 n41 cs42::.row 74 6 v0 n0 k0::L)) rfl els48 (by decide) rfl
 obtain ⟨sAq,hqAq,hp⟩:=bnd hp
 obtain ⟨R126,hRAq⟩:∃ R126:(List ByteArray)→Ending→World→Prop,R126=(fun sAq e w=>∃ H:GH,∃ vAr:Value,e=Ending.returned (vAr)∧St H0 w0 H w (.row 9 1 v56 n57 cs58::.row 9 1 v40 n41 cs42::.row 74 6 v0 n0 k0::L)∧Inc H93 H∧RSl H eS 1 vAr sAq):=⟨_,rfl⟩
 have hcAq:Calls Tryz.prog 123 #[v44,Value.string a4] w59 (R126 sAq):=by
  clear hp;have hp:=hqAq;clear hqAq
  refine zaj (N:=10) (args:=[v44,Value.string a4]) Tryz.func123 rfl rfl rfl ?_
  refine FW.seq (FW.region ?_)
  refine FL.v (E.assign (v:=Value.slice none 0 0) rfl) ?_
  refine FL.nil (FW.seq (FW.region ?_))
  obtain ⟨vAt,wAu,runAv,SAw⟩:=S94.buildSlice (P:=Tryz.prog) te22 [] (parts:=#[]) (cells:=[]) rfl zal zak zag (Nat.le_of_ble_eq_true rfl)
  have elsAx:Els (up w0.heap.size H93) eS 1 [] []:=Els.nil
  refine FL.v (E.buildSlice (B0) runAv) ?_
  refine FL.v (E.move (v:=v44) rfl) ?_
  obtain ⟨xsAy,hzAz,hp⟩:=bnd hp
  obtain ⟨vAA,wAD,nAB,csAC,runAE,SAF,elsAG⟩:=SAw.appendP (P:=Tryz.prog) upI te22 (i:=0) rfl elsAx h96 hzAz
  have SAF:St H0 w0 H93 wAD (.row 9 1 vAA nAB csAC::.row 9 1 v56 n57 cs58::.row 9 1 v40 n41 cs42::.row 74 6 v0 n0 k0::L):=SAF
  refine FL.v (E.append rfl rfl runAE) ?_
  refine FL.v (E.move (v:=Value.string a4) rfl) ?_
  obtain ⟨HAI,SAJ,iAK,hAL,nvAM⟩:=SAF.sealRowU (i:=0) (l':=(.row 9 1 v56 n57 cs58::.row 9 1 v40 n41 cs42::.row 74 6 v0 n0 k0::L)) rfl elsAG (by decide) rfl
  obtain ⟨rAN,hrAO,hp⟩:=bnd hp
  refine FL.call rfl rfl rfl (E.call Tryz.call101 (A2 rfl rfl)) (zbB SAJ.sl vAA xsAy (hAL.mono upI) a4 hrAO) ?_
  rintro e wAQ ⟨HAP,vAT,rfl,rAS,hAU⟩
  refine ⟨_,rfl,?_⟩
  have SAR:=SAJ.call rAS
  refine FL.v (E.assign (v:=vAT) rfl) ?_
  refine FL.nil ?_
  refine FW.ret ?_
  obtain rfl:=Option.some.inj hp
  exact ⟨.inr rfl,res1 rfl rfl (by rw [hRAq];exact ⟨_,_,rfl,SAR,(iAK.tr rAS.inc),hAU⟩)⟩
 clear hqAq
 refine FL.call rfl rfl rfl (E.call Tryz.call123 (A2 rfl rfl)) hcAq ?_
 intro e wAY hQAq
 rw [hRAq] at hQAq
 obtain ⟨HAV,vAr,rfl,SAW,iAX,hAs⟩:=hQAq
 refine ⟨_,rfl,?_⟩
 refine FL.v (E.build (B2 rfl rfl) (run_build _ 68 #[(0,v56),(1,vAr)] #[v56,vAr] (by obtain ⟨_,_,rfl⟩:=RSl.ln hAs;obtain ⟨_,_,rfl⟩:=SAW.row_ln (i:=0) rfl;rfl))) ?_
 refine FL.v (E.move (v:=Value.int .i64 a2) rfl) ?_
 refine FL.v (E.build (B3 rfl rfl rfl) (run_build _ 74 #[(0,Value.agg #[v56,vAr]),(1,Value.int .i64 10),(3,Value.int .i64 a2)] #[v56,vAr,Value.int .i64 10,Value.string ByteArray.empty,Value.int .i64 a2,Value.int .i64 0] (by obtain ⟨_,_,rfl⟩:=RSl.ln hAs;obtain ⟨_,_,rfl⟩:=SAW.row_ln (i:=0) rfl;rfl))) ?_
 obtain ⟨vB0,wB1,runB2,SB3⟩:=SAW.buildSlice (P:=Tryz.prog) te22 [] (parts:=#[]) (cells:=[]) rfl zal zak zag (Nat.le_of_ble_eq_true rfl)
 have elsB4:Els (up w0.heap.size HAV) eS 1 [] []:=Els.nil
 refine FL.v (E.buildSlice (B0) runB2) ?_
 refine FL.v (E.move (v:=v32) rfl) ?_
 obtain ⟨xsB5,hzB6,hp⟩:=bnd hp
 obtain ⟨vB7,wBa,nB8,csB9,runBb,SBc,elsBd⟩:=SB3.appendP (P:=Tryz.prog) (Inc.rfl _) te22 (i:=0) rfl (elsB4.mono upI) (h33.mono ((r39.run.inc.tr i95).tr iAX)) hzB6
 have SBc:St H0 w0 HAV wBa (.row 9 1 vB7 nB8 csB9::.row 9 1 v56 n57 cs58::.row 9 1 v40 n41 cs42::.row 74 6 v0 n0 k0::L):=SBc
 have elsBd:Els (up w0.heap.size HAV) eS 1 csB9 xsB5:=elsBd.any (fun _ _ _ _ h=>h)
 refine FL.v (E.append rfl rfl runBb) ?_
 refine FL.v (E.move (v:=v44) rfl) ?_
 refine FL.v (E.move (v:=Value.string r21) rfl) ?_
 obtain ⟨rBf,hrBg,hp⟩:=bnd hp
 refine FL.call rfl rfl rfl (E.call Tryz.call123 (A2 rfl rfl)) (zbd SBc.sl v44 [a5] (h96.mono (upI.tr iAX)) r21 hrBg) ?_
 rintro e wBi ⟨HBh,vBl,rfl,rBk,hBm⟩
 refine ⟨_,rfl,?_⟩
 have SBj:=SBc.call rBk
 refine FL.v (E.build (B2 rfl rfl) (run_build _ 68 #[(0,vB7),(1,vBl)] #[vB7,vBl] (by obtain ⟨_,_,rfl⟩:=RSl.ln hBm;obtain ⟨_,_,rfl⟩:=SBj.row_ln (i:=0) rfl;rfl))) ?_
 refine FL.v (E.move (v:=Value.int .i64 a3) rfl) ?_
 refine FL.v (E.build (B3 rfl rfl rfl) (run_build _ 74 #[(0,Value.agg #[vB7,vBl]),(1,Value.int .i64 10),(3,Value.int .i64 a3)] #[vB7,vBl,Value.int .i64 10,Value.string ByteArray.empty,Value.int .i64 a3,Value.int .i64 0] (by obtain ⟨_,_,rfl⟩:=RSl.ln hBm;obtain ⟨_,_,rfl⟩:=SBj.row_ln (i:=0) rfl;rfl))) ?_
 obtain ⟨vBn,wBo,runBp,SBq⟩:=SBj.buildSlice (P:=Tryz.prog) te22 [] (parts:=#[]) (cells:=[]) rfl zal zak zag (Nat.le_of_ble_eq_true rfl)
 have elsBr:Els (up w0.heap.size HBh) eS 1 [] []:=Els.nil
 refine FL.v (E.buildSlice (B0) runBp) ?_
 refine FL.v (E.move (v:=v40) rfl) ?_
 obtain ⟨xsBs,hzBt,hp⟩:=bnd hp
 obtain ⟨vBu,wBx,nBv,csBw,runBy,SBz,elsBA,ceBB⟩:=SBq.appendO (P:=Tryz.prog) te22 (i:=0) (j:=3) rfl elsBr rfl (els43.mono (zai ((i95.tr iAX).tr rBk.inc))) hzBt
 have SBz:St H0 w0 HBh wBx (.row 9 1 vBu nBv csBw::.row 9 1 vB7 nB8 csB9::.row 9 1 v56 n57 cs58::.row 9 1 v40 n41 cs42::.row 74 6 v0 n0 k0::L):=SBz
 refine FL.v (E.append rfl rfl runBy) ?_
 refine FL.v (E.move (v:=v44) rfl) ?_
 refine FL.v (E.move (v:=Value.string a4) rfl) ?_
 obtain ⟨rBC,hrBD,hp⟩:=bnd hp
 refine FL.call rfl rfl rfl (E.call Tryz.call123 (A2 rfl rfl)) (zbd SBz.sl v44 [a5] (h96.mono (upI.tr (iAX.tr rBk.inc))) a4 hrBD) ?_
 rintro e wBF ⟨HBE,vBI,rfl,rBH,hBJ⟩
 refine ⟨_,rfl,?_⟩
 have SBG:=SBz.call rBH
 refine FL.v (E.build (B2 rfl rfl) (run_build _ 68 #[(0,vBu),(1,vBI)] #[vBu,vBI] (by obtain ⟨_,_,rfl⟩:=RSl.ln hBJ;obtain ⟨_,_,rfl⟩:=SBG.row_ln (i:=0) rfl;rfl))) ?_
 refine FL.v (E.build (B2 rfl rfl) (run_build _ 74 #[(0,Value.agg #[vBu,vBI]),(1,Value.int .i64 1)] #[vBu,vBI,Value.int .i64 1,Value.string ByteArray.empty,Value.int .i64 0,Value.int .i64 0] (by obtain ⟨_,_,rfl⟩:=RSl.ln hBJ;obtain ⟨_,_,rfl⟩:=SBG.row_ln (i:=0) rfl;rfl))) ?_
 refine FL.v (E.move (v:=v40) rfl) ?_
 refine FL.v (E.move (v:=Value.string a5) rfl) ?_
 obtain ⟨sCc,hqCc,hp⟩:=bnd hp
 obtain ⟨R236,hRCc⟩:∃ R236:(List ByteArray)→Ending→World→Prop,R236=(fun sCc e w=>∃ H:GH,∃ vCd:Value,e=Ending.returned (vCd)∧St H0 w0 H w (.row 9 1 vBu nBv csBw::.row 9 1 vB7 nB8 csB9::.row 9 1 v56 n57 cs58::.row 9 1 v40 n41 cs42::.row 74 6 v0 n0 k0::L)∧Inc HBE H∧RSl H eS 1 vCd sCc):=⟨_,rfl⟩
 have hcCc:Calls Tryz.prog 123 #[v40,Value.string a5] wBF (R236 sCc):=by
  clear hp;have hp:=hqCc;clear hqCc
  refine zaj (N:=10) (args:=[v40,Value.string a5]) Tryz.func123 rfl rfl rfl ?_
  refine FW.seq (FW.region ?_)
  refine FL.v (E.assign (v:=Value.slice none 0 0) rfl) ?_
  refine FL.nil (FW.seq (FW.region ?_))
  obtain ⟨vCf,wCg,runCh,SCi⟩:=SBG.buildSlice (P:=Tryz.prog) te22 [] (parts:=#[]) (cells:=[]) rfl zal zak zag (Nat.le_of_ble_eq_true rfl)
  have elsCj:Els (up w0.heap.size HBE) eS 1 [] []:=Els.nil
  refine FL.v (E.buildSlice (B0) runCh) ?_
  refine FL.v (E.move (v:=v40) rfl) ?_
  obtain ⟨xsCk,hzCl,hp⟩:=bnd hp
  obtain ⟨vCm,wCp,nCn,csCo,runCq,SCr,elsCs,ceCt⟩:=SCi.appendO (P:=Tryz.prog) te22 (i:=0) (j:=4) rfl elsCj rfl (els43.mono (zai (((i95.tr iAX).tr rBk.inc).tr rBH.inc))) hzCl
  have SCr:St H0 w0 HBE wCp (.row 9 1 vCm nCn csCo::.row 9 1 vBu nBv csBw::.row 9 1 vB7 nB8 csB9::.row 9 1 v56 n57 cs58::.row 9 1 v40 n41 cs42::.row 74 6 v0 n0 k0::L):=SCr
  refine FL.v (E.append rfl rfl runCq) ?_
  refine FL.v (E.move (v:=Value.string a5) rfl) ?_
  obtain ⟨HCu,SCv,iCw,hCx,nvCy⟩:=SCr.sealRowU (i:=0) (l':=(.row 9 1 vBu nBv csBw::.row 9 1 vB7 nB8 csB9::.row 9 1 v56 n57 cs58::.row 9 1 v40 n41 cs42::.row 74 6 v0 n0 k0::L)) rfl elsCs (by decide) rfl
  obtain ⟨rCz,hrCA,hp⟩:=bnd hp
  refine FL.call rfl rfl rfl (E.call Tryz.call101 (A2 rfl rfl)) (zbB SCv.sl vCm xsCk (hCx.mono upI) a5 hrCA) ?_
  rintro e wCC ⟨HCB,vCF,rfl,rCE,hCG⟩
  refine ⟨_,rfl,?_⟩
  have SCD:=SCv.call rCE
  refine FL.v (E.assign (v:=vCF) rfl) ?_
  refine FL.nil ?_
  refine FW.ret ?_
  obtain rfl:=Option.some.inj hp
  exact ⟨.inr rfl,res1 rfl rfl (by rw [hRCc];exact ⟨_,_,rfl,SCD,(iCw.tr rCE.inc),hCG⟩)⟩
 clear hqCc
 refine FL.call rfl rfl rfl (E.call Tryz.call123 (A2 rfl rfl)) hcCc ?_
 intro e wCK hQCc
 rw [hRCc] at hQCc
 obtain ⟨HCH,vCd,rfl,SCI,iCJ,hCe⟩:=hQCc
 refine ⟨_,rfl,?_⟩
 refine FL.v (E.move (v:=Value.string a5) rfl) ?_
 obtain ⟨vCM,wCN,runCO,SCP⟩:=SCI.buildSlice (P:=Tryz.prog) te22 [Value.string a5] (parts:=#[(0,Value.string a5)]) (cells:=[Value.string a5]) rfl (zan rfl zal) (zam rfl zak) (zaa rfl zag) (Nat.le_of_ble_eq_true rfl)
 have elsCQ:Els (up w0.heap.size HCH) eS 1 [Value.string a5] [a5]:=(Els.snoc (H:=(up w0.heap.size HCH)) (E:=eS) (k:=1) (c:=[Value.string a5]) (x:=a5) Els.nil rfl rfl)
 refine FL.v (E.buildSlice (B1 rfl) runCO) ?_
 refine FL.v (E.build (B2 rfl rfl) (run_build _ 68 #[(0,vCd),(1,vCM)] #[vCd,vCM] (by obtain ⟨_,_,rfl⟩:=RSl.ln hCe;obtain ⟨_,_,rfl⟩:=SCP.row_ln (i:=0) rfl;rfl))) ?_
 refine FL.v (E.build (B2 rfl rfl) (run_build _ 74 #[(0,Value.agg #[vCd,vCM]),(1,Value.int .i64 1)] #[vCd,vCM,Value.int .i64 1,Value.string ByteArray.empty,Value.int .i64 0,Value.int .i64 0] (by obtain ⟨_,_,rfl⟩:=RSl.ln hCe;obtain ⟨_,_,rfl⟩:=SCP.row_ln (i:=0) rfl;rfl))) ?_
 refine FL.v (E.move (v:=v32) rfl) ?_
 refine FL.v (E.move (v:=Value.string r21) rfl) ?_
 obtain ⟨rCR,hrCS,hp⟩:=bnd hp
 refine FL.call rfl rfl rfl (E.call Tryz.call123 (A2 rfl rfl)) (zbd SCP.sl v32 r26 (h33.mono (((((r39.run.inc.tr i95).tr iAX).tr rBk.inc).tr rBH.inc).tr iCJ)) r21 hrCS) ?_
 rintro e wCU ⟨HCT,vCX,rfl,rCW,hCY⟩
 refine ⟨_,rfl,?_⟩
 have SCV:=SCP.call rCW
 refine FL.v (E.move (v:=Value.string a5) rfl) ?_
 obtain ⟨vCZ,wD0,runD1,SD2⟩:=SCV.buildSlice (P:=Tryz.prog) te22 [Value.string a5] (parts:=#[(0,Value.string a5)]) (cells:=[Value.string a5]) rfl (zan rfl zal) (zam rfl zak) (zaa rfl zag) (Nat.le_of_ble_eq_true rfl)
 have elsD3:Els (up w0.heap.size HCT) eS 1 [Value.string a5] [a5]:=(Els.snoc (H:=(up w0.heap.size HCT)) (E:=eS) (k:=1) (c:=[Value.string a5]) (x:=a5) Els.nil rfl rfl)
 refine FL.v (E.buildSlice (B1 rfl) runD1) ?_
 refine FL.v (E.build (B2 rfl rfl) (run_build _ 68 #[(0,vCX),(1,vCZ)] #[vCX,vCZ] (by obtain ⟨_,_,rfl⟩:=RSl.ln hCY;obtain ⟨_,_,rfl⟩:=SD2.row_ln (i:=0) rfl;rfl))) ?_
 refine FL.v (E.move (v:=Value.string r21) rfl) ?_
 refine FL.v (E.move (v:=Value.int .i64 (len a0)) rfl) ?_
 refine FL.v (E.add rfl rfl) ?_
 refine FL.v (E.move (v:=Value.int .i64 (len a0)) rfl) ?_
 refine FL.v (E.add rfl rfl) ?_
 refine FL.v (E.build (B5 rfl rfl rfl rfl rfl) (run_build _ 74 #[(0,Value.agg #[vCX,vCZ]),(1,Value.int .i64 8),(2,Value.string r21),(3,Value.int .i64 (wr ((len a0) + 2))),(4,Value.int .i64 (wr ((len a0) + 3)))] #[vCX,vCZ,Value.int .i64 8,Value.string r21,Value.int .i64 (wr ((len a0) + 2)),Value.int .i64 (wr ((len a0) + 3))] (by obtain ⟨_,_,rfl⟩:=RSl.ln hCY;obtain ⟨_,_,rfl⟩:=SD2.row_ln (i:=0) rfl;rfl))) ?_
 obtain ⟨vD4,wD5,runD6,SD7⟩:=SD2.buildSlice (P:=Tryz.prog) te22 [] (parts:=#[]) (cells:=[]) rfl zal zak zag (Nat.le_of_ble_eq_true rfl)
 have elsD8:Els (up w0.heap.size HCT) eS 1 [] []:=Els.nil
 refine FL.v (E.buildSlice (B0) runD6) ?_
 refine FL.v (E.move (v:=v32) rfl) ?_
 obtain ⟨xsD9,hzDa,hp⟩:=bnd hp
 obtain ⟨vDb,wDe,nDc,csDd,runDf,SDg,elsDh⟩:=SD7.appendP (P:=Tryz.prog) (Inc.rfl _) te22 (i:=0) rfl (elsD8.mono upI) (h33.mono ((((((r39.run.inc.tr i95).tr iAX).tr rBk.inc).tr rBH.inc).tr iCJ).tr rCW.inc)) hzDa
 have SDg:St H0 w0 HCT wDe (.row 9 1 vDb nDc csDd::.row 9 1 vCZ 1 [Value.string a5]::.row 9 1 vCM 1 [Value.string a5]::.row 9 1 vBu nBv csBw::.row 9 1 vB7 nB8 csB9::.row 9 1 v56 n57 cs58::.row 9 1 v40 n41 cs42::.row 74 6 v0 n0 k0::L):=SDg
 have elsDh:Els (up w0.heap.size HCT) eS 1 csDd xsD9:=elsDh.any (fun _ _ _ _ h=>h)
 refine FL.v (E.append rfl rfl runDf) ?_
 refine FL.v (E.move (v:=Value.string a5) rfl) ?_
 obtain ⟨vDj,wDk,runDl,SDm⟩:=SDg.buildSlice (P:=Tryz.prog) te22 [Value.string a5] (parts:=#[(0,Value.string a5)]) (cells:=[Value.string a5]) rfl (zan rfl zal) (zam rfl zak) (zaa rfl zag) (Nat.le_of_ble_eq_true rfl)
 have elsDn:Els (up w0.heap.size HCT) eS 1 [Value.string a5] [a5]:=(Els.snoc (H:=(up w0.heap.size HCT)) (E:=eS) (k:=1) (c:=[Value.string a5]) (x:=a5) Els.nil rfl rfl)
 refine FL.v (E.buildSlice (B1 rfl) runDl) ?_
 refine FL.v (E.build (B2 rfl rfl) (run_build _ 68 #[(0,vDb),(1,vDj)] #[vDb,vDj] (by obtain ⟨_,_,rfl⟩:=SDm.row_ln (i:=1) rfl;obtain ⟨_,_,rfl⟩:=SDm.row_ln (i:=0) rfl;rfl))) ?_
 refine FL.v (E.move (v:=Value.string r21) rfl) ?_
 refine FL.v (E.move (v:=Value.int .i64 (len a0)) rfl) ?_
 refine FL.v (E.add rfl rfl) ?_
 refine FL.v (E.move (v:=Value.int .i64 (len a0)) rfl) ?_
 refine FL.v (E.add rfl rfl) ?_
 refine FL.v (E.build (B5 rfl rfl rfl rfl rfl) (run_build _ 74 #[(0,Value.agg #[vDb,vDj]),(1,Value.int .i64 11),(2,Value.string r21),(3,Value.int .i64 (wr ((len a0) + 1))),(4,Value.int .i64 (wr ((len a0) + 4)))] #[vDb,vDj,Value.int .i64 11,Value.string r21,Value.int .i64 (wr ((len a0) + 1)),Value.int .i64 (wr ((len a0) + 4))] (by obtain ⟨_,_,rfl⟩:=SDm.row_ln (i:=1) rfl;obtain ⟨_,_,rfl⟩:=SDm.row_ln (i:=0) rfl;rfl))) ?_
 obtain ⟨vDo,wDp,runDq,SDr⟩:=SDm.buildSlice (P:=Tryz.prog) te22 [] (parts:=#[]) (cells:=[]) rfl zal zak zag (Nat.le_of_ble_eq_true rfl)
 have elsDs:Els (up w0.heap.size HCT) eS 1 [] []:=Els.nil
 refine FL.v (E.buildSlice (B0) runDq) ?_
 refine FL.v (E.move (v:=v1) rfl) ?_
 obtain ⟨xsDt,hzDu,hp⟩:=bnd hp
 obtain ⟨vDv,wDy,nDw,csDx,runDz,SDA,elsDB⟩:=SDr.appendP (P:=Tryz.prog) (Inc.rfl _) te22 (i:=0) rfl (elsDs.mono upI) (p1.mono (((((((r31.inc.tr r39.run.inc).tr i95).tr iAX).tr rBk.inc).tr rBH.inc).tr iCJ).tr rCW.inc)) hzDu
 have SDA:St H0 w0 HCT wDy (.row 9 1 vDv nDw csDx::.row 9 1 vDj 1 [Value.string a5]::.row 9 1 vDb nDc csDd::.row 9 1 vCZ 1 [Value.string a5]::.row 9 1 vCM 1 [Value.string a5]::.row 9 1 vBu nBv csBw::.row 9 1 vB7 nB8 csB9::.row 9 1 v56 n57 cs58::.row 9 1 v40 n41 cs42::.row 74 6 v0 n0 k0::L):=SDA
 have elsDB:Els (up w0.heap.size HCT) eS 1 csDx xsDt:=elsDB.any (fun _ _ _ _ h=>h)
 refine FL.v (E.append rfl rfl runDz) ?_
 refine FL.v (E.move (v:=Value.string a5) rfl) ?_
 obtain ⟨vDD,wDE,runDF,SDG⟩:=SDA.buildSlice (P:=Tryz.prog) te22 [Value.string a5] (parts:=#[(0,Value.string a5)]) (cells:=[Value.string a5]) rfl (zan rfl zal) (zam rfl zak) (zaa rfl zag) (Nat.le_of_ble_eq_true rfl)
 have elsDH:Els (up w0.heap.size HCT) eS 1 [Value.string a5] [a5]:=(Els.snoc (H:=(up w0.heap.size HCT)) (E:=eS) (k:=1) (c:=[Value.string a5]) (x:=a5) Els.nil rfl rfl)
 refine FL.v (E.buildSlice (B1 rfl) runDF) ?_
 refine FL.v (E.build (B2 rfl rfl) (run_build _ 68 #[(0,vDv),(1,vDD)] #[vDv,vDD] (by obtain ⟨_,_,rfl⟩:=SDG.row_ln (i:=1) rfl;obtain ⟨_,_,rfl⟩:=SDG.row_ln (i:=0) rfl;rfl))) ?_
 refine FL.v (E.move (v:=Value.string a4) rfl) ?_
 refine FL.v (E.move (v:=Value.int .i64 (len a0)) rfl) ?_
 refine FL.v (E.move (v:=Value.int .i64 (len a0)) rfl) ?_
 refine FL.v (E.add rfl rfl) ?_
 refine FL.v (E.build (B5 rfl rfl rfl rfl rfl) (run_build _ 74 #[(0,Value.agg #[vDv,vDD]),(1,Value.int .i64 11),(2,Value.string a4),(3,Value.int .i64 (len a0)),(4,Value.int .i64 (wr ((len a0) + 5)))] #[vDv,vDD,Value.int .i64 11,Value.string a4,Value.int .i64 (len a0),Value.int .i64 (wr ((len a0) + 5))] (by obtain ⟨_,_,rfl⟩:=SDG.row_ln (i:=1) rfl;obtain ⟨_,_,rfl⟩:=SDG.row_ln (i:=0) rfl;rfl))) ?_
 obtain ⟨HDI,SDJ,iDK,hDL,nvDM⟩:=SDG.sealRowU (i:=8) (l':=(.row 9 1 vDD 1 [Value.string a5]::.row 9 1 vDv nDw csDx::.row 9 1 vDj 1 [Value.string a5]::.row 9 1 vDb nDc csDd::.row 9 1 vCZ 1 [Value.string a5]::.row 9 1 vCM 1 [Value.string a5]::.row 9 1 vBu nBv csBw::.row 9 1 vB7 nB8 csB9::.row 9 1 v40 n41 cs42::.row 74 6 v0 n0 k0::L)) rfl (els62.mono (zai (((((i95.tr iAX).tr rBk.inc).tr rBH.inc).tr iCJ).tr rCW.inc))) (by decide) rfl
 obtain ⟨HDN,SDO,iDP,hDQ,nvDR⟩:=SDJ.sealRowU (i:=7) (l':=(.row 9 1 vDD 1 [Value.string a5]::.row 9 1 vDv nDw csDx::.row 9 1 vDj 1 [Value.string a5]::.row 9 1 vDb nDc csDd::.row 9 1 vCZ 1 [Value.string a5]::.row 9 1 vCM 1 [Value.string a5]::.row 9 1 vBu nBv csBw::.row 9 1 v40 n41 cs42::.row 74 6 v0 n0 k0::L)) rfl (elsBd.mono (zai ((((rBk.inc.tr rBH.inc).tr iCJ).tr rCW.inc).tr iDK))) (by decide) rfl
 obtain ⟨HDS,SDT,iDU,hDV,nvDW⟩:=SDO.sealRowU (i:=6) (l':=(.row 9 1 vDD 1 [Value.string a5]::.row 9 1 vDv nDw csDx::.row 9 1 vDj 1 [Value.string a5]::.row 9 1 vDb nDc csDd::.row 9 1 vCZ 1 [Value.string a5]::.row 9 1 vCM 1 [Value.string a5]::.row 9 1 v40 n41 cs42::.row 74 6 v0 n0 k0::L)) rfl (elsBA.mono (zai ((((rBH.inc.tr iCJ).tr rCW.inc).tr iDK).tr iDP))) (by decide) rfl
 obtain ⟨HDX,SDY,iDZ,hE0,nvE1⟩:=SDT.sealRowU (i:=5) (l':=(.row 9 1 vDD 1 [Value.string a5]::.row 9 1 vDv nDw csDx::.row 9 1 vDj 1 [Value.string a5]::.row 9 1 vDb nDc csDd::.row 9 1 vCZ 1 [Value.string a5]::.row 9 1 v40 n41 cs42::.row 74 6 v0 n0 k0::L)) rfl (elsCQ.mono (zai (((rCW.inc.tr iDK).tr iDP).tr iDU))) (by decide) rfl
 obtain ⟨HE2,SE3,iE4,hE5,nvE6⟩:=SDY.sealRowU (i:=4) (l':=(.row 9 1 vDD 1 [Value.string a5]::.row 9 1 vDv nDw csDx::.row 9 1 vDj 1 [Value.string a5]::.row 9 1 vDb nDc csDd::.row 9 1 v40 n41 cs42::.row 74 6 v0 n0 k0::L)) rfl (elsD3.mono (zai (((iDK.tr iDP).tr iDU).tr iDZ))) (by decide) rfl
 obtain ⟨HE7,SE8,iE9,hEa,nvEb⟩:=SE3.sealRowU (i:=3) (l':=(.row 9 1 vDD 1 [Value.string a5]::.row 9 1 vDv nDw csDx::.row 9 1 vDj 1 [Value.string a5]::.row 9 1 v40 n41 cs42::.row 74 6 v0 n0 k0::L)) rfl (elsDh.mono (zai ((((iDK.tr iDP).tr iDU).tr iDZ).tr iE4))) (by decide) rfl
 obtain ⟨HEc,SEd,iEe,hEf,nvEg⟩:=SE8.sealRowU (i:=2) (l':=(.row 9 1 vDD 1 [Value.string a5]::.row 9 1 vDv nDw csDx::.row 9 1 v40 n41 cs42::.row 74 6 v0 n0 k0::L)) rfl (elsDn.mono (zai (((((iDK.tr iDP).tr iDU).tr iDZ).tr iE4).tr iE9))) (by decide) rfl
 obtain ⟨HEh,SEi,iEj,hEk,nvEl⟩:=SEd.sealRowU (i:=1) (l':=(.row 9 1 vDD 1 [Value.string a5]::.row 9 1 v40 n41 cs42::.row 74 6 v0 n0 k0::L)) rfl (elsDB.mono (zai ((((((iDK.tr iDP).tr iDU).tr iDZ).tr iE4).tr iE9).tr iEe))) (by decide) rfl
 obtain ⟨HEm,SEn,iEo,hEp,nvEq⟩:=SEi.sealRowU (i:=0) (l':=(.row 9 1 v40 n41 cs42::.row 74 6 v0 n0 k0::L)) rfl (elsDH.mono (zai (((((((iDK.tr iDP).tr iDU).tr iDZ).tr iE4).tr iE9).tr iEe).tr iEj))) (by decide) rfl
 obtain ⟨vEr,wEs,runEt,SEu⟩:=SEn.buildSlice (P:=Tryz.prog) te24 [Value.agg #[v56,vAr,Value.int .i64 10,Value.string ByteArray.empty,Value.int .i64 a2,Value.int .i64 0],Value.agg #[vB7,vBl,Value.int .i64 10,Value.string ByteArray.empty,Value.int .i64 a3,Value.int .i64 0],Value.agg #[vBu,vBI,Value.int .i64 1,Value.string ByteArray.empty,Value.int .i64 0,Value.int .i64 0],Value.agg #[vCd,vCM,Value.int .i64 1,Value.string ByteArray.empty,Value.int .i64 0,Value.int .i64 0],Value.agg #[vCX,vCZ,Value.int .i64 8,Value.string r21,Value.int .i64 (wr ((len a0) + 2)),Value.int .i64 (wr ((len a0) + 3))],Value.agg #[vDb,vDj,Value.int .i64 11,Value.string r21,Value.int .i64 (wr ((len a0) + 1)),Value.int .i64 (wr ((len a0) + 4))],Value.agg #[vDv,vDD,Value.int .i64 11,Value.string a4,Value.int .i64 (len a0),Value.int .i64 (wr ((len a0) + 5))]] (parts:=#[(0,Value.agg #[v56,vAr,Value.int .i64 10,Value.string ByteArray.empty,Value.int .i64 a2,Value.int .i64 0]),(1,Value.agg #[vB7,vBl,Value.int .i64 10,Value.string ByteArray.empty,Value.int .i64 a3,Value.int .i64 0]),(2,Value.agg #[vBu,vBI,Value.int .i64 1,Value.string ByteArray.empty,Value.int .i64 0,Value.int .i64 0]),(3,Value.agg #[vCd,vCM,Value.int .i64 1,Value.string ByteArray.empty,Value.int .i64 0,Value.int .i64 0]),(4,Value.agg #[vCX,vCZ,Value.int .i64 8,Value.string r21,Value.int .i64 (wr ((len a0) + 2)),Value.int .i64 (wr ((len a0) + 3))]),(5,Value.agg #[vDb,vDj,Value.int .i64 11,Value.string r21,Value.int .i64 (wr ((len a0) + 1)),Value.int .i64 (wr ((len a0) + 4))]),(6,Value.agg #[vDv,vDD,Value.int .i64 11,Value.string a4,Value.int .i64 (len a0),Value.int .i64 (wr ((len a0) + 5))])]) (cells:=[v56,vAr,Value.int .i64 10,Value.string ByteArray.empty,Value.int .i64 a2,Value.int .i64 0,vB7,vBl,Value.int .i64 10,Value.string ByteArray.empty,Value.int .i64 a3,Value.int .i64 0,vBu,vBI,Value.int .i64 1,Value.string ByteArray.empty,Value.int .i64 0,Value.int .i64 0,vCd,vCM,Value.int .i64 1,Value.string ByteArray.empty,Value.int .i64 0,Value.int .i64 0,vCX,vCZ,Value.int .i64 8,Value.string r21,Value.int .i64 (wr ((len a0) + 2)),Value.int .i64 (wr ((len a0) + 3)),vDb,vDj,Value.int .i64 11,Value.string r21,Value.int .i64 (wr ((len a0) + 1)),Value.int .i64 (wr ((len a0) + 4)),vDv,vDD,Value.int .i64 11,Value.string a4,Value.int .i64 (len a0),Value.int .i64 (wr ((len a0) + 5))]) rfl (zan rfl (zan rfl (zan rfl (zan rfl (zan rfl (zan rfl (zan rfl zal))))))) (zam rfl (zam rfl (zam rfl (zam rfl (zam rfl (zam rfl (zam rfl zak))))))) (zaa hDL.one (zaa hAs.one (zaa rfl (zaa rfl (zaa rfl (zaa rfl (zaa hDQ.one (zaa hBm.one (zaa rfl (zaa rfl (zaa rfl (zaa rfl (zaa hDV.one (zaa hBJ.one (zaa rfl (zaa rfl (zaa rfl (zaa rfl (zaa hCe.one (zaa hE0.one (zaa rfl (zaa rfl (zaa rfl (zaa rfl (zaa hCY.one (zaa hE5.one (zaa rfl (zaa rfl (zaa rfl (zaa rfl (zaa hEa.one (zaa hEf.one (zaa rfl (zaa rfl (zaa rfl (zaa rfl (zaa hEk.one (zaa hEp.one (zaa rfl (zaa rfl (zaa rfl (zaa rfl zag)))))))))))))))))))))))))))))))))))))))))) (Nat.le_of_ble_eq_true rfl)
 have elsEv:Els HEm eSeqStep 6 [v56,vAr,Value.int .i64 10,Value.string ByteArray.empty,Value.int .i64 a2,Value.int .i64 0,vB7,vBl,Value.int .i64 10,Value.string ByteArray.empty,Value.int .i64 a3,Value.int .i64 0,vBu,vBI,Value.int .i64 1,Value.string ByteArray.empty,Value.int .i64 0,Value.int .i64 0,vCd,vCM,Value.int .i64 1,Value.string ByteArray.empty,Value.int .i64 0,Value.int .i64 0,vCX,vCZ,Value.int .i64 8,Value.string r21,Value.int .i64 (wr ((len a0) + 2)),Value.int .i64 (wr ((len a0) + 3)),vDb,vDj,Value.int .i64 11,Value.string r21,Value.int .i64 (wr ((len a0) + 1)),Value.int .i64 (wr ((len a0) + 4)),vDv,vDD,Value.int .i64 11,Value.string a4,Value.int .i64 (len a0),Value.int .i64 (wr ((len a0) + 5))] [(zac.mk (zad.mk xs54 sAq) 10 ByteArray.empty a2 0),(zac.mk (zad.mk xsB5 rBf) 10 ByteArray.empty a3 0),(zac.mk (zad.mk xsBs rBC) 1 ByteArray.empty 0 0),(zac.mk (zad.mk sCc [a5]) 1 ByteArray.empty 0 0),(zac.mk (zad.mk rCR [a5]) 8 r21 (wr ((len a0) + 2)) (wr ((len a0) + 3))),(zac.mk (zad.mk xsD9 [a5]) 11 r21 (wr ((len a0) + 1)) (wr ((len a0) + 4))),(zac.mk (zad.mk xsDt [a5]) 11 a4 (len a0) (wr ((len a0) + 5)))]:=(Els.snoc (H:=HEm) (E:=eSeqStep) (k:=6) (c:=[vDv,vDD,Value.int .i64 11,Value.string a4,Value.int .i64 (len a0),Value.int .i64 (wr ((len a0) + 5))]) (x:=(zac.mk (zad.mk xsDt [a5]) 11 a4 (len a0) (wr ((len a0) + 5)))) (Els.snoc (H:=HEm) (E:=eSeqStep) (k:=6) (c:=[vDb,vDj,Value.int .i64 11,Value.string r21,Value.int .i64 (wr ((len a0) + 1)),Value.int .i64 (wr ((len a0) + 4))]) (x:=(zac.mk (zad.mk xsD9 [a5]) 11 r21 (wr ((len a0) + 1)) (wr ((len a0) + 4)))) (Els.snoc (H:=HEm) (E:=eSeqStep) (k:=6) (c:=[vCX,vCZ,Value.int .i64 8,Value.string r21,Value.int .i64 (wr ((len a0) + 2)),Value.int .i64 (wr ((len a0) + 3))]) (x:=(zac.mk (zad.mk rCR [a5]) 8 r21 (wr ((len a0) + 2)) (wr ((len a0) + 3)))) (Els.snoc (H:=HEm) (E:=eSeqStep) (k:=6) (c:=[vCd,vCM,Value.int .i64 1,Value.string ByteArray.empty,Value.int .i64 0,Value.int .i64 0]) (x:=(zac.mk (zad.mk sCc [a5]) 1 ByteArray.empty 0 0)) (Els.snoc (H:=HEm) (E:=eSeqStep) (k:=6) (c:=[vBu,vBI,Value.int .i64 1,Value.string ByteArray.empty,Value.int .i64 0,Value.int .i64 0]) (x:=(zac.mk (zad.mk xsBs rBC) 1 ByteArray.empty 0 0)) (Els.snoc (H:=HEm) (E:=eSeqStep) (k:=6) (c:=[vB7,vBl,Value.int .i64 10,Value.string ByteArray.empty,Value.int .i64 a3,Value.int .i64 0]) (x:=(zac.mk (zad.mk xsB5 rBf) 10 ByteArray.empty a3 0)) (Els.snoc (H:=HEm) (E:=eSeqStep) (k:=6) (c:=[v56,vAr,Value.int .i64 10,Value.string ByteArray.empty,Value.int .i64 a2,Value.int .i64 0]) (x:=(zac.mk (zad.mk xs54 sAq) 10 ByteArray.empty a2 0)) Els.nil rfl ⟨_,_,rfl,(hDL.mono (upI.tr (((((((iDP.tr iDU).tr iDZ).tr iE4).tr iE9).tr iEe).tr iEj).tr iEo))),(hAs.mono ((((((((((((rBk.inc.tr rBH.inc).tr iCJ).tr rCW.inc).tr iDK).tr iDP).tr iDU).tr iDZ).tr iE4).tr iE9).tr iEe).tr iEj).tr iEo))⟩) rfl ⟨_,_,rfl,(hDQ.mono (upI.tr ((((((iDU.tr iDZ).tr iE4).tr iE9).tr iEe).tr iEj).tr iEo))),(hBm.mono (((((((((((rBH.inc.tr iCJ).tr rCW.inc).tr iDK).tr iDP).tr iDU).tr iDZ).tr iE4).tr iE9).tr iEe).tr iEj).tr iEo))⟩) rfl ⟨_,_,rfl,(hDV.mono (upI.tr (((((iDZ.tr iE4).tr iE9).tr iEe).tr iEj).tr iEo))),(hBJ.mono ((((((((((iCJ.tr rCW.inc).tr iDK).tr iDP).tr iDU).tr iDZ).tr iE4).tr iE9).tr iEe).tr iEj).tr iEo))⟩) rfl ⟨_,_,rfl,(hCe.mono (((((((((rCW.inc.tr iDK).tr iDP).tr iDU).tr iDZ).tr iE4).tr iE9).tr iEe).tr iEj).tr iEo)),(hE0.mono (upI.tr ((((iE4.tr iE9).tr iEe).tr iEj).tr iEo)))⟩) rfl ⟨_,_,rfl,(hCY.mono ((((((((iDK.tr iDP).tr iDU).tr iDZ).tr iE4).tr iE9).tr iEe).tr iEj).tr iEo)),(hE5.mono (upI.tr (((iE9.tr iEe).tr iEj).tr iEo)))⟩) rfl ⟨_,_,rfl,(hEa.mono (upI.tr ((iEe.tr iEj).tr iEo))),(hEf.mono (upI.tr (iEj.tr iEo)))⟩) rfl ⟨_,_,rfl,(hEk.mono (upI.tr iEo)),(hEp.mono upI)⟩)
 refine FL.v (E.buildSlice (B7 rfl rfl rfl rfl rfl rfl rfl) runEt) ?_
 obtain ⟨xsEw,hzEx,hp⟩:=bnd hp
 obtain ⟨vEy,wEB,nEz,csEA,runEC,SED,elsEE,ceEF⟩:=SEu.appendO (P:=Tryz.prog) te24 (i:=2) (j:=0) rfl (p0.mono ((((((((((((((((r31.inc.tr r39.run.inc).tr i95).tr iAX).tr rBk.inc).tr rBH.inc).tr iCJ).tr rCW.inc).tr iDK).tr iDP).tr iDU).tr iDZ).tr iE4).tr iE9).tr iEe).tr iEj).tr iEo)) rfl elsEv hzEx
 have SED:St H0 w0 HEm wEB (.row 74 6 vEr 7 [v56,vAr,Value.int .i64 10,Value.string ByteArray.empty,Value.int .i64 a2,Value.int .i64 0,vB7,vBl,Value.int .i64 10,Value.string ByteArray.empty,Value.int .i64 a3,Value.int .i64 0,vBu,vBI,Value.int .i64 1,Value.string ByteArray.empty,Value.int .i64 0,Value.int .i64 0,vCd,vCM,Value.int .i64 1,Value.string ByteArray.empty,Value.int .i64 0,Value.int .i64 0,vCX,vCZ,Value.int .i64 8,Value.string r21,Value.int .i64 (wr ((len a0) + 2)),Value.int .i64 (wr ((len a0) + 3)),vDb,vDj,Value.int .i64 11,Value.string r21,Value.int .i64 (wr ((len a0) + 1)),Value.int .i64 (wr ((len a0) + 4)),vDv,vDD,Value.int .i64 11,Value.string a4,Value.int .i64 (len a0),Value.int .i64 (wr ((len a0) + 5))]::.row 9 1 v40 n41 cs42::.row 74 6 vEy nEz csEA::L):=SED
 have SEG:St H0 w0 HEm wEB (.row 9 1 v40 n41 cs42::.row 74 6 vEy nEz csEA::L):=SED.drop 0
 refine FL.v (E.append rfl rfl runEC) ?_
 refine FL.v (E.assign (v:=vEy) rfl) ?_
 refine FL.nil ?_
 refine FW.ret ?_
 obtain rfl:=Option.some.inj hp
 exact ⟨.inr rfl,res1 rfl rfl ⟨_,_,_,_,rfl,⟨(SEG.selT (a:=[.row 9 1 v40 n41 cs42,.row 74 6 vEy nEz csEA]) (l':=[.row 74 6 vEy nEz csEA]) [1] (by decide) rfl),((((((((((((((((r31.inc.tr r39.run.inc).tr i95).tr iAX).tr rBk.inc).tr rBH.inc).tr iCJ).tr rCW.inc).tr iDK).tr iDP).tr iDU).tr iDZ).tr iE4).tr iE9).tr iEe).tr iEj).tr iEo)⟩,elsEE⟩⟩

@[reducible] def p_spec_l25Give (Ha:GH) (wa:World) (r:((List zac)×Bool)):Ending→World→Prop :=
 fun e w'=>∃ H':GH,∃ v0:Value,e=.returned (Value.tuple #[v0,Value.bool r.2])∧Run wa.heap.size Ha wa H' w'∧RSl H' eSeqStep 6 v0 r.1
@[reducible] def zer (Ha:GH) (wa:World) (r:((List zac)×Bool)):Ending→World→Prop :=
 fun e w'=>∃ H':GH,∃ v0:Value,∃ n0:Nat,∃ c0:List Value,e=.returned (Value.tuple #[v0,Value.bool r.2])∧St Ha wa H' w' [.row 74 6 v0 n0 c0]∧Els H' eSeqStep 6 c0 r.1
set_option maxHeartbeats 4000000 in
theorem zes {Ha:GH} {wa:World} (hs:Sl Ha wa) (v0:Value) (a0:List zac) (p0:RSl Ha eSeqStep 6 v0 a0) (v1:Value) (a1:List zac) (p1:RSl Ha eSeqStep 6 v1 a1) {r:((List zac)×Bool)} (hp:(PF.zcT a0 a1)=some r) :
  Calls Tryz.prog 26 #[v0,v1] wa (zer Ha wa r):=by
 unfold PF.zcT at hp
 have S0:=St.init hs
 refine zaj (N:=101) (args:=[v0,v1]) Tryz.func26 rfl rfl rfl ?_
 refine FW.seq (FW.region ?_)
 refine FL.v (E.assign (v:=Value.slice none 0 0) rfl) ?_
 refine FL.v (E.assign (v:=Value.bool false) rfl) ?_
 refine FL.nil (FW.seq (FW.seq (FW.region ?_)))
 refine FL.v (E.move (v:=v0) rfl) ?_
 obtain ⟨r21,hr22,hp⟩:=bnd hp
 refine FL.call rfl rfl rfl (E.call Tryz.call58 (A1 rfl)) (zdI S0.sl v0 a0 p0 hr22) ?_
 rintro e w23 ⟨rfl,r24⟩
 refine ⟨_,rfl,?_⟩
 have S25:=S0.call r24
 refine FL.v (E.not rfl) ?_
 refine FL.v (E.move (v:=Value.bool (!r21)) rfl) ?_
 obtain ⟨t31,hqt31,hp⟩:=bnd hp
 refine FL.cut 4 (fun f w=>∃ H:GH,St Ha wa H w []∧Inc Ha H∧f 0=v0∧f 1=v1∧f 18=Value.bool t31) ?_ ?_
 ·
  clear hp;have hp:=hqt31;clear hqt31
  rcases ifB hp with ⟨c37,hp⟩|⟨c37,hp⟩
  ·
   refine FL.skip (wF_no rfl rfl rfl c37) rfl ?_
   refine FL.skip (wF_no rfl rfl rfl c37) rfl ?_
   refine FL.skip (wF_no rfl rfl rfl c37) rfl ?_
   obtain rfl:=Option.some.inj hp
   refine FL.v (E.pickT rfl c37 rfl) ?_
   exact FL.nil ⟨rfl,_,S25,(Inc.rfl _),rfl,rfl,rfl⟩
  ·
   refine FL.val (zab rfl rfl rfl c37) rfl rfl (E.move (v:=v1) rfl) ?_
   obtain ⟨r38,hr39,hp⟩:=bnd hp
   refine FL.call (zab rfl rfl rfl c37) rfl rfl (E.call Tryz.call58 (A1 rfl)) (zdI S25.sl v1 a1 p1 hr39) ?_
   rintro e w40 ⟨rfl,r41⟩
   refine ⟨_,rfl,?_⟩
   have S42:=S25.call r41
   refine FL.val (zab rfl rfl rfl c37) rfl rfl (E.not rfl) ?_
   obtain rfl:=Option.some.inj hp
   refine FL.v (E.pickF rfl c37 rfl) ?_
   exact FL.nil ⟨rfl,_,S42,(Inc.rfl _),rfl,rfl,rfl⟩
 rintro f36 w35 ⟨H32,S33,i34,k43,k44,k45⟩
 refine FL.nil ?_
 rcases ifB hp with ⟨c46,hp⟩|⟨c46,hp⟩
 ·
  refine FW.condT k45 c46 ?_
  refine FW.seq (FW.region ?_)
  obtain ⟨v47,w48,run49,S50⟩:=S33.buildSlice (P:=Tryz.prog) te24 [] (parts:=#[]) (cells:=[]) rfl zal zak zag (Nat.le_of_ble_eq_true rfl)
  have els51:Els (up wa.heap.size H32) eSeqStep 6 [] []:=Els.nil
  refine FL.v (E.buildSlice (B0) run49) ?_
  refine FL.v (E.assign (v:=v47) rfl) ?_
  refine FL.v (E.assign (v:=Value.bool false) rfl) ?_
  refine FL.nil ?_
  refine FW.ret ?_
  obtain rfl:=Option.some.inj hp
  exact ⟨.inr rfl,res2 rfl rfl rfl ⟨_,_,_,_,rfl,S50,(els51.mono upI)⟩⟩
 ·
  refine FW.condF k45 c46 ?_
  refine FW.skip (FW.seq ?_)
  obtain ⟨x56,hx57,hp⟩:=bnd hp
  obtain ⟨x69,hx70,hp⟩:=bnd hp
  refine FW.drawB (Sl H32) (fun f w=>∃ H:GH,∃ v98:Value,∃ vA0:Value,St Ha wa H w []∧Inc H32 H∧PAt H eSequent v98 (some x56.seq)∧PAt H eSequent vA0 (some x69.seq)∧f 0=v0∧f 1=v1∧f 6=v98∧f 7=vA0) (by kernel_rfl) S33.sl ?_ ?_
  ·
   intro w52 r53
   have S54:=S33.call r53
   refine FB.t (i:=0) (bs 18 1) rfl (SP.nil S54.sl) rfl (fun w' hw'=>(E.move k43)) ?_
   refine FB.t (i:=1) (bs 18 3) rfl (SP.nil S54.sl) rfl (fun w' hw'=>(E.move k43)) ?_
   refine FB.t (i:=2) (bs 18 7) rfl (SP.nil S54.sl) rfl (fun w' hw'=>(E.lenP te24 rfl p0)) ?_
   refine FB.t (i:=3) (bs 18 15) rfl (SP.nil S54.sl) rfl (fun w' hw'=>(E.sub rfl rfl)) ?_
   obtain ⟨p26,cs27,pt28,l29,at30,rel55⟩:=p0.at hx57
   obtain ⟨v58,v60,rfl,h59,h61⟩:=zaD rel55
   refine FB.t (i:=4) (bs 18 31) rfl (SP.nil S54.sl) rfl (fun w' hw'=>(E.indexAddr te24 rfl rfl pt28)) ?_
   refine FB.t (i:=5) (bs 18 63) rfl (SP.nil S54.sl) rfl (fun w' hw'=>(E.fieldAddr zap rfl)) ?_
   refine FB.t (i:=6) (bs 18 127) rfl (SP.nil S54.sl) rfl (fun w' hw'=>(E.load rfl (zao Tryz.isAgg68 Tryz.sizeOf68 (((at30.mono i34).now hw').sub (j:=0) (n:=2) (c:=[v58,v60]) rfl) rfl))) ?_
   refine FB.t (i:=7) (bs 18 255) rfl (SP.nil S54.sl) rfl (fun w' hw'=>(E.move k44)) ?_
   refine FB.t (i:=8) (bs 18 511) rfl (SP.nil S54.sl) rfl (fun w' hw'=>(E.move k44)) ?_
   refine FB.t (i:=9) (bs 18 1023) rfl (SP.nil S54.sl) rfl (fun w' hw'=>(E.lenP te24 rfl p1)) ?_
   refine FB.t (i:=10) (bs 18 2047) rfl (SP.nil S54.sl) rfl (fun w' hw'=>(E.sub rfl rfl)) ?_
   obtain ⟨p62,cs63,pt64,l65,at66,rel67⟩:=p1.at hx70
   obtain ⟨v71,v73,rfl,h72,h75⟩:=zaD rel67
   refine FB.t (i:=11) (bs 18 4095) rfl (SP.nil S54.sl) rfl (fun w' hw'=>(E.indexAddr te24 rfl rfl pt64)) ?_
   refine FB.t (i:=12) (bs 18 8191) rfl (SP.nil S54.sl) rfl (fun w' hw'=>(E.fieldAddr zap rfl)) ?_
   refine FB.t (i:=13) (bs 18 16383) rfl (SP.nil S54.sl) rfl (fun w' hw'=>(E.load rfl (zao Tryz.isAgg68 Tryz.sizeOf68 (((at66.mono i34).now hw').sub (j:=0) (n:=2) (c:=[v71,v73]) rfl) rfl))) ?_
   refine FB.all2 (i:=14) (j:=15) (by kernel_rfl) ?_ ?_
   ·
    obtain ⟨b76,w77,run78,S79⟩:=S54.alloc (P:=Tryz.prog) 68 [Value.slice none 0 0,Value.slice none 0 0] Tryz.zeroValue68 rfl (zaa rfl (zaa rfl zag))
    refine FC.val (l':=(bs 18 32767)) rfl (by kernel_rfl) rfl rfl rfl (E.alloc run78) ?_
    refine ⟨(SP.nil S79.sl),?_⟩
    refine FB.all1 (i:=15) (by kernel_rfl) ?_
    ·
     obtain ⟨b80,w81,run82,S83⟩:=S79.alloc (P:=Tryz.prog) 68 [Value.slice none 0 0,Value.slice none 0 0] Tryz.zeroValue68 rfl (zaa rfl (zaa rfl zag))
     refine FC.val (l':=(bs 18 65535)) rfl (by kernel_rfl) rfl rfl rfl (E.alloc run82) ?_
     refine ⟨(SP.nil S83.sl),?_⟩
     refine FB.all1 (i:=16) (by kernel_rfl) ?_
     ·
      obtain ⟨w84,run85,S86⟩:=S83.store0 (P:=Tryz.prog) (t:=68) (i:=1) (cs':=[v58,v60]) (l':=[.box b80 68 [Value.slice none 0 0,Value.slice none 0 0],.box b76 68 [v58,v60]]) (v:=Value.agg #[v58,v60]) (c:=[v58,v60]) rfl Tryz.sizeOf68 rfl rfl (zaa h59.one (zaa h61.one zag)) (Nat.le_of_ble_eq_true rfl) rfl rfl
      refine FC.act (l':=(bs 18 131071)) rfl (by kernel_rfl) rfl rfl (E.store rfl rfl run85) ?_
      obtain ⟨H87,S88,i89,at90⟩:=S86.sealBox (i:=1) (l':=[.box b80 68 [Value.slice none 0 0,Value.slice none 0 0]]) rfl rfl
      refine ⟨(SP.nil (Sl.of_inc i89 S88.sl)),?_⟩
      refine FB.all1 (i:=17) (by kernel_rfl) ?_
      ·
       obtain ⟨w91,run92,S93⟩:=S88.store0 (P:=Tryz.prog) (t:=68) (i:=0) (cs':=[v71,v73]) (l':=[.box b80 68 [v71,v73]]) (v:=Value.agg #[v71,v73]) (c:=[v71,v73]) rfl Tryz.sizeOf68 rfl rfl (zaa h72.one (zaa h75.one zag)) (Nat.le_of_ble_eq_true rfl) rfl rfl
       refine FC.act (l':=(bs 18 262143)) rfl (by kernel_rfl) rfl rfl (E.store rfl rfl run92) ?_
       obtain ⟨H94,S95,i96,at97⟩:=S93.sealBox (i:=0) (l':=[]) rfl rfl
       refine ⟨(SP.nil (Sl.of_inc (i89.tr i96) S95.sl)),?_⟩
       exact FB.done (by kernel_rfl) ⟨_,_,_,S95,(i89.tr i96),(PAt.mk (at90.mono i96) ⟨_,_,rfl,(h59.mono ((i34.tr i89).tr i96)),(h61.mono ((i34.tr i89).tr i96))⟩),(PAt.mk at97 ⟨_,_,rfl,(h72.mono ((i34.tr i89).tr i96)),(h75.mono ((i34.tr i89).tr i96))⟩),k43,k44,rfl,rfl⟩
   ·
    obtain ⟨b80,w81,run82,S83⟩:=S54.alloc (P:=Tryz.prog) 68 [Value.slice none 0 0,Value.slice none 0 0] Tryz.zeroValue68 rfl (zaa rfl (zaa rfl zag))
    refine FC.val (l':=(bs 18 49151)) rfl (by kernel_rfl) rfl rfl rfl (E.alloc run82) ?_
    refine ⟨(SP.nil S83.sl),?_⟩
    refine FB.all1 (i:=14) (by kernel_rfl) ?_
    ·
     obtain ⟨b76,w77,run78,S79⟩:=S83.alloc (P:=Tryz.prog) 68 [Value.slice none 0 0,Value.slice none 0 0] Tryz.zeroValue68 rfl (zaa rfl (zaa rfl zag))
     refine FC.val (l':=(bs 18 65535)) rfl (by kernel_rfl) rfl rfl rfl (E.alloc run78) ?_
     refine ⟨(SP.nil S79.sl),?_⟩
     refine FB.all1 (i:=16) (by kernel_rfl) ?_
     ·
      obtain ⟨w84,run85,S86⟩:=S79.store0 (P:=Tryz.prog) (t:=68) (i:=0) (cs':=[v58,v60]) (l':=[.box b76 68 [v58,v60],.box b80 68 [Value.slice none 0 0,Value.slice none 0 0]]) (v:=Value.agg #[v58,v60]) (c:=[v58,v60]) rfl Tryz.sizeOf68 rfl rfl (zaa h59.one (zaa h61.one zag)) (Nat.le_of_ble_eq_true rfl) rfl rfl
      refine FC.act (l':=(bs 18 131071)) rfl (by kernel_rfl) rfl rfl (E.store rfl rfl run85) ?_
      obtain ⟨H87,S88,i89,at90⟩:=S86.sealBox (i:=0) (l':=[.box b80 68 [Value.slice none 0 0,Value.slice none 0 0]]) rfl rfl
      refine ⟨(SP.nil (Sl.of_inc i89 S88.sl)),?_⟩
      refine FB.all1 (i:=17) (by kernel_rfl) ?_
      ·
       obtain ⟨w91,run92,S93⟩:=S88.store0 (P:=Tryz.prog) (t:=68) (i:=0) (cs':=[v71,v73]) (l':=[.box b80 68 [v71,v73]]) (v:=Value.agg #[v71,v73]) (c:=[v71,v73]) rfl Tryz.sizeOf68 rfl rfl (zaa h72.one (zaa h75.one zag)) (Nat.le_of_ble_eq_true rfl) rfl rfl
       refine FC.act (l':=(bs 18 262143)) rfl (by kernel_rfl) rfl rfl (E.store rfl rfl run92) ?_
       obtain ⟨H94,S95,i96,at97⟩:=S93.sealBox (i:=0) (l':=[]) rfl rfl
       refine ⟨(SP.nil (Sl.of_inc (i89.tr i96) S95.sl)),?_⟩
       exact FB.done (by kernel_rfl) ⟨_,_,_,S95,(i89.tr i96),(PAt.mk (at90.mono i96) ⟨_,_,rfl,(h59.mono ((i34.tr i89).tr i96)),(h61.mono ((i34.tr i89).tr i96))⟩),(PAt.mk at97 ⟨_,_,rfl,(h72.mono ((i34.tr i89).tr i96)),(h75.mono ((i34.tr i89).tr i96))⟩),k43,k44,rfl,rfl⟩
  ·
   rintro fA6 wA5 ⟨HA2,v98,vA0,SA3,iA4,h99,hA1,kA7,kA8,kA9,kAa⟩
   refine FW.seq (FW.seq (FW.region ?_))
   obtain ⟨yAb,hy112,hp⟩:=bnd hp
   obtain ⟨qAd,csAf,rfl,atAe,relAg⟩:=PAt.open h99 hy112
   obtain ⟨vAh,vAj,rfl,hAi,hAk⟩:=eSequent_open relAg
   refine FL.v (E.fieldAddr zas kA9) ?_
   refine FL.v (E.load rfl (zaf Tryz.isAgg22 (atAe.now SA3.sl) rfl)) ?_
   refine FL.v (E.lenP te22 rfl hAk) ?_
   refine FL.v (E.neq rfl rfl) ?_
   refine FL.v (E.move (v:=Value.bool (!((len yAb.right) == 1))) rfl) ?_
   obtain ⟨t121,hqtAl,hp⟩:=bnd hp
   refine FL.cut 5 (fun f w=>∃ H:GH,St Ha wa H w []∧Inc HA2 H∧f 0=v0∧f 1=v1∧f 6=Value.pointer (some qAd)∧f 7=vA0∧f 43=Value.bool t121) ?_ ?_
   ·
    clear hp;have hp:=hqtAl;clear hqtAl
    rcases ifB hp with ⟨cAr,hp⟩|⟨cAr,hp⟩
    ·
     refine FL.skip (wF_no rfl rfl rfl cAr) rfl ?_
     refine FL.skip (wF_no rfl rfl rfl cAr) rfl ?_
     refine FL.skip (wF_no rfl rfl rfl cAr) rfl ?_
     refine FL.skip (wF_no rfl rfl rfl cAr) rfl ?_
     obtain rfl:=Option.some.inj hp
     refine FL.v (E.pickT rfl cAr rfl) ?_
     exact FL.nil ⟨rfl,_,SA3,(Inc.rfl _),kA7,kA8,kA9,kAa,rfl⟩
    ·
     obtain ⟨yAs,hy129,hp⟩:=bnd hp
     obtain ⟨qAu,csAw,rfl,atAv,relAx⟩:=PAt.open hA1 hy129
     obtain ⟨vAy,vAA,rfl,hAz,hAB⟩:=eSequent_open relAx
     refine FL.val (zab rfl rfl rfl cAr) rfl rfl (E.fieldAddr zas kAa) ?_
     refine FL.val (zab rfl rfl rfl cAr) rfl rfl (E.load rfl (zaf Tryz.isAgg22 (atAv.now SA3.sl) rfl)) ?_
     refine FL.val (zab rfl rfl rfl cAr) rfl rfl (E.lenP te22 rfl hAB) ?_
     refine FL.val (zab rfl rfl rfl cAr) rfl rfl (E.neq rfl rfl) ?_
     obtain rfl:=Option.some.inj hp
     refine FL.v (E.pickF rfl cAr rfl) ?_
     exact FL.nil ⟨rfl,_,SA3,(Inc.rfl _),kA7,kA8,kA9,kAa,rfl⟩
   rintro fAq wAp ⟨HAm,SAn,iAo,kAC,kAD,kAE,kAF,kAG⟩
   refine FL.v (E.move kAG) ?_
   obtain ⟨t143,hqtAH,hp⟩:=bnd hp
   refine FL.cut 7 (fun f w=>∃ H:GH,St Ha wa H w []∧Inc HAm H∧f 0=v0∧f 1=v1∧f 6=Value.pointer (some qAd)∧f 7=vA0∧f 51=Value.bool t143) ?_ ?_
   ·
    clear hp;have hp:=hqtAH;clear hqtAH
    rcases ifB hp with ⟨cAN,hp⟩|⟨cAN,hp⟩
    ·
     refine FL.skip (wF_no rfl rfl rfl cAN) rfl ?_
     refine FL.skip (wF_no rfl rfl rfl cAN) rfl ?_
     refine FL.skip (wF_no rfl rfl rfl cAN) rfl ?_
     refine FL.skip (wF_no rfl rfl rfl cAN) rfl ?_
     refine FL.skip (wF_no rfl rfl rfl cAN) rfl ?_
     refine FL.skip (wF_no rfl rfl rfl cAN) rfl ?_
     obtain rfl:=Option.some.inj hp
     refine FL.v (E.pickT rfl cAN rfl) ?_
     exact FL.nil ⟨rfl,_,SAn,(Inc.rfl _),kAC,kAD,kAE,kAF,rfl⟩
    ·
     refine FL.val (zab rfl rfl rfl cAN) rfl rfl (E.fieldAddr zau kAE) ?_
     refine FL.val (zab rfl rfl rfl cAN) rfl rfl (E.load rfl (zaf Tryz.isAgg22 ((atAe.mono iAo).now SAn.sl) rfl)) ?_
     obtain ⟨yAO,hy151,hp⟩:=bnd hp
     obtain ⟨qAQ,csAS,rfl,atAR,relAT⟩:=PAt.open hA1 hy151
     obtain ⟨vAU,vAW,rfl,hAV,hAX⟩:=eSequent_open relAT
     refine FL.val (zab rfl rfl rfl cAN) rfl rfl (E.fieldAddr zau kAF) ?_
     refine FL.val (zab rfl rfl rfl cAN) rfl rfl (E.load rfl (zaf Tryz.isAgg22 ((atAR.mono iAo).now SAn.sl) rfl)) ?_
     obtain ⟨rAY,hrAZ,hp⟩:=bnd hp
     refine FL.call (zab rfl rfl rfl cAN) rfl rfl (E.call Tryz.call72 (A2 rfl rfl)) (zdr SAn.sl vAh yAb.left (hAi.mono iAo) vAU yAO.left (hAV.mono iAo) hrAZ) ?_
     rintro e wB0 ⟨rfl,rB1⟩
     refine ⟨_,rfl,?_⟩
     have SB2:=SAn.call rB1
     refine FL.val (zab rfl rfl rfl cAN) rfl rfl (E.not rfl) ?_
     obtain rfl:=Option.some.inj hp
     refine FL.v (E.pickF rfl cAN rfl) ?_
     exact FL.nil ⟨rfl,_,SB2,(Inc.rfl _),kAC,kAD,kAE,kAF,rfl⟩
   rintro fAM wAL ⟨HAI,SAJ,iAK,kB3,kB4,kB5,kB6,kB7⟩
   refine FL.v (E.move kB7) ?_
   obtain ⟨t170,hqtB8,hp⟩:=bnd hp
   refine FL.cut 7 (fun f w=>∃ H:GH,St Ha wa H w []∧Inc HAI H∧f 0=v0∧f 1=v1∧f 6=Value.pointer (some qAd)∧f 7=vA0∧f 59=Value.bool t170) ?_ ?_
   ·
    clear hp;have hp:=hqtB8;clear hqtB8
    rcases ifB hp with ⟨cBe,hp⟩|⟨cBe,hp⟩
    ·
     refine FL.skip (wF_no rfl rfl rfl cBe) rfl ?_
     refine FL.skip (wF_no rfl rfl rfl cBe) rfl ?_
     refine FL.skip (wF_no rfl rfl rfl cBe) rfl ?_
     refine FL.skip (wF_no rfl rfl rfl cBe) rfl ?_
     refine FL.skip (wF_no rfl rfl rfl cBe) rfl ?_
     refine FL.skip (wF_no rfl rfl rfl cBe) rfl ?_
     obtain rfl:=Option.some.inj hp
     refine FL.v (E.pickT rfl cBe rfl) ?_
     exact FL.nil ⟨rfl,_,SAJ,(Inc.rfl _),kB3,kB4,kB5,kB6,rfl⟩
    ·
     obtain ⟨yBf,hy178,hp⟩:=bnd hp
     obtain ⟨qBh,csBj,rfl,atBi,relBk⟩:=PAt.open hA1 hy178
     obtain ⟨vBl,vBn,rfl,hBm,hBo⟩:=eSequent_open relBk
     refine FL.val (zab rfl rfl rfl cBe) rfl rfl (E.fieldAddr zau kB6) ?_
     refine FL.val (zab rfl rfl rfl cBe) rfl rfl (E.load rfl (zaf Tryz.isAgg22 ((atBi.mono (iAo.tr iAK)).now SAJ.sl) rfl)) ?_
     refine FL.val (zab rfl rfl rfl cBe) rfl rfl (E.fieldAddr zau kB5) ?_
     refine FL.val (zab rfl rfl rfl cBe) rfl rfl (E.load rfl (zaf Tryz.isAgg22 ((atAe.mono (iAo.tr iAK)).now SAJ.sl) rfl)) ?_
     obtain ⟨rBp,hrBq,hp⟩:=bnd hp
     refine FL.call (zab rfl rfl rfl cBe) rfl rfl (E.call Tryz.call72 (A2 rfl rfl)) (zdr SAJ.sl vBl yBf.left (hBm.mono (iAo.tr iAK)) vAh yAb.left (hAi.mono (iAo.tr iAK)) hrBq) ?_
     rintro e wBr ⟨rfl,rBs⟩
     refine ⟨_,rfl,?_⟩
     have SBt:=SAJ.call rBs
     refine FL.val (zab rfl rfl rfl cBe) rfl rfl (E.not rfl) ?_
     obtain rfl:=Option.some.inj hp
     refine FL.v (E.pickF rfl cBe rfl) ?_
     exact FL.nil ⟨rfl,_,SBt,(Inc.rfl _),kB3,kB4,kB5,kB6,rfl⟩
   rintro fBd wBc ⟨HB9,SBa,iBb,kBu,kBv,kBw,kBx,kBy⟩
   refine FL.nil ?_
   rcases ifB hp with ⟨cBz,hp⟩|⟨cBz,hp⟩
   ·
    refine FW.condT kBy cBz ?_
    refine FW.seq (FW.region ?_)
    obtain ⟨vBA,wBB,runBC,SBD⟩:=SBa.buildSlice (P:=Tryz.prog) te24 [] (parts:=#[]) (cells:=[]) rfl zal zak zag (Nat.le_of_ble_eq_true rfl)
    have elsBE:Els (up wa.heap.size HB9) eSeqStep 6 [] []:=Els.nil
    refine FL.v (E.buildSlice (B0) runBC) ?_
    refine FL.v (E.assign (v:=vBA) rfl) ?_
    refine FL.v (E.assign (v:=Value.bool false) rfl) ?_
    refine FL.nil ?_
    refine FW.ret ?_
    obtain rfl:=Option.some.inj hp
    exact ⟨.inr rfl,res2 rfl rfl rfl ⟨_,_,_,_,rfl,SBD,(elsBE.mono upI)⟩⟩
   ·
    refine FW.condF kBy cBz ?_
    refine FW.skip (FW.seq (FW.region ?_))
    obtain ⟨yBF,hy204,hp⟩:=bnd hp
    obtain ⟨qBH,csBJ,rfl,atBI,relBK⟩:=PAt.open hA1 hy204
    obtain ⟨vBL,vBN,rfl,hBM,hBO⟩:=eSequent_open relBK
    refine FL.v (E.fieldAddr zas kBx) ?_
    refine FL.v (E.load rfl (zaf Tryz.isAgg22 ((atBI.mono ((iAo.tr iAK).tr iBb)).now SBa.sl) rfl)) ?_
    obtain ⟨xBV,hxBW,hp⟩:=bnd hp
    obtain ⟨pBP,csBQ,ptBR,lBS,atBT,relBU⟩:=hBO.at hxBW
    obtain rfl:=eS_open relBU
    refine FL.v (E.indexAddr te22 rfl rfl ptBR) ?_
    refine FL.v (E.load rfl (zar Tryz.isAgg9 ((atBT.mono ((iAo.tr iAK).tr iBb)).now SBa.sl) rfl)) ?_
    obtain ⟨rBX,hrBY,hp⟩:=bnd hp
    refine FL.call rfl rfl rfl (E.call Tryz.call73 (A1 rfl)) (zdG SBa.sl xBV hrBY) ?_
    rintro e wBZ ⟨rfl,rC0⟩
    refine ⟨_,rfl,?_⟩
    have SC1:=SBa.call rC0
    refine FL.v (E.move (v:=Value.tuple #[Value.int .u8 rBX.1,Value.string rBX.2.1,Value.string rBX.2.2]) rfl) ?_
    refine FL.v (E.extract (i:=0) rfl rfl) ?_
    refine FL.v (E.extract (i:=1) rfl rfl) ?_
    refine FL.v (E.extract (i:=2) rfl rfl) ?_
    refine FL.v (E.assign (v:=Value.int .u8 rBX.1) rfl) ?_
    refine FL.v (E.assign (v:=Value.string rBX.2.1) rfl) ?_
    refine FL.v (E.assign (v:=Value.string rBX.2.2) rfl) ?_
    refine FL.nil (FW.seq (FW.seq (FW.region ?_)))
    refine FL.v (E.move (v:=Value.int .u8 rBX.1) rfl) ?_
    refine FL.v (E.neq rfl rfl) ?_
    refine FL.v (E.move (v:=Value.bool (!(rBX.1 == 62))) rfl) ?_
    obtain ⟨t226,hqtC2,hp⟩:=bnd hp
    refine FL.cut 7 (fun f w=>∃ H:GH,St Ha wa H w []∧Inc HB9 H∧f 0=v0∧f 1=v1∧f 6=Value.pointer (some qAd)∧f 9=Value.string rBX.2.1∧f 10=Value.string rBX.2.2∧f 79=Value.bool t226) ?_ ?_
    ·
     clear hp;have hp:=hqtC2;clear hqtC2
     rcases ifB hp with ⟨cC8,hp⟩|⟨cC8,hp⟩
     ·
      refine FL.skip (wF_no rfl rfl rfl cC8) rfl ?_
      refine FL.skip (wF_no rfl rfl rfl cC8) rfl ?_
      refine FL.skip (wF_no rfl rfl rfl cC8) rfl ?_
      refine FL.skip (wF_no rfl rfl rfl cC8) rfl ?_
      refine FL.skip (wF_no rfl rfl rfl cC8) rfl ?_
      refine FL.skip (wF_no rfl rfl rfl cC8) rfl ?_
      obtain rfl:=Option.some.inj hp
      refine FL.v (E.pickT rfl cC8 rfl) ?_
      exact FL.nil ⟨rfl,_,SC1,(Inc.rfl _),kBu,kBv,kBw,rfl,rfl,rfl⟩
     ·
      refine FL.val (zab rfl rfl rfl cC8) rfl rfl (E.move (v:=Value.string rBX.2.1) rfl) ?_
      refine FL.val (zab rfl rfl rfl cC8) rfl rfl (E.fieldAddr zas kBw) ?_
      refine FL.val (zab rfl rfl rfl cC8) rfl rfl (E.load rfl (zaf Tryz.isAgg22 ((atAe.mono ((iAo.tr iAK).tr iBb)).now SC1.sl) rfl)) ?_
      obtain ⟨xCf,hxCg,hp⟩:=bnd hp
      obtain ⟨pC9,csCa,ptCb,lCc,atCd,relCe⟩:=hAk.at hxCg
      obtain rfl:=eS_open relCe
      refine FL.val (zab rfl rfl rfl cC8) rfl rfl (E.indexAddr te22 rfl rfl ptCb) ?_
      refine FL.val (zab rfl rfl rfl cC8) rfl rfl (E.load rfl (zar Tryz.isAgg9 ((atCd.mono ((iAo.tr iAK).tr iBb)).now SC1.sl) rfl)) ?_
      refine FL.val (zab rfl rfl rfl cC8) rfl rfl (E.neqS rfl rfl) ?_
      obtain rfl:=Option.some.inj hp
      refine FL.v (E.pickF rfl cC8 rfl) ?_
      exact FL.nil ⟨rfl,_,SC1,(Inc.rfl _),kBu,kBv,kBw,rfl,rfl,rfl⟩
    rintro fC7 wC6 ⟨HC3,SC4,iC5,kCh,kCi,kCj,kCk,kCl,kCm⟩
    refine FL.nil ?_
    rcases ifB hp with ⟨cCn,hp⟩|⟨cCn,hp⟩
    ·
     refine FW.condT kCm cCn ?_
     refine FW.seq (FW.region ?_)
     obtain ⟨vCo,wCp,runCq,SCr⟩:=SC4.buildSlice (P:=Tryz.prog) te24 [] (parts:=#[]) (cells:=[]) rfl zal zak zag (Nat.le_of_ble_eq_true rfl)
     have elsCs:Els (up wa.heap.size HC3) eSeqStep 6 [] []:=Els.nil
     refine FL.v (E.buildSlice (B0) runCq) ?_
     refine FL.v (E.assign (v:=vCo) rfl) ?_
     refine FL.v (E.assign (v:=Value.bool false) rfl) ?_
     refine FL.nil ?_
     refine FW.ret ?_
     obtain rfl:=Option.some.inj hp
     exact ⟨.inr rfl,res2 rfl rfl rfl ⟨_,_,_,_,rfl,SCr,(elsCs.mono upI)⟩⟩
    ·
     refine FW.condF kCm cCn ?_
     refine FW.skip (FW.seq ?_)
     obtain ⟨rCw,hrCx,hp⟩:=bnd hp
     obtain ⟨rCI,hrCJ,hp⟩:=bnd hp
     obtain ⟨sCS,hqCS,hp⟩:=bnd hp
     refine FW.drawB (Sl HC3) (fun f w=>∃ H:GH,∃ vDg:Value,∃ nDh:Nat,∃ csDi:List Value,St Ha wa H w [.row 74 6 vDg nDh csDi]∧Inc HC3 H∧Els H eSeqStep 6 csDi sCS.2∧f 4=vDg∧f 5=Value.bool sCS.1) (by kernel_rfl) SC4.sl ?_ ?_
     ·
      intro wCt rCu
      have SCv:=SC4.call rCu
      refine FB.t (i:=0) (bs 22 1) rfl (SP.nil SCv.sl) rfl (fun w' hw'=>(E.move kCh)) ?_
      refine FB.t (i:=1) (bs 22 3) rfl (SP.nil SCv.sl) rfl (fun w' hw'=>(E.move kCi)) ?_
      refine FB.t (i:=3) (bs 22 11) rfl (SP.nil SCv.sl) rfl (fun w' hw'=>(E.fieldAddr zau kCj)) ?_
      refine FB.t (i:=4) (bs 22 27) rfl (SP.nil SCv.sl) rfl (fun w' hw'=>(E.load rfl (zaf Tryz.isAgg22 ((atAe.mono (((iAo.tr iAK).tr iBb).tr iC5)).now hw') rfl))) ?_
      refine FB.t (i:=5) (bs 22 59) rfl (SP.nil SCv.sl) rfl (fun w' hw'=>(E.move kCh)) ?_
      refine FB.t (i:=6) (bs 22 123) rfl (SP.nil SCv.sl) rfl (fun w' hw'=>(E.lenP te24 rfl p0)) ?_
      refine FB.t (i:=7) (bs 22 251) rfl (SP.nil SCv.sl) rfl (fun w' hw'=>(E.sub rfl rfl)) ?_
      refine FB.t (i:=8) (bs 22 507) rfl (SP.nil SCv.sl) rfl (fun w' hw'=>(E.move kCh)) ?_
      refine FB.t (i:=9) (bs 22 1019) rfl (SP.nil SCv.sl) rfl (fun w' hw'=>(E.lenP te24 rfl p0)) ?_
      refine FB.t (i:=10) (bs 22 2043) rfl (SP.nil SCv.sl) rfl (fun w' hw'=>(E.move kCi)) ?_
      refine FB.t (i:=11) (bs 22 4091) rfl (SP.nil SCv.sl) rfl (fun w' hw'=>(E.lenP te24 rfl p1)) ?_
      refine FB.t (i:=12) (bs 22 8187) rfl (SP.nil SCv.sl) rfl (fun w' hw'=>(E.add rfl rfl)) ?_
      refine FB.t (i:=13) (bs 22 16379) rfl (SP.nil SCv.sl) rfl (fun w' hw'=>(E.sub rfl rfl)) ?_
      refine FB.t (i:=14) (bs 22 32763) rfl (SP.nil SCv.sl) rfl (fun w' hw'=>(E.move kCk)) ?_
      refine FB.t (i:=15) (bs 22 65531) rfl (SP.nil SCv.sl) rfl (fun w' hw'=>(E.move kCl)) ?_
      refine FB.all1 (i:=2) (by kernel_rfl) ?_
      ·
       refine FC.call (l':=(bs 22 65535)) rfl (by kernel_rfl) rfl rfl rfl (E.call Tryz.call64 (A2 rfl rfl)) (w_spec_l25Behind SCv.sl v0 a0 (p0.mono (((((i34.tr iA4).tr iAo).tr iAK).tr iBb).tr iC5)) v1 a1 (p1.mono (((((i34.tr iA4).tr iAo).tr iAK).tr iBb).tr iC5)) hrCx) ?_
       rintro e wCz ⟨HCy,vCC,nCD,csCE,rfl,rCB,elsCF,ndCG⟩
       refine ⟨_,rfl,?_⟩
       have nvCH:New HC3 csCE:=New.of_up SCv.sl elsCF.dom
       have elsCF:=elsCF.mono (up_le SCv.size)
       have SCA:=SCv.join (l':=[.row 74 6 vCC nCD csCE]) rCB rfl
       refine ⟨(SP.nil (Sl.of_inc rCB.run.inc SCA.sl)),?_⟩
       refine FB.all1 (i:=16) (by kernel_rfl) ?_
       ·
        refine FC.call (l':=(bs 22 131071)) rfl (by kernel_rfl) rfl rfl rfl (E.call Tryz.call74 (A6 rfl rfl rfl rfl rfl rfl)) (w_spec_l25Modus (L:=[]) SCA rCw (elsCF.mono upI) vAh yAb.left (hAi.mono ((((iAo.tr iAK).tr iBb).tr iC5).tr rCB.run.inc)) (wr ((len a0) - 1)) (wr ((wr ((len a0) + (len a1))) - 1)) rBX.2.1 rBX.2.2 hrCJ) ?_
        rintro e wCL ⟨HCK,vCO,nCP,csCQ,rfl,⟨SCM,iCN⟩,elsCR⟩
        refine ⟨_,rfl,?_⟩
        have SCM:St Ha wa HCK wCL [.row 74 6 vCO nCP csCQ]:=SCM
        refine ⟨(SP.nil (Sl.of_inc (rCB.run.inc.tr iCN) SCM.sl)),?_⟩
        refine FB.all1 (i:=17) (by kernel_rfl) ?_
        ·
         obtain ⟨R278,hRCS⟩:∃ R278:(Bool×(List zac))→Ending→World→Prop,R278=(fun sCS e w=>∃ H:GH,∃ vCT:Value,∃ nCU:Nat,∃ csCV:List Value,e=Ending.returned (Value.tuple #[vCT,Value.bool sCS.1])∧St Ha wa H w [.row 74 6 vCT nCU csCV]∧Inc HCK H∧Els H eSeqStep 6 csCV sCS.2):=⟨_,rfl⟩
         have hcCS:Calls Tryz.prog 65 #[vCO] wCL (R278 sCS):=by
          clear hp;have hp:=hqCS;clear hqCS
          refine zaj (N:=9) (args:=[vCO]) Tryz.func65 rfl rfl rfl ?_
          refine FW.seq (FW.region ?_)
          refine FL.v (E.assign (v:=Value.slice none 0 0) rfl) ?_
          refine FL.v (E.assign (v:=Value.bool false) rfl) ?_
          refine FL.nil (FW.seq (FW.seq (FW.region ?_)))
          refine FL.v (E.move (v:=vCO) rfl) ?_
          obtain ⟨HCX,SCY,iCZ,hD0⟩:=SCM.sealRow (i:=0) (l':=[]) rfl elsCR (by decide) rfl
          obtain ⟨rD1,hrD2,hp⟩:=bnd hp
          refine FL.call rfl rfl rfl (E.call Tryz.call58 (A1 rfl)) (zdI SCY.sl vCO rCI hD0 hrD2) ?_
          rintro e wD3 ⟨rfl,rD4⟩
          refine ⟨_,rfl,?_⟩
          have rD4:=Run.lend iCZ SCM.sl rD4
          have SD5:=SCM.call rD4
          refine FL.v (E.not rfl) ?_
          refine FL.nil ?_
          rcases ifB hp with ⟨cD6,hp⟩|⟨cD6,hp⟩
          ·
           refine FW.condT rfl cD6 ?_
           refine FW.seq (FW.region ?_)
           obtain ⟨vD7,wD8,runD9,SDa⟩:=SD5.buildSlice (P:=Tryz.prog) te24 [] (parts:=#[]) (cells:=[]) rfl zal zak zag (Nat.le_of_ble_eq_true rfl)
           have elsDb:Els (up wa.heap.size HCK) eSeqStep 6 [] []:=Els.nil
           refine FL.v (E.buildSlice (B0) runD9) ?_
           refine FL.v (E.assign (v:=vD7) rfl) ?_
           refine FL.v (E.assign (v:=Value.bool false) rfl) ?_
           refine FL.nil ?_
           refine FW.ret ?_
           obtain rfl:=Option.some.inj hp
           exact ⟨.inr rfl,res2 rfl rfl rfl (by rw [hRCS];exact ⟨_,_,_,_,rfl,(SDa.sel [0] (by decide) rfl),(Inc.rfl _),(elsDb.mono upI)⟩)⟩
          ·
           refine FW.condF rfl cD6 ?_
           refine FW.skip (FW.seq (FW.region ?_))
           refine FL.v (E.move (v:=vCO) rfl) ?_
           refine FL.v (E.assign (v:=vCO) rfl) ?_
           refine FL.v (E.assign (v:=Value.bool true) rfl) ?_
           refine FL.nil ?_
           refine FW.ret ?_
           obtain rfl:=Option.some.inj hp
           exact ⟨.inr rfl,res2 rfl rfl rfl (by rw [hRCS];exact ⟨_,_,_,_,rfl,SD5,(Inc.rfl _),elsCR⟩)⟩
         clear hqCS
         refine FC.call (l':=(bs 22 262143)) rfl (by kernel_rfl) rfl rfl rfl (E.call Tryz.call65 (A1 rfl)) hcCS ?_
         intro e wDf hQCS
         rw [hRCS] at hQCS
         obtain ⟨HDc,vCT,nCU,csCV,rfl,SDd,iDe,elsCW⟩:=hQCS
         refine ⟨_,rfl,?_⟩
         refine ⟨(SP.nil (Sl.of_inc ((rCB.run.inc.tr iCN).tr iDe) SDd.sl)),?_⟩
         refine FB.t (i:=18) (bs 22 524287) rfl (SP.nil (Sl.of_inc ((rCB.run.inc.tr iCN).tr iDe) SDd.sl)) rfl (fun w' hw'=>(E.extract (i:=0) rfl rfl)) ?_
         refine FB.t (i:=19) (bs 22 1048575) rfl (SP.nil (Sl.of_inc ((rCB.run.inc.tr iCN).tr iDe) SDd.sl)) rfl (fun w' hw'=>(E.extract (i:=1) rfl rfl)) ?_
         refine FB.t (i:=20) (bs 22 2097151) rfl (SP.nil (Sl.of_inc ((rCB.run.inc.tr iCN).tr iDe) SDd.sl)) rfl (fun w' hw'=>(E.assign (v:=vCT) rfl)) ?_
         refine FB.t (i:=21) (bs 22 4194303) rfl (SP.nil (Sl.of_inc ((rCB.run.inc.tr iCN).tr iDe) SDd.sl)) rfl (fun w' hw'=>(E.assign (v:=Value.bool sCS.1) rfl)) ?_
         exact FB.done (by kernel_rfl) ⟨_,_,_,_,SDd,((rCB.run.inc.tr iCN).tr iDe),elsCW,rfl,rfl⟩
     ·
      rintro fDo wDn ⟨HDk,vDg,nDh,csDi,SDl,iDm,elsDj,kDp,kDq⟩
      refine FW.ret ?_
      obtain rfl:=Option.some.inj hp
      exact ⟨.inr rfl,res2 rfl kDp kDq ⟨_,_,_,_,rfl,SDl,elsDj⟩⟩

theorem w_impl_within {Ha:GH} {wa:World} (hs:Sl Ha wa) (a0:Int) (a1:Int) (a2:Int) :
  Calls Tryz.prog 91 #[Value.int .i64 a0,Value.int .i64 a1,Value.int .i64 a2] wa (Sc Ha wa (Value.bool (PF.zbG a0 a1 a2))):=by
 obtain ⟨r,hp⟩:∃ r,(PF.zbG a0 a1 a2)=r:=⟨_,rfl⟩
 rw [hp]
 unfold PF.zbG at hp
 have S0:=St.init hs
 refine zaj (N:=15) (args:=[Value.int .i64 a0,Value.int .i64 a1,Value.int .i64 a2]) Tryz.func91 rfl rfl rfl ?_
 refine FW.seq (FW.region ?_)
 refine FL.v (E.assign (v:=Value.bool false) rfl) ?_
 refine FL.nil (FW.seq (FW.region ?_))
 refine FL.v (E.move (v:=Value.int .i64 a0) rfl) ?_
 refine FL.v (E.move (v:=Value.int .i64 a1) rfl) ?_
 refine FL.v (E.geq rfl rfl) ?_
 refine FL.v (E.move (v:=Value.bool (decide (a1≤a0))) rfl) ?_
 refine FL.cut 4 (fun f w=>∃ H:GH,St Ha wa H w []∧Inc Ha H∧f 14=Value.bool (bif (decide (a1≤a0)) then (decide (a0≤a2)) else false)) ?_ ?_
 ·
  rcases bcase (decide (a1≤a0)) with c27|c27
  ·
   refine FL.val (zab rfl rfl rfl c27) rfl rfl (E.move (v:=Value.int .i64 a0) rfl) ?_
   refine FL.val (zab rfl rfl rfl c27) rfl rfl (E.move (v:=Value.int .i64 a2) rfl) ?_
   refine FL.val (zab rfl rfl rfl c27) rfl rfl (E.leq rfl rfl) ?_
   refine FL.v (E.pickT rfl c27 rfl) ?_
   exact FL.nil ⟨rfl,_,S0,(Inc.rfl _),(congrArg Value.bool (bifT c27).symm)⟩
  ·
   refine FL.skip (wF_no rfl rfl rfl c27) rfl ?_
   refine FL.skip (wF_no rfl rfl rfl c27) rfl ?_
   refine FL.skip (wF_no rfl rfl rfl c27) rfl ?_
   refine FL.v (E.pickF rfl c27 rfl) ?_
   exact FL.nil ⟨rfl,_,S0,(Inc.rfl _),(congrArg Value.bool (bifF c27).symm)⟩
 rintro f26 w25 ⟨H22,S23,i24,k28⟩
 refine FL.v (E.assign k28) ?_
 refine FL.nil ?_
 refine FW.ret ?_
 obtain rfl:=hp
 exact ⟨.inr rfl,res1 rfl rfl ⟨rfl,S23.back⟩⟩

theorem w_impl_isLetter {Ha:GH} {wa:World} (hs:Sl Ha wa) (a0:Int) :
  Calls Tryz.prog 79 #[Value.int .u8 a0] wa (Sc Ha wa (Value.bool (PF.zbn a0))):=by
 obtain ⟨r,hp⟩:∃ r,(PF.zbn a0)=r:=⟨_,rfl⟩
 rw [hp]
 unfold PF.zbn at hp
 have S0:=St.init hs
 refine zaj (N:=9) (args:=[Value.int .u8 a0]) Tryz.func79 rfl rfl rfl ?_
 refine FW.seq (FW.region ?_)
 refine FL.v (E.assign (v:=Value.bool false) rfl) ?_
 refine FL.nil (FW.seq (FW.region ?_))
 refine FL.v (E.move (v:=Value.int .u8 a0) rfl) ?_
 refine FL.v (E.geq rfl rfl) ?_
 refine FL.v (E.move (v:=Value.bool (decide (97≤a0))) rfl) ?_
 refine FL.cut 3 (fun f w=>∃ H:GH,St Ha wa H w []∧Inc Ha H∧f 8=Value.bool (bif (decide (97≤a0)) then (decide (a0 < 103)) else false)) ?_ ?_
 ·
  rcases bcase (decide (97≤a0)) with c27|c27
  ·
   refine FL.val (zab rfl rfl rfl c27) rfl rfl (E.move (v:=Value.int .u8 a0) rfl) ?_
   refine FL.val (zab rfl rfl rfl c27) rfl rfl (E.lss rfl rfl) ?_
   refine FL.v (E.pickT rfl c27 rfl) ?_
   exact FL.nil ⟨rfl,_,S0,(Inc.rfl _),(congrArg Value.bool (bifT c27).symm)⟩
  ·
   refine FL.skip (wF_no rfl rfl rfl c27) rfl ?_
   refine FL.skip (wF_no rfl rfl rfl c27) rfl ?_
   refine FL.v (E.pickF rfl c27 rfl) ?_
   exact FL.nil ⟨rfl,_,S0,(Inc.rfl _),(congrArg Value.bool (bifF c27).symm)⟩
 rintro f26 w25 ⟨H22,S23,i24,k28⟩
 refine FL.v (E.assign k28) ?_
 refine FL.nil ?_
 refine FW.ret ?_
 obtain rfl:=hp
 exact ⟨.inr rfl,res1 rfl rfl ⟨rfl,S23.back⟩⟩

@[reducible] def p_impl_leaf (Ha:GH) (wa:World) (r:Fo):Ending→World→Prop :=
 fun e w'=>∃ H':GH,∃ v0:Value,e=.returned (v0)∧Run wa.heap.size Ha wa H' w'∧FAt H' v0 r
theorem w_impl_leaf {Ha:GH} {wa:World} (hs:Sl Ha wa) (a0:Int) {r:Fo} (hp:(PF.zcU a0)=some r) :
  Calls Tryz.prog 174 #[Value.int .u8 a0] wa (p_impl_leaf Ha wa r):=by
 unfold PF.zcU at hp
 have S0:=St.init hs
 refine zaj (N:=8) (args:=[Value.int .u8 a0]) Tryz.func174 rfl rfl rfl ?_
 refine FW.seq (FW.region ?_)
 refine FL.v (E.assign (v:=Value.pointer none) rfl) ?_
 refine FL.nil (FW.seq (FW.region ?_))
 refine FL.v (E.move (v:=Value.int .u8 a0) rfl) ?_
 refine FL.v (E.move (v:=Value.int .u8 a0) rfl) ?_
 obtain ⟨z21,h22,hp⟩:=bnd hp
 refine FL.v (E.chr Tryz.runUnderlying5 Tryz.runUnderlying9 rfl h22) ?_
 refine FL.v (E.build (B2 rfl rfl) (run_build _ 109 #[(0,Value.int .u8 a0),(3,Value.string z21)] #[Value.int .u8 a0,Value.pointer none,Value.pointer none,Value.string z21] (by rfl))) ?_
 obtain ⟨b23,w24,run25,S26⟩:=S0.box (P:=Tryz.prog) 109 [Value.int .u8 a0,Value.pointer none,Value.pointer none,Value.string z21] (v:=Value.agg #[Value.int .u8 a0,Value.pointer none,Value.pointer none,Value.string z21]) rfl (zaa rfl (zaa rfl (zaa rfl (zaa rfl zag))))
 refine FL.v (E.box rfl run25) ?_
 obtain ⟨H27,S28,i29,at30⟩:=S26.sealBox (i:=0) (l':=[]) rfl rfl
 refine FL.v (E.assign (v:=Value.pointer (some ⟨b23,0,none⟩)) rfl) ?_
 refine FL.nil ?_
 refine FW.ret ?_
 obtain rfl:=Option.some.inj hp
 exact ⟨.inr rfl,res1 rfl rfl ⟨_,_,rfl,S28.run,(FAt.mk at30 FAt.nil FAt.nil)⟩⟩

@[reducible] def p_impl_not (Ha:GH) (wa:World) (r:Fo):Ending→World→Prop :=
 fun e w'=>∃ H':GH,∃ v0:Value,e=.returned (v0)∧Run wa.heap.size Ha wa H' w'∧FAt H' v0 r
theorem w_impl_not {Ha:GH} {wa:World} (hs:Sl Ha wa) (v0:Value) (a0:Fo) (p0:FAt Ha v0 a0) {r:Fo} (hp:(PF.zcq a0)=some r) :
  Calls Tryz.prog 175 #[v0] wa (p_impl_not Ha wa r):=by
 unfold PF.zcq at hp
 have S0:=St.init hs
 refine zaj (N:=11) (args:=[v0]) Tryz.func175 rfl rfl rfl ?_
 refine FW.seq (FW.region ?_)
 refine FL.v (E.assign (v:=Value.pointer none) rfl) ?_
 refine FL.nil (FW.seq (FW.region ?_))
 refine FL.v (E.move (v:=v0) rfl) ?_
 refine FL.v (E.move (v:=v0) rfl) ?_
 obtain ⟨y21,hy22,hp⟩:=bnd hp
 obtain ⟨q23,v25,v26,rfl,at24,h27,h28⟩:=FAt.open p0 hy22
 refine FL.v (E.nilCheck rfl) ?_
 refine FL.v (E.fieldAddr zaM rfl) ?_
 refine FL.v (E.load rfl (zaf Tryz.isAgg9 (at24.now S0.sl) rfl)) ?_
 obtain ⟨z29,h30,hp⟩:=bnd hp
 refine FL.v (E.addT rfl rfl h30) ?_
 refine FL.v (E.build (B3 rfl rfl rfl) (run_build _ 109 #[(0,Value.int .u8 126),(1,Value.pointer (some q23)),(3,Value.string z29)] #[Value.int .u8 126,Value.pointer (some q23),Value.pointer none,Value.string z29] (by rfl))) ?_
 obtain ⟨b31,w32,run33,S34⟩:=S0.box (P:=Tryz.prog) 109 [Value.int .u8 126,Value.pointer (some q23),Value.pointer none,Value.string z29] (v:=Value.agg #[Value.int .u8 126,Value.pointer (some q23),Value.pointer none,Value.string z29]) rfl (zaa rfl (zaa rfl (zaa rfl (zaa rfl zag))))
 refine FL.v (E.box rfl run33) ?_
 obtain ⟨H35,S36,i37,at38⟩:=S34.sealBox (i:=0) (l':=[]) rfl rfl
 refine FL.v (E.assign (v:=Value.pointer (some ⟨b31,0,none⟩)) rfl) ?_
 refine FL.nil ?_
 refine FW.ret ?_
 obtain rfl:=Option.some.inj hp
 exact ⟨.inr rfl,res1 rfl rfl ⟨_,_,rfl,S36.run,(FAt.mk at38 (p0.mono i37) FAt.nil)⟩⟩

theorem w_strings_Contains {Ha:GH} {wa:World} (hs:Sl Ha wa) (a0 a1:ByteArray) {r:Bool} (hp:(PF.zcV a0 a1)=some r):Calls Tryz.prog 176 #[Value.string a0,Value.string a1] wa (Sc Ha wa (Value.bool r)):=by
 unfold PF.zcV at hp
 obtain ⟨c,rfl,rfl⟩:=hasS_some hp
 refine (Go.Proofs.Any.strings_Contains_one Tryz.cont176 a0 c wa).mono ?_
 rintro e w' ⟨rfl,rfl⟩
 exact ⟨rfl,Run.refl _ hs⟩

@[reducible] def p_impl_join (Ha:GH) (wa:World) (r:Fo):Ending→World→Prop :=
 fun e w'=>∃ H':GH,∃ v0:Value,e=.returned (v0)∧Run wa.heap.size Ha wa H' w'∧FAt H' v0 r
theorem w_impl_join {Ha:GH} {wa:World} (hs:Sl Ha wa) (a0:Int) (v1:Value) (a1:Fo) (p1:FAt Ha v1 a1) (v2:Value) (a2:Fo) (p2:FAt Ha v2 a2) {r:Fo} (hp:(PF.zcW a0 a1 a2)=some r) :
  Calls Tryz.prog 177 #[Value.int .u8 a0,v1,v2] wa (p_impl_join Ha wa r):=by
 unfold PF.zcW at hp
 have S0:=St.init hs
 refine zaj (N:=26) (args:=[Value.int .u8 a0,v1,v2]) Tryz.func177 rfl rfl rfl ?_
 refine FW.seq (FW.region ?_)
 refine FL.v (E.assign (v:=Value.pointer none) rfl) ?_
 refine FL.nil (FW.seq ?_)
 obtain ⟨y24,hy25,hp⟩:=bnd hp
 obtain ⟨z32,h33,hp⟩:=bnd hp
 obtain ⟨z34,h35,hp⟩:=bnd hp
 obtain ⟨z36,h37,hp⟩:=bnd hp
 obtain ⟨y38,hy39,hp⟩:=bnd hp
 obtain ⟨z46,h47,hp⟩:=bnd hp
 obtain ⟨z48,h49,hp⟩:=bnd hp
 refine FW.drawB (Sl Ha) (fun f w=>∃ H:GH,∃ v58:Value,St Ha wa H w []∧Inc Ha H∧FAt H v58 (Fo.node a0 a1 a2 z48)∧f 6=v58) (by kernel_rfl) S0.sl ?_ ?_
 ·
  intro w21 r22
  have S23:=S0.call r22
  refine FB.t (i:=0) (bs 20 1) rfl (SP.nil S23.sl) rfl (fun w' hw'=>(E.move (v:=Value.int .u8 a0) rfl)) ?_
  refine FB.t (i:=1) (bs 20 3) rfl (SP.nil S23.sl) rfl (fun w' hw'=>(E.move (v:=v1) rfl)) ?_
  refine FB.t (i:=2) (bs 20 7) rfl (SP.nil S23.sl) rfl (fun w' hw'=>(E.move (v:=v2) rfl)) ?_
  refine FB.t (i:=3) (bs 20 15) rfl (SP.nil S23.sl) rfl (fun w' hw'=>(E.move (v:=v1) rfl)) ?_
  obtain ⟨q26,v28,v29,rfl,at27,h30,h31⟩:=FAt.open p1 hy25
  refine FB.t (i:=4) (bs 20 31) rfl (SP.nil S23.sl) rfl (fun w' hw'=>(E.nilCheck rfl)) ?_
  refine FB.t (i:=5) (bs 20 63) rfl (SP.nil S23.sl) rfl (fun w' hw'=>(E.fieldAddr zaM rfl)) ?_
  refine FB.t (i:=6) (bs 20 127) rfl (SP.nil S23.sl) rfl (fun w' hw'=>(E.load rfl (zaf Tryz.isAgg9 (at27.now hw') rfl))) ?_
  refine FB.t (i:=7) (bs 20 255) rfl (SP.nil S23.sl) rfl (fun w' hw'=>(E.addT rfl rfl h33)) ?_
  refine FB.t (i:=8) (bs 20 511) rfl (SP.nil S23.sl) rfl (fun w' hw'=>(E.move (v:=Value.int .u8 a0) rfl)) ?_
  refine FB.t (i:=9) (bs 20 1023) rfl (SP.nil S23.sl) rfl (fun w' hw'=>(E.chr Tryz.runUnderlying5 Tryz.runUnderlying9 rfl h35)) ?_
  refine FB.t (i:=10) (bs 20 2047) rfl (SP.nil S23.sl) rfl (fun w' hw'=>(E.addT rfl rfl h37)) ?_
  refine FB.t (i:=11) (bs 20 4095) rfl (SP.nil S23.sl) rfl (fun w' hw'=>(E.move (v:=v2) rfl)) ?_
  obtain ⟨q40,v42,v43,rfl,at41,h44,h45⟩:=FAt.open p2 hy39
  refine FB.t (i:=12) (bs 20 8191) rfl (SP.nil S23.sl) rfl (fun w' hw'=>(E.nilCheck rfl)) ?_
  refine FB.t (i:=13) (bs 20 16383) rfl (SP.nil S23.sl) rfl (fun w' hw'=>(E.fieldAddr zaM rfl)) ?_
  refine FB.t (i:=14) (bs 20 32767) rfl (SP.nil S23.sl) rfl (fun w' hw'=>(E.load rfl (zaf Tryz.isAgg9 (at41.now hw') rfl))) ?_
  refine FB.t (i:=15) (bs 20 65535) rfl (SP.nil S23.sl) rfl (fun w' hw'=>(E.addT rfl rfl h47)) ?_
  refine FB.t (i:=16) (bs 20 131071) rfl (SP.nil S23.sl) rfl (fun w' hw'=>(E.addT rfl rfl h49)) ?_
  refine FB.t (i:=17) (bs 20 262143) rfl (SP.nil S23.sl) rfl (fun w' hw'=>(E.build (B4 rfl rfl rfl rfl) (run_build _ 109 #[(0,Value.int .u8 a0),(1,Value.pointer (some q26)),(2,Value.pointer (some q40)),(3,Value.string z48)] #[Value.int .u8 a0,Value.pointer (some q26),Value.pointer (some q40),Value.string z48] (by rfl)))) ?_
  refine FB.all1 (i:=18) (by kernel_rfl) ?_
  ·
   obtain ⟨b50,w51,run52,S53⟩:=S23.box (P:=Tryz.prog) 109 [Value.int .u8 a0,Value.pointer (some q26),Value.pointer (some q40),Value.string z48] (v:=Value.agg #[Value.int .u8 a0,Value.pointer (some q26),Value.pointer (some q40),Value.string z48]) rfl (zaa rfl (zaa rfl (zaa rfl (zaa rfl zag))))
   refine FC.val (l':=(bs 20 524287)) rfl (by kernel_rfl) rfl rfl rfl (E.box rfl run52) ?_
   obtain ⟨H54,S55,i56,at57⟩:=S53.sealBox (i:=0) (l':=[]) rfl rfl
   refine ⟨(SP.nil (Sl.of_inc i56 S55.sl)),?_⟩
   refine FB.t (i:=19) (bs 20 1048575) rfl (SP.nil (Sl.of_inc i56 S55.sl)) rfl (fun w' hw'=>(E.assign (v:=Value.pointer (some ⟨b50,0,none⟩)) rfl)) ?_
   exact FB.done (by kernel_rfl) ⟨_,_,S55,i56,(FAt.mk at57 (p1.mono i56) (p2.mono i56)),rfl⟩
 ·
  rintro f64 w63 ⟨H60,v58,S61,i62,h59,k65⟩
  refine FW.ret ?_
  obtain rfl:=Option.some.inj hp
  exact ⟨.inr rfl,res1 rfl k65 ⟨_,_,rfl,S61.run,h59⟩⟩

@[reducible] def zds (Ha:GH) (wa:World) (r:(Fo×ByteArray×Bool)):Ending→World→Prop :=
 fun e w'=>∃ H':GH,∃ v0:Value,e=.returned (Value.tuple #[v0,Value.string r.2.1,Value.bool r.2.2])∧Run wa.heap.size Ha wa H' w'∧FAt H' v0 r.1
set_option maxHeartbeats 4000000 in
theorem w_impl_parseFrom_B {rec_impl_parseFrom:ByteArray→Option (Fo×ByteArray×Bool)} (hrec_impl_parseFrom:∀ {Ha:GH} {wa:World} (hs:Sl Ha wa) (a0:ByteArray) {r:(Fo×ByteArray×Bool)} (hp:rec_impl_parseFrom a0=some r),Calls Tryz.prog 127 #[Value.string a0] wa (zds Ha wa r)) {Ha:GH} {wa:World} (hs:Sl Ha wa) (a0:ByteArray) {r:(Fo×ByteArray×Bool)} (hp:PF.zcX rec_impl_parseFrom a0=some r) :
  Calls Tryz.prog 127 #[Value.string a0] wa (zds Ha wa r):=by
 unfold PF.zcX at hp
 have S0:=St.init hs
 refine zaj (N:=95) (args:=[Value.string a0]) Tryz.func127 rfl rfl rfl ?_
 refine FW.seq (FW.region ?_)
 refine FL.v (E.assign (v:=Value.pointer none) rfl) ?_
 refine FL.v (E.assign (v:=Value.string (ByteArray.mk #[])) rfl) ?_
 refine FL.v (E.assign (v:=Value.bool false) rfl) ?_
 refine FL.nil (FW.seq (FW.seq (FW.region ?_)))
 refine FL.v (E.move (v:=Value.string a0) rfl) ?_
 refine FL.v (E.eqlS rfl rfl) ?_
 refine FL.nil ?_
 rcases ifB hp with ⟨c21,hp⟩|⟨c21,hp⟩
 ·
  refine FW.condT rfl c21 ?_
  refine FW.seq (FW.region ?_)
  refine FL.v (E.assign (v:=Value.pointer none) rfl) ?_
  refine FL.v (E.assign (v:=Value.string (ByteArray.mk #[])) rfl) ?_
  refine FL.v (E.assign (v:=Value.bool false) rfl) ?_
  refine FL.nil ?_
  refine FW.ret ?_
  obtain rfl:=Option.some.inj hp
  exact ⟨.inr rfl,res3 rfl rfl rfl rfl ⟨_,_,rfl,S0.run,FAt.nil⟩⟩
 ·
  refine FW.condF rfl c21 ?_
  refine FW.skip (FW.seq ?_)
  refine FW.draw (fun w'=>Run wa.heap.size Ha wa Ha w') (by kernel_rfl) (by kernel_rfl) (zaN S0.sl) ?_
  refine FD.val rfl rfl rfl (fun w' hw'=>(E.move (v:=Value.string a0) rfl)) ?_
  obtain ⟨z23,h24,hp⟩:=bnd hp
  refine FD.val rfl rfl rfl (fun w' hw'=>(E.ixS Tryz.runUnderlying9 rfl rfl h24)) ?_
  refine FD.val rfl rfl rfl (fun w' hw'=>(E.move (v:=Value.string a0) rfl)) ?_
  obtain ⟨z25,h26,hp⟩:=bnd hp
  refine FD.val rfl rfl rfl (fun w' hw'=>(E.cutS (kl:=.i64) (kh:=.i64) Tryz.underlying9 rfl (.inr ⟨_,rfl,rfl⟩) (.inl ⟨rfl,rfl⟩) h26)) ?_
  refine FD.val rfl rfl rfl (fun w' hw'=>(E.assign (v:=Value.int .u8 z23) rfl)) ?_
  refine FD.val rfl rfl rfl (fun w' hw'=>(E.assign (v:=Value.string z25) rfl)) ?_
  refine FD.nil ?_
  intro w27 r29
  have S28:=S0.call r29
  refine FW.seq (FW.block (FW.seq (FW.region ?_)))
  refine FL.v (E.move (v:=Value.int .u8 z23) rfl) ?_
  refine FL.call rfl rfl rfl (E.call Tryz.call79 (A1 rfl)) (w_impl_isLetter S28.sl z23) ?_
  rintro e w30 ⟨rfl,r31⟩
  refine ⟨_,rfl,?_⟩
  have S32:=S28.call r31
  refine FL.v (E.move (v:=Value.bool (PF.zbn z23)) rfl) ?_
  refine FL.cut 3 (fun f w=>∃ H:GH,St Ha wa H w []∧Inc Ha H∧f 5=Value.int .u8 z23∧f 6=Value.string z25∧f 26=Value.bool (bif (PF.zbn z23) then true else (z23 == 48))) ?_ ?_
  ·
   rcases bcase (PF.zbn z23) with c39|c39
   ·
    refine FL.skip (wF_no rfl rfl rfl c39) rfl ?_
    refine FL.skip (wF_no rfl rfl rfl c39) rfl ?_
    refine FL.v (E.pickT rfl c39 rfl) ?_
    exact FL.nil ⟨rfl,_,S32,(Inc.rfl _),rfl,rfl,(congrArg Value.bool (bifT c39).symm)⟩
   ·
    refine FL.val (zab rfl rfl rfl c39) rfl rfl (E.move (v:=Value.int .u8 z23) rfl) ?_
    refine FL.val (zab rfl rfl rfl c39) rfl rfl (E.eql rfl rfl) ?_
    refine FL.v (E.pickF rfl c39 rfl) ?_
    exact FL.nil ⟨rfl,_,S32,(Inc.rfl _),rfl,rfl,(congrArg Value.bool (bifF c39).symm)⟩
  rintro f38 w37 ⟨H34,S35,i36,k40,k41,k42⟩
  refine FL.v (E.move k42) ?_
  refine FL.cut 3 (fun f w=>∃ H:GH,St Ha wa H w []∧Inc H34 H∧f 5=Value.int .u8 z23∧f 6=Value.string z25∧f 30=Value.bool (bif (bif (PF.zbn z23) then true else (z23 == 48)) then true else (z23 == 49))) ?_ ?_
  ·
   rcases bcase (bif (PF.zbn z23) then true else (z23 == 48)) with c49|c49
   ·
    refine FL.skip (wF_no rfl rfl rfl c49) rfl ?_
    refine FL.skip (wF_no rfl rfl rfl c49) rfl ?_
    refine FL.v (E.pickT rfl c49 rfl) ?_
    exact FL.nil ⟨rfl,_,S35,(Inc.rfl _),k40,k41,(congrArg Value.bool (bifT c49).symm)⟩
   ·
    refine FL.val (zab rfl rfl rfl c49) rfl rfl (E.move k40) ?_
    refine FL.val (zab rfl rfl rfl c49) rfl rfl (E.eql rfl rfl) ?_
    refine FL.v (E.pickF rfl c49 rfl) ?_
    exact FL.nil ⟨rfl,_,S35,(Inc.rfl _),k40,k41,(congrArg Value.bool (bifF c49).symm)⟩
  rintro f48 w47 ⟨H44,S45,i46,k50,k51,k52⟩
  refine FL.v (E.assign k52) ?_
  refine FL.nil ?_
  rcases ifB hp with ⟨c53,hp⟩|⟨c53,hp⟩
  ·
   refine FW.condT rfl c53 ?_
   refine FW.seq (FW.region ?_)
   refine FL.v (E.move k50) ?_
   obtain ⟨r54,hr55,hp⟩:=bnd hp
   refine FL.call rfl rfl rfl (E.call Tryz.call174 (A1 rfl)) (w_impl_leaf S45.sl z23 hr55) ?_
   rintro e w57 ⟨H56,v60,rfl,r59,h61⟩
   refine ⟨_,rfl,?_⟩
   have S58:=S45.call r59
   refine FL.v (E.move k51) ?_
   refine FL.v (E.assign (v:=v60) rfl) ?_
   refine FL.v (E.assign (v:=Value.string z25) rfl) ?_
   refine FL.v (E.assign (v:=Value.bool true) rfl) ?_
   refine FL.nil ?_
   refine FW.ret ?_
   obtain rfl:=Option.some.inj hp
   exact ⟨.inr rfl,res3 rfl rfl rfl rfl ⟨_,_,rfl,S58.run,h61⟩⟩
  ·
   refine FW.condF rfl c53 ?_
   refine FW.seq (FW.region ?_)
   refine FL.v (E.move k50) ?_
   refine FL.v (E.eql rfl rfl) ?_
   refine FL.v (E.assign (v:=Value.bool (z23 == 126)) rfl) ?_
   refine FL.nil ?_
   rcases ifB hp with ⟨c62,hp⟩|⟨c62,hp⟩
   ·
    refine FW.condT rfl c62 ?_
    refine FW.seq (FW.region ?_)
    refine FL.v (E.move k51) ?_
    obtain ⟨r63,hr64,hp⟩:=bnd hp
    refine FL.call rfl rfl rfl (E.call Tryz.call127 (A1 rfl)) (hrec_impl_parseFrom S45.sl z25 hr64) ?_
    rintro e w66 ⟨H65,v69,rfl,r68,h70⟩
    refine ⟨_,rfl,?_⟩
    have S67:=S45.call r68
    refine FL.v (E.move (v:=Value.tuple #[v69,Value.string r63.2.1,Value.bool r63.2.2]) rfl) ?_
    refine FL.v (E.extract (i:=0) rfl rfl) ?_
    refine FL.v (E.extract (i:=1) rfl rfl) ?_
    refine FL.v (E.extract (i:=2) rfl rfl) ?_
    refine FL.v (E.assign (v:=v69) rfl) ?_
    refine FL.v (E.assign (v:=Value.string r63.2.1) rfl) ?_
    refine FL.v (E.assign (v:=Value.bool r63.2.2) rfl) ?_
    refine FL.nil (FW.seq (FW.seq (FW.region ?_)))
    refine FL.v (E.move (v:=Value.bool r63.2.2) rfl) ?_
    refine FL.v (E.not rfl) ?_
    refine FL.nil ?_
    rcases ifB hp with ⟨c71,hp⟩|⟨c71,hp⟩
    ·
     refine FW.condT rfl c71 ?_
     refine FW.seq (FW.region ?_)
     refine FL.v (E.assign (v:=Value.pointer none) rfl) ?_
     refine FL.v (E.assign (v:=Value.string (ByteArray.mk #[])) rfl) ?_
     refine FL.v (E.assign (v:=Value.bool false) rfl) ?_
     refine FL.nil ?_
     refine FW.ret ?_
     obtain rfl:=Option.some.inj hp
     exact ⟨.inr rfl,res3 rfl rfl rfl rfl ⟨_,_,rfl,S67.run,FAt.nil⟩⟩
    ·
     refine FW.condF rfl c71 ?_
     refine FW.skip (FW.seq (FW.region ?_))
     refine FL.v (E.move (v:=v69) rfl) ?_
     obtain ⟨r72,hr73,hp⟩:=bnd hp
     refine FL.call rfl rfl rfl (E.call Tryz.call175 (A1 rfl)) (w_impl_not S67.sl v69 r63.1 h70 hr73) ?_
     rintro e w75 ⟨H74,v78,rfl,r77,h79⟩
     refine ⟨_,rfl,?_⟩
     have S76:=S67.call r77
     refine FL.v (E.move (v:=Value.string r63.2.1) rfl) ?_
     refine FL.v (E.assign (v:=v78) rfl) ?_
     refine FL.v (E.assign (v:=Value.string r63.2.1) rfl) ?_
     refine FL.v (E.assign (v:=Value.bool true) rfl) ?_
     refine FL.nil ?_
     refine FW.ret ?_
     obtain rfl:=Option.some.inj hp
     exact ⟨.inr rfl,res3 rfl rfl rfl rfl ⟨_,_,rfl,S76.run,h79⟩⟩
   ·
    refine FW.condF rfl c62 ?_
    refine FW.seq (FW.region ?_)
    refine FL.v (E.move k50) ?_
    refine FL.v (E.neq rfl rfl) ?_
    refine FL.v (E.assign (v:=Value.bool (!(z23 == 40))) rfl) ?_
    refine FL.nil ?_
    rcases ifB hp with ⟨c80,hp⟩|⟨c80,hp⟩
    ·
     refine FW.condT rfl c80 ?_
     refine FW.seq (FW.region ?_)
     refine FL.v (E.assign (v:=Value.pointer none) rfl) ?_
     refine FL.v (E.assign (v:=Value.string (ByteArray.mk #[])) rfl) ?_
     refine FL.v (E.assign (v:=Value.bool false) rfl) ?_
     refine FL.nil ?_
     refine FW.ret ?_
     obtain rfl:=Option.some.inj hp
     exact ⟨.inr rfl,res3 rfl rfl rfl rfl ⟨_,_,rfl,S45.run,FAt.nil⟩⟩
    ·
     refine FW.condF rfl c80 ?_
     refine FW.skip (FW.seq (FW.region ?_))
     refine FL.v (E.move k51) ?_
     obtain ⟨r81,hr82,hp⟩:=bnd hp
     refine FL.call rfl rfl rfl (E.call Tryz.call127 (A1 rfl)) (hrec_impl_parseFrom S45.sl z25 hr82) ?_
     rintro e w84 ⟨H83,v87,rfl,r86,h88⟩
     refine ⟨_,rfl,?_⟩
     have S85:=S45.call r86
     refine FL.v (E.move (v:=Value.tuple #[v87,Value.string r81.2.1,Value.bool r81.2.2]) rfl) ?_
     refine FL.v (E.extract (i:=0) rfl rfl) ?_
     refine FL.v (E.extract (i:=1) rfl rfl) ?_
     refine FL.v (E.extract (i:=2) rfl rfl) ?_
     refine FL.v (E.assign (v:=v87) rfl) ?_
     refine FL.v (E.assign (v:=Value.string r81.2.1) rfl) ?_
     refine FL.v (E.assign (v:=Value.bool r81.2.2) rfl) ?_
     refine FL.nil (FW.seq (FW.seq (FW.region ?_)))
     refine FL.v (E.move (v:=Value.bool r81.2.2) rfl) ?_
     refine FL.v (E.not rfl) ?_
     refine FL.v (E.move (v:=Value.bool (!r81.2.2)) rfl) ?_
     refine FL.cut 3 (fun f w=>∃ H:GH,St Ha wa H w []∧Inc H83 H∧f 6=Value.string r81.2.1∧f 10=v87∧f 62=Value.bool (bif (!r81.2.2) then true else (r81.2.1.toList == (ByteArray.mk #[]).toList))) ?_ ?_
     ·
      rcases bcase (!r81.2.2) with c95|c95
      ·
       refine FL.skip (wF_no rfl rfl rfl c95) rfl ?_
       refine FL.skip (wF_no rfl rfl rfl c95) rfl ?_
       refine FL.v (E.pickT rfl c95 rfl) ?_
       exact FL.nil ⟨rfl,_,S85,(Inc.rfl _),rfl,rfl,(congrArg Value.bool (bifT c95).symm)⟩
      ·
       refine FL.val (zab rfl rfl rfl c95) rfl rfl (E.move (v:=Value.string r81.2.1) rfl) ?_
       refine FL.val (zab rfl rfl rfl c95) rfl rfl (E.eqlS rfl rfl) ?_
       refine FL.v (E.pickF rfl c95 rfl) ?_
       exact FL.nil ⟨rfl,_,S85,(Inc.rfl _),rfl,rfl,(congrArg Value.bool (bifF c95).symm)⟩
     rintro f94 w93 ⟨H90,S91,i92,k96,k97,k98⟩
     refine FL.v (E.move k98) ?_
     obtain ⟨t106,hqtA6,hp⟩:=bnd hp
     refine FL.cut 5 (fun f w=>∃ H:GH,St Ha wa H w []∧Inc H90 H∧f 6=Value.string r81.2.1∧f 10=v87∧f 68=Value.bool t106) ?_ ?_
     ·
      clear hp;have hp:=hqtA6;clear hqtA6
      rcases ifB hp with ⟨cAc,hp⟩|⟨cAc,hp⟩
      ·
       refine FL.skip (wF_no rfl rfl rfl cAc) rfl ?_
       refine FL.skip (wF_no rfl rfl rfl cAc) rfl ?_
       refine FL.skip (wF_no rfl rfl rfl cAc) rfl ?_
       refine FL.skip (wF_no rfl rfl rfl cAc) rfl ?_
       obtain rfl:=Option.some.inj hp
       refine FL.v (E.pickT rfl cAc rfl) ?_
       exact FL.nil ⟨rfl,_,S91,(Inc.rfl _),k96,k97,rfl⟩
      ·
       refine FL.val (zab rfl rfl rfl cAc) rfl rfl (E.move k96) ?_
       obtain ⟨zAd,hAe,hp⟩:=bnd hp
       refine FL.val (zab rfl rfl rfl cAc) rfl rfl (E.cutS (kl:=.i64) (kh:=.i64) Tryz.underlying9 rfl (.inl ⟨rfl,rfl⟩) (.inr ⟨_,rfl,rfl⟩) hAe) ?_
       obtain ⟨rAf,hrAg,hp⟩:=bnd hp
       refine FL.call (zab rfl rfl rfl cAc) rfl rfl (E.call Tryz.call176 (A2 rfl rfl)) (w_strings_Contains S91.sl (ByteArray.mk #[38,124,62]) zAd hrAg) ?_
       rintro e wAh ⟨rfl,rAi⟩
       refine ⟨_,rfl,?_⟩
       have SAj:=S91.call rAi
       refine FL.val (zab rfl rfl rfl cAc) rfl rfl (E.not rfl) ?_
       obtain rfl:=Option.some.inj hp
       refine FL.v (E.pickF rfl cAc rfl) ?_
       exact FL.nil ⟨rfl,_,SAj,(Inc.rfl _),k96,k97,rfl⟩
     rintro fAb wAa ⟨HA7,SA8,iA9,kAk,kAl,kAm⟩
     refine FL.nil ?_
     rcases ifB hp with ⟨cAn,hp⟩|⟨cAn,hp⟩
     ·
      refine FW.condT kAm cAn ?_
      refine FW.seq (FW.region ?_)
      refine FL.v (E.assign (v:=Value.pointer none) rfl) ?_
      refine FL.v (E.assign (v:=Value.string (ByteArray.mk #[])) rfl) ?_
      refine FL.v (E.assign (v:=Value.bool false) rfl) ?_
      refine FL.nil ?_
      refine FW.ret ?_
      obtain rfl:=Option.some.inj hp
      exact ⟨.inr rfl,res3 rfl rfl rfl rfl ⟨_,_,rfl,SA8.run,FAt.nil⟩⟩
     ·
      refine FW.condF kAm cAn ?_
      refine FW.skip (FW.seq (FW.region ?_))
      refine FL.v (E.move kAk) ?_
      obtain ⟨zAo,hAp,hp⟩:=bnd hp
      refine FL.v (E.ixS Tryz.runUnderlying9 rfl rfl hAp) ?_
      refine FL.v (E.assign (v:=Value.int .u8 zAo) rfl) ?_
      refine FL.nil (FW.seq (FW.region ?_))
      refine FL.v (E.move kAk) ?_
      obtain ⟨zAq,hAr,hp⟩:=bnd hp
      refine FL.v (E.cutS (kl:=.i64) (kh:=.i64) Tryz.underlying9 rfl (.inr ⟨_,rfl,rfl⟩) (.inl ⟨rfl,rfl⟩) hAr) ?_
      obtain ⟨rAs,hrAt,hp⟩:=bnd hp
      refine FL.call rfl rfl rfl (E.call Tryz.call127 (A1 rfl)) (hrec_impl_parseFrom SA8.sl zAq hrAt) ?_
      rintro e wAv ⟨HAu,vAy,rfl,rAx,hAz⟩
      refine ⟨_,rfl,?_⟩
      have SAw:=SA8.call rAx
      refine FL.v (E.move (v:=Value.tuple #[vAy,Value.string rAs.2.1,Value.bool rAs.2.2]) rfl) ?_
      refine FL.v (E.extract (i:=0) rfl rfl) ?_
      refine FL.v (E.extract (i:=1) rfl rfl) ?_
      refine FL.v (E.extract (i:=2) rfl rfl) ?_
      refine FL.v (E.assign (v:=vAy) rfl) ?_
      refine FL.v (E.assign (v:=Value.string rAs.2.1) rfl) ?_
      refine FL.v (E.assign (v:=Value.bool rAs.2.2) rfl) ?_
      refine FL.nil (FW.seq (FW.seq (FW.region ?_)))
      refine FL.v (E.move (v:=Value.bool rAs.2.2) rfl) ?_
      refine FL.v (E.not rfl) ?_
      refine FL.v (E.move (v:=Value.bool (!rAs.2.2)) rfl) ?_
      refine FL.cut 3 (fun f w=>∃ H:GH,St Ha wa H w []∧Inc HAu H∧f 6=Value.string rAs.2.1∧f 10=v87∧f 12=Value.int .u8 zAo∧f 13=vAy∧f 83=Value.bool (bif (!rAs.2.2) then true else (rAs.2.1.toList == (ByteArray.mk #[]).toList))) ?_ ?_
      ·
       rcases bcase (!rAs.2.2) with cAG|cAG
       ·
        refine FL.skip (wF_no rfl rfl rfl cAG) rfl ?_
        refine FL.skip (wF_no rfl rfl rfl cAG) rfl ?_
        refine FL.v (E.pickT rfl cAG rfl) ?_
        exact FL.nil ⟨rfl,_,SAw,(Inc.rfl _),rfl,kAl,rfl,rfl,(congrArg Value.bool (bifT cAG).symm)⟩
       ·
        refine FL.val (zab rfl rfl rfl cAG) rfl rfl (E.move (v:=Value.string rAs.2.1) rfl) ?_
        refine FL.val (zab rfl rfl rfl cAG) rfl rfl (E.eqlS rfl rfl) ?_
        refine FL.v (E.pickF rfl cAG rfl) ?_
        exact FL.nil ⟨rfl,_,SAw,(Inc.rfl _),rfl,kAl,rfl,rfl,(congrArg Value.bool (bifF cAG).symm)⟩
      rintro fAF wAE ⟨HAB,SAC,iAD,kAH,kAI,kAJ,kAK,kAL⟩
      refine FL.v (E.move kAL) ?_
      obtain ⟨t150,hqtAO,hp⟩:=bnd hp
      refine FL.cut 4 (fun f w=>∃ H:GH,St Ha wa H w []∧Inc HAB H∧f 6=Value.string rAs.2.1∧f 10=v87∧f 12=Value.int .u8 zAo∧f 13=vAy∧f 88=Value.bool t150) ?_ ?_
      ·
       clear hp;have hp:=hqtAO;clear hqtAO
       rcases ifB hp with ⟨cAU,hp⟩|⟨cAU,hp⟩
       ·
        refine FL.skip (wF_no rfl rfl rfl cAU) rfl ?_
        refine FL.skip (wF_no rfl rfl rfl cAU) rfl ?_
        refine FL.skip (wF_no rfl rfl rfl cAU) rfl ?_
        obtain rfl:=Option.some.inj hp
        refine FL.v (E.pickT rfl cAU rfl) ?_
        exact FL.nil ⟨rfl,_,SAC,(Inc.rfl _),kAH,kAI,kAJ,kAK,rfl⟩
       ·
        refine FL.val (zab rfl rfl rfl cAU) rfl rfl (E.move kAH) ?_
        obtain ⟨zAV,hAW,hp⟩:=bnd hp
        refine FL.val (zab rfl rfl rfl cAU) rfl rfl (E.ixS Tryz.runUnderlying9 rfl rfl hAW) ?_
        refine FL.val (zab rfl rfl rfl cAU) rfl rfl (E.neq rfl rfl) ?_
        obtain rfl:=Option.some.inj hp
        refine FL.v (E.pickF rfl cAU rfl) ?_
        exact FL.nil ⟨rfl,_,SAC,(Inc.rfl _),kAH,kAI,kAJ,kAK,rfl⟩
      rintro fAT wAS ⟨HAP,SAQ,iAR,kAX,kAY,kAZ,kB0,kB1⟩
      refine FL.nil ?_
      rcases ifB hp with ⟨cB2,hp⟩|⟨cB2,hp⟩
      ·
       refine FW.condT kB1 cB2 ?_
       refine FW.seq (FW.region ?_)
       refine FL.v (E.assign (v:=Value.pointer none) rfl) ?_
       refine FL.v (E.assign (v:=Value.string (ByteArray.mk #[])) rfl) ?_
       refine FL.v (E.assign (v:=Value.bool false) rfl) ?_
       refine FL.nil ?_
       refine FW.ret ?_
       obtain rfl:=Option.some.inj hp
       exact ⟨.inr rfl,res3 rfl rfl rfl rfl ⟨_,_,rfl,SAQ.run,FAt.nil⟩⟩
      ·
       refine FW.condF kB1 cB2 ?_
       refine FW.skip (FW.seq ?_)
       obtain ⟨r22,hr33,hp⟩:=bnd hp
       obtain ⟨zA3,hA4,hp⟩:=bnd hp
       refine FW.drawB (Sl HAP) (fun f w=>∃ H:GH,∃ vA5:Value,St Ha wa H w []∧Inc HAP H∧FAt H vA5 r22∧f 2=vA5∧f 3=Value.string zA3∧f 4=Value.bool true) (by kernel_rfl) SAQ.sl ?_ ?_
       ·
        intro wB3 rB4
        have SB5:=SAQ.call rB4
        refine FB.t (i:=0) (bs 9 1) rfl (SP.nil SB5.sl) rfl (fun w' hw'=>(E.move kAZ)) ?_
        refine FB.t (i:=1) (bs 9 3) rfl (SP.nil SB5.sl) rfl (fun w' hw'=>(E.move kAY)) ?_
        refine FB.t (i:=2) (bs 9 7) rfl (SP.nil SB5.sl) rfl (fun w' hw'=>(E.move kB0)) ?_
        refine FB.t (i:=4) (bs 9 23) rfl (SP.nil SB5.sl) rfl (fun w' hw'=>(E.move kAX)) ?_
        refine FB.t (i:=5) (bs 9 55) rfl (SP.nil SB5.sl) rfl (fun w' hw'=>(E.cutS (kl:=.i64) (kh:=.i64) Tryz.underlying9 rfl (.inr ⟨_,rfl,rfl⟩) (.inl ⟨rfl,rfl⟩) hA4)) ?_
        refine FB.all1 (i:=3) (by kernel_rfl) ?_
        ·
         refine FC.call (l':=(bs 9 63)) rfl (by kernel_rfl) rfl rfl rfl (E.call Tryz.call177 (A3 rfl rfl rfl)) (w_impl_join SB5.sl zAo v87 r81.1 (h88.mono ((((i92.tr iA9).tr rAx.inc).tr iAD).tr iAR)) vAy rAs.1 (hAz.mono (iAD.tr iAR)) hr33) ?_
         rintro e w89 ⟨H43,vA1,rfl,rA0,hA2⟩
         refine ⟨_,rfl,?_⟩
         have S99:=SB5.call rA0
         refine ⟨(SP.nil (Sl.of_inc rA0.inc S99.sl)),?_⟩
         refine FB.t (i:=6) (bs 9 127) rfl (SP.nil (Sl.of_inc rA0.inc S99.sl)) rfl (fun w' hw'=>(E.assign (v:=vA1) rfl)) ?_
         refine FB.t (i:=7) (bs 9 255) rfl (SP.nil (Sl.of_inc rA0.inc S99.sl)) rfl (fun w' hw'=>(E.assign (v:=Value.string zA3) rfl)) ?_
         refine FB.t (i:=8) (bs 9 511) rfl (SP.nil (Sl.of_inc rA0.inc S99.sl)) rfl (fun w' hw'=>(E.assign (v:=Value.bool true) rfl)) ?_
         exact FB.done (by kernel_rfl) ⟨_,_,S99,rA0.inc,hA2,rfl,rfl,rfl⟩
       ·
        rintro fB8 wB7 ⟨HAM,vA5,SAN,iB6,hAA,kB9,kBa,kBb⟩
        refine FW.ret ?_
        obtain rfl:=Option.some.inj hp
        exact ⟨.inr rfl,res3 rfl kB9 kBa kBb ⟨_,_,rfl,SAN.run,hAA⟩⟩
theorem w_impl_parseFrom_F (n:Nat):∀ {Ha:GH} {wa:World} (hs:Sl Ha wa) (a0:ByteArray) {r:(Fo×ByteArray×Bool)} (hp:PF.zbR n a0=some r),Calls Tryz.prog 127 #[Value.string a0] wa (zds Ha wa r):=by
 induction n with
 | zero=>intros;rename_i hp;exact nomatch hp
 | succ n ih=>exact w_impl_parseFrom_B (rec_impl_parseFrom:=PF.zbR n) ih
theorem w_impl_parseFrom {Ha:GH} {wa:World} (hs:Sl Ha wa) (a0:ByteArray) {r:(Fo×ByteArray×Bool)} (hp:PF.zdD a0=some r) :
  Calls Tryz.prog 127 #[Value.string a0] wa (zds Ha wa r):=w_impl_parseFrom_F deep hs a0 hp

@[reducible] def p_impl_parse (Ha:GH) (wa:World) (r:(Fo×Bool)):Ending→World→Prop :=
 fun e w'=>∃ H':GH,∃ v0:Value,e=.returned (Value.tuple #[v0,Value.bool r.2])∧Run wa.heap.size Ha wa H' w'∧FAt H' v0 r.1
theorem zdt {Ha:GH} {wa:World} (hs:Sl Ha wa) (a0:ByteArray) {r:(Fo×Bool)} (hp:(PF.zbx a0)=some r) :
  Calls Tryz.prog 78 #[Value.string a0] wa (p_impl_parse Ha wa r):=by
 unfold PF.zbx at hp
 have S0:=St.init hs
 refine zaj (N:=23) (args:=[Value.string a0]) Tryz.func78 rfl rfl rfl ?_
 refine FW.seq (FW.region ?_)
 refine FL.v (E.assign (v:=Value.pointer none) rfl) ?_
 refine FL.v (E.assign (v:=Value.bool false) rfl) ?_
 refine FL.nil (FW.seq (FW.seq (FW.region ?_)))
 refine FL.v (E.move (v:=Value.string a0) rfl) ?_
 refine FL.v (E.lenS Tryz.runUnderlying9 rfl) ?_
 refine FL.v (E.gtr rfl rfl) ?_
 refine FL.nil ?_
 rcases ifB hp with ⟨c21,hp⟩|⟨c21,hp⟩
 ·
  refine FW.condT rfl c21 ?_
  refine FW.seq (FW.region ?_)
  refine FL.v (E.assign (v:=Value.pointer none) rfl) ?_
  refine FL.v (E.assign (v:=Value.bool false) rfl) ?_
  refine FL.nil ?_
  refine FW.ret ?_
  obtain rfl:=Option.some.inj hp
  exact ⟨.inr rfl,res2 rfl rfl rfl ⟨_,_,rfl,S0.run,FAt.nil⟩⟩
 ·
  refine FW.condF rfl c21 ?_
  refine FW.skip (FW.seq (FW.region ?_))
  refine FL.v (E.move (v:=Value.string a0) rfl) ?_
  obtain ⟨r22,hr23,hp⟩:=bnd hp
  refine FL.call rfl rfl rfl (E.call Tryz.call127 (A1 rfl)) (w_impl_parseFrom S0.sl a0 hr23) ?_
  rintro e w25 ⟨H24,v28,rfl,r27,h29⟩
  refine ⟨_,rfl,?_⟩
  have S26:=S0.call r27
  refine FL.v (E.move (v:=Value.tuple #[v28,Value.string r22.2.1,Value.bool r22.2.2]) rfl) ?_
  refine FL.v (E.extract (i:=0) rfl rfl) ?_
  refine FL.v (E.extract (i:=1) rfl rfl) ?_
  refine FL.v (E.extract (i:=2) rfl rfl) ?_
  refine FL.v (E.assign (v:=v28) rfl) ?_
  refine FL.v (E.assign (v:=Value.string r22.2.1) rfl) ?_
  refine FL.v (E.assign (v:=Value.bool r22.2.2) rfl) ?_
  refine FL.nil (FW.seq (FW.seq (FW.region ?_)))
  refine FL.v (E.move (v:=Value.bool r22.2.2) rfl) ?_
  refine FL.v (E.not rfl) ?_
  refine FL.v (E.move (v:=Value.bool (!r22.2.2)) rfl) ?_
  refine FL.cut 3 (fun f w=>∃ H:GH,St Ha wa H w []∧Inc H24 H∧f 4=v28∧f 21=Value.bool (bif (!r22.2.2) then true else (!(r22.2.1.toList == (ByteArray.mk #[]).toList)))) ?_ ?_
  ·
   rcases bcase (!r22.2.2) with c36|c36
   ·
    refine FL.skip (wF_no rfl rfl rfl c36) rfl ?_
    refine FL.skip (wF_no rfl rfl rfl c36) rfl ?_
    refine FL.v (E.pickT rfl c36 rfl) ?_
    exact FL.nil ⟨rfl,_,S26,(Inc.rfl _),rfl,(congrArg Value.bool (bifT c36).symm)⟩
   ·
    refine FL.val (zab rfl rfl rfl c36) rfl rfl (E.move (v:=Value.string r22.2.1) rfl) ?_
    refine FL.val (zab rfl rfl rfl c36) rfl rfl (E.neqS rfl rfl) ?_
    refine FL.v (E.pickF rfl c36 rfl) ?_
    exact FL.nil ⟨rfl,_,S26,(Inc.rfl _),rfl,(congrArg Value.bool (bifF c36).symm)⟩
  rintro f35 w34 ⟨H31,S32,i33,k37,k38⟩
  refine FL.nil ?_
  rcases ifB hp with ⟨c39,hp⟩|⟨c39,hp⟩
  ·
   refine FW.condT k38 c39 ?_
   refine FW.seq (FW.region ?_)
   refine FL.v (E.assign (v:=Value.pointer none) rfl) ?_
   refine FL.v (E.assign (v:=Value.bool false) rfl) ?_
   refine FL.nil ?_
   refine FW.ret ?_
   obtain rfl:=Option.some.inj hp
   exact ⟨.inr rfl,res2 rfl rfl rfl ⟨_,_,rfl,S32.run,FAt.nil⟩⟩
  ·
   refine FW.condF k38 c39 ?_
   refine FW.skip (FW.seq (FW.region ?_))
   refine FL.v (E.move k37) ?_
   refine FL.v (E.assign (v:=v28) rfl) ?_
   refine FL.v (E.assign (v:=Value.bool true) rfl) ?_
   refine FL.nil ?_
   refine FW.ret ?_
   obtain rfl:=Option.some.inj hp
   exact ⟨.inr rfl,res2 rfl rfl rfl ⟨_,_,rfl,S32.run,(h29.mono i33)⟩⟩

theorem w_impl_IsFormula {Ha:GH} {wa:World} (hs:Sl Ha wa) (a0:ByteArray) {r:Bool} (hp:(PF.zcY a0)=some r) :
  Calls Tryz.prog 35 #[Value.string a0] wa (Sc Ha wa (Value.bool r)):=by
 unfold PF.zcY at hp
 have S0:=St.init hs
 refine zaj (N:=11) (args:=[Value.string a0]) Tryz.func35 rfl rfl rfl ?_
 refine FW.seq (FW.region ?_)
 refine FL.v (E.assign (v:=Value.bool false) rfl) ?_
 refine FL.nil (FW.seq (FW.region ?_))
 refine FL.v (E.move (v:=Value.string a0) rfl) ?_
 obtain ⟨r21,hr22,hp⟩:=bnd hp
 refine FL.call rfl rfl rfl (E.call Tryz.call78 (A1 rfl)) (zdt S0.sl a0 hr22) ?_
 rintro e w24 ⟨H23,v27,rfl,r26,h28⟩
 refine ⟨_,rfl,?_⟩
 have S25:=S0.call r26
 refine FL.v (E.move (v:=Value.tuple #[v27,Value.bool r21.2]) rfl) ?_
 refine FL.v (E.extract (i:=0) rfl rfl) ?_
 refine FL.v (E.extract (i:=1) rfl rfl) ?_
 refine FL.v (E.assign (v:=v27) rfl) ?_
 refine FL.v (E.assign (v:=Value.bool r21.2) rfl) ?_
 refine FL.nil (FW.seq (FW.region ?_))
 refine FL.v (E.move (v:=Value.bool r21.2) rfl) ?_
 refine FL.v (E.assign (v:=Value.bool r21.2) rfl) ?_
 refine FL.nil ?_
 refine FW.ret ?_
 obtain rfl:=Option.some.inj hp
 exact ⟨.inr rfl,res1 rfl rfl ⟨rfl,S25.back⟩⟩

theorem zea {Ha:GH} {wa:World} (hs:Sl Ha wa) (a0:Int) :
  Calls Tryz.prog 210 #[Value.int .i64 a0] wa (Sc Ha wa (Value.bool (PF.zbc a0))):=by
 obtain ⟨r,hp⟩:∃ r,(PF.zbc a0)=r:=⟨_,rfl⟩
 rw [hp]
 unfold PF.zbc at hp
 have S0:=St.init hs
 refine zaj (N:=6) (args:=[Value.int .i64 a0]) Tryz.func210 rfl rfl rfl ?_
 refine FW.seq (FW.region ?_)
 refine FL.v (E.assign (v:=Value.bool false) rfl) ?_
 refine FL.nil (FW.seq (FW.region ?_))
 refine FL.v (E.move (v:=Value.int .i64 a0) rfl) ?_
 refine FL.v (E.move (v:=Value.int .i64 a0) rfl) ?_
 refine FL.v (E.neq rfl rfl) ?_
 refine FL.v (E.assign (v:=Value.bool (!(a0 == a0))) rfl) ?_
 refine FL.nil ?_
 refine FW.ret ?_
 obtain rfl:=hp
 exact ⟨.inr rfl,res1 rfl rfl ⟨rfl,S0.back⟩⟩

set_option maxHeartbeats 4000000 in
theorem w_cmp_Compare_int {Ha:GH} {wa:World} (hs:Sl Ha wa) (a0:Int) (a1:Int) :
  Calls Tryz.prog 165 #[Value.int .i64 a0,Value.int .i64 a1] wa (Sc Ha wa (Value.int .i64 (PF.zbS a0 a1))):=by
 obtain ⟨r,hp⟩:∃ r,(PF.zbS a0 a1)=r:=⟨_,rfl⟩
 rw [hp]
 unfold PF.zbS at hp
 have S0:=St.init hs
 refine zaj (N:=20) (args:=[Value.int .i64 a0,Value.int .i64 a1]) Tryz.func165 rfl rfl rfl ?_
 refine FW.seq (FW.region ?_)
 refine FL.v (E.assign (v:=Value.int .i64 0) rfl) ?_
 refine FL.nil (FW.seq (FW.region ?_))
 refine FL.v (E.move (v:=Value.int .i64 a0) rfl) ?_
 refine FL.call rfl rfl rfl (E.call Tryz.call210 (A1 rfl)) (zea S0.sl a0) ?_
 rintro e w21 ⟨rfl,r22⟩
 refine ⟨_,rfl,?_⟩
 have S23:=S0.call r22
 refine FL.v (E.assign (v:=Value.bool (PF.zbc a0)) rfl) ?_
 refine FL.nil (FW.seq (FW.region ?_))
 refine FL.v (E.move (v:=Value.int .i64 a1) rfl) ?_
 refine FL.call rfl rfl rfl (E.call Tryz.call210 (A1 rfl)) (zea S23.sl a1) ?_
 rintro e w24 ⟨rfl,r25⟩
 refine ⟨_,rfl,?_⟩
 have S26:=S23.call r25
 refine FL.v (E.assign (v:=Value.bool (PF.zbc a1)) rfl) ?_
 refine FL.nil (FW.seq (FW.seq (FW.region ?_)))
 refine FL.v (E.move (v:=Value.bool (PF.zbc a0)) rfl) ?_
 refine FL.nil ?_
 rcases ifT hp with ⟨c27,hp⟩|⟨c27,hp⟩
 ·
  refine FW.condT rfl c27 ?_
  refine FW.seq (FW.seq (FW.region ?_))
  refine FL.v (E.move (v:=Value.bool (PF.zbc a1)) rfl) ?_
  refine FL.nil ?_
  rcases ifT hp with ⟨c28,hp⟩|⟨c28,hp⟩
  ·
   refine FW.condT rfl c28 ?_
   refine FW.seq (FW.region ?_)
   refine FL.v (E.assign (v:=Value.int .i64 0) rfl) ?_
   refine FL.nil ?_
   refine FW.ret ?_
   obtain rfl:=hp
   exact ⟨.inr rfl,res1 rfl rfl ⟨rfl,S26.back⟩⟩
  ·
   refine FW.condF rfl c28 ?_
   refine FW.skip (FW.seq (FW.region ?_))
   refine FL.v (E.assign (v:=Value.int .i64 (-1)) rfl) ?_
   refine FL.nil ?_
   refine FW.ret ?_
   obtain rfl:=hp
   exact ⟨.inr rfl,res1 rfl rfl ⟨rfl,S26.back⟩⟩
 ·
  refine FW.condF rfl c27 ?_
  refine FW.skip (FW.seq (FW.seq (FW.region ?_)))
  refine FL.v (E.move (v:=Value.bool (PF.zbc a1)) rfl) ?_
  refine FL.nil ?_
  rcases ifT hp with ⟨c29,hp⟩|⟨c29,hp⟩
  ·
   refine FW.condT rfl c29 ?_
   refine FW.seq (FW.region ?_)
   refine FL.v (E.assign (v:=Value.int .i64 1) rfl) ?_
   refine FL.nil ?_
   refine FW.ret ?_
   obtain rfl:=hp
   exact ⟨.inr rfl,res1 rfl rfl ⟨rfl,S26.back⟩⟩
  ·
   refine FW.condF rfl c29 ?_
   refine FW.skip (FW.seq (FW.seq (FW.region ?_)))
   refine FL.v (E.move (v:=Value.int .i64 a0) rfl) ?_
   refine FL.v (E.move (v:=Value.int .i64 a1) rfl) ?_
   refine FL.v (E.lss rfl rfl) ?_
   refine FL.nil ?_
   rcases ifT hp with ⟨c30,hp⟩|⟨c30,hp⟩
   ·
    refine FW.condT rfl c30 ?_
    refine FW.seq (FW.region ?_)
    refine FL.v (E.assign (v:=Value.int .i64 (-1)) rfl) ?_
    refine FL.nil ?_
    refine FW.ret ?_
    obtain rfl:=hp
    exact ⟨.inr rfl,res1 rfl rfl ⟨rfl,S26.back⟩⟩
   ·
    refine FW.condF rfl c30 ?_
    refine FW.skip (FW.seq (FW.seq (FW.region ?_)))
    refine FL.v (E.move (v:=Value.int .i64 a0) rfl) ?_
    refine FL.v (E.move (v:=Value.int .i64 a1) rfl) ?_
    refine FL.v (E.gtr rfl rfl) ?_
    refine FL.nil ?_
    rcases ifT hp with ⟨c31,hp⟩|⟨c31,hp⟩
    ·
     refine FW.condT rfl c31 ?_
     refine FW.seq (FW.region ?_)
     refine FL.v (E.assign (v:=Value.int .i64 1) rfl) ?_
     refine FL.nil ?_
     refine FW.ret ?_
     obtain rfl:=hp
     exact ⟨.inr rfl,res1 rfl rfl ⟨rfl,S26.back⟩⟩
    ·
     refine FW.condF rfl c31 ?_
     refine FW.skip (FW.seq (FW.region ?_))
     refine FL.v (E.assign (v:=Value.int .i64 0) rfl) ?_
     refine FL.nil ?_
     refine FW.ret ?_
     obtain rfl:=hp
     exact ⟨.inr rfl,res1 rfl rfl ⟨rfl,S26.back⟩⟩

theorem w_strings_Compare {Ha:GH} {wa:World} (hs:Sl Ha wa) (a0 a1:ByteArray):Calls Tryz.prog 166 #[Value.string a0,Value.string a1] wa (Sc Ha wa (Value.int .i64 (PF.strings_Compare a0 a1))):=by
 refine (Go.Proofs.Any.strings_Compare Tryz.comp166 a0 a1 wa).mono ?_
 rintro e w' ⟨rfl,rfl⟩
 exact ⟨rfl,Run.refl _ hs⟩

theorem w_cmp_Or_int {Ha:GH} {wa:World} (hs:Sl Ha wa) (v0:Value) (a0:List Int) (p0:RSl Ha eI 1 v0 a0) {r:Int} (hp:(PF.zdi a0)=some r) :
  Calls Tryz.prog 164 #[v0] wa (Sc Ha wa (Value.int .i64 r)):=by
 unfold PF.zdi at hp
 have S0:=St.init hs
 refine zaj (N:=18) (args:=[v0]) Tryz.func164 rfl rfl rfl ?_
 refine FW.seq (FW.region ?_)
 refine FL.v (E.assign (v:=Value.int .i64 0) rfl) ?_
 refine FL.nil (FW.seq (FW.region ?_))
 refine FL.v (E.assign (v:=Value.int .i64 0) rfl) ?_
 refine FL.nil (FW.seq (FW.seq (FW.region ?_)))
 refine FL.v (E.move (v:=v0) rfl) ?_
 refine FL.v (E.lenP te82 rfl p0) ?_
 refine FL.v (E.move (v:=Value.int .i64 0) rfl) ?_
 refine FL.nil ?_
 obtain ⟨q22,hq,hp⟩:=bndR hp
 refine FW.block ?_
 refine FW.mono (FW.forL (S:=Unit) (X:=Int) (fun (i22:Nat) (s22:Unit) f w=>∃ H:GH,St Ha wa H w []∧Inc Ha H∧f 8=Value.int .i64 ((i22:Nat):Int)∧f 3=Value.int .i64 0∧f 6=v0∧f 7=Value.int .i64 (len a0)) (fun q e f w=>match q with|.go s22=>e=Exit.exit 0∧(∃ H:GH,St Ha wa H w []∧Inc Ha H∧f 3=Value.int .i64 0)|.rt x=>((e=Exit.ret)∧(fun e f w=>(e=Exit.normal∨e=Exit.ret)∧∀ a,Fr (δ:=[]) 18 a f→∃ v,(results Tryz.f164 a.tmps).run Tryz.prog w=.ok v w∧(Sc Ha wa (Value.int .i64 x)) (.returned v) w) e f w)) hq ⟨_,S0,(Inc.rfl _),rfl,rfl,rfl,rfl⟩ ?_ ?_) ?_
 ·
  clear hp hq
  rintro i22 y21 s22 f43 w42 ⟨H39,S40,i41,k44,k45,k46,k47⟩ hx22 o55 hp
  refine FW.seq (FW.region ?_)
  refine FL.v (E.lssT k44 k47 (zaJ hx22)) ?_
  refine FL.nil (FW.seq ?_)
  refine FW.condT rfl rfl ?_
  refine FW.skip (FW.seq (FW.block (FW.seq (FW.region ?_))))
  obtain ⟨p48,cs49,pt50,l51,at52,rel53⟩:=p0.at (zaF hx22)
  obtain rfl:=eI_open rel53
  refine FL.v (E.indexAddr te82 k46 k44 pt50) ?_
  refine FL.v (E.load rfl (zar Tryz.isAgg3 ((at52.mono i41).now S40.sl) rfl)) ?_
  refine FL.v (E.assign (v:=Value.int .i64 y21) rfl) ?_
  refine FL.nil (FW.seq (FW.region ?_))
  refine FL.v (E.move (v:=Value.int .i64 y21) rfl) ?_
  refine FL.v (E.move k45) ?_
  refine FL.v (E.neq rfl rfl) ?_
  refine FL.nil ?_
  rcases ifB hp with ⟨c54,hp⟩|⟨c54,hp⟩
  ·
   refine FW.condT rfl c54 ?_
   refine FW.seq (FW.region ?_)
   refine FL.v (E.move (v:=Value.int .i64 y21) rfl) ?_
   refine FL.v (E.assign (v:=Value.int .i64 y21) rfl) ?_
   refine FL.nil ?_
   refine FW.ret ?_
   obtain rfl:=Option.some.inj hp
   exact ⟨nofun,rfl,⟨.inr rfl,res1 rfl rfl ⟨rfl,S40.back⟩⟩⟩
  ·
   refine FW.condF rfl c54 ?_
   refine FW.skip (FW.region ?_)
   refine FL.v (E.add k44 rfl) ?_
   refine FL.v (E.move (v:=Value.int .i64 (wr (((i22:Nat):Int) + 1))) rfl) ?_
   refine FL.nil ?_
   obtain rfl:=Option.some.inj hp
   exact ⟨rfl,⟨_,S40,i41,(zaA rfl (zat hx22) (p0.mono i41).le),k45,k46,k47⟩⟩
 ·
  clear hp hq
  rintro s22 f66 w65 ⟨H62,S63,i64,k67,k68,k69,k70⟩
  refine FW.seq (FW.region ?_)
  refine FL.v (E.lss k67 k70) ?_
  refine FL.nil (FW.seq ?_)
  refine FW.condF rfl zaK ?_
  refine FW.exit ?_
  exact ⟨nofun,rfl,⟨_,S63,i64,k68⟩⟩
 ·
  clear hq
  intro e f60 w59 hD
  rcases q22 with s22|x22
  ·
   obtain ⟨rfl,hD⟩:=hD
   obtain ⟨H56,S57,i58,k61⟩:=hD
   replace hp:=el_go hp
   refine FW.seq (FW.region ?_)
   refine FL.v (E.move k61) ?_
   refine FL.v (E.assign (v:=Value.int .i64 0) rfl) ?_
   refine FL.nil ?_
   refine FW.ret ?_
   obtain rfl:=Option.some.inj hp
   exact ⟨.inr rfl,res1 rfl rfl ⟨rfl,S57.back⟩⟩
  ·
   obtain ⟨he,hL⟩:=hD
   replace hp:=el_rt hp
   obtain rfl:=Option.some.inj hp
   subst he
   exact hL

theorem zeb {Ha:GH} {wa:World} (hs:Sl Ha wa) (a0:ByteArray) (a1:ByteArray) {r:Int} (hp:(PF.zby a0 a1)=some r) :
  Calls Tryz.prog 118 #[Value.string a0,Value.string a1] wa (Sc Ha wa (Value.int .i64 r)):=by
 unfold PF.zby at hp
 have S0:=St.init hs
 refine zaj (N:=15) (args:=[Value.string a0,Value.string a1]) Tryz.func118 rfl rfl rfl ?_
 refine FW.seq (FW.region ?_)
 refine FL.v (E.assign (v:=Value.int .i64 0) rfl) ?_
 refine FL.nil (FW.seq (FW.region ?_))
 refine FL.v (E.move (v:=Value.string a0) rfl) ?_
 refine FL.v (E.lenS Tryz.runUnderlying9 rfl) ?_
 refine FL.v (E.move (v:=Value.string a1) rfl) ?_
 refine FL.v (E.lenS Tryz.runUnderlying9 rfl) ?_
 refine FL.call rfl rfl rfl (E.call Tryz.call165 (A2 rfl rfl)) (w_cmp_Compare_int S0.sl (a0.size:Int) (a1.size:Int)) ?_
 rintro e w21 ⟨rfl,r22⟩
 refine ⟨_,rfl,?_⟩
 have S23:=S0.call r22
 refine FL.v (E.move (v:=Value.string a0) rfl) ?_
 refine FL.v (E.move (v:=Value.string a1) rfl) ?_
 refine FL.call rfl rfl rfl (E.call Tryz.call166 (A2 rfl rfl)) (w_strings_Compare S23.sl a0 a1) ?_
 rintro e w24 ⟨rfl,r25⟩
 refine ⟨_,rfl,?_⟩
 have S26:=S23.call r25
 obtain ⟨v27,w28,run29,S30,els31⟩:=S26.ints (P:=Tryz.prog) te82 (up wa.heap.size Ha) 2 [(PF.zbS (a0.size:Int) (a1.size:Int)),(PF.strings_Compare a0 a1)]
 refine FL.v (E.buildSlice (B2 rfl rfl) run29) ?_
 obtain ⟨H32,S33,i34,h35,nv36⟩:=S30.sealRowU (i:=0) (l':=[]) rfl els31 (by decide) rfl
 obtain ⟨r37,hr38,hp⟩:=bnd hp
 refine FL.call rfl rfl rfl (E.call Tryz.call164 (A1 rfl)) (w_cmp_Or_int S33.sl v27 [(PF.zbS (a0.size:Int) (a1.size:Int)),(PF.strings_Compare a0 a1)] (h35.mono upI) hr38) ?_
 rintro e w39 ⟨rfl,r40⟩
 refine ⟨_,rfl,?_⟩
 have r40:=Run.lend i34 S30.sl r40
 have S41:=S30.call r40
 refine FL.v (E.assign (v:=Value.int .i64 r37) rfl) ?_
 refine FL.nil ?_
 refine FW.ret ?_
 obtain rfl:=Option.some.inj hp
 exact ⟨.inr rfl,res1 rfl rfl ⟨rfl,S41.back⟩⟩

set_option maxHeartbeats 4000000 in
theorem w_impl_sideOk {Ha:GH} {wa:World} (hs:Sl Ha wa) (v0:Value) (a0:List ByteArray) (p0:RSl Ha eS 1 v0 a0) {r:Bool} (hp:(PF.zcr a0)=some r) :
  Calls Tryz.prog 167 #[v0] wa (Sc Ha wa (Value.bool r)):=by
 unfold PF.zcr at hp
 have S0:=St.init hs
 refine zaj (N:=33) (args:=[v0]) Tryz.func167 rfl rfl rfl ?_
 refine FW.seq (FW.region ?_)
 refine FL.v (E.assign (v:=Value.bool false) rfl) ?_
 refine FL.nil (FW.seq (FW.seq (FW.region ?_)))
 refine FL.v (E.move (v:=v0) rfl) ?_
 refine FL.v (E.lenP te22 rfl p0) ?_
 refine FL.v (E.move (v:=Value.int .i64 0) rfl) ?_
 refine FL.nil ?_
 obtain ⟨q22,hq,hp⟩:=bndR hp
 refine FW.block ?_
 refine FW.mono (FW.forL (S:=Unit) (X:=Bool) (fun (i22:Nat) (s22:Unit) f w=>∃ H:GH,St Ha wa H w []∧Inc Ha H∧f 7=Value.int .i64 ((i22:Nat):Int)∧f 0=v0∧f 5=v0∧f 6=Value.int .i64 (len a0)) (fun q e f w=>match q with|.go s22=>e=Exit.exit 0∧(∃ H:GH,St Ha wa H w []∧Inc Ha H∧f 0=v0)|.rt x=>((e=Exit.ret)∧(fun e f w=>(e=Exit.normal∨e=Exit.ret)∧∀ a,Fr (δ:=[]) 33 a f→∃ v,(results Tryz.f167 a.tmps).run Tryz.prog w=.ok v w∧(Sc Ha wa (Value.bool x)) (.returned v) w) e f w)) hq ⟨_,S0,(Inc.rfl _),rfl,rfl,rfl,rfl⟩ ?_ ?_) ?_
 ·
  clear hp hq
  rintro i22 y21 s22 fAC wAB ⟨HAy,SAz,iAA,kAD,kAE,kAF,kAG⟩ hx22 oCl hp
  refine FW.seq (FW.region ?_)
  refine FL.v (E.lssT kAD kAG (zaJ hx22)) ?_
  refine FL.nil (FW.seq ?_)
  refine FW.condT rfl rfl ?_
  refine FW.skip (FW.seq (FW.block (FW.seq (FW.region ?_))))
  refine FL.v (E.move kAD) ?_
  obtain ⟨pAH,csAI,ptAJ,lAK,atAL,relAM⟩:=p0.at (zaF hx22)
  obtain rfl:=eS_open relAM
  refine FL.v (E.indexAddr te22 kAF kAD ptAJ) ?_
  refine FL.v (E.load rfl (zar Tryz.isAgg9 ((atAL.mono iAA).now SAz.sl) rfl)) ?_
  refine FL.v (E.assign (v:=Value.int .i64 ((i22:Nat):Int)) rfl) ?_
  refine FL.v (E.assign (v:=Value.string y21) rfl) ?_
  refine FL.nil (FW.seq (FW.region ?_))
  refine FL.v (E.move (v:=Value.string y21) rfl) ?_
  obtain ⟨rAN,hrAO,hp⟩:=bnd hp
  refine FL.call rfl rfl rfl (E.call Tryz.call35 (A1 rfl)) (w_impl_IsFormula SAz.sl y21 hrAO) ?_
  rintro e wAP ⟨rfl,rAQ⟩
  refine ⟨_,rfl,?_⟩
  have SAR:=SAz.call rAQ
  refine FL.v (E.not rfl) ?_
  refine FL.v (E.move (v:=Value.bool (!rAN)) rfl) ?_
  obtain ⟨t193,hqtBv,hp⟩:=bnd hp
  refine FL.cut 13 (fun f w=>∃ H:GH,St Ha wa H w []∧Inc HAy H∧f 0=v0∧f 5=v0∧f 6=Value.int .i64 (len a0)∧f 7=Value.int .i64 ((i22:Nat):Int)∧f 28=Value.bool t193) ?_ ?_
  ·
   clear hp;have hp:=hqtBv;clear hqtBv
   rcases ifB hp with ⟨cBB,hp⟩|⟨cBB,hp⟩
   ·
    refine FL.skip (wF_no rfl rfl rfl cBB) rfl ?_
    refine FL.skip (wF_no rfl rfl rfl cBB) rfl ?_
    refine FL.skip (wF_no rfl rfl rfl cBB) rfl ?_
    refine FL.skip (zay rfl rfl rfl) rfl ?_
    refine FL.skip (zay rfl rfl rfl) rfl ?_
    refine FL.skip (zay rfl rfl rfl) rfl ?_
    refine FL.skip (zay rfl rfl rfl) rfl ?_
    refine FL.skip (zay rfl rfl rfl) rfl ?_
    refine FL.skip (zay rfl rfl rfl) rfl ?_
    refine FL.skip (zay rfl rfl rfl) rfl ?_
    refine FL.skip (zay rfl rfl rfl) rfl ?_
    refine FL.skip (wF_no rfl rfl rfl cBB) rfl ?_
    obtain rfl:=Option.some.inj hp
    refine FL.v (E.pickT rfl cBB rfl) ?_
    exact FL.nil ⟨rfl,_,SAR,(Inc.rfl _),kAE,kAF,kAG,kAD,rfl⟩
   ·
    refine FL.val (zab rfl rfl rfl cBB) rfl rfl (E.move (v:=Value.int .i64 ((i22:Nat):Int)) rfl) ?_
    refine FL.val (zab rfl rfl rfl cBB) rfl rfl (E.gtr rfl rfl) ?_
    refine FL.val (zab rfl rfl rfl cBB) rfl rfl (E.move (v:=Value.bool (decide (0 < ((i22:Nat):Int)))) rfl) ?_
    obtain ⟨t213,hqtBP,hp⟩:=bnd hp
    refine FL.cut 9 (fun f w=>∃ H:GH,St Ha wa H w []∧Inc HAy H∧f 0=v0∧f 5=v0∧f 6=Value.int .i64 (len a0)∧f 7=Value.int .i64 ((i22:Nat):Int)∧f 15=Value.bool (!rAN)∧f 27=Value.bool t213) ?_ ?_
    ·
     clear hp;have hp:=hqtBP;clear hqtBP
     rcases ifB hp with ⟨cBV,hp⟩|⟨cBV,hp⟩
     ·
      refine FL.val (zab rfl rfl rfl cBV) rfl rfl (E.move kAE) ?_
      refine FL.val (zab rfl rfl rfl cBV) rfl rfl (E.move (v:=Value.int .i64 ((i22:Nat):Int)) rfl) ?_
      refine FL.val (zab rfl rfl rfl cBV) rfl rfl (E.sub rfl rfl) ?_
      obtain ⟨xC2,hxC3,hp⟩:=bnd hp
      obtain ⟨pBW,csBX,ptBY,lBZ,atC0,relC1⟩:=p0.at hxC3
      obtain rfl:=eS_open relC1
      refine FL.val (zab rfl rfl rfl cBV) rfl rfl (E.indexAddr te22 rfl rfl ptBY) ?_
      refine FL.val (zab rfl rfl rfl cBV) rfl rfl (E.load rfl (zar Tryz.isAgg9 ((atC0.mono iAA).now SAR.sl) rfl)) ?_
      refine FL.val (zab rfl rfl rfl cBV) rfl rfl (E.move (v:=Value.string y21) rfl) ?_
      obtain ⟨rC4,hrC5,hp⟩:=bnd hp
      refine FL.call (zab rfl rfl rfl cBV) rfl rfl (E.call Tryz.call118 (A2 rfl rfl)) (zeb SAR.sl xC2 y21 hrC5) ?_
      rintro e wC6 ⟨rfl,rC7⟩
      refine ⟨_,rfl,?_⟩
      have SC8:=SAR.call rC7
      refine FL.val (zab rfl rfl rfl cBV) rfl rfl (E.geq rfl rfl) ?_
      obtain rfl:=Option.some.inj hp
      refine FL.val (zab rfl rfl rfl cBB) rfl rfl (E.pickT rfl cBV rfl) ?_
      exact FL.nil ⟨rfl,_,SC8,(Inc.rfl _),kAE,kAF,kAG,kAD,rfl,rfl⟩
     ·
      refine FL.skip (wF_no rfl rfl rfl cBV) rfl ?_
      refine FL.skip (wF_no rfl rfl rfl cBV) rfl ?_
      refine FL.skip (wF_no rfl rfl rfl cBV) rfl ?_
      refine FL.skip (wF_no rfl rfl rfl cBV) rfl ?_
      refine FL.skip (wF_no rfl rfl rfl cBV) rfl ?_
      refine FL.skip (wF_no rfl rfl rfl cBV) rfl ?_
      refine FL.skip (wF_no rfl rfl rfl cBV) rfl ?_
      refine FL.skip (wF_no rfl rfl rfl cBV) rfl ?_
      obtain rfl:=Option.some.inj hp
      refine FL.val (zab rfl rfl rfl cBB) rfl rfl (E.pickF rfl cBV rfl) ?_
      exact FL.nil ⟨rfl,_,SAR,(Inc.rfl _),kAE,kAF,kAG,kAD,rfl,rfl⟩
    rintro fBU wBT ⟨HBQ,SBR,iBS,kC9,kCa,kCb,kCc,kCd,kCe⟩
    obtain rfl:=Option.some.inj hp
    refine FL.v (E.pickF kCd cBB kCe) ?_
    exact FL.nil ⟨rfl,_,SBR,iBS,kC9,kCa,kCb,kCc,rfl⟩
  rintro fBA wBz ⟨HBw,SBx,iBy,kCf,kCg,kCh,kCi,kCj⟩
  refine FL.nil ?_
  rcases ifB hp with ⟨cCk,hp⟩|⟨cCk,hp⟩
  ·
   refine FW.condT kCj cCk ?_
   refine FW.seq (FW.region ?_)
   refine FL.v (E.assign (v:=Value.bool false) rfl) ?_
   refine FL.nil ?_
   refine FW.ret ?_
   obtain rfl:=Option.some.inj hp
   exact ⟨nofun,rfl,⟨.inr rfl,res1 rfl rfl ⟨rfl,SBx.back⟩⟩⟩
  ·
   refine FW.condF kCj cCk ?_
   refine FW.skip (FW.region ?_)
   refine FL.v (E.add kCi rfl) ?_
   refine FL.v (E.move (v:=Value.int .i64 (wr (((i22:Nat):Int) + 1))) rfl) ?_
   refine FL.nil ?_
   obtain rfl:=Option.some.inj hp
   exact ⟨rfl,⟨_,SBx,(iAA.tr iBy),(zaA rfl (zat hx22) (p0.mono (iAA.tr iBy)).le),kCf,kCg,kCh⟩⟩
 ·
  clear hp hq
  rintro s22 fCw wCv ⟨HCs,SCt,iCu,kCx,kCy,kCz,kCA⟩
  refine FW.seq (FW.region ?_)
  refine FL.v (E.lss kCx kCA) ?_
  refine FL.nil (FW.seq ?_)
  refine FW.condF rfl zaK ?_
  refine FW.exit ?_
  exact ⟨nofun,rfl,⟨_,SCt,iCu,kCy⟩⟩
 ·
  clear hq
  intro e fCq wCp hD
  rcases q22 with s22|x22
  ·
   obtain ⟨rfl,hD⟩:=hD
   obtain ⟨HCm,SCn,iCo,kCr⟩:=hD
   replace hp:=el_go hp
   refine FW.seq (FW.region ?_)
   refine FL.v (E.move kCr) ?_
   refine FL.v (E.lenP te22 rfl p0) ?_
   refine FL.v (E.leq rfl rfl) ?_
   refine FL.v (E.assign (v:=Value.bool (decide ((len a0)≤12))) rfl) ?_
   refine FL.nil ?_
   refine FW.ret ?_
   obtain rfl:=Option.some.inj hp
   exact ⟨.inr rfl,res1 rfl rfl ⟨rfl,SCn.back⟩⟩
  ·
   obtain ⟨he,hL⟩:=hD
   replace hp:=el_rt hp
   obtain rfl:=Option.some.inj hp
   subst he
   exact hL

theorem zbh {Ha:GH} {wa:World} (hs:Sl Ha wa) (a0:zad) (v0_0:Value) (p0_0:RSl Ha eS 1 v0_0 a0.left) (v0_1:Value) (p0_1:RSl Ha eS 1 v0_1 a0.right) {r:Bool} (hp:(PF.zaQ a0)=some r) :
  Calls Tryz.prog 120 #[Value.agg #[v0_0,v0_1]] wa (Sc Ha wa (Value.bool r)):=by
 unfold PF.zaQ at hp
 have S0:=St.init hs
 refine zaj (N:=11) (args:=[Value.agg #[v0_0,v0_1]]) Tryz.func120 rfl rfl rfl ?_
 refine FW.seq (FW.region ?_)
 obtain ⟨b21,w22,run23,S24⟩:=S0.box (P:=Tryz.prog) 68 [v0_0,v0_1] (v:=Value.agg #[v0_0,v0_1]) rfl (zaa p0_0.one (zaa p0_1.one zag))
 refine FL.v (E.box rfl run23) ?_
 obtain ⟨H25,S26,i27,at28⟩:=S24.sealBox (i:=0) (l':=[]) rfl rfl
 refine FL.v (E.assign (v:=Value.bool false) rfl) ?_
 refine FL.nil (FW.seq (FW.region ?_))
 refine FL.v (E.fieldAddr zau rfl) ?_
 refine FL.v (E.load rfl (zaf Tryz.isAgg22 (at28.now S26.sl) rfl)) ?_
 obtain ⟨r29,hr30,hp⟩:=bnd hp
 refine FL.call rfl rfl rfl (E.call Tryz.call167 (A1 rfl)) (w_impl_sideOk S26.sl v0_0 a0.left (p0_0.mono i27) hr30) ?_
 rintro e w31 ⟨rfl,r32⟩
 refine ⟨_,rfl,?_⟩
 have S33:=S26.call r32
 refine FL.v (E.move (v:=Value.bool r29) rfl) ?_
 obtain ⟨t39,hqt39,hp⟩:=bnd hp
 refine FL.cut 4 (fun f w=>∃ H:GH,St Ha wa H w []∧Inc H25 H∧f 10=Value.bool t39) ?_ ?_
 ·
  clear hp;have hp:=hqt39;clear hqt39
  rcases ifB hp with ⟨c45,hp⟩|⟨c45,hp⟩
  ·
   refine FL.val (zab rfl rfl rfl c45) rfl rfl (E.fieldAddr zas rfl) ?_
   refine FL.val (zab rfl rfl rfl c45) rfl rfl (E.load rfl (zaf Tryz.isAgg22 (at28.now S33.sl) rfl)) ?_
   obtain ⟨r46,hr47,hp⟩:=bnd hp
   refine FL.call (zab rfl rfl rfl c45) rfl rfl (E.call Tryz.call167 (A1 rfl)) (w_impl_sideOk S33.sl v0_1 a0.right (p0_1.mono i27) hr47) ?_
   rintro e w48 ⟨rfl,r49⟩
   refine ⟨_,rfl,?_⟩
   have S50:=S33.call r49
   obtain rfl:=Option.some.inj hp
   refine FL.v (E.pickT rfl c45 rfl) ?_
   exact FL.nil ⟨rfl,_,S50,(Inc.rfl _),rfl⟩
  ·
   refine FL.skip (wF_no rfl rfl rfl c45) rfl ?_
   refine FL.skip (wF_no rfl rfl rfl c45) rfl ?_
   refine FL.skip (wF_no rfl rfl rfl c45) rfl ?_
   obtain rfl:=Option.some.inj hp
   refine FL.v (E.pickF rfl c45 rfl) ?_
   exact FL.nil ⟨rfl,_,S33,(Inc.rfl _),rfl⟩
 rintro f44 w43 ⟨H40,S41,i42,k51⟩
 refine FL.v (E.assign k51) ?_
 refine FL.nil ?_
 refine FW.ret ?_
 obtain rfl:=Option.some.inj hp
 exact ⟨.inr rfl,res1 rfl rfl ⟨rfl,S41.back⟩⟩

theorem zet {Ha:GH} {wa:World} (hs:Sl Ha wa) (v0:Value) (a0:List ByteArray) (p0:RSl Ha eS 1 v0 a0) (a1:ByteArray) {r:Int} (hp:(PF.zcZ a0 a1)=some r) :
  Calls Tryz.prog 239 #[v0,Value.string a1] wa (Sc Ha wa (Value.int .i64 r)):=by
 unfold PF.zcZ at hp
 have S0:=St.init hs
 refine zaj (N:=19) (args:=[v0,Value.string a1]) Tryz.func239 rfl rfl rfl ?_
 refine FW.seq (FW.region ?_)
 refine FL.v (E.assign (v:=Value.int .i64 0) rfl) ?_
 refine FL.nil (FW.seq (FW.seq (FW.region ?_)))
 refine FL.v (E.move (v:=v0) rfl) ?_
 refine FL.v (E.lenP te22 rfl p0) ?_
 refine FL.v (E.move (v:=Value.int .i64 0) rfl) ?_
 refine FL.nil ?_
 obtain ⟨q22,hq,hp⟩:=bndR hp
 refine FW.block ?_
 refine FW.mono (FW.forL (S:=Unit) (X:=Int) (fun (i22:Nat) (s22:Unit) f w=>∃ H:GH,St Ha wa H w []∧Inc Ha H∧f 8=Value.int .i64 ((i22:Nat):Int)∧f 0=v0∧f 1=Value.string a1∧f 7=Value.int .i64 (len a0)) (fun q e f w=>match q with|.go s22=>e=Exit.exit 0∧(∃ H:GH,St Ha wa H w []∧Inc Ha H)|.rt x=>((e=Exit.ret)∧(fun e f w=>(e=Exit.normal∨e=Exit.ret)∧∀ a,Fr (δ:=[]) 19 a f→∃ v,(results Tryz.f239 a.tmps).run Tryz.prog w=.ok v w∧(Sc Ha wa (Value.int .i64 x)) (.returned v) w) e f w)) hq ⟨_,S0,(Inc.rfl _),rfl,rfl,rfl,rfl⟩ ?_ ?_) ?_
 ·
  clear hp hq
  rintro i22 y21 s22 f43 w42 ⟨H39,S40,i41,k44,k45,k46,k47⟩ hx22 o55 hp
  refine FW.seq (FW.region ?_)
  refine FL.v (E.lssT k44 k47 (zaJ hx22)) ?_
  refine FL.nil (FW.seq ?_)
  refine FW.condT rfl rfl ?_
  refine FW.skip (FW.seq (FW.block (FW.seq (FW.region ?_))))
  refine FL.v (E.move k44) ?_
  refine FL.v (E.assign (v:=Value.int .i64 ((i22:Nat):Int)) rfl) ?_
  refine FL.nil (FW.seq (FW.region ?_))
  refine FL.v (E.move k46) ?_
  refine FL.v (E.move k45) ?_
  refine FL.v (E.move (v:=Value.int .i64 ((i22:Nat):Int)) rfl) ?_
  obtain ⟨p48,cs49,pt50,l51,at52,rel53⟩:=p0.at (zaF hx22)
  obtain rfl:=eS_open rel53
  refine FL.v (E.indexAddr te22 rfl rfl pt50) ?_
  refine FL.v (E.load rfl (zar Tryz.isAgg9 ((at52.mono i41).now S40.sl) rfl)) ?_
  refine FL.v (E.eqlS rfl rfl) ?_
  refine FL.nil ?_
  rcases ifB hp with ⟨c54,hp⟩|⟨c54,hp⟩
  ·
   refine FW.condT rfl c54 ?_
   refine FW.seq (FW.region ?_)
   refine FL.v (E.move (v:=Value.int .i64 ((i22:Nat):Int)) rfl) ?_
   refine FL.v (E.assign (v:=Value.int .i64 ((i22:Nat):Int)) rfl) ?_
   refine FL.nil ?_
   refine FW.ret ?_
   obtain rfl:=Option.some.inj hp
   exact ⟨nofun,rfl,⟨.inr rfl,res1 rfl rfl ⟨rfl,S40.back⟩⟩⟩
  ·
   refine FW.condF rfl c54 ?_
   refine FW.skip (FW.region ?_)
   refine FL.v (E.add k44 rfl) ?_
   refine FL.v (E.move (v:=Value.int .i64 (wr (((i22:Nat):Int) + 1))) rfl) ?_
   refine FL.nil ?_
   obtain rfl:=Option.some.inj hp
   exact ⟨rfl,⟨_,S40,i41,(zaA rfl (zat hx22) (p0.mono i41).le),k45,k46,k47⟩⟩
 ·
  clear hp hq
  rintro s22 f65 w64 ⟨H61,S62,i63,k66,k67,k68,k69⟩
  refine FW.seq (FW.region ?_)
  refine FL.v (E.lss k66 k69) ?_
  refine FL.nil (FW.seq ?_)
  refine FW.condF rfl zaK ?_
  refine FW.exit ?_
  exact ⟨nofun,rfl,⟨_,S62,i63⟩⟩
 ·
  clear hq
  intro e f60 w59 hD
  rcases q22 with s22|x22
  ·
   obtain ⟨rfl,hD⟩:=hD
   obtain ⟨H56,S57,i58⟩:=hD
   replace hp:=el_go hp
   refine FW.seq (FW.region ?_)
   refine FL.v (E.assign (v:=Value.int .i64 (-1)) rfl) ?_
   refine FL.nil ?_
   refine FW.ret ?_
   obtain rfl:=Option.some.inj hp
   exact ⟨.inr rfl,res1 rfl rfl ⟨rfl,S57.back⟩⟩
  ·
   obtain ⟨he,hL⟩:=hD
   replace hp:=el_rt hp
   obtain rfl:=Option.some.inj hp
   subst he
   exact hL

theorem zcE {Ha:GH} {wa:World} (hs:Sl Ha wa) (v0:Value) (a0:List ByteArray) (p0:RSl Ha eS 1 v0 a0) (a1:ByteArray) {r:Bool} (hp:(PF.zbo a0 a1)=some r) :
  Calls Tryz.prog 189 #[v0,Value.string a1] wa (Sc Ha wa (Value.bool r)):=by
 unfold PF.zbo at hp
 have S0:=St.init hs
 refine zaj (N:=9) (args:=[v0,Value.string a1]) Tryz.func189 rfl rfl rfl ?_
 refine FW.seq (FW.region ?_)
 refine FL.v (E.assign (v:=Value.bool false) rfl) ?_
 refine FL.nil (FW.seq (FW.region ?_))
 refine FL.v (E.move (v:=v0) rfl) ?_
 refine FL.v (E.move (v:=Value.string a1) rfl) ?_
 obtain ⟨r21,hr22,hp⟩:=bnd hp
 refine FL.call rfl rfl rfl (E.call Tryz.call239 (A2 rfl rfl)) (zet S0.sl v0 a0 p0 a1 hr22) ?_
 rintro e w23 ⟨rfl,r24⟩
 refine ⟨_,rfl,?_⟩
 have S25:=S0.call r24
 refine FL.v (E.geq rfl rfl) ?_
 refine FL.v (E.assign (v:=Value.bool (decide (0≤r21))) rfl) ?_
 refine FL.nil ?_
 refine FW.ret ?_
 obtain rfl:=Option.some.inj hp
 exact ⟨.inr rfl,res1 rfl rfl ⟨rfl,S25.back⟩⟩

theorem zec {Ha:GH} {wa:World} (hs:Sl Ha wa) (v0:Value) (a0:List ByteArray) (p0:RSl Ha eS 1 v0 a0) (v1:Value) (a1:ByteArray→Option Bool) (p1:zcD Tryz.prog Ha v1 a1) {r:Int} (hp:(PF.zcs a0 a1)=some r) :
  Calls Tryz.prog 212 #[v0,v1] wa (Sc Ha wa (Value.int .i64 r)):=by
 unfold PF.zcs at hp
 have S0:=St.init hs
 refine zaj (N:=19) (args:=[v0,v1]) Tryz.func212 rfl rfl rfl ?_
 refine FW.seq (FW.region ?_)
 refine FL.v (E.assign (v:=Value.int .i64 0) rfl) ?_
 refine FL.nil (FW.seq (FW.seq (FW.region ?_)))
 refine FL.v (E.move (v:=v0) rfl) ?_
 refine FL.v (E.lenP te22 rfl p0) ?_
 refine FL.v (E.move (v:=Value.int .i64 0) rfl) ?_
 refine FL.nil ?_
 obtain ⟨q22,hq,hp⟩:=bndR hp
 refine FW.block ?_
 refine FW.mono (FW.forL (S:=Unit) (X:=Int) (fun (i22:Nat) (s22:Unit) f w=>∃ H:GH,St Ha wa H w []∧Inc Ha H∧f 8=Value.int .i64 ((i22:Nat):Int)∧f 0=v0∧f 1=v1∧f 7=Value.int .i64 (len a0)) (fun q e f w=>match q with|.go s22=>e=Exit.exit 0∧(∃ H:GH,St Ha wa H w []∧Inc Ha H)|.rt x=>((e=Exit.ret)∧(fun e f w=>(e=Exit.normal∨e=Exit.ret)∧∀ a,Fr (δ:=[]) 19 a f→∃ v,(results Tryz.f212 a.tmps).run Tryz.prog w=.ok v w∧(Sc Ha wa (Value.int .i64 x)) (.returned v) w) e f w)) hq ⟨_,S0,(Inc.rfl _),rfl,rfl,rfl,rfl⟩ ?_ ?_) ?_
 ·
  clear hp hq
  rintro i22 y21 s22 f53 w52 ⟨H49,S50,i51,k54,k55,k56,k57⟩ hx22 o75 hp
  refine FW.seq (FW.region ?_)
  refine FL.v (E.lssT k54 k57 (zaJ hx22)) ?_
  refine FL.nil (FW.seq ?_)
  refine FW.condT rfl rfl ?_
  refine FW.skip (FW.seq (FW.block (FW.seq (FW.region ?_))))
  refine FL.v (E.move k54) ?_
  refine FL.v (E.assign (v:=Value.int .i64 ((i22:Nat):Int)) rfl) ?_
  refine FL.nil (FW.seq (FW.region ?_))
  refine FL.v (E.move k56) ?_
  refine FL.v (E.move k55) ?_
  refine FL.v (E.move (v:=Value.int .i64 ((i22:Nat):Int)) rfl) ?_
  obtain ⟨p58,cs59,pt60,l61,at62,rel63⟩:=p0.at (zaF hx22)
  obtain rfl:=eS_open rel63
  refine FL.v (E.indexAddr te22 rfl rfl pt60) ?_
  refine FL.v (E.load rfl (zar Tryz.isAgg9 ((at62.mono i51).now S50.sl) rfl)) ?_
  obtain ⟨r64,hr65,hp⟩:=bnd hp
  obtain ⟨fi69,cs70,hv71,he72,hc73⟩:=(p1.mono i51) H49 w52 (Inc.rfl _) S50.sl y21 r64 hr65
  refine FL.call rfl rfl rfl (E.callV he72 (Eq.trans rfl hv71) (appA (A1 rfl) cs70)) hc73 ?_
  rintro e w66 ⟨rfl,r67⟩
  refine ⟨_,rfl,?_⟩
  have S68:=S50.call r67
  refine FL.nil ?_
  rcases ifB hp with ⟨c74,hp⟩|⟨c74,hp⟩
  ·
   refine FW.condT rfl c74 ?_
   refine FW.seq (FW.region ?_)
   refine FL.v (E.move (v:=Value.int .i64 ((i22:Nat):Int)) rfl) ?_
   refine FL.v (E.assign (v:=Value.int .i64 ((i22:Nat):Int)) rfl) ?_
   refine FL.nil ?_
   refine FW.ret ?_
   obtain rfl:=Option.some.inj hp
   exact ⟨nofun,rfl,⟨.inr rfl,res1 rfl rfl ⟨rfl,S68.back⟩⟩⟩
  ·
   refine FW.condF rfl c74 ?_
   refine FW.skip (FW.region ?_)
   refine FL.v (E.add k54 rfl) ?_
   refine FL.v (E.move (v:=Value.int .i64 (wr (((i22:Nat):Int) + 1))) rfl) ?_
   refine FL.nil ?_
   obtain rfl:=Option.some.inj hp
   exact ⟨rfl,⟨_,S68,i51,(zaA rfl (zat hx22) (p0.mono i51).le),k55,k56,k57⟩⟩
 ·
  clear hp hq
  rintro s22 f85 w84 ⟨H81,S82,i83,k86,k87,k88,k89⟩
  refine FW.seq (FW.region ?_)
  refine FL.v (E.lss k86 k89) ?_
  refine FL.nil (FW.seq ?_)
  refine FW.condF rfl zaK ?_
  refine FW.exit ?_
  exact ⟨nofun,rfl,⟨_,S82,i83⟩⟩
 ·
  clear hq
  intro e f80 w79 hD
  rcases q22 with s22|x22
  ·
   obtain ⟨rfl,hD⟩:=hD
   obtain ⟨H76,S77,i78⟩:=hD
   replace hp:=el_go hp
   refine FW.seq (FW.region ?_)
   refine FL.v (E.assign (v:=Value.int .i64 (-1)) rfl) ?_
   refine FL.nil ?_
   refine FW.ret ?_
   obtain rfl:=Option.some.inj hp
   exact ⟨.inr rfl,res1 rfl rfl ⟨rfl,S77.back⟩⟩
  ·
   obtain ⟨he,hL⟩:=hD
   replace hp:=el_rt hp
   obtain rfl:=Option.some.inj hp
   subst he
   exact hL

theorem zed {Ha:GH} {wa:World} (hs:Sl Ha wa) (v0:Value) (a0:List ByteArray) (p0:RSl Ha eS 1 v0 a0) (v1:Value) (a1:ByteArray→Option Bool) (p1:zcD Tryz.prog Ha v1 a1) {r:Bool} (hp:(PF.zct a0 a1)=some r) :
  Calls Tryz.prog 187 #[v0,v1] wa (Sc Ha wa (Value.bool r)):=by
 unfold PF.zct at hp
 have S0:=St.init hs
 refine zaj (N:=9) (args:=[v0,v1]) Tryz.func187 rfl rfl rfl ?_
 refine FW.seq (FW.region ?_)
 refine FL.v (E.assign (v:=Value.bool false) rfl) ?_
 refine FL.nil (FW.seq (FW.region ?_))
 refine FL.v (E.move (v:=v0) rfl) ?_
 refine FL.v (E.move (v:=v1) rfl) ?_
 obtain ⟨r21,hr22,hp⟩:=bnd hp
 refine FL.call rfl rfl rfl (E.call Tryz.call212 (A2 rfl rfl)) (zec S0.sl v0 a0 p0 v1 a1 p1 hr22) ?_
 rintro e w23 ⟨rfl,r24⟩
 refine ⟨_,rfl,?_⟩
 have S25:=S0.call r24
 refine FL.v (E.geq rfl rfl) ?_
 refine FL.v (E.assign (v:=Value.bool (decide (0≤r21))) rfl) ?_
 refine FL.nil ?_
 refine FW.ret ?_
 obtain rfl:=Option.some.inj hp
 exact ⟨.inr rfl,res1 rfl rfl ⟨rfl,S25.back⟩⟩

theorem zeu {Ha:GH} {wa:World} (hs:Sl Ha wa) (a0:ByteArray) (q0:Addr) (b0:zad) (u0_0:Value) (g0_0:RSl Ha eS 1 u0_0 b0.left) (u0_1:Value) (g0_1:RSl Ha eS 1 u0_1 b0.right) (c0:CAt Ha q0 [u0_0,u0_1]) {r:Bool} (hp:(PF.zc0 a0 b0)=some r) :
  Calls Tryz.prog 190 #[Value.string a0,Value.pointer (some q0)] wa (Sc Ha wa (Value.bool r)):=by
 unfold PF.zc0 at hp
 have S0:=St.init hs
 refine zaj (N:=8) (args:=[Value.string a0,Value.pointer (some q0)]) Tryz.func190 rfl rfl rfl ?_
 refine FW.seq (FW.region ?_)
 refine FL.v (E.assign (v:=Value.bool false) rfl) ?_
 refine FL.nil (FW.seq (FW.region ?_))
 refine FL.v (E.fieldAddr zas rfl) ?_
 refine FL.v (E.load rfl (zaf Tryz.isAgg22 (c0.now S0.sl) rfl)) ?_
 refine FL.v (E.move (v:=Value.string a0) rfl) ?_
 obtain ⟨r21,hr22,hp⟩:=bnd hp
 refine FL.call rfl rfl rfl (E.call Tryz.call189 (A2 rfl rfl)) (zcE S0.sl u0_1 b0.right g0_1 a0 hr22) ?_
 rintro e w23 ⟨rfl,r24⟩
 refine ⟨_,rfl,?_⟩
 have S25:=S0.call r24
 refine FL.v (E.assign (v:=Value.bool r21) rfl) ?_
 refine FL.nil ?_
 refine FW.ret ?_
 obtain rfl:=Option.some.inj hp
 exact ⟨.inr rfl,res1 rfl rfl ⟨rfl,S25.back⟩⟩

theorem w_impl_isSeqAxiom {Ha:GH} {wa:World} (hs:Sl Ha wa) (a0:zad) (v0_0:Value) (p0_0:RSl Ha eS 1 v0_0 a0.left) (v0_1:Value) (p0_1:RSl Ha eS 1 v0_1 a0.right) {r:Bool} (hp:(PF.zcu a0)=some r) :
  Calls Tryz.prog 154 #[Value.agg #[v0_0,v0_1]] wa (Sc Ha wa (Value.bool r)):=by
 unfold PF.zcu at hp
 have S0:=St.init hs
 refine zaj (N:=17) (args:=[Value.agg #[v0_0,v0_1]]) Tryz.func154 rfl rfl rfl ?_
 refine FW.seq (FW.region ?_)
 obtain ⟨b21,w22,run23,S24⟩:=S0.box (P:=Tryz.prog) 68 [v0_0,v0_1] (v:=Value.agg #[v0_0,v0_1]) rfl (zaa p0_0.one (zaa p0_1.one zag))
 refine FL.v (E.box rfl run23) ?_
 obtain ⟨H25,S26,i27,at28⟩:=S24.sealBox (i:=0) (l':=[]) rfl rfl
 refine FL.v (E.assign (v:=Value.bool false) rfl) ?_
 refine FL.nil (FW.seq (FW.region ?_))
 refine FL.v (E.fieldAddr zau rfl) ?_
 refine FL.v (E.load rfl (zaf Tryz.isAgg22 (at28.now S26.sl) rfl)) ?_
 obtain ⟨r29,hr30,hp⟩:=bnd hp
 refine FL.call rfl rfl rfl (E.call Tryz.call189 (A2 rfl rfl)) (zcE S26.sl v0_0 a0.left (p0_0.mono i27) (ByteArray.mk #[48]) hr30) ?_
 rintro e w31 ⟨rfl,r32⟩
 refine ⟨_,rfl,?_⟩
 have S33:=S26.call r32
 refine FL.v (E.move (v:=Value.bool r29) rfl) ?_
 obtain ⟨t39,hqt39,hp⟩:=bnd hp
 refine FL.cut 4 (fun f w=>∃ H:GH,St Ha wa H w []∧Inc H25 H∧f 1=Value.pointer (some ⟨b21,0,none⟩)∧f 10=Value.bool t39) ?_ ?_
 ·
  clear hp;have hp:=hqt39;clear hqt39
  rcases ifB hp with ⟨c45,hp⟩|⟨c45,hp⟩
  ·
   refine FL.skip (wF_no rfl rfl rfl c45) rfl ?_
   refine FL.skip (wF_no rfl rfl rfl c45) rfl ?_
   refine FL.skip (wF_no rfl rfl rfl c45) rfl ?_
   obtain rfl:=Option.some.inj hp
   refine FL.v (E.pickT rfl c45 rfl) ?_
   exact FL.nil ⟨rfl,_,S33,(Inc.rfl _),rfl,rfl⟩
  ·
   refine FL.val (zab rfl rfl rfl c45) rfl rfl (E.fieldAddr zas rfl) ?_
   refine FL.val (zab rfl rfl rfl c45) rfl rfl (E.load rfl (zaf Tryz.isAgg22 (at28.now S33.sl) rfl)) ?_
   obtain ⟨r46,hr47,hp⟩:=bnd hp
   refine FL.call (zab rfl rfl rfl c45) rfl rfl (E.call Tryz.call189 (A2 rfl rfl)) (zcE S33.sl v0_1 a0.right (p0_1.mono i27) (ByteArray.mk #[49]) hr47) ?_
   rintro e w48 ⟨rfl,r49⟩
   refine ⟨_,rfl,?_⟩
   have S50:=S33.call r49
   obtain rfl:=Option.some.inj hp
   refine FL.v (E.pickF rfl c45 rfl) ?_
   exact FL.nil ⟨rfl,_,S50,(Inc.rfl _),rfl,rfl⟩
 rintro f44 w43 ⟨H40,S41,i42,k51,k52⟩
 refine FL.v (E.move k52) ?_
 obtain ⟨t58,hqt58,hp⟩:=bnd hp
 refine FL.cut 5 (fun f w=>∃ H:GH,St Ha wa H w []∧Inc H40 H∧f 16=Value.bool t58) ?_ ?_
 ·
  clear hp;have hp:=hqt58;clear hqt58
  rcases ifB hp with ⟨c64,hp⟩|⟨c64,hp⟩
  ·
   refine FL.skip (wF_no rfl rfl rfl c64) rfl ?_
   refine FL.skip (wF_no rfl rfl rfl c64) rfl ?_
   refine FL.skip (wF_no rfl rfl rfl c64) rfl ?_
   refine FL.skip (wF_no rfl rfl rfl c64) rfl ?_
   obtain rfl:=Option.some.inj hp
   refine FL.v (E.pickT rfl c64 rfl) ?_
   exact FL.nil ⟨rfl,_,S41,(Inc.rfl _),rfl⟩
  ·
   refine FL.val (zab rfl rfl rfl c64) rfl rfl (E.fieldAddr zau k51) ?_
   refine FL.val (zab rfl rfl rfl c64) rfl rfl (E.load rfl (zaf Tryz.isAgg22 ((at28.mono i42).now S41.sl) rfl)) ?_
   refine FL.val (zab rfl rfl rfl c64) rfl rfl (E.makeFunc A0 (A1 k51)) ?_
   obtain ⟨r65,hr66,hp⟩:=bnd hp
   refine FL.call (zab rfl rfl rfl c64) rfl rfl (E.call Tryz.call187 (A2 rfl rfl)) (zed S41.sl v0_0 a0.left (p0_0.mono (i27.tr i42)) (Value.func (.func 190) #[] #[Value.pointer (some ⟨b21,0,none⟩)]) (fun x0=>PF.zc0 x0 a0) (fun H2 w2 hi2 hs2 x0 r hr=>⟨190,#[Value.pointer (some ⟨b21,0,none⟩)],rfl,Tryz.call190,zeu hs2 x0 ⟨b21,0,none⟩ a0 v0_0 ((p0_0.mono (i27.tr i42)).mono hi2) v0_1 ((p0_1.mono (i27.tr i42)).mono hi2) ((at28.mono i42).mono hi2) hr⟩) hr66) ?_
   rintro e w67 ⟨rfl,r68⟩
   refine ⟨_,rfl,?_⟩
   have S69:=S41.call r68
   obtain rfl:=Option.some.inj hp
   refine FL.v (E.pickF rfl c64 rfl) ?_
   exact FL.nil ⟨rfl,_,S69,(Inc.rfl _),rfl⟩
 rintro f63 w62 ⟨H59,S60,i61,k70⟩
 refine FL.v (E.assign k70) ?_
 refine FL.nil ?_
 refine FW.ret ?_
 obtain rfl:=Option.some.inj hp
 exact ⟨.inr rfl,res1 rfl rfl ⟨rfl,S60.back⟩⟩

theorem zc7 {Ha:GH} {wa:World} (hs:Sl Ha wa) (a0:Int) (v1:Value) (a1:zad→Option Bool) (p1:zdp Tryz.prog Ha v1 a1) (q0:Addr) (b0:Int) (c0:CAt Ha q0 [Value.int .i64 b0]) (q1:Addr) (b1:List zac) (u1_0:Value) (g1_0:RSl Ha eSeqStep 6 u1_0 b1) (c1:CAt Ha q1 [u1_0]) {r:Bool} (hp:(PF.zbz a0 a1 b0 b1)=some r) :
  Calls Tryz.prog 194 #[Value.int .i64 a0,v1,Value.pointer (some q0),Value.pointer (some q1)] wa (Sc Ha wa (Value.bool r)):=by
 unfold PF.zbz at hp
 have S0:=St.init hs
 refine zaj (N:=28) (args:=[Value.int .i64 a0,v1,Value.pointer (some q0),Value.pointer (some q1)]) Tryz.func194 rfl rfl rfl ?_
 refine FW.seq (FW.region ?_)
 refine FL.v (E.assign (v:=Value.bool false) rfl) ?_
 refine FL.nil (FW.seq (FW.region ?_))
 refine FL.v (E.move (v:=Value.int .i64 a0) rfl) ?_
 refine FL.v (E.load rfl (zar Tryz.isAgg3 (c0.now S0.sl) rfl)) ?_
 refine FL.v (E.sub rfl rfl) ?_
 refine FL.call rfl rfl rfl (E.call Tryz.call91 (A3 rfl rfl rfl)) (w_impl_within S0.sl a0 0 (wr (b0 - 1))) ?_
 rintro e w21 ⟨rfl,r22⟩
 refine ⟨_,rfl,?_⟩
 have S23:=S0.call r22
 refine FL.v (E.move (v:=Value.bool (PF.zbG a0 0 (wr (b0 - 1)))) rfl) ?_
 obtain ⟨t41,hqt41,hp⟩:=bnd hp
 refine FL.cut 7 (fun f w=>∃ H:GH,St Ha wa H w []∧Inc Ha H∧f 0=Value.int .i64 a0∧f 1=v1∧f 3=Value.pointer (some q1)∧f 18=Value.bool t41) ?_ ?_
 ·
  clear hp;have hp:=hqt41;clear hqt41
  rcases ifB hp with ⟨c47,hp⟩|⟨c47,hp⟩
  ·
   refine FL.val (zab rfl rfl rfl c47) rfl rfl (E.load rfl (zar Tryz.isAgg24 (c1.now S23.sl) rfl)) ?_
   refine FL.val (zab rfl rfl rfl c47) rfl rfl (E.move (v:=Value.int .i64 a0) rfl) ?_
   obtain ⟨x54,hx55,hp⟩:=bnd hp
   obtain ⟨p48,cs49,pt50,l51,at52,rel53⟩:=g1_0.at hx55
   obtain ⟨v56,v58,rfl,h57,h59⟩:=zaD rel53
   refine FL.val (zab rfl rfl rfl c47) rfl rfl (E.indexAddr te24 rfl rfl pt50) ?_
   refine FL.val (zab rfl rfl rfl c47) rfl rfl (E.fieldAddr zap rfl) ?_
   refine FL.val (zab rfl rfl rfl c47) rfl rfl (E.load rfl (zao Tryz.isAgg68 Tryz.sizeOf68 ((at52.now S23.sl).sub (j:=0) (n:=2) (c:=[v56,v58]) rfl) rfl)) ?_
   obtain ⟨r60,hr61,hp⟩:=bnd hp
   refine FL.call (zab rfl rfl rfl c47) rfl rfl (E.call Tryz.call120 (A1 rfl)) (zbh S23.sl x54.seq v56 h57 v58 h59 hr61) ?_
   rintro e w62 ⟨rfl,r63⟩
   refine ⟨_,rfl,?_⟩
   have S64:=S23.call r63
   obtain rfl:=Option.some.inj hp
   refine FL.v (E.pickT rfl c47 rfl) ?_
   exact FL.nil ⟨rfl,_,S64,(Inc.rfl _),rfl,rfl,rfl,rfl⟩
  ·
   refine FL.skip (wF_no rfl rfl rfl c47) rfl ?_
   refine FL.skip (wF_no rfl rfl rfl c47) rfl ?_
   refine FL.skip (wF_no rfl rfl rfl c47) rfl ?_
   refine FL.skip (wF_no rfl rfl rfl c47) rfl ?_
   refine FL.skip (wF_no rfl rfl rfl c47) rfl ?_
   refine FL.skip (wF_no rfl rfl rfl c47) rfl ?_
   obtain rfl:=Option.some.inj hp
   refine FL.v (E.pickF rfl c47 rfl) ?_
   exact FL.nil ⟨rfl,_,S23,(Inc.rfl _),rfl,rfl,rfl,rfl⟩
 rintro f46 w45 ⟨H42,S43,i44,k65,k66,k67,k68⟩
 refine FL.v (E.move k68) ?_
 obtain ⟨t91,hqt91,hp⟩:=bnd hp
 refine FL.cut 8 (fun f w=>∃ H:GH,St Ha wa H w []∧Inc H42 H∧f 27=Value.bool t91) ?_ ?_
 ·
  clear hp;have hp:=hqt91;clear hqt91
  rcases ifB hp with ⟨c97,hp⟩|⟨c97,hp⟩
  ·
   refine FL.val (zab rfl rfl rfl c97) rfl rfl (E.move k66) ?_
   refine FL.val (zab rfl rfl rfl c97) rfl rfl (E.load k67 (zar Tryz.isAgg24 ((c1.mono i44).now S43.sl) rfl)) ?_
   refine FL.val (zab rfl rfl rfl c97) rfl rfl (E.move k65) ?_
   obtain ⟨xA4,hxA5,hp⟩:=bnd hp
   obtain ⟨p98,cs99,ptA0,lA1,atA2,relA3⟩:=g1_0.at hxA5
   obtain ⟨vA6,vA8,rfl,hA7,hA9⟩:=zaD relA3
   refine FL.val (zab rfl rfl rfl c97) rfl rfl (E.indexAddr te24 rfl rfl ptA0) ?_
   refine FL.val (zab rfl rfl rfl c97) rfl rfl (E.fieldAddr zap rfl) ?_
   refine FL.val (zab rfl rfl rfl c97) rfl rfl (E.load rfl (zao Tryz.isAgg68 Tryz.sizeOf68 (((atA2.mono i44).now S43.sl).sub (j:=0) (n:=2) (c:=[vA6,vA8]) rfl) rfl)) ?_
   obtain ⟨rAa,hrAb,hp⟩:=bnd hp
   obtain ⟨fi115,csAg,hv117,he118,hcAj⟩:=(p1.mono i44) H42 w45 (Inc.rfl _) S43.sl xA4.seq vA6 (hA7.mono i44) vA8 (hA9.mono i44) rAa hrAb
   refine FL.call (zab rfl rfl rfl c97) rfl rfl (E.callV he118 (Eq.trans rfl hv117) (appA (A1 rfl) csAg)) hcAj ?_
   rintro e wAc ⟨rfl,rAd⟩
   refine ⟨_,rfl,?_⟩
   have SAe:=S43.call rAd
   obtain rfl:=Option.some.inj hp
   refine FL.v (E.pickT rfl c97 rfl) ?_
   exact FL.nil ⟨rfl,_,SAe,(Inc.rfl _),rfl⟩
  ·
   refine FL.skip (wF_no rfl rfl rfl c97) rfl ?_
   refine FL.skip (wF_no rfl rfl rfl c97) rfl ?_
   refine FL.skip (wF_no rfl rfl rfl c97) rfl ?_
   refine FL.skip (wF_no rfl rfl rfl c97) rfl ?_
   refine FL.skip (wF_no rfl rfl rfl c97) rfl ?_
   refine FL.skip (wF_no rfl rfl rfl c97) rfl ?_
   refine FL.skip (wF_no rfl rfl rfl c97) rfl ?_
   obtain rfl:=Option.some.inj hp
   refine FL.v (E.pickF rfl c97 rfl) ?_
   exact FL.nil ⟨rfl,_,S43,(Inc.rfl _),rfl⟩
 rintro f96 w95 ⟨H92,S93,i94,kAk⟩
 refine FL.v (E.assign kAk) ?_
 refine FL.nil ?_
 refine FW.ret ?_
 obtain rfl:=Option.some.inj hp
 exact ⟨.inr rfl,res1 rfl rfl ⟨rfl,S93.back⟩⟩

theorem w_impl_contained_1 {Ha:GH} {wa:World} (hs:Sl Ha wa) (a0:ByteArray) (q0:Addr) (b0:List ByteArray) (u0_0:Value) (g0_0:RSl Ha eS 1 u0_0 b0) (c0:CAt Ha q0 [u0_0]) {r:Bool} (hp:(PF.zc1 a0 b0)=some r) :
  Calls Tryz.prog 241 #[Value.string a0,Value.pointer (some q0)] wa (Sc Ha wa (Value.bool r)):=by
 unfold PF.zc1 at hp
 have S0:=St.init hs
 refine zaj (N:=8) (args:=[Value.string a0,Value.pointer (some q0)]) Tryz.func241 rfl rfl rfl ?_
 refine FW.seq (FW.region ?_)
 refine FL.v (E.assign (v:=Value.bool false) rfl) ?_
 refine FL.nil (FW.seq (FW.region ?_))
 refine FL.v (E.load rfl (zar Tryz.isAgg22 (c0.now S0.sl) rfl)) ?_
 refine FL.v (E.move (v:=Value.string a0) rfl) ?_
 obtain ⟨r21,hr22,hp⟩:=bnd hp
 refine FL.call rfl rfl rfl (E.call Tryz.call189 (A2 rfl rfl)) (zcE S0.sl u0_0 b0 g0_0 a0 hr22) ?_
 rintro e w23 ⟨rfl,r24⟩
 refine ⟨_,rfl,?_⟩
 have S25:=S0.call r24
 refine FL.v (E.not rfl) ?_
 refine FL.v (E.assign (v:=Value.bool (!r21)) rfl) ?_
 refine FL.nil ?_
 refine FW.ret ?_
 obtain rfl:=Option.some.inj hp
 exact ⟨.inr rfl,res1 rfl rfl ⟨rfl,S25.back⟩⟩

theorem zee {Ha:GH} {wa:World} (hs:Sl Ha wa) (v0:Value) (a0:List ByteArray) (p0:RSl Ha eS 1 v0 a0) (v1:Value) (a1:List ByteArray) (p1:RSl Ha eS 1 v1 a1) {r:Bool} (hp:(PF.zcv a0 a1)=some r) :
  Calls Tryz.prog 199 #[v0,v1] wa (Sc Ha wa (Value.bool r)):=by
 unfold PF.zcv at hp
 have S0:=St.init hs
 refine zaj (N:=9) (args:=[v0,v1]) Tryz.func199 rfl rfl rfl ?_
 refine FW.seq (FW.region ?_)
 obtain ⟨b21,w22,run23,S24⟩:=S0.box (P:=Tryz.prog) 22 [v1] (v:=v1) p1.cells (zaa p1.one zag)
 refine FL.v (E.box rfl run23) ?_
 obtain ⟨H25,S26,i27,at28⟩:=S24.sealBox (i:=0) (l':=[]) rfl rfl
 refine FL.v (E.assign (v:=Value.bool false) rfl) ?_
 refine FL.nil (FW.seq (FW.region ?_))
 refine FL.v (E.move (v:=v0) rfl) ?_
 refine FL.v (E.makeFunc A0 (A1 rfl)) ?_
 obtain ⟨r29,hr30,hp⟩:=bnd hp
 refine FL.call rfl rfl rfl (E.call Tryz.call187 (A2 rfl rfl)) (zed S26.sl v0 a0 (p0.mono i27) (Value.func (.func 241) #[] #[Value.pointer (some ⟨b21,0,none⟩)]) (fun x0=>PF.zc1 x0 a1) (fun H2 w2 hi2 hs2 x0 r hr=>⟨241,#[Value.pointer (some ⟨b21,0,none⟩)],rfl,Tryz.call241,w_impl_contained_1 hs2 x0 ⟨b21,0,none⟩ a1 v1 ((p1.mono i27).mono hi2) (at28.mono hi2) hr⟩) hr30) ?_
 rintro e w31 ⟨rfl,r32⟩
 refine ⟨_,rfl,?_⟩
 have S33:=S26.call r32
 refine FL.v (E.not rfl) ?_
 refine FL.v (E.assign (v:=Value.bool (!r29)) rfl) ?_
 refine FL.nil ?_
 refine FW.ret ?_
 obtain rfl:=Option.some.inj hp
 exact ⟨.inr rfl,res1 rfl rfl ⟨rfl,S33.back⟩⟩

theorem zev {Ha:GH} {wa:World} (hs:Sl Ha wa) (a0:zad) (v0_0:Value) (p0_0:RSl Ha eS 1 v0_0 a0.left) (v0_1:Value) (p0_1:RSl Ha eS 1 v0_1 a0.right) (q0:Addr) (b0:zac) (u0_0:Value) (g0_0:RSl Ha eS 1 u0_0 b0.seq.left) (u0_1:Value) (g0_1:RSl Ha eS 1 u0_1 b0.seq.right) (c0:CAt Ha q0 [u0_0,u0_1,Value.int .i64 b0.rule,Value.string b0.main,Value.int .i64 b0.a,Value.int .i64 b0.b]) {r:Bool} (hp:(PF.zbT a0 b0)=some r) :
  Calls Tryz.prog 198 #[Value.agg #[v0_0,v0_1],Value.pointer (some q0)] wa (Sc Ha wa (Value.bool r)):=by
 unfold PF.zbT at hp
 have S0:=St.init hs
 refine zaj (N:=18) (args:=[Value.agg #[v0_0,v0_1],Value.pointer (some q0)]) Tryz.func198 rfl rfl rfl ?_
 refine FW.seq (FW.region ?_)
 obtain ⟨b21,w22,run23,S24⟩:=S0.box (P:=Tryz.prog) 68 [v0_0,v0_1] (v:=Value.agg #[v0_0,v0_1]) rfl (zaa p0_0.one (zaa p0_1.one zag))
 refine FL.v (E.box rfl run23) ?_
 obtain ⟨H25,S26,i27,at28⟩:=S24.sealBox (i:=0) (l':=[]) rfl rfl
 refine FL.v (E.assign (v:=Value.bool false) rfl) ?_
 refine FL.nil (FW.seq (FW.region ?_))
 refine FL.v (E.fieldAddr zau rfl) ?_
 refine FL.v (E.load rfl (zaf Tryz.isAgg22 (at28.now S26.sl) rfl)) ?_
 refine FL.v (E.fieldAddr zap rfl) ?_
 refine FL.v (E.fieldAddrN zau rfl rfl) ?_
 refine FL.v (E.load rfl (zaf Tryz.isAgg22 ((c0.mono i27).now S26.sl) rfl)) ?_
 obtain ⟨r29,hr30,hp⟩:=bnd hp
 refine FL.call rfl rfl rfl (E.call Tryz.call199 (A2 rfl rfl)) (zee S26.sl v0_0 a0.left (p0_0.mono i27) u0_0 b0.seq.left (g0_0.mono i27) hr30) ?_
 rintro e w31 ⟨rfl,r32⟩
 refine ⟨_,rfl,?_⟩
 have S33:=S26.call r32
 refine FL.v (E.move (v:=Value.bool r29) rfl) ?_
 obtain ⟨t39,hqt39,hp⟩:=bnd hp
 refine FL.cut 7 (fun f w=>∃ H:GH,St Ha wa H w []∧Inc H25 H∧f 17=Value.bool t39) ?_ ?_
 ·
  clear hp;have hp:=hqt39;clear hqt39
  rcases ifB hp with ⟨c45,hp⟩|⟨c45,hp⟩
  ·
   refine FL.val (zab rfl rfl rfl c45) rfl rfl (E.fieldAddr zas rfl) ?_
   refine FL.val (zab rfl rfl rfl c45) rfl rfl (E.load rfl (zaf Tryz.isAgg22 (at28.now S33.sl) rfl)) ?_
   refine FL.val (zab rfl rfl rfl c45) rfl rfl (E.fieldAddr zap rfl) ?_
   refine FL.val (zab rfl rfl rfl c45) rfl rfl (E.fieldAddrN zas rfl rfl) ?_
   refine FL.val (zab rfl rfl rfl c45) rfl rfl (E.load rfl (zaf Tryz.isAgg22 ((c0.mono i27).now S33.sl) rfl)) ?_
   obtain ⟨r46,hr47,hp⟩:=bnd hp
   refine FL.call (zab rfl rfl rfl c45) rfl rfl (E.call Tryz.call199 (A2 rfl rfl)) (zee S33.sl v0_1 a0.right (p0_1.mono i27) u0_1 b0.seq.right (g0_1.mono i27) hr47) ?_
   rintro e w48 ⟨rfl,r49⟩
   refine ⟨_,rfl,?_⟩
   have S50:=S33.call r49
   obtain rfl:=Option.some.inj hp
   refine FL.v (E.pickT rfl c45 rfl) ?_
   exact FL.nil ⟨rfl,_,S50,(Inc.rfl _),rfl⟩
  ·
   refine FL.skip (wF_no rfl rfl rfl c45) rfl ?_
   refine FL.skip (wF_no rfl rfl rfl c45) rfl ?_
   refine FL.skip (wF_no rfl rfl rfl c45) rfl ?_
   refine FL.skip (wF_no rfl rfl rfl c45) rfl ?_
   refine FL.skip (wF_no rfl rfl rfl c45) rfl ?_
   refine FL.skip (wF_no rfl rfl rfl c45) rfl ?_
   obtain rfl:=Option.some.inj hp
   refine FL.v (E.pickF rfl c45 rfl) ?_
   exact FL.nil ⟨rfl,_,S33,(Inc.rfl _),rfl⟩
 rintro f44 w43 ⟨H40,S41,i42,k51⟩
 refine FL.v (E.assign k51) ?_
 refine FL.nil ?_
 refine FW.ret ?_
 obtain rfl:=Option.some.inj hp
 exact ⟨.inr rfl,res1 rfl rfl ⟨rfl,S41.back⟩⟩

@[reducible] def zew (Ha:GH) (wa:World) (r:List ByteArray):Ending→World→Prop :=
 fun e w'=>∃ H':GH,∃ v0:Value,∃ n0:Nat,∃ c0:List Value,e=.returned (v0)∧St Ha wa H' w' [.row 9 1 v0 n0 c0]∧Els (up wa.heap.size H') eS 1 c0 r
theorem zex {Ha:GH} {wa:World} (hs:Sl Ha wa) (a1:Int) {r:List ByteArray} (hp:PF.zdj a1=some r) :
  Calls Tryz.prog 161 #[.slice none 0 0,.int .i64 a1] wa (zew Ha wa r):=by
 unfold PF.zdj at hp
 split at hp
 ·
  rename_i h
  cases hp
  refine (growNil (En:=eS) te22 hs h.1 h.2 (fun w=>Any8.slices_Grow_room (P:=Tryz.prog) Tryz.grow161 none 0 0 0 w (Nat.le_refl _) (by decide) (by decide) (by decide))
   (fun n w h0 hl=>?_)).mono ?_
  ·
   have h:=Any8.slices_Grow_grow (P:=Tryz.prog) Tryz.grow161 _ _ Tryz.type9 rfl (by decide) none 0 0 n [] w (Nat.le_refl _) (by omega) ?_ (by unfold lim at hl;omega) (by simp) (fun _=>rfl) (by simp)
   ·
    refine h.mono ?_
    rintro _ _ ⟨rfl,rfl⟩
    refine ⟨by simp;rfl,?_⟩
    simp
    rfl
   ·
    rw [Nat.zero_add];refine Nat.le_trans (Nat.mul_le_mul hl (show _≤4096 by decide)) (by decide)
  ·
   rintro e w' ⟨v,n,c,rfl,h1,h2⟩
   exact ⟨_,_,_,_,rfl,h1,h2 _⟩
 ·
  cases hp

@[reducible] def zey (Ha:GH) (wa:World) (r:(List ByteArray)):Ending→World→Prop :=
 fun e w'=>∃ H':GH,∃ v0:Value,∃ n0:Nat,∃ c0:List Value,e=.returned (v0)∧St Ha wa H' w' [.row 9 1 v0 n0 c0]∧Els (up wa.heap.size H') eS 1 c0 r
set_option maxHeartbeats 4000000 in
theorem zez {Ha:GH} {wa:World} (hs:Sl Ha wa) (v0:Value) (a0:List (List ByteArray)) (p0:RSl Ha (eL eS 1) 1 v0 a0) {r:(List ByteArray)} (hp:(PF.zc2 a0)=some r) :
  Calls Tryz.prog 116 #[v0] wa (zey Ha wa r):=by
 unfold PF.zc2 at hp
 have S0:=St.init hs
 refine zaj (N:=36) (args:=[v0]) Tryz.func116 rfl rfl rfl ?_
 refine FW.seq (FW.region ?_)
 refine FL.v (E.assign (v:=Value.slice none 0 0) rfl) ?_
 refine FL.nil (FW.seq (FW.region ?_))
 refine FL.v (E.assign (v:=Value.int .i64 0) rfl) ?_
 refine FL.nil (FW.seq (FW.seq (FW.region ?_)))
 refine FL.v (E.move (v:=v0) rfl) ?_
 refine FL.v (E.lenP te181 rfl p0) ?_
 refine FL.v (E.move (v:=Value.int .i64 0) rfl) ?_
 refine FL.nil ?_
 obtain ⟨q22,hq,hp⟩:=bndR hp
 refine FW.block ?_
 refine FW.mono (FW.forL (S:=Int) (X:=Empty) (fun (i22:Nat) (s22:Int) f w=>∃ H:GH,St Ha wa H w []∧Inc Ha H∧f 11=Value.int .i64 ((i22:Nat):Int)∧f 0=v0∧f 3=Value.int .i64 s22∧f 9=v0∧f 10=Value.int .i64 (len a0)) (fun (q:Rs Int Empty) e f w=>match q with|.go s22=>e=Exit.exit 0∧(∃ H:GH,St Ha wa H w []∧Inc Ha H∧f 0=v0∧f 3=Value.int .i64 s22)|.rt x=>x.elim) hq ⟨_,S0,(Inc.rfl _),rfl,rfl,rfl,rfl,rfl⟩ ?_ ?_) ?_
 ·
  clear hp hq
  rintro i22 y21 s22 f46 w45 ⟨H42,S43,i44,k47,k48,k49,k50,k51⟩ hx22 o61 hp
  refine FW.seq (FW.region ?_)
  refine FL.v (E.lssT k47 k51 (zaJ hx22)) ?_
  refine FL.nil (FW.seq ?_)
  refine FW.condT rfl rfl ?_
  refine FW.skip (FW.seq (FW.block (FW.seq (FW.region ?_))))
  obtain ⟨p52,cs53,pt54,l55,at56,rel57⟩:=p0.at (zaF hx22)
  obtain ⟨v58,rfl,h59⟩:=eL_open rel57
  refine FL.v (E.indexAddr te181 k50 k47 pt54) ?_
  refine FL.v (E.load rfl (zar Tryz.isAgg22 ((at56.mono i44).now S43.sl) rfl)) ?_
  refine FL.v (E.assign (v:=v58) rfl) ?_
  refine FL.nil (FW.seq (FW.region ?_))
  refine FL.v (E.move k49) ?_
  refine FL.v (E.move (v:=v58) rfl) ?_
  refine FL.v (E.lenP te22 rfl h59) ?_
  refine FL.v (E.add rfl rfl) ?_
  refine FL.v (E.assign (v:=Value.int .i64 (wr (s22 + (len y21)))) rfl) ?_
  refine FL.nil (FW.seq (FW.region ?_))
  refine FL.v (E.move (v:=Value.int .i64 (wr (s22 + (len y21)))) rfl) ?_
  refine FL.v (E.lss rfl rfl) ?_
  refine FL.nil ?_
  rcases ifB hp with ⟨c60,hp⟩|⟨c60,hp⟩
  ·
   refine FW.condT rfl c60 ?_
   cases hp
  ·
   refine FW.condF rfl c60 ?_
   refine FW.skip (FW.region ?_)
   refine FL.v (E.add k47 rfl) ?_
   refine FL.v (E.move (v:=Value.int .i64 (wr (((i22:Nat):Int) + 1))) rfl) ?_
   refine FL.nil ?_
   obtain rfl:=Option.some.inj hp
   exact ⟨rfl,⟨_,S43,i44,(zaA rfl (zat hx22) (p0.mono i44).le),k48,rfl,k50,k51⟩⟩
 ·
  clear hp hq
  rintro s22 fAX wAW ⟨HAT,SAU,iAV,kAY,kAZ,kB0,kB1,kB2⟩
  refine FW.seq (FW.region ?_)
  refine FL.v (E.lss kAY kB2) ?_
  refine FL.nil (FW.seq ?_)
  refine FW.condF rfl zaK ?_
  refine FW.exit ?_
  exact ⟨nofun,rfl,⟨_,SAU,iAV,kAZ,kB0⟩⟩
 ·
  clear hq
  intro e f66 w65 hD
  rcases q22 with s22|x22
  ·
   obtain ⟨rfl,hD⟩:=hD
   obtain ⟨H62,S63,i64,k67,k68⟩:=hD
   replace hp:=el_go hp
   refine FW.seq (FW.region ?_)
   refine FL.v (E.move k68) ?_
   obtain ⟨r69,hr70,hp⟩:=bnd hp
   refine FL.call rfl rfl rfl (E.call Tryz.call161 (A2 rfl rfl)) (zex S63.sl s22 hr70) ?_
   rintro e w72 ⟨H71,v75,n76,cs77,rfl,r74,els78⟩
   refine ⟨_,rfl,?_⟩
   have els78:=els78.mono (up_le S63.size)
   have S73:=S63.join (l':=[.row 9 1 v75 n76 cs77]) r74 rfl
   refine FL.v (E.assign (v:=v75) rfl) ?_
   refine FL.nil (FW.seq (FW.seq (FW.region ?_)))
   refine FL.v (E.move k67) ?_
   refine FL.v (E.lenP te181 rfl p0) ?_
   refine FL.v (E.move (v:=Value.int .i64 0) rfl) ?_
   refine FL.nil ?_
   obtain ⟨q80,hq,hp⟩:=bndR hp
   refine FW.block ?_
   refine FW.mono (FW.forL (S:=(List ByteArray)) (X:=Empty) (fun (i80:Nat) (s80:(List ByteArray)) f w=>∃ H:GH,∃ v81:Value,∃ n82:Nat,∃ cs83:List Value,St Ha wa H w [.row 9 1 v81 n82 cs83]∧Inc H71 H∧Els (up wa.heap.size H) eS 1 cs83 s80∧f 27=Value.int .i64 ((i80:Nat):Int)∧f 6=v81∧f 25=v0∧f 26=Value.int .i64 (len a0)) (fun (q:Rs (List ByteArray) Empty) e f w=>match q with|.go s80=>e=Exit.exit 2∧(∃ H:GH,∃ v81:Value,∃ n82:Nat,∃ cs83:List Value,St Ha wa H w [.row 9 1 v81 n82 cs83]∧Inc H71 H∧Els (up wa.heap.size H) eS 1 cs83 s80∧f 6=v81)|.rt x=>x.elim) hq ⟨_,_,_,_,S73,(Inc.rfl _),els78,rfl,rfl,rfl,rfl⟩ ?_ ?_) ?_
   ·
    clear hp hq
    rintro i80 y79 s80 fAg wAf ⟨HAc,v81,n82,cs83,SAd,iAe,els84,kAh,kAi,kAj,kAk⟩ hx80 oAD hp
    refine FW.seq (FW.region ?_)
    refine FL.v (E.lssT kAh kAk (zaJ hx80)) ?_
    refine FL.nil (FW.seq ?_)
    refine FW.condT rfl rfl ?_
    refine FW.skip (FW.seq (FW.block (FW.seq (FW.region ?_))))
    obtain ⟨pAl,csAm,ptAn,lAo,atAp,relAq⟩:=p0.at (zaF hx80)
    obtain ⟨vAr,rfl,hAs⟩:=eL_open relAq
    refine FL.v (E.indexAddr te181 kAj kAh ptAn) ?_
    refine FL.v (E.load rfl (zar Tryz.isAgg22 ((atAp.mono ((i64.tr r74.run.inc).tr iAe)).now SAd.sl) rfl)) ?_
    refine FL.v (E.assign (v:=vAr) rfl) ?_
    refine FL.nil (FW.region ?_)
    refine FL.v (E.move kAi) ?_
    refine FL.v (E.move (v:=vAr) rfl) ?_
    obtain ⟨xsAt,hzAu,hp⟩:=bnd hp
    obtain ⟨vAv,wAy,nAw,csAx,runAz,SAA,elsAB⟩:=SAd.appendP (P:=Tryz.prog) (Inc.rfl _) te22 (i:=0) rfl (els84.mono upI) (hAs.mono ((i64.tr r74.run.inc).tr iAe)) hzAu
    have SAA:St Ha wa HAc wAy [.row 9 1 vAv nAw csAx]:=SAA
    have elsAB:Els (up wa.heap.size HAc) eS 1 csAx xsAt:=elsAB.any (fun _ _ _ _ h=>h)
    refine FL.v (E.append rfl rfl runAz) ?_
    refine FL.v (E.assign (v:=vAv) rfl) ?_
    refine FL.nil (FW.region ?_)
    refine FL.v (E.add kAh rfl) ?_
    refine FL.v (E.move (v:=Value.int .i64 (wr (((i80:Nat):Int) + 1))) rfl) ?_
    refine FL.nil ?_
    obtain rfl:=Option.some.inj hp
    exact ⟨rfl,⟨_,_,_,_,SAA,iAe,elsAB,(zaA rfl (zat hx80) (p0.mono ((i64.tr r74.run.inc).tr iAe)).le),rfl,kAj,kAk⟩⟩
   ·
    clear hp hq
    rintro s80 fAO wAN ⟨HAK,v81,n82,cs83,SAL,iAM,els84,kAP,kAQ,kAR,kAS⟩
    refine FW.seq (FW.region ?_)
    refine FL.v (E.lss kAP kAS) ?_
    refine FL.nil (FW.seq ?_)
    refine FW.condF rfl zaK ?_
    refine FW.exit ?_
    exact ⟨nofun,rfl,⟨_,_,_,_,SAL,iAM,els84,kAQ⟩⟩
   ·
    clear hq
    intro e fAI wAH hD
    rcases q80 with s80|x80
    ·
     obtain ⟨rfl,hD⟩:=hD
     obtain ⟨HAE,v81,n82,cs83,SAF,iAG,els84,kAJ⟩:=hD
     replace hp:=el_go hp
     refine FW.seq (FW.region ?_)
     refine FL.v (E.move kAJ) ?_
     refine FL.v (E.assign (v:=v81) rfl) ?_
     refine FL.nil ?_
     refine FW.ret ?_
     obtain rfl:=Option.some.inj hp
     exact ⟨.inr rfl,res1 rfl rfl ⟨_,_,_,_,rfl,SAF,els84⟩⟩
    ·
     exact x80.elim
  ·
   exact x22.elim

@[reducible] def zeA (H0:GH) (w0:World) (Ha:GH) (L:List MO) (v0:Value) (n0:Nat) (r:(List ByteArray)):Ending→World→Prop :=
 fun e w'=>∃ H':GH,∃ c0k:List Value,e=.returned (Value.tuple #[])∧(St H0 w0 H' w' (.row 9 1 v0 n0 c0k::L)∧Inc Ha H')∧Els (up w0.heap.size H') eS 1 c0k r
theorem zeB {H0 Ha:GH} {w0 wa:World} {L:List MO} {v0:Value} {n0:Nat} {k0:List Value} (S0:St H0 w0 Ha wa (.row 9 1 v0 n0 k0::L)) (a0:List ByteArray) (p0:Els (up w0.heap.size Ha) eS 1 k0 a0) (v1:Value) (a1:ByteArray→ByteArray→Option Int) (p1:Fn_S_S_to_I Tryz.prog Ha v1 a1) {r:(List ByteArray)} (hp:(PF.zdk a0 a1)=some r) :
  Calls Tryz.prog 117 #[v0,v1] wa (zeA H0 w0 Ha L v0 n0 r):=by
 refine (St.sortF (l:=.row 9 1 v0 n0 k0::L) (i:=0) upI S0 rfl p0 (fun H2 w2 hi hs2 c x hc d y hd r hr=>by cases eS_open hc;cases eS_open hd;exact p1 H2 w2 hi hs2 x y r hr) (fun p cap fv w=>AnyF.slices_SortFunc_none (P:=Tryz.prog) (ρ:=Tryz.sort117_ren) { Tryz.sort117 with } p cap fv w) (fun α _ enc h1 cf hO g cb blk off cap d w eg hc hH hb hs=>Any.slices_SortFunc Tryz.sort117 enc h1 cf hO g cb blk off cap d w eg hc hH hb hs) hp).mono ?_
 rintro e w' ⟨rfl,c',h1,h2,hq⟩
 exact ⟨_,_,rfl,⟨h1,Inc.rfl _⟩,h2⟩

@[reducible] def zeC (H0:GH) (w0:World) (Ha:GH) (L:List MO) (r:(List ByteArray)):Ending→World→Prop :=
 fun e w'=>∃ H':GH,∃ v0r:Value,∃ n0r:Nat,∃ c0r:List Value,e=.returned (v0r)∧(St H0 w0 H' w' (.row 9 1 v0r n0r c0r::L)∧Inc Ha H')∧Els (up w0.heap.size H') eS 1 c0r r
theorem zeD {H0 Ha:GH} {w0 wa:World} {L:List MO} {v0:Value} {n0:Nat} {k0:List Value} (S0:St H0 w0 Ha wa (.row 9 1 v0 n0 k0::L)) (a0:List ByteArray) (p0:Els (up w0.heap.size Ha) eS 1 k0 a0) {r:(List ByteArray)} (hp:(PF.zdE a0)=some r) :
  Calls Tryz.prog 119 #[v0] wa (zeC H0 w0 Ha L r):=by
 cases hp
 refine (St.compactF (l:=.row 9 1 v0 n0 k0::L) (i:=0) S0 rfl p0 (enc:=Value.string) (fun _=>rfl) (fun _ _ _ h=>by cases eS_open h;rfl) (fun _ _=>rfl) ByteArray.empty (fun w=>compact_none Tryz.comp119 w) (fun blk off cap d w hH hs hc=>AnyE.slices_Compact Tryz.comp119 Value.string (fun _=>rfl) (EqlAt.stringD _ _) (NeqAt.stringD _ _) ByteArray.empty (fun w=>Tryz.zeroValue9 w) blk off cap d w hH hs hc)).mono ?_
 rintro e w' ⟨v',n',c',rfl,h1,h2⟩
 exact ⟨_,_,_,_,rfl,⟨h1,Inc.rfl _⟩,h2⟩

@[reducible] def p_impl_with (Ha:GH) (wa:World) (r:(List ByteArray)):Ending→World→Prop :=
 fun e w'=>∃ H':GH,∃ v0:Value,∃ n0:Nat,∃ c0:List Value,e=.returned (v0)∧St Ha wa H' w' [.row 9 1 v0 n0 c0]∧Els (up wa.heap.size H') eS 1 c0 r
theorem zaw {Ha:GH} {wa:World} (hs:Sl Ha wa) (v0:Value) (a0:List ByteArray) (p0:RSl Ha eS 1 v0 a0) (v1:Value) (a1:List ByteArray) (p1:RSl Ha eS 1 v1 a1) {r:(List ByteArray)} (hp:(PF.zaL a0 a1)=some r) :
  Calls Tryz.prog 68 #[v0,v1] wa (p_impl_with Ha wa r):=by
 unfold PF.zaL at hp
 have S0:=St.init hs
 refine zaj (N:=14) (args:=[v0,v1]) Tryz.func68 rfl rfl rfl ?_
 refine FW.seq (FW.region ?_)
 refine FL.v (E.assign (v:=Value.slice none 0 0) rfl) ?_
 refine FL.nil (FW.seq (FW.region ?_))
 refine FL.v (E.move (v:=v0) rfl) ?_
 refine FL.v (E.move (v:=v1) rfl) ?_
 obtain ⟨v21,w22,run23,S24⟩:=S0.buildSlice (P:=Tryz.prog) te181 [v0,v1] (parts:=#[(0,v0),(1,v1)]) (cells:=[v0,v1]) rfl (zan (cells_size p0.cells) (zan (cells_size p1.cells) zal)) (zam p0.cells (zam p1.cells zak)) (zaa p0.one (zaa p1.one zag)) (Nat.le_of_ble_eq_true rfl)
 have els25:Els Ha (eL eS 1) 1 [v0,v1] [a0,a1]:=(Els.snoc (H:=Ha) (E:=(eL eS 1)) (k:=1) (c:=[v1]) (x:=a1) (Els.snoc (H:=Ha) (E:=(eL eS 1)) (k:=1) (c:=[v0]) (x:=a0) Els.nil rfl ⟨_,rfl,p0⟩) rfl ⟨_,rfl,p1⟩)
 refine FL.v (E.buildSlice (B2 rfl rfl) run23) ?_
 obtain ⟨H26,S27,i28,h29⟩:=S24.sealRow (i:=0) (l':=[]) rfl els25 (by decide) rfl
 obtain ⟨r31,hr32,hp⟩:=bnd hp
 refine FL.call rfl rfl rfl (E.call Tryz.call116 (A1 rfl)) (zez S27.sl v21 [a0,a1] h29 hr32) ?_
 rintro e w34 ⟨H33,v39,n40,cs41,rfl,r36,els42⟩
 refine ⟨_,rfl,?_⟩
 obtain ⟨H37,r36,hU38⟩:=St.lendX i28 S24.sl r36
 have els42:=els42.mono (hU38.tr (up_le S24.size))
 have S35:=S24.join (l':=[.row 9 1 v39 n40 cs41,.row 22 1 v21 2 [v0,v1]]) r36 rfl
 refine FL.v (E.assign (v:=v39) rfl) ?_
 refine FL.nil (FW.seq (FW.region ?_))
 refine FL.v (E.move (v:=v39) rfl) ?_
 obtain ⟨r43,hr44,hp⟩:=bnd hp
 refine FL.call rfl rfl rfl (E.call Tryz.call117 (A2 rfl rfl)) (zeB (L:=[.row 22 1 v21 2 [v0,v1]]) S35 r31 els42 (Value.func (.func 118) #[] #[]) (fun x0 x1=>PF.zby x0 x1) (fun H2 w2 hi2 hs2 x0 x1 r hr=>⟨118,#[],rfl,Tryz.call118,zeb hs2 x0 x1  hr⟩) hr44) ?_
 rintro e w46 ⟨H45,cs49,rfl,⟨S47,i48⟩,els50⟩
 refine ⟨_,rfl,?_⟩
 have S47:St Ha wa H45 w46 [.row 9 1 v39 n40 cs49,.row 22 1 v21 2 [v0,v1]]:=S47
 refine FL.nil (FW.seq (FW.region ?_))
 refine FL.v (E.move (v:=v39) rfl) ?_
 obtain ⟨r51,hr52,hp⟩:=bnd hp
 refine FL.call rfl rfl rfl (E.call Tryz.call119 (A1 rfl)) (zeD (L:=[.row 22 1 v21 2 [v0,v1]]) S47 r43 els50 hr52) ?_
 rintro e w54 ⟨H53,v57,n58,cs59,rfl,⟨S55,i56⟩,els60⟩
 refine ⟨_,rfl,?_⟩
 have S55:St Ha wa H53 w54 [.row 9 1 v57 n58 cs59,.row 22 1 v21 2 [v0,v1]]:=S55
 refine FL.v (E.assign (v:=v57) rfl) ?_
 refine FL.nil ?_
 refine FW.ret ?_
 obtain rfl:=Option.some.inj hp
 exact ⟨.inr rfl,res1 rfl rfl ⟨_,_,_,_,rfl,(S55.sel [0] (by decide) rfl),els60⟩⟩

theorem zdu {Ha:GH} {wa:World} (hs:Sl Ha wa) (a0:zad) (v0_0:Value) (p0_0:RSl Ha eS 1 v0_0 a0.left) (v0_1:Value) (p0_1:RSl Ha eS 1 v0_1 a0.right) :
  Calls Tryz.prog 195 #[Value.agg #[v0_0,v0_1]] wa (fun e w'=>∃ H':GH,∃ q0_0:Addr,e=.returned (Value.func (.func 196) #[] #[Value.pointer (some q0_0)])∧Run wa.heap.size Ha wa H' w'∧CAt H' q0_0 [v0_0,v0_1]):=by
 obtain ⟨r,hp⟩:∃ r,(PF.zdZ a0)=r:=⟨_,rfl⟩
 unfold PF.zdZ at hp
 have S0:=St.init hs
 refine zaj (N:=4) (args:=[Value.agg #[v0_0,v0_1]]) Tryz.func195 rfl rfl rfl ?_
 refine FW.seq (FW.region ?_)
 obtain ⟨b21,w22,run23,S24⟩:=S0.box (P:=Tryz.prog) 68 [v0_0,v0_1] (v:=Value.agg #[v0_0,v0_1]) rfl (zaa p0_0.one (zaa p0_1.one zag))
 refine FL.v (E.box rfl run23) ?_
 obtain ⟨H25,S26,i27,at28⟩:=S24.sealBox (i:=0) (l':=[]) rfl rfl
 refine FL.v (E.assign (v:=Value.nilFunc) rfl) ?_
 refine FL.nil (FW.seq (FW.region ?_))
 refine FL.v (E.makeFunc A0 (A1 rfl)) ?_
 refine FL.v (E.assign (v:=Value.func (.func 196) #[] #[Value.pointer (some ⟨b21,0,none⟩)]) rfl) ?_
 refine FL.nil ?_
 refine FW.ret ?_
 obtain rfl:=hp
 exact ⟨.inr rfl,res1 (R:=fun e w'=>∃ H':GH,∃ q0_0:Addr,e=.returned (Value.func (.func 196) #[] #[Value.pointer (some q0_0)])∧Run wa.heap.size Ha wa H' w'∧CAt H' q0_0 [v0_0,v0_1]) rfl rfl ⟨_,_,rfl,S26.run,at28⟩⟩

set_option maxHeartbeats 4000000 in
theorem zdJ {Ha:GH} {wa:World} (hs:Sl Ha wa) (v0:Value) (a0:List ByteArray) (p0:RSl Ha eS 1 v0 a0) (v1:Value) (a1:List ByteArray) (p1:RSl Ha eS 1 v1 a1) {r:Bool} (hp:(PF.zb6 a0 a1)=some r) :
  Calls Tryz.prog 67 #[v0,v1] wa (Sc Ha wa (Value.bool r)):=by
 unfold PF.zb6 at hp
 have S0:=St.init hs
 refine zaj (N:=26) (args:=[v0,v1]) Tryz.func67 rfl rfl rfl ?_
 refine FW.seq (FW.region ?_)
 refine FL.v (E.assign (v:=Value.bool false) rfl) ?_
 refine FL.nil (FW.seq (FW.seq (FW.region ?_)))
 refine FL.v (E.move (v:=v0) rfl) ?_
 refine FL.v (E.lenP te22 rfl p0) ?_
 refine FL.v (E.move (v:=v1) rfl) ?_
 refine FL.v (E.lenP te22 rfl p1) ?_
 refine FL.v (E.neq rfl rfl) ?_
 refine FL.nil ?_
 rcases ifB hp with ⟨c21,hp⟩|⟨c21,hp⟩
 ·
  refine FW.condT rfl c21 ?_
  refine FW.seq (FW.region ?_)
  refine FL.v (E.assign (v:=Value.bool false) rfl) ?_
  refine FL.nil ?_
  refine FW.ret ?_
  obtain rfl:=Option.some.inj hp
  exact ⟨.inr rfl,res1 rfl rfl ⟨rfl,S0.back⟩⟩
 ·
  refine FW.condF rfl c21 ?_
  refine FW.skip (FW.seq (FW.seq (FW.region ?_)))
  refine FL.v (E.move (v:=v0) rfl) ?_
  refine FL.v (E.lenP te22 rfl p0) ?_
  refine FL.v (E.move (v:=Value.int .i64 0) rfl) ?_
  refine FL.nil ?_
  obtain ⟨q23,hq,hp⟩:=bndR hp
  refine FW.block ?_
  refine FW.mono (FW.forL (S:=Unit) (X:=Bool) (fun (i23:Nat) (s23:Unit) f w=>∃ H:GH,St Ha wa H w []∧Inc Ha H∧f 13=Value.int .i64 ((i23:Nat):Int)∧f 0=v0∧f 1=v1∧f 12=Value.int .i64 (len a0)) (fun q e f w=>match q with|.go s23=>e=Exit.exit 0∧(∃ H:GH,St Ha wa H w []∧Inc Ha H)|.rt x=>((e=Exit.ret)∧(fun e f w=>(e=Exit.normal∨e=Exit.ret)∧∀ a,Fr (δ:=[]) 26 a f→∃ v,(results Tryz.f67 a.tmps).run Tryz.prog w=.ok v w∧(Sc Ha wa (Value.bool x)) (.returned v) w) e f w)) hq ⟨_,S0,(Inc.rfl _),rfl,rfl,rfl,rfl⟩ ?_ ?_) ?_
  ·
   clear hp hq
   rintro i23 y22 s23 f56 w55 ⟨H52,S53,i54,k57,k58,k59,k60⟩ hx23 o80 hp
   refine FW.seq (FW.region ?_)
   refine FL.v (E.lssT k57 k60 (zaJ hx23)) ?_
   refine FL.nil (FW.seq ?_)
   refine FW.condT rfl rfl ?_
   refine FW.skip (FW.seq (FW.block (FW.seq (FW.region ?_))))
   refine FL.v (E.move k57) ?_
   refine FL.v (E.assign (v:=Value.int .i64 ((i23:Nat):Int)) rfl) ?_
   refine FL.nil (FW.seq ?_)
   refine FW.draw (fun w'=>Run w55.heap.size H52 w55 H52 w') (by kernel_rfl) (by kernel_rfl) (zaN S53.sl) ?_
   refine FD.val rfl rfl rfl (fun w' hw'=>(E.move k58)) ?_
   refine FD.val rfl rfl rfl (fun w' hw'=>(E.move (v:=Value.int .i64 ((i23:Nat):Int)) rfl)) ?_
   obtain ⟨p62,cs63,pt64,l65,at66,rel67⟩:=p0.at (zaF hx23)
   obtain rfl:=eS_open rel67
   refine FD.val rfl rfl rfl (fun w' hw'=>(E.indexAddr te22 rfl rfl pt64)) ?_
   refine FD.val rfl rfl rfl (fun w' hw'=>(E.load rfl (zar Tryz.isAgg9 ((at66.mono i54).now (S53.call hw').sl) rfl))) ?_
   refine FD.val rfl rfl rfl (fun w' hw'=>(E.move k59)) ?_
   refine FD.val rfl rfl rfl (fun w' hw'=>(E.move (v:=Value.int .i64 ((i23:Nat):Int)) rfl)) ?_
   obtain ⟨x74,hx75,hp⟩:=bnd hp
   obtain ⟨p68,cs69,pt70,l71,at72,rel73⟩:=p1.at hx75
   obtain rfl:=eS_open rel73
   refine FD.val rfl rfl rfl (fun w' hw'=>(E.indexAddr te22 rfl rfl pt70)) ?_
   refine FD.val rfl rfl rfl (fun w' hw'=>(E.load rfl (zar Tryz.isAgg9 ((at72.mono i54).now (S53.call hw').sl) rfl))) ?_
   refine FD.val rfl rfl rfl (fun w' hw'=>(E.neqS rfl rfl)) ?_
   refine FD.nil ?_
   intro w76 r78
   have S77:=S53.call r78
   rcases ifB hp with ⟨c79,hp⟩|⟨c79,hp⟩
   ·
    refine FW.condT rfl c79 ?_
    refine FW.seq (FW.region ?_)
    refine FL.v (E.assign (v:=Value.bool false) rfl) ?_
    refine FL.nil ?_
    refine FW.ret ?_
    obtain rfl:=Option.some.inj hp
    exact ⟨nofun,rfl,⟨.inr rfl,res1 rfl rfl ⟨rfl,S77.back⟩⟩⟩
   ·
    refine FW.condF rfl c79 ?_
    refine FW.skip (FW.region ?_)
    refine FL.v (E.add k57 rfl) ?_
    refine FL.v (E.move (v:=Value.int .i64 (wr (((i23:Nat):Int) + 1))) rfl) ?_
    refine FL.nil ?_
    obtain rfl:=Option.some.inj hp
    exact ⟨rfl,⟨_,S77,i54,(zaA rfl (zat hx23) (p0.mono i54).le),k58,k59,k60⟩⟩
  ·
   clear hp hq
   rintro s23 f90 w89 ⟨H86,S87,i88,k91,k92,k93,k94⟩
   refine FW.seq (FW.region ?_)
   refine FL.v (E.lss k91 k94) ?_
   refine FL.nil (FW.seq ?_)
   refine FW.condF rfl zaK ?_
   refine FW.exit ?_
   exact ⟨nofun,rfl,⟨_,S87,i88⟩⟩
  ·
   clear hq
   intro e f85 w84 hD
   rcases q23 with s23|x23
   ·
    obtain ⟨rfl,hD⟩:=hD
    obtain ⟨H81,S82,i83⟩:=hD
    replace hp:=el_go hp
    refine FW.seq (FW.region ?_)
    refine FL.v (E.assign (v:=Value.bool true) rfl) ?_
    refine FL.nil ?_
    refine FW.ret ?_
    obtain rfl:=Option.some.inj hp
    exact ⟨.inr rfl,res1 rfl rfl ⟨rfl,S82.back⟩⟩
   ·
    obtain ⟨he,hL⟩:=hD
    replace hp:=el_rt hp
    obtain rfl:=Option.some.inj hp
    subst he
    exact hL

theorem w_impl_sameSequent {Ha:GH} {wa:World} (hs:Sl Ha wa) (a0:zad) (v0_0:Value) (p0_0:RSl Ha eS 1 v0_0 a0.left) (v0_1:Value) (p0_1:RSl Ha eS 1 v0_1 a0.right) (a1:zad) (v1_0:Value) (p1_0:RSl Ha eS 1 v1_0 a1.left) (v1_1:Value) (p1_1:RSl Ha eS 1 v1_1 a1.right) {r:Bool} (hp:(PF.zcw a0 a1)=some r) :
  Calls Tryz.prog 197 #[Value.agg #[v0_0,v0_1],Value.agg #[v1_0,v1_1]] wa (Sc Ha wa (Value.bool r)):=by
 unfold PF.zcw at hp
 have S0:=St.init hs
 refine zaj (N:=17) (args:=[Value.agg #[v0_0,v0_1],Value.agg #[v1_0,v1_1]]) Tryz.func197 rfl rfl rfl ?_
 refine FW.seq (FW.region ?_)
 obtain ⟨b21,w22,run23,S24⟩:=S0.box (P:=Tryz.prog) 68 [v0_0,v0_1] (v:=Value.agg #[v0_0,v0_1]) rfl (zaa p0_0.one (zaa p0_1.one zag))
 refine FL.v (E.box rfl run23) ?_
 obtain ⟨H25,S26,i27,at28⟩:=S24.sealBox (i:=0) (l':=[]) rfl rfl
 obtain ⟨b29,w30,run31,S32⟩:=S26.box (P:=Tryz.prog) 68 [v1_0,v1_1] (v:=Value.agg #[v1_0,v1_1]) rfl (zaa p1_0.one (zaa p1_1.one zag))
 refine FL.v (E.box rfl run31) ?_
 obtain ⟨H33,S34,i35,at36⟩:=S32.sealBox (i:=0) (l':=[]) rfl rfl
 refine FL.v (E.assign (v:=Value.bool false) rfl) ?_
 refine FL.nil (FW.seq (FW.region ?_))
 refine FL.v (E.fieldAddr zau rfl) ?_
 refine FL.v (E.load rfl (zaf Tryz.isAgg22 ((at28.mono i35).now S34.sl) rfl)) ?_
 refine FL.v (E.fieldAddr zau rfl) ?_
 refine FL.v (E.load rfl (zaf Tryz.isAgg22 (at36.now S34.sl) rfl)) ?_
 obtain ⟨r37,hr38,hp⟩:=bnd hp
 refine FL.call rfl rfl rfl (E.call Tryz.call67 (A2 rfl rfl)) (zdJ S34.sl v0_0 a0.left (p0_0.mono (i27.tr i35)) v1_0 a1.left (p1_0.mono (i27.tr i35)) hr38) ?_
 rintro e w39 ⟨rfl,r40⟩
 refine ⟨_,rfl,?_⟩
 have S41:=S34.call r40
 refine FL.v (E.move (v:=Value.bool r37) rfl) ?_
 obtain ⟨t47,hqt47,hp⟩:=bnd hp
 refine FL.cut 6 (fun f w=>∃ H:GH,St Ha wa H w []∧Inc H33 H∧f 16=Value.bool t47) ?_ ?_
 ·
  clear hp;have hp:=hqt47;clear hqt47
  rcases ifB hp with ⟨c53,hp⟩|⟨c53,hp⟩
  ·
   refine FL.val (zab rfl rfl rfl c53) rfl rfl (E.fieldAddr zas rfl) ?_
   refine FL.val (zab rfl rfl rfl c53) rfl rfl (E.load rfl (zaf Tryz.isAgg22 ((at28.mono i35).now S41.sl) rfl)) ?_
   refine FL.val (zab rfl rfl rfl c53) rfl rfl (E.fieldAddr zas rfl) ?_
   refine FL.val (zab rfl rfl rfl c53) rfl rfl (E.load rfl (zaf Tryz.isAgg22 (at36.now S41.sl) rfl)) ?_
   obtain ⟨r54,hr55,hp⟩:=bnd hp
   refine FL.call (zab rfl rfl rfl c53) rfl rfl (E.call Tryz.call67 (A2 rfl rfl)) (zdJ S41.sl v0_1 a0.right (p0_1.mono (i27.tr i35)) v1_1 a1.right (p1_1.mono (i27.tr i35)) hr55) ?_
   rintro e w56 ⟨rfl,r57⟩
   refine ⟨_,rfl,?_⟩
   have S58:=S41.call r57
   obtain rfl:=Option.some.inj hp
   refine FL.v (E.pickT rfl c53 rfl) ?_
   exact FL.nil ⟨rfl,_,S58,(Inc.rfl _),rfl⟩
  ·
   refine FL.skip (wF_no rfl rfl rfl c53) rfl ?_
   refine FL.skip (wF_no rfl rfl rfl c53) rfl ?_
   refine FL.skip (wF_no rfl rfl rfl c53) rfl ?_
   refine FL.skip (wF_no rfl rfl rfl c53) rfl ?_
   refine FL.skip (wF_no rfl rfl rfl c53) rfl ?_
   obtain rfl:=Option.some.inj hp
   refine FL.v (E.pickF rfl c53 rfl) ?_
   exact FL.nil ⟨rfl,_,S41,(Inc.rfl _),rfl⟩
 rintro f52 w51 ⟨H48,S49,i50,k59⟩
 refine FL.v (E.assign k59) ?_
 refine FL.nil ?_
 refine FW.ret ?_
 obtain rfl:=Option.some.inj hp
 exact ⟨.inr rfl,res1 rfl rfl ⟨rfl,S49.back⟩⟩

theorem zdv {Ha:GH} {wa:World} (hs:Sl Ha wa) (a0:zad) (v0_0:Value) (p0_0:RSl Ha eS 1 v0_0 a0.left) (v0_1:Value) (p0_1:RSl Ha eS 1 v0_1 a0.right) (q0:Addr) (b0:zad) (u0_0:Value) (g0_0:RSl Ha eS 1 u0_0 b0.left) (u0_1:Value) (g0_1:RSl Ha eS 1 u0_1 b0.right) (c0:CAt Ha q0 [u0_0,u0_1]) {r:Bool} (hp:(PF.za5 a0 b0)=some r) :
  Calls Tryz.prog 196 #[Value.agg #[v0_0,v0_1],Value.pointer (some q0)] wa (Sc Ha wa (Value.bool r)):=by
 unfold PF.za5 at hp
 have S0:=St.init hs
 refine zaj (N:=7) (args:=[Value.agg #[v0_0,v0_1],Value.pointer (some q0)]) Tryz.func196 rfl rfl rfl ?_
 refine FW.seq (FW.region ?_)
 obtain ⟨b21,w22,run23,S24⟩:=S0.box (P:=Tryz.prog) 68 [v0_0,v0_1] (v:=Value.agg #[v0_0,v0_1]) rfl (zaa p0_0.one (zaa p0_1.one zag))
 refine FL.v (E.box rfl run23) ?_
 obtain ⟨H25,S26,i27,at28⟩:=S24.sealBox (i:=0) (l':=[]) rfl rfl
 refine FL.v (E.assign (v:=Value.bool false) rfl) ?_
 refine FL.nil (FW.seq (FW.region ?_))
 refine FL.v (E.load rfl (zao Tryz.isAgg68 Tryz.sizeOf68 ((c0.mono i27).now S26.sl) rfl)) ?_
 refine FL.v (E.load rfl (zao Tryz.isAgg68 Tryz.sizeOf68 (at28.now S26.sl) rfl)) ?_
 obtain ⟨r29,hr30,hp⟩:=bnd hp
 refine FL.call rfl rfl rfl (E.call Tryz.call197 (A2 rfl rfl)) (w_impl_sameSequent S26.sl b0 u0_0 (g0_0.mono i27) u0_1 (g0_1.mono i27) a0 v0_0 (p0_0.mono i27) v0_1 (p0_1.mono i27) hr30) ?_
 rintro e w31 ⟨rfl,r32⟩
 refine ⟨_,rfl,?_⟩
 have S33:=S26.call r32
 refine FL.v (E.assign (v:=Value.bool r29) rfl) ?_
 refine FL.nil ?_
 refine FW.ret ?_
 obtain rfl:=Option.some.inj hp
 exact ⟨.inr rfl,res1 rfl rfl ⟨rfl,S33.back⟩⟩

theorem zef {Ha:GH} {wa:World} (hs:Sl Ha wa) (a0:Int) (a1:Bool) :
  Calls Tryz.prog 191 #[Value.int .u8 a0,Value.bool a1] wa (Sc Ha wa (Value.int .i64 (PF.zbH a0 a1))):=by
 obtain ⟨r,hp⟩:∃ r,(PF.zbH a0 a1)=r:=⟨_,rfl⟩
 rw [hp]
 unfold PF.zbH at hp
 have S0:=St.init hs
 refine zaj (N:=24) (args:=[Value.int .u8 a0,Value.bool a1]) Tryz.func191 rfl rfl rfl ?_
 refine FW.seq (FW.region ?_)
 refine FL.v (E.assign (v:=Value.int .i64 0) rfl) ?_
 refine FL.nil (FW.seq (FW.region ?_))
 obtain ⟨b21,o22,w23,run24,S25,hm26⟩:=S0.makeMap (P:=Tryz.prog) (K:=Int) (V:=Int) 231 (Value.int .u8) (Value.int .i64)
 refine FL.v (E.makeMap run24) ?_
 obtain ⟨o27,w28,run29,S30,hm31⟩:=S25.mapPut (P:=Tryz.prog) (i:=0) rfl hm26 Tryz.runUnderlying231 (KeyNow.intk Tryz.runUnderlying5) 126 2
 have S30:St Ha wa Ha w28 [.raw b21 o27]:=S30
 refine FL.act rfl rfl (E.insert rfl rfl rfl run29) ?_
 obtain ⟨o32,w33,run34,S35,hm36⟩:=S30.mapPut (P:=Tryz.prog) (i:=0) rfl hm31 Tryz.runUnderlying231 (KeyNow.intk Tryz.runUnderlying5) 38 4
 have S35:St Ha wa Ha w33 [.raw b21 o32]:=S35
 refine FL.act rfl rfl (E.insert rfl rfl rfl run34) ?_
 obtain ⟨o37,w38,run39,S40,hm41⟩:=S35.mapPut (P:=Tryz.prog) (i:=0) rfl hm36 Tryz.runUnderlying231 (KeyNow.intk Tryz.runUnderlying5) 124 6
 have S40:St Ha wa Ha w38 [.raw b21 o37]:=S40
 refine FL.act rfl rfl (E.insert rfl rfl rfl run39) ?_
 obtain ⟨o42,w43,run44,S45,hm46⟩:=S40.mapPut (P:=Tryz.prog) (i:=0) rfl hm41 Tryz.runUnderlying231 (KeyNow.intk Tryz.runUnderlying5) 62 8
 have S45:St Ha wa Ha w43 [.raw b21 o42]:=S45
 refine FL.act rfl rfl (E.insert rfl rfl rfl run44) ?_
 refine FL.v (E.move (v:=Value.map (some b21)) rfl) ?_
 refine FL.v (E.assign (v:=Value.map (some b21)) rfl) ?_
 refine FL.nil (FW.seq (FW.region ?_))
 refine FL.v (E.move (v:=Value.map (some b21)) rfl) ?_
 refine FL.v (E.move (v:=Value.int .u8 a0) rfl) ?_
 refine FL.v (E.lookup rfl rfl (S45.mapGetOk (P:=Tryz.prog) (i:=0) rfl hm46 Tryz.runUnderlying231 (KeyNow.intk Tryz.runUnderlying5) (z:=0) Tryz.zeroValue3 a0)) ?_
 refine FL.v (E.move (v:=Value.tuple #[Value.int .i64 ((mget (mput (mput (mput (mput ([]:List (Int×Int)) 126 2) 38 4) 124 6) 62 8) a0).getD 0),Value.bool ((mget (mput (mput (mput (mput ([]:List (Int×Int)) 126 2) 38 4) 124 6) 62 8) a0).isSome)]) rfl) ?_
 refine FL.v (E.extract (i:=0) rfl rfl) ?_
 refine FL.v (E.extract (i:=1) rfl rfl) ?_
 refine FL.v (E.assign (v:=Value.int .i64 ((mget (mput (mput (mput (mput ([]:List (Int×Int)) 126 2) 38 4) 124 6) 62 8) a0).getD 0)) rfl) ?_
 refine FL.v (E.assign (v:=Value.bool ((mget (mput (mput (mput (mput ([]:List (Int×Int)) 126 2) 38 4) 124 6) 62 8) a0).isSome)) rfl) ?_
 refine FL.nil (FW.seq (FW.seq (FW.region ?_)))
 refine FL.v (E.move (v:=Value.bool ((mget (mput (mput (mput (mput ([]:List (Int×Int)) 126 2) 38 4) 124 6) 62 8) a0).isSome)) rfl) ?_
 refine FL.v (E.move (v:=Value.bool ((mget (mput (mput (mput (mput ([]:List (Int×Int)) 126 2) 38 4) 124 6) 62 8) a0).isSome)) rfl) ?_
 refine FL.cut 3 (fun f w=>∃ H:GH,St Ha wa H w [.raw b21 o42]∧Inc Ha H∧f 6=Value.int .i64 ((mget (mput (mput (mput (mput ([]:List (Int×Int)) 126 2) 38 4) 124 6) 62 8) a0).getD 0)∧f 20=Value.bool (bif (mget (mput (mput (mput (mput ([]:List (Int×Int)) 126 2) 38 4) 124 6) 62 8) a0).isSome then (!a1) else false)) ?_ ?_
 ·
  rcases bcase ((mget (mput (mput (mput (mput ([]:List (Int×Int)) 126 2) 38 4) 124 6) 62 8) a0).isSome) with c53|c53
  ·
   refine FL.val (zab rfl rfl rfl c53) rfl rfl (E.move (v:=Value.bool a1) rfl) ?_
   refine FL.val (zab rfl rfl rfl c53) rfl rfl (E.not rfl) ?_
   refine FL.v (E.pickT rfl c53 rfl) ?_
   exact FL.nil ⟨rfl,_,S45,(Inc.rfl _),rfl,(congrArg Value.bool (bifT c53).symm)⟩
  ·
   refine FL.skip (wF_no rfl rfl rfl c53) rfl ?_
   refine FL.skip (wF_no rfl rfl rfl c53) rfl ?_
   refine FL.v (E.pickF rfl c53 rfl) ?_
   exact FL.nil ⟨rfl,_,S45,(Inc.rfl _),rfl,(congrArg Value.bool (bifF c53).symm)⟩
 rintro f52 w51 ⟨H48,S49,i50,k54,k55⟩
 refine FL.nil ?_
 rcases ifT hp with ⟨c56,hp⟩|⟨c56,hp⟩
 ·
  refine FW.condT k55 c56 ?_
  refine FW.region ?_
  refine FL.v (E.move k54) ?_
  refine FL.v (E.add rfl rfl) ?_
  refine FL.v (E.assign (v:=Value.int .i64 (wr (((mget (mput (mput (mput (mput ([]:List (Int×Int)) 126 2) 38 4) 124 6) 62 8) a0).getD 0) + 1))) rfl) ?_
  refine FL.nil (FW.seq (FW.region ?_))
  refine FL.v (E.move (v:=Value.int .i64 (wr (((mget (mput (mput (mput (mput ([]:List (Int×Int)) 126 2) 38 4) 124 6) 62 8) a0).getD 0) + 1))) rfl) ?_
  refine FL.v (E.assign (v:=Value.int .i64 (wr (((mget (mput (mput (mput (mput ([]:List (Int×Int)) 126 2) 38 4) 124 6) 62 8) a0).getD 0) + 1))) rfl) ?_
  refine FL.nil ?_
  refine FW.ret ?_
  obtain rfl:=hp
  exact ⟨.inr rfl,res1 rfl rfl ⟨rfl,S49.back⟩⟩
 ·
  refine FW.condF k55 c56 ?_
  refine FW.skip (FW.seq (FW.region ?_))
  refine FL.v (E.move k54) ?_
  refine FL.v (E.assign (v:=Value.int .i64 ((mget (mput (mput (mput (mput ([]:List (Int×Int)) 126 2) 38 4) 124 6) 62 8) a0).getD 0)) rfl) ?_
  refine FL.nil ?_
  refine FW.ret ?_
  obtain rfl:=hp
  exact ⟨.inr rfl,res1 rfl rfl ⟨rfl,S49.back⟩⟩

@[reducible] def zeE (Ha:GH) (wa:World) (r:(List ByteArray)):Ending→World→Prop :=
 fun e w'=>∃ H':GH,∃ v0:Value,∃ n0:Nat,∃ c0:List Value,e=.returned (v0)∧St Ha wa H' w' [.row 9 1 v0 n0 c0]∧Els (up wa.heap.size H') eS 1 c0 r
theorem zdK {Ha:GH} {wa:World} (hs:Sl Ha wa) (v0:Value) (a0:List ByteArray) (p0:RSl Ha eS 1 v0 a0) {r:(List ByteArray)} (hp:(PF.zb7 a0)=some r) :
  Calls Tryz.prog 160 #[v0] wa (zeE Ha wa r):=by
 unfold PF.zb7 at hp
 have S0:=St.init hs
 refine zaj (N:=8) (args:=[v0]) Tryz.func160 rfl rfl rfl ?_
 refine FW.seq (FW.region ?_)
 refine FL.v (E.assign (v:=Value.slice none 0 0) rfl) ?_
 refine FL.nil (FW.seq (FW.seq (FW.region ?_)))
 refine FL.v (E.move (v:=v0) rfl) ?_
 obtain ⟨nb21,run22,hn23⟩:=RSl.nilTest te22 p0
 refine FL.v (run22 _ _ _ _ _ _ _ _ _ _ _ _ rfl rfl) ?_
 refine FL.nil ?_
 rcases bcase nb21 with c24|c24
 ·
  refine FW.condT (b:=nb21) rfl c24 ?_
  rw [hn23 c24,app_nil2] at hp
  refine FW.seq (FW.region ?_)
  refine FL.v (E.assign (v:=Value.slice none 0 0) rfl) ?_
  refine FL.nil ?_
  refine FW.ret ?_
  obtain rfl:=Option.some.inj hp
  exact ⟨.inr rfl,res1 rfl rfl ⟨_,_,_,_,rfl,(S0.nil 9 1),Els.nil⟩⟩
 ·
  refine FW.condF (b:=nb21) rfl c24 ?_
  refine FW.skip (FW.seq (FW.region ?_))
  obtain ⟨v25,w26,run27,S28⟩:=S0.buildSlice (P:=Tryz.prog) te22 [] (parts:=#[]) (cells:=[]) rfl zal zak zag (Nat.le_of_ble_eq_true rfl)
  have els29:Els (up wa.heap.size Ha) eS 1 [] []:=Els.nil
  refine FL.v (E.buildSlice (B0) run27) ?_
  refine FL.v (E.move (v:=v0) rfl) ?_
  obtain ⟨xs30,hz31,hp⟩:=bnd hp
  obtain ⟨v32,w35,n33,cs34,run36,S37,els38⟩:=S28.appendP (P:=Tryz.prog) (Inc.rfl _) te22 (i:=0) rfl (els29.mono upI) p0 hz31
  have S37:St Ha wa Ha w35 [.row 9 1 v32 n33 cs34]:=S37
  have els38:Els (up wa.heap.size Ha) eS 1 cs34 xs30:=els38.any (fun _ _ _ _ h=>h)
  refine FL.v (E.append rfl rfl run36) ?_
  refine FL.v (E.assign (v:=v32) rfl) ?_
  refine FL.nil ?_
  refine FW.ret ?_
  obtain rfl:=Option.some.inj hp
  exact ⟨.inr rfl,res1 rfl rfl ⟨_,_,_,_,rfl,S37,els38⟩⟩

@[reducible] def zeF (H0:GH) (w0:World) (Ha:GH) (L:List MO) (r:(List ByteArray)):Ending→World→Prop :=
 fun e w'=>∃ H':GH,∃ v0r:Value,∃ n0r:Nat,∃ c0r:List Value,e=.returned (v0r)∧(St H0 w0 H' w' (.row 9 1 v0r n0r c0r::L)∧Inc Ha H')∧Els (up w0.heap.size H') eS 1 c0r r
set_option maxHeartbeats 4000000 in
theorem zeG {H0 Ha:GH} {w0 wa:World} {L:List MO} {v0:Value} {n0:Nat} {k0:List Value} (S0:St H0 w0 Ha wa (.row 9 1 v0 n0 k0::L)) (a0:List ByteArray) (p0:Els (up w0.heap.size Ha) eS 1 k0 a0) (v1:Value) (a1:ByteArray→Option Bool) (p1:zcD Tryz.prog Ha v1 a1) {r:(List ByteArray)} (hp:(PF.zc3 a0 a1)=some r) :
  Calls Tryz.prog 168 #[v0,v1] wa (zeF H0 w0 Ha L r):=by
 unfold PF.zc3 at hp
 refine zaj (N:=42) (args:=[v0,v1]) Tryz.func168 rfl rfl rfl ?_
 refine FW.seq (FW.region ?_)
 refine FL.v (E.assign (v:=Value.slice none 0 0) rfl) ?_
 refine FL.nil (FW.seq (FW.region ?_))
 refine FL.v (E.move (v:=v0) rfl) ?_
 refine FL.v (E.move (v:=v1) rfl) ?_
 obtain ⟨H21,S22,i23,h24,nv25⟩:=S0.sealRowU (i:=0) (l':=L) rfl p0 (by decide) rfl
 obtain ⟨r26,hr27,hp⟩:=bnd hp
 refine FL.call rfl rfl rfl (E.call Tryz.call212 (A2 rfl rfl)) (zec S22.sl v0 a0 (h24.mono upI) v1 a1 (p1.mono i23) hr27) ?_
 rintro e w28 ⟨rfl,r29⟩
 refine ⟨_,rfl,?_⟩
 have r29:=Run.lend i23 S0.sl r29
 have S30:=S0.call r29
 refine FL.v (E.assign (v:=Value.int .i64 r26) rfl) ?_
 refine FL.nil (FW.seq (FW.seq (FW.region ?_)))
 refine FL.v (E.move (v:=Value.int .i64 r26) rfl) ?_
 refine FL.v (E.eql rfl rfl) ?_
 refine FL.nil ?_
 rcases ifB hp with ⟨c31,hp⟩|⟨c31,hp⟩
 ·
  refine FW.condT rfl c31 ?_
  refine FW.seq (FW.region ?_)
  refine FL.v (E.move (v:=v0) rfl) ?_
  refine FL.v (E.assign (v:=v0) rfl) ?_
  refine FL.nil ?_
  refine FW.ret ?_
  obtain rfl:=Option.some.inj hp
  exact ⟨.inr rfl,res1 rfl rfl ⟨_,_,_,_,rfl,⟨S30,(Inc.rfl _)⟩,p0⟩⟩
 ·
  refine FW.condF rfl c31 ?_
  refine FW.skip (FW.seq (FW.seq (FW.region ?_)))
  refine FL.v (E.move (v:=Value.int .i64 r26) rfl) ?_
  refine FL.v (E.add rfl rfl) ?_
  refine FL.v (E.assign (v:=Value.int .i64 (wr (r26 + 1))) rfl) ?_
  refine FL.nil ?_
  obtain ⟨q32,hq,hp⟩:=bndR hp
  refine FW.block ?_
  refine FW.mono (FW.iter (S:=((List ByteArray)×Int×Int)) (X:=Empty) (fun (s32:((List ByteArray)×Int×Int)) f w=>∃ H:GH,∃ cs78:List Value,St H0 w0 H w (.row 9 1 v0 n0 cs78::L)∧Inc Ha H∧Els (up w0.heap.size H) eS 1 cs78 s32.1∧f 0=v0∧f 1=v1∧f 5=Value.int .i64 s32.2.1∧f 6=Value.int .i64 s32.2.2) (fun (q:Rs ((List ByteArray)×Int×Int) Empty) e f w=>match q with|.go s32=>e=Exit.exit 0∧(∃ H:GH,∃ cs78:List Value,St H0 w0 H w (.row 9 1 v0 n0 cs78::L)∧Inc Ha H∧Els (up w0.heap.size H) eS 1 cs78 s32.1∧f 0=v0∧f 5=Value.int .i64 s32.2.1)|.rt x=>x.elim) hq ⟨_,_,S30,(Inc.rfl _),p0,rfl,rfl,rfl,rfl⟩ ?_) ?_
  ·
   clear hp hq
   rintro s32 fAt wAs ⟨HAp,cs78,SAq,iAr,els79,kAu,kAv,kAw,kAx⟩ oB8 hp
   refine FW.seq (FW.seq (FW.region ?_))
   refine FL.v (E.move kAx) ?_
   refine FL.v (E.move kAu) ?_
   refine FL.v (E.lenO te22 rfl SAq (i:=0) rfl els79 (by decide)) ?_
   refine FL.v (E.lss rfl rfl) ?_
   refine FL.nil ?_
   rcases ifB hp with ⟨cAy,hp⟩|⟨cAy,hp⟩
   ·
    refine FW.condT rfl cAy ?_
    refine FW.skip (FW.seq (FW.block (FW.seq (FW.region ?_))))
    refine FL.v (E.move kAu) ?_
    refine FL.v (E.move kAx) ?_
    obtain ⟨xAF,hxAG,hp⟩:=bnd hp
    obtain ⟨pAz,csAA,ptAB,lAC,atAD,relAE⟩:=SAq.row_at (i:=0) rfl els79 (by decide) hxAG
    obtain rfl:=eS_open relAE
    refine FL.v (E.indexAddr te22 rfl rfl ptAB) ?_
    refine FL.v (E.load rfl (zar Tryz.isAgg9 atAD rfl)) ?_
    refine FL.v (E.assign (v:=Value.string xAF) rfl) ?_
    refine FL.nil (FW.seq (FW.region ?_))
    refine FL.v (E.move kAv) ?_
    refine FL.v (E.move (v:=Value.string xAF) rfl) ?_
    obtain ⟨rAH,hrAI,hp⟩:=bnd hp
    obtain ⟨fi148,csAN,hv150,he151,hcAQ⟩:=(p1.mono iAr) HAp wAs (Inc.rfl _) SAq.sl xAF rAH hrAI
    refine FL.call rfl rfl rfl (E.callV he151 (Eq.trans rfl hv150) (appA (A1 rfl) csAN)) hcAQ ?_
    rintro e wAJ ⟨rfl,rAK⟩
    refine ⟨_,rfl,?_⟩
    have SAL:=SAq.call rAK
    refine FL.v (E.not rfl) ?_
    refine FL.nil ?_
    rcases ifB hp with ⟨cAR,hp⟩|⟨cAR,hp⟩
    ·
     refine FW.condT rfl cAR ?_
     refine FW.seq (FW.region ?_)
     refine FL.v (E.move kAu) ?_
     refine FL.v (E.move kAw) ?_
     refine FL.v (E.move (v:=Value.string xAF) rfl) ?_
     obtain ⟨xAY,hxAZ,hp⟩:=bnd hp
     obtain ⟨pAS,csAT,ptAU,lAV,atAW,relAX⟩:=SAL.row_at (i:=0) rfl els79 (by decide) hxAZ
     obtain rfl:=eS_open relAX
     refine FL.v (E.indexAddr te22 rfl rfl ptAU) ?_
     obtain ⟨xsB3,hputB4,hp⟩:=bnd hp
     obtain ⟨wB0,csB6,runB1,SB2,elsB5,ceB7⟩:=SAL.putEls (P:=Tryz.prog) (t:=9) (i:=0) rfl els79 hputB4 ptAU Tryz.sizeOf9 (u:=Value.string xAF) (c:=[Value.string xAF]) rfl rfl (zaa rfl zag) rfl
     have SB2:St H0 w0 HAp wB0 (.row 9 1 v0 n0 csB6::L):=SB2
     refine FL.act rfl rfl (E.store rfl rfl runB1) ?_
     refine FL.nil (FW.region ?_)
     refine FL.v (E.move kAw) ?_
     refine FL.v (E.add rfl rfl) ?_
     refine FL.v (E.assign (v:=Value.int .i64 (wr (s32.2.1 + 1))) rfl) ?_
     refine FL.nil (FW.region ?_)
     refine FL.v (E.move kAx) ?_
     refine FL.v (E.add rfl rfl) ?_
     refine FL.v (E.assign (v:=Value.int .i64 (wr (s32.2.2 + 1))) rfl) ?_
     refine FL.nil ?_
     obtain rfl:=Option.some.inj hp
     exact ⟨rfl,⟨_,_,SB2,iAr,elsB5,kAu,kAv,rfl,rfl⟩⟩
    ·
     refine FW.condF rfl cAR ?_
     refine FW.skip (FW.region ?_)
     refine FL.v (E.move kAx) ?_
     refine FL.v (E.add rfl rfl) ?_
     refine FL.v (E.assign (v:=Value.int .i64 (wr (s32.2.2 + 1))) rfl) ?_
     refine FL.nil ?_
     obtain rfl:=Option.some.inj hp
     exact ⟨rfl,⟨_,_,SAL,iAr,els79,kAu,kAv,kAw,rfl⟩⟩
   ·
    refine FW.condF rfl cAy ?_
    refine FW.exit ?_
    obtain rfl:=Option.some.inj hp
    exact ⟨nofun,rfl,⟨_,_,SAq,iAr,els79,kAu,kAw⟩⟩
  ·
   clear hq
   intro e fBd wBc hD
   rcases q32 with s32|x32
   ·
    obtain ⟨rfl,hD⟩:=hD
    obtain ⟨HB9,cs78,SBa,iBb,els79,kBe,kBf⟩:=hD
    replace hp:=el_go hp
    refine FW.seq (FW.region ?_)
    refine FL.v (E.move kBe) ?_
    refine FL.v (E.move kBf) ?_
    obtain ⟨xsBg,hcBh,hp⟩:=bnd hp
    obtain ⟨vBi,runBj,hBk⟩:=SBa.tail te22 (kk:=.i64) (i:=0) rfl els79 hcBh
    refine FL.v (E.slice te22 rfl (congrArg some rfl) rfl rfl (runBj _)) ?_
    obtain ⟨wBl,csBm,runBn,SBo,elsBp⟩:=SBa.clearTail (P:=Tryz.prog) te22 (i:=0) rfl els79 hBk rfl (zaa rfl zag)
    have SBo:St H0 w0 HB9 wBl (.row 9 1 v0 n0 csBm::L):=SBo
    refine FL.val0 rfl rfl (E.clear rfl runBn) ?_
    refine FL.nil (FW.seq (FW.region ?_))
    refine FL.v (E.move kBe) ?_
    refine FL.v (E.move kBf) ?_
    obtain ⟨xsBq,hcBr,hp⟩:=bnd hp
    obtain ⟨vBs,nBt,csBu,runBv,SBw,elsBx,ndBy⟩:=SBo.cutRow te22 (kk:=.i64) (i:=0) rfl elsBp hcBr
    have SBw:St H0 w0 HB9 wBl (.row 9 1 vBs nBt csBu::L):=SBw
    refine FL.v (E.slice te22 rfl rfl (congrArg some rfl) rfl (runBv _)) ?_
    refine FL.v (E.assign (v:=vBs) rfl) ?_
    refine FL.nil ?_
    refine FW.ret ?_
    obtain rfl:=Option.some.inj hp
    exact ⟨.inr rfl,res1 rfl rfl ⟨_,_,_,_,rfl,⟨SBw,iBb⟩,elsBx⟩⟩
   ·
    exact x32.elim

theorem w_impl_lacking_1 {Ha:GH} {wa:World} (hs:Sl Ha wa) (a0:ByteArray) (q0:Addr) (b0:ByteArray) (c0:CAt Ha q0 [Value.string b0]) :
  Calls Tryz.prog 169 #[Value.string a0,Value.pointer (some q0)] wa (Sc Ha wa (Value.bool (PF.zcx a0 b0))):=by
 obtain ⟨r,hp⟩:∃ r,(PF.zcx a0 b0)=r:=⟨_,rfl⟩
 rw [hp]
 unfold PF.zcx at hp
 have S0:=St.init hs
 refine zaj (N:=7) (args:=[Value.string a0,Value.pointer (some q0)]) Tryz.func169 rfl rfl rfl ?_
 refine FW.seq (FW.region ?_)
 refine FL.v (E.assign (v:=Value.bool false) rfl) ?_
 refine FL.nil (FW.seq (FW.region ?_))
 refine FL.v (E.load rfl (zar Tryz.isAgg9 (c0.now S0.sl) rfl)) ?_
 refine FL.v (E.move (v:=Value.string a0) rfl) ?_
 refine FL.v (E.eqlS rfl rfl) ?_
 refine FL.v (E.assign (v:=Value.bool (b0.toList == a0.toList)) rfl) ?_
 refine FL.nil ?_
 refine FW.ret ?_
 obtain rfl:=hp
 exact ⟨.inr rfl,res1 rfl rfl ⟨rfl,S0.back⟩⟩

@[reducible] def p_impl_lacking (Ha:GH) (wa:World) (r:(List ByteArray)):Ending→World→Prop :=
 fun e w'=>∃ H':GH,∃ v0:Value,∃ n0:Nat,∃ c0:List Value,e=.returned (v0)∧St Ha wa H' w' [.row 9 1 v0 n0 c0]∧Els (up wa.heap.size H') eS 1 c0 r
theorem zdL {Ha:GH} {wa:World} (hs:Sl Ha wa) (v0:Value) (a0:List ByteArray) (p0:RSl Ha eS 1 v0 a0) (a1:ByteArray) {r:(List ByteArray)} (hp:(PF.zb8 a0 a1)=some r) :
  Calls Tryz.prog 125 #[v0,Value.string a1] wa (p_impl_lacking Ha wa r):=by
 unfold PF.zb8 at hp
 have S0:=St.init hs
 refine zaj (N:=9) (args:=[v0,Value.string a1]) Tryz.func125 rfl rfl rfl ?_
 refine FW.seq (FW.region ?_)
 obtain ⟨b21,w22,run23,S24⟩:=S0.box (P:=Tryz.prog) 9 [Value.string a1] (v:=Value.string a1) rfl (zaa rfl zag)
 refine FL.v (E.box rfl run23) ?_
 obtain ⟨H25,S26,i27,at28⟩:=S24.sealBox (i:=0) (l':=[]) rfl rfl
 refine FL.v (E.assign (v:=Value.slice none 0 0) rfl) ?_
 refine FL.nil (FW.seq (FW.region ?_))
 refine FL.v (E.move (v:=v0) rfl) ?_
 obtain ⟨r29,hr30,hp⟩:=bnd hp
 refine FL.call rfl rfl rfl (E.call Tryz.call160 (A1 rfl)) (zdK S26.sl v0 a0 (p0.mono i27) hr30) ?_
 rintro e w32 ⟨H31,v35,n36,cs37,rfl,r34,els38⟩
 refine ⟨_,rfl,?_⟩
 have els38:=els38.mono (up_le S26.size)
 have S33:=S26.join (l':=[.row 9 1 v35 n36 cs37]) r34 rfl
 refine FL.v (E.makeFunc A0 (A1 rfl)) ?_
 obtain ⟨r39,hr40,hp⟩:=bnd hp
 refine FL.call rfl rfl rfl (E.call Tryz.call168 (A2 rfl rfl)) (zeG (L:=[]) S33 r29 els38 (Value.func (.func 169) #[] #[Value.pointer (some ⟨b21,0,none⟩)]) (fun x0=>some (PF.zcx x0 a1)) (fun H2 w2 hi2 hs2 x0 r hr=>⟨169,#[Value.pointer (some ⟨b21,0,none⟩)],rfl,Tryz.call169,by cases hr;exact w_impl_lacking_1 hs2 x0 ⟨b21,0,none⟩ a1 ((at28.mono r34.run.inc).mono hi2)⟩) hr40) ?_
 rintro e w42 ⟨H41,v45,n46,cs47,rfl,⟨S43,i44⟩,els48⟩
 refine ⟨_,rfl,?_⟩
 have S43:St Ha wa H41 w42 [.row 9 1 v45 n46 cs47]:=S43
 refine FL.v (E.assign (v:=v45) rfl) ?_
 refine FL.nil ?_
 refine FW.ret ?_
 obtain rfl:=Option.some.inj hp
 exact ⟨.inr rfl,res1 rfl rfl ⟨_,_,_,_,rfl,S43,els48⟩⟩

end Go.Proofs
