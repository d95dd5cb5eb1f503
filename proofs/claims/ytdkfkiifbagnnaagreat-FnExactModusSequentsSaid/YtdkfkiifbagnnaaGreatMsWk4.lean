/- Part of the walks and plain laws behind the claim: it proves helpers, under no condition beyond their own. -/
import Derived.Test.YtdkfkiifbagnnaaGreatMsWk3
set_option linter.unusedVariables false
set_option maxRecDepth 100000
namespace Go.Proofs
open Go.Mr Go.Pu Go.PF Go.RowKit

@[reducible] def zeM (H0:GH) (w0:World) (Ha:GH) (L:List MO) (b0:Nat) (r:(Int×za8)):Ending→World→Prop :=
 fun e w'=>∃ H':GH,∃ v0_0r:Value,∃ n0_0r:Nat,∃ c0_0r:List Value,e=.returned (Value.int .i64 r.1)∧(St H0 w0 H' w' (.box b0 92 [v0_0r,Value.bool r.2.bad]::.row 74 6 v0_0r n0_0r c0_0r::L)∧Inc Ha H')∧Els (up w0.heap.size H') eSeqStep 6 c0_0r r.2.steps∧(bl c0_0r).Nodup
set_option maxHeartbeats 4000000 in
theorem zeN {H0 Ha:GH} {w0 wa:World} {L:List MO} {a0:za8} {b0:Nat} {v0_0:Value} {n0_0:Nat} {k0_0:List Value} (S0:St H0 w0 Ha wa (.box b0 92 [v0_0,Value.bool a0.bad]::.row 74 6 v0_0 n0_0 k0_0::L)) (p0_0:Els (up w0.heap.size Ha) eSeqStep 6 k0_0 a0.steps) (d0_0:(bl k0_0).Nodup) (a1:Int) (a2:Int) {r:(Int×za8)} (hp:(PF.zc5 a0 a1 a2)=some r) :
  Calls Tryz.prog 76 #[Value.pointer (some (⟨b0,0,none⟩:Addr)),Value.int .i64 a1,Value.int .i64 a2] wa (zeM H0 w0 Ha L b0 r):=by
 unfold PF.zc5 at hp
 refine zaj (N:=147) (args:=[Value.pointer (some (⟨b0,0,none⟩:Addr)),Value.int .i64 a1,Value.int .i64 a2]) Tryz.func76 rfl rfl rfl ?_
 refine FW.seq (FW.region ?_)
 refine FL.v (E.assign (v:=Value.int .i64 0) rfl) ?_
 refine FL.nil (FW.seq ?_)
 refine FW.draw (fun w'=>Run wa.heap.size Ha wa Ha w') (by kernel_rfl) (by kernel_rfl) (zaN S0.sl) ?_
 refine FD.val rfl rfl rfl (fun w' hw'=>(E.move (v:=Value.pointer (some (⟨b0,0,none⟩:Addr))) rfl)) ?_
 refine FD.val rfl rfl rfl (fun w' hw'=>(E.nilCheck rfl)) ?_
 refine FD.val rfl rfl rfl (fun w' hw'=>(E.fieldAddr zav rfl)) ?_
 refine FD.val rfl rfl rfl (fun w' hw'=>(E.load rfl (zaf Tryz.isAgg24 ((S0.call hw').box_now (i:=0) rfl) rfl))) ?_
 refine FD.val rfl rfl rfl (fun w' hw'=>(E.move (v:=Value.int .i64 a1) rfl)) ?_
 obtain ⟨x28,hx29,hp⟩:=bnd hp
 obtain ⟨p22,cs23,pt24,l25,at26,rel27⟩:=S0.row_at (i:=1) rfl p0_0 (by decide) hx29
 obtain ⟨v30,v32,rfl,h31,h33⟩:=zaD rel27
 refine FD.val rfl rfl rfl (fun w' hw'=>(E.indexAddr te24 rfl rfl pt24)) ?_
 refine FD.val rfl rfl rfl (fun w' hw'=>(E.fieldAddr zap rfl)) ?_
 refine FD.val rfl rfl rfl (fun w' hw'=>(E.fieldAddrN zau rfl rfl)) ?_
 refine FD.val rfl rfl rfl (fun w' hw'=>(E.load rfl (zaf Tryz.isAgg22 (at26.cls hw') rfl))) ?_
 refine FD.val rfl rfl rfl (fun w' hw'=>(E.move (v:=Value.pointer (some (⟨b0,0,none⟩:Addr))) rfl)) ?_
 refine FD.val rfl rfl rfl (fun w' hw'=>(E.nilCheck rfl)) ?_
 refine FD.val rfl rfl rfl (fun w' hw'=>(E.fieldAddr zav rfl)) ?_
 refine FD.val rfl rfl rfl (fun w' hw'=>(E.load rfl (zaf Tryz.isAgg24 ((S0.call hw').box_now (i:=0) rfl) rfl))) ?_
 refine FD.val rfl rfl rfl (fun w' hw'=>(E.move (v:=Value.int .i64 a1) rfl)) ?_
 obtain ⟨x40,hx41,hp⟩:=bnd hp
 obtain ⟨p34,cs35,pt36,l37,at38,rel39⟩:=S0.row_at (i:=1) rfl p0_0 (by decide) hx41
 obtain ⟨v42,v44,rfl,h43,h45⟩:=zaD rel39
 refine FD.val rfl rfl rfl (fun w' hw'=>(E.indexAddr te24 rfl rfl pt36)) ?_
 refine FD.val rfl rfl rfl (fun w' hw'=>(E.fieldAddr zap rfl)) ?_
 refine FD.val rfl rfl rfl (fun w' hw'=>(E.fieldAddrN zas rfl rfl)) ?_
 refine FD.val rfl rfl rfl (fun w' hw'=>(E.load rfl (zaf Tryz.isAgg22 (at38.cls hw') rfl))) ?_
 refine FD.val rfl rfl rfl (fun w' hw'=>(E.move (v:=Value.pointer (some (⟨b0,0,none⟩:Addr))) rfl)) ?_
 refine FD.val rfl rfl rfl (fun w' hw'=>(E.nilCheck rfl)) ?_
 refine FD.val rfl rfl rfl (fun w' hw'=>(E.fieldAddr zav rfl)) ?_
 refine FD.val rfl rfl rfl (fun w' hw'=>(E.load rfl (zaf Tryz.isAgg24 ((S0.call hw').box_now (i:=0) rfl) rfl))) ?_
 refine FD.val rfl rfl rfl (fun w' hw'=>(E.move (v:=Value.int .i64 a2) rfl)) ?_
 obtain ⟨x52,hx53,hp⟩:=bnd hp
 obtain ⟨p46,cs47,pt48,l49,at50,rel51⟩:=S0.row_at (i:=1) rfl p0_0 (by decide) hx53
 obtain ⟨v54,v56,rfl,h55,h57⟩:=zaD rel51
 refine FD.val rfl rfl rfl (fun w' hw'=>(E.indexAddr te24 rfl rfl pt48)) ?_
 refine FD.val rfl rfl rfl (fun w' hw'=>(E.fieldAddr zap rfl)) ?_
 refine FD.val rfl rfl rfl (fun w' hw'=>(E.fieldAddrN zas rfl rfl)) ?_
 refine FD.val rfl rfl rfl (fun w' hw'=>(E.load rfl (zaf Tryz.isAgg22 (at50.cls hw') rfl))) ?_
 refine FD.val rfl rfl rfl (fun w' hw'=>(E.assign (v:=v30) rfl)) ?_
 refine FD.val rfl rfl rfl (fun w' hw'=>(E.assign (v:=v44) rfl)) ?_
 refine FD.val rfl rfl rfl (fun w' hw'=>(E.assign (v:=v56) rfl)) ?_
 refine FD.nil ?_
 intro w58 r60
 have S59:=S0.call r60
 refine FW.seq (FW.region ?_)
 refine FL.v (E.move (v:=v56) rfl) ?_
 obtain ⟨x67,hx68,hp⟩:=bnd hp
 obtain ⟨p61,cs62,pt63,l64,at65,rel66⟩:=h57.at hx68
 obtain rfl:=eS_open rel66
 refine FL.v (E.indexAddr te22 rfl rfl pt63) ?_
 refine FL.v (E.load rfl (zar Tryz.isAgg9 ((at65.mono upI).now S59.sl) rfl)) ?_
 obtain ⟨r69,hr70,hp⟩:=bnd hp
 refine FL.call rfl rfl rfl (E.call Tryz.call78 (A1 rfl)) (zdt S59.sl x67 hr70) ?_
 rintro e w72 ⟨H71,v75,rfl,r74,h76⟩
 refine ⟨_,rfl,?_⟩
 have S73:=S59.call r74
 refine FL.v (E.move (v:=Value.tuple #[v75,Value.bool r69.2]) rfl) ?_
 refine FL.v (E.extract (i:=0) rfl rfl) ?_
 refine FL.v (E.extract (i:=1) rfl rfl) ?_
 refine FL.v (E.assign (v:=v75) rfl) ?_
 refine FL.v (E.assign (v:=Value.bool r69.2) rfl) ?_
 refine FL.nil (FW.seq (FW.region ?_))
 refine FL.v (E.move (v:=v75) rfl) ?_
 obtain ⟨y77,hy78,hp⟩:=bnd hp
 obtain ⟨q79,v81,v82,rfl,at80,h83,h84⟩:=FAt.open h76 hy78
 refine FL.v (E.nilCheck rfl) ?_
 refine FL.v (E.fieldAddr tf109_2 rfl) ?_
 refine FL.v (E.load rfl (zaf Tryz.isAgg101 (at80.now S73.sl) rfl)) ?_
 obtain ⟨y85,hy86,hp⟩:=bnd hp
 obtain ⟨q87,v89,v90,rfl,at88,h91,h92⟩:=FAt.open h84 hy86
 refine FL.v (E.nilCheck rfl) ?_
 refine FL.v (E.fieldAddr zaM rfl) ?_
 refine FL.v (E.load rfl (zaf Tryz.isAgg9 (at88.now S73.sl) rfl)) ?_
 obtain ⟨v93,w94,run95,S96⟩:=S73.buildSlice (P:=Tryz.prog) te22 [Value.string y85.text] (parts:=#[(0,Value.string y85.text)]) (cells:=[Value.string y85.text]) rfl (zan rfl zal) (zam rfl zak) (zaa rfl zag) (Nat.le_of_ble_eq_true rfl)
 have els97:Els (up w0.heap.size H71) eS 1 [Value.string y85.text] [y85.text]:=(Els.snoc (H:=(up w0.heap.size H71)) (E:=eS) (k:=1) (c:=[Value.string y85.text]) (x:=y85.text) Els.nil rfl rfl)
 refine FL.v (E.buildSlice (B1 rfl) run95) ?_
 refine FL.v (E.assign (v:=v93) rfl) ?_
 refine FL.nil (FW.seq (FW.region ?_))
 refine FL.v (E.move (v:=v30) rfl) ?_
 refine FL.v (E.move (v:=v44) rfl) ?_
 obtain ⟨r98,hr99,hp⟩:=bnd hp
 refine FL.call rfl rfl rfl (E.call Tryz.call68 (A2 rfl rfl)) (zaw S96.sl v30 x28.seq.left (h31.mono (upI.tr r74.inc)) v44 x40.seq.right (h45.mono (upI.tr r74.inc)) hr99) ?_
 rintro e wA1 ⟨HA0,vA4,nA5,csA6,rfl,rA3,elsA7⟩
 refine ⟨_,rfl,?_⟩
 have elsA7:=elsA7.mono (up_le S96.size)
 have SA2:=S96.join (l':=(.row 9 1 vA4 nA5 csA6::.row 9 1 v93 1 [Value.string y85.text]::.box b0 92 [v0_0,Value.bool a0.bad]::.row 74 6 v0_0 n0_0 k0_0::L)) rA3 rfl
 refine FL.v (E.assign (v:=vA4) rfl) ?_
 refine FL.nil (FW.seq (FW.region ?_))
 refine FL.v (E.move (v:=vA4) rfl) ?_
 refine FL.v (E.move (v:=Value.pointer (some q79)) rfl) ?_
 refine FL.v (E.nilCheck rfl) ?_
 refine FL.v (E.fieldAddr zaM rfl) ?_
 refine FL.v (E.load rfl (zaf Tryz.isAgg9 ((at80.mono rA3.run.inc).now SA2.sl) rfl)) ?_
 obtain ⟨HA8,SA9,iAa,hAb,nvAc⟩:=SA2.sealRowU (i:=0) (l':=(.row 9 1 v93 1 [Value.string y85.text]::.box b0 92 [v0_0,Value.bool a0.bad]::.row 74 6 v0_0 n0_0 k0_0::L)) rfl elsA7 (by decide) rfl
 obtain ⟨rAd,hrAe,hp⟩:=bnd hp
 refine FL.call rfl rfl rfl (E.call Tryz.call125 (A2 rfl rfl)) (zdL SA9.sl vA4 r98 (hAb.mono upI) y77.text hrAe) ?_
 rintro e wAg ⟨HAf,vAl,nAm,csAn,rfl,rAi,elsAo⟩
 refine ⟨_,rfl,?_⟩
 obtain ⟨HAj,rAi,hU120⟩:=St.lendX iAa SA2.sl rAi
 have elsAo:=elsAo.mono (hU120.tr (up_le SA2.size))
 have SAh:=SA2.join (l':=(.row 9 1 vAl nAm csAn::.row 9 1 vA4 nA5 csA6::.row 9 1 v93 1 [Value.string y85.text]::.box b0 92 [v0_0,Value.bool a0.bad]::.row 74 6 v0_0 n0_0 k0_0::L)) rAi rfl
 refine FL.v (E.assign (v:=vAl) rfl) ?_
 refine FL.nil (FW.seq (FW.region ?_))
 refine FL.v (E.move (v:=Value.pointer (some (⟨b0,0,none⟩:Addr))) rfl) ?_
 refine FL.v (E.move (v:=v30) rfl) ?_
 refine FL.v (E.move (v:=v44) rfl) ?_
 refine FL.v (E.move (v:=v93) rfl) ?_
 obtain ⟨HAp,SAq,iAr,hAs,nvAt⟩:=SAh.sealRowU (i:=2) (l':=(.row 9 1 vAl nAm csAn::.row 9 1 vA4 nA5 csA6::.box b0 92 [v0_0,Value.bool a0.bad]::.row 74 6 v0_0 n0_0 k0_0::L)) rfl (els97.mono (zai (rA3.run.inc.tr rAi.run.inc))) (by decide) rfl
 obtain ⟨rAu,hrAv,hp⟩:=bnd hp
 refine FL.call rfl rfl rfl (E.call Tryz.call68 (A2 rfl rfl)) (zaw SAq.sl v44 x40.seq.right (h45.mono (upI.tr (((r74.inc.tr rA3.run.inc).tr rAi.run.inc).tr iAr))) v93 [y85.text] (hAs.mono upI) hrAv) ?_
 rintro e wAx ⟨HAw,vAC,nAD,csAE,rfl,rAz,elsAF⟩
 refine ⟨_,rfl,?_⟩
 obtain ⟨HAA,rAz,hU137⟩:=St.lendX iAr SAh.sl rAz
 have elsAF:=elsAF.mono (hU137.tr (up_le SAh.size))
 have SAy:=SAh.join (l':=(.row 9 1 vAC nAD csAE::.row 9 1 vAl nAm csAn::.row 9 1 vA4 nA5 csA6::.row 9 1 v93 1 [Value.string y85.text]::.box b0 92 [v0_0,Value.bool a0.bad]::.row 74 6 v0_0 n0_0 k0_0::L)) rAz rfl
 refine FL.v (E.build (B2 rfl rfl) (run_build _ 68 #[(0,v30),(1,vAC)] #[v30,vAC] (by obtain ⟨_,_,rfl⟩:=RSl.ln (h31.mono (upI.tr (((r74.inc.tr rA3.run.inc).tr rAi.run.inc).tr rAz.run.inc)));obtain ⟨_,_,rfl⟩:=SAy.row_ln (i:=0) rfl;rfl))) ?_
 refine FL.v (E.move (v:=Value.int .i64 a1) rfl) ?_
 refine FL.v (E.build (B3 rfl rfl rfl) (run_build _ 74 #[(0,Value.agg #[v30,vAC]),(1,Value.int .i64 10),(3,Value.int .i64 a1)] #[v30,vAC,Value.int .i64 10,Value.string ByteArray.empty,Value.int .i64 a1,Value.int .i64 0] (by obtain ⟨_,_,rfl⟩:=RSl.ln (h31.mono (upI.tr (((r74.inc.tr rA3.run.inc).tr rAi.run.inc).tr rAz.run.inc)));obtain ⟨_,_,rfl⟩:=SAy.row_ln (i:=0) rfl;rfl))) ?_
 obtain ⟨s21,hq21,hp⟩:=bnd hp
 obtain ⟨R21,hR21⟩:∃ R21:((List zac)×Bool×Int)→Ending→World→Prop,R21=(fun s21 e w=>∃ H:GH,∃ vAG:Value,∃ nAH:Nat,∃ csAI:List Value,e=Ending.returned (Value.int .i64 s21.2.2)∧St H0 w0 H w (.row 9 1 vAC nAD csAE::.row 9 1 vAl nAm csAn::.row 9 1 vA4 nA5 csA6::.row 9 1 v93 1 [Value.string y85.text]::.box b0 92 [vAG,Value.bool s21.2.1]::.row 74 6 vAG nAH csAI::L)∧Inc HAA H∧Els (up w0.heap.size H) eSeqStep 6 csAI s21.1∧(bl csAI).Nodup):=⟨_,rfl⟩
 have hc21:Calls Tryz.prog 70 #[Value.pointer (some (⟨b0,0,none⟩:Addr)),Value.agg #[v30,vAC,Value.int .i64 10,Value.string ByteArray.empty,Value.int .i64 a1,Value.int .i64 0]] wAx (R21 s21):=by
  clear hp;have hp:=hq21;clear hq21
  refine zaj (N:=46) (args:=[Value.pointer (some (⟨b0,0,none⟩:Addr)),Value.agg #[v30,vAC,Value.int .i64 10,Value.string ByteArray.empty,Value.int .i64 a1,Value.int .i64 0]]) Tryz.func70 rfl rfl rfl ?_
  refine FW.seq (FW.region ?_)
  obtain ⟨bAL,wAM,runAN,SAO⟩:=SAy.box (P:=Tryz.prog) 74 [v30,vAC,Value.int .i64 10,Value.string ByteArray.empty,Value.int .i64 a1,Value.int .i64 0] (v:=Value.agg #[v30,vAC,Value.int .i64 10,Value.string ByteArray.empty,Value.int .i64 a1,Value.int .i64 0]) rfl (zaa h31.one (zaa (Ln.one (SAy.row_ln (i:=0) rfl)) (zaa rfl (zaa rfl (zaa rfl (zaa rfl zag))))))
  refine FL.v (E.box rfl runAN) ?_
  refine FL.v (E.assign (v:=Value.int .i64 0) rfl) ?_
  refine FL.nil (FW.seq (FW.region ?_))
  refine FL.v (E.fieldAddr zap rfl) ?_
  refine FL.v (E.load rfl (zao Tryz.isAgg68 Tryz.sizeOf68 ((SAO.box_now (i:=0) rfl).sub (j:=0) (n:=2) (c:=[v30,vAC]) rfl) rfl)) ?_
  obtain ⟨HAP,SAQ,iAR,hAS,nvAT⟩:=SAO.sealRowU (i:=1) (l':=(.box bAL 74 [v30,vAC,Value.int .i64 10,Value.string ByteArray.empty,Value.int .i64 a1,Value.int .i64 0]::.row 9 1 vAl nAm csAn::.row 9 1 vA4 nA5 csA6::.row 9 1 v93 1 [Value.string y85.text]::.box b0 92 [v0_0,Value.bool a0.bad]::.row 74 6 v0_0 n0_0 k0_0::L)) rfl elsAF (by decide) rfl
  obtain ⟨rAU,hrAV,hp⟩:=bnd hp
  refine FL.call rfl rfl rfl (E.call Tryz.call114 (A1 rfl)) (zbC SAQ.sl (zad.mk x28.seq.left rAu) v30 (h31.mono (upI.tr ((((r74.inc.tr rA3.run.inc).tr rAi.run.inc).tr rAz.run.inc).tr iAR))) vAC (hAS.mono upI) hrAV) ?_
  rintro e wAX ⟨HAW,vB2,vB8,rfl,rAZ,⟨cB5,cBb,nsB4,nsBa,ap176⟩⟩
  refine ⟨_,rfl,?_⟩
  obtain ⟨HB0,rAZ,hU163⟩:=Run.lendX iAR SAO.sl rAZ
  have hB3:=nsB4.rsl
  have nvB6:New HAA cB5:=New.of_up SAO.sl (fun b hb=>nsB4.dom b (.inr hb))
  have nvB7:New HAA [vB2]:=New.of_up SAO.sl hB3.dom
  have hB3:=hB3.mono (hU163.tr (up_le SAO.size))
  have nsB4:=nsB4.mono (hU163.tr (up_le SAO.size))
  have hB9:=nsBa.rsl
  have nvBc:New HAA cBb:=New.of_up SAO.sl (fun b hb=>nsBa.dom b (.inr hb))
  have nvBd:New HAA [vB8]:=New.of_up SAO.sl hB9.dom
  have hB9:=hB9.mono (hU163.tr (up_le SAO.size))
  have nsBa:=nsBa.mono (hU163.tr (up_le SAO.size))
  have SAY:=SAO.call rAZ
  refine FL.v (E.fieldAddr zap rfl) ?_
  obtain ⟨wBf,runBg,SBh⟩:=SAY.store (P:=Tryz.prog) (t:=68) (i:=0) (j:=0) (cs':=[vB2,vB8,Value.int .i64 10,Value.string ByteArray.empty,Value.int .i64 a1,Value.int .i64 0]) (l':=(.box bAL 74 [vB2,vB8,Value.int .i64 10,Value.string ByteArray.empty,Value.int .i64 a1,Value.int .i64 0]::.row 9 1 vAC nAD csAE::.row 9 1 vAl nAm csAn::.row 9 1 vA4 nA5 csA6::.row 9 1 v93 1 [Value.string y85.text]::.box b0 92 [v0_0,Value.bool a0.bad]::.row 74 6 v0_0 n0_0 k0_0::L)) (v:=Value.agg #[vB2,vB8]) (c:=[vB2,vB8]) rfl Tryz.sizeOf68 rfl rfl (zaa hB3.one (zaa hB9.one zag)) (Nat.le_of_ble_eq_true rfl) rfl rfl
  refine FL.act rfl rfl (E.store rfl rfl runBg) ?_
  obtain ⟨HBi,SBj,iBk,atBl⟩:=SBh.sealBox (i:=0) (l':=(.row 9 1 vAC nAD csAE::.row 9 1 vAl nAm csAn::.row 9 1 vA4 nA5 csA6::.row 9 1 v93 1 [Value.string y85.text]::.box b0 92 [v0_0,Value.bool a0.bad]::.row 74 6 v0_0 n0_0 k0_0::L)) rfl rfl
  refine FL.nil (FW.seq (FW.region ?_))
  refine FL.v (E.move (v:=Value.pointer (some (⟨b0,0,none⟩:Addr))) rfl) ?_
  refine FL.v (E.move (v:=Value.pointer (some (⟨b0,0,none⟩:Addr))) rfl) ?_
  refine FL.v (E.nilCheck rfl) ?_
  refine FL.v (E.fieldAddr zaU rfl) ?_
  refine FL.v (E.load rfl (zaf Tryz.isAgg4 (SBj.box_now (i:=4) rfl) rfl)) ?_
  refine FL.v (E.move (v:=Value.bool a0.bad) rfl) ?_
  obtain ⟨t184,hqtBm,hp⟩:=bnd hp
  refine FL.cut 5 (fun f w=>∃ H:GH,St H0 w0 H w (.row 9 1 vAC nAD csAE::.row 9 1 vAl nAm csAn::.row 9 1 vA4 nA5 csA6::.row 9 1 v93 1 [Value.string y85.text]::.box b0 92 [v0_0,Value.bool a0.bad]::.row 74 6 v0_0 n0_0 k0_0::L)∧Inc HBi H∧f 0=Value.pointer (some (⟨b0,0,none⟩:Addr))∧f 3=Value.pointer (some ⟨bAL,0,none⟩)∧f 9=Value.pointer (some (⟨b0,0,none⟩:Addr))∧f 19=Value.bool t184) ?_ ?_
  ·
   clear hp;have hp:=hqtBm;clear hqtBm
   rcases ifB hp with ⟨cBs,hp⟩|⟨cBs,hp⟩
   ·
    refine FL.skip (wF_no rfl rfl rfl cBs) rfl ?_
    refine FL.skip (wF_no rfl rfl rfl cBs) rfl ?_
    refine FL.skip (wF_no rfl rfl rfl cBs) rfl ?_
    refine FL.skip (wF_no rfl rfl rfl cBs) rfl ?_
    obtain rfl:=Option.some.inj hp
    refine FL.v (E.pickT rfl cBs rfl) ?_
    exact FL.nil ⟨rfl,_,SBj,(Inc.rfl _),rfl,rfl,rfl,rfl⟩
   ·
    refine FL.val (zab rfl rfl rfl cBs) rfl rfl (E.fieldAddr zap rfl) ?_
    refine FL.val (zab rfl rfl rfl cBs) rfl rfl (E.load rfl (zao Tryz.isAgg68 Tryz.sizeOf68 ((atBl.now SBj.sl).sub (j:=0) (n:=2) (c:=[vB2,vB8]) rfl) rfl)) ?_
    obtain ⟨rBt,hrBu,hp⟩:=bnd hp
    refine FL.call (zab rfl rfl rfl cBs) rfl rfl (E.call Tryz.call120 (A1 rfl)) (zbh SBj.sl rAU vB2 (hB3.mono (upI.tr iBk)) vB8 (hB9.mono (upI.tr iBk)) hrBu) ?_
    rintro e wBv ⟨rfl,rBw⟩
    refine ⟨_,rfl,?_⟩
    have SBx:=SBj.call rBw
    refine FL.val (zab rfl rfl rfl cBs) rfl rfl (E.not rfl) ?_
    obtain rfl:=Option.some.inj hp
    refine FL.v (E.pickF rfl cBs rfl) ?_
    exact FL.nil ⟨rfl,_,SBx,(Inc.rfl _),rfl,rfl,rfl,rfl⟩
  rintro fBr wBq ⟨HBn,SBo,iBp,kBy,kBz,kBA,kBB⟩
  refine FL.v (E.move kBB) ?_
  refine FL.cut 7 (fun f w=>∃ H:GH,St H0 w0 H w (.row 9 1 vAC nAD csAE::.row 9 1 vAl nAm csAn::.row 9 1 vA4 nA5 csA6::.row 9 1 v93 1 [Value.string y85.text]::.box b0 92 [v0_0,Value.bool a0.bad]::.row 74 6 v0_0 n0_0 k0_0::L)∧Inc HBn H∧f 0=Value.pointer (some (⟨b0,0,none⟩:Addr))∧f 3=Value.pointer (some ⟨bAL,0,none⟩)∧f 9=Value.pointer (some (⟨b0,0,none⟩:Addr))∧f 27=Value.bool (bif t184 then true else (decide (200≤(len a0.steps))))) ?_ ?_
  ·
   rcases bcase t184 with cBH|cBH
   ·
    refine FL.skip (wF_no rfl rfl rfl cBH) rfl ?_
    refine FL.skip (wF_no rfl rfl rfl cBH) rfl ?_
    refine FL.skip (wF_no rfl rfl rfl cBH) rfl ?_
    refine FL.skip (wF_no rfl rfl rfl cBH) rfl ?_
    refine FL.skip (wF_no rfl rfl rfl cBH) rfl ?_
    refine FL.skip (wF_no rfl rfl rfl cBH) rfl ?_
    refine FL.v (E.pickT rfl cBH rfl) ?_
    exact FL.nil ⟨rfl,_,SBo,(Inc.rfl _),kBy,kBz,kBA,(congrArg Value.bool (bifT cBH).symm)⟩
   ·
    refine FL.val (zab rfl rfl rfl cBH) rfl rfl (E.move kBy) ?_
    refine FL.val (zab rfl rfl rfl cBH) rfl rfl (E.nilCheck rfl) ?_
    refine FL.val (zab rfl rfl rfl cBH) rfl rfl (E.fieldAddr zav rfl) ?_
    refine FL.val (zab rfl rfl rfl cBH) rfl rfl (E.load rfl (zaf Tryz.isAgg24 (SBo.box_now (i:=4) rfl) rfl)) ?_
    refine FL.val (zab rfl rfl rfl cBH) rfl rfl (E.lenO te24 rfl SBo (i:=5) rfl p0_0 (by decide)) ?_
    refine FL.val (zab rfl rfl rfl cBH) rfl rfl (E.geq rfl rfl) ?_
    refine FL.v (E.pickF rfl cBH rfl) ?_
    exact FL.nil ⟨rfl,_,SBo,(Inc.rfl _),kBy,kBz,kBA,(congrArg Value.bool (bifF cBH).symm)⟩
  rintro fBG wBF ⟨HBC,SBD,iBE,kBI,kBJ,kBK,kBL⟩
  refine FL.v (E.nilCheck kBK) ?_
  refine FL.v (E.fieldAddr zaU rfl) ?_
  obtain ⟨wBM,runBN,SBO⟩:=SBD.store (P:=Tryz.prog) (t:=4) (i:=4) (j:=1) (cs':=[v0_0,Value.bool (bif t184 then true else (decide (200≤(len a0.steps))))]) (l':=(.row 9 1 vAC nAD csAE::.row 9 1 vAl nAm csAn::.row 9 1 vA4 nA5 csA6::.row 9 1 v93 1 [Value.string y85.text]::.box b0 92 [v0_0,Value.bool (bif t184 then true else (decide (200≤(len a0.steps))))]::.row 74 6 v0_0 n0_0 k0_0::L)) (v:=Value.bool (bif t184 then true else (decide (200≤(len a0.steps))))) (c:=[Value.bool (bif t184 then true else (decide (200≤(len a0.steps))))]) rfl Tryz.sizeOf4 rfl rfl (zaa rfl zag) (Nat.le_of_ble_eq_true rfl) rfl rfl
  refine FL.act rfl rfl (E.store rfl kBL runBN) ?_
  refine FL.nil (FW.seq ?_)
  obtain ⟨xsBZ,hzC0,hp⟩:=bnd hp
  refine FW.drawB (Sl HBC) (fun f w=>∃ H:GH,∃ vCe:Value,∃ nCf:Nat,∃ csCg:List Value,St H0 w0 H w (.row 9 1 vAC nAD csAE::.row 9 1 vAl nAm csAn::.row 9 1 vA4 nA5 csA6::.row 9 1 v93 1 [Value.string y85.text]::.box b0 92 [vCe,Value.bool (bif t184 then true else (decide (200≤(len a0.steps))))]::.row 74 6 vCe nCf csCg::L)∧Inc HBC H∧Els (up w0.heap.size H) eSeqStep 6 csCg xsBZ∧(bl csCg).Nodup∧f 0=Value.pointer (some (⟨b0,0,none⟩:Addr))) (by kernel_rfl) SBO.sl ?_ ?_
  ·
   intro wBP rBQ
   have SBR:=SBO.call rBQ
   refine FB.phase [10] (fun w=>WAt w (Addr.add ⟨b0,0,none⟩ 0) [v0_0]) ?_
   refine FB.t (i:=0) (bs 11 1) rfl (SP.on ((SBR.box_now (i:=4) rfl).sub (j:=0) (n:=1) (c:=[v0_0]) rfl) (SP.nil SBR.sl)) rfl (fun w' hw'=>(E.move kBI)) ?_
   refine FB.t (i:=1) (bs 11 3) rfl (SP.on ((SBR.box_now (i:=4) rfl).sub (j:=0) (n:=1) (c:=[v0_0]) rfl) (SP.nil SBR.sl)) rfl (fun w' hw'=>(E.move kBI)) ?_
   refine FB.t (i:=2) (bs 11 7) rfl (SP.on ((SBR.box_now (i:=4) rfl).sub (j:=0) (n:=1) (c:=[v0_0]) rfl) (SP.nil SBR.sl)) rfl (fun w' hw'=>(E.nilCheck rfl)) ?_
   refine FB.t (i:=3) (bs 11 15) rfl (SP.on ((SBR.box_now (i:=4) rfl).sub (j:=0) (n:=1) (c:=[v0_0]) rfl) (SP.nil SBR.sl)) rfl (fun w' hw'=>(E.fieldAddr zav rfl)) ?_
   refine FB.p (i:=4) (bs 11 31) 0 [7,8,9,10] rfl (SP.on ((SBR.box_now (i:=4) rfl).sub (j:=0) (n:=1) (c:=[v0_0]) rfl) (SP.nil SBR.sl)) rfl rfl (fun w' hw'=>(E.load rfl (zar Tryz.isAgg24 hw' rfl))) ?_
   refine FB.t (i:=5) (bs 11 63) rfl (SP.on ((SBR.box_now (i:=4) rfl).sub (j:=0) (n:=1) (c:=[v0_0]) rfl) (SP.nil SBR.sl)) rfl (fun w' hw'=>(E.load kBJ (zao Tryz.isAgg74 Tryz.sizeOf74 ((atBl.mono (iBp.tr iBE)).now hw') rfl))) ?_
   refine FB.all1 (i:=6) (by kernel_rfl) ?_
   ·
    obtain ⟨vBS,wBT,runBU,SBV⟩:=SBR.buildSlice (P:=Tryz.prog) te24 [Value.agg #[vB2,vB8,Value.int .i64 10,Value.string ByteArray.empty,Value.int .i64 a1,Value.int .i64 0]] (parts:=#[(0,Value.agg #[vB2,vB8,Value.int .i64 10,Value.string ByteArray.empty,Value.int .i64 a1,Value.int .i64 0])]) (cells:=[vB2,vB8,Value.int .i64 10,Value.string ByteArray.empty,Value.int .i64 a1,Value.int .i64 0]) rfl (zan rfl zal) (zam rfl zak) (zaa hB3.one (zaa hB9.one (zaa rfl (zaa rfl (zaa rfl (zaa rfl zag)))))) (Nat.le_of_ble_eq_true rfl)
    have elsBW:Els (up w0.heap.size HBC) eSeqStep 6 [vB2,vB8,Value.int .i64 10,Value.string ByteArray.empty,Value.int .i64 a1,Value.int .i64 0] [(zac.mk rAU 10 ByteArray.empty a1 0)]:=(Els.snoc (H:=(up w0.heap.size HBC)) (E:=eSeqStep) (k:=6) (c:=[vB2,vB8,Value.int .i64 10,Value.string ByteArray.empty,Value.int .i64 a1,Value.int .i64 0]) (x:=(zac.mk rAU 10 ByteArray.empty a1 0)) Els.nil rfl ⟨_,_,rfl,(hB3.mono (zai ((iBk.tr iBp).tr iBE))),(hB9.mono (zai ((iBk.tr iBp).tr iBE)))⟩)
    have ndBX:(bl [vB2,vB8,Value.int .i64 10,Value.string ByteArray.empty,Value.int .i64 a1,Value.int .i64 0]).Nodup:=by exact zaR ap176.dis
    have nvBY:New HAA [vB2,vB8,Value.int .i64 10,Value.string ByteArray.empty,Value.int .i64 a1,Value.int .i64 0]:=by exact (New.two nvB7 nvBd)
    refine FC.val (l':=(bs 11 127)) rfl (by kernel_rfl) rfl rfl rfl (E.buildSlice (B1 rfl) runBU) ?_
    refine ⟨(SP.on ((SBV.box_now (i:=5) rfl).sub (j:=0) (n:=1) (c:=[v0_0]) rfl) (SP.nil SBV.sl)),?_⟩
    refine FB.all1 (i:=7) (by kernel_rfl) ?_
    ·
     obtain ⟨vC1,wC4,nC2,csC3,runC5,SC6,elsC7,ceC8⟩:=SBV.appendO (P:=Tryz.prog) te24 (i:=6) (j:=0) rfl (p0_0.mono (zai (((((((r74.inc.tr rA3.run.inc).tr rAi.run.inc).tr rAz.run.inc).tr rAZ.inc).tr iBk).tr iBp).tr iBE))) rfl elsBW hzC0
     have SC6:St H0 w0 HBC wC4 (.row 74 6 vBS 1 [vB2,vB8,Value.int .i64 10,Value.string ByteArray.empty,Value.int .i64 a1,Value.int .i64 0]::.row 9 1 vAC nAD csAE::.row 9 1 vAl nAm csAn::.row 9 1 vA4 nA5 csA6::.row 9 1 v93 1 [Value.string y85.text]::.box b0 92 [v0_0,Value.bool (bif t184 then true else (decide (200≤(len a0.steps))))]::.row 74 6 vC1 nC2 csC3::L):=SC6
     have ndC9:(bl csC3).Nodup:=by rw [ceC8];exact za0 d0_0 ndBX (Els.dom (p0_0.mono (upI.tr (((r74.inc.tr rA3.run.inc).tr rAi.run.inc).tr rAz.run.inc)))) (by exact nvBY)
     have SCa:St H0 w0 HBC wC4 (.row 9 1 vAC nAD csAE::.row 9 1 vAl nAm csAn::.row 9 1 vA4 nA5 csA6::.row 9 1 v93 1 [Value.string y85.text]::.box b0 92 [v0_0,Value.bool (bif t184 then true else (decide (200≤(len a0.steps))))]::.row 74 6 vC1 nC2 csC3::L):=SC6.drop 0
     refine FC.val (l':=(bs 11 255)) rfl (by kernel_rfl) rfl rfl rfl (E.append rfl rfl runC5) ?_
     refine ⟨(SP.on ((SCa.box_now (i:=4) rfl).sub (j:=0) (n:=1) (c:=[v0_0]) rfl) (SP.nil SCa.sl)),?_⟩
     refine FB.t (i:=8) (bs 11 511) rfl (SP.on ((SCa.box_now (i:=4) rfl).sub (j:=0) (n:=1) (c:=[v0_0]) rfl) (SP.nil SCa.sl)) rfl (fun w' hw'=>(E.nilCheck rfl)) ?_
     refine FB.t (i:=9) (bs 11 1023) rfl (SP.on ((SCa.box_now (i:=4) rfl).sub (j:=0) (n:=1) (c:=[v0_0]) rfl) (SP.nil SCa.sl)) rfl (fun w' hw'=>(E.fieldAddr zav rfl)) ?_
     refine FB.all1 (i:=10) (by kernel_rfl) ?_
     ·
      obtain ⟨wCb,runCc,SCd⟩:=SCa.store (P:=Tryz.prog) (t:=24) (i:=4) (j:=0) (cs':=[vC1,Value.bool (bif t184 then true else (decide (200≤(len a0.steps))))]) (l':=(.row 9 1 vAC nAD csAE::.row 9 1 vAl nAm csAn::.row 9 1 vA4 nA5 csA6::.row 9 1 v93 1 [Value.string y85.text]::.box b0 92 [vC1,Value.bool (bif t184 then true else (decide (200≤(len a0.steps))))]::.row 74 6 vC1 nC2 csC3::L)) (v:=vC1) (c:=[vC1]) rfl Tryz.sizeOf24 (Ln.cells (SCa.row_ln (i:=5) rfl)) rfl (zaa (Ln.one (SCa.row_ln (i:=5) rfl)) zag) (Nat.le_of_ble_eq_true rfl) rfl rfl
      refine FC.act (l':=(bs 11 2047)) rfl (by kernel_rfl) rfl rfl (E.store rfl rfl runCc) ?_
      refine ⟨(SP.o (SP.nil SCd.sl)),?_⟩
      exact FB.done (by kernel_rfl) ⟨_,_,_,_,SCd,(Inc.rfl _),elsC7,ndC9,kBI⟩
  ·
   rintro fCn wCm ⟨HCj,vCe,nCf,csCg,SCk,iCl,elsCh,ndCi,kCo⟩
   refine FW.seq (FW.region ?_)
   refine FL.v (E.move kCo) ?_
   refine FL.v (E.nilCheck rfl) ?_
   refine FL.v (E.fieldAddr zav rfl) ?_
   refine FL.v (E.load rfl (zaf Tryz.isAgg24 (SCk.box_now (i:=4) rfl) rfl)) ?_
   refine FL.v (E.lenO te24 rfl SCk (i:=5) rfl elsCh (by decide)) ?_
   refine FL.v (E.sub rfl rfl) ?_
   refine FL.v (E.assign (v:=Value.int .i64 (wr ((len xsBZ) - 1))) rfl) ?_
   refine FL.nil ?_
   refine FW.ret ?_
   obtain rfl:=Option.some.inj hp
   exact ⟨.inr rfl,res1 rfl rfl (by rw [hR21];exact ⟨_,_,_,_,rfl,SCk,((((rAZ.inc.tr iBk).tr iBp).tr iBE).tr iCl),elsCh,ndCi⟩)⟩
 clear hq21
 refine FL.call rfl rfl rfl (E.call Tryz.call70 (A2 rfl rfl)) hc21 ?_
 intro e wCs hQ21
 rw [hR21] at hQ21
 obtain ⟨HCp,vAG,nAH,csAI,rfl,SCq,iCr,elsAJ,ndAK⟩:=hQ21
 refine ⟨_,rfl,?_⟩
 refine FL.v (E.assign (v:=Value.int .i64 s21.2.2) rfl) ?_
 refine FL.nil (FW.seq (FW.region ?_))
 refine FL.v (E.move (v:=Value.pointer (some (⟨b0,0,none⟩:Addr))) rfl) ?_
 refine FL.v (E.move (v:=vA4) rfl) ?_
 refine FL.v (E.move (v:=v56) rfl) ?_
 refine FL.v (E.move (v:=v93) rfl) ?_
 obtain ⟨HCt,SCu,iCv,hCw,nvCx⟩:=SCq.sealRowU (i:=3) (l':=(.row 9 1 vAC nAD csAE::.row 9 1 vAl nAm csAn::.row 9 1 vA4 nA5 csA6::.box b0 92 [vAG,Value.bool s21.2.1]::.row 74 6 vAG nAH csAI::L)) rfl (els97.mono (zai (((rA3.run.inc.tr rAi.run.inc).tr rAz.run.inc).tr iCr))) (by decide) rfl
 obtain ⟨rCy,hrCz,hp⟩:=bnd hp
 refine FL.call rfl rfl rfl (E.call Tryz.call68 (A2 rfl rfl)) (zaw SCu.sl v56 x52.seq.right (h57.mono (upI.tr (((((r74.inc.tr rA3.run.inc).tr rAi.run.inc).tr rAz.run.inc).tr iCr).tr iCv))) v93 [y85.text] (hCw.mono upI) hrCz) ?_
 rintro e wCB ⟨HCA,vCG,nCH,csCI,rfl,rCD,elsCJ⟩
 refine ⟨_,rfl,?_⟩
 obtain ⟨HCE,rCD,hU265⟩:=St.lendX iCv SCq.sl rCD
 have elsCJ:=elsCJ.mono (hU265.tr (up_le SCq.size))
 have SCC:=SCq.join (l':=(.row 9 1 vCG nCH csCI::.row 9 1 vAC nAD csAE::.row 9 1 vAl nAm csAn::.row 9 1 vA4 nA5 csA6::.row 9 1 v93 1 [Value.string y85.text]::.box b0 92 [vAG,Value.bool s21.2.1]::.row 74 6 vAG nAH csAI::L)) rCD rfl
 refine FL.v (E.build (B2 rfl rfl) (run_build _ 68 #[(0,vA4),(1,vCG)] #[vA4,vCG] (by obtain ⟨_,_,rfl⟩:=SCC.row_ln (i:=3) rfl;obtain ⟨_,_,rfl⟩:=SCC.row_ln (i:=0) rfl;rfl))) ?_
 refine FL.v (E.move (v:=Value.int .i64 a2) rfl) ?_
 refine FL.v (E.build (B3 rfl rfl rfl) (run_build _ 74 #[(0,Value.agg #[vA4,vCG]),(1,Value.int .i64 10),(3,Value.int .i64 a2)] #[vA4,vCG,Value.int .i64 10,Value.string ByteArray.empty,Value.int .i64 a2,Value.int .i64 0] (by obtain ⟨_,_,rfl⟩:=SCC.row_ln (i:=3) rfl;obtain ⟨_,_,rfl⟩:=SCC.row_ln (i:=0) rfl;rfl))) ?_
 obtain ⟨sCK,hqCK,hp⟩:=bnd hp
 obtain ⟨R270,hRCK⟩:∃ R270:((List zac)×Bool×Int)→Ending→World→Prop,R270=(fun sCK e w=>∃ H:GH,∃ vCL:Value,∃ nCM:Nat,∃ csCN:List Value,e=Ending.returned (Value.int .i64 sCK.2.2)∧St H0 w0 H w (.row 9 1 vCG nCH csCI::.row 9 1 vAC nAD csAE::.row 9 1 vAl nAm csAn::.row 9 1 vA4 nA5 csA6::.row 9 1 v93 1 [Value.string y85.text]::.box b0 92 [vCL,Value.bool sCK.2.1]::.row 74 6 vCL nCM csCN::L)∧Inc HCE H∧Els (up w0.heap.size H) eSeqStep 6 csCN sCK.1∧(bl csCN).Nodup):=⟨_,rfl⟩
 have hcCK:Calls Tryz.prog 70 #[Value.pointer (some (⟨b0,0,none⟩:Addr)),Value.agg #[vA4,vCG,Value.int .i64 10,Value.string ByteArray.empty,Value.int .i64 a2,Value.int .i64 0]] wCB (R270 sCK):=by
  clear hp;have hp:=hqCK;clear hqCK
  refine zaj (N:=46) (args:=[Value.pointer (some (⟨b0,0,none⟩:Addr)),Value.agg #[vA4,vCG,Value.int .i64 10,Value.string ByteArray.empty,Value.int .i64 a2,Value.int .i64 0]]) Tryz.func70 rfl rfl rfl ?_
  refine FW.seq (FW.region ?_)
  obtain ⟨bCQ,wCR,runCS,SCT⟩:=SCC.box (P:=Tryz.prog) 74 [vA4,vCG,Value.int .i64 10,Value.string ByteArray.empty,Value.int .i64 a2,Value.int .i64 0] (v:=Value.agg #[vA4,vCG,Value.int .i64 10,Value.string ByteArray.empty,Value.int .i64 a2,Value.int .i64 0]) rfl (zaa (Ln.one (SCC.row_ln (i:=3) rfl)) (zaa (Ln.one (SCC.row_ln (i:=0) rfl)) (zaa rfl (zaa rfl (zaa rfl (zaa rfl zag))))))
  refine FL.v (E.box rfl runCS) ?_
  refine FL.v (E.assign (v:=Value.int .i64 0) rfl) ?_
  refine FL.nil (FW.seq (FW.region ?_))
  refine FL.v (E.fieldAddr zap rfl) ?_
  refine FL.v (E.load rfl (zao Tryz.isAgg68 Tryz.sizeOf68 ((SCT.box_now (i:=0) rfl).sub (j:=0) (n:=2) (c:=[vA4,vCG]) rfl) rfl)) ?_
  obtain ⟨HCU,SCV,iCW,hCX,nvCY⟩:=SCT.sealRowU (i:=4) (l':=(.box bCQ 74 [vA4,vCG,Value.int .i64 10,Value.string ByteArray.empty,Value.int .i64 a2,Value.int .i64 0]::.row 9 1 vCG nCH csCI::.row 9 1 vAC nAD csAE::.row 9 1 vAl nAm csAn::.row 9 1 v93 1 [Value.string y85.text]::.box b0 92 [vAG,Value.bool s21.2.1]::.row 74 6 vAG nAH csAI::L)) rfl (elsA7.mono (zai (((rAi.run.inc.tr rAz.run.inc).tr iCr).tr rCD.run.inc))) (by decide) rfl
  obtain ⟨HCZ,SD0,iD1,hD2,nvD3⟩:=SCV.sealRowU (i:=1) (l':=(.box bCQ 74 [vA4,vCG,Value.int .i64 10,Value.string ByteArray.empty,Value.int .i64 a2,Value.int .i64 0]::.row 9 1 vAC nAD csAE::.row 9 1 vAl nAm csAn::.row 9 1 v93 1 [Value.string y85.text]::.box b0 92 [vAG,Value.bool s21.2.1]::.row 74 6 vAG nAH csAI::L)) rfl (elsCJ.mono (zai iCW)) (by decide) rfl
  obtain ⟨rD4,hrD5,hp⟩:=bnd hp
  refine FL.call rfl rfl rfl (E.call Tryz.call114 (A1 rfl)) (zbC SD0.sl (zad.mk r98 rCy) vA4 (hCX.mono (upI.tr iD1)) vCG (hD2.mono upI) hrD5) ?_
  rintro e wD7 ⟨HD6,vDc,vDi,rfl,rD9,⟨cDf,cDl,nsDe,nsDk,ap310⟩⟩
  refine ⟨_,rfl,?_⟩
  obtain ⟨HDa,rD9,hU297⟩:=Run.lendX (iCW.tr iD1) SCT.sl rD9
  have hDd:=nsDe.rsl
  have nvDg:New HCE cDf:=New.of_up SCT.sl (fun b hb=>nsDe.dom b (.inr hb))
  have nvDh:New HCE [vDc]:=New.of_up SCT.sl hDd.dom
  have hDd:=hDd.mono (hU297.tr (up_le SCT.size))
  have nsDe:=nsDe.mono (hU297.tr (up_le SCT.size))
  have hDj:=nsDk.rsl
  have nvDm:New HCE cDl:=New.of_up SCT.sl (fun b hb=>nsDk.dom b (.inr hb))
  have nvDn:New HCE [vDi]:=New.of_up SCT.sl hDj.dom
  have hDj:=hDj.mono (hU297.tr (up_le SCT.size))
  have nsDk:=nsDk.mono (hU297.tr (up_le SCT.size))
  have SD8:=SCT.call rD9
  refine FL.v (E.fieldAddr zap rfl) ?_
  obtain ⟨wDp,runDq,SDr⟩:=SD8.store (P:=Tryz.prog) (t:=68) (i:=0) (j:=0) (cs':=[vDc,vDi,Value.int .i64 10,Value.string ByteArray.empty,Value.int .i64 a2,Value.int .i64 0]) (l':=(.box bCQ 74 [vDc,vDi,Value.int .i64 10,Value.string ByteArray.empty,Value.int .i64 a2,Value.int .i64 0]::.row 9 1 vCG nCH csCI::.row 9 1 vAC nAD csAE::.row 9 1 vAl nAm csAn::.row 9 1 vA4 nA5 csA6::.row 9 1 v93 1 [Value.string y85.text]::.box b0 92 [vAG,Value.bool s21.2.1]::.row 74 6 vAG nAH csAI::L)) (v:=Value.agg #[vDc,vDi]) (c:=[vDc,vDi]) rfl Tryz.sizeOf68 rfl rfl (zaa hDd.one (zaa hDj.one zag)) (Nat.le_of_ble_eq_true rfl) rfl rfl
  refine FL.act rfl rfl (E.store rfl rfl runDq) ?_
  obtain ⟨HDs,SDt,iDu,atDv⟩:=SDr.sealBox (i:=0) (l':=(.row 9 1 vCG nCH csCI::.row 9 1 vAC nAD csAE::.row 9 1 vAl nAm csAn::.row 9 1 vA4 nA5 csA6::.row 9 1 v93 1 [Value.string y85.text]::.box b0 92 [vAG,Value.bool s21.2.1]::.row 74 6 vAG nAH csAI::L)) rfl rfl
  refine FL.nil (FW.seq (FW.region ?_))
  refine FL.v (E.move (v:=Value.pointer (some (⟨b0,0,none⟩:Addr))) rfl) ?_
  refine FL.v (E.move (v:=Value.pointer (some (⟨b0,0,none⟩:Addr))) rfl) ?_
  refine FL.v (E.nilCheck rfl) ?_
  refine FL.v (E.fieldAddr zaU rfl) ?_
  refine FL.v (E.load rfl (zaf Tryz.isAgg4 (SDt.box_now (i:=5) rfl) rfl)) ?_
  refine FL.v (E.move (v:=Value.bool s21.2.1) rfl) ?_
  obtain ⟨t318,hqtDw,hp⟩:=bnd hp
  refine FL.cut 5 (fun f w=>∃ H:GH,St H0 w0 H w (.row 9 1 vCG nCH csCI::.row 9 1 vAC nAD csAE::.row 9 1 vAl nAm csAn::.row 9 1 vA4 nA5 csA6::.row 9 1 v93 1 [Value.string y85.text]::.box b0 92 [vAG,Value.bool s21.2.1]::.row 74 6 vAG nAH csAI::L)∧Inc HDs H∧f 0=Value.pointer (some (⟨b0,0,none⟩:Addr))∧f 3=Value.pointer (some ⟨bCQ,0,none⟩)∧f 9=Value.pointer (some (⟨b0,0,none⟩:Addr))∧f 19=Value.bool t318) ?_ ?_
  ·
   clear hp;have hp:=hqtDw;clear hqtDw
   rcases ifB hp with ⟨cDC,hp⟩|⟨cDC,hp⟩
   ·
    refine FL.skip (wF_no rfl rfl rfl cDC) rfl ?_
    refine FL.skip (wF_no rfl rfl rfl cDC) rfl ?_
    refine FL.skip (wF_no rfl rfl rfl cDC) rfl ?_
    refine FL.skip (wF_no rfl rfl rfl cDC) rfl ?_
    obtain rfl:=Option.some.inj hp
    refine FL.v (E.pickT rfl cDC rfl) ?_
    exact FL.nil ⟨rfl,_,SDt,(Inc.rfl _),rfl,rfl,rfl,rfl⟩
   ·
    refine FL.val (zab rfl rfl rfl cDC) rfl rfl (E.fieldAddr zap rfl) ?_
    refine FL.val (zab rfl rfl rfl cDC) rfl rfl (E.load rfl (zao Tryz.isAgg68 Tryz.sizeOf68 ((atDv.now SDt.sl).sub (j:=0) (n:=2) (c:=[vDc,vDi]) rfl) rfl)) ?_
    obtain ⟨rDD,hrDE,hp⟩:=bnd hp
    refine FL.call (zab rfl rfl rfl cDC) rfl rfl (E.call Tryz.call120 (A1 rfl)) (zbh SDt.sl rD4 vDc (hDd.mono (upI.tr iDu)) vDi (hDj.mono (upI.tr iDu)) hrDE) ?_
    rintro e wDF ⟨rfl,rDG⟩
    refine ⟨_,rfl,?_⟩
    have SDH:=SDt.call rDG
    refine FL.val (zab rfl rfl rfl cDC) rfl rfl (E.not rfl) ?_
    obtain rfl:=Option.some.inj hp
    refine FL.v (E.pickF rfl cDC rfl) ?_
    exact FL.nil ⟨rfl,_,SDH,(Inc.rfl _),rfl,rfl,rfl,rfl⟩
  rintro fDB wDA ⟨HDx,SDy,iDz,kDI,kDJ,kDK,kDL⟩
  refine FL.v (E.move kDL) ?_
  refine FL.cut 7 (fun f w=>∃ H:GH,St H0 w0 H w (.row 9 1 vCG nCH csCI::.row 9 1 vAC nAD csAE::.row 9 1 vAl nAm csAn::.row 9 1 vA4 nA5 csA6::.row 9 1 v93 1 [Value.string y85.text]::.box b0 92 [vAG,Value.bool s21.2.1]::.row 74 6 vAG nAH csAI::L)∧Inc HDx H∧f 0=Value.pointer (some (⟨b0,0,none⟩:Addr))∧f 3=Value.pointer (some ⟨bCQ,0,none⟩)∧f 9=Value.pointer (some (⟨b0,0,none⟩:Addr))∧f 27=Value.bool (bif t318 then true else (decide (200≤(len s21.1))))) ?_ ?_
  ·
   rcases bcase t318 with cDR|cDR
   ·
    refine FL.skip (wF_no rfl rfl rfl cDR) rfl ?_
    refine FL.skip (wF_no rfl rfl rfl cDR) rfl ?_
    refine FL.skip (wF_no rfl rfl rfl cDR) rfl ?_
    refine FL.skip (wF_no rfl rfl rfl cDR) rfl ?_
    refine FL.skip (wF_no rfl rfl rfl cDR) rfl ?_
    refine FL.skip (wF_no rfl rfl rfl cDR) rfl ?_
    refine FL.v (E.pickT rfl cDR rfl) ?_
    exact FL.nil ⟨rfl,_,SDy,(Inc.rfl _),kDI,kDJ,kDK,(congrArg Value.bool (bifT cDR).symm)⟩
   ·
    refine FL.val (zab rfl rfl rfl cDR) rfl rfl (E.move kDI) ?_
    refine FL.val (zab rfl rfl rfl cDR) rfl rfl (E.nilCheck rfl) ?_
    refine FL.val (zab rfl rfl rfl cDR) rfl rfl (E.fieldAddr zav rfl) ?_
    refine FL.val (zab rfl rfl rfl cDR) rfl rfl (E.load rfl (zaf Tryz.isAgg24 (SDy.box_now (i:=5) rfl) rfl)) ?_
    refine FL.val (zab rfl rfl rfl cDR) rfl rfl (E.lenO te24 rfl SDy (i:=6) rfl elsAJ (by decide)) ?_
    refine FL.val (zab rfl rfl rfl cDR) rfl rfl (E.geq rfl rfl) ?_
    refine FL.v (E.pickF rfl cDR rfl) ?_
    exact FL.nil ⟨rfl,_,SDy,(Inc.rfl _),kDI,kDJ,kDK,(congrArg Value.bool (bifF cDR).symm)⟩
  rintro fDQ wDP ⟨HDM,SDN,iDO,kDS,kDT,kDU,kDV⟩
  refine FL.v (E.nilCheck kDU) ?_
  refine FL.v (E.fieldAddr zaU rfl) ?_
  obtain ⟨wDW,runDX,SDY⟩:=SDN.store (P:=Tryz.prog) (t:=4) (i:=5) (j:=1) (cs':=[vAG,Value.bool (bif t318 then true else (decide (200≤(len s21.1))))]) (l':=(.row 9 1 vCG nCH csCI::.row 9 1 vAC nAD csAE::.row 9 1 vAl nAm csAn::.row 9 1 vA4 nA5 csA6::.row 9 1 v93 1 [Value.string y85.text]::.box b0 92 [vAG,Value.bool (bif t318 then true else (decide (200≤(len s21.1))))]::.row 74 6 vAG nAH csAI::L)) (v:=Value.bool (bif t318 then true else (decide (200≤(len s21.1))))) (c:=[Value.bool (bif t318 then true else (decide (200≤(len s21.1))))]) rfl Tryz.sizeOf4 rfl rfl (zaa rfl zag) (Nat.le_of_ble_eq_true rfl) rfl rfl
  refine FL.act rfl rfl (E.store rfl kDV runDX) ?_
  refine FL.nil (FW.seq ?_)
  obtain ⟨xsE9,hzEa,hp⟩:=bnd hp
  refine FW.drawB (Sl HDM) (fun f w=>∃ H:GH,∃ vEo:Value,∃ nEp:Nat,∃ csEq:List Value,St H0 w0 H w (.row 9 1 vCG nCH csCI::.row 9 1 vAC nAD csAE::.row 9 1 vAl nAm csAn::.row 9 1 vA4 nA5 csA6::.row 9 1 v93 1 [Value.string y85.text]::.box b0 92 [vEo,Value.bool (bif t318 then true else (decide (200≤(len s21.1))))]::.row 74 6 vEo nEp csEq::L)∧Inc HDM H∧Els (up w0.heap.size H) eSeqStep 6 csEq xsE9∧(bl csEq).Nodup∧f 0=Value.pointer (some (⟨b0,0,none⟩:Addr))) (by kernel_rfl) SDY.sl ?_ ?_
  ·
   intro wDZ rE0
   have SE1:=SDY.call rE0
   refine FB.phase [10] (fun w=>WAt w (Addr.add ⟨b0,0,none⟩ 0) [vAG]) ?_
   refine FB.t (i:=0) (bs 11 1) rfl (SP.on ((SE1.box_now (i:=5) rfl).sub (j:=0) (n:=1) (c:=[vAG]) rfl) (SP.nil SE1.sl)) rfl (fun w' hw'=>(E.move kDS)) ?_
   refine FB.t (i:=1) (bs 11 3) rfl (SP.on ((SE1.box_now (i:=5) rfl).sub (j:=0) (n:=1) (c:=[vAG]) rfl) (SP.nil SE1.sl)) rfl (fun w' hw'=>(E.move kDS)) ?_
   refine FB.t (i:=2) (bs 11 7) rfl (SP.on ((SE1.box_now (i:=5) rfl).sub (j:=0) (n:=1) (c:=[vAG]) rfl) (SP.nil SE1.sl)) rfl (fun w' hw'=>(E.nilCheck rfl)) ?_
   refine FB.t (i:=3) (bs 11 15) rfl (SP.on ((SE1.box_now (i:=5) rfl).sub (j:=0) (n:=1) (c:=[vAG]) rfl) (SP.nil SE1.sl)) rfl (fun w' hw'=>(E.fieldAddr zav rfl)) ?_
   refine FB.p (i:=4) (bs 11 31) 0 [7,8,9,10] rfl (SP.on ((SE1.box_now (i:=5) rfl).sub (j:=0) (n:=1) (c:=[vAG]) rfl) (SP.nil SE1.sl)) rfl rfl (fun w' hw'=>(E.load rfl (zar Tryz.isAgg24 hw' rfl))) ?_
   refine FB.t (i:=5) (bs 11 63) rfl (SP.on ((SE1.box_now (i:=5) rfl).sub (j:=0) (n:=1) (c:=[vAG]) rfl) (SP.nil SE1.sl)) rfl (fun w' hw'=>(E.load kDT (zao Tryz.isAgg74 Tryz.sizeOf74 ((atDv.mono (iDz.tr iDO)).now hw') rfl))) ?_
   refine FB.all1 (i:=6) (by kernel_rfl) ?_
   ·
    obtain ⟨vE2,wE3,runE4,SE5⟩:=SE1.buildSlice (P:=Tryz.prog) te24 [Value.agg #[vDc,vDi,Value.int .i64 10,Value.string ByteArray.empty,Value.int .i64 a2,Value.int .i64 0]] (parts:=#[(0,Value.agg #[vDc,vDi,Value.int .i64 10,Value.string ByteArray.empty,Value.int .i64 a2,Value.int .i64 0])]) (cells:=[vDc,vDi,Value.int .i64 10,Value.string ByteArray.empty,Value.int .i64 a2,Value.int .i64 0]) rfl (zan rfl zal) (zam rfl zak) (zaa hDd.one (zaa hDj.one (zaa rfl (zaa rfl (zaa rfl (zaa rfl zag)))))) (Nat.le_of_ble_eq_true rfl)
    have elsE6:Els (up w0.heap.size HDM) eSeqStep 6 [vDc,vDi,Value.int .i64 10,Value.string ByteArray.empty,Value.int .i64 a2,Value.int .i64 0] [(zac.mk rD4 10 ByteArray.empty a2 0)]:=(Els.snoc (H:=(up w0.heap.size HDM)) (E:=eSeqStep) (k:=6) (c:=[vDc,vDi,Value.int .i64 10,Value.string ByteArray.empty,Value.int .i64 a2,Value.int .i64 0]) (x:=(zac.mk rD4 10 ByteArray.empty a2 0)) Els.nil rfl ⟨_,_,rfl,(hDd.mono (zai ((iDu.tr iDz).tr iDO))),(hDj.mono (zai ((iDu.tr iDz).tr iDO)))⟩)
    have ndE7:(bl [vDc,vDi,Value.int .i64 10,Value.string ByteArray.empty,Value.int .i64 a2,Value.int .i64 0]).Nodup:=by exact zaR ap310.dis
    have nvE8:New HCE [vDc,vDi,Value.int .i64 10,Value.string ByteArray.empty,Value.int .i64 a2,Value.int .i64 0]:=by exact (New.two nvDh nvDn)
    refine FC.val (l':=(bs 11 127)) rfl (by kernel_rfl) rfl rfl rfl (E.buildSlice (B1 rfl) runE4) ?_
    refine ⟨(SP.on ((SE5.box_now (i:=6) rfl).sub (j:=0) (n:=1) (c:=[vAG]) rfl) (SP.nil SE5.sl)),?_⟩
    refine FB.all1 (i:=7) (by kernel_rfl) ?_
    ·
     obtain ⟨vEb,wEe,nEc,csEd,runEf,SEg,elsEh,ceEi⟩:=SE5.appendO (P:=Tryz.prog) te24 (i:=7) (j:=0) rfl (elsAJ.mono (zai ((((rCD.run.inc.tr rD9.inc).tr iDu).tr iDz).tr iDO))) rfl elsE6 hzEa
     have SEg:St H0 w0 HDM wEe (.row 74 6 vE2 1 [vDc,vDi,Value.int .i64 10,Value.string ByteArray.empty,Value.int .i64 a2,Value.int .i64 0]::.row 9 1 vCG nCH csCI::.row 9 1 vAC nAD csAE::.row 9 1 vAl nAm csAn::.row 9 1 vA4 nA5 csA6::.row 9 1 v93 1 [Value.string y85.text]::.box b0 92 [vAG,Value.bool (bif t318 then true else (decide (200≤(len s21.1))))]::.row 74 6 vEb nEc csEd::L):=SEg
     have ndEj:(bl csEd).Nodup:=by rw [ceEi];exact za0 ndAK ndE7 (Els.dom (elsAJ.mono (upI.tr rCD.run.inc))) (by exact nvE8)
     have SEk:St H0 w0 HDM wEe (.row 9 1 vCG nCH csCI::.row 9 1 vAC nAD csAE::.row 9 1 vAl nAm csAn::.row 9 1 vA4 nA5 csA6::.row 9 1 v93 1 [Value.string y85.text]::.box b0 92 [vAG,Value.bool (bif t318 then true else (decide (200≤(len s21.1))))]::.row 74 6 vEb nEc csEd::L):=SEg.drop 0
     refine FC.val (l':=(bs 11 255)) rfl (by kernel_rfl) rfl rfl rfl (E.append rfl rfl runEf) ?_
     refine ⟨(SP.on ((SEk.box_now (i:=5) rfl).sub (j:=0) (n:=1) (c:=[vAG]) rfl) (SP.nil SEk.sl)),?_⟩
     refine FB.t (i:=8) (bs 11 511) rfl (SP.on ((SEk.box_now (i:=5) rfl).sub (j:=0) (n:=1) (c:=[vAG]) rfl) (SP.nil SEk.sl)) rfl (fun w' hw'=>(E.nilCheck rfl)) ?_
     refine FB.t (i:=9) (bs 11 1023) rfl (SP.on ((SEk.box_now (i:=5) rfl).sub (j:=0) (n:=1) (c:=[vAG]) rfl) (SP.nil SEk.sl)) rfl (fun w' hw'=>(E.fieldAddr zav rfl)) ?_
     refine FB.all1 (i:=10) (by kernel_rfl) ?_
     ·
      obtain ⟨wEl,runEm,SEn⟩:=SEk.store (P:=Tryz.prog) (t:=24) (i:=5) (j:=0) (cs':=[vEb,Value.bool (bif t318 then true else (decide (200≤(len s21.1))))]) (l':=(.row 9 1 vCG nCH csCI::.row 9 1 vAC nAD csAE::.row 9 1 vAl nAm csAn::.row 9 1 vA4 nA5 csA6::.row 9 1 v93 1 [Value.string y85.text]::.box b0 92 [vEb,Value.bool (bif t318 then true else (decide (200≤(len s21.1))))]::.row 74 6 vEb nEc csEd::L)) (v:=vEb) (c:=[vEb]) rfl Tryz.sizeOf24 (Ln.cells (SEk.row_ln (i:=6) rfl)) rfl (zaa (Ln.one (SEk.row_ln (i:=6) rfl)) zag) (Nat.le_of_ble_eq_true rfl) rfl rfl
      refine FC.act (l':=(bs 11 2047)) rfl (by kernel_rfl) rfl rfl (E.store rfl rfl runEm) ?_
      refine ⟨(SP.o (SP.nil SEn.sl)),?_⟩
      exact FB.done (by kernel_rfl) ⟨_,_,_,_,SEn,(Inc.rfl _),elsEh,ndEj,kDS⟩
  ·
   rintro fEx wEw ⟨HEt,vEo,nEp,csEq,SEu,iEv,elsEr,ndEs,kEy⟩
   refine FW.seq (FW.region ?_)
   refine FL.v (E.move kEy) ?_
   refine FL.v (E.nilCheck rfl) ?_
   refine FL.v (E.fieldAddr zav rfl) ?_
   refine FL.v (E.load rfl (zaf Tryz.isAgg24 (SEu.box_now (i:=5) rfl) rfl)) ?_
   refine FL.v (E.lenO te24 rfl SEu (i:=6) rfl elsEr (by decide)) ?_
   refine FL.v (E.sub rfl rfl) ?_
   refine FL.v (E.assign (v:=Value.int .i64 (wr ((len xsE9) - 1))) rfl) ?_
   refine FL.nil ?_
   refine FW.ret ?_
   obtain rfl:=Option.some.inj hp
   exact ⟨.inr rfl,res1 rfl rfl (by rw [hRCK];exact ⟨_,_,_,_,rfl,SEu,((((rD9.inc.tr iDu).tr iDz).tr iDO).tr iEv),elsEr,ndEs⟩)⟩
 clear hqCK
 refine FL.call rfl rfl rfl (E.call Tryz.call70 (A2 rfl rfl)) hcCK ?_
 intro e wEC hQCK
 rw [hRCK] at hQCK
 obtain ⟨HEz,vCL,nCM,csCN,rfl,SEA,iEB,elsCO,ndCP⟩:=hQCK
 refine ⟨_,rfl,?_⟩
 refine FL.v (E.assign (v:=Value.int .i64 sCK.2.2) rfl) ?_
 refine FL.nil (FW.seq (FW.region ?_))
 refine FL.v (E.move (v:=Value.pointer (some (⟨b0,0,none⟩:Addr))) rfl) ?_
 refine FL.v (E.move (v:=vAl) rfl) ?_
 refine FL.v (E.move (v:=v93) rfl) ?_
 refine FL.v (E.move (v:=v44) rfl) ?_
 obtain ⟨HED,SEE,iEF,hEG,nvEH⟩:=SEA.sealRowU (i:=4) (l':=(.row 9 1 vCG nCH csCI::.row 9 1 vAC nAD csAE::.row 9 1 vAl nAm csAn::.row 9 1 vA4 nA5 csA6::.box b0 92 [vCL,Value.bool sCK.2.1]::.row 74 6 vCL nCM csCN::L)) rfl (els97.mono (zai (((((rA3.run.inc.tr rAi.run.inc).tr rAz.run.inc).tr iCr).tr rCD.run.inc).tr iEB))) (by decide) rfl
 obtain ⟨rEI,hrEJ,hp⟩:=bnd hp
 refine FL.call rfl rfl rfl (E.call Tryz.call68 (A2 rfl rfl)) (zaw SEE.sl v93 [y85.text] (hEG.mono upI) v44 x40.seq.right (h45.mono (upI.tr (((((((r74.inc.tr rA3.run.inc).tr rAi.run.inc).tr rAz.run.inc).tr iCr).tr rCD.run.inc).tr iEB).tr iEF))) hrEJ) ?_
 rintro e wEL ⟨HEK,vEQ,nER,csES,rfl,rEN,elsET⟩
 refine ⟨_,rfl,?_⟩
 obtain ⟨HEO,rEN,hU399⟩:=St.lendX iEF SEA.sl rEN
 have elsET:=elsET.mono (hU399.tr (up_le SEA.size))
 have SEM:=SEA.join (l':=(.row 9 1 vEQ nER csES::.row 9 1 vCG nCH csCI::.row 9 1 vAC nAD csAE::.row 9 1 vAl nAm csAn::.row 9 1 vA4 nA5 csA6::.row 9 1 v93 1 [Value.string y85.text]::.box b0 92 [vCL,Value.bool sCK.2.1]::.row 74 6 vCL nCM csCN::L)) rEN rfl
 refine FL.v (E.build (B2 rfl rfl) (run_build _ 68 #[(0,vAl),(1,vEQ)] #[vAl,vEQ] (by obtain ⟨_,_,rfl⟩:=SEM.row_ln (i:=3) rfl;obtain ⟨_,_,rfl⟩:=SEM.row_ln (i:=0) rfl;rfl))) ?_
 refine FL.v (E.build (B2 rfl rfl) (run_build _ 74 #[(0,Value.agg #[vAl,vEQ]),(1,Value.int .i64 1)] #[vAl,vEQ,Value.int .i64 1,Value.string ByteArray.empty,Value.int .i64 0,Value.int .i64 0] (by obtain ⟨_,_,rfl⟩:=SEM.row_ln (i:=3) rfl;obtain ⟨_,_,rfl⟩:=SEM.row_ln (i:=0) rfl;rfl))) ?_
 obtain ⟨sEU,hqEU,hp⟩:=bnd hp
 obtain ⟨R404,hREU⟩:∃ R404:((List zac)×Bool×Int)→Ending→World→Prop,R404=(fun sEU e w=>∃ H:GH,∃ vEV:Value,∃ nEW:Nat,∃ csEX:List Value,e=Ending.returned (Value.int .i64 sEU.2.2)∧St H0 w0 H w (.row 9 1 vEQ nER csES::.row 9 1 vCG nCH csCI::.row 9 1 vAC nAD csAE::.row 9 1 vAl nAm csAn::.row 9 1 vA4 nA5 csA6::.row 9 1 v93 1 [Value.string y85.text]::.box b0 92 [vEV,Value.bool sEU.2.1]::.row 74 6 vEV nEW csEX::L)∧Inc HEO H∧Els (up w0.heap.size H) eSeqStep 6 csEX sEU.1∧(bl csEX).Nodup):=⟨_,rfl⟩
 have hcEU:Calls Tryz.prog 70 #[Value.pointer (some (⟨b0,0,none⟩:Addr)),Value.agg #[vAl,vEQ,Value.int .i64 1,Value.string ByteArray.empty,Value.int .i64 0,Value.int .i64 0]] wEL (R404 sEU):=by
  clear hp;have hp:=hqEU;clear hqEU
  refine zaj (N:=46) (args:=[Value.pointer (some (⟨b0,0,none⟩:Addr)),Value.agg #[vAl,vEQ,Value.int .i64 1,Value.string ByteArray.empty,Value.int .i64 0,Value.int .i64 0]]) Tryz.func70 rfl rfl rfl ?_
  refine FW.seq (FW.region ?_)
  obtain ⟨bF0,wF1,runF2,SF3⟩:=SEM.box (P:=Tryz.prog) 74 [vAl,vEQ,Value.int .i64 1,Value.string ByteArray.empty,Value.int .i64 0,Value.int .i64 0] (v:=Value.agg #[vAl,vEQ,Value.int .i64 1,Value.string ByteArray.empty,Value.int .i64 0,Value.int .i64 0]) rfl (zaa (Ln.one (SEM.row_ln (i:=3) rfl)) (zaa (Ln.one (SEM.row_ln (i:=0) rfl)) (zaa rfl (zaa rfl (zaa rfl (zaa rfl zag))))))
  refine FL.v (E.box rfl runF2) ?_
  refine FL.v (E.assign (v:=Value.int .i64 0) rfl) ?_
  refine FL.nil (FW.seq (FW.region ?_))
  refine FL.v (E.fieldAddr zap rfl) ?_
  refine FL.v (E.load rfl (zao Tryz.isAgg68 Tryz.sizeOf68 ((SF3.box_now (i:=0) rfl).sub (j:=0) (n:=2) (c:=[vAl,vEQ]) rfl) rfl)) ?_
  obtain ⟨HF4,SF5,iF6,hF7,nvF8⟩:=SF3.sealRowU (i:=4) (l':=(.box bF0 74 [vAl,vEQ,Value.int .i64 1,Value.string ByteArray.empty,Value.int .i64 0,Value.int .i64 0]::.row 9 1 vEQ nER csES::.row 9 1 vCG nCH csCI::.row 9 1 vAC nAD csAE::.row 9 1 vA4 nA5 csA6::.row 9 1 v93 1 [Value.string y85.text]::.box b0 92 [vCL,Value.bool sCK.2.1]::.row 74 6 vCL nCM csCN::L)) rfl (elsAo.mono (zai ((((rAz.run.inc.tr iCr).tr rCD.run.inc).tr iEB).tr rEN.run.inc))) (by decide) rfl
  obtain ⟨HF9,SFa,iFb,hFc,nvFd⟩:=SF5.sealRowU (i:=1) (l':=(.box bF0 74 [vAl,vEQ,Value.int .i64 1,Value.string ByteArray.empty,Value.int .i64 0,Value.int .i64 0]::.row 9 1 vCG nCH csCI::.row 9 1 vAC nAD csAE::.row 9 1 vA4 nA5 csA6::.row 9 1 v93 1 [Value.string y85.text]::.box b0 92 [vCL,Value.bool sCK.2.1]::.row 74 6 vCL nCM csCN::L)) rfl (elsET.mono (zai iF6)) (by decide) rfl
  obtain ⟨rFe,hrFf,hp⟩:=bnd hp
  refine FL.call rfl rfl rfl (E.call Tryz.call114 (A1 rfl)) (zbC SFa.sl (zad.mk rAd rEI) vAl (hF7.mono (upI.tr iFb)) vEQ (hFc.mono upI) hrFf) ?_
  rintro e wFh ⟨HFg,vFm,vFs,rfl,rFj,⟨cFp,cFv,nsFo,nsFu,ap444⟩⟩
  refine ⟨_,rfl,?_⟩
  obtain ⟨HFk,rFj,hU431⟩:=Run.lendX (iF6.tr iFb) SF3.sl rFj
  have hFn:=nsFo.rsl
  have nvFq:New HEO cFp:=New.of_up SF3.sl (fun b hb=>nsFo.dom b (.inr hb))
  have nvFr:New HEO [vFm]:=New.of_up SF3.sl hFn.dom
  have hFn:=hFn.mono (hU431.tr (up_le SF3.size))
  have nsFo:=nsFo.mono (hU431.tr (up_le SF3.size))
  have hFt:=nsFu.rsl
  have nvFw:New HEO cFv:=New.of_up SF3.sl (fun b hb=>nsFu.dom b (.inr hb))
  have nvFx:New HEO [vFs]:=New.of_up SF3.sl hFt.dom
  have hFt:=hFt.mono (hU431.tr (up_le SF3.size))
  have nsFu:=nsFu.mono (hU431.tr (up_le SF3.size))
  have SFi:=SF3.call rFj
  refine FL.v (E.fieldAddr zap rfl) ?_
  obtain ⟨wFz,runFA,SFB⟩:=SFi.store (P:=Tryz.prog) (t:=68) (i:=0) (j:=0) (cs':=[vFm,vFs,Value.int .i64 1,Value.string ByteArray.empty,Value.int .i64 0,Value.int .i64 0]) (l':=(.box bF0 74 [vFm,vFs,Value.int .i64 1,Value.string ByteArray.empty,Value.int .i64 0,Value.int .i64 0]::.row 9 1 vEQ nER csES::.row 9 1 vCG nCH csCI::.row 9 1 vAC nAD csAE::.row 9 1 vAl nAm csAn::.row 9 1 vA4 nA5 csA6::.row 9 1 v93 1 [Value.string y85.text]::.box b0 92 [vCL,Value.bool sCK.2.1]::.row 74 6 vCL nCM csCN::L)) (v:=Value.agg #[vFm,vFs]) (c:=[vFm,vFs]) rfl Tryz.sizeOf68 rfl rfl (zaa hFn.one (zaa hFt.one zag)) (Nat.le_of_ble_eq_true rfl) rfl rfl
  refine FL.act rfl rfl (E.store rfl rfl runFA) ?_
  obtain ⟨HFC,SFD,iFE,atFF⟩:=SFB.sealBox (i:=0) (l':=(.row 9 1 vEQ nER csES::.row 9 1 vCG nCH csCI::.row 9 1 vAC nAD csAE::.row 9 1 vAl nAm csAn::.row 9 1 vA4 nA5 csA6::.row 9 1 v93 1 [Value.string y85.text]::.box b0 92 [vCL,Value.bool sCK.2.1]::.row 74 6 vCL nCM csCN::L)) rfl rfl
  refine FL.nil (FW.seq (FW.region ?_))
  refine FL.v (E.move (v:=Value.pointer (some (⟨b0,0,none⟩:Addr))) rfl) ?_
  refine FL.v (E.move (v:=Value.pointer (some (⟨b0,0,none⟩:Addr))) rfl) ?_
  refine FL.v (E.nilCheck rfl) ?_
  refine FL.v (E.fieldAddr zaU rfl) ?_
  refine FL.v (E.load rfl (zaf Tryz.isAgg4 (SFD.box_now (i:=6) rfl) rfl)) ?_
  refine FL.v (E.move (v:=Value.bool sCK.2.1) rfl) ?_
  obtain ⟨t452,hqtFG,hp⟩:=bnd hp
  refine FL.cut 5 (fun f w=>∃ H:GH,St H0 w0 H w (.row 9 1 vEQ nER csES::.row 9 1 vCG nCH csCI::.row 9 1 vAC nAD csAE::.row 9 1 vAl nAm csAn::.row 9 1 vA4 nA5 csA6::.row 9 1 v93 1 [Value.string y85.text]::.box b0 92 [vCL,Value.bool sCK.2.1]::.row 74 6 vCL nCM csCN::L)∧Inc HFC H∧f 0=Value.pointer (some (⟨b0,0,none⟩:Addr))∧f 3=Value.pointer (some ⟨bF0,0,none⟩)∧f 9=Value.pointer (some (⟨b0,0,none⟩:Addr))∧f 19=Value.bool t452) ?_ ?_
  ·
   clear hp;have hp:=hqtFG;clear hqtFG
   rcases ifB hp with ⟨cFM,hp⟩|⟨cFM,hp⟩
   ·
    refine FL.skip (wF_no rfl rfl rfl cFM) rfl ?_
    refine FL.skip (wF_no rfl rfl rfl cFM) rfl ?_
    refine FL.skip (wF_no rfl rfl rfl cFM) rfl ?_
    refine FL.skip (wF_no rfl rfl rfl cFM) rfl ?_
    obtain rfl:=Option.some.inj hp
    refine FL.v (E.pickT rfl cFM rfl) ?_
    exact FL.nil ⟨rfl,_,SFD,(Inc.rfl _),rfl,rfl,rfl,rfl⟩
   ·
    refine FL.val (zab rfl rfl rfl cFM) rfl rfl (E.fieldAddr zap rfl) ?_
    refine FL.val (zab rfl rfl rfl cFM) rfl rfl (E.load rfl (zao Tryz.isAgg68 Tryz.sizeOf68 ((atFF.now SFD.sl).sub (j:=0) (n:=2) (c:=[vFm,vFs]) rfl) rfl)) ?_
    obtain ⟨rFN,hrFO,hp⟩:=bnd hp
    refine FL.call (zab rfl rfl rfl cFM) rfl rfl (E.call Tryz.call120 (A1 rfl)) (zbh SFD.sl rFe vFm (hFn.mono (upI.tr iFE)) vFs (hFt.mono (upI.tr iFE)) hrFO) ?_
    rintro e wFP ⟨rfl,rFQ⟩
    refine ⟨_,rfl,?_⟩
    have SFR:=SFD.call rFQ
    refine FL.val (zab rfl rfl rfl cFM) rfl rfl (E.not rfl) ?_
    obtain rfl:=Option.some.inj hp
    refine FL.v (E.pickF rfl cFM rfl) ?_
    exact FL.nil ⟨rfl,_,SFR,(Inc.rfl _),rfl,rfl,rfl,rfl⟩
  rintro fFL wFK ⟨HFH,SFI,iFJ,kFS,kFT,kFU,kFV⟩
  refine FL.v (E.move kFV) ?_
  refine FL.cut 7 (fun f w=>∃ H:GH,St H0 w0 H w (.row 9 1 vEQ nER csES::.row 9 1 vCG nCH csCI::.row 9 1 vAC nAD csAE::.row 9 1 vAl nAm csAn::.row 9 1 vA4 nA5 csA6::.row 9 1 v93 1 [Value.string y85.text]::.box b0 92 [vCL,Value.bool sCK.2.1]::.row 74 6 vCL nCM csCN::L)∧Inc HFH H∧f 0=Value.pointer (some (⟨b0,0,none⟩:Addr))∧f 3=Value.pointer (some ⟨bF0,0,none⟩)∧f 9=Value.pointer (some (⟨b0,0,none⟩:Addr))∧f 27=Value.bool (bif t452 then true else (decide (200≤(len sCK.1))))) ?_ ?_
  ·
   rcases bcase t452 with cG1|cG1
   ·
    refine FL.skip (wF_no rfl rfl rfl cG1) rfl ?_
    refine FL.skip (wF_no rfl rfl rfl cG1) rfl ?_
    refine FL.skip (wF_no rfl rfl rfl cG1) rfl ?_
    refine FL.skip (wF_no rfl rfl rfl cG1) rfl ?_
    refine FL.skip (wF_no rfl rfl rfl cG1) rfl ?_
    refine FL.skip (wF_no rfl rfl rfl cG1) rfl ?_
    refine FL.v (E.pickT rfl cG1 rfl) ?_
    exact FL.nil ⟨rfl,_,SFI,(Inc.rfl _),kFS,kFT,kFU,(congrArg Value.bool (bifT cG1).symm)⟩
   ·
    refine FL.val (zab rfl rfl rfl cG1) rfl rfl (E.move kFS) ?_
    refine FL.val (zab rfl rfl rfl cG1) rfl rfl (E.nilCheck rfl) ?_
    refine FL.val (zab rfl rfl rfl cG1) rfl rfl (E.fieldAddr zav rfl) ?_
    refine FL.val (zab rfl rfl rfl cG1) rfl rfl (E.load rfl (zaf Tryz.isAgg24 (SFI.box_now (i:=6) rfl) rfl)) ?_
    refine FL.val (zab rfl rfl rfl cG1) rfl rfl (E.lenO te24 rfl SFI (i:=7) rfl elsCO (by decide)) ?_
    refine FL.val (zab rfl rfl rfl cG1) rfl rfl (E.geq rfl rfl) ?_
    refine FL.v (E.pickF rfl cG1 rfl) ?_
    exact FL.nil ⟨rfl,_,SFI,(Inc.rfl _),kFS,kFT,kFU,(congrArg Value.bool (bifF cG1).symm)⟩
  rintro fG0 wFZ ⟨HFW,SFX,iFY,kG2,kG3,kG4,kG5⟩
  refine FL.v (E.nilCheck kG4) ?_
  refine FL.v (E.fieldAddr zaU rfl) ?_
  obtain ⟨wG6,runG7,SG8⟩:=SFX.store (P:=Tryz.prog) (t:=4) (i:=6) (j:=1) (cs':=[vCL,Value.bool (bif t452 then true else (decide (200≤(len sCK.1))))]) (l':=(.row 9 1 vEQ nER csES::.row 9 1 vCG nCH csCI::.row 9 1 vAC nAD csAE::.row 9 1 vAl nAm csAn::.row 9 1 vA4 nA5 csA6::.row 9 1 v93 1 [Value.string y85.text]::.box b0 92 [vCL,Value.bool (bif t452 then true else (decide (200≤(len sCK.1))))]::.row 74 6 vCL nCM csCN::L)) (v:=Value.bool (bif t452 then true else (decide (200≤(len sCK.1))))) (c:=[Value.bool (bif t452 then true else (decide (200≤(len sCK.1))))]) rfl Tryz.sizeOf4 rfl rfl (zaa rfl zag) (Nat.le_of_ble_eq_true rfl) rfl rfl
  refine FL.act rfl rfl (E.store rfl kG5 runG7) ?_
  refine FL.nil (FW.seq ?_)
  obtain ⟨xsGj,hzGk,hp⟩:=bnd hp
  refine FW.drawB (Sl HFW) (fun f w=>∃ H:GH,∃ vGy:Value,∃ nGz:Nat,∃ csGA:List Value,St H0 w0 H w (.row 9 1 vEQ nER csES::.row 9 1 vCG nCH csCI::.row 9 1 vAC nAD csAE::.row 9 1 vAl nAm csAn::.row 9 1 vA4 nA5 csA6::.row 9 1 v93 1 [Value.string y85.text]::.box b0 92 [vGy,Value.bool (bif t452 then true else (decide (200≤(len sCK.1))))]::.row 74 6 vGy nGz csGA::L)∧Inc HFW H∧Els (up w0.heap.size H) eSeqStep 6 csGA xsGj∧(bl csGA).Nodup∧f 0=Value.pointer (some (⟨b0,0,none⟩:Addr))) (by kernel_rfl) SG8.sl ?_ ?_
  ·
   intro wG9 rGa
   have SGb:=SG8.call rGa
   refine FB.phase [10] (fun w=>WAt w (Addr.add ⟨b0,0,none⟩ 0) [vCL]) ?_
   refine FB.t (i:=0) (bs 11 1) rfl (SP.on ((SGb.box_now (i:=6) rfl).sub (j:=0) (n:=1) (c:=[vCL]) rfl) (SP.nil SGb.sl)) rfl (fun w' hw'=>(E.move kG2)) ?_
   refine FB.t (i:=1) (bs 11 3) rfl (SP.on ((SGb.box_now (i:=6) rfl).sub (j:=0) (n:=1) (c:=[vCL]) rfl) (SP.nil SGb.sl)) rfl (fun w' hw'=>(E.move kG2)) ?_
   refine FB.t (i:=2) (bs 11 7) rfl (SP.on ((SGb.box_now (i:=6) rfl).sub (j:=0) (n:=1) (c:=[vCL]) rfl) (SP.nil SGb.sl)) rfl (fun w' hw'=>(E.nilCheck rfl)) ?_
   refine FB.t (i:=3) (bs 11 15) rfl (SP.on ((SGb.box_now (i:=6) rfl).sub (j:=0) (n:=1) (c:=[vCL]) rfl) (SP.nil SGb.sl)) rfl (fun w' hw'=>(E.fieldAddr zav rfl)) ?_
   refine FB.p (i:=4) (bs 11 31) 0 [7,8,9,10] rfl (SP.on ((SGb.box_now (i:=6) rfl).sub (j:=0) (n:=1) (c:=[vCL]) rfl) (SP.nil SGb.sl)) rfl rfl (fun w' hw'=>(E.load rfl (zar Tryz.isAgg24 hw' rfl))) ?_
   refine FB.t (i:=5) (bs 11 63) rfl (SP.on ((SGb.box_now (i:=6) rfl).sub (j:=0) (n:=1) (c:=[vCL]) rfl) (SP.nil SGb.sl)) rfl (fun w' hw'=>(E.load kG3 (zao Tryz.isAgg74 Tryz.sizeOf74 ((atFF.mono (iFJ.tr iFY)).now hw') rfl))) ?_
   refine FB.all1 (i:=6) (by kernel_rfl) ?_
   ·
    obtain ⟨vGc,wGd,runGe,SGf⟩:=SGb.buildSlice (P:=Tryz.prog) te24 [Value.agg #[vFm,vFs,Value.int .i64 1,Value.string ByteArray.empty,Value.int .i64 0,Value.int .i64 0]] (parts:=#[(0,Value.agg #[vFm,vFs,Value.int .i64 1,Value.string ByteArray.empty,Value.int .i64 0,Value.int .i64 0])]) (cells:=[vFm,vFs,Value.int .i64 1,Value.string ByteArray.empty,Value.int .i64 0,Value.int .i64 0]) rfl (zan rfl zal) (zam rfl zak) (zaa hFn.one (zaa hFt.one (zaa rfl (zaa rfl (zaa rfl (zaa rfl zag)))))) (Nat.le_of_ble_eq_true rfl)
    have elsGg:Els (up w0.heap.size HFW) eSeqStep 6 [vFm,vFs,Value.int .i64 1,Value.string ByteArray.empty,Value.int .i64 0,Value.int .i64 0] [(zac.mk rFe 1 ByteArray.empty 0 0)]:=(Els.snoc (H:=(up w0.heap.size HFW)) (E:=eSeqStep) (k:=6) (c:=[vFm,vFs,Value.int .i64 1,Value.string ByteArray.empty,Value.int .i64 0,Value.int .i64 0]) (x:=(zac.mk rFe 1 ByteArray.empty 0 0)) Els.nil rfl ⟨_,_,rfl,(hFn.mono (zai ((iFE.tr iFJ).tr iFY))),(hFt.mono (zai ((iFE.tr iFJ).tr iFY)))⟩)
    have ndGh:(bl [vFm,vFs,Value.int .i64 1,Value.string ByteArray.empty,Value.int .i64 0,Value.int .i64 0]).Nodup:=by exact zaR ap444.dis
    have nvGi:New HEO [vFm,vFs,Value.int .i64 1,Value.string ByteArray.empty,Value.int .i64 0,Value.int .i64 0]:=by exact (New.two nvFr nvFx)
    refine FC.val (l':=(bs 11 127)) rfl (by kernel_rfl) rfl rfl rfl (E.buildSlice (B1 rfl) runGe) ?_
    refine ⟨(SP.on ((SGf.box_now (i:=7) rfl).sub (j:=0) (n:=1) (c:=[vCL]) rfl) (SP.nil SGf.sl)),?_⟩
    refine FB.all1 (i:=7) (by kernel_rfl) ?_
    ·
     obtain ⟨vGl,wGo,nGm,csGn,runGp,SGq,elsGr,ceGs⟩:=SGf.appendO (P:=Tryz.prog) te24 (i:=8) (j:=0) rfl (elsCO.mono (zai ((((rEN.run.inc.tr rFj.inc).tr iFE).tr iFJ).tr iFY))) rfl elsGg hzGk
     have SGq:St H0 w0 HFW wGo (.row 74 6 vGc 1 [vFm,vFs,Value.int .i64 1,Value.string ByteArray.empty,Value.int .i64 0,Value.int .i64 0]::.row 9 1 vEQ nER csES::.row 9 1 vCG nCH csCI::.row 9 1 vAC nAD csAE::.row 9 1 vAl nAm csAn::.row 9 1 vA4 nA5 csA6::.row 9 1 v93 1 [Value.string y85.text]::.box b0 92 [vCL,Value.bool (bif t452 then true else (decide (200≤(len sCK.1))))]::.row 74 6 vGl nGm csGn::L):=SGq
     have ndGt:(bl csGn).Nodup:=by rw [ceGs];exact za0 ndCP ndGh (Els.dom (elsCO.mono (upI.tr rEN.run.inc))) (by exact nvGi)
     have SGu:St H0 w0 HFW wGo (.row 9 1 vEQ nER csES::.row 9 1 vCG nCH csCI::.row 9 1 vAC nAD csAE::.row 9 1 vAl nAm csAn::.row 9 1 vA4 nA5 csA6::.row 9 1 v93 1 [Value.string y85.text]::.box b0 92 [vCL,Value.bool (bif t452 then true else (decide (200≤(len sCK.1))))]::.row 74 6 vGl nGm csGn::L):=SGq.drop 0
     refine FC.val (l':=(bs 11 255)) rfl (by kernel_rfl) rfl rfl rfl (E.append rfl rfl runGp) ?_
     refine ⟨(SP.on ((SGu.box_now (i:=6) rfl).sub (j:=0) (n:=1) (c:=[vCL]) rfl) (SP.nil SGu.sl)),?_⟩
     refine FB.t (i:=8) (bs 11 511) rfl (SP.on ((SGu.box_now (i:=6) rfl).sub (j:=0) (n:=1) (c:=[vCL]) rfl) (SP.nil SGu.sl)) rfl (fun w' hw'=>(E.nilCheck rfl)) ?_
     refine FB.t (i:=9) (bs 11 1023) rfl (SP.on ((SGu.box_now (i:=6) rfl).sub (j:=0) (n:=1) (c:=[vCL]) rfl) (SP.nil SGu.sl)) rfl (fun w' hw'=>(E.fieldAddr zav rfl)) ?_
     refine FB.all1 (i:=10) (by kernel_rfl) ?_
     ·
      obtain ⟨wGv,runGw,SGx⟩:=SGu.store (P:=Tryz.prog) (t:=24) (i:=6) (j:=0) (cs':=[vGl,Value.bool (bif t452 then true else (decide (200≤(len sCK.1))))]) (l':=(.row 9 1 vEQ nER csES::.row 9 1 vCG nCH csCI::.row 9 1 vAC nAD csAE::.row 9 1 vAl nAm csAn::.row 9 1 vA4 nA5 csA6::.row 9 1 v93 1 [Value.string y85.text]::.box b0 92 [vGl,Value.bool (bif t452 then true else (decide (200≤(len sCK.1))))]::.row 74 6 vGl nGm csGn::L)) (v:=vGl) (c:=[vGl]) rfl Tryz.sizeOf24 (Ln.cells (SGu.row_ln (i:=7) rfl)) rfl (zaa (Ln.one (SGu.row_ln (i:=7) rfl)) zag) (Nat.le_of_ble_eq_true rfl) rfl rfl
      refine FC.act (l':=(bs 11 2047)) rfl (by kernel_rfl) rfl rfl (E.store rfl rfl runGw) ?_
      refine ⟨(SP.o (SP.nil SGx.sl)),?_⟩
      exact FB.done (by kernel_rfl) ⟨_,_,_,_,SGx,(Inc.rfl _),elsGr,ndGt,kG2⟩
  ·
   rintro fGH wGG ⟨HGD,vGy,nGz,csGA,SGE,iGF,elsGB,ndGC,kGI⟩
   refine FW.seq (FW.region ?_)
   refine FL.v (E.move kGI) ?_
   refine FL.v (E.nilCheck rfl) ?_
   refine FL.v (E.fieldAddr zav rfl) ?_
   refine FL.v (E.load rfl (zaf Tryz.isAgg24 (SGE.box_now (i:=6) rfl) rfl)) ?_
   refine FL.v (E.lenO te24 rfl SGE (i:=7) rfl elsGB (by decide)) ?_
   refine FL.v (E.sub rfl rfl) ?_
   refine FL.v (E.assign (v:=Value.int .i64 (wr ((len xsGj) - 1))) rfl) ?_
   refine FL.nil ?_
   refine FW.ret ?_
   obtain rfl:=Option.some.inj hp
   exact ⟨.inr rfl,res1 rfl rfl (by rw [hREU];exact ⟨_,_,_,_,rfl,SGE,((((rFj.inc.tr iFE).tr iFJ).tr iFY).tr iGF),elsGB,ndGC⟩)⟩
 clear hqEU
 refine FL.call rfl rfl rfl (E.call Tryz.call70 (A2 rfl rfl)) hcEU ?_
 intro e wGM hQEU
 rw [hREU] at hQEU
 obtain ⟨HGJ,vEV,nEW,csEX,rfl,SGK,iGL,elsEY,ndEZ⟩:=hQEU
 refine ⟨_,rfl,?_⟩
 refine FL.v (E.assign (v:=Value.int .i64 sEU.2.2) rfl) ?_
 refine FL.nil (FW.seq (FW.region ?_))
 refine FL.v (E.move (v:=Value.pointer (some (⟨b0,0,none⟩:Addr))) rfl) ?_
 refine FL.v (E.move (v:=vAl) rfl) ?_
 refine FL.v (E.move (v:=v93) rfl) ?_
 obtain ⟨HGN,SGO,iGP,hGQ,nvGR⟩:=SGK.sealRowU (i:=3) (l':=(.row 9 1 vEQ nER csES::.row 9 1 vCG nCH csCI::.row 9 1 vAC nAD csAE::.row 9 1 vA4 nA5 csA6::.row 9 1 v93 1 [Value.string y85.text]::.box b0 92 [vEV,Value.bool sEU.2.1]::.row 74 6 vEV nEW csEX::L)) rfl (elsAo.mono (zai (((((rAz.run.inc.tr iCr).tr rCD.run.inc).tr iEB).tr rEN.run.inc).tr iGL))) (by decide) rfl
 obtain ⟨HGS,SGT,iGU,hGV,nvGW⟩:=SGO.sealRowU (i:=4) (l':=(.row 9 1 vEQ nER csES::.row 9 1 vCG nCH csCI::.row 9 1 vAC nAD csAE::.row 9 1 vA4 nA5 csA6::.box b0 92 [vEV,Value.bool sEU.2.1]::.row 74 6 vEV nEW csEX::L)) rfl (els97.mono (zai ((((((((rA3.run.inc.tr rAi.run.inc).tr rAz.run.inc).tr iCr).tr rCD.run.inc).tr iEB).tr rEN.run.inc).tr iGL).tr iGP))) (by decide) rfl
 obtain ⟨rGX,hrGY,hp⟩:=bnd hp
 refine FL.call rfl rfl rfl (E.call Tryz.call68 (A2 rfl rfl)) (zaw SGT.sl vAl rAd (hGQ.mono (upI.tr iGU)) v93 [y85.text] (hGV.mono upI) hrGY) ?_
 rintro e wH0 ⟨HGZ,vH5,nH6,csH7,rfl,rH2,elsH8⟩
 refine ⟨_,rfl,?_⟩
 obtain ⟨HH3,rH2,hU538⟩:=St.lendX (iGP.tr iGU) SGK.sl rH2
 have elsH8:=elsH8.mono (hU538.tr (up_le SGK.size))
 have SH1:=SGK.join (l':=(.row 9 1 vH5 nH6 csH7::.row 9 1 vEQ nER csES::.row 9 1 vCG nCH csCI::.row 9 1 vAC nAD csAE::.row 9 1 vAl nAm csAn::.row 9 1 vA4 nA5 csA6::.row 9 1 v93 1 [Value.string y85.text]::.box b0 92 [vEV,Value.bool sEU.2.1]::.row 74 6 vEV nEW csEX::L)) rH2 rfl
 refine FL.v (E.move (v:=v93) rfl) ?_
 refine FL.v (E.build (B2 rfl rfl) (run_build _ 68 #[(0,vH5),(1,v93)] #[vH5,v93] (by obtain ⟨_,_,rfl⟩:=SH1.row_ln (i:=0) rfl;obtain ⟨_,_,rfl⟩:=SH1.row_ln (i:=6) rfl;rfl))) ?_
 refine FL.v (E.build (B2 rfl rfl) (run_build _ 74 #[(0,Value.agg #[vH5,v93]),(1,Value.int .i64 1)] #[vH5,v93,Value.int .i64 1,Value.string ByteArray.empty,Value.int .i64 0,Value.int .i64 0] (by obtain ⟨_,_,rfl⟩:=SH1.row_ln (i:=0) rfl;obtain ⟨_,_,rfl⟩:=SH1.row_ln (i:=6) rfl;rfl))) ?_
 obtain ⟨sH9,hqH9,hp⟩:=bnd hp
 obtain ⟨R543,hRH9⟩:∃ R543:((List zac)×Bool×Int)→Ending→World→Prop,R543=(fun sH9 e w=>∃ H:GH,∃ vHa:Value,∃ nHb:Nat,∃ csHc:List Value,e=Ending.returned (Value.int .i64 sH9.2.2)∧St H0 w0 H w (.row 9 1 vH5 nH6 csH7::.row 9 1 vEQ nER csES::.row 9 1 vCG nCH csCI::.row 9 1 vAC nAD csAE::.row 9 1 vAl nAm csAn::.row 9 1 vA4 nA5 csA6::.row 9 1 v93 1 [Value.string y85.text]::.box b0 92 [vHa,Value.bool sH9.2.1]::.row 74 6 vHa nHb csHc::L)∧Inc HH3 H∧Els (up w0.heap.size H) eSeqStep 6 csHc sH9.1∧(bl csHc).Nodup):=⟨_,rfl⟩
 have hcH9:Calls Tryz.prog 70 #[Value.pointer (some (⟨b0,0,none⟩:Addr)),Value.agg #[vH5,v93,Value.int .i64 1,Value.string ByteArray.empty,Value.int .i64 0,Value.int .i64 0]] wH0 (R543 sH9):=by
  clear hp;have hp:=hqH9;clear hqH9
  refine zaj (N:=46) (args:=[Value.pointer (some (⟨b0,0,none⟩:Addr)),Value.agg #[vH5,v93,Value.int .i64 1,Value.string ByteArray.empty,Value.int .i64 0,Value.int .i64 0]]) Tryz.func70 rfl rfl rfl ?_
  refine FW.seq (FW.region ?_)
  obtain ⟨bHf,wHg,runHh,SHi⟩:=SH1.box (P:=Tryz.prog) 74 [vH5,v93,Value.int .i64 1,Value.string ByteArray.empty,Value.int .i64 0,Value.int .i64 0] (v:=Value.agg #[vH5,v93,Value.int .i64 1,Value.string ByteArray.empty,Value.int .i64 0,Value.int .i64 0]) rfl (zaa (Ln.one (SH1.row_ln (i:=0) rfl)) (zaa (Ln.one (SH1.row_ln (i:=6) rfl)) (zaa rfl (zaa rfl (zaa rfl (zaa rfl zag))))))
  refine FL.v (E.box rfl runHh) ?_
  refine FL.v (E.assign (v:=Value.int .i64 0) rfl) ?_
  refine FL.nil (FW.seq (FW.region ?_))
  refine FL.v (E.fieldAddr zap rfl) ?_
  refine FL.v (E.load rfl (zao Tryz.isAgg68 Tryz.sizeOf68 ((SHi.box_now (i:=0) rfl).sub (j:=0) (n:=2) (c:=[vH5,v93]) rfl) rfl)) ?_
  obtain ⟨HHj,SHk,iHl,hHm,nvHn⟩:=SHi.sealRowU (i:=1) (l':=(.box bHf 74 [vH5,v93,Value.int .i64 1,Value.string ByteArray.empty,Value.int .i64 0,Value.int .i64 0]::.row 9 1 vEQ nER csES::.row 9 1 vCG nCH csCI::.row 9 1 vAC nAD csAE::.row 9 1 vAl nAm csAn::.row 9 1 vA4 nA5 csA6::.row 9 1 v93 1 [Value.string y85.text]::.box b0 92 [vEV,Value.bool sEU.2.1]::.row 74 6 vEV nEW csEX::L)) rfl elsH8 (by decide) rfl
  obtain ⟨HHo,SHp,iHq,hHr,nvHs⟩:=SHk.sealRowU (i:=6) (l':=(.box bHf 74 [vH5,v93,Value.int .i64 1,Value.string ByteArray.empty,Value.int .i64 0,Value.int .i64 0]::.row 9 1 vEQ nER csES::.row 9 1 vCG nCH csCI::.row 9 1 vAC nAD csAE::.row 9 1 vAl nAm csAn::.row 9 1 vA4 nA5 csA6::.box b0 92 [vEV,Value.bool sEU.2.1]::.row 74 6 vEV nEW csEX::L)) rfl (els97.mono (zai (((((((((rA3.run.inc.tr rAi.run.inc).tr rAz.run.inc).tr iCr).tr rCD.run.inc).tr iEB).tr rEN.run.inc).tr iGL).tr rH2.run.inc).tr iHl))) (by decide) rfl
  obtain ⟨rHt,hrHu,hp⟩:=bnd hp
  refine FL.call rfl rfl rfl (E.call Tryz.call114 (A1 rfl)) (zbC SHp.sl (zad.mk rGX [y85.text]) vH5 (hHm.mono (upI.tr iHq)) v93 (hHr.mono upI) hrHu) ?_
  rintro e wHw ⟨HHv,vHB,vHH,rfl,rHy,⟨cHE,cHK,nsHD,nsHJ,ap583⟩⟩
  refine ⟨_,rfl,?_⟩
  obtain ⟨HHz,rHy,hU570⟩:=Run.lendX (iHl.tr iHq) SHi.sl rHy
  have hHC:=nsHD.rsl
  have nvHF:New HH3 cHE:=New.of_up SHi.sl (fun b hb=>nsHD.dom b (.inr hb))
  have nvHG:New HH3 [vHB]:=New.of_up SHi.sl hHC.dom
  have hHC:=hHC.mono (hU570.tr (up_le SHi.size))
  have nsHD:=nsHD.mono (hU570.tr (up_le SHi.size))
  have hHI:=nsHJ.rsl
  have nvHL:New HH3 cHK:=New.of_up SHi.sl (fun b hb=>nsHJ.dom b (.inr hb))
  have nvHM:New HH3 [vHH]:=New.of_up SHi.sl hHI.dom
  have hHI:=hHI.mono (hU570.tr (up_le SHi.size))
  have nsHJ:=nsHJ.mono (hU570.tr (up_le SHi.size))
  have SHx:=SHi.call rHy
  refine FL.v (E.fieldAddr zap rfl) ?_
  obtain ⟨wHO,runHP,SHQ⟩:=SHx.store (P:=Tryz.prog) (t:=68) (i:=0) (j:=0) (cs':=[vHB,vHH,Value.int .i64 1,Value.string ByteArray.empty,Value.int .i64 0,Value.int .i64 0]) (l':=(.box bHf 74 [vHB,vHH,Value.int .i64 1,Value.string ByteArray.empty,Value.int .i64 0,Value.int .i64 0]::.row 9 1 vH5 nH6 csH7::.row 9 1 vEQ nER csES::.row 9 1 vCG nCH csCI::.row 9 1 vAC nAD csAE::.row 9 1 vAl nAm csAn::.row 9 1 vA4 nA5 csA6::.row 9 1 v93 1 [Value.string y85.text]::.box b0 92 [vEV,Value.bool sEU.2.1]::.row 74 6 vEV nEW csEX::L)) (v:=Value.agg #[vHB,vHH]) (c:=[vHB,vHH]) rfl Tryz.sizeOf68 rfl rfl (zaa hHC.one (zaa hHI.one zag)) (Nat.le_of_ble_eq_true rfl) rfl rfl
  refine FL.act rfl rfl (E.store rfl rfl runHP) ?_
  obtain ⟨HHR,SHS,iHT,atHU⟩:=SHQ.sealBox (i:=0) (l':=(.row 9 1 vH5 nH6 csH7::.row 9 1 vEQ nER csES::.row 9 1 vCG nCH csCI::.row 9 1 vAC nAD csAE::.row 9 1 vAl nAm csAn::.row 9 1 vA4 nA5 csA6::.row 9 1 v93 1 [Value.string y85.text]::.box b0 92 [vEV,Value.bool sEU.2.1]::.row 74 6 vEV nEW csEX::L)) rfl rfl
  refine FL.nil (FW.seq (FW.region ?_))
  refine FL.v (E.move (v:=Value.pointer (some (⟨b0,0,none⟩:Addr))) rfl) ?_
  refine FL.v (E.move (v:=Value.pointer (some (⟨b0,0,none⟩:Addr))) rfl) ?_
  refine FL.v (E.nilCheck rfl) ?_
  refine FL.v (E.fieldAddr zaU rfl) ?_
  refine FL.v (E.load rfl (zaf Tryz.isAgg4 (SHS.box_now (i:=7) rfl) rfl)) ?_
  refine FL.v (E.move (v:=Value.bool sEU.2.1) rfl) ?_
  obtain ⟨t591,hqtHV,hp⟩:=bnd hp
  refine FL.cut 5 (fun f w=>∃ H:GH,St H0 w0 H w (.row 9 1 vH5 nH6 csH7::.row 9 1 vEQ nER csES::.row 9 1 vCG nCH csCI::.row 9 1 vAC nAD csAE::.row 9 1 vAl nAm csAn::.row 9 1 vA4 nA5 csA6::.row 9 1 v93 1 [Value.string y85.text]::.box b0 92 [vEV,Value.bool sEU.2.1]::.row 74 6 vEV nEW csEX::L)∧Inc HHR H∧f 0=Value.pointer (some (⟨b0,0,none⟩:Addr))∧f 3=Value.pointer (some ⟨bHf,0,none⟩)∧f 9=Value.pointer (some (⟨b0,0,none⟩:Addr))∧f 19=Value.bool t591) ?_ ?_
  ·
   clear hp;have hp:=hqtHV;clear hqtHV
   rcases ifB hp with ⟨cI1,hp⟩|⟨cI1,hp⟩
   ·
    refine FL.skip (wF_no rfl rfl rfl cI1) rfl ?_
    refine FL.skip (wF_no rfl rfl rfl cI1) rfl ?_
    refine FL.skip (wF_no rfl rfl rfl cI1) rfl ?_
    refine FL.skip (wF_no rfl rfl rfl cI1) rfl ?_
    obtain rfl:=Option.some.inj hp
    refine FL.v (E.pickT rfl cI1 rfl) ?_
    exact FL.nil ⟨rfl,_,SHS,(Inc.rfl _),rfl,rfl,rfl,rfl⟩
   ·
    refine FL.val (zab rfl rfl rfl cI1) rfl rfl (E.fieldAddr zap rfl) ?_
    refine FL.val (zab rfl rfl rfl cI1) rfl rfl (E.load rfl (zao Tryz.isAgg68 Tryz.sizeOf68 ((atHU.now SHS.sl).sub (j:=0) (n:=2) (c:=[vHB,vHH]) rfl) rfl)) ?_
    obtain ⟨rI2,hrI3,hp⟩:=bnd hp
    refine FL.call (zab rfl rfl rfl cI1) rfl rfl (E.call Tryz.call120 (A1 rfl)) (zbh SHS.sl rHt vHB (hHC.mono (upI.tr iHT)) vHH (hHI.mono (upI.tr iHT)) hrI3) ?_
    rintro e wI4 ⟨rfl,rI5⟩
    refine ⟨_,rfl,?_⟩
    have SI6:=SHS.call rI5
    refine FL.val (zab rfl rfl rfl cI1) rfl rfl (E.not rfl) ?_
    obtain rfl:=Option.some.inj hp
    refine FL.v (E.pickF rfl cI1 rfl) ?_
    exact FL.nil ⟨rfl,_,SI6,(Inc.rfl _),rfl,rfl,rfl,rfl⟩
  rintro fI0 wHZ ⟨HHW,SHX,iHY,kI7,kI8,kI9,kIa⟩
  refine FL.v (E.move kIa) ?_
  refine FL.cut 7 (fun f w=>∃ H:GH,St H0 w0 H w (.row 9 1 vH5 nH6 csH7::.row 9 1 vEQ nER csES::.row 9 1 vCG nCH csCI::.row 9 1 vAC nAD csAE::.row 9 1 vAl nAm csAn::.row 9 1 vA4 nA5 csA6::.row 9 1 v93 1 [Value.string y85.text]::.box b0 92 [vEV,Value.bool sEU.2.1]::.row 74 6 vEV nEW csEX::L)∧Inc HHW H∧f 0=Value.pointer (some (⟨b0,0,none⟩:Addr))∧f 3=Value.pointer (some ⟨bHf,0,none⟩)∧f 9=Value.pointer (some (⟨b0,0,none⟩:Addr))∧f 27=Value.bool (bif t591 then true else (decide (200≤(len sEU.1))))) ?_ ?_
  ·
   rcases bcase t591 with cIg|cIg
   ·
    refine FL.skip (wF_no rfl rfl rfl cIg) rfl ?_
    refine FL.skip (wF_no rfl rfl rfl cIg) rfl ?_
    refine FL.skip (wF_no rfl rfl rfl cIg) rfl ?_
    refine FL.skip (wF_no rfl rfl rfl cIg) rfl ?_
    refine FL.skip (wF_no rfl rfl rfl cIg) rfl ?_
    refine FL.skip (wF_no rfl rfl rfl cIg) rfl ?_
    refine FL.v (E.pickT rfl cIg rfl) ?_
    exact FL.nil ⟨rfl,_,SHX,(Inc.rfl _),kI7,kI8,kI9,(congrArg Value.bool (bifT cIg).symm)⟩
   ·
    refine FL.val (zab rfl rfl rfl cIg) rfl rfl (E.move kI7) ?_
    refine FL.val (zab rfl rfl rfl cIg) rfl rfl (E.nilCheck rfl) ?_
    refine FL.val (zab rfl rfl rfl cIg) rfl rfl (E.fieldAddr zav rfl) ?_
    refine FL.val (zab rfl rfl rfl cIg) rfl rfl (E.load rfl (zaf Tryz.isAgg24 (SHX.box_now (i:=7) rfl) rfl)) ?_
    refine FL.val (zab rfl rfl rfl cIg) rfl rfl (E.lenO te24 rfl SHX (i:=8) rfl elsEY (by decide)) ?_
    refine FL.val (zab rfl rfl rfl cIg) rfl rfl (E.geq rfl rfl) ?_
    refine FL.v (E.pickF rfl cIg rfl) ?_
    exact FL.nil ⟨rfl,_,SHX,(Inc.rfl _),kI7,kI8,kI9,(congrArg Value.bool (bifF cIg).symm)⟩
  rintro fIf wIe ⟨HIb,SIc,iId,kIh,kIi,kIj,kIk⟩
  refine FL.v (E.nilCheck kIj) ?_
  refine FL.v (E.fieldAddr zaU rfl) ?_
  obtain ⟨wIl,runIm,SIn⟩:=SIc.store (P:=Tryz.prog) (t:=4) (i:=7) (j:=1) (cs':=[vEV,Value.bool (bif t591 then true else (decide (200≤(len sEU.1))))]) (l':=(.row 9 1 vH5 nH6 csH7::.row 9 1 vEQ nER csES::.row 9 1 vCG nCH csCI::.row 9 1 vAC nAD csAE::.row 9 1 vAl nAm csAn::.row 9 1 vA4 nA5 csA6::.row 9 1 v93 1 [Value.string y85.text]::.box b0 92 [vEV,Value.bool (bif t591 then true else (decide (200≤(len sEU.1))))]::.row 74 6 vEV nEW csEX::L)) (v:=Value.bool (bif t591 then true else (decide (200≤(len sEU.1))))) (c:=[Value.bool (bif t591 then true else (decide (200≤(len sEU.1))))]) rfl Tryz.sizeOf4 rfl rfl (zaa rfl zag) (Nat.le_of_ble_eq_true rfl) rfl rfl
  refine FL.act rfl rfl (E.store rfl kIk runIm) ?_
  refine FL.nil (FW.seq ?_)
  obtain ⟨xsIy,hzIz,hp⟩:=bnd hp
  refine FW.drawB (Sl HIb) (fun f w=>∃ H:GH,∃ vIN:Value,∃ nIO:Nat,∃ csIP:List Value,St H0 w0 H w (.row 9 1 vH5 nH6 csH7::.row 9 1 vEQ nER csES::.row 9 1 vCG nCH csCI::.row 9 1 vAC nAD csAE::.row 9 1 vAl nAm csAn::.row 9 1 vA4 nA5 csA6::.row 9 1 v93 1 [Value.string y85.text]::.box b0 92 [vIN,Value.bool (bif t591 then true else (decide (200≤(len sEU.1))))]::.row 74 6 vIN nIO csIP::L)∧Inc HIb H∧Els (up w0.heap.size H) eSeqStep 6 csIP xsIy∧(bl csIP).Nodup∧f 0=Value.pointer (some (⟨b0,0,none⟩:Addr))) (by kernel_rfl) SIn.sl ?_ ?_
  ·
   intro wIo rIp
   have SIq:=SIn.call rIp
   refine FB.phase [10] (fun w=>WAt w (Addr.add ⟨b0,0,none⟩ 0) [vEV]) ?_
   refine FB.t (i:=0) (bs 11 1) rfl (SP.on ((SIq.box_now (i:=7) rfl).sub (j:=0) (n:=1) (c:=[vEV]) rfl) (SP.nil SIq.sl)) rfl (fun w' hw'=>(E.move kIh)) ?_
   refine FB.t (i:=1) (bs 11 3) rfl (SP.on ((SIq.box_now (i:=7) rfl).sub (j:=0) (n:=1) (c:=[vEV]) rfl) (SP.nil SIq.sl)) rfl (fun w' hw'=>(E.move kIh)) ?_
   refine FB.t (i:=2) (bs 11 7) rfl (SP.on ((SIq.box_now (i:=7) rfl).sub (j:=0) (n:=1) (c:=[vEV]) rfl) (SP.nil SIq.sl)) rfl (fun w' hw'=>(E.nilCheck rfl)) ?_
   refine FB.t (i:=3) (bs 11 15) rfl (SP.on ((SIq.box_now (i:=7) rfl).sub (j:=0) (n:=1) (c:=[vEV]) rfl) (SP.nil SIq.sl)) rfl (fun w' hw'=>(E.fieldAddr zav rfl)) ?_
   refine FB.p (i:=4) (bs 11 31) 0 [7,8,9,10] rfl (SP.on ((SIq.box_now (i:=7) rfl).sub (j:=0) (n:=1) (c:=[vEV]) rfl) (SP.nil SIq.sl)) rfl rfl (fun w' hw'=>(E.load rfl (zar Tryz.isAgg24 hw' rfl))) ?_
   refine FB.t (i:=5) (bs 11 63) rfl (SP.on ((SIq.box_now (i:=7) rfl).sub (j:=0) (n:=1) (c:=[vEV]) rfl) (SP.nil SIq.sl)) rfl (fun w' hw'=>(E.load kIi (zao Tryz.isAgg74 Tryz.sizeOf74 ((atHU.mono (iHY.tr iId)).now hw') rfl))) ?_
   refine FB.all1 (i:=6) (by kernel_rfl) ?_
   ·
    obtain ⟨vIr,wIs,runIt,SIu⟩:=SIq.buildSlice (P:=Tryz.prog) te24 [Value.agg #[vHB,vHH,Value.int .i64 1,Value.string ByteArray.empty,Value.int .i64 0,Value.int .i64 0]] (parts:=#[(0,Value.agg #[vHB,vHH,Value.int .i64 1,Value.string ByteArray.empty,Value.int .i64 0,Value.int .i64 0])]) (cells:=[vHB,vHH,Value.int .i64 1,Value.string ByteArray.empty,Value.int .i64 0,Value.int .i64 0]) rfl (zan rfl zal) (zam rfl zak) (zaa hHC.one (zaa hHI.one (zaa rfl (zaa rfl (zaa rfl (zaa rfl zag)))))) (Nat.le_of_ble_eq_true rfl)
    have elsIv:Els (up w0.heap.size HIb) eSeqStep 6 [vHB,vHH,Value.int .i64 1,Value.string ByteArray.empty,Value.int .i64 0,Value.int .i64 0] [(zac.mk rHt 1 ByteArray.empty 0 0)]:=(Els.snoc (H:=(up w0.heap.size HIb)) (E:=eSeqStep) (k:=6) (c:=[vHB,vHH,Value.int .i64 1,Value.string ByteArray.empty,Value.int .i64 0,Value.int .i64 0]) (x:=(zac.mk rHt 1 ByteArray.empty 0 0)) Els.nil rfl ⟨_,_,rfl,(hHC.mono (zai ((iHT.tr iHY).tr iId))),(hHI.mono (zai ((iHT.tr iHY).tr iId)))⟩)
    have ndIw:(bl [vHB,vHH,Value.int .i64 1,Value.string ByteArray.empty,Value.int .i64 0,Value.int .i64 0]).Nodup:=by exact zaR ap583.dis
    have nvIx:New HH3 [vHB,vHH,Value.int .i64 1,Value.string ByteArray.empty,Value.int .i64 0,Value.int .i64 0]:=by exact (New.two nvHG nvHM)
    refine FC.val (l':=(bs 11 127)) rfl (by kernel_rfl) rfl rfl rfl (E.buildSlice (B1 rfl) runIt) ?_
    refine ⟨(SP.on ((SIu.box_now (i:=8) rfl).sub (j:=0) (n:=1) (c:=[vEV]) rfl) (SP.nil SIu.sl)),?_⟩
    refine FB.all1 (i:=7) (by kernel_rfl) ?_
    ·
     obtain ⟨vIA,wID,nIB,csIC,runIE,SIF,elsIG,ceIH⟩:=SIu.appendO (P:=Tryz.prog) te24 (i:=9) (j:=0) rfl (elsEY.mono (zai ((((rH2.run.inc.tr rHy.inc).tr iHT).tr iHY).tr iId))) rfl elsIv hzIz
     have SIF:St H0 w0 HIb wID (.row 74 6 vIr 1 [vHB,vHH,Value.int .i64 1,Value.string ByteArray.empty,Value.int .i64 0,Value.int .i64 0]::.row 9 1 vH5 nH6 csH7::.row 9 1 vEQ nER csES::.row 9 1 vCG nCH csCI::.row 9 1 vAC nAD csAE::.row 9 1 vAl nAm csAn::.row 9 1 vA4 nA5 csA6::.row 9 1 v93 1 [Value.string y85.text]::.box b0 92 [vEV,Value.bool (bif t591 then true else (decide (200≤(len sEU.1))))]::.row 74 6 vIA nIB csIC::L):=SIF
     have ndII:(bl csIC).Nodup:=by rw [ceIH];exact za0 ndEZ ndIw (Els.dom (elsEY.mono (upI.tr rH2.run.inc))) (by exact nvIx)
     have SIJ:St H0 w0 HIb wID (.row 9 1 vH5 nH6 csH7::.row 9 1 vEQ nER csES::.row 9 1 vCG nCH csCI::.row 9 1 vAC nAD csAE::.row 9 1 vAl nAm csAn::.row 9 1 vA4 nA5 csA6::.row 9 1 v93 1 [Value.string y85.text]::.box b0 92 [vEV,Value.bool (bif t591 then true else (decide (200≤(len sEU.1))))]::.row 74 6 vIA nIB csIC::L):=SIF.drop 0
     refine FC.val (l':=(bs 11 255)) rfl (by kernel_rfl) rfl rfl rfl (E.append rfl rfl runIE) ?_
     refine ⟨(SP.on ((SIJ.box_now (i:=7) rfl).sub (j:=0) (n:=1) (c:=[vEV]) rfl) (SP.nil SIJ.sl)),?_⟩
     refine FB.t (i:=8) (bs 11 511) rfl (SP.on ((SIJ.box_now (i:=7) rfl).sub (j:=0) (n:=1) (c:=[vEV]) rfl) (SP.nil SIJ.sl)) rfl (fun w' hw'=>(E.nilCheck rfl)) ?_
     refine FB.t (i:=9) (bs 11 1023) rfl (SP.on ((SIJ.box_now (i:=7) rfl).sub (j:=0) (n:=1) (c:=[vEV]) rfl) (SP.nil SIJ.sl)) rfl (fun w' hw'=>(E.fieldAddr zav rfl)) ?_
     refine FB.all1 (i:=10) (by kernel_rfl) ?_
     ·
      obtain ⟨wIK,runIL,SIM⟩:=SIJ.store (P:=Tryz.prog) (t:=24) (i:=7) (j:=0) (cs':=[vIA,Value.bool (bif t591 then true else (decide (200≤(len sEU.1))))]) (l':=(.row 9 1 vH5 nH6 csH7::.row 9 1 vEQ nER csES::.row 9 1 vCG nCH csCI::.row 9 1 vAC nAD csAE::.row 9 1 vAl nAm csAn::.row 9 1 vA4 nA5 csA6::.row 9 1 v93 1 [Value.string y85.text]::.box b0 92 [vIA,Value.bool (bif t591 then true else (decide (200≤(len sEU.1))))]::.row 74 6 vIA nIB csIC::L)) (v:=vIA) (c:=[vIA]) rfl Tryz.sizeOf24 (Ln.cells (SIJ.row_ln (i:=8) rfl)) rfl (zaa (Ln.one (SIJ.row_ln (i:=8) rfl)) zag) (Nat.le_of_ble_eq_true rfl) rfl rfl
      refine FC.act (l':=(bs 11 2047)) rfl (by kernel_rfl) rfl rfl (E.store rfl rfl runIL) ?_
      refine ⟨(SP.o (SP.nil SIM.sl)),?_⟩
      exact FB.done (by kernel_rfl) ⟨_,_,_,_,SIM,(Inc.rfl _),elsIG,ndII,kIh⟩
  ·
   rintro fIW wIV ⟨HIS,vIN,nIO,csIP,SIT,iIU,elsIQ,ndIR,kIX⟩
   refine FW.seq (FW.region ?_)
   refine FL.v (E.move kIX) ?_
   refine FL.v (E.nilCheck rfl) ?_
   refine FL.v (E.fieldAddr zav rfl) ?_
   refine FL.v (E.load rfl (zaf Tryz.isAgg24 (SIT.box_now (i:=7) rfl) rfl)) ?_
   refine FL.v (E.lenO te24 rfl SIT (i:=8) rfl elsIQ (by decide)) ?_
   refine FL.v (E.sub rfl rfl) ?_
   refine FL.v (E.assign (v:=Value.int .i64 (wr ((len xsIy) - 1))) rfl) ?_
   refine FL.nil ?_
   refine FW.ret ?_
   obtain rfl:=Option.some.inj hp
   exact ⟨.inr rfl,res1 rfl rfl (by rw [hRH9];exact ⟨_,_,_,_,rfl,SIT,((((rHy.inc.tr iHT).tr iHY).tr iId).tr iIU),elsIQ,ndIR⟩)⟩
 clear hqH9
 refine FL.call rfl rfl rfl (E.call Tryz.call70 (A2 rfl rfl)) hcH9 ?_
 intro e wJ1 hQH9
 rw [hRH9] at hQH9
 obtain ⟨HIY,vHa,nHb,csHc,rfl,SIZ,iJ0,elsHd,ndHe⟩:=hQH9
 refine ⟨_,rfl,?_⟩
 refine FL.v (E.assign (v:=Value.int .i64 sH9.2.2) rfl) ?_
 refine FL.nil (FW.seq ?_)
 obtain ⟨rJk,hrJl,hp⟩:=bnd hp
 obtain ⟨sK2,hqK2,hp⟩:=bnd hp
 refine FW.drawB (Sl HIY) (fun f w=>∃ H:GH,∃ vJG:Value,∃ nJH:Nat,∃ csJI:List Value,∃ vJL:Value,St H0 w0 H w (.row 9 1 vA4 nA5 csA6::.box b0 92 [vJG,Value.bool sK2.2.1]::.row 74 6 vJG nJH csJI::L)∧Inc HIY H∧Els (up w0.heap.size H) eSeqStep 6 csJI sK2.1∧RSl (up w0.heap.size H) eS 1 vJL [y85.text]∧(bl csJI).Nodup∧New HIY [vJL]∧f 0=Value.pointer (some (⟨b0,0,none⟩:Addr))∧f 7=v30∧f 8=v44∧f 10=Value.pointer (some q79)∧f 12=vJL∧f 13=vA4∧f 15=Value.int .i64 s21.2.2∧f 16=Value.int .i64 sCK.2.2∧f 19=Value.int .i64 sK2.2.2) (by kernel_rfl) SIZ.sl ?_ ?_
 ·
  intro wJ2 rJ3
  have SJ4:=SIZ.call rJ3
  refine FB.t (i:=0) (bs 19 1) rfl (SP.nil SJ4.sl) rfl (fun w' hw'=>(E.move (v:=Value.pointer (some (⟨b0,0,none⟩:Addr))) rfl)) ?_
  refine FB.t (i:=1) (bs 19 3) rfl (SP.nil SJ4.sl) rfl (fun w' hw'=>(E.move (v:=vA4) rfl)) ?_
  refine FB.t (i:=2) (bs 19 7) rfl (SP.nil SJ4.sl) rfl (fun w' hw'=>(E.move (v:=Value.pointer (some q79)) rfl)) ?_
  refine FB.t (i:=3) (bs 19 15) rfl (SP.nil SJ4.sl) rfl (fun w' hw'=>(E.nilCheck rfl)) ?_
  refine FB.t (i:=4) (bs 19 31) rfl (SP.nil SJ4.sl) rfl (fun w' hw'=>(E.fieldAddr zaM rfl)) ?_
  refine FB.t (i:=5) (bs 19 63) rfl (SP.nil SJ4.sl) rfl (fun w' hw'=>(E.load rfl (zaf Tryz.isAgg9 ((at80.mono (((((((((rA3.run.inc.tr rAi.run.inc).tr rAz.run.inc).tr iCr).tr rCD.run.inc).tr iEB).tr rEN.run.inc).tr iGL).tr rH2.run.inc).tr iJ0)).now hw') rfl))) ?_
  refine FB.t (i:=8) (bs 19 319) rfl (SP.nil SJ4.sl) rfl (fun w' hw'=>(E.move (v:=v93) rfl)) ?_
  refine FB.t (i:=10) (bs 19 1343) rfl (SP.nil SJ4.sl) rfl (fun w' hw'=>(E.move (v:=Value.pointer (some q79)) rfl)) ?_
  refine FB.t (i:=11) (bs 19 3391) rfl (SP.nil SJ4.sl) rfl (fun w' hw'=>(E.nilCheck rfl)) ?_
  refine FB.t (i:=12) (bs 19 7487) rfl (SP.nil SJ4.sl) rfl (fun w' hw'=>(E.fieldAddr zaM rfl)) ?_
  refine FB.t (i:=13) (bs 19 15679) rfl (SP.nil SJ4.sl) rfl (fun w' hw'=>(E.load rfl (zaf Tryz.isAgg9 ((at80.mono (((((((((rA3.run.inc.tr rAi.run.inc).tr rAz.run.inc).tr iCr).tr rCD.run.inc).tr iEB).tr rEN.run.inc).tr iGL).tr rH2.run.inc).tr iJ0)).now hw') rfl))) ?_
  refine FB.t (i:=14) (bs 19 32063) rfl (SP.nil SJ4.sl) rfl (fun w' hw'=>(E.move (v:=Value.int .i64 sEU.2.2) rfl)) ?_
  refine FB.t (i:=15) (bs 19 64831) rfl (SP.nil SJ4.sl) rfl (fun w' hw'=>(E.move (v:=Value.int .i64 sH9.2.2) rfl)) ?_
  refine FB.all1 (i:=6) (by kernel_rfl) ?_
  ·
   obtain ⟨vJ5,wJ6,runJ7,SJ8⟩:=SJ4.buildSlice (P:=Tryz.prog) te22 [Value.string y77.text] (parts:=#[(0,Value.string y77.text)]) (cells:=[Value.string y77.text]) rfl (zan rfl zal) (zam rfl zak) (zaa rfl zag) (Nat.le_of_ble_eq_true rfl)
   have elsJ9:Els (up w0.heap.size HIY) eS 1 [Value.string y77.text] [y77.text]:=(Els.snoc (H:=(up w0.heap.size HIY)) (E:=eS) (k:=1) (c:=[Value.string y77.text]) (x:=y77.text) Els.nil rfl rfl)
   refine FC.val (l':=(bs 19 64895)) rfl (by kernel_rfl) rfl rfl rfl (E.buildSlice (B1 rfl) runJ7) ?_
   refine ⟨(SP.nil SJ8.sl),?_⟩
   refine FB.all1 (i:=7) (by kernel_rfl) ?_
   ·
    obtain ⟨HJa,SJb,iJc,hJd,nvJe⟩:=SJ8.sealRowU (i:=6) (l':=(.row 9 1 vJ5 1 [Value.string y77.text]::.row 9 1 vH5 nH6 csH7::.row 9 1 vEQ nER csES::.row 9 1 vCG nCH csCI::.row 9 1 vAC nAD csAE::.row 9 1 vAl nAm csAn::.row 9 1 v93 1 [Value.string y85.text]::.box b0 92 [vHa,Value.bool sH9.2.1]::.row 74 6 vHa nHb csHc::L)) rfl (elsA7.mono (zai ((((((((rAi.run.inc.tr rAz.run.inc).tr iCr).tr rCD.run.inc).tr iEB).tr rEN.run.inc).tr iGL).tr rH2.run.inc).tr iJ0))) (by decide) rfl
    obtain ⟨HJf,SJg,iJh,hJi,nvJj⟩:=SJb.sealRowU (i:=0) (l':=(.row 9 1 vH5 nH6 csH7::.row 9 1 vEQ nER csES::.row 9 1 vCG nCH csCI::.row 9 1 vAC nAD csAE::.row 9 1 vAl nAm csAn::.row 9 1 v93 1 [Value.string y85.text]::.box b0 92 [vHa,Value.bool sH9.2.1]::.row 74 6 vHa nHb csHc::L)) rfl (elsJ9.mono (zai iJc)) (by decide) rfl
    refine FC.call (l':=(bs 19 65023)) rfl (by kernel_rfl) rfl rfl rfl (E.call Tryz.call68 (A2 rfl rfl)) (zaw SJg.sl vA4 r98 (hJd.mono (upI.tr iJh)) vJ5 [y77.text] (hJi.mono upI) hrJl) ?_
    rintro e wJn ⟨HJm,vJs,nJt,csJu,rfl,rJp,elsJv⟩
    refine ⟨_,rfl,?_⟩
    obtain ⟨HJq,rJp,hU685⟩:=St.lendX (iJc.tr iJh) SJ8.sl rJp
    have elsJv:=elsJv.mono (hU685.tr (up_le SJ8.size))
    have SJo:=SJ8.join (l':=(.row 9 1 vJs nJt csJu::.row 9 1 vJ5 1 [Value.string y77.text]::.row 9 1 vH5 nH6 csH7::.row 9 1 vEQ nER csES::.row 9 1 vCG nCH csCI::.row 9 1 vAC nAD csAE::.row 9 1 vAl nAm csAn::.row 9 1 vA4 nA5 csA6::.row 9 1 v93 1 [Value.string y85.text]::.box b0 92 [vHa,Value.bool sH9.2.1]::.row 74 6 vHa nHb csHc::L)) rJp rfl
    refine ⟨(SP.nil (Sl.of_inc rJp.run.inc SJo.sl)),?_⟩
    obtain ⟨HJw,SJx,iJy,hJz,nvJA⟩:=SJo.sealRowU (i:=0) (l':=(.row 9 1 vJ5 1 [Value.string y77.text]::.row 9 1 vH5 nH6 csH7::.row 9 1 vEQ nER csES::.row 9 1 vCG nCH csCI::.row 9 1 vAC nAD csAE::.row 9 1 vAl nAm csAn::.row 9 1 vA4 nA5 csA6::.row 9 1 v93 1 [Value.string y85.text]::.box b0 92 [vHa,Value.bool sH9.2.1]::.row 74 6 vHa nHb csHc::L)) rfl elsJv (by decide) rfl
    obtain ⟨HJB,SJC,iJD,hJE,nvJF⟩:=SJx.sealRowU (i:=7) (l':=(.row 9 1 vJ5 1 [Value.string y77.text]::.row 9 1 vH5 nH6 csH7::.row 9 1 vEQ nER csES::.row 9 1 vCG nCH csCI::.row 9 1 vAC nAD csAE::.row 9 1 vAl nAm csAn::.row 9 1 vA4 nA5 csA6::.box b0 92 [vHa,Value.bool sH9.2.1]::.row 74 6 vHa nHb csHc::L)) rfl (els97.mono (zai (((((((((((rA3.run.inc.tr rAi.run.inc).tr rAz.run.inc).tr iCr).tr rCD.run.inc).tr iEB).tr rEN.run.inc).tr iGL).tr rH2.run.inc).tr iJ0).tr rJp.run.inc).tr iJy))) (by decide) rfl
    refine FB.t (i:=9) (bs 19 65535) rfl (SP.nil (Sl.of_inc rJp.run.inc SJo.sl)) rfl (fun w' hw'=>(E.build (B2 rfl rfl) (run_build _ 68 #[(0,vJs),(1,v93)] #[vJs,v93] (by obtain ⟨_,_,rfl⟩:=RSl.ln (hJz.mono (upI.tr iJD));obtain ⟨_,_,rfl⟩:=RSl.ln (hJE.mono upI);rfl)))) ?_
    refine FB.t (i:=16) (bs 19 131071) rfl (SP.nil (Sl.of_inc ((rJp.run.inc.tr iJy).tr iJD) SJC.sl)) rfl (fun w' hw'=>(E.build (B5 rfl rfl rfl rfl rfl) (run_build _ 74 #[(0,Value.agg #[vJs,v93]),(1,Value.int .i64 8),(2,Value.string y77.text),(3,Value.int .i64 sEU.2.2),(4,Value.int .i64 sH9.2.2)] #[vJs,v93,Value.int .i64 8,Value.string y77.text,Value.int .i64 sEU.2.2,Value.int .i64 sH9.2.2] (by obtain ⟨_,_,rfl⟩:=RSl.ln (hJz.mono (upI.tr iJD));obtain ⟨_,_,rfl⟩:=RSl.ln (hJE.mono upI);rfl)))) ?_
    refine FB.all1 (i:=17) (by kernel_rfl) ?_
    ·
     obtain ⟨R722,hRK2⟩:∃ R722:((List zac)×Bool×Int)→Ending→World→Prop,R722=(fun sK2 e w=>∃ H:GH,∃ vK3:Value,∃ nK4:Nat,∃ csK5:List Value,e=Ending.returned (Value.int .i64 sK2.2.2)∧St H0 w0 H w (.row 9 1 vJ5 1 [Value.string y77.text]::.row 9 1 vH5 nH6 csH7::.row 9 1 vEQ nER csES::.row 9 1 vCG nCH csCI::.row 9 1 vAC nAD csAE::.row 9 1 vAl nAm csAn::.row 9 1 vA4 nA5 csA6::.box b0 92 [vK3,Value.bool sK2.2.1]::.row 74 6 vK3 nK4 csK5::L)∧Inc HJB H∧Els (up w0.heap.size H) eSeqStep 6 csK5 sK2.1∧(bl csK5).Nodup):=⟨_,rfl⟩
     have hcK2:Calls Tryz.prog 70 #[Value.pointer (some (⟨b0,0,none⟩:Addr)),Value.agg #[vJs,v93,Value.int .i64 8,Value.string y77.text,Value.int .i64 sEU.2.2,Value.int .i64 sH9.2.2]] wJn (R722 sK2):=by
      clear hp;have hp:=hqK2;clear hqK2
      refine zaj (N:=46) (args:=[Value.pointer (some (⟨b0,0,none⟩:Addr)),Value.agg #[vJs,v93,Value.int .i64 8,Value.string y77.text,Value.int .i64 sEU.2.2,Value.int .i64 sH9.2.2]]) Tryz.func70 rfl rfl rfl ?_
      refine FW.seq (FW.region ?_)
      obtain ⟨bK8,wK9,runKa,SKb⟩:=SJC.box (P:=Tryz.prog) 74 [vJs,v93,Value.int .i64 8,Value.string y77.text,Value.int .i64 sEU.2.2,Value.int .i64 sH9.2.2] (v:=Value.agg #[vJs,v93,Value.int .i64 8,Value.string y77.text,Value.int .i64 sEU.2.2,Value.int .i64 sH9.2.2]) rfl (zaa hJz.one (zaa hJE.one (zaa rfl (zaa rfl (zaa rfl (zaa rfl zag))))))
      refine FL.v (E.box rfl runKa) ?_
      refine FL.v (E.assign (v:=Value.int .i64 0) rfl) ?_
      refine FL.nil (FW.seq (FW.region ?_))
      refine FL.v (E.fieldAddr zap rfl) ?_
      refine FL.v (E.load rfl (zao Tryz.isAgg68 Tryz.sizeOf68 ((SKb.box_now (i:=0) rfl).sub (j:=0) (n:=2) (c:=[vJs,v93]) rfl) rfl)) ?_
      obtain ⟨rKc,hrKd,hp⟩:=bnd hp
      refine FL.call rfl rfl rfl (E.call Tryz.call114 (A1 rfl)) (zbC SKb.sl (zad.mk rJk [y85.text]) vJs (hJz.mono (upI.tr iJD)) v93 (hJE.mono upI) hrKd) ?_
      rintro e wKf ⟨HKe,vKi,vKo,rfl,rKh,⟨cKl,cKr,nsKk,nsKq,ap750⟩⟩
      refine ⟨_,rfl,?_⟩
      have hKj:=nsKk.rsl
      have nvKm:New HJB cKl:=New.of_up SKb.sl (fun b hb=>nsKk.dom b (.inr hb))
      have nvKn:New HJB [vKi]:=New.of_up SKb.sl hKj.dom
      have hKj:=hKj.mono (up_le SKb.size)
      have nsKk:=nsKk.mono (up_le SKb.size)
      have hKp:=nsKq.rsl
      have nvKs:New HJB cKr:=New.of_up SKb.sl (fun b hb=>nsKq.dom b (.inr hb))
      have nvKt:New HJB [vKo]:=New.of_up SKb.sl hKp.dom
      have hKp:=hKp.mono (up_le SKb.size)
      have nsKq:=nsKq.mono (up_le SKb.size)
      have SKg:=SKb.call rKh
      refine FL.v (E.fieldAddr zap rfl) ?_
      obtain ⟨wKv,runKw,SKx⟩:=SKg.store (P:=Tryz.prog) (t:=68) (i:=0) (j:=0) (cs':=[vKi,vKo,Value.int .i64 8,Value.string y77.text,Value.int .i64 sEU.2.2,Value.int .i64 sH9.2.2]) (l':=(.box bK8 74 [vKi,vKo,Value.int .i64 8,Value.string y77.text,Value.int .i64 sEU.2.2,Value.int .i64 sH9.2.2]::.row 9 1 vJ5 1 [Value.string y77.text]::.row 9 1 vH5 nH6 csH7::.row 9 1 vEQ nER csES::.row 9 1 vCG nCH csCI::.row 9 1 vAC nAD csAE::.row 9 1 vAl nAm csAn::.row 9 1 vA4 nA5 csA6::.box b0 92 [vHa,Value.bool sH9.2.1]::.row 74 6 vHa nHb csHc::L)) (v:=Value.agg #[vKi,vKo]) (c:=[vKi,vKo]) rfl Tryz.sizeOf68 rfl rfl (zaa hKj.one (zaa hKp.one zag)) (Nat.le_of_ble_eq_true rfl) rfl rfl
      refine FL.act rfl rfl (E.store rfl rfl runKw) ?_
      obtain ⟨HKy,SKz,iKA,atKB⟩:=SKx.sealBox (i:=0) (l':=(.row 9 1 vJ5 1 [Value.string y77.text]::.row 9 1 vH5 nH6 csH7::.row 9 1 vEQ nER csES::.row 9 1 vCG nCH csCI::.row 9 1 vAC nAD csAE::.row 9 1 vAl nAm csAn::.row 9 1 vA4 nA5 csA6::.box b0 92 [vHa,Value.bool sH9.2.1]::.row 74 6 vHa nHb csHc::L)) rfl rfl
      refine FL.nil (FW.seq (FW.region ?_))
      refine FL.v (E.move (v:=Value.pointer (some (⟨b0,0,none⟩:Addr))) rfl) ?_
      refine FL.v (E.move (v:=Value.pointer (some (⟨b0,0,none⟩:Addr))) rfl) ?_
      refine FL.v (E.nilCheck rfl) ?_
      refine FL.v (E.fieldAddr zaU rfl) ?_
      refine FL.v (E.load rfl (zaf Tryz.isAgg4 (SKz.box_now (i:=7) rfl) rfl)) ?_
      refine FL.v (E.move (v:=Value.bool sH9.2.1) rfl) ?_
      obtain ⟨t758,hqtKC,hp⟩:=bnd hp
      refine FL.cut 5 (fun f w=>∃ H:GH,St H0 w0 H w (.row 9 1 vJ5 1 [Value.string y77.text]::.row 9 1 vH5 nH6 csH7::.row 9 1 vEQ nER csES::.row 9 1 vCG nCH csCI::.row 9 1 vAC nAD csAE::.row 9 1 vAl nAm csAn::.row 9 1 vA4 nA5 csA6::.box b0 92 [vHa,Value.bool sH9.2.1]::.row 74 6 vHa nHb csHc::L)∧Inc HKy H∧f 0=Value.pointer (some (⟨b0,0,none⟩:Addr))∧f 3=Value.pointer (some ⟨bK8,0,none⟩)∧f 9=Value.pointer (some (⟨b0,0,none⟩:Addr))∧f 19=Value.bool t758) ?_ ?_
      ·
       clear hp;have hp:=hqtKC;clear hqtKC
       rcases ifB hp with ⟨cKI,hp⟩|⟨cKI,hp⟩
       ·
        refine FL.skip (wF_no rfl rfl rfl cKI) rfl ?_
        refine FL.skip (wF_no rfl rfl rfl cKI) rfl ?_
        refine FL.skip (wF_no rfl rfl rfl cKI) rfl ?_
        refine FL.skip (wF_no rfl rfl rfl cKI) rfl ?_
        obtain rfl:=Option.some.inj hp
        refine FL.v (E.pickT rfl cKI rfl) ?_
        exact FL.nil ⟨rfl,_,SKz,(Inc.rfl _),rfl,rfl,rfl,rfl⟩
       ·
        refine FL.val (zab rfl rfl rfl cKI) rfl rfl (E.fieldAddr zap rfl) ?_
        refine FL.val (zab rfl rfl rfl cKI) rfl rfl (E.load rfl (zao Tryz.isAgg68 Tryz.sizeOf68 ((atKB.now SKz.sl).sub (j:=0) (n:=2) (c:=[vKi,vKo]) rfl) rfl)) ?_
        obtain ⟨rKJ,hrKK,hp⟩:=bnd hp
        refine FL.call (zab rfl rfl rfl cKI) rfl rfl (E.call Tryz.call120 (A1 rfl)) (zbh SKz.sl rKc vKi (hKj.mono (upI.tr iKA)) vKo (hKp.mono (upI.tr iKA)) hrKK) ?_
        rintro e wKL ⟨rfl,rKM⟩
        refine ⟨_,rfl,?_⟩
        have SKN:=SKz.call rKM
        refine FL.val (zab rfl rfl rfl cKI) rfl rfl (E.not rfl) ?_
        obtain rfl:=Option.some.inj hp
        refine FL.v (E.pickF rfl cKI rfl) ?_
        exact FL.nil ⟨rfl,_,SKN,(Inc.rfl _),rfl,rfl,rfl,rfl⟩
      rintro fKH wKG ⟨HKD,SKE,iKF,kKO,kKP,kKQ,kKR⟩
      refine FL.v (E.move kKR) ?_
      refine FL.cut 7 (fun f w=>∃ H:GH,St H0 w0 H w (.row 9 1 vJ5 1 [Value.string y77.text]::.row 9 1 vH5 nH6 csH7::.row 9 1 vEQ nER csES::.row 9 1 vCG nCH csCI::.row 9 1 vAC nAD csAE::.row 9 1 vAl nAm csAn::.row 9 1 vA4 nA5 csA6::.box b0 92 [vHa,Value.bool sH9.2.1]::.row 74 6 vHa nHb csHc::L)∧Inc HKD H∧f 0=Value.pointer (some (⟨b0,0,none⟩:Addr))∧f 3=Value.pointer (some ⟨bK8,0,none⟩)∧f 9=Value.pointer (some (⟨b0,0,none⟩:Addr))∧f 27=Value.bool (bif t758 then true else (decide (200≤(len sH9.1))))) ?_ ?_
      ·
       rcases bcase t758 with cKX|cKX
       ·
        refine FL.skip (wF_no rfl rfl rfl cKX) rfl ?_
        refine FL.skip (wF_no rfl rfl rfl cKX) rfl ?_
        refine FL.skip (wF_no rfl rfl rfl cKX) rfl ?_
        refine FL.skip (wF_no rfl rfl rfl cKX) rfl ?_
        refine FL.skip (wF_no rfl rfl rfl cKX) rfl ?_
        refine FL.skip (wF_no rfl rfl rfl cKX) rfl ?_
        refine FL.v (E.pickT rfl cKX rfl) ?_
        exact FL.nil ⟨rfl,_,SKE,(Inc.rfl _),kKO,kKP,kKQ,(congrArg Value.bool (bifT cKX).symm)⟩
       ·
        refine FL.val (zab rfl rfl rfl cKX) rfl rfl (E.move kKO) ?_
        refine FL.val (zab rfl rfl rfl cKX) rfl rfl (E.nilCheck rfl) ?_
        refine FL.val (zab rfl rfl rfl cKX) rfl rfl (E.fieldAddr zav rfl) ?_
        refine FL.val (zab rfl rfl rfl cKX) rfl rfl (E.load rfl (zaf Tryz.isAgg24 (SKE.box_now (i:=7) rfl) rfl)) ?_
        refine FL.val (zab rfl rfl rfl cKX) rfl rfl (E.lenO te24 rfl SKE (i:=8) rfl elsHd (by decide)) ?_
        refine FL.val (zab rfl rfl rfl cKX) rfl rfl (E.geq rfl rfl) ?_
        refine FL.v (E.pickF rfl cKX rfl) ?_
        exact FL.nil ⟨rfl,_,SKE,(Inc.rfl _),kKO,kKP,kKQ,(congrArg Value.bool (bifF cKX).symm)⟩
      rintro fKW wKV ⟨HKS,SKT,iKU,kKY,kKZ,kL0,kL1⟩
      refine FL.v (E.nilCheck kL0) ?_
      refine FL.v (E.fieldAddr zaU rfl) ?_
      obtain ⟨wL2,runL3,SL4⟩:=SKT.store (P:=Tryz.prog) (t:=4) (i:=7) (j:=1) (cs':=[vHa,Value.bool (bif t758 then true else (decide (200≤(len sH9.1))))]) (l':=(.row 9 1 vJ5 1 [Value.string y77.text]::.row 9 1 vH5 nH6 csH7::.row 9 1 vEQ nER csES::.row 9 1 vCG nCH csCI::.row 9 1 vAC nAD csAE::.row 9 1 vAl nAm csAn::.row 9 1 vA4 nA5 csA6::.box b0 92 [vHa,Value.bool (bif t758 then true else (decide (200≤(len sH9.1))))]::.row 74 6 vHa nHb csHc::L)) (v:=Value.bool (bif t758 then true else (decide (200≤(len sH9.1))))) (c:=[Value.bool (bif t758 then true else (decide (200≤(len sH9.1))))]) rfl Tryz.sizeOf4 rfl rfl (zaa rfl zag) (Nat.le_of_ble_eq_true rfl) rfl rfl
      refine FL.act rfl rfl (E.store rfl kL1 runL3) ?_
      refine FL.nil (FW.seq ?_)
      obtain ⟨xsMs,hzMt,hp⟩:=bnd hp
      refine FW.drawB (Sl HKS) (fun f w=>∃ H:GH,∃ vN0:Value,∃ nN1:Nat,∃ csN2:List Value,St H0 w0 H w (.row 9 1 vJ5 1 [Value.string y77.text]::.row 9 1 vH5 nH6 csH7::.row 9 1 vEQ nER csES::.row 9 1 vCG nCH csCI::.row 9 1 vAC nAD csAE::.row 9 1 vAl nAm csAn::.row 9 1 vA4 nA5 csA6::.box b0 92 [vN0,Value.bool (bif t758 then true else (decide (200≤(len sH9.1))))]::.row 74 6 vN0 nN1 csN2::L)∧Inc HKS H∧Els (up w0.heap.size H) eSeqStep 6 csN2 xsMs∧(bl csN2).Nodup∧f 0=Value.pointer (some (⟨b0,0,none⟩:Addr))) (by kernel_rfl) SL4.sl ?_ ?_
      ·
       intro wL5 rL6
       have SL7:=SL4.call rL6
       refine FB.phase [10] (fun w=>WAt w (Addr.add ⟨b0,0,none⟩ 0) [vHa]) ?_
       refine FB.t (i:=0) (bs 11 1) rfl (SP.on ((SL7.box_now (i:=7) rfl).sub (j:=0) (n:=1) (c:=[vHa]) rfl) (SP.nil SL7.sl)) rfl (fun w' hw'=>(E.move kKY)) ?_
       refine FB.t (i:=1) (bs 11 3) rfl (SP.on ((SL7.box_now (i:=7) rfl).sub (j:=0) (n:=1) (c:=[vHa]) rfl) (SP.nil SL7.sl)) rfl (fun w' hw'=>(E.move kKY)) ?_
       refine FB.t (i:=2) (bs 11 7) rfl (SP.on ((SL7.box_now (i:=7) rfl).sub (j:=0) (n:=1) (c:=[vHa]) rfl) (SP.nil SL7.sl)) rfl (fun w' hw'=>(E.nilCheck rfl)) ?_
       refine FB.t (i:=3) (bs 11 15) rfl (SP.on ((SL7.box_now (i:=7) rfl).sub (j:=0) (n:=1) (c:=[vHa]) rfl) (SP.nil SL7.sl)) rfl (fun w' hw'=>(E.fieldAddr zav rfl)) ?_
       refine FB.p (i:=4) (bs 11 31) 0 [7,8,9,10] rfl (SP.on ((SL7.box_now (i:=7) rfl).sub (j:=0) (n:=1) (c:=[vHa]) rfl) (SP.nil SL7.sl)) rfl rfl (fun w' hw'=>(E.load rfl (zar Tryz.isAgg24 hw' rfl))) ?_
       refine FB.t (i:=5) (bs 11 63) rfl (SP.on ((SL7.box_now (i:=7) rfl).sub (j:=0) (n:=1) (c:=[vHa]) rfl) (SP.nil SL7.sl)) rfl (fun w' hw'=>(E.load kKZ (zao Tryz.isAgg74 Tryz.sizeOf74 ((atKB.mono (iKF.tr iKU)).now hw') rfl))) ?_
       refine FB.all1 (i:=6) (by kernel_rfl) ?_
       ·
        obtain ⟨vMl,wMm,runMn,SMo⟩:=SL7.buildSlice (P:=Tryz.prog) te24 [Value.agg #[vKi,vKo,Value.int .i64 8,Value.string y77.text,Value.int .i64 sEU.2.2,Value.int .i64 sH9.2.2]] (parts:=#[(0,Value.agg #[vKi,vKo,Value.int .i64 8,Value.string y77.text,Value.int .i64 sEU.2.2,Value.int .i64 sH9.2.2])]) (cells:=[vKi,vKo,Value.int .i64 8,Value.string y77.text,Value.int .i64 sEU.2.2,Value.int .i64 sH9.2.2]) rfl (zan rfl zal) (zam rfl zak) (zaa hKj.one (zaa hKp.one (zaa rfl (zaa rfl (zaa rfl (zaa rfl zag)))))) (Nat.le_of_ble_eq_true rfl)
        have elsMp:Els (up w0.heap.size HKS) eSeqStep 6 [vKi,vKo,Value.int .i64 8,Value.string y77.text,Value.int .i64 sEU.2.2,Value.int .i64 sH9.2.2] [(zac.mk rKc 8 y77.text sEU.2.2 sH9.2.2)]:=(Els.snoc (H:=(up w0.heap.size HKS)) (E:=eSeqStep) (k:=6) (c:=[vKi,vKo,Value.int .i64 8,Value.string y77.text,Value.int .i64 sEU.2.2,Value.int .i64 sH9.2.2]) (x:=(zac.mk rKc 8 y77.text sEU.2.2 sH9.2.2)) Els.nil rfl ⟨_,_,rfl,(hKj.mono (zai ((iKA.tr iKF).tr iKU))),(hKp.mono (zai ((iKA.tr iKF).tr iKU)))⟩)
        have ndMq:(bl [vKi,vKo,Value.int .i64 8,Value.string y77.text,Value.int .i64 sEU.2.2,Value.int .i64 sH9.2.2]).Nodup:=by exact zaR ap750.dis
        have nvMr:New HJB [vKi,vKo,Value.int .i64 8,Value.string y77.text,Value.int .i64 sEU.2.2,Value.int .i64 sH9.2.2]:=by exact (New.two nvKn nvKt)
        refine FC.val (l':=(bs 11 127)) rfl (by kernel_rfl) rfl rfl rfl (E.buildSlice (B1 rfl) runMn) ?_
        refine ⟨(SP.on ((SMo.box_now (i:=8) rfl).sub (j:=0) (n:=1) (c:=[vHa]) rfl) (SP.nil SMo.sl)),?_⟩
        refine FB.all1 (i:=7) (by kernel_rfl) ?_
        ·
         obtain ⟨vMu,wMx,nMv,csMw,runMy,SMz,elsMA,ceMB⟩:=SMo.appendO (P:=Tryz.prog) te24 (i:=9) (j:=0) rfl (elsHd.mono (zai ((((((rJp.run.inc.tr iJy).tr iJD).tr rKh.inc).tr iKA).tr iKF).tr iKU))) rfl elsMp hzMt
         have SMz:St H0 w0 HKS wMx (.row 74 6 vMl 1 [vKi,vKo,Value.int .i64 8,Value.string y77.text,Value.int .i64 sEU.2.2,Value.int .i64 sH9.2.2]::.row 9 1 vJ5 1 [Value.string y77.text]::.row 9 1 vH5 nH6 csH7::.row 9 1 vEQ nER csES::.row 9 1 vCG nCH csCI::.row 9 1 vAC nAD csAE::.row 9 1 vAl nAm csAn::.row 9 1 vA4 nA5 csA6::.box b0 92 [vHa,Value.bool (bif t758 then true else (decide (200≤(len sH9.1))))]::.row 74 6 vMu nMv csMw::L):=SMz
         have ndMC:(bl csMw).Nodup:=by rw [ceMB];exact za0 ndHe ndMq (Els.dom (elsHd.mono (upI.tr ((rJp.run.inc.tr iJy).tr iJD)))) (by exact nvMr)
         have SMD:St H0 w0 HKS wMx (.row 9 1 vJ5 1 [Value.string y77.text]::.row 9 1 vH5 nH6 csH7::.row 9 1 vEQ nER csES::.row 9 1 vCG nCH csCI::.row 9 1 vAC nAD csAE::.row 9 1 vAl nAm csAn::.row 9 1 vA4 nA5 csA6::.box b0 92 [vHa,Value.bool (bif t758 then true else (decide (200≤(len sH9.1))))]::.row 74 6 vMu nMv csMw::L):=SMz.drop 0
         refine FC.val (l':=(bs 11 255)) rfl (by kernel_rfl) rfl rfl rfl (E.append rfl rfl runMy) ?_
         refine ⟨(SP.on ((SMD.box_now (i:=7) rfl).sub (j:=0) (n:=1) (c:=[vHa]) rfl) (SP.nil SMD.sl)),?_⟩
         refine FB.t (i:=8) (bs 11 511) rfl (SP.on ((SMD.box_now (i:=7) rfl).sub (j:=0) (n:=1) (c:=[vHa]) rfl) (SP.nil SMD.sl)) rfl (fun w' hw'=>(E.nilCheck rfl)) ?_
         refine FB.t (i:=9) (bs 11 1023) rfl (SP.on ((SMD.box_now (i:=7) rfl).sub (j:=0) (n:=1) (c:=[vHa]) rfl) (SP.nil SMD.sl)) rfl (fun w' hw'=>(E.fieldAddr zav rfl)) ?_
         refine FB.all1 (i:=10) (by kernel_rfl) ?_
         ·
          obtain ⟨wML,runMM,SMN⟩:=SMD.store (P:=Tryz.prog) (t:=24) (i:=7) (j:=0) (cs':=[vMu,Value.bool (bif t758 then true else (decide (200≤(len sH9.1))))]) (l':=(.row 9 1 vJ5 1 [Value.string y77.text]::.row 9 1 vH5 nH6 csH7::.row 9 1 vEQ nER csES::.row 9 1 vCG nCH csCI::.row 9 1 vAC nAD csAE::.row 9 1 vAl nAm csAn::.row 9 1 vA4 nA5 csA6::.box b0 92 [vMu,Value.bool (bif t758 then true else (decide (200≤(len sH9.1))))]::.row 74 6 vMu nMv csMw::L)) (v:=vMu) (c:=[vMu]) rfl Tryz.sizeOf24 (Ln.cells (SMD.row_ln (i:=8) rfl)) rfl (zaa (Ln.one (SMD.row_ln (i:=8) rfl)) zag) (Nat.le_of_ble_eq_true rfl) rfl rfl
          refine FC.act (l':=(bs 11 2047)) rfl (by kernel_rfl) rfl rfl (E.store rfl rfl runMM) ?_
          refine ⟨(SP.o (SP.nil SMN.sl)),?_⟩
          exact FB.done (by kernel_rfl) ⟨_,_,_,_,SMN,(Inc.rfl _),elsMA,ndMC,kKY⟩
      ·
       rintro fN9 wN8 ⟨HN5,vN0,nN1,csN2,SN6,iN7,elsN3,ndN4,kNa⟩
       refine FW.seq (FW.region ?_)
       refine FL.v (E.move kNa) ?_
       refine FL.v (E.nilCheck rfl) ?_
       refine FL.v (E.fieldAddr zav rfl) ?_
       refine FL.v (E.load rfl (zaf Tryz.isAgg24 (SN6.box_now (i:=7) rfl) rfl)) ?_
       refine FL.v (E.lenO te24 rfl SN6 (i:=8) rfl elsN3 (by decide)) ?_
       refine FL.v (E.sub rfl rfl) ?_
       refine FL.v (E.assign (v:=Value.int .i64 (wr ((len xsMs) - 1))) rfl) ?_
       refine FL.nil ?_
       refine FW.ret ?_
       obtain rfl:=Option.some.inj hp
       exact ⟨.inr rfl,res1 rfl rfl (by rw [hRK2];exact ⟨_,_,_,_,rfl,SN6,((((rKh.inc.tr iKA).tr iKF).tr iKU).tr iN7),elsN3,ndN4⟩)⟩
     clear hqK2
     refine FC.call (l':=(bs 19 262143)) rfl (by kernel_rfl) rfl rfl rfl (E.call Tryz.call70 (A2 rfl rfl)) hcK2 ?_
     intro e wNe hQK2
     rw [hRK2] at hQK2
     obtain ⟨HNb,vK3,nK4,csK5,rfl,SNc,iNd,elsK6,ndK7⟩:=hQK2
     refine ⟨_,rfl,?_⟩
     refine ⟨(SP.nil (Sl.of_inc (((rJp.run.inc.tr iJy).tr iJD).tr iNd) SNc.sl)),?_⟩
     refine FB.t (i:=18) (bs 19 524287) rfl (SP.nil (Sl.of_inc (((rJp.run.inc.tr iJy).tr iJD).tr iNd) SNc.sl)) rfl (fun w' hw'=>(E.assign (v:=Value.int .i64 sK2.2.2) rfl)) ?_
     exact FB.done (by kernel_rfl) ⟨_,_,_,_,_,(SNc.selT (a:=[.row 9 1 vJ5 1 [Value.string y77.text],.row 9 1 vH5 nH6 csH7,.row 9 1 vEQ nER csES,.row 9 1 vCG nCH csCI,.row 9 1 vAC nAD csAE,.row 9 1 vAl nAm csAn,.row 9 1 vA4 nA5 csA6,.box b0 92 [vK3,Value.bool sK2.2.1],.row 74 6 vK3 nK4 csK5]) (l':=[.row 9 1 vA4 nA5 csA6,.box b0 92 [vK3,Value.bool sK2.2.1],.row 74 6 vK3 nK4 csK5]) [6,7,8] (by decide) rfl),(((rJp.run.inc.tr iJy).tr iJD).tr iNd),elsK6,(hJE.mono (zai iNd)),ndK7,(nvJF.anti (rJp.run.inc.tr iJy)),rfl,rfl,rfl,rfl,rfl,rfl,rfl,rfl,rfl⟩
 ·
  rintro fJS wJR ⟨HJO,vJG,nJH,csJI,vJL,SJP,iJQ,elsJJ,hJM,ndJK,nvJN,kJT,kJU,kJV,kJW,kJX,kJY,kJZ,kK0,kK1⟩
  refine FW.seq (FW.region ?_)
  refine FL.v (E.move kJT) ?_
  refine FL.v (E.move kJY) ?_
  refine FL.v (E.move kJX) ?_
  refine FL.v (E.build (B2 rfl rfl) (run_build _ 68 #[(0,vA4),(1,vJL)] #[vA4,vJL] (by obtain ⟨_,_,rfl⟩:=RSl.ln (hJM.mono upI);obtain ⟨_,_,rfl⟩:=SJP.row_ln (i:=0) rfl;rfl))) ?_
  refine FL.v (E.move kJW) ?_
  refine FL.v (E.nilCheck rfl) ?_
  refine FL.v (E.fieldAddr zaM rfl) ?_
  refine FL.v (E.load rfl (zaf Tryz.isAgg9 ((at80.mono ((((((((((rA3.run.inc.tr rAi.run.inc).tr rAz.run.inc).tr iCr).tr rCD.run.inc).tr iEB).tr rEN.run.inc).tr iGL).tr rH2.run.inc).tr iJ0).tr iJQ)).now SJP.sl) rfl)) ?_
  refine FL.v (E.move kK0) ?_
  refine FL.v (E.move kK1) ?_
  refine FL.v (E.build (B5 rfl rfl rfl rfl rfl) (run_build _ 74 #[(0,Value.agg #[vA4,vJL]),(1,Value.int .i64 11),(2,Value.string y77.text),(3,Value.int .i64 sCK.2.2),(4,Value.int .i64 sK2.2.2)] #[vA4,vJL,Value.int .i64 11,Value.string y77.text,Value.int .i64 sCK.2.2,Value.int .i64 sK2.2.2] (by obtain ⟨_,_,rfl⟩:=RSl.ln (hJM.mono upI);obtain ⟨_,_,rfl⟩:=SJP.row_ln (i:=0) rfl;rfl))) ?_
  obtain ⟨sL8,hqL8,hp⟩:=bnd hp
  obtain ⟨R790,hRL8⟩:∃ R790:((List zac)×Bool×Int)→Ending→World→Prop,R790=(fun sL8 e w=>∃ H:GH,∃ vL9:Value,∃ nLa:Nat,∃ csLb:List Value,e=Ending.returned (Value.int .i64 sL8.2.2)∧St H0 w0 H w (.row 9 1 vA4 nA5 csA6::.box b0 92 [vL9,Value.bool sL8.2.1]::.row 74 6 vL9 nLa csLb::L)∧Inc HJO H∧Els (up w0.heap.size H) eSeqStep 6 csLb sL8.1∧(bl csLb).Nodup):=⟨_,rfl⟩
  have hcL8:Calls Tryz.prog 70 #[Value.pointer (some (⟨b0,0,none⟩:Addr)),Value.agg #[vA4,vJL,Value.int .i64 11,Value.string y77.text,Value.int .i64 sCK.2.2,Value.int .i64 sK2.2.2]] wJR (R790 sL8):=by
   clear hp;have hp:=hqL8;clear hqL8
   refine zaj (N:=46) (args:=[Value.pointer (some (⟨b0,0,none⟩:Addr)),Value.agg #[vA4,vJL,Value.int .i64 11,Value.string y77.text,Value.int .i64 sCK.2.2,Value.int .i64 sK2.2.2]]) Tryz.func70 rfl rfl rfl ?_
   refine FW.seq (FW.region ?_)
   obtain ⟨bLe,wLf,runLg,SLh⟩:=SJP.box (P:=Tryz.prog) 74 [vA4,vJL,Value.int .i64 11,Value.string y77.text,Value.int .i64 sCK.2.2,Value.int .i64 sK2.2.2] (v:=Value.agg #[vA4,vJL,Value.int .i64 11,Value.string y77.text,Value.int .i64 sCK.2.2,Value.int .i64 sK2.2.2]) rfl (zaa (Ln.one (SJP.row_ln (i:=0) rfl)) (zaa hJM.one (zaa rfl (zaa rfl (zaa rfl (zaa rfl zag))))))
   refine FL.v (E.box rfl runLg) ?_
   refine FL.v (E.assign (v:=Value.int .i64 0) rfl) ?_
   refine FL.nil (FW.seq (FW.region ?_))
   refine FL.v (E.fieldAddr zap rfl) ?_
   refine FL.v (E.load rfl (zao Tryz.isAgg68 Tryz.sizeOf68 ((SLh.box_now (i:=0) rfl).sub (j:=0) (n:=2) (c:=[vA4,vJL]) rfl) rfl)) ?_
   obtain ⟨HLi,SLj,iLk,hLl,nvLm⟩:=SLh.sealRowU (i:=1) (l':=(.box bLe 74 [vA4,vJL,Value.int .i64 11,Value.string y77.text,Value.int .i64 sCK.2.2,Value.int .i64 sK2.2.2]::.box b0 92 [vJG,Value.bool sK2.2.1]::.row 74 6 vJG nJH csJI::L)) rfl (elsA7.mono (zai (((((((((rAi.run.inc.tr rAz.run.inc).tr iCr).tr rCD.run.inc).tr iEB).tr rEN.run.inc).tr iGL).tr rH2.run.inc).tr iJ0).tr iJQ))) (by decide) rfl
   obtain ⟨rLn,hrLo,hp⟩:=bnd hp
   refine FL.call rfl rfl rfl (E.call Tryz.call114 (A1 rfl)) (zbC SLj.sl (zad.mk r98 [y85.text]) vA4 (hLl.mono upI) vJL (hJM.mono (upI.tr iLk)) hrLo) ?_
   rintro e wLq ⟨HLp,vLv,vLB,rfl,rLs,⟨cLy,cLE,nsLx,nsLD,ap825⟩⟩
   refine ⟨_,rfl,?_⟩
   obtain ⟨HLt,rLs,hU812⟩:=Run.lendX iLk SLh.sl rLs
   have hLw:=nsLx.rsl
   have nvLz:New HJO cLy:=New.of_up SLh.sl (fun b hb=>nsLx.dom b (.inr hb))
   have nvLA:New HJO [vLv]:=New.of_up SLh.sl hLw.dom
   have hLw:=hLw.mono (hU812.tr (up_le SLh.size))
   have nsLx:=nsLx.mono (hU812.tr (up_le SLh.size))
   have hLC:=nsLD.rsl
   have nvLF:New HJO cLE:=New.of_up SLh.sl (fun b hb=>nsLD.dom b (.inr hb))
   have nvLG:New HJO [vLB]:=New.of_up SLh.sl hLC.dom
   have hLC:=hLC.mono (hU812.tr (up_le SLh.size))
   have nsLD:=nsLD.mono (hU812.tr (up_le SLh.size))
   have SLr:=SLh.call rLs
   refine FL.v (E.fieldAddr zap rfl) ?_
   obtain ⟨wLI,runLJ,SLK⟩:=SLr.store (P:=Tryz.prog) (t:=68) (i:=0) (j:=0) (cs':=[vLv,vLB,Value.int .i64 11,Value.string y77.text,Value.int .i64 sCK.2.2,Value.int .i64 sK2.2.2]) (l':=(.box bLe 74 [vLv,vLB,Value.int .i64 11,Value.string y77.text,Value.int .i64 sCK.2.2,Value.int .i64 sK2.2.2]::.row 9 1 vA4 nA5 csA6::.box b0 92 [vJG,Value.bool sK2.2.1]::.row 74 6 vJG nJH csJI::L)) (v:=Value.agg #[vLv,vLB]) (c:=[vLv,vLB]) rfl Tryz.sizeOf68 rfl rfl (zaa hLw.one (zaa hLC.one zag)) (Nat.le_of_ble_eq_true rfl) rfl rfl
   refine FL.act rfl rfl (E.store rfl rfl runLJ) ?_
   obtain ⟨HLL,SLM,iLN,atLO⟩:=SLK.sealBox (i:=0) (l':=(.row 9 1 vA4 nA5 csA6::.box b0 92 [vJG,Value.bool sK2.2.1]::.row 74 6 vJG nJH csJI::L)) rfl rfl
   refine FL.nil (FW.seq (FW.region ?_))
   refine FL.v (E.move (v:=Value.pointer (some (⟨b0,0,none⟩:Addr))) rfl) ?_
   refine FL.v (E.move (v:=Value.pointer (some (⟨b0,0,none⟩:Addr))) rfl) ?_
   refine FL.v (E.nilCheck rfl) ?_
   refine FL.v (E.fieldAddr zaU rfl) ?_
   refine FL.v (E.load rfl (zaf Tryz.isAgg4 (SLM.box_now (i:=1) rfl) rfl)) ?_
   refine FL.v (E.move (v:=Value.bool sK2.2.1) rfl) ?_
   obtain ⟨t833,hqtLP,hp⟩:=bnd hp
   refine FL.cut 5 (fun f w=>∃ H:GH,St H0 w0 H w (.row 9 1 vA4 nA5 csA6::.box b0 92 [vJG,Value.bool sK2.2.1]::.row 74 6 vJG nJH csJI::L)∧Inc HLL H∧f 0=Value.pointer (some (⟨b0,0,none⟩:Addr))∧f 3=Value.pointer (some ⟨bLe,0,none⟩)∧f 9=Value.pointer (some (⟨b0,0,none⟩:Addr))∧f 19=Value.bool t833) ?_ ?_
   ·
    clear hp;have hp:=hqtLP;clear hqtLP
    rcases ifB hp with ⟨cLV,hp⟩|⟨cLV,hp⟩
    ·
     refine FL.skip (wF_no rfl rfl rfl cLV) rfl ?_
     refine FL.skip (wF_no rfl rfl rfl cLV) rfl ?_
     refine FL.skip (wF_no rfl rfl rfl cLV) rfl ?_
     refine FL.skip (wF_no rfl rfl rfl cLV) rfl ?_
     obtain rfl:=Option.some.inj hp
     refine FL.v (E.pickT rfl cLV rfl) ?_
     exact FL.nil ⟨rfl,_,SLM,(Inc.rfl _),rfl,rfl,rfl,rfl⟩
    ·
     refine FL.val (zab rfl rfl rfl cLV) rfl rfl (E.fieldAddr zap rfl) ?_
     refine FL.val (zab rfl rfl rfl cLV) rfl rfl (E.load rfl (zao Tryz.isAgg68 Tryz.sizeOf68 ((atLO.now SLM.sl).sub (j:=0) (n:=2) (c:=[vLv,vLB]) rfl) rfl)) ?_
     obtain ⟨rLW,hrLX,hp⟩:=bnd hp
     refine FL.call (zab rfl rfl rfl cLV) rfl rfl (E.call Tryz.call120 (A1 rfl)) (zbh SLM.sl rLn vLv (hLw.mono (upI.tr iLN)) vLB (hLC.mono (upI.tr iLN)) hrLX) ?_
     rintro e wLY ⟨rfl,rLZ⟩
     refine ⟨_,rfl,?_⟩
     have SM0:=SLM.call rLZ
     refine FL.val (zab rfl rfl rfl cLV) rfl rfl (E.not rfl) ?_
     obtain rfl:=Option.some.inj hp
     refine FL.v (E.pickF rfl cLV rfl) ?_
     exact FL.nil ⟨rfl,_,SM0,(Inc.rfl _),rfl,rfl,rfl,rfl⟩
   rintro fLU wLT ⟨HLQ,SLR,iLS,kM1,kM2,kM3,kM4⟩
   refine FL.v (E.move kM4) ?_
   refine FL.cut 7 (fun f w=>∃ H:GH,St H0 w0 H w (.row 9 1 vA4 nA5 csA6::.box b0 92 [vJG,Value.bool sK2.2.1]::.row 74 6 vJG nJH csJI::L)∧Inc HLQ H∧f 0=Value.pointer (some (⟨b0,0,none⟩:Addr))∧f 3=Value.pointer (some ⟨bLe,0,none⟩)∧f 9=Value.pointer (some (⟨b0,0,none⟩:Addr))∧f 27=Value.bool (bif t833 then true else (decide (200≤(len sK2.1))))) ?_ ?_
   ·
    rcases bcase t833 with cMa|cMa
    ·
     refine FL.skip (wF_no rfl rfl rfl cMa) rfl ?_
     refine FL.skip (wF_no rfl rfl rfl cMa) rfl ?_
     refine FL.skip (wF_no rfl rfl rfl cMa) rfl ?_
     refine FL.skip (wF_no rfl rfl rfl cMa) rfl ?_
     refine FL.skip (wF_no rfl rfl rfl cMa) rfl ?_
     refine FL.skip (wF_no rfl rfl rfl cMa) rfl ?_
     refine FL.v (E.pickT rfl cMa rfl) ?_
     exact FL.nil ⟨rfl,_,SLR,(Inc.rfl _),kM1,kM2,kM3,(congrArg Value.bool (bifT cMa).symm)⟩
    ·
     refine FL.val (zab rfl rfl rfl cMa) rfl rfl (E.move kM1) ?_
     refine FL.val (zab rfl rfl rfl cMa) rfl rfl (E.nilCheck rfl) ?_
     refine FL.val (zab rfl rfl rfl cMa) rfl rfl (E.fieldAddr zav rfl) ?_
     refine FL.val (zab rfl rfl rfl cMa) rfl rfl (E.load rfl (zaf Tryz.isAgg24 (SLR.box_now (i:=1) rfl) rfl)) ?_
     refine FL.val (zab rfl rfl rfl cMa) rfl rfl (E.lenO te24 rfl SLR (i:=2) rfl elsJJ (by decide)) ?_
     refine FL.val (zab rfl rfl rfl cMa) rfl rfl (E.geq rfl rfl) ?_
     refine FL.v (E.pickF rfl cMa rfl) ?_
     exact FL.nil ⟨rfl,_,SLR,(Inc.rfl _),kM1,kM2,kM3,(congrArg Value.bool (bifF cMa).symm)⟩
   rintro fM9 wM8 ⟨HM5,SM6,iM7,kMb,kMc,kMd,kMe⟩
   refine FL.v (E.nilCheck kMd) ?_
   refine FL.v (E.fieldAddr zaU rfl) ?_
   obtain ⟨wMf,runMg,SMh⟩:=SM6.store (P:=Tryz.prog) (t:=4) (i:=1) (j:=1) (cs':=[vJG,Value.bool (bif t833 then true else (decide (200≤(len sK2.1))))]) (l':=(.row 9 1 vA4 nA5 csA6::.box b0 92 [vJG,Value.bool (bif t833 then true else (decide (200≤(len sK2.1))))]::.row 74 6 vJG nJH csJI::L)) (v:=Value.bool (bif t833 then true else (decide (200≤(len sK2.1))))) (c:=[Value.bool (bif t833 then true else (decide (200≤(len sK2.1))))]) rfl Tryz.sizeOf4 rfl rfl (zaa rfl zag) (Nat.le_of_ble_eq_true rfl) rfl rfl
   refine FL.act rfl rfl (E.store rfl kMe runMg) ?_
   refine FL.nil (FW.seq ?_)
   obtain ⟨xsMO,hzMP,hp⟩:=bnd hp
   refine FW.drawB (Sl HM5) (fun f w=>∃ H:GH,∃ vNi:Value,∃ nNj:Nat,∃ csNk:List Value,St H0 w0 H w (.row 9 1 vA4 nA5 csA6::.box b0 92 [vNi,Value.bool (bif t833 then true else (decide (200≤(len sK2.1))))]::.row 74 6 vNi nNj csNk::L)∧Inc HM5 H∧Els (up w0.heap.size H) eSeqStep 6 csNk xsMO∧(bl csNk).Nodup∧f 0=Value.pointer (some (⟨b0,0,none⟩:Addr))) (by kernel_rfl) SMh.sl ?_ ?_
   ·
    intro wMi rMj
    have SMk:=SMh.call rMj
    refine FB.phase [10] (fun w=>WAt w (Addr.add ⟨b0,0,none⟩ 0) [vJG]) ?_
    refine FB.t (i:=0) (bs 11 1) rfl (SP.on ((SMk.box_now (i:=1) rfl).sub (j:=0) (n:=1) (c:=[vJG]) rfl) (SP.nil SMk.sl)) rfl (fun w' hw'=>(E.move kMb)) ?_
    refine FB.t (i:=1) (bs 11 3) rfl (SP.on ((SMk.box_now (i:=1) rfl).sub (j:=0) (n:=1) (c:=[vJG]) rfl) (SP.nil SMk.sl)) rfl (fun w' hw'=>(E.move kMb)) ?_
    refine FB.t (i:=2) (bs 11 7) rfl (SP.on ((SMk.box_now (i:=1) rfl).sub (j:=0) (n:=1) (c:=[vJG]) rfl) (SP.nil SMk.sl)) rfl (fun w' hw'=>(E.nilCheck rfl)) ?_
    refine FB.t (i:=3) (bs 11 15) rfl (SP.on ((SMk.box_now (i:=1) rfl).sub (j:=0) (n:=1) (c:=[vJG]) rfl) (SP.nil SMk.sl)) rfl (fun w' hw'=>(E.fieldAddr zav rfl)) ?_
    refine FB.p (i:=4) (bs 11 31) 0 [7,8,9,10] rfl (SP.on ((SMk.box_now (i:=1) rfl).sub (j:=0) (n:=1) (c:=[vJG]) rfl) (SP.nil SMk.sl)) rfl rfl (fun w' hw'=>(E.load rfl (zar Tryz.isAgg24 hw' rfl))) ?_
    refine FB.t (i:=5) (bs 11 63) rfl (SP.on ((SMk.box_now (i:=1) rfl).sub (j:=0) (n:=1) (c:=[vJG]) rfl) (SP.nil SMk.sl)) rfl (fun w' hw'=>(E.load kMc (zao Tryz.isAgg74 Tryz.sizeOf74 ((atLO.mono (iLS.tr iM7)).now hw') rfl))) ?_
    refine FB.all1 (i:=6) (by kernel_rfl) ?_
    ·
     obtain ⟨vME,wMF,runMG,SMH⟩:=SMk.buildSlice (P:=Tryz.prog) te24 [Value.agg #[vLv,vLB,Value.int .i64 11,Value.string y77.text,Value.int .i64 sCK.2.2,Value.int .i64 sK2.2.2]] (parts:=#[(0,Value.agg #[vLv,vLB,Value.int .i64 11,Value.string y77.text,Value.int .i64 sCK.2.2,Value.int .i64 sK2.2.2])]) (cells:=[vLv,vLB,Value.int .i64 11,Value.string y77.text,Value.int .i64 sCK.2.2,Value.int .i64 sK2.2.2]) rfl (zan rfl zal) (zam rfl zak) (zaa hLw.one (zaa hLC.one (zaa rfl (zaa rfl (zaa rfl (zaa rfl zag)))))) (Nat.le_of_ble_eq_true rfl)
     have elsMI:Els (up w0.heap.size HM5) eSeqStep 6 [vLv,vLB,Value.int .i64 11,Value.string y77.text,Value.int .i64 sCK.2.2,Value.int .i64 sK2.2.2] [(zac.mk rLn 11 y77.text sCK.2.2 sK2.2.2)]:=(Els.snoc (H:=(up w0.heap.size HM5)) (E:=eSeqStep) (k:=6) (c:=[vLv,vLB,Value.int .i64 11,Value.string y77.text,Value.int .i64 sCK.2.2,Value.int .i64 sK2.2.2]) (x:=(zac.mk rLn 11 y77.text sCK.2.2 sK2.2.2)) Els.nil rfl ⟨_,_,rfl,(hLw.mono (zai ((iLN.tr iLS).tr iM7))),(hLC.mono (zai ((iLN.tr iLS).tr iM7)))⟩)
     have ndMJ:(bl [vLv,vLB,Value.int .i64 11,Value.string y77.text,Value.int .i64 sCK.2.2,Value.int .i64 sK2.2.2]).Nodup:=by exact zaR ap825.dis
     have nvMK:New HJO [vLv,vLB,Value.int .i64 11,Value.string y77.text,Value.int .i64 sCK.2.2,Value.int .i64 sK2.2.2]:=by exact (New.two nvLA nvLG)
     refine FC.val (l':=(bs 11 127)) rfl (by kernel_rfl) rfl rfl rfl (E.buildSlice (B1 rfl) runMG) ?_
     refine ⟨(SP.on ((SMH.box_now (i:=2) rfl).sub (j:=0) (n:=1) (c:=[vJG]) rfl) (SP.nil SMH.sl)),?_⟩
     refine FB.all1 (i:=7) (by kernel_rfl) ?_
     ·
      obtain ⟨vMQ,wMT,nMR,csMS,runMU,SMV,elsMW,ceMX⟩:=SMH.appendO (P:=Tryz.prog) te24 (i:=3) (j:=0) rfl (elsJJ.mono (zai (((rLs.inc.tr iLN).tr iLS).tr iM7))) rfl elsMI hzMP
      have SMV:St H0 w0 HM5 wMT (.row 74 6 vME 1 [vLv,vLB,Value.int .i64 11,Value.string y77.text,Value.int .i64 sCK.2.2,Value.int .i64 sK2.2.2]::.row 9 1 vA4 nA5 csA6::.box b0 92 [vJG,Value.bool (bif t833 then true else (decide (200≤(len sK2.1))))]::.row 74 6 vMQ nMR csMS::L):=SMV
      have ndMY:(bl csMS).Nodup:=by rw [ceMX];exact za0 ndJK ndMJ (Els.dom (elsJJ.mono (upI.tr (Inc.rfl _)))) (by exact nvMK)
      have SMZ:St H0 w0 HM5 wMT (.row 9 1 vA4 nA5 csA6::.box b0 92 [vJG,Value.bool (bif t833 then true else (decide (200≤(len sK2.1))))]::.row 74 6 vMQ nMR csMS::L):=SMV.drop 0
      refine FC.val (l':=(bs 11 255)) rfl (by kernel_rfl) rfl rfl rfl (E.append rfl rfl runMU) ?_
      refine ⟨(SP.on ((SMZ.box_now (i:=1) rfl).sub (j:=0) (n:=1) (c:=[vJG]) rfl) (SP.nil SMZ.sl)),?_⟩
      refine FB.t (i:=8) (bs 11 511) rfl (SP.on ((SMZ.box_now (i:=1) rfl).sub (j:=0) (n:=1) (c:=[vJG]) rfl) (SP.nil SMZ.sl)) rfl (fun w' hw'=>(E.nilCheck rfl)) ?_
      refine FB.t (i:=9) (bs 11 1023) rfl (SP.on ((SMZ.box_now (i:=1) rfl).sub (j:=0) (n:=1) (c:=[vJG]) rfl) (SP.nil SMZ.sl)) rfl (fun w' hw'=>(E.fieldAddr zav rfl)) ?_
      refine FB.all1 (i:=10) (by kernel_rfl) ?_
      ·
       obtain ⟨wNf,runNg,SNh⟩:=SMZ.store (P:=Tryz.prog) (t:=24) (i:=1) (j:=0) (cs':=[vMQ,Value.bool (bif t833 then true else (decide (200≤(len sK2.1))))]) (l':=(.row 9 1 vA4 nA5 csA6::.box b0 92 [vMQ,Value.bool (bif t833 then true else (decide (200≤(len sK2.1))))]::.row 74 6 vMQ nMR csMS::L)) (v:=vMQ) (c:=[vMQ]) rfl Tryz.sizeOf24 (Ln.cells (SMZ.row_ln (i:=2) rfl)) rfl (zaa (Ln.one (SMZ.row_ln (i:=2) rfl)) zag) (Nat.le_of_ble_eq_true rfl) rfl rfl
       refine FC.act (l':=(bs 11 2047)) rfl (by kernel_rfl) rfl rfl (E.store rfl rfl runNg) ?_
       refine ⟨(SP.o (SP.nil SNh.sl)),?_⟩
       exact FB.done (by kernel_rfl) ⟨_,_,_,_,SNh,(Inc.rfl _),elsMW,ndMY,kMb⟩
   ·
    rintro fNr wNq ⟨HNn,vNi,nNj,csNk,SNo,iNp,elsNl,ndNm,kNs⟩
    refine FW.seq (FW.region ?_)
    refine FL.v (E.move kNs) ?_
    refine FL.v (E.nilCheck rfl) ?_
    refine FL.v (E.fieldAddr zav rfl) ?_
    refine FL.v (E.load rfl (zaf Tryz.isAgg24 (SNo.box_now (i:=1) rfl) rfl)) ?_
    refine FL.v (E.lenO te24 rfl SNo (i:=2) rfl elsNl (by decide)) ?_
    refine FL.v (E.sub rfl rfl) ?_
    refine FL.v (E.assign (v:=Value.int .i64 (wr ((len xsMO) - 1))) rfl) ?_
    refine FL.nil ?_
    refine FW.ret ?_
    obtain rfl:=Option.some.inj hp
    exact ⟨.inr rfl,res1 rfl rfl (by rw [hRL8];exact ⟨_,_,_,_,rfl,SNo,((((rLs.inc.tr iLN).tr iLS).tr iM7).tr iNp),elsNl,ndNm⟩)⟩
  clear hqL8
  refine FL.call rfl rfl rfl (E.call Tryz.call70 (A2 rfl rfl)) hcL8 ?_
  intro e wNw hQL8
  rw [hRL8] at hQL8
  obtain ⟨HNt,vL9,nLa,csLb,rfl,SNu,iNv,elsLc,ndLd⟩:=hQL8
  refine ⟨_,rfl,?_⟩
  refine FL.v (E.assign (v:=Value.int .i64 sL8.2.2) rfl) ?_
  refine FL.nil (FW.seq (FW.region ?_))
  refine FL.v (E.move kJT) ?_
  refine FL.v (E.move kJU) ?_
  refine FL.v (E.move kJX) ?_
  refine FL.v (E.build (B2 rfl rfl) (run_build _ 68 #[(0,v30),(1,vJL)] #[v30,vJL] (by obtain ⟨_,_,rfl⟩:=RSl.ln (h31.mono (upI.tr ((((((((((((r74.inc.tr rA3.run.inc).tr rAi.run.inc).tr rAz.run.inc).tr iCr).tr rCD.run.inc).tr iEB).tr rEN.run.inc).tr iGL).tr rH2.run.inc).tr iJ0).tr iJQ).tr iNv)));obtain ⟨_,_,rfl⟩:=RSl.ln (hJM.mono (upI.tr iNv));rfl))) ?_
  refine FL.v (E.move kJV) ?_
  obtain ⟨xND,hxNE,hp⟩:=bnd hp
  obtain ⟨pNx,csNy,ptNz,lNA,atNB,relNC⟩:=h45.at hxNE
  obtain rfl:=eS_open relNC
  refine FL.v (E.indexAddr te22 rfl rfl ptNz) ?_
  refine FL.v (E.load rfl (zar Tryz.isAgg9 ((atNB.mono (upI.tr ((((((((((((r74.inc.tr rA3.run.inc).tr rAi.run.inc).tr rAz.run.inc).tr iCr).tr rCD.run.inc).tr iEB).tr rEN.run.inc).tr iGL).tr rH2.run.inc).tr iJ0).tr iJQ).tr iNv))).now SNu.sl) rfl)) ?_
  refine FL.v (E.move kJZ) ?_
  refine FL.v (E.move (v:=Value.int .i64 sL8.2.2) rfl) ?_
  refine FL.v (E.build (B5 rfl rfl rfl rfl rfl) (run_build _ 74 #[(0,Value.agg #[v30,vJL]),(1,Value.int .i64 11),(2,Value.string xND),(3,Value.int .i64 s21.2.2),(4,Value.int .i64 sL8.2.2)] #[v30,vJL,Value.int .i64 11,Value.string xND,Value.int .i64 s21.2.2,Value.int .i64 sL8.2.2] (by obtain ⟨_,_,rfl⟩:=RSl.ln (h31.mono (upI.tr ((((((((((((r74.inc.tr rA3.run.inc).tr rAi.run.inc).tr rAz.run.inc).tr iCr).tr rCD.run.inc).tr iEB).tr rEN.run.inc).tr iGL).tr rH2.run.inc).tr iJ0).tr iJQ).tr iNv)));obtain ⟨_,_,rfl⟩:=RSl.ln (hJM.mono (upI.tr iNv));rfl))) ?_
  obtain ⟨sNF,hqNF,hp⟩:=bnd hp
  obtain ⟨R947,hRNF⟩:∃ R947:((List zac)×Bool×Int)→Ending→World→Prop,R947=(fun sNF e w=>∃ H:GH,∃ vNG:Value,∃ nNH:Nat,∃ csNI:List Value,e=Ending.returned (Value.int .i64 sNF.2.2)∧St H0 w0 H w (.row 9 1 vA4 nA5 csA6::.box b0 92 [vNG,Value.bool sNF.2.1]::.row 74 6 vNG nNH csNI::L)∧Inc HNt H∧Els (up w0.heap.size H) eSeqStep 6 csNI sNF.1∧(bl csNI).Nodup):=⟨_,rfl⟩
  have hcNF:Calls Tryz.prog 70 #[Value.pointer (some (⟨b0,0,none⟩:Addr)),Value.agg #[v30,vJL,Value.int .i64 11,Value.string xND,Value.int .i64 s21.2.2,Value.int .i64 sL8.2.2]] wNw (R947 sNF):=by
   clear hp;have hp:=hqNF;clear hqNF
   refine zaj (N:=46) (args:=[Value.pointer (some (⟨b0,0,none⟩:Addr)),Value.agg #[v30,vJL,Value.int .i64 11,Value.string xND,Value.int .i64 s21.2.2,Value.int .i64 sL8.2.2]]) Tryz.func70 rfl rfl rfl ?_
   refine FW.seq (FW.region ?_)
   obtain ⟨bNL,wNM,runNN,SNO⟩:=SNu.box (P:=Tryz.prog) 74 [v30,vJL,Value.int .i64 11,Value.string xND,Value.int .i64 s21.2.2,Value.int .i64 sL8.2.2] (v:=Value.agg #[v30,vJL,Value.int .i64 11,Value.string xND,Value.int .i64 s21.2.2,Value.int .i64 sL8.2.2]) rfl (zaa h31.one (zaa hJM.one (zaa rfl (zaa rfl (zaa rfl (zaa rfl zag))))))
   refine FL.v (E.box rfl runNN) ?_
   refine FL.v (E.assign (v:=Value.int .i64 0) rfl) ?_
   refine FL.nil (FW.seq (FW.region ?_))
   refine FL.v (E.fieldAddr zap rfl) ?_
   refine FL.v (E.load rfl (zao Tryz.isAgg68 Tryz.sizeOf68 ((SNO.box_now (i:=0) rfl).sub (j:=0) (n:=2) (c:=[v30,vJL]) rfl) rfl)) ?_
   obtain ⟨rNP,hrNQ,hp⟩:=bnd hp
   refine FL.call rfl rfl rfl (E.call Tryz.call114 (A1 rfl)) (zbC SNO.sl (zad.mk x28.seq.left [y85.text]) v30 (h31.mono (upI.tr ((((((((((((r74.inc.tr rA3.run.inc).tr rAi.run.inc).tr rAz.run.inc).tr iCr).tr rCD.run.inc).tr iEB).tr rEN.run.inc).tr iGL).tr rH2.run.inc).tr iJ0).tr iJQ).tr iNv))) vJL (hJM.mono (upI.tr iNv)) hrNQ) ?_
   rintro e wNS ⟨HNR,vNV,vO1,rfl,rNU,⟨cNY,cO4,nsNX,nsO3,ap975⟩⟩
   refine ⟨_,rfl,?_⟩
   have hNW:=nsNX.rsl
   have nvNZ:New HNt cNY:=New.of_up SNO.sl (fun b hb=>nsNX.dom b (.inr hb))
   have nvO0:New HNt [vNV]:=New.of_up SNO.sl hNW.dom
   have hNW:=hNW.mono (up_le SNO.size)
   have nsNX:=nsNX.mono (up_le SNO.size)
   have hO2:=nsO3.rsl
   have nvO5:New HNt cO4:=New.of_up SNO.sl (fun b hb=>nsO3.dom b (.inr hb))
   have nvO6:New HNt [vO1]:=New.of_up SNO.sl hO2.dom
   have hO2:=hO2.mono (up_le SNO.size)
   have nsO3:=nsO3.mono (up_le SNO.size)
   have SNT:=SNO.call rNU
   refine FL.v (E.fieldAddr zap rfl) ?_
   obtain ⟨wO8,runO9,SOa⟩:=SNT.store (P:=Tryz.prog) (t:=68) (i:=0) (j:=0) (cs':=[vNV,vO1,Value.int .i64 11,Value.string xND,Value.int .i64 s21.2.2,Value.int .i64 sL8.2.2]) (l':=(.box bNL 74 [vNV,vO1,Value.int .i64 11,Value.string xND,Value.int .i64 s21.2.2,Value.int .i64 sL8.2.2]::.row 9 1 vA4 nA5 csA6::.box b0 92 [vL9,Value.bool sL8.2.1]::.row 74 6 vL9 nLa csLb::L)) (v:=Value.agg #[vNV,vO1]) (c:=[vNV,vO1]) rfl Tryz.sizeOf68 rfl rfl (zaa hNW.one (zaa hO2.one zag)) (Nat.le_of_ble_eq_true rfl) rfl rfl
   refine FL.act rfl rfl (E.store rfl rfl runO9) ?_
   obtain ⟨HOb,SOc,iOd,atOe⟩:=SOa.sealBox (i:=0) (l':=(.row 9 1 vA4 nA5 csA6::.box b0 92 [vL9,Value.bool sL8.2.1]::.row 74 6 vL9 nLa csLb::L)) rfl rfl
   refine FL.nil (FW.seq (FW.region ?_))
   refine FL.v (E.move (v:=Value.pointer (some (⟨b0,0,none⟩:Addr))) rfl) ?_
   refine FL.v (E.move (v:=Value.pointer (some (⟨b0,0,none⟩:Addr))) rfl) ?_
   refine FL.v (E.nilCheck rfl) ?_
   refine FL.v (E.fieldAddr zaU rfl) ?_
   refine FL.v (E.load rfl (zaf Tryz.isAgg4 (SOc.box_now (i:=1) rfl) rfl)) ?_
   refine FL.v (E.move (v:=Value.bool sL8.2.1) rfl) ?_
   obtain ⟨t983,hqtOf,hp⟩:=bnd hp
   refine FL.cut 5 (fun f w=>∃ H:GH,St H0 w0 H w (.row 9 1 vA4 nA5 csA6::.box b0 92 [vL9,Value.bool sL8.2.1]::.row 74 6 vL9 nLa csLb::L)∧Inc HOb H∧f 0=Value.pointer (some (⟨b0,0,none⟩:Addr))∧f 3=Value.pointer (some ⟨bNL,0,none⟩)∧f 9=Value.pointer (some (⟨b0,0,none⟩:Addr))∧f 19=Value.bool t983) ?_ ?_
   ·
    clear hp;have hp:=hqtOf;clear hqtOf
    rcases ifB hp with ⟨cOl,hp⟩|⟨cOl,hp⟩
    ·
     refine FL.skip (wF_no rfl rfl rfl cOl) rfl ?_
     refine FL.skip (wF_no rfl rfl rfl cOl) rfl ?_
     refine FL.skip (wF_no rfl rfl rfl cOl) rfl ?_
     refine FL.skip (wF_no rfl rfl rfl cOl) rfl ?_
     obtain rfl:=Option.some.inj hp
     refine FL.v (E.pickT rfl cOl rfl) ?_
     exact FL.nil ⟨rfl,_,SOc,(Inc.rfl _),rfl,rfl,rfl,rfl⟩
    ·
     refine FL.val (zab rfl rfl rfl cOl) rfl rfl (E.fieldAddr zap rfl) ?_
     refine FL.val (zab rfl rfl rfl cOl) rfl rfl (E.load rfl (zao Tryz.isAgg68 Tryz.sizeOf68 ((atOe.now SOc.sl).sub (j:=0) (n:=2) (c:=[vNV,vO1]) rfl) rfl)) ?_
     obtain ⟨rOm,hrOn,hp⟩:=bnd hp
     refine FL.call (zab rfl rfl rfl cOl) rfl rfl (E.call Tryz.call120 (A1 rfl)) (zbh SOc.sl rNP vNV (hNW.mono (upI.tr iOd)) vO1 (hO2.mono (upI.tr iOd)) hrOn) ?_
     rintro e wOo ⟨rfl,rOp⟩
     refine ⟨_,rfl,?_⟩
     have SOq:=SOc.call rOp
     refine FL.val (zab rfl rfl rfl cOl) rfl rfl (E.not rfl) ?_
     obtain rfl:=Option.some.inj hp
     refine FL.v (E.pickF rfl cOl rfl) ?_
     exact FL.nil ⟨rfl,_,SOq,(Inc.rfl _),rfl,rfl,rfl,rfl⟩
   rintro fOk wOj ⟨HOg,SOh,iOi,kOr,kOs,kOt,kOu⟩
   refine FL.v (E.move kOu) ?_
   refine FL.cut 7 (fun f w=>∃ H:GH,St H0 w0 H w (.row 9 1 vA4 nA5 csA6::.box b0 92 [vL9,Value.bool sL8.2.1]::.row 74 6 vL9 nLa csLb::L)∧Inc HOg H∧f 0=Value.pointer (some (⟨b0,0,none⟩:Addr))∧f 3=Value.pointer (some ⟨bNL,0,none⟩)∧f 9=Value.pointer (some (⟨b0,0,none⟩:Addr))∧f 27=Value.bool (bif t983 then true else (decide (200≤(len sL8.1))))) ?_ ?_
   ·
    rcases bcase t983 with cOA|cOA
    ·
     refine FL.skip (wF_no rfl rfl rfl cOA) rfl ?_
     refine FL.skip (wF_no rfl rfl rfl cOA) rfl ?_
     refine FL.skip (wF_no rfl rfl rfl cOA) rfl ?_
     refine FL.skip (wF_no rfl rfl rfl cOA) rfl ?_
     refine FL.skip (wF_no rfl rfl rfl cOA) rfl ?_
     refine FL.skip (wF_no rfl rfl rfl cOA) rfl ?_
     refine FL.v (E.pickT rfl cOA rfl) ?_
     exact FL.nil ⟨rfl,_,SOh,(Inc.rfl _),kOr,kOs,kOt,(congrArg Value.bool (bifT cOA).symm)⟩
    ·
     refine FL.val (zab rfl rfl rfl cOA) rfl rfl (E.move kOr) ?_
     refine FL.val (zab rfl rfl rfl cOA) rfl rfl (E.nilCheck rfl) ?_
     refine FL.val (zab rfl rfl rfl cOA) rfl rfl (E.fieldAddr zav rfl) ?_
     refine FL.val (zab rfl rfl rfl cOA) rfl rfl (E.load rfl (zaf Tryz.isAgg24 (SOh.box_now (i:=1) rfl) rfl)) ?_
     refine FL.val (zab rfl rfl rfl cOA) rfl rfl (E.lenO te24 rfl SOh (i:=2) rfl elsLc (by decide)) ?_
     refine FL.val (zab rfl rfl rfl cOA) rfl rfl (E.geq rfl rfl) ?_
     refine FL.v (E.pickF rfl cOA rfl) ?_
     exact FL.nil ⟨rfl,_,SOh,(Inc.rfl _),kOr,kOs,kOt,(congrArg Value.bool (bifF cOA).symm)⟩
   rintro fOz wOy ⟨HOv,SOw,iOx,kOB,kOC,kOD,kOE⟩
   refine FL.v (E.nilCheck kOD) ?_
   refine FL.v (E.fieldAddr zaU rfl) ?_
   obtain ⟨wOF,runOG,SOH⟩:=SOw.store (P:=Tryz.prog) (t:=4) (i:=1) (j:=1) (cs':=[vL9,Value.bool (bif t983 then true else (decide (200≤(len sL8.1))))]) (l':=(.row 9 1 vA4 nA5 csA6::.box b0 92 [vL9,Value.bool (bif t983 then true else (decide (200≤(len sL8.1))))]::.row 74 6 vL9 nLa csLb::L)) (v:=Value.bool (bif t983 then true else (decide (200≤(len sL8.1))))) (c:=[Value.bool (bif t983 then true else (decide (200≤(len sL8.1))))]) rfl Tryz.sizeOf4 rfl rfl (zaa rfl zag) (Nat.le_of_ble_eq_true rfl) rfl rfl
   refine FL.act rfl rfl (E.store rfl kOE runOG) ?_
   refine FL.nil (FW.seq ?_)
   obtain ⟨xsOS,hzOT,hp⟩:=bnd hp
   refine FW.drawB (Sl HOv) (fun f w=>∃ H:GH,∃ vP7:Value,∃ nP8:Nat,∃ csP9:List Value,St H0 w0 H w (.row 9 1 vA4 nA5 csA6::.box b0 92 [vP7,Value.bool (bif t983 then true else (decide (200≤(len sL8.1))))]::.row 74 6 vP7 nP8 csP9::L)∧Inc HOv H∧Els (up w0.heap.size H) eSeqStep 6 csP9 xsOS∧(bl csP9).Nodup∧f 0=Value.pointer (some (⟨b0,0,none⟩:Addr))) (by kernel_rfl) SOH.sl ?_ ?_
   ·
    intro wOI rOJ
    have SOK:=SOH.call rOJ
    refine FB.phase [10] (fun w=>WAt w (Addr.add ⟨b0,0,none⟩ 0) [vL9]) ?_
    refine FB.t (i:=0) (bs 11 1) rfl (SP.on ((SOK.box_now (i:=1) rfl).sub (j:=0) (n:=1) (c:=[vL9]) rfl) (SP.nil SOK.sl)) rfl (fun w' hw'=>(E.move kOB)) ?_
    refine FB.t (i:=1) (bs 11 3) rfl (SP.on ((SOK.box_now (i:=1) rfl).sub (j:=0) (n:=1) (c:=[vL9]) rfl) (SP.nil SOK.sl)) rfl (fun w' hw'=>(E.move kOB)) ?_
    refine FB.t (i:=2) (bs 11 7) rfl (SP.on ((SOK.box_now (i:=1) rfl).sub (j:=0) (n:=1) (c:=[vL9]) rfl) (SP.nil SOK.sl)) rfl (fun w' hw'=>(E.nilCheck rfl)) ?_
    refine FB.t (i:=3) (bs 11 15) rfl (SP.on ((SOK.box_now (i:=1) rfl).sub (j:=0) (n:=1) (c:=[vL9]) rfl) (SP.nil SOK.sl)) rfl (fun w' hw'=>(E.fieldAddr zav rfl)) ?_
    refine FB.p (i:=4) (bs 11 31) 0 [7,8,9,10] rfl (SP.on ((SOK.box_now (i:=1) rfl).sub (j:=0) (n:=1) (c:=[vL9]) rfl) (SP.nil SOK.sl)) rfl rfl (fun w' hw'=>(E.load rfl (zar Tryz.isAgg24 hw' rfl))) ?_
    refine FB.t (i:=5) (bs 11 63) rfl (SP.on ((SOK.box_now (i:=1) rfl).sub (j:=0) (n:=1) (c:=[vL9]) rfl) (SP.nil SOK.sl)) rfl (fun w' hw'=>(E.load kOC (zao Tryz.isAgg74 Tryz.sizeOf74 ((atOe.mono (iOi.tr iOx)).now hw') rfl))) ?_
    refine FB.all1 (i:=6) (by kernel_rfl) ?_
    ·
     obtain ⟨vOL,wOM,runON,SOO⟩:=SOK.buildSlice (P:=Tryz.prog) te24 [Value.agg #[vNV,vO1,Value.int .i64 11,Value.string xND,Value.int .i64 s21.2.2,Value.int .i64 sL8.2.2]] (parts:=#[(0,Value.agg #[vNV,vO1,Value.int .i64 11,Value.string xND,Value.int .i64 s21.2.2,Value.int .i64 sL8.2.2])]) (cells:=[vNV,vO1,Value.int .i64 11,Value.string xND,Value.int .i64 s21.2.2,Value.int .i64 sL8.2.2]) rfl (zan rfl zal) (zam rfl zak) (zaa hNW.one (zaa hO2.one (zaa rfl (zaa rfl (zaa rfl (zaa rfl zag)))))) (Nat.le_of_ble_eq_true rfl)
     have elsOP:Els (up w0.heap.size HOv) eSeqStep 6 [vNV,vO1,Value.int .i64 11,Value.string xND,Value.int .i64 s21.2.2,Value.int .i64 sL8.2.2] [(zac.mk rNP 11 xND s21.2.2 sL8.2.2)]:=(Els.snoc (H:=(up w0.heap.size HOv)) (E:=eSeqStep) (k:=6) (c:=[vNV,vO1,Value.int .i64 11,Value.string xND,Value.int .i64 s21.2.2,Value.int .i64 sL8.2.2]) (x:=(zac.mk rNP 11 xND s21.2.2 sL8.2.2)) Els.nil rfl ⟨_,_,rfl,(hNW.mono (zai ((iOd.tr iOi).tr iOx))),(hO2.mono (zai ((iOd.tr iOi).tr iOx)))⟩)
     have ndOQ:(bl [vNV,vO1,Value.int .i64 11,Value.string xND,Value.int .i64 s21.2.2,Value.int .i64 sL8.2.2]).Nodup:=by exact zaR ap975.dis
     have nvOR:New HNt [vNV,vO1,Value.int .i64 11,Value.string xND,Value.int .i64 s21.2.2,Value.int .i64 sL8.2.2]:=by exact (New.two nvO0 nvO6)
     refine FC.val (l':=(bs 11 127)) rfl (by kernel_rfl) rfl rfl rfl (E.buildSlice (B1 rfl) runON) ?_
     refine ⟨(SP.on ((SOO.box_now (i:=2) rfl).sub (j:=0) (n:=1) (c:=[vL9]) rfl) (SP.nil SOO.sl)),?_⟩
     refine FB.all1 (i:=7) (by kernel_rfl) ?_
     ·
      obtain ⟨vOU,wOX,nOV,csOW,runOY,SOZ,elsP0,ceP1⟩:=SOO.appendO (P:=Tryz.prog) te24 (i:=3) (j:=0) rfl (elsLc.mono (zai (((rNU.inc.tr iOd).tr iOi).tr iOx))) rfl elsOP hzOT
      have SOZ:St H0 w0 HOv wOX (.row 74 6 vOL 1 [vNV,vO1,Value.int .i64 11,Value.string xND,Value.int .i64 s21.2.2,Value.int .i64 sL8.2.2]::.row 9 1 vA4 nA5 csA6::.box b0 92 [vL9,Value.bool (bif t983 then true else (decide (200≤(len sL8.1))))]::.row 74 6 vOU nOV csOW::L):=SOZ
      have ndP2:(bl csOW).Nodup:=by rw [ceP1];exact za0 ndLd ndOQ (Els.dom (elsLc.mono (upI.tr (Inc.rfl _)))) (by exact nvOR)
      have SP3:St H0 w0 HOv wOX (.row 9 1 vA4 nA5 csA6::.box b0 92 [vL9,Value.bool (bif t983 then true else (decide (200≤(len sL8.1))))]::.row 74 6 vOU nOV csOW::L):=SOZ.drop 0
      refine FC.val (l':=(bs 11 255)) rfl (by kernel_rfl) rfl rfl rfl (E.append rfl rfl runOY) ?_
      refine ⟨(SP.on ((SP3.box_now (i:=1) rfl).sub (j:=0) (n:=1) (c:=[vL9]) rfl) (SP.nil SP3.sl)),?_⟩
      refine FB.t (i:=8) (bs 11 511) rfl (SP.on ((SP3.box_now (i:=1) rfl).sub (j:=0) (n:=1) (c:=[vL9]) rfl) (SP.nil SP3.sl)) rfl (fun w' hw'=>(E.nilCheck rfl)) ?_
      refine FB.t (i:=9) (bs 11 1023) rfl (SP.on ((SP3.box_now (i:=1) rfl).sub (j:=0) (n:=1) (c:=[vL9]) rfl) (SP.nil SP3.sl)) rfl (fun w' hw'=>(E.fieldAddr zav rfl)) ?_
      refine FB.all1 (i:=10) (by kernel_rfl) ?_
      ·
       obtain ⟨wP4,runP5,SP6⟩:=SP3.store (P:=Tryz.prog) (t:=24) (i:=1) (j:=0) (cs':=[vOU,Value.bool (bif t983 then true else (decide (200≤(len sL8.1))))]) (l':=(.row 9 1 vA4 nA5 csA6::.box b0 92 [vOU,Value.bool (bif t983 then true else (decide (200≤(len sL8.1))))]::.row 74 6 vOU nOV csOW::L)) (v:=vOU) (c:=[vOU]) rfl Tryz.sizeOf24 (Ln.cells (SP3.row_ln (i:=2) rfl)) rfl (zaa (Ln.one (SP3.row_ln (i:=2) rfl)) zag) (Nat.le_of_ble_eq_true rfl) rfl rfl
       refine FC.act (l':=(bs 11 2047)) rfl (by kernel_rfl) rfl rfl (E.store rfl rfl runP5) ?_
       refine ⟨(SP.o (SP.nil SP6.sl)),?_⟩
       exact FB.done (by kernel_rfl) ⟨_,_,_,_,SP6,(Inc.rfl _),elsP0,ndP2,kOB⟩
   ·
    rintro fPg wPf ⟨HPc,vP7,nP8,csP9,SPd,iPe,elsPa,ndPb,kPh⟩
    refine FW.seq (FW.region ?_)
    refine FL.v (E.move kPh) ?_
    refine FL.v (E.nilCheck rfl) ?_
    refine FL.v (E.fieldAddr zav rfl) ?_
    refine FL.v (E.load rfl (zaf Tryz.isAgg24 (SPd.box_now (i:=1) rfl) rfl)) ?_
    refine FL.v (E.lenO te24 rfl SPd (i:=2) rfl elsPa (by decide)) ?_
    refine FL.v (E.sub rfl rfl) ?_
    refine FL.v (E.assign (v:=Value.int .i64 (wr ((len xsOS) - 1))) rfl) ?_
    refine FL.nil ?_
    refine FW.ret ?_
    obtain rfl:=Option.some.inj hp
    exact ⟨.inr rfl,res1 rfl rfl (by rw [hRNF];exact ⟨_,_,_,_,rfl,SPd,((((rNU.inc.tr iOd).tr iOi).tr iOx).tr iPe),elsPa,ndPb⟩)⟩
  clear hqNF
  refine FL.call rfl rfl rfl (E.call Tryz.call70 (A2 rfl rfl)) hcNF ?_
  intro e wPl hQNF
  rw [hRNF] at hQNF
  obtain ⟨HPi,vNG,nNH,csNI,rfl,SPj,iPk,elsNJ,ndNK⟩:=hQNF
  refine ⟨_,rfl,?_⟩
  refine FL.v (E.assign (v:=Value.int .i64 sNF.2.2) rfl) ?_
  refine FL.nil ?_
  refine FW.ret ?_
  obtain rfl:=Option.some.inj hp
  exact ⟨.inr rfl,res1 rfl rfl ⟨_,_,_,_,rfl,⟨(SPj.selT (a:=[.row 9 1 vA4 nA5 csA6,.box b0 92 [vNG,Value.bool sNF.2.1],.row 74 6 vNG nNH csNI]) (l':=[.box b0 92 [vNG,Value.bool sNF.2.1],.row 74 6 vNG nNH csNI]) [1,2] (by decide) rfl),(((((((((((((r74.inc.tr rA3.run.inc).tr rAi.run.inc).tr rAz.run.inc).tr iCr).tr rCD.run.inc).tr iEB).tr rEN.run.inc).tr iGL).tr rH2.run.inc).tr iJ0).tr iJQ).tr iNv).tr iPk)⟩,elsNJ,ndNK⟩⟩

@[reducible] def zeO (Ha:GH) (wa:World) (r:((List zac)×Bool)):Ending→World→Prop :=
 fun e w'=>∃ H':GH,∃ v0:Value,∃ n0:Nat,∃ c0:List Value,e=.returned (Value.tuple #[v0,Value.bool r.2])∧St Ha wa H' w' [.row 74 6 v0 n0 c0]∧Els (up wa.heap.size H') eSeqStep 6 c0 r.1∧(bl c0).Nodup
set_option maxHeartbeats 4000000 in
theorem zej {Ha:GH} {wa:World} (hs:Sl Ha wa) (v0:Value) (a0:List zac) (p0:RSl Ha eSeqStep 6 v0 a0) (v1:Value) (a1:List zac) (p1:RSl Ha eSeqStep 6 v1 a1) {r:((List zac)×Bool)} (hp:(PF.zcA a0 a1)=some r) :
  Calls Tryz.prog 27 #[v0,v1] wa (zeO Ha wa r):=by
 unfold PF.zcA at hp
 have S0:=St.init hs
 refine zaj (N:=41) (args:=[v0,v1]) Tryz.func27 rfl rfl rfl ?_
 refine FW.seq (FW.region ?_)
 refine FL.v (E.assign (v:=Value.slice none 0 0) rfl) ?_
 refine FL.v (E.assign (v:=Value.bool false) rfl) ?_
 refine FL.nil (FW.seq (FW.seq (FW.region ?_)))
 refine FL.v (E.move (v:=v0) rfl) ?_
 obtain ⟨r21,hr22,hp⟩:=bnd hp
 refine FL.call rfl rfl rfl (E.call Tryz.call62 (A1 rfl)) (zeg S0.sl v0 a0 p0 hr22) ?_
 rintro e w23 ⟨rfl,r24⟩
 refine ⟨_,rfl,?_⟩
 have S25:=S0.call r24
 refine FL.v (E.not rfl) ?_
 refine FL.v (E.move (v:=Value.bool (!r21)) rfl) ?_
 obtain ⟨t31,hqt31,hp⟩:=bnd hp
 refine FL.cut 4 (fun f w=>∃ H:GH,St Ha wa H w []∧Inc Ha H∧f 0=v0∧f 1=v1∧f 15=Value.bool t31) ?_ ?_
 ·
  clear hp;have hp:=hqt31;clear hqt31
  rcases ifB hp with ⟨c37,hp⟩|⟨c37,hp⟩
  ·
   refine FL.skip (wF_no rfl rfl rfl c37) rfl ?_
   refine FL.skip (wF_no rfl rfl rfl c37) rfl ?_
   refine FL.skip (wF_no rfl rfl rfl c37) rfl ?_
   obtain rfl:=Option.some.inj hp
   refine FL.v (E.pickT rfl c37 rfl) ?_
   exact FL.nil ⟨rfl,_,S25,(Inc.rfl _),rfl,rfl,rfl⟩
  ·
   refine FL.val (zab rfl rfl rfl c37) rfl rfl (E.move (v:=v1) rfl) ?_
   obtain ⟨r38,hr39,hp⟩:=bnd hp
   refine FL.call (zab rfl rfl rfl c37) rfl rfl (E.call Tryz.call62 (A1 rfl)) (zeg S25.sl v1 a1 p1 hr39) ?_
   rintro e w40 ⟨rfl,r41⟩
   refine ⟨_,rfl,?_⟩
   have S42:=S25.call r41
   refine FL.val (zab rfl rfl rfl c37) rfl rfl (E.not rfl) ?_
   obtain rfl:=Option.some.inj hp
   refine FL.v (E.pickF rfl c37 rfl) ?_
   exact FL.nil ⟨rfl,_,S42,(Inc.rfl _),rfl,rfl,rfl⟩
 rintro f36 w35 ⟨H32,S33,i34,k43,k44,k45⟩
 refine FL.v (E.move k45) ?_
 obtain ⟨t71,hqt71,hp⟩:=bnd hp
 refine FL.cut 9 (fun f w=>∃ H:GH,St Ha wa H w []∧Inc H32 H∧f 0=v0∧f 1=v1∧f 25=Value.bool t71) ?_ ?_
 ·
  clear hp;have hp:=hqt71;clear hqt71
  rcases ifB hp with ⟨c77,hp⟩|⟨c77,hp⟩
  ·
   refine FL.skip (wF_no rfl rfl rfl c77) rfl ?_
   refine FL.skip (wF_no rfl rfl rfl c77) rfl ?_
   refine FL.skip (wF_no rfl rfl rfl c77) rfl ?_
   refine FL.skip (wF_no rfl rfl rfl c77) rfl ?_
   refine FL.skip (wF_no rfl rfl rfl c77) rfl ?_
   refine FL.skip (wF_no rfl rfl rfl c77) rfl ?_
   refine FL.skip (wF_no rfl rfl rfl c77) rfl ?_
   refine FL.skip (wF_no rfl rfl rfl c77) rfl ?_
   obtain rfl:=Option.some.inj hp
   refine FL.v (E.pickT rfl c77 rfl) ?_
   exact FL.nil ⟨rfl,_,S33,(Inc.rfl _),k43,k44,rfl⟩
  ·
   refine FL.val (zab rfl rfl rfl c77) rfl rfl (E.move k43) ?_
   obtain ⟨r78,hr79,hp⟩:=bnd hp
   refine FL.call (zab rfl rfl rfl c77) rfl rfl (E.call Tryz.call66 (A1 rfl)) (zeh S33.sl v0 a0 (p0.mono i34) hr79) ?_
   rintro e w81 ⟨H80,v84,v86,rfl,r83,h85,h87⟩
   refine ⟨_,rfl,?_⟩
   have S82:=S33.call r83
   refine FL.val (zab rfl rfl rfl c77) rfl rfl (E.fieldA (fa74_0 rfl) rfl) ?_
   refine FL.val (zab rfl rfl rfl c77) rfl rfl (E.move k44) ?_
   obtain ⟨r88,hr89,hp⟩:=bnd hp
   refine FL.call (zab rfl rfl rfl c77) rfl rfl (E.call Tryz.call66 (A1 rfl)) (zeh S82.sl v1 a1 (p1.mono (i34.tr r83.inc)) hr89) ?_
   rintro e w91 ⟨H90,v94,v96,rfl,r93,h95,h97⟩
   refine ⟨_,rfl,?_⟩
   have S92:=S82.call r93
   refine FL.val (zab rfl rfl rfl c77) rfl rfl (E.fieldA (fa74_0 rfl) rfl) ?_
   obtain ⟨r98,hr99,hp⟩:=bnd hp
   refine FL.call (zab rfl rfl rfl c77) rfl rfl (E.call Tryz.call75 (A2 rfl rfl)) (w_impl_implication S92.sl r78.seq v84 (h85.mono r93.inc) v86 (h87.mono r93.inc) r88.seq v94 h95 v96 h97 hr99) ?_
   rintro e wA0 ⟨rfl,rA1⟩
   refine ⟨_,rfl,?_⟩
   have SA2:=S92.call rA1
   refine FL.val (zab rfl rfl rfl c77) rfl rfl (E.not rfl) ?_
   obtain rfl:=Option.some.inj hp
   refine FL.v (E.pickF rfl c77 rfl) ?_
   exact FL.nil ⟨rfl,_,SA2,(r83.inc.tr r93.inc),k43,k44,rfl⟩
 rintro f76 w75 ⟨H72,S73,i74,kA3,kA4,kA5⟩
 refine FL.nil ?_
 rcases ifB hp with ⟨cA6,hp⟩|⟨cA6,hp⟩
 ·
  refine FW.condT kA5 cA6 ?_
  refine FW.seq (FW.region ?_)
  refine FL.v (E.assign (v:=Value.slice none 0 0) rfl) ?_
  refine FL.v (E.assign (v:=Value.bool false) rfl) ?_
  refine FL.nil ?_
  refine FW.ret ?_
  obtain rfl:=Option.some.inj hp
  exact ⟨.inr rfl,res2 rfl rfl rfl ⟨_,_,_,_,rfl,(S73.nil 74 6),Els.nil,List.nodup_nil⟩⟩
 ·
  refine FW.condF kA5 cA6 ?_
  refine FW.skip (FW.seq (FW.region ?_))
  refine FL.v (E.build (B0) (run_build _ 92 #[] #[Value.slice none 0 0,Value.bool false] (by rfl))) ?_
  obtain ⟨bA7,wA8,runA9,SAa⟩:=S73.box (P:=Tryz.prog) 92 [Value.slice none 0 0,Value.bool false] (v:=Value.agg #[Value.slice none 0 0,Value.bool false]) rfl (zaa rfl (zaa rfl zag))
  refine FL.v (E.box rfl runA9) ?_
  refine FL.v (E.assign (v:=Value.pointer (some (⟨bA7,0,none⟩:Addr))) rfl) ?_
  refine FL.nil (FW.seq (FW.region ?_))
  refine FL.v (E.move (v:=Value.pointer (some (⟨bA7,0,none⟩:Addr))) rfl) ?_
  refine FL.v (E.move kA3) ?_
  have SAb:=SAa.nil 74 6
  have elsAc:Els (up wa.heap.size H72) eSeqStep 6 [] []:=Els.nil
  obtain ⟨rAd,hrAe,hp⟩:=bnd hp
  have SAf:St Ha wa H72 wA8 [.box bA7 92 [(Value.slice none 0 0),Value.bool false],.row 74 6 (Value.slice none 0 0) 0 []]:=SAb.front 1 rfl rfl
  refine FL.call rfl rfl rfl (E.call Tryz.call69 (A2 rfl rfl)) (zei (L:=[]) SAf (a0:=(za8.mk [] false)) elsAc (show (bl []).Nodup from List.nodup_nil) v0 a0 (p0.mono (i34.tr i74)) hrAe) ?_
  rintro e wAh ⟨HAg,vAk,nAl,csAm,rfl,⟨SAi,iAj⟩,elsAn,ndAo⟩
  refine ⟨_,rfl,?_⟩
  have SAi:St Ha wa HAg wAh [.box bA7 92 [vAk,Value.bool rAd.2.bad],.row 74 6 vAk nAl csAm]:=SAi
  refine FL.v (E.assign (v:=Value.int .i64 rAd.1) rfl) ?_
  refine FL.nil (FW.seq (FW.region ?_))
  refine FL.v (E.move (v:=Value.pointer (some (⟨bA7,0,none⟩:Addr))) rfl) ?_
  refine FL.v (E.move (v:=Value.int .i64 rAd.1) rfl) ?_
  refine FL.v (E.move (v:=Value.pointer (some (⟨bA7,0,none⟩:Addr))) rfl) ?_
  refine FL.v (E.move kA4) ?_
  obtain ⟨rAp,hrAq,hp⟩:=bnd hp
  have SAr:St Ha wa HAg wAh [.row 74 6 vAk nAl csAm,.box bA7 92 [vAk,Value.bool rAd.2.bad]]:=SAi.front 1 rfl rfl
  have SAs:St Ha wa HAg wAh [.box bA7 92 [vAk,Value.bool rAd.2.bad],.row 74 6 vAk nAl csAm]:=SAr.front 1 rfl rfl
  refine FL.call rfl rfl rfl (E.call Tryz.call69 (A2 rfl rfl)) (zei (L:=[]) SAs (a0:=rAd.2) elsAn ndAo v1 a1 (p1.mono ((i34.tr i74).tr iAj)) hrAq) ?_
  rintro e wAu ⟨HAt,vAx,nAy,csAz,rfl,⟨SAv,iAw⟩,elsAA,ndAB⟩
  refine ⟨_,rfl,?_⟩
  have SAv:St Ha wa HAt wAu [.box bA7 92 [vAx,Value.bool rAp.2.bad],.row 74 6 vAx nAy csAz]:=SAv
  obtain ⟨rAC,hrAD,hp⟩:=bnd hp
  have SAE:St Ha wa HAt wAu [.row 74 6 vAx nAy csAz,.box bA7 92 [vAx,Value.bool rAp.2.bad]]:=SAv.front 1 rfl rfl
  have SAF:St Ha wa HAt wAu [.box bA7 92 [vAx,Value.bool rAp.2.bad],.row 74 6 vAx nAy csAz]:=SAE.front 1 rfl rfl
  refine FL.call rfl rfl rfl (E.call Tryz.call76 (A3 rfl rfl rfl)) (zeN (L:=[]) SAF (a0:=rAp.2) elsAA ndAB rAd.1 rAp.1 hrAD) ?_
  rintro e wAH ⟨HAG,vAK,nAL,csAM,rfl,⟨SAI,iAJ⟩,elsAN,ndAO⟩
  refine ⟨_,rfl,?_⟩
  have SAI:St Ha wa HAG wAH [.box bA7 92 [vAK,Value.bool rAC.2.bad],.row 74 6 vAK nAL csAM]:=SAI
  refine FL.nil (FW.seq (FW.region ?_))
  refine FL.v (E.move (v:=Value.pointer (some (⟨bA7,0,none⟩:Addr))) rfl) ?_
  obtain ⟨sAQ,hqAQ,hp⟩:=bnd hp
  obtain ⟨R152,hRAQ⟩:∃ R152:(Bool×(List zac))→Ending→World→Prop,R152=(fun sAQ e w=>∃ H:GH,∃ vAR:Value,∃ nAS:Nat,∃ csAT:List Value,e=Ending.returned (Value.tuple #[vAR,Value.bool sAQ.1])∧St Ha wa H w [.box bA7 92 [vAK,Value.bool rAC.2.bad],.row 74 6 vAR nAS csAT]∧Inc HAG H∧Els (up wa.heap.size H) eSeqStep 6 csAT sAQ.2∧(bl csAT).Nodup):=⟨_,rfl⟩
  have hcAQ:Calls Tryz.prog 71 #[Value.pointer (some (⟨bA7,0,none⟩:Addr))] wAH (R152 sAQ):=by
   clear hp;have hp:=hqAQ;clear hqAQ
   refine zaj (N:=12) (args:=[Value.pointer (some (⟨bA7,0,none⟩:Addr))]) Tryz.func71 rfl rfl rfl ?_
   refine FW.seq (FW.region ?_)
   refine FL.v (E.assign (v:=Value.slice none 0 0) rfl) ?_
   refine FL.v (E.assign (v:=Value.bool false) rfl) ?_
   refine FL.nil (FW.seq (FW.seq (FW.region ?_)))
   refine FL.v (E.move (v:=Value.pointer (some (⟨bA7,0,none⟩:Addr))) rfl) ?_
   refine FL.v (E.nilCheck rfl) ?_
   refine FL.v (E.fieldAddr zaU rfl) ?_
   refine FL.v (E.load rfl (zaf Tryz.isAgg4 (SAI.box_now (i:=0) rfl) rfl)) ?_
   refine FL.nil ?_
   rcases ifB hp with ⟨cAW,hp⟩|⟨cAW,hp⟩
   ·
    refine FW.condT rfl cAW ?_
    refine FW.seq (FW.region ?_)
    refine FL.v (E.assign (v:=Value.slice none 0 0) rfl) ?_
    refine FL.v (E.assign (v:=Value.bool false) rfl) ?_
    refine FL.nil ?_
    refine FW.ret ?_
    obtain rfl:=Option.some.inj hp
    exact ⟨.inr rfl,res2 rfl rfl rfl (by rw [hRAQ];exact ⟨_,_,_,_,rfl,((SAI.nil 74 6).sel [1,0] (by decide) rfl),(Inc.rfl _),Els.nil,List.nodup_nil⟩)⟩
   ·
    refine FW.condF rfl cAW ?_
    refine FW.skip (FW.seq (FW.region ?_))
    refine FL.v (E.move (v:=Value.pointer (some (⟨bA7,0,none⟩:Addr))) rfl) ?_
    refine FL.v (E.nilCheck rfl) ?_
    refine FL.v (E.fieldAddr zav rfl) ?_
    refine FL.v (E.load rfl (zaf Tryz.isAgg24 (SAI.box_now (i:=0) rfl) rfl)) ?_
    refine FL.v (E.assign (v:=vAK) rfl) ?_
    refine FL.v (E.assign (v:=Value.bool true) rfl) ?_
    refine FL.nil ?_
    refine FW.ret ?_
    obtain rfl:=Option.some.inj hp
    exact ⟨.inr rfl,res2 rfl rfl rfl (by rw [hRAQ];exact ⟨_,_,_,_,rfl,SAI,(Inc.rfl _),elsAN,ndAO⟩)⟩
  clear hqAQ
  refine FL.call rfl rfl rfl (E.call Tryz.call71 (A1 rfl)) hcAQ ?_
  intro e wB0 hQAQ
  rw [hRAQ] at hQAQ
  obtain ⟨HAX,vAR,nAS,csAT,rfl,SAY,iAZ,elsAU,ndAV⟩:=hQAQ
  refine ⟨_,rfl,?_⟩
  refine FL.v (E.extract (i:=0) rfl rfl) ?_
  refine FL.v (E.extract (i:=1) rfl rfl) ?_
  refine FL.v (E.assign (v:=vAR) rfl) ?_
  refine FL.v (E.assign (v:=Value.bool sAQ.1) rfl) ?_
  refine FL.nil ?_
  refine FW.ret ?_
  obtain rfl:=Option.some.inj hp
  exact ⟨.inr rfl,res2 rfl rfl rfl ⟨_,_,_,_,rfl,(SAY.sel [1] (by decide) rfl),elsAU,ndAV⟩⟩

set_option maxHeartbeats 4000000 in
theorem zek {Ha:GH} {wa:World} (hs:Sl Ha wa) (v0:Value) (a0:List ByteArray) (p0:RSl Ha eS 1 v0 a0) (v1:Value) (a1:List ByteArray) (p1:RSl Ha eS 1 v1 a1) {r:Bool} (hp:(PF.zcB a0 a1)=some r) :
  Calls Tryz.prog 14 #[v0,v1] wa (Sc Ha wa (Value.bool r)):=by
 unfold PF.zcB at hp
 have S0:=St.init hs
 refine zaj (N:=26) (args:=[v0,v1]) Tryz.func14 rfl rfl rfl ?_
 refine FW.seq (FW.region ?_)
 refine FL.v (E.assign (v:=Value.bool false) rfl) ?_
 refine FL.nil (FW.seq (FW.seq (FW.region ?_)))
 refine FL.v (E.move (v:=v0) rfl) ?_
 refine FL.v (E.lenP te22 rfl p0) ?_
 refine FL.v (E.move (v:=v1) rfl) ?_
 refine FL.v (E.lenP te22 rfl p1) ?_
 refine FL.v (E.neq rfl rfl) ?_
 refine FL.nil ?_
 rcases ifB hp with ⟨c21,hp⟩|⟨c21,hp⟩
 ·
  refine FW.condT rfl c21 ?_
  refine FW.seq (FW.region ?_)
  refine FL.v (E.assign (v:=Value.bool false) rfl) ?_
  refine FL.nil ?_
  refine FW.ret ?_
  obtain rfl:=Option.some.inj hp
  exact ⟨.inr rfl,res1 rfl rfl ⟨rfl,S0.back⟩⟩
 ·
  refine FW.condF rfl c21 ?_
  refine FW.skip (FW.seq (FW.seq (FW.region ?_)))
  refine FL.v (E.assign (v:=Value.int .i64 0) rfl) ?_
  refine FL.nil ?_
  obtain ⟨q23,hq,hp⟩:=bndR hp
  refine FW.block ?_
  refine FW.mono (FW.forL (S:=Unit) (X:=Bool) (fun (i23:Nat) (s23:Unit) f w=>∃ H:GH,St Ha wa H w []∧Inc Ha H∧f 5=Value.int .i64 ((i23:Nat):Int)∧f 0=v0∧f 1=v1) (fun q e f w=>match q with|.go s23=>e=Exit.exit 0∧(∃ H:GH,St Ha wa H w []∧Inc Ha H)|.rt x=>((e=Exit.ret)∧(fun e f w=>(e=Exit.normal∨e=Exit.ret)∧∀ a,Fr (δ:=[]) 26 a f→∃ v,(results Tryz.f14 a.tmps).run Tryz.prog w=.ok v w∧(Sc Ha wa (Value.bool x)) (.returned v) w) e f w)) hq ⟨_,S0,(Inc.rfl _),rfl,rfl,rfl⟩ ?_ ?_) ?_
  ·
   clear hp hq
   rintro i23 y22 s23 f55 w54 ⟨H51,S52,i53,k56,k57,k58⟩ hx23 o78 hp
   refine FW.seq (FW.seq (FW.region ?_))
   refine FL.v (E.move k56) ?_
   refine FL.v (E.move k57) ?_
   refine FL.v (E.lenP te22 rfl p0) ?_
   refine FL.v (E.lssT rfl rfl (zaJ hx23)) ?_
   refine FL.nil ?_
   refine FW.condT rfl rfl ?_
   refine FW.skip (FW.seq (FW.block (FW.seq ?_)))
   refine FW.draw (fun w'=>Run w54.heap.size H51 w54 H51 w') (by kernel_rfl) (by kernel_rfl) (zaN S52.sl) ?_
   refine FD.val rfl rfl rfl (fun w' hw'=>(E.move k57)) ?_
   refine FD.val rfl rfl rfl (fun w' hw'=>(E.move k56)) ?_
   obtain ⟨p60,cs61,pt62,l63,at64,rel65⟩:=p0.at (zaF hx23)
   obtain rfl:=eS_open rel65
   refine FD.val rfl rfl rfl (fun w' hw'=>(E.indexAddr te22 rfl rfl pt62)) ?_
   refine FD.val rfl rfl rfl (fun w' hw'=>(E.load rfl (zar Tryz.isAgg9 ((at64.mono i53).now (S52.call hw').sl) rfl))) ?_
   refine FD.val rfl rfl rfl (fun w' hw'=>(E.move k58)) ?_
   refine FD.val rfl rfl rfl (fun w' hw'=>(E.move k56)) ?_
   obtain ⟨x72,hx73,hp⟩:=bnd hp
   obtain ⟨p66,cs67,pt68,l69,at70,rel71⟩:=p1.at hx73
   obtain rfl:=eS_open rel71
   refine FD.val rfl rfl rfl (fun w' hw'=>(E.indexAddr te22 rfl rfl pt68)) ?_
   refine FD.val rfl rfl rfl (fun w' hw'=>(E.load rfl (zar Tryz.isAgg9 ((at70.mono i53).now (S52.call hw').sl) rfl))) ?_
   refine FD.val rfl rfl rfl (fun w' hw'=>(E.neqS rfl rfl)) ?_
   refine FD.nil ?_
   intro w74 r76
   have S75:=S52.call r76
   rcases ifB hp with ⟨c77,hp⟩|⟨c77,hp⟩
   ·
    refine FW.condT rfl c77 ?_
    refine FW.seq (FW.region ?_)
    refine FL.v (E.assign (v:=Value.bool false) rfl) ?_
    refine FL.nil ?_
    refine FW.ret ?_
    obtain rfl:=Option.some.inj hp
    exact ⟨nofun,rfl,⟨.inr rfl,res1 rfl rfl ⟨rfl,S75.back⟩⟩⟩
   ·
    refine FW.condF rfl c77 ?_
    refine FW.skip (FW.region ?_)
    refine FL.v (E.move k56) ?_
    refine FL.v (E.add rfl rfl) ?_
    refine FL.v (E.assign (v:=Value.int .i64 (wr (((i23:Nat):Int) + 1))) rfl) ?_
    refine FL.nil ?_
    obtain rfl:=Option.some.inj hp
    exact ⟨rfl,⟨_,S75,i53,(zaA rfl (zat hx23) (p0.mono i53).le),k57,k58⟩⟩
  ·
   clear hp hq
   rintro s23 f88 w87 ⟨H84,S85,i86,k89,k90,k91⟩
   refine FW.seq (FW.seq (FW.region ?_))
   refine FL.v (E.move k89) ?_
   refine FL.v (E.move k90) ?_
   refine FL.v (E.lenP te22 rfl p0) ?_
   refine FL.v (E.lss rfl rfl) ?_
   refine FL.nil ?_
   refine FW.condF rfl zaK ?_
   refine FW.exit ?_
   exact ⟨nofun,rfl,⟨_,S85,i86⟩⟩
  ·
   clear hq
   intro e f83 w82 hD
   rcases q23 with s23|x23
   ·
    obtain ⟨rfl,hD⟩:=hD
    obtain ⟨H79,S80,i81⟩:=hD
    replace hp:=el_go hp
    refine FW.seq (FW.region ?_)
    refine FL.v (E.assign (v:=Value.bool true) rfl) ?_
    refine FL.nil ?_
    refine FW.ret ?_
    obtain rfl:=Option.some.inj hp
    exact ⟨.inr rfl,res1 rfl rfl ⟨rfl,S80.back⟩⟩
   ·
    obtain ⟨he,hL⟩:=hD
    replace hp:=el_rt hp
    obtain rfl:=Option.some.inj hp
    subst he
    exact hL

theorem w_laws_eqSequent {Ha:GH} {wa:World} (hs:Sl Ha wa) (a0:zad) (v0_0:Value) (p0_0:RSl Ha eS 1 v0_0 a0.left) (v0_1:Value) (p0_1:RSl Ha eS 1 v0_1 a0.right) (a1:zad) (v1_0:Value) (p1_0:RSl Ha eS 1 v1_0 a1.left) (v1_1:Value) (p1_1:RSl Ha eS 1 v1_1 a1.right) {r:Bool} (hp:(PF.zc6 a0 a1)=some r) :
  Calls Tryz.prog 105 #[Value.agg #[v0_0,v0_1],Value.agg #[v1_0,v1_1]] wa (Sc Ha wa (Value.bool r)):=by
 unfold PF.zc6 at hp
 have S0:=St.init hs
 refine zaj (N:=17) (args:=[Value.agg #[v0_0,v0_1],Value.agg #[v1_0,v1_1]]) Tryz.func105 rfl rfl rfl ?_
 refine FW.seq (FW.region ?_)
 obtain ⟨b21,w22,run23,S24⟩:=S0.box (P:=Tryz.prog) 68 [v0_0,v0_1] (v:=Value.agg #[v0_0,v0_1]) rfl (zaa p0_0.one (zaa p0_1.one zag))
 refine FL.v (E.box rfl run23) ?_
 obtain ⟨H25,S26,i27,at28⟩:=S24.sealBox (i:=0) (l':=[]) rfl rfl
 obtain ⟨b29,w30,run31,S32⟩:=S26.box (P:=Tryz.prog) 68 [v1_0,v1_1] (v:=Value.agg #[v1_0,v1_1]) rfl (zaa p1_0.one (zaa p1_1.one zag))
 refine FL.v (E.box rfl run31) ?_
 obtain ⟨H33,S34,i35,at36⟩:=S32.sealBox (i:=0) (l':=[]) rfl rfl
 refine FL.v (E.assign (v:=Value.bool false) rfl) ?_
 refine FL.nil (FW.seq (FW.seq (FW.region ?_)))
 refine FL.v (E.fieldAddr zau rfl) ?_
 refine FL.v (E.load rfl (zaf Tryz.isAgg22 ((at28.mono i35).now S34.sl) rfl)) ?_
 refine FL.v (E.fieldAddr zau rfl) ?_
 refine FL.v (E.load rfl (zaf Tryz.isAgg22 (at36.now S34.sl) rfl)) ?_
 obtain ⟨r37,hr38,hp⟩:=bnd hp
 refine FL.call rfl rfl rfl (E.call Tryz.call14 (A2 rfl rfl)) (zek S34.sl v0_0 a0.left (p0_0.mono (i27.tr i35)) v1_0 a1.left (p1_0.mono (i27.tr i35)) hr38) ?_
 rintro e w39 ⟨rfl,r40⟩
 refine ⟨_,rfl,?_⟩
 have S41:=S34.call r40
 refine FL.v (E.not rfl) ?_
 refine FL.nil ?_
 rcases ifB hp with ⟨c42,hp⟩|⟨c42,hp⟩
 ·
  refine FW.condT rfl c42 ?_
  refine FW.seq (FW.region ?_)
  refine FL.v (E.assign (v:=Value.bool false) rfl) ?_
  refine FL.nil ?_
  refine FW.ret ?_
  obtain rfl:=Option.some.inj hp
  exact ⟨.inr rfl,res1 rfl rfl ⟨rfl,S41.back⟩⟩
 ·
  refine FW.condF rfl c42 ?_
  refine FW.skip (FW.seq (FW.seq (FW.region ?_)))
  refine FL.v (E.fieldAddr zas rfl) ?_
  refine FL.v (E.load rfl (zaf Tryz.isAgg22 ((at28.mono i35).now S41.sl) rfl)) ?_
  refine FL.v (E.fieldAddr zas rfl) ?_
  refine FL.v (E.load rfl (zaf Tryz.isAgg22 (at36.now S41.sl) rfl)) ?_
  obtain ⟨r43,hr44,hp⟩:=bnd hp
  refine FL.call rfl rfl rfl (E.call Tryz.call14 (A2 rfl rfl)) (zek S41.sl v0_1 a0.right (p0_1.mono (i27.tr i35)) v1_1 a1.right (p1_1.mono (i27.tr i35)) hr44) ?_
  rintro e w45 ⟨rfl,r46⟩
  refine ⟨_,rfl,?_⟩
  have S47:=S41.call r46
  refine FL.v (E.not rfl) ?_
  refine FL.nil ?_
  rcases ifB hp with ⟨c48,hp⟩|⟨c48,hp⟩
  ·
   refine FW.condT rfl c48 ?_
   refine FW.seq (FW.region ?_)
   refine FL.v (E.assign (v:=Value.bool false) rfl) ?_
   refine FL.nil ?_
   refine FW.ret ?_
   obtain rfl:=Option.some.inj hp
   exact ⟨.inr rfl,res1 rfl rfl ⟨rfl,S47.back⟩⟩
  ·
   refine FW.condF rfl c48 ?_
   refine FW.skip (FW.seq (FW.region ?_))
   refine FL.v (E.assign (v:=Value.bool true) rfl) ?_
   refine FL.nil ?_
   refine FW.ret ?_
   obtain rfl:=Option.some.inj hp
   exact ⟨.inr rfl,res1 rfl rfl ⟨rfl,S47.back⟩⟩

set_option maxHeartbeats 4000000 in
theorem w_laws_eqSeqStep {Ha:GH} {wa:World} (hs:Sl Ha wa) (a0:zac) (v0_0:Value) (p0_0:RSl Ha eS 1 v0_0 a0.seq.left) (v0_1:Value) (p0_1:RSl Ha eS 1 v0_1 a0.seq.right) (a1:zac) (v1_0:Value) (p1_0:RSl Ha eS 1 v1_0 a1.seq.left) (v1_1:Value) (p1_1:RSl Ha eS 1 v1_1 a1.seq.right) {r:Bool} (hp:(PF.zcb a0 a1)=some r) :
  Calls Tryz.prog 54 #[Value.agg #[v0_0,v0_1,Value.int .i64 a0.rule,Value.string a0.main,Value.int .i64 a0.a,Value.int .i64 a0.b],Value.agg #[v1_0,v1_1,Value.int .i64 a1.rule,Value.string a1.main,Value.int .i64 a1.a,Value.int .i64 a1.b]] wa (Sc Ha wa (Value.bool r)):=by
 unfold PF.zcb at hp
 have S0:=St.init hs
 refine zaj (N:=31) (args:=[Value.agg #[v0_0,v0_1,Value.int .i64 a0.rule,Value.string a0.main,Value.int .i64 a0.a,Value.int .i64 a0.b],Value.agg #[v1_0,v1_1,Value.int .i64 a1.rule,Value.string a1.main,Value.int .i64 a1.a,Value.int .i64 a1.b]]) Tryz.func54 rfl rfl rfl ?_
 refine FW.seq (FW.region ?_)
 obtain ⟨b21,w22,run23,S24⟩:=S0.box (P:=Tryz.prog) 74 [v0_0,v0_1,Value.int .i64 a0.rule,Value.string a0.main,Value.int .i64 a0.a,Value.int .i64 a0.b] (v:=Value.agg #[v0_0,v0_1,Value.int .i64 a0.rule,Value.string a0.main,Value.int .i64 a0.a,Value.int .i64 a0.b]) rfl (zaa p0_0.one (zaa p0_1.one (zaa rfl (zaa rfl (zaa rfl (zaa rfl zag))))))
 refine FL.v (E.box rfl run23) ?_
 obtain ⟨H25,S26,i27,at28⟩:=S24.sealBox (i:=0) (l':=[]) rfl rfl
 obtain ⟨b29,w30,run31,S32⟩:=S26.box (P:=Tryz.prog) 74 [v1_0,v1_1,Value.int .i64 a1.rule,Value.string a1.main,Value.int .i64 a1.a,Value.int .i64 a1.b] (v:=Value.agg #[v1_0,v1_1,Value.int .i64 a1.rule,Value.string a1.main,Value.int .i64 a1.a,Value.int .i64 a1.b]) rfl (zaa p1_0.one (zaa p1_1.one (zaa rfl (zaa rfl (zaa rfl (zaa rfl zag))))))
 refine FL.v (E.box rfl run31) ?_
 obtain ⟨H33,S34,i35,at36⟩:=S32.sealBox (i:=0) (l':=[]) rfl rfl
 refine FL.v (E.assign (v:=Value.bool false) rfl) ?_
 refine FL.nil (FW.seq (FW.seq (FW.region ?_)))
 refine FL.v (E.fieldAddr zap rfl) ?_
 refine FL.v (E.load rfl (zao Tryz.isAgg68 Tryz.sizeOf68 (((at28.mono i35).now S34.sl).sub (j:=0) (n:=2) (c:=[v0_0,v0_1]) rfl) rfl)) ?_
 refine FL.v (E.fieldAddr zap rfl) ?_
 refine FL.v (E.load rfl (zao Tryz.isAgg68 Tryz.sizeOf68 ((at36.now S34.sl).sub (j:=0) (n:=2) (c:=[v1_0,v1_1]) rfl) rfl)) ?_
 obtain ⟨r37,hr38,hp⟩:=bnd hp
 refine FL.call rfl rfl rfl (E.call Tryz.call105 (A2 rfl rfl)) (w_laws_eqSequent S34.sl a0.seq v0_0 (p0_0.mono (i27.tr i35)) v0_1 (p0_1.mono (i27.tr i35)) a1.seq v1_0 (p1_0.mono (i27.tr i35)) v1_1 (p1_1.mono (i27.tr i35)) hr38) ?_
 rintro e w39 ⟨rfl,r40⟩
 refine ⟨_,rfl,?_⟩
 have S41:=S34.call r40
 refine FL.v (E.not rfl) ?_
 refine FL.nil ?_
 rcases ifB hp with ⟨c42,hp⟩|⟨c42,hp⟩
 ·
  refine FW.condT rfl c42 ?_
  refine FW.seq (FW.region ?_)
  refine FL.v (E.assign (v:=Value.bool false) rfl) ?_
  refine FL.nil ?_
  refine FW.ret ?_
  obtain rfl:=Option.some.inj hp
  exact ⟨.inr rfl,res1 rfl rfl ⟨rfl,S41.back⟩⟩
 ·
  refine FW.condF rfl c42 ?_
  refine FW.skip (FW.seq (FW.seq (FW.region ?_)))
  refine FL.v (E.fieldAddr zaT rfl) ?_
  refine FL.v (E.load rfl (zaf Tryz.isAgg3 ((at28.mono i35).now S41.sl) rfl)) ?_
  refine FL.v (E.fieldAddr zaT rfl) ?_
  refine FL.v (E.load rfl (zaf Tryz.isAgg3 (at36.now S41.sl) rfl)) ?_
  refine FL.v (E.neq rfl rfl) ?_
  refine FL.nil ?_
  rcases ifB hp with ⟨c43,hp⟩|⟨c43,hp⟩
  ·
   refine FW.condT rfl c43 ?_
   refine FW.seq (FW.region ?_)
   refine FL.v (E.assign (v:=Value.bool false) rfl) ?_
   refine FL.nil ?_
   refine FW.ret ?_
   obtain rfl:=Option.some.inj hp
   exact ⟨.inr rfl,res1 rfl rfl ⟨rfl,S41.back⟩⟩
  ·
   refine FW.condF rfl c43 ?_
   refine FW.skip (FW.seq (FW.seq (FW.region ?_)))
   refine FL.v (E.fieldAddr zaZ rfl) ?_
   refine FL.v (E.load rfl (zaf Tryz.isAgg9 ((at28.mono i35).now S41.sl) rfl)) ?_
   refine FL.v (E.fieldAddr zaZ rfl) ?_
   refine FL.v (E.load rfl (zaf Tryz.isAgg9 (at36.now S41.sl) rfl)) ?_
   refine FL.v (E.neqS rfl rfl) ?_
   refine FL.nil ?_
   rcases ifB hp with ⟨c44,hp⟩|⟨c44,hp⟩
   ·
    refine FW.condT rfl c44 ?_
    refine FW.seq (FW.region ?_)
    refine FL.v (E.assign (v:=Value.bool false) rfl) ?_
    refine FL.nil ?_
    refine FW.ret ?_
    obtain rfl:=Option.some.inj hp
    exact ⟨.inr rfl,res1 rfl rfl ⟨rfl,S41.back⟩⟩
   ·
    refine FW.condF rfl c44 ?_
    refine FW.skip (FW.seq (FW.seq (FW.region ?_)))
    refine FL.v (E.fieldAddr zaE rfl) ?_
    refine FL.v (E.load rfl (zaf Tryz.isAgg3 ((at28.mono i35).now S41.sl) rfl)) ?_
    refine FL.v (E.fieldAddr zaE rfl) ?_
    refine FL.v (E.load rfl (zaf Tryz.isAgg3 (at36.now S41.sl) rfl)) ?_
    refine FL.v (E.neq rfl rfl) ?_
    refine FL.nil ?_
    rcases ifB hp with ⟨c45,hp⟩|⟨c45,hp⟩
    ·
     refine FW.condT rfl c45 ?_
     refine FW.seq (FW.region ?_)
     refine FL.v (E.assign (v:=Value.bool false) rfl) ?_
     refine FL.nil ?_
     refine FW.ret ?_
     obtain rfl:=Option.some.inj hp
     exact ⟨.inr rfl,res1 rfl rfl ⟨rfl,S41.back⟩⟩
    ·
     refine FW.condF rfl c45 ?_
     refine FW.skip (FW.seq (FW.seq (FW.region ?_)))
     refine FL.v (E.fieldAddr zaH rfl) ?_
     refine FL.v (E.load rfl (zaf Tryz.isAgg3 ((at28.mono i35).now S41.sl) rfl)) ?_
     refine FL.v (E.fieldAddr zaH rfl) ?_
     refine FL.v (E.load rfl (zaf Tryz.isAgg3 (at36.now S41.sl) rfl)) ?_
     refine FL.v (E.neq rfl rfl) ?_
     refine FL.nil ?_
     rcases ifB hp with ⟨c46,hp⟩|⟨c46,hp⟩
     ·
      refine FW.condT rfl c46 ?_
      refine FW.seq (FW.region ?_)
      refine FL.v (E.assign (v:=Value.bool false) rfl) ?_
      refine FL.nil ?_
      refine FW.ret ?_
      obtain rfl:=Option.some.inj hp
      exact ⟨.inr rfl,res1 rfl rfl ⟨rfl,S41.back⟩⟩
     ·
      refine FW.condF rfl c46 ?_
      refine FW.skip (FW.seq (FW.region ?_))
      refine FL.v (E.assign (v:=Value.bool true) rfl) ?_
      refine FL.nil ?_
      refine FW.ret ?_
      obtain rfl:=Option.some.inj hp
      exact ⟨.inr rfl,res1 rfl rfl ⟨rfl,S41.back⟩⟩

set_option maxHeartbeats 4000000 in
theorem zc8 {Ha:GH} {wa:World} (hs:Sl Ha wa) (v0:Value) (a0:List zac) (p0:RSl Ha eSeqStep 6 v0 a0) (v1:Value) (a1:List zac) (p1:RSl Ha eSeqStep 6 v1 a1) {r:Bool} (hp:(PF.zbI a0 a1)=some r) :
  Calls Tryz.prog 13 #[v0,v1] wa (Sc Ha wa (Value.bool r)):=by
 unfold PF.zbI at hp
 have S0:=St.init hs
 refine zaj (N:=27) (args:=[v0,v1]) Tryz.func13 rfl rfl rfl ?_
 refine FW.seq (FW.region ?_)
 refine FL.v (E.assign (v:=Value.bool false) rfl) ?_
 refine FL.nil (FW.seq (FW.seq (FW.region ?_)))
 refine FL.v (E.move (v:=v0) rfl) ?_
 refine FL.v (E.lenP te24 rfl p0) ?_
 refine FL.v (E.move (v:=v1) rfl) ?_
 refine FL.v (E.lenP te24 rfl p1) ?_
 refine FL.v (E.neq rfl rfl) ?_
 refine FL.nil ?_
 rcases ifB hp with ⟨c21,hp⟩|⟨c21,hp⟩
 ·
  refine FW.condT rfl c21 ?_
  refine FW.seq (FW.region ?_)
  refine FL.v (E.assign (v:=Value.bool false) rfl) ?_
  refine FL.nil ?_
  refine FW.ret ?_
  obtain rfl:=Option.some.inj hp
  exact ⟨.inr rfl,res1 rfl rfl ⟨rfl,S0.back⟩⟩
 ·
  refine FW.condF rfl c21 ?_
  refine FW.skip (FW.seq (FW.seq (FW.region ?_)))
  refine FL.v (E.assign (v:=Value.int .i64 0) rfl) ?_
  refine FL.nil ?_
  obtain ⟨q23,hq,hp⟩:=bndR hp
  refine FW.block ?_
  refine FW.mono (FW.forL (S:=Unit) (X:=Bool) (fun (i23:Nat) (s23:Unit) f w=>∃ H:GH,St Ha wa H w []∧Inc Ha H∧f 5=Value.int .i64 ((i23:Nat):Int)∧f 0=v0∧f 1=v1) (fun q e f w=>match q with|.go s23=>e=Exit.exit 0∧(∃ H:GH,St Ha wa H w []∧Inc Ha H)|.rt x=>((e=Exit.ret)∧(fun e f w=>(e=Exit.normal∨e=Exit.ret)∧∀ a,Fr (δ:=[]) 27 a f→∃ v,(results Tryz.f13 a.tmps).run Tryz.prog w=.ok v w∧(Sc Ha wa (Value.bool x)) (.returned v) w) e f w)) hq ⟨_,S0,(Inc.rfl _),rfl,rfl,rfl⟩ ?_ ?_) ?_
  ·
   clear hp hq
   rintro i23 y22 s23 f65 w64 ⟨H61,S62,i63,k66,k67,k68⟩ hx23 o98 hp
   refine FW.seq (FW.seq (FW.region ?_))
   refine FL.v (E.move k66) ?_
   refine FL.v (E.move k67) ?_
   refine FL.v (E.lenP te24 rfl p0) ?_
   refine FL.v (E.lssT rfl rfl (zaJ hx23)) ?_
   refine FL.nil ?_
   refine FW.condT rfl rfl ?_
   refine FW.skip (FW.seq (FW.block (FW.seq ?_)))
   refine FW.draw (fun w'=>Run w64.heap.size H61 w64 H61 w') (by kernel_rfl) (by kernel_rfl) (zaN S62.sl) ?_
   refine FD.val rfl rfl rfl (fun w' hw'=>(E.move k67)) ?_
   refine FD.val rfl rfl rfl (fun w' hw'=>(E.move k66)) ?_
   obtain ⟨p70,cs71,pt72,l73,at74,rel75⟩:=p0.at (zaF hx23)
   obtain ⟨v76,v78,rfl,h77,h79⟩:=zaD rel75
   refine FD.val rfl rfl rfl (fun w' hw'=>(E.indexAddr te24 rfl rfl pt72)) ?_
   refine FD.val rfl rfl rfl (fun w' hw'=>(E.load rfl (zao Tryz.isAgg74 Tryz.sizeOf74 ((at74.mono i63).now (S62.call hw').sl) rfl))) ?_
   refine FD.val rfl rfl rfl (fun w' hw'=>(E.move k68)) ?_
   refine FD.val rfl rfl rfl (fun w' hw'=>(E.move k66)) ?_
   obtain ⟨x86,hx87,hp⟩:=bnd hp
   obtain ⟨p80,cs81,pt82,l83,at84,rel85⟩:=p1.at hx87
   obtain ⟨v88,v90,rfl,h89,h91⟩:=zaD rel85
   refine FD.val rfl rfl rfl (fun w' hw'=>(E.indexAddr te24 rfl rfl pt82)) ?_
   refine FD.val rfl rfl rfl (fun w' hw'=>(E.load rfl (zao Tryz.isAgg74 Tryz.sizeOf74 ((at84.mono i63).now (S62.call hw').sl) rfl))) ?_
   obtain ⟨r92,hr93,hp⟩:=bnd hp
   refine FD.call rfl rfl rfl (fun w' hw'=>(E.call Tryz.call54 (A2 rfl rfl))) (fun w' hw'=>Calls.cls hw' (w_laws_eqSeqStep (S62.call hw').sl y22 v76 (h77.mono i63) v78 (h79.mono i63) x86 v88 (h89.mono i63) v90 (h91.mono i63) hr93)) ?_
   refine FD.val rfl rfl rfl (fun w' hw'=>(E.not rfl)) ?_
   refine FD.nil ?_
   intro w94 r96
   have S95:=S62.call r96
   rcases ifB hp with ⟨c97,hp⟩|⟨c97,hp⟩
   ·
    refine FW.condT rfl c97 ?_
    refine FW.seq (FW.region ?_)
    refine FL.v (E.assign (v:=Value.bool false) rfl) ?_
    refine FL.nil ?_
    refine FW.ret ?_
    obtain rfl:=Option.some.inj hp
    exact ⟨nofun,rfl,⟨.inr rfl,res1 rfl rfl ⟨rfl,S95.back⟩⟩⟩
   ·
    refine FW.condF rfl c97 ?_
    refine FW.skip (FW.region ?_)
    refine FL.v (E.move k66) ?_
    refine FL.v (E.add rfl rfl) ?_
    refine FL.v (E.assign (v:=Value.int .i64 (wr (((i23:Nat):Int) + 1))) rfl) ?_
    refine FL.nil ?_
    obtain rfl:=Option.some.inj hp
    exact ⟨rfl,⟨_,S95,i63,(zaA rfl (zat hx23) (p0.mono i63).le),k67,k68⟩⟩
  ·
   clear hp hq
   rintro s23 fA8 wA7 ⟨HA4,SA5,iA6,kA9,kAa,kAb⟩
   refine FW.seq (FW.seq (FW.region ?_))
   refine FL.v (E.move kA9) ?_
   refine FL.v (E.move kAa) ?_
   refine FL.v (E.lenP te24 rfl p0) ?_
   refine FL.v (E.lss rfl rfl) ?_
   refine FL.nil ?_
   refine FW.condF rfl zaK ?_
   refine FW.exit ?_
   exact ⟨nofun,rfl,⟨_,SA5,iA6⟩⟩
  ·
   clear hq
   intro e fA3 wA2 hD
   rcases q23 with s23|x23
   ·
    obtain ⟨rfl,hD⟩:=hD
    obtain ⟨H99,SA0,iA1⟩:=hD
    replace hp:=el_go hp
    refine FW.seq (FW.region ?_)
    refine FL.v (E.assign (v:=Value.bool true) rfl) ?_
    refine FL.nil ?_
    refine FW.ret ?_
    obtain rfl:=Option.some.inj hp
    exact ⟨.inr rfl,res1 rfl rfl ⟨rfl,SA0.back⟩⟩
   ·
    obtain ⟨he,hL⟩:=hD
    replace hp:=el_rt hp
    obtain rfl:=Option.some.inj hp
    subst he
    exact hL

theorem w_laws_markTextO {Ha:GH} {wa:World} (hs:Sl Ha wa) (a0:Int) {r:ByteArray} (hp:(PF.zcC a0)=some r) :
  Calls Tryz.prog 55 #[Value.int .i64 a0] wa (Sc Ha wa (Value.string r)):=by
 unfold PF.zcC at hp
 have S0:=St.init hs
 refine zaj (N:=20) (args:=[Value.int .i64 a0]) Tryz.func55 rfl rfl rfl ?_
 refine FW.seq (FW.region ?_)
 refine FL.v (E.assign (v:=Value.string (ByteArray.mk #[])) rfl) ?_
 refine FL.nil (FW.seq (FW.seq (FW.region ?_)))
 refine FL.v (E.move (v:=Value.int .i64 a0) rfl) ?_
 refine FL.v (E.leq rfl rfl) ?_
 refine FL.nil ?_
 rcases ifB hp with ⟨c21,hp⟩|⟨c21,hp⟩
 ·
  refine FW.condT rfl c21 ?_
  refine FW.seq (FW.region ?_)
  refine FL.v (E.assign (v:=Value.string (ByteArray.mk #[109,48])) rfl) ?_
  refine FL.nil ?_
  refine FW.ret ?_
  obtain rfl:=Option.some.inj hp
  exact ⟨.inr rfl,res1 rfl rfl ⟨rfl,S0.back⟩⟩
 ·
  refine FW.condF rfl c21 ?_
  refine FW.skip (FW.seq (FW.region ?_))
  refine FL.v (E.assign (v:=Value.string (ByteArray.mk #[])) rfl) ?_
  refine FL.nil (FW.seq ?_)
  obtain ⟨q22,hq,hp⟩:=bndR hp
  refine FW.block ?_
  refine FW.mono (FW.iter (S:=(Int×ByteArray)) (X:=Empty) (fun (s22:(Int×ByteArray)) f w=>∃ H:GH,St Ha wa H w []∧Inc Ha H∧f 0=Value.int .i64 s22.1∧f 3=Value.string s22.2) (fun (q:Rs (Int×ByteArray) Empty) e f w=>match q with|.go s22=>e=Exit.exit 0∧(∃ H:GH,St Ha wa H w []∧Inc Ha H∧f 3=Value.string s22.2)|.rt x=>x.elim) hq ⟨_,S0,(Inc.rfl _),rfl,rfl⟩ ?_) ?_
  ·
   clear hp hq
   rintro s22 f42 w41 ⟨H38,S39,i40,k43,k44⟩ o53 hp
   refine FW.seq (FW.seq (FW.region ?_))
   refine FL.v (E.move k43) ?_
   refine FL.v (E.gtr rfl rfl) ?_
   refine FL.nil ?_
   rcases ifB hp with ⟨c45,hp⟩|⟨c45,hp⟩
   ·
    refine FW.condT rfl c45 ?_
    refine FW.skip (FW.block (FW.seq (FW.region ?_)))
    refine FL.v (E.move k43) ?_
    refine FL.v (E.rem rfl rfl (by decide)) ?_
    refine FL.v (E.add rfl rfl) ?_
    refine FL.v (E.conv Tryz.runUnderlying3 Tryz.runUnderlying5 rfl) ?_
    obtain ⟨v46,w47,run48,S49⟩:=S39.buildSlice (P:=Tryz.prog) te41 [Value.int .u8 (wrk false 8 (wr (48 + (s22.1.tmod 10))))] (parts:=#[(0,Value.int .u8 (wrk false 8 (wr (48 + (s22.1.tmod 10)))))]) (cells:=[Value.int .u8 (wrk false 8 (wr (48 + (s22.1.tmod 10))))]) rfl (zan rfl zal) (zam rfl zak) (zaa rfl zag) (Nat.le_of_ble_eq_true rfl)
    have els50:Els (up wa.heap.size H38) (eN .u8) 1 [Value.int .u8 (wrk false 8 (wr (48 + (s22.1.tmod 10))))] [(wrk false 8 (wr (48 + (s22.1.tmod 10))))]:=(Els.snoc (H:=(up wa.heap.size H38)) (E:=(eN .u8)) (k:=1) (c:=[Value.int .u8 (wrk false 8 (wr (48 + (s22.1.tmod 10))))]) (x:=(wrk false 8 (wr (48 + (s22.1.tmod 10))))) Els.nil rfl rfl)
    refine FL.v (E.buildSlice (B1 rfl) run48) ?_
    refine FL.v (E.bytes Tryz.underlying41 Tryz.underlying5 Tryz.underlying9 S49 (i:=0) rfl els50 rfl) ?_
    refine FL.v (E.move k44) ?_
    obtain ⟨z51,h52,hp⟩:=bnd hp
    refine FL.v (E.addT rfl rfl h52) ?_
    refine FL.v (E.assign (v:=Value.string z51) rfl) ?_
    refine FL.nil (FW.region ?_)
    refine FL.v (E.move k43) ?_
    refine FL.v (E.quo rfl rfl (by decide)) ?_
    refine FL.v (E.assign (v:=Value.int .i64 (wr (s22.1.tdiv 10))) rfl) ?_
    refine FL.nil ?_
    obtain rfl:=Option.some.inj hp
    exact ⟨rfl,⟨_,(S49.sel [] (by decide) rfl),i40,rfl,rfl⟩⟩
   ·
    refine FW.condF rfl c45 ?_
    refine FW.exit ?_
    obtain rfl:=Option.some.inj hp
    exact ⟨nofun,rfl,⟨_,S39,i40,k44⟩⟩
  ·
   clear hq
   intro e f58 w57 hD
   rcases q22 with s22|x22
   ·
    obtain ⟨rfl,hD⟩:=hD
    obtain ⟨H54,S55,i56,k59⟩:=hD
    replace hp:=el_go hp
    refine FW.seq (FW.region ?_)
    refine FL.v (E.move k59) ?_
    obtain ⟨z60,h61,hp⟩:=bnd hp
    refine FL.v (E.addT rfl rfl h61) ?_
    refine FL.v (E.assign (v:=Value.string z60) rfl) ?_
    refine FL.nil ?_
    refine FW.ret ?_
    obtain rfl:=Option.some.inj hp
    exact ⟨.inr rfl,res1 rfl rfl ⟨rfl,S55.back⟩⟩
   ·
    exact x22.elim
theorem zdw {Ha:GH} {wa:World} (hs:Sl Ha wa) (a0:Int):Calls Tryz.prog 55 #[Value.int .i64 a0] wa (Sc Ha wa (Value.string (PF.zaG a0))):=w_laws_markTextO hs a0 (PF.laws_markText_eq a0)

theorem zel {H0 Ha:GH} {w0 wa:World} {l:List MO} (S0:St H0 w0 Ha wa l) (hs0:Sl H0 w0) (v0:Value) (a0:List ByteArray) (p0:RSl (up w0.heap.size Ha) eS 1 v0 a0) (a1:Int) :
  Calls Tryz.prog 15 #[v0,Value.int .i64 a1] wa (M1 H0 w0 Ha l eS 1 v0 (PF.zah a0 a1)):=by
 obtain ⟨c0,n0,hc0⟩:=p0.nest zaO (by decide)
 have hln:=p0.ln
 have hle:=p0.le
 refine zaj (N:=20) (args:=[v0,Value.int .i64 a1]) Tryz.func15 rfl rfl rfl ?_
 refine FW.seq (FW.region ?_)
 refine FL.v (E.assign (v:=Value.int .i64 0) rfl) ?_
 refine FL.nil (FW.seq (FW.seq (FW.region ?_)))
 refine FL.v (E.assign (v:=Value.int .i64 0) rfl) ?_
 refine FL.nil (FW.block ?_)
 refine FW.mono (FW.mark (F:=fun y m=>((PF.zaG m),(wr (m + 1)))) (a0:=a0) (k0:=a1) (fun (i:Nat) (xs:List ByteArray) (k:Int) f w=>∃ (H:GH) (c:List Value),St H0 w0 H w l∧Nest (up w0.heap.size H) eS 1 v0 xs c∧bl c=bl c0∧(∀ b,b ∉ bl [v0]→b ∉ bl c0→H b=Ha b)∧f 0=v0∧f 1=Value.int .i64 k∧f 5=Value.int .i64 ((i:Nat):Int)) (fun e f w=>e=Exit.exit 0∧∃ (H:GH) (c:List Value),St H0 w0 H w l∧Nest (up w0.heap.size H) eS 1 v0 (zaC (fun y m=>((PF.zaG m),(wr (m + 1)))) a0 a1).1 c∧bl c=bl c0∧(∀ b,b ∉ bl [v0]→b ∉ bl c0→H b=Ha b)∧f 0=v0∧f 1=Value.int .i64 (zaC (fun y m=>((PF.zaG m),(wr (m + 1)))) a0 a1).2) ⟨_,_,S0,n0,rfl,fun _ _ _=>rfl,rfl,rfl,rfl⟩ ?_ ?_) ?_
 ·
  rintro i y xs m f1 w1 ⟨H1,c1,S1,n1,hb,ho,kv,kk,kc⟩ hx hy
  obtain ⟨p,hpt,wr0,hB,hr,nd⟩:=n1.begin hy (by decide)
  have hci:=eS_open hr
  have rd:=wr0.opens hci
  refine FW.seq (FW.seq (FW.region ?_))
  refine FL.v (E.move kc) ?_
  refine FL.v (E.move kv) ?_
  refine FL.v (E.len te22 rfl hln) ?_
  refine FL.v (E.lssT rfl rfl (zaJ hx)) ?_
  refine FL.nil ?_
  refine FW.condT rfl rfl ?_
  refine FW.skip (FW.seq (FW.block (FW.seq (FW.region ?_))))
  refine FL.v (E.move kv) ?_
  refine FL.v (E.move kc) ?_
  refine FL.v (E.move kk) ?_
  refine FL.call rfl rfl rfl (E.call Tryz.call55 (A1 rfl)) (zdw S1.sl m) ?_
  rintro e w21 ⟨rfl,r22⟩
  refine ⟨_,rfl,?_⟩
  have S23:=S1.call r22
  refine FL.v (E.indexAddr te22 rfl rfl hpt) ?_
  obtain ⟨w24,H25,run27,S26,wr28,o29⟩:=rd.poke0 (P:=Tryz.prog) (t:=9) (u:=Value.string (PF.zaG m)) S23 hs0 hB rfl rfl rfl Tryz.sizeOf9 rfl rfl (c2:=[Value.string (PF.zaG m)]) rfl
  refine FL.act rfl rfl (E.store rfl rfl run27) ?_
  refine FL.nil (FW.region ?_)
  refine FL.v (E.move kk) ?_
  refine FL.v (E.add rfl rfl) ?_
  refine FL.v (E.assign (v:=Value.int .i64 (wr (m + 1))) rfl) ?_
  refine FL.nil (FW.region ?_)
  refine FL.v (E.move kc) ?_
  refine FL.v (E.add rfl rfl) ?_
  refine FL.v (E.assign (v:=Value.int .i64 (wr (((i:Nat):Int) + 1))) rfl) ?_
  refine FL.nil ?_
  obtain ⟨c2,n2,hb2,ho2⟩:=n1.round zaO.loc hy (by decide) hpt wr28 (y':=(PF.zaG m)) rfl
  exact ⟨rfl,_,_,S26,n2,hb2.trans hb,fun b q1 q2=>(ho2 b q1 (by rw [hb];exact q2)).trans (ho b q1 q2),kv,rfl,zaA rfl (zat hx) hle⟩
 ·
  rintro f1 w1 ⟨H1,c1,S1,n1,hb,ho,kv,kk,kc⟩
  refine FW.seq (FW.seq (FW.region ?_))
  refine FL.v (E.move kc) ?_
  refine FL.v (E.move kv) ?_
  refine FL.v (E.len te22 rfl hln) ?_
  refine FL.v (E.lss rfl rfl) ?_
  refine FL.nil ?_
  refine FW.condF rfl zaK ?_
  refine FW.exit ?_
  exact ⟨nofun,rfl,_,_,S1,n1,hb,ho,kv,kk⟩
 ·
  rintro e f2 w2 ⟨rfl,H2,c2,S2,n2,hb,ho,kv,kk⟩
  refine FW.seq (FW.region ?_)
  refine FL.v (E.move kk) ?_
  refine FL.v (E.assign (v:=Value.int .i64 ((zaC (fun y m=>((PF.zaG m),(wr (m + 1)))) a0 a1).2)) rfl) ?_
  refine FL.nil ?_
  refine FW.ret ?_
  exact ⟨.inr rfl,res1 rfl rfl ⟨_,rfl,S2,n2.rsl,fun b q=>ho b q (by rw [hc0];simp)⟩⟩

theorem zdM {H0 Ha:GH} {w0 wa:World} {l:List MO} (S0:St H0 w0 Ha wa l) (hs0:Sl H0 w0) (v0:Value) (a0:List zac) (c0:List Value) (n0:Nest (up w0.heap.size Ha) eSeqStep 6 v0 a0 c0) (a1:Int) :
  Calls Tryz.prog 16 #[v0,Value.int .i64 a1] wa (M2 H0 w0 Ha l eSeqStep 6 v0 c0 (PF.zaz a0 a1)):=by
 have hln:=n0.rsl.ln
 have hle:=n0.rsl.le
 refine zaj (N:=58) (args:=[v0,Value.int .i64 a1]) Tryz.func16 rfl rfl rfl ?_
 refine FW.seq (FW.region ?_)
 refine FL.v (E.assign (v:=Value.int .i64 0) rfl) ?_
 refine FL.nil (FW.seq (FW.seq (FW.region ?_)))
 refine FL.v (E.assign (v:=Value.int .i64 0) rfl) ?_
 refine FL.nil (FW.block ?_)
 refine FW.mono (FW.mark (F:=fun y m=>((zac.mk (zad.mk ((PF.zah y.seq.left m).1) ((PF.zah y.seq.right ((PF.zah y.seq.left m).2)).1)) ((PF.zah y.seq.right ((PF.zah y.seq.left m).2)).2) (PF.zaG (wr ((PF.zah y.seq.right ((PF.zah y.seq.left m).2)).2 + 1))) (wr ((wr ((PF.zah y.seq.right ((PF.zah y.seq.left m).2)).2 + 1)) + 1)) (wr ((wr ((wr ((PF.zah y.seq.right ((PF.zah y.seq.left m).2)).2 + 1)) + 1)) + 1))),(wr ((wr ((wr ((wr ((PF.zah y.seq.right ((PF.zah y.seq.left m).2)).2 + 1)) + 1)) + 1)) + 1)))) (a0:=a0) (k0:=a1) (fun (i:Nat) (xs:List zac) (k:Int) f w=>∃ (H:GH) (c:List Value),St H0 w0 H w l∧Nest (up w0.heap.size H) eSeqStep 6 v0 xs c∧bl c=bl c0∧(∀ b,b ∉ bl [v0]→b ∉ bl c0→H b=Ha b)∧f 0=v0∧f 1=Value.int .i64 k∧f 5=Value.int .i64 ((i:Nat):Int)) (fun e f w=>e=Exit.exit 0∧∃ (H:GH) (c:List Value),St H0 w0 H w l∧Nest (up w0.heap.size H) eSeqStep 6 v0 (zaC (fun y m=>((zac.mk (zad.mk ((PF.zah y.seq.left m).1) ((PF.zah y.seq.right ((PF.zah y.seq.left m).2)).1)) ((PF.zah y.seq.right ((PF.zah y.seq.left m).2)).2) (PF.zaG (wr ((PF.zah y.seq.right ((PF.zah y.seq.left m).2)).2 + 1))) (wr ((wr ((PF.zah y.seq.right ((PF.zah y.seq.left m).2)).2 + 1)) + 1)) (wr ((wr ((wr ((PF.zah y.seq.right ((PF.zah y.seq.left m).2)).2 + 1)) + 1)) + 1))),(wr ((wr ((wr ((wr ((PF.zah y.seq.right ((PF.zah y.seq.left m).2)).2 + 1)) + 1)) + 1)) + 1)))) a0 a1).1 c∧bl c=bl c0∧(∀ b,b ∉ bl [v0]→b ∉ bl c0→H b=Ha b)∧f 0=v0∧f 1=Value.int .i64 (zaC (fun y m=>((zac.mk (zad.mk ((PF.zah y.seq.left m).1) ((PF.zah y.seq.right ((PF.zah y.seq.left m).2)).1)) ((PF.zah y.seq.right ((PF.zah y.seq.left m).2)).2) (PF.zaG (wr ((PF.zah y.seq.right ((PF.zah y.seq.left m).2)).2 + 1))) (wr ((wr ((PF.zah y.seq.right ((PF.zah y.seq.left m).2)).2 + 1)) + 1)) (wr ((wr ((wr ((PF.zah y.seq.right ((PF.zah y.seq.left m).2)).2 + 1)) + 1)) + 1))),(wr ((wr ((wr ((wr ((PF.zah y.seq.right ((PF.zah y.seq.left m).2)).2 + 1)) + 1)) + 1)) + 1)))) a0 a1).2) ⟨_,_,S0,n0,rfl,fun _ _ _=>rfl,rfl,rfl,rfl⟩ ?_ ?_) ?_
 ·
  rintro i y xs m f1 w1 ⟨H1,c1,S1,n1,hb,ho,kv,kk,kc⟩ hx hy
  obtain ⟨p,hpt,wr0,hB,hr,nd⟩:=n1.begin hy (by decide)
  obtain ⟨u0,u1,hci,hu0,hu1⟩:=zaD hr
  have rd:=wr0.opens hci
  refine FW.seq (FW.seq (FW.region ?_))
  refine FL.v (E.move kc) ?_
  refine FL.v (E.move kv) ?_
  refine FL.v (E.len te24 rfl hln) ?_
  refine FL.v (E.lssT rfl rfl (zaJ hx)) ?_
  refine FL.nil ?_
  refine FW.condT rfl rfl ?_
  refine FW.skip (FW.seq (FW.block (FW.seq (FW.region ?_))))
  refine FL.v (E.move kv) ?_
  refine FL.v (E.move kc) ?_
  refine FL.v (E.indexAddr te24 rfl rfl hpt) ?_
  refine FL.v (E.fieldAddr zap rfl) ?_
  refine FL.v (E.fieldAddrN zau rfl rfl) ?_
  refine FL.v (E.load rfl (zaf Tryz.isAgg22 (rd.now S1.sl) rfl)) ?_
  refine FL.v (E.move kk) ?_
  refine FL.call rfl rfl rfl (E.call Tryz.call15 (A2 rfl rfl)) (zel S1 hs0 u0 y.seq.left hu0 m) ?_
  rintro e w22 ⟨H21,rfl,S23,h24,o25⟩
  refine ⟨_,rfl,?_⟩
  have h26:=rd.kept2 nd (i:=0) (j:=1) rfl rfl (by decide) hu1 zaO o25
  have wr27:=rd.inner (j:=0) rfl o25
  refine FL.v (E.assign (v:=Value.int .i64 ((PF.zah y.seq.left m).2)) rfl) ?_
  refine FL.nil (FW.seq (FW.region ?_))
  refine FL.v (E.move kv) ?_
  refine FL.v (E.move kc) ?_
  refine FL.v (E.indexAddr te24 rfl rfl hpt) ?_
  refine FL.v (E.fieldAddr zap rfl) ?_
  refine FL.v (E.fieldAddrN zas rfl rfl) ?_
  refine FL.v (E.load rfl (zaf Tryz.isAgg22 (wr27.now S23.sl) rfl)) ?_
  refine FL.v (E.move (v:=Value.int .i64 ((PF.zah y.seq.left m).2)) rfl) ?_
  refine FL.call rfl rfl rfl (E.call Tryz.call15 (A2 rfl rfl)) (zel S23 hs0 u1 y.seq.right h26 ((PF.zah y.seq.left m).2)) ?_
  rintro e w29 ⟨H28,rfl,S30,h31,o32⟩
  refine ⟨_,rfl,?_⟩
  have h33:=wr27.kept2 nd (i:=1) (j:=0) rfl rfl (by decide) h24 zaO o32
  have wr34:=wr27.inner (j:=1) rfl o32
  refine FL.v (E.assign (v:=Value.int .i64 ((PF.zah y.seq.right ((PF.zah y.seq.left m).2)).2)) rfl) ?_
  refine FL.nil (FW.seq (FW.region ?_))
  refine FL.v (E.move kv) ?_
  refine FL.v (E.move kc) ?_
  refine FL.v (E.move (v:=Value.int .i64 ((PF.zah y.seq.right ((PF.zah y.seq.left m).2)).2)) rfl) ?_
  refine FL.v (E.indexAddr te24 rfl rfl hpt) ?_
  refine FL.v (E.fieldAddr zaT rfl) ?_
  obtain ⟨w35,H36,run38,S37,wr39,o40⟩:=wr34.poke (P:=Tryz.prog) (t:=3) (u:=Value.int .i64 ((PF.zah y.seq.right ((PF.zah y.seq.left m).2)).2)) S30 hs0 hB (j:=2) rfl rfl rfl Tryz.sizeOf3 rfl rfl (c2:=[u0,u1,Value.int .i64 ((PF.zah y.seq.right ((PF.zah y.seq.left m).2)).2),Value.string y.main,Value.int .i64 y.a,Value.int .i64 y.b]) rfl
  have h41:=wr34.kept (j:=0) rfl h33 zaO o40
  have h42:=wr34.kept (j:=1) rfl h31 zaO o40
  refine FL.act rfl rfl (E.store rfl rfl run38) ?_
  refine FL.nil (FW.seq (FW.region ?_))
  refine FL.v (E.move (v:=Value.int .i64 ((PF.zah y.seq.right ((PF.zah y.seq.left m).2)).2)) rfl) ?_
  refine FL.v (E.add rfl rfl) ?_
  refine FL.v (E.assign (v:=Value.int .i64 (wr ((PF.zah y.seq.right ((PF.zah y.seq.left m).2)).2 + 1))) rfl) ?_
  refine FL.nil (FW.seq (FW.region ?_))
  refine FL.v (E.move kv) ?_
  refine FL.v (E.move kc) ?_
  refine FL.v (E.move (v:=Value.int .i64 (wr ((PF.zah y.seq.right ((PF.zah y.seq.left m).2)).2 + 1))) rfl) ?_
  refine FL.call rfl rfl rfl (E.call Tryz.call55 (A1 rfl)) (zdw S37.sl (wr ((PF.zah y.seq.right ((PF.zah y.seq.left m).2)).2 + 1))) ?_
  rintro e w43 ⟨rfl,r44⟩
  refine ⟨_,rfl,?_⟩
  have S45:=S37.call r44
  refine FL.v (E.indexAddr te24 rfl rfl hpt) ?_
  refine FL.v (E.fieldAddr zaZ rfl) ?_
  obtain ⟨w46,H47,run49,S48,wr50,o51⟩:=wr39.poke (P:=Tryz.prog) (t:=9) (u:=Value.string (PF.zaG (wr ((PF.zah y.seq.right ((PF.zah y.seq.left m).2)).2 + 1)))) S45 hs0 hB (j:=3) rfl rfl rfl Tryz.sizeOf9 rfl rfl (c2:=[u0,u1,Value.int .i64 ((PF.zah y.seq.right ((PF.zah y.seq.left m).2)).2),Value.string (PF.zaG (wr ((PF.zah y.seq.right ((PF.zah y.seq.left m).2)).2 + 1))),Value.int .i64 y.a,Value.int .i64 y.b]) rfl
  have h52:=wr39.kept (j:=0) rfl h41 zaO o51
  have h53:=wr39.kept (j:=1) rfl h42 zaO o51
  refine FL.act rfl rfl (E.store rfl rfl run49) ?_
  refine FL.nil (FW.seq (FW.region ?_))
  refine FL.v (E.move (v:=Value.int .i64 (wr ((PF.zah y.seq.right ((PF.zah y.seq.left m).2)).2 + 1))) rfl) ?_
  refine FL.v (E.add rfl rfl) ?_
  refine FL.v (E.assign (v:=Value.int .i64 (wr ((wr ((PF.zah y.seq.right ((PF.zah y.seq.left m).2)).2 + 1)) + 1))) rfl) ?_
  refine FL.nil (FW.seq (FW.region ?_))
  refine FL.v (E.move kv) ?_
  refine FL.v (E.move kc) ?_
  refine FL.v (E.move (v:=Value.int .i64 (wr ((wr ((PF.zah y.seq.right ((PF.zah y.seq.left m).2)).2 + 1)) + 1))) rfl) ?_
  refine FL.v (E.indexAddr te24 rfl rfl hpt) ?_
  refine FL.v (E.fieldAddr zaE rfl) ?_
  obtain ⟨w54,H55,run57,S56,wr58,o59⟩:=wr50.poke (P:=Tryz.prog) (t:=3) (u:=Value.int .i64 (wr ((wr ((PF.zah y.seq.right ((PF.zah y.seq.left m).2)).2 + 1)) + 1))) S48 hs0 hB (j:=4) rfl rfl rfl Tryz.sizeOf3 rfl rfl (c2:=[u0,u1,Value.int .i64 ((PF.zah y.seq.right ((PF.zah y.seq.left m).2)).2),Value.string (PF.zaG (wr ((PF.zah y.seq.right ((PF.zah y.seq.left m).2)).2 + 1))),Value.int .i64 (wr ((wr ((PF.zah y.seq.right ((PF.zah y.seq.left m).2)).2 + 1)) + 1)),Value.int .i64 y.b]) rfl
  have h60:=wr50.kept (j:=0) rfl h52 zaO o59
  have h61:=wr50.kept (j:=1) rfl h53 zaO o59
  refine FL.act rfl rfl (E.store rfl rfl run57) ?_
  refine FL.nil (FW.seq (FW.region ?_))
  refine FL.v (E.move (v:=Value.int .i64 (wr ((wr ((PF.zah y.seq.right ((PF.zah y.seq.left m).2)).2 + 1)) + 1))) rfl) ?_
  refine FL.v (E.add rfl rfl) ?_
  refine FL.v (E.assign (v:=Value.int .i64 (wr ((wr ((wr ((PF.zah y.seq.right ((PF.zah y.seq.left m).2)).2 + 1)) + 1)) + 1))) rfl) ?_
  refine FL.nil (FW.seq (FW.region ?_))
  refine FL.v (E.move kv) ?_
  refine FL.v (E.move kc) ?_
  refine FL.v (E.move (v:=Value.int .i64 (wr ((wr ((wr ((PF.zah y.seq.right ((PF.zah y.seq.left m).2)).2 + 1)) + 1)) + 1))) rfl) ?_
  refine FL.v (E.indexAddr te24 rfl rfl hpt) ?_
  refine FL.v (E.fieldAddr zaH rfl) ?_
  obtain ⟨w62,H63,run65,S64,wr66,o67⟩:=wr58.poke (P:=Tryz.prog) (t:=3) (u:=Value.int .i64 (wr ((wr ((wr ((PF.zah y.seq.right ((PF.zah y.seq.left m).2)).2 + 1)) + 1)) + 1))) S56 hs0 hB (j:=5) rfl rfl rfl Tryz.sizeOf3 rfl rfl (c2:=[u0,u1,Value.int .i64 ((PF.zah y.seq.right ((PF.zah y.seq.left m).2)).2),Value.string (PF.zaG (wr ((PF.zah y.seq.right ((PF.zah y.seq.left m).2)).2 + 1))),Value.int .i64 (wr ((wr ((PF.zah y.seq.right ((PF.zah y.seq.left m).2)).2 + 1)) + 1)),Value.int .i64 (wr ((wr ((wr ((PF.zah y.seq.right ((PF.zah y.seq.left m).2)).2 + 1)) + 1)) + 1))]) rfl
  have h68:=wr58.kept (j:=0) rfl h60 zaO o67
  have h69:=wr58.kept (j:=1) rfl h61 zaO o67
  refine FL.act rfl rfl (E.store rfl rfl run65) ?_
  refine FL.nil (FW.region ?_)
  refine FL.v (E.move (v:=Value.int .i64 (wr ((wr ((wr ((PF.zah y.seq.right ((PF.zah y.seq.left m).2)).2 + 1)) + 1)) + 1))) rfl) ?_
  refine FL.v (E.add rfl rfl) ?_
  refine FL.v (E.assign (v:=Value.int .i64 (wr ((wr ((wr ((wr ((PF.zah y.seq.right ((PF.zah y.seq.left m).2)).2 + 1)) + 1)) + 1)) + 1))) rfl) ?_
  refine FL.nil (FW.region ?_)
  refine FL.v (E.move kc) ?_
  refine FL.v (E.add rfl rfl) ?_
  refine FL.v (E.assign (v:=Value.int .i64 (wr (((i:Nat):Int) + 1))) rfl) ?_
  refine FL.nil ?_
  obtain ⟨c2,n2,hb2,ho2⟩:=n1.round zdo hy (by decide) hpt wr66 (y':=(zac.mk (zad.mk ((PF.zah y.seq.left m).1) ((PF.zah y.seq.right ((PF.zah y.seq.left m).2)).1)) ((PF.zah y.seq.right ((PF.zah y.seq.left m).2)).2) (PF.zaG (wr ((PF.zah y.seq.right ((PF.zah y.seq.left m).2)).2 + 1))) (wr ((wr ((PF.zah y.seq.right ((PF.zah y.seq.left m).2)).2 + 1)) + 1)) (wr ((wr ((wr ((PF.zah y.seq.right ((PF.zah y.seq.left m).2)).2 + 1)) + 1)) + 1)))) ⟨_,_,rfl,h68,h69⟩
  exact ⟨rfl,_,_,S64,n2,hb2.trans hb,fun b q1 q2=>(ho2 b q1 (by rw [hb];exact q2)).trans (ho b q1 q2),kv,rfl,zaA rfl (zat hx) hle⟩
 ·
  rintro f1 w1 ⟨H1,c1,S1,n1,hb,ho,kv,kk,kc⟩
  refine FW.seq (FW.seq (FW.region ?_))
  refine FL.v (E.move kc) ?_
  refine FL.v (E.move kv) ?_
  refine FL.v (E.len te24 rfl hln) ?_
  refine FL.v (E.lss rfl rfl) ?_
  refine FL.nil ?_
  refine FW.condF rfl zaK ?_
  refine FW.exit ?_
  exact ⟨nofun,rfl,_,_,S1,n1,hb,ho,kv,kk⟩
 ·
  rintro e f2 w2 ⟨rfl,H2,c2,S2,n2,hb,ho,kv,kk⟩
  refine FW.seq (FW.region ?_)
  refine FL.v (E.move kk) ?_
  refine FL.v (E.assign (v:=Value.int .i64 ((zaC (fun y m=>((zac.mk (zad.mk ((PF.zah y.seq.left m).1) ((PF.zah y.seq.right ((PF.zah y.seq.left m).2)).1)) ((PF.zah y.seq.right ((PF.zah y.seq.left m).2)).2) (PF.zaG (wr ((PF.zah y.seq.right ((PF.zah y.seq.left m).2)).2 + 1))) (wr ((wr ((PF.zah y.seq.right ((PF.zah y.seq.left m).2)).2 + 1)) + 1)) (wr ((wr ((wr ((PF.zah y.seq.right ((PF.zah y.seq.left m).2)).2 + 1)) + 1)) + 1))),(wr ((wr ((wr ((wr ((PF.zah y.seq.right ((PF.zah y.seq.left m).2)).2 + 1)) + 1)) + 1)) + 1)))) a0 a1).2)) rfl) ?_
  refine FL.nil ?_
  refine FW.ret ?_
  exact ⟨.inr rfl,res1 rfl rfl ⟨_,_,rfl,S2,n2,hb,fun b q1 q2=>weak (F:=fun b=>b ∉ bl [v0]∧b ∉ bl c0) (fun b q=>ho b q.1 q.2) b ⟨q1,q2⟩⟩⟩

set_option maxHeartbeats 4000000 in
theorem zem {Ha:GH} {wa:World} (hs:Sl Ha wa) (v0:Value) (a0:List ByteArray) (p0:RSl Ha eS 1 v0 a0) (a1:Int) {r:Int} (hp:(PF.zbU a0 a1)=some r) :
  Calls Tryz.prog 56 #[v0,Value.int .i64 a1] wa (Sc Ha wa (Value.int .i64 r)):=by
 unfold PF.zbU at hp
 have S0:=St.init hs
 refine zaj (N:=22) (args:=[v0,Value.int .i64 a1]) Tryz.func56 rfl rfl rfl ?_
 refine FW.seq (FW.region ?_)
 refine FL.v (E.assign (v:=Value.int .i64 0) rfl) ?_
 refine FL.nil (FW.seq (FW.seq (FW.region ?_)))
 refine FL.v (E.assign (v:=Value.int .i64 0) rfl) ?_
 refine FL.nil ?_
 obtain ⟨q22,hq,hp⟩:=bndR hp
 refine FW.block ?_
 refine FW.mono (FW.forL (S:=Int) (X:=Int) (fun (i22:Nat) (s22:Int) f w=>∃ H:GH,St Ha wa H w []∧Inc Ha H∧f 5=Value.int .i64 ((i22:Nat):Int)∧f 0=v0∧f 1=Value.int .i64 s22) (fun q e f w=>match q with|.go s22=>e=Exit.exit 0∧(∃ H:GH,St Ha wa H w []∧Inc Ha H∧f 1=Value.int .i64 s22)|.rt x=>((e=Exit.ret)∧(fun e f w=>(e=Exit.normal∨e=Exit.ret)∧∀ a,Fr (δ:=[]) 22 a f→∃ v,(results Tryz.f56 a.tmps).run Tryz.prog w=.ok v w∧(Sc Ha wa (Value.int .i64 x)) (.returned v) w) e f w)) hq ⟨_,S0,(Inc.rfl _),rfl,rfl,rfl⟩ ?_ ?_) ?_
 ·
  clear hp hq
  rintro i22 y21 s22 f46 w45 ⟨H42,S43,i44,k47,k48,k49⟩ hx22 o61 hp
  refine FW.seq (FW.seq (FW.region ?_))
  refine FL.v (E.move k47) ?_
  refine FL.v (E.move k48) ?_
  refine FL.v (E.lenP te22 rfl p0) ?_
  refine FL.v (E.lssT rfl rfl (zaJ hx22)) ?_
  refine FL.nil ?_
  refine FW.condT rfl rfl ?_
  refine FW.skip (FW.seq (FW.block (FW.seq (FW.seq ?_))))
  refine FW.draw (fun w'=>Run w45.heap.size H42 w45 H42 w') (by kernel_rfl) (by kernel_rfl) (zaN S43.sl) ?_
  refine FD.val rfl rfl rfl (fun w' hw'=>(E.move k48)) ?_
  refine FD.val rfl rfl rfl (fun w' hw'=>(E.move k47)) ?_
  obtain ⟨p51,cs52,pt53,l54,at55,rel56⟩:=p0.at (zaF hx22)
  obtain rfl:=eS_open rel56
  refine FD.val rfl rfl rfl (fun w' hw'=>(E.indexAddr te22 rfl rfl pt53)) ?_
  refine FD.val rfl rfl rfl (fun w' hw'=>(E.load rfl (zar Tryz.isAgg9 ((at55.mono i44).now (S43.call hw').sl) rfl))) ?_
  refine FD.val rfl rfl rfl (fun w' hw'=>(E.move k49)) ?_
  refine FD.call rfl rfl rfl (fun w' hw'=>(E.call Tryz.call55 (A1 rfl))) (fun w' hw'=>Calls.cls hw' (zdw (S43.call hw').sl s22)) ?_
  refine FD.val rfl rfl rfl (fun w' hw'=>(E.neqS rfl rfl)) ?_
  refine FD.nil ?_
  intro w57 r59
  have S58:=S43.call r59
  rcases ifB hp with ⟨c60,hp⟩|⟨c60,hp⟩
  ·
   refine FW.condT rfl c60 ?_
   refine FW.seq (FW.region ?_)
   refine FL.v (E.assign (v:=Value.int .i64 (-1)) rfl) ?_
   refine FL.nil ?_
   refine FW.ret ?_
   obtain rfl:=Option.some.inj hp
   exact ⟨nofun,rfl,⟨.inr rfl,res1 rfl rfl ⟨rfl,S58.back⟩⟩⟩
  ·
   refine FW.condF rfl c60 ?_
   refine FW.skip (FW.region ?_)
   refine FL.v (E.move k49) ?_
   refine FL.v (E.add rfl rfl) ?_
   refine FL.v (E.assign (v:=Value.int .i64 (wr (s22 + 1))) rfl) ?_
   refine FL.nil (FW.region ?_)
   refine FL.v (E.move k47) ?_
   refine FL.v (E.add rfl rfl) ?_
   refine FL.v (E.assign (v:=Value.int .i64 (wr (((i22:Nat):Int) + 1))) rfl) ?_
   refine FL.nil ?_
   obtain rfl:=Option.some.inj hp
   exact ⟨rfl,⟨_,S58,i44,(zaA rfl (zat hx22) (p0.mono i44).le),k48,rfl⟩⟩
 ·
  clear hp hq
  rintro s22 f72 w71 ⟨H68,S69,i70,k73,k74,k75⟩
  refine FW.seq (FW.seq (FW.region ?_))
  refine FL.v (E.move k73) ?_
  refine FL.v (E.move k74) ?_
  refine FL.v (E.lenP te22 rfl p0) ?_
  refine FL.v (E.lss rfl rfl) ?_
  refine FL.nil ?_
  refine FW.condF rfl zaK ?_
  refine FW.exit ?_
  exact ⟨nofun,rfl,⟨_,S69,i70,k75⟩⟩
 ·
  clear hq
  intro e f66 w65 hD
  rcases q22 with s22|x22
  ·
   obtain ⟨rfl,hD⟩:=hD
   obtain ⟨H62,S63,i64,k67⟩:=hD
   replace hp:=el_go hp
   refine FW.seq (FW.region ?_)
   refine FL.v (E.move k67) ?_
   refine FL.v (E.assign (v:=Value.int .i64 s22) rfl) ?_
   refine FL.nil ?_
   refine FW.ret ?_
   obtain rfl:=Option.some.inj hp
   exact ⟨.inr rfl,res1 rfl rfl ⟨rfl,S63.back⟩⟩
  ·
   obtain ⟨he,hL⟩:=hD
   replace hp:=el_rt hp
   obtain rfl:=Option.some.inj hp
   subst he
   exact hL

set_option maxHeartbeats 4000000 in
theorem zen {Ha:GH} {wa:World} (hs:Sl Ha wa) (v0:Value) (a0:List zac) (p0:RSl Ha eSeqStep 6 v0 a0) (a1:Int) {r:Int} (hp:(PF.zcc a0 a1)=some r) :
  Calls Tryz.prog 17 #[v0,Value.int .i64 a1] wa (Sc Ha wa (Value.int .i64 r)):=by
 unfold PF.zcc at hp
 have S0:=St.init hs
 refine zaj (N:=70) (args:=[v0,Value.int .i64 a1]) Tryz.func17 rfl rfl rfl ?_
 refine FW.seq (FW.region ?_)
 refine FL.v (E.assign (v:=Value.int .i64 0) rfl) ?_
 refine FL.nil (FW.seq (FW.seq (FW.region ?_)))
 refine FL.v (E.assign (v:=Value.int .i64 0) rfl) ?_
 refine FL.nil ?_
 obtain ⟨q22,hq,hp⟩:=bndR hp
 refine FW.block ?_
 refine FW.mono (FW.forL (S:=Int) (X:=Int) (fun (i22:Nat) (s22:Int) f w=>∃ H:GH,St Ha wa H w []∧Inc Ha H∧f 5=Value.int .i64 ((i22:Nat):Int)∧f 0=v0∧f 1=Value.int .i64 s22) (fun q e f w=>match q with|.go s22=>e=Exit.exit 0∧(∃ H:GH,St Ha wa H w []∧Inc Ha H∧f 1=Value.int .i64 s22)|.rt x=>((e=Exit.ret)∧(fun e f w=>(e=Exit.normal∨e=Exit.ret)∧∀ a,Fr (δ:=[]) 70 a f→∃ v,(results Tryz.f17 a.tmps).run Tryz.prog w=.ok v w∧(Sc Ha wa (Value.int .i64 x)) (.returned v) w) e f w)) hq ⟨_,S0,(Inc.rfl _),rfl,rfl,rfl⟩ ?_ ?_) ?_
 ·
  clear hp hq
  rintro i22 y21 s22 fAf wAe ⟨HAb,SAc,iAd,kAg,kAh,kAi⟩ hx22 oBB hp
  refine FW.seq (FW.seq (FW.region ?_))
  refine FL.v (E.move kAg) ?_
  refine FL.v (E.move kAh) ?_
  refine FL.v (E.lenP te24 rfl p0) ?_
  refine FL.v (E.lssT rfl rfl (zaJ hx22)) ?_
  refine FL.nil ?_
  refine FW.condT rfl rfl ?_
  refine FW.skip (FW.seq (FW.block (FW.seq (FW.region ?_))))
  refine FL.v (E.move kAh) ?_
  refine FL.v (E.move kAg) ?_
  obtain ⟨pAj,csAk,ptAl,lAm,atAn,relAo⟩:=p0.at (zaF hx22)
  obtain ⟨vAp,vAr,rfl,hAq,hAs⟩:=zaD relAo
  refine FL.v (E.indexAddr te24 rfl rfl ptAl) ?_
  refine FL.v (E.fieldAddr zap rfl) ?_
  refine FL.v (E.fieldAddrN zau rfl rfl) ?_
  refine FL.v (E.load rfl (zaf Tryz.isAgg22 ((atAn.mono iAd).now SAc.sl) rfl)) ?_
  refine FL.v (E.move kAi) ?_
  obtain ⟨rAt,hrAu,hp⟩:=bnd hp
  refine FL.call rfl rfl rfl (E.call Tryz.call56 (A2 rfl rfl)) (zem SAc.sl vAp y21.seq.left (hAq.mono iAd) s22 hrAu) ?_
  rintro e wAv ⟨rfl,rAw⟩
  refine ⟨_,rfl,?_⟩
  have SAx:=SAc.call rAw
  refine FL.v (E.assign (v:=Value.int .i64 rAt) rfl) ?_
  refine FL.nil (FW.seq (FW.seq (FW.region ?_)))
  refine FL.v (E.move (v:=Value.int .i64 rAt) rfl) ?_
  refine FL.v (E.lss rfl rfl) ?_
  refine FL.nil ?_
  rcases ifB hp with ⟨cAy,hp⟩|⟨cAy,hp⟩
  ·
   refine FW.condT rfl cAy ?_
   refine FW.seq (FW.region ?_)
   refine FL.v (E.assign (v:=Value.int .i64 (-1)) rfl) ?_
   refine FL.nil ?_
   refine FW.ret ?_
   obtain rfl:=Option.some.inj hp
   exact ⟨nofun,rfl,⟨.inr rfl,res1 rfl rfl ⟨rfl,SAx.back⟩⟩⟩
  ·
   refine FW.condF rfl cAy ?_
   refine FW.skip (FW.seq (FW.region ?_))
   refine FL.v (E.move kAh) ?_
   refine FL.v (E.move kAg) ?_
   obtain ⟨pAz,csAA,ptAB,lAC,atAD,relAE⟩:=p0.at (zaF hx22)
   obtain ⟨vAF,vAH,rfl,hAG,hAI⟩:=zaD relAE
   refine FL.v (E.indexAddr te24 rfl rfl ptAB) ?_
   refine FL.v (E.fieldAddr zap rfl) ?_
   refine FL.v (E.fieldAddrN zas rfl rfl) ?_
   refine FL.v (E.load rfl (zaf Tryz.isAgg22 ((atAD.mono iAd).now SAx.sl) rfl)) ?_
   refine FL.v (E.move (v:=Value.int .i64 rAt) rfl) ?_
   obtain ⟨rAJ,hrAK,hp⟩:=bnd hp
   refine FL.call rfl rfl rfl (E.call Tryz.call56 (A2 rfl rfl)) (zem SAx.sl vAH y21.seq.right (hAI.mono iAd) rAt hrAK) ?_
   rintro e wAL ⟨rfl,rAM⟩
   refine ⟨_,rfl,?_⟩
   have SAN:=SAx.call rAM
   refine FL.v (E.assign (v:=Value.int .i64 rAJ) rfl) ?_
   refine FL.nil (FW.seq (FW.seq (FW.region ?_)))
   refine FL.v (E.move (v:=Value.int .i64 rAJ) rfl) ?_
   refine FL.v (E.lss rfl rfl) ?_
   refine FL.nil ?_
   rcases ifB hp with ⟨cAO,hp⟩|⟨cAO,hp⟩
   ·
    refine FW.condT rfl cAO ?_
    refine FW.seq (FW.region ?_)
    refine FL.v (E.assign (v:=Value.int .i64 (-1)) rfl) ?_
    refine FL.nil ?_
    refine FW.ret ?_
    obtain rfl:=Option.some.inj hp
    exact ⟨nofun,rfl,⟨.inr rfl,res1 rfl rfl ⟨rfl,SAN.back⟩⟩⟩
   ·
    refine FW.condF rfl cAO ?_
    refine FW.skip (FW.seq (FW.seq (FW.region ?_)))
    refine FL.v (E.move kAh) ?_
    refine FL.v (E.move kAg) ?_
    obtain ⟨pAP,csAQ,ptAR,lAS,atAT,relAU⟩:=p0.at (zaF hx22)
    obtain ⟨vAV,vAX,rfl,hAW,hAY⟩:=zaD relAU
    refine FL.v (E.indexAddr te24 rfl rfl ptAR) ?_
    refine FL.v (E.fieldAddr zaT rfl) ?_
    refine FL.v (E.load rfl (zaf Tryz.isAgg3 ((atAT.mono iAd).now SAN.sl) rfl)) ?_
    refine FL.v (E.move (v:=Value.int .i64 rAJ) rfl) ?_
    refine FL.v (E.neq rfl rfl) ?_
    refine FL.nil ?_
    rcases ifB hp with ⟨cAZ,hp⟩|⟨cAZ,hp⟩
    ·
     refine FW.condT rfl cAZ ?_
     refine FW.seq (FW.region ?_)
     refine FL.v (E.assign (v:=Value.int .i64 (-1)) rfl) ?_
     refine FL.nil ?_
     refine FW.ret ?_
     obtain rfl:=Option.some.inj hp
     exact ⟨nofun,rfl,⟨.inr rfl,res1 rfl rfl ⟨rfl,SAN.back⟩⟩⟩
    ·
     refine FW.condF rfl cAZ ?_
     refine FW.skip (FW.seq (FW.region ?_))
     refine FL.v (E.move (v:=Value.int .i64 rAJ) rfl) ?_
     refine FL.v (E.add rfl rfl) ?_
     refine FL.v (E.assign (v:=Value.int .i64 (wr (rAJ + 1))) rfl) ?_
     refine FL.nil (FW.seq (FW.seq ?_))
     refine FW.draw (fun w'=>Run wAL.heap.size HAb wAL HAb w') (by kernel_rfl) (by kernel_rfl) (zaN SAN.sl) ?_
     refine FD.val rfl rfl rfl (fun w' hw'=>(E.move kAh)) ?_
     refine FD.val rfl rfl rfl (fun w' hw'=>(E.move kAg)) ?_
     obtain ⟨pB1,csB2,ptB3,lB4,atB5,relB6⟩:=p0.at (zaF hx22)
     obtain ⟨vB7,vB9,rfl,hB8,hBa⟩:=zaD relB6
     refine FD.val rfl rfl rfl (fun w' hw'=>(E.indexAddr te24 rfl rfl ptB3)) ?_
     refine FD.val rfl rfl rfl (fun w' hw'=>(E.fieldAddr zaZ rfl)) ?_
     refine FD.val rfl rfl rfl (fun w' hw'=>(E.load rfl (zaf Tryz.isAgg9 ((atB5.mono iAd).now (SAN.call hw').sl) rfl))) ?_
     refine FD.val rfl rfl rfl (fun w' hw'=>(E.move (v:=Value.int .i64 (wr (rAJ + 1))) rfl)) ?_
     refine FD.call rfl rfl rfl (fun w' hw'=>(E.call Tryz.call55 (A1 rfl))) (fun w' hw'=>Calls.cls hw' (zdw (SAN.call hw').sl (wr (rAJ + 1)))) ?_
     refine FD.val rfl rfl rfl (fun w' hw'=>(E.neqS rfl rfl)) ?_
     refine FD.nil ?_
     intro wBb rBd
     have SBc:=SAN.call rBd
     rcases ifB hp with ⟨cBe,hp⟩|⟨cBe,hp⟩
     ·
      refine FW.condT rfl cBe ?_
      refine FW.seq (FW.region ?_)
      refine FL.v (E.assign (v:=Value.int .i64 (-1)) rfl) ?_
      refine FL.nil ?_
      refine FW.ret ?_
      obtain rfl:=Option.some.inj hp
      exact ⟨nofun,rfl,⟨.inr rfl,res1 rfl rfl ⟨rfl,SBc.back⟩⟩⟩
     ·
      refine FW.condF rfl cBe ?_
      refine FW.skip (FW.seq (FW.region ?_))
      refine FL.v (E.move (v:=Value.int .i64 (wr (rAJ + 1))) rfl) ?_
      refine FL.v (E.add rfl rfl) ?_
      refine FL.v (E.assign (v:=Value.int .i64 (wr ((wr (rAJ + 1)) + 1))) rfl) ?_
      refine FL.nil (FW.seq (FW.seq (FW.region ?_)))
      refine FL.v (E.move kAh) ?_
      refine FL.v (E.move kAg) ?_
      obtain ⟨pBf,csBg,ptBh,lBi,atBj,relBk⟩:=p0.at (zaF hx22)
      obtain ⟨vBl,vBn,rfl,hBm,hBo⟩:=zaD relBk
      refine FL.v (E.indexAddr te24 rfl rfl ptBh) ?_
      refine FL.v (E.fieldAddr zaE rfl) ?_
      refine FL.v (E.load rfl (zaf Tryz.isAgg3 ((atBj.mono iAd).now SBc.sl) rfl)) ?_
      refine FL.v (E.move (v:=Value.int .i64 (wr ((wr (rAJ + 1)) + 1))) rfl) ?_
      refine FL.v (E.neq rfl rfl) ?_
      refine FL.nil ?_
      rcases ifB hp with ⟨cBp,hp⟩|⟨cBp,hp⟩
      ·
       refine FW.condT rfl cBp ?_
       refine FW.seq (FW.region ?_)
       refine FL.v (E.assign (v:=Value.int .i64 (-1)) rfl) ?_
       refine FL.nil ?_
       refine FW.ret ?_
       obtain rfl:=Option.some.inj hp
       exact ⟨nofun,rfl,⟨.inr rfl,res1 rfl rfl ⟨rfl,SBc.back⟩⟩⟩
      ·
       refine FW.condF rfl cBp ?_
       refine FW.skip (FW.seq (FW.region ?_))
       refine FL.v (E.move (v:=Value.int .i64 (wr ((wr (rAJ + 1)) + 1))) rfl) ?_
       refine FL.v (E.add rfl rfl) ?_
       refine FL.v (E.assign (v:=Value.int .i64 (wr ((wr ((wr (rAJ + 1)) + 1)) + 1))) rfl) ?_
       refine FL.nil (FW.seq (FW.seq (FW.region ?_)))
       refine FL.v (E.move kAh) ?_
       refine FL.v (E.move kAg) ?_
       obtain ⟨pBq,csBr,ptBs,lBt,atBu,relBv⟩:=p0.at (zaF hx22)
       obtain ⟨vBw,vBy,rfl,hBx,hBz⟩:=zaD relBv
       refine FL.v (E.indexAddr te24 rfl rfl ptBs) ?_
       refine FL.v (E.fieldAddr zaH rfl) ?_
       refine FL.v (E.load rfl (zaf Tryz.isAgg3 ((atBu.mono iAd).now SBc.sl) rfl)) ?_
       refine FL.v (E.move (v:=Value.int .i64 (wr ((wr ((wr (rAJ + 1)) + 1)) + 1))) rfl) ?_
       refine FL.v (E.neq rfl rfl) ?_
       refine FL.nil ?_
       rcases ifB hp with ⟨cBA,hp⟩|⟨cBA,hp⟩
       ·
        refine FW.condT rfl cBA ?_
        refine FW.seq (FW.region ?_)
        refine FL.v (E.assign (v:=Value.int .i64 (-1)) rfl) ?_
        refine FL.nil ?_
        refine FW.ret ?_
        obtain rfl:=Option.some.inj hp
        exact ⟨nofun,rfl,⟨.inr rfl,res1 rfl rfl ⟨rfl,SBc.back⟩⟩⟩
       ·
        refine FW.condF rfl cBA ?_
        refine FW.skip (FW.region ?_)
        refine FL.v (E.move (v:=Value.int .i64 (wr ((wr ((wr (rAJ + 1)) + 1)) + 1))) rfl) ?_
        refine FL.v (E.add rfl rfl) ?_
        refine FL.v (E.assign (v:=Value.int .i64 (wr ((wr ((wr ((wr (rAJ + 1)) + 1)) + 1)) + 1))) rfl) ?_
        refine FL.nil (FW.region ?_)
        refine FL.v (E.move kAg) ?_
        refine FL.v (E.add rfl rfl) ?_
        refine FL.v (E.assign (v:=Value.int .i64 (wr (((i22:Nat):Int) + 1))) rfl) ?_
        refine FL.nil ?_
        obtain rfl:=Option.some.inj hp
        exact ⟨rfl,⟨_,SBc,iAd,(zaA rfl (zat hx22) (p0.mono iAd).le),kAh,rfl⟩⟩
 ·
  clear hp hq
  rintro s22 fBM wBL ⟨HBI,SBJ,iBK,kBN,kBO,kBP⟩
  refine FW.seq (FW.seq (FW.region ?_))
  refine FL.v (E.move kBN) ?_
  refine FL.v (E.move kBO) ?_
  refine FL.v (E.lenP te24 rfl p0) ?_
  refine FL.v (E.lss rfl rfl) ?_
  refine FL.nil ?_
  refine FW.condF rfl zaK ?_
  refine FW.exit ?_
  exact ⟨nofun,rfl,⟨_,SBJ,iBK,kBP⟩⟩
 ·
  clear hq
  intro e fBG wBF hD
  rcases q22 with s22|x22
  ·
   obtain ⟨rfl,hD⟩:=hD
   obtain ⟨HBC,SBD,iBE,kBH⟩:=hD
   replace hp:=el_go hp
   refine FW.seq (FW.region ?_)
   refine FL.v (E.move kBH) ?_
   refine FL.v (E.assign (v:=Value.int .i64 s22) rfl) ?_
   refine FL.nil ?_
   refine FW.ret ?_
   obtain rfl:=Option.some.inj hp
   exact ⟨.inr rfl,res1 rfl rfl ⟨rfl,SBD.back⟩⟩
  ·
   obtain ⟨he,hL⟩:=hD
   replace hp:=el_rt hp
   obtain rfl:=Option.some.inj hp
   subst he
   exact hL

set_option maxHeartbeats 4000000 in
theorem w_laws_FnExactModusSequents {Ha:GH} {wa:World} (hs:Sl Ha wa) (v0:Value) (a0:List zac) (p0:RSl Ha eSeqStep 6 v0 a0) (v1:Value) (a1:List zac) (p1:RSl Ha eSeqStep 6 v1 a1) {r:Bool} (hp:(PF.zdn a0 a1)=some r) :
  Calls Tryz.prog 7 #[v0,v1] wa (Sc Ha wa (Value.bool r)):=by
 unfold PF.zdn at hp
 have S0:=St.init hs
 refine zaj (N:=119) (args:=[v0,v1]) Tryz.func7 rfl rfl rfl ?_
 refine FW.seq (FW.region ?_)
 refine FL.v (E.assign (v:=Value.bool false) rfl) ?_
 refine FL.nil (FW.seq (FW.region ?_))
 refine FL.v (E.assign (v:=Value.int .i64 1048576) rfl) ?_
 refine FL.nil (FW.seq (FW.region ?_))
 refine FL.v (E.move (v:=v0) rfl) ?_
 refine FL.v (E.move (v:=Value.int .i64 1048576) rfl) ?_
 obtain ⟨r21,hr22,hp⟩:=bnd hp
 refine FL.call rfl rfl rfl (E.call Tryz.call18 (A2 rfl rfl)) (zd1 S0.sl v0 a0 p0 1048576 hr22) ?_
 rintro e w23 ⟨rfl,r24⟩
 refine ⟨_,rfl,?_⟩
 have S25:=S0.call r24
 have z26:=r24.bel.size
 refine FL.v (E.assign (v:=Value.int .i64 r21) rfl) ?_
 refine FL.nil (FW.seq (FW.seq (FW.region ?_)))
 refine FL.v (E.move (v:=Value.int .i64 r21) rfl) ?_
 refine FL.v (E.lss rfl rfl) ?_
 refine FL.nil ?_
 rcases ifB hp with ⟨c27,hp⟩|⟨c27,hp⟩
 ·
  refine FW.condT rfl c27 ?_
  refine FW.seq (FW.region ?_)
  refine FL.v (E.assign (v:=Value.bool true) rfl) ?_
  refine FL.nil ?_
  refine FW.ret ?_
  obtain rfl:=Option.some.inj hp
  exact ⟨.inr rfl,res1 rfl rfl ⟨rfl,S25.back⟩⟩
 ·
  refine FW.condF rfl c27 ?_
  refine FW.skip (FW.seq (FW.region ?_))
  refine FL.v (E.move (v:=v1) rfl) ?_
  refine FL.v (E.move (v:=Value.int .i64 r21) rfl) ?_
  obtain ⟨r28,hr29,hp⟩:=bnd hp
  refine FL.call rfl rfl rfl (E.call Tryz.call18 (A2 rfl rfl)) (zd1 S25.sl v1 a1 p1 r21 hr29) ?_
  rintro e w30 ⟨rfl,r31⟩
  refine ⟨_,rfl,?_⟩
  have S32:=S25.call r31
  have z33:=r31.bel.size
  refine FL.v (E.assign (v:=Value.int .i64 r28) rfl) ?_
  refine FL.nil (FW.seq (FW.seq (FW.region ?_)))
  refine FL.v (E.move (v:=Value.int .i64 r28) rfl) ?_
  refine FL.v (E.lss rfl rfl) ?_
  refine FL.nil ?_
  rcases ifB hp with ⟨c34,hp⟩|⟨c34,hp⟩
  ·
   refine FW.condT rfl c34 ?_
   refine FW.seq (FW.region ?_)
   refine FL.v (E.assign (v:=Value.bool true) rfl) ?_
   refine FL.nil ?_
   refine FW.ret ?_
   obtain rfl:=Option.some.inj hp
   exact ⟨.inr rfl,res1 rfl rfl ⟨rfl,S32.back⟩⟩
  ·
   refine FW.condF rfl c34 ?_
   refine FW.skip (FW.seq (FW.region ?_))
   refine FL.v (E.move (v:=v0) rfl) ?_
   obtain ⟨r35,hr36,hp⟩:=bnd hp
   refine FL.call rfl rfl rfl (E.call Tryz.call20 (A1 rfl)) (zbV S32.sl v0 a0 p0 hr36) ?_
   rintro e w38 ⟨H37,v41,n42,cs43,rfl,r40,els44,nd45⟩
   refine ⟨_,rfl,?_⟩
   have nv46:New Ha cs43:=New.of_up S32.sl els44.dom
   obtain ⟨H47,r48,i49,ns52,nv51⟩:=r40.sealRowN (i:=0) (l':=[]) rfl els44 nd45 (by decide) rfl
   have h50:=ns52.rsl
   have S39:=S32.call r48.run
   have z53:=r48.run.bel.size
   have h50:=h50.mono (sg_of S39.sl)
   have ns52:=ns52.mono (sg_of S39.sl)
   refine FL.v (E.move (v:=v1) rfl) ?_
   obtain ⟨r54,hr55,hp⟩:=bnd hp
   refine FL.call rfl rfl rfl (E.call Tryz.call20 (A1 rfl)) (zbV S39.sl v1 a1 (p1.mono r48.run.inc) hr55) ?_
   rintro e w57 ⟨H56,v60,n61,cs62,rfl,r59,els63,nd64⟩
   refine ⟨_,rfl,?_⟩
   have nv65:New H47 cs62:=New.of_up S39.sl els63.dom
   obtain ⟨H66,r67,i68,ns71,nv70⟩:=r59.sealRowN (i:=0) (l':=[]) rfl els63 nd64 (by decide) rfl
   have h69:=ns71.rsl
   have S58:=S39.call r67.run
   have z72:=r67.run.bel.size
   have h69:=h69.mono (sg_of S58.sl)
   have ns71:=ns71.mono (sg_of S58.sl)
   obtain ⟨r73,hr74,hp⟩:=bnd hp
   refine FL.call rfl rfl rfl (E.call Tryz.call26 (A2 rfl rfl)) (zes S58.sl v41 r35 (h50.mono (sgI.tr r67.run.inc)) v60 r54 (h69.mono sgI) hr74) ?_
   rintro e w76 ⟨H75,v79,n80,cs81,rfl,r78,els82⟩
   refine ⟨_,rfl,?_⟩
   obtain ⟨H83,r84,i85,h86⟩:=r78.sealRow (i:=0) (l':=[]) rfl els82 (by decide) rfl
   have S77:=S58.call r84.run
   have z88:=r84.run.bel.size
   have h86:=h86.mono (bw_of S77.sl)
   refine FL.v (E.move (v:=Value.tuple #[v79,Value.bool r73.2]) rfl) ?_
   refine FL.v (E.extract (i:=0) rfl rfl) ?_
   refine FL.v (E.extract (i:=1) rfl rfl) ?_
   refine FL.v (E.assign (v:=v79) rfl) ?_
   refine FL.v (E.assign (v:=Value.bool r73.2) rfl) ?_
   refine FL.nil (FW.seq (FW.region ?_))
   refine FL.v (E.move (v:=v0) rfl) ?_
   obtain ⟨r89,hr90,hp⟩:=bnd hp
   refine FL.call rfl rfl rfl (E.call Tryz.call20 (A1 rfl)) (zbV S77.sl v0 a0 (p0.mono ((r48.run.inc.tr r67.run.inc).tr r84.run.inc)) hr90) ?_
   rintro e w92 ⟨H91,v95,n96,cs97,rfl,r94,els98,nd99⟩
   refine ⟨_,rfl,?_⟩
   have nvA0:New H83 cs97:=New.of_up S77.sl els98.dom
   obtain ⟨HA1,rA2,iA3,nsA6,nvA5⟩:=r94.sealRowN (i:=0) (l':=[]) rfl els98 nd99 (by decide) rfl
   have hA4:=nsA6.rsl
   have S93:=S77.call rA2.run
   have zA7:=rA2.run.bel.size
   have hA4:=hA4.mono (sg_of S93.sl)
   have nsA6:=nsA6.mono (sg_of S93.sl)
   refine FL.v (E.assign (v:=v95) rfl) ?_
   refine FL.nil (FW.seq (FW.region ?_))
   refine FL.v (E.move (v:=v1) rfl) ?_
   obtain ⟨rA8,hrA9,hp⟩:=bnd hp
   refine FL.call rfl rfl rfl (E.call Tryz.call20 (A1 rfl)) (zbV S93.sl v1 a1 (p1.mono (((r48.run.inc.tr r67.run.inc).tr r84.run.inc).tr rA2.run.inc)) hrA9) ?_
   rintro e wAb ⟨HAa,vAe,nAf,csAg,rfl,rAd,elsAh,ndAi⟩
   refine ⟨_,rfl,?_⟩
   have nvAj:New HA1 csAg:=New.of_up S93.sl elsAh.dom
   obtain ⟨HAk,rAl,iAm,nsAp,nvAo⟩:=rAd.sealRowN (i:=0) (l':=[]) rfl elsAh ndAi (by decide) rfl
   have hAn:=nsAp.rsl
   have SAc:=S93.call rAl.run
   have zAq:=rAl.run.bel.size
   have hAn:=hAn.mono (sg_of SAc.sl)
   have nsAp:=nsAp.mono (sg_of SAc.sl)
   refine FL.v (E.assign (v:=vAe) rfl) ?_
   refine FL.nil (FW.seq (FW.region ?_))
   refine FL.v (E.move (v:=v95) rfl) ?_
   refine FL.v (E.move (v:=vAe) rfl) ?_
   obtain ⟨rAr,hrAs,hp⟩:=bnd hp
   refine FL.call rfl rfl rfl (E.call Tryz.call27 (A2 rfl rfl)) (zej SAc.sl v95 r89 (hA4.mono (sgI.tr rAl.run.inc)) vAe rA8 (hAn.mono sgI) hrAs) ?_
   rintro e wAu ⟨HAt,vAx,nAy,csAz,rfl,rAw,elsAA,ndAB⟩
   refine ⟨_,rfl,?_⟩
   have nvAC:New HAk csAz:=New.of_up SAc.sl elsAA.dom
   obtain ⟨HAD,rAE,iAF,nsAI,nvAH⟩:=rAw.sealRowN (i:=0) (l':=[]) rfl elsAA ndAB (by decide) rfl
   have hAG:=nsAI.rsl
   have SAv:=SAc.call rAE.run
   have zAJ:=rAE.run.bel.size
   have hAG:=hAG.mono (sg_of SAv.sl)
   have nsAI:=nsAI.mono (sg_of SAv.sl)
   refine FL.v (E.move (v:=Value.tuple #[vAx,Value.bool rAr.2]) rfl) ?_
   refine FL.v (E.extract (i:=0) rfl rfl) ?_
   refine FL.v (E.extract (i:=1) rfl rfl) ?_
   refine FL.v (E.assign (v:=vAx) rfl) ?_
   refine FL.v (E.assign (v:=Value.bool rAr.2) rfl) ?_
   refine FL.nil (FW.seq (FW.seq (FW.region ?_)))
   refine FL.v (E.move (v:=vAx) rfl) ?_
   refine FL.v (E.move (v:=v79) rfl) ?_
   obtain ⟨rAK,hrAL,hp⟩:=bnd hp
   refine FL.call rfl rfl rfl (E.call Tryz.call13 (A2 rfl rfl)) (zc8 SAv.sl vAx rAr.1 (hAG.mono sgI) v79 r73.1 (h86.mono (bwI.tr ((rA2.run.inc.tr rAl.run.inc).tr rAE.run.inc))) hrAL) ?_
   rintro e wAM ⟨rfl,rAN⟩
   refine ⟨_,rfl,?_⟩
   have SAO:=SAv.call rAN
   have zAP:=rAN.bel.size
   refine FL.v (E.not rfl) ?_
   refine FL.v (E.move (v:=Value.bool (!rAK)) rfl) ?_
   refine FL.cut 4 (fun f w=>∃ H:GH,St Ha wa H w []∧Inc HAD H∧f 0=v0∧f 1=v1∧f 6=v79∧f 7=Value.bool r73.2∧f 8=v95∧f 9=vAe∧f 10=vAx∧f 11=Value.bool rAr.2∧f 53=Value.bool (bif (!rAK) then true else (!(rAr.2 == r73.2)))) ?_ ?_
   ·
    rcases bcase (!rAK) with cAW|cAW
    ·
     refine FL.skip (wF_no rfl rfl rfl cAW) rfl ?_
     refine FL.skip (wF_no rfl rfl rfl cAW) rfl ?_
     refine FL.skip (wF_no rfl rfl rfl cAW) rfl ?_
     refine FL.v (E.pickT rfl cAW rfl) ?_
     exact FL.nil ⟨rfl,_,SAO,(Inc.rfl _),rfl,rfl,rfl,rfl,rfl,rfl,rfl,rfl,(congrArg Value.bool (bifT cAW).symm)⟩
    ·
     refine FL.val (zab rfl rfl rfl cAW) rfl rfl (E.move (v:=Value.bool rAr.2) rfl) ?_
     refine FL.val (zab rfl rfl rfl cAW) rfl rfl (E.move (v:=Value.bool r73.2) rfl) ?_
     refine FL.val (zab rfl rfl rfl cAW) rfl rfl (E.neqB Tryz.runUnderlying4 rfl rfl) ?_
     refine FL.v (E.pickF rfl cAW rfl) ?_
     exact FL.nil ⟨rfl,_,SAO,(Inc.rfl _),rfl,rfl,rfl,rfl,rfl,rfl,rfl,rfl,(congrArg Value.bool (bifF cAW).symm)⟩
   rintro fAV wAU ⟨HAR,SAS,iAT,kAX,kAY,kAZ,kB0,kB1,kB2,kB3,kB4,kB5⟩
   refine FL.nil ?_
   rcases ifB hp with ⟨cB6,hp⟩|⟨cB6,hp⟩
   ·
    refine FW.condT kB5 cB6 ?_
    refine FW.seq (FW.region ?_)
    refine FL.v (E.assign (v:=Value.bool false) rfl) ?_
    refine FL.nil ?_
    refine FW.ret ?_
    obtain rfl:=Option.some.inj hp
    exact ⟨.inr rfl,res1 rfl rfl ⟨rfl,SAS.back⟩⟩
   ·
    refine FW.condF kB5 cB6 ?_
    refine FW.skip (FW.seq (FW.seq (FW.region ?_)))
    refine FL.v (E.move kB1) ?_
    refine FL.v (E.move kAX) ?_
    obtain ⟨rB7,hrB8,hp⟩:=bnd hp
    refine FL.call rfl rfl rfl (E.call Tryz.call20 (A1 rfl)) (zbV SAS.sl v0 a0 (p0.mono ((((((r48.run.inc.tr r67.run.inc).tr r84.run.inc).tr rA2.run.inc).tr rAl.run.inc).tr rAE.run.inc).tr iAT)) hrB8) ?_
    rintro e wBa ⟨HB9,vBd,nBe,csBf,rfl,rBc,elsBg,ndBh⟩
    refine ⟨_,rfl,?_⟩
    have nvBi:New HAR csBf:=New.of_up SAS.sl elsBg.dom
    obtain ⟨HBj,rBk,iBl,nsBo,nvBn⟩:=rBc.sealRowN (i:=0) (l':=[]) rfl elsBg ndBh (by decide) rfl
    have hBm:=nsBo.rsl
    have SBb:=SAS.call rBk.run
    have zBp:=rBk.run.bel.size
    have hBm:=hBm.mono (sg_of SBb.sl)
    have nsBo:=nsBo.mono (sg_of SBb.sl)
    obtain ⟨rBq,hrBr,hp⟩:=bnd hp
    refine FL.call rfl rfl rfl (E.call Tryz.call13 (A2 rfl rfl)) (zc8 SBb.sl v95 r89 (hA4.mono (sgI.tr (((rAl.run.inc.tr rAE.run.inc).tr iAT).tr rBk.run.inc))) vBd rB7 (hBm.mono sgI) hrBr) ?_
    rintro e wBs ⟨rfl,rBt⟩
    refine ⟨_,rfl,?_⟩
    have SBu:=SBb.call rBt
    have zBv:=rBt.bel.size
    refine FL.v (E.not rfl) ?_
    refine FL.nil ?_
    rcases ifB hp with ⟨cBw,hp⟩|⟨cBw,hp⟩
    ·
     refine FW.condT rfl cBw ?_
     refine FW.seq (FW.region ?_)
     refine FL.v (E.assign (v:=Value.bool false) rfl) ?_
     refine FL.nil ?_
     refine FW.ret ?_
     obtain rfl:=Option.some.inj hp
     exact ⟨.inr rfl,res1 rfl rfl ⟨rfl,SBu.back⟩⟩
    ·
     refine FW.condF rfl cBw ?_
     refine FW.skip (FW.seq (FW.seq (FW.region ?_)))
     refine FL.v (E.move kB2) ?_
     refine FL.v (E.move kAY) ?_
     obtain ⟨rBx,hrBy,hp⟩:=bnd hp
     refine FL.call rfl rfl rfl (E.call Tryz.call20 (A1 rfl)) (zbV SBu.sl v1 a1 (p1.mono (((((((r48.run.inc.tr r67.run.inc).tr r84.run.inc).tr rA2.run.inc).tr rAl.run.inc).tr rAE.run.inc).tr iAT).tr rBk.run.inc)) hrBy) ?_
     rintro e wBA ⟨HBz,vBD,nBE,csBF,rfl,rBC,elsBG,ndBH⟩
     refine ⟨_,rfl,?_⟩
     have nvBI:New HBj csBF:=New.of_up SBu.sl elsBG.dom
     obtain ⟨HBJ,rBK,iBL,nsBO,nvBN⟩:=rBC.sealRowN (i:=0) (l':=[]) rfl elsBG ndBH (by decide) rfl
     have hBM:=nsBO.rsl
     have SBB:=SBu.call rBK.run
     have zBP:=rBK.run.bel.size
     have hBM:=hBM.mono (sg_of SBB.sl)
     have nsBO:=nsBO.mono (sg_of SBB.sl)
     obtain ⟨rBQ,hrBR,hp⟩:=bnd hp
     refine FL.call rfl rfl rfl (E.call Tryz.call13 (A2 rfl rfl)) (zc8 SBB.sl vAe rA8 (hAn.mono (sgI.tr (((rAE.run.inc.tr iAT).tr rBk.run.inc).tr rBK.run.inc))) vBD rBx (hBM.mono sgI) hrBR) ?_
     rintro e wBS ⟨rfl,rBT⟩
     refine ⟨_,rfl,?_⟩
     have SBU:=SBB.call rBT
     have zBV:=rBT.bel.size
     refine FL.v (E.not rfl) ?_
     refine FL.nil ?_
     rcases ifB hp with ⟨cBW,hp⟩|⟨cBW,hp⟩
     ·
      refine FW.condT rfl cBW ?_
      refine FW.seq (FW.region ?_)
      refine FL.v (E.assign (v:=Value.bool false) rfl) ?_
      refine FL.nil ?_
      refine FW.ret ?_
      obtain rfl:=Option.some.inj hp
      exact ⟨.inr rfl,res1 rfl rfl ⟨rfl,SBU.back⟩⟩
     ·
      refine FW.condF rfl cBW ?_
      refine FW.skip (FW.seq (FW.region ?_))
      refine FL.v (E.assign (v:=Value.int .i64 1) rfl) ?_
      refine FL.nil (FW.seq (FW.region ?_))
      refine FL.v (E.move kB1) ?_
      refine FL.v (E.move (v:=Value.int .i64 1) rfl) ?_
      refine FL.call rfl rfl rfl (E.call Tryz.call16 (A2 rfl rfl)) (zdM SBU hs v95 r89 cs97 (nsA6.mono (sg_up (by omega) ((((rAl.run.inc.tr rAE.run.inc).tr iAT).tr rBk.run.inc).tr rBK.run.inc))) 1) ?_
      rintro e wBY ⟨HBX,cC3,rfl,SBZ,nsC5,hb228,oC1⟩
      refine ⟨_,rfl,?_⟩
      have oC2:=(nsA6.mono (zbj (hi:=w92.heap.size) ((((rAl.run.inc.tr rAE.run.inc).tr iAT).tr rBk.run.inc).tr rBK.run.inc))).outside oC1
      have nsC5:=nsA6.span zdo (by omega) nsC5 hb228
      have hC0:=nsC5.rsl
      have fC6:=h86.mono ((bw_mono (hi:=w76.heap.size) (((((rA2.run.inc.tr rAl.run.inc).tr rAE.run.inc).tr iAT).tr rBk.run.inc).tr rBK.run.inc)).tr (bw_keep oC2 (by omega)))
      have fC7:=hAn.mono ((zbj (lo:=w92.heap.size) (hi:=wAb.heap.size) (((rAE.run.inc.tr iAT).tr rBk.run.inc).tr rBK.run.inc)).tr (zbK oC2 (by omega)))
      have fC8:=nsAp.mono ((zbj (lo:=w92.heap.size) (hi:=wAb.heap.size) (((rAE.run.inc.tr iAT).tr rBk.run.inc).tr rBK.run.inc)).tr (zbK oC2 (by omega)))
      have fC9:=hAG.mono ((zbj (lo:=wAb.heap.size) (hi:=wAu.heap.size) ((iAT.tr rBk.run.inc).tr rBK.run.inc)).tr (zbK oC2 (by omega)))
      have fCa:=nsAI.mono ((zbj (lo:=wAb.heap.size) (hi:=wAu.heap.size) ((iAT.tr rBk.run.inc).tr rBK.run.inc)).tr (zbK oC2 (by omega)))
      refine FL.v (E.assign (v:=Value.int .i64 ((PF.zaz r89 1).2)) rfl) ?_
      refine FL.nil (FW.seq (FW.region ?_))
      refine FL.v (E.move kB2) ?_
      refine FL.v (E.move (v:=Value.int .i64 ((PF.zaz r89 1).2)) rfl) ?_
      refine FL.call rfl rfl rfl (E.call Tryz.call16 (A2 rfl rfl)) (zdM SBZ hs vAe rA8 csAg (fC8.mono (sg_up (by omega) (Inc.rfl _))) ((PF.zaz r89 1).2)) ?_
      rintro e wCc ⟨HCb,cCh,rfl,SCd,nsCj,hb242,oCf⟩
      refine ⟨_,rfl,?_⟩
      have oCg:=(fC8.mono (zbj (hi:=wAb.heap.size) (Inc.rfl _))).outside oCf
      have nsCj:=fC8.span zdo (by omega) nsCj hb242
      have hCe:=nsCj.rsl
      have fCk:=fC6.mono ((bw_mono (hi:=w76.heap.size) (Inc.rfl _)).tr (bw_keep oCg (by omega)))
      have fCl:=hC0.mono ((zbj (lo:=w76.heap.size) (hi:=w92.heap.size) (Inc.rfl _)).tr (zbK oCg (by omega)))
      have fCm:=nsC5.mono ((zbj (lo:=w76.heap.size) (hi:=w92.heap.size) (Inc.rfl _)).tr (zbK oCg (by omega)))
      have fCn:=fC9.mono ((zbj (lo:=wAb.heap.size) (hi:=wAu.heap.size) (Inc.rfl _)).tr (zbK oCg (by omega)))
      have fCo:=fCa.mono ((zbj (lo:=wAb.heap.size) (hi:=wAu.heap.size) (Inc.rfl _)).tr (zbK oCg (by omega)))
      refine FL.v (E.assign (v:=Value.int .i64 ((PF.zaz rA8 ((PF.zaz r89 1).2)).2)) rfl) ?_
      refine FL.nil (FW.seq (FW.seq (FW.region ?_)))
      refine FL.v (E.move (v:=Value.int .i64 ((PF.zaz rA8 ((PF.zaz r89 1).2)).2)) rfl) ?_
      refine FL.v (E.lss rfl rfl) ?_
      refine FL.v (E.move (v:=Value.bool (decide ((PF.zaz rA8 ((PF.zaz r89 1).2)).2 < 0))) rfl) ?_
      obtain ⟨t255,hqtCv,hp⟩:=bnd hp
      refine FL.cut 5 (fun f w=>∃ H:GH,St Ha wa H w []∧Inc HCb H∧f 0=v0∧f 1=v1∧f 6=v79∧f 7=Value.bool r73.2∧f 10=vAx∧f 11=Value.bool rAr.2∧f 77=Value.bool t255) ?_ ?_
      ·
       clear hp;have hp:=hqtCv;clear hqtCv
       rcases ifB hp with ⟨cCB,hp⟩|⟨cCB,hp⟩
       ·
        refine FL.skip (wF_no rfl rfl rfl cCB) rfl ?_
        refine FL.skip (wF_no rfl rfl rfl cCB) rfl ?_
        refine FL.skip (wF_no rfl rfl rfl cCB) rfl ?_
        refine FL.skip (wF_no rfl rfl rfl cCB) rfl ?_
        obtain rfl:=Option.some.inj hp
        refine FL.v (E.pickT rfl cCB rfl) ?_
        exact FL.nil ⟨rfl,_,SCd,(Inc.rfl _),kAX,kAY,kAZ,kB0,kB3,kB4,rfl⟩
       ·
        refine FL.val (zab rfl rfl rfl cCB) rfl rfl (E.move kB3) ?_
        refine FL.val (zab rfl rfl rfl cCB) rfl rfl (E.move kAZ) ?_
        obtain ⟨rCC,hrCD,hp⟩:=bnd hp
        refine FL.call (zab rfl rfl rfl cCB) rfl rfl (E.call Tryz.call13 (A2 rfl rfl)) (zc8 SCd.sl vAx rAr.1 (fCn.mono sgI) v79 r73.1 (fCk.mono bwI) hrCD) ?_
        rintro e wCE ⟨rfl,rCF⟩
        refine ⟨_,rfl,?_⟩
        have SCG:=SCd.call rCF
        have zCH:=rCF.bel.size
        refine FL.val (zab rfl rfl rfl cCB) rfl rfl (E.not rfl) ?_
        obtain rfl:=Option.some.inj hp
        refine FL.v (E.pickF rfl cCB rfl) ?_
        exact FL.nil ⟨rfl,_,SCG,(Inc.rfl _),kAX,kAY,kAZ,kB0,kB3,kB4,rfl⟩
      rintro fCA wCz ⟨HCw,SCx,iCy,kCI,kCJ,kCK,kCL,kCM,kCN,kCO⟩
      refine FL.v (E.move kCO) ?_
      refine FL.cut 4 (fun f w=>∃ H:GH,St Ha wa H w []∧Inc HCw H∧f 0=v0∧f 1=v1∧f 6=v79∧f 7=Value.bool r73.2∧f 10=vAx∧f 82=Value.bool (bif t255 then true else (!(rAr.2 == r73.2)))) ?_ ?_
      ·
       rcases bcase t255 with cCV|cCV
       ·
        refine FL.skip (wF_no rfl rfl rfl cCV) rfl ?_
        refine FL.skip (wF_no rfl rfl rfl cCV) rfl ?_
        refine FL.skip (wF_no rfl rfl rfl cCV) rfl ?_
        refine FL.v (E.pickT rfl cCV rfl) ?_
        exact FL.nil ⟨rfl,_,SCx,(Inc.rfl _),kCI,kCJ,kCK,kCL,kCM,(congrArg Value.bool (bifT cCV).symm)⟩
       ·
        refine FL.val (zab rfl rfl rfl cCV) rfl rfl (E.move kCN) ?_
        refine FL.val (zab rfl rfl rfl cCV) rfl rfl (E.move kCL) ?_
        refine FL.val (zab rfl rfl rfl cCV) rfl rfl (E.neqB Tryz.runUnderlying4 rfl rfl) ?_
        refine FL.v (E.pickF rfl cCV rfl) ?_
        exact FL.nil ⟨rfl,_,SCx,(Inc.rfl _),kCI,kCJ,kCK,kCL,kCM,(congrArg Value.bool (bifF cCV).symm)⟩
      rintro fCU wCT ⟨HCQ,SCR,iCS,kCW,kCX,kCY,kCZ,kD0,kD1⟩
      refine FL.nil ?_
      rcases ifB hp with ⟨cD2,hp⟩|⟨cD2,hp⟩
      ·
       refine FW.condT kD1 cD2 ?_
       refine FW.seq (FW.region ?_)
       refine FL.v (E.assign (v:=Value.bool false) rfl) ?_
       refine FL.nil ?_
       refine FW.ret ?_
       obtain rfl:=Option.some.inj hp
       exact ⟨.inr rfl,res1 rfl rfl ⟨rfl,SCR.back⟩⟩
      ·
       refine FW.condF kD1 cD2 ?_
       refine FW.skip (FW.seq (FW.region ?_))
       refine FL.v (E.assign (v:=Value.int .i64 1) rfl) ?_
       refine FL.nil (FW.seq (FW.region ?_))
       refine FL.v (E.move kD0) ?_
       refine FL.v (E.move (v:=Value.int .i64 1) rfl) ?_
       refine FL.call rfl rfl rfl (E.call Tryz.call16 (A2 rfl rfl)) (zdM SCR hs vAx rAr.1 csAz (fCo.mono (sg_up (by omega) (iCy.tr iCS))) 1) ?_
       rintro e wD4 ⟨HD3,cD9,rfl,SD5,nsDb,hb296,oD7⟩
       refine ⟨_,rfl,?_⟩
       have oD8:=(fCo.mono (zbj (hi:=wAu.heap.size) (iCy.tr iCS))).outside oD7
       have nsDb:=fCo.span zdo (by omega) nsDb hb296
       have hD6:=nsDb.rsl
       have fDc:=fCk.mono ((bw_mono (hi:=w76.heap.size) (iCy.tr iCS)).tr (bw_keep oD8 (by omega)))
       refine FL.v (E.assign (v:=Value.int .i64 ((PF.zaz rAr.1 1).2)) rfl) ?_
       refine FL.nil (FW.seq (FW.region ?_))
       refine FL.v (E.assign (v:=Value.int .i64 1) rfl) ?_
       refine FL.nil (FW.seq (FW.region ?_))
       refine FL.v (E.move kD0) ?_
       refine FL.v (E.move (v:=Value.int .i64 1) rfl) ?_
       obtain ⟨rDd,hrDe,hp⟩:=bnd hp
       refine FL.call rfl rfl rfl (E.call Tryz.call17 (A2 rfl rfl)) (zen SD5.sl vAx ((PF.zaz rAr.1 1).1) (hD6.mono sgI) 1 hrDe) ?_
       rintro e wDf ⟨rfl,rDg⟩
       refine ⟨_,rfl,?_⟩
       have SDh:=SD5.call rDg
       have zDi:=rDg.bel.size
       refine FL.v (E.assign (v:=Value.int .i64 rDd) rfl) ?_
       refine FL.nil (FW.seq (FW.seq (FW.region ?_)))
       refine FL.v (E.move (v:=Value.int .i64 rDd) rfl) ?_
       refine FL.v (E.lss rfl rfl) ?_
       refine FL.nil ?_
       rcases ifB hp with ⟨cDj,hp⟩|⟨cDj,hp⟩
       ·
        refine FW.condT rfl cDj ?_
        refine FW.seq (FW.region ?_)
        refine FL.v (E.assign (v:=Value.bool false) rfl) ?_
        refine FL.nil ?_
        refine FW.ret ?_
        obtain rfl:=Option.some.inj hp
        exact ⟨.inr rfl,res1 rfl rfl ⟨rfl,SDh.back⟩⟩
       ·
        refine FW.condF rfl cDj ?_
        refine FW.skip (FW.seq (FW.seq (FW.region ?_)))
        refine FL.v (E.move (v:=Value.int .i64 rDd) rfl) ?_
        refine FL.v (E.move (v:=Value.int .i64 ((PF.zaz rAr.1 1).2)) rfl) ?_
        refine FL.v (E.neq rfl rfl) ?_
        refine FL.nil ?_
        rcases ifB hp with ⟨cDk,hp⟩|⟨cDk,hp⟩
        ·
         refine FW.condT rfl cDk ?_
         refine FW.seq (FW.region ?_)
         refine FL.v (E.assign (v:=Value.bool false) rfl) ?_
         refine FL.nil ?_
         refine FW.ret ?_
         obtain rfl:=Option.some.inj hp
         exact ⟨.inr rfl,res1 rfl rfl ⟨rfl,SDh.back⟩⟩
        ·
         refine FW.condF rfl cDk ?_
         refine FW.skip (FW.seq (FW.region ?_))
         refine FL.v (E.move kCW) ?_
         obtain ⟨rDl,hrDm,hp⟩:=bnd hp
         refine FL.call rfl rfl rfl (E.call Tryz.call20 (A1 rfl)) (zbV SDh.sl v0 a0 (p0.mono SD5.inc) hrDm) ?_
         rintro e wDo ⟨HDn,vDr,nDs,csDt,rfl,rDq,elsDu,ndDv⟩
         refine ⟨_,rfl,?_⟩
         have nvDw:New HD3 csDt:=New.of_up SDh.sl elsDu.dom
         obtain ⟨HDx,rDy,iDz,nsDC,nvDB⟩:=rDq.sealRowN (i:=0) (l':=[]) rfl elsDu ndDv (by decide) rfl
         have hDA:=nsDC.rsl
         have SDp:=SDh.call rDy.run
         have zDD:=rDy.run.bel.size
         have hDA:=hDA.mono (sg_of SDp.sl)
         have nsDC:=nsDC.mono (sg_of SDp.sl)
         refine FL.v (E.move kCX) ?_
         obtain ⟨rDE,hrDF,hp⟩:=bnd hp
         refine FL.call rfl rfl rfl (E.call Tryz.call20 (A1 rfl)) (zbV SDp.sl v1 a1 (p1.mono (SD5.inc.tr rDy.run.inc)) hrDF) ?_
         rintro e wDH ⟨HDG,vDK,nDL,csDM,rfl,rDJ,elsDN,ndDO⟩
         refine ⟨_,rfl,?_⟩
         have nvDP:New HDx csDM:=New.of_up SDp.sl elsDN.dom
         obtain ⟨HDQ,rDR,iDS,nsDV,nvDU⟩:=rDJ.sealRowN (i:=0) (l':=[]) rfl elsDN ndDO (by decide) rfl
         have hDT:=nsDV.rsl
         have SDI:=SDp.call rDR.run
         have zDW:=rDR.run.bel.size
         have hDT:=hDT.mono (sg_of SDI.sl)
         have nsDV:=nsDV.mono (sg_of SDI.sl)
         obtain ⟨rDX,hrDY,hp⟩:=bnd hp
         refine FL.call rfl rfl rfl (E.call Tryz.call27 (A2 rfl rfl)) (zej SDI.sl vDr rDl (hDA.mono (sgI.tr rDR.run.inc)) vDK rDE (hDT.mono sgI) hrDY) ?_
         rintro e wE0 ⟨HDZ,vE3,nE4,csE5,rfl,rE2,elsE6,ndE7⟩
         refine ⟨_,rfl,?_⟩
         have nvE8:New HDQ csE5:=New.of_up SDI.sl elsE6.dom
         obtain ⟨HE9,rEa,iEb,nsEe,nvEd⟩:=rE2.sealRowN (i:=0) (l':=[]) rfl elsE6 ndE7 (by decide) rfl
         have hEc:=nsEe.rsl
         have SE1:=SDI.call rEa.run
         have zEf:=rEa.run.bel.size
         have hEc:=hEc.mono (sg_of SE1.sl)
         have nsEe:=nsEe.mono (sg_of SE1.sl)
         refine FL.v (E.move (v:=Value.tuple #[vE3,Value.bool rDX.2]) rfl) ?_
         refine FL.v (E.extract (i:=0) rfl rfl) ?_
         refine FL.v (E.extract (i:=1) rfl rfl) ?_
         refine FL.v (E.assign (v:=vE3) rfl) ?_
         refine FL.v (E.assign (v:=Value.bool rDX.2) rfl) ?_
         refine FL.nil (FW.seq (FW.seq (FW.region ?_)))
         refine FL.v (E.move (v:=vE3) rfl) ?_
         refine FL.v (E.move kCY) ?_
         obtain ⟨rEg,hrEh,hp⟩:=bnd hp
         refine FL.call rfl rfl rfl (E.call Tryz.call13 (A2 rfl rfl)) (zc8 SE1.sl vE3 rDX.1 (hEc.mono sgI) v79 r73.1 (fDc.mono (bwI.tr ((rDy.run.inc.tr rDR.run.inc).tr rEa.run.inc))) hrEh) ?_
         rintro e wEi ⟨rfl,rEj⟩
         refine ⟨_,rfl,?_⟩
         have SEk:=SE1.call rEj
         have zEl:=rEj.bel.size
         refine FL.v (E.not rfl) ?_
         refine FL.v (E.move (v:=Value.bool (!rEg)) rfl) ?_
         refine FL.cut 4 (fun f w=>∃ H:GH,St Ha wa H w []∧Inc HE9 H∧f 10=vAx∧f 13=Value.int .i64 ((PF.zaz rAr.1 1).2)∧f 110=Value.bool (bif (!rEg) then true else (!(rDX.2 == r73.2)))) ?_ ?_
         ·
          rcases bcase (!rEg) with cEs|cEs
          ·
           refine FL.skip (wF_no rfl rfl rfl cEs) rfl ?_
           refine FL.skip (wF_no rfl rfl rfl cEs) rfl ?_
           refine FL.skip (wF_no rfl rfl rfl cEs) rfl ?_
           refine FL.v (E.pickT rfl cEs rfl) ?_
           exact FL.nil ⟨rfl,_,SEk,(Inc.rfl _),kD0,rfl,(congrArg Value.bool (bifT cEs).symm)⟩
          ·
           refine FL.val (zab rfl rfl rfl cEs) rfl rfl (E.move (v:=Value.bool rDX.2) rfl) ?_
           refine FL.val (zab rfl rfl rfl cEs) rfl rfl (E.move kCZ) ?_
           refine FL.val (zab rfl rfl rfl cEs) rfl rfl (E.neqB Tryz.runUnderlying4 rfl rfl) ?_
           refine FL.v (E.pickF rfl cEs rfl) ?_
           exact FL.nil ⟨rfl,_,SEk,(Inc.rfl _),kD0,rfl,(congrArg Value.bool (bifF cEs).symm)⟩
         rintro fEr wEq ⟨HEn,SEo,iEp,kEt,kEu,kEv⟩
         refine FL.nil ?_
         rcases ifB hp with ⟨cEw,hp⟩|⟨cEw,hp⟩
         ·
          refine FW.condT kEv cEw ?_
          refine FW.seq (FW.region ?_)
          refine FL.v (E.assign (v:=Value.bool false) rfl) ?_
          refine FL.nil ?_
          refine FW.ret ?_
          obtain rfl:=Option.some.inj hp
          exact ⟨.inr rfl,res1 rfl rfl ⟨rfl,SEo.back⟩⟩
         ·
          refine FW.condF kEv cEw ?_
          refine FW.skip (FW.seq (FW.region ?_))
          refine FL.v (E.assign (v:=Value.int .i64 1) rfl) ?_
          refine FL.nil (FW.seq (FW.region ?_))
          refine FL.v (E.move kEt) ?_
          refine FL.v (E.move (v:=Value.int .i64 1) rfl) ?_
          obtain ⟨rEx,hrEy,hp⟩:=bnd hp
          refine FL.call rfl rfl rfl (E.call Tryz.call17 (A2 rfl rfl)) (zen SEo.sl vAx ((PF.zaz rAr.1 1).1) (hD6.mono (sgI.tr (((rDy.run.inc.tr rDR.run.inc).tr rEa.run.inc).tr iEp))) 1 hrEy) ?_
          rintro e wEz ⟨rfl,rEA⟩
          refine ⟨_,rfl,?_⟩
          have SEB:=SEo.call rEA
          have zEC:=rEA.bel.size
          refine FL.v (E.assign (v:=Value.int .i64 rEx) rfl) ?_
          refine FL.nil (FW.seq (FW.seq (FW.region ?_)))
          refine FL.v (E.move (v:=Value.int .i64 rEx) rfl) ?_
          refine FL.v (E.lss rfl rfl) ?_
          refine FL.nil ?_
          rcases ifB hp with ⟨cED,hp⟩|⟨cED,hp⟩
          ·
           refine FW.condT rfl cED ?_
           refine FW.seq (FW.region ?_)
           refine FL.v (E.assign (v:=Value.bool false) rfl) ?_
           refine FL.nil ?_
           refine FW.ret ?_
           obtain rfl:=Option.some.inj hp
           exact ⟨.inr rfl,res1 rfl rfl ⟨rfl,SEB.back⟩⟩
          ·
           refine FW.condF rfl cED ?_
           refine FW.skip (FW.seq (FW.seq (FW.region ?_)))
           refine FL.v (E.move (v:=Value.int .i64 rEx) rfl) ?_
           refine FL.v (E.move kEu) ?_
           refine FL.v (E.neq rfl rfl) ?_
           refine FL.nil ?_
           rcases ifB hp with ⟨cEE,hp⟩|⟨cEE,hp⟩
           ·
            refine FW.condT rfl cEE ?_
            refine FW.seq (FW.region ?_)
            refine FL.v (E.assign (v:=Value.bool false) rfl) ?_
            refine FL.nil ?_
            refine FW.ret ?_
            obtain rfl:=Option.some.inj hp
            exact ⟨.inr rfl,res1 rfl rfl ⟨rfl,SEB.back⟩⟩
           ·
            refine FW.condF rfl cEE ?_
            refine FW.skip (FW.seq (FW.region ?_))
            refine FL.v (E.assign (v:=Value.bool true) rfl) ?_
            refine FL.nil ?_
            refine FW.ret ?_
            obtain rfl:=Option.some.inj hp
            exact ⟨.inr rfl,res1 rfl rfl ⟨rfl,SEB.back⟩⟩

end Go.Proofs
