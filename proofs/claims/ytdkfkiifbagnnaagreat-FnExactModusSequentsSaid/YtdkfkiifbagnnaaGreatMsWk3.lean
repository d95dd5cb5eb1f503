/- Part of the walks and plain laws behind the claim: it proves helpers, under no condition beyond their own. -/
import Derived.Test.YtdkfkiifbagnnaaGreatMsWk2
set_option linter.unusedVariables false
set_option maxRecDepth 100000
namespace Go.Proofs
open Go.Mr Go.Pu Go.PF Go.RowKit

@[reducible] def p_impl_premisesOf (Ha:GH) (wa:World) (r:(List zad)):Ending→World→Prop :=
 fun e w'=>∃ H':GH,∃ v0:Value,∃ n0:Nat,∃ c0:List Value,e=.returned (v0)∧St Ha wa H' w' [.row 68 2 v0 n0 c0]∧Els H' eSequent 2 c0 r
set_option maxHeartbeats 4000000 in
theorem w_impl_premisesOf {Ha:GH} {wa:World} (hs:Sl Ha wa) (a0:zad) (v0_0:Value) (p0_0:RSl Ha eS 1 v0_0 a0.left) (v0_1:Value) (p0_1:RSl Ha eS 1 v0_1 a0.right) (a1:Int) (v2:Value) (a2:Fo) (p2:FAt Ha v2 a2) {r:(List zad)} (hp:(PF.zc4 a0 a1 a2)=some r) :
  Calls Tryz.prog 156 #[Value.agg #[v0_0,v0_1],Value.int .i64 a1,v2] wa (p_impl_premisesOf Ha wa r):=by
 unfold PF.zc4 at hp
 have S0:=St.init hs
 refine zaj (N:=180) (args:=[Value.agg #[v0_0,v0_1],Value.int .i64 a1,v2]) Tryz.func156 rfl rfl rfl ?_
 refine FW.seq (FW.region ?_)
 obtain ⟨b21,w22,run23,S24⟩:=S0.box (P:=Tryz.prog) 68 [v0_0,v0_1] (v:=Value.agg #[v0_0,v0_1]) rfl (zaa p0_0.one (zaa p0_1.one zag))
 refine FL.v (E.box rfl run23) ?_
 obtain ⟨H25,S26,i27,at28⟩:=S24.sealBox (i:=0) (l':=[]) rfl rfl
 refine FL.v (E.assign (v:=Value.slice none 0 0) rfl) ?_
 refine FL.nil (FW.seq ?_)
 obtain ⟨y32,hy33,hp⟩:=bnd hp
 obtain ⟨r40,hr41,hp⟩:=bnd hp
 obtain ⟨r50,hr51,hp⟩:=bnd hp
 refine FW.drawB (Sl H25) (fun f w=>∃ H:GH,∃ v60:Value,∃ v62:Value,∃ n63:Nat,∃ cs64:List Value,∃ v66:Value,∃ n67:Nat,∃ cs69:List Value,St Ha wa H w [.row 9 1 v62 n63 cs64,.row 9 1 v66 n67 cs69]∧Inc H25 H∧FAt H v60 a2∧Els (up wa.heap.size H) eS 1 cs64 r40∧Els (up wa.heap.size H) eS 1 cs69 r50∧f 1=Value.int .i64 a1∧f 2=v60∧f 3=Value.pointer (some ⟨b21,0,none⟩)∧f 7=v62∧f 8=v66) (by kernel_rfl) S26.sl ?_ ?_
 ·
  intro w29 r30
  have S31:=S26.call r30
  refine FB.t (i:=0) (bs 16 1) rfl (SP.nil S31.sl) rfl (fun w' hw'=>(E.fieldAddr zau rfl)) ?_
  refine FB.t (i:=1) (bs 16 3) rfl (SP.nil S31.sl) rfl (fun w' hw'=>(E.load rfl (zaf Tryz.isAgg22 (at28.now hw') rfl))) ?_
  refine FB.t (i:=2) (bs 16 7) rfl (SP.nil S31.sl) rfl (fun w' hw'=>(E.move (v:=v2) rfl)) ?_
  obtain ⟨q34,v36,v37,rfl,at35,h38,h39⟩:=FAt.open p2 hy33
  refine FB.t (i:=3) (bs 16 15) rfl (SP.nil S31.sl) rfl (fun w' hw'=>(E.nilCheck rfl)) ?_
  refine FB.t (i:=4) (bs 16 31) rfl (SP.nil S31.sl) rfl (fun w' hw'=>(E.fieldAddr zaM rfl)) ?_
  refine FB.t (i:=5) (bs 16 63) rfl (SP.nil S31.sl) rfl (fun w' hw'=>(E.load rfl (zaf Tryz.isAgg9 ((at35.mono i27).now hw') rfl))) ?_
  refine FB.t (i:=7) (bs 16 191) rfl (SP.nil S31.sl) rfl (fun w' hw'=>(E.fieldAddr zas rfl)) ?_
  refine FB.t (i:=8) (bs 16 447) rfl (SP.nil S31.sl) rfl (fun w' hw'=>(E.load rfl (zaf Tryz.isAgg22 (at28.now hw') rfl))) ?_
  refine FB.t (i:=9) (bs 16 959) rfl (SP.nil S31.sl) rfl (fun w' hw'=>(E.move (v:=Value.pointer (some q34)) rfl)) ?_
  refine FB.t (i:=10) (bs 16 1983) rfl (SP.nil S31.sl) rfl (fun w' hw'=>(E.nilCheck rfl)) ?_
  refine FB.t (i:=11) (bs 16 4031) rfl (SP.nil S31.sl) rfl (fun w' hw'=>(E.fieldAddr zaM rfl)) ?_
  refine FB.t (i:=12) (bs 16 8127) rfl (SP.nil S31.sl) rfl (fun w' hw'=>(E.load rfl (zaf Tryz.isAgg9 ((at35.mono i27).now hw') rfl))) ?_
  refine FB.all1 (i:=6) (by kernel_rfl) ?_
  ·
   refine FC.call (l':=(bs 16 8191)) rfl (by kernel_rfl) rfl rfl rfl (E.call Tryz.call125 (A2 rfl rfl)) (zdL S31.sl v0_0 a0.left (p0_0.mono i27) y32.text hr41) ?_
   rintro e w43 ⟨H42,v46,n47,cs48,rfl,r45,els49⟩
   refine ⟨_,rfl,?_⟩
   have els49:=els49.mono (up_le S31.size)
   have S44:=S31.join (l':=[.row 9 1 v46 n47 cs48]) r45 rfl
   refine ⟨(SP.nil (Sl.of_inc r45.run.inc S44.sl)),?_⟩
   refine FB.all1 (i:=13) (by kernel_rfl) ?_
   ·
    refine FC.call (l':=(bs 16 16383)) rfl (by kernel_rfl) rfl rfl rfl (E.call Tryz.call125 (A2 rfl rfl)) (zdL S44.sl v0_1 a0.right (p0_1.mono (i27.tr r45.run.inc)) y32.text hr51) ?_
    rintro e w53 ⟨H52,v56,n57,cs58,rfl,r55,els59⟩
    refine ⟨_,rfl,?_⟩
    have els59:=els59.mono (up_le S44.size)
    have S54:=S44.join (l':=[.row 9 1 v56 n57 cs58,.row 9 1 v46 n47 cs48]) r55 rfl
    refine ⟨(SP.nil (Sl.of_inc (r45.run.inc.tr r55.run.inc) S54.sl)),?_⟩
    refine FB.t (i:=14) (bs 16 32767) rfl (SP.nil (Sl.of_inc (r45.run.inc.tr r55.run.inc) S54.sl)) rfl (fun w' hw'=>(E.assign (v:=v46) rfl)) ?_
    refine FB.t (i:=15) (bs 16 65535) rfl (SP.nil (Sl.of_inc (r45.run.inc.tr r55.run.inc) S54.sl)) rfl (fun w' hw'=>(E.assign (v:=v56) rfl)) ?_
    exact FB.done (by kernel_rfl) ⟨_,_,_,_,_,_,_,_,(S54.sel [1,0] (by decide) rfl),(r45.run.inc.tr r55.run.inc),(p2.mono ((i27.tr r45.run.inc).tr r55.run.inc)),(els49.mono (zai r55.run.inc)),els59,rfl,rfl,rfl,rfl,rfl⟩
 ·
  rintro f75 w74 ⟨H71,v60,v62,n63,cs64,v66,n67,cs69,S72,i73,h61,els65,els70,k76,k77,k78,k79,k80⟩
  refine FW.seq ?_
  refine FW.draw (fun w'=>Run w74.heap.size H71 w74 H71 w') (by kernel_rfl) (by kernel_rfl) (zaN S72.sl) ?_
  refine FD.val rfl rfl rfl (fun w' hw'=>(E.move k77)) ?_
  obtain ⟨y81,hy82,hp⟩:=bnd hp
  obtain ⟨q83,v85,v86,rfl,at84,h87,h88⟩:=FAt.open h61 hy82
  refine FD.val rfl rfl rfl (fun w' hw'=>(E.nilCheck rfl)) ?_
  refine FD.val rfl rfl rfl (fun w' hw'=>(E.fieldAddr tf109_1 rfl)) ?_
  refine FD.val rfl rfl rfl (fun w' hw'=>(E.load rfl (zaf Tryz.isAgg101 (at84.now (S72.call hw').sl) rfl))) ?_
  refine FD.val rfl rfl rfl (fun w' hw'=>(E.move k77)) ?_
  refine FD.val rfl rfl rfl (fun w' hw'=>(E.nilCheck rfl)) ?_
  refine FD.val rfl rfl rfl (fun w' hw'=>(E.fieldAddr tf109_2 rfl)) ?_
  refine FD.val rfl rfl rfl (fun w' hw'=>(E.load rfl (zaf Tryz.isAgg101 (at84.now (S72.call hw').sl) rfl))) ?_
  refine FD.val rfl rfl rfl (fun w' hw'=>(E.assign (v:=v85) rfl)) ?_
  refine FD.val rfl rfl rfl (fun w' hw'=>(E.assign (v:=v86) rfl)) ?_
  refine FD.nil ?_
  intro w89 r91
  have S90:=S72.call r91
  refine FW.seq (FW.seq (FW.region ?_))
  refine FL.v (E.move k76) ?_
  refine FL.nil (FW.block (FW.seq (FW.region ?_)))
  refine FL.v (E.eql rfl rfl) ?_
  refine FL.v (E.assign (v:=Value.bool (a1 == 2)) rfl) ?_
  refine FL.nil ?_
  rcases ifB hp with ⟨c92,hp⟩|⟨c92,hp⟩
  ·
   refine FW.condT rfl c92 ?_
   refine FW.seq ?_
   obtain ⟨y96,hy97,hp⟩:=bnd hp
   obtain ⟨rAf,hrAg,hp⟩:=bnd hp
   refine FW.drawB (Sl H71) (fun f w=>∃ H:GH,∃ vAI:Value,∃ nAJ:Nat,∃ csAK:List Value,St Ha wa H w [.row 68 2 vAI nAJ csAK]∧Inc H71 H∧Els (up wa.heap.size H) eSequent 2 csAK [(zad.mk r40 rAf)]∧(bl csAK).Nodup∧f 6=vAI) (by kernel_rfl) S90.sl ?_ ?_
   ·
    intro w93 r94
    have S95:=S90.call r94
    refine FB.t (i:=0) (bs 12 1) rfl (SP.nil S95.sl) rfl (fun w' hw'=>(E.move k79)) ?_
    refine FB.t (i:=1) (bs 12 3) rfl (SP.nil S95.sl) rfl (fun w' hw'=>(E.fieldAddr zas k78)) ?_
    refine FB.t (i:=2) (bs 12 7) rfl (SP.nil S95.sl) rfl (fun w' hw'=>(E.load rfl (zaf Tryz.isAgg22 ((at28.mono i73).now hw') rfl))) ?_
    refine FB.t (i:=3) (bs 12 15) rfl (SP.nil S95.sl) rfl (fun w' hw'=>(E.move (v:=v85) rfl)) ?_
    obtain ⟨q98,vA0,vA1,rfl,at99,hA2,hA3⟩:=FAt.open h87 hy97
    refine FB.t (i:=4) (bs 12 31) rfl (SP.nil S95.sl) rfl (fun w' hw'=>(E.nilCheck rfl)) ?_
    refine FB.t (i:=5) (bs 12 63) rfl (SP.nil S95.sl) rfl (fun w' hw'=>(E.fieldAddr zaM rfl)) ?_
    refine FB.t (i:=6) (bs 12 127) rfl (SP.nil S95.sl) rfl (fun w' hw'=>(E.load rfl (zaf Tryz.isAgg9 (at99.now hw') rfl))) ?_
    refine FB.all1 (i:=7) (by kernel_rfl) ?_
    ·
     obtain ⟨vA4,wA5,runA6,SA7⟩:=S95.buildSlice (P:=Tryz.prog) te22 [Value.string y96.text] (parts:=#[(0,Value.string y96.text)]) (cells:=[Value.string y96.text]) rfl (zan rfl zal) (zam rfl zak) (zaa rfl zag) (Nat.le_of_ble_eq_true rfl)
     have elsA8:Els (up wa.heap.size H71) eS 1 [Value.string y96.text] [y96.text]:=(Els.snoc (H:=(up wa.heap.size H71)) (E:=eS) (k:=1) (c:=[Value.string y96.text]) (x:=y96.text) Els.nil rfl rfl)
     refine FC.val (l':=(bs 12 255)) rfl (by kernel_rfl) rfl rfl rfl (E.buildSlice (B1 rfl) runA6) ?_
     refine ⟨(SP.nil SA7.sl),?_⟩
     refine FB.all1 (i:=8) (by kernel_rfl) ?_
     ·
      obtain ⟨HAa,SAb,iAc,hAd,nvAe⟩:=SA7.sealRowU (i:=0) (l':=[.row 9 1 v62 n63 cs64,.row 9 1 v66 n67 cs69]) rfl elsA8 (by decide) rfl
      refine FC.call (l':=(bs 12 511)) rfl (by kernel_rfl) rfl rfl rfl (E.call Tryz.call68 (A2 rfl rfl)) (zaw SAb.sl v0_1 a0.right (p0_1.mono ((i27.tr i73).tr iAc)) vA4 [y96.text] (hAd.mono upI) hrAg) ?_
      rintro e wAi ⟨HAh,vAn,nAo,csAp,rfl,rAk,elsAq⟩
      refine ⟨_,rfl,?_⟩
      obtain ⟨HAl,rAk,hU122⟩:=St.lendX iAc SA7.sl rAk
      have elsAq:=elsAq.mono (hU122.tr (up_le SA7.size))
      have SAj:=SA7.join (l':=[.row 9 1 vAn nAo csAp,.row 9 1 vA4 1 [Value.string y96.text],.row 9 1 v62 n63 cs64,.row 9 1 v66 n67 cs69]) rAk rfl
      refine ⟨(SP.nil (Sl.of_inc rAk.run.inc SAj.sl)),?_⟩
      obtain ⟨HAr,SAs,iAt,hAu,nvAv⟩:=SAj.sealRowU (i:=2) (l':=[.row 9 1 vAn nAo csAp,.row 9 1 vA4 1 [Value.string y96.text],.row 9 1 v66 n67 cs69]) rfl (els65.mono (zai rAk.run.inc)) (by decide) rfl
      obtain ⟨HAw,SAx,iAy,hAz,nvAA⟩:=SAs.sealRowU (i:=0) (l':=[.row 9 1 vA4 1 [Value.string y96.text],.row 9 1 v66 n67 cs69]) rfl (elsAq.mono (zai iAt)) (by decide) rfl
      refine FB.t (i:=9) (bs 12 1023) rfl (SP.nil (Sl.of_inc rAk.run.inc SAj.sl)) rfl (fun w' hw'=>(E.build (B2 rfl rfl) (run_build _ 68 #[(0,v62),(1,vAn)] #[v62,vAn] (by obtain ⟨_,_,rfl⟩:=RSl.ln (hAu.mono (upI.tr iAy));obtain ⟨_,_,rfl⟩:=RSl.ln (hAz.mono upI);rfl)))) ?_
      refine FB.all1 (i:=10) (by kernel_rfl) ?_
      ·
       obtain ⟨vAB,wAC,runAD,SAE⟩:=SAx.buildSlice (P:=Tryz.prog) te172 [Value.agg #[v62,vAn]] (parts:=#[(0,Value.agg #[v62,vAn])]) (cells:=[v62,vAn]) rfl (zan rfl zal) (zam rfl zak) (zaa hAu.one (zaa hAz.one zag)) (Nat.le_of_ble_eq_true rfl)
       have elsAF:Els (up wa.heap.size HAw) eSequent 2 [v62,vAn] [(zad.mk r40 rAf)]:=(Els.snoc (H:=(up wa.heap.size HAw)) (E:=eSequent) (k:=2) (c:=[v62,vAn]) (x:=(zad.mk r40 rAf)) Els.nil rfl ⟨_,_,rfl,(hAu.mono (zai iAy)),hAz⟩)
       have ndAG:(bl [v62,vAn]).Nodup:=by exact zaR (New.apart (hAu.mono (zai (Inc.rfl _))) nvAA)
       have nvAH:New HAl [v62,vAn]:=by exact (New.two nvAv (nvAA.anti iAt))
       refine FC.val (l':=(bs 12 2047)) rfl (by kernel_rfl) rfl rfl rfl (E.buildSlice (B1 rfl) runAD) ?_
       refine ⟨(SP.nil (Sl.of_inc ((rAk.run.inc.tr iAt).tr iAy) SAE.sl)),?_⟩
       refine FB.t (i:=11) (bs 12 4095) rfl (SP.nil (Sl.of_inc ((rAk.run.inc.tr iAt).tr iAy) SAE.sl)) rfl (fun w' hw'=>(E.assign (v:=vAB) rfl)) ?_
       exact FB.done (by kernel_rfl) ⟨_,_,_,_,(SAE.sel [0] (by decide) rfl),((rAk.run.inc.tr iAt).tr iAy),elsAF,ndAG,rfl⟩
   ·
    rintro fAR wAQ ⟨HAN,vAI,nAJ,csAK,SAO,iAP,elsAL,ndAM,kAS⟩
    refine FW.ret ?_
    obtain rfl:=Option.some.inj hp
    exact ⟨.inr rfl,res1 rfl kAS ⟨_,_,_,_,rfl,SAO,(elsAL.mono upI)⟩⟩
  ·
   refine FW.condF rfl c92 ?_
   refine FW.seq (FW.region ?_)
   refine FL.v (E.eql rfl rfl) ?_
   refine FL.v (E.assign (v:=Value.bool (a1 == 3)) rfl) ?_
   refine FL.nil ?_
   rcases ifB hp with ⟨cAT,hp⟩|⟨cAT,hp⟩
   ·
    refine FW.condT rfl cAT ?_
    refine FW.seq ?_
    obtain ⟨yAX,hy160,hp⟩:=bnd hp
    obtain ⟨rBg,hrBh,hp⟩:=bnd hp
    refine FW.drawB (Sl H71) (fun f w=>∃ H:GH,∃ vBJ:Value,∃ nBK:Nat,∃ csBL:List Value,St Ha wa H w [.row 68 2 vBJ nBK csBL]∧Inc H71 H∧Els (up wa.heap.size H) eSequent 2 csBL [(zad.mk rBg r50)]∧(bl csBL).Nodup∧f 6=vBJ) (by kernel_rfl) S90.sl ?_ ?_
    ·
     intro wAU rAV
     have SAW:=S90.call rAV
     refine FB.t (i:=0) (bs 12 1) rfl (SP.nil SAW.sl) rfl (fun w' hw'=>(E.fieldAddr zau k78)) ?_
     refine FB.t (i:=1) (bs 12 3) rfl (SP.nil SAW.sl) rfl (fun w' hw'=>(E.load rfl (zaf Tryz.isAgg22 ((at28.mono i73).now hw') rfl))) ?_
     refine FB.t (i:=2) (bs 12 7) rfl (SP.nil SAW.sl) rfl (fun w' hw'=>(E.move (v:=v85) rfl)) ?_
     obtain ⟨qAZ,vB1,vB2,rfl,atB0,hB3,hB4⟩:=FAt.open h87 hy160
     refine FB.t (i:=3) (bs 12 15) rfl (SP.nil SAW.sl) rfl (fun w' hw'=>(E.nilCheck rfl)) ?_
     refine FB.t (i:=4) (bs 12 31) rfl (SP.nil SAW.sl) rfl (fun w' hw'=>(E.fieldAddr zaM rfl)) ?_
     refine FB.t (i:=5) (bs 12 63) rfl (SP.nil SAW.sl) rfl (fun w' hw'=>(E.load rfl (zaf Tryz.isAgg9 (atB0.now hw') rfl))) ?_
     refine FB.t (i:=8) (bs 12 319) rfl (SP.nil SAW.sl) rfl (fun w' hw'=>(E.move k80)) ?_
     refine FB.all1 (i:=6) (by kernel_rfl) ?_
     ·
      obtain ⟨vB5,wB6,runB7,SB8⟩:=SAW.buildSlice (P:=Tryz.prog) te22 [Value.string yAX.text] (parts:=#[(0,Value.string yAX.text)]) (cells:=[Value.string yAX.text]) rfl (zan rfl zal) (zam rfl zak) (zaa rfl zag) (Nat.le_of_ble_eq_true rfl)
      have elsB9:Els (up wa.heap.size H71) eS 1 [Value.string yAX.text] [yAX.text]:=(Els.snoc (H:=(up wa.heap.size H71)) (E:=eS) (k:=1) (c:=[Value.string yAX.text]) (x:=yAX.text) Els.nil rfl rfl)
      refine FC.val (l':=(bs 12 383)) rfl (by kernel_rfl) rfl rfl rfl (E.buildSlice (B1 rfl) runB7) ?_
      refine ⟨(SP.nil SB8.sl),?_⟩
      refine FB.all1 (i:=7) (by kernel_rfl) ?_
      ·
       obtain ⟨HBb,SBc,iBd,hBe,nvBf⟩:=SB8.sealRowU (i:=0) (l':=[.row 9 1 v62 n63 cs64,.row 9 1 v66 n67 cs69]) rfl elsB9 (by decide) rfl
       refine FC.call (l':=(bs 12 511)) rfl (by kernel_rfl) rfl rfl rfl (E.call Tryz.call68 (A2 rfl rfl)) (zaw SBc.sl v0_0 a0.left (p0_0.mono ((i27.tr i73).tr iBd)) vB5 [yAX.text] (hBe.mono upI) hrBh) ?_
       rintro e wBj ⟨HBi,vBo,nBp,csBq,rfl,rBl,elsBr⟩
       refine ⟨_,rfl,?_⟩
       obtain ⟨HBm,rBl,hU185⟩:=St.lendX iBd SB8.sl rBl
       have elsBr:=elsBr.mono (hU185.tr (up_le SB8.size))
       have SBk:=SB8.join (l':=[.row 9 1 vBo nBp csBq,.row 9 1 vB5 1 [Value.string yAX.text],.row 9 1 v62 n63 cs64,.row 9 1 v66 n67 cs69]) rBl rfl
       refine ⟨(SP.nil (Sl.of_inc rBl.run.inc SBk.sl)),?_⟩
       obtain ⟨HBs,SBt,iBu,hBv,nvBw⟩:=SBk.sealRowU (i:=0) (l':=[.row 9 1 vB5 1 [Value.string yAX.text],.row 9 1 v62 n63 cs64,.row 9 1 v66 n67 cs69]) rfl elsBr (by decide) rfl
       obtain ⟨HBx,SBy,iBz,hBA,nvBB⟩:=SBt.sealRowU (i:=2) (l':=[.row 9 1 vB5 1 [Value.string yAX.text],.row 9 1 v62 n63 cs64]) rfl (els70.mono (zai (rBl.run.inc.tr iBu))) (by decide) rfl
       refine FB.t (i:=9) (bs 12 1023) rfl (SP.nil (Sl.of_inc rBl.run.inc SBk.sl)) rfl (fun w' hw'=>(E.build (B2 rfl rfl) (run_build _ 68 #[(0,vBo),(1,v66)] #[vBo,v66] (by obtain ⟨_,_,rfl⟩:=RSl.ln (hBv.mono (upI.tr iBz));obtain ⟨_,_,rfl⟩:=RSl.ln (hBA.mono upI);rfl)))) ?_
       refine FB.all1 (i:=10) (by kernel_rfl) ?_
       ·
        obtain ⟨vBC,wBD,runBE,SBF⟩:=SBy.buildSlice (P:=Tryz.prog) te172 [Value.agg #[vBo,v66]] (parts:=#[(0,Value.agg #[vBo,v66])]) (cells:=[vBo,v66]) rfl (zan rfl zal) (zam rfl zak) (zaa hBv.one (zaa hBA.one zag)) (Nat.le_of_ble_eq_true rfl)
        have elsBG:Els (up wa.heap.size HBx) eSequent 2 [vBo,v66] [(zad.mk rBg r50)]:=(Els.snoc (H:=(up wa.heap.size HBx)) (E:=eSequent) (k:=2) (c:=[vBo,v66]) (x:=(zad.mk rBg r50)) Els.nil rfl ⟨_,_,rfl,(hBv.mono (zai iBz)),hBA⟩)
        have ndBH:(bl [vBo,v66]).Nodup:=by exact zaR (New.apart (hBv.mono (zai (Inc.rfl _))) nvBB)
        have nvBI:New HBm [vBo,v66]:=by exact (New.two nvBw (nvBB.anti iBu))
        refine FC.val (l':=(bs 12 2047)) rfl (by kernel_rfl) rfl rfl rfl (E.buildSlice (B1 rfl) runBE) ?_
        refine ⟨(SP.nil (Sl.of_inc ((rBl.run.inc.tr iBu).tr iBz) SBF.sl)),?_⟩
        refine FB.t (i:=11) (bs 12 4095) rfl (SP.nil (Sl.of_inc ((rBl.run.inc.tr iBu).tr iBz) SBF.sl)) rfl (fun w' hw'=>(E.assign (v:=vBC) rfl)) ?_
        exact FB.done (by kernel_rfl) ⟨_,_,_,_,(SBF.sel [0] (by decide) rfl),((rBl.run.inc.tr iBu).tr iBz),elsBG,ndBH,rfl⟩
    ·
     rintro fBS wBR ⟨HBO,vBJ,nBK,csBL,SBP,iBQ,elsBM,ndBN,kBT⟩
     refine FW.ret ?_
     obtain rfl:=Option.some.inj hp
     exact ⟨.inr rfl,res1 rfl kBT ⟨_,_,_,_,rfl,SBP,(elsBM.mono upI)⟩⟩
   ·
    refine FW.condF rfl cAT ?_
    refine FW.seq (FW.region ?_)
    refine FL.v (E.eql rfl rfl) ?_
    refine FL.v (E.assign (v:=Value.bool (a1 == 4)) rfl) ?_
    refine FL.nil ?_
    rcases ifB hp with ⟨cBU,hp⟩|⟨cBU,hp⟩
    ·
     refine FW.condT rfl cBU ?_
     refine FW.seq ?_
     obtain ⟨yBY,hy223,hp⟩:=bnd hp
     obtain ⟨yC6,hy231,hp⟩:=bnd hp
     obtain ⟨rCt,hrCu,hp⟩:=bnd hp
     refine FW.drawB (Sl H71) (fun f w=>∃ H:GH,∃ vCP:Value,∃ nCQ:Nat,∃ csCR:List Value,St Ha wa H w [.row 68 2 vCP nCQ csCR]∧Inc H71 H∧Els H eSequent 2 csCR [(zad.mk rCt a0.right)]∧f 6=vCP) (by kernel_rfl) S90.sl ?_ ?_
     ·
      intro wBV rBW
      have SBX:=S90.call rBW
      refine FB.t (i:=0) (bs 16 1) rfl (SP.nil SBX.sl) rfl (fun w' hw'=>(E.move k79)) ?_
      refine FB.t (i:=1) (bs 16 3) rfl (SP.nil SBX.sl) rfl (fun w' hw'=>(E.move (v:=v85) rfl)) ?_
      obtain ⟨qC0,vC2,vC3,rfl,atC1,hC4,hC5⟩:=FAt.open h87 hy223
      refine FB.t (i:=2) (bs 16 7) rfl (SP.nil SBX.sl) rfl (fun w' hw'=>(E.nilCheck rfl)) ?_
      refine FB.t (i:=3) (bs 16 15) rfl (SP.nil SBX.sl) rfl (fun w' hw'=>(E.fieldAddr zaM rfl)) ?_
      refine FB.t (i:=4) (bs 16 31) rfl (SP.nil SBX.sl) rfl (fun w' hw'=>(E.load rfl (zaf Tryz.isAgg9 (atC1.now hw') rfl))) ?_
      refine FB.t (i:=5) (bs 16 63) rfl (SP.nil SBX.sl) rfl (fun w' hw'=>(E.move (v:=v86) rfl)) ?_
      obtain ⟨qC8,vCa,vCb,rfl,atC9,hCc,hCd⟩:=FAt.open h88 hy231
      refine FB.t (i:=6) (bs 16 127) rfl (SP.nil SBX.sl) rfl (fun w' hw'=>(E.nilCheck rfl)) ?_
      refine FB.t (i:=7) (bs 16 255) rfl (SP.nil SBX.sl) rfl (fun w' hw'=>(E.fieldAddr zaM rfl)) ?_
      refine FB.t (i:=8) (bs 16 511) rfl (SP.nil SBX.sl) rfl (fun w' hw'=>(E.load rfl (zaf Tryz.isAgg9 (atC9.now hw') rfl))) ?_
      refine FB.t (i:=11) (bs 16 2559) rfl (SP.nil SBX.sl) rfl (fun w' hw'=>(E.fieldAddr zas k78)) ?_
      refine FB.t (i:=12) (bs 16 6655) rfl (SP.nil SBX.sl) rfl (fun w' hw'=>(E.load rfl (zaf Tryz.isAgg22 ((at28.mono i73).now hw') rfl))) ?_
      refine FB.all1 (i:=9) (by kernel_rfl) ?_
      ·
       obtain ⟨vCe,wCf,runCg,SCh⟩:=SBX.buildSlice (P:=Tryz.prog) te22 [Value.string yBY.text,Value.string yC6.text] (parts:=#[(0,Value.string yBY.text),(1,Value.string yC6.text)]) (cells:=[Value.string yBY.text,Value.string yC6.text]) rfl (zan rfl (zan rfl zal)) (zam rfl (zam rfl zak)) (zaa rfl (zaa rfl zag)) (Nat.le_of_ble_eq_true rfl)
       have elsCi:Els (up wa.heap.size H71) eS 1 [Value.string yBY.text,Value.string yC6.text] [yBY.text,yC6.text]:=(Els.snoc (H:=(up wa.heap.size H71)) (E:=eS) (k:=1) (c:=[Value.string yC6.text]) (x:=yC6.text) (Els.snoc (H:=(up wa.heap.size H71)) (E:=eS) (k:=1) (c:=[Value.string yBY.text]) (x:=yBY.text) Els.nil rfl rfl) rfl rfl)
       refine FC.val (l':=(bs 16 7167)) rfl (by kernel_rfl) rfl rfl rfl (E.buildSlice (B2 rfl rfl) runCg) ?_
       refine ⟨(SP.nil SCh.sl),?_⟩
       refine FB.all1 (i:=10) (by kernel_rfl) ?_
       ·
        obtain ⟨HCj,SCk,iCl,hCm,nvCn⟩:=SCh.sealRowU (i:=1) (l':=[.row 9 1 vCe 2 [Value.string yBY.text,Value.string yC6.text],.row 9 1 v66 n67 cs69]) rfl els65 (by decide) rfl
        obtain ⟨HCo,SCp,iCq,hCr,nvCs⟩:=SCk.sealRowU (i:=0) (l':=[.row 9 1 v66 n67 cs69]) rfl (elsCi.mono (zai iCl)) (by decide) rfl
        refine FC.call (l':=(bs 16 8191)) rfl (by kernel_rfl) rfl rfl rfl (E.call Tryz.call68 (A2 rfl rfl)) (zaw SCp.sl v62 r40 (hCm.mono (upI.tr iCq)) vCe [yBY.text,yC6.text] (hCr.mono upI) hrCu) ?_
        rintro e wCw ⟨HCv,vCB,nCC,csCD,rfl,rCy,elsCE⟩
        refine ⟨_,rfl,?_⟩
        obtain ⟨HCz,rCy,hU260⟩:=St.lendX (iCl.tr iCq) SCh.sl rCy
        have elsCE:=elsCE.mono (hU260.tr (up_le SCh.size))
        have SCx:=SCh.join (l':=[.row 9 1 vCB nCC csCD,.row 9 1 vCe 2 [Value.string yBY.text,Value.string yC6.text],.row 9 1 v62 n63 cs64,.row 9 1 v66 n67 cs69]) rCy rfl
        refine ⟨(SP.nil (Sl.of_inc rCy.run.inc SCx.sl)),?_⟩
        obtain ⟨HCF,SCG,iCH,hCI,nvCJ⟩:=SCx.sealRowU (i:=0) (l':=[.row 9 1 vCe 2 [Value.string yBY.text,Value.string yC6.text],.row 9 1 v62 n63 cs64,.row 9 1 v66 n67 cs69]) rfl elsCE (by decide) rfl
        refine FB.t (i:=13) (bs 16 16383) rfl (SP.nil (Sl.of_inc rCy.run.inc SCx.sl)) rfl (fun w' hw'=>(E.build (B2 rfl rfl) (run_build _ 68 #[(0,vCB),(1,v0_1)] #[vCB,v0_1] (by obtain ⟨_,_,rfl⟩:=RSl.ln (hCI.mono upI);obtain ⟨_,_,rfl⟩:=RSl.ln (p0_1.mono (((i27.tr i73).tr rCy.run.inc).tr iCH));rfl)))) ?_
        refine FB.all1 (i:=14) (by kernel_rfl) ?_
        ·
         obtain ⟨vCK,wCL,runCM,SCN⟩:=SCG.buildSlice (P:=Tryz.prog) te172 [Value.agg #[vCB,v0_1]] (parts:=#[(0,Value.agg #[vCB,v0_1])]) (cells:=[vCB,v0_1]) rfl (zan rfl zal) (zam rfl zak) (zaa hCI.one (zaa p0_1.one zag)) (Nat.le_of_ble_eq_true rfl)
         have elsCO:Els HCF eSequent 2 [vCB,v0_1] [(zad.mk rCt a0.right)]:=(Els.snoc (H:=HCF) (E:=eSequent) (k:=2) (c:=[vCB,v0_1]) (x:=(zad.mk rCt a0.right)) Els.nil rfl ⟨_,_,rfl,(hCI.mono upI),(p0_1.mono (((i27.tr i73).tr rCy.run.inc).tr iCH))⟩)
         refine FC.val (l':=(bs 16 32767)) rfl (by kernel_rfl) rfl rfl rfl (E.buildSlice (B1 rfl) runCM) ?_
         refine ⟨(SP.nil (Sl.of_inc (rCy.run.inc.tr iCH) SCN.sl)),?_⟩
         refine FB.t (i:=15) (bs 16 65535) rfl (SP.nil (Sl.of_inc (rCy.run.inc.tr iCH) SCN.sl)) rfl (fun w' hw'=>(E.assign (v:=vCK) rfl)) ?_
         exact FB.done (by kernel_rfl) ⟨_,_,_,_,(SCN.sel [0] (by decide) rfl),(rCy.run.inc.tr iCH),elsCO,rfl⟩
     ·
      rintro fCX wCW ⟨HCT,vCP,nCQ,csCR,SCU,iCV,elsCS,kCY⟩
      refine FW.ret ?_
      obtain rfl:=Option.some.inj hp
      exact ⟨.inr rfl,res1 rfl kCY ⟨_,_,_,_,rfl,SCU,elsCS⟩⟩
    ·
     refine FW.condF rfl cBU ?_
     refine FW.seq (FW.region ?_)
     refine FL.v (E.eql rfl rfl) ?_
     refine FL.v (E.assign (v:=Value.bool (a1 == 5)) rfl) ?_
     refine FL.nil ?_
     rcases ifB hp with ⟨cCZ,hp⟩|⟨cCZ,hp⟩
     ·
      refine FW.condT rfl cCZ ?_
      refine FW.seq ?_
      obtain ⟨yD3,hy290,hp⟩:=bnd hp
      obtain ⟨rDq,hrDr,hp⟩:=bnd hp
      obtain ⟨yDH,hy330,hp⟩:=bnd hp
      obtain ⟨rE4,hrE5,hp⟩:=bnd hp
      refine FW.drawB (Sl H71) (fun f w=>∃ H:GH,∃ vEq:Value,∃ nEr:Nat,∃ csEs:List Value,St Ha wa H w [.row 68 2 vEq nEr csEs]∧Inc H71 H∧Els H eSequent 2 csEs [(zad.mk a0.left rDq),(zad.mk a0.left rE4)]∧f 6=vEq) (by kernel_rfl) S90.sl ?_ ?_
      ·
       intro wD0 rD1
       have SD2:=S90.call rD1
       refine FB.t (i:=0) (bs 22 1) rfl (SP.nil SD2.sl) rfl (fun w' hw'=>(E.fieldAddr zau k78)) ?_
       refine FB.t (i:=1) (bs 22 3) rfl (SP.nil SD2.sl) rfl (fun w' hw'=>(E.load rfl (zaf Tryz.isAgg22 ((at28.mono i73).now hw') rfl))) ?_
       refine FB.t (i:=2) (bs 22 7) rfl (SP.nil SD2.sl) rfl (fun w' hw'=>(E.move k80)) ?_
       refine FB.t (i:=3) (bs 22 15) rfl (SP.nil SD2.sl) rfl (fun w' hw'=>(E.move (v:=v85) rfl)) ?_
       obtain ⟨qD5,vD7,vD8,rfl,atD6,hD9,hDa⟩:=FAt.open h87 hy290
       refine FB.t (i:=4) (bs 22 31) rfl (SP.nil SD2.sl) rfl (fun w' hw'=>(E.nilCheck rfl)) ?_
       refine FB.t (i:=5) (bs 22 63) rfl (SP.nil SD2.sl) rfl (fun w' hw'=>(E.fieldAddr zaM rfl)) ?_
       refine FB.t (i:=6) (bs 22 127) rfl (SP.nil SD2.sl) rfl (fun w' hw'=>(E.load rfl (zaf Tryz.isAgg9 (atD6.now hw') rfl))) ?_
       refine FB.t (i:=10) (bs 22 1151) rfl (SP.nil SD2.sl) rfl (fun w' hw'=>(E.fieldAddr zau k78)) ?_
       refine FB.t (i:=11) (bs 22 3199) rfl (SP.nil SD2.sl) rfl (fun w' hw'=>(E.load rfl (zaf Tryz.isAgg22 ((at28.mono i73).now hw') rfl))) ?_
       refine FB.t (i:=12) (bs 22 7295) rfl (SP.nil SD2.sl) rfl (fun w' hw'=>(E.move k80)) ?_
       refine FB.t (i:=13) (bs 22 15487) rfl (SP.nil SD2.sl) rfl (fun w' hw'=>(E.move (v:=v86) rfl)) ?_
       obtain ⟨qDJ,vDL,vDM,rfl,atDK,hDN,hDO⟩:=FAt.open h88 hy330
       refine FB.t (i:=14) (bs 22 31871) rfl (SP.nil SD2.sl) rfl (fun w' hw'=>(E.nilCheck rfl)) ?_
       refine FB.t (i:=15) (bs 22 64639) rfl (SP.nil SD2.sl) rfl (fun w' hw'=>(E.fieldAddr zaM rfl)) ?_
       refine FB.t (i:=16) (bs 22 130175) rfl (SP.nil SD2.sl) rfl (fun w' hw'=>(E.load rfl (zaf Tryz.isAgg9 (atDK.now hw') rfl))) ?_
       refine FB.all2 (i:=7) (j:=17) (by kernel_rfl) ?_ ?_
       ·
        obtain ⟨vDb,wDc,runDd,SDe⟩:=SD2.buildSlice (P:=Tryz.prog) te22 [Value.string yD3.text] (parts:=#[(0,Value.string yD3.text)]) (cells:=[Value.string yD3.text]) rfl (zan rfl zal) (zam rfl zak) (zaa rfl zag) (Nat.le_of_ble_eq_true rfl)
        have elsDf:Els (up wa.heap.size H71) eS 1 [Value.string yD3.text] [yD3.text]:=(Els.snoc (H:=(up wa.heap.size H71)) (E:=eS) (k:=1) (c:=[Value.string yD3.text]) (x:=yD3.text) Els.nil rfl rfl)
        refine FC.val (l':=(bs 22 130303)) rfl (by kernel_rfl) rfl rfl rfl (E.buildSlice (B1 rfl) runDd) ?_
        refine ⟨(SP.nil SDe.sl),?_⟩
        refine FB.all2 (i:=8) (j:=17) (by kernel_rfl) ?_ ?_
        ·
         obtain ⟨HDg,SDh,iDi,hDj,nvDk⟩:=SDe.sealRowU (i:=2) (l':=[.row 9 1 vDb 1 [Value.string yD3.text],.row 9 1 v62 n63 cs64]) rfl els70 (by decide) rfl
         obtain ⟨HDl,SDm,iDn,hDo,nvDp⟩:=SDh.sealRowU (i:=0) (l':=[.row 9 1 v62 n63 cs64]) rfl (elsDf.mono (zai iDi)) (by decide) rfl
         refine FC.call (l':=(bs 22 130559)) rfl (by kernel_rfl) rfl rfl rfl (E.call Tryz.call68 (A2 rfl rfl)) (zaw SDm.sl v66 r50 (hDj.mono (upI.tr iDn)) vDb [yD3.text] (hDo.mono upI) hrDr) ?_
         rintro e wDt ⟨HDs,vDy,nDz,csDA,rfl,rDv,elsDB⟩
         refine ⟨_,rfl,?_⟩
         obtain ⟨HDw,rDv,hU319⟩:=St.lendX (iDi.tr iDn) SDe.sl rDv
         have elsDB:=elsDB.mono (hU319.tr (up_le SDe.size))
         have SDu:=SDe.join (l':=[.row 9 1 vDy nDz csDA,.row 9 1 vDb 1 [Value.string yD3.text],.row 9 1 v62 n63 cs64,.row 9 1 v66 n67 cs69]) rDv rfl
         refine ⟨(SP.nil (Sl.of_inc rDv.run.inc SDu.sl)),?_⟩
         obtain ⟨HDC,SDD,iDE,hDF,nvDG⟩:=SDu.sealRowU (i:=0) (l':=[.row 9 1 vDb 1 [Value.string yD3.text],.row 9 1 v62 n63 cs64,.row 9 1 v66 n67 cs69]) rfl elsDB (by decide) rfl
         refine FB.t (i:=9) (bs 22 131071) rfl (SP.nil (Sl.of_inc rDv.run.inc SDu.sl)) rfl (fun w' hw'=>(E.build (B2 rfl rfl) (run_build _ 68 #[(0,v0_0),(1,vDy)] #[v0_0,vDy] (by obtain ⟨_,_,rfl⟩:=RSl.ln (p0_0.mono (((i27.tr i73).tr rDv.run.inc).tr iDE));obtain ⟨_,_,rfl⟩:=RSl.ln (hDF.mono upI);rfl)))) ?_
         refine FB.all1 (i:=17) (by kernel_rfl) ?_
         ·
          obtain ⟨vDP,wDQ,runDR,SDS⟩:=SDD.buildSlice (P:=Tryz.prog) te22 [Value.string yDH.text] (parts:=#[(0,Value.string yDH.text)]) (cells:=[Value.string yDH.text]) rfl (zan rfl zal) (zam rfl zak) (zaa rfl zag) (Nat.le_of_ble_eq_true rfl)
          have elsDT:Els (up wa.heap.size HDC) eS 1 [Value.string yDH.text] [yDH.text]:=(Els.snoc (H:=(up wa.heap.size HDC)) (E:=eS) (k:=1) (c:=[Value.string yDH.text]) (x:=yDH.text) Els.nil rfl rfl)
          refine FC.val (l':=(bs 22 262143)) rfl (by kernel_rfl) rfl rfl rfl (E.buildSlice (B1 rfl) runDR) ?_
          refine ⟨(SP.nil (Sl.of_inc (rDv.run.inc.tr iDE) SDS.sl)),?_⟩
          refine FB.all1 (i:=18) (by kernel_rfl) ?_
          ·
           obtain ⟨HDU,SDV,iDW,hDX,nvDY⟩:=SDS.sealRowU (i:=3) (l':=[.row 9 1 vDP 1 [Value.string yDH.text],.row 9 1 vDb 1 [Value.string yD3.text],.row 9 1 v62 n63 cs64]) rfl (els70.mono (zai (rDv.run.inc.tr iDE))) (by decide) rfl
           obtain ⟨HDZ,SE0,iE1,h350,nvE3⟩:=SDV.sealRowU (i:=0) (l':=[.row 9 1 vDb 1 [Value.string yD3.text],.row 9 1 v62 n63 cs64]) rfl (elsDT.mono (zai iDW)) (by decide) rfl
           refine FC.call (l':=(bs 22 524287)) rfl (by kernel_rfl) rfl rfl rfl (E.call Tryz.call68 (A2 rfl rfl)) (zaw SE0.sl v66 r50 (hDX.mono (upI.tr iE1)) vDP [yDH.text] (h350.mono upI) hrE5) ?_
           rintro e wE7 ⟨HE6,vEc,nEd,csEe,rfl,rE9,elsEf⟩
           refine ⟨_,rfl,?_⟩
           obtain ⟨HEa,rE9,hU359⟩:=St.lendX (iDW.tr iE1) SDS.sl rE9
           have elsEf:=elsEf.mono (hU359.tr (up_le SDS.size))
           have SE8:=SDS.join (l':=[.row 9 1 vEc nEd csEe,.row 9 1 vDP 1 [Value.string yDH.text],.row 9 1 vDb 1 [Value.string yD3.text],.row 9 1 v62 n63 cs64,.row 9 1 v66 n67 cs69]) rE9 rfl
           refine ⟨(SP.nil (Sl.of_inc ((rDv.run.inc.tr iDE).tr rE9.run.inc) SE8.sl)),?_⟩
           obtain ⟨HEg,SEh,iEi,hEj,nvEk⟩:=SE8.sealRowU (i:=0) (l':=[.row 9 1 vDP 1 [Value.string yDH.text],.row 9 1 vDb 1 [Value.string yD3.text],.row 9 1 v62 n63 cs64,.row 9 1 v66 n67 cs69]) rfl elsEf (by decide) rfl
           refine FB.t (i:=19) (bs 22 1048575) rfl (SP.nil (Sl.of_inc ((rDv.run.inc.tr iDE).tr rE9.run.inc) SE8.sl)) rfl (fun w' hw'=>(E.build (B2 rfl rfl) (run_build _ 68 #[(0,v0_0),(1,vEc)] #[v0_0,vEc] (by obtain ⟨_,_,rfl⟩:=RSl.ln (p0_0.mono (((((i27.tr i73).tr rDv.run.inc).tr iDE).tr rE9.run.inc).tr iEi));obtain ⟨_,_,rfl⟩:=RSl.ln (hEj.mono upI);rfl)))) ?_
           refine FB.all1 (i:=20) (by kernel_rfl) ?_
           ·
            obtain ⟨vEl,wEm,runEn,SEo⟩:=SEh.buildSlice (P:=Tryz.prog) te172 [Value.agg #[v0_0,vDy],Value.agg #[v0_0,vEc]] (parts:=#[(0,Value.agg #[v0_0,vDy]),(1,Value.agg #[v0_0,vEc])]) (cells:=[v0_0,vDy,v0_0,vEc]) rfl (zan rfl (zan rfl zal)) (zam rfl (zam rfl zak)) (zaa p0_0.one (zaa hDF.one (zaa p0_0.one (zaa hEj.one zag)))) (Nat.le_of_ble_eq_true rfl)
            have elsEp:Els HEg eSequent 2 [v0_0,vDy,v0_0,vEc] [(zad.mk a0.left rDq),(zad.mk a0.left rE4)]:=(Els.snoc (H:=HEg) (E:=eSequent) (k:=2) (c:=[v0_0,vEc]) (x:=(zad.mk a0.left rE4)) (Els.snoc (H:=HEg) (E:=eSequent) (k:=2) (c:=[v0_0,vDy]) (x:=(zad.mk a0.left rDq)) Els.nil rfl ⟨_,_,rfl,(p0_0.mono (((((i27.tr i73).tr rDv.run.inc).tr iDE).tr rE9.run.inc).tr iEi)),(hDF.mono (upI.tr (rE9.run.inc.tr iEi)))⟩) rfl ⟨_,_,rfl,(p0_0.mono (((((i27.tr i73).tr rDv.run.inc).tr iDE).tr rE9.run.inc).tr iEi)),(hEj.mono upI)⟩)
            refine FC.val (l':=(bs 22 2097151)) rfl (by kernel_rfl) rfl rfl rfl (E.buildSlice (B2 rfl rfl) runEn) ?_
            refine ⟨(SP.nil (Sl.of_inc (((rDv.run.inc.tr iDE).tr rE9.run.inc).tr iEi) SEo.sl)),?_⟩
            refine FB.t (i:=21) (bs 22 4194303) rfl (SP.nil (Sl.of_inc (((rDv.run.inc.tr iDE).tr rE9.run.inc).tr iEi) SEo.sl)) rfl (fun w' hw'=>(E.assign (v:=vEl) rfl)) ?_
            exact FB.done (by kernel_rfl) ⟨_,_,_,_,(SEo.sel [0] (by decide) rfl),(((rDv.run.inc.tr iDE).tr rE9.run.inc).tr iEi),elsEp,rfl⟩
        ·
         obtain ⟨vDP,wDQ,runDR,SDS⟩:=SDe.buildSlice (P:=Tryz.prog) te22 [Value.string yDH.text] (parts:=#[(0,Value.string yDH.text)]) (cells:=[Value.string yDH.text]) rfl (zan rfl zal) (zam rfl zak) (zaa rfl zag) (Nat.le_of_ble_eq_true rfl)
         have elsDT:Els (up wa.heap.size H71) eS 1 [Value.string yDH.text] [yDH.text]:=(Els.snoc (H:=(up wa.heap.size H71)) (E:=eS) (k:=1) (c:=[Value.string yDH.text]) (x:=yDH.text) Els.nil rfl rfl)
         refine FC.val (l':=(bs 22 261375)) rfl (by kernel_rfl) rfl rfl rfl (E.buildSlice (B1 rfl) runDR) ?_
         refine ⟨(SP.nil SDS.sl),?_⟩
         refine FB.all1 (i:=8) (by kernel_rfl) ?_
         ·
          obtain ⟨HDg,SDh,iDi,hDj,nvDk⟩:=SDS.sealRowU (i:=3) (l':=[.row 9 1 vDP 1 [Value.string yDH.text],.row 9 1 vDb 1 [Value.string yD3.text],.row 9 1 v62 n63 cs64]) rfl els70 (by decide) rfl
          obtain ⟨HDl,SDm,iDn,hDo,nvDp⟩:=SDh.sealRowU (i:=1) (l':=[.row 9 1 vDP 1 [Value.string yDH.text],.row 9 1 v62 n63 cs64]) rfl (elsDf.mono (zai iDi)) (by decide) rfl
          refine FC.call (l':=(bs 22 261631)) rfl (by kernel_rfl) rfl rfl rfl (E.call Tryz.call68 (A2 rfl rfl)) (zaw SDm.sl v66 r50 (hDj.mono (upI.tr iDn)) vDb [yD3.text] (hDo.mono upI) hrDr) ?_
          rintro e wDt ⟨HDs,vDy,nDz,csDA,rfl,rDv,elsDB⟩
          refine ⟨_,rfl,?_⟩
          obtain ⟨HDw,rDv,hU319⟩:=St.lendX (iDi.tr iDn) SDS.sl rDv
          have elsDB:=elsDB.mono (hU319.tr (up_le SDS.size))
          have SDu:=SDS.join (l':=[.row 9 1 vDy nDz csDA,.row 9 1 vDP 1 [Value.string yDH.text],.row 9 1 vDb 1 [Value.string yD3.text],.row 9 1 v62 n63 cs64,.row 9 1 v66 n67 cs69]) rDv rfl
          refine ⟨(SP.nil (Sl.of_inc rDv.run.inc SDu.sl)),?_⟩
          obtain ⟨HDC,SDD,iDE,hDF,nvDG⟩:=SDu.sealRowU (i:=0) (l':=[.row 9 1 vDP 1 [Value.string yDH.text],.row 9 1 vDb 1 [Value.string yD3.text],.row 9 1 v62 n63 cs64,.row 9 1 v66 n67 cs69]) rfl elsDB (by decide) rfl
          refine FB.t (i:=9) (bs 22 262143) rfl (SP.nil (Sl.of_inc rDv.run.inc SDu.sl)) rfl (fun w' hw'=>(E.build (B2 rfl rfl) (run_build _ 68 #[(0,v0_0),(1,vDy)] #[v0_0,vDy] (by obtain ⟨_,_,rfl⟩:=RSl.ln (p0_0.mono (((i27.tr i73).tr rDv.run.inc).tr iDE));obtain ⟨_,_,rfl⟩:=RSl.ln (hDF.mono upI);rfl)))) ?_
          refine FB.all1 (i:=18) (by kernel_rfl) ?_
          ·
           obtain ⟨HDU,SDV,iDW,hDX,nvDY⟩:=SDD.sealRowU (i:=3) (l':=[.row 9 1 vDP 1 [Value.string yDH.text],.row 9 1 vDb 1 [Value.string yD3.text],.row 9 1 v62 n63 cs64]) rfl (els70.mono (zai (rDv.run.inc.tr iDE))) (by decide) rfl
           obtain ⟨HDZ,SE0,iE1,h350,nvE3⟩:=SDV.sealRowU (i:=0) (l':=[.row 9 1 vDb 1 [Value.string yD3.text],.row 9 1 v62 n63 cs64]) rfl (elsDT.mono (zai ((rDv.run.inc.tr iDE).tr iDW))) (by decide) rfl
           refine FC.call (l':=(bs 22 524287)) rfl (by kernel_rfl) rfl rfl rfl (E.call Tryz.call68 (A2 rfl rfl)) (zaw SE0.sl v66 r50 (hDX.mono (upI.tr iE1)) vDP [yDH.text] (h350.mono upI) hrE5) ?_
           rintro e wE7 ⟨HE6,vEc,nEd,csEe,rfl,rE9,elsEf⟩
           refine ⟨_,rfl,?_⟩
           obtain ⟨HEa,rE9,hU359⟩:=St.lendX (iDW.tr iE1) SDD.sl rE9
           have elsEf:=elsEf.mono (hU359.tr (up_le SDD.size))
           have SE8:=SDD.join (l':=[.row 9 1 vEc nEd csEe,.row 9 1 vDP 1 [Value.string yDH.text],.row 9 1 vDb 1 [Value.string yD3.text],.row 9 1 v62 n63 cs64,.row 9 1 v66 n67 cs69]) rE9 rfl
           refine ⟨(SP.nil (Sl.of_inc ((rDv.run.inc.tr iDE).tr rE9.run.inc) SE8.sl)),?_⟩
           obtain ⟨HEg,SEh,iEi,hEj,nvEk⟩:=SE8.sealRowU (i:=0) (l':=[.row 9 1 vDP 1 [Value.string yDH.text],.row 9 1 vDb 1 [Value.string yD3.text],.row 9 1 v62 n63 cs64,.row 9 1 v66 n67 cs69]) rfl elsEf (by decide) rfl
           refine FB.t (i:=19) (bs 22 1048575) rfl (SP.nil (Sl.of_inc ((rDv.run.inc.tr iDE).tr rE9.run.inc) SE8.sl)) rfl (fun w' hw'=>(E.build (B2 rfl rfl) (run_build _ 68 #[(0,v0_0),(1,vEc)] #[v0_0,vEc] (by obtain ⟨_,_,rfl⟩:=RSl.ln (p0_0.mono (((((i27.tr i73).tr rDv.run.inc).tr iDE).tr rE9.run.inc).tr iEi));obtain ⟨_,_,rfl⟩:=RSl.ln (hEj.mono upI);rfl)))) ?_
           refine FB.all1 (i:=20) (by kernel_rfl) ?_
           ·
            obtain ⟨vEl,wEm,runEn,SEo⟩:=SEh.buildSlice (P:=Tryz.prog) te172 [Value.agg #[v0_0,vDy],Value.agg #[v0_0,vEc]] (parts:=#[(0,Value.agg #[v0_0,vDy]),(1,Value.agg #[v0_0,vEc])]) (cells:=[v0_0,vDy,v0_0,vEc]) rfl (zan rfl (zan rfl zal)) (zam rfl (zam rfl zak)) (zaa p0_0.one (zaa hDF.one (zaa p0_0.one (zaa hEj.one zag)))) (Nat.le_of_ble_eq_true rfl)
            have elsEp:Els HEg eSequent 2 [v0_0,vDy,v0_0,vEc] [(zad.mk a0.left rDq),(zad.mk a0.left rE4)]:=(Els.snoc (H:=HEg) (E:=eSequent) (k:=2) (c:=[v0_0,vEc]) (x:=(zad.mk a0.left rE4)) (Els.snoc (H:=HEg) (E:=eSequent) (k:=2) (c:=[v0_0,vDy]) (x:=(zad.mk a0.left rDq)) Els.nil rfl ⟨_,_,rfl,(p0_0.mono (((((i27.tr i73).tr rDv.run.inc).tr iDE).tr rE9.run.inc).tr iEi)),(hDF.mono (upI.tr (rE9.run.inc.tr iEi)))⟩) rfl ⟨_,_,rfl,(p0_0.mono (((((i27.tr i73).tr rDv.run.inc).tr iDE).tr rE9.run.inc).tr iEi)),(hEj.mono upI)⟩)
            refine FC.val (l':=(bs 22 2097151)) rfl (by kernel_rfl) rfl rfl rfl (E.buildSlice (B2 rfl rfl) runEn) ?_
            refine ⟨(SP.nil (Sl.of_inc (((rDv.run.inc.tr iDE).tr rE9.run.inc).tr iEi) SEo.sl)),?_⟩
            refine FB.t (i:=21) (bs 22 4194303) rfl (SP.nil (Sl.of_inc (((rDv.run.inc.tr iDE).tr rE9.run.inc).tr iEi) SEo.sl)) rfl (fun w' hw'=>(E.assign (v:=vEl) rfl)) ?_
            exact FB.done (by kernel_rfl) ⟨_,_,_,_,(SEo.sel [0] (by decide) rfl),(((rDv.run.inc.tr iDE).tr rE9.run.inc).tr iEi),elsEp,rfl⟩
       ·
        obtain ⟨vDP,wDQ,runDR,SDS⟩:=SD2.buildSlice (P:=Tryz.prog) te22 [Value.string yDH.text] (parts:=#[(0,Value.string yDH.text)]) (cells:=[Value.string yDH.text]) rfl (zan rfl zal) (zam rfl zak) (zaa rfl zag) (Nat.le_of_ble_eq_true rfl)
        have elsDT:Els (up wa.heap.size H71) eS 1 [Value.string yDH.text] [yDH.text]:=(Els.snoc (H:=(up wa.heap.size H71)) (E:=eS) (k:=1) (c:=[Value.string yDH.text]) (x:=yDH.text) Els.nil rfl rfl)
        refine FC.val (l':=(bs 22 261247)) rfl (by kernel_rfl) rfl rfl rfl (E.buildSlice (B1 rfl) runDR) ?_
        refine ⟨(SP.nil SDS.sl),?_⟩
        refine FB.all1 (i:=7) (by kernel_rfl) ?_
        ·
         obtain ⟨vDb,wDc,runDd,SDe⟩:=SDS.buildSlice (P:=Tryz.prog) te22 [Value.string yD3.text] (parts:=#[(0,Value.string yD3.text)]) (cells:=[Value.string yD3.text]) rfl (zan rfl zal) (zam rfl zak) (zaa rfl zag) (Nat.le_of_ble_eq_true rfl)
         have elsDf:Els (up wa.heap.size H71) eS 1 [Value.string yD3.text] [yD3.text]:=(Els.snoc (H:=(up wa.heap.size H71)) (E:=eS) (k:=1) (c:=[Value.string yD3.text]) (x:=yD3.text) Els.nil rfl rfl)
         refine FC.val (l':=(bs 22 261375)) rfl (by kernel_rfl) rfl rfl rfl (E.buildSlice (B1 rfl) runDd) ?_
         refine ⟨(SP.nil SDe.sl),?_⟩
         refine FB.all1 (i:=8) (by kernel_rfl) ?_
         ·
          obtain ⟨HDg,SDh,iDi,hDj,nvDk⟩:=SDe.sealRowU (i:=3) (l':=[.row 9 1 vDb 1 [Value.string yD3.text],.row 9 1 vDP 1 [Value.string yDH.text],.row 9 1 v62 n63 cs64]) rfl els70 (by decide) rfl
          obtain ⟨HDl,SDm,iDn,hDo,nvDp⟩:=SDh.sealRowU (i:=0) (l':=[.row 9 1 vDP 1 [Value.string yDH.text],.row 9 1 v62 n63 cs64]) rfl (elsDf.mono (zai iDi)) (by decide) rfl
          refine FC.call (l':=(bs 22 261631)) rfl (by kernel_rfl) rfl rfl rfl (E.call Tryz.call68 (A2 rfl rfl)) (zaw SDm.sl v66 r50 (hDj.mono (upI.tr iDn)) vDb [yD3.text] (hDo.mono upI) hrDr) ?_
          rintro e wDt ⟨HDs,vDy,nDz,csDA,rfl,rDv,elsDB⟩
          refine ⟨_,rfl,?_⟩
          obtain ⟨HDw,rDv,hU319⟩:=St.lendX (iDi.tr iDn) SDe.sl rDv
          have elsDB:=elsDB.mono (hU319.tr (up_le SDe.size))
          have SDu:=SDe.join (l':=[.row 9 1 vDy nDz csDA,.row 9 1 vDb 1 [Value.string yD3.text],.row 9 1 vDP 1 [Value.string yDH.text],.row 9 1 v62 n63 cs64,.row 9 1 v66 n67 cs69]) rDv rfl
          refine ⟨(SP.nil (Sl.of_inc rDv.run.inc SDu.sl)),?_⟩
          obtain ⟨HDC,SDD,iDE,hDF,nvDG⟩:=SDu.sealRowU (i:=0) (l':=[.row 9 1 vDb 1 [Value.string yD3.text],.row 9 1 vDP 1 [Value.string yDH.text],.row 9 1 v62 n63 cs64,.row 9 1 v66 n67 cs69]) rfl elsDB (by decide) rfl
          refine FB.t (i:=9) (bs 22 262143) rfl (SP.nil (Sl.of_inc rDv.run.inc SDu.sl)) rfl (fun w' hw'=>(E.build (B2 rfl rfl) (run_build _ 68 #[(0,v0_0),(1,vDy)] #[v0_0,vDy] (by obtain ⟨_,_,rfl⟩:=RSl.ln (p0_0.mono (((i27.tr i73).tr rDv.run.inc).tr iDE));obtain ⟨_,_,rfl⟩:=RSl.ln (hDF.mono upI);rfl)))) ?_
          refine FB.all1 (i:=18) (by kernel_rfl) ?_
          ·
           obtain ⟨HDU,SDV,iDW,hDX,nvDY⟩:=SDD.sealRowU (i:=3) (l':=[.row 9 1 vDb 1 [Value.string yD3.text],.row 9 1 vDP 1 [Value.string yDH.text],.row 9 1 v62 n63 cs64]) rfl (els70.mono (zai (rDv.run.inc.tr iDE))) (by decide) rfl
           obtain ⟨HDZ,SE0,iE1,h350,nvE3⟩:=SDV.sealRowU (i:=1) (l':=[.row 9 1 vDb 1 [Value.string yD3.text],.row 9 1 v62 n63 cs64]) rfl (elsDT.mono (zai ((rDv.run.inc.tr iDE).tr iDW))) (by decide) rfl
           refine FC.call (l':=(bs 22 524287)) rfl (by kernel_rfl) rfl rfl rfl (E.call Tryz.call68 (A2 rfl rfl)) (zaw SE0.sl v66 r50 (hDX.mono (upI.tr iE1)) vDP [yDH.text] (h350.mono upI) hrE5) ?_
           rintro e wE7 ⟨HE6,vEc,nEd,csEe,rfl,rE9,elsEf⟩
           refine ⟨_,rfl,?_⟩
           obtain ⟨HEa,rE9,hU359⟩:=St.lendX (iDW.tr iE1) SDD.sl rE9
           have elsEf:=elsEf.mono (hU359.tr (up_le SDD.size))
           have SE8:=SDD.join (l':=[.row 9 1 vEc nEd csEe,.row 9 1 vDb 1 [Value.string yD3.text],.row 9 1 vDP 1 [Value.string yDH.text],.row 9 1 v62 n63 cs64,.row 9 1 v66 n67 cs69]) rE9 rfl
           refine ⟨(SP.nil (Sl.of_inc ((rDv.run.inc.tr iDE).tr rE9.run.inc) SE8.sl)),?_⟩
           obtain ⟨HEg,SEh,iEi,hEj,nvEk⟩:=SE8.sealRowU (i:=0) (l':=[.row 9 1 vDb 1 [Value.string yD3.text],.row 9 1 vDP 1 [Value.string yDH.text],.row 9 1 v62 n63 cs64,.row 9 1 v66 n67 cs69]) rfl elsEf (by decide) rfl
           refine FB.t (i:=19) (bs 22 1048575) rfl (SP.nil (Sl.of_inc ((rDv.run.inc.tr iDE).tr rE9.run.inc) SE8.sl)) rfl (fun w' hw'=>(E.build (B2 rfl rfl) (run_build _ 68 #[(0,v0_0),(1,vEc)] #[v0_0,vEc] (by obtain ⟨_,_,rfl⟩:=RSl.ln (p0_0.mono (((((i27.tr i73).tr rDv.run.inc).tr iDE).tr rE9.run.inc).tr iEi));obtain ⟨_,_,rfl⟩:=RSl.ln (hEj.mono upI);rfl)))) ?_
           refine FB.all1 (i:=20) (by kernel_rfl) ?_
           ·
            obtain ⟨vEl,wEm,runEn,SEo⟩:=SEh.buildSlice (P:=Tryz.prog) te172 [Value.agg #[v0_0,vDy],Value.agg #[v0_0,vEc]] (parts:=#[(0,Value.agg #[v0_0,vDy]),(1,Value.agg #[v0_0,vEc])]) (cells:=[v0_0,vDy,v0_0,vEc]) rfl (zan rfl (zan rfl zal)) (zam rfl (zam rfl zak)) (zaa p0_0.one (zaa hDF.one (zaa p0_0.one (zaa hEj.one zag)))) (Nat.le_of_ble_eq_true rfl)
            have elsEp:Els HEg eSequent 2 [v0_0,vDy,v0_0,vEc] [(zad.mk a0.left rDq),(zad.mk a0.left rE4)]:=(Els.snoc (H:=HEg) (E:=eSequent) (k:=2) (c:=[v0_0,vEc]) (x:=(zad.mk a0.left rE4)) (Els.snoc (H:=HEg) (E:=eSequent) (k:=2) (c:=[v0_0,vDy]) (x:=(zad.mk a0.left rDq)) Els.nil rfl ⟨_,_,rfl,(p0_0.mono (((((i27.tr i73).tr rDv.run.inc).tr iDE).tr rE9.run.inc).tr iEi)),(hDF.mono (upI.tr (rE9.run.inc.tr iEi)))⟩) rfl ⟨_,_,rfl,(p0_0.mono (((((i27.tr i73).tr rDv.run.inc).tr iDE).tr rE9.run.inc).tr iEi)),(hEj.mono upI)⟩)
            refine FC.val (l':=(bs 22 2097151)) rfl (by kernel_rfl) rfl rfl rfl (E.buildSlice (B2 rfl rfl) runEn) ?_
            refine ⟨(SP.nil (Sl.of_inc (((rDv.run.inc.tr iDE).tr rE9.run.inc).tr iEi) SEo.sl)),?_⟩
            refine FB.t (i:=21) (bs 22 4194303) rfl (SP.nil (Sl.of_inc (((rDv.run.inc.tr iDE).tr rE9.run.inc).tr iEi) SEo.sl)) rfl (fun w' hw'=>(E.assign (v:=vEl) rfl)) ?_
            exact FB.done (by kernel_rfl) ⟨_,_,_,_,(SEo.sel [0] (by decide) rfl),(((rDv.run.inc.tr iDE).tr rE9.run.inc).tr iEi),elsEp,rfl⟩
      ·
       rintro fEy wEx ⟨HEu,vEq,nEr,csEs,SEv,iEw,elsEt,kEz⟩
       refine FW.ret ?_
       obtain rfl:=Option.some.inj hp
       exact ⟨.inr rfl,res1 rfl kEz ⟨_,_,_,_,rfl,SEv,elsEt⟩⟩
     ·
      refine FW.condF rfl cCZ ?_
      refine FW.seq (FW.region ?_)
      refine FL.v (E.eql rfl rfl) ?_
      refine FL.v (E.assign (v:=Value.bool (a1 == 6)) rfl) ?_
      refine FL.nil ?_
      rcases ifB hp with ⟨cEA,hp⟩|⟨cEA,hp⟩
      ·
       refine FW.condT rfl cEA ?_
       refine FW.seq ?_
       obtain ⟨yEE,hy389,hp⟩:=bnd hp
       obtain ⟨rF1,hrF2,hp⟩:=bnd hp
       obtain ⟨yFi,hy429,hp⟩:=bnd hp
       obtain ⟨rFF,hrFG,hp⟩:=bnd hp
       refine FW.drawB (Sl H71) (fun f w=>∃ H:GH,∃ vG1:Value,∃ nG2:Nat,∃ csG3:List Value,St Ha wa H w [.row 68 2 vG1 nG2 csG3]∧Inc H71 H∧Els H eSequent 2 csG3 [(zad.mk rF1 a0.right),(zad.mk rFF a0.right)]∧f 6=vG1) (by kernel_rfl) S90.sl ?_ ?_
       ·
        intro wEB rEC
        have SED:=S90.call rEC
        refine FB.t (i:=0) (bs 22 1) rfl (SP.nil SED.sl) rfl (fun w' hw'=>(E.move k79)) ?_
        refine FB.t (i:=1) (bs 22 3) rfl (SP.nil SED.sl) rfl (fun w' hw'=>(E.move (v:=v85) rfl)) ?_
        obtain ⟨qEG,vEI,vEJ,rfl,atEH,hEK,hEL⟩:=FAt.open h87 hy389
        refine FB.t (i:=2) (bs 22 7) rfl (SP.nil SED.sl) rfl (fun w' hw'=>(E.nilCheck rfl)) ?_
        refine FB.t (i:=3) (bs 22 15) rfl (SP.nil SED.sl) rfl (fun w' hw'=>(E.fieldAddr zaM rfl)) ?_
        refine FB.t (i:=4) (bs 22 31) rfl (SP.nil SED.sl) rfl (fun w' hw'=>(E.load rfl (zaf Tryz.isAgg9 (atEH.now hw') rfl))) ?_
        refine FB.t (i:=7) (bs 22 159) rfl (SP.nil SED.sl) rfl (fun w' hw'=>(E.fieldAddr zas k78)) ?_
        refine FB.t (i:=8) (bs 22 415) rfl (SP.nil SED.sl) rfl (fun w' hw'=>(E.load rfl (zaf Tryz.isAgg22 ((at28.mono i73).now hw') rfl))) ?_
        refine FB.t (i:=10) (bs 22 1439) rfl (SP.nil SED.sl) rfl (fun w' hw'=>(E.move k79)) ?_
        refine FB.t (i:=11) (bs 22 3487) rfl (SP.nil SED.sl) rfl (fun w' hw'=>(E.move (v:=v86) rfl)) ?_
        obtain ⟨qFk,vFm,vFn,rfl,atFl,hFo,hFp⟩:=FAt.open h88 hy429
        refine FB.t (i:=12) (bs 22 7583) rfl (SP.nil SED.sl) rfl (fun w' hw'=>(E.nilCheck rfl)) ?_
        refine FB.t (i:=13) (bs 22 15775) rfl (SP.nil SED.sl) rfl (fun w' hw'=>(E.fieldAddr zaM rfl)) ?_
        refine FB.t (i:=14) (bs 22 32159) rfl (SP.nil SED.sl) rfl (fun w' hw'=>(E.load rfl (zaf Tryz.isAgg9 (atFl.now hw') rfl))) ?_
        refine FB.t (i:=17) (bs 22 163231) rfl (SP.nil SED.sl) rfl (fun w' hw'=>(E.fieldAddr zas k78)) ?_
        refine FB.t (i:=18) (bs 22 425375) rfl (SP.nil SED.sl) rfl (fun w' hw'=>(E.load rfl (zaf Tryz.isAgg22 ((at28.mono i73).now hw') rfl))) ?_
        refine FB.all2 (i:=5) (j:=15) (by kernel_rfl) ?_ ?_
        ·
         obtain ⟨vEM,wEN,runEO,SEP⟩:=SED.buildSlice (P:=Tryz.prog) te22 [Value.string yEE.text] (parts:=#[(0,Value.string yEE.text)]) (cells:=[Value.string yEE.text]) rfl (zan rfl zal) (zam rfl zak) (zaa rfl zag) (Nat.le_of_ble_eq_true rfl)
         have elsEQ:Els (up wa.heap.size H71) eS 1 [Value.string yEE.text] [yEE.text]:=(Els.snoc (H:=(up wa.heap.size H71)) (E:=eS) (k:=1) (c:=[Value.string yEE.text]) (x:=yEE.text) Els.nil rfl rfl)
         refine FC.val (l':=(bs 22 425407)) rfl (by kernel_rfl) rfl rfl rfl (E.buildSlice (B1 rfl) runEO) ?_
         refine ⟨(SP.nil SEP.sl),?_⟩
         refine FB.all2 (i:=6) (j:=15) (by kernel_rfl) ?_ ?_
         ·
          obtain ⟨HER,SES,iET,hEU,nvEV⟩:=SEP.sealRowU (i:=1) (l':=[.row 9 1 vEM 1 [Value.string yEE.text],.row 9 1 v66 n67 cs69]) rfl els65 (by decide) rfl
          obtain ⟨HEW,SEX,iEY,hEZ,nvF0⟩:=SES.sealRowU (i:=0) (l':=[.row 9 1 v66 n67 cs69]) rfl (elsEQ.mono (zai iET)) (by decide) rfl
          refine FC.call (l':=(bs 22 425471)) rfl (by kernel_rfl) rfl rfl rfl (E.call Tryz.call68 (A2 rfl rfl)) (zaw SEX.sl v62 r40 (hEU.mono (upI.tr iEY)) vEM [yEE.text] (hEZ.mono upI) hrF2) ?_
          rintro e wF4 ⟨HF3,vF9,nFa,csFb,rfl,rF6,elsFc⟩
          refine ⟨_,rfl,?_⟩
          obtain ⟨HF7,rF6,hU418⟩:=St.lendX (iET.tr iEY) SEP.sl rF6
          have elsFc:=elsFc.mono (hU418.tr (up_le SEP.size))
          have SF5:=SEP.join (l':=[.row 9 1 vF9 nFa csFb,.row 9 1 vEM 1 [Value.string yEE.text],.row 9 1 v62 n63 cs64,.row 9 1 v66 n67 cs69]) rF6 rfl
          refine ⟨(SP.nil (Sl.of_inc rF6.run.inc SF5.sl)),?_⟩
          obtain ⟨HFd,SFe,iFf,hFg,nvFh⟩:=SF5.sealRowU (i:=0) (l':=[.row 9 1 vEM 1 [Value.string yEE.text],.row 9 1 v62 n63 cs64,.row 9 1 v66 n67 cs69]) rfl elsFc (by decide) rfl
          refine FB.t (i:=9) (bs 22 425983) rfl (SP.nil (Sl.of_inc rF6.run.inc SF5.sl)) rfl (fun w' hw'=>(E.build (B2 rfl rfl) (run_build _ 68 #[(0,vF9),(1,v0_1)] #[vF9,v0_1] (by obtain ⟨_,_,rfl⟩:=RSl.ln (hFg.mono upI);obtain ⟨_,_,rfl⟩:=RSl.ln (p0_1.mono (((i27.tr i73).tr rF6.run.inc).tr iFf));rfl)))) ?_
          refine FB.all1 (i:=15) (by kernel_rfl) ?_
          ·
           obtain ⟨vFq,wFr,runFs,SFt⟩:=SFe.buildSlice (P:=Tryz.prog) te22 [Value.string yFi.text] (parts:=#[(0,Value.string yFi.text)]) (cells:=[Value.string yFi.text]) rfl (zan rfl zal) (zam rfl zak) (zaa rfl zag) (Nat.le_of_ble_eq_true rfl)
           have elsFu:Els (up wa.heap.size HFd) eS 1 [Value.string yFi.text] [yFi.text]:=(Els.snoc (H:=(up wa.heap.size HFd)) (E:=eS) (k:=1) (c:=[Value.string yFi.text]) (x:=yFi.text) Els.nil rfl rfl)
           refine FC.val (l':=(bs 22 458751)) rfl (by kernel_rfl) rfl rfl rfl (E.buildSlice (B1 rfl) runFs) ?_
           refine ⟨(SP.nil (Sl.of_inc (rF6.run.inc.tr iFf) SFt.sl)),?_⟩
           refine FB.all1 (i:=16) (by kernel_rfl) ?_
           ·
            obtain ⟨HFv,SFw,iFx,hFy,nvFz⟩:=SFt.sealRowU (i:=2) (l':=[.row 9 1 vFq 1 [Value.string yFi.text],.row 9 1 vEM 1 [Value.string yEE.text],.row 9 1 v66 n67 cs69]) rfl (els65.mono (zai (rF6.run.inc.tr iFf))) (by decide) rfl
            obtain ⟨HFA,SFB,iFC,hFD,nvFE⟩:=SFw.sealRowU (i:=0) (l':=[.row 9 1 vEM 1 [Value.string yEE.text],.row 9 1 v66 n67 cs69]) rfl (elsFu.mono (zai iFx)) (by decide) rfl
            refine FC.call (l':=(bs 22 524287)) rfl (by kernel_rfl) rfl rfl rfl (E.call Tryz.call68 (A2 rfl rfl)) (zaw SFB.sl v62 r40 (hFy.mono (upI.tr iFC)) vFq [yFi.text] (hFD.mono upI) hrFG) ?_
            rintro e wFI ⟨HFH,vFN,nFO,csFP,rfl,rFK,elsFQ⟩
            refine ⟨_,rfl,?_⟩
            obtain ⟨HFL,rFK,hU458⟩:=St.lendX (iFx.tr iFC) SFt.sl rFK
            have elsFQ:=elsFQ.mono (hU458.tr (up_le SFt.size))
            have SFJ:=SFt.join (l':=[.row 9 1 vFN nFO csFP,.row 9 1 vFq 1 [Value.string yFi.text],.row 9 1 vEM 1 [Value.string yEE.text],.row 9 1 v62 n63 cs64,.row 9 1 v66 n67 cs69]) rFK rfl
            refine ⟨(SP.nil (Sl.of_inc ((rF6.run.inc.tr iFf).tr rFK.run.inc) SFJ.sl)),?_⟩
            obtain ⟨HFR,SFS,iFT,hFU,nvFV⟩:=SFJ.sealRowU (i:=0) (l':=[.row 9 1 vFq 1 [Value.string yFi.text],.row 9 1 vEM 1 [Value.string yEE.text],.row 9 1 v62 n63 cs64,.row 9 1 v66 n67 cs69]) rfl elsFQ (by decide) rfl
            refine FB.t (i:=19) (bs 22 1048575) rfl (SP.nil (Sl.of_inc ((rF6.run.inc.tr iFf).tr rFK.run.inc) SFJ.sl)) rfl (fun w' hw'=>(E.build (B2 rfl rfl) (run_build _ 68 #[(0,vFN),(1,v0_1)] #[vFN,v0_1] (by obtain ⟨_,_,rfl⟩:=RSl.ln (hFU.mono upI);obtain ⟨_,_,rfl⟩:=RSl.ln (p0_1.mono (((((i27.tr i73).tr rF6.run.inc).tr iFf).tr rFK.run.inc).tr iFT));rfl)))) ?_
            refine FB.all1 (i:=20) (by kernel_rfl) ?_
            ·
             obtain ⟨vFW,wFX,runFY,SFZ⟩:=SFS.buildSlice (P:=Tryz.prog) te172 [Value.agg #[vF9,v0_1],Value.agg #[vFN,v0_1]] (parts:=#[(0,Value.agg #[vF9,v0_1]),(1,Value.agg #[vFN,v0_1])]) (cells:=[vF9,v0_1,vFN,v0_1]) rfl (zan rfl (zan rfl zal)) (zam rfl (zam rfl zak)) (zaa hFg.one (zaa p0_1.one (zaa hFU.one (zaa p0_1.one zag)))) (Nat.le_of_ble_eq_true rfl)
             have elsG0:Els HFR eSequent 2 [vF9,v0_1,vFN,v0_1] [(zad.mk rF1 a0.right),(zad.mk rFF a0.right)]:=(Els.snoc (H:=HFR) (E:=eSequent) (k:=2) (c:=[vFN,v0_1]) (x:=(zad.mk rFF a0.right)) (Els.snoc (H:=HFR) (E:=eSequent) (k:=2) (c:=[vF9,v0_1]) (x:=(zad.mk rF1 a0.right)) Els.nil rfl ⟨_,_,rfl,(hFg.mono (upI.tr (rFK.run.inc.tr iFT))),(p0_1.mono (((((i27.tr i73).tr rF6.run.inc).tr iFf).tr rFK.run.inc).tr iFT))⟩) rfl ⟨_,_,rfl,(hFU.mono upI),(p0_1.mono (((((i27.tr i73).tr rF6.run.inc).tr iFf).tr rFK.run.inc).tr iFT))⟩)
             refine FC.val (l':=(bs 22 2097151)) rfl (by kernel_rfl) rfl rfl rfl (E.buildSlice (B2 rfl rfl) runFY) ?_
             refine ⟨(SP.nil (Sl.of_inc (((rF6.run.inc.tr iFf).tr rFK.run.inc).tr iFT) SFZ.sl)),?_⟩
             refine FB.t (i:=21) (bs 22 4194303) rfl (SP.nil (Sl.of_inc (((rF6.run.inc.tr iFf).tr rFK.run.inc).tr iFT) SFZ.sl)) rfl (fun w' hw'=>(E.assign (v:=vFW) rfl)) ?_
             exact FB.done (by kernel_rfl) ⟨_,_,_,_,(SFZ.sel [0] (by decide) rfl),(((rF6.run.inc.tr iFf).tr rFK.run.inc).tr iFT),elsG0,rfl⟩
         ·
          obtain ⟨vFq,wFr,runFs,SFt⟩:=SEP.buildSlice (P:=Tryz.prog) te22 [Value.string yFi.text] (parts:=#[(0,Value.string yFi.text)]) (cells:=[Value.string yFi.text]) rfl (zan rfl zal) (zam rfl zak) (zaa rfl zag) (Nat.le_of_ble_eq_true rfl)
          have elsFu:Els (up wa.heap.size H71) eS 1 [Value.string yFi.text] [yFi.text]:=(Els.snoc (H:=(up wa.heap.size H71)) (E:=eS) (k:=1) (c:=[Value.string yFi.text]) (x:=yFi.text) Els.nil rfl rfl)
          refine FC.val (l':=(bs 22 458175)) rfl (by kernel_rfl) rfl rfl rfl (E.buildSlice (B1 rfl) runFs) ?_
          refine ⟨(SP.nil SFt.sl),?_⟩
          refine FB.all1 (i:=6) (by kernel_rfl) ?_
          ·
           obtain ⟨HER,SES,iET,hEU,nvEV⟩:=SFt.sealRowU (i:=2) (l':=[.row 9 1 vFq 1 [Value.string yFi.text],.row 9 1 vEM 1 [Value.string yEE.text],.row 9 1 v66 n67 cs69]) rfl els65 (by decide) rfl
           obtain ⟨HEW,SEX,iEY,hEZ,nvF0⟩:=SES.sealRowU (i:=1) (l':=[.row 9 1 vFq 1 [Value.string yFi.text],.row 9 1 v66 n67 cs69]) rfl (elsEQ.mono (zai iET)) (by decide) rfl
           refine FC.call (l':=(bs 22 458239)) rfl (by kernel_rfl) rfl rfl rfl (E.call Tryz.call68 (A2 rfl rfl)) (zaw SEX.sl v62 r40 (hEU.mono (upI.tr iEY)) vEM [yEE.text] (hEZ.mono upI) hrF2) ?_
           rintro e wF4 ⟨HF3,vF9,nFa,csFb,rfl,rF6,elsFc⟩
           refine ⟨_,rfl,?_⟩
           obtain ⟨HF7,rF6,hU418⟩:=St.lendX (iET.tr iEY) SFt.sl rF6
           have elsFc:=elsFc.mono (hU418.tr (up_le SFt.size))
           have SF5:=SFt.join (l':=[.row 9 1 vF9 nFa csFb,.row 9 1 vFq 1 [Value.string yFi.text],.row 9 1 vEM 1 [Value.string yEE.text],.row 9 1 v62 n63 cs64,.row 9 1 v66 n67 cs69]) rF6 rfl
           refine ⟨(SP.nil (Sl.of_inc rF6.run.inc SF5.sl)),?_⟩
           obtain ⟨HFd,SFe,iFf,hFg,nvFh⟩:=SF5.sealRowU (i:=0) (l':=[.row 9 1 vFq 1 [Value.string yFi.text],.row 9 1 vEM 1 [Value.string yEE.text],.row 9 1 v62 n63 cs64,.row 9 1 v66 n67 cs69]) rfl elsFc (by decide) rfl
           refine FB.t (i:=9) (bs 22 458751) rfl (SP.nil (Sl.of_inc rF6.run.inc SF5.sl)) rfl (fun w' hw'=>(E.build (B2 rfl rfl) (run_build _ 68 #[(0,vF9),(1,v0_1)] #[vF9,v0_1] (by obtain ⟨_,_,rfl⟩:=RSl.ln (hFg.mono upI);obtain ⟨_,_,rfl⟩:=RSl.ln (p0_1.mono (((i27.tr i73).tr rF6.run.inc).tr iFf));rfl)))) ?_
           refine FB.all1 (i:=16) (by kernel_rfl) ?_
           ·
            obtain ⟨HFv,SFw,iFx,hFy,nvFz⟩:=SFe.sealRowU (i:=2) (l':=[.row 9 1 vFq 1 [Value.string yFi.text],.row 9 1 vEM 1 [Value.string yEE.text],.row 9 1 v66 n67 cs69]) rfl (els65.mono (zai (rF6.run.inc.tr iFf))) (by decide) rfl
            obtain ⟨HFA,SFB,iFC,hFD,nvFE⟩:=SFw.sealRowU (i:=0) (l':=[.row 9 1 vEM 1 [Value.string yEE.text],.row 9 1 v66 n67 cs69]) rfl (elsFu.mono (zai ((rF6.run.inc.tr iFf).tr iFx))) (by decide) rfl
            refine FC.call (l':=(bs 22 524287)) rfl (by kernel_rfl) rfl rfl rfl (E.call Tryz.call68 (A2 rfl rfl)) (zaw SFB.sl v62 r40 (hFy.mono (upI.tr iFC)) vFq [yFi.text] (hFD.mono upI) hrFG) ?_
            rintro e wFI ⟨HFH,vFN,nFO,csFP,rfl,rFK,elsFQ⟩
            refine ⟨_,rfl,?_⟩
            obtain ⟨HFL,rFK,hU458⟩:=St.lendX (iFx.tr iFC) SFe.sl rFK
            have elsFQ:=elsFQ.mono (hU458.tr (up_le SFe.size))
            have SFJ:=SFe.join (l':=[.row 9 1 vFN nFO csFP,.row 9 1 vFq 1 [Value.string yFi.text],.row 9 1 vEM 1 [Value.string yEE.text],.row 9 1 v62 n63 cs64,.row 9 1 v66 n67 cs69]) rFK rfl
            refine ⟨(SP.nil (Sl.of_inc ((rF6.run.inc.tr iFf).tr rFK.run.inc) SFJ.sl)),?_⟩
            obtain ⟨HFR,SFS,iFT,hFU,nvFV⟩:=SFJ.sealRowU (i:=0) (l':=[.row 9 1 vFq 1 [Value.string yFi.text],.row 9 1 vEM 1 [Value.string yEE.text],.row 9 1 v62 n63 cs64,.row 9 1 v66 n67 cs69]) rfl elsFQ (by decide) rfl
            refine FB.t (i:=19) (bs 22 1048575) rfl (SP.nil (Sl.of_inc ((rF6.run.inc.tr iFf).tr rFK.run.inc) SFJ.sl)) rfl (fun w' hw'=>(E.build (B2 rfl rfl) (run_build _ 68 #[(0,vFN),(1,v0_1)] #[vFN,v0_1] (by obtain ⟨_,_,rfl⟩:=RSl.ln (hFU.mono upI);obtain ⟨_,_,rfl⟩:=RSl.ln (p0_1.mono (((((i27.tr i73).tr rF6.run.inc).tr iFf).tr rFK.run.inc).tr iFT));rfl)))) ?_
            refine FB.all1 (i:=20) (by kernel_rfl) ?_
            ·
             obtain ⟨vFW,wFX,runFY,SFZ⟩:=SFS.buildSlice (P:=Tryz.prog) te172 [Value.agg #[vF9,v0_1],Value.agg #[vFN,v0_1]] (parts:=#[(0,Value.agg #[vF9,v0_1]),(1,Value.agg #[vFN,v0_1])]) (cells:=[vF9,v0_1,vFN,v0_1]) rfl (zan rfl (zan rfl zal)) (zam rfl (zam rfl zak)) (zaa hFg.one (zaa p0_1.one (zaa hFU.one (zaa p0_1.one zag)))) (Nat.le_of_ble_eq_true rfl)
             have elsG0:Els HFR eSequent 2 [vF9,v0_1,vFN,v0_1] [(zad.mk rF1 a0.right),(zad.mk rFF a0.right)]:=(Els.snoc (H:=HFR) (E:=eSequent) (k:=2) (c:=[vFN,v0_1]) (x:=(zad.mk rFF a0.right)) (Els.snoc (H:=HFR) (E:=eSequent) (k:=2) (c:=[vF9,v0_1]) (x:=(zad.mk rF1 a0.right)) Els.nil rfl ⟨_,_,rfl,(hFg.mono (upI.tr (rFK.run.inc.tr iFT))),(p0_1.mono (((((i27.tr i73).tr rF6.run.inc).tr iFf).tr rFK.run.inc).tr iFT))⟩) rfl ⟨_,_,rfl,(hFU.mono upI),(p0_1.mono (((((i27.tr i73).tr rF6.run.inc).tr iFf).tr rFK.run.inc).tr iFT))⟩)
             refine FC.val (l':=(bs 22 2097151)) rfl (by kernel_rfl) rfl rfl rfl (E.buildSlice (B2 rfl rfl) runFY) ?_
             refine ⟨(SP.nil (Sl.of_inc (((rF6.run.inc.tr iFf).tr rFK.run.inc).tr iFT) SFZ.sl)),?_⟩
             refine FB.t (i:=21) (bs 22 4194303) rfl (SP.nil (Sl.of_inc (((rF6.run.inc.tr iFf).tr rFK.run.inc).tr iFT) SFZ.sl)) rfl (fun w' hw'=>(E.assign (v:=vFW) rfl)) ?_
             exact FB.done (by kernel_rfl) ⟨_,_,_,_,(SFZ.sel [0] (by decide) rfl),(((rF6.run.inc.tr iFf).tr rFK.run.inc).tr iFT),elsG0,rfl⟩
        ·
         obtain ⟨vFq,wFr,runFs,SFt⟩:=SED.buildSlice (P:=Tryz.prog) te22 [Value.string yFi.text] (parts:=#[(0,Value.string yFi.text)]) (cells:=[Value.string yFi.text]) rfl (zan rfl zal) (zam rfl zak) (zaa rfl zag) (Nat.le_of_ble_eq_true rfl)
         have elsFu:Els (up wa.heap.size H71) eS 1 [Value.string yFi.text] [yFi.text]:=(Els.snoc (H:=(up wa.heap.size H71)) (E:=eS) (k:=1) (c:=[Value.string yFi.text]) (x:=yFi.text) Els.nil rfl rfl)
         refine FC.val (l':=(bs 22 458143)) rfl (by kernel_rfl) rfl rfl rfl (E.buildSlice (B1 rfl) runFs) ?_
         refine ⟨(SP.nil SFt.sl),?_⟩
         refine FB.all1 (i:=5) (by kernel_rfl) ?_
         ·
          obtain ⟨vEM,wEN,runEO,SEP⟩:=SFt.buildSlice (P:=Tryz.prog) te22 [Value.string yEE.text] (parts:=#[(0,Value.string yEE.text)]) (cells:=[Value.string yEE.text]) rfl (zan rfl zal) (zam rfl zak) (zaa rfl zag) (Nat.le_of_ble_eq_true rfl)
          have elsEQ:Els (up wa.heap.size H71) eS 1 [Value.string yEE.text] [yEE.text]:=(Els.snoc (H:=(up wa.heap.size H71)) (E:=eS) (k:=1) (c:=[Value.string yEE.text]) (x:=yEE.text) Els.nil rfl rfl)
          refine FC.val (l':=(bs 22 458175)) rfl (by kernel_rfl) rfl rfl rfl (E.buildSlice (B1 rfl) runEO) ?_
          refine ⟨(SP.nil SEP.sl),?_⟩
          refine FB.all1 (i:=6) (by kernel_rfl) ?_
          ·
           obtain ⟨HER,SES,iET,hEU,nvEV⟩:=SEP.sealRowU (i:=2) (l':=[.row 9 1 vEM 1 [Value.string yEE.text],.row 9 1 vFq 1 [Value.string yFi.text],.row 9 1 v66 n67 cs69]) rfl els65 (by decide) rfl
           obtain ⟨HEW,SEX,iEY,hEZ,nvF0⟩:=SES.sealRowU (i:=0) (l':=[.row 9 1 vFq 1 [Value.string yFi.text],.row 9 1 v66 n67 cs69]) rfl (elsEQ.mono (zai iET)) (by decide) rfl
           refine FC.call (l':=(bs 22 458239)) rfl (by kernel_rfl) rfl rfl rfl (E.call Tryz.call68 (A2 rfl rfl)) (zaw SEX.sl v62 r40 (hEU.mono (upI.tr iEY)) vEM [yEE.text] (hEZ.mono upI) hrF2) ?_
           rintro e wF4 ⟨HF3,vF9,nFa,csFb,rfl,rF6,elsFc⟩
           refine ⟨_,rfl,?_⟩
           obtain ⟨HF7,rF6,hU418⟩:=St.lendX (iET.tr iEY) SEP.sl rF6
           have elsFc:=elsFc.mono (hU418.tr (up_le SEP.size))
           have SF5:=SEP.join (l':=[.row 9 1 vF9 nFa csFb,.row 9 1 vEM 1 [Value.string yEE.text],.row 9 1 vFq 1 [Value.string yFi.text],.row 9 1 v62 n63 cs64,.row 9 1 v66 n67 cs69]) rF6 rfl
           refine ⟨(SP.nil (Sl.of_inc rF6.run.inc SF5.sl)),?_⟩
           obtain ⟨HFd,SFe,iFf,hFg,nvFh⟩:=SF5.sealRowU (i:=0) (l':=[.row 9 1 vEM 1 [Value.string yEE.text],.row 9 1 vFq 1 [Value.string yFi.text],.row 9 1 v62 n63 cs64,.row 9 1 v66 n67 cs69]) rfl elsFc (by decide) rfl
           refine FB.t (i:=9) (bs 22 458751) rfl (SP.nil (Sl.of_inc rF6.run.inc SF5.sl)) rfl (fun w' hw'=>(E.build (B2 rfl rfl) (run_build _ 68 #[(0,vF9),(1,v0_1)] #[vF9,v0_1] (by obtain ⟨_,_,rfl⟩:=RSl.ln (hFg.mono upI);obtain ⟨_,_,rfl⟩:=RSl.ln (p0_1.mono (((i27.tr i73).tr rF6.run.inc).tr iFf));rfl)))) ?_
           refine FB.all1 (i:=16) (by kernel_rfl) ?_
           ·
            obtain ⟨HFv,SFw,iFx,hFy,nvFz⟩:=SFe.sealRowU (i:=2) (l':=[.row 9 1 vEM 1 [Value.string yEE.text],.row 9 1 vFq 1 [Value.string yFi.text],.row 9 1 v66 n67 cs69]) rfl (els65.mono (zai (rF6.run.inc.tr iFf))) (by decide) rfl
            obtain ⟨HFA,SFB,iFC,hFD,nvFE⟩:=SFw.sealRowU (i:=1) (l':=[.row 9 1 vEM 1 [Value.string yEE.text],.row 9 1 v66 n67 cs69]) rfl (elsFu.mono (zai ((rF6.run.inc.tr iFf).tr iFx))) (by decide) rfl
            refine FC.call (l':=(bs 22 524287)) rfl (by kernel_rfl) rfl rfl rfl (E.call Tryz.call68 (A2 rfl rfl)) (zaw SFB.sl v62 r40 (hFy.mono (upI.tr iFC)) vFq [yFi.text] (hFD.mono upI) hrFG) ?_
            rintro e wFI ⟨HFH,vFN,nFO,csFP,rfl,rFK,elsFQ⟩
            refine ⟨_,rfl,?_⟩
            obtain ⟨HFL,rFK,hU458⟩:=St.lendX (iFx.tr iFC) SFe.sl rFK
            have elsFQ:=elsFQ.mono (hU458.tr (up_le SFe.size))
            have SFJ:=SFe.join (l':=[.row 9 1 vFN nFO csFP,.row 9 1 vEM 1 [Value.string yEE.text],.row 9 1 vFq 1 [Value.string yFi.text],.row 9 1 v62 n63 cs64,.row 9 1 v66 n67 cs69]) rFK rfl
            refine ⟨(SP.nil (Sl.of_inc ((rF6.run.inc.tr iFf).tr rFK.run.inc) SFJ.sl)),?_⟩
            obtain ⟨HFR,SFS,iFT,hFU,nvFV⟩:=SFJ.sealRowU (i:=0) (l':=[.row 9 1 vEM 1 [Value.string yEE.text],.row 9 1 vFq 1 [Value.string yFi.text],.row 9 1 v62 n63 cs64,.row 9 1 v66 n67 cs69]) rfl elsFQ (by decide) rfl
            refine FB.t (i:=19) (bs 22 1048575) rfl (SP.nil (Sl.of_inc ((rF6.run.inc.tr iFf).tr rFK.run.inc) SFJ.sl)) rfl (fun w' hw'=>(E.build (B2 rfl rfl) (run_build _ 68 #[(0,vFN),(1,v0_1)] #[vFN,v0_1] (by obtain ⟨_,_,rfl⟩:=RSl.ln (hFU.mono upI);obtain ⟨_,_,rfl⟩:=RSl.ln (p0_1.mono (((((i27.tr i73).tr rF6.run.inc).tr iFf).tr rFK.run.inc).tr iFT));rfl)))) ?_
            refine FB.all1 (i:=20) (by kernel_rfl) ?_
            ·
             obtain ⟨vFW,wFX,runFY,SFZ⟩:=SFS.buildSlice (P:=Tryz.prog) te172 [Value.agg #[vF9,v0_1],Value.agg #[vFN,v0_1]] (parts:=#[(0,Value.agg #[vF9,v0_1]),(1,Value.agg #[vFN,v0_1])]) (cells:=[vF9,v0_1,vFN,v0_1]) rfl (zan rfl (zan rfl zal)) (zam rfl (zam rfl zak)) (zaa hFg.one (zaa p0_1.one (zaa hFU.one (zaa p0_1.one zag)))) (Nat.le_of_ble_eq_true rfl)
             have elsG0:Els HFR eSequent 2 [vF9,v0_1,vFN,v0_1] [(zad.mk rF1 a0.right),(zad.mk rFF a0.right)]:=(Els.snoc (H:=HFR) (E:=eSequent) (k:=2) (c:=[vFN,v0_1]) (x:=(zad.mk rFF a0.right)) (Els.snoc (H:=HFR) (E:=eSequent) (k:=2) (c:=[vF9,v0_1]) (x:=(zad.mk rF1 a0.right)) Els.nil rfl ⟨_,_,rfl,(hFg.mono (upI.tr (rFK.run.inc.tr iFT))),(p0_1.mono (((((i27.tr i73).tr rF6.run.inc).tr iFf).tr rFK.run.inc).tr iFT))⟩) rfl ⟨_,_,rfl,(hFU.mono upI),(p0_1.mono (((((i27.tr i73).tr rF6.run.inc).tr iFf).tr rFK.run.inc).tr iFT))⟩)
             refine FC.val (l':=(bs 22 2097151)) rfl (by kernel_rfl) rfl rfl rfl (E.buildSlice (B2 rfl rfl) runFY) ?_
             refine ⟨(SP.nil (Sl.of_inc (((rF6.run.inc.tr iFf).tr rFK.run.inc).tr iFT) SFZ.sl)),?_⟩
             refine FB.t (i:=21) (bs 22 4194303) rfl (SP.nil (Sl.of_inc (((rF6.run.inc.tr iFf).tr rFK.run.inc).tr iFT) SFZ.sl)) rfl (fun w' hw'=>(E.assign (v:=vFW) rfl)) ?_
             exact FB.done (by kernel_rfl) ⟨_,_,_,_,(SFZ.sel [0] (by decide) rfl),(((rF6.run.inc.tr iFf).tr rFK.run.inc).tr iFT),elsG0,rfl⟩
       ·
        rintro fG9 wG8 ⟨HG5,vG1,nG2,csG3,SG6,iG7,elsG4,kGa⟩
        refine FW.ret ?_
        obtain rfl:=Option.some.inj hp
        exact ⟨.inr rfl,res1 rfl kGa ⟨_,_,_,_,rfl,SG6,elsG4⟩⟩
      ·
       refine FW.condF rfl cEA ?_
       refine FW.seq (FW.region ?_)
       refine FL.v (E.eql rfl rfl) ?_
       refine FL.v (E.assign (v:=Value.bool (a1 == 7)) rfl) ?_
       refine FL.nil ?_
       rcases ifB hp with ⟨cGb,hp⟩|⟨cGb,hp⟩
       ·
        refine FW.condT rfl cGb ?_
        refine FW.seq ?_
        obtain ⟨yGf,hy488,hp⟩:=bnd hp
        obtain ⟨yGn,hy496,hp⟩:=bnd hp
        obtain ⟨rGK,hrGL,hp⟩:=bnd hp
        refine FW.drawB (Sl H71) (fun f w=>∃ H:GH,∃ vH6:Value,∃ nH7:Nat,∃ csH8:List Value,St Ha wa H w [.row 68 2 vH6 nH7 csH8]∧Inc H71 H∧Els H eSequent 2 csH8 [(zad.mk a0.left rGK)]∧f 6=vH6) (by kernel_rfl) S90.sl ?_ ?_
        ·
         intro wGc rGd
         have SGe:=S90.call rGd
         refine FB.t (i:=0) (bs 16 1) rfl (SP.nil SGe.sl) rfl (fun w' hw'=>(E.fieldAddr zau k78)) ?_
         refine FB.t (i:=1) (bs 16 3) rfl (SP.nil SGe.sl) rfl (fun w' hw'=>(E.load rfl (zaf Tryz.isAgg22 ((at28.mono i73).now hw') rfl))) ?_
         refine FB.t (i:=2) (bs 16 7) rfl (SP.nil SGe.sl) rfl (fun w' hw'=>(E.move k80)) ?_
         refine FB.t (i:=3) (bs 16 15) rfl (SP.nil SGe.sl) rfl (fun w' hw'=>(E.move (v:=v85) rfl)) ?_
         obtain ⟨qGh,vGj,vGk,rfl,atGi,hGl,hGm⟩:=FAt.open h87 hy488
         refine FB.t (i:=4) (bs 16 31) rfl (SP.nil SGe.sl) rfl (fun w' hw'=>(E.nilCheck rfl)) ?_
         refine FB.t (i:=5) (bs 16 63) rfl (SP.nil SGe.sl) rfl (fun w' hw'=>(E.fieldAddr zaM rfl)) ?_
         refine FB.t (i:=6) (bs 16 127) rfl (SP.nil SGe.sl) rfl (fun w' hw'=>(E.load rfl (zaf Tryz.isAgg9 (atGi.now hw') rfl))) ?_
         refine FB.t (i:=7) (bs 16 255) rfl (SP.nil SGe.sl) rfl (fun w' hw'=>(E.move (v:=v86) rfl)) ?_
         obtain ⟨qGp,vGr,vGs,rfl,atGq,hGt,hGu⟩:=FAt.open h88 hy496
         refine FB.t (i:=8) (bs 16 511) rfl (SP.nil SGe.sl) rfl (fun w' hw'=>(E.nilCheck rfl)) ?_
         refine FB.t (i:=9) (bs 16 1023) rfl (SP.nil SGe.sl) rfl (fun w' hw'=>(E.fieldAddr zaM rfl)) ?_
         refine FB.t (i:=10) (bs 16 2047) rfl (SP.nil SGe.sl) rfl (fun w' hw'=>(E.load rfl (zaf Tryz.isAgg9 (atGq.now hw') rfl))) ?_
         refine FB.all1 (i:=11) (by kernel_rfl) ?_
         ·
          obtain ⟨vGv,wGw,runGx,SGy⟩:=SGe.buildSlice (P:=Tryz.prog) te22 [Value.string yGf.text,Value.string yGn.text] (parts:=#[(0,Value.string yGf.text),(1,Value.string yGn.text)]) (cells:=[Value.string yGf.text,Value.string yGn.text]) rfl (zan rfl (zan rfl zal)) (zam rfl (zam rfl zak)) (zaa rfl (zaa rfl zag)) (Nat.le_of_ble_eq_true rfl)
          have elsGz:Els (up wa.heap.size H71) eS 1 [Value.string yGf.text,Value.string yGn.text] [yGf.text,yGn.text]:=(Els.snoc (H:=(up wa.heap.size H71)) (E:=eS) (k:=1) (c:=[Value.string yGn.text]) (x:=yGn.text) (Els.snoc (H:=(up wa.heap.size H71)) (E:=eS) (k:=1) (c:=[Value.string yGf.text]) (x:=yGf.text) Els.nil rfl rfl) rfl rfl)
          refine FC.val (l':=(bs 16 4095)) rfl (by kernel_rfl) rfl rfl rfl (E.buildSlice (B2 rfl rfl) runGx) ?_
          refine ⟨(SP.nil SGy.sl),?_⟩
          refine FB.all1 (i:=12) (by kernel_rfl) ?_
          ·
           obtain ⟨HGA,SGB,iGC,hGD,nvGE⟩:=SGy.sealRowU (i:=2) (l':=[.row 9 1 vGv 2 [Value.string yGf.text,Value.string yGn.text],.row 9 1 v62 n63 cs64]) rfl els70 (by decide) rfl
           obtain ⟨HGF,SGG,iGH,hGI,nvGJ⟩:=SGB.sealRowU (i:=0) (l':=[.row 9 1 v62 n63 cs64]) rfl (elsGz.mono (zai iGC)) (by decide) rfl
           refine FC.call (l':=(bs 16 8191)) rfl (by kernel_rfl) rfl rfl rfl (E.call Tryz.call68 (A2 rfl rfl)) (zaw SGG.sl v66 r50 (hGD.mono (upI.tr iGH)) vGv [yGf.text,yGn.text] (hGI.mono upI) hrGL) ?_
           rintro e wGN ⟨HGM,vGS,nGT,csGU,rfl,rGP,elsGV⟩
           refine ⟨_,rfl,?_⟩
           obtain ⟨HGQ,rGP,hU525⟩:=St.lendX (iGC.tr iGH) SGy.sl rGP
           have elsGV:=elsGV.mono (hU525.tr (up_le SGy.size))
           have SGO:=SGy.join (l':=[.row 9 1 vGS nGT csGU,.row 9 1 vGv 2 [Value.string yGf.text,Value.string yGn.text],.row 9 1 v62 n63 cs64,.row 9 1 v66 n67 cs69]) rGP rfl
           refine ⟨(SP.nil (Sl.of_inc rGP.run.inc SGO.sl)),?_⟩
           obtain ⟨HGW,SGX,iGY,hGZ,nvH0⟩:=SGO.sealRowU (i:=0) (l':=[.row 9 1 vGv 2 [Value.string yGf.text,Value.string yGn.text],.row 9 1 v62 n63 cs64,.row 9 1 v66 n67 cs69]) rfl elsGV (by decide) rfl
           refine FB.t (i:=13) (bs 16 16383) rfl (SP.nil (Sl.of_inc rGP.run.inc SGO.sl)) rfl (fun w' hw'=>(E.build (B2 rfl rfl) (run_build _ 68 #[(0,v0_0),(1,vGS)] #[v0_0,vGS] (by obtain ⟨_,_,rfl⟩:=RSl.ln (p0_0.mono (((i27.tr i73).tr rGP.run.inc).tr iGY));obtain ⟨_,_,rfl⟩:=RSl.ln (hGZ.mono upI);rfl)))) ?_
           refine FB.all1 (i:=14) (by kernel_rfl) ?_
           ·
            obtain ⟨vH1,wH2,runH3,SH4⟩:=SGX.buildSlice (P:=Tryz.prog) te172 [Value.agg #[v0_0,vGS]] (parts:=#[(0,Value.agg #[v0_0,vGS])]) (cells:=[v0_0,vGS]) rfl (zan rfl zal) (zam rfl zak) (zaa p0_0.one (zaa hGZ.one zag)) (Nat.le_of_ble_eq_true rfl)
            have elsH5:Els HGW eSequent 2 [v0_0,vGS] [(zad.mk a0.left rGK)]:=(Els.snoc (H:=HGW) (E:=eSequent) (k:=2) (c:=[v0_0,vGS]) (x:=(zad.mk a0.left rGK)) Els.nil rfl ⟨_,_,rfl,(p0_0.mono (((i27.tr i73).tr rGP.run.inc).tr iGY)),(hGZ.mono upI)⟩)
            refine FC.val (l':=(bs 16 32767)) rfl (by kernel_rfl) rfl rfl rfl (E.buildSlice (B1 rfl) runH3) ?_
            refine ⟨(SP.nil (Sl.of_inc (rGP.run.inc.tr iGY) SH4.sl)),?_⟩
            refine FB.t (i:=15) (bs 16 65535) rfl (SP.nil (Sl.of_inc (rGP.run.inc.tr iGY) SH4.sl)) rfl (fun w' hw'=>(E.assign (v:=vH1) rfl)) ?_
            exact FB.done (by kernel_rfl) ⟨_,_,_,_,(SH4.sel [0] (by decide) rfl),(rGP.run.inc.tr iGY),elsH5,rfl⟩
        ·
         rintro fHe wHd ⟨HHa,vH6,nH7,csH8,SHb,iHc,elsH9,kHf⟩
         refine FW.ret ?_
         obtain rfl:=Option.some.inj hp
         exact ⟨.inr rfl,res1 rfl kHf ⟨_,_,_,_,rfl,SHb,elsH9⟩⟩
       ·
        refine FW.condF rfl cGb ?_
        refine FW.seq (FW.region ?_)
        refine FL.v (E.eql rfl rfl) ?_
        refine FL.v (E.assign (v:=Value.bool (a1 == 8)) rfl) ?_
        refine FL.nil ?_
        rcases ifB hp with ⟨cHg,hp⟩|⟨cHg,hp⟩
        ·
         refine FW.condT rfl cHg ?_
         refine FW.seq ?_
         obtain ⟨yHk,hy555,hp⟩:=bnd hp
         obtain ⟨rHC,hrHD,hp⟩:=bnd hp
         obtain ⟨yHY,hy595,hp⟩:=bnd hp
         obtain ⟨rIg,hrIh,hp⟩:=bnd hp
         refine FW.drawB (Sl H71) (fun f w=>∃ H:GH,∃ vIC:Value,∃ nID:Nat,∃ csIE:List Value,St Ha wa H w [.row 68 2 vIC nID csIE]∧Inc H71 H∧Els H eSequent 2 csIE [(zad.mk r40 rHC),(zad.mk rIg a0.right)]∧f 6=vIC) (by kernel_rfl) S90.sl ?_ ?_
         ·
          intro wHh rHi
          have SHj:=S90.call rHi
          refine FB.t (i:=0) (bs 22 1) rfl (SP.nil SHj.sl) rfl (fun w' hw'=>(E.move k79)) ?_
          refine FB.t (i:=1) (bs 22 3) rfl (SP.nil SHj.sl) rfl (fun w' hw'=>(E.fieldAddr zas k78)) ?_
          refine FB.t (i:=2) (bs 22 7) rfl (SP.nil SHj.sl) rfl (fun w' hw'=>(E.load rfl (zaf Tryz.isAgg22 ((at28.mono i73).now hw') rfl))) ?_
          refine FB.t (i:=3) (bs 22 15) rfl (SP.nil SHj.sl) rfl (fun w' hw'=>(E.move (v:=v85) rfl)) ?_
          obtain ⟨qHm,vHo,vHp,rfl,atHn,hHq,hHr⟩:=FAt.open h87 hy555
          refine FB.t (i:=4) (bs 22 31) rfl (SP.nil SHj.sl) rfl (fun w' hw'=>(E.nilCheck rfl)) ?_
          refine FB.t (i:=5) (bs 22 63) rfl (SP.nil SHj.sl) rfl (fun w' hw'=>(E.fieldAddr zaM rfl)) ?_
          refine FB.t (i:=6) (bs 22 127) rfl (SP.nil SHj.sl) rfl (fun w' hw'=>(E.load rfl (zaf Tryz.isAgg9 (atHn.now hw') rfl))) ?_
          refine FB.t (i:=10) (bs 22 1151) rfl (SP.nil SHj.sl) rfl (fun w' hw'=>(E.move k79)) ?_
          refine FB.t (i:=11) (bs 22 3199) rfl (SP.nil SHj.sl) rfl (fun w' hw'=>(E.move (v:=v86) rfl)) ?_
          obtain ⟨qI0,vI2,vI3,rfl,atI1,hI4,hI5⟩:=FAt.open h88 hy595
          refine FB.t (i:=12) (bs 22 7295) rfl (SP.nil SHj.sl) rfl (fun w' hw'=>(E.nilCheck rfl)) ?_
          refine FB.t (i:=13) (bs 22 15487) rfl (SP.nil SHj.sl) rfl (fun w' hw'=>(E.fieldAddr zaM rfl)) ?_
          refine FB.t (i:=14) (bs 22 31871) rfl (SP.nil SHj.sl) rfl (fun w' hw'=>(E.load rfl (zaf Tryz.isAgg9 (atI1.now hw') rfl))) ?_
          refine FB.t (i:=17) (bs 22 162943) rfl (SP.nil SHj.sl) rfl (fun w' hw'=>(E.fieldAddr zas k78)) ?_
          refine FB.t (i:=18) (bs 22 425087) rfl (SP.nil SHj.sl) rfl (fun w' hw'=>(E.load rfl (zaf Tryz.isAgg22 ((at28.mono i73).now hw') rfl))) ?_
          refine FB.all2 (i:=7) (j:=15) (by kernel_rfl) ?_ ?_
          ·
           obtain ⟨vHs,wHt,runHu,SHv⟩:=SHj.buildSlice (P:=Tryz.prog) te22 [Value.string yHk.text] (parts:=#[(0,Value.string yHk.text)]) (cells:=[Value.string yHk.text]) rfl (zan rfl zal) (zam rfl zak) (zaa rfl zag) (Nat.le_of_ble_eq_true rfl)
           have elsHw:Els (up wa.heap.size H71) eS 1 [Value.string yHk.text] [yHk.text]:=(Els.snoc (H:=(up wa.heap.size H71)) (E:=eS) (k:=1) (c:=[Value.string yHk.text]) (x:=yHk.text) Els.nil rfl rfl)
           refine FC.val (l':=(bs 22 425215)) rfl (by kernel_rfl) rfl rfl rfl (E.buildSlice (B1 rfl) runHu) ?_
           refine ⟨(SP.nil SHv.sl),?_⟩
           refine FB.all2 (i:=8) (j:=15) (by kernel_rfl) ?_ ?_
           ·
            obtain ⟨HHx,SHy,iHz,hHA,nvHB⟩:=SHv.sealRowU (i:=0) (l':=[.row 9 1 v62 n63 cs64,.row 9 1 v66 n67 cs69]) rfl elsHw (by decide) rfl
            refine FC.call (l':=(bs 22 425471)) rfl (by kernel_rfl) rfl rfl rfl (E.call Tryz.call68 (A2 rfl rfl)) (zaw SHy.sl v0_1 a0.right (p0_1.mono ((i27.tr i73).tr iHz)) vHs [yHk.text] (hHA.mono upI) hrHD) ?_
            rintro e wHF ⟨HHE,vHK,nHL,csHM,rfl,rHH,elsHN⟩
            refine ⟨_,rfl,?_⟩
            obtain ⟨HHI,rHH,hU579⟩:=St.lendX iHz SHv.sl rHH
            have elsHN:=elsHN.mono (hU579.tr (up_le SHv.size))
            have SHG:=SHv.join (l':=[.row 9 1 vHK nHL csHM,.row 9 1 vHs 1 [Value.string yHk.text],.row 9 1 v62 n63 cs64,.row 9 1 v66 n67 cs69]) rHH rfl
            refine ⟨(SP.nil (Sl.of_inc rHH.run.inc SHG.sl)),?_⟩
            obtain ⟨HHO,SHP,iHQ,hHR,nvHS⟩:=SHG.sealRowU (i:=2) (l':=[.row 9 1 vHK nHL csHM,.row 9 1 vHs 1 [Value.string yHk.text],.row 9 1 v66 n67 cs69]) rfl (els65.mono (zai rHH.run.inc)) (by decide) rfl
            obtain ⟨HHT,SHU,iHV,hHW,nvHX⟩:=SHP.sealRowU (i:=0) (l':=[.row 9 1 vHs 1 [Value.string yHk.text],.row 9 1 v66 n67 cs69]) rfl (elsHN.mono (zai iHQ)) (by decide) rfl
            refine FB.t (i:=9) (bs 22 425983) rfl (SP.nil (Sl.of_inc rHH.run.inc SHG.sl)) rfl (fun w' hw'=>(E.build (B2 rfl rfl) (run_build _ 68 #[(0,v62),(1,vHK)] #[v62,vHK] (by obtain ⟨_,_,rfl⟩:=RSl.ln (hHR.mono (upI.tr iHV));obtain ⟨_,_,rfl⟩:=RSl.ln (hHW.mono upI);rfl)))) ?_
            refine FB.all1 (i:=15) (by kernel_rfl) ?_
            ·
             obtain ⟨vI6,wI7,runI8,SI9⟩:=SHU.buildSlice (P:=Tryz.prog) te22 [Value.string yHY.text] (parts:=#[(0,Value.string yHY.text)]) (cells:=[Value.string yHY.text]) rfl (zan rfl zal) (zam rfl zak) (zaa rfl zag) (Nat.le_of_ble_eq_true rfl)
             have elsIa:Els (up wa.heap.size HHT) eS 1 [Value.string yHY.text] [yHY.text]:=(Els.snoc (H:=(up wa.heap.size HHT)) (E:=eS) (k:=1) (c:=[Value.string yHY.text]) (x:=yHY.text) Els.nil rfl rfl)
             refine FC.val (l':=(bs 22 458751)) rfl (by kernel_rfl) rfl rfl rfl (E.buildSlice (B1 rfl) runI8) ?_
             refine ⟨(SP.nil (Sl.of_inc ((rHH.run.inc.tr iHQ).tr iHV) SI9.sl)),?_⟩
             refine FB.all1 (i:=16) (by kernel_rfl) ?_
             ·
              obtain ⟨HIb,SIc,iId,hIe,nvIf⟩:=SI9.sealRowU (i:=0) (l':=[.row 9 1 vHs 1 [Value.string yHk.text],.row 9 1 v66 n67 cs69]) rfl elsIa (by decide) rfl
              refine FC.call (l':=(bs 22 524287)) rfl (by kernel_rfl) rfl rfl rfl (E.call Tryz.call68 (A2 rfl rfl)) (zaw SIc.sl v62 r40 (hHR.mono (upI.tr (iHV.tr iId))) vI6 [yHY.text] (hIe.mono upI) hrIh) ?_
              rintro e wIj ⟨HIi,vIo,nIp,csIq,rfl,rIl,elsIr⟩
              refine ⟨_,rfl,?_⟩
              obtain ⟨HIm,rIl,hU619⟩:=St.lendX iId SI9.sl rIl
              have elsIr:=elsIr.mono (hU619.tr (up_le SI9.size))
              have SIk:=SI9.join (l':=[.row 9 1 vIo nIp csIq,.row 9 1 vI6 1 [Value.string yHY.text],.row 9 1 vHs 1 [Value.string yHk.text],.row 9 1 v66 n67 cs69]) rIl rfl
              refine ⟨(SP.nil (Sl.of_inc (((rHH.run.inc.tr iHQ).tr iHV).tr rIl.run.inc) SIk.sl)),?_⟩
              obtain ⟨HIs,SIt,iIu,hIv,nvIw⟩:=SIk.sealRowU (i:=0) (l':=[.row 9 1 vI6 1 [Value.string yHY.text],.row 9 1 vHs 1 [Value.string yHk.text],.row 9 1 v66 n67 cs69]) rfl elsIr (by decide) rfl
              refine FB.t (i:=19) (bs 22 1048575) rfl (SP.nil (Sl.of_inc (((rHH.run.inc.tr iHQ).tr iHV).tr rIl.run.inc) SIk.sl)) rfl (fun w' hw'=>(E.build (B2 rfl rfl) (run_build _ 68 #[(0,vIo),(1,v0_1)] #[vIo,v0_1] (by obtain ⟨_,_,rfl⟩:=RSl.ln (hIv.mono upI);obtain ⟨_,_,rfl⟩:=RSl.ln (p0_1.mono ((((((i27.tr i73).tr rHH.run.inc).tr iHQ).tr iHV).tr rIl.run.inc).tr iIu));rfl)))) ?_
              refine FB.all1 (i:=20) (by kernel_rfl) ?_
              ·
               obtain ⟨vIx,wIy,runIz,SIA⟩:=SIt.buildSlice (P:=Tryz.prog) te172 [Value.agg #[v62,vHK],Value.agg #[vIo,v0_1]] (parts:=#[(0,Value.agg #[v62,vHK]),(1,Value.agg #[vIo,v0_1])]) (cells:=[v62,vHK,vIo,v0_1]) rfl (zan rfl (zan rfl zal)) (zam rfl (zam rfl zak)) (zaa hHR.one (zaa hHW.one (zaa hIv.one (zaa p0_1.one zag)))) (Nat.le_of_ble_eq_true rfl)
               have elsIB:Els HIs eSequent 2 [v62,vHK,vIo,v0_1] [(zad.mk r40 rHC),(zad.mk rIg a0.right)]:=(Els.snoc (H:=HIs) (E:=eSequent) (k:=2) (c:=[vIo,v0_1]) (x:=(zad.mk rIg a0.right)) (Els.snoc (H:=HIs) (E:=eSequent) (k:=2) (c:=[v62,vHK]) (x:=(zad.mk r40 rHC)) Els.nil rfl ⟨_,_,rfl,(hHR.mono (upI.tr ((iHV.tr rIl.run.inc).tr iIu))),(hHW.mono (upI.tr (rIl.run.inc.tr iIu)))⟩) rfl ⟨_,_,rfl,(hIv.mono upI),(p0_1.mono ((((((i27.tr i73).tr rHH.run.inc).tr iHQ).tr iHV).tr rIl.run.inc).tr iIu))⟩)
               refine FC.val (l':=(bs 22 2097151)) rfl (by kernel_rfl) rfl rfl rfl (E.buildSlice (B2 rfl rfl) runIz) ?_
               refine ⟨(SP.nil (Sl.of_inc ((((rHH.run.inc.tr iHQ).tr iHV).tr rIl.run.inc).tr iIu) SIA.sl)),?_⟩
               refine FB.t (i:=21) (bs 22 4194303) rfl (SP.nil (Sl.of_inc ((((rHH.run.inc.tr iHQ).tr iHV).tr rIl.run.inc).tr iIu) SIA.sl)) rfl (fun w' hw'=>(E.assign (v:=vIx) rfl)) ?_
               exact FB.done (by kernel_rfl) ⟨_,_,_,_,(SIA.sel [0] (by decide) rfl),((((rHH.run.inc.tr iHQ).tr iHV).tr rIl.run.inc).tr iIu),elsIB,rfl⟩
           ·
            obtain ⟨vI6,wI7,runI8,SI9⟩:=SHv.buildSlice (P:=Tryz.prog) te22 [Value.string yHY.text] (parts:=#[(0,Value.string yHY.text)]) (cells:=[Value.string yHY.text]) rfl (zan rfl zal) (zam rfl zak) (zaa rfl zag) (Nat.le_of_ble_eq_true rfl)
            have elsIa:Els (up wa.heap.size H71) eS 1 [Value.string yHY.text] [yHY.text]:=(Els.snoc (H:=(up wa.heap.size H71)) (E:=eS) (k:=1) (c:=[Value.string yHY.text]) (x:=yHY.text) Els.nil rfl rfl)
            refine FC.val (l':=(bs 22 457983)) rfl (by kernel_rfl) rfl rfl rfl (E.buildSlice (B1 rfl) runI8) ?_
            refine ⟨(SP.nil SI9.sl),?_⟩
            refine FB.all1 (i:=8) (by kernel_rfl) ?_
            ·
             obtain ⟨HHx,SHy,iHz,hHA,nvHB⟩:=SI9.sealRowU (i:=1) (l':=[.row 9 1 vI6 1 [Value.string yHY.text],.row 9 1 v62 n63 cs64,.row 9 1 v66 n67 cs69]) rfl elsHw (by decide) rfl
             refine FC.call (l':=(bs 22 458239)) rfl (by kernel_rfl) rfl rfl rfl (E.call Tryz.call68 (A2 rfl rfl)) (zaw SHy.sl v0_1 a0.right (p0_1.mono ((i27.tr i73).tr iHz)) vHs [yHk.text] (hHA.mono upI) hrHD) ?_
             rintro e wHF ⟨HHE,vHK,nHL,csHM,rfl,rHH,elsHN⟩
             refine ⟨_,rfl,?_⟩
             obtain ⟨HHI,rHH,hU579⟩:=St.lendX iHz SI9.sl rHH
             have elsHN:=elsHN.mono (hU579.tr (up_le SI9.size))
             have SHG:=SI9.join (l':=[.row 9 1 vHK nHL csHM,.row 9 1 vI6 1 [Value.string yHY.text],.row 9 1 vHs 1 [Value.string yHk.text],.row 9 1 v62 n63 cs64,.row 9 1 v66 n67 cs69]) rHH rfl
             refine ⟨(SP.nil (Sl.of_inc rHH.run.inc SHG.sl)),?_⟩
             obtain ⟨HHO,SHP,iHQ,hHR,nvHS⟩:=SHG.sealRowU (i:=3) (l':=[.row 9 1 vHK nHL csHM,.row 9 1 vI6 1 [Value.string yHY.text],.row 9 1 vHs 1 [Value.string yHk.text],.row 9 1 v66 n67 cs69]) rfl (els65.mono (zai rHH.run.inc)) (by decide) rfl
             obtain ⟨HHT,SHU,iHV,hHW,nvHX⟩:=SHP.sealRowU (i:=0) (l':=[.row 9 1 vI6 1 [Value.string yHY.text],.row 9 1 vHs 1 [Value.string yHk.text],.row 9 1 v66 n67 cs69]) rfl (elsHN.mono (zai iHQ)) (by decide) rfl
             refine FB.t (i:=9) (bs 22 458751) rfl (SP.nil (Sl.of_inc rHH.run.inc SHG.sl)) rfl (fun w' hw'=>(E.build (B2 rfl rfl) (run_build _ 68 #[(0,v62),(1,vHK)] #[v62,vHK] (by obtain ⟨_,_,rfl⟩:=RSl.ln (hHR.mono (upI.tr iHV));obtain ⟨_,_,rfl⟩:=RSl.ln (hHW.mono upI);rfl)))) ?_
             refine FB.all1 (i:=16) (by kernel_rfl) ?_
             ·
              obtain ⟨HIb,SIc,iId,hIe,nvIf⟩:=SHU.sealRowU (i:=0) (l':=[.row 9 1 vHs 1 [Value.string yHk.text],.row 9 1 v66 n67 cs69]) rfl (elsIa.mono (zai ((rHH.run.inc.tr iHQ).tr iHV))) (by decide) rfl
              refine FC.call (l':=(bs 22 524287)) rfl (by kernel_rfl) rfl rfl rfl (E.call Tryz.call68 (A2 rfl rfl)) (zaw SIc.sl v62 r40 (hHR.mono (upI.tr (iHV.tr iId))) vI6 [yHY.text] (hIe.mono upI) hrIh) ?_
              rintro e wIj ⟨HIi,vIo,nIp,csIq,rfl,rIl,elsIr⟩
              refine ⟨_,rfl,?_⟩
              obtain ⟨HIm,rIl,hU619⟩:=St.lendX iId SHU.sl rIl
              have elsIr:=elsIr.mono (hU619.tr (up_le SHU.size))
              have SIk:=SHU.join (l':=[.row 9 1 vIo nIp csIq,.row 9 1 vI6 1 [Value.string yHY.text],.row 9 1 vHs 1 [Value.string yHk.text],.row 9 1 v66 n67 cs69]) rIl rfl
              refine ⟨(SP.nil (Sl.of_inc (((rHH.run.inc.tr iHQ).tr iHV).tr rIl.run.inc) SIk.sl)),?_⟩
              obtain ⟨HIs,SIt,iIu,hIv,nvIw⟩:=SIk.sealRowU (i:=0) (l':=[.row 9 1 vI6 1 [Value.string yHY.text],.row 9 1 vHs 1 [Value.string yHk.text],.row 9 1 v66 n67 cs69]) rfl elsIr (by decide) rfl
              refine FB.t (i:=19) (bs 22 1048575) rfl (SP.nil (Sl.of_inc (((rHH.run.inc.tr iHQ).tr iHV).tr rIl.run.inc) SIk.sl)) rfl (fun w' hw'=>(E.build (B2 rfl rfl) (run_build _ 68 #[(0,vIo),(1,v0_1)] #[vIo,v0_1] (by obtain ⟨_,_,rfl⟩:=RSl.ln (hIv.mono upI);obtain ⟨_,_,rfl⟩:=RSl.ln (p0_1.mono ((((((i27.tr i73).tr rHH.run.inc).tr iHQ).tr iHV).tr rIl.run.inc).tr iIu));rfl)))) ?_
              refine FB.all1 (i:=20) (by kernel_rfl) ?_
              ·
               obtain ⟨vIx,wIy,runIz,SIA⟩:=SIt.buildSlice (P:=Tryz.prog) te172 [Value.agg #[v62,vHK],Value.agg #[vIo,v0_1]] (parts:=#[(0,Value.agg #[v62,vHK]),(1,Value.agg #[vIo,v0_1])]) (cells:=[v62,vHK,vIo,v0_1]) rfl (zan rfl (zan rfl zal)) (zam rfl (zam rfl zak)) (zaa hHR.one (zaa hHW.one (zaa hIv.one (zaa p0_1.one zag)))) (Nat.le_of_ble_eq_true rfl)
               have elsIB:Els HIs eSequent 2 [v62,vHK,vIo,v0_1] [(zad.mk r40 rHC),(zad.mk rIg a0.right)]:=(Els.snoc (H:=HIs) (E:=eSequent) (k:=2) (c:=[vIo,v0_1]) (x:=(zad.mk rIg a0.right)) (Els.snoc (H:=HIs) (E:=eSequent) (k:=2) (c:=[v62,vHK]) (x:=(zad.mk r40 rHC)) Els.nil rfl ⟨_,_,rfl,(hHR.mono (upI.tr ((iHV.tr rIl.run.inc).tr iIu))),(hHW.mono (upI.tr (rIl.run.inc.tr iIu)))⟩) rfl ⟨_,_,rfl,(hIv.mono upI),(p0_1.mono ((((((i27.tr i73).tr rHH.run.inc).tr iHQ).tr iHV).tr rIl.run.inc).tr iIu))⟩)
               refine FC.val (l':=(bs 22 2097151)) rfl (by kernel_rfl) rfl rfl rfl (E.buildSlice (B2 rfl rfl) runIz) ?_
               refine ⟨(SP.nil (Sl.of_inc ((((rHH.run.inc.tr iHQ).tr iHV).tr rIl.run.inc).tr iIu) SIA.sl)),?_⟩
               refine FB.t (i:=21) (bs 22 4194303) rfl (SP.nil (Sl.of_inc ((((rHH.run.inc.tr iHQ).tr iHV).tr rIl.run.inc).tr iIu) SIA.sl)) rfl (fun w' hw'=>(E.assign (v:=vIx) rfl)) ?_
               exact FB.done (by kernel_rfl) ⟨_,_,_,_,(SIA.sel [0] (by decide) rfl),((((rHH.run.inc.tr iHQ).tr iHV).tr rIl.run.inc).tr iIu),elsIB,rfl⟩
          ·
           obtain ⟨vI6,wI7,runI8,SI9⟩:=SHj.buildSlice (P:=Tryz.prog) te22 [Value.string yHY.text] (parts:=#[(0,Value.string yHY.text)]) (cells:=[Value.string yHY.text]) rfl (zan rfl zal) (zam rfl zak) (zaa rfl zag) (Nat.le_of_ble_eq_true rfl)
           have elsIa:Els (up wa.heap.size H71) eS 1 [Value.string yHY.text] [yHY.text]:=(Els.snoc (H:=(up wa.heap.size H71)) (E:=eS) (k:=1) (c:=[Value.string yHY.text]) (x:=yHY.text) Els.nil rfl rfl)
           refine FC.val (l':=(bs 22 457855)) rfl (by kernel_rfl) rfl rfl rfl (E.buildSlice (B1 rfl) runI8) ?_
           refine ⟨(SP.nil SI9.sl),?_⟩
           refine FB.all1 (i:=7) (by kernel_rfl) ?_
           ·
            obtain ⟨vHs,wHt,runHu,SHv⟩:=SI9.buildSlice (P:=Tryz.prog) te22 [Value.string yHk.text] (parts:=#[(0,Value.string yHk.text)]) (cells:=[Value.string yHk.text]) rfl (zan rfl zal) (zam rfl zak) (zaa rfl zag) (Nat.le_of_ble_eq_true rfl)
            have elsHw:Els (up wa.heap.size H71) eS 1 [Value.string yHk.text] [yHk.text]:=(Els.snoc (H:=(up wa.heap.size H71)) (E:=eS) (k:=1) (c:=[Value.string yHk.text]) (x:=yHk.text) Els.nil rfl rfl)
            refine FC.val (l':=(bs 22 457983)) rfl (by kernel_rfl) rfl rfl rfl (E.buildSlice (B1 rfl) runHu) ?_
            refine ⟨(SP.nil SHv.sl),?_⟩
            refine FB.all1 (i:=8) (by kernel_rfl) ?_
            ·
             obtain ⟨HHx,SHy,iHz,hHA,nvHB⟩:=SHv.sealRowU (i:=0) (l':=[.row 9 1 vI6 1 [Value.string yHY.text],.row 9 1 v62 n63 cs64,.row 9 1 v66 n67 cs69]) rfl elsHw (by decide) rfl
             refine FC.call (l':=(bs 22 458239)) rfl (by kernel_rfl) rfl rfl rfl (E.call Tryz.call68 (A2 rfl rfl)) (zaw SHy.sl v0_1 a0.right (p0_1.mono ((i27.tr i73).tr iHz)) vHs [yHk.text] (hHA.mono upI) hrHD) ?_
             rintro e wHF ⟨HHE,vHK,nHL,csHM,rfl,rHH,elsHN⟩
             refine ⟨_,rfl,?_⟩
             obtain ⟨HHI,rHH,hU579⟩:=St.lendX iHz SHv.sl rHH
             have elsHN:=elsHN.mono (hU579.tr (up_le SHv.size))
             have SHG:=SHv.join (l':=[.row 9 1 vHK nHL csHM,.row 9 1 vHs 1 [Value.string yHk.text],.row 9 1 vI6 1 [Value.string yHY.text],.row 9 1 v62 n63 cs64,.row 9 1 v66 n67 cs69]) rHH rfl
             refine ⟨(SP.nil (Sl.of_inc rHH.run.inc SHG.sl)),?_⟩
             obtain ⟨HHO,SHP,iHQ,hHR,nvHS⟩:=SHG.sealRowU (i:=3) (l':=[.row 9 1 vHK nHL csHM,.row 9 1 vHs 1 [Value.string yHk.text],.row 9 1 vI6 1 [Value.string yHY.text],.row 9 1 v66 n67 cs69]) rfl (els65.mono (zai rHH.run.inc)) (by decide) rfl
             obtain ⟨HHT,SHU,iHV,hHW,nvHX⟩:=SHP.sealRowU (i:=0) (l':=[.row 9 1 vHs 1 [Value.string yHk.text],.row 9 1 vI6 1 [Value.string yHY.text],.row 9 1 v66 n67 cs69]) rfl (elsHN.mono (zai iHQ)) (by decide) rfl
             refine FB.t (i:=9) (bs 22 458751) rfl (SP.nil (Sl.of_inc rHH.run.inc SHG.sl)) rfl (fun w' hw'=>(E.build (B2 rfl rfl) (run_build _ 68 #[(0,v62),(1,vHK)] #[v62,vHK] (by obtain ⟨_,_,rfl⟩:=RSl.ln (hHR.mono (upI.tr iHV));obtain ⟨_,_,rfl⟩:=RSl.ln (hHW.mono upI);rfl)))) ?_
             refine FB.all1 (i:=16) (by kernel_rfl) ?_
             ·
              obtain ⟨HIb,SIc,iId,hIe,nvIf⟩:=SHU.sealRowU (i:=1) (l':=[.row 9 1 vHs 1 [Value.string yHk.text],.row 9 1 v66 n67 cs69]) rfl (elsIa.mono (zai ((rHH.run.inc.tr iHQ).tr iHV))) (by decide) rfl
              refine FC.call (l':=(bs 22 524287)) rfl (by kernel_rfl) rfl rfl rfl (E.call Tryz.call68 (A2 rfl rfl)) (zaw SIc.sl v62 r40 (hHR.mono (upI.tr (iHV.tr iId))) vI6 [yHY.text] (hIe.mono upI) hrIh) ?_
              rintro e wIj ⟨HIi,vIo,nIp,csIq,rfl,rIl,elsIr⟩
              refine ⟨_,rfl,?_⟩
              obtain ⟨HIm,rIl,hU619⟩:=St.lendX iId SHU.sl rIl
              have elsIr:=elsIr.mono (hU619.tr (up_le SHU.size))
              have SIk:=SHU.join (l':=[.row 9 1 vIo nIp csIq,.row 9 1 vHs 1 [Value.string yHk.text],.row 9 1 vI6 1 [Value.string yHY.text],.row 9 1 v66 n67 cs69]) rIl rfl
              refine ⟨(SP.nil (Sl.of_inc (((rHH.run.inc.tr iHQ).tr iHV).tr rIl.run.inc) SIk.sl)),?_⟩
              obtain ⟨HIs,SIt,iIu,hIv,nvIw⟩:=SIk.sealRowU (i:=0) (l':=[.row 9 1 vHs 1 [Value.string yHk.text],.row 9 1 vI6 1 [Value.string yHY.text],.row 9 1 v66 n67 cs69]) rfl elsIr (by decide) rfl
              refine FB.t (i:=19) (bs 22 1048575) rfl (SP.nil (Sl.of_inc (((rHH.run.inc.tr iHQ).tr iHV).tr rIl.run.inc) SIk.sl)) rfl (fun w' hw'=>(E.build (B2 rfl rfl) (run_build _ 68 #[(0,vIo),(1,v0_1)] #[vIo,v0_1] (by obtain ⟨_,_,rfl⟩:=RSl.ln (hIv.mono upI);obtain ⟨_,_,rfl⟩:=RSl.ln (p0_1.mono ((((((i27.tr i73).tr rHH.run.inc).tr iHQ).tr iHV).tr rIl.run.inc).tr iIu));rfl)))) ?_
              refine FB.all1 (i:=20) (by kernel_rfl) ?_
              ·
               obtain ⟨vIx,wIy,runIz,SIA⟩:=SIt.buildSlice (P:=Tryz.prog) te172 [Value.agg #[v62,vHK],Value.agg #[vIo,v0_1]] (parts:=#[(0,Value.agg #[v62,vHK]),(1,Value.agg #[vIo,v0_1])]) (cells:=[v62,vHK,vIo,v0_1]) rfl (zan rfl (zan rfl zal)) (zam rfl (zam rfl zak)) (zaa hHR.one (zaa hHW.one (zaa hIv.one (zaa p0_1.one zag)))) (Nat.le_of_ble_eq_true rfl)
               have elsIB:Els HIs eSequent 2 [v62,vHK,vIo,v0_1] [(zad.mk r40 rHC),(zad.mk rIg a0.right)]:=(Els.snoc (H:=HIs) (E:=eSequent) (k:=2) (c:=[vIo,v0_1]) (x:=(zad.mk rIg a0.right)) (Els.snoc (H:=HIs) (E:=eSequent) (k:=2) (c:=[v62,vHK]) (x:=(zad.mk r40 rHC)) Els.nil rfl ⟨_,_,rfl,(hHR.mono (upI.tr ((iHV.tr rIl.run.inc).tr iIu))),(hHW.mono (upI.tr (rIl.run.inc.tr iIu)))⟩) rfl ⟨_,_,rfl,(hIv.mono upI),(p0_1.mono ((((((i27.tr i73).tr rHH.run.inc).tr iHQ).tr iHV).tr rIl.run.inc).tr iIu))⟩)
               refine FC.val (l':=(bs 22 2097151)) rfl (by kernel_rfl) rfl rfl rfl (E.buildSlice (B2 rfl rfl) runIz) ?_
               refine ⟨(SP.nil (Sl.of_inc ((((rHH.run.inc.tr iHQ).tr iHV).tr rIl.run.inc).tr iIu) SIA.sl)),?_⟩
               refine FB.t (i:=21) (bs 22 4194303) rfl (SP.nil (Sl.of_inc ((((rHH.run.inc.tr iHQ).tr iHV).tr rIl.run.inc).tr iIu) SIA.sl)) rfl (fun w' hw'=>(E.assign (v:=vIx) rfl)) ?_
               exact FB.done (by kernel_rfl) ⟨_,_,_,_,(SIA.sel [0] (by decide) rfl),((((rHH.run.inc.tr iHQ).tr iHV).tr rIl.run.inc).tr iIu),elsIB,rfl⟩
         ·
          rintro fIK wIJ ⟨HIG,vIC,nID,csIE,SIH,iII,elsIF,kIL⟩
          refine FW.ret ?_
          obtain rfl:=Option.some.inj hp
          exact ⟨.inr rfl,res1 rfl kIL ⟨_,_,_,_,rfl,SIH,elsIF⟩⟩
        ·
         refine FW.condF rfl cHg ?_
         refine FW.skip (FW.seq ?_)
         obtain ⟨yIP,hy648,hp⟩:=bnd hp
         obtain ⟨rJ7,hrJ8,hp⟩:=bnd hp
         obtain ⟨yJj,hy678,hp⟩:=bnd hp
         obtain ⟨rJG,hrJH,hp⟩:=bnd hp
         refine FW.drawB (Sl H71) (fun f w=>∃ H:GH,∃ vK9:Value,∃ nKa:Nat,∃ csKb:List Value,St Ha wa H w [.row 68 2 vK9 nKa csKb]∧Inc H71 H∧Els (up wa.heap.size H) eSequent 2 csKb [(zad.mk rJ7 rJG)]∧(bl csKb).Nodup∧f 6=vK9) (by kernel_rfl) S90.sl ?_ ?_
         ·
          intro wIM rIN
          have SIO:=S90.call rIN
          refine FB.t (i:=0) (bs 18 1) rfl (SP.nil SIO.sl) rfl (fun w' hw'=>(E.fieldAddr zau k78)) ?_
          refine FB.t (i:=1) (bs 18 3) rfl (SP.nil SIO.sl) rfl (fun w' hw'=>(E.load rfl (zaf Tryz.isAgg22 ((at28.mono i73).now hw') rfl))) ?_
          refine FB.t (i:=2) (bs 18 7) rfl (SP.nil SIO.sl) rfl (fun w' hw'=>(E.move (v:=v85) rfl)) ?_
          obtain ⟨qIR,vIT,vIU,rfl,atIS,hIV,hIW⟩:=FAt.open h87 hy648
          refine FB.t (i:=3) (bs 18 15) rfl (SP.nil SIO.sl) rfl (fun w' hw'=>(E.nilCheck rfl)) ?_
          refine FB.t (i:=4) (bs 18 31) rfl (SP.nil SIO.sl) rfl (fun w' hw'=>(E.fieldAddr zaM rfl)) ?_
          refine FB.t (i:=5) (bs 18 63) rfl (SP.nil SIO.sl) rfl (fun w' hw'=>(E.load rfl (zaf Tryz.isAgg9 (atIS.now hw') rfl))) ?_
          refine FB.t (i:=8) (bs 18 319) rfl (SP.nil SIO.sl) rfl (fun w' hw'=>(E.move k80)) ?_
          refine FB.t (i:=9) (bs 18 831) rfl (SP.nil SIO.sl) rfl (fun w' hw'=>(E.move (v:=v86) rfl)) ?_
          obtain ⟨qJl,vJn,vJo,rfl,atJm,hJp,hJq⟩:=FAt.open h88 hy678
          refine FB.t (i:=10) (bs 18 1855) rfl (SP.nil SIO.sl) rfl (fun w' hw'=>(E.nilCheck rfl)) ?_
          refine FB.t (i:=11) (bs 18 3903) rfl (SP.nil SIO.sl) rfl (fun w' hw'=>(E.fieldAddr zaM rfl)) ?_
          refine FB.t (i:=12) (bs 18 7999) rfl (SP.nil SIO.sl) rfl (fun w' hw'=>(E.load rfl (zaf Tryz.isAgg9 (atJm.now hw') rfl))) ?_
          refine FB.all2 (i:=6) (j:=13) (by kernel_rfl) ?_ ?_
          ·
           obtain ⟨vIX,wIY,runIZ,SJ0⟩:=SIO.buildSlice (P:=Tryz.prog) te22 [Value.string yIP.text] (parts:=#[(0,Value.string yIP.text)]) (cells:=[Value.string yIP.text]) rfl (zan rfl zal) (zam rfl zak) (zaa rfl zag) (Nat.le_of_ble_eq_true rfl)
           have elsJ1:Els (up wa.heap.size H71) eS 1 [Value.string yIP.text] [yIP.text]:=(Els.snoc (H:=(up wa.heap.size H71)) (E:=eS) (k:=1) (c:=[Value.string yIP.text]) (x:=yIP.text) Els.nil rfl rfl)
           refine FC.val (l':=(bs 18 8063)) rfl (by kernel_rfl) rfl rfl rfl (E.buildSlice (B1 rfl) runIZ) ?_
           refine ⟨(SP.nil SJ0.sl),?_⟩
           refine FB.all2 (i:=7) (j:=13) (by kernel_rfl) ?_ ?_
           ·
            obtain ⟨HJ2,SJ3,iJ4,hJ5,nvJ6⟩:=SJ0.sealRowU (i:=0) (l':=[.row 9 1 v62 n63 cs64,.row 9 1 v66 n67 cs69]) rfl elsJ1 (by decide) rfl
            refine FC.call (l':=(bs 18 8191)) rfl (by kernel_rfl) rfl rfl rfl (E.call Tryz.call68 (A2 rfl rfl)) (zaw SJ3.sl v0_0 a0.left (p0_0.mono ((i27.tr i73).tr iJ4)) vIX [yIP.text] (hJ5.mono upI) hrJ8) ?_
            rintro e wJa ⟨HJ9,vJf,nJg,csJh,rfl,rJc,elsJi⟩
            refine ⟨_,rfl,?_⟩
            obtain ⟨HJd,rJc,hU672⟩:=St.lendX iJ4 SJ0.sl rJc
            have elsJi:=elsJi.mono (hU672.tr (up_le SJ0.size))
            have SJb:=SJ0.join (l':=[.row 9 1 vJf nJg csJh,.row 9 1 vIX 1 [Value.string yIP.text],.row 9 1 v62 n63 cs64,.row 9 1 v66 n67 cs69]) rJc rfl
            refine ⟨(SP.nil (Sl.of_inc rJc.run.inc SJb.sl)),?_⟩
            refine FB.all1 (i:=13) (by kernel_rfl) ?_
            ·
             obtain ⟨vJr,wJs,runJt,SJu⟩:=SJb.buildSlice (P:=Tryz.prog) te22 [Value.string yJj.text] (parts:=#[(0,Value.string yJj.text)]) (cells:=[Value.string yJj.text]) rfl (zan rfl zal) (zam rfl zak) (zaa rfl zag) (Nat.le_of_ble_eq_true rfl)
             have elsJv:Els (up wa.heap.size HJd) eS 1 [Value.string yJj.text] [yJj.text]:=(Els.snoc (H:=(up wa.heap.size HJd)) (E:=eS) (k:=1) (c:=[Value.string yJj.text]) (x:=yJj.text) Els.nil rfl rfl)
             refine FC.val (l':=(bs 18 16383)) rfl (by kernel_rfl) rfl rfl rfl (E.buildSlice (B1 rfl) runJt) ?_
             refine ⟨(SP.nil (Sl.of_inc rJc.run.inc SJu.sl)),?_⟩
             refine FB.all1 (i:=14) (by kernel_rfl) ?_
             ·
              obtain ⟨HJw,SJx,iJy,hJz,nvJA⟩:=SJu.sealRowU (i:=4) (l':=[.row 9 1 vJr 1 [Value.string yJj.text],.row 9 1 vJf nJg csJh,.row 9 1 vIX 1 [Value.string yIP.text],.row 9 1 v62 n63 cs64]) rfl (els70.mono (zai rJc.run.inc)) (by decide) rfl
              obtain ⟨HJB,SJC,iJD,hJE,nvJF⟩:=SJx.sealRowU (i:=0) (l':=[.row 9 1 vJf nJg csJh,.row 9 1 vIX 1 [Value.string yIP.text],.row 9 1 v62 n63 cs64]) rfl (elsJv.mono (zai iJy)) (by decide) rfl
              refine FC.call (l':=(bs 18 32767)) rfl (by kernel_rfl) rfl rfl rfl (E.call Tryz.call68 (A2 rfl rfl)) (zaw SJC.sl v66 r50 (hJz.mono (upI.tr iJD)) vJr [yJj.text] (hJE.mono upI) hrJH) ?_
              rintro e wJJ ⟨HJI,vJO,nJP,csJQ,rfl,rJL,elsJR⟩
              refine ⟨_,rfl,?_⟩
              obtain ⟨HJM,rJL,hU707⟩:=St.lendX (iJy.tr iJD) SJu.sl rJL
              have elsJR:=elsJR.mono (hU707.tr (up_le SJu.size))
              have SJK:=SJu.join (l':=[.row 9 1 vJO nJP csJQ,.row 9 1 vJr 1 [Value.string yJj.text],.row 9 1 vJf nJg csJh,.row 9 1 vIX 1 [Value.string yIP.text],.row 9 1 v62 n63 cs64,.row 9 1 v66 n67 cs69]) rJL rfl
              refine ⟨(SP.nil (Sl.of_inc (rJc.run.inc.tr rJL.run.inc) SJK.sl)),?_⟩
              obtain ⟨HJS,SJT,iJU,hJV,nvJW⟩:=SJK.sealRowU (i:=2) (l':=[.row 9 1 vJO nJP csJQ,.row 9 1 vJr 1 [Value.string yJj.text],.row 9 1 vIX 1 [Value.string yIP.text],.row 9 1 v62 n63 cs64,.row 9 1 v66 n67 cs69]) rfl (elsJi.mono (zai rJL.run.inc)) (by decide) rfl
              obtain ⟨HJX,SJY,iJZ,hK0,nvK1⟩:=SJT.sealRowU (i:=0) (l':=[.row 9 1 vJr 1 [Value.string yJj.text],.row 9 1 vIX 1 [Value.string yIP.text],.row 9 1 v62 n63 cs64,.row 9 1 v66 n67 cs69]) rfl (elsJR.mono (zai iJU)) (by decide) rfl
              refine FB.t (i:=15) (bs 18 65535) rfl (SP.nil (Sl.of_inc (rJc.run.inc.tr rJL.run.inc) SJK.sl)) rfl (fun w' hw'=>(E.build (B2 rfl rfl) (run_build _ 68 #[(0,vJf),(1,vJO)] #[vJf,vJO] (by obtain ⟨_,_,rfl⟩:=RSl.ln (hJV.mono (upI.tr iJZ));obtain ⟨_,_,rfl⟩:=RSl.ln (hK0.mono upI);rfl)))) ?_
              refine FB.all1 (i:=16) (by kernel_rfl) ?_
              ·
               obtain ⟨vK2,wK3,runK4,SK5⟩:=SJY.buildSlice (P:=Tryz.prog) te172 [Value.agg #[vJf,vJO]] (parts:=#[(0,Value.agg #[vJf,vJO])]) (cells:=[vJf,vJO]) rfl (zan rfl zal) (zam rfl zak) (zaa hJV.one (zaa hK0.one zag)) (Nat.le_of_ble_eq_true rfl)
               have elsK6:Els (up wa.heap.size HJX) eSequent 2 [vJf,vJO] [(zad.mk rJ7 rJG)]:=(Els.snoc (H:=(up wa.heap.size HJX)) (E:=eSequent) (k:=2) (c:=[vJf,vJO]) (x:=(zad.mk rJ7 rJG)) Els.nil rfl ⟨_,_,rfl,(hJV.mono (zai iJZ)),hK0⟩)
               have ndK7:(bl [vJf,vJO]).Nodup:=by exact zaR (New.apart (hJV.mono (zai (Inc.rfl _))) nvK1)
               have nvK8:New HJM [vJf,vJO]:=by exact (New.two nvJW (nvK1.anti iJU))
               refine FC.val (l':=(bs 18 131071)) rfl (by kernel_rfl) rfl rfl rfl (E.buildSlice (B1 rfl) runK4) ?_
               refine ⟨(SP.nil (Sl.of_inc (((rJc.run.inc.tr rJL.run.inc).tr iJU).tr iJZ) SK5.sl)),?_⟩
               refine FB.t (i:=17) (bs 18 262143) rfl (SP.nil (Sl.of_inc (((rJc.run.inc.tr rJL.run.inc).tr iJU).tr iJZ) SK5.sl)) rfl (fun w' hw'=>(E.assign (v:=vK2) rfl)) ?_
               exact FB.done (by kernel_rfl) ⟨_,_,_,_,(SK5.sel [0] (by decide) rfl),(((rJc.run.inc.tr rJL.run.inc).tr iJU).tr iJZ),elsK6,ndK7,rfl⟩
           ·
            obtain ⟨vJr,wJs,runJt,SJu⟩:=SJ0.buildSlice (P:=Tryz.prog) te22 [Value.string yJj.text] (parts:=#[(0,Value.string yJj.text)]) (cells:=[Value.string yJj.text]) rfl (zan rfl zal) (zam rfl zak) (zaa rfl zag) (Nat.le_of_ble_eq_true rfl)
            have elsJv:Els (up wa.heap.size H71) eS 1 [Value.string yJj.text] [yJj.text]:=(Els.snoc (H:=(up wa.heap.size H71)) (E:=eS) (k:=1) (c:=[Value.string yJj.text]) (x:=yJj.text) Els.nil rfl rfl)
            refine FC.val (l':=(bs 18 16255)) rfl (by kernel_rfl) rfl rfl rfl (E.buildSlice (B1 rfl) runJt) ?_
            refine ⟨(SP.nil SJu.sl),?_⟩
            refine FB.all1 (i:=7) (by kernel_rfl) ?_
            ·
             obtain ⟨HJ2,SJ3,iJ4,hJ5,nvJ6⟩:=SJu.sealRowU (i:=1) (l':=[.row 9 1 vJr 1 [Value.string yJj.text],.row 9 1 v62 n63 cs64,.row 9 1 v66 n67 cs69]) rfl elsJ1 (by decide) rfl
             refine FC.call (l':=(bs 18 16383)) rfl (by kernel_rfl) rfl rfl rfl (E.call Tryz.call68 (A2 rfl rfl)) (zaw SJ3.sl v0_0 a0.left (p0_0.mono ((i27.tr i73).tr iJ4)) vIX [yIP.text] (hJ5.mono upI) hrJ8) ?_
             rintro e wJa ⟨HJ9,vJf,nJg,csJh,rfl,rJc,elsJi⟩
             refine ⟨_,rfl,?_⟩
             obtain ⟨HJd,rJc,hU672⟩:=St.lendX iJ4 SJu.sl rJc
             have elsJi:=elsJi.mono (hU672.tr (up_le SJu.size))
             have SJb:=SJu.join (l':=[.row 9 1 vJf nJg csJh,.row 9 1 vJr 1 [Value.string yJj.text],.row 9 1 vIX 1 [Value.string yIP.text],.row 9 1 v62 n63 cs64,.row 9 1 v66 n67 cs69]) rJc rfl
             refine ⟨(SP.nil (Sl.of_inc rJc.run.inc SJb.sl)),?_⟩
             refine FB.all1 (i:=14) (by kernel_rfl) ?_
             ·
              obtain ⟨HJw,SJx,iJy,hJz,nvJA⟩:=SJb.sealRowU (i:=4) (l':=[.row 9 1 vJf nJg csJh,.row 9 1 vJr 1 [Value.string yJj.text],.row 9 1 vIX 1 [Value.string yIP.text],.row 9 1 v62 n63 cs64]) rfl (els70.mono (zai rJc.run.inc)) (by decide) rfl
              obtain ⟨HJB,SJC,iJD,hJE,nvJF⟩:=SJx.sealRowU (i:=1) (l':=[.row 9 1 vJf nJg csJh,.row 9 1 vIX 1 [Value.string yIP.text],.row 9 1 v62 n63 cs64]) rfl (elsJv.mono (zai (rJc.run.inc.tr iJy))) (by decide) rfl
              refine FC.call (l':=(bs 18 32767)) rfl (by kernel_rfl) rfl rfl rfl (E.call Tryz.call68 (A2 rfl rfl)) (zaw SJC.sl v66 r50 (hJz.mono (upI.tr iJD)) vJr [yJj.text] (hJE.mono upI) hrJH) ?_
              rintro e wJJ ⟨HJI,vJO,nJP,csJQ,rfl,rJL,elsJR⟩
              refine ⟨_,rfl,?_⟩
              obtain ⟨HJM,rJL,hU707⟩:=St.lendX (iJy.tr iJD) SJb.sl rJL
              have elsJR:=elsJR.mono (hU707.tr (up_le SJb.size))
              have SJK:=SJb.join (l':=[.row 9 1 vJO nJP csJQ,.row 9 1 vJf nJg csJh,.row 9 1 vJr 1 [Value.string yJj.text],.row 9 1 vIX 1 [Value.string yIP.text],.row 9 1 v62 n63 cs64,.row 9 1 v66 n67 cs69]) rJL rfl
              refine ⟨(SP.nil (Sl.of_inc (rJc.run.inc.tr rJL.run.inc) SJK.sl)),?_⟩
              obtain ⟨HJS,SJT,iJU,hJV,nvJW⟩:=SJK.sealRowU (i:=1) (l':=[.row 9 1 vJO nJP csJQ,.row 9 1 vJr 1 [Value.string yJj.text],.row 9 1 vIX 1 [Value.string yIP.text],.row 9 1 v62 n63 cs64,.row 9 1 v66 n67 cs69]) rfl (elsJi.mono (zai rJL.run.inc)) (by decide) rfl
              obtain ⟨HJX,SJY,iJZ,hK0,nvK1⟩:=SJT.sealRowU (i:=0) (l':=[.row 9 1 vJr 1 [Value.string yJj.text],.row 9 1 vIX 1 [Value.string yIP.text],.row 9 1 v62 n63 cs64,.row 9 1 v66 n67 cs69]) rfl (elsJR.mono (zai iJU)) (by decide) rfl
              refine FB.t (i:=15) (bs 18 65535) rfl (SP.nil (Sl.of_inc (rJc.run.inc.tr rJL.run.inc) SJK.sl)) rfl (fun w' hw'=>(E.build (B2 rfl rfl) (run_build _ 68 #[(0,vJf),(1,vJO)] #[vJf,vJO] (by obtain ⟨_,_,rfl⟩:=RSl.ln (hJV.mono (upI.tr iJZ));obtain ⟨_,_,rfl⟩:=RSl.ln (hK0.mono upI);rfl)))) ?_
              refine FB.all1 (i:=16) (by kernel_rfl) ?_
              ·
               obtain ⟨vK2,wK3,runK4,SK5⟩:=SJY.buildSlice (P:=Tryz.prog) te172 [Value.agg #[vJf,vJO]] (parts:=#[(0,Value.agg #[vJf,vJO])]) (cells:=[vJf,vJO]) rfl (zan rfl zal) (zam rfl zak) (zaa hJV.one (zaa hK0.one zag)) (Nat.le_of_ble_eq_true rfl)
               have elsK6:Els (up wa.heap.size HJX) eSequent 2 [vJf,vJO] [(zad.mk rJ7 rJG)]:=(Els.snoc (H:=(up wa.heap.size HJX)) (E:=eSequent) (k:=2) (c:=[vJf,vJO]) (x:=(zad.mk rJ7 rJG)) Els.nil rfl ⟨_,_,rfl,(hJV.mono (zai iJZ)),hK0⟩)
               have ndK7:(bl [vJf,vJO]).Nodup:=by exact zaR (New.apart (hJV.mono (zai (Inc.rfl _))) nvK1)
               have nvK8:New HJM [vJf,vJO]:=by exact (New.two nvJW (nvK1.anti iJU))
               refine FC.val (l':=(bs 18 131071)) rfl (by kernel_rfl) rfl rfl rfl (E.buildSlice (B1 rfl) runK4) ?_
               refine ⟨(SP.nil (Sl.of_inc (((rJc.run.inc.tr rJL.run.inc).tr iJU).tr iJZ) SK5.sl)),?_⟩
               refine FB.t (i:=17) (bs 18 262143) rfl (SP.nil (Sl.of_inc (((rJc.run.inc.tr rJL.run.inc).tr iJU).tr iJZ) SK5.sl)) rfl (fun w' hw'=>(E.assign (v:=vK2) rfl)) ?_
               exact FB.done (by kernel_rfl) ⟨_,_,_,_,(SK5.sel [0] (by decide) rfl),(((rJc.run.inc.tr rJL.run.inc).tr iJU).tr iJZ),elsK6,ndK7,rfl⟩
          ·
           obtain ⟨vJr,wJs,runJt,SJu⟩:=SIO.buildSlice (P:=Tryz.prog) te22 [Value.string yJj.text] (parts:=#[(0,Value.string yJj.text)]) (cells:=[Value.string yJj.text]) rfl (zan rfl zal) (zam rfl zak) (zaa rfl zag) (Nat.le_of_ble_eq_true rfl)
           have elsJv:Els (up wa.heap.size H71) eS 1 [Value.string yJj.text] [yJj.text]:=(Els.snoc (H:=(up wa.heap.size H71)) (E:=eS) (k:=1) (c:=[Value.string yJj.text]) (x:=yJj.text) Els.nil rfl rfl)
           refine FC.val (l':=(bs 18 16191)) rfl (by kernel_rfl) rfl rfl rfl (E.buildSlice (B1 rfl) runJt) ?_
           refine ⟨(SP.nil SJu.sl),?_⟩
           refine FB.all1 (i:=6) (by kernel_rfl) ?_
           ·
            obtain ⟨vIX,wIY,runIZ,SJ0⟩:=SJu.buildSlice (P:=Tryz.prog) te22 [Value.string yIP.text] (parts:=#[(0,Value.string yIP.text)]) (cells:=[Value.string yIP.text]) rfl (zan rfl zal) (zam rfl zak) (zaa rfl zag) (Nat.le_of_ble_eq_true rfl)
            have elsJ1:Els (up wa.heap.size H71) eS 1 [Value.string yIP.text] [yIP.text]:=(Els.snoc (H:=(up wa.heap.size H71)) (E:=eS) (k:=1) (c:=[Value.string yIP.text]) (x:=yIP.text) Els.nil rfl rfl)
            refine FC.val (l':=(bs 18 16255)) rfl (by kernel_rfl) rfl rfl rfl (E.buildSlice (B1 rfl) runIZ) ?_
            refine ⟨(SP.nil SJ0.sl),?_⟩
            refine FB.all1 (i:=7) (by kernel_rfl) ?_
            ·
             obtain ⟨HJ2,SJ3,iJ4,hJ5,nvJ6⟩:=SJ0.sealRowU (i:=0) (l':=[.row 9 1 vJr 1 [Value.string yJj.text],.row 9 1 v62 n63 cs64,.row 9 1 v66 n67 cs69]) rfl elsJ1 (by decide) rfl
             refine FC.call (l':=(bs 18 16383)) rfl (by kernel_rfl) rfl rfl rfl (E.call Tryz.call68 (A2 rfl rfl)) (zaw SJ3.sl v0_0 a0.left (p0_0.mono ((i27.tr i73).tr iJ4)) vIX [yIP.text] (hJ5.mono upI) hrJ8) ?_
             rintro e wJa ⟨HJ9,vJf,nJg,csJh,rfl,rJc,elsJi⟩
             refine ⟨_,rfl,?_⟩
             obtain ⟨HJd,rJc,hU672⟩:=St.lendX iJ4 SJ0.sl rJc
             have elsJi:=elsJi.mono (hU672.tr (up_le SJ0.size))
             have SJb:=SJ0.join (l':=[.row 9 1 vJf nJg csJh,.row 9 1 vIX 1 [Value.string yIP.text],.row 9 1 vJr 1 [Value.string yJj.text],.row 9 1 v62 n63 cs64,.row 9 1 v66 n67 cs69]) rJc rfl
             refine ⟨(SP.nil (Sl.of_inc rJc.run.inc SJb.sl)),?_⟩
             refine FB.all1 (i:=14) (by kernel_rfl) ?_
             ·
              obtain ⟨HJw,SJx,iJy,hJz,nvJA⟩:=SJb.sealRowU (i:=4) (l':=[.row 9 1 vJf nJg csJh,.row 9 1 vIX 1 [Value.string yIP.text],.row 9 1 vJr 1 [Value.string yJj.text],.row 9 1 v62 n63 cs64]) rfl (els70.mono (zai rJc.run.inc)) (by decide) rfl
              obtain ⟨HJB,SJC,iJD,hJE,nvJF⟩:=SJx.sealRowU (i:=2) (l':=[.row 9 1 vJf nJg csJh,.row 9 1 vIX 1 [Value.string yIP.text],.row 9 1 v62 n63 cs64]) rfl (elsJv.mono (zai (rJc.run.inc.tr iJy))) (by decide) rfl
              refine FC.call (l':=(bs 18 32767)) rfl (by kernel_rfl) rfl rfl rfl (E.call Tryz.call68 (A2 rfl rfl)) (zaw SJC.sl v66 r50 (hJz.mono (upI.tr iJD)) vJr [yJj.text] (hJE.mono upI) hrJH) ?_
              rintro e wJJ ⟨HJI,vJO,nJP,csJQ,rfl,rJL,elsJR⟩
              refine ⟨_,rfl,?_⟩
              obtain ⟨HJM,rJL,hU707⟩:=St.lendX (iJy.tr iJD) SJb.sl rJL
              have elsJR:=elsJR.mono (hU707.tr (up_le SJb.size))
              have SJK:=SJb.join (l':=[.row 9 1 vJO nJP csJQ,.row 9 1 vJf nJg csJh,.row 9 1 vIX 1 [Value.string yIP.text],.row 9 1 vJr 1 [Value.string yJj.text],.row 9 1 v62 n63 cs64,.row 9 1 v66 n67 cs69]) rJL rfl
              refine ⟨(SP.nil (Sl.of_inc (rJc.run.inc.tr rJL.run.inc) SJK.sl)),?_⟩
              obtain ⟨HJS,SJT,iJU,hJV,nvJW⟩:=SJK.sealRowU (i:=1) (l':=[.row 9 1 vJO nJP csJQ,.row 9 1 vIX 1 [Value.string yIP.text],.row 9 1 vJr 1 [Value.string yJj.text],.row 9 1 v62 n63 cs64,.row 9 1 v66 n67 cs69]) rfl (elsJi.mono (zai rJL.run.inc)) (by decide) rfl
              obtain ⟨HJX,SJY,iJZ,hK0,nvK1⟩:=SJT.sealRowU (i:=0) (l':=[.row 9 1 vIX 1 [Value.string yIP.text],.row 9 1 vJr 1 [Value.string yJj.text],.row 9 1 v62 n63 cs64,.row 9 1 v66 n67 cs69]) rfl (elsJR.mono (zai iJU)) (by decide) rfl
              refine FB.t (i:=15) (bs 18 65535) rfl (SP.nil (Sl.of_inc (rJc.run.inc.tr rJL.run.inc) SJK.sl)) rfl (fun w' hw'=>(E.build (B2 rfl rfl) (run_build _ 68 #[(0,vJf),(1,vJO)] #[vJf,vJO] (by obtain ⟨_,_,rfl⟩:=RSl.ln (hJV.mono (upI.tr iJZ));obtain ⟨_,_,rfl⟩:=RSl.ln (hK0.mono upI);rfl)))) ?_
              refine FB.all1 (i:=16) (by kernel_rfl) ?_
              ·
               obtain ⟨vK2,wK3,runK4,SK5⟩:=SJY.buildSlice (P:=Tryz.prog) te172 [Value.agg #[vJf,vJO]] (parts:=#[(0,Value.agg #[vJf,vJO])]) (cells:=[vJf,vJO]) rfl (zan rfl zal) (zam rfl zak) (zaa hJV.one (zaa hK0.one zag)) (Nat.le_of_ble_eq_true rfl)
               have elsK6:Els (up wa.heap.size HJX) eSequent 2 [vJf,vJO] [(zad.mk rJ7 rJG)]:=(Els.snoc (H:=(up wa.heap.size HJX)) (E:=eSequent) (k:=2) (c:=[vJf,vJO]) (x:=(zad.mk rJ7 rJG)) Els.nil rfl ⟨_,_,rfl,(hJV.mono (zai iJZ)),hK0⟩)
               have ndK7:(bl [vJf,vJO]).Nodup:=by exact zaR (New.apart (hJV.mono (zai (Inc.rfl _))) nvK1)
               have nvK8:New HJM [vJf,vJO]:=by exact (New.two nvJW (nvK1.anti iJU))
               refine FC.val (l':=(bs 18 131071)) rfl (by kernel_rfl) rfl rfl rfl (E.buildSlice (B1 rfl) runK4) ?_
               refine ⟨(SP.nil (Sl.of_inc (((rJc.run.inc.tr rJL.run.inc).tr iJU).tr iJZ) SK5.sl)),?_⟩
               refine FB.t (i:=17) (bs 18 262143) rfl (SP.nil (Sl.of_inc (((rJc.run.inc.tr rJL.run.inc).tr iJU).tr iJZ) SK5.sl)) rfl (fun w' hw'=>(E.assign (v:=vK2) rfl)) ?_
               exact FB.done (by kernel_rfl) ⟨_,_,_,_,(SK5.sel [0] (by decide) rfl),(((rJc.run.inc.tr rJL.run.inc).tr iJU).tr iJZ),elsK6,ndK7,rfl⟩
         ·
          rintro fKi wKh ⟨HKe,vK9,nKa,csKb,SKf,iKg,elsKc,ndKd,kKj⟩
          refine FW.ret ?_
          obtain rfl:=Option.some.inj hp
          exact ⟨.inr rfl,res1 rfl kKj ⟨_,_,_,_,rfl,SKf,(elsKc.mono upI)⟩⟩

set_option maxHeartbeats 4000000 in
theorem w_impl_seqCorrect {Ha:GH} {wa:World} (hs:Sl Ha wa) (v0:Value) (a0:List zac) (p0:RSl Ha eSeqStep 6 v0 a0) (a1:Int) {r:Bool} (hp:(PF.zb9 a0 a1)=some r) :
  Calls Tryz.prog 158 #[v0,Value.int .i64 a1] wa (Sc Ha wa (Value.bool r)):=by
 unfold PF.zb9 at hp
 have S0:=St.init hs
 refine zaj (N:=184) (args:=[v0,Value.int .i64 a1]) Tryz.func158 rfl rfl rfl ?_
 refine FW.seq (FW.region ?_)
 obtain ⟨b21,w22,run23,S24⟩:=S0.box (P:=Tryz.prog) 24 [v0] (v:=v0) p0.cells (zaa p0.one zag)
 refine FL.v (E.box rfl run23) ?_
 obtain ⟨H25,S26,i27,at28⟩:=S24.sealBox (i:=0) (l':=[]) rfl rfl
 obtain ⟨b29,w30,run31,S32⟩:=S26.box (P:=Tryz.prog) 3 [Value.int .i64 a1] (v:=Value.int .i64 a1) rfl (zaa rfl zag)
 refine FL.v (E.box rfl run31) ?_
 obtain ⟨H33,S34,i35,at36⟩:=S32.sealBox (i:=0) (l':=[]) rfl rfl
 refine FL.v (E.assign (v:=Value.bool false) rfl) ?_
 refine FL.nil (FW.seq (FW.region ?_))
 refine FL.v (E.load rfl (zar Tryz.isAgg24 ((at28.mono i35).now S34.sl) rfl)) ?_
 refine FL.v (E.load rfl (zar Tryz.isAgg3 (at36.now S34.sl) rfl)) ?_
 obtain ⟨x43,hx44,hp⟩:=bnd hp
 obtain ⟨p37,cs38,pt39,l40,at41,rel42⟩:=p0.at hx44
 obtain ⟨v45,v47,rfl,h46,h48⟩:=zaD rel42
 refine FL.v (E.indexAddr te24 rfl rfl pt39) ?_
 refine FL.v (E.load rfl (zao Tryz.isAgg74 Tryz.sizeOf74 ((at41.mono (i27.tr i35)).now S34.sl) rfl)) ?_
 obtain ⟨b49,w50,run51,S52⟩:=S34.alloc (P:=Tryz.prog) 74 [Value.slice none 0 0,Value.slice none 0 0,Value.int .i64 0,Value.string ByteArray.empty,Value.int .i64 0,Value.int .i64 0] Tryz.zeroValue74 rfl (zaa rfl (zaa rfl (zaa rfl (zaa rfl (zaa rfl (zaa rfl zag))))))
 refine FL.v (E.alloc run51) ?_
 obtain ⟨w53,run54,S55⟩:=S52.store0 (P:=Tryz.prog) (t:=74) (i:=0) (cs':=[v45,v47,Value.int .i64 x43.rule,Value.string x43.main,Value.int .i64 x43.a,Value.int .i64 x43.b]) (l':=[.box b49 74 [v45,v47,Value.int .i64 x43.rule,Value.string x43.main,Value.int .i64 x43.a,Value.int .i64 x43.b]]) (v:=Value.agg #[v45,v47,Value.int .i64 x43.rule,Value.string x43.main,Value.int .i64 x43.a,Value.int .i64 x43.b]) (c:=[v45,v47,Value.int .i64 x43.rule,Value.string x43.main,Value.int .i64 x43.a,Value.int .i64 x43.b]) rfl Tryz.sizeOf74 rfl rfl (zaa h46.one (zaa h48.one (zaa rfl (zaa rfl (zaa rfl (zaa rfl zag)))))) (Nat.le_of_ble_eq_true rfl) rfl rfl
 refine FL.act rfl rfl (E.store rfl rfl run54) ?_
 obtain ⟨H56,S57,i58,at59⟩:=S55.sealBox (i:=0) (l':=[]) rfl rfl
 refine FL.nil (FW.seq (FW.seq (FW.region ?_)))
 refine FL.v (E.fieldAddr zap rfl) ?_
 refine FL.v (E.load rfl (zao Tryz.isAgg68 Tryz.sizeOf68 ((at59.now S57.sl).sub (j:=0) (n:=2) (c:=[v45,v47]) rfl) rfl)) ?_
 obtain ⟨r60,hr61,hp⟩:=bnd hp
 refine FL.call rfl rfl rfl (E.call Tryz.call120 (A1 rfl)) (zbh S57.sl x43.seq v45 (h46.mono ((i27.tr i35).tr i58)) v47 (h48.mono ((i27.tr i35).tr i58)) hr61) ?_
 rintro e w62 ⟨rfl,r63⟩
 refine ⟨_,rfl,?_⟩
 have S64:=S57.call r63
 refine FL.v (E.not rfl) ?_
 refine FL.nil ?_
 rcases ifB hp with ⟨c65,hp⟩|⟨c65,hp⟩
 ·
  refine FW.condT rfl c65 ?_
  refine FW.seq (FW.region ?_)
  refine FL.v (E.assign (v:=Value.bool false) rfl) ?_
  refine FL.nil ?_
  refine FW.ret ?_
  obtain rfl:=Option.some.inj hp
  exact ⟨.inr rfl,res1 rfl rfl ⟨rfl,S64.back⟩⟩
 ·
  refine FW.condF rfl c65 ?_
  refine FW.skip (FW.seq (FW.region ?_))
  refine FL.v (E.makeFunc A0 (A2 rfl rfl)) ?_
  refine FL.v (E.assign (v:=Value.func (.func 194) #[] #[Value.pointer (some ⟨b29,0,none⟩),Value.pointer (some ⟨b21,0,none⟩)]) rfl) ?_
  refine FL.nil (FW.seq (FW.region ?_))
  refine FL.v (E.assign (v:=Value.func (.func 195) #[] #[]) rfl) ?_
  refine FL.nil (FW.seq (FW.seq (FW.region ?_)))
  refine FL.v (E.fieldAddr zaT rfl) ?_
  refine FL.v (E.load rfl (zaf Tryz.isAgg3 (at59.now S64.sl) rfl)) ?_
  refine FL.v (E.eql rfl rfl) ?_
  refine FL.nil ?_
  rcases ifB hp with ⟨c66,hp⟩|⟨c66,hp⟩
  ·
   refine FW.condT rfl c66 ?_
   refine FW.seq (FW.region ?_)
   refine FL.v (E.fieldAddr zaZ rfl) ?_
   refine FL.v (E.load rfl (zaf Tryz.isAgg9 (at59.now S64.sl) rfl)) ?_
   refine FL.v (E.eqlS rfl rfl) ?_
   refine FL.v (E.move (v:=Value.bool (x43.main.toList == (ByteArray.mk #[]).toList)) rfl) ?_
   refine FL.cut 4 (fun f w=>∃ H:GH,St Ha wa H w []∧Inc H56 H∧f 5=Value.pointer (some ⟨b49,0,none⟩)∧f 32=Value.bool (bif (x43.main.toList == (ByteArray.mk #[]).toList) then (x43.a == 0) else false)) ?_ ?_
   ·
    rcases bcase (x43.main.toList == (ByteArray.mk #[]).toList) with c73|c73
    ·
     refine FL.val (zab rfl rfl rfl c73) rfl rfl (E.fieldAddr zaE rfl) ?_
     refine FL.val (zab rfl rfl rfl c73) rfl rfl (E.load rfl (zaf Tryz.isAgg3 (at59.now S64.sl) rfl)) ?_
     refine FL.val (zab rfl rfl rfl c73) rfl rfl (E.eql rfl rfl) ?_
     refine FL.v (E.pickT rfl c73 rfl) ?_
     exact FL.nil ⟨rfl,_,S64,(Inc.rfl _),rfl,(congrArg Value.bool (bifT c73).symm)⟩
    ·
     refine FL.skip (wF_no rfl rfl rfl c73) rfl ?_
     refine FL.skip (wF_no rfl rfl rfl c73) rfl ?_
     refine FL.skip (wF_no rfl rfl rfl c73) rfl ?_
     refine FL.v (E.pickF rfl c73 rfl) ?_
     exact FL.nil ⟨rfl,_,S64,(Inc.rfl _),rfl,(congrArg Value.bool (bifF c73).symm)⟩
   rintro f72 w71 ⟨H68,S69,i70,k74,k75⟩
   refine FL.v (E.move k75) ?_
   refine FL.cut 4 (fun f w=>∃ H:GH,St Ha wa H w []∧Inc H68 H∧f 5=Value.pointer (some ⟨b49,0,none⟩)∧f 37=Value.bool (bif (bif (x43.main.toList == (ByteArray.mk #[]).toList) then (x43.a == 0) else false) then (x43.b == 0) else false)) ?_ ?_
   ·
    rcases bcase (bif (x43.main.toList == (ByteArray.mk #[]).toList) then (x43.a == 0) else false) with c82|c82
    ·
     refine FL.val (zab rfl rfl rfl c82) rfl rfl (E.fieldAddr zaH k74) ?_
     refine FL.val (zab rfl rfl rfl c82) rfl rfl (E.load rfl (zaf Tryz.isAgg3 ((at59.mono i70).now S69.sl) rfl)) ?_
     refine FL.val (zab rfl rfl rfl c82) rfl rfl (E.eql rfl rfl) ?_
     refine FL.v (E.pickT rfl c82 rfl) ?_
     exact FL.nil ⟨rfl,_,S69,(Inc.rfl _),k74,(congrArg Value.bool (bifT c82).symm)⟩
    ·
     refine FL.skip (wF_no rfl rfl rfl c82) rfl ?_
     refine FL.skip (wF_no rfl rfl rfl c82) rfl ?_
     refine FL.skip (wF_no rfl rfl rfl c82) rfl ?_
     refine FL.v (E.pickF rfl c82 rfl) ?_
     exact FL.nil ⟨rfl,_,S69,(Inc.rfl _),k74,(congrArg Value.bool (bifF c82).symm)⟩
   rintro f81 w80 ⟨H77,S78,i79,k83,k84⟩
   refine FL.v (E.move k84) ?_
   obtain ⟨t90,hqt90,hp⟩:=bnd hp
   refine FL.cut 4 (fun f w=>∃ H:GH,St Ha wa H w []∧Inc H77 H∧f 42=Value.bool t90) ?_ ?_
   ·
    clear hp;have hp:=hqt90;clear hqt90
    rcases ifB hp with ⟨c96,hp⟩|⟨c96,hp⟩
    ·
     refine FL.val (zab rfl rfl rfl c96) rfl rfl (E.fieldAddr zap k83) ?_
     refine FL.val (zab rfl rfl rfl c96) rfl rfl (E.load rfl (zao Tryz.isAgg68 Tryz.sizeOf68 (((at59.mono (i70.tr i79)).now S78.sl).sub (j:=0) (n:=2) (c:=[v45,v47]) rfl) rfl)) ?_
     obtain ⟨r97,hr98,hp⟩:=bnd hp
     refine FL.call (zab rfl rfl rfl c96) rfl rfl (E.call Tryz.call154 (A1 rfl)) (w_impl_isSeqAxiom S78.sl x43.seq v45 (h46.mono ((((i27.tr i35).tr i58).tr i70).tr i79)) v47 (h48.mono ((((i27.tr i35).tr i58).tr i70).tr i79)) hr98) ?_
     rintro e w99 ⟨rfl,rA0⟩
     refine ⟨_,rfl,?_⟩
     have SA1:=S78.call rA0
     obtain rfl:=Option.some.inj hp
     refine FL.v (E.pickT rfl c96 rfl) ?_
     exact FL.nil ⟨rfl,_,SA1,(Inc.rfl _),rfl⟩
    ·
     refine FL.skip (wF_no rfl rfl rfl c96) rfl ?_
     refine FL.skip (wF_no rfl rfl rfl c96) rfl ?_
     refine FL.skip (wF_no rfl rfl rfl c96) rfl ?_
     obtain rfl:=Option.some.inj hp
     refine FL.v (E.pickF rfl c96 rfl) ?_
     exact FL.nil ⟨rfl,_,S78,(Inc.rfl _),rfl⟩
   rintro f95 w94 ⟨H91,S92,i93,kA2⟩
   refine FL.v (E.assign kA2) ?_
   refine FL.nil ?_
   refine FW.ret ?_
   obtain rfl:=Option.some.inj hp
   exact ⟨.inr rfl,res1 rfl rfl ⟨rfl,S92.back⟩⟩
  ·
   refine FW.condF rfl c66 ?_
   refine FW.skip (FW.seq (FW.seq (FW.region ?_)))
   refine FL.v (E.fieldAddr zaT rfl) ?_
   refine FL.v (E.load rfl (zaf Tryz.isAgg3 (at59.now S64.sl) rfl)) ?_
   refine FL.v (E.eql rfl rfl) ?_
   refine FL.nil ?_
   rcases ifB hp with ⟨cA3,hp⟩|⟨cA3,hp⟩
   ·
    refine FW.condT rfl cA3 ?_
    refine FW.seq (FW.region ?_)
    refine FL.v (E.fieldAddr zaZ rfl) ?_
    refine FL.v (E.load rfl (zaf Tryz.isAgg9 (at59.now S64.sl) rfl)) ?_
    refine FL.v (E.eqlS rfl rfl) ?_
    refine FL.v (E.move (v:=Value.bool (x43.main.toList == (ByteArray.mk #[]).toList)) rfl) ?_
    refine FL.cut 4 (fun f w=>∃ H:GH,St Ha wa H w []∧Inc H56 H∧f 5=Value.pointer (some ⟨b49,0,none⟩)∧f 6=Value.func (.func 194) #[] #[Value.pointer (some ⟨b29,0,none⟩),Value.pointer (some ⟨b21,0,none⟩)]∧f 53=Value.bool (bif (x43.main.toList == (ByteArray.mk #[]).toList) then (x43.b == 0) else false)) ?_ ?_
    ·
     rcases bcase (x43.main.toList == (ByteArray.mk #[]).toList) with cAa|cAa
     ·
      refine FL.val (zab rfl rfl rfl cAa) rfl rfl (E.fieldAddr zaH rfl) ?_
      refine FL.val (zab rfl rfl rfl cAa) rfl rfl (E.load rfl (zaf Tryz.isAgg3 (at59.now S64.sl) rfl)) ?_
      refine FL.val (zab rfl rfl rfl cAa) rfl rfl (E.eql rfl rfl) ?_
      refine FL.v (E.pickT rfl cAa rfl) ?_
      exact FL.nil ⟨rfl,_,S64,(Inc.rfl _),rfl,rfl,(congrArg Value.bool (bifT cAa).symm)⟩
     ·
      refine FL.skip (wF_no rfl rfl rfl cAa) rfl ?_
      refine FL.skip (wF_no rfl rfl rfl cAa) rfl ?_
      refine FL.skip (wF_no rfl rfl rfl cAa) rfl ?_
      refine FL.v (E.pickF rfl cAa rfl) ?_
      exact FL.nil ⟨rfl,_,S64,(Inc.rfl _),rfl,rfl,(congrArg Value.bool (bifF cAa).symm)⟩
    rintro fA9 wA8 ⟨HA5,SA6,iA7,kAb,kAc,kAd⟩
    refine FL.v (E.move kAd) ?_
    obtain ⟨t119,hqtAj,hp⟩:=bnd hp
    refine FL.cut 6 (fun f w=>∃ H:GH,St Ha wa H w []∧Inc HA5 H∧f 60=Value.bool t119) ?_ ?_
    ·
     clear hp;have hp:=hqtAj;clear hqtAj
     rcases ifB hp with ⟨cAp,hp⟩|⟨cAp,hp⟩
     ·
      refine FL.val (zab rfl rfl rfl cAp) rfl rfl (E.move kAc) ?_
      refine FL.val (zab rfl rfl rfl cAp) rfl rfl (E.fieldAddr zaE kAb) ?_
      refine FL.val (zab rfl rfl rfl cAp) rfl rfl (E.load rfl (zaf Tryz.isAgg3 ((at59.mono iA7).now SA6.sl) rfl)) ?_
      refine FL.val (zab rfl rfl rfl cAp) rfl rfl (E.makeFunc A0 (A1 kAb)) ?_
      obtain ⟨rAq,hrAr,hp⟩:=bnd hp
      refine FL.call (zab rfl rfl rfl cAp) rfl rfl (E.callV Tryz.call194 rfl (appA (A2 rfl rfl) #[Value.pointer (some ⟨b29,0,none⟩),Value.pointer (some ⟨b21,0,none⟩)])) (zc7 SA6.sl x43.a (Value.func (.func 198) #[] #[Value.pointer (some ⟨b49,0,none⟩)]) (fun x0=>PF.zbT x0 x43) (fun H2 w2 hi2 hs2 x0 y0_0 z0_0 y0_1 z0_1 r hr=>⟨198,#[Value.pointer (some ⟨b49,0,none⟩)],rfl,Tryz.call198,zev hs2 x0 y0_0 z0_0 y0_1 z0_1 ⟨b49,0,none⟩ x43 v45 ((h46.mono (((i27.tr i35).tr i58).tr iA7)).mono hi2) v47 ((h48.mono (((i27.tr i35).tr i58).tr iA7)).mono hi2) ((at59.mono iA7).mono hi2) hr⟩) ⟨b29,0,none⟩ a1 (at36.mono (i58.tr iA7)) ⟨b21,0,none⟩ a0 v0 (p0.mono (((i27.tr i35).tr i58).tr iA7)) (at28.mono ((i35.tr i58).tr iA7)) hrAr) ?_
      rintro e wAs ⟨rfl,rAt⟩
      refine ⟨_,rfl,?_⟩
      have SAu:=SA6.call rAt
      obtain rfl:=Option.some.inj hp
      refine FL.v (E.pickT rfl cAp rfl) ?_
      exact FL.nil ⟨rfl,_,SAu,(Inc.rfl _),rfl⟩
     ·
      refine FL.skip (wF_no rfl rfl rfl cAp) rfl ?_
      refine FL.skip (wF_no rfl rfl rfl cAp) rfl ?_
      refine FL.skip (wF_no rfl rfl rfl cAp) rfl ?_
      refine FL.skip (wF_no rfl rfl rfl cAp) rfl ?_
      refine FL.skip (wF_no rfl rfl rfl cAp) rfl ?_
      obtain rfl:=Option.some.inj hp
      refine FL.v (E.pickF rfl cAp rfl) ?_
      exact FL.nil ⟨rfl,_,SA6,(Inc.rfl _),rfl⟩
    rintro fAo wAn ⟨HAk,SAl,iAm,kAv⟩
    refine FL.v (E.assign kAv) ?_
    refine FL.nil ?_
    refine FW.ret ?_
    obtain rfl:=Option.some.inj hp
    exact ⟨.inr rfl,res1 rfl rfl ⟨rfl,SAl.back⟩⟩
   ·
    refine FW.condF rfl cA3 ?_
    refine FW.skip (FW.seq (FW.region ?_))
    refine FL.v (E.fieldAddr zaZ rfl) ?_
    refine FL.v (E.load rfl (zaf Tryz.isAgg9 (at59.now S64.sl) rfl)) ?_
    obtain ⟨rAw,hrAx,hp⟩:=bnd hp
    refine FL.call rfl rfl rfl (E.call Tryz.call78 (A1 rfl)) (zdt S64.sl x43.main hrAx) ?_
    rintro e wAz ⟨HAy,vAC,rfl,rAB,hAD⟩
    refine ⟨_,rfl,?_⟩
    have SAA:=S64.call rAB
    refine FL.v (E.move (v:=Value.tuple #[vAC,Value.bool rAw.2]) rfl) ?_
    refine FL.v (E.extract (i:=0) rfl rfl) ?_
    refine FL.v (E.extract (i:=1) rfl rfl) ?_
    refine FL.v (E.assign (v:=vAC) rfl) ?_
    refine FL.v (E.assign (v:=Value.bool rAw.2) rfl) ?_
    refine FL.nil (FW.seq (FW.block (FW.seq (FW.region ?_))))
    refine FL.v (E.move (v:=Value.bool rAw.2) rfl) ?_
    refine FL.v (E.not rfl) ?_
    refine FL.v (E.assign (v:=Value.bool (!rAw.2)) rfl) ?_
    refine FL.nil ?_
    rcases ifB hp with ⟨cAE,hp⟩|⟨cAE,hp⟩
    ·
     refine FW.condT rfl cAE ?_
     refine FW.seq (FW.region ?_)
     refine FL.v (E.assign (v:=Value.bool false) rfl) ?_
     refine FL.nil ?_
     refine FW.ret ?_
     obtain rfl:=Option.some.inj hp
     exact ⟨.inr rfl,res1 rfl rfl ⟨rfl,SAA.back⟩⟩
    ·
     refine FW.condF rfl cAE ?_
     refine FW.seq (FW.region ?_)
     refine FL.v (E.fieldAddr zaT rfl) ?_
     refine FL.v (E.load rfl (zaf Tryz.isAgg3 ((at59.mono rAB.inc).now SAA.sl) rfl)) ?_
     refine FL.v (E.eql rfl rfl) ?_
     refine FL.v (E.assign (v:=Value.bool (x43.rule == 11)) rfl) ?_
     refine FL.nil ?_
     rcases ifB hp with ⟨cAF,hp⟩|⟨cAF,hp⟩
     ·
      refine FW.condT rfl cAF ?_
      refine FW.seq ?_
      obtain ⟨rAg,hrAh,hp⟩:=bnd hp
      obtain ⟨rB3,hrB4,hp⟩:=bnd hp
      obtain ⟨t141_35,hqt141_35,hp⟩:=bnd hp
      refine FW.drawB (Sl HAy) (fun f w=>∃ H:GH,St Ha wa H w []∧Inc HAy H∧f 4=Value.bool t141_35) (by kernel_rfl) SAA.sl ?_ ?_
      ·
       intro wAG rAH
       have SAI:=SAA.call rAH
       refine FB.t (i:=0) (bs 37 1) rfl (SP.nil SAI.sl) rfl (fun w' hw'=>(E.move (v:=Value.func (.func 194) #[] #[Value.pointer (some ⟨b29,0,none⟩),Value.pointer (some ⟨b21,0,none⟩)]) rfl)) ?_
       refine FB.t (i:=1) (bs 37 3) rfl (SP.nil SAI.sl) rfl (fun w' hw'=>(E.fieldAddr zaE rfl)) ?_
       refine FB.t (i:=2) (bs 37 7) rfl (SP.nil SAI.sl) rfl (fun w' hw'=>(E.load rfl (zaf Tryz.isAgg3 ((at59.mono rAB.inc).now hw') rfl))) ?_
       refine FB.t (i:=3) (bs 37 15) rfl (SP.nil SAI.sl) rfl (fun w' hw'=>(E.move (v:=Value.func (.func 195) #[] #[]) rfl)) ?_
       refine FB.t (i:=4) (bs 37 31) rfl (SP.nil SAI.sl) rfl (fun w' hw'=>(E.fieldAddr zap rfl)) ?_
       refine FB.t (i:=5) (bs 37 63) rfl (SP.nil SAI.sl) rfl (fun w' hw'=>(E.fieldAddrN zau rfl rfl)) ?_
       refine FB.t (i:=6) (bs 37 127) rfl (SP.nil SAI.sl) rfl (fun w' hw'=>(E.load rfl (zaf Tryz.isAgg22 ((at59.mono rAB.inc).now hw') rfl))) ?_
       refine FB.t (i:=7) (bs 37 255) rfl (SP.nil SAI.sl) rfl (fun w' hw'=>(E.fieldAddr zap rfl)) ?_
       refine FB.t (i:=8) (bs 37 511) rfl (SP.nil SAI.sl) rfl (fun w' hw'=>(E.fieldAddrN zas rfl rfl)) ?_
       refine FB.t (i:=9) (bs 37 1023) rfl (SP.nil SAI.sl) rfl (fun w' hw'=>(E.load rfl (zaf Tryz.isAgg22 ((at59.mono rAB.inc).now hw') rfl))) ?_
       refine FB.t (i:=10) (bs 37 2047) rfl (SP.nil SAI.sl) rfl (fun w' hw'=>(E.fieldAddr zaZ rfl)) ?_
       refine FB.t (i:=11) (bs 37 4095) rfl (SP.nil SAI.sl) rfl (fun w' hw'=>(E.load rfl (zaf Tryz.isAgg9 ((at59.mono rAB.inc).now hw') rfl))) ?_
       refine FB.all1 (i:=12) (by kernel_rfl) ?_
       ·
        obtain ⟨v67,w76,run85,S86⟩:=SAI.buildSlice (P:=Tryz.prog) te22 [Value.string x43.main] (parts:=#[(0,Value.string x43.main)]) (cells:=[Value.string x43.main]) rfl (zan rfl zal) (zam rfl zak) (zaa rfl zag) (Nat.le_of_ble_eq_true rfl)
        have els87:Els (up wa.heap.size HAy) eS 1 [Value.string x43.main] [x43.main]:=(Els.snoc (H:=(up wa.heap.size HAy)) (E:=eS) (k:=1) (c:=[Value.string x43.main]) (x:=x43.main) Els.nil rfl rfl)
        refine FC.val (l':=(bs 37 8191)) rfl (by kernel_rfl) rfl rfl rfl (E.buildSlice (B1 rfl) run85) ?_
        refine ⟨(SP.nil S86.sl),?_⟩
        refine FB.all1 (i:=13) (by kernel_rfl) ?_
        ·
         obtain ⟨H88,S89,iA4,hAe,nvAf⟩:=S86.sealRowU (i:=0) (l':=[]) rfl els87 (by decide) rfl
         refine FC.call (l':=(bs 37 16383)) rfl (by kernel_rfl) rfl rfl rfl (E.call Tryz.call68 (A2 rfl rfl)) (zaw S89.sl v47 x43.seq.right (h48.mono ((((i27.tr i35).tr i58).tr rAB.inc).tr iA4)) v67 [x43.main] (hAe.mono upI) hrAh) ?_
         rintro e wAJ ⟨HAi,vAO,nAP,csAQ,rfl,rAL,elsAR⟩
         refine ⟨_,rfl,?_⟩
         obtain ⟨HAM,rAL,hU149⟩:=St.lendX iA4 S86.sl rAL
         have elsAR:=elsAR.mono (hU149.tr (up_le S86.size))
         have SAK:=S86.join (l':=[.row 9 1 vAO nAP csAQ,.row 9 1 v67 1 [Value.string x43.main]]) rAL rfl
         refine ⟨(SP.nil (Sl.of_inc rAL.run.inc SAK.sl)),?_⟩
         obtain ⟨HAS,SAT,iAU,hAV,nvAW⟩:=SAK.sealRowU (i:=0) (l':=[.row 9 1 v67 1 [Value.string x43.main]]) rfl elsAR (by decide) rfl
         refine FB.t (i:=14) (bs 37 32767) rfl (SP.nil (Sl.of_inc rAL.run.inc SAK.sl)) rfl (fun w' hw'=>(E.build (B2 rfl rfl) (run_build _ 68 #[(0,v45),(1,vAO)] #[v45,vAO] (by obtain ⟨_,_,rfl⟩:=RSl.ln (h46.mono (((((i27.tr i35).tr i58).tr rAB.inc).tr rAL.run.inc).tr iAU));obtain ⟨_,_,rfl⟩:=RSl.ln (hAV.mono upI);rfl)))) ?_
         refine FB.all1 (i:=15) (by kernel_rfl) ?_
         ·
          refine FC.call (l':=(bs 37 65535)) rfl (by kernel_rfl) rfl rfl rfl (E.callV Tryz.call195 rfl (appA (A1 rfl) #[])) (zdu SAT.sl (zad.mk x43.seq.left rAg) v45 (h46.mono (((((i27.tr i35).tr i58).tr rAB.inc).tr rAL.run.inc).tr iAU)) vAO (hAV.mono upI)) ?_
          rintro e wAY ⟨HAX,qB1,rfl,rB0,hB2⟩
          refine ⟨_,rfl,?_⟩
          have SAZ:=SAT.call rB0
          refine ⟨(SP.nil (Sl.of_inc ((rAL.run.inc.tr iAU).tr rB0.inc) SAZ.sl)),?_⟩
          refine FB.all1 (i:=16) (by kernel_rfl) ?_
          ·
           refine FC.call (l':=(bs 37 131071)) rfl (by kernel_rfl) rfl rfl rfl (E.callV Tryz.call194 rfl (appA (A2 rfl rfl) #[Value.pointer (some ⟨b29,0,none⟩),Value.pointer (some ⟨b21,0,none⟩)])) (zc7 SAZ.sl x43.a (Value.func (.func 196) #[] #[Value.pointer (some qB1)]) (fun x0=>PF.za5 x0 (zad.mk x43.seq.left rAg)) (fun H2 w2 hi2 hs2 x0 y0_0 z0_0 y0_1 z0_1 r hr=>⟨196,#[Value.pointer (some qB1)],rfl,Tryz.call196,zdv hs2 x0 y0_0 z0_0 y0_1 z0_1 qB1 (zad.mk x43.seq.left rAg) v45 ((h46.mono ((((((i27.tr i35).tr i58).tr rAB.inc).tr rAL.run.inc).tr iAU).tr rB0.inc)).mono hi2) vAO ((hAV.mono (upI.tr rB0.inc)).mono hi2) (hB2.mono hi2) hr⟩) ⟨b29,0,none⟩ a1 (at36.mono ((((i58.tr rAB.inc).tr rAL.run.inc).tr iAU).tr rB0.inc)) ⟨b21,0,none⟩ a0 v0 (p0.mono ((((((i27.tr i35).tr i58).tr rAB.inc).tr rAL.run.inc).tr iAU).tr rB0.inc)) (at28.mono (((((i35.tr i58).tr rAB.inc).tr rAL.run.inc).tr iAU).tr rB0.inc)) hrB4) ?_
           rintro e wB5 ⟨rfl,rB6⟩
           refine ⟨_,rfl,?_⟩
           have SB7:=SAZ.call rB6
           refine ⟨(SP.nil (Sl.of_inc ((rAL.run.inc.tr iAU).tr rB0.inc) SB7.sl)),?_⟩
           refine FB.t (i:=17) (bs 37 262143) rfl (SP.nil (Sl.of_inc ((rAL.run.inc.tr iAU).tr rB0.inc) SB7.sl)) rfl (fun w' hw'=>(E.move (v:=Value.bool rB3) rfl)) ?_
           rcases ifB hqt141_35 with ⟨hc141_17,hqt141_35⟩|⟨hc141_17,hqt141_35⟩
           ·
            obtain ⟨rBj,hrBk,hqt141_35⟩:=bnd hqt141_35
            obtain ⟨rBG,hrBH,hqt141_35⟩:=bnd hqt141_35
            refine FB.t (i:=18) (bs 37 524287) rfl (SP.nil (Sl.of_inc ((rAL.run.inc.tr iAU).tr rB0.inc) SB7.sl)) (zab rfl rfl rfl hc141_17) (fun w' hw'=>(E.move (v:=Value.func (.func 194) #[] #[Value.pointer (some ⟨b29,0,none⟩),Value.pointer (some ⟨b21,0,none⟩)]) rfl)) ?_
            refine FB.t (i:=19) (bs 37 1048575) rfl (SP.nil (Sl.of_inc ((rAL.run.inc.tr iAU).tr rB0.inc) SB7.sl)) (zab rfl rfl rfl hc141_17) (fun w' hw'=>(E.fieldAddr zaH rfl)) ?_
            refine FB.t (i:=20) (bs 37 2097151) rfl (SP.nil (Sl.of_inc ((rAL.run.inc.tr iAU).tr rB0.inc) SB7.sl)) (zab rfl rfl rfl hc141_17) (fun w' hw'=>(E.load rfl (zaf Tryz.isAgg3 ((at59.mono rAB.inc).now hw') rfl))) ?_
            refine FB.t (i:=21) (bs 37 4194303) rfl (SP.nil (Sl.of_inc ((rAL.run.inc.tr iAU).tr rB0.inc) SB7.sl)) (zab rfl rfl rfl hc141_17) (fun w' hw'=>(E.move (v:=Value.func (.func 195) #[] #[]) rfl)) ?_
            refine FB.t (i:=22) (bs 37 8388607) rfl (SP.nil (Sl.of_inc ((rAL.run.inc.tr iAU).tr rB0.inc) SB7.sl)) (zab rfl rfl rfl hc141_17) (fun w' hw'=>(E.fieldAddr zap rfl)) ?_
            refine FB.t (i:=23) (bs 37 16777215) rfl (SP.nil (Sl.of_inc ((rAL.run.inc.tr iAU).tr rB0.inc) SB7.sl)) (zab rfl rfl rfl hc141_17) (fun w' hw'=>(E.fieldAddrN zau rfl rfl)) ?_
            refine FB.t (i:=24) (bs 37 33554431) rfl (SP.nil (Sl.of_inc ((rAL.run.inc.tr iAU).tr rB0.inc) SB7.sl)) (zab rfl rfl rfl hc141_17) (fun w' hw'=>(E.load rfl (zaf Tryz.isAgg22 ((at59.mono rAB.inc).now hw') rfl))) ?_
            refine FB.t (i:=25) (bs 37 67108863) rfl (SP.nil (Sl.of_inc ((rAL.run.inc.tr iAU).tr rB0.inc) SB7.sl)) (zab rfl rfl rfl hc141_17) (fun w' hw'=>(E.fieldAddr zaZ rfl)) ?_
            refine FB.t (i:=26) (bs 37 134217727) rfl (SP.nil (Sl.of_inc ((rAL.run.inc.tr iAU).tr rB0.inc) SB7.sl)) (zab rfl rfl rfl hc141_17) (fun w' hw'=>(E.load rfl (zaf Tryz.isAgg9 ((at59.mono rAB.inc).now hw') rfl))) ?_
            refine FB.t (i:=29) (bs 37 671088639) rfl (SP.nil (Sl.of_inc ((rAL.run.inc.tr iAU).tr rB0.inc) SB7.sl)) (zab rfl rfl rfl hc141_17) (fun w' hw'=>(E.fieldAddr zap rfl)) ?_
            refine FB.t (i:=30) (bs 37 1744830463) rfl (SP.nil (Sl.of_inc ((rAL.run.inc.tr iAU).tr rB0.inc) SB7.sl)) (zab rfl rfl rfl hc141_17) (fun w' hw'=>(E.fieldAddrN zas rfl rfl)) ?_
            refine FB.t (i:=31) (bs 37 3892314111) rfl (SP.nil (Sl.of_inc ((rAL.run.inc.tr iAU).tr rB0.inc) SB7.sl)) (zab rfl rfl rfl hc141_17) (fun w' hw'=>(E.load rfl (zaf Tryz.isAgg22 ((at59.mono rAB.inc).now hw') rfl))) ?_
            refine FB.all1 (i:=27) (by kernel_rfl) ?_
            ·
             obtain ⟨vB8,wB9,runBb,SBc⟩:=SB7.buildSlice (P:=Tryz.prog) te22 [Value.string x43.main] (parts:=#[(0,Value.string x43.main)]) (cells:=[Value.string x43.main]) rfl (zan rfl zal) (zam rfl zak) (zaa rfl zag) (Nat.le_of_ble_eq_true rfl)
             have elsBd:Els (up wa.heap.size HAX) eS 1 [Value.string x43.main] [x43.main]:=(Els.snoc (H:=(up wa.heap.size HAX)) (E:=eS) (k:=1) (c:=[Value.string x43.main]) (x:=x43.main) Els.nil rfl rfl)
             refine FC.val (l':=(bs 37 4026531839)) rfl (by kernel_rfl) (zab rfl rfl rfl hc141_17) rfl rfl (E.buildSlice (B1 rfl) runBb) ?_
             refine ⟨(SP.nil (Sl.of_inc ((rAL.run.inc.tr iAU).tr rB0.inc) SBc.sl)),?_⟩
             refine FB.all1 (i:=28) (by kernel_rfl) ?_
             ·
              obtain ⟨HBe,SBf,iBg,hBh,nvBi⟩:=SBc.sealRowU (i:=0) (l':=[.row 9 1 v67 1 [Value.string x43.main]]) rfl elsBd (by decide) rfl
              refine FC.call (l':=(bs 37 4294967295)) rfl (by kernel_rfl) (zab rfl rfl rfl hc141_17) rfl rfl (E.call Tryz.call68 (A2 rfl rfl)) (zaw SBf.sl v45 x43.seq.left (h46.mono (((((((i27.tr i35).tr i58).tr rAB.inc).tr rAL.run.inc).tr iAU).tr rB0.inc).tr iBg)) vB8 [x43.main] (hBh.mono upI) hrBk) ?_
              rintro e wBm ⟨HBl,vBr,nBs,csBt,rfl,rBo,elsBu⟩
              refine ⟨_,rfl,?_⟩
              obtain ⟨HBp,rBo,hU188⟩:=St.lendX iBg SBc.sl rBo
              have elsBu:=elsBu.mono (hU188.tr (up_le SBc.size))
              have SBn:=SBc.join (l':=[.row 9 1 vBr nBs csBt,.row 9 1 vB8 1 [Value.string x43.main],.row 9 1 v67 1 [Value.string x43.main]]) rBo rfl
              refine ⟨(SP.nil (Sl.of_inc (((rAL.run.inc.tr iAU).tr rB0.inc).tr rBo.run.inc) SBn.sl)),?_⟩
              obtain ⟨HBv,SBw,iBx,hBy,nvBz⟩:=SBn.sealRowU (i:=0) (l':=[.row 9 1 vB8 1 [Value.string x43.main],.row 9 1 v67 1 [Value.string x43.main]]) rfl elsBu (by decide) rfl
              refine FB.t (i:=32) (bs 37 8589934591) rfl (SP.nil (Sl.of_inc (((rAL.run.inc.tr iAU).tr rB0.inc).tr rBo.run.inc) SBn.sl)) (zab rfl rfl rfl hc141_17) (fun w' hw'=>(E.build (B2 rfl rfl) (run_build _ 68 #[(0,vBr),(1,v47)] #[vBr,v47] (by obtain ⟨_,_,rfl⟩:=RSl.ln (hBy.mono upI);obtain ⟨_,_,rfl⟩:=RSl.ln (h48.mono ((((((((i27.tr i35).tr i58).tr rAB.inc).tr rAL.run.inc).tr iAU).tr rB0.inc).tr rBo.run.inc).tr iBx));rfl)))) ?_
              refine FB.all1 (i:=33) (by kernel_rfl) ?_
              ·
               refine FC.call (l':=(bs 37 17179869183)) rfl (by kernel_rfl) (zab rfl rfl rfl hc141_17) rfl rfl (E.callV Tryz.call195 rfl (appA (A1 rfl) #[])) (zdu SBw.sl (zad.mk rBj x43.seq.right) vBr (hBy.mono upI) v47 (h48.mono ((((((((i27.tr i35).tr i58).tr rAB.inc).tr rAL.run.inc).tr iAU).tr rB0.inc).tr rBo.run.inc).tr iBx))) ?_
               rintro e wBB ⟨HBA,qBE,rfl,rBD,hBF⟩
               refine ⟨_,rfl,?_⟩
               have SBC:=SBw.call rBD
               refine ⟨(SP.nil (Sl.of_inc (((((rAL.run.inc.tr iAU).tr rB0.inc).tr rBo.run.inc).tr iBx).tr rBD.inc) SBC.sl)),?_⟩
               refine FB.all1 (i:=34) (by kernel_rfl) ?_
               ·
                refine FC.call (l':=(bs 37 34359738367)) rfl (by kernel_rfl) (zab rfl rfl rfl hc141_17) rfl rfl (E.callV Tryz.call194 rfl (appA (A2 rfl rfl) #[Value.pointer (some ⟨b29,0,none⟩),Value.pointer (some ⟨b21,0,none⟩)])) (zc7 SBC.sl x43.b (Value.func (.func 196) #[] #[Value.pointer (some qBE)]) (fun x0=>PF.za5 x0 (zad.mk rBj x43.seq.right)) (fun H2 w2 hi2 hs2 x0 y0_0 z0_0 y0_1 z0_1 r hr=>⟨196,#[Value.pointer (some qBE)],rfl,Tryz.call196,zdv hs2 x0 y0_0 z0_0 y0_1 z0_1 qBE (zad.mk rBj x43.seq.right) vBr ((hBy.mono (upI.tr rBD.inc)).mono hi2) v47 ((h48.mono (((((((((i27.tr i35).tr i58).tr rAB.inc).tr rAL.run.inc).tr iAU).tr rB0.inc).tr rBo.run.inc).tr iBx).tr rBD.inc)).mono hi2) (hBF.mono hi2) hr⟩) ⟨b29,0,none⟩ a1 (at36.mono (((((((i58.tr rAB.inc).tr rAL.run.inc).tr iAU).tr rB0.inc).tr rBo.run.inc).tr iBx).tr rBD.inc)) ⟨b21,0,none⟩ a0 v0 (p0.mono (((((((((i27.tr i35).tr i58).tr rAB.inc).tr rAL.run.inc).tr iAU).tr rB0.inc).tr rBo.run.inc).tr iBx).tr rBD.inc)) (at28.mono ((((((((i35.tr i58).tr rAB.inc).tr rAL.run.inc).tr iAU).tr rB0.inc).tr rBo.run.inc).tr iBx).tr rBD.inc)) hrBH) ?_
                rintro e wBI ⟨rfl,rBJ⟩
                refine ⟨_,rfl,?_⟩
                have SBK:=SBC.call rBJ
                refine ⟨(SP.nil (Sl.of_inc (((((rAL.run.inc.tr iAU).tr rB0.inc).tr rBo.run.inc).tr iBx).tr rBD.inc) SBK.sl)),?_⟩
                refine FB.t (i:=35) (bs 37 68719476735) rfl (SP.nil (Sl.of_inc (((((rAL.run.inc.tr iAU).tr rB0.inc).tr rBo.run.inc).tr iBx).tr rBD.inc) SBK.sl)) rfl (fun w' hw'=>(E.asB (E.pickT rfl hc141_17 rfl) (Option.some.inj hqt141_35))) ?_
                refine FB.t (i:=36) (bs 37 137438953471) rfl (SP.nil (Sl.of_inc (((((rAL.run.inc.tr iAU).tr rB0.inc).tr rBo.run.inc).tr iBx).tr rBD.inc) SBK.sl)) rfl (fun w' hw'=>(E.assign (v:=Value.bool t141_35) rfl)) ?_
                exact FB.done (by kernel_rfl) ⟨_,(SBK.sel [] (by decide) rfl),(((((rAL.run.inc.tr iAU).tr rB0.inc).tr rBo.run.inc).tr iBx).tr rBD.inc),rfl⟩
           ·
            refine FB.skip (i:=18) (l':=(bs 37 524287)) rfl (by kernel_rfl) (by kernel_rfl) (by kernel_rfl) (by kernel_rfl) (by kernel_rfl) (SP.nil (Sl.of_inc ((rAL.run.inc.tr iAU).tr rB0.inc) SB7.sl)) (wF_no rfl rfl rfl hc141_17) rfl rfl ?_
            refine FB.skip (i:=19) (l':=(bs 37 1048575)) rfl (by kernel_rfl) (by kernel_rfl) (by kernel_rfl) (by kernel_rfl) (by kernel_rfl) (SP.nil (Sl.of_inc ((rAL.run.inc.tr iAU).tr rB0.inc) SB7.sl)) (wF_no rfl rfl rfl hc141_17) rfl rfl ?_
            refine FB.skip (i:=20) (l':=(bs 37 2097151)) rfl (by kernel_rfl) (by kernel_rfl) (by kernel_rfl) (by kernel_rfl) (by kernel_rfl) (SP.nil (Sl.of_inc ((rAL.run.inc.tr iAU).tr rB0.inc) SB7.sl)) (wF_no rfl rfl rfl hc141_17) rfl rfl ?_
            refine FB.skip (i:=21) (l':=(bs 37 4194303)) rfl (by kernel_rfl) (by kernel_rfl) (by kernel_rfl) (by kernel_rfl) (by kernel_rfl) (SP.nil (Sl.of_inc ((rAL.run.inc.tr iAU).tr rB0.inc) SB7.sl)) (wF_no rfl rfl rfl hc141_17) rfl rfl ?_
            refine FB.skip (i:=22) (l':=(bs 37 8388607)) rfl (by kernel_rfl) (by kernel_rfl) (by kernel_rfl) (by kernel_rfl) (by kernel_rfl) (SP.nil (Sl.of_inc ((rAL.run.inc.tr iAU).tr rB0.inc) SB7.sl)) (wF_no rfl rfl rfl hc141_17) rfl rfl ?_
            refine FB.skip (i:=23) (l':=(bs 37 16777215)) rfl (by kernel_rfl) (by kernel_rfl) (by kernel_rfl) (by kernel_rfl) (by kernel_rfl) (SP.nil (Sl.of_inc ((rAL.run.inc.tr iAU).tr rB0.inc) SB7.sl)) (wF_no rfl rfl rfl hc141_17) rfl rfl ?_
            refine FB.skip (i:=24) (l':=(bs 37 33554431)) rfl (by kernel_rfl) (by kernel_rfl) (by kernel_rfl) (by kernel_rfl) (by kernel_rfl) (SP.nil (Sl.of_inc ((rAL.run.inc.tr iAU).tr rB0.inc) SB7.sl)) (wF_no rfl rfl rfl hc141_17) rfl rfl ?_
            refine FB.skip (i:=25) (l':=(bs 37 67108863)) rfl (by kernel_rfl) (by kernel_rfl) (by kernel_rfl) (by kernel_rfl) (by kernel_rfl) (SP.nil (Sl.of_inc ((rAL.run.inc.tr iAU).tr rB0.inc) SB7.sl)) (wF_no rfl rfl rfl hc141_17) rfl rfl ?_
            refine FB.skip (i:=26) (l':=(bs 37 134217727)) rfl (by kernel_rfl) (by kernel_rfl) (by kernel_rfl) (by kernel_rfl) (by kernel_rfl) (SP.nil (Sl.of_inc ((rAL.run.inc.tr iAU).tr rB0.inc) SB7.sl)) (wF_no rfl rfl rfl hc141_17) rfl rfl ?_
            refine FB.skip (i:=27) (l':=(bs 37 268435455)) rfl (by kernel_rfl) (by kernel_rfl) (by kernel_rfl) (by kernel_rfl) (by kernel_rfl) (SP.nil (Sl.of_inc ((rAL.run.inc.tr iAU).tr rB0.inc) SB7.sl)) (wF_no rfl rfl rfl hc141_17) rfl rfl ?_
            refine FB.skip (i:=28) (l':=(bs 37 536870911)) rfl (by kernel_rfl) (by kernel_rfl) (by kernel_rfl) (by kernel_rfl) (by kernel_rfl) (SP.nil (Sl.of_inc ((rAL.run.inc.tr iAU).tr rB0.inc) SB7.sl)) (wF_no rfl rfl rfl hc141_17) rfl rfl ?_
            refine FB.skip (i:=29) (l':=(bs 37 1073741823)) rfl (by kernel_rfl) (by kernel_rfl) (by kernel_rfl) (by kernel_rfl) (by kernel_rfl) (SP.nil (Sl.of_inc ((rAL.run.inc.tr iAU).tr rB0.inc) SB7.sl)) (wF_no rfl rfl rfl hc141_17) rfl rfl ?_
            refine FB.skip (i:=30) (l':=(bs 37 2147483647)) rfl (by kernel_rfl) (by kernel_rfl) (by kernel_rfl) (by kernel_rfl) (by kernel_rfl) (SP.nil (Sl.of_inc ((rAL.run.inc.tr iAU).tr rB0.inc) SB7.sl)) (wF_no rfl rfl rfl hc141_17) rfl rfl ?_
            refine FB.skip (i:=31) (l':=(bs 37 4294967295)) rfl (by kernel_rfl) (by kernel_rfl) (by kernel_rfl) (by kernel_rfl) (by kernel_rfl) (SP.nil (Sl.of_inc ((rAL.run.inc.tr iAU).tr rB0.inc) SB7.sl)) (wF_no rfl rfl rfl hc141_17) rfl rfl ?_
            refine FB.skip (i:=32) (l':=(bs 37 8589934591)) rfl (by kernel_rfl) (by kernel_rfl) (by kernel_rfl) (by kernel_rfl) (by kernel_rfl) (SP.nil (Sl.of_inc ((rAL.run.inc.tr iAU).tr rB0.inc) SB7.sl)) (wF_no rfl rfl rfl hc141_17) rfl rfl ?_
            refine FB.skip (i:=33) (l':=(bs 37 17179869183)) rfl (by kernel_rfl) (by kernel_rfl) (by kernel_rfl) (by kernel_rfl) (by kernel_rfl) (SP.nil (Sl.of_inc ((rAL.run.inc.tr iAU).tr rB0.inc) SB7.sl)) (wF_no rfl rfl rfl hc141_17) rfl rfl ?_
            refine FB.skip (i:=34) (l':=(bs 37 34359738367)) rfl (by kernel_rfl) (by kernel_rfl) (by kernel_rfl) (by kernel_rfl) (by kernel_rfl) (SP.nil (Sl.of_inc ((rAL.run.inc.tr iAU).tr rB0.inc) SB7.sl)) (wF_no rfl rfl rfl hc141_17) rfl rfl ?_
            refine FB.t (i:=35) (bs 37 68719476735) rfl (SP.nil (Sl.of_inc ((rAL.run.inc.tr iAU).tr rB0.inc) SB7.sl)) rfl (fun w' hw'=>(E.asB (E.pickF rfl hc141_17 rfl) (Option.some.inj hqt141_35))) ?_
            refine FB.t (i:=36) (bs 37 137438953471) rfl (SP.nil (Sl.of_inc ((rAL.run.inc.tr iAU).tr rB0.inc) SB7.sl)) rfl (fun w' hw'=>(E.assign (v:=Value.bool t141_35) rfl)) ?_
            exact FB.done (by kernel_rfl) ⟨_,(SB7.sel [] (by decide) rfl),((rAL.run.inc.tr iAU).tr rB0.inc),rfl⟩
      ·
       rintro fBP wBO ⟨HBL,SBM,iBN,kBQ⟩
       refine FW.ret ?_
       obtain rfl:=Option.some.inj hp
       exact ⟨.inr rfl,res1 rfl kBQ ⟨rfl,SBM.back⟩⟩
     ·
      refine FW.condF rfl cAF ?_
      refine FW.skip (FW.seq ?_)
      refine FW.draw (fun w'=>Run wAz.heap.size HAy wAz HAy w') (by kernel_rfl) (by kernel_rfl) (zaN SAA.sl) ?_
      refine FD.val rfl rfl rfl (fun w' hw'=>(E.move (v:=vAC) rfl)) ?_
      obtain ⟨yBR,hy216,hp⟩:=bnd hp
      obtain ⟨qBT,vBV,vBW,rfl,atBU,hBX,hBY⟩:=FAt.open hAD hy216
      refine FD.val rfl rfl rfl (fun w' hw'=>(E.nilCheck rfl)) ?_
      refine FD.val rfl rfl rfl (fun w' hw'=>(E.fieldAddr tf109_0 rfl)) ?_
      refine FD.val rfl rfl rfl (fun w' hw'=>(E.load rfl (zaf Tryz.isAgg5 (atBU.now (SAA.call hw').sl) rfl))) ?_
      refine FD.call rfl rfl rfl (fun w' hw'=>(E.call Tryz.call191 (A2 rfl rfl))) (fun w' hw'=>Calls.cls hw' (zef (SAA.call hw').sl yBR.op true)) ?_
      refine FD.val rfl rfl rfl (fun w' hw'=>(E.fieldAddr zaT rfl)) ?_
      refine FD.val rfl rfl rfl (fun w' hw'=>(E.load rfl (zaf Tryz.isAgg3 ((at59.mono rAB.inc).now (SAA.call hw').sl) rfl))) ?_
      refine FD.val rfl rfl rfl (fun w' hw'=>(E.eql rfl rfl)) ?_
      refine FD.val rfl rfl rfl (fun w' hw'=>(E.move (v:=Value.bool ((PF.zbH yBR.op true) == x43.rule)) rfl)) ?_
      obtain ⟨t223,hqtBZ,hp⟩:=bnd hp
      refine FD.cut 7 (fun f=>f 5=Value.pointer (some ⟨b49,0,none⟩)∧f 6=Value.func (.func 194) #[] #[Value.pointer (some ⟨b29,0,none⟩),Value.pointer (some ⟨b21,0,none⟩)]∧f 7=Value.func (.func 195) #[] #[]∧f 8=Value.pointer (some qBT)∧f 125=Value.bool t223) ?_ ?_
      ·
       clear hp;have hp:=hqtBZ;clear hqtBZ
       rcases ifB hp with ⟨cC1,hp⟩|⟨cC1,hp⟩
       ·
        refine FD.val (zab rfl rfl rfl cC1) rfl rfl (fun w' hw'=>(E.fieldAddr zap rfl)) ?_
        refine FD.val (zab rfl rfl rfl cC1) rfl rfl (fun w' hw'=>(E.fieldAddrN zau rfl rfl)) ?_
        refine FD.val (zab rfl rfl rfl cC1) rfl rfl (fun w' hw'=>(E.load rfl (zaf Tryz.isAgg22 ((at59.mono rAB.inc).now (SAA.call hw').sl) rfl))) ?_
        refine FD.val (zab rfl rfl rfl cC1) rfl rfl (fun w' hw'=>(E.fieldAddr zaZ rfl)) ?_
        refine FD.val (zab rfl rfl rfl cC1) rfl rfl (fun w' hw'=>(E.load rfl (zaf Tryz.isAgg9 ((at59.mono rAB.inc).now (SAA.call hw').sl) rfl))) ?_
        obtain ⟨rC2,hrC3,hp⟩:=bnd hp
        refine FD.call (zab rfl rfl rfl cC1) rfl rfl (fun w' hw'=>(E.call Tryz.call189 (A2 rfl rfl))) (fun w' hw'=>Calls.cls hw' (zcE (SAA.call hw').sl v45 x43.seq.left (h46.mono (((i27.tr i35).tr i58).tr rAB.inc)) x43.main hrC3)) ?_
        obtain rfl:=Option.some.inj hp
        refine FD.val rfl rfl rfl (fun w' hw'=>(E.pickT rfl cC1 rfl)) ?_
        exact FD.nil ⟨rfl,rfl,rfl,rfl,rfl⟩
       ·
        refine FD.skip (wF_no rfl rfl rfl cC1) rfl ?_
        refine FD.skip (wF_no rfl rfl rfl cC1) rfl ?_
        refine FD.skip (wF_no rfl rfl rfl cC1) rfl ?_
        refine FD.skip (wF_no rfl rfl rfl cC1) rfl ?_
        refine FD.skip (wF_no rfl rfl rfl cC1) rfl ?_
        refine FD.skip (wF_no rfl rfl rfl cC1) rfl ?_
        obtain rfl:=Option.some.inj hp
        refine FD.val rfl rfl rfl (fun w' hw'=>(E.pickF rfl cC1 rfl)) ?_
        exact FD.nil ⟨rfl,rfl,rfl,rfl,rfl⟩
      rintro fC0 ⟨kC4,kC5,kC6,kC7,kC8⟩
      refine FD.val rfl rfl rfl (fun w' hw'=>(E.assign kC8)) ?_
      refine FD.nil ?_
      intro wC9 rCb
      have SCa:=SAA.call rCb
      refine FW.seq ?_
      refine FW.draw (fun w'=>Run wC9.heap.size HAy wC9 HAy w') (by kernel_rfl) (by kernel_rfl) (zaN SCa.sl) ?_
      refine FD.val rfl rfl rfl (fun w' hw'=>(E.move kC7)) ?_
      refine FD.val rfl rfl rfl (fun w' hw'=>(E.nilCheck rfl)) ?_
      refine FD.val rfl rfl rfl (fun w' hw'=>(E.fieldAddr tf109_0 rfl)) ?_
      refine FD.val rfl rfl rfl (fun w' hw'=>(E.load rfl (zaf Tryz.isAgg5 (atBU.now (SCa.call hw').sl) rfl))) ?_
      refine FD.call rfl rfl rfl (fun w' hw'=>(E.call Tryz.call191 (A2 rfl rfl))) (fun w' hw'=>Calls.cls hw' (zef (SCa.call hw').sl yBR.op false)) ?_
      refine FD.val rfl rfl rfl (fun w' hw'=>(E.fieldAddr zaT kC4)) ?_
      refine FD.val rfl rfl rfl (fun w' hw'=>(E.load rfl (zaf Tryz.isAgg3 ((at59.mono rAB.inc).now (SCa.call hw').sl) rfl))) ?_
      refine FD.val rfl rfl rfl (fun w' hw'=>(E.eql rfl rfl)) ?_
      refine FD.val rfl rfl rfl (fun w' hw'=>(E.move (v:=Value.bool ((PF.zbH yBR.op false) == x43.rule)) rfl)) ?_
      obtain ⟨t236,hqtCc,hp⟩:=bnd hp
      refine FD.cut 7 (fun f=>f 5=Value.pointer (some ⟨b49,0,none⟩)∧f 6=Value.func (.func 194) #[] #[Value.pointer (some ⟨b29,0,none⟩),Value.pointer (some ⟨b21,0,none⟩)]∧f 7=Value.func (.func 195) #[] #[]∧f 8=Value.pointer (some qBT)∧f 10=Value.bool t223∧f 141=Value.bool t236) ?_ ?_
      ·
       clear hp;have hp:=hqtCc;clear hqtCc
       rcases ifB hp with ⟨cCe,hp⟩|⟨cCe,hp⟩
       ·
        refine FD.val (zab rfl rfl rfl cCe) rfl rfl (fun w' hw'=>(E.fieldAddr zap kC4)) ?_
        refine FD.val (zab rfl rfl rfl cCe) rfl rfl (fun w' hw'=>(E.fieldAddrN zas rfl rfl)) ?_
        refine FD.val (zab rfl rfl rfl cCe) rfl rfl (fun w' hw'=>(E.load rfl (zaf Tryz.isAgg22 ((at59.mono rAB.inc).now (SCa.call hw').sl) rfl))) ?_
        refine FD.val (zab rfl rfl rfl cCe) rfl rfl (fun w' hw'=>(E.fieldAddr zaZ kC4)) ?_
        refine FD.val (zab rfl rfl rfl cCe) rfl rfl (fun w' hw'=>(E.load rfl (zaf Tryz.isAgg9 ((at59.mono rAB.inc).now (SCa.call hw').sl) rfl))) ?_
        obtain ⟨rCf,hrCg,hp⟩:=bnd hp
        refine FD.call (zab rfl rfl rfl cCe) rfl rfl (fun w' hw'=>(E.call Tryz.call189 (A2 rfl rfl))) (fun w' hw'=>Calls.cls hw' (zcE (SCa.call hw').sl v47 x43.seq.right (h48.mono (((i27.tr i35).tr i58).tr rAB.inc)) x43.main hrCg)) ?_
        obtain rfl:=Option.some.inj hp
        refine FD.val rfl rfl rfl (fun w' hw'=>(E.pickT rfl cCe rfl)) ?_
        exact FD.nil ⟨kC4,kC5,kC6,kC7,rfl,rfl⟩
       ·
        refine FD.skip (wF_no rfl rfl rfl cCe) rfl ?_
        refine FD.skip (wF_no rfl rfl rfl cCe) rfl ?_
        refine FD.skip (wF_no rfl rfl rfl cCe) rfl ?_
        refine FD.skip (wF_no rfl rfl rfl cCe) rfl ?_
        refine FD.skip (wF_no rfl rfl rfl cCe) rfl ?_
        refine FD.skip (wF_no rfl rfl rfl cCe) rfl ?_
        obtain rfl:=Option.some.inj hp
        refine FD.val rfl rfl rfl (fun w' hw'=>(E.pickF rfl cCe rfl)) ?_
        exact FD.nil ⟨kC4,kC5,kC6,kC7,rfl,rfl⟩
      rintro fCd ⟨kCh,kCi,kCj,kCk,kCl,kCm⟩
      refine FD.val rfl rfl rfl (fun w' hw'=>(E.assign kCm)) ?_
      refine FD.nil ?_
      intro wCn rCp
      have SCo:=SCa.call rCp
      refine FW.seq (FW.seq (FW.region ?_))
      refine FL.v (E.fieldAddr zaT kCh) ?_
      refine FL.v (E.load rfl (zaf Tryz.isAgg3 ((at59.mono rAB.inc).now SCo.sl) rfl)) ?_
      refine FL.v (E.eql rfl rfl) ?_
      refine FL.v (E.move (v:=Value.bool (x43.rule == 0)) rfl) ?_
      refine FL.cut 7 (fun f w=>∃ H:GH,St Ha wa H w []∧Inc HAy H∧f 5=Value.pointer (some ⟨b49,0,none⟩)∧f 6=Value.func (.func 194) #[] #[Value.pointer (some ⟨b29,0,none⟩),Value.pointer (some ⟨b21,0,none⟩)]∧f 7=Value.func (.func 195) #[] #[]∧f 8=Value.pointer (some qBT)∧f 152=Value.bool (bif (x43.rule == 0) then true else (bif (!t223) then (!t236) else false))) ?_ ?_
      ·
       rcases bcase (x43.rule == 0) with cCv|cCv
       ·
        refine FL.skip (wF_no rfl rfl rfl cCv) rfl ?_
        refine FL.skip (wF_no rfl rfl rfl cCv) rfl ?_
        refine FL.skip (wF_no rfl rfl rfl cCv) rfl ?_
        refine FL.skip (zay rfl rfl rfl) rfl ?_
        refine FL.skip (zay rfl rfl rfl) rfl ?_
        refine FL.skip (wF_no rfl rfl rfl cCv) rfl ?_
        refine FL.v (E.pickT rfl cCv rfl) ?_
        exact FL.nil ⟨rfl,_,SCo,(Inc.rfl _),kCh,kCi,kCj,kCk,(congrArg Value.bool (bifT cCv).symm)⟩
       ·
        refine FL.val (zab rfl rfl rfl cCv) rfl rfl (E.move kCl) ?_
        refine FL.val (zab rfl rfl rfl cCv) rfl rfl (E.not rfl) ?_
        refine FL.val (zab rfl rfl rfl cCv) rfl rfl (E.move (v:=Value.bool (!t223)) rfl) ?_
        refine FL.cut 3 (fun f w=>∃ H:GH,St Ha wa H w []∧Inc HAy H∧f 5=Value.pointer (some ⟨b49,0,none⟩)∧f 6=Value.func (.func 194) #[] #[Value.pointer (some ⟨b29,0,none⟩),Value.pointer (some ⟨b21,0,none⟩)]∧f 7=Value.func (.func 195) #[] #[]∧f 8=Value.pointer (some qBT)∧f 145=Value.bool (x43.rule == 0)∧f 151=Value.bool (bif (!t223) then (!t236) else false)) ?_ ?_
        ·
         rcases bcase (!t223) with cCB|cCB
         ·
          refine FL.val (zab rfl rfl rfl cCB) rfl rfl (E.move (v:=Value.bool t236) rfl) ?_
          refine FL.val (zab rfl rfl rfl cCB) rfl rfl (E.not rfl) ?_
          refine FL.val (zab rfl rfl rfl cCv) rfl rfl (E.pickT rfl cCB rfl) ?_
          exact FL.nil ⟨rfl,_,SCo,(Inc.rfl _),kCh,kCi,kCj,kCk,rfl,(congrArg Value.bool (bifT cCB).symm)⟩
         ·
          refine FL.skip (wF_no rfl rfl rfl cCB) rfl ?_
          refine FL.skip (wF_no rfl rfl rfl cCB) rfl ?_
          refine FL.val (zab rfl rfl rfl cCv) rfl rfl (E.pickF rfl cCB rfl) ?_
          exact FL.nil ⟨rfl,_,SCo,(Inc.rfl _),kCh,kCi,kCj,kCk,rfl,(congrArg Value.bool (bifF cCB).symm)⟩
        rintro fCA wCz ⟨HCw,SCx,iCy,kCC,kCD,kCE,kCF,kCG,kCH⟩
        refine FL.v (E.pickF kCG cCv kCH) ?_
        exact FL.nil ⟨rfl,_,SCx,iCy,kCC,kCD,kCE,kCF,(congrArg Value.bool (bifF cCv).symm)⟩
      rintro fCu wCt ⟨HCq,SCr,iCs,kCI,kCJ,kCK,kCL,kCM⟩
      refine FL.nil ?_
      rcases ifB hp with ⟨cCN,hp⟩|⟨cCN,hp⟩
      ·
       refine FW.condT kCM cCN ?_
       refine FW.seq (FW.region ?_)
       refine FL.v (E.assign (v:=Value.bool false) rfl) ?_
       refine FL.nil ?_
       refine FW.ret ?_
       obtain rfl:=Option.some.inj hp
       exact ⟨.inr rfl,res1 rfl rfl ⟨rfl,SCr.back⟩⟩
      ·
       refine FW.condF kCM cCN ?_
       refine FW.skip (FW.seq (FW.region ?_))
       refine FL.v (E.fieldAddr zap kCI) ?_
       refine FL.v (E.load rfl (zao Tryz.isAgg68 Tryz.sizeOf68 (((at59.mono (rAB.inc.tr iCs)).now SCr.sl).sub (j:=0) (n:=2) (c:=[v45,v47]) rfl) rfl)) ?_
       refine FL.v (E.fieldAddr zaT kCI) ?_
       refine FL.v (E.load rfl (zaf Tryz.isAgg3 ((at59.mono (rAB.inc.tr iCs)).now SCr.sl) rfl)) ?_
       refine FL.v (E.move kCL) ?_
       obtain ⟨rCO,hrCP,hp⟩:=bnd hp
       refine FL.call rfl rfl rfl (E.call Tryz.call156 (A3 rfl rfl rfl)) (w_impl_premisesOf SCr.sl x43.seq v45 (h46.mono ((((i27.tr i35).tr i58).tr rAB.inc).tr iCs)) v47 (h48.mono ((((i27.tr i35).tr i58).tr rAB.inc).tr iCs)) x43.rule (Value.pointer (some qBT)) rAw.1 (hAD.mono iCs) hrCP) ?_
       rintro e wCR ⟨HCQ,vCU,nCV,csCW,rfl,rCT,elsCX⟩
       refine ⟨_,rfl,?_⟩
       have SCS:=SCr.join (l':=[.row 68 2 vCU nCV csCW]) rCT rfl
       refine FL.v (E.assign (v:=vCU) rfl) ?_
       refine FL.nil (FW.seq (FW.seq ?_))
       obtain ⟨xD7,hxD8,hp⟩:=bnd hp
       obtain ⟨rDk,hrDl,hp⟩:=bnd hp
       refine FW.drawB (SX Ha wa HCQ [.row 68 2 vCU nCV csCW]) (fun f w=>∃ H:GH,St Ha wa H w [.row 68 2 vCU nCV csCW]∧Inc HCQ H∧f 5=Value.pointer (some ⟨b49,0,none⟩)∧f 6=Value.func (.func 194) #[] #[Value.pointer (some ⟨b29,0,none⟩),Value.pointer (some ⟨b21,0,none⟩)]∧f 7=Value.func (.func 195) #[] #[]∧f 12=vCU∧f 168=Value.bool (!rDk)) (by kernel_rfl) SCS.sl ?_ ?_
       ·
        intro wCY rCZ
        have SD0:=SCS.call rCZ
        refine FB.t (i:=0) (bs 10 1) rfl (SP.nil ⟨_,SD0,(Inc.rfl _)⟩) rfl (fun w' hw'=>(E.move kCJ)) ?_
        refine FB.t (i:=1) (bs 10 3) rfl (SP.nil ⟨_,SD0,(Inc.rfl _)⟩) rfl (fun w' hw'=>(E.fieldAddr zaE kCI)) ?_
        refine FB.t (i:=2) (bs 10 7) rfl (SP.nil ⟨_,SD0,(Inc.rfl _)⟩) rfl (fun w' hw'=>(E.load rfl (zaf Tryz.isAgg3 ((at59.mono ((rAB.inc.tr iCs).tr rCT.run.inc)).now hw'.sl) rfl))) ?_
        refine FB.t (i:=3) (bs 10 15) rfl (SP.nil ⟨_,SD0,(Inc.rfl _)⟩) rfl (fun w' hw'=>(E.move kCK)) ?_
        refine FB.t (i:=4) (bs 10 31) rfl (SP.nil ⟨_,SD0,(Inc.rfl _)⟩) rfl (fun w' hw'=>(E.move (v:=vCU) rfl)) ?_
        obtain ⟨pD1,csD2,ptD3,lD4,atD5,relD6,hallD9⟩:=SD0.row_atA (i:=0) rfl elsCX (by decide) hxD8
        obtain ⟨vDa,vDc,rfl,hDb,hDd⟩:=eSequent_open relD6
        refine FB.t (i:=5) (bs 10 63) rfl (SP.nil ⟨_,SD0,(Inc.rfl _)⟩) rfl (fun w' hw'=>(E.indexAddr te172 rfl rfl ptD3)) ?_
        refine FB.t (i:=6) (bs 10 127) rfl (SP.nil ⟨_,SD0,(Inc.rfl _)⟩) rfl (fun w' hw'=>(E.load rfl (zao Tryz.isAgg68 Tryz.sizeOf68 (hw'.use fun _ st=>hallD9 _ _ _ 0 st rfl) rfl))) ?_
        refine FB.all1 (i:=7) (by kernel_rfl) ?_
        ·
         refine FC.call (l':=(bs 10 255)) rfl (by kernel_rfl) rfl rfl rfl (E.callV Tryz.call195 rfl (appA (A1 rfl) #[])) (zdu SD0.sl xD7 vDa hDb vDc hDd) ?_
         rintro e wDf ⟨HDe,qDi,rfl,rDh,hDj⟩
         refine ⟨_,rfl,?_⟩
         have SDg:=SD0.call rDh
         refine ⟨(SP.nil ⟨_,SDg,rDh.inc⟩),?_⟩
         refine FB.all1 (i:=8) (by kernel_rfl) ?_
         ·
          refine FC.call (l':=(bs 10 511)) rfl (by kernel_rfl) rfl rfl rfl (E.callV Tryz.call194 rfl (appA (A2 rfl rfl) #[Value.pointer (some ⟨b29,0,none⟩),Value.pointer (some ⟨b21,0,none⟩)])) (zc7 SDg.sl x43.a (Value.func (.func 196) #[] #[Value.pointer (some qDi)]) (fun x0=>PF.za5 x0 xD7) (fun H2 w2 hi2 hs2 x0 y0_0 z0_0 y0_1 z0_1 r hr=>⟨196,#[Value.pointer (some qDi)],rfl,Tryz.call196,zdv hs2 x0 y0_0 z0_0 y0_1 z0_1 qDi xD7 vDa ((hDb.mono rDh.inc).mono hi2) vDc ((hDd.mono rDh.inc).mono hi2) (hDj.mono hi2) hr⟩) ⟨b29,0,none⟩ a1 (at36.mono ((((i58.tr rAB.inc).tr iCs).tr rCT.run.inc).tr rDh.inc)) ⟨b21,0,none⟩ a0 v0 (p0.mono ((((((i27.tr i35).tr i58).tr rAB.inc).tr iCs).tr rCT.run.inc).tr rDh.inc)) (at28.mono (((((i35.tr i58).tr rAB.inc).tr iCs).tr rCT.run.inc).tr rDh.inc)) hrDl) ?_
          rintro e wDm ⟨rfl,rDn⟩
          refine ⟨_,rfl,?_⟩
          have SDo:=SDg.call rDn
          refine ⟨(SP.nil ⟨_,SDo,rDh.inc⟩),?_⟩
          refine FB.t (i:=9) (bs 10 1023) rfl (SP.nil ⟨_,SDo,rDh.inc⟩) rfl (fun w' hw'=>(E.not rfl)) ?_
          exact FB.done (by kernel_rfl) ⟨_,SDo,rDh.inc,kCI,kCJ,kCK,rfl,rfl⟩
       ·
        rintro fDt wDs ⟨HDp,SDq,iDr,kDu,kDv,kDw,kDx,kDy⟩
        rcases ifB hp with ⟨cDz,hp⟩|⟨cDz,hp⟩
        ·
         refine FW.condT kDy cDz ?_
         refine FW.seq (FW.region ?_)
         refine FL.v (E.assign (v:=Value.bool false) rfl) ?_
         refine FL.nil ?_
         refine FW.ret ?_
         obtain rfl:=Option.some.inj hp
         exact ⟨.inr rfl,res1 rfl rfl ⟨rfl,SDq.back⟩⟩
        ·
         refine FW.condF kDy cDz ?_
         refine FW.skip (FW.seq (FW.seq (FW.region ?_)))
         refine FL.v (E.move kDx) ?_
         refine FL.v (E.lenO te172 rfl SDq (i:=0) rfl elsCX (by decide)) ?_
         refine FL.v (E.eql rfl rfl) ?_
         refine FL.nil ?_
         rcases ifB hp with ⟨cDA,hp⟩|⟨cDA,hp⟩
         ·
          refine FW.condT rfl cDA ?_
          refine FW.seq (FW.region ?_)
          refine FL.v (E.fieldAddr zaH kDu) ?_
          refine FL.v (E.load rfl (zaf Tryz.isAgg3 ((at59.mono (((rAB.inc.tr iCs).tr rCT.run.inc).tr iDr)).now SDq.sl) rfl)) ?_
          refine FL.v (E.eql rfl rfl) ?_
          refine FL.v (E.assign (v:=Value.bool (x43.b == 0)) rfl) ?_
          refine FL.nil ?_
          refine FW.ret ?_
          obtain rfl:=Option.some.inj hp
          exact ⟨.inr rfl,res1 rfl rfl ⟨rfl,SDq.back⟩⟩
         ·
          refine FW.condF rfl cDA ?_
          refine FW.skip (FW.seq ?_)
          obtain ⟨xDK,hxDL,hp⟩:=bnd hp
          obtain ⟨rDX,hrDY,hp⟩:=bnd hp
          refine FW.drawB (SX Ha wa HDp [.row 68 2 vCU nCV csCW]) (fun f w=>∃ H:GH,St Ha wa H w []∧Inc HDp H∧f 4=Value.bool rDX) (by kernel_rfl) SDq.sl ?_ ?_
          ·
           intro wDB rDC
           have SDD:=SDq.call rDC
           refine FB.t (i:=0) (bs 10 1) rfl (SP.nil ⟨_,SDD,(Inc.rfl _)⟩) rfl (fun w' hw'=>(E.move kDv)) ?_
           refine FB.t (i:=1) (bs 10 3) rfl (SP.nil ⟨_,SDD,(Inc.rfl _)⟩) rfl (fun w' hw'=>(E.fieldAddr zaH kDu)) ?_
           refine FB.t (i:=2) (bs 10 7) rfl (SP.nil ⟨_,SDD,(Inc.rfl _)⟩) rfl (fun w' hw'=>(E.load rfl (zaf Tryz.isAgg3 ((at59.mono (((rAB.inc.tr iCs).tr rCT.run.inc).tr iDr)).now hw'.sl) rfl))) ?_
           refine FB.t (i:=3) (bs 10 15) rfl (SP.nil ⟨_,SDD,(Inc.rfl _)⟩) rfl (fun w' hw'=>(E.move kDw)) ?_
           refine FB.t (i:=4) (bs 10 31) rfl (SP.nil ⟨_,SDD,(Inc.rfl _)⟩) rfl (fun w' hw'=>(E.move kDx)) ?_
           obtain ⟨pDE,csDF,ptDG,lDH,atDI,relDJ,hallDM⟩:=SDD.row_atA (i:=0) rfl elsCX (by decide) hxDL
           obtain ⟨vDN,vDP,rfl,hDO,hDQ⟩:=eSequent_open relDJ
           refine FB.t (i:=5) (bs 10 63) rfl (SP.nil ⟨_,SDD,(Inc.rfl _)⟩) rfl (fun w' hw'=>(E.indexAddr te172 rfl rfl ptDG)) ?_
           refine FB.t (i:=6) (bs 10 127) rfl (SP.nil ⟨_,SDD,(Inc.rfl _)⟩) rfl (fun w' hw'=>(E.load rfl (zao Tryz.isAgg68 Tryz.sizeOf68 (hw'.use fun _ st=>hallDM _ _ _ 0 st rfl) rfl))) ?_
           refine FB.all1 (i:=7) (by kernel_rfl) ?_
           ·
            refine FC.call (l':=(bs 10 255)) rfl (by kernel_rfl) rfl rfl rfl (E.callV Tryz.call195 rfl (appA (A1 rfl) #[])) (zdu SDD.sl xDK vDN (hDO.mono iDr) vDP (hDQ.mono iDr)) ?_
            rintro e wDS ⟨HDR,qDV,rfl,rDU,hDW⟩
            refine ⟨_,rfl,?_⟩
            have SDT:=SDD.call rDU
            refine ⟨(SP.nil ⟨_,SDT,rDU.inc⟩),?_⟩
            refine FB.all1 (i:=8) (by kernel_rfl) ?_
            ·
             refine FC.call (l':=(bs 10 511)) rfl (by kernel_rfl) rfl rfl rfl (E.callV Tryz.call194 rfl (appA (A2 rfl rfl) #[Value.pointer (some ⟨b29,0,none⟩),Value.pointer (some ⟨b21,0,none⟩)])) (zc7 SDT.sl x43.b (Value.func (.func 196) #[] #[Value.pointer (some qDV)]) (fun x0=>PF.za5 x0 xDK) (fun H2 w2 hi2 hs2 x0 y0_0 z0_0 y0_1 z0_1 r hr=>⟨196,#[Value.pointer (some qDV)],rfl,Tryz.call196,zdv hs2 x0 y0_0 z0_0 y0_1 z0_1 qDV xDK vDN ((hDO.mono (iDr.tr rDU.inc)).mono hi2) vDP ((hDQ.mono (iDr.tr rDU.inc)).mono hi2) (hDW.mono hi2) hr⟩) ⟨b29,0,none⟩ a1 (at36.mono (((((i58.tr rAB.inc).tr iCs).tr rCT.run.inc).tr iDr).tr rDU.inc)) ⟨b21,0,none⟩ a0 v0 (p0.mono (((((((i27.tr i35).tr i58).tr rAB.inc).tr iCs).tr rCT.run.inc).tr iDr).tr rDU.inc)) (at28.mono ((((((i35.tr i58).tr rAB.inc).tr iCs).tr rCT.run.inc).tr iDr).tr rDU.inc)) hrDY) ?_
             rintro e wDZ ⟨rfl,rE0⟩
             refine ⟨_,rfl,?_⟩
             have SE1:=SDT.call rE0
             refine ⟨(SP.nil ⟨_,SE1,rDU.inc⟩),?_⟩
             refine FB.t (i:=9) (bs 10 1023) rfl (SP.nil ⟨_,SE1,rDU.inc⟩) rfl (fun w' hw'=>(E.assign (v:=Value.bool rDX) rfl)) ?_
             exact FB.done (by kernel_rfl) ⟨_,(SE1.sel [] (by decide) rfl),rDU.inc,rfl⟩
          ·
           rintro fE6 wE5 ⟨HE2,SE3,iE4,kE7⟩
           refine FW.ret ?_
           obtain rfl:=Option.some.inj hp
           exact ⟨.inr rfl,res1 rfl kE7 ⟨rfl,SE3.back⟩⟩

theorem w_impl_firstBadSeq {Ha:GH} {wa:World} (hs:Sl Ha wa) (v0:Value) (a0:List zac) (p0:RSl Ha eSeqStep 6 v0 a0) {r:Int} (hp:(PF.zdl a0)=some r) :
  Calls Tryz.prog 110 #[v0] wa (Sc Ha wa (Value.int .i64 r)):=by
 unfold PF.zdl at hp
 have S0:=St.init hs
 refine zaj (N:=15) (args:=[v0]) Tryz.func110 rfl rfl rfl ?_
 refine FW.seq (FW.region ?_)
 refine FL.v (E.assign (v:=Value.int .i64 0) rfl) ?_
 refine FL.nil (FW.seq (FW.seq (FW.region ?_)))
 refine FL.v (E.move (v:=v0) rfl) ?_
 refine FL.v (E.lenP te24 rfl p0) ?_
 refine FL.v (E.move (v:=Value.int .i64 0) rfl) ?_
 refine FL.nil ?_
 obtain ⟨q22,hq,hp⟩:=bndR hp
 refine FW.block ?_
 refine FW.mono (FW.forL (S:=Unit) (X:=Int) (fun (i22:Nat) (s22:Unit) f w=>∃ H:GH,St Ha wa H w []∧Inc Ha H∧f 6=Value.int .i64 ((i22:Nat):Int)∧f 0=v0∧f 5=Value.int .i64 (len a0)) (fun q e f w=>match q with|.go s22=>e=Exit.exit 0∧(∃ H:GH,St Ha wa H w []∧Inc Ha H)|.rt x=>((e=Exit.ret)∧(fun e f w=>(e=Exit.normal∨e=Exit.ret)∧∀ a,Fr (δ:=[]) 15 a f→∃ v,(results Tryz.f110 a.tmps).run Tryz.prog w=.ok v w∧(Sc Ha wa (Value.int .i64 x)) (.returned v) w) e f w)) hq ⟨_,S0,(Inc.rfl _),rfl,rfl,rfl⟩ ?_ ?_) ?_
 ·
  clear hp hq
  rintro i22 y21 s22 f41 w40 ⟨H37,S38,i39,k42,k43,k44⟩ hx22 o51 hp
  refine FW.seq (FW.region ?_)
  refine FL.v (E.lssT k42 k44 (zaJ hx22)) ?_
  refine FL.nil (FW.seq ?_)
  refine FW.condT rfl rfl ?_
  refine FW.skip (FW.seq (FW.block (FW.seq (FW.region ?_))))
  refine FL.v (E.move k42) ?_
  refine FL.v (E.assign (v:=Value.int .i64 ((i22:Nat):Int)) rfl) ?_
  refine FL.nil (FW.seq (FW.region ?_))
  refine FL.v (E.move k43) ?_
  refine FL.v (E.move (v:=Value.int .i64 ((i22:Nat):Int)) rfl) ?_
  obtain ⟨r45,hr46,hp⟩:=bnd hp
  refine FL.call rfl rfl rfl (E.call Tryz.call158 (A2 rfl rfl)) (w_impl_seqCorrect S38.sl v0 a0 (p0.mono i39) ((i22:Nat):Int) hr46) ?_
  rintro e w47 ⟨rfl,r48⟩
  refine ⟨_,rfl,?_⟩
  have S49:=S38.call r48
  refine FL.v (E.not rfl) ?_
  refine FL.nil ?_
  rcases ifB hp with ⟨c50,hp⟩|⟨c50,hp⟩
  ·
   refine FW.condT rfl c50 ?_
   refine FW.seq (FW.region ?_)
   refine FL.v (E.move (v:=Value.int .i64 ((i22:Nat):Int)) rfl) ?_
   refine FL.v (E.assign (v:=Value.int .i64 ((i22:Nat):Int)) rfl) ?_
   refine FL.nil ?_
   refine FW.ret ?_
   obtain rfl:=Option.some.inj hp
   exact ⟨nofun,rfl,⟨.inr rfl,res1 rfl rfl ⟨rfl,S49.back⟩⟩⟩
  ·
   refine FW.condF rfl c50 ?_
   refine FW.skip (FW.region ?_)
   refine FL.v (E.add k42 rfl) ?_
   refine FL.v (E.move (v:=Value.int .i64 (wr (((i22:Nat):Int) + 1))) rfl) ?_
   refine FL.nil ?_
   obtain rfl:=Option.some.inj hp
   exact ⟨rfl,⟨_,S49,i39,(zaA rfl (zat hx22) (p0.mono i39).le),k43,k44⟩⟩
 ·
  clear hp hq
  rintro s22 f61 w60 ⟨H57,S58,i59,k62,k63,k64⟩
  refine FW.seq (FW.region ?_)
  refine FL.v (E.lss k62 k64) ?_
  refine FL.nil (FW.seq ?_)
  refine FW.condF rfl zaK ?_
  refine FW.exit ?_
  exact ⟨nofun,rfl,⟨_,S58,i59⟩⟩
 ·
  clear hq
  intro e f56 w55 hD
  rcases q22 with s22|x22
  ·
   obtain ⟨rfl,hD⟩:=hD
   obtain ⟨H52,S53,i54⟩:=hD
   replace hp:=el_go hp
   refine FW.seq (FW.region ?_)
   refine FL.v (E.assign (v:=Value.int .i64 (-1)) rfl) ?_
   refine FL.nil ?_
   refine FW.ret ?_
   obtain rfl:=Option.some.inj hp
   exact ⟨.inr rfl,res1 rfl rfl ⟨rfl,S53.back⟩⟩
  ·
   obtain ⟨he,hL⟩:=hD
   replace hp:=el_rt hp
   obtain rfl:=Option.some.inj hp
   subst he
   exact hL

theorem zeg {Ha:GH} {wa:World} (hs:Sl Ha wa) (v0:Value) (a0:List zac) (p0:RSl Ha eSeqStep 6 v0 a0) {r:Bool} (hp:(PF.zca a0)=some r) :
  Calls Tryz.prog 62 #[v0] wa (Sc Ha wa (Value.bool r)):=by
 unfold PF.zca at hp
 have S0:=St.init hs
 refine zaj (N:=11) (args:=[v0]) Tryz.func62 rfl rfl rfl ?_
 refine FW.seq (FW.region ?_)
 refine FL.v (E.assign (v:=Value.bool false) rfl) ?_
 refine FL.nil (FW.seq (FW.region ?_))
 refine FL.v (E.move (v:=v0) rfl) ?_
 refine FL.v (E.lenP te24 rfl p0) ?_
 refine FL.call rfl rfl rfl (E.call Tryz.call91 (A3 rfl rfl rfl)) (w_impl_within S0.sl (len a0) 1 200) ?_
 rintro e w21 ⟨rfl,r22⟩
 refine ⟨_,rfl,?_⟩
 have S23:=S0.call r22
 refine FL.v (E.move (v:=Value.bool (PF.zbG (len a0) 1 200)) rfl) ?_
 obtain ⟨t29,hqt29,hp⟩:=bnd hp
 refine FL.cut 4 (fun f w=>∃ H:GH,St Ha wa H w []∧Inc Ha H∧f 10=Value.bool t29) ?_ ?_
 ·
  clear hp;have hp:=hqt29;clear hqt29
  rcases ifB hp with ⟨c35,hp⟩|⟨c35,hp⟩
  ·
   refine FL.val (zab rfl rfl rfl c35) rfl rfl (E.move (v:=v0) rfl) ?_
   obtain ⟨r36,hr37,hp⟩:=bnd hp
   refine FL.call (zab rfl rfl rfl c35) rfl rfl (E.call Tryz.call110 (A1 rfl)) (w_impl_firstBadSeq S23.sl v0 a0 p0 hr37) ?_
   rintro e w38 ⟨rfl,r39⟩
   refine ⟨_,rfl,?_⟩
   have S40:=S23.call r39
   refine FL.val (zab rfl rfl rfl c35) rfl rfl (E.lss rfl rfl) ?_
   obtain rfl:=Option.some.inj hp
   refine FL.v (E.pickT rfl c35 rfl) ?_
   exact FL.nil ⟨rfl,_,S40,(Inc.rfl _),rfl⟩
  ·
   refine FL.skip (wF_no rfl rfl rfl c35) rfl ?_
   refine FL.skip (wF_no rfl rfl rfl c35) rfl ?_
   refine FL.skip (wF_no rfl rfl rfl c35) rfl ?_
   obtain rfl:=Option.some.inj hp
   refine FL.v (E.pickF rfl c35 rfl) ?_
   exact FL.nil ⟨rfl,_,S23,(Inc.rfl _),rfl⟩
 rintro f34 w33 ⟨H30,S31,i32,k41⟩
 refine FL.v (E.assign k41) ?_
 refine FL.nil ?_
 refine FW.ret ?_
 obtain rfl:=Option.some.inj hp
 exact ⟨.inr rfl,res1 rfl rfl ⟨rfl,S31.back⟩⟩

@[reducible] def zeH (Ha:GH) (wa:World) (r:zac):Ending→World→Prop :=
 fun e w'=>∃ H':GH,∃ v0_0:Value,∃ v0_1:Value,e=.returned (Value.agg #[v0_0,v0_1,Value.int .i64 r.rule,Value.string r.main,Value.int .i64 r.a,Value.int .i64 r.b])∧Run wa.heap.size Ha wa H' w'∧RSl H' eS 1 v0_0 r.seq.left∧RSl H' eS 1 v0_1 r.seq.right
theorem zeh {Ha:GH} {wa:World} (hs:Sl Ha wa) (v0:Value) (a0:List zac) (p0:RSl Ha eSeqStep 6 v0 a0) {r:zac} (hp:(PF.zcy a0)=some r) :
  Calls Tryz.prog 66 #[v0] wa (zeH Ha wa r):=by
 unfold PF.zcy at hp
 have S0:=St.init hs
 refine zaj (N:=9) (args:=[v0]) Tryz.func66 rfl rfl rfl ?_
 refine FW.seq (FW.region ?_)
 obtain ⟨b21,w22,run23,S24⟩:=S0.alloc (P:=Tryz.prog) 74 [Value.slice none 0 0,Value.slice none 0 0,Value.int .i64 0,Value.string ByteArray.empty,Value.int .i64 0,Value.int .i64 0] Tryz.zeroValue74 rfl (zaa rfl (zaa rfl (zaa rfl (zaa rfl (zaa rfl (zaa rfl zag))))))
 refine FL.v (E.alloc run23) ?_
 refine FL.nil (FW.seq (FW.region ?_))
 refine FL.v (E.move (v:=v0) rfl) ?_
 refine FL.v (E.move (v:=v0) rfl) ?_
 refine FL.v (E.lenP te24 rfl p0) ?_
 refine FL.v (E.sub rfl rfl) ?_
 obtain ⟨x31,hx32,hp⟩:=bnd hp
 obtain ⟨p25,cs26,pt27,l28,at29,rel30⟩:=p0.at hx32
 obtain ⟨v33,v35,rfl,h34,h36⟩:=zaD rel30
 refine FL.v (E.indexAddr te24 rfl rfl pt27) ?_
 refine FL.v (E.load rfl (zao Tryz.isAgg74 Tryz.sizeOf74 (at29.now S24.sl) rfl)) ?_
 obtain ⟨w37,run38,S39⟩:=S24.store0 (P:=Tryz.prog) (t:=74) (i:=0) (cs':=[v33,v35,Value.int .i64 x31.rule,Value.string x31.main,Value.int .i64 x31.a,Value.int .i64 x31.b]) (l':=[.box b21 74 [v33,v35,Value.int .i64 x31.rule,Value.string x31.main,Value.int .i64 x31.a,Value.int .i64 x31.b]]) (v:=Value.agg #[v33,v35,Value.int .i64 x31.rule,Value.string x31.main,Value.int .i64 x31.a,Value.int .i64 x31.b]) (c:=[v33,v35,Value.int .i64 x31.rule,Value.string x31.main,Value.int .i64 x31.a,Value.int .i64 x31.b]) rfl Tryz.sizeOf74 rfl rfl (zaa h34.one (zaa h36.one (zaa rfl (zaa rfl (zaa rfl (zaa rfl zag)))))) (Nat.le_of_ble_eq_true rfl) rfl rfl
 refine FL.act rfl rfl (E.store rfl rfl run38) ?_
 obtain ⟨H40,S41,i42,at43⟩:=S39.sealBox (i:=0) (l':=[]) rfl rfl
 refine FL.nil ?_
 refine FW.ret ?_
 obtain rfl:=Option.some.inj hp
 exact ⟨.inr rfl,resC rfl rfl (zcG Tryz.isAgg74 Tryz.sizeOf74 (at43.now S41.sl) rfl) ⟨_,_,_,rfl,S41.run,(h34.mono i42),(h36.mono i42)⟩⟩

set_option maxHeartbeats 4000000 in
theorem w_impl_implication {Ha:GH} {wa:World} (hs:Sl Ha wa) (a0:zad) (v0_0:Value) (p0_0:RSl Ha eS 1 v0_0 a0.left) (v0_1:Value) (p0_1:RSl Ha eS 1 v0_1 a0.right) (a1:zad) (v1_0:Value) (p1_0:RSl Ha eS 1 v1_0 a1.left) (v1_1:Value) (p1_1:RSl Ha eS 1 v1_1 a1.right) {r:Bool} (hp:(PF.zdm a0 a1)=some r) :
  Calls Tryz.prog 75 #[Value.agg #[v0_0,v0_1],Value.agg #[v1_0,v1_1]] wa (Sc Ha wa (Value.bool r)):=by
 unfold PF.zdm at hp
 have S0:=St.init hs
 refine zaj (N:=52) (args:=[Value.agg #[v0_0,v0_1],Value.agg #[v1_0,v1_1]]) Tryz.func75 rfl rfl rfl ?_
 refine FW.seq (FW.region ?_)
 obtain ⟨b21,w22,run23,S24⟩:=S0.box (P:=Tryz.prog) 68 [v0_0,v0_1] (v:=Value.agg #[v0_0,v0_1]) rfl (zaa p0_0.one (zaa p0_1.one zag))
 refine FL.v (E.box rfl run23) ?_
 obtain ⟨H25,S26,i27,at28⟩:=S24.sealBox (i:=0) (l':=[]) rfl rfl
 obtain ⟨b29,w30,run31,S32⟩:=S26.box (P:=Tryz.prog) 68 [v1_0,v1_1] (v:=Value.agg #[v1_0,v1_1]) rfl (zaa p1_0.one (zaa p1_1.one zag))
 refine FL.v (E.box rfl run31) ?_
 obtain ⟨H33,S34,i35,at36⟩:=S32.sealBox (i:=0) (l':=[]) rfl rfl
 refine FL.v (E.assign (v:=Value.bool false) rfl) ?_
 refine FL.nil (FW.seq (FW.seq (FW.region ?_)))
 refine FL.v (E.fieldAddr zau rfl) ?_
 refine FL.v (E.load rfl (zaf Tryz.isAgg22 ((at28.mono i35).now S34.sl) rfl)) ?_
 refine FL.v (E.fieldAddr zau rfl) ?_
 refine FL.v (E.load rfl (zaf Tryz.isAgg22 (at36.now S34.sl) rfl)) ?_
 obtain ⟨r37,hr38,hp⟩:=bnd hp
 refine FL.call rfl rfl rfl (E.call Tryz.call67 (A2 rfl rfl)) (zdJ S34.sl v0_0 a0.left (p0_0.mono (i27.tr i35)) v1_0 a1.left (p1_0.mono (i27.tr i35)) hr38) ?_
 rintro e w39 ⟨rfl,r40⟩
 refine ⟨_,rfl,?_⟩
 have S41:=S34.call r40
 refine FL.v (E.not rfl) ?_
 refine FL.v (E.move (v:=Value.bool (!r37)) rfl) ?_
 refine FL.cut 5 (fun f w=>∃ H:GH,St Ha wa H w []∧Inc H33 H∧f 2=Value.pointer (some ⟨b21,0,none⟩)∧f 3=Value.pointer (some ⟨b29,0,none⟩)∧f 18=Value.bool (bif (!r37) then true else (!((len a0.right) == 1)))) ?_ ?_
 ·
  rcases bcase (!r37) with c48|c48
  ·
   refine FL.skip (wF_no rfl rfl rfl c48) rfl ?_
   refine FL.skip (wF_no rfl rfl rfl c48) rfl ?_
   refine FL.skip (wF_no rfl rfl rfl c48) rfl ?_
   refine FL.skip (wF_no rfl rfl rfl c48) rfl ?_
   refine FL.v (E.pickT rfl c48 rfl) ?_
   exact FL.nil ⟨rfl,_,S41,(Inc.rfl _),rfl,rfl,(congrArg Value.bool (bifT c48).symm)⟩
  ·
   refine FL.val (zab rfl rfl rfl c48) rfl rfl (E.fieldAddr zas rfl) ?_
   refine FL.val (zab rfl rfl rfl c48) rfl rfl (E.load rfl (zaf Tryz.isAgg22 ((at28.mono i35).now S41.sl) rfl)) ?_
   refine FL.val (zab rfl rfl rfl c48) rfl rfl (E.lenP te22 rfl p0_1) ?_
   refine FL.val (zab rfl rfl rfl c48) rfl rfl (E.neq rfl rfl) ?_
   refine FL.v (E.pickF rfl c48 rfl) ?_
   exact FL.nil ⟨rfl,_,S41,(Inc.rfl _),rfl,rfl,(congrArg Value.bool (bifF c48).symm)⟩
 rintro f47 w46 ⟨H43,S44,i45,k49,k50,k51⟩
 refine FL.v (E.move k51) ?_
 refine FL.cut 5 (fun f w=>∃ H:GH,St Ha wa H w []∧Inc H43 H∧f 2=Value.pointer (some ⟨b21,0,none⟩)∧f 3=Value.pointer (some ⟨b29,0,none⟩)∧f 24=Value.bool (bif (bif (!r37) then true else (!((len a0.right) == 1))) then true else (!((len a1.right) == 1)))) ?_ ?_
 ·
  rcases bcase (bif (!r37) then true else (!((len a0.right) == 1))) with c58|c58
  ·
   refine FL.skip (wF_no rfl rfl rfl c58) rfl ?_
   refine FL.skip (wF_no rfl rfl rfl c58) rfl ?_
   refine FL.skip (wF_no rfl rfl rfl c58) rfl ?_
   refine FL.skip (wF_no rfl rfl rfl c58) rfl ?_
   refine FL.v (E.pickT rfl c58 rfl) ?_
   exact FL.nil ⟨rfl,_,S44,(Inc.rfl _),k49,k50,(congrArg Value.bool (bifT c58).symm)⟩
  ·
   refine FL.val (zab rfl rfl rfl c58) rfl rfl (E.fieldAddr zas k50) ?_
   refine FL.val (zab rfl rfl rfl c58) rfl rfl (E.load rfl (zaf Tryz.isAgg22 ((at36.mono i45).now S44.sl) rfl)) ?_
   refine FL.val (zab rfl rfl rfl c58) rfl rfl (E.lenP te22 rfl p1_1) ?_
   refine FL.val (zab rfl rfl rfl c58) rfl rfl (E.neq rfl rfl) ?_
   refine FL.v (E.pickF rfl c58 rfl) ?_
   exact FL.nil ⟨rfl,_,S44,(Inc.rfl _),k49,k50,(congrArg Value.bool (bifF c58).symm)⟩
 rintro f57 w56 ⟨H53,S54,i55,k59,k60,k61⟩
 refine FL.nil ?_
 rcases ifB hp with ⟨c62,hp⟩|⟨c62,hp⟩
 ·
  refine FW.condT k61 c62 ?_
  refine FW.seq (FW.region ?_)
  refine FL.v (E.assign (v:=Value.bool false) rfl) ?_
  refine FL.nil ?_
  refine FW.ret ?_
  obtain rfl:=Option.some.inj hp
  exact ⟨.inr rfl,res1 rfl rfl ⟨rfl,S54.back⟩⟩
 ·
  refine FW.condF k61 c62 ?_
  refine FW.skip (FW.seq (FW.region ?_))
  refine FL.v (E.fieldAddr zas k60) ?_
  refine FL.v (E.load rfl (zaf Tryz.isAgg22 ((at36.mono (i45.tr i55)).now S54.sl) rfl)) ?_
  obtain ⟨x69,hx70,hp⟩:=bnd hp
  obtain ⟨p63,cs64,pt65,l66,at67,rel68⟩:=p1_1.at hx70
  obtain rfl:=eS_open rel68
  refine FL.v (E.indexAddr te22 rfl rfl pt65) ?_
  refine FL.v (E.load rfl (zar Tryz.isAgg9 ((at67.mono (((i27.tr i35).tr i45).tr i55)).now S54.sl) rfl)) ?_
  obtain ⟨r71,hr72,hp⟩:=bnd hp
  refine FL.call rfl rfl rfl (E.call Tryz.call78 (A1 rfl)) (zdt S54.sl x69 hr72) ?_
  rintro e w74 ⟨H73,v77,rfl,r76,h78⟩
  refine ⟨_,rfl,?_⟩
  have S75:=S54.call r76
  refine FL.v (E.move (v:=Value.tuple #[v77,Value.bool r71.2]) rfl) ?_
  refine FL.v (E.extract (i:=0) rfl rfl) ?_
  refine FL.v (E.extract (i:=1) rfl rfl) ?_
  refine FL.v (E.assign (v:=v77) rfl) ?_
  refine FL.v (E.assign (v:=Value.bool r71.2) rfl) ?_
  refine FL.nil (FW.seq ?_)
  refine FW.draw (fun w'=>Run w74.heap.size H73 w74 H73 w') (by kernel_rfl) (by kernel_rfl) (zaN S75.sl) ?_
  refine FD.val rfl rfl rfl (fun w' hw'=>(E.move (v:=v77) rfl)) ?_
  obtain ⟨y80,hy81,hp⟩:=bnd hp
  obtain ⟨q82,v84,v85,rfl,at83,h86,h87⟩:=FAt.open h78 hy81
  refine FD.val rfl rfl rfl (fun w' hw'=>(E.nilCheck rfl)) ?_
  refine FD.val rfl rfl rfl (fun w' hw'=>(E.fieldAddr tf109_0 rfl)) ?_
  refine FD.val rfl rfl rfl (fun w' hw'=>(E.load rfl (zaf Tryz.isAgg5 (at83.now (S75.call hw').sl) rfl))) ?_
  refine FD.val rfl rfl rfl (fun w' hw'=>(E.eql rfl rfl)) ?_
  refine FD.val rfl rfl rfl (fun w' hw'=>(E.move (v:=Value.bool (y80.op == 62)) rfl)) ?_
  obtain ⟨t104,hqtA4,hp⟩:=bnd hp
  refine FD.cut 13 (fun f=>f 51=Value.bool t104) ?_ ?_
  ·
   clear hp;have hp:=hqtA4;clear hqtA4
   rcases ifB hp with ⟨cAa,hp⟩|⟨cAa,hp⟩
   ·
    refine FD.val (zab rfl rfl rfl cAa) rfl rfl (fun w' hw'=>(E.move (v:=Value.pointer (some q82)) rfl)) ?_
    refine FD.val (zab rfl rfl rfl cAa) rfl rfl (fun w' hw'=>(E.nilCheck rfl)) ?_
    refine FD.val (zab rfl rfl rfl cAa) rfl rfl (fun w' hw'=>(E.fieldAddr tf109_1 rfl)) ?_
    refine FD.val (zab rfl rfl rfl cAa) rfl rfl (fun w' hw'=>(E.load rfl (zaf Tryz.isAgg101 (at83.now (S75.call hw').sl) rfl))) ?_
    obtain ⟨yAb,hy112,hp⟩:=bnd hp
    obtain ⟨qAd,vAf,vAg,rfl,atAe,hAh,hAi⟩:=FAt.open h86 hy112
    refine FD.val (zab rfl rfl rfl cAa) rfl rfl (fun w' hw'=>(E.nilCheck rfl)) ?_
    refine FD.val (zab rfl rfl rfl cAa) rfl rfl (fun w' hw'=>(E.fieldAddr zaM rfl)) ?_
    refine FD.val (zab rfl rfl rfl cAa) rfl rfl (fun w' hw'=>(E.load rfl (zaf Tryz.isAgg9 (atAe.now (S75.call hw').sl) rfl))) ?_
    refine FD.val (zab rfl rfl rfl cAa) rfl rfl (fun w' hw'=>(E.fieldAddr zas k59)) ?_
    refine FD.val (zab rfl rfl rfl cAa) rfl rfl (fun w' hw'=>(E.load rfl (zaf Tryz.isAgg22 ((at28.mono (((i35.tr i45).tr i55).tr r76.inc)).now (S75.call hw').sl) rfl))) ?_
    obtain ⟨xAp,hxAq,hp⟩:=bnd hp
    obtain ⟨pAj,csAk,ptAl,lAm,atAn,relAo⟩:=p0_1.at hxAq
    obtain rfl:=eS_open relAo
    refine FD.val (zab rfl rfl rfl cAa) rfl rfl (fun w' hw'=>(E.indexAddr te22 rfl rfl ptAl)) ?_
    refine FD.val (zab rfl rfl rfl cAa) rfl rfl (fun w' hw'=>(E.load rfl (zar Tryz.isAgg9 ((atAn.mono ((((i27.tr i35).tr i45).tr i55).tr r76.inc)).now (S75.call hw').sl) rfl))) ?_
    refine FD.val (zab rfl rfl rfl cAa) rfl rfl (fun w' hw'=>(E.eqlS rfl rfl)) ?_
    obtain rfl:=Option.some.inj hp
    refine FD.val rfl rfl rfl (fun w' hw'=>(E.pickT rfl cAa rfl)) ?_
    exact FD.nil rfl
   ·
    refine FD.skip (wF_no rfl rfl rfl cAa) rfl ?_
    refine FD.skip (wF_no rfl rfl rfl cAa) rfl ?_
    refine FD.skip (wF_no rfl rfl rfl cAa) rfl ?_
    refine FD.skip (wF_no rfl rfl rfl cAa) rfl ?_
    refine FD.skip (wF_no rfl rfl rfl cAa) rfl ?_
    refine FD.skip (wF_no rfl rfl rfl cAa) rfl ?_
    refine FD.skip (wF_no rfl rfl rfl cAa) rfl ?_
    refine FD.skip (wF_no rfl rfl rfl cAa) rfl ?_
    refine FD.skip (wF_no rfl rfl rfl cAa) rfl ?_
    refine FD.skip (wF_no rfl rfl rfl cAa) rfl ?_
    refine FD.skip (wF_no rfl rfl rfl cAa) rfl ?_
    refine FD.skip (wF_no rfl rfl rfl cAa) rfl ?_
    obtain rfl:=Option.some.inj hp
    refine FD.val rfl rfl rfl (fun w' hw'=>(E.pickF rfl cAa rfl)) ?_
    exact FD.nil rfl
  intro fA9 kAr
  refine FD.val rfl rfl rfl (fun w' hw'=>(E.assign kAr)) ?_
  refine FD.nil ?_
  intro wAs rAu
  have SAt:=S75.call rAu
  refine FW.ret ?_
  obtain rfl:=Option.some.inj hp
  exact ⟨.inr rfl,res1 rfl rfl ⟨rfl,SAt.back⟩⟩

@[reducible] def zeI (Ha:GH) (wa:World) (r:(List Int)):Ending→World→Prop :=
 fun e w'=>∃ H':GH,∃ v0:Value,∃ n0:Nat,∃ c0:List Value,e=.returned (v0)∧St Ha wa H' w' [.row 3 1 v0 n0 c0]∧Els (up wa.heap.size H') eI 1 c0 r
set_option maxHeartbeats 4000000 in
theorem zeJ {Ha:GH} {wa:World} (hs:Sl Ha wa) (a0:zac) (v0_0:Value) (p0_0:RSl Ha eS 1 v0_0 a0.seq.left) (v0_1:Value) (p0_1:RSl Ha eS 1 v0_1 a0.seq.right) :
  Calls Tryz.prog 113 #[Value.agg #[v0_0,v0_1,Value.int .i64 a0.rule,Value.string a0.main,Value.int .i64 a0.a,Value.int .i64 a0.b]] wa (zeI Ha wa (PF.zbA a0)):=by
 obtain ⟨r,hp⟩:∃ r,(PF.zbA a0)=r:=⟨_,rfl⟩
 rw [hp]
 unfold PF.zbA at hp
 have S0:=St.init hs
 refine zaj (N:=20) (args:=[Value.agg #[v0_0,v0_1,Value.int .i64 a0.rule,Value.string a0.main,Value.int .i64 a0.a,Value.int .i64 a0.b]]) Tryz.func113 rfl rfl rfl ?_
 refine FW.seq (FW.region ?_)
 obtain ⟨b21,w22,run23,S24⟩:=S0.box (P:=Tryz.prog) 74 [v0_0,v0_1,Value.int .i64 a0.rule,Value.string a0.main,Value.int .i64 a0.a,Value.int .i64 a0.b] (v:=Value.agg #[v0_0,v0_1,Value.int .i64 a0.rule,Value.string a0.main,Value.int .i64 a0.a,Value.int .i64 a0.b]) rfl (zaa p0_0.one (zaa p0_1.one (zaa rfl (zaa rfl (zaa rfl (zaa rfl zag))))))
 refine FL.v (E.box rfl run23) ?_
 obtain ⟨H25,S26,i27,at28⟩:=S24.sealBox (i:=0) (l':=[]) rfl rfl
 refine FL.v (E.assign (v:=Value.slice none 0 0) rfl) ?_
 refine FL.nil (FW.seq (FW.seq (FW.region ?_)))
 refine FL.v (E.fieldAddr zaT rfl) ?_
 refine FL.v (E.load rfl (zaf Tryz.isAgg3 (at28.now S26.sl) rfl)) ?_
 refine FL.nil (FW.block (FW.seq (FW.region ?_)))
 refine FL.v (E.eql rfl rfl) ?_
 refine FL.v (E.assign (v:=Value.bool (a0.rule == 1)) rfl) ?_
 refine FL.nil ?_
 rcases ifT hp with ⟨c29,hp⟩|⟨c29,hp⟩
 ·
  refine FW.condT rfl c29 ?_
  refine FW.seq (FW.region ?_)
  refine FL.v (E.assign (v:=Value.slice none 0 0) rfl) ?_
  refine FL.nil ?_
  refine FW.ret ?_
  obtain rfl:=hp
  exact ⟨.inr rfl,res1 rfl rfl ⟨_,_,_,_,rfl,(S26.nil 3 1),Els.nil⟩⟩
 ·
  refine FW.condF rfl c29 ?_
  refine FW.seq (FW.seq (FW.region ?_))
  refine FL.v (E.eql rfl rfl) ?_
  refine FL.v (E.assign (v:=Value.bool (a0.rule == 5)) rfl) ?_
  refine FL.nil ?_
  rcases ifT hp with ⟨c30,hp⟩|⟨c30,hp⟩
  ·
   refine FW.condT rfl c30 ?_
   refine FW.skip ?_
   refine FW.condT rfl c30 ?_
   refine FW.seq (FW.region ?_)
   refine FL.v (E.fieldAddr zaE rfl) ?_
   refine FL.v (E.load rfl (zaf Tryz.isAgg3 (at28.now S26.sl) rfl)) ?_
   refine FL.v (E.fieldAddr zaH rfl) ?_
   refine FL.v (E.load rfl (zaf Tryz.isAgg3 (at28.now S26.sl) rfl)) ?_
   obtain ⟨v31,w32,run33,S34,els35⟩:=S26.ints (P:=Tryz.prog) te82 (up wa.heap.size H25) 2 [a0.a,a0.b]
   refine FL.v (E.buildSlice (B2 rfl rfl) run33) ?_
   refine FL.v (E.assign (v:=v31) rfl) ?_
   refine FL.nil ?_
   refine FW.ret ?_
   obtain rfl:=hp
   exact ⟨.inr rfl,res1 rfl rfl ⟨_,_,_,_,rfl,S34,els35⟩⟩
  ·
   refine FW.condF rfl c30 ?_
   refine FW.seq (FW.region ?_)
   refine FL.v (E.eql rfl rfl) ?_
   refine FL.v (E.assign (v:=Value.bool (a0.rule == 6)) rfl) ?_
   refine FL.nil ?_
   rcases ifT hp with ⟨c36,hp⟩|⟨c36,hp⟩
   ·
    refine FW.condT rfl c36 ?_
    refine FW.skip ?_
    refine FW.condT rfl c36 ?_
    refine FW.seq (FW.region ?_)
    refine FL.v (E.fieldAddr zaE rfl) ?_
    refine FL.v (E.load rfl (zaf Tryz.isAgg3 (at28.now S26.sl) rfl)) ?_
    refine FL.v (E.fieldAddr zaH rfl) ?_
    refine FL.v (E.load rfl (zaf Tryz.isAgg3 (at28.now S26.sl) rfl)) ?_
    obtain ⟨v37,w38,run39,S40,els41⟩:=S26.ints (P:=Tryz.prog) te82 (up wa.heap.size H25) 2 [a0.a,a0.b]
    refine FL.v (E.buildSlice (B2 rfl rfl) run39) ?_
    refine FL.v (E.assign (v:=v37) rfl) ?_
    refine FL.nil ?_
    refine FW.ret ?_
    obtain rfl:=hp
    exact ⟨.inr rfl,res1 rfl rfl ⟨_,_,_,_,rfl,S40,els41⟩⟩
   ·
    refine FW.condF rfl c36 ?_
    refine FW.seq (FW.region ?_)
    refine FL.v (E.eql rfl rfl) ?_
    refine FL.v (E.assign (v:=Value.bool (a0.rule == 8)) rfl) ?_
    refine FL.nil ?_
    rcases ifT hp with ⟨c42,hp⟩|⟨c42,hp⟩
    ·
     refine FW.condT rfl c42 ?_
     refine FW.skip ?_
     refine FW.condT rfl c42 ?_
     refine FW.seq (FW.region ?_)
     refine FL.v (E.fieldAddr zaE rfl) ?_
     refine FL.v (E.load rfl (zaf Tryz.isAgg3 (at28.now S26.sl) rfl)) ?_
     refine FL.v (E.fieldAddr zaH rfl) ?_
     refine FL.v (E.load rfl (zaf Tryz.isAgg3 (at28.now S26.sl) rfl)) ?_
     obtain ⟨v43,w44,run45,S46,els47⟩:=S26.ints (P:=Tryz.prog) te82 (up wa.heap.size H25) 2 [a0.a,a0.b]
     refine FL.v (E.buildSlice (B2 rfl rfl) run45) ?_
     refine FL.v (E.assign (v:=v43) rfl) ?_
     refine FL.nil ?_
     refine FW.ret ?_
     obtain rfl:=hp
     exact ⟨.inr rfl,res1 rfl rfl ⟨_,_,_,_,rfl,S46,els47⟩⟩
    ·
     refine FW.condF rfl c42 ?_
     refine FW.region ?_
     refine FL.v (E.eql rfl rfl) ?_
     refine FL.v (E.assign (v:=Value.bool (a0.rule == 11)) rfl) ?_
     refine FL.nil ?_
     rcases ifT hp with ⟨c48,hp⟩|⟨c48,hp⟩
     ·
      refine FW.condT rfl c48 ?_
      refine FW.seq (FW.region ?_)
      refine FL.v (E.fieldAddr zaE rfl) ?_
      refine FL.v (E.load rfl (zaf Tryz.isAgg3 (at28.now S26.sl) rfl)) ?_
      refine FL.v (E.fieldAddr zaH rfl) ?_
      refine FL.v (E.load rfl (zaf Tryz.isAgg3 (at28.now S26.sl) rfl)) ?_
      obtain ⟨v49,w50,run51,S52,els53⟩:=S26.ints (P:=Tryz.prog) te82 (up wa.heap.size H25) 2 [a0.a,a0.b]
      refine FL.v (E.buildSlice (B2 rfl rfl) run51) ?_
      refine FL.v (E.assign (v:=v49) rfl) ?_
      refine FL.nil ?_
      refine FW.ret ?_
      obtain rfl:=hp
      exact ⟨.inr rfl,res1 rfl rfl ⟨_,_,_,_,rfl,S52,els53⟩⟩
     ·
      refine FW.condF rfl c48 ?_
      refine FW.skip (FW.seq (FW.region ?_))
      refine FL.v (E.fieldAddr zaE rfl) ?_
      refine FL.v (E.load rfl (zaf Tryz.isAgg3 (at28.now S26.sl) rfl)) ?_
      obtain ⟨v54,w55,run56,S57,els58⟩:=S26.ints (P:=Tryz.prog) te82 (up wa.heap.size H25) 1 [a0.a]
      refine FL.v (E.buildSlice (B1 rfl) run56) ?_
      refine FL.v (E.assign (v:=v54) rfl) ?_
      refine FL.nil ?_
      refine FW.ret ?_
      obtain rfl:=hp
      exact ⟨.inr rfl,res1 rfl rfl ⟨_,_,_,_,rfl,S57,els58⟩⟩

@[reducible] def zeK (Ha:GH) (wa:World) (r:zad):Ending→World→Prop :=
 fun e w'=>∃ H':GH,∃ v0_0:Value,∃ v0_1:Value,e=.returned (Value.agg #[v0_0,v0_1])∧Run wa.heap.size Ha wa H' w'∧(∃ c0 c1,Nest (up wa.heap.size H') eS 1 v0_0 r.left c0∧Nest (up wa.heap.size H') eS 1 v0_1 r.right c1∧Ap v0_0 c0 v0_1 c1)
theorem zbC {Ha:GH} {wa:World} (hs:Sl Ha wa) (a0:zad) (v0_0:Value) (p0_0:RSl Ha eS 1 v0_0 a0.left) (v0_1:Value) (p0_1:RSl Ha eS 1 v0_1 a0.right) {r:zad} (hp:(PF.zaS a0)=some r) :
  Calls Tryz.prog 114 #[Value.agg #[v0_0,v0_1]] wa (zeK Ha wa r):=by
 unfold PF.zaS at hp
 have S0:=St.init hs
 refine zaj (N:=10) (args:=[Value.agg #[v0_0,v0_1]]) Tryz.func114 rfl rfl rfl ?_
 refine FW.seq (FW.region ?_)
 obtain ⟨b21,w22,run23,S24⟩:=S0.box (P:=Tryz.prog) 68 [v0_0,v0_1] (v:=Value.agg #[v0_0,v0_1]) rfl (zaa p0_0.one (zaa p0_1.one zag))
 refine FL.v (E.box rfl run23) ?_
 obtain ⟨H25,S26,i27,at28⟩:=S24.sealBox (i:=0) (l':=[]) rfl rfl
 obtain ⟨b29,w30,run31,S32⟩:=S26.alloc (P:=Tryz.prog) 68 [Value.slice none 0 0,Value.slice none 0 0] Tryz.zeroValue68 rfl (zaa rfl (zaa rfl zag))
 refine FL.v (E.alloc run31) ?_
 refine FL.nil (FW.seq ?_)
 obtain ⟨r36,hr37,hp⟩:=bnd hp
 obtain ⟨r46,hr47,hp⟩:=bnd hp
 refine FW.drawB (Sl H25) (fun f w=>∃ H:GH,∃ v70:Value,∃ v73:Value,St Ha wa H w [.box b29 68 [v70,v73]]∧Inc H25 H∧RSl (up wa.heap.size H) eS 1 v70 r36∧RSl (up wa.heap.size H) eS 1 v73 r46∧New H25 [v70]∧New H25 [v73]∧(∀ b∈bl [v70],b ∉ bl [v73])∧f 2=Value.pointer (some (⟨b29,0,none⟩:Addr))) (by kernel_rfl) S32.sl ?_ ?_
 ·
  intro w33 r34
  have S35:=S32.call r34
  refine FB.t (i:=0) (bs 8 1) rfl (SP.nil S35.sl) rfl (fun w' hw'=>(E.fieldAddr zau rfl)) ?_
  refine FB.t (i:=1) (bs 8 3) rfl (SP.nil S35.sl) rfl (fun w' hw'=>(E.load rfl (zaf Tryz.isAgg22 (at28.now hw') rfl))) ?_
  refine FB.t (i:=3) (bs 8 11) rfl (SP.nil S35.sl) rfl (fun w' hw'=>(E.fieldAddr zas rfl)) ?_
  refine FB.t (i:=4) (bs 8 27) rfl (SP.nil S35.sl) rfl (fun w' hw'=>(E.load rfl (zaf Tryz.isAgg22 (at28.now hw') rfl))) ?_
  refine FB.all1 (i:=2) (by kernel_rfl) ?_
  ·
   refine FC.call (l':=(bs 8 31)) rfl (by kernel_rfl) rfl rfl rfl (E.call Tryz.call160 (A1 rfl)) (zdK S35.sl v0_0 a0.left (p0_0.mono i27) hr37) ?_
   rintro e w39 ⟨H38,v42,n43,cs44,rfl,r41,els45⟩
   refine ⟨_,rfl,?_⟩
   have els45:=els45.mono (up_le S35.size)
   have S40:=S35.join (l':=[.row 9 1 v42 n43 cs44,.box b29 68 [Value.slice none 0 0,Value.slice none 0 0]]) r41 rfl
   refine ⟨(SP.nil (Sl.of_inc r41.run.inc S40.sl)),?_⟩
   refine FB.all1 (i:=5) (by kernel_rfl) ?_
   ·
    refine FC.call (l':=(bs 8 63)) rfl (by kernel_rfl) rfl rfl rfl (E.call Tryz.call160 (A1 rfl)) (zdK S40.sl v0_1 a0.right (p0_1.mono (i27.tr r41.run.inc)) hr47) ?_
    rintro e w49 ⟨H48,v52,n53,cs54,rfl,r51,els55⟩
    refine ⟨_,rfl,?_⟩
    have els55:=els55.mono (up_le S40.size)
    have S50:=S40.join (l':=[.row 9 1 v52 n53 cs54,.row 9 1 v42 n43 cs44,.box b29 68 [Value.slice none 0 0,Value.slice none 0 0]]) r51 rfl
    refine ⟨(SP.nil (Sl.of_inc (r41.run.inc.tr r51.run.inc) S50.sl)),?_⟩
    obtain ⟨H56,S57,i58,h59,nv60⟩:=S50.sealRowU (i:=1) (l':=[.row 9 1 v52 n53 cs54,.box b29 68 [Value.slice none 0 0,Value.slice none 0 0]]) rfl (els45.mono (zai r51.run.inc)) (by decide) rfl
    obtain ⟨H61,S62,i63,h64,nv65⟩:=S57.sealRowU (i:=0) (l':=[.box b29 68 [Value.slice none 0 0,Value.slice none 0 0]]) rfl (els55.mono (zai i58)) (by decide) rfl
    refine FB.t (i:=6) (bs 8 127) rfl (SP.nil (Sl.of_inc (r41.run.inc.tr r51.run.inc) S50.sl)) rfl (fun w' hw'=>(E.build (B2 rfl rfl) (run_build _ 68 #[(0,v42),(1,v52)] #[v42,v52] (by obtain ⟨_,_,rfl⟩:=RSl.ln (h59.mono (upI.tr i63));obtain ⟨_,_,rfl⟩:=RSl.ln (h64.mono upI);rfl)))) ?_
    refine FB.all1 (i:=7) (by kernel_rfl) ?_
    ·
     obtain ⟨w66,run67,S69⟩:=S62.store0 (P:=Tryz.prog) (t:=68) (i:=0) (cs':=[v42,v52]) (l':=[.box b29 68 [v42,v52]]) (v:=Value.agg #[v42,v52]) (c:=[v42,v52]) rfl Tryz.sizeOf68 rfl rfl (zaa h59.one (zaa h64.one zag)) (Nat.le_of_ble_eq_true rfl) rfl rfl
     refine FC.act (l':=(bs 8 255)) rfl (by kernel_rfl) rfl rfl (E.store rfl rfl run67) ?_
     refine ⟨(SP.nil (Sl.of_inc (((r41.run.inc.tr r51.run.inc).tr i58).tr i63) S69.sl)),?_⟩
     exact FB.done (by kernel_rfl) ⟨_,_,_,S69,(((r41.run.inc.tr r51.run.inc).tr i58).tr i63),(h59.mono (zai i63)),h64,(nv60.anti (r41.run.inc.tr r51.run.inc)),(nv65.anti ((r41.run.inc.tr r51.run.inc).tr i58)),(New.apart (h59.mono (zai (Inc.rfl _))) nv65),rfl⟩
 ·
  rintro f81 w80 ⟨H77,v70,v73,S78,i79,h71,h74,nv72,nv75,hd76,k82⟩
  refine FW.ret ?_
  obtain rfl:=Option.some.inj hp
  exact ⟨.inr rfl,resC rfl k82 (zcG Tryz.isAgg68 Tryz.sizeOf68 (S78.box_now (i:=0) rfl) rfl) ⟨_,_,_,rfl,S78.run,(Ap.flat2 h71 zaO (by decide) h74 zaO (by decide) hd76)⟩⟩

@[reducible] def zeL (H0:GH) (w0:World) (Ha:GH) (L:List MO) (b0:Nat) (r:(Int×za8)):Ending→World→Prop :=
 fun e w'=>∃ H':GH,∃ v0_0r:Value,∃ n0_0r:Nat,∃ c0_0r:List Value,e=.returned (Value.int .i64 r.1)∧(St H0 w0 H' w' (.box b0 92 [v0_0r,Value.bool r.2.bad]::.row 74 6 v0_0r n0_0r c0_0r::L)∧Inc Ha H')∧Els (up w0.heap.size H') eSeqStep 6 c0_0r r.2.steps∧(bl c0_0r).Nodup
set_option maxHeartbeats 4000000 in
theorem zei {H0 Ha:GH} {w0 wa:World} {L:List MO} {a0:za8} {b0:Nat} {v0_0:Value} {n0_0:Nat} {k0_0:List Value} (S0:St H0 w0 Ha wa (.box b0 92 [v0_0,Value.bool a0.bad]::.row 74 6 v0_0 n0_0 k0_0::L)) (p0_0:Els (up w0.heap.size Ha) eSeqStep 6 k0_0 a0.steps) (d0_0:(bl k0_0).Nodup) (v1:Value) (a1:List zac) (p1:RSl Ha eSeqStep 6 v1 a1) {r:(Int×za8)} (hp:(PF.zcz a0 a1)=some r) :
  Calls Tryz.prog 69 #[Value.pointer (some (⟨b0,0,none⟩:Addr)),v1] wa (zeL H0 w0 Ha L b0 r):=by
 unfold PF.zcz at hp
 refine zaj (N:=51) (args:=[Value.pointer (some (⟨b0,0,none⟩:Addr)),v1]) Tryz.func69 rfl rfl rfl ?_
 refine FW.seq (FW.region ?_)
 refine FL.v (E.assign (v:=Value.int .i64 0) rfl) ?_
 refine FL.nil (FW.seq (FW.region ?_))
 refine FL.v (E.move (v:=Value.pointer (some (⟨b0,0,none⟩:Addr))) rfl) ?_
 refine FL.v (E.nilCheck rfl) ?_
 refine FL.v (E.fieldAddr zav rfl) ?_
 refine FL.v (E.load rfl (zaf Tryz.isAgg24 (S0.box_now (i:=0) rfl) rfl)) ?_
 refine FL.v (E.lenO te24 rfl S0 (i:=1) rfl p0_0 (by decide)) ?_
 refine FL.v (E.assign (v:=Value.int .i64 (len a0.steps)) rfl) ?_
 refine FL.nil (FW.seq (FW.seq (FW.region ?_)))
 refine FL.v (E.move (v:=v1) rfl) ?_
 refine FL.v (E.lenP te24 rfl p1) ?_
 refine FL.v (E.move (v:=Value.int .i64 0) rfl) ?_
 refine FL.nil ?_
 obtain ⟨q22,hq,hp⟩:=bndR hp
 refine FW.block ?_
 refine FW.mono (FW.forL (S:=((List zac)×Bool)) (X:=Empty) (fun (i22:Nat) (s22:((List zac)×Bool)) f w=>∃ H:GH,∃ v23:Value,∃ n25:Nat,∃ cs26:List Value,St H0 w0 H w (.box b0 92 [v23,Value.bool s22.2]::.row 74 6 v23 n25 cs26::L)∧Inc Ha H∧Els (up w0.heap.size H) eSeqStep 6 cs26 s22.1∧(bl cs26).Nodup∧f 15=Value.int .i64 ((i22:Nat):Int)∧f 0=Value.pointer (some (⟨b0,0,none⟩:Addr))∧f 5=Value.int .i64 (len a0.steps)∧f 13=v1∧f 14=Value.int .i64 (len a1)) (fun (q:Rs ((List zac)×Bool) Empty) e f w=>match q with|.go s22=>e=Exit.exit 0∧(∃ H:GH,∃ v23:Value,∃ n25:Nat,∃ cs26:List Value,St H0 w0 H w (.box b0 92 [v23,Value.bool s22.2]::.row 74 6 v23 n25 cs26::L)∧Inc Ha H∧Els (up w0.heap.size H) eSeqStep 6 cs26 s22.1∧(bl cs26).Nodup∧f 0=Value.pointer (some (⟨b0,0,none⟩:Addr)))|.rt x=>x.elim) hq ⟨_,_,_,_,S0,(Inc.rfl _),p0_0,d0_0,rfl,rfl,rfl,rfl,rfl⟩ ?_ ?_) ?_
 ·
  clear hp hq
  rintro i22 y21 s22 f33 w32 ⟨H29,v23,n25,cs26,S30,i31,els27,nd28,k34,k35,k36,k37,k38⟩ hx22 oEJ hp
  refine FW.seq (FW.region ?_)
  refine FL.v (E.lssT k34 k38 (zaJ hx22)) ?_
  refine FL.nil (FW.seq ?_)
  refine FW.condT rfl rfl ?_
  refine FW.skip (FW.seq (FW.block (FW.seq (FW.region ?_))))
  obtain ⟨p39,cs40,pt41,l42,at43,rel44⟩:=p1.at (zaF hx22)
  obtain ⟨v45,v47,rfl,h46,h48⟩:=zaD rel44
  refine FL.v (E.indexAddr te24 k37 k34 pt41) ?_
  refine FL.v (E.load rfl (zao Tryz.isAgg74 Tryz.sizeOf74 ((at43.mono i31).now S30.sl) rfl)) ?_
  obtain ⟨b49,w50,run51,S52⟩:=S30.alloc (P:=Tryz.prog) 74 [Value.slice none 0 0,Value.slice none 0 0,Value.int .i64 0,Value.string ByteArray.empty,Value.int .i64 0,Value.int .i64 0] Tryz.zeroValue74 rfl (zaa rfl (zaa rfl (zaa rfl (zaa rfl (zaa rfl (zaa rfl zag))))))
  refine FL.v (E.alloc run51) ?_
  obtain ⟨w53,run54,S55⟩:=S52.store0 (P:=Tryz.prog) (t:=74) (i:=0) (cs':=[v45,v47,Value.int .i64 y21.rule,Value.string y21.main,Value.int .i64 y21.a,Value.int .i64 y21.b]) (l':=(.box b49 74 [v45,v47,Value.int .i64 y21.rule,Value.string y21.main,Value.int .i64 y21.a,Value.int .i64 y21.b]::.box b0 92 [v23,Value.bool s22.2]::.row 74 6 v23 n25 cs26::L)) (v:=Value.agg #[v45,v47,Value.int .i64 y21.rule,Value.string y21.main,Value.int .i64 y21.a,Value.int .i64 y21.b]) (c:=[v45,v47,Value.int .i64 y21.rule,Value.string y21.main,Value.int .i64 y21.a,Value.int .i64 y21.b]) rfl Tryz.sizeOf74 rfl rfl (zaa h46.one (zaa h48.one (zaa rfl (zaa rfl (zaa rfl (zaa rfl zag)))))) (Nat.le_of_ble_eq_true rfl) rfl rfl
  refine FL.act rfl rfl (E.store rfl rfl run54) ?_
  refine FL.nil (FW.seq (FW.seq (FW.region ?_)))
  refine FL.v (E.load rfl (zao Tryz.isAgg74 Tryz.sizeOf74 (S55.box_now (i:=0) rfl) rfl)) ?_
  refine FL.call rfl rfl rfl (E.call Tryz.call113 (A1 rfl)) (zeJ S55.sl y21 v45 (h46.mono i31) v47 (h48.mono i31)) ?_
  rintro e w57 ⟨H56,v60,n61,cs62,rfl,r59,els63⟩
  refine ⟨_,rfl,?_⟩
  have els63:=els63.mono (up_le S55.size)
  have S58:=S55.join (l':=(.row 3 1 v60 n61 cs62::.box b49 74 [v45,v47,Value.int .i64 y21.rule,Value.string y21.main,Value.int .i64 y21.a,Value.int .i64 y21.b]::.box b0 92 [v23,Value.bool s22.2]::.row 74 6 v23 n25 cs26::L)) r59 rfl
  refine FL.v (E.lenO te82 rfl S58 (i:=0) rfl els63 (by decide)) ?_
  refine FL.nil (FW.block (FW.seq (FW.region ?_)))
  refine FL.v (E.eql rfl rfl) ?_
  refine FL.v (E.assign (v:=Value.bool ((len (PF.zbA y21)) == 2)) rfl) ?_
  refine FL.nil ?_
  rcases ifB hp with ⟨c64,hp⟩|⟨c64,hp⟩
  ·
   refine FW.condT rfl c64 ?_
   refine FW.seq (FW.region ?_)
   refine FL.v (E.fieldAddr zaE rfl) ?_
   refine FL.v (E.load rfl (zaf Tryz.isAgg3 (S58.box_now (i:=1) rfl) rfl)) ?_
   refine FL.v (E.move k36) ?_
   refine FL.v (E.add rfl rfl) ?_
   refine FL.v (E.fieldAddr zaE rfl) ?_
   obtain ⟨w65,run66,S67⟩:=S58.store (P:=Tryz.prog) (t:=3) (i:=1) (j:=4) (cs':=[v45,v47,Value.int .i64 y21.rule,Value.string y21.main,Value.int .i64 (wr (y21.a + (len a0.steps))),Value.int .i64 y21.b]) (l':=(.row 3 1 v60 n61 cs62::.box b49 74 [v45,v47,Value.int .i64 y21.rule,Value.string y21.main,Value.int .i64 (wr (y21.a + (len a0.steps))),Value.int .i64 y21.b]::.box b0 92 [v23,Value.bool s22.2]::.row 74 6 v23 n25 cs26::L)) (v:=Value.int .i64 (wr (y21.a + (len a0.steps)))) (c:=[Value.int .i64 (wr (y21.a + (len a0.steps)))]) rfl Tryz.sizeOf3 rfl rfl (zaa rfl zag) (Nat.le_of_ble_eq_true rfl) rfl rfl
   refine FL.act rfl rfl (E.store rfl rfl run66) ?_
   refine FL.nil (FW.region ?_)
   refine FL.v (E.fieldAddr zaH rfl) ?_
   refine FL.v (E.load rfl (zaf Tryz.isAgg3 (S67.box_now (i:=1) rfl) rfl)) ?_
   refine FL.v (E.move k36) ?_
   refine FL.v (E.add rfl rfl) ?_
   refine FL.v (E.fieldAddr zaH rfl) ?_
   obtain ⟨w68,run69,S70⟩:=S67.store (P:=Tryz.prog) (t:=3) (i:=1) (j:=5) (cs':=[v45,v47,Value.int .i64 y21.rule,Value.string y21.main,Value.int .i64 (wr (y21.a + (len a0.steps))),Value.int .i64 (wr (y21.b + (len a0.steps)))]) (l':=(.row 3 1 v60 n61 cs62::.box b49 74 [v45,v47,Value.int .i64 y21.rule,Value.string y21.main,Value.int .i64 (wr (y21.a + (len a0.steps))),Value.int .i64 (wr (y21.b + (len a0.steps)))]::.box b0 92 [v23,Value.bool s22.2]::.row 74 6 v23 n25 cs26::L)) (v:=Value.int .i64 (wr (y21.b + (len a0.steps)))) (c:=[Value.int .i64 (wr (y21.b + (len a0.steps)))]) rfl Tryz.sizeOf3 rfl rfl (zaa rfl zag) (Nat.le_of_ble_eq_true rfl) rfl rfl
   refine FL.act rfl rfl (E.store rfl rfl run69) ?_
   refine FL.nil (FW.region ?_)
   refine FL.v (E.move k35) ?_
   refine FL.v (E.load rfl (zao Tryz.isAgg74 Tryz.sizeOf74 (S70.box_now (i:=1) rfl) rfl)) ?_
   obtain ⟨s71,hq71,hp⟩:=bnd hp
   obtain ⟨R71,hR71⟩:∃ R71:((List zac)×Bool×Int)→Ending→World→Prop,R71=(fun s71 e w=>∃ H:GH,∃ v72:Value,∃ n73:Nat,∃ cs75:List Value,e=Ending.returned (Value.int .i64 s71.2.2)∧St H0 w0 H w (.row 3 1 v60 n61 cs62::.box b49 74 [v45,v47,Value.int .i64 y21.rule,Value.string y21.main,Value.int .i64 (wr (y21.a + (len a0.steps))),Value.int .i64 (wr (y21.b + (len a0.steps)))]::.box b0 92 [v72,Value.bool s71.2.1]::.row 74 6 v72 n73 cs75::L)∧Inc H56 H∧Els (up w0.heap.size H) eSeqStep 6 cs75 s71.1∧(bl cs75).Nodup):=⟨_,rfl⟩
   have hc71:Calls Tryz.prog 70 #[Value.pointer (some (⟨b0,0,none⟩:Addr)),Value.agg #[v45,v47,Value.int .i64 y21.rule,Value.string y21.main,Value.int .i64 (wr (y21.a + (len a0.steps))),Value.int .i64 (wr (y21.b + (len a0.steps)))]] w68 (R71 s71):=by
    clear hp;have hp:=hq71;clear hq71
    refine zaj (N:=46) (args:=[Value.pointer (some (⟨b0,0,none⟩:Addr)),Value.agg #[v45,v47,Value.int .i64 y21.rule,Value.string y21.main,Value.int .i64 (wr (y21.a + (len a0.steps))),Value.int .i64 (wr (y21.b + (len a0.steps)))]]) Tryz.func70 rfl rfl rfl ?_
    refine FW.seq (FW.region ?_)
    obtain ⟨b78,w79,run80,S81⟩:=S70.box (P:=Tryz.prog) 74 [v45,v47,Value.int .i64 y21.rule,Value.string y21.main,Value.int .i64 (wr (y21.a + (len a0.steps))),Value.int .i64 (wr (y21.b + (len a0.steps)))] (v:=Value.agg #[v45,v47,Value.int .i64 y21.rule,Value.string y21.main,Value.int .i64 (wr (y21.a + (len a0.steps))),Value.int .i64 (wr (y21.b + (len a0.steps)))]) rfl (zaa h46.one (zaa h48.one (zaa rfl (zaa rfl (zaa rfl (zaa rfl zag))))))
    refine FL.v (E.box rfl run80) ?_
    refine FL.v (E.assign (v:=Value.int .i64 0) rfl) ?_
    refine FL.nil (FW.seq (FW.region ?_))
    refine FL.v (E.fieldAddr zap rfl) ?_
    refine FL.v (E.load rfl (zao Tryz.isAgg68 Tryz.sizeOf68 ((S81.box_now (i:=0) rfl).sub (j:=0) (n:=2) (c:=[v45,v47]) rfl) rfl)) ?_
    obtain ⟨r83,hr84,hp⟩:=bnd hp
    refine FL.call rfl rfl rfl (E.call Tryz.call114 (A1 rfl)) (zbC S81.sl y21.seq v45 (h46.mono (i31.tr r59.run.inc)) v47 (h48.mono (i31.tr r59.run.inc)) hr84) ?_
    rintro e w86 ⟨H85,v89,v96,rfl,r88,⟨c93,c99,ns91,ns98,ap102⟩⟩
    refine ⟨_,rfl,?_⟩
    have h90:=ns91.rsl
    have nv94:New H56 c93:=New.of_up S81.sl (fun b hb=>ns91.dom b (.inr hb))
    have nv95:New H56 [v89]:=New.of_up S81.sl h90.dom
    have h90:=h90.mono (up_le S81.size)
    have ns91:=ns91.mono (up_le S81.size)
    have h97:=ns98.rsl
    have nvA0:New H56 c99:=New.of_up S81.sl (fun b hb=>ns98.dom b (.inr hb))
    have nvA1:New H56 [v96]:=New.of_up S81.sl h97.dom
    have h97:=h97.mono (up_le S81.size)
    have ns98:=ns98.mono (up_le S81.size)
    have S87:=S81.call r88
    refine FL.v (E.fieldAddr zap rfl) ?_
    obtain ⟨wA3,runA4,SA5⟩:=S87.store (P:=Tryz.prog) (t:=68) (i:=0) (j:=0) (cs':=[v89,v96,Value.int .i64 y21.rule,Value.string y21.main,Value.int .i64 (wr (y21.a + (len a0.steps))),Value.int .i64 (wr (y21.b + (len a0.steps)))]) (l':=(.box b78 74 [v89,v96,Value.int .i64 y21.rule,Value.string y21.main,Value.int .i64 (wr (y21.a + (len a0.steps))),Value.int .i64 (wr (y21.b + (len a0.steps)))]::.row 3 1 v60 n61 cs62::.box b49 74 [v45,v47,Value.int .i64 y21.rule,Value.string y21.main,Value.int .i64 (wr (y21.a + (len a0.steps))),Value.int .i64 (wr (y21.b + (len a0.steps)))]::.box b0 92 [v23,Value.bool s22.2]::.row 74 6 v23 n25 cs26::L)) (v:=Value.agg #[v89,v96]) (c:=[v89,v96]) rfl Tryz.sizeOf68 rfl rfl (zaa h90.one (zaa h97.one zag)) (Nat.le_of_ble_eq_true rfl) rfl rfl
    refine FL.act rfl rfl (E.store rfl rfl runA4) ?_
    obtain ⟨HA6,SA7,iA8,atA9⟩:=SA5.sealBox (i:=0) (l':=(.row 3 1 v60 n61 cs62::.box b49 74 [v45,v47,Value.int .i64 y21.rule,Value.string y21.main,Value.int .i64 (wr (y21.a + (len a0.steps))),Value.int .i64 (wr (y21.b + (len a0.steps)))]::.box b0 92 [v23,Value.bool s22.2]::.row 74 6 v23 n25 cs26::L)) rfl rfl
    refine FL.nil (FW.seq (FW.region ?_))
    refine FL.v (E.move (v:=Value.pointer (some (⟨b0,0,none⟩:Addr))) rfl) ?_
    refine FL.v (E.move (v:=Value.pointer (some (⟨b0,0,none⟩:Addr))) rfl) ?_
    refine FL.v (E.nilCheck rfl) ?_
    refine FL.v (E.fieldAddr zaU rfl) ?_
    refine FL.v (E.load rfl (zaf Tryz.isAgg4 (SA7.box_now (i:=2) rfl) rfl)) ?_
    refine FL.v (E.move (v:=Value.bool s22.2) rfl) ?_
    obtain ⟨t110,hqtAa,hp⟩:=bnd hp
    refine FL.cut 5 (fun f w=>∃ H:GH,St H0 w0 H w (.row 3 1 v60 n61 cs62::.box b49 74 [v45,v47,Value.int .i64 y21.rule,Value.string y21.main,Value.int .i64 (wr (y21.a + (len a0.steps))),Value.int .i64 (wr (y21.b + (len a0.steps)))]::.box b0 92 [v23,Value.bool s22.2]::.row 74 6 v23 n25 cs26::L)∧Inc HA6 H∧f 0=Value.pointer (some (⟨b0,0,none⟩:Addr))∧f 3=Value.pointer (some ⟨b78,0,none⟩)∧f 9=Value.pointer (some (⟨b0,0,none⟩:Addr))∧f 19=Value.bool t110) ?_ ?_
    ·
     clear hp;have hp:=hqtAa;clear hqtAa
     rcases ifB hp with ⟨cAg,hp⟩|⟨cAg,hp⟩
     ·
      refine FL.skip (wF_no rfl rfl rfl cAg) rfl ?_
      refine FL.skip (wF_no rfl rfl rfl cAg) rfl ?_
      refine FL.skip (wF_no rfl rfl rfl cAg) rfl ?_
      refine FL.skip (wF_no rfl rfl rfl cAg) rfl ?_
      obtain rfl:=Option.some.inj hp
      refine FL.v (E.pickT rfl cAg rfl) ?_
      exact FL.nil ⟨rfl,_,SA7,(Inc.rfl _),rfl,rfl,rfl,rfl⟩
     ·
      refine FL.val (zab rfl rfl rfl cAg) rfl rfl (E.fieldAddr zap rfl) ?_
      refine FL.val (zab rfl rfl rfl cAg) rfl rfl (E.load rfl (zao Tryz.isAgg68 Tryz.sizeOf68 ((atA9.now SA7.sl).sub (j:=0) (n:=2) (c:=[v89,v96]) rfl) rfl)) ?_
      obtain ⟨rAh,hrAi,hp⟩:=bnd hp
      refine FL.call (zab rfl rfl rfl cAg) rfl rfl (E.call Tryz.call120 (A1 rfl)) (zbh SA7.sl r83 v89 (h90.mono (upI.tr iA8)) v96 (h97.mono (upI.tr iA8)) hrAi) ?_
      rintro e wAj ⟨rfl,rAk⟩
      refine ⟨_,rfl,?_⟩
      have SAl:=SA7.call rAk
      refine FL.val (zab rfl rfl rfl cAg) rfl rfl (E.not rfl) ?_
      obtain rfl:=Option.some.inj hp
      refine FL.v (E.pickF rfl cAg rfl) ?_
      exact FL.nil ⟨rfl,_,SAl,(Inc.rfl _),rfl,rfl,rfl,rfl⟩
    rintro fAf wAe ⟨HAb,SAc,iAd,kAm,kAn,kAo,kAp⟩
    refine FL.v (E.move kAp) ?_
    refine FL.cut 7 (fun f w=>∃ H:GH,St H0 w0 H w (.row 3 1 v60 n61 cs62::.box b49 74 [v45,v47,Value.int .i64 y21.rule,Value.string y21.main,Value.int .i64 (wr (y21.a + (len a0.steps))),Value.int .i64 (wr (y21.b + (len a0.steps)))]::.box b0 92 [v23,Value.bool s22.2]::.row 74 6 v23 n25 cs26::L)∧Inc HAb H∧f 0=Value.pointer (some (⟨b0,0,none⟩:Addr))∧f 3=Value.pointer (some ⟨b78,0,none⟩)∧f 9=Value.pointer (some (⟨b0,0,none⟩:Addr))∧f 27=Value.bool (bif t110 then true else (decide (200≤(len s22.1))))) ?_ ?_
    ·
     rcases bcase t110 with cAv|cAv
     ·
      refine FL.skip (wF_no rfl rfl rfl cAv) rfl ?_
      refine FL.skip (wF_no rfl rfl rfl cAv) rfl ?_
      refine FL.skip (wF_no rfl rfl rfl cAv) rfl ?_
      refine FL.skip (wF_no rfl rfl rfl cAv) rfl ?_
      refine FL.skip (wF_no rfl rfl rfl cAv) rfl ?_
      refine FL.skip (wF_no rfl rfl rfl cAv) rfl ?_
      refine FL.v (E.pickT rfl cAv rfl) ?_
      exact FL.nil ⟨rfl,_,SAc,(Inc.rfl _),kAm,kAn,kAo,(congrArg Value.bool (bifT cAv).symm)⟩
     ·
      refine FL.val (zab rfl rfl rfl cAv) rfl rfl (E.move kAm) ?_
      refine FL.val (zab rfl rfl rfl cAv) rfl rfl (E.nilCheck rfl) ?_
      refine FL.val (zab rfl rfl rfl cAv) rfl rfl (E.fieldAddr zav rfl) ?_
      refine FL.val (zab rfl rfl rfl cAv) rfl rfl (E.load rfl (zaf Tryz.isAgg24 (SAc.box_now (i:=2) rfl) rfl)) ?_
      refine FL.val (zab rfl rfl rfl cAv) rfl rfl (E.lenO te24 rfl SAc (i:=3) rfl els27 (by decide)) ?_
      refine FL.val (zab rfl rfl rfl cAv) rfl rfl (E.geq rfl rfl) ?_
      refine FL.v (E.pickF rfl cAv rfl) ?_
      exact FL.nil ⟨rfl,_,SAc,(Inc.rfl _),kAm,kAn,kAo,(congrArg Value.bool (bifF cAv).symm)⟩
    rintro fAu wAt ⟨HAq,SAr,iAs,kAw,kAx,kAy,kAz⟩
    refine FL.v (E.nilCheck kAy) ?_
    refine FL.v (E.fieldAddr zaU rfl) ?_
    obtain ⟨wAA,runAB,SAC⟩:=SAr.store (P:=Tryz.prog) (t:=4) (i:=2) (j:=1) (cs':=[v23,Value.bool (bif t110 then true else (decide (200≤(len s22.1))))]) (l':=(.row 3 1 v60 n61 cs62::.box b49 74 [v45,v47,Value.int .i64 y21.rule,Value.string y21.main,Value.int .i64 (wr (y21.a + (len a0.steps))),Value.int .i64 (wr (y21.b + (len a0.steps)))]::.box b0 92 [v23,Value.bool (bif t110 then true else (decide (200≤(len s22.1))))]::.row 74 6 v23 n25 cs26::L)) (v:=Value.bool (bif t110 then true else (decide (200≤(len s22.1))))) (c:=[Value.bool (bif t110 then true else (decide (200≤(len s22.1))))]) rfl Tryz.sizeOf4 rfl rfl (zaa rfl zag) (Nat.le_of_ble_eq_true rfl) rfl rfl
    refine FL.act rfl rfl (E.store rfl kAz runAB) ?_
    refine FL.nil (FW.seq ?_)
    obtain ⟨xsAN,hzAO,hp⟩:=bnd hp
    refine FW.drawB (Sl HAq) (fun f w=>∃ H:GH,∃ vB2:Value,∃ nB3:Nat,∃ csB4:List Value,St H0 w0 H w (.row 3 1 v60 n61 cs62::.box b49 74 [v45,v47,Value.int .i64 y21.rule,Value.string y21.main,Value.int .i64 (wr (y21.a + (len a0.steps))),Value.int .i64 (wr (y21.b + (len a0.steps)))]::.box b0 92 [vB2,Value.bool (bif t110 then true else (decide (200≤(len s22.1))))]::.row 74 6 vB2 nB3 csB4::L)∧Inc HAq H∧Els (up w0.heap.size H) eSeqStep 6 csB4 xsAN∧(bl csB4).Nodup∧f 0=Value.pointer (some (⟨b0,0,none⟩:Addr))) (by kernel_rfl) SAC.sl ?_ ?_
    ·
     intro wAD rAE
     have SAF:=SAC.call rAE
     refine FB.phase [10] (fun w=>WAt w (Addr.add ⟨b0,0,none⟩ 0) [v23]) ?_
     refine FB.t (i:=0) (bs 11 1) rfl (SP.on ((SAF.box_now (i:=2) rfl).sub (j:=0) (n:=1) (c:=[v23]) rfl) (SP.nil SAF.sl)) rfl (fun w' hw'=>(E.move kAw)) ?_
     refine FB.t (i:=1) (bs 11 3) rfl (SP.on ((SAF.box_now (i:=2) rfl).sub (j:=0) (n:=1) (c:=[v23]) rfl) (SP.nil SAF.sl)) rfl (fun w' hw'=>(E.move kAw)) ?_
     refine FB.t (i:=2) (bs 11 7) rfl (SP.on ((SAF.box_now (i:=2) rfl).sub (j:=0) (n:=1) (c:=[v23]) rfl) (SP.nil SAF.sl)) rfl (fun w' hw'=>(E.nilCheck rfl)) ?_
     refine FB.t (i:=3) (bs 11 15) rfl (SP.on ((SAF.box_now (i:=2) rfl).sub (j:=0) (n:=1) (c:=[v23]) rfl) (SP.nil SAF.sl)) rfl (fun w' hw'=>(E.fieldAddr zav rfl)) ?_
     refine FB.p (i:=4) (bs 11 31) 0 [7,8,9,10] rfl (SP.on ((SAF.box_now (i:=2) rfl).sub (j:=0) (n:=1) (c:=[v23]) rfl) (SP.nil SAF.sl)) rfl rfl (fun w' hw'=>(E.load rfl (zar Tryz.isAgg24 hw' rfl))) ?_
     refine FB.t (i:=5) (bs 11 63) rfl (SP.on ((SAF.box_now (i:=2) rfl).sub (j:=0) (n:=1) (c:=[v23]) rfl) (SP.nil SAF.sl)) rfl (fun w' hw'=>(E.load kAx (zao Tryz.isAgg74 Tryz.sizeOf74 ((atA9.mono (iAd.tr iAs)).now hw') rfl))) ?_
     refine FB.all1 (i:=6) (by kernel_rfl) ?_
     ·
      obtain ⟨vAG,wAH,runAI,SAJ⟩:=SAF.buildSlice (P:=Tryz.prog) te24 [Value.agg #[v89,v96,Value.int .i64 y21.rule,Value.string y21.main,Value.int .i64 (wr (y21.a + (len a0.steps))),Value.int .i64 (wr (y21.b + (len a0.steps)))]] (parts:=#[(0,Value.agg #[v89,v96,Value.int .i64 y21.rule,Value.string y21.main,Value.int .i64 (wr (y21.a + (len a0.steps))),Value.int .i64 (wr (y21.b + (len a0.steps)))])]) (cells:=[v89,v96,Value.int .i64 y21.rule,Value.string y21.main,Value.int .i64 (wr (y21.a + (len a0.steps))),Value.int .i64 (wr (y21.b + (len a0.steps)))]) rfl (zan rfl zal) (zam rfl zak) (zaa h90.one (zaa h97.one (zaa rfl (zaa rfl (zaa rfl (zaa rfl zag)))))) (Nat.le_of_ble_eq_true rfl)
      have elsAK:Els (up w0.heap.size HAq) eSeqStep 6 [v89,v96,Value.int .i64 y21.rule,Value.string y21.main,Value.int .i64 (wr (y21.a + (len a0.steps))),Value.int .i64 (wr (y21.b + (len a0.steps)))] [(zac.mk r83 y21.rule y21.main (wr (y21.a + (len a0.steps))) (wr (y21.b + (len a0.steps))))]:=(Els.snoc (H:=(up w0.heap.size HAq)) (E:=eSeqStep) (k:=6) (c:=[v89,v96,Value.int .i64 y21.rule,Value.string y21.main,Value.int .i64 (wr (y21.a + (len a0.steps))),Value.int .i64 (wr (y21.b + (len a0.steps)))]) (x:=(zac.mk r83 y21.rule y21.main (wr (y21.a + (len a0.steps))) (wr (y21.b + (len a0.steps))))) Els.nil rfl ⟨_,_,rfl,(h90.mono (zai ((iA8.tr iAd).tr iAs))),(h97.mono (zai ((iA8.tr iAd).tr iAs)))⟩)
      have ndAL:(bl [v89,v96,Value.int .i64 y21.rule,Value.string y21.main,Value.int .i64 (wr (y21.a + (len a0.steps))),Value.int .i64 (wr (y21.b + (len a0.steps)))]).Nodup:=by exact zaR ap102.dis
      have nvAM:New H56 [v89,v96,Value.int .i64 y21.rule,Value.string y21.main,Value.int .i64 (wr (y21.a + (len a0.steps))),Value.int .i64 (wr (y21.b + (len a0.steps)))]:=by exact (New.two nv95 nvA1)
      refine FC.val (l':=(bs 11 127)) rfl (by kernel_rfl) rfl rfl rfl (E.buildSlice (B1 rfl) runAI) ?_
      refine ⟨(SP.on ((SAJ.box_now (i:=3) rfl).sub (j:=0) (n:=1) (c:=[v23]) rfl) (SP.nil SAJ.sl)),?_⟩
      refine FB.all1 (i:=7) (by kernel_rfl) ?_
      ·
       obtain ⟨vAP,wAS,nAQ,csAR,runAT,SAU,elsAV,ceAW⟩:=SAJ.appendO (P:=Tryz.prog) te24 (i:=4) (j:=0) rfl (els27.mono (zai ((((r59.run.inc.tr r88.inc).tr iA8).tr iAd).tr iAs))) rfl elsAK hzAO
       have SAU:St H0 w0 HAq wAS (.row 74 6 vAG 1 [v89,v96,Value.int .i64 y21.rule,Value.string y21.main,Value.int .i64 (wr (y21.a + (len a0.steps))),Value.int .i64 (wr (y21.b + (len a0.steps)))]::.row 3 1 v60 n61 cs62::.box b49 74 [v45,v47,Value.int .i64 y21.rule,Value.string y21.main,Value.int .i64 (wr (y21.a + (len a0.steps))),Value.int .i64 (wr (y21.b + (len a0.steps)))]::.box b0 92 [v23,Value.bool (bif t110 then true else (decide (200≤(len s22.1))))]::.row 74 6 vAP nAQ csAR::L):=SAU
       have ndAX:(bl csAR).Nodup:=by rw [ceAW];exact za0 nd28 ndAL (Els.dom (els27.mono (upI.tr r59.run.inc))) (by exact nvAM)
       have SAY:St H0 w0 HAq wAS (.row 3 1 v60 n61 cs62::.box b49 74 [v45,v47,Value.int .i64 y21.rule,Value.string y21.main,Value.int .i64 (wr (y21.a + (len a0.steps))),Value.int .i64 (wr (y21.b + (len a0.steps)))]::.box b0 92 [v23,Value.bool (bif t110 then true else (decide (200≤(len s22.1))))]::.row 74 6 vAP nAQ csAR::L):=SAU.drop 0
       refine FC.val (l':=(bs 11 255)) rfl (by kernel_rfl) rfl rfl rfl (E.append rfl rfl runAT) ?_
       refine ⟨(SP.on ((SAY.box_now (i:=2) rfl).sub (j:=0) (n:=1) (c:=[v23]) rfl) (SP.nil SAY.sl)),?_⟩
       refine FB.t (i:=8) (bs 11 511) rfl (SP.on ((SAY.box_now (i:=2) rfl).sub (j:=0) (n:=1) (c:=[v23]) rfl) (SP.nil SAY.sl)) rfl (fun w' hw'=>(E.nilCheck rfl)) ?_
       refine FB.t (i:=9) (bs 11 1023) rfl (SP.on ((SAY.box_now (i:=2) rfl).sub (j:=0) (n:=1) (c:=[v23]) rfl) (SP.nil SAY.sl)) rfl (fun w' hw'=>(E.fieldAddr zav rfl)) ?_
       refine FB.all1 (i:=10) (by kernel_rfl) ?_
       ·
        obtain ⟨wAZ,runB0,SB1⟩:=SAY.store (P:=Tryz.prog) (t:=24) (i:=2) (j:=0) (cs':=[vAP,Value.bool (bif t110 then true else (decide (200≤(len s22.1))))]) (l':=(.row 3 1 v60 n61 cs62::.box b49 74 [v45,v47,Value.int .i64 y21.rule,Value.string y21.main,Value.int .i64 (wr (y21.a + (len a0.steps))),Value.int .i64 (wr (y21.b + (len a0.steps)))]::.box b0 92 [vAP,Value.bool (bif t110 then true else (decide (200≤(len s22.1))))]::.row 74 6 vAP nAQ csAR::L)) (v:=vAP) (c:=[vAP]) rfl Tryz.sizeOf24 (Ln.cells (SAY.row_ln (i:=3) rfl)) rfl (zaa (Ln.one (SAY.row_ln (i:=3) rfl)) zag) (Nat.le_of_ble_eq_true rfl) rfl rfl
        refine FC.act (l':=(bs 11 2047)) rfl (by kernel_rfl) rfl rfl (E.store rfl rfl runB0) ?_
        refine ⟨(SP.o (SP.nil SB1.sl)),?_⟩
        exact FB.done (by kernel_rfl) ⟨_,_,_,_,SB1,(Inc.rfl _),elsAV,ndAX,kAw⟩
    ·
     rintro fBb wBa ⟨HB7,vB2,nB3,csB4,SB8,iB9,elsB5,ndB6,kBc⟩
     refine FW.seq (FW.region ?_)
     refine FL.v (E.move kBc) ?_
     refine FL.v (E.nilCheck rfl) ?_
     refine FL.v (E.fieldAddr zav rfl) ?_
     refine FL.v (E.load rfl (zaf Tryz.isAgg24 (SB8.box_now (i:=2) rfl) rfl)) ?_
     refine FL.v (E.lenO te24 rfl SB8 (i:=3) rfl elsB5 (by decide)) ?_
     refine FL.v (E.sub rfl rfl) ?_
     refine FL.v (E.assign (v:=Value.int .i64 (wr ((len xsAN) - 1))) rfl) ?_
     refine FL.nil ?_
     refine FW.ret ?_
     obtain rfl:=Option.some.inj hp
     exact ⟨.inr rfl,res1 rfl rfl (by rw [hR71];exact ⟨_,_,_,_,rfl,SB8,((((r88.inc.tr iA8).tr iAd).tr iAs).tr iB9),elsB5,ndB6⟩)⟩
   clear hq71
   refine FL.call rfl rfl rfl (E.call Tryz.call70 (A2 rfl rfl)) hc71 ?_
   intro e wBg hQ71
   rw [hR71] at hQ71
   obtain ⟨HBd,v72,n73,cs75,rfl,SBe,iBf,els76,nd77⟩:=hQ71
   refine ⟨_,rfl,?_⟩
   refine FL.nil (FW.region ?_)
   refine FL.v (E.add k34 rfl) ?_
   refine FL.v (E.move (v:=Value.int .i64 (wr (((i22:Nat):Int) + 1))) rfl) ?_
   refine FL.nil ?_
   obtain rfl:=Option.some.inj hp
   exact ⟨rfl,⟨_,_,_,_,(SBe.selT (a:=[.row 3 1 v60 n61 cs62,.box b49 74 [v45,v47,Value.int .i64 y21.rule,Value.string y21.main,Value.int .i64 (wr (y21.a + (len a0.steps))),Value.int .i64 (wr (y21.b + (len a0.steps)))],.box b0 92 [v72,Value.bool s71.2.1],.row 74 6 v72 n73 cs75]) (l':=[.box b0 92 [v72,Value.bool s71.2.1],.row 74 6 v72 n73 cs75]) [2,3] (by decide) rfl),((i31.tr r59.run.inc).tr iBf),els76,nd77,(zaA rfl (zat hx22) (p1.mono ((i31.tr r59.run.inc).tr iBf)).le),k35,k36,k37,k38⟩⟩
  ·
   refine FW.condF rfl c64 ?_
   refine FW.seq (FW.region ?_)
   refine FL.v (E.eql rfl rfl) ?_
   refine FL.v (E.assign (v:=Value.bool ((len (PF.zbA y21)) == 1)) rfl) ?_
   refine FL.nil ?_
   rcases ifB hp with ⟨cBh,hp⟩|⟨cBh,hp⟩
   ·
    refine FW.condT rfl cBh ?_
    refine FW.region ?_
    refine FL.v (E.fieldAddr zaE rfl) ?_
    refine FL.v (E.load rfl (zaf Tryz.isAgg3 (S58.box_now (i:=1) rfl) rfl)) ?_
    refine FL.v (E.move k36) ?_
    refine FL.v (E.add rfl rfl) ?_
    refine FL.v (E.fieldAddr zaE rfl) ?_
    obtain ⟨wBi,runBj,SBk⟩:=S58.store (P:=Tryz.prog) (t:=3) (i:=1) (j:=4) (cs':=[v45,v47,Value.int .i64 y21.rule,Value.string y21.main,Value.int .i64 (wr (y21.a + (len a0.steps))),Value.int .i64 y21.b]) (l':=(.row 3 1 v60 n61 cs62::.box b49 74 [v45,v47,Value.int .i64 y21.rule,Value.string y21.main,Value.int .i64 (wr (y21.a + (len a0.steps))),Value.int .i64 y21.b]::.box b0 92 [v23,Value.bool s22.2]::.row 74 6 v23 n25 cs26::L)) (v:=Value.int .i64 (wr (y21.a + (len a0.steps)))) (c:=[Value.int .i64 (wr (y21.a + (len a0.steps)))]) rfl Tryz.sizeOf3 rfl rfl (zaa rfl zag) (Nat.le_of_ble_eq_true rfl) rfl rfl
    refine FL.act rfl rfl (E.store rfl rfl runBj) ?_
    refine FL.nil (FW.region ?_)
    refine FL.v (E.move k35) ?_
    refine FL.v (E.load rfl (zao Tryz.isAgg74 Tryz.sizeOf74 (SBk.box_now (i:=1) rfl) rfl)) ?_
    obtain ⟨sBl,hqBl,hp⟩:=bnd hp
    obtain ⟨R183,hRBl⟩:∃ R183:((List zac)×Bool×Int)→Ending→World→Prop,R183=(fun sBl e w=>∃ H:GH,∃ vBm:Value,∃ nBn:Nat,∃ csBo:List Value,e=Ending.returned (Value.int .i64 sBl.2.2)∧St H0 w0 H w (.row 3 1 v60 n61 cs62::.box b49 74 [v45,v47,Value.int .i64 y21.rule,Value.string y21.main,Value.int .i64 (wr (y21.a + (len a0.steps))),Value.int .i64 y21.b]::.box b0 92 [vBm,Value.bool sBl.2.1]::.row 74 6 vBm nBn csBo::L)∧Inc H56 H∧Els (up w0.heap.size H) eSeqStep 6 csBo sBl.1∧(bl csBo).Nodup):=⟨_,rfl⟩
    have hcBl:Calls Tryz.prog 70 #[Value.pointer (some (⟨b0,0,none⟩:Addr)),Value.agg #[v45,v47,Value.int .i64 y21.rule,Value.string y21.main,Value.int .i64 (wr (y21.a + (len a0.steps))),Value.int .i64 y21.b]] wBi (R183 sBl):=by
     clear hp;have hp:=hqBl;clear hqBl
     refine zaj (N:=46) (args:=[Value.pointer (some (⟨b0,0,none⟩:Addr)),Value.agg #[v45,v47,Value.int .i64 y21.rule,Value.string y21.main,Value.int .i64 (wr (y21.a + (len a0.steps))),Value.int .i64 y21.b]]) Tryz.func70 rfl rfl rfl ?_
     refine FW.seq (FW.region ?_)
     obtain ⟨bBr,wBs,runBt,SBu⟩:=SBk.box (P:=Tryz.prog) 74 [v45,v47,Value.int .i64 y21.rule,Value.string y21.main,Value.int .i64 (wr (y21.a + (len a0.steps))),Value.int .i64 y21.b] (v:=Value.agg #[v45,v47,Value.int .i64 y21.rule,Value.string y21.main,Value.int .i64 (wr (y21.a + (len a0.steps))),Value.int .i64 y21.b]) rfl (zaa h46.one (zaa h48.one (zaa rfl (zaa rfl (zaa rfl (zaa rfl zag))))))
     refine FL.v (E.box rfl runBt) ?_
     refine FL.v (E.assign (v:=Value.int .i64 0) rfl) ?_
     refine FL.nil (FW.seq (FW.region ?_))
     refine FL.v (E.fieldAddr zap rfl) ?_
     refine FL.v (E.load rfl (zao Tryz.isAgg68 Tryz.sizeOf68 ((SBu.box_now (i:=0) rfl).sub (j:=0) (n:=2) (c:=[v45,v47]) rfl) rfl)) ?_
     obtain ⟨rBv,hrBw,hp⟩:=bnd hp
     refine FL.call rfl rfl rfl (E.call Tryz.call114 (A1 rfl)) (zbC SBu.sl y21.seq v45 (h46.mono (i31.tr r59.run.inc)) v47 (h48.mono (i31.tr r59.run.inc)) hrBw) ?_
     rintro e wBy ⟨HBx,vBB,vBH,rfl,rBA,⟨cBE,cBK,nsBD,nsBJ,ap211⟩⟩
     refine ⟨_,rfl,?_⟩
     have hBC:=nsBD.rsl
     have nvBF:New H56 cBE:=New.of_up SBu.sl (fun b hb=>nsBD.dom b (.inr hb))
     have nvBG:New H56 [vBB]:=New.of_up SBu.sl hBC.dom
     have hBC:=hBC.mono (up_le SBu.size)
     have nsBD:=nsBD.mono (up_le SBu.size)
     have hBI:=nsBJ.rsl
     have nvBL:New H56 cBK:=New.of_up SBu.sl (fun b hb=>nsBJ.dom b (.inr hb))
     have nvBM:New H56 [vBH]:=New.of_up SBu.sl hBI.dom
     have hBI:=hBI.mono (up_le SBu.size)
     have nsBJ:=nsBJ.mono (up_le SBu.size)
     have SBz:=SBu.call rBA
     refine FL.v (E.fieldAddr zap rfl) ?_
     obtain ⟨wBO,runBP,SBQ⟩:=SBz.store (P:=Tryz.prog) (t:=68) (i:=0) (j:=0) (cs':=[vBB,vBH,Value.int .i64 y21.rule,Value.string y21.main,Value.int .i64 (wr (y21.a + (len a0.steps))),Value.int .i64 y21.b]) (l':=(.box bBr 74 [vBB,vBH,Value.int .i64 y21.rule,Value.string y21.main,Value.int .i64 (wr (y21.a + (len a0.steps))),Value.int .i64 y21.b]::.row 3 1 v60 n61 cs62::.box b49 74 [v45,v47,Value.int .i64 y21.rule,Value.string y21.main,Value.int .i64 (wr (y21.a + (len a0.steps))),Value.int .i64 y21.b]::.box b0 92 [v23,Value.bool s22.2]::.row 74 6 v23 n25 cs26::L)) (v:=Value.agg #[vBB,vBH]) (c:=[vBB,vBH]) rfl Tryz.sizeOf68 rfl rfl (zaa hBC.one (zaa hBI.one zag)) (Nat.le_of_ble_eq_true rfl) rfl rfl
     refine FL.act rfl rfl (E.store rfl rfl runBP) ?_
     obtain ⟨HBR,SBS,iBT,atBU⟩:=SBQ.sealBox (i:=0) (l':=(.row 3 1 v60 n61 cs62::.box b49 74 [v45,v47,Value.int .i64 y21.rule,Value.string y21.main,Value.int .i64 (wr (y21.a + (len a0.steps))),Value.int .i64 y21.b]::.box b0 92 [v23,Value.bool s22.2]::.row 74 6 v23 n25 cs26::L)) rfl rfl
     refine FL.nil (FW.seq (FW.region ?_))
     refine FL.v (E.move (v:=Value.pointer (some (⟨b0,0,none⟩:Addr))) rfl) ?_
     refine FL.v (E.move (v:=Value.pointer (some (⟨b0,0,none⟩:Addr))) rfl) ?_
     refine FL.v (E.nilCheck rfl) ?_
     refine FL.v (E.fieldAddr zaU rfl) ?_
     refine FL.v (E.load rfl (zaf Tryz.isAgg4 (SBS.box_now (i:=2) rfl) rfl)) ?_
     refine FL.v (E.move (v:=Value.bool s22.2) rfl) ?_
     obtain ⟨t219,hqtBV,hp⟩:=bnd hp
     refine FL.cut 5 (fun f w=>∃ H:GH,St H0 w0 H w (.row 3 1 v60 n61 cs62::.box b49 74 [v45,v47,Value.int .i64 y21.rule,Value.string y21.main,Value.int .i64 (wr (y21.a + (len a0.steps))),Value.int .i64 y21.b]::.box b0 92 [v23,Value.bool s22.2]::.row 74 6 v23 n25 cs26::L)∧Inc HBR H∧f 0=Value.pointer (some (⟨b0,0,none⟩:Addr))∧f 3=Value.pointer (some ⟨bBr,0,none⟩)∧f 9=Value.pointer (some (⟨b0,0,none⟩:Addr))∧f 19=Value.bool t219) ?_ ?_
     ·
      clear hp;have hp:=hqtBV;clear hqtBV
      rcases ifB hp with ⟨cC1,hp⟩|⟨cC1,hp⟩
      ·
       refine FL.skip (wF_no rfl rfl rfl cC1) rfl ?_
       refine FL.skip (wF_no rfl rfl rfl cC1) rfl ?_
       refine FL.skip (wF_no rfl rfl rfl cC1) rfl ?_
       refine FL.skip (wF_no rfl rfl rfl cC1) rfl ?_
       obtain rfl:=Option.some.inj hp
       refine FL.v (E.pickT rfl cC1 rfl) ?_
       exact FL.nil ⟨rfl,_,SBS,(Inc.rfl _),rfl,rfl,rfl,rfl⟩
      ·
       refine FL.val (zab rfl rfl rfl cC1) rfl rfl (E.fieldAddr zap rfl) ?_
       refine FL.val (zab rfl rfl rfl cC1) rfl rfl (E.load rfl (zao Tryz.isAgg68 Tryz.sizeOf68 ((atBU.now SBS.sl).sub (j:=0) (n:=2) (c:=[vBB,vBH]) rfl) rfl)) ?_
       obtain ⟨rC2,hrC3,hp⟩:=bnd hp
       refine FL.call (zab rfl rfl rfl cC1) rfl rfl (E.call Tryz.call120 (A1 rfl)) (zbh SBS.sl rBv vBB (hBC.mono (upI.tr iBT)) vBH (hBI.mono (upI.tr iBT)) hrC3) ?_
       rintro e wC4 ⟨rfl,rC5⟩
       refine ⟨_,rfl,?_⟩
       have SC6:=SBS.call rC5
       refine FL.val (zab rfl rfl rfl cC1) rfl rfl (E.not rfl) ?_
       obtain rfl:=Option.some.inj hp
       refine FL.v (E.pickF rfl cC1 rfl) ?_
       exact FL.nil ⟨rfl,_,SC6,(Inc.rfl _),rfl,rfl,rfl,rfl⟩
     rintro fC0 wBZ ⟨HBW,SBX,iBY,kC7,kC8,kC9,kCa⟩
     refine FL.v (E.move kCa) ?_
     refine FL.cut 7 (fun f w=>∃ H:GH,St H0 w0 H w (.row 3 1 v60 n61 cs62::.box b49 74 [v45,v47,Value.int .i64 y21.rule,Value.string y21.main,Value.int .i64 (wr (y21.a + (len a0.steps))),Value.int .i64 y21.b]::.box b0 92 [v23,Value.bool s22.2]::.row 74 6 v23 n25 cs26::L)∧Inc HBW H∧f 0=Value.pointer (some (⟨b0,0,none⟩:Addr))∧f 3=Value.pointer (some ⟨bBr,0,none⟩)∧f 9=Value.pointer (some (⟨b0,0,none⟩:Addr))∧f 27=Value.bool (bif t219 then true else (decide (200≤(len s22.1))))) ?_ ?_
     ·
      rcases bcase t219 with cCg|cCg
      ·
       refine FL.skip (wF_no rfl rfl rfl cCg) rfl ?_
       refine FL.skip (wF_no rfl rfl rfl cCg) rfl ?_
       refine FL.skip (wF_no rfl rfl rfl cCg) rfl ?_
       refine FL.skip (wF_no rfl rfl rfl cCg) rfl ?_
       refine FL.skip (wF_no rfl rfl rfl cCg) rfl ?_
       refine FL.skip (wF_no rfl rfl rfl cCg) rfl ?_
       refine FL.v (E.pickT rfl cCg rfl) ?_
       exact FL.nil ⟨rfl,_,SBX,(Inc.rfl _),kC7,kC8,kC9,(congrArg Value.bool (bifT cCg).symm)⟩
      ·
       refine FL.val (zab rfl rfl rfl cCg) rfl rfl (E.move kC7) ?_
       refine FL.val (zab rfl rfl rfl cCg) rfl rfl (E.nilCheck rfl) ?_
       refine FL.val (zab rfl rfl rfl cCg) rfl rfl (E.fieldAddr zav rfl) ?_
       refine FL.val (zab rfl rfl rfl cCg) rfl rfl (E.load rfl (zaf Tryz.isAgg24 (SBX.box_now (i:=2) rfl) rfl)) ?_
       refine FL.val (zab rfl rfl rfl cCg) rfl rfl (E.lenO te24 rfl SBX (i:=3) rfl els27 (by decide)) ?_
       refine FL.val (zab rfl rfl rfl cCg) rfl rfl (E.geq rfl rfl) ?_
       refine FL.v (E.pickF rfl cCg rfl) ?_
       exact FL.nil ⟨rfl,_,SBX,(Inc.rfl _),kC7,kC8,kC9,(congrArg Value.bool (bifF cCg).symm)⟩
     rintro fCf wCe ⟨HCb,SCc,iCd,kCh,kCi,kCj,kCk⟩
     refine FL.v (E.nilCheck kCj) ?_
     refine FL.v (E.fieldAddr zaU rfl) ?_
     obtain ⟨wCl,runCm,SCn⟩:=SCc.store (P:=Tryz.prog) (t:=4) (i:=2) (j:=1) (cs':=[v23,Value.bool (bif t219 then true else (decide (200≤(len s22.1))))]) (l':=(.row 3 1 v60 n61 cs62::.box b49 74 [v45,v47,Value.int .i64 y21.rule,Value.string y21.main,Value.int .i64 (wr (y21.a + (len a0.steps))),Value.int .i64 y21.b]::.box b0 92 [v23,Value.bool (bif t219 then true else (decide (200≤(len s22.1))))]::.row 74 6 v23 n25 cs26::L)) (v:=Value.bool (bif t219 then true else (decide (200≤(len s22.1))))) (c:=[Value.bool (bif t219 then true else (decide (200≤(len s22.1))))]) rfl Tryz.sizeOf4 rfl rfl (zaa rfl zag) (Nat.le_of_ble_eq_true rfl) rfl rfl
     refine FL.act rfl rfl (E.store rfl kCk runCm) ?_
     refine FL.nil (FW.seq ?_)
     obtain ⟨xsCy,hzCz,hp⟩:=bnd hp
     refine FW.drawB (Sl HCb) (fun f w=>∃ H:GH,∃ vCN:Value,∃ nCO:Nat,∃ csCP:List Value,St H0 w0 H w (.row 3 1 v60 n61 cs62::.box b49 74 [v45,v47,Value.int .i64 y21.rule,Value.string y21.main,Value.int .i64 (wr (y21.a + (len a0.steps))),Value.int .i64 y21.b]::.box b0 92 [vCN,Value.bool (bif t219 then true else (decide (200≤(len s22.1))))]::.row 74 6 vCN nCO csCP::L)∧Inc HCb H∧Els (up w0.heap.size H) eSeqStep 6 csCP xsCy∧(bl csCP).Nodup∧f 0=Value.pointer (some (⟨b0,0,none⟩:Addr))) (by kernel_rfl) SCn.sl ?_ ?_
     ·
      intro wCo rCp
      have SCq:=SCn.call rCp
      refine FB.phase [10] (fun w=>WAt w (Addr.add ⟨b0,0,none⟩ 0) [v23]) ?_
      refine FB.t (i:=0) (bs 11 1) rfl (SP.on ((SCq.box_now (i:=2) rfl).sub (j:=0) (n:=1) (c:=[v23]) rfl) (SP.nil SCq.sl)) rfl (fun w' hw'=>(E.move kCh)) ?_
      refine FB.t (i:=1) (bs 11 3) rfl (SP.on ((SCq.box_now (i:=2) rfl).sub (j:=0) (n:=1) (c:=[v23]) rfl) (SP.nil SCq.sl)) rfl (fun w' hw'=>(E.move kCh)) ?_
      refine FB.t (i:=2) (bs 11 7) rfl (SP.on ((SCq.box_now (i:=2) rfl).sub (j:=0) (n:=1) (c:=[v23]) rfl) (SP.nil SCq.sl)) rfl (fun w' hw'=>(E.nilCheck rfl)) ?_
      refine FB.t (i:=3) (bs 11 15) rfl (SP.on ((SCq.box_now (i:=2) rfl).sub (j:=0) (n:=1) (c:=[v23]) rfl) (SP.nil SCq.sl)) rfl (fun w' hw'=>(E.fieldAddr zav rfl)) ?_
      refine FB.p (i:=4) (bs 11 31) 0 [7,8,9,10] rfl (SP.on ((SCq.box_now (i:=2) rfl).sub (j:=0) (n:=1) (c:=[v23]) rfl) (SP.nil SCq.sl)) rfl rfl (fun w' hw'=>(E.load rfl (zar Tryz.isAgg24 hw' rfl))) ?_
      refine FB.t (i:=5) (bs 11 63) rfl (SP.on ((SCq.box_now (i:=2) rfl).sub (j:=0) (n:=1) (c:=[v23]) rfl) (SP.nil SCq.sl)) rfl (fun w' hw'=>(E.load kCi (zao Tryz.isAgg74 Tryz.sizeOf74 ((atBU.mono (iBY.tr iCd)).now hw') rfl))) ?_
      refine FB.all1 (i:=6) (by kernel_rfl) ?_
      ·
       obtain ⟨vCr,wCs,runCt,SCu⟩:=SCq.buildSlice (P:=Tryz.prog) te24 [Value.agg #[vBB,vBH,Value.int .i64 y21.rule,Value.string y21.main,Value.int .i64 (wr (y21.a + (len a0.steps))),Value.int .i64 y21.b]] (parts:=#[(0,Value.agg #[vBB,vBH,Value.int .i64 y21.rule,Value.string y21.main,Value.int .i64 (wr (y21.a + (len a0.steps))),Value.int .i64 y21.b])]) (cells:=[vBB,vBH,Value.int .i64 y21.rule,Value.string y21.main,Value.int .i64 (wr (y21.a + (len a0.steps))),Value.int .i64 y21.b]) rfl (zan rfl zal) (zam rfl zak) (zaa hBC.one (zaa hBI.one (zaa rfl (zaa rfl (zaa rfl (zaa rfl zag)))))) (Nat.le_of_ble_eq_true rfl)
       have elsCv:Els (up w0.heap.size HCb) eSeqStep 6 [vBB,vBH,Value.int .i64 y21.rule,Value.string y21.main,Value.int .i64 (wr (y21.a + (len a0.steps))),Value.int .i64 y21.b] [(zac.mk rBv y21.rule y21.main (wr (y21.a + (len a0.steps))) y21.b)]:=(Els.snoc (H:=(up w0.heap.size HCb)) (E:=eSeqStep) (k:=6) (c:=[vBB,vBH,Value.int .i64 y21.rule,Value.string y21.main,Value.int .i64 (wr (y21.a + (len a0.steps))),Value.int .i64 y21.b]) (x:=(zac.mk rBv y21.rule y21.main (wr (y21.a + (len a0.steps))) y21.b)) Els.nil rfl ⟨_,_,rfl,(hBC.mono (zai ((iBT.tr iBY).tr iCd))),(hBI.mono (zai ((iBT.tr iBY).tr iCd)))⟩)
       have ndCw:(bl [vBB,vBH,Value.int .i64 y21.rule,Value.string y21.main,Value.int .i64 (wr (y21.a + (len a0.steps))),Value.int .i64 y21.b]).Nodup:=by exact zaR ap211.dis
       have nvCx:New H56 [vBB,vBH,Value.int .i64 y21.rule,Value.string y21.main,Value.int .i64 (wr (y21.a + (len a0.steps))),Value.int .i64 y21.b]:=by exact (New.two nvBG nvBM)
       refine FC.val (l':=(bs 11 127)) rfl (by kernel_rfl) rfl rfl rfl (E.buildSlice (B1 rfl) runCt) ?_
       refine ⟨(SP.on ((SCu.box_now (i:=3) rfl).sub (j:=0) (n:=1) (c:=[v23]) rfl) (SP.nil SCu.sl)),?_⟩
       refine FB.all1 (i:=7) (by kernel_rfl) ?_
       ·
        obtain ⟨vCA,wCD,nCB,csCC,runCE,SCF,elsCG,ceCH⟩:=SCu.appendO (P:=Tryz.prog) te24 (i:=4) (j:=0) rfl (els27.mono (zai ((((r59.run.inc.tr rBA.inc).tr iBT).tr iBY).tr iCd))) rfl elsCv hzCz
        have SCF:St H0 w0 HCb wCD (.row 74 6 vCr 1 [vBB,vBH,Value.int .i64 y21.rule,Value.string y21.main,Value.int .i64 (wr (y21.a + (len a0.steps))),Value.int .i64 y21.b]::.row 3 1 v60 n61 cs62::.box b49 74 [v45,v47,Value.int .i64 y21.rule,Value.string y21.main,Value.int .i64 (wr (y21.a + (len a0.steps))),Value.int .i64 y21.b]::.box b0 92 [v23,Value.bool (bif t219 then true else (decide (200≤(len s22.1))))]::.row 74 6 vCA nCB csCC::L):=SCF
        have ndCI:(bl csCC).Nodup:=by rw [ceCH];exact za0 nd28 ndCw (Els.dom (els27.mono (upI.tr r59.run.inc))) (by exact nvCx)
        have SCJ:St H0 w0 HCb wCD (.row 3 1 v60 n61 cs62::.box b49 74 [v45,v47,Value.int .i64 y21.rule,Value.string y21.main,Value.int .i64 (wr (y21.a + (len a0.steps))),Value.int .i64 y21.b]::.box b0 92 [v23,Value.bool (bif t219 then true else (decide (200≤(len s22.1))))]::.row 74 6 vCA nCB csCC::L):=SCF.drop 0
        refine FC.val (l':=(bs 11 255)) rfl (by kernel_rfl) rfl rfl rfl (E.append rfl rfl runCE) ?_
        refine ⟨(SP.on ((SCJ.box_now (i:=2) rfl).sub (j:=0) (n:=1) (c:=[v23]) rfl) (SP.nil SCJ.sl)),?_⟩
        refine FB.t (i:=8) (bs 11 511) rfl (SP.on ((SCJ.box_now (i:=2) rfl).sub (j:=0) (n:=1) (c:=[v23]) rfl) (SP.nil SCJ.sl)) rfl (fun w' hw'=>(E.nilCheck rfl)) ?_
        refine FB.t (i:=9) (bs 11 1023) rfl (SP.on ((SCJ.box_now (i:=2) rfl).sub (j:=0) (n:=1) (c:=[v23]) rfl) (SP.nil SCJ.sl)) rfl (fun w' hw'=>(E.fieldAddr zav rfl)) ?_
        refine FB.all1 (i:=10) (by kernel_rfl) ?_
        ·
         obtain ⟨wCK,runCL,SCM⟩:=SCJ.store (P:=Tryz.prog) (t:=24) (i:=2) (j:=0) (cs':=[vCA,Value.bool (bif t219 then true else (decide (200≤(len s22.1))))]) (l':=(.row 3 1 v60 n61 cs62::.box b49 74 [v45,v47,Value.int .i64 y21.rule,Value.string y21.main,Value.int .i64 (wr (y21.a + (len a0.steps))),Value.int .i64 y21.b]::.box b0 92 [vCA,Value.bool (bif t219 then true else (decide (200≤(len s22.1))))]::.row 74 6 vCA nCB csCC::L)) (v:=vCA) (c:=[vCA]) rfl Tryz.sizeOf24 (Ln.cells (SCJ.row_ln (i:=3) rfl)) rfl (zaa (Ln.one (SCJ.row_ln (i:=3) rfl)) zag) (Nat.le_of_ble_eq_true rfl) rfl rfl
         refine FC.act (l':=(bs 11 2047)) rfl (by kernel_rfl) rfl rfl (E.store rfl rfl runCL) ?_
         refine ⟨(SP.o (SP.nil SCM.sl)),?_⟩
         exact FB.done (by kernel_rfl) ⟨_,_,_,_,SCM,(Inc.rfl _),elsCG,ndCI,kCh⟩
     ·
      rintro fCW wCV ⟨HCS,vCN,nCO,csCP,SCT,iCU,elsCQ,ndCR,kCX⟩
      refine FW.seq (FW.region ?_)
      refine FL.v (E.move kCX) ?_
      refine FL.v (E.nilCheck rfl) ?_
      refine FL.v (E.fieldAddr zav rfl) ?_
      refine FL.v (E.load rfl (zaf Tryz.isAgg24 (SCT.box_now (i:=2) rfl) rfl)) ?_
      refine FL.v (E.lenO te24 rfl SCT (i:=3) rfl elsCQ (by decide)) ?_
      refine FL.v (E.sub rfl rfl) ?_
      refine FL.v (E.assign (v:=Value.int .i64 (wr ((len xsCy) - 1))) rfl) ?_
      refine FL.nil ?_
      refine FW.ret ?_
      obtain rfl:=Option.some.inj hp
      exact ⟨.inr rfl,res1 rfl rfl (by rw [hRBl];exact ⟨_,_,_,_,rfl,SCT,((((rBA.inc.tr iBT).tr iBY).tr iCd).tr iCU),elsCQ,ndCR⟩)⟩
    clear hqBl
    refine FL.call rfl rfl rfl (E.call Tryz.call70 (A2 rfl rfl)) hcBl ?_
    intro e wD1 hQBl
    rw [hRBl] at hQBl
    obtain ⟨HCY,vBm,nBn,csBo,rfl,SCZ,iD0,elsBp,ndBq⟩:=hQBl
    refine ⟨_,rfl,?_⟩
    refine FL.nil (FW.region ?_)
    refine FL.v (E.add k34 rfl) ?_
    refine FL.v (E.move (v:=Value.int .i64 (wr (((i22:Nat):Int) + 1))) rfl) ?_
    refine FL.nil ?_
    obtain rfl:=Option.some.inj hp
    exact ⟨rfl,⟨_,_,_,_,(SCZ.selT (a:=[.row 3 1 v60 n61 cs62,.box b49 74 [v45,v47,Value.int .i64 y21.rule,Value.string y21.main,Value.int .i64 (wr (y21.a + (len a0.steps))),Value.int .i64 y21.b],.box b0 92 [vBm,Value.bool sBl.2.1],.row 74 6 vBm nBn csBo]) (l':=[.box b0 92 [vBm,Value.bool sBl.2.1],.row 74 6 vBm nBn csBo]) [2,3] (by decide) rfl),((i31.tr r59.run.inc).tr iD0),elsBp,ndBq,(zaA rfl (zat hx22) (p1.mono ((i31.tr r59.run.inc).tr iD0)).le),k35,k36,k37,k38⟩⟩
   ·
    refine FW.condF rfl cBh ?_
    refine FW.skip (FW.region ?_)
    refine FL.v (E.move k35) ?_
    refine FL.v (E.load rfl (zao Tryz.isAgg74 Tryz.sizeOf74 (S58.box_now (i:=1) rfl) rfl)) ?_
    obtain ⟨sD2,hqD2,hp⟩:=bnd hp
    obtain ⟨R288,hRD2⟩:∃ R288:((List zac)×Bool×Int)→Ending→World→Prop,R288=(fun sD2 e w=>∃ H:GH,∃ vD3:Value,∃ nD4:Nat,∃ csD5:List Value,e=Ending.returned (Value.int .i64 sD2.2.2)∧St H0 w0 H w (.row 3 1 v60 n61 cs62::.box b49 74 [v45,v47,Value.int .i64 y21.rule,Value.string y21.main,Value.int .i64 y21.a,Value.int .i64 y21.b]::.box b0 92 [vD3,Value.bool sD2.2.1]::.row 74 6 vD3 nD4 csD5::L)∧Inc H56 H∧Els (up w0.heap.size H) eSeqStep 6 csD5 sD2.1∧(bl csD5).Nodup):=⟨_,rfl⟩
    have hcD2:Calls Tryz.prog 70 #[Value.pointer (some (⟨b0,0,none⟩:Addr)),Value.agg #[v45,v47,Value.int .i64 y21.rule,Value.string y21.main,Value.int .i64 y21.a,Value.int .i64 y21.b]] w57 (R288 sD2):=by
     clear hp;have hp:=hqD2;clear hqD2
     refine zaj (N:=46) (args:=[Value.pointer (some (⟨b0,0,none⟩:Addr)),Value.agg #[v45,v47,Value.int .i64 y21.rule,Value.string y21.main,Value.int .i64 y21.a,Value.int .i64 y21.b]]) Tryz.func70 rfl rfl rfl ?_
     refine FW.seq (FW.region ?_)
     obtain ⟨bD8,wD9,runDa,SDb⟩:=S58.box (P:=Tryz.prog) 74 [v45,v47,Value.int .i64 y21.rule,Value.string y21.main,Value.int .i64 y21.a,Value.int .i64 y21.b] (v:=Value.agg #[v45,v47,Value.int .i64 y21.rule,Value.string y21.main,Value.int .i64 y21.a,Value.int .i64 y21.b]) rfl (zaa h46.one (zaa h48.one (zaa rfl (zaa rfl (zaa rfl (zaa rfl zag))))))
     refine FL.v (E.box rfl runDa) ?_
     refine FL.v (E.assign (v:=Value.int .i64 0) rfl) ?_
     refine FL.nil (FW.seq (FW.region ?_))
     refine FL.v (E.fieldAddr zap rfl) ?_
     refine FL.v (E.load rfl (zao Tryz.isAgg68 Tryz.sizeOf68 ((SDb.box_now (i:=0) rfl).sub (j:=0) (n:=2) (c:=[v45,v47]) rfl) rfl)) ?_
     obtain ⟨rDc,hrDd,hp⟩:=bnd hp
     refine FL.call rfl rfl rfl (E.call Tryz.call114 (A1 rfl)) (zbC SDb.sl y21.seq v45 (h46.mono (i31.tr r59.run.inc)) v47 (h48.mono (i31.tr r59.run.inc)) hrDd) ?_
     rintro e wDf ⟨HDe,vDi,vDo,rfl,rDh,⟨cDl,cDr,nsDk,nsDq,ap316⟩⟩
     refine ⟨_,rfl,?_⟩
     have hDj:=nsDk.rsl
     have nvDm:New H56 cDl:=New.of_up SDb.sl (fun b hb=>nsDk.dom b (.inr hb))
     have nvDn:New H56 [vDi]:=New.of_up SDb.sl hDj.dom
     have hDj:=hDj.mono (up_le SDb.size)
     have nsDk:=nsDk.mono (up_le SDb.size)
     have hDp:=nsDq.rsl
     have nvDs:New H56 cDr:=New.of_up SDb.sl (fun b hb=>nsDq.dom b (.inr hb))
     have nvDt:New H56 [vDo]:=New.of_up SDb.sl hDp.dom
     have hDp:=hDp.mono (up_le SDb.size)
     have nsDq:=nsDq.mono (up_le SDb.size)
     have SDg:=SDb.call rDh
     refine FL.v (E.fieldAddr zap rfl) ?_
     obtain ⟨wDv,runDw,SDx⟩:=SDg.store (P:=Tryz.prog) (t:=68) (i:=0) (j:=0) (cs':=[vDi,vDo,Value.int .i64 y21.rule,Value.string y21.main,Value.int .i64 y21.a,Value.int .i64 y21.b]) (l':=(.box bD8 74 [vDi,vDo,Value.int .i64 y21.rule,Value.string y21.main,Value.int .i64 y21.a,Value.int .i64 y21.b]::.row 3 1 v60 n61 cs62::.box b49 74 [v45,v47,Value.int .i64 y21.rule,Value.string y21.main,Value.int .i64 y21.a,Value.int .i64 y21.b]::.box b0 92 [v23,Value.bool s22.2]::.row 74 6 v23 n25 cs26::L)) (v:=Value.agg #[vDi,vDo]) (c:=[vDi,vDo]) rfl Tryz.sizeOf68 rfl rfl (zaa hDj.one (zaa hDp.one zag)) (Nat.le_of_ble_eq_true rfl) rfl rfl
     refine FL.act rfl rfl (E.store rfl rfl runDw) ?_
     obtain ⟨HDy,SDz,iDA,atDB⟩:=SDx.sealBox (i:=0) (l':=(.row 3 1 v60 n61 cs62::.box b49 74 [v45,v47,Value.int .i64 y21.rule,Value.string y21.main,Value.int .i64 y21.a,Value.int .i64 y21.b]::.box b0 92 [v23,Value.bool s22.2]::.row 74 6 v23 n25 cs26::L)) rfl rfl
     refine FL.nil (FW.seq (FW.region ?_))
     refine FL.v (E.move (v:=Value.pointer (some (⟨b0,0,none⟩:Addr))) rfl) ?_
     refine FL.v (E.move (v:=Value.pointer (some (⟨b0,0,none⟩:Addr))) rfl) ?_
     refine FL.v (E.nilCheck rfl) ?_
     refine FL.v (E.fieldAddr zaU rfl) ?_
     refine FL.v (E.load rfl (zaf Tryz.isAgg4 (SDz.box_now (i:=2) rfl) rfl)) ?_
     refine FL.v (E.move (v:=Value.bool s22.2) rfl) ?_
     obtain ⟨t324,hqtDC,hp⟩:=bnd hp
     refine FL.cut 5 (fun f w=>∃ H:GH,St H0 w0 H w (.row 3 1 v60 n61 cs62::.box b49 74 [v45,v47,Value.int .i64 y21.rule,Value.string y21.main,Value.int .i64 y21.a,Value.int .i64 y21.b]::.box b0 92 [v23,Value.bool s22.2]::.row 74 6 v23 n25 cs26::L)∧Inc HDy H∧f 0=Value.pointer (some (⟨b0,0,none⟩:Addr))∧f 3=Value.pointer (some ⟨bD8,0,none⟩)∧f 9=Value.pointer (some (⟨b0,0,none⟩:Addr))∧f 19=Value.bool t324) ?_ ?_
     ·
      clear hp;have hp:=hqtDC;clear hqtDC
      rcases ifB hp with ⟨cDI,hp⟩|⟨cDI,hp⟩
      ·
       refine FL.skip (wF_no rfl rfl rfl cDI) rfl ?_
       refine FL.skip (wF_no rfl rfl rfl cDI) rfl ?_
       refine FL.skip (wF_no rfl rfl rfl cDI) rfl ?_
       refine FL.skip (wF_no rfl rfl rfl cDI) rfl ?_
       obtain rfl:=Option.some.inj hp
       refine FL.v (E.pickT rfl cDI rfl) ?_
       exact FL.nil ⟨rfl,_,SDz,(Inc.rfl _),rfl,rfl,rfl,rfl⟩
      ·
       refine FL.val (zab rfl rfl rfl cDI) rfl rfl (E.fieldAddr zap rfl) ?_
       refine FL.val (zab rfl rfl rfl cDI) rfl rfl (E.load rfl (zao Tryz.isAgg68 Tryz.sizeOf68 ((atDB.now SDz.sl).sub (j:=0) (n:=2) (c:=[vDi,vDo]) rfl) rfl)) ?_
       obtain ⟨rDJ,hrDK,hp⟩:=bnd hp
       refine FL.call (zab rfl rfl rfl cDI) rfl rfl (E.call Tryz.call120 (A1 rfl)) (zbh SDz.sl rDc vDi (hDj.mono (upI.tr iDA)) vDo (hDp.mono (upI.tr iDA)) hrDK) ?_
       rintro e wDL ⟨rfl,rDM⟩
       refine ⟨_,rfl,?_⟩
       have SDN:=SDz.call rDM
       refine FL.val (zab rfl rfl rfl cDI) rfl rfl (E.not rfl) ?_
       obtain rfl:=Option.some.inj hp
       refine FL.v (E.pickF rfl cDI rfl) ?_
       exact FL.nil ⟨rfl,_,SDN,(Inc.rfl _),rfl,rfl,rfl,rfl⟩
     rintro fDH wDG ⟨HDD,SDE,iDF,kDO,kDP,kDQ,kDR⟩
     refine FL.v (E.move kDR) ?_
     refine FL.cut 7 (fun f w=>∃ H:GH,St H0 w0 H w (.row 3 1 v60 n61 cs62::.box b49 74 [v45,v47,Value.int .i64 y21.rule,Value.string y21.main,Value.int .i64 y21.a,Value.int .i64 y21.b]::.box b0 92 [v23,Value.bool s22.2]::.row 74 6 v23 n25 cs26::L)∧Inc HDD H∧f 0=Value.pointer (some (⟨b0,0,none⟩:Addr))∧f 3=Value.pointer (some ⟨bD8,0,none⟩)∧f 9=Value.pointer (some (⟨b0,0,none⟩:Addr))∧f 27=Value.bool (bif t324 then true else (decide (200≤(len s22.1))))) ?_ ?_
     ·
      rcases bcase t324 with cDX|cDX
      ·
       refine FL.skip (wF_no rfl rfl rfl cDX) rfl ?_
       refine FL.skip (wF_no rfl rfl rfl cDX) rfl ?_
       refine FL.skip (wF_no rfl rfl rfl cDX) rfl ?_
       refine FL.skip (wF_no rfl rfl rfl cDX) rfl ?_
       refine FL.skip (wF_no rfl rfl rfl cDX) rfl ?_
       refine FL.skip (wF_no rfl rfl rfl cDX) rfl ?_
       refine FL.v (E.pickT rfl cDX rfl) ?_
       exact FL.nil ⟨rfl,_,SDE,(Inc.rfl _),kDO,kDP,kDQ,(congrArg Value.bool (bifT cDX).symm)⟩
      ·
       refine FL.val (zab rfl rfl rfl cDX) rfl rfl (E.move kDO) ?_
       refine FL.val (zab rfl rfl rfl cDX) rfl rfl (E.nilCheck rfl) ?_
       refine FL.val (zab rfl rfl rfl cDX) rfl rfl (E.fieldAddr zav rfl) ?_
       refine FL.val (zab rfl rfl rfl cDX) rfl rfl (E.load rfl (zaf Tryz.isAgg24 (SDE.box_now (i:=2) rfl) rfl)) ?_
       refine FL.val (zab rfl rfl rfl cDX) rfl rfl (E.lenO te24 rfl SDE (i:=3) rfl els27 (by decide)) ?_
       refine FL.val (zab rfl rfl rfl cDX) rfl rfl (E.geq rfl rfl) ?_
       refine FL.v (E.pickF rfl cDX rfl) ?_
       exact FL.nil ⟨rfl,_,SDE,(Inc.rfl _),kDO,kDP,kDQ,(congrArg Value.bool (bifF cDX).symm)⟩
     rintro fDW wDV ⟨HDS,SDT,iDU,kDY,kDZ,kE0,kE1⟩
     refine FL.v (E.nilCheck kE0) ?_
     refine FL.v (E.fieldAddr zaU rfl) ?_
     obtain ⟨wE2,runE3,SE4⟩:=SDT.store (P:=Tryz.prog) (t:=4) (i:=2) (j:=1) (cs':=[v23,Value.bool (bif t324 then true else (decide (200≤(len s22.1))))]) (l':=(.row 3 1 v60 n61 cs62::.box b49 74 [v45,v47,Value.int .i64 y21.rule,Value.string y21.main,Value.int .i64 y21.a,Value.int .i64 y21.b]::.box b0 92 [v23,Value.bool (bif t324 then true else (decide (200≤(len s22.1))))]::.row 74 6 v23 n25 cs26::L)) (v:=Value.bool (bif t324 then true else (decide (200≤(len s22.1))))) (c:=[Value.bool (bif t324 then true else (decide (200≤(len s22.1))))]) rfl Tryz.sizeOf4 rfl rfl (zaa rfl zag) (Nat.le_of_ble_eq_true rfl) rfl rfl
     refine FL.act rfl rfl (E.store rfl kE1 runE3) ?_
     refine FL.nil (FW.seq ?_)
     obtain ⟨xsEf,hzEg,hp⟩:=bnd hp
     refine FW.drawB (Sl HDS) (fun f w=>∃ H:GH,∃ vEu:Value,∃ nEv:Nat,∃ csEw:List Value,St H0 w0 H w (.row 3 1 v60 n61 cs62::.box b49 74 [v45,v47,Value.int .i64 y21.rule,Value.string y21.main,Value.int .i64 y21.a,Value.int .i64 y21.b]::.box b0 92 [vEu,Value.bool (bif t324 then true else (decide (200≤(len s22.1))))]::.row 74 6 vEu nEv csEw::L)∧Inc HDS H∧Els (up w0.heap.size H) eSeqStep 6 csEw xsEf∧(bl csEw).Nodup∧f 0=Value.pointer (some (⟨b0,0,none⟩:Addr))) (by kernel_rfl) SE4.sl ?_ ?_
     ·
      intro wE5 rE6
      have SE7:=SE4.call rE6
      refine FB.phase [10] (fun w=>WAt w (Addr.add ⟨b0,0,none⟩ 0) [v23]) ?_
      refine FB.t (i:=0) (bs 11 1) rfl (SP.on ((SE7.box_now (i:=2) rfl).sub (j:=0) (n:=1) (c:=[v23]) rfl) (SP.nil SE7.sl)) rfl (fun w' hw'=>(E.move kDY)) ?_
      refine FB.t (i:=1) (bs 11 3) rfl (SP.on ((SE7.box_now (i:=2) rfl).sub (j:=0) (n:=1) (c:=[v23]) rfl) (SP.nil SE7.sl)) rfl (fun w' hw'=>(E.move kDY)) ?_
      refine FB.t (i:=2) (bs 11 7) rfl (SP.on ((SE7.box_now (i:=2) rfl).sub (j:=0) (n:=1) (c:=[v23]) rfl) (SP.nil SE7.sl)) rfl (fun w' hw'=>(E.nilCheck rfl)) ?_
      refine FB.t (i:=3) (bs 11 15) rfl (SP.on ((SE7.box_now (i:=2) rfl).sub (j:=0) (n:=1) (c:=[v23]) rfl) (SP.nil SE7.sl)) rfl (fun w' hw'=>(E.fieldAddr zav rfl)) ?_
      refine FB.p (i:=4) (bs 11 31) 0 [7,8,9,10] rfl (SP.on ((SE7.box_now (i:=2) rfl).sub (j:=0) (n:=1) (c:=[v23]) rfl) (SP.nil SE7.sl)) rfl rfl (fun w' hw'=>(E.load rfl (zar Tryz.isAgg24 hw' rfl))) ?_
      refine FB.t (i:=5) (bs 11 63) rfl (SP.on ((SE7.box_now (i:=2) rfl).sub (j:=0) (n:=1) (c:=[v23]) rfl) (SP.nil SE7.sl)) rfl (fun w' hw'=>(E.load kDZ (zao Tryz.isAgg74 Tryz.sizeOf74 ((atDB.mono (iDF.tr iDU)).now hw') rfl))) ?_
      refine FB.all1 (i:=6) (by kernel_rfl) ?_
      ·
       obtain ⟨vE8,wE9,runEa,SEb⟩:=SE7.buildSlice (P:=Tryz.prog) te24 [Value.agg #[vDi,vDo,Value.int .i64 y21.rule,Value.string y21.main,Value.int .i64 y21.a,Value.int .i64 y21.b]] (parts:=#[(0,Value.agg #[vDi,vDo,Value.int .i64 y21.rule,Value.string y21.main,Value.int .i64 y21.a,Value.int .i64 y21.b])]) (cells:=[vDi,vDo,Value.int .i64 y21.rule,Value.string y21.main,Value.int .i64 y21.a,Value.int .i64 y21.b]) rfl (zan rfl zal) (zam rfl zak) (zaa hDj.one (zaa hDp.one (zaa rfl (zaa rfl (zaa rfl (zaa rfl zag)))))) (Nat.le_of_ble_eq_true rfl)
       have elsEc:Els (up w0.heap.size HDS) eSeqStep 6 [vDi,vDo,Value.int .i64 y21.rule,Value.string y21.main,Value.int .i64 y21.a,Value.int .i64 y21.b] [(zac.mk rDc y21.rule y21.main y21.a y21.b)]:=(Els.snoc (H:=(up w0.heap.size HDS)) (E:=eSeqStep) (k:=6) (c:=[vDi,vDo,Value.int .i64 y21.rule,Value.string y21.main,Value.int .i64 y21.a,Value.int .i64 y21.b]) (x:=(zac.mk rDc y21.rule y21.main y21.a y21.b)) Els.nil rfl ⟨_,_,rfl,(hDj.mono (zai ((iDA.tr iDF).tr iDU))),(hDp.mono (zai ((iDA.tr iDF).tr iDU)))⟩)
       have ndEd:(bl [vDi,vDo,Value.int .i64 y21.rule,Value.string y21.main,Value.int .i64 y21.a,Value.int .i64 y21.b]).Nodup:=by exact zaR ap316.dis
       have nvEe:New H56 [vDi,vDo,Value.int .i64 y21.rule,Value.string y21.main,Value.int .i64 y21.a,Value.int .i64 y21.b]:=by exact (New.two nvDn nvDt)
       refine FC.val (l':=(bs 11 127)) rfl (by kernel_rfl) rfl rfl rfl (E.buildSlice (B1 rfl) runEa) ?_
       refine ⟨(SP.on ((SEb.box_now (i:=3) rfl).sub (j:=0) (n:=1) (c:=[v23]) rfl) (SP.nil SEb.sl)),?_⟩
       refine FB.all1 (i:=7) (by kernel_rfl) ?_
       ·
        obtain ⟨vEh,wEk,nEi,csEj,runEl,SEm,elsEn,ceEo⟩:=SEb.appendO (P:=Tryz.prog) te24 (i:=4) (j:=0) rfl (els27.mono (zai ((((r59.run.inc.tr rDh.inc).tr iDA).tr iDF).tr iDU))) rfl elsEc hzEg
        have SEm:St H0 w0 HDS wEk (.row 74 6 vE8 1 [vDi,vDo,Value.int .i64 y21.rule,Value.string y21.main,Value.int .i64 y21.a,Value.int .i64 y21.b]::.row 3 1 v60 n61 cs62::.box b49 74 [v45,v47,Value.int .i64 y21.rule,Value.string y21.main,Value.int .i64 y21.a,Value.int .i64 y21.b]::.box b0 92 [v23,Value.bool (bif t324 then true else (decide (200≤(len s22.1))))]::.row 74 6 vEh nEi csEj::L):=SEm
        have ndEp:(bl csEj).Nodup:=by rw [ceEo];exact za0 nd28 ndEd (Els.dom (els27.mono (upI.tr r59.run.inc))) (by exact nvEe)
        have SEq:St H0 w0 HDS wEk (.row 3 1 v60 n61 cs62::.box b49 74 [v45,v47,Value.int .i64 y21.rule,Value.string y21.main,Value.int .i64 y21.a,Value.int .i64 y21.b]::.box b0 92 [v23,Value.bool (bif t324 then true else (decide (200≤(len s22.1))))]::.row 74 6 vEh nEi csEj::L):=SEm.drop 0
        refine FC.val (l':=(bs 11 255)) rfl (by kernel_rfl) rfl rfl rfl (E.append rfl rfl runEl) ?_
        refine ⟨(SP.on ((SEq.box_now (i:=2) rfl).sub (j:=0) (n:=1) (c:=[v23]) rfl) (SP.nil SEq.sl)),?_⟩
        refine FB.t (i:=8) (bs 11 511) rfl (SP.on ((SEq.box_now (i:=2) rfl).sub (j:=0) (n:=1) (c:=[v23]) rfl) (SP.nil SEq.sl)) rfl (fun w' hw'=>(E.nilCheck rfl)) ?_
        refine FB.t (i:=9) (bs 11 1023) rfl (SP.on ((SEq.box_now (i:=2) rfl).sub (j:=0) (n:=1) (c:=[v23]) rfl) (SP.nil SEq.sl)) rfl (fun w' hw'=>(E.fieldAddr zav rfl)) ?_
        refine FB.all1 (i:=10) (by kernel_rfl) ?_
        ·
         obtain ⟨wEr,runEs,SEt⟩:=SEq.store (P:=Tryz.prog) (t:=24) (i:=2) (j:=0) (cs':=[vEh,Value.bool (bif t324 then true else (decide (200≤(len s22.1))))]) (l':=(.row 3 1 v60 n61 cs62::.box b49 74 [v45,v47,Value.int .i64 y21.rule,Value.string y21.main,Value.int .i64 y21.a,Value.int .i64 y21.b]::.box b0 92 [vEh,Value.bool (bif t324 then true else (decide (200≤(len s22.1))))]::.row 74 6 vEh nEi csEj::L)) (v:=vEh) (c:=[vEh]) rfl Tryz.sizeOf24 (Ln.cells (SEq.row_ln (i:=3) rfl)) rfl (zaa (Ln.one (SEq.row_ln (i:=3) rfl)) zag) (Nat.le_of_ble_eq_true rfl) rfl rfl
         refine FC.act (l':=(bs 11 2047)) rfl (by kernel_rfl) rfl rfl (E.store rfl rfl runEs) ?_
         refine ⟨(SP.o (SP.nil SEt.sl)),?_⟩
         exact FB.done (by kernel_rfl) ⟨_,_,_,_,SEt,(Inc.rfl _),elsEn,ndEp,kDY⟩
     ·
      rintro fED wEC ⟨HEz,vEu,nEv,csEw,SEA,iEB,elsEx,ndEy,kEE⟩
      refine FW.seq (FW.region ?_)
      refine FL.v (E.move kEE) ?_
      refine FL.v (E.nilCheck rfl) ?_
      refine FL.v (E.fieldAddr zav rfl) ?_
      refine FL.v (E.load rfl (zaf Tryz.isAgg24 (SEA.box_now (i:=2) rfl) rfl)) ?_
      refine FL.v (E.lenO te24 rfl SEA (i:=3) rfl elsEx (by decide)) ?_
      refine FL.v (E.sub rfl rfl) ?_
      refine FL.v (E.assign (v:=Value.int .i64 (wr ((len xsEf) - 1))) rfl) ?_
      refine FL.nil ?_
      refine FW.ret ?_
      obtain rfl:=Option.some.inj hp
      exact ⟨.inr rfl,res1 rfl rfl (by rw [hRD2];exact ⟨_,_,_,_,rfl,SEA,((((rDh.inc.tr iDA).tr iDF).tr iDU).tr iEB),elsEx,ndEy⟩)⟩
    clear hqD2
    refine FL.call rfl rfl rfl (E.call Tryz.call70 (A2 rfl rfl)) hcD2 ?_
    intro e wEI hQD2
    rw [hRD2] at hQD2
    obtain ⟨HEF,vD3,nD4,csD5,rfl,SEG,iEH,elsD6,ndD7⟩:=hQD2
    refine ⟨_,rfl,?_⟩
    refine FL.nil (FW.region ?_)
    refine FL.v (E.add k34 rfl) ?_
    refine FL.v (E.move (v:=Value.int .i64 (wr (((i22:Nat):Int) + 1))) rfl) ?_
    refine FL.nil ?_
    obtain rfl:=Option.some.inj hp
    exact ⟨rfl,⟨_,_,_,_,(SEG.selT (a:=[.row 3 1 v60 n61 cs62,.box b49 74 [v45,v47,Value.int .i64 y21.rule,Value.string y21.main,Value.int .i64 y21.a,Value.int .i64 y21.b],.box b0 92 [vD3,Value.bool sD2.2.1],.row 74 6 vD3 nD4 csD5]) (l':=[.box b0 92 [vD3,Value.bool sD2.2.1],.row 74 6 vD3 nD4 csD5]) [2,3] (by decide) rfl),((i31.tr r59.run.inc).tr iEH),elsD6,ndD7,(zaA rfl (zat hx22) (p1.mono ((i31.tr r59.run.inc).tr iEH)).le),k35,k36,k37,k38⟩⟩
 ·
  clear hp hq
  rintro s22 fEU wET ⟨HEQ,v23,n25,cs26,SER,iES,els27,nd28,kEV,kEW,kEX,kEY,kEZ⟩
  refine FW.seq (FW.region ?_)
  refine FL.v (E.lss kEV kEZ) ?_
  refine FL.nil (FW.seq ?_)
  refine FW.condF rfl zaK ?_
  refine FW.exit ?_
  exact ⟨nofun,rfl,⟨_,_,_,_,SER,iES,els27,nd28,kEW⟩⟩
 ·
  clear hq
  intro e fEO wEN hD
  rcases q22 with s22|x22
  ·
   obtain ⟨rfl,hD⟩:=hD
   obtain ⟨HEK,v23,n25,cs26,SEL,iEM,els27,nd28,kEP⟩:=hD
   replace hp:=el_go hp
   refine FW.seq (FW.region ?_)
   refine FL.v (E.move kEP) ?_
   refine FL.v (E.nilCheck rfl) ?_
   refine FL.v (E.fieldAddr zav rfl) ?_
   refine FL.v (E.load rfl (zaf Tryz.isAgg24 (SEL.box_now (i:=0) rfl) rfl)) ?_
   refine FL.v (E.lenO te24 rfl SEL (i:=1) rfl els27 (by decide)) ?_
   refine FL.v (E.sub rfl rfl) ?_
   refine FL.v (E.assign (v:=Value.int .i64 (wr ((len s22.1) - 1))) rfl) ?_
   refine FL.nil ?_
   refine FW.ret ?_
   obtain rfl:=Option.some.inj hp
   exact ⟨.inr rfl,res1 rfl rfl ⟨_,_,_,_,rfl,⟨SEL,iEM⟩,els27,nd28⟩⟩
  ·
   exact x22.elim

end Go.Proofs
