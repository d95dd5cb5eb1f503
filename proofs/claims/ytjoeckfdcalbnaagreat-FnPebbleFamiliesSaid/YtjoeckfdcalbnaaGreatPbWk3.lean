/- Part of the walks and plain laws behind the claim: it proves helpers, under no condition beyond their own. -/
import Derived.Test.YtjoeckfdcalbnaaGreatPbWk2
set_option linter.unusedVariables false
set_option maxRecDepth 100000
namespace Go.Proofs
open Go.Mr Go.Pu Go.PF Go.RowKit

@[reducible] def zfA (H0:GH) (w0:World) (Ha:GH) (L:List MO) (r:(List (List Int))):Ending→World→Prop :=
 fun e w'=>∃ H':GH,∃ v0r:Value,∃ n0r:Nat,∃ c0r:List Value,e=.returned (v0r)∧(St H0 w0 H' w' (.row 34 1 v0r n0r c0r::L)∧Inc Ha H')∧Els (up w0.heap.size H') (eL eI 1) 1 c0r r
set_option maxHeartbeats 4000000 in
theorem zfB {H0 Ha:GH} {w0 wa:World} {L:List MO} {v0:Value} {n0:Nat} {k0:List Value} (S0:St H0 w0 Ha wa (.row 34 1 v0 n0 k0::L)) (a0:List (List Int)) (p0:Els (up w0.heap.size Ha) (eL eI 1) 1 k0 a0) (v1:Value) (a1:(List Int)→Option Bool) (p1:zcX Tryz.prog Ha v1 a1) {r:(List (List Int))} (hp:(PF.zdo a0 a1)=some r) :
  Calls Tryz.prog 47 #[v0,v1] wa (zfA H0 w0 Ha L r):=by
 unfold PF.zdo at hp
 refine zae (N:=42) (args:=[v0,v1]) Tryz.func47 rfl rfl rfl ?_
 refine FW.seq (FW.region ?_)
 refine FL.v (E.assign (v:=Value.slice none 0 0) rfl) ?_
 refine FL.nil (FW.seq (FW.region ?_))
 refine FL.v (E.move (v:=v0) rfl) ?_
 refine FL.v (E.move (v:=v1) rfl) ?_
 obtain ⟨H21,S22,i23,h24,nv25⟩:=S0.sealRowU (i:=0) (l':=L) rfl p0 (by decide) rfl
 obtain ⟨r26,hr27,hp⟩:=bnd hp
 refine FL.call rfl rfl rfl (E.call Tryz.call86 (A2 rfl rfl)) (zeR S22.sl v0 a0 (h24.mono upI) v1 a1 (p1.mono i23) hr27) ?_
 rintro e w28 ⟨rfl,r29⟩
 refine ⟨_,rfl,?_⟩
 have r29:=Run.lend i23 S0.sl r29
 have S30:=S0.call r29
 refine FL.v (E.assign (v:=Value.int .i64 r26) rfl) ?_
 refine FL.nil (FW.seq (FW.seq (FW.region ?_)))
 refine FL.v (E.move (v:=Value.int .i64 r26) rfl) ?_
 refine FL.v (E.eql rfl rfl) ?_
 refine FL.nil ?_
 rcases ifB hp with ⟨c31,hp⟩|⟨c31,hp⟩
 ·
  refine FW.condT rfl c31 ?_
  refine FW.seq (FW.region ?_)
  refine FL.v (E.move (v:=v0) rfl) ?_
  refine FL.v (E.assign (v:=v0) rfl) ?_
  refine FL.nil ?_
  refine FW.ret ?_
  obtain rfl:=Option.some.inj hp
  exact ⟨.inr rfl,res1 rfl rfl ⟨_,_,_,_,rfl,⟨S30,(Inc.rfl _)⟩,p0⟩⟩
 ·
  refine FW.condF rfl c31 ?_
  refine FW.skip (FW.seq (FW.seq (FW.region ?_)))
  refine FL.v (E.move (v:=Value.int .i64 r26) rfl) ?_
  refine FL.v (E.add rfl rfl) ?_
  refine FL.v (E.assign (v:=Value.int .i64 (wr (r26 + 1))) rfl) ?_
  refine FL.nil ?_
  obtain ⟨q32,hq,hp⟩:=bndR hp
  refine FW.block ?_
  refine FW.mono (FW.iter (S:=((List (List Int))×Int×Int)) (X:=Empty) (fun (s32:((List (List Int))×Int×Int)) f w=>∃ H:GH,∃ cs82:List Value,St H0 w0 H w (.row 34 1 v0 n0 cs82::L)∧Inc Ha H∧Els (up w0.heap.size H) (eL eI 1) 1 cs82 s32.1∧f 0=v0∧f 1=v1∧f 5=Value.int .i64 s32.2.1∧f 6=Value.int .i64 s32.2.2) (fun (q:Rs ((List (List Int))×Int×Int) Empty) e f w=>match q with|.go s32=>e=Exit.exit 0∧(∃ H:GH,∃ cs82:List Value,St H0 w0 H w (.row 34 1 v0 n0 cs82::L)∧Inc Ha H∧Els (up w0.heap.size H) (eL eI 1) 1 cs82 s32.1∧f 0=v0∧f 5=Value.int .i64 s32.2.1)|.rt x=>x.elim) hq ⟨_,_,S30,(Inc.rfl _),p0,rfl,rfl,rfl,rfl⟩ ?_) ?_
  ·
   clear hp hq
   rintro s32 fAB wAA ⟨HAx,cs82,SAy,iAz,els83,kAC,kAD,kAE,kAF⟩ oBk hp
   refine FW.seq (FW.seq (FW.region ?_))
   refine FL.v (E.move kAF) ?_
   refine FL.v (E.move kAC) ?_
   refine FL.v (E.lenO te24 rfl SAy (i:=0) rfl els83 (by decide)) ?_
   refine FL.v (E.lss rfl rfl) ?_
   refine FL.nil ?_
   rcases ifB hp with ⟨cAG,hp⟩|⟨cAG,hp⟩
   ·
    refine FW.condT rfl cAG ?_
    refine FW.skip (FW.seq (FW.block (FW.seq (FW.region ?_))))
    refine FL.v (E.move kAC) ?_
    refine FL.v (E.move kAF) ?_
    obtain ⟨xAN,hxAO,hp⟩:=bnd hp
    obtain ⟨pAH,csAI,ptAJ,lAK,atAL,relAM⟩:=SAy.row_at (i:=0) rfl els83 (by decide) hxAO
    obtain ⟨vAP,rfl,hAQ⟩:=zav relAM
    refine FL.v (E.indexAddr te24 rfl rfl ptAJ) ?_
    refine FL.v (E.load rfl (zaf Tryz.isAgg34 atAL rfl)) ?_
    refine FL.v (E.assign (v:=vAP) rfl) ?_
    refine FL.nil (FW.seq (FW.region ?_))
    refine FL.v (E.move kAD) ?_
    refine FL.v (E.move (v:=vAP) rfl) ?_
    obtain ⟨rAR,hrAS,hp⟩:=bnd hp
    obtain ⟨fi158,csAX,hv160,he161,hcB0⟩:=(p1.mono iAz) HAx wAA (Inc.rfl _) SAy.sl xAN vAP (hAQ.mono upI) rAR hrAS
    refine FL.call rfl rfl rfl (E.callV he161 (Eq.trans rfl hv160) (appA (A1 rfl) csAX)) hcB0 ?_
    rintro e wAT ⟨rfl,rAU⟩
    refine ⟨_,rfl,?_⟩
    have SAV:=SAy.call rAU
    refine FL.v (E.not rfl) ?_
    refine FL.nil ?_
    rcases ifB hp with ⟨cB1,hp⟩|⟨cB1,hp⟩
    ·
     refine FW.condT rfl cB1 ?_
     refine FW.seq (FW.region ?_)
     refine FL.v (E.move kAC) ?_
     refine FL.v (E.move kAE) ?_
     refine FL.v (E.move (v:=vAP) rfl) ?_
     obtain ⟨xB8,hxB9,hp⟩:=bnd hp
     obtain ⟨pB2,csB3,ptB4,lB5,atB6,relB7⟩:=SAV.row_at (i:=0) rfl els83 (by decide) hxB9
     obtain ⟨vBa,rfl,hBb⟩:=zav relB7
     refine FL.v (E.indexAddr te24 rfl rfl ptB4) ?_
     obtain ⟨xsBf,hputBg,hp⟩:=bnd hp
     obtain ⟨wBc,csBi,runBd,SBe,elsBh,ceBj⟩:=SAV.putEls (P:=Tryz.prog) (t:=34) (i:=0) rfl els83 hputBg ptB4 Tryz.sizeOf34 (u:=vAP) (c:=[vAP]) hAQ.cells rfl (zac hAQ.one zad) ⟨_,rfl,hAQ⟩
     have SBe:St H0 w0 HAx wBc (.row 34 1 v0 n0 csBi::L):=SBe
     refine FL.act rfl rfl (E.store rfl rfl runBd) ?_
     refine FL.nil (FW.region ?_)
     refine FL.v (E.move kAE) ?_
     refine FL.v (E.add rfl rfl) ?_
     refine FL.v (E.assign (v:=Value.int .i64 (wr (s32.2.1 + 1))) rfl) ?_
     refine FL.nil (FW.region ?_)
     refine FL.v (E.move kAF) ?_
     refine FL.v (E.add rfl rfl) ?_
     refine FL.v (E.assign (v:=Value.int .i64 (wr (s32.2.2 + 1))) rfl) ?_
     refine FL.nil ?_
     obtain rfl:=Option.some.inj hp
     exact ⟨rfl,⟨_,_,SBe,iAz,elsBh,kAC,kAD,rfl,rfl⟩⟩
    ·
     refine FW.condF rfl cB1 ?_
     refine FW.skip (FW.region ?_)
     refine FL.v (E.move kAF) ?_
     refine FL.v (E.add rfl rfl) ?_
     refine FL.v (E.assign (v:=Value.int .i64 (wr (s32.2.2 + 1))) rfl) ?_
     refine FL.nil ?_
     obtain rfl:=Option.some.inj hp
     exact ⟨rfl,⟨_,_,SAV,iAz,els83,kAC,kAD,kAE,rfl⟩⟩
   ·
    refine FW.condF rfl cAG ?_
    refine FW.exit ?_
    obtain rfl:=Option.some.inj hp
    exact ⟨nofun,rfl,⟨_,_,SAy,iAz,els83,kAC,kAE⟩⟩
  ·
   clear hq
   intro e fBp wBo hD
   rcases q32 with s32|x32
   ·
    obtain ⟨rfl,hD⟩:=hD
    obtain ⟨HBl,cs82,SBm,iBn,els83,kBq,kBr⟩:=hD
    replace hp:=el_go hp
    refine FW.seq (FW.region ?_)
    refine FL.v (E.move kBq) ?_
    refine FL.v (E.move kBr) ?_
    obtain ⟨xsBs,hcBt,hp⟩:=bnd hp
    obtain ⟨vBu,runBv,hBw⟩:=SBm.tail te24 (kk:=.i64) (i:=0) rfl els83 hcBt
    refine FL.v (E.slice te24 rfl (congrArg some rfl) rfl rfl (runBv _)) ?_
    obtain ⟨wBx,csBy,runBz,SBA,elsBB⟩:=SBm.clearTail (P:=Tryz.prog) te24 (i:=0) rfl els83 hBw ⟨_,rfl,RSl.nil _ _ _⟩ (zac rfl zad)
    have SBA:St H0 w0 HBl wBx (.row 34 1 v0 n0 csBy::L):=SBA
    refine FL.val0 rfl rfl (E.clear rfl runBz) ?_
    refine FL.nil (FW.seq (FW.region ?_))
    refine FL.v (E.move kBq) ?_
    refine FL.v (E.move kBr) ?_
    obtain ⟨xsBC,hcBD,hp⟩:=bnd hp
    obtain ⟨vBE,nBF,csBG,runBH,SBI,elsBJ,ndBK⟩:=SBA.cutRow te24 (kk:=.i64) (i:=0) rfl elsBB hcBD
    have SBI:St H0 w0 HBl wBx (.row 34 1 vBE nBF csBG::L):=SBI
    refine FL.v (E.slice te24 rfl rfl (congrArg some rfl) rfl (runBH _)) ?_
    refine FL.v (E.assign (v:=vBE) rfl) ?_
    refine FL.nil ?_
    refine FW.ret ?_
    obtain rfl:=Option.some.inj hp
    exact ⟨.inr rfl,res1 rfl rfl ⟨_,_,_,_,rfl,⟨SBI,iBn⟩,elsBJ⟩⟩
   ·
    exact x32.elim

theorem zfC {Ha:GH} {wa:World} (hs:Sl Ha wa) (v0:Value) (a0:List Int) (p0:RSl Ha eI 1 v0 a0) (q0:Addr) (b0:zbd) (q0_0C:Addr) (v0_0C_1:Value) (v0_0C_3:Value) (v0_0C_4:Value) (v0_0C_5:Value) (p0_0C_1:RSl Ha (eL eI 1) 1 v0_0C_1 b0.f.clauses) (p0_0C_3:RSl Ha (eL eI 1) 1 v0_0C_3 b0.all) (p0_0C_4:RSl Ha eB 1 v0_0C_4 b0.is) (p0_0C_5:RSl Ha eI 1 v0_0C_5 b0.rounds) (c0_0C:CAt Ha q0_0C [Value.int .i64 b0.f.vars,v0_0C_1,Value.int .i64 b0.w,v0_0C_3,v0_0C_4,v0_0C_5]) (c0:CAt Ha q0 [Value.pointer (some q0_0C)]) {r:Bool} (hp:(PF.zdp a0 b0)=some r) :
  Calls Tryz.prog 48 #[v0,Value.pointer (some q0)] wa (Sc Ha wa (Value.bool r)):=by
 unfold PF.zdp at hp
 have S0:=St.init hs
 refine zae (N:=13) (args:=[v0,Value.pointer (some q0)]) Tryz.func48 rfl rfl rfl ?_
 refine FW.seq (FW.region ?_)
 refine FL.v (E.assign (v:=Value.bool false) rfl) ?_
 refine FL.nil (FW.seq ?_)
 refine FW.draw (fun w'=>Run wa.heap.size Ha wa Ha w') (by kernel_rfl) (by kernel_rfl) (zaG S0.sl) ?_
 refine FD.val rfl rfl rfl (fun w' hw'=>(E.load rfl (zaf Tryz.isAgg44 (c0.now (S0.call hw').sl) rfl))) ?_
 refine FD.val rfl rfl rfl (fun w' hw'=>(E.nilCheck rfl)) ?_
 refine FD.val rfl rfl rfl (fun w' hw'=>(E.fieldAddr tf54_3 rfl)) ?_
 refine FD.val rfl rfl rfl (fun w' hw'=>(E.load rfl (zah Tryz.isAgg52 (c0_0C.now (S0.call hw').sl) rfl))) ?_
 refine FD.val rfl rfl rfl (fun w' hw'=>(E.move (v:=v0) rfl)) ?_
 obtain ⟨r22,hr23,hp⟩:=bnd hp
 refine FD.call rfl rfl rfl (fun w' hw'=>(E.call Tryz.call45 (A1 rfl))) (fun w' hw'=>Calls.cls hw' (zcp (S0.call hw').sl v0 a0 p0 hr23)) ?_
 obtain ⟨x30,hx31,hp⟩:=bnd hp
 obtain ⟨p24,cs25,pt26,l27,at28,rel29⟩:=p0_0C_4.at hx31
 obtain rfl:=zbQ rel29
 refine FD.val rfl rfl rfl (fun w' hw'=>(E.indexAddr te52 rfl rfl pt26)) ?_
 refine FD.val rfl rfl rfl (fun w' hw'=>(E.load rfl (zaf Tryz.isAgg4 (at28.now (S0.call hw').sl) rfl))) ?_
 refine FD.val rfl rfl rfl (fun w' hw'=>(E.not rfl)) ?_
 refine FD.val rfl rfl rfl (fun w' hw'=>(E.assign (v:=Value.bool (!x30)) rfl)) ?_
 refine FD.nil ?_
 intro w32 r34
 have S33:=S0.call r34
 refine FW.ret ?_
 obtain rfl:=Option.some.inj hp
 exact ⟨.inr rfl,res1 rfl rfl ⟨rfl,S33.back⟩⟩

@[reducible] def zfD (Ha:GH) (wa:World) (r:(List (List Int))):Ending→World→Prop :=
 fun e w'=>∃ H':GH,∃ v0:Value,∃ n0:Nat,∃ c0:List Value,e=.returned (v0)∧St Ha wa H' w' [.row 34 1 v0 n0 c0]∧Els (up wa.heap.size H') (eL eI 1) 1 c0 r
theorem ze0 {Ha:GH} {wa:World} (hs:Sl Ha wa) (q0P:Addr) (a0:zbd) (v0P_1:Value) (v0P_3:Value) (v0P_4:Value) (v0P_5:Value) (p0P_1:RSl Ha (eL eI 1) 1 v0P_1 a0.f.clauses) (p0P_3:RSl Ha (eL eI 1) 1 v0P_3 a0.all) (p0P_4:RSl Ha eB 1 v0P_4 a0.is) (p0P_5:RSl Ha eI 1 v0P_5 a0.rounds) (c0P:CAt Ha q0P [Value.int .i64 a0.f.vars,v0P_1,Value.int .i64 a0.w,v0P_3,v0P_4,v0P_5]) {r:(List (List Int))} (hp:(PF.zcK a0)=some r) :
  Calls Tryz.prog 25 #[Value.pointer (some q0P)] wa (zfD Ha wa r):=by
 unfold PF.zcK at hp
 have S0:=St.init hs
 refine zae (N:=10) (args:=[Value.pointer (some q0P)]) Tryz.func25 rfl rfl rfl ?_
 refine FW.seq (FW.region ?_)
 obtain ⟨b21,w22,run23,S24⟩:=S0.box (P:=Tryz.prog) 44 [Value.pointer (some q0P)] (v:=Value.pointer (some q0P)) rfl (zac rfl zad)
 refine FL.v (E.box rfl run23) ?_
 obtain ⟨H25,S26,i27,at28⟩:=S24.sealBox (i:=0) (l':=[]) rfl rfl
 refine FL.v (E.assign (v:=Value.slice none 0 0) rfl) ?_
 refine FL.nil (FW.seq (FW.region ?_))
 refine FL.v (E.load rfl (zaf Tryz.isAgg44 (at28.now S26.sl) rfl)) ?_
 refine FL.v (E.nilCheck rfl) ?_
 refine FL.v (E.fieldAddr tf54_2 rfl) ?_
 refine FL.v (E.load rfl (zah Tryz.isAgg24 ((c0P.mono i27).now S26.sl) rfl)) ?_
 obtain ⟨r29,hr30,hp⟩:=bnd hp
 refine FL.call rfl rfl rfl (E.call Tryz.call30 (A1 rfl)) (zeZ S26.sl v0P_3 a0.all (p0P_3.mono i27) hr30) ?_
 rintro e w32 ⟨H31,v35,n36,cs37,rfl,r34,els38,nd39⟩
 refine ⟨_,rfl,?_⟩
 have nv40:New H25 cs37:=New.of_up S26.sl els38.dom
 have els38:=els38.mono (up_le S26.size)
 have S33:=S26.join (l':=[.row 34 1 v35 n36 cs37]) r34 rfl
 refine FL.v (E.makeFunc A0 (A1 rfl)) ?_
 obtain ⟨r41,hr42,hp⟩:=bnd hp
 refine FL.call rfl rfl rfl (E.call Tryz.call47 (A2 rfl rfl)) (zfB (L:=[]) S33 r29 els38 (Value.func (.func 48) #[] #[Value.pointer (some ⟨b21,0,none⟩)]) (fun x0=>PF.zdp x0 a0) (fun H2 w2 hi2 hs2 x0 y0 z0 r hr=>⟨48,#[Value.pointer (some ⟨b21,0,none⟩)],rfl,Tryz.call48,zfC hs2 y0 x0 z0 ⟨b21,0,none⟩ a0 q0P v0P_1 v0P_3 v0P_4 v0P_5 ((p0P_1.mono (i27.tr r34.run.inc)).mono hi2) ((p0P_3.mono (i27.tr r34.run.inc)).mono hi2) ((p0P_4.mono (i27.tr r34.run.inc)).mono hi2) ((p0P_5.mono (i27.tr r34.run.inc)).mono hi2) ((c0P.mono (i27.tr r34.run.inc)).mono hi2) ((at28.mono r34.run.inc).mono hi2) hr⟩) hr42) ?_
 rintro e w44 ⟨H43,v47,n48,cs49,rfl,⟨S45,i46⟩,els50⟩
 refine ⟨_,rfl,?_⟩
 have S45:St Ha wa H43 w44 [.row 34 1 v47 n48 cs49]:=S45
 refine FL.v (E.assign (v:=v47) rfl) ?_
 refine FL.nil ?_
 refine FW.ret ?_
 obtain rfl:=Option.some.inj hp
 exact ⟨.inr rfl,res1 rfl rfl ⟨_,_,_,_,rfl,S45,els50⟩⟩

@[reducible] def zfE (Ha:GH) (wa:World) (r:((List (List Int))×Bool)):Ending→World→Prop :=
 fun e w'=>∃ H':GH,∃ v0:Value,∃ n0:Nat,∃ c0:List Value,e=.returned (Value.tuple #[v0,Value.bool r.2])∧St Ha wa H' w' [.row 34 1 v0 n0 c0]∧Els (up wa.heap.size H') (eL eI 1) 1 c0 r.1
theorem zfF {Ha:GH} {wa:World} (hs:Sl Ha wa) (a0:Cnf) (v0_1:Value) (p0_1:RSl Ha (eL eI 1) 1 v0_1 a0.clauses) (a1:Int) {r:((List (List Int))×Bool)} (hp:(PF.zb1 a0 a1)=some r) :
  Calls Tryz.prog 6 #[Value.agg #[Value.int .i64 a0.vars,v0_1],Value.int .i64 a1] wa (zfE Ha wa r):=by
 unfold PF.zb1 at hp
 have S0:=St.init hs
 refine zae (N:=14) (args:=[Value.agg #[Value.int .i64 a0.vars,v0_1],Value.int .i64 a1]) Tryz.func6 rfl rfl rfl ?_
 refine FW.seq (FW.region ?_)
 obtain ⟨b21,w22,run23,S24⟩:=S0.box (P:=Tryz.prog) 26 [Value.int .i64 a0.vars,v0_1] (v:=Value.agg #[Value.int .i64 a0.vars,v0_1]) rfl (zac rfl (zac p0_1.one zad))
 refine FL.v (E.box rfl run23) ?_
 obtain ⟨H25,S26,i27,at28⟩:=S24.sealBox (i:=0) (l':=[]) rfl rfl
 refine FL.v (E.assign (v:=Value.slice none 0 0) rfl) ?_
 refine FL.v (E.assign (v:=Value.bool false) rfl) ?_
 refine FL.nil (FW.seq (FW.seq (FW.region ?_)))
 refine FL.v (E.load rfl (zai Tryz.isAgg26 Tryz.sizeOf26 (at28.now S26.sl) rfl)) ?_
 refine FL.v (E.move (v:=Value.int .i64 a1) rfl) ?_
 obtain ⟨r29,hr30,hp⟩:=bnd hp
 refine FL.call rfl rfl rfl (E.call Tryz.call23 (A2 rfl rfl)) (zco S26.sl a0 v0_1 (p0_1.mono i27) a1 hr30) ?_
 rintro e w31 ⟨rfl,r32⟩
 refine ⟨_,rfl,?_⟩
 have S33:=S26.call r32
 refine FL.v (E.not rfl) ?_
 refine FL.nil ?_
 rcases ifB hp with ⟨c34,hp⟩|⟨c34,hp⟩
 ·
  refine FW.condT rfl c34 ?_
  refine FW.seq (FW.region ?_)
  refine FL.v (E.assign (v:=Value.slice none 0 0) rfl) ?_
  refine FL.v (E.assign (v:=Value.bool false) rfl) ?_
  refine FL.nil ?_
  refine FW.ret ?_
  obtain rfl:=Option.some.inj hp
  exact ⟨.inr rfl,res2 rfl rfl rfl ⟨_,_,_,_,rfl,(S33.nil 34 1),Els.nil⟩⟩
 ·
  refine FW.condF rfl c34 ?_
  refine FW.skip (FW.seq (FW.region ?_))
  refine FL.v (E.load rfl (zai Tryz.isAgg26 Tryz.sizeOf26 (at28.now S33.sl) rfl)) ?_
  refine FL.v (E.move (v:=Value.int .i64 a1) rfl) ?_
  obtain ⟨r35,hr36,hp⟩:=bnd hp
  refine FL.call rfl rfl rfl (E.call Tryz.call24 (A2 rfl rfl)) (zer S33.sl a0 v0_1 (p0_1.mono i27) a1 hr36) ?_
  rintro e w38 ⟨H37,v41,rfl,r40,h42⟩
  refine ⟨_,rfl,?_⟩
  have S39:=S33.call r40
  obtain ⟨y43,hy44,hp⟩:=bnd hp
  rw [hy44] at h42
  obtain ⟨q45,rfl,v46,v48,v50,v53,h47,h49,h51,h54,at56⟩:=h42
  have nv52:New H25 [v50]:=New.of_up S33.sl h51.dom
  have h51:=h51.mono (up_le S33.size)
  have nv55:New H25 [v53]:=New.of_up S33.sl h54.dom
  have h54:=h54.mono (up_le S33.size)
  obtain ⟨r57,hr58,hp⟩:=bnd hp
  refine FL.call rfl rfl rfl (E.call Tryz.call25 (A1 rfl)) (ze0 S39.sl q45 y43 v46 v48 v50 v53 h47 h49 (h51.mono upI) (h54.mono upI) at56 hr58) ?_
  rintro e w60 ⟨H59,v63,n64,cs65,rfl,r62,els66⟩
  refine ⟨_,rfl,?_⟩
  have nv67:New H37 cs65:=New.of_up S39.sl els66.dom
  have els66:=els66.mono (up_le S39.size)
  have S61:=S39.join (l':=[.row 34 1 v63 n64 cs65]) r62 rfl
  refine FL.v (E.assign (v:=v63) rfl) ?_
  refine FL.v (E.assign (v:=Value.bool true) rfl) ?_
  refine FL.nil ?_
  refine FW.ret ?_
  obtain rfl:=Option.some.inj hp
  exact ⟨.inr rfl,res2 rfl rfl rfl ⟨_,_,_,_,rfl,S61,els66⟩⟩

theorem w_spec_l10Good {Ha:GH} {wa:World} (hs:Sl Ha wa) (a0:Cnf) (v0_1:Value) (p0_1:RSl Ha (eL eI 1) 1 v0_1 a0.clauses) {r:Bool} (hp:(PF.zdR a0)=some r) :
  Calls Tryz.prog 49 #[Value.agg #[Value.int .i64 a0.vars,v0_1]] wa (Sc Ha wa (Value.bool r)):=by
 unfold PF.zdR at hp
 have S0:=St.init hs
 refine zae (N:=10) (args:=[Value.agg #[Value.int .i64 a0.vars,v0_1]]) Tryz.func49 rfl rfl rfl ?_
 refine FW.seq (FW.region ?_)
 obtain ⟨b21,w22,run23,S24⟩:=S0.box (P:=Tryz.prog) 26 [Value.int .i64 a0.vars,v0_1] (v:=Value.agg #[Value.int .i64 a0.vars,v0_1]) rfl (zac rfl (zac p0_1.one zad))
 refine FL.v (E.box rfl run23) ?_
 obtain ⟨H25,S26,i27,at28⟩:=S24.sealBox (i:=0) (l':=[]) rfl rfl
 refine FL.v (E.assign (v:=Value.bool false) rfl) ?_
 refine FL.nil (FW.seq (FW.region ?_))
 refine FL.v (E.fieldAddr zaC rfl) ?_
 refine FL.v (E.load rfl (zah Tryz.isAgg3 (at28.now S26.sl) rfl)) ?_
 refine FL.v (E.leq rfl rfl) ?_
 refine FL.v (E.move (v:=Value.bool (decide (a0.vars≤6))) rfl) ?_
 obtain ⟨t34,hqt34,hp⟩:=bnd hp
 refine FL.cut 3 (fun f w=>∃ H:GH,St Ha wa H w []∧Inc H25 H∧f 9=Value.bool t34) ?_ ?_
 ·
  clear hp;have hp:=hqt34;clear hqt34
  rcases ifB hp with ⟨c40,hp⟩|⟨c40,hp⟩
  ·
   refine FL.val (zab rfl rfl rfl c40) rfl rfl (E.load rfl (zai Tryz.isAgg26 Tryz.sizeOf26 (at28.now S26.sl) rfl)) ?_
   obtain ⟨r41,hr42,hp⟩:=bnd hp
   refine FL.call (zab rfl rfl rfl c40) rfl rfl (E.call Tryz.call87 (A1 rfl)) (w_spec_l2Good S26.sl a0 v0_1 (p0_1.mono i27) hr42) ?_
   rintro e w43 ⟨rfl,r44⟩
   refine ⟨_,rfl,?_⟩
   have S45:=S26.call r44
   obtain rfl:=Option.some.inj hp
   refine FL.v (E.pickT rfl c40 rfl) ?_
   exact FL.nil ⟨rfl,_,S45,(Inc.rfl _),rfl⟩
  ·
   refine FL.skip (wF_no rfl rfl rfl c40) rfl ?_
   refine FL.skip (wF_no rfl rfl rfl c40) rfl ?_
   obtain rfl:=Option.some.inj hp
   refine FL.v (E.pickF rfl c40 rfl) ?_
   exact FL.nil ⟨rfl,_,S26,(Inc.rfl _),rfl⟩
 rintro f39 w38 ⟨H35,S36,i37,k46⟩
 refine FL.v (E.assign k46) ?_
 refine FL.nil ?_
 refine FW.ret ?_
 obtain rfl:=Option.some.inj hp
 exact ⟨.inr rfl,res1 rfl rfl ⟨rfl,S36.back⟩⟩

theorem w_spec_l10Width {Ha:GH} {wa:World} (hs:Sl Ha wa) (a0:Int) :
  Calls Tryz.prog 50 #[Value.int .i64 a0] wa (Sc Ha wa (Value.bool (PF.zcL a0))):=by
 obtain ⟨r,hp⟩:∃ r,(PF.zcL a0)=r:=⟨_,rfl⟩
 rw [hp]
 unfold PF.zcL at hp
 have S0:=St.init hs
 refine zae (N:=5) (args:=[Value.int .i64 a0]) Tryz.func50 rfl rfl rfl ?_
 refine FW.seq (FW.region ?_)
 refine FL.v (E.assign (v:=Value.bool false) rfl) ?_
 refine FL.nil (FW.seq (FW.region ?_))
 refine FL.v (E.move (v:=Value.int .i64 a0) rfl) ?_
 refine FL.call rfl rfl rfl (E.call Tryz.call88 (A3 rfl rfl rfl)) (zdX S0.sl a0 0 6) ?_
 rintro e w21 ⟨rfl,r22⟩
 refine ⟨_,rfl,?_⟩
 have S23:=S0.call r22
 refine FL.v (E.assign (v:=Value.bool (PF.zaX a0 0 6)) rfl) ?_
 refine FL.nil ?_
 refine FW.ret ?_
 obtain rfl:=hp
 exact ⟨.inr rfl,res1 rfl rfl ⟨rfl,S23.back⟩⟩

theorem zc0 {Ha:GH} {wa:World} (hs:Sl Ha wa) (a0:Cnf) (v0_1:Value) (p0_1:RSl Ha (eL eI 1) 1 v0_1 a0.clauses) (a1:Int) {r:Bool} (hp:(PF.zbr a0 a1)=some r) :
  Calls Tryz.prog 26 #[Value.agg #[Value.int .i64 a0.vars,v0_1],Value.int .i64 a1] wa (Sc Ha wa (Value.bool r)):=by
 unfold PF.zbr at hp
 have S0:=St.init hs
 refine zae (N:=11) (args:=[Value.agg #[Value.int .i64 a0.vars,v0_1],Value.int .i64 a1]) Tryz.func26 rfl rfl rfl ?_
 refine FW.seq (FW.region ?_)
 obtain ⟨b21,w22,run23,S24⟩:=S0.box (P:=Tryz.prog) 26 [Value.int .i64 a0.vars,v0_1] (v:=Value.agg #[Value.int .i64 a0.vars,v0_1]) rfl (zac rfl (zac p0_1.one zad))
 refine FL.v (E.box rfl run23) ?_
 obtain ⟨H25,S26,i27,at28⟩:=S24.sealBox (i:=0) (l':=[]) rfl rfl
 refine FL.v (E.assign (v:=Value.bool false) rfl) ?_
 refine FL.nil (FW.seq (FW.region ?_))
 refine FL.v (E.load rfl (zai Tryz.isAgg26 Tryz.sizeOf26 (at28.now S26.sl) rfl)) ?_
 obtain ⟨r29,hr30,hp⟩:=bnd hp
 refine FL.call rfl rfl rfl (E.call Tryz.call49 (A1 rfl)) (w_spec_l10Good S26.sl a0 v0_1 (p0_1.mono i27) hr30) ?_
 rintro e w31 ⟨rfl,r32⟩
 refine ⟨_,rfl,?_⟩
 have S33:=S26.call r32
 refine FL.v (E.move (v:=Value.bool r29) rfl) ?_
 refine FL.cut 3 (fun f w=>∃ H:GH,St Ha wa H w []∧Inc H25 H∧f 10=Value.bool (bif r29 then (PF.zcL a1) else false)) ?_ ?_
 ·
  rcases bcase r29 with c43|c43
  ·
   refine FL.val (zab rfl rfl rfl c43) rfl rfl (E.move (v:=Value.int .i64 a1) rfl) ?_
   refine FL.call (zab rfl rfl rfl c43) rfl rfl (E.call Tryz.call50 (A1 rfl)) (w_spec_l10Width S33.sl a1) ?_
   rintro e w44 ⟨rfl,r45⟩
   refine ⟨_,rfl,?_⟩
   have S46:=S33.call r45
   refine FL.v (E.pickT rfl c43 rfl) ?_
   exact FL.nil ⟨rfl,_,S46,(Inc.rfl _),(congrArg Value.bool (bifT c43).symm)⟩
  ·
   refine FL.skip (wF_no rfl rfl rfl c43) rfl ?_
   refine FL.skip (wF_no rfl rfl rfl c43) rfl ?_
   refine FL.v (E.pickF rfl c43 rfl) ?_
   exact FL.nil ⟨rfl,_,S33,(Inc.rfl _),(congrArg Value.bool (bifF c43).symm)⟩
 rintro f42 w41 ⟨H38,S39,i40,k47⟩
 refine FL.v (E.assign k47) ?_
 refine FL.nil ?_
 refine FW.ret ?_
 obtain rfl:=Option.some.inj hp
 exact ⟨.inr rfl,res1 rfl rfl ⟨rfl,S39.back⟩⟩

set_option maxHeartbeats 4000000 in
theorem w_spec_l3Value {Ha:GH} {wa:World} (hs:Sl Ha wa) (v0:Value) (a0:List Int) (p0:RSl Ha eI 1 v0 a0) (v1:Value) (a1:List Int) (p1:RSl Ha eI 1 v1 a1) {r:Int} (hp:(PF.zdq a0 a1)=some r) :
  Calls Tryz.prog 109 #[v0,v1] wa (Sc Ha wa (Value.int .i64 r)):=by
 unfold PF.zdq at hp
 have S0:=St.init hs
 refine zae (N:=28) (args:=[v0,v1]) Tryz.func109 rfl rfl rfl ?_
 refine FW.seq (FW.region ?_)
 refine FL.v (E.assign (v:=Value.int .i64 0) rfl) ?_
 refine FL.nil (FW.seq (FW.region ?_))
 refine FL.v (E.assign (v:=Value.int .i64 (-1)) rfl) ?_
 refine FL.nil (FW.seq (FW.seq (FW.region ?_)))
 refine FL.v (E.assign (v:=Value.int .i64 0) rfl) ?_
 refine FL.nil ?_
 obtain ⟨q22,hq,hp⟩:=bndR hp
 refine FW.block ?_
 refine FW.mono (FW.forL (S:=Int) (X:=Int) (fun (i22:Nat) (s22:Int) f w=>∃ H:GH,St Ha wa H w []∧Inc Ha H∧f 6=Value.int .i64 ((i22:Nat):Int)∧f 0=v0∧f 1=v1∧f 5=Value.int .i64 s22) (fun q e f w=>match q with|.go s22=>e=Exit.exit 0∧(∃ H:GH,St Ha wa H w []∧Inc Ha H∧f 5=Value.int .i64 s22)|.rt x=>((e=Exit.ret)∧(fun e f w=>(e=Exit.normal∨e=Exit.ret)∧∀ a,Fr (δ:=[]) 28 a f→∃ v,(results Tryz.f109 a.tmps).run Tryz.prog w=.ok v w∧(Sc Ha wa (Value.int .i64 x)) (.returned v) w) e f w)) hq ⟨_,S0,(Inc.rfl _),rfl,rfl,rfl,rfl⟩ ?_ ?_) ?_
 ·
  clear hp hq
  rintro i22 y21 s22 f60 w59 ⟨H56,S57,i58,k61,k62,k63,k64⟩ hx22 o89 hp
  refine FW.seq (FW.seq (FW.region ?_))
  refine FL.v (E.move k61) ?_
  refine FL.v (E.move k62) ?_
  refine FL.v (E.lenP te34 rfl p0) ?_
  refine FL.v (E.lssT rfl rfl (zaw hx22)) ?_
  refine FL.nil ?_
  refine FW.condT rfl rfl ?_
  refine FW.skip (FW.seq (FW.block (FW.seq (FW.seq (FW.region ?_)))))
  refine FL.v (E.move k63) ?_
  refine FL.v (E.move k62) ?_
  refine FL.v (E.move k61) ?_
  obtain ⟨p65,cs66,pt67,l68,at69,rel70⟩:=p0.at (zal hx22)
  obtain rfl:=zam rel70
  refine FL.v (E.indexAddr te34 rfl rfl pt67) ?_
  refine FL.v (E.load rfl (zaf Tryz.isAgg3 ((at69.mono i58).now S57.sl) rfl)) ?_
  obtain ⟨r71,hr72,hp⟩:=bnd hp
  refine FL.call rfl rfl rfl (E.call Tryz.call92 (A2 rfl rfl)) (zcY S57.sl v1 a1 (p1.mono i58) y21 hr72) ?_
  rintro e w73 ⟨rfl,r74⟩
  refine ⟨_,rfl,?_⟩
  have S75:=S57.call r74
  refine FL.nil ?_
  rcases ifB hp with ⟨c76,hp⟩|⟨c76,hp⟩
  ·
   refine FW.condT rfl c76 ?_
   refine FW.seq (FW.region ?_)
   refine FL.v (E.assign (v:=Value.int .i64 1) rfl) ?_
   refine FL.nil ?_
   refine FW.ret ?_
   obtain rfl:=Option.some.inj hp
   exact ⟨nofun,rfl,⟨.inr rfl,res1 rfl rfl ⟨rfl,S75.back⟩⟩⟩
  ·
   refine FW.condF rfl c76 ?_
   refine FW.skip (FW.seq (FW.region ?_))
   refine FL.v (E.move k63) ?_
   refine FL.v (E.move k62) ?_
   refine FL.v (E.move k61) ?_
   obtain ⟨p77,cs78,pt79,l80,at81,rel82⟩:=p0.at (zal hx22)
   obtain rfl:=zam rel82
   refine FL.v (E.indexAddr te34 rfl rfl pt79) ?_
   refine FL.v (E.load rfl (zaf Tryz.isAgg3 ((at81.mono i58).now S75.sl) rfl)) ?_
   refine FL.v (E.neg rfl) ?_
   obtain ⟨r83,hr84,hp⟩:=bnd hp
   refine FL.call rfl rfl rfl (E.call Tryz.call92 (A2 rfl rfl)) (zcY S75.sl v1 a1 (p1.mono i58) (wr (-y21)) hr84) ?_
   rintro e w85 ⟨rfl,r86⟩
   refine ⟨_,rfl,?_⟩
   have S87:=S75.call r86
   refine FL.v (E.not rfl) ?_
   refine FL.nil ?_
   rcases ifB hp with ⟨c88,hp⟩|⟨c88,hp⟩
   ·
    refine FW.condT rfl c88 ?_
    refine FW.region ?_
    refine FL.v (E.assign (v:=Value.int .i64 0) rfl) ?_
    refine FL.nil (FW.region ?_)
    refine FL.v (E.move k61) ?_
    refine FL.v (E.add rfl rfl) ?_
    refine FL.v (E.assign (v:=Value.int .i64 (wr (((i22:Nat):Int) + 1))) rfl) ?_
    refine FL.nil ?_
    obtain rfl:=Option.some.inj hp
    exact ⟨rfl,⟨_,S87,i58,(zap rfl (zaq hx22) (p0.mono i58).le),k62,k63,rfl⟩⟩
   ·
    refine FW.condF rfl c88 ?_
    refine FW.skip (FW.region ?_)
    refine FL.v (E.move k61) ?_
    refine FL.v (E.add rfl rfl) ?_
    refine FL.v (E.assign (v:=Value.int .i64 (wr (((i22:Nat):Int) + 1))) rfl) ?_
    refine FL.nil ?_
    obtain rfl:=Option.some.inj hp
    exact ⟨rfl,⟨_,S87,i58,(zap rfl (zaq hx22) (p0.mono i58).le),k62,k63,k64⟩⟩
 ·
  clear hp hq
  rintro s22 fA0 w99 ⟨H96,S97,i98,kA1,kA2,kA3,kA4⟩
  refine FW.seq (FW.seq (FW.region ?_))
  refine FL.v (E.move kA1) ?_
  refine FL.v (E.move kA2) ?_
  refine FL.v (E.lenP te34 rfl p0) ?_
  refine FL.v (E.lss rfl rfl) ?_
  refine FL.nil ?_
  refine FW.condF rfl zax ?_
  refine FW.exit ?_
  exact ⟨nofun,rfl,⟨_,S97,i98,kA4⟩⟩
 ·
  clear hq
  intro e f94 w93 hD
  rcases q22 with s22|x22
  ·
   obtain ⟨rfl,hD⟩:=hD
   obtain ⟨H90,S91,i92,k95⟩:=hD
   replace hp:=el_go hp
   refine FW.seq (FW.region ?_)
   refine FL.v (E.move k95) ?_
   refine FL.v (E.assign (v:=Value.int .i64 s22) rfl) ?_
   refine FL.nil ?_
   refine FW.ret ?_
   obtain rfl:=Option.some.inj hp
   exact ⟨.inr rfl,res1 rfl rfl ⟨rfl,S91.back⟩⟩
  ·
   obtain ⟨he,hL⟩:=hD
   replace hp:=el_rt hp
   obtain rfl:=Option.some.inj hp
   subst he
   exact hL

set_option maxHeartbeats 4000000 in
theorem ze1 {Ha:GH} {wa:World} (hs:Sl Ha wa) (a0:Cnf) (v0_1:Value) (p0_1:RSl Ha (eL eI 1) 1 v0_1 a0.clauses) (a1:Int) (v2:Value) (a2:List Int) (p2:RSl Ha eI 1 v2 a2) {r:Bool} (hp:(PF.zb2 a0 a1 a2)=some r) :
  Calls Tryz.prog 77 #[Value.agg #[Value.int .i64 a0.vars,v0_1],Value.int .i64 a1,v2] wa (Sc Ha wa (Value.bool r)):=by
 unfold PF.zb2 at hp
 have S0:=St.init hs
 refine zae (N:=38) (args:=[Value.agg #[Value.int .i64 a0.vars,v0_1],Value.int .i64 a1,v2]) Tryz.func77 rfl rfl rfl ?_
 refine FW.seq (FW.region ?_)
 obtain ⟨b21,w22,run23,S24⟩:=S0.box (P:=Tryz.prog) 26 [Value.int .i64 a0.vars,v0_1] (v:=Value.agg #[Value.int .i64 a0.vars,v0_1]) rfl (zac rfl (zac p0_1.one zad))
 refine FL.v (E.box rfl run23) ?_
 obtain ⟨H25,S26,i27,at28⟩:=S24.sealBox (i:=0) (l':=[]) rfl rfl
 refine FL.v (E.assign (v:=Value.bool false) rfl) ?_
 refine FL.nil (FW.seq (FW.seq (FW.region ?_)))
 refine FL.v (E.move (v:=v2) rfl) ?_
 refine FL.v (E.lenP te34 rfl p2) ?_
 refine FL.v (E.move (v:=Value.int .i64 a1) rfl) ?_
 refine FL.v (E.add rfl rfl) ?_
 refine FL.v (E.gtr rfl rfl) ?_
 refine FL.nil ?_
 rcases ifB hp with ⟨c29,hp⟩|⟨c29,hp⟩
 ·
  refine FW.condT rfl c29 ?_
  refine FW.seq (FW.region ?_)
  refine FL.v (E.assign (v:=Value.bool false) rfl) ?_
  refine FL.nil ?_
  refine FW.ret ?_
  obtain rfl:=Option.some.inj hp
  exact ⟨.inr rfl,res1 rfl rfl ⟨rfl,S26.back⟩⟩
 ·
  refine FW.condF rfl c29 ?_
  refine FW.skip (FW.seq (FW.seq (FW.region ?_)))
  refine FL.v (E.assign (v:=Value.int .i64 0) rfl) ?_
  refine FL.nil ?_
  obtain ⟨q30,hq,hp⟩:=bndR hp
  refine FW.block ?_
  refine FW.mono (FW.iter (S:=Int) (X:=Bool) (fun (s30:Int) f w=>∃ H:GH,St Ha wa H w []∧Inc H25 H∧f 1=Value.int .i64 a1∧f 2=v2∧f 3=Value.pointer (some ⟨b21,0,none⟩)∧f 7=Value.int .i64 s30) (fun q e f w=>match q with|.go s30=>e=Exit.exit 0∧(∃ H:GH,St Ha wa H w []∧Inc H25 H)|.rt x=>((e=Exit.ret)∧(fun e f w=>(e=Exit.normal∨e=Exit.ret)∧∀ a,Fr (δ:=[]) 38 a f→∃ v,(results Tryz.f77 a.tmps).run Tryz.prog w=.ok v w∧(Sc Ha wa (Value.bool x)) (.returned v) w) e f w)) hq ⟨_,S26,(Inc.rfl _),rfl,rfl,rfl,rfl⟩ ?_) ?_
  ·
   clear hp hq
   rintro s30 f98 w97 ⟨H94,S95,i96,k99,kA0,kA1,kA2⟩ oAV hp
   refine FW.seq (FW.seq (FW.region ?_))
   refine FL.v (E.move kA2) ?_
   refine FL.v (E.fieldAddr zay kA1) ?_
   refine FL.v (E.load rfl (zah Tryz.isAgg24 ((at28.mono i96).now S95.sl) rfl)) ?_
   refine FL.v (E.lenP te24 rfl p0_1) ?_
   refine FL.v (E.lss rfl rfl) ?_
   refine FL.nil ?_
   rcases ifB hp with ⟨cA3,hp⟩|⟨cA3,hp⟩
   ·
    refine FW.condT rfl cA3 ?_
    refine FW.skip (FW.seq (FW.block (FW.seq (FW.region ?_))))
    refine FL.v (E.fieldAddr zay kA1) ?_
    refine FL.v (E.load rfl (zah Tryz.isAgg24 ((at28.mono i96).now S95.sl) rfl)) ?_
    refine FL.v (E.move kA2) ?_
    obtain ⟨xAa,hxAb,hp⟩:=bnd hp
    obtain ⟨pA4,csA5,ptA6,lA7,atA8,relA9⟩:=p0_1.at hxAb
    obtain ⟨vAc,rfl,hAd⟩:=zav relA9
    refine FL.v (E.indexAddr te24 rfl rfl ptA6) ?_
    refine FL.v (E.load rfl (zaf Tryz.isAgg34 ((atA8.mono (i27.tr i96)).now S95.sl) rfl)) ?_
    refine FL.v (E.lenP te34 rfl hAd) ?_
    refine FL.v (E.move k99) ?_
    refine FL.v (E.leq rfl rfl) ?_
    refine FL.v (E.move (v:=Value.bool (decide ((len xAa)≤a1))) rfl) ?_
    obtain ⟨t129,hqtAt,hp⟩:=bnd hp
    refine FL.cut 9 (fun f w=>∃ H:GH,St Ha wa H w []∧Inc H94 H∧f 1=Value.int .i64 a1∧f 2=v2∧f 3=Value.pointer (some ⟨b21,0,none⟩)∧f 7=Value.int .i64 s30∧f 37=Value.bool t129) ?_ ?_
    ·
     clear hp;have hp:=hqtAt;clear hqtAt
     rcases ifB hp with ⟨cAz,hp⟩|⟨cAz,hp⟩
     ·
      refine FL.val (zab rfl rfl rfl cAz) rfl rfl (E.fieldAddr zay kA1) ?_
      refine FL.val (zab rfl rfl rfl cAz) rfl rfl (E.load rfl (zah Tryz.isAgg24 ((at28.mono i96).now S95.sl) rfl)) ?_
      refine FL.val (zab rfl rfl rfl cAz) rfl rfl (E.move kA2) ?_
      obtain ⟨xAG,hxAH,hp⟩:=bnd hp
      obtain ⟨pAA,csAB,ptAC,lAD,atAE,relAF⟩:=p0_1.at hxAH
      obtain ⟨vAI,rfl,hAJ⟩:=zav relAF
      refine FL.val (zab rfl rfl rfl cAz) rfl rfl (E.indexAddr te24 rfl rfl ptAC) ?_
      refine FL.val (zab rfl rfl rfl cAz) rfl rfl (E.load rfl (zaf Tryz.isAgg34 ((atAE.mono (i27.tr i96)).now S95.sl) rfl)) ?_
      refine FL.val (zab rfl rfl rfl cAz) rfl rfl (E.move kA0) ?_
      obtain ⟨rAK,hrAL,hp⟩:=bnd hp
      refine FL.call (zab rfl rfl rfl cAz) rfl rfl (E.call Tryz.call109 (A2 rfl rfl)) (w_spec_l3Value S95.sl vAI xAG (hAJ.mono (i27.tr i96)) v2 a2 (p2.mono (i27.tr i96)) hrAL) ?_
      rintro e wAM ⟨rfl,rAN⟩
      refine ⟨_,rfl,?_⟩
      have SAO:=S95.call rAN
      refine FL.val (zab rfl rfl rfl cAz) rfl rfl (E.lss rfl rfl) ?_
      obtain rfl:=Option.some.inj hp
      refine FL.v (E.pickT rfl cAz rfl) ?_
      exact FL.nil ⟨rfl,_,SAO,(Inc.rfl _),k99,kA0,kA1,kA2,rfl⟩
     ·
      refine FL.skip (wF_no rfl rfl rfl cAz) rfl ?_
      refine FL.skip (wF_no rfl rfl rfl cAz) rfl ?_
      refine FL.skip (wF_no rfl rfl rfl cAz) rfl ?_
      refine FL.skip (wF_no rfl rfl rfl cAz) rfl ?_
      refine FL.skip (wF_no rfl rfl rfl cAz) rfl ?_
      refine FL.skip (wF_no rfl rfl rfl cAz) rfl ?_
      refine FL.skip (wF_no rfl rfl rfl cAz) rfl ?_
      refine FL.skip (wF_no rfl rfl rfl cAz) rfl ?_
      obtain rfl:=Option.some.inj hp
      refine FL.v (E.pickF rfl cAz rfl) ?_
      exact FL.nil ⟨rfl,_,S95,(Inc.rfl _),k99,kA0,kA1,kA2,rfl⟩
    rintro fAy wAx ⟨HAu,SAv,iAw,kAP,kAQ,kAR,kAS,kAT⟩
    refine FL.nil ?_
    rcases ifB hp with ⟨cAU,hp⟩|⟨cAU,hp⟩
    ·
     refine FW.condT kAT cAU ?_
     refine FW.seq (FW.region ?_)
     refine FL.v (E.assign (v:=Value.bool false) rfl) ?_
     refine FL.nil ?_
     refine FW.ret ?_
     obtain rfl:=Option.some.inj hp
     exact ⟨nofun,rfl,⟨.inr rfl,res1 rfl rfl ⟨rfl,SAv.back⟩⟩⟩
    ·
     refine FW.condF kAT cAU ?_
     refine FW.skip (FW.region ?_)
     refine FL.v (E.move kAS) ?_
     refine FL.v (E.add rfl rfl) ?_
     refine FL.v (E.assign (v:=Value.int .i64 (wr (s30 + 1))) rfl) ?_
     refine FL.nil ?_
     obtain rfl:=Option.some.inj hp
     exact ⟨rfl,⟨_,SAv,(i96.tr iAw),kAP,kAQ,kAR,rfl⟩⟩
   ·
    refine FW.condF rfl cA3 ?_
    refine FW.exit ?_
    obtain rfl:=Option.some.inj hp
    exact ⟨nofun,rfl,⟨_,S95,i96⟩⟩
  ·
   clear hq
   intro e fB0 wAZ hD
   rcases q30 with s30|x30
   ·
    obtain ⟨rfl,hD⟩:=hD
    obtain ⟨HAW,SAX,iAY⟩:=hD
    replace hp:=el_go hp
    refine FW.seq (FW.region ?_)
    refine FL.v (E.assign (v:=Value.bool true) rfl) ?_
    refine FL.nil ?_
    refine FW.ret ?_
    obtain rfl:=Option.some.inj hp
    exact ⟨.inr rfl,res1 rfl rfl ⟨rfl,SAX.back⟩⟩
   ·
    obtain ⟨he,hL⟩:=hD
    replace hp:=el_rt hp
    obtain rfl:=Option.some.inj hp
    subst he
    exact hL

@[reducible] def zd3 (Ha:GH) (wa:World) (r:(List (List Int))):Ending→World→Prop :=
 fun e w'=>∃ H':GH,∃ v0:Value,∃ n0:Nat,∃ c0:List Value,e=.returned (v0)∧St Ha wa H' w' [.row 34 1 v0 n0 c0]∧Els H' (eL eI 1) 1 c0 r
set_option maxHeartbeats 4000000 in
theorem w_spec_l13All_B {rec_spec_l13All:Cnf→Int→(List Int)→Int→Option (List (List Int))} (hrec_spec_l13All:∀ {Ha:GH} {wa:World} (hs:Sl Ha wa) (a0:Cnf) (v0_1:Value) (p0_1:RSl Ha (eL eI 1) 1 v0_1 a0.clauses) (a1:Int) (v2:Value) (a2:List Int) (p2:RSl Ha eI 1 v2 a2) (a3:Int) {r:(List (List Int))} (hp:rec_spec_l13All a0 a1 a2 a3=some r),Calls Tryz.prog 60 #[Value.agg #[Value.int .i64 a0.vars,v0_1],Value.int .i64 a1,v2,Value.int .i64 a3] wa (zd3 Ha wa r)) {Ha:GH} {wa:World} (hs:Sl Ha wa) (a0:Cnf) (v0_1:Value) (p0_1:RSl Ha (eL eI 1) 1 v0_1 a0.clauses) (a1:Int) (v2:Value) (a2:List Int) (p2:RSl Ha eI 1 v2 a2) (a3:Int) {r:(List (List Int))} (hp:PF.zdr rec_spec_l13All a0 a1 a2 a3=some r) :
  Calls Tryz.prog 60 #[Value.agg #[Value.int .i64 a0.vars,v0_1],Value.int .i64 a1,v2,Value.int .i64 a3] wa (zd3 Ha wa r):=by
 unfold PF.zdr at hp
 have S0:=St.init hs
 refine zae (N:=54) (args:=[Value.agg #[Value.int .i64 a0.vars,v0_1],Value.int .i64 a1,v2,Value.int .i64 a3]) Tryz.func60 rfl rfl rfl ?_
 refine FW.seq (FW.region ?_)
 obtain ⟨b21,w22,run23,S24⟩:=S0.box (P:=Tryz.prog) 26 [Value.int .i64 a0.vars,v0_1] (v:=Value.agg #[Value.int .i64 a0.vars,v0_1]) rfl (zac rfl (zac p0_1.one zad))
 refine FL.v (E.box rfl run23) ?_
 obtain ⟨H25,S26,i27,at28⟩:=S24.sealBox (i:=0) (l':=[]) rfl rfl
 refine FL.v (E.assign (v:=Value.slice none 0 0) rfl) ?_
 refine FL.nil (FW.seq (FW.region ?_))
 obtain ⟨v29,w30,run31,S32⟩:=S26.buildSlice (P:=Tryz.prog) te24 [] (parts:=#[]) (cells:=[]) rfl zao zan zad (Nat.le_of_ble_eq_true rfl)
 have els33:Els (up wa.heap.size H25) (eL eI 1) 1 [] []:=Els.nil
 refine FL.v (E.buildSlice (B0) run31) ?_
 refine FL.v (E.assign (v:=v29) rfl) ?_
 refine FL.nil (FW.seq (FW.seq (FW.region ?_)))
 refine FL.v (E.load rfl (zai Tryz.isAgg26 Tryz.sizeOf26 (at28.now S32.sl) rfl)) ?_
 refine FL.v (E.move (v:=Value.int .i64 a1) rfl) ?_
 refine FL.v (E.move (v:=v2) rfl) ?_
 obtain ⟨r34,hr35,hp⟩:=bnd hp
 refine FL.call rfl rfl rfl (E.call Tryz.call77 (A3 rfl rfl rfl)) (ze1 S32.sl a0 v0_1 (p0_1.mono i27) a1 v2 a2 (p2.mono i27) hr35) ?_
 rintro e w36 ⟨rfl,r37⟩
 refine ⟨_,rfl,?_⟩
 have S38:=S32.call r37
 refine FL.v (E.not rfl) ?_
 refine FL.nil ?_
 rcases ifB hp with ⟨c39,hp⟩|⟨c39,hp⟩
 ·
  refine FW.condT rfl c39 ?_
  refine FW.seq (FW.region ?_)
  refine FL.v (E.move (v:=v29) rfl) ?_
  refine FL.v (E.assign (v:=v29) rfl) ?_
  refine FL.nil ?_
  refine FW.ret ?_
  obtain rfl:=Option.some.inj hp
  exact ⟨.inr rfl,res1 rfl rfl ⟨_,_,_,_,rfl,S38,(els33.mono upI)⟩⟩
 ·
  refine FW.condF rfl c39 ?_
  refine FW.skip (FW.seq (FW.region ?_))
  refine FL.v (E.move (v:=v29) rfl) ?_
  refine FL.v (E.move (v:=v2) rfl) ?_
  obtain ⟨v40,w41,run42,S43⟩:=S38.buildSlice (P:=Tryz.prog) te24 [v2] (parts:=#[(0,v2)]) (cells:=[v2]) rfl (zat (zaH p2.cells) zao) (zas p2.cells zan) (zac p2.one zad) (Nat.le_of_ble_eq_true rfl)
  have els44:Els H25 (eL eI 1) 1 [v2] [a2]:=(Els.snoc (H:=H25) (E:=(eL eI 1)) (k:=1) (c:=[v2]) (x:=a2) Els.nil rfl ⟨_,rfl,(p2.mono i27)⟩)
  refine FL.v (E.buildSlice (B1 rfl) run42) ?_
  obtain ⟨xs45,hz46,hp⟩:=bnd hp
  obtain ⟨v47,w50,n48,cs49,run51,S52,els53,ce54⟩:=S43.appendO (P:=Tryz.prog) te24 (i:=1) (j:=0) rfl (els33.mono upI) rfl els44 hz46
  have S52:St Ha wa H25 w50 [.row 34 1 v40 1 [v2],.row 34 1 v47 n48 cs49]:=S52
  have S55:St Ha wa H25 w50 [.row 34 1 v47 n48 cs49]:=S52.drop 0
  refine FL.v (E.append rfl rfl run51) ?_
  refine FL.v (E.assign (v:=v47) rfl) ?_
  refine FL.nil (FW.seq (FW.seq (FW.region ?_)))
  refine FL.v (E.move (v:=Value.int .i64 a3) rfl) ?_
  refine FL.v (E.add rfl rfl) ?_
  refine FL.v (E.assign (v:=Value.int .i64 (wr (a3 + 1))) rfl) ?_
  refine FL.nil ?_
  obtain ⟨q56,hq,hp⟩:=bndR hp
  refine FW.block ?_
  refine FW.mono (FW.iter (S:=((List (List Int))×Int)) (X:=Empty) (fun (s56:((List (List Int))×Int)) f w=>∃ H:GH,∃ v57:Value,∃ n58:Nat,∃ cs59:List Value,St Ha wa H w [.row 34 1 v57 n58 cs59]∧Inc H25 H∧Els H (eL eI 1) 1 cs59 s56.1∧f 1=Value.int .i64 a1∧f 2=v2∧f 4=Value.pointer (some ⟨b21,0,none⟩)∧f 9=v57∧f 10=Value.int .i64 s56.2) (fun (q:Rs ((List (List Int))×Int) Empty) e f w=>match q with|.go s56=>e=Exit.exit 0∧(∃ H:GH,∃ v57:Value,∃ n58:Nat,∃ cs59:List Value,St Ha wa H w [.row 34 1 v57 n58 cs59]∧Inc H25 H∧Els H (eL eI 1) 1 cs59 s56.1∧f 9=v57)|.rt x=>x.elim) hq ⟨_,_,_,_,S55,(Inc.rfl _),els53,rfl,rfl,rfl,rfl,rfl⟩ ?_) ?_
  ·
   clear hp hq
   rintro s56 f65 w64 ⟨H61,v57,n58,cs59,S62,i63,els60,k66,k67,k68,k69,k70⟩ oBK hp
   refine FW.seq (FW.seq (FW.region ?_))
   refine FL.v (E.move k70) ?_
   refine FL.v (E.fieldAddr zaC k68) ?_
   refine FL.v (E.load rfl (zah Tryz.isAgg3 ((at28.mono i63).now S62.sl) rfl)) ?_
   refine FL.v (E.leq rfl rfl) ?_
   refine FL.nil ?_
   rcases ifB hp with ⟨c71,hp⟩|⟨c71,hp⟩
   ·
    refine FW.condT rfl c71 ?_
    refine FW.skip (FW.seq (FW.block (FW.seq ?_)))
    obtain ⟨r75,hr76,hp⟩:=bnd hp
    obtain ⟨xs90,hz91,hp⟩:=bnd hp
    obtain ⟨rA6,hrA7,hp⟩:=bnd hp
    obtain ⟨xsAg,hzAh,hp⟩:=bnd hp
    refine FW.drawB (Sl H61) (fun f w=>∃ H:GH,∃ vAq:Value,∃ nAr:Nat,∃ csAs:List Value,St Ha wa H w [.row 34 1 vAq nAr csAs]∧Inc H61 H∧Els H (eL eI 1) 1 csAs xsAg∧f 1=Value.int .i64 a1∧f 2=v2∧f 4=Value.pointer (some ⟨b21,0,none⟩)∧f 9=vAq∧f 10=Value.int .i64 s56.2) (by kernel_rfl) S62.sl ?_ ?_
    ·
     intro w72 r73
     have S74:=S62.call r73
     refine FB.t (i:=0) (bs 12 1) rfl (SP.nil S74.sl) rfl (fun w' hw'=>(E.move k69)) ?_
     refine FB.t (i:=1) (bs 12 3) rfl (SP.nil S74.sl) rfl (fun w' hw'=>(E.load k68 (zai Tryz.isAgg26 Tryz.sizeOf26 ((at28.mono i63).now hw') rfl))) ?_
     refine FB.t (i:=2) (bs 12 7) rfl (SP.nil S74.sl) rfl (fun w' hw'=>(E.move k66)) ?_
     refine FB.t (i:=3) (bs 12 15) rfl (SP.nil S74.sl) rfl (fun w' hw'=>(E.move k67)) ?_
     refine FB.t (i:=5) (bs 12 47) rfl (SP.nil S74.sl) rfl (fun w' hw'=>(E.move k70)) ?_
     refine FB.t (i:=8) (bs 12 303) rfl (SP.nil S74.sl) rfl (fun w' hw'=>(E.move k70)) ?_
     refine FB.all2 (i:=4) (j:=6) (by kernel_rfl) ?_ ?_
     ·
      refine FC.call (l':=(bs 12 319)) rfl (by kernel_rfl) rfl rfl rfl (E.call Tryz.call51 (A1 rfl)) (zcn S74.sl v2 a2 (p2.mono (i27.tr i63)) hr76) ?_
      rintro e w78 ⟨H77,v81,n82,cs83,rfl,r80,els84⟩
      refine ⟨_,rfl,?_⟩
      have els84:=els84.mono (up_le S74.size)
      have S79:=S74.join (l':=[.row 3 1 v81 n82 cs83,.row 34 1 v57 n58 cs59]) r80 rfl
      refine ⟨(SP.nil (Sl.of_inc r80.run.inc S79.sl)),?_⟩
      refine FB.all1 (i:=6) (by kernel_rfl) ?_
      ·
       obtain ⟨v85,w86,run87,S88,els89⟩:=S79.ints (P:=Tryz.prog) te34 (up wa.heap.size H77) 1 [s56.2]
       refine FC.val (l':=(bs 12 383)) rfl (by kernel_rfl) rfl rfl rfl (E.buildSlice (B1 rfl) run87) ?_
       refine ⟨(SP.nil (Sl.of_inc r80.run.inc S88.sl)),?_⟩
       refine FB.all1 (i:=7) (by kernel_rfl) ?_
       ·
        obtain ⟨v92,w95,n93,cs94,run96,S97,els98,ce99⟩:=S88.appendO (P:=Tryz.prog) te34 (i:=1) (j:=0) rfl els84 rfl els89 hz91
        have S97:St Ha wa H77 w95 [.row 3 1 v85 1 (iC [s56.2]),.row 3 1 v92 n93 cs94,.row 34 1 v57 n58 cs59]:=S97
        have SA0:St Ha wa H77 w95 [.row 3 1 v92 n93 cs94,.row 34 1 v57 n58 cs59]:=S97.drop 0
        refine FC.val (l':=(bs 12 511)) rfl (by kernel_rfl) rfl rfl rfl (E.append rfl rfl run96) ?_
        refine ⟨(SP.nil (Sl.of_inc r80.run.inc SA0.sl)),?_⟩
        refine FB.all1 (i:=9) (by kernel_rfl) ?_
        ·
         obtain ⟨HA1,SA2,iA3,hA4,nvA5⟩:=SA0.sealRowU (i:=0) (l':=[.row 34 1 v57 n58 cs59]) rfl els98 (by decide) rfl
         refine FC.call (l':=(bs 12 1023)) rfl (by kernel_rfl) rfl rfl rfl (E.call Tryz.call60 (A4 rfl rfl rfl rfl)) (hrec_spec_l13All SA2.sl a0 v0_1 (p0_1.mono (((i27.tr i63).tr r80.run.inc).tr iA3)) a1 v92 xs90 (hA4.mono upI) s56.2 hrA7) ?_
         rintro e wA9 ⟨HA8,vAc,nAd,csAe,rfl,rAb,elsAf⟩
         refine ⟨_,rfl,?_⟩
         have SAa:=SA2.join (l':=[.row 34 1 vAc nAd csAe,.row 34 1 v57 n58 cs59]) rAb rfl
         refine ⟨(SP.nil (Sl.of_inc ((r80.run.inc.tr iA3).tr rAb.run.inc) SAa.sl)),?_⟩
         refine FB.all1 (i:=10) (by kernel_rfl) ?_
         ·
          obtain ⟨vAi,wAl,nAj,csAk,runAm,SAn,elsAo,ceAp⟩:=SAa.appendO (P:=Tryz.prog) te24 (i:=1) (j:=0) rfl (els60.mono ((r80.run.inc.tr iA3).tr rAb.run.inc)) rfl elsAf hzAh
          have SAn:St Ha wa HA8 wAl [.row 34 1 vAc nAd csAe,.row 34 1 vAi nAj csAk]:=SAn
          refine FC.val (l':=(bs 12 2047)) rfl (by kernel_rfl) rfl rfl rfl (E.append rfl rfl runAm) ?_
          refine ⟨(SP.nil (Sl.of_inc ((r80.run.inc.tr iA3).tr rAb.run.inc) SAn.sl)),?_⟩
          refine FB.t (i:=11) (bs 12 4095) rfl (SP.nil (Sl.of_inc ((r80.run.inc.tr iA3).tr rAb.run.inc) SAn.sl)) rfl (fun w' hw'=>(E.assign (v:=vAi) rfl)) ?_
          exact FB.done (by kernel_rfl) ⟨_,_,_,_,(SAn.sel [1] (by decide) rfl),((r80.run.inc.tr iA3).tr rAb.run.inc),elsAo,k66,k67,k68,rfl,k70⟩
     ·
      obtain ⟨v85,w86,run87,S88,els89⟩:=S74.ints (P:=Tryz.prog) te34 (up wa.heap.size H61) 1 [s56.2]
      refine FC.val (l':=(bs 12 367)) rfl (by kernel_rfl) rfl rfl rfl (E.buildSlice (B1 rfl) run87) ?_
      refine ⟨(SP.nil S88.sl),?_⟩
      refine FB.all1 (i:=4) (by kernel_rfl) ?_
      ·
       refine FC.call (l':=(bs 12 383)) rfl (by kernel_rfl) rfl rfl rfl (E.call Tryz.call51 (A1 rfl)) (zcn S88.sl v2 a2 (p2.mono (i27.tr i63)) hr76) ?_
       rintro e w78 ⟨H77,v81,n82,cs83,rfl,r80,els84⟩
       refine ⟨_,rfl,?_⟩
       have els84:=els84.mono (up_le S88.size)
       have S79:=S88.join (l':=[.row 3 1 v81 n82 cs83,.row 3 1 v85 1 (iC [s56.2]),.row 34 1 v57 n58 cs59]) r80 rfl
       refine ⟨(SP.nil (Sl.of_inc r80.run.inc S79.sl)),?_⟩
       refine FB.all1 (i:=7) (by kernel_rfl) ?_
       ·
        obtain ⟨v92,w95,n93,cs94,run96,S97,els98,ce99⟩:=S79.appendO (P:=Tryz.prog) te34 (i:=0) (j:=1) rfl els84 rfl (els89.mono (zag r80.run.inc)) hz91
        have S97:St Ha wa H77 w95 [.row 3 1 v92 n93 cs94,.row 3 1 v85 1 (iC [s56.2]),.row 34 1 v57 n58 cs59]:=S97
        have SA0:St Ha wa H77 w95 [.row 3 1 v92 n93 cs94,.row 34 1 v57 n58 cs59]:=S97.drop 1
        refine FC.val (l':=(bs 12 511)) rfl (by kernel_rfl) rfl rfl rfl (E.append rfl rfl run96) ?_
        refine ⟨(SP.nil (Sl.of_inc r80.run.inc SA0.sl)),?_⟩
        refine FB.all1 (i:=9) (by kernel_rfl) ?_
        ·
         obtain ⟨HA1,SA2,iA3,hA4,nvA5⟩:=SA0.sealRowU (i:=0) (l':=[.row 34 1 v57 n58 cs59]) rfl els98 (by decide) rfl
         refine FC.call (l':=(bs 12 1023)) rfl (by kernel_rfl) rfl rfl rfl (E.call Tryz.call60 (A4 rfl rfl rfl rfl)) (hrec_spec_l13All SA2.sl a0 v0_1 (p0_1.mono (((i27.tr i63).tr r80.run.inc).tr iA3)) a1 v92 xs90 (hA4.mono upI) s56.2 hrA7) ?_
         rintro e wA9 ⟨HA8,vAc,nAd,csAe,rfl,rAb,elsAf⟩
         refine ⟨_,rfl,?_⟩
         have SAa:=SA2.join (l':=[.row 34 1 vAc nAd csAe,.row 34 1 v57 n58 cs59]) rAb rfl
         refine ⟨(SP.nil (Sl.of_inc ((r80.run.inc.tr iA3).tr rAb.run.inc) SAa.sl)),?_⟩
         refine FB.all1 (i:=10) (by kernel_rfl) ?_
         ·
          obtain ⟨vAi,wAl,nAj,csAk,runAm,SAn,elsAo,ceAp⟩:=SAa.appendO (P:=Tryz.prog) te24 (i:=1) (j:=0) rfl (els60.mono ((r80.run.inc.tr iA3).tr rAb.run.inc)) rfl elsAf hzAh
          have SAn:St Ha wa HA8 wAl [.row 34 1 vAc nAd csAe,.row 34 1 vAi nAj csAk]:=SAn
          refine FC.val (l':=(bs 12 2047)) rfl (by kernel_rfl) rfl rfl rfl (E.append rfl rfl runAm) ?_
          refine ⟨(SP.nil (Sl.of_inc ((r80.run.inc.tr iA3).tr rAb.run.inc) SAn.sl)),?_⟩
          refine FB.t (i:=11) (bs 12 4095) rfl (SP.nil (Sl.of_inc ((r80.run.inc.tr iA3).tr rAb.run.inc) SAn.sl)) rfl (fun w' hw'=>(E.assign (v:=vAi) rfl)) ?_
          exact FB.done (by kernel_rfl) ⟨_,_,_,_,(SAn.sel [1] (by decide) rfl),((r80.run.inc.tr iA3).tr rAb.run.inc),elsAo,k66,k67,k68,rfl,k70⟩
    ·
     rintro fAy wAx ⟨HAu,vAq,nAr,csAs,SAv,iAw,elsAt,kAz,kAA,kAB,kAC,kAD⟩
     obtain ⟨rAH,hrAI,hp⟩:=bnd hp
     obtain ⟨xsAW,hzAX,hp⟩:=bnd hp
     obtain ⟨rBc,hrBd,hp⟩:=bnd hp
     obtain ⟨xsBm,hzBn,hp⟩:=bnd hp
     refine FW.drawB (Sl HAu) (fun f w=>∃ H:GH,∃ vBw:Value,∃ nBx:Nat,∃ csBy:List Value,St Ha wa H w [.row 34 1 vBw nBx csBy]∧Inc HAu H∧Els H (eL eI 1) 1 csBy xsBm∧f 1=Value.int .i64 a1∧f 2=v2∧f 4=Value.pointer (some ⟨b21,0,none⟩)∧f 9=vBw∧f 10=Value.int .i64 s56.2) (by kernel_rfl) SAv.sl ?_ ?_
     ·
      intro wAE rAF
      have SAG:=SAv.call rAF
      refine FB.t (i:=0) (bs 13 1) rfl (SP.nil SAG.sl) rfl (fun w' hw'=>(E.move kAC)) ?_
      refine FB.t (i:=1) (bs 13 3) rfl (SP.nil SAG.sl) rfl (fun w' hw'=>(E.load kAB (zai Tryz.isAgg26 Tryz.sizeOf26 ((at28.mono (i63.tr iAw)).now hw') rfl))) ?_
      refine FB.t (i:=2) (bs 13 7) rfl (SP.nil SAG.sl) rfl (fun w' hw'=>(E.move kAz)) ?_
      refine FB.t (i:=3) (bs 13 15) rfl (SP.nil SAG.sl) rfl (fun w' hw'=>(E.move kAA)) ?_
      refine FB.t (i:=5) (bs 13 47) rfl (SP.nil SAG.sl) rfl (fun w' hw'=>(E.move kAD)) ?_
      refine FB.t (i:=6) (bs 13 111) rfl (SP.nil SAG.sl) rfl (fun w' hw'=>(E.neg rfl)) ?_
      refine FB.t (i:=9) (bs 13 623) rfl (SP.nil SAG.sl) rfl (fun w' hw'=>(E.move kAD)) ?_
      refine FB.all2 (i:=4) (j:=7) (by kernel_rfl) ?_ ?_
      ·
       refine FC.call (l':=(bs 13 639)) rfl (by kernel_rfl) rfl rfl rfl (E.call Tryz.call51 (A1 rfl)) (zcn SAG.sl v2 a2 (p2.mono ((i27.tr i63).tr iAw)) hrAI) ?_
       rintro e wAK ⟨HAJ,vAN,nAO,csAP,rfl,rAM,elsAQ⟩
       refine ⟨_,rfl,?_⟩
       have elsAQ:=elsAQ.mono (up_le SAG.size)
       have SAL:=SAG.join (l':=[.row 3 1 vAN nAO csAP,.row 34 1 vAq nAr csAs]) rAM rfl
       refine ⟨(SP.nil (Sl.of_inc rAM.run.inc SAL.sl)),?_⟩
       refine FB.all1 (i:=7) (by kernel_rfl) ?_
       ·
        obtain ⟨vAR,wAS,runAT,SAU,elsAV⟩:=SAL.ints (P:=Tryz.prog) te34 (up wa.heap.size HAJ) 1 [(wr (-s56.2))]
        refine FC.val (l':=(bs 13 767)) rfl (by kernel_rfl) rfl rfl rfl (E.buildSlice (B1 rfl) runAT) ?_
        refine ⟨(SP.nil (Sl.of_inc rAM.run.inc SAU.sl)),?_⟩
        refine FB.all1 (i:=8) (by kernel_rfl) ?_
        ·
         obtain ⟨vAY,wB1,nAZ,csB0,runB2,SB3,elsB4,ceB5⟩:=SAU.appendO (P:=Tryz.prog) te34 (i:=1) (j:=0) rfl elsAQ rfl elsAV hzAX
         have SB3:St Ha wa HAJ wB1 [.row 3 1 vAR 1 (iC [(wr (-s56.2))]),.row 3 1 vAY nAZ csB0,.row 34 1 vAq nAr csAs]:=SB3
         have SB6:St Ha wa HAJ wB1 [.row 3 1 vAY nAZ csB0,.row 34 1 vAq nAr csAs]:=SB3.drop 0
         refine FC.val (l':=(bs 13 1023)) rfl (by kernel_rfl) rfl rfl rfl (E.append rfl rfl runB2) ?_
         refine ⟨(SP.nil (Sl.of_inc rAM.run.inc SB6.sl)),?_⟩
         refine FB.all1 (i:=10) (by kernel_rfl) ?_
         ·
          obtain ⟨HB7,SB8,iB9,hBa,nvBb⟩:=SB6.sealRowU (i:=0) (l':=[.row 34 1 vAq nAr csAs]) rfl elsB4 (by decide) rfl
          refine FC.call (l':=(bs 13 2047)) rfl (by kernel_rfl) rfl rfl rfl (E.call Tryz.call60 (A4 rfl rfl rfl rfl)) (hrec_spec_l13All SB8.sl a0 v0_1 (p0_1.mono ((((i27.tr i63).tr iAw).tr rAM.run.inc).tr iB9)) a1 vAY xsAW (hBa.mono upI) s56.2 hrBd) ?_
          rintro e wBf ⟨HBe,vBi,nBj,csBk,rfl,rBh,elsBl⟩
          refine ⟨_,rfl,?_⟩
          have SBg:=SB8.join (l':=[.row 34 1 vBi nBj csBk,.row 34 1 vAq nAr csAs]) rBh rfl
          refine ⟨(SP.nil (Sl.of_inc ((rAM.run.inc.tr iB9).tr rBh.run.inc) SBg.sl)),?_⟩
          refine FB.all1 (i:=11) (by kernel_rfl) ?_
          ·
           obtain ⟨vBo,wBr,nBp,csBq,runBs,SBt,elsBu,ceBv⟩:=SBg.appendO (P:=Tryz.prog) te24 (i:=1) (j:=0) rfl (elsAt.mono ((rAM.run.inc.tr iB9).tr rBh.run.inc)) rfl elsBl hzBn
           have SBt:St Ha wa HBe wBr [.row 34 1 vBi nBj csBk,.row 34 1 vBo nBp csBq]:=SBt
           refine FC.val (l':=(bs 13 4095)) rfl (by kernel_rfl) rfl rfl rfl (E.append rfl rfl runBs) ?_
           refine ⟨(SP.nil (Sl.of_inc ((rAM.run.inc.tr iB9).tr rBh.run.inc) SBt.sl)),?_⟩
           refine FB.t (i:=12) (bs 13 8191) rfl (SP.nil (Sl.of_inc ((rAM.run.inc.tr iB9).tr rBh.run.inc) SBt.sl)) rfl (fun w' hw'=>(E.assign (v:=vBo) rfl)) ?_
           exact FB.done (by kernel_rfl) ⟨_,_,_,_,(SBt.sel [1] (by decide) rfl),((rAM.run.inc.tr iB9).tr rBh.run.inc),elsBu,kAz,kAA,kAB,rfl,kAD⟩
      ·
       obtain ⟨vAR,wAS,runAT,SAU,elsAV⟩:=SAG.ints (P:=Tryz.prog) te34 (up wa.heap.size HAu) 1 [(wr (-s56.2))]
       refine FC.val (l':=(bs 13 751)) rfl (by kernel_rfl) rfl rfl rfl (E.buildSlice (B1 rfl) runAT) ?_
       refine ⟨(SP.nil SAU.sl),?_⟩
       refine FB.all1 (i:=4) (by kernel_rfl) ?_
       ·
        refine FC.call (l':=(bs 13 767)) rfl (by kernel_rfl) rfl rfl rfl (E.call Tryz.call51 (A1 rfl)) (zcn SAU.sl v2 a2 (p2.mono ((i27.tr i63).tr iAw)) hrAI) ?_
        rintro e wAK ⟨HAJ,vAN,nAO,csAP,rfl,rAM,elsAQ⟩
        refine ⟨_,rfl,?_⟩
        have elsAQ:=elsAQ.mono (up_le SAU.size)
        have SAL:=SAU.join (l':=[.row 3 1 vAN nAO csAP,.row 3 1 vAR 1 (iC [(wr (-s56.2))]),.row 34 1 vAq nAr csAs]) rAM rfl
        refine ⟨(SP.nil (Sl.of_inc rAM.run.inc SAL.sl)),?_⟩
        refine FB.all1 (i:=8) (by kernel_rfl) ?_
        ·
         obtain ⟨vAY,wB1,nAZ,csB0,runB2,SB3,elsB4,ceB5⟩:=SAL.appendO (P:=Tryz.prog) te34 (i:=0) (j:=1) rfl elsAQ rfl (elsAV.mono (zag rAM.run.inc)) hzAX
         have SB3:St Ha wa HAJ wB1 [.row 3 1 vAY nAZ csB0,.row 3 1 vAR 1 (iC [(wr (-s56.2))]),.row 34 1 vAq nAr csAs]:=SB3
         have SB6:St Ha wa HAJ wB1 [.row 3 1 vAY nAZ csB0,.row 34 1 vAq nAr csAs]:=SB3.drop 1
         refine FC.val (l':=(bs 13 1023)) rfl (by kernel_rfl) rfl rfl rfl (E.append rfl rfl runB2) ?_
         refine ⟨(SP.nil (Sl.of_inc rAM.run.inc SB6.sl)),?_⟩
         refine FB.all1 (i:=10) (by kernel_rfl) ?_
         ·
          obtain ⟨HB7,SB8,iB9,hBa,nvBb⟩:=SB6.sealRowU (i:=0) (l':=[.row 34 1 vAq nAr csAs]) rfl elsB4 (by decide) rfl
          refine FC.call (l':=(bs 13 2047)) rfl (by kernel_rfl) rfl rfl rfl (E.call Tryz.call60 (A4 rfl rfl rfl rfl)) (hrec_spec_l13All SB8.sl a0 v0_1 (p0_1.mono ((((i27.tr i63).tr iAw).tr rAM.run.inc).tr iB9)) a1 vAY xsAW (hBa.mono upI) s56.2 hrBd) ?_
          rintro e wBf ⟨HBe,vBi,nBj,csBk,rfl,rBh,elsBl⟩
          refine ⟨_,rfl,?_⟩
          have SBg:=SB8.join (l':=[.row 34 1 vBi nBj csBk,.row 34 1 vAq nAr csAs]) rBh rfl
          refine ⟨(SP.nil (Sl.of_inc ((rAM.run.inc.tr iB9).tr rBh.run.inc) SBg.sl)),?_⟩
          refine FB.all1 (i:=11) (by kernel_rfl) ?_
          ·
           obtain ⟨vBo,wBr,nBp,csBq,runBs,SBt,elsBu,ceBv⟩:=SBg.appendO (P:=Tryz.prog) te24 (i:=1) (j:=0) rfl (elsAt.mono ((rAM.run.inc.tr iB9).tr rBh.run.inc)) rfl elsBl hzBn
           have SBt:St Ha wa HBe wBr [.row 34 1 vBi nBj csBk,.row 34 1 vBo nBp csBq]:=SBt
           refine FC.val (l':=(bs 13 4095)) rfl (by kernel_rfl) rfl rfl rfl (E.append rfl rfl runBs) ?_
           refine ⟨(SP.nil (Sl.of_inc ((rAM.run.inc.tr iB9).tr rBh.run.inc) SBt.sl)),?_⟩
           refine FB.t (i:=12) (bs 13 8191) rfl (SP.nil (Sl.of_inc ((rAM.run.inc.tr iB9).tr rBh.run.inc) SBt.sl)) rfl (fun w' hw'=>(E.assign (v:=vBo) rfl)) ?_
           exact FB.done (by kernel_rfl) ⟨_,_,_,_,(SBt.sel [1] (by decide) rfl),((rAM.run.inc.tr iB9).tr rBh.run.inc),elsBu,kAz,kAA,kAB,rfl,kAD⟩
     ·
      rintro fBE wBD ⟨HBA,vBw,nBx,csBy,SBB,iBC,elsBz,kBF,kBG,kBH,kBI,kBJ⟩
      refine FW.region ?_
      refine FL.v (E.move kBJ) ?_
      refine FL.v (E.add rfl rfl) ?_
      refine FL.v (E.assign (v:=Value.int .i64 (wr (s56.2 + 1))) rfl) ?_
      refine FL.nil ?_
      obtain rfl:=Option.some.inj hp
      exact ⟨rfl,⟨_,_,_,_,SBB,((i63.tr iAw).tr iBC),elsBz,kBF,kBG,kBH,kBI,rfl⟩⟩
   ·
    refine FW.condF rfl c71 ?_
    refine FW.exit ?_
    obtain rfl:=Option.some.inj hp
    exact ⟨nofun,rfl,⟨_,_,_,_,S62,i63,els60,k69⟩⟩
  ·
   clear hq
   intro e fBP wBO hD
   rcases q56 with s56|x56
   ·
    obtain ⟨rfl,hD⟩:=hD
    obtain ⟨HBL,v57,n58,cs59,SBM,iBN,els60,kBQ⟩:=hD
    replace hp:=el_go hp
    refine FW.seq (FW.region ?_)
    refine FL.v (E.move kBQ) ?_
    refine FL.v (E.assign (v:=v57) rfl) ?_
    refine FL.nil ?_
    refine FW.ret ?_
    obtain rfl:=Option.some.inj hp
    exact ⟨.inr rfl,res1 rfl rfl ⟨_,_,_,_,rfl,SBM,els60⟩⟩
   ·
    exact x56.elim
theorem w_spec_l13All_F (n:Nat):∀ {Ha:GH} {wa:World} (hs:Sl Ha wa) (a0:Cnf) (v0_1:Value) (p0_1:RSl Ha (eL eI 1) 1 v0_1 a0.clauses) (a1:Int) (v2:Value) (a2:List Int) (p2:RSl Ha eI 1 v2 a2) (a3:Int) {r:(List (List Int))} (hp:PF.zcM n a0 a1 a2 a3=some r),Calls Tryz.prog 60 #[Value.agg #[Value.int .i64 a0.vars,v0_1],Value.int .i64 a1,v2,Value.int .i64 a3] wa (zd3 Ha wa r):=by
 induction n with
 | zero=>intros;rename_i hp;exact nomatch hp
 | succ n ih=>exact w_spec_l13All_B (rec_spec_l13All:=PF.zcM n) ih
theorem w_spec_l13All {Ha:GH} {wa:World} (hs:Sl Ha wa) (a0:Cnf) (v0_1:Value) (p0_1:RSl Ha (eL eI 1) 1 v0_1 a0.clauses) (a1:Int) (v2:Value) (a2:List Int) (p2:RSl Ha eI 1 v2 a2) (a3:Int) {r:(List (List Int))} (hp:PF.zel a0 a1 a2 a3=some r) :
  Calls Tryz.prog 60 #[Value.agg #[Value.int .i64 a0.vars,v0_1],Value.int .i64 a1,v2,Value.int .i64 a3] wa (zd3 Ha wa r):=w_spec_l13All_F deep hs a0 v0_1 p0_1 a1 v2 a2 p2 a3 hp

theorem w_spec_l2Key {Ha:GH} {wa:World} (hs:Sl Ha wa) (a0:Int) :
  Calls Tryz.prog 110 #[Value.int .i64 a0] wa (Sc Ha wa (Value.int .i64 (PF.zaL a0))):=by
 obtain ⟨r,hp⟩:∃ r,(PF.zaL a0)=r:=⟨_,rfl⟩
 rw [hp]
 unfold PF.zaL at hp
 have S0:=St.init hs
 refine zae (N:=10) (args:=[Value.int .i64 a0]) Tryz.func110 rfl rfl rfl ?_
 refine FW.seq (FW.region ?_)
 refine FL.v (E.assign (v:=Value.int .i64 0) rfl) ?_
 refine FL.nil (FW.seq (FW.seq (FW.region ?_)))
 refine FL.v (E.move (v:=Value.int .i64 a0) rfl) ?_
 refine FL.v (E.lss rfl rfl) ?_
 refine FL.nil ?_
 rcases ifT hp with ⟨c21,hp⟩|⟨c21,hp⟩
 ·
  refine FW.condT rfl c21 ?_
  refine FW.seq (FW.region ?_)
  refine FL.v (E.move (v:=Value.int .i64 a0) rfl) ?_
  refine FL.v (E.mul rfl rfl) ?_
  refine FL.v (E.add rfl rfl) ?_
  refine FL.v (E.assign (v:=Value.int .i64 (wr ((wr ((-2) * a0)) + 1))) rfl) ?_
  refine FL.nil ?_
  refine FW.ret ?_
  obtain rfl:=hp
  exact ⟨.inr rfl,res1 rfl rfl ⟨rfl,S0.back⟩⟩
 ·
  refine FW.condF rfl c21 ?_
  refine FW.skip (FW.seq (FW.region ?_))
  refine FL.v (E.move (v:=Value.int .i64 a0) rfl) ?_
  refine FL.v (E.mul rfl rfl) ?_
  refine FL.v (E.assign (v:=Value.int .i64 (wr (2 * a0))) rfl) ?_
  refine FL.nil ?_
  refine FW.ret ?_
  obtain rfl:=hp
  exact ⟨.inr rfl,res1 rfl rfl ⟨rfl,S0.back⟩⟩

set_option maxHeartbeats 4000000 in
theorem ze2 {Ha:GH} {wa:World} (hs:Sl Ha wa) (v0:Value) (a0:List Int) (p0:RSl Ha eI 1 v0 a0) (v1:Value) (a1:List Int) (p1:RSl Ha eI 1 v1 a1) {r:Bool} (hp:(PF.zcN a0 a1)=some r) :
  Calls Tryz.prog 78 #[v0,v1] wa (Sc Ha wa (Value.bool r)):=by
 unfold PF.zcN at hp
 have S0:=St.init hs
 refine zae (N:=42) (args:=[v0,v1]) Tryz.func78 rfl rfl rfl ?_
 refine FW.seq (FW.region ?_)
 refine FL.v (E.assign (v:=Value.bool false) rfl) ?_
 refine FL.nil (FW.seq (FW.seq (FW.region ?_)))
 refine FL.v (E.move (v:=v0) rfl) ?_
 refine FL.v (E.lenP te34 rfl p0) ?_
 refine FL.v (E.move (v:=v1) rfl) ?_
 refine FL.v (E.lenP te34 rfl p1) ?_
 refine FL.v (E.neq rfl rfl) ?_
 refine FL.nil ?_
 rcases ifB hp with ⟨c21,hp⟩|⟨c21,hp⟩
 ·
  refine FW.condT rfl c21 ?_
  refine FW.seq (FW.region ?_)
  refine FL.v (E.move (v:=v0) rfl) ?_
  refine FL.v (E.lenP te34 rfl p0) ?_
  refine FL.v (E.move (v:=v1) rfl) ?_
  refine FL.v (E.lenP te34 rfl p1) ?_
  refine FL.v (E.lss rfl rfl) ?_
  refine FL.v (E.assign (v:=Value.bool (decide ((len a0) < (len a1)))) rfl) ?_
  refine FL.nil ?_
  refine FW.ret ?_
  obtain rfl:=Option.some.inj hp
  exact ⟨.inr rfl,res1 rfl rfl ⟨rfl,S0.back⟩⟩
 ·
  refine FW.condF rfl c21 ?_
  refine FW.skip (FW.seq (FW.seq (FW.region ?_)))
  refine FL.v (E.assign (v:=Value.int .i64 0) rfl) ?_
  refine FL.nil ?_
  obtain ⟨q23,hq,hp⟩:=bndR hp
  refine FW.block ?_
  refine FW.mono (FW.forL (S:=Unit) (X:=Bool) (fun (i23:Nat) (s23:Unit) f w=>∃ H:GH,St Ha wa H w []∧Inc Ha H∧f 5=Value.int .i64 ((i23:Nat):Int)∧f 0=v0∧f 1=v1) (fun q e f w=>match q with|.go s23=>e=Exit.exit 0∧(∃ H:GH,St Ha wa H w []∧Inc Ha H)|.rt x=>((e=Exit.ret)∧(fun e f w=>(e=Exit.normal∨e=Exit.ret)∧∀ a,Fr (δ:=[]) 42 a f→∃ v,(results Tryz.f78 a.tmps).run Tryz.prog w=.ok v w∧(Sc Ha wa (Value.bool x)) (.returned v) w) e f w)) hq ⟨_,S0,(Inc.rfl _),rfl,rfl,rfl⟩ ?_ ?_) ?_
  ·
   clear hp hq
   rintro i23 y22 s23 f73 w72 ⟨H69,S70,i71,k74,k75,k76⟩ hx23 oAe hp
   refine FW.seq (FW.seq (FW.region ?_))
   refine FL.v (E.move k74) ?_
   refine FL.v (E.move k75) ?_
   refine FL.v (E.lenP te34 rfl p0) ?_
   refine FL.v (E.lssT rfl rfl (zaw hx23)) ?_
   refine FL.nil ?_
   refine FW.condT rfl rfl ?_
   refine FW.skip (FW.seq (FW.block (FW.seq ?_)))
   refine FW.draw (fun w'=>Run w72.heap.size H69 w72 H69 w') (by kernel_rfl) (by kernel_rfl) (zaG S70.sl) ?_
   refine FD.val rfl rfl rfl (fun w' hw'=>(E.move k75)) ?_
   refine FD.val rfl rfl rfl (fun w' hw'=>(E.move k74)) ?_
   obtain ⟨p78,cs79,pt80,l81,at82,rel83⟩:=p0.at (zal hx23)
   obtain rfl:=zam rel83
   refine FD.val rfl rfl rfl (fun w' hw'=>(E.indexAddr te34 rfl rfl pt80)) ?_
   refine FD.val rfl rfl rfl (fun w' hw'=>(E.load rfl (zaf Tryz.isAgg3 ((at82.mono i71).now (S70.call hw').sl) rfl))) ?_
   refine FD.val rfl rfl rfl (fun w' hw'=>(E.move k76)) ?_
   refine FD.val rfl rfl rfl (fun w' hw'=>(E.move k74)) ?_
   obtain ⟨x90,hx91,hp⟩:=bnd hp
   obtain ⟨p84,cs85,pt86,l87,at88,rel89⟩:=p1.at hx91
   obtain rfl:=zam rel89
   refine FD.val rfl rfl rfl (fun w' hw'=>(E.indexAddr te34 rfl rfl pt86)) ?_
   refine FD.val rfl rfl rfl (fun w' hw'=>(E.load rfl (zaf Tryz.isAgg3 ((at88.mono i71).now (S70.call hw').sl) rfl))) ?_
   refine FD.val rfl rfl rfl (fun w' hw'=>(E.neq rfl rfl)) ?_
   refine FD.nil ?_
   intro w92 r94
   have S93:=S70.call r94
   rcases ifB hp with ⟨c95,hp⟩|⟨c95,hp⟩
   ·
    refine FW.condT rfl c95 ?_
    refine FW.seq ?_
    refine FW.draw (fun w'=>Run w92.heap.size H69 w92 H69 w') (by kernel_rfl) (by kernel_rfl) (zaG S93.sl) ?_
    refine FD.val rfl rfl rfl (fun w' hw'=>(E.move k75)) ?_
    refine FD.val rfl rfl rfl (fun w' hw'=>(E.move k74)) ?_
    obtain ⟨p97,cs98,pt99,lA0,atA1,relA2⟩:=p0.at (zal hx23)
    obtain rfl:=zam relA2
    refine FD.val rfl rfl rfl (fun w' hw'=>(E.indexAddr te34 rfl rfl pt99)) ?_
    refine FD.val rfl rfl rfl (fun w' hw'=>(E.load rfl (zaf Tryz.isAgg3 ((atA1.mono i71).now (S93.call hw').sl) rfl))) ?_
    refine FD.call rfl rfl rfl (fun w' hw'=>(E.call Tryz.call110 (A1 rfl))) (fun w' hw'=>Calls.cls hw' (w_spec_l2Key (S93.call hw').sl y22)) ?_
    refine FD.val rfl rfl rfl (fun w' hw'=>(E.move k76)) ?_
    refine FD.val rfl rfl rfl (fun w' hw'=>(E.move k74)) ?_
    obtain ⟨xA9,hxAa,hp⟩:=bnd hp
    obtain ⟨pA3,csA4,ptA5,lA6,atA7,relA8⟩:=p1.at hxAa
    obtain rfl:=zam relA8
    refine FD.val rfl rfl rfl (fun w' hw'=>(E.indexAddr te34 rfl rfl ptA5)) ?_
    refine FD.val rfl rfl rfl (fun w' hw'=>(E.load rfl (zaf Tryz.isAgg3 ((atA7.mono i71).now (S93.call hw').sl) rfl))) ?_
    refine FD.call rfl rfl rfl (fun w' hw'=>(E.call Tryz.call110 (A1 rfl))) (fun w' hw'=>Calls.cls hw' (w_spec_l2Key (S93.call hw').sl xA9)) ?_
    refine FD.val rfl rfl rfl (fun w' hw'=>(E.lss rfl rfl)) ?_
    refine FD.val rfl rfl rfl (fun w' hw'=>(E.assign (v:=Value.bool (decide ((PF.zaL y22) < (PF.zaL xA9)))) rfl)) ?_
    refine FD.nil ?_
    intro wAb rAd
    have SAc:=S93.call rAd
    refine FW.ret ?_
    obtain rfl:=Option.some.inj hp
    exact ⟨nofun,rfl,⟨.inr rfl,res1 rfl rfl ⟨rfl,SAc.back⟩⟩⟩
   ·
    refine FW.condF rfl c95 ?_
    refine FW.skip (FW.region ?_)
    refine FL.v (E.move k74) ?_
    refine FL.v (E.add rfl rfl) ?_
    refine FL.v (E.assign (v:=Value.int .i64 (wr (((i23:Nat):Int) + 1))) rfl) ?_
    refine FL.nil ?_
    obtain rfl:=Option.some.inj hp
    exact ⟨rfl,⟨_,S93,i71,(zap rfl (zaq hx23) (p0.mono i71).le),k75,k76⟩⟩
  ·
   clear hp hq
   rintro s23 fAo wAn ⟨HAk,SAl,iAm,kAp,kAq,kAr⟩
   refine FW.seq (FW.seq (FW.region ?_))
   refine FL.v (E.move kAp) ?_
   refine FL.v (E.move kAq) ?_
   refine FL.v (E.lenP te34 rfl p0) ?_
   refine FL.v (E.lss rfl rfl) ?_
   refine FL.nil ?_
   refine FW.condF rfl zax ?_
   refine FW.exit ?_
   exact ⟨nofun,rfl,⟨_,SAl,iAm⟩⟩
  ·
   clear hq
   intro e fAj wAi hD
   rcases q23 with s23|x23
   ·
    obtain ⟨rfl,hD⟩:=hD
    obtain ⟨HAf,SAg,iAh⟩:=hD
    replace hp:=el_go hp
    refine FW.seq (FW.region ?_)
    refine FL.v (E.assign (v:=Value.bool false) rfl) ?_
    refine FL.nil ?_
    refine FW.ret ?_
    obtain rfl:=Option.some.inj hp
    exact ⟨.inr rfl,res1 rfl rfl ⟨rfl,SAg.back⟩⟩
   ·
    obtain ⟨he,hL⟩:=hD
    replace hp:=el_rt hp
    obtain rfl:=Option.some.inj hp
    subst he
    exact hL

theorem ze3 {Ha:GH} {wa:World} (hs:Sl Ha wa) (v0:Value) (a0:List (List Int)) (p0:RSl Ha (eL eI 1) 1 v0 a0) (v1:Value) (a1:List Int) (p1:RSl Ha eI 1 v1 a1) {r:Int} (hp:(PF.zcO a0 a1)=some r) :
  Calls Tryz.prog 101 #[v0,v1] wa (Sc Ha wa (Value.int .i64 r)):=by
 unfold PF.zcO at hp
 have S0:=St.init hs
 refine zae (N:=27) (args:=[v0,v1]) Tryz.func101 rfl rfl rfl ?_
 refine FW.seq (FW.region ?_)
 refine FL.v (E.assign (v:=Value.int .i64 0) rfl) ?_
 refine FL.nil (FW.seq (FW.region ?_))
 refine FL.v (E.move (v:=v0) rfl) ?_
 refine FL.v (E.lenP te24 rfl p0) ?_
 refine FL.v (E.assign (v:=Value.int .i64 0) rfl) ?_
 refine FL.v (E.assign (v:=Value.int .i64 (len a0)) rfl) ?_
 refine FL.nil (FW.seq ?_)
 obtain ⟨q21,hq,hp⟩:=bndR hp
 refine FW.block ?_
 refine FW.mono (FW.iter (S:=(Int×Int)) (X:=Empty) (fun (s21:(Int×Int)) f w=>∃ H:GH,St Ha wa H w []∧Inc Ha H∧f 0=v0∧f 1=v1∧f 5=Value.int .i64 s21.1∧f 6=Value.int .i64 s21.2) (fun (q:Rs (Int×Int) Empty) e f w=>match q with|.go s21=>e=Exit.exit 0∧(∃ H:GH,St Ha wa H w []∧Inc Ha H∧f 5=Value.int .i64 s21.1)|.rt x=>x.elim) hq ⟨_,S0,(Inc.rfl _),rfl,rfl,rfl,rfl⟩ ?_) ?_
 ·
  clear hp hq
  rintro s21 f52 w51 ⟨H48,S49,i50,k53,k54,k55,k56⟩ o74 hp
  refine FW.seq (FW.seq (FW.region ?_))
  refine FL.v (E.move k55) ?_
  refine FL.v (E.move k56) ?_
  refine FL.v (E.lss rfl rfl) ?_
  refine FL.nil ?_
  rcases ifB hp with ⟨c57,hp⟩|⟨c57,hp⟩
  ·
   refine FW.condT rfl c57 ?_
   refine FW.skip (FW.block (FW.seq (FW.region ?_)))
   refine FL.v (E.move k55) ?_
   refine FL.v (E.move k56) ?_
   refine FL.v (E.add rfl rfl) ?_
   refine FL.v (E.quo rfl rfl (by decide)) ?_
   refine FL.v (E.assign (v:=Value.int .i64 (wr ((wr (s21.1 + s21.2)).tdiv 2))) rfl) ?_
   refine FL.nil (FW.seq (FW.region ?_))
   refine FL.v (E.move k53) ?_
   refine FL.v (E.move (v:=Value.int .i64 (wr ((wr (s21.1 + s21.2)).tdiv 2))) rfl) ?_
   obtain ⟨x64,hx65,hp⟩:=bnd hp
   obtain ⟨p58,cs59,pt60,l61,at62,rel63⟩:=p0.at hx65
   obtain ⟨v66,rfl,h67⟩:=zav rel63
   refine FL.v (E.indexAddr te24 rfl rfl pt60) ?_
   refine FL.v (E.load rfl (zaf Tryz.isAgg34 ((at62.mono i50).now S49.sl) rfl)) ?_
   refine FL.v (E.move k54) ?_
   obtain ⟨r68,hr69,hp⟩:=bnd hp
   refine FL.call rfl rfl rfl (E.call Tryz.call78 (A2 rfl rfl)) (ze2 S49.sl v66 x64 (h67.mono i50) v1 a1 (p1.mono i50) hr69) ?_
   rintro e w70 ⟨rfl,r71⟩
   refine ⟨_,rfl,?_⟩
   have S72:=S49.call r71
   refine FL.nil ?_
   rcases ifB hp with ⟨c73,hp⟩|⟨c73,hp⟩
   ·
    refine FW.condT rfl c73 ?_
    refine FW.region ?_
    refine FL.v (E.move (v:=Value.int .i64 (wr ((wr (s21.1 + s21.2)).tdiv 2))) rfl) ?_
    refine FL.v (E.add rfl rfl) ?_
    refine FL.v (E.assign (v:=Value.int .i64 (wr ((wr ((wr (s21.1 + s21.2)).tdiv 2)) + 1))) rfl) ?_
    refine FL.nil ?_
    obtain rfl:=Option.some.inj hp
    exact ⟨rfl,⟨_,S72,i50,k53,k54,rfl,k56⟩⟩
   ·
    refine FW.condF rfl c73 ?_
    refine FW.region ?_
    refine FL.v (E.move (v:=Value.int .i64 (wr ((wr (s21.1 + s21.2)).tdiv 2))) rfl) ?_
    refine FL.v (E.assign (v:=Value.int .i64 (wr ((wr (s21.1 + s21.2)).tdiv 2))) rfl) ?_
    refine FL.nil ?_
    obtain rfl:=Option.some.inj hp
    exact ⟨rfl,⟨_,S72,i50,k53,k54,k55,rfl⟩⟩
  ·
   refine FW.condF rfl c57 ?_
   refine FW.exit ?_
   obtain rfl:=Option.some.inj hp
   exact ⟨nofun,rfl,⟨_,S49,i50,k55⟩⟩
 ·
  clear hq
  intro e f79 w78 hD
  rcases q21 with s21|x21
  ·
   obtain ⟨rfl,hD⟩:=hD
   obtain ⟨H75,S76,i77,k80⟩:=hD
   replace hp:=el_go hp
   refine FW.seq (FW.region ?_)
   refine FL.v (E.move k80) ?_
   refine FL.v (E.assign (v:=Value.int .i64 s21.1) rfl) ?_
   refine FL.nil ?_
   refine FW.ret ?_
   obtain rfl:=Option.some.inj hp
   exact ⟨.inr rfl,res1 rfl rfl ⟨rfl,S76.back⟩⟩
  ·
   exact x21.elim

set_option maxHeartbeats 4000000 in
theorem w_spec_l1Same {Ha:GH} {wa:World} (hs:Sl Ha wa) (v0:Value) (a0:List Int) (p0:RSl Ha eI 1 v0 a0) (v1:Value) (a1:List Int) (p1:RSl Ha eI 1 v1 a1) {r:Bool} (hp:(PF.zcP a0 a1)=some r) :
  Calls Tryz.prog 102 #[v0,v1] wa (Sc Ha wa (Value.bool r)):=by
 unfold PF.zcP at hp
 have S0:=St.init hs
 refine zae (N:=26) (args:=[v0,v1]) Tryz.func102 rfl rfl rfl ?_
 refine FW.seq (FW.region ?_)
 refine FL.v (E.assign (v:=Value.bool false) rfl) ?_
 refine FL.nil (FW.seq (FW.seq (FW.region ?_)))
 refine FL.v (E.move (v:=v0) rfl) ?_
 refine FL.v (E.lenP te34 rfl p0) ?_
 refine FL.v (E.move (v:=v1) rfl) ?_
 refine FL.v (E.lenP te34 rfl p1) ?_
 refine FL.v (E.neq rfl rfl) ?_
 refine FL.nil ?_
 rcases ifB hp with ⟨c21,hp⟩|⟨c21,hp⟩
 ·
  refine FW.condT rfl c21 ?_
  refine FW.seq (FW.region ?_)
  refine FL.v (E.assign (v:=Value.bool false) rfl) ?_
  refine FL.nil ?_
  refine FW.ret ?_
  obtain rfl:=Option.some.inj hp
  exact ⟨.inr rfl,res1 rfl rfl ⟨rfl,S0.back⟩⟩
 ·
  refine FW.condF rfl c21 ?_
  refine FW.skip (FW.seq (FW.seq (FW.region ?_)))
  refine FL.v (E.assign (v:=Value.int .i64 0) rfl) ?_
  refine FL.nil ?_
  obtain ⟨q23,hq,hp⟩:=bndR hp
  refine FW.block ?_
  refine FW.mono (FW.forL (S:=Unit) (X:=Bool) (fun (i23:Nat) (s23:Unit) f w=>∃ H:GH,St Ha wa H w []∧Inc Ha H∧f 5=Value.int .i64 ((i23:Nat):Int)∧f 0=v0∧f 1=v1) (fun q e f w=>match q with|.go s23=>e=Exit.exit 0∧(∃ H:GH,St Ha wa H w []∧Inc Ha H)|.rt x=>((e=Exit.ret)∧(fun e f w=>(e=Exit.normal∨e=Exit.ret)∧∀ a,Fr (δ:=[]) 26 a f→∃ v,(results Tryz.f102 a.tmps).run Tryz.prog w=.ok v w∧(Sc Ha wa (Value.bool x)) (.returned v) w) e f w)) hq ⟨_,S0,(Inc.rfl _),rfl,rfl,rfl⟩ ?_ ?_) ?_
  ·
   clear hp hq
   rintro i23 y22 s23 f55 w54 ⟨H51,S52,i53,k56,k57,k58⟩ hx23 o78 hp
   refine FW.seq (FW.seq (FW.region ?_))
   refine FL.v (E.move k56) ?_
   refine FL.v (E.move k57) ?_
   refine FL.v (E.lenP te34 rfl p0) ?_
   refine FL.v (E.lssT rfl rfl (zaw hx23)) ?_
   refine FL.nil ?_
   refine FW.condT rfl rfl ?_
   refine FW.skip (FW.seq (FW.block (FW.seq ?_)))
   refine FW.draw (fun w'=>Run w54.heap.size H51 w54 H51 w') (by kernel_rfl) (by kernel_rfl) (zaG S52.sl) ?_
   refine FD.val rfl rfl rfl (fun w' hw'=>(E.move k57)) ?_
   refine FD.val rfl rfl rfl (fun w' hw'=>(E.move k56)) ?_
   obtain ⟨p60,cs61,pt62,l63,at64,rel65⟩:=p0.at (zal hx23)
   obtain rfl:=zam rel65
   refine FD.val rfl rfl rfl (fun w' hw'=>(E.indexAddr te34 rfl rfl pt62)) ?_
   refine FD.val rfl rfl rfl (fun w' hw'=>(E.load rfl (zaf Tryz.isAgg3 ((at64.mono i53).now (S52.call hw').sl) rfl))) ?_
   refine FD.val rfl rfl rfl (fun w' hw'=>(E.move k58)) ?_
   refine FD.val rfl rfl rfl (fun w' hw'=>(E.move k56)) ?_
   obtain ⟨x72,hx73,hp⟩:=bnd hp
   obtain ⟨p66,cs67,pt68,l69,at70,rel71⟩:=p1.at hx73
   obtain rfl:=zam rel71
   refine FD.val rfl rfl rfl (fun w' hw'=>(E.indexAddr te34 rfl rfl pt68)) ?_
   refine FD.val rfl rfl rfl (fun w' hw'=>(E.load rfl (zaf Tryz.isAgg3 ((at70.mono i53).now (S52.call hw').sl) rfl))) ?_
   refine FD.val rfl rfl rfl (fun w' hw'=>(E.neq rfl rfl)) ?_
   refine FD.nil ?_
   intro w74 r76
   have S75:=S52.call r76
   rcases ifB hp with ⟨c77,hp⟩|⟨c77,hp⟩
   ·
    refine FW.condT rfl c77 ?_
    refine FW.seq (FW.region ?_)
    refine FL.v (E.assign (v:=Value.bool false) rfl) ?_
    refine FL.nil ?_
    refine FW.ret ?_
    obtain rfl:=Option.some.inj hp
    exact ⟨nofun,rfl,⟨.inr rfl,res1 rfl rfl ⟨rfl,S75.back⟩⟩⟩
   ·
    refine FW.condF rfl c77 ?_
    refine FW.skip (FW.region ?_)
    refine FL.v (E.move k56) ?_
    refine FL.v (E.add rfl rfl) ?_
    refine FL.v (E.assign (v:=Value.int .i64 (wr (((i23:Nat):Int) + 1))) rfl) ?_
    refine FL.nil ?_
    obtain rfl:=Option.some.inj hp
    exact ⟨rfl,⟨_,S75,i53,(zap rfl (zaq hx23) (p0.mono i53).le),k57,k58⟩⟩
  ·
   clear hp hq
   rintro s23 f88 w87 ⟨H84,S85,i86,k89,k90,k91⟩
   refine FW.seq (FW.seq (FW.region ?_))
   refine FL.v (E.move k89) ?_
   refine FL.v (E.move k90) ?_
   refine FL.v (E.lenP te34 rfl p0) ?_
   refine FL.v (E.lss rfl rfl) ?_
   refine FL.nil ?_
   refine FW.condF rfl zax ?_
   refine FW.exit ?_
   exact ⟨nofun,rfl,⟨_,S85,i86⟩⟩
  ·
   clear hq
   intro e f83 w82 hD
   rcases q23 with s23|x23
   ·
    obtain ⟨rfl,hD⟩:=hD
    obtain ⟨H79,S80,i81⟩:=hD
    replace hp:=el_go hp
    refine FW.seq (FW.region ?_)
    refine FL.v (E.assign (v:=Value.bool true) rfl) ?_
    refine FL.nil ?_
    refine FW.ret ?_
    obtain rfl:=Option.some.inj hp
    exact ⟨.inr rfl,res1 rfl rfl ⟨rfl,S80.back⟩⟩
   ·
    obtain ⟨he,hL⟩:=hD
    replace hp:=el_rt hp
    obtain rfl:=Option.some.inj hp
    subst he
    exact hL

@[reducible] def p_spec_l2Insert (Ha:GH) (wa:World) (bv:Value) (ba:(List (List Int))) (r:(List (List Int))):Ending→World→Prop :=
 fun e w'=>∃ H':GH,∃ v0:Value,e=.returned (v0)∧Run wa.heap.size Ha wa H' w'∧RSl H' (eL eI 1) 1 v0 r∧((v0=bv∧r=ba)∨Bk wa.heap.size H' (eL eI 1) 1 34 v0 r)
set_option maxHeartbeats 4000000 in
theorem w_spec_l2Insert {Ha:GH} {wa:World} (hs:Sl Ha wa) (v0:Value) (a0:List (List Int)) (p0:RSl Ha (eL eI 1) 1 v0 a0) (v1:Value) (a1:List Int) (p1:RSl Ha eI 1 v1 a1) {r:(List (List Int))} (hp:(PF.zds a0 a1)=some r) :
  Calls Tryz.prog 61 #[v0,v1] wa (p_spec_l2Insert Ha wa v0 a0 r):=by
 unfold PF.zds at hp
 have S0:=St.init hs
 refine zae (N:=34) (args:=[v0,v1]) Tryz.func61 rfl rfl rfl ?_
 refine FW.seq (FW.region ?_)
 refine FL.v (E.assign (v:=Value.slice none 0 0) rfl) ?_
 refine FL.nil (FW.seq (FW.region ?_))
 refine FL.v (E.move (v:=v0) rfl) ?_
 refine FL.v (E.move (v:=v1) rfl) ?_
 obtain ⟨r21,hr22,hp⟩:=bnd hp
 refine FL.call rfl rfl rfl (E.call Tryz.call101 (A2 rfl rfl)) (ze3 S0.sl v0 a0 p0 v1 a1 p1 hr22) ?_
 rintro e w23 ⟨rfl,r24⟩
 refine ⟨_,rfl,?_⟩
 have S25:=S0.call r24
 refine FL.v (E.assign (v:=Value.int .i64 r21) rfl) ?_
 refine FL.nil (FW.seq (FW.seq (FW.region ?_)))
 refine FL.v (E.move (v:=Value.int .i64 r21) rfl) ?_
 refine FL.v (E.move (v:=v0) rfl) ?_
 refine FL.v (E.lenP te24 rfl p0) ?_
 refine FL.v (E.lss rfl rfl) ?_
 refine FL.v (E.move (v:=Value.bool (decide (r21 < (len a0)))) rfl) ?_
 obtain ⟨t41,hqt41,hp⟩:=bnd hp
 refine FL.cut 7 (fun f w=>∃ H:GH,St Ha wa H w []∧Inc Ha H∧f 0=v0∧f 1=v1∧f 5=Value.int .i64 r21∧f 20=Value.bool t41) ?_ ?_
 ·
  clear hp;have hp:=hqt41;clear hqt41
  rcases ifB hp with ⟨c47,hp⟩|⟨c47,hp⟩
  ·
   refine FL.val (zab rfl rfl rfl c47) rfl rfl (E.move (v:=v0) rfl) ?_
   refine FL.val (zab rfl rfl rfl c47) rfl rfl (E.move (v:=Value.int .i64 r21) rfl) ?_
   obtain ⟨x54,hx55,hp⟩:=bnd hp
   obtain ⟨p48,cs49,pt50,l51,at52,rel53⟩:=p0.at hx55
   obtain ⟨v56,rfl,h57⟩:=zav rel53
   refine FL.val (zab rfl rfl rfl c47) rfl rfl (E.indexAddr te24 rfl rfl pt50) ?_
   refine FL.val (zab rfl rfl rfl c47) rfl rfl (E.load rfl (zaf Tryz.isAgg34 (at52.now S25.sl) rfl)) ?_
   refine FL.val (zab rfl rfl rfl c47) rfl rfl (E.move (v:=v1) rfl) ?_
   obtain ⟨r58,hr59,hp⟩:=bnd hp
   refine FL.call (zab rfl rfl rfl c47) rfl rfl (E.call Tryz.call102 (A2 rfl rfl)) (w_spec_l1Same S25.sl v56 x54 h57 v1 a1 p1 hr59) ?_
   rintro e w60 ⟨rfl,r61⟩
   refine ⟨_,rfl,?_⟩
   have S62:=S25.call r61
   obtain rfl:=Option.some.inj hp
   refine FL.v (E.pickT rfl c47 rfl) ?_
   exact FL.nil ⟨rfl,_,S62,(Inc.rfl _),rfl,rfl,rfl,rfl⟩
  ·
   refine FL.skip (wF_no rfl rfl rfl c47) rfl ?_
   refine FL.skip (wF_no rfl rfl rfl c47) rfl ?_
   refine FL.skip (wF_no rfl rfl rfl c47) rfl ?_
   refine FL.skip (wF_no rfl rfl rfl c47) rfl ?_
   refine FL.skip (wF_no rfl rfl rfl c47) rfl ?_
   refine FL.skip (wF_no rfl rfl rfl c47) rfl ?_
   obtain rfl:=Option.some.inj hp
   refine FL.v (E.pickF rfl c47 rfl) ?_
   exact FL.nil ⟨rfl,_,S25,(Inc.rfl _),rfl,rfl,rfl,rfl⟩
 rintro f46 w45 ⟨H42,S43,i44,k63,k64,k65,k66⟩
 refine FL.nil ?_
 rcases ifB hp with ⟨c67,hp⟩|⟨c67,hp⟩
 ·
  refine FW.condT k66 c67 ?_
  refine FW.seq (FW.region ?_)
  refine FL.v (E.move k63) ?_
  refine FL.v (E.assign (v:=v0) rfl) ?_
  refine FL.nil ?_
  refine FW.ret ?_
  obtain rfl:=Option.some.inj hp
  exact ⟨.inr rfl,res1 rfl rfl ⟨_,_,rfl,S43.run,(p0.mono i44),(.inl ⟨rfl,rfl⟩)⟩⟩
 ·
  refine FW.condF k66 c67 ?_
  refine FW.skip (FW.seq ?_)
  obtain ⟨xs31,hc32,hp⟩:=bnd hp
  obtain ⟨xs36,hz37,hp⟩:=bnd hp
  obtain ⟨xs80,hz81,hp⟩:=bnd hp
  obtain ⟨xs91,hc92,hp⟩:=bnd hp
  obtain ⟨xs96,hz97,hp⟩:=bnd hp
  refine FW.drawB (Sl H42) (fun f w=>∃ H:GH,∃ vA5:Value,∃ nA6:Nat,∃ csA7:List Value,St Ha wa H w [.row 34 1 vA5 nA6 csA7]∧Inc H42 H∧Els H (eL eI 1) 1 csA7 xs96∧f 4=vA5) (by kernel_rfl) S43.sl ?_ ?_
  ·
   intro w68 r69
   have S70:=S43.call r69
   refine FB.t (i:=1) (bs 13 2) rfl (SP.nil S70.sl) rfl (fun w' hw'=>(E.move k63)) ?_
   refine FB.t (i:=2) (bs 13 6) rfl (SP.nil S70.sl) rfl (fun w' hw'=>(E.move k65)) ?_
   obtain ⟨v33,run34,h35⟩:=p0.cut te24 hc32 (lo:=none) (hi:=some (Value.int .i64 r21)) (.inl ⟨rfl,rfl⟩) (.inr ⟨_,rfl⟩)
   refine FB.t (i:=3) (bs 13 14) rfl (SP.nil S70.sl) rfl (fun w' hw'=>(E.slice te24 rfl rfl (congrArg some rfl) rfl (run34 _))) ?_
   refine FB.t (i:=5) (bs 13 46) rfl (SP.nil S70.sl) rfl (fun w' hw'=>(E.move k64)) ?_
   refine FB.t (i:=8) (bs 13 302) rfl (SP.nil S70.sl) rfl (fun w' hw'=>(E.move k63)) ?_
   refine FB.t (i:=9) (bs 13 814) rfl (SP.nil S70.sl) rfl (fun w' hw'=>(E.move k65)) ?_
   obtain ⟨v93,run94,h95⟩:=p0.cut te24 hc92 (lo:=some (Value.int .i64 r21)) (hi:=none) (.inr ⟨_,rfl⟩) (.inl ⟨rfl,rfl⟩)
   refine FB.t (i:=10) (bs 13 1838) rfl (SP.nil S70.sl) rfl (fun w' hw'=>(E.slice te24 rfl (congrArg some rfl) rfl rfl (run94 _))) ?_
   refine FB.all2 (i:=0) (j:=6) (by kernel_rfl) ?_ ?_
   ·
    obtain ⟨v26,w27,run28,S29⟩:=S70.buildSlice (P:=Tryz.prog) te24 [] (parts:=#[]) (cells:=[]) rfl zao zan zad (Nat.le_of_ble_eq_true rfl)
    have els30:Els (up wa.heap.size H42) (eL eI 1) 1 [] []:=Els.nil
    refine FC.val (l':=(bs 13 1839)) rfl (by kernel_rfl) rfl rfl rfl (E.buildSlice (B0) run28) ?_
    refine ⟨(SP.nil S29.sl),?_⟩
    refine FB.all2 (i:=4) (j:=6) (by kernel_rfl) ?_ ?_
    ·
     obtain ⟨v38,w71,n39,cs40,run72,S73,els74⟩:=S29.appendP (P:=Tryz.prog) (Inc.rfl _) te24 (i:=0) rfl (els30.mono upI) (h35.mono i44) hz37
     have S73:St Ha wa H42 w71 [.row 34 1 v38 n39 cs40]:=S73
     refine FC.val (l':=(bs 13 1855)) rfl (by kernel_rfl) rfl rfl rfl (E.append rfl rfl run72) ?_
     refine ⟨(SP.nil S73.sl),?_⟩
     refine FB.all1 (i:=6) (by kernel_rfl) ?_
     ·
      obtain ⟨v75,w76,run77,S78⟩:=S73.buildSlice (P:=Tryz.prog) te24 [v1] (parts:=#[(0,v1)]) (cells:=[v1]) rfl (zat (zaH p1.cells) zao) (zas p1.cells zan) (zac p1.one zad) (Nat.le_of_ble_eq_true rfl)
      have els79:Els H42 (eL eI 1) 1 [v1] [a1]:=(Els.snoc (H:=H42) (E:=(eL eI 1)) (k:=1) (c:=[v1]) (x:=a1) Els.nil rfl ⟨_,rfl,(p1.mono i44)⟩)
      refine FC.val (l':=(bs 13 1919)) rfl (by kernel_rfl) rfl rfl rfl (E.buildSlice (B1 rfl) run77) ?_
      refine ⟨(SP.nil S78.sl),?_⟩
      refine FB.all1 (i:=7) (by kernel_rfl) ?_
      ·
       obtain ⟨v82,w85,n83,cs84,run86,S87,els88,ce89⟩:=S78.appendO (P:=Tryz.prog) te24 (i:=1) (j:=0) rfl els74 rfl els79 hz81
       have S87:St Ha wa H42 w85 [.row 34 1 v75 1 [v1],.row 34 1 v82 n83 cs84]:=S87
       have S90:St Ha wa H42 w85 [.row 34 1 v82 n83 cs84]:=S87.drop 0
       refine FC.val (l':=(bs 13 2047)) rfl (by kernel_rfl) rfl rfl rfl (E.append rfl rfl run86) ?_
       refine ⟨(SP.nil S90.sl),?_⟩
       refine FB.all1 (i:=11) (by kernel_rfl) ?_
       ·
        obtain ⟨v98,wA1,n99,csA0,runA2,SA3,elsA4⟩:=S90.appendP (P:=Tryz.prog) (Inc.rfl _) te24 (i:=0) rfl els88 (h95.mono i44) hz97
        have SA3:St Ha wa H42 wA1 [.row 34 1 v98 n99 csA0]:=SA3
        refine FC.val (l':=(bs 13 4095)) rfl (by kernel_rfl) rfl rfl rfl (E.append rfl rfl runA2) ?_
        refine ⟨(SP.nil SA3.sl),?_⟩
        refine FB.t (i:=12) (bs 13 8191) rfl (SP.nil SA3.sl) rfl (fun w' hw'=>(E.assign (v:=v98) rfl)) ?_
        exact FB.done (by kernel_rfl) ⟨_,_,_,_,SA3,(Inc.rfl _),elsA4,rfl⟩
    ·
     obtain ⟨v75,w76,run77,S78⟩:=S29.buildSlice (P:=Tryz.prog) te24 [v1] (parts:=#[(0,v1)]) (cells:=[v1]) rfl (zat (zaH p1.cells) zao) (zas p1.cells zan) (zac p1.one zad) (Nat.le_of_ble_eq_true rfl)
     have els79:Els H42 (eL eI 1) 1 [v1] [a1]:=(Els.snoc (H:=H42) (E:=(eL eI 1)) (k:=1) (c:=[v1]) (x:=a1) Els.nil rfl ⟨_,rfl,(p1.mono i44)⟩)
     refine FC.val (l':=(bs 13 1903)) rfl (by kernel_rfl) rfl rfl rfl (E.buildSlice (B1 rfl) run77) ?_
     refine ⟨(SP.nil S78.sl),?_⟩
     refine FB.all1 (i:=4) (by kernel_rfl) ?_
     ·
      obtain ⟨v38,w71,n39,cs40,run72,S73,els74⟩:=S78.appendP (P:=Tryz.prog) (Inc.rfl _) te24 (i:=1) rfl (els30.mono upI) (h35.mono i44) hz37
      have S73:St Ha wa H42 w71 [.row 34 1 v75 1 [v1],.row 34 1 v38 n39 cs40]:=S73
      refine FC.val (l':=(bs 13 1919)) rfl (by kernel_rfl) rfl rfl rfl (E.append rfl rfl run72) ?_
      refine ⟨(SP.nil S73.sl),?_⟩
      refine FB.all1 (i:=7) (by kernel_rfl) ?_
      ·
       obtain ⟨v82,w85,n83,cs84,run86,S87,els88,ce89⟩:=S73.appendO (P:=Tryz.prog) te24 (i:=1) (j:=0) rfl els74 rfl els79 hz81
       have S87:St Ha wa H42 w85 [.row 34 1 v75 1 [v1],.row 34 1 v82 n83 cs84]:=S87
       have S90:St Ha wa H42 w85 [.row 34 1 v82 n83 cs84]:=S87.drop 0
       refine FC.val (l':=(bs 13 2047)) rfl (by kernel_rfl) rfl rfl rfl (E.append rfl rfl run86) ?_
       refine ⟨(SP.nil S90.sl),?_⟩
       refine FB.all1 (i:=11) (by kernel_rfl) ?_
       ·
        obtain ⟨v98,wA1,n99,csA0,runA2,SA3,elsA4⟩:=S90.appendP (P:=Tryz.prog) (Inc.rfl _) te24 (i:=0) rfl els88 (h95.mono i44) hz97
        have SA3:St Ha wa H42 wA1 [.row 34 1 v98 n99 csA0]:=SA3
        refine FC.val (l':=(bs 13 4095)) rfl (by kernel_rfl) rfl rfl rfl (E.append rfl rfl runA2) ?_
        refine ⟨(SP.nil SA3.sl),?_⟩
        refine FB.t (i:=12) (bs 13 8191) rfl (SP.nil SA3.sl) rfl (fun w' hw'=>(E.assign (v:=v98) rfl)) ?_
        exact FB.done (by kernel_rfl) ⟨_,_,_,_,SA3,(Inc.rfl _),elsA4,rfl⟩
   ·
    obtain ⟨v75,w76,run77,S78⟩:=S70.buildSlice (P:=Tryz.prog) te24 [v1] (parts:=#[(0,v1)]) (cells:=[v1]) rfl (zat (zaH p1.cells) zao) (zas p1.cells zan) (zac p1.one zad) (Nat.le_of_ble_eq_true rfl)
    have els79:Els H42 (eL eI 1) 1 [v1] [a1]:=(Els.snoc (H:=H42) (E:=(eL eI 1)) (k:=1) (c:=[v1]) (x:=a1) Els.nil rfl ⟨_,rfl,(p1.mono i44)⟩)
    refine FC.val (l':=(bs 13 1902)) rfl (by kernel_rfl) rfl rfl rfl (E.buildSlice (B1 rfl) run77) ?_
    refine ⟨(SP.nil S78.sl),?_⟩
    refine FB.all1 (i:=0) (by kernel_rfl) ?_
    ·
     obtain ⟨v26,w27,run28,S29⟩:=S78.buildSlice (P:=Tryz.prog) te24 [] (parts:=#[]) (cells:=[]) rfl zao zan zad (Nat.le_of_ble_eq_true rfl)
     have els30:Els (up wa.heap.size H42) (eL eI 1) 1 [] []:=Els.nil
     refine FC.val (l':=(bs 13 1903)) rfl (by kernel_rfl) rfl rfl rfl (E.buildSlice (B0) run28) ?_
     refine ⟨(SP.nil S29.sl),?_⟩
     refine FB.all1 (i:=4) (by kernel_rfl) ?_
     ·
      obtain ⟨v38,w71,n39,cs40,run72,S73,els74⟩:=S29.appendP (P:=Tryz.prog) (Inc.rfl _) te24 (i:=0) rfl (els30.mono upI) (h35.mono i44) hz37
      have S73:St Ha wa H42 w71 [.row 34 1 v38 n39 cs40,.row 34 1 v75 1 [v1]]:=S73
      refine FC.val (l':=(bs 13 1919)) rfl (by kernel_rfl) rfl rfl rfl (E.append rfl rfl run72) ?_
      refine ⟨(SP.nil S73.sl),?_⟩
      refine FB.all1 (i:=7) (by kernel_rfl) ?_
      ·
       obtain ⟨v82,w85,n83,cs84,run86,S87,els88,ce89⟩:=S73.appendO (P:=Tryz.prog) te24 (i:=0) (j:=1) rfl els74 rfl els79 hz81
       have S87:St Ha wa H42 w85 [.row 34 1 v82 n83 cs84,.row 34 1 v75 1 [v1]]:=S87
       have S90:St Ha wa H42 w85 [.row 34 1 v82 n83 cs84]:=S87.drop 1
       refine FC.val (l':=(bs 13 2047)) rfl (by kernel_rfl) rfl rfl rfl (E.append rfl rfl run86) ?_
       refine ⟨(SP.nil S90.sl),?_⟩
       refine FB.all1 (i:=11) (by kernel_rfl) ?_
       ·
        obtain ⟨v98,wA1,n99,csA0,runA2,SA3,elsA4⟩:=S90.appendP (P:=Tryz.prog) (Inc.rfl _) te24 (i:=0) rfl els88 (h95.mono i44) hz97
        have SA3:St Ha wa H42 wA1 [.row 34 1 v98 n99 csA0]:=SA3
        refine FC.val (l':=(bs 13 4095)) rfl (by kernel_rfl) rfl rfl rfl (E.append rfl rfl runA2) ?_
        refine ⟨(SP.nil SA3.sl),?_⟩
        refine FB.t (i:=12) (bs 13 8191) rfl (SP.nil SA3.sl) rfl (fun w' hw'=>(E.assign (v:=v98) rfl)) ?_
        exact FB.done (by kernel_rfl) ⟨_,_,_,_,SA3,(Inc.rfl _),elsA4,rfl⟩
  ·
   rintro fAd wAc ⟨HA9,vA5,nA6,csA7,SAa,iAb,elsA8,kAe⟩
   refine FW.ret ?_
   obtain ⟨HAf,SAg,iAh,hAi,bk119⟩:=SAa.sealBk (i:=0) (l':=[]) rfl elsA8 (by decide) rfl
   obtain rfl:=Option.some.inj hp
   exact ⟨.inr rfl,res1 rfl kAe ⟨_,_,rfl,SAg.run,hAi,(.inr bk119)⟩⟩

@[reducible] def p_spec_l13Sorted (Ha:GH) (wa:World) (r:(List (List Int))):Ending→World→Prop :=
 fun e w'=>∃ H':GH,∃ v0:Value,e=.returned (v0)∧Run wa.heap.size Ha wa H' w'∧RSl H' (eL eI 1) 1 v0 r∧(Bk wa.heap.size H' (eL eI 1) 1 34 v0 r)
theorem ze4 {Ha:GH} {wa:World} (hs:Sl Ha wa) (a0:Cnf) (v0_1:Value) (p0_1:RSl Ha (eL eI 1) 1 v0_1 a0.clauses) (a1:Int) {r:(List (List Int))} (hp:(PF.zb3 a0 a1)=some r) :
  Calls Tryz.prog 32 #[Value.agg #[Value.int .i64 a0.vars,v0_1],Value.int .i64 a1] wa (p_spec_l13Sorted Ha wa r):=by
 unfold PF.zb3 at hp
 have S0:=St.init hs
 refine zae (N:=26) (args:=[Value.agg #[Value.int .i64 a0.vars,v0_1],Value.int .i64 a1]) Tryz.func32 rfl rfl rfl ?_
 refine FW.seq (FW.region ?_)
 obtain ⟨b21,w22,run23,S24⟩:=S0.box (P:=Tryz.prog) 26 [Value.int .i64 a0.vars,v0_1] (v:=Value.agg #[Value.int .i64 a0.vars,v0_1]) rfl (zac rfl (zac p0_1.one zad))
 refine FL.v (E.box rfl run23) ?_
 obtain ⟨H25,S26,i27,at28⟩:=S24.sealBox (i:=0) (l':=[]) rfl rfl
 refine FL.v (E.assign (v:=Value.slice none 0 0) rfl) ?_
 refine FL.nil (FW.seq (FW.region ?_))
 refine FL.v (E.load rfl (zai Tryz.isAgg26 Tryz.sizeOf26 (at28.now S26.sl) rfl)) ?_
 refine FL.v (E.move (v:=Value.int .i64 a1) rfl) ?_
 obtain ⟨v29,w30,run31,S32⟩:=S26.buildSlice (P:=Tryz.prog) te34 [] (parts:=#[]) (cells:=[]) rfl zao zan zad (Nat.le_of_ble_eq_true rfl)
 have els33:Els (up wa.heap.size H25) eI 1 [] []:=Els.nil
 refine FL.v (E.buildSlice (B0) run31) ?_
 obtain ⟨H34,S35,i36,h37,nv38⟩:=S32.sealRowU (i:=0) (l':=[]) rfl els33 (by decide) rfl
 obtain ⟨r39,hr40,hp⟩:=bnd hp
 refine FL.call rfl rfl rfl (E.call Tryz.call60 (A4 rfl rfl rfl rfl)) (w_spec_l13All S35.sl a0 v0_1 (p0_1.mono (i27.tr i36)) a1 v29 [] (h37.mono upI) 0 hr40) ?_
 rintro e w42 ⟨H41,v45,n46,cs47,rfl,r44,els48⟩
 refine ⟨_,rfl,?_⟩
 have S43:=S35.join (l':=[.row 34 1 v45 n46 cs47]) r44 rfl
 obtain ⟨v49,w50,run51,S52⟩:=S43.buildSlice (P:=Tryz.prog) te24 [] (parts:=#[]) (cells:=[]) rfl zao zan zad (Nat.le_of_ble_eq_true rfl)
 have els53:Els (up wa.heap.size H41) (eL eI 1) 1 [] []:=Els.nil
 refine FL.v (E.buildSlice (B0) run51) ?_
 refine FL.v (E.assign (v:=v45) rfl) ?_
 refine FL.v (E.assign (v:=v49) rfl) ?_
 refine FL.nil (FW.seq (FW.seq (FW.region ?_)))
 refine FL.v (E.assign (v:=Value.int .i64 0) rfl) ?_
 refine FL.nil ?_
 obtain ⟨H54,S55,i56,h57,bk59⟩:=S52.sealBk (i:=0) (l':=[.row 34 1 v45 n46 cs47]) rfl (els53.mono upI) (by decide) rfl
 obtain ⟨q60,hq,hp⟩:=bndR hp
 refine FW.block ?_
 refine FW.mono (FW.iter (S:=((List (List Int))×Int)) (X:=Empty) (fun (s60:((List (List Int))×Int)) f w=>∃ H:GH,∃ v61:Value,St Ha wa H w [.row 34 1 v45 n46 cs47]∧Inc H54 H∧RSl H (eL eI 1) 1 v61 s60.1∧Bk wa.heap.size H (eL eI 1) 1 34 v61 s60.1∧f 5=v45∧f 6=v61∧f 7=Value.int .i64 s60.2) (fun (q:Rs ((List (List Int))×Int) Empty) e f w=>match q with|.go s60=>e=Exit.exit 0∧(∃ H:GH,∃ v61:Value,St Ha wa H w [.row 34 1 v45 n46 cs47]∧Inc H54 H∧RSl H (eL eI 1) 1 v61 s60.1∧Bk wa.heap.size H (eL eI 1) 1 34 v61 s60.1∧f 6=v61)|.rt x=>x.elim) hq ⟨_,_,S55,(Inc.rfl _),h57,bk59,rfl,rfl,rfl⟩ ?_) ?_
 ·
  clear hp hq
  rintro s60 f96 w95 ⟨H92,v61,S93,i94,h62,bk63,k97,k98,k99⟩ oAk hp
  refine FW.seq (FW.seq (FW.region ?_))
  refine FL.v (E.move k99) ?_
  refine FL.v (E.move k97) ?_
  refine FL.v (E.lenO te24 rfl S93 (i:=0) rfl els48 (by decide)) ?_
  refine FL.v (E.lss rfl rfl) ?_
  refine FL.nil ?_
  rcases ifB hp with ⟨cA0,hp⟩|⟨cA0,hp⟩
  ·
   refine FW.condT rfl cA0 ?_
   refine FW.skip (FW.seq (FW.block (FW.region ?_)))
   refine FL.v (E.move k98) ?_
   refine FL.v (E.move k97) ?_
   refine FL.v (E.move k99) ?_
   obtain ⟨xA7,hxA8,hp⟩:=bnd hp
   obtain ⟨pA1,csA2,ptA3,lA4,atA5,relA6⟩:=S93.row_at (i:=0) rfl els48 (by decide) hxA8
   obtain ⟨vA9,rfl,hAa⟩:=zav relA6
   refine FL.v (E.indexAddr te24 rfl rfl ptA3) ?_
   refine FL.v (E.load rfl (zaf Tryz.isAgg34 atA5 rfl)) ?_
   obtain ⟨rAb,hrAc,hp⟩:=bnd hp
   refine FL.call rfl rfl rfl (E.call Tryz.call61 (A2 rfl rfl)) (w_spec_l2Insert S93.sl v61 s60.1 h62 vA9 xA7 (hAa.mono (i56.tr i94)) hrAc) ?_
   rintro e wAe ⟨HAd,vAh,rfl,rAg,hAi,bk119⟩
   refine ⟨_,rfl,?_⟩
   have bk119:Bk wa.heap.size HAd (eL eI 1) 1 34 vAh rAb:=bk119.elim (fun z=>by rw [z.1,z.2];exact (bk63.mono rAg.inc)) (fun z=>z.le S93.size)
   have SAf:=S93.call rAg
   refine FL.v (E.assign (v:=vAh) rfl) ?_
   refine FL.nil (FW.region ?_)
   refine FL.v (E.move k99) ?_
   refine FL.v (E.add rfl rfl) ?_
   refine FL.v (E.assign (v:=Value.int .i64 (wr (s60.2 + 1))) rfl) ?_
   refine FL.nil ?_
   obtain rfl:=Option.some.inj hp
   exact ⟨rfl,⟨_,_,SAf,(i94.tr rAg.inc),hAi,bk119,k97,rfl,rfl⟩⟩
  ·
   refine FW.condF rfl cA0 ?_
   refine FW.exit ?_
   obtain rfl:=Option.some.inj hp
   exact ⟨nofun,rfl,⟨_,_,S93,i94,h62,bk63,k98⟩⟩
 ·
  clear hq
  intro e fAp wAo hD
  rcases q60 with s60|x60
  ·
   obtain ⟨rfl,hD⟩:=hD
   obtain ⟨HAl,v61,SAm,iAn,h62,bk63,kAq⟩:=hD
   replace hp:=el_go hp
   refine FW.seq (FW.region ?_)
   refine FL.v (E.move kAq) ?_
   refine FL.v (E.assign (v:=v61) rfl) ?_
   refine FL.nil ?_
   refine FW.ret ?_
   obtain rfl:=Option.some.inj hp
   exact ⟨.inr rfl,res1 rfl rfl ⟨_,_,rfl,SAm.run,h62,bk63⟩⟩
  ·
   exact x60.elim

theorem zes {Ha:GH} {wa:World} (hs:Sl Ha wa) (v0:Value) (a0:List (List Int)) (p0:RSl Ha (eL eI 1) 1 v0 a0) (v1:Value) (a1:List Int) (p1:RSl Ha eI 1 v1 a1) {r:Int} (hp:(PF.zb4 a0 a1)=some r) :
  Calls Tryz.prog 89 #[v0,v1] wa (Sc Ha wa (Value.int .i64 r)):=by
 unfold PF.zb4 at hp
 have S0:=St.init hs
 refine zae (N:=22) (args:=[v0,v1]) Tryz.func89 rfl rfl rfl ?_
 refine FW.seq (FW.region ?_)
 refine FL.v (E.assign (v:=Value.int .i64 0) rfl) ?_
 refine FL.nil (FW.seq (FW.region ?_))
 refine FL.v (E.move (v:=v0) rfl) ?_
 refine FL.v (E.move (v:=v1) rfl) ?_
 obtain ⟨r21,hr22,hp⟩:=bnd hp
 refine FL.call rfl rfl rfl (E.call Tryz.call101 (A2 rfl rfl)) (ze3 S0.sl v0 a0 p0 v1 a1 p1 hr22) ?_
 rintro e w23 ⟨rfl,r24⟩
 refine ⟨_,rfl,?_⟩
 have S25:=S0.call r24
 refine FL.v (E.assign (v:=Value.int .i64 r21) rfl) ?_
 refine FL.nil (FW.seq (FW.seq (FW.region ?_)))
 refine FL.v (E.move (v:=Value.int .i64 r21) rfl) ?_
 refine FL.v (E.move (v:=v0) rfl) ?_
 refine FL.v (E.lenP te24 rfl p0) ?_
 refine FL.v (E.lss rfl rfl) ?_
 refine FL.v (E.move (v:=Value.bool (decide (r21 < (len a0)))) rfl) ?_
 obtain ⟨t41,hqt41,hp⟩:=bnd hp
 refine FL.cut 7 (fun f w=>∃ H:GH,St Ha wa H w []∧Inc Ha H∧f 5=Value.int .i64 r21∧f 20=Value.bool t41) ?_ ?_
 ·
  clear hp;have hp:=hqt41;clear hqt41
  rcases ifB hp with ⟨c47,hp⟩|⟨c47,hp⟩
  ·
   refine FL.val (zab rfl rfl rfl c47) rfl rfl (E.move (v:=v0) rfl) ?_
   refine FL.val (zab rfl rfl rfl c47) rfl rfl (E.move (v:=Value.int .i64 r21) rfl) ?_
   obtain ⟨x54,hx55,hp⟩:=bnd hp
   obtain ⟨p48,cs49,pt50,l51,at52,rel53⟩:=p0.at hx55
   obtain ⟨v56,rfl,h57⟩:=zav rel53
   refine FL.val (zab rfl rfl rfl c47) rfl rfl (E.indexAddr te24 rfl rfl pt50) ?_
   refine FL.val (zab rfl rfl rfl c47) rfl rfl (E.load rfl (zaf Tryz.isAgg34 (at52.now S25.sl) rfl)) ?_
   refine FL.val (zab rfl rfl rfl c47) rfl rfl (E.move (v:=v1) rfl) ?_
   obtain ⟨r58,hr59,hp⟩:=bnd hp
   refine FL.call (zab rfl rfl rfl c47) rfl rfl (E.call Tryz.call102 (A2 rfl rfl)) (w_spec_l1Same S25.sl v56 x54 h57 v1 a1 p1 hr59) ?_
   rintro e w60 ⟨rfl,r61⟩
   refine ⟨_,rfl,?_⟩
   have S62:=S25.call r61
   obtain rfl:=Option.some.inj hp
   refine FL.v (E.pickT rfl c47 rfl) ?_
   exact FL.nil ⟨rfl,_,S62,(Inc.rfl _),rfl,rfl⟩
  ·
   refine FL.skip (wF_no rfl rfl rfl c47) rfl ?_
   refine FL.skip (wF_no rfl rfl rfl c47) rfl ?_
   refine FL.skip (wF_no rfl rfl rfl c47) rfl ?_
   refine FL.skip (wF_no rfl rfl rfl c47) rfl ?_
   refine FL.skip (wF_no rfl rfl rfl c47) rfl ?_
   refine FL.skip (wF_no rfl rfl rfl c47) rfl ?_
   obtain rfl:=Option.some.inj hp
   refine FL.v (E.pickF rfl c47 rfl) ?_
   exact FL.nil ⟨rfl,_,S25,(Inc.rfl _),rfl,rfl⟩
 rintro f46 w45 ⟨H42,S43,i44,k63,k64⟩
 refine FL.nil ?_
 rcases ifB hp with ⟨c65,hp⟩|⟨c65,hp⟩
 ·
  refine FW.condT k64 c65 ?_
  refine FW.seq (FW.region ?_)
  refine FL.v (E.move k63) ?_
  refine FL.v (E.assign (v:=Value.int .i64 r21) rfl) ?_
  refine FL.nil ?_
  refine FW.ret ?_
  obtain rfl:=Option.some.inj hp
  exact ⟨.inr rfl,res1 rfl rfl ⟨rfl,S43.back⟩⟩
 ·
  refine FW.condF k64 c65 ?_
  refine FW.skip (FW.seq (FW.region ?_))
  refine FL.v (E.assign (v:=Value.int .i64 (-1)) rfl) ?_
  refine FL.nil ?_
  refine FW.ret ?_
  obtain rfl:=Option.some.inj hp
  exact ⟨.inr rfl,res1 rfl rfl ⟨rfl,S43.back⟩⟩

set_option maxHeartbeats 4000000 in
theorem ze5 {Ha:GH} {wa:World} (hs:Sl Ha wa) (a0:Cnf) (v0_1:Value) (p0_1:RSl Ha (eL eI 1) 1 v0_1 a0.clauses) (a1:Int) (v2:Value) (a2:List (List Int)) (p2:RSl Ha (eL eI 1) 1 v2 a2) (v3:Value) (a3:List Int) (p3:RSl Ha eI 1 v3 a3) {r:Bool} (hp:(PF.zb5 a0 a1 a2 a3)=some r) :
  Calls Tryz.prog 52 #[Value.agg #[Value.int .i64 a0.vars,v0_1],Value.int .i64 a1,v2,v3] wa (Sc Ha wa (Value.bool r)):=by
 unfold PF.zb5 at hp
 have S0:=St.init hs
 refine zae (N:=67) (args:=[Value.agg #[Value.int .i64 a0.vars,v0_1],Value.int .i64 a1,v2,v3]) Tryz.func52 rfl rfl rfl ?_
 refine FW.seq (FW.region ?_)
 obtain ⟨b21,w22,run23,S24⟩:=S0.box (P:=Tryz.prog) 26 [Value.int .i64 a0.vars,v0_1] (v:=Value.agg #[Value.int .i64 a0.vars,v0_1]) rfl (zac rfl (zac p0_1.one zad))
 refine FL.v (E.box rfl run23) ?_
 obtain ⟨H25,S26,i27,at28⟩:=S24.sealBox (i:=0) (l':=[]) rfl rfl
 refine FL.v (E.assign (v:=Value.bool false) rfl) ?_
 refine FL.nil (FW.seq (FW.seq (FW.region ?_)))
 refine FL.v (E.assign (v:=Value.int .i64 0) rfl) ?_
 refine FL.nil ?_
 obtain ⟨q30,hq,hp⟩:=bndR hp
 refine FW.block ?_
 refine FW.mono (FW.forL (S:=Unit) (X:=Bool) (fun (i30:Nat) (s30:Unit) f w=>∃ H:GH,St Ha wa H w []∧Inc H25 H∧f 9=Value.int .i64 ((i30:Nat):Int)∧f 1=Value.int .i64 a1∧f 2=v2∧f 3=v3∧f 4=Value.pointer (some ⟨b21,0,none⟩)) (fun q e f w=>match q with|.go s30=>e=Exit.exit 0∧(∃ H:GH,St Ha wa H w []∧Inc H25 H∧f 1=Value.int .i64 a1∧f 2=v2∧f 3=v3∧f 4=Value.pointer (some ⟨b21,0,none⟩))|.rt x=>((e=Exit.ret)∧(fun e f w=>(e=Exit.normal∨e=Exit.ret)∧∀ a,Fr (δ:=[]) 67 a f→∃ v,(results Tryz.f52 a.tmps).run Tryz.prog w=.ok v w∧(Sc Ha wa (Value.bool x)) (.returned v) w) e f w)) hq ⟨_,S26,(Inc.rfl _),rfl,rfl,rfl,rfl,rfl⟩ ?_ ?_) ?_
 ·
  clear hp hq
  rintro i30 y29 s30 f75 w74 ⟨H71,S72,i73,k76,k77,k78,k79,k80⟩ hx30 oAb hp
  refine FW.seq (FW.seq (FW.region ?_))
  refine FL.v (E.move k76) ?_
  refine FL.v (E.move k79) ?_
  refine FL.v (E.lenP te34 rfl p3) ?_
  refine FL.v (E.lssT rfl rfl (zaw hx30)) ?_
  refine FL.nil ?_
  refine FW.condT rfl rfl ?_
  refine FW.skip (FW.seq (FW.block (FW.seq (FW.region ?_))))
  refine FL.v (E.move k78) ?_
  refine FL.v (E.move k79) ?_
  refine FL.v (E.move k79) ?_
  refine FL.v (E.move k76) ?_
  obtain ⟨p81,cs82,pt83,l84,at85,rel86⟩:=p3.at (zal hx30)
  obtain rfl:=zam rel86
  refine FL.v (E.indexAddr te34 rfl rfl pt83) ?_
  refine FL.v (E.load rfl (zaf Tryz.isAgg3 ((at85.mono (i27.tr i73)).now S72.sl) rfl)) ?_
  refine FL.call rfl rfl rfl (E.call Tryz.call91 (A1 rfl)) (zcm S72.sl y29) ?_
  rintro e w87 ⟨rfl,r88⟩
  refine ⟨_,rfl,?_⟩
  have S89:=S72.call r88
  obtain ⟨r90,hr91,hp⟩:=bnd hp
  refine FL.call rfl rfl rfl (E.call Tryz.call90 (A2 rfl rfl)) (zeO S89.sl v3 a3 (p3.mono (i27.tr i73)) (PF.zaY y29) hr91) ?_
  rintro e w93 ⟨H92,v96,n97,cs98,rfl,r95,els99⟩
  refine ⟨_,rfl,?_⟩
  have els99:=els99.mono (up_le S89.size)
  have S94:=S89.join (l':=[.row 3 1 v96 n97 cs98]) r95 rfl
  obtain ⟨HA0,SA1,iA2,hA3,nvA4⟩:=S94.sealRowU (i:=0) (l':=[]) rfl els99 (by decide) rfl
  obtain ⟨rA5,hrA6,hp⟩:=bnd hp
  refine FL.call rfl rfl rfl (E.call Tryz.call89 (A2 rfl rfl)) (zes SA1.sl v2 a2 (p2.mono (((i27.tr i73).tr r95.run.inc).tr iA2)) v96 r90 (hA3.mono upI) hrA6) ?_
  rintro e wA7 ⟨rfl,rA8⟩
  refine ⟨_,rfl,?_⟩
  have rA8:=Run.lend iA2 S94.sl rA8
  have SA9:=S94.call rA8
  refine FL.v (E.lss rfl rfl) ?_
  refine FL.nil ?_
  rcases ifB hp with ⟨cAa,hp⟩|⟨cAa,hp⟩
  ·
   refine FW.condT rfl cAa ?_
   refine FW.seq (FW.region ?_)
   refine FL.v (E.assign (v:=Value.bool false) rfl) ?_
   refine FL.nil ?_
   refine FW.ret ?_
   obtain rfl:=Option.some.inj hp
   exact ⟨nofun,rfl,⟨.inr rfl,res1 rfl rfl ⟨rfl,SA9.back⟩⟩⟩
  ·
   refine FW.condF rfl cAa ?_
   refine FW.skip (FW.region ?_)
   refine FL.v (E.move k76) ?_
   refine FL.v (E.add rfl rfl) ?_
   refine FL.v (E.assign (v:=Value.int .i64 (wr (((i30:Nat):Int) + 1))) rfl) ?_
   refine FL.nil ?_
   obtain rfl:=Option.some.inj hp
   exact ⟨rfl,⟨_,(SA9.sel [] (by decide) rfl),(i73.tr r95.run.inc),(zap rfl (zaq hx30) (p3.mono ((i27.tr i73).tr r95.run.inc)).le),k77,k78,k79,k80⟩⟩
 ·
  clear hp hq
  rintro s30 fFE wFD ⟨HFA,SFB,iFC,kFF,kFG,kFH,kFI,kFJ⟩
  refine FW.seq (FW.seq (FW.region ?_))
  refine FL.v (E.move kFF) ?_
  refine FL.v (E.move kFI) ?_
  refine FL.v (E.lenP te34 rfl p3) ?_
  refine FL.v (E.lss rfl rfl) ?_
  refine FL.nil ?_
  refine FW.condF rfl zax ?_
  refine FW.exit ?_
  exact ⟨nofun,rfl,⟨_,SFB,iFC,kFG,kFH,kFI,kFJ⟩⟩
 ·
  clear hq
  intro e fAg wAf hD
  rcases q30 with s30|x30
  ·
   obtain ⟨rfl,hD⟩:=hD
   obtain ⟨HAc,SAd,iAe,kAh,kAi,kAj,kAk⟩:=hD
   replace hp:=el_go hp
   refine FW.seq (FW.seq (FW.region ?_))
   refine FL.v (E.assign (v:=Value.int .i64 1) rfl) ?_
   refine FL.nil ?_
   obtain ⟨qAl,hq,hp⟩:=bndR hp
   refine FW.block ?_
   refine FW.mono (FW.iter (S:=Int) (X:=Bool) (fun (sAl:Int) f w=>∃ H:GH,St Ha wa H w []∧Inc HAc H∧f 1=Value.int .i64 a1∧f 2=v2∧f 3=v3∧f 4=Value.pointer (some ⟨b21,0,none⟩)∧f 10=Value.int .i64 sAl) (fun q e f w=>match q with|.go sAl=>e=Exit.exit 2∧(∃ H:GH,St Ha wa H w []∧Inc HAc H)|.rt x=>((e=Exit.ret)∧(fun e f w=>(e=Exit.normal∨e=Exit.ret)∧∀ a,Fr (δ:=[]) 67 a f→∃ v,(results Tryz.f52 a.tmps).run Tryz.prog w=.ok v w∧(Sc Ha wa (Value.bool x)) (.returned v) w) e f w)) hq ⟨_,SAd,(Inc.rfl _),kAh,kAi,kAj,kAk,rfl⟩ ?_) ?_
   ·
    clear hp hq
    rintro sAl fCZ wCY ⟨HCV,SCW,iCX,kD0,kD1,kD2,kD3,kD4⟩ oFu hp
    refine FW.seq (FW.seq (FW.region ?_))
    refine FL.v (E.move kD4) ?_
    refine FL.v (E.fieldAddr zaC kD3) ?_
    refine FL.v (E.load rfl (zah Tryz.isAgg3 ((at28.mono (iAe.tr iCX)).now SCW.sl) rfl)) ?_
    refine FL.v (E.leq rfl rfl) ?_
    refine FL.v (E.move (v:=Value.bool (decide (sAl≤a0.vars))) rfl) ?_
    refine FL.cut 5 (fun f w=>∃ H:GH,St Ha wa H w []∧Inc HCV H∧f 1=Value.int .i64 a1∧f 2=v2∧f 3=v3∧f 4=Value.pointer (some ⟨b21,0,none⟩)∧f 10=Value.int .i64 sAl∧f 36=Value.bool (bif (decide (sAl≤a0.vars)) then (decide ((len a3)≤a1)) else false)) ?_ ?_
    ·
     rcases bcase (decide (sAl≤a0.vars)) with cDb|cDb
     ·
      refine FL.val (zab rfl rfl rfl cDb) rfl rfl (E.move kD2) ?_
      refine FL.val (zab rfl rfl rfl cDb) rfl rfl (E.lenP te34 rfl p3) ?_
      refine FL.val (zab rfl rfl rfl cDb) rfl rfl (E.move kD0) ?_
      refine FL.val (zab rfl rfl rfl cDb) rfl rfl (E.leq rfl rfl) ?_
      refine FL.v (E.pickT rfl cDb rfl) ?_
      exact FL.nil ⟨rfl,_,SCW,(Inc.rfl _),kD0,kD1,kD2,kD3,kD4,(congrArg Value.bool (bifT cDb).symm)⟩
     ·
      refine FL.skip (wF_no rfl rfl rfl cDb) rfl ?_
      refine FL.skip (wF_no rfl rfl rfl cDb) rfl ?_
      refine FL.skip (wF_no rfl rfl rfl cDb) rfl ?_
      refine FL.skip (wF_no rfl rfl rfl cDb) rfl ?_
      refine FL.v (E.pickF rfl cDb rfl) ?_
      exact FL.nil ⟨rfl,_,SCW,(Inc.rfl _),kD0,kD1,kD2,kD3,kD4,(congrArg Value.bool (bifF cDb).symm)⟩
    rintro fDa wD9 ⟨HD6,SD7,iD8,kDc,kDd,kDe,kDf,kDg,kDh⟩
    refine FL.nil ?_
    rcases ifB hp with ⟨cDi,hp⟩|⟨cDi,hp⟩
    ·
     refine FW.condT kDh cDi ?_
     refine FW.skip (FW.seq (FW.block (FW.seq (FW.region ?_))))
     refine FL.v (E.move kDe) ?_
     refine FL.v (E.move kDg) ?_
     obtain ⟨rDj,hrDk,hp⟩:=bnd hp
     refine FL.call rfl rfl rfl (E.call Tryz.call92 (A2 rfl rfl)) (zcY SD7.sl v3 a3 (p3.mono (((i27.tr iAe).tr iCX).tr iD8)) sAl hrDk) ?_
     rintro e wDl ⟨rfl,rDm⟩
     refine ⟨_,rfl,?_⟩
     have SDn:=SD7.call rDm
     refine FL.v (E.not rfl) ?_
     refine FL.v (E.move (v:=Value.bool (!rDj)) rfl) ?_
     obtain ⟨t315,hqtDt,hp⟩:=bnd hp
     refine FL.cut 6 (fun f w=>∃ H:GH,St Ha wa H w []∧Inc HD6 H∧f 1=Value.int .i64 a1∧f 2=v2∧f 3=v3∧f 4=Value.pointer (some ⟨b21,0,none⟩)∧f 10=Value.int .i64 sAl∧f 49=Value.bool t315) ?_ ?_
     ·
      clear hp;have hp:=hqtDt;clear hqtDt
      rcases ifB hp with ⟨cDz,hp⟩|⟨cDz,hp⟩
      ·
       refine FL.val (zab rfl rfl rfl cDz) rfl rfl (E.move kDe) ?_
       refine FL.val (zab rfl rfl rfl cDz) rfl rfl (E.move kDg) ?_
       refine FL.val (zab rfl rfl rfl cDz) rfl rfl (E.neg rfl) ?_
       obtain ⟨rDA,hrDB,hp⟩:=bnd hp
       refine FL.call (zab rfl rfl rfl cDz) rfl rfl (E.call Tryz.call92 (A2 rfl rfl)) (zcY SDn.sl v3 a3 (p3.mono (((i27.tr iAe).tr iCX).tr iD8)) (wr (-sAl)) hrDB) ?_
       rintro e wDC ⟨rfl,rDD⟩
       refine ⟨_,rfl,?_⟩
       have SDE:=SDn.call rDD
       refine FL.val (zab rfl rfl rfl cDz) rfl rfl (E.not rfl) ?_
       obtain rfl:=Option.some.inj hp
       refine FL.v (E.pickT rfl cDz rfl) ?_
       exact FL.nil ⟨rfl,_,SDE,(Inc.rfl _),kDc,kDd,kDe,kDf,kDg,rfl⟩
      ·
       refine FL.skip (wF_no rfl rfl rfl cDz) rfl ?_
       refine FL.skip (wF_no rfl rfl rfl cDz) rfl ?_
       refine FL.skip (wF_no rfl rfl rfl cDz) rfl ?_
       refine FL.skip (wF_no rfl rfl rfl cDz) rfl ?_
       refine FL.skip (wF_no rfl rfl rfl cDz) rfl ?_
       obtain rfl:=Option.some.inj hp
       refine FL.v (E.pickF rfl cDz rfl) ?_
       exact FL.nil ⟨rfl,_,SDn,(Inc.rfl _),kDc,kDd,kDe,kDf,kDg,rfl⟩
     rintro fDy wDx ⟨HDu,SDv,iDw,kDF,kDG,kDH,kDI,kDJ,kDK⟩
     refine FL.v (E.move kDK) ?_
     obtain ⟨t353,hqtE5,hp⟩:=bnd hp
     refine FL.cut 7 (fun f w=>∃ H:GH,St Ha wa H w []∧Inc HDu H∧f 1=Value.int .i64 a1∧f 2=v2∧f 3=v3∧f 4=Value.pointer (some ⟨b21,0,none⟩)∧f 10=Value.int .i64 sAl∧f 57=Value.bool t353) ?_ ?_
     ·
      clear hp;have hp:=hqtE5;clear hqtE5
      rcases ifB hp with ⟨cEb,hp⟩|⟨cEb,hp⟩
      ·
       refine FL.val (zab rfl rfl rfl cEb) rfl rfl (E.move kDG) ?_
       refine FL.val (zab rfl rfl rfl cEb) rfl rfl (E.move kDH) ?_
       refine FL.val (zab rfl rfl rfl cEb) rfl rfl (E.move kDJ) ?_
       obtain ⟨rEc,hrEd,hp⟩:=bnd hp
       refine FL.call (zab rfl rfl rfl cEb) rfl rfl (E.call Tryz.call93 (A2 rfl rfl)) (zcZ SDv.sl v3 a3 (p3.mono ((((i27.tr iAe).tr iCX).tr iD8).tr iDw)) sAl hrEd) ?_
       rintro e wEf ⟨HEe,vEi,nEj,csEk,rfl,rEh,elsEl⟩
       refine ⟨_,rfl,?_⟩
       have elsEl:=elsEl.mono (up_le SDv.size)
       have SEg:=SDv.join (l':=[.row 3 1 vEi nEj csEk]) rEh rfl
       obtain ⟨HEm,SEn,iEo,hEp,nvEq⟩:=SEg.sealRowU (i:=0) (l':=[]) rfl elsEl (by decide) rfl
       obtain ⟨rEr,hrEs,hp⟩:=bnd hp
       refine FL.call (zab rfl rfl rfl cEb) rfl rfl (E.call Tryz.call89 (A2 rfl rfl)) (zes SEn.sl v2 a2 (p2.mono ((((((i27.tr iAe).tr iCX).tr iD8).tr iDw).tr rEh.run.inc).tr iEo)) vEi rEc (hEp.mono upI) hrEs) ?_
       rintro e wEt ⟨rfl,rEu⟩
       refine ⟨_,rfl,?_⟩
       have rEu:=Run.lend iEo SEg.sl rEu
       have SEv:=SEg.call rEu
       refine FL.val (zab rfl rfl rfl cEb) rfl rfl (E.lss rfl rfl) ?_
       obtain rfl:=Option.some.inj hp
       refine FL.v (E.pickT rfl cEb rfl) ?_
       exact FL.nil ⟨rfl,_,(SEv.sel [] (by decide) rfl),rEh.run.inc,kDF,kDG,kDH,kDI,kDJ,rfl⟩
      ·
       refine FL.skip (wF_no rfl rfl rfl cEb) rfl ?_
       refine FL.skip (wF_no rfl rfl rfl cEb) rfl ?_
       refine FL.skip (wF_no rfl rfl rfl cEb) rfl ?_
       refine FL.skip (wF_no rfl rfl rfl cEb) rfl ?_
       refine FL.skip (wF_no rfl rfl rfl cEb) rfl ?_
       refine FL.skip (wF_no rfl rfl rfl cEb) rfl ?_
       obtain rfl:=Option.some.inj hp
       refine FL.v (E.pickF rfl cEb rfl) ?_
       exact FL.nil ⟨rfl,_,SDv,(Inc.rfl _),kDF,kDG,kDH,kDI,kDJ,rfl⟩
     rintro fEa wE9 ⟨HE6,SE7,iE8,kEw,kEx,kEy,kEz,kEA,kEB⟩
     refine FL.v (E.move kEB) ?_
     obtain ⟨t406,hqtEW,hp⟩:=bnd hp
     refine FL.cut 8 (fun f w=>∃ H:GH,St Ha wa H w []∧Inc HE6 H∧f 1=Value.int .i64 a1∧f 2=v2∧f 3=v3∧f 4=Value.pointer (some ⟨b21,0,none⟩)∧f 10=Value.int .i64 sAl∧f 66=Value.bool t406) ?_ ?_
     ·
      clear hp;have hp:=hqtEW;clear hqtEW
      rcases ifB hp with ⟨cF2,hp⟩|⟨cF2,hp⟩
      ·
       refine FL.val (zab rfl rfl rfl cF2) rfl rfl (E.move kEx) ?_
       refine FL.val (zab rfl rfl rfl cF2) rfl rfl (E.move kEy) ?_
       refine FL.val (zab rfl rfl rfl cF2) rfl rfl (E.move kEA) ?_
       refine FL.val (zab rfl rfl rfl cF2) rfl rfl (E.neg rfl) ?_
       obtain ⟨rF3,hrF4,hp⟩:=bnd hp
       refine FL.call (zab rfl rfl rfl cF2) rfl rfl (E.call Tryz.call93 (A2 rfl rfl)) (zcZ SE7.sl v3 a3 (p3.mono (((((i27.tr iAe).tr iCX).tr iD8).tr iDw).tr iE8)) (wr (-sAl)) hrF4) ?_
       rintro e wF6 ⟨HF5,vF9,nFa,csFb,rfl,rF8,elsFc⟩
       refine ⟨_,rfl,?_⟩
       have elsFc:=elsFc.mono (up_le SE7.size)
       have SF7:=SE7.join (l':=[.row 3 1 vF9 nFa csFb]) rF8 rfl
       obtain ⟨HFd,SFe,iFf,hFg,nvFh⟩:=SF7.sealRowU (i:=0) (l':=[]) rfl elsFc (by decide) rfl
       obtain ⟨rFi,hrFj,hp⟩:=bnd hp
       refine FL.call (zab rfl rfl rfl cF2) rfl rfl (E.call Tryz.call89 (A2 rfl rfl)) (zes SFe.sl v2 a2 (p2.mono (((((((i27.tr iAe).tr iCX).tr iD8).tr iDw).tr iE8).tr rF8.run.inc).tr iFf)) vF9 rF3 (hFg.mono upI) hrFj) ?_
       rintro e wFk ⟨rfl,rFl⟩
       refine ⟨_,rfl,?_⟩
       have rFl:=Run.lend iFf SF7.sl rFl
       have SFm:=SF7.call rFl
       refine FL.val (zab rfl rfl rfl cF2) rfl rfl (E.lss rfl rfl) ?_
       obtain rfl:=Option.some.inj hp
       refine FL.v (E.pickT rfl cF2 rfl) ?_
       exact FL.nil ⟨rfl,_,(SFm.sel [] (by decide) rfl),rF8.run.inc,kEw,kEx,kEy,kEz,kEA,rfl⟩
      ·
       refine FL.skip (wF_no rfl rfl rfl cF2) rfl ?_
       refine FL.skip (wF_no rfl rfl rfl cF2) rfl ?_
       refine FL.skip (wF_no rfl rfl rfl cF2) rfl ?_
       refine FL.skip (wF_no rfl rfl rfl cF2) rfl ?_
       refine FL.skip (wF_no rfl rfl rfl cF2) rfl ?_
       refine FL.skip (wF_no rfl rfl rfl cF2) rfl ?_
       refine FL.skip (wF_no rfl rfl rfl cF2) rfl ?_
       obtain rfl:=Option.some.inj hp
       refine FL.v (E.pickF rfl cF2 rfl) ?_
       exact FL.nil ⟨rfl,_,SE7,(Inc.rfl _),kEw,kEx,kEy,kEz,kEA,rfl⟩
     rintro fF1 wF0 ⟨HEX,SEY,iEZ,kFn,kFo,kFp,kFq,kFr,kFs⟩
     refine FL.nil ?_
     rcases ifB hp with ⟨cFt,hp⟩|⟨cFt,hp⟩
     ·
      refine FW.condT kFs cFt ?_
      refine FW.seq (FW.region ?_)
      refine FL.v (E.assign (v:=Value.bool false) rfl) ?_
      refine FL.nil ?_
      refine FW.ret ?_
      obtain rfl:=Option.some.inj hp
      exact ⟨nofun,rfl,⟨.inr rfl,res1 rfl rfl ⟨rfl,SEY.back⟩⟩⟩
     ·
      refine FW.condF kFs cFt ?_
      refine FW.skip (FW.region ?_)
      refine FL.v (E.move kFr) ?_
      refine FL.v (E.add rfl rfl) ?_
      refine FL.v (E.assign (v:=Value.int .i64 (wr (sAl + 1))) rfl) ?_
      refine FL.nil ?_
      obtain rfl:=Option.some.inj hp
      exact ⟨rfl,⟨_,SEY,((((iCX.tr iD8).tr iDw).tr iE8).tr iEZ),kFn,kFo,kFp,kFq,rfl⟩⟩
    ·
     refine FW.condF kDh cDi ?_
     refine FW.exit ?_
     obtain rfl:=Option.some.inj hp
     exact ⟨nofun,rfl,⟨_,SD7,(iCX.tr iD8)⟩⟩
   ·
    clear hq
    intro e fFz wFy hD
    rcases qAl with sAl|xAl
    ·
     obtain ⟨rfl,hD⟩:=hD
     obtain ⟨HFv,SFw,iFx⟩:=hD
     replace hp:=el_go hp
     refine FW.seq (FW.region ?_)
     refine FL.v (E.assign (v:=Value.bool true) rfl) ?_
     refine FL.nil ?_
     refine FW.ret ?_
     obtain rfl:=Option.some.inj hp
     exact ⟨.inr rfl,res1 rfl rfl ⟨rfl,SFw.back⟩⟩
    ·
     obtain ⟨he,hL⟩:=hD
     replace hp:=el_rt hp
     obtain rfl:=Option.some.inj hp
     subst he
     exact hL
  ·
   obtain ⟨he,hL⟩:=hD
   replace hp:=el_rt hp
   obtain rfl:=Option.some.inj hp
   subst he
   exact hL

@[reducible] def ze6 (Ha:GH) (wa:World) (r:zbc):Ending→World→Prop :=
 fun e w'=>∃ H':GH,∃ v0_0:Value,∃ v0_1:Value,∃ v0_2:Value,∃ v0_3:Value,e=.returned (Value.agg #[v0_0,v0_1,v0_2,v0_3])∧Run wa.heap.size Ha wa H' w'∧RSl H' (eL eI 1) 1 v0_0 r.all∧RSl (up wa.heap.size H') eI 1 v0_1 r.rounds∧RSl (up wa.heap.size H') eI 1 v0_2 r.counts∧RSl H' (eL eI 1) 1 v0_3 r.left∧Bk wa.heap.size H' (eL eI 1) 1 34 v0_3 r.left
set_option maxHeartbeats 4000000 in
theorem zd4 {Ha:GH} {wa:World} (hs:Sl Ha wa) (a0:Cnf) (v0_1:Value) (p0_1:RSl Ha (eL eI 1) 1 v0_1 a0.clauses) (a1:Int) {r:zbc} (hp:(PF.zbg a0 a1)=some r) :
  Calls Tryz.prog 28 #[Value.agg #[Value.int .i64 a0.vars,v0_1],Value.int .i64 a1] wa (ze6 Ha wa r):=by
 unfold PF.zbg at hp
 have S0:=St.init hs
 refine zae (N:=75) (args:=[Value.agg #[Value.int .i64 a0.vars,v0_1],Value.int .i64 a1]) Tryz.func28 rfl rfl rfl ?_
 refine FW.seq (FW.region ?_)
 obtain ⟨b21,w22,run23,S24⟩:=S0.box (P:=Tryz.prog) 26 [Value.int .i64 a0.vars,v0_1] (v:=Value.agg #[Value.int .i64 a0.vars,v0_1]) rfl (zac rfl (zac p0_1.one zad))
 refine FL.v (E.box rfl run23) ?_
 obtain ⟨H25,S26,i27,at28⟩:=S24.sealBox (i:=0) (l':=[]) rfl rfl
 have S33:=S26.nil 34 1
 have els34:Els (up wa.heap.size H25) (eL eI 1) 1 [] []:=Els.nil
 obtain ⟨b29,w30,run31,S32⟩:=S33.alloc (P:=Tryz.prog) 49 [Value.slice none 0 0,Value.slice none 0 0,Value.slice none 0 0,Value.slice none 0 0] Tryz.zeroValue49 rfl (zac rfl (zac rfl (zac rfl (zac rfl zad))))
 refine FL.v (E.alloc run31) ?_
 refine FL.nil (FW.seq (FW.region ?_))
 refine FL.v (E.load rfl (zai Tryz.isAgg26 Tryz.sizeOf26 (at28.now S32.sl) rfl)) ?_
 refine FL.v (E.move (v:=Value.int .i64 a1) rfl) ?_
 obtain ⟨r35,hr36,hp⟩:=bnd hp
 refine FL.call rfl rfl rfl (E.call Tryz.call32 (A2 rfl rfl)) (ze4 S32.sl a0 v0_1 (p0_1.mono i27) a1 hr36) ?_
 rintro e w38 ⟨H37,v41,rfl,r40,h42,bk43⟩
 refine ⟨_,rfl,?_⟩
 have bk43:=bk43.le S32.size
 have S39:=S32.call r40
 obtain ⟨v44,w45,run46,S47⟩:=S39.buildSlice (P:=Tryz.prog) te34 [] (parts:=#[]) (cells:=[]) rfl zao zan zad (Nat.le_of_ble_eq_true rfl)
 have els48:Els (up wa.heap.size H37) eI 1 [] []:=Els.nil
 refine FL.v (E.buildSlice (B0) run46) ?_
 refine FL.v (E.build (B2 rfl rfl) (run_build _ 49 #[(0,v41),(2,v44)] #[v41,Value.slice none 0 0,v44,Value.slice none 0 0] (by obtain ⟨_,_,rfl⟩:=RSl.ln h42;obtain ⟨_,_,rfl⟩:=S47.row_ln (i:=0) rfl;rfl))) ?_
 have S53:=S47.nil 34 1
 have els54:Els (up wa.heap.size H37) (eL eI 1) 1 [] []:=Els.nil
 obtain ⟨b49,w50,run51,S52⟩:=S53.alloc (P:=Tryz.prog) 49 [Value.slice none 0 0,Value.slice none 0 0,Value.slice none 0 0,Value.slice none 0 0] Tryz.zeroValue49 rfl (zac rfl (zac rfl (zac rfl (zac rfl zad))))
 refine FL.v (E.alloc run51) ?_
 have S55:=S52.nil 34 1
 have els56:Els (up wa.heap.size H37) (eL eI 1) 1 [] []:=Els.nil
 obtain ⟨w57,run58,S59⟩:=S55.store0 (P:=Tryz.prog) (t:=49) (i:=1) (cs':=[v41,Value.slice none 0 0,v44,(Value.slice none 0 0)]) (l':=[.row 34 1 (Value.slice none 0 0) 0 [],.box b49 49 [v41,Value.slice none 0 0,v44,(Value.slice none 0 0)],.row 34 1 (Value.slice none 0 0) 0 [],.row 3 1 v44 0 [],.box b29 49 [Value.slice none 0 0,Value.slice none 0 0,Value.slice none 0 0,(Value.slice none 0 0)],.row 34 1 (Value.slice none 0 0) 0 []]) (v:=Value.agg #[v41,Value.slice none 0 0,v44,(Value.slice none 0 0)]) (c:=[v41,Value.slice none 0 0,v44,(Value.slice none 0 0)]) rfl Tryz.sizeOf49 rfl rfl (zac h42.one (zac rfl (zac (Ln.one (S55.row_ln (i:=3) rfl)) (zac (Ln.one (S55.row_ln (i:=0) rfl)) zad)))) (Nat.le_of_ble_eq_true rfl) rfl rfl
 refine FL.act rfl rfl (E.store rfl rfl run58) ?_
 refine FL.nil (FW.seq (FW.region ?_))
 refine FL.v (E.fieldAddr tf49_0 rfl) ?_
 refine FL.v (E.load rfl (zah Tryz.isAgg24 (S59.box_now (i:=1) rfl) rfl)) ?_
 refine FL.v (E.lenP te24 rfl h42) ?_
 obtain ⟨xs60,hm61,hp⟩:=bnd hp
 obtain ⟨v62,w63,n67,cs68,run64,S65,els66,hbl69⟩:=S59.makeEls (P:=Tryz.prog) te34 (G:=(up wa.heap.size H37)) (En:=eI) (x0:=(0:Int)) hm61 rfl (zac rfl zad) .i64 .i64
 refine FL.v (E.makeSlice rfl rfl run64) ?_
 refine FL.v (E.fieldAddr tf49_1 rfl) ?_
 obtain ⟨w70,run71,S72⟩:=S65.store (P:=Tryz.prog) (t:=34) (i:=2) (j:=1) (cs':=[v41,v62,v44,(Value.slice none 0 0)]) (l':=[.row 3 1 v62 n67 cs68,.row 34 1 (Value.slice none 0 0) 0 [],.box b49 49 [v41,v62,v44,(Value.slice none 0 0)],.row 34 1 (Value.slice none 0 0) 0 [],.row 3 1 v44 0 [],.box b29 49 [Value.slice none 0 0,Value.slice none 0 0,Value.slice none 0 0,(Value.slice none 0 0)],.row 34 1 (Value.slice none 0 0) 0 []]) (v:=v62) (c:=[v62]) rfl Tryz.sizeOf34 (Ln.cells (S65.row_ln (i:=0) rfl)) rfl (zac (Ln.one (S65.row_ln (i:=0) rfl)) zad) (Nat.le_of_ble_eq_true rfl) rfl rfl
 refine FL.act rfl rfl (E.store rfl rfl run71) ?_
 refine FL.nil (FW.seq (FW.region ?_))
 refine FL.v (E.fieldAddr tf49_0 rfl) ?_
 refine FL.v (E.load rfl (zah Tryz.isAgg24 (S72.box_now (i:=2) rfl) rfl)) ?_
 refine FL.v (E.fieldAddr tf49_3 rfl) ?_
 obtain ⟨w73,run74,S75⟩:=S72.store (P:=Tryz.prog) (t:=24) (i:=2) (j:=3) (cs':=[v41,v62,v44,v41]) (l':=[.row 3 1 v62 n67 cs68,.row 34 1 (Value.slice none 0 0) 0 [],.box b49 49 [v41,v62,v44,v41],.row 34 1 (Value.slice none 0 0) 0 [],.row 3 1 v44 0 [],.box b29 49 [Value.slice none 0 0,Value.slice none 0 0,Value.slice none 0 0,(Value.slice none 0 0)],.row 34 1 (Value.slice none 0 0) 0 []]) (v:=v41) (c:=[v41]) rfl Tryz.sizeOf24 h42.cells rfl (zac h42.one zad) (Nat.le_of_ble_eq_true rfl) rfl rfl
 refine FL.act rfl rfl (E.store rfl rfl run74) ?_
 refine FL.nil (FW.seq (FW.region ?_))
 refine FL.v (E.assign (v:=Value.int .i64 1) rfl) ?_
 refine FL.nil ?_
 obtain ⟨q76,hq,hp⟩:=bndR hp
 refine FW.block ?_
 refine FW.mono (FW.iter (S:=((List Int)×(List Int)×(List (List Int))×Int)) (X:=zbc) (fun (s76:((List Int)×(List Int)×(List (List Int))×Int)) f w=>∃ H:GH,∃ vLj:Value,∃ nLk:Nat,∃ csLl:List Value,∃ vLn:Value,∃ nLo:Nat,∃ csLp:List Value,∃ vLr:Value,St Ha wa H w [.row 3 1 vLj nLk csLl,.box b49 49 [v41,vLj,vLn,vLr],.row 3 1 vLn nLo csLp,.box b29 49 [Value.slice none 0 0,Value.slice none 0 0,Value.slice none 0 0,(Value.slice none 0 0)],.row 34 1 (Value.slice none 0 0) 0 []]∧Inc H37 H∧Els (up wa.heap.size H) eI 1 csLl s76.1∧Els (up wa.heap.size H) eI 1 csLp s76.2.1∧RSl H (eL eI 1) 1 vLr s76.2.2.1∧Bk wa.heap.size H (eL eI 1) 1 34 vLr s76.2.2.1∧f 1=Value.int .i64 a1∧f 2=Value.pointer (some ⟨b21,0,none⟩)∧f 4=Value.pointer (some (⟨b29,0,none⟩:Addr))∧f 5=Value.pointer (some (⟨b49,0,none⟩:Addr))∧f 6=Value.int .i64 s76.2.2.2) (fun q e f w=>match q with|.go s76=>e=Exit.exit 0∧(∃ H:GH,∃ vLj:Value,∃ nLk:Nat,∃ csLl:List Value,∃ vLn:Value,∃ nLo:Nat,∃ csLp:List Value,∃ vLr:Value,St Ha wa H w [.row 3 1 vLj nLk csLl,.box b49 49 [v41,vLj,vLn,vLr],.row 3 1 vLn nLo csLp,.box b29 49 [Value.slice none 0 0,Value.slice none 0 0,Value.slice none 0 0,(Value.slice none 0 0)],.row 34 1 (Value.slice none 0 0) 0 []]∧Inc H37 H∧Els (up wa.heap.size H) eI 1 csLl s76.1∧Els (up wa.heap.size H) eI 1 csLp s76.2.1∧RSl H (eL eI 1) 1 vLr s76.2.2.1∧Bk wa.heap.size H (eL eI 1) 1 34 vLr s76.2.2.1∧f 4=Value.pointer (some (⟨b29,0,none⟩:Addr)))|.rt x=>((e=Exit.ret)∧(fun e f w=>(e=Exit.normal∨e=Exit.ret)∧∀ a,Fr (δ:=[]) 75 a f→∃ v,(results Tryz.f28 a.tmps).run Tryz.prog w=.ok v w∧(ze6 Ha wa x) (.returned v) w) e f w)) hq ⟨_,_,_,_,_,_,_,_,(S75.sel [0,2,4,5,6] (by decide) rfl),(Inc.rfl _),els66,els48,h42,bk43,rfl,rfl,rfl,rfl,rfl⟩ ?_) ?_
 ·
  clear hp hq
  rintro s76 f81 w80 ⟨H77,vLj,nLk,csLl,vLn,nLo,csLp,vLr,S78,i79,elsLm,elsLq,hLs,bk811,k82,k83,k84,k85,k86⟩ oCc hp
  refine FW.seq (FW.block (FW.seq (FW.region ?_)))
  obtain ⟨v87,w88,run89,S90⟩:=S78.buildSlice (P:=Tryz.prog) te24 [] (parts:=#[]) (cells:=[]) rfl zao zan zad (Nat.le_of_ble_eq_true rfl)
  have els91:Els (up wa.heap.size H77) (eL eI 1) 1 [] []:=Els.nil
  refine FL.v (E.buildSlice (B0) run89) ?_
  refine FL.v (E.assign (v:=v87) rfl) ?_
  refine FL.v (E.assign (v:=Value.int .i64 0) rfl) ?_
  refine FL.nil (FW.seq (FW.seq (FW.region ?_)))
  refine FL.v (E.assign (v:=Value.int .i64 0) rfl) ?_
  refine FL.nil ?_
  obtain ⟨q92,hq,hp⟩:=bndR hp
  refine FW.block ?_
  refine FW.mono (FW.iter (S:=((List (List Int))×(List Int)×Int×Int)) (X:=Empty) (fun (s92:((List (List Int))×(List Int)×Int×Int)) f w=>∃ H:GH,∃ v93:Value,∃ n94:Nat,∃ cs95:List Value,∃ v97:Value,∃ n98:Nat,∃ cs99:List Value,St Ha wa H w [.row 34 1 v93 n94 cs95,.row 3 1 v97 n98 cs99,.box b49 49 [v41,v97,vLn,vLr],.row 3 1 vLn nLo csLp,.box b29 49 [Value.slice none 0 0,Value.slice none 0 0,Value.slice none 0 0,(Value.slice none 0 0)],.row 34 1 (Value.slice none 0 0) 0 []]∧Inc H77 H∧Els H (eL eI 1) 1 cs95 s92.1∧Els (up wa.heap.size H) eI 1 cs99 s92.2.1∧f 1=Value.int .i64 a1∧f 2=Value.pointer (some ⟨b21,0,none⟩)∧f 4=Value.pointer (some (⟨b29,0,none⟩:Addr))∧f 5=Value.pointer (some (⟨b49,0,none⟩:Addr))∧f 6=Value.int .i64 s76.2.2.2∧f 7=v93∧f 8=Value.int .i64 s92.2.2.1∧f 9=Value.int .i64 s92.2.2.2) (fun (q:Rs ((List (List Int))×(List Int)×Int×Int) Empty) e f w=>match q with|.go s92=>e=Exit.exit 2∧(∃ H:GH,∃ v93:Value,∃ n94:Nat,∃ cs95:List Value,∃ v97:Value,∃ n98:Nat,∃ cs99:List Value,St Ha wa H w [.row 34 1 v93 n94 cs95,.row 3 1 v97 n98 cs99,.box b49 49 [v41,v97,vLn,vLr],.row 3 1 vLn nLo csLp,.box b29 49 [Value.slice none 0 0,Value.slice none 0 0,Value.slice none 0 0,(Value.slice none 0 0)],.row 34 1 (Value.slice none 0 0) 0 []]∧Inc H77 H∧Els H (eL eI 1) 1 cs95 s92.1∧Els (up wa.heap.size H) eI 1 cs99 s92.2.1∧f 1=Value.int .i64 a1∧f 2=Value.pointer (some ⟨b21,0,none⟩)∧f 4=Value.pointer (some (⟨b29,0,none⟩:Addr))∧f 5=Value.pointer (some (⟨b49,0,none⟩:Addr))∧f 6=Value.int .i64 s76.2.2.2∧f 7=v93∧f 8=Value.int .i64 s92.2.2.1)|.rt x=>x.elim) hq ⟨_,_,_,_,_,_,_,S90,(Inc.rfl _),(els91.mono upI),elsLm,k82,k83,k84,k85,k86,rfl,rfl,rfl⟩ ?_) ?_
  ·
   clear hp hq
   rintro s92 fA5 wA4 ⟨HA1,v93,n94,cs95,v97,n98,cs99,SA2,iA3,els96,elsA0,kA6,kA7,kA8,kA9,kAa,kAb,kAc,kAd⟩ oBk hp
   refine FW.seq (FW.seq (FW.region ?_))
   refine FL.v (E.move kAd) ?_
   refine FL.v (E.fieldAddr tf49_0 kA9) ?_
   refine FL.v (E.load rfl (zah Tryz.isAgg24 (SA2.box_now (i:=2) rfl) rfl)) ?_
   refine FL.v (E.lenP te24 rfl h42) ?_
   refine FL.v (E.lss rfl rfl) ?_
   refine FL.nil ?_
   rcases ifB hp with ⟨cAe,hp⟩|⟨cAe,hp⟩
   ·
    refine FW.condT rfl cAe ?_
    refine FW.skip (FW.seq (FW.block (FW.seq (FW.seq (FW.region ?_)))))
    refine FL.v (E.fieldAddr tf49_1 kA9) ?_
    refine FL.v (E.load rfl (zah Tryz.isAgg34 (SA2.box_now (i:=2) rfl) rfl)) ?_
    refine FL.v (E.move kAd) ?_
    obtain ⟨xAl,hxAm,hp⟩:=bnd hp
    obtain ⟨pAf,csAg,ptAh,lAi,atAj,relAk⟩:=SA2.row_at (i:=1) rfl elsA0 (by decide) hxAm
    obtain rfl:=zam relAk
    refine FL.v (E.indexAddr te34 rfl rfl ptAh) ?_
    refine FL.v (E.load rfl (zaf Tryz.isAgg3 atAj rfl)) ?_
    refine FL.v (E.gtr rfl rfl) ?_
    refine FL.nil ?_
    rcases ifB hp with ⟨cAn,hp⟩|⟨cAn,hp⟩
    ·
     refine FW.condT rfl cAn ?_
     refine FW.exit ?_
     refine FW.region ?_
     refine FL.v (E.move kAd) ?_
     refine FL.v (E.add rfl rfl) ?_
     refine FL.v (E.assign (v:=Value.int .i64 (wr (s92.2.2.2 + 1))) rfl) ?_
     refine FL.nil ?_
     obtain rfl:=Option.some.inj hp
     exact ⟨rfl,⟨_,_,_,_,_,_,_,SA2,iA3,els96,elsA0,kA6,kA7,kA8,kA9,kAa,kAb,kAc,rfl⟩⟩
    ·
     refine FW.condF rfl cAn ?_
     refine FW.skip (FW.seq ?_)
     refine FW.draw (fun w'=>Run wA4.heap.size HA1 wA4 HA1 w') (by kernel_rfl) (by kernel_rfl) (zaG SA2.sl) ?_
     refine FD.val rfl rfl rfl (fun w' hw'=>(E.load kA7 (zai Tryz.isAgg26 Tryz.sizeOf26 ((at28.mono ((r40.inc.tr i79).tr iA3)).now (SA2.call hw').sl) rfl))) ?_
     refine FD.val rfl rfl rfl (fun w' hw'=>(E.move kA6)) ?_
     refine FD.val rfl rfl rfl (fun w' hw'=>(E.fieldAddr tf49_3 kA9)) ?_
     refine FD.val rfl rfl rfl (fun w' hw'=>(E.load rfl (zah Tryz.isAgg24 ((SA2.call hw').box_now (i:=2) rfl) rfl))) ?_
     refine FD.val rfl rfl rfl (fun w' hw'=>(E.fieldAddr tf49_0 kA9)) ?_
     refine FD.val rfl rfl rfl (fun w' hw'=>(E.load rfl (zah Tryz.isAgg24 ((SA2.call hw').box_now (i:=2) rfl) rfl))) ?_
     refine FD.val rfl rfl rfl (fun w' hw'=>(E.move kAd)) ?_
     obtain ⟨xAu,hxAv,hp⟩:=bnd hp
     obtain ⟨pAo,csAp,ptAq,lAr,atAs,relAt⟩:=h42.at hxAv
     obtain ⟨vAw,rfl,hAx⟩:=zav relAt
     refine FD.val rfl rfl rfl (fun w' hw'=>(E.indexAddr te24 rfl rfl ptAq)) ?_
     refine FD.val rfl rfl rfl (fun w' hw'=>(E.load rfl (zaf Tryz.isAgg34 ((atAs.mono (i79.tr iA3)).now (SA2.call hw').sl) rfl))) ?_
     obtain ⟨rAy,hrAz,hp⟩:=bnd hp
     refine FD.call rfl rfl rfl (fun w' hw'=>(E.call Tryz.call52 (A4 rfl rfl rfl rfl))) (fun w' hw'=>Calls.cls hw' (ze5 (SA2.call hw').sl a0 v0_1 (p0_1.mono (((i27.tr r40.inc).tr i79).tr iA3)) a1 vLr s76.2.2.1 (hLs.mono iA3) vAw xAu (hAx.mono (i79.tr iA3)) hrAz)) ?_
     refine FD.nil ?_
     intro wAA rAC
     have SAB:=SA2.call rAC
     rcases ifB hp with ⟨cAD,hp⟩|⟨cAD,hp⟩
     ·
      refine FW.condT rfl cAD ?_
      refine FW.region ?_
      refine FL.v (E.move kAb) ?_
      refine FL.v (E.fieldAddr tf49_0 kA9) ?_
      refine FL.v (E.load rfl (zah Tryz.isAgg24 (SAB.box_now (i:=2) rfl) rfl)) ?_
      refine FL.v (E.move kAd) ?_
      obtain ⟨xAK,hxAL,hp⟩:=bnd hp
      obtain ⟨pAE,csAF,ptAG,lAH,atAI,relAJ⟩:=h42.at hxAL
      obtain ⟨vAM,rfl,hAN⟩:=zav relAJ
      refine FL.v (E.indexAddr te24 rfl rfl ptAG) ?_
      refine FL.v (E.load rfl (zaf Tryz.isAgg34 ((atAI.mono (i79.tr iA3)).now SAB.sl) rfl)) ?_
      obtain ⟨vAO,wAP,runAQ,SAR⟩:=SAB.buildSlice (P:=Tryz.prog) te24 [vAM] (parts:=#[(0,vAM)]) (cells:=[vAM]) rfl (zat (zaH hAN.cells) zao) (zas hAN.cells zan) (zac hAN.one zad) (Nat.le_of_ble_eq_true rfl)
      have elsAS:Els HA1 (eL eI 1) 1 [vAM] [xAK]:=(Els.snoc (H:=HA1) (E:=(eL eI 1)) (k:=1) (c:=[vAM]) (x:=xAK) Els.nil rfl ⟨_,rfl,(hAN.mono (i79.tr iA3))⟩)
      refine FL.v (E.buildSlice (B1 rfl) runAQ) ?_
      obtain ⟨xsAT,hzAU,hp⟩:=bnd hp
      obtain ⟨vAV,wAY,nAW,csAX,runAZ,SB0,elsB1,ceB2⟩:=SAR.appendO (P:=Tryz.prog) te24 (i:=1) (j:=0) rfl els96 rfl elsAS hzAU
      have SB0:St Ha wa HA1 wAY [.row 34 1 vAO 1 [vAM],.row 34 1 vAV nAW csAX,.row 3 1 v97 n98 cs99,.box b49 49 [v41,v97,vLn,vLr],.row 3 1 vLn nLo csLp,.box b29 49 [Value.slice none 0 0,Value.slice none 0 0,Value.slice none 0 0,(Value.slice none 0 0)],.row 34 1 (Value.slice none 0 0) 0 []]:=SB0
      have SB3:St Ha wa HA1 wAY [.row 34 1 vAV nAW csAX,.row 3 1 v97 n98 cs99,.box b49 49 [v41,v97,vLn,vLr],.row 3 1 vLn nLo csLp,.box b29 49 [Value.slice none 0 0,Value.slice none 0 0,Value.slice none 0 0,(Value.slice none 0 0)],.row 34 1 (Value.slice none 0 0) 0 []]:=SB0.drop 0
      refine FL.v (E.append rfl rfl runAZ) ?_
      refine FL.v (E.assign (v:=vAV) rfl) ?_
      refine FL.nil (FW.region ?_)
      refine FL.v (E.move kAd) ?_
      refine FL.v (E.add rfl rfl) ?_
      refine FL.v (E.assign (v:=Value.int .i64 (wr (s92.2.2.2 + 1))) rfl) ?_
      refine FL.nil ?_
      obtain rfl:=Option.some.inj hp
      exact ⟨rfl,⟨_,_,_,_,_,_,_,SB3,iA3,elsB1,elsA0,kA6,kA7,kA8,kA9,kAa,rfl,kAc,rfl⟩⟩
     ·
      refine FW.condF rfl cAD ?_
      refine FW.seq (FW.region ?_)
      refine FL.v (E.fieldAddr tf49_1 kA9) ?_
      refine FL.v (E.load rfl (zah Tryz.isAgg34 (SAB.box_now (i:=2) rfl) rfl)) ?_
      refine FL.v (E.move kAd) ?_
      refine FL.v (E.move kAa) ?_
      obtain ⟨xBa,hxBb,hp⟩:=bnd hp
      obtain ⟨pB4,csB5,ptB6,lB7,atB8,relB9⟩:=SAB.row_at (i:=1) rfl elsA0 (by decide) hxBb
      obtain rfl:=zam relB9
      refine FL.v (E.indexAddr te34 rfl rfl ptB6) ?_
      obtain ⟨xsBf,hputBg,hp⟩:=bnd hp
      obtain ⟨wBc,csBi,runBd,SBe,elsBh,ceBj⟩:=SAB.putEls (P:=Tryz.prog) (t:=3) (i:=1) rfl elsA0 hputBg ptB6 Tryz.sizeOf3 (u:=Value.int .i64 s76.2.2.2) (c:=[Value.int .i64 s76.2.2.2]) rfl rfl (zac rfl zad) rfl
      have SBe:St Ha wa HA1 wBc [.row 34 1 v93 n94 cs95,.row 3 1 v97 n98 csBi,.box b49 49 [v41,v97,vLn,vLr],.row 3 1 vLn nLo csLp,.box b29 49 [Value.slice none 0 0,Value.slice none 0 0,Value.slice none 0 0,(Value.slice none 0 0)],.row 34 1 (Value.slice none 0 0) 0 []]:=SBe
      refine FL.act rfl rfl (E.store rfl rfl runBd) ?_
      refine FL.nil (FW.region ?_)
      refine FL.v (E.move kAc) ?_
      refine FL.v (E.add rfl rfl) ?_
      refine FL.v (E.assign (v:=Value.int .i64 (wr (s92.2.2.1 + 1))) rfl) ?_
      refine FL.nil (FW.region ?_)
      refine FL.v (E.move kAd) ?_
      refine FL.v (E.add rfl rfl) ?_
      refine FL.v (E.assign (v:=Value.int .i64 (wr (s92.2.2.2 + 1))) rfl) ?_
      refine FL.nil ?_
      obtain rfl:=Option.some.inj hp
      exact ⟨rfl,⟨_,_,_,_,_,_,_,SBe,iA3,els96,elsBh,kA6,kA7,kA8,kA9,kAa,kAb,rfl,rfl⟩⟩
   ·
    refine FW.condF rfl cAe ?_
    refine FW.exit ?_
    obtain rfl:=Option.some.inj hp
    exact ⟨nofun,rfl,⟨_,_,_,_,_,_,_,SA2,iA3,els96,elsA0,kA6,kA7,kA8,kA9,kAa,kAb,kAc⟩⟩
  ·
   clear hq
   intro e fBp wBo hD
   rcases q92 with s92|x92
   ·
    obtain ⟨rfl,hD⟩:=hD
    obtain ⟨HBl,v93,n94,cs95,v97,n98,cs99,SBm,iBn,els96,elsA0,kBq,kBr,kBs,kBt,kBu,kBv,kBw⟩:=hD
    replace hp:=el_go hp
    refine FW.seq (FW.seq (FW.region ?_))
    refine FL.v (E.move kBw) ?_
    refine FL.v (E.eql rfl rfl) ?_
    refine FL.nil ?_
    rcases ifB hp with ⟨cBx,hp⟩|⟨cBx,hp⟩
    ·
     refine FW.condT rfl cBx ?_
     refine FW.seq (FW.region ?_)
     refine FL.v (E.load kBt (zai Tryz.isAgg49 Tryz.sizeOf49 (SBm.box_now (i:=2) rfl) rfl)) ?_
     obtain ⟨wBy,runBz,SBA⟩:=SBm.store0 (P:=Tryz.prog) (t:=49) (i:=4) (cs':=[v41,v97,vLn,vLr]) (l':=[.row 34 1 v93 n94 cs95,.row 3 1 v97 n98 cs99,.box b49 49 [v41,v97,vLn,vLr],.row 3 1 vLn nLo csLp,.box b29 49 [v41,v97,vLn,vLr],.row 34 1 (Value.slice none 0 0) 0 []]) (v:=Value.agg #[v41,v97,vLn,vLr]) (c:=[v41,v97,vLn,vLr]) rfl Tryz.sizeOf49 rfl rfl (zac h42.one (zac (Ln.one (SBm.row_ln (i:=1) rfl)) (zac (Ln.one (SBm.row_ln (i:=3) rfl)) (zac hLs.one zad)))) (Nat.le_of_ble_eq_true rfl) rfl rfl
     refine FL.act rfl rfl (E.store kBs rfl runBz) ?_
     refine FL.nil ?_
     refine FW.ret ?_
     obtain ⟨HBB,SBC,iBD,hBE,nvBF⟩:=SBA.sealRowU (i:=1) (l':=[.row 34 1 v93 n94 cs95,.box b49 49 [v41,v97,vLn,vLr],.row 3 1 vLn nLo csLp,.box b29 49 [v41,v97,vLn,vLr],.row 34 1 (Value.slice none 0 0) 0 []]) rfl elsA0 (by decide) rfl
     obtain ⟨HBG,SBH,iBI,hBJ,nvBK⟩:=SBC.sealRowU (i:=2) (l':=[.row 34 1 v93 n94 cs95,.box b49 49 [v41,v97,vLn,vLr],.box b29 49 [v41,v97,vLn,vLr],.row 34 1 (Value.slice none 0 0) 0 []]) rfl (elsLq.mono (zag (iBn.tr iBD))) (by decide) rfl
     obtain rfl:=Option.some.inj hp
     exact ⟨nofun,rfl,⟨.inr rfl,resC rfl kBs (zaB Tryz.isAgg49 Tryz.sizeOf49 (SBH.box_now (i:=2) rfl) rfl) ⟨_,_,_,_,_,rfl,SBH.run,(h42.mono (((i79.tr iBn).tr iBD).tr iBI)),(hBE.mono (zag iBI)),hBJ,(hLs.mono ((iBn.tr iBD).tr iBI)),(bk811.mono ((iBn.tr iBD).tr iBI))⟩⟩⟩
    ·
     refine FW.condF rfl cBx ?_
     refine FW.skip (FW.seq (FW.region ?_))
     refine FL.v (E.fieldAddr tf49_2 kBt) ?_
     refine FL.v (E.load rfl (zah Tryz.isAgg34 (SBm.box_now (i:=2) rfl) rfl)) ?_
     refine FL.v (E.move kBw) ?_
     obtain ⟨vBL,wBM,runBN,SBO,elsBP⟩:=SBm.ints (P:=Tryz.prog) te34 (up wa.heap.size HBl) 1 [s92.2.2.1]
     refine FL.v (E.buildSlice (B1 rfl) runBN) ?_
     obtain ⟨xsBQ,hzBR,hp⟩:=bnd hp
     obtain ⟨vBS,wBV,nBT,csBU,runBW,SBX,elsBY,ceBZ⟩:=SBO.appendO (P:=Tryz.prog) te34 (i:=4) (j:=0) rfl (elsLq.mono (zag iBn)) rfl elsBP hzBR
     have SBX:St Ha wa HBl wBV [.row 3 1 vBL 1 (iC [s92.2.2.1]),.row 34 1 v93 n94 cs95,.row 3 1 v97 n98 cs99,.box b49 49 [v41,v97,vLn,vLr],.row 3 1 vBS nBT csBU,.box b29 49 [Value.slice none 0 0,Value.slice none 0 0,Value.slice none 0 0,(Value.slice none 0 0)],.row 34 1 (Value.slice none 0 0) 0 []]:=SBX
     have SC0:St Ha wa HBl wBV [.row 34 1 v93 n94 cs95,.row 3 1 v97 n98 cs99,.box b49 49 [v41,v97,vLn,vLr],.row 3 1 vBS nBT csBU,.box b29 49 [Value.slice none 0 0,Value.slice none 0 0,Value.slice none 0 0,(Value.slice none 0 0)],.row 34 1 (Value.slice none 0 0) 0 []]:=SBX.drop 0
     refine FL.v (E.append rfl rfl runBW) ?_
     refine FL.v (E.fieldAddr tf49_2 kBt) ?_
     obtain ⟨wC1,runC2,SC3⟩:=SC0.store (P:=Tryz.prog) (t:=34) (i:=2) (j:=2) (cs':=[v41,v97,vBS,vLr]) (l':=[.row 34 1 v93 n94 cs95,.row 3 1 v97 n98 cs99,.box b49 49 [v41,v97,vBS,vLr],.row 3 1 vBS nBT csBU,.box b29 49 [Value.slice none 0 0,Value.slice none 0 0,Value.slice none 0 0,(Value.slice none 0 0)],.row 34 1 (Value.slice none 0 0) 0 []]) (v:=vBS) (c:=[vBS]) rfl Tryz.sizeOf34 (Ln.cells (SC0.row_ln (i:=3) rfl)) rfl (zac (Ln.one (SC0.row_ln (i:=3) rfl)) zad) (Nat.le_of_ble_eq_true rfl) rfl rfl
     refine FL.act rfl rfl (E.store rfl rfl runC2) ?_
     refine FL.nil (FW.region ?_)
     refine FL.v (E.move kBv) ?_
     refine FL.v (E.fieldAddr tf49_3 kBt) ?_
     obtain ⟨wC4,runC5,SC6⟩:=SC3.store (P:=Tryz.prog) (t:=24) (i:=2) (j:=3) (cs':=[v41,v97,vBS,v93]) (l':=[.row 34 1 v93 n94 cs95,.row 3 1 v97 n98 cs99,.box b49 49 [v41,v97,vBS,v93],.row 3 1 vBS nBT csBU,.box b29 49 [Value.slice none 0 0,Value.slice none 0 0,Value.slice none 0 0,(Value.slice none 0 0)],.row 34 1 (Value.slice none 0 0) 0 []]) (v:=v93) (c:=[v93]) rfl Tryz.sizeOf24 (Ln.cells (SC3.row_ln (i:=0) rfl)) rfl (zac (Ln.one (SC3.row_ln (i:=0) rfl)) zad) (Nat.le_of_ble_eq_true rfl) rfl rfl
     refine FL.act rfl rfl (E.store rfl rfl runC5) ?_
     refine FL.nil (FW.region ?_)
     refine FL.v (E.move kBu) ?_
     refine FL.v (E.add rfl rfl) ?_
     refine FL.v (E.assign (v:=Value.int .i64 (wr (s76.2.2.2 + 1))) rfl) ?_
     refine FL.nil ?_
     obtain ⟨HC7,SC8,iC9,hCa,bk235⟩:=SC6.sealBk (i:=0) (l':=[.row 3 1 v97 n98 cs99,.box b49 49 [v41,v97,vBS,v93],.row 3 1 vBS nBT csBU,.box b29 49 [Value.slice none 0 0,Value.slice none 0 0,Value.slice none 0 0,(Value.slice none 0 0)],.row 34 1 (Value.slice none 0 0) 0 []]) rfl els96 (by decide) rfl
     obtain rfl:=Option.some.inj hp
     exact ⟨rfl,⟨_,_,_,_,_,_,_,_,SC8,((i79.tr iBn).tr iC9),(elsA0.mono (zag iC9)),(elsBY.mono (zag iC9)),hCa,bk235,kBq,kBr,kBs,kBt,rfl⟩⟩
   ·
    exact x92.elim
 ·
  clear hq
  intro e fCh wCg hD
  rcases q76 with s76|x76
  ·
   obtain ⟨rfl,hD⟩:=hD
   obtain ⟨HCd,vLj,nLk,csLl,vLn,nLo,csLp,vLr,SCe,iCf,elsLm,elsLq,hLs,bk811,kCi⟩:=hD
   replace hp:=el_go hp
   cases hp
  ·
   obtain ⟨he,hL⟩:=hD
   replace hp:=el_rt hp
   obtain rfl:=Option.some.inj hp
   subst he
   exact hL

@[reducible] def p_spec_l10Copy (Ha:GH) (wa:World) (r:(List (List Int))):Ending→World→Prop :=
 fun e w'=>∃ H':GH,∃ v0:Value,∃ n0:Nat,∃ c0:List Value,e=.returned (v0)∧St Ha wa H' w' [.row 34 1 v0 n0 c0]∧Els (up wa.heap.size H') (eL eI 1) 1 c0 r∧(bl c0).Nodup
theorem w_spec_l10Copy {Ha:GH} {wa:World} (hs:Sl Ha wa) (v0:Value) (a0:List (List Int)) (p0:RSl Ha (eL eI 1) 1 v0 a0) {r:(List (List Int))} (hp:(PF.zdt a0)=some r) :
  Calls Tryz.prog 27 #[v0] wa (p_spec_l10Copy Ha wa r):=by
 unfold PF.zdt at hp
 have S0:=St.init hs
 refine zae (N:=21) (args:=[v0]) Tryz.func27 rfl rfl rfl ?_
 refine FW.seq (FW.region ?_)
 refine FL.v (E.assign (v:=Value.slice none 0 0) rfl) ?_
 refine FL.nil (FW.seq (FW.region ?_))
 obtain ⟨v21,w22,run23,S24⟩:=S0.buildSlice (P:=Tryz.prog) te24 [] (parts:=#[]) (cells:=[]) rfl zao zan zad (Nat.le_of_ble_eq_true rfl)
 have els25:Els (up wa.heap.size Ha) (eL eI 1) 1 [] []:=Els.nil
 refine FL.v (E.buildSlice (B0) run23) ?_
 refine FL.v (E.assign (v:=v21) rfl) ?_
 refine FL.nil (FW.seq (FW.seq (FW.region ?_)))
 refine FL.v (E.assign (v:=Value.int .i64 0) rfl) ?_
 refine FL.nil ?_
 obtain ⟨q27,hq,hp⟩:=bndR hp
 refine FW.block ?_
 refine FW.mono (FW.forL (S:=(List (List Int))) (X:=Empty) (fun (i27:Nat) (s27:(List (List Int))) f w=>∃ H:GH,∃ v28:Value,∃ n29:Nat,∃ cs30:List Value,St Ha wa H w [.row 34 1 v28 n29 cs30]∧Inc Ha H∧Els (up wa.heap.size H) (eL eI 1) 1 cs30 s27∧(bl cs30).Nodup∧f 4=Value.int .i64 ((i27:Nat):Int)∧f 0=v0∧f 3=v28) (fun (q:Rs (List (List Int)) Empty) e f w=>match q with|.go s27=>e=Exit.exit 0∧(∃ H:GH,∃ v28:Value,∃ n29:Nat,∃ cs30:List Value,St Ha wa H w [.row 34 1 v28 n29 cs30]∧Inc Ha H∧Els (up wa.heap.size H) (eL eI 1) 1 cs30 s27∧(bl cs30).Nodup∧f 3=v28)|.rt x=>x.elim) hq ⟨_,_,_,_,S24,(Inc.rfl _),els25,(show (bl []).Nodup from List.nodup_nil),rfl,rfl,rfl⟩ ?_ ?_) ?_
 ·
  clear hp hq
  rintro i27 y26 s27 f86 w85 ⟨H82,v28,n29,cs30,S83,i84,els31,nd32,k87,k88,k89⟩ hx27 oAv hp
  refine FW.seq (FW.seq (FW.region ?_))
  refine FL.v (E.move k87) ?_
  refine FL.v (E.move k88) ?_
  refine FL.v (E.lenP te24 rfl p0) ?_
  refine FL.v (E.lssT rfl rfl (zaw hx27)) ?_
  refine FL.nil ?_
  refine FW.condT rfl rfl ?_
  refine FW.skip (FW.seq (FW.block (FW.region ?_)))
  refine FL.v (E.move k89) ?_
  refine FL.v (E.move k88) ?_
  refine FL.v (E.move k87) ?_
  obtain ⟨p90,cs91,pt92,l93,at94,rel95⟩:=p0.at (zal hx27)
  obtain ⟨v96,rfl,h97⟩:=zav rel95
  refine FL.v (E.indexAddr te24 rfl rfl pt92) ?_
  refine FL.v (E.load rfl (zaf Tryz.isAgg34 ((at94.mono i84).now S83.sl) rfl)) ?_
  obtain ⟨r98,hr99,hp⟩:=bnd hp
  refine FL.call rfl rfl rfl (E.call Tryz.call51 (A1 rfl)) (zcn S83.sl v96 y26 (h97.mono i84) hr99) ?_
  rintro e wA1 ⟨HA0,vA4,nA5,csA6,rfl,rA3,elsA7⟩
  refine ⟨_,rfl,?_⟩
  have elsA7:=elsA7.mono (up_le S83.size)
  have SA2:=S83.join (l':=[.row 3 1 vA4 nA5 csA6,.row 34 1 v28 n29 cs30]) rA3 rfl
  obtain ⟨HA8,SA9,iAa,hAb,nvAc⟩:=SA2.sealRowU (i:=0) (l':=[.row 34 1 v28 n29 cs30]) rfl elsA7 (by decide) rfl
  obtain ⟨vAd,wAe,runAf,SAg⟩:=SA9.buildSlice (P:=Tryz.prog) te24 [vA4] (parts:=#[(0,vA4)]) (cells:=[vA4]) rfl (zat (zaH hAb.cells) zao) (zas hAb.cells zan) (zac hAb.one zad) (Nat.le_of_ble_eq_true rfl)
  have elsAh:Els (up wa.heap.size HA8) (eL eI 1) 1 [vA4] [r98]:=(Els.snoc (H:=(up wa.heap.size HA8)) (E:=(eL eI 1)) (k:=1) (c:=[vA4]) (x:=r98) Els.nil rfl ⟨_,rfl,hAb⟩)
  have ndAi:(bl [vA4]).Nodup:=by exact za5 vA4
  refine FL.v (E.buildSlice (B1 rfl) runAf) ?_
  obtain ⟨xsAj,hzAk,hp⟩:=bnd hp
  obtain ⟨vAl,wAo,nAm,csAn,runAp,SAq,elsAr,ceAs⟩:=SAg.appendO (P:=Tryz.prog) te24 (i:=1) (j:=0) rfl (els31.mono (zag (rA3.run.inc.tr iAa))) rfl elsAh hzAk
  have SAq:St Ha wa HA8 wAo [.row 34 1 vAd 1 [vA4],.row 34 1 vAl nAm csAn]:=SAq
  have ndAt:(bl csAn).Nodup:=by rw [ceAs];exact zba nd32 ndAi (Els.dom (els31.mono (upI.tr rA3.run.inc))) (by exact nvAc)
  have SAu:St Ha wa HA8 wAo [.row 34 1 vAl nAm csAn]:=SAq.drop 0
  refine FL.v (E.append rfl rfl runAp) ?_
  refine FL.v (E.assign (v:=vAl) rfl) ?_
  refine FL.nil (FW.region ?_)
  refine FL.v (E.move k87) ?_
  refine FL.v (E.add rfl rfl) ?_
  refine FL.v (E.assign (v:=Value.int .i64 (wr (((i27:Nat):Int) + 1))) rfl) ?_
  refine FL.nil ?_
  obtain rfl:=Option.some.inj hp
  exact ⟨rfl,⟨_,_,_,_,SAu,((i84.tr rA3.run.inc).tr iAa),elsAr,ndAt,(zap rfl (zaq hx27) (p0.mono ((i84.tr rA3.run.inc).tr iAa)).le),k88,rfl⟩⟩
 ·
  clear hp hq
  rintro s27 fAG wAF ⟨HAC,v28,n29,cs30,SAD,iAE,els31,nd32,kAH,kAI,kAJ⟩
  refine FW.seq (FW.seq (FW.region ?_))
  refine FL.v (E.move kAH) ?_
  refine FL.v (E.move kAI) ?_
  refine FL.v (E.lenP te24 rfl p0) ?_
  refine FL.v (E.lss rfl rfl) ?_
  refine FL.nil ?_
  refine FW.condF rfl zax ?_
  refine FW.exit ?_
  exact ⟨nofun,rfl,⟨_,_,_,_,SAD,iAE,els31,nd32,kAJ⟩⟩
 ·
  clear hq
  intro e fAA wAz hD
  rcases q27 with s27|x27
  ·
   obtain ⟨rfl,hD⟩:=hD
   obtain ⟨HAw,v28,n29,cs30,SAx,iAy,els31,nd32,kAB⟩:=hD
   replace hp:=el_go hp
   refine FW.seq (FW.region ?_)
   refine FL.v (E.move kAB) ?_
   refine FL.v (E.assign (v:=v28) rfl) ?_
   refine FL.nil ?_
   refine FW.ret ?_
   obtain rfl:=Option.some.inj hp
   exact ⟨.inr rfl,res1 rfl rfl ⟨_,_,_,_,rfl,SAx,els31,nd32⟩⟩
  ·
   exact x27.elim

@[reducible] def zfG (Ha:GH) (wa:World) (r:((List (List Int))×Bool)):Ending→World→Prop :=
 fun e w'=>∃ H':GH,∃ v0:Value,∃ n0:Nat,∃ c0:List Value,e=.returned (Value.tuple #[v0,Value.bool r.2])∧St Ha wa H' w' [.row 34 1 v0 n0 c0]∧Els (up wa.heap.size H') (eL eI 1) 1 c0 r.1∧(bl c0).Nodup
theorem zfH {Ha:GH} {wa:World} (hs:Sl Ha wa) (a0:Cnf) (v0_1:Value) (p0_1:RSl Ha (eL eI 1) 1 v0_1 a0.clauses) (a1:Int) {r:((List (List Int))×Bool)} (hp:(PF.zb6 a0 a1)=some r) :
  Calls Tryz.prog 7 #[Value.agg #[Value.int .i64 a0.vars,v0_1],Value.int .i64 a1] wa (zfG Ha wa r):=by
 unfold PF.zb6 at hp
 have S0:=St.init hs
 refine zae (N:=16) (args:=[Value.agg #[Value.int .i64 a0.vars,v0_1],Value.int .i64 a1]) Tryz.func7 rfl rfl rfl ?_
 refine FW.seq (FW.region ?_)
 obtain ⟨b21,w22,run23,S24⟩:=S0.box (P:=Tryz.prog) 26 [Value.int .i64 a0.vars,v0_1] (v:=Value.agg #[Value.int .i64 a0.vars,v0_1]) rfl (zac rfl (zac p0_1.one zad))
 refine FL.v (E.box rfl run23) ?_
 obtain ⟨H25,S26,i27,at28⟩:=S24.sealBox (i:=0) (l':=[]) rfl rfl
 refine FL.v (E.assign (v:=Value.slice none 0 0) rfl) ?_
 refine FL.v (E.assign (v:=Value.bool false) rfl) ?_
 refine FL.nil (FW.seq (FW.seq (FW.region ?_)))
 refine FL.v (E.load rfl (zai Tryz.isAgg26 Tryz.sizeOf26 (at28.now S26.sl) rfl)) ?_
 refine FL.v (E.move (v:=Value.int .i64 a1) rfl) ?_
 obtain ⟨r29,hr30,hp⟩:=bnd hp
 refine FL.call rfl rfl rfl (E.call Tryz.call26 (A2 rfl rfl)) (zc0 S26.sl a0 v0_1 (p0_1.mono i27) a1 hr30) ?_
 rintro e w31 ⟨rfl,r32⟩
 refine ⟨_,rfl,?_⟩
 have S33:=S26.call r32
 refine FL.v (E.not rfl) ?_
 refine FL.nil ?_
 rcases ifB hp with ⟨c34,hp⟩|⟨c34,hp⟩
 ·
  refine FW.condT rfl c34 ?_
  refine FW.seq (FW.region ?_)
  obtain ⟨v35,w36,run37,S38⟩:=S33.buildSlice (P:=Tryz.prog) te24 [] (parts:=#[]) (cells:=[]) rfl zao zan zad (Nat.le_of_ble_eq_true rfl)
  have els39:Els (up wa.heap.size H25) (eL eI 1) 1 [] []:=Els.nil
  refine FL.v (E.buildSlice (B0) run37) ?_
  refine FL.v (E.assign (v:=v35) rfl) ?_
  refine FL.v (E.assign (v:=Value.bool false) rfl) ?_
  refine FL.nil ?_
  refine FW.ret ?_
  obtain rfl:=Option.some.inj hp
  exact ⟨.inr rfl,res2 rfl rfl rfl ⟨_,_,_,_,rfl,S38,els39,(show (bl []).Nodup from List.nodup_nil)⟩⟩
 ·
  refine FW.condF rfl c34 ?_
  refine FW.skip (FW.seq (FW.region ?_))
  refine FL.v (E.load rfl (zai Tryz.isAgg26 Tryz.sizeOf26 (at28.now S33.sl) rfl)) ?_
  refine FL.v (E.move (v:=Value.int .i64 a1) rfl) ?_
  obtain ⟨r40,hr41,hp⟩:=bnd hp
  refine FL.call rfl rfl rfl (E.call Tryz.call28 (A2 rfl rfl)) (zd4 S33.sl a0 v0_1 (p0_1.mono i27) a1 hr41) ?_
  rintro e w43 ⟨H42,v46,v48,v51,v54,rfl,r45,h47,h49,h52,h55,bk56⟩
  refine ⟨_,rfl,?_⟩
  have nv50:New H25 [v48]:=New.of_up S33.sl h49.dom
  have h49:=h49.mono (up_le S33.size)
  have nv53:New H25 [v51]:=New.of_up S33.sl h52.dom
  have h52:=h52.mono (up_le S33.size)
  have bk56:=bk56.le S33.size
  have S44:=S33.call r45
  refine FL.v (E.field (fd49_3 rfl) rfl) ?_
  obtain ⟨r57,hr58,hp⟩:=bnd hp
  refine FL.call rfl rfl rfl (E.call Tryz.call27 (A1 rfl)) (w_spec_l10Copy S44.sl v54 r40.left h55 hr58) ?_
  rintro e w60 ⟨H59,v63,n64,cs65,rfl,r62,els66,nd67⟩
  refine ⟨_,rfl,?_⟩
  have nv68:New H42 cs65:=New.of_up S44.sl els66.dom
  have els66:=els66.mono (up_le S44.size)
  have S61:=S44.join (l':=[.row 34 1 v63 n64 cs65]) r62 rfl
  refine FL.v (E.assign (v:=v63) rfl) ?_
  refine FL.v (E.assign (v:=Value.bool true) rfl) ?_
  refine FL.nil ?_
  refine FW.ret ?_
  obtain rfl:=Option.some.inj hp
  exact ⟨.inr rfl,res2 rfl rfl rfl ⟨_,_,_,_,rfl,S61,els66,nd67⟩⟩

set_option maxHeartbeats 4000000 in
theorem w_laws_vInts {Ha:GH} {wa:World} (hs:Sl Ha wa) (v0:Value) (a0:List Int) (p0:RSl Ha eI 1 v0 a0) (v1:Value) (a1:List Int) (p1:RSl Ha eI 1 v1 a1) {r:Bool} (hp:(PF.zb7 a0 a1)=some r) :
  Calls Tryz.prog 16 #[v0,v1] wa (Sc Ha wa (Value.bool r)):=by
 unfold PF.zb7 at hp
 have S0:=St.init hs
 refine zae (N:=26) (args:=[v0,v1]) Tryz.func16 rfl rfl rfl ?_
 refine FW.seq (FW.region ?_)
 refine FL.v (E.assign (v:=Value.bool false) rfl) ?_
 refine FL.nil (FW.seq (FW.seq (FW.region ?_)))
 refine FL.v (E.move (v:=v0) rfl) ?_
 refine FL.v (E.lenP te34 rfl p0) ?_
 refine FL.v (E.move (v:=v1) rfl) ?_
 refine FL.v (E.lenP te34 rfl p1) ?_
 refine FL.v (E.neq rfl rfl) ?_
 refine FL.nil ?_
 rcases ifB hp with ⟨c21,hp⟩|⟨c21,hp⟩
 ·
  refine FW.condT rfl c21 ?_
  refine FW.seq (FW.region ?_)
  refine FL.v (E.assign (v:=Value.bool false) rfl) ?_
  refine FL.nil ?_
  refine FW.ret ?_
  obtain rfl:=Option.some.inj hp
  exact ⟨.inr rfl,res1 rfl rfl ⟨rfl,S0.back⟩⟩
 ·
  refine FW.condF rfl c21 ?_
  refine FW.skip (FW.seq (FW.seq (FW.region ?_)))
  refine FL.v (E.assign (v:=Value.int .i64 0) rfl) ?_
  refine FL.nil ?_
  obtain ⟨q23,hq,hp⟩:=bndR hp
  refine FW.block ?_
  refine FW.mono (FW.forL (S:=Unit) (X:=Bool) (fun (i23:Nat) (s23:Unit) f w=>∃ H:GH,St Ha wa H w []∧Inc Ha H∧f 5=Value.int .i64 ((i23:Nat):Int)∧f 0=v0∧f 1=v1) (fun q e f w=>match q with|.go s23=>e=Exit.exit 0∧(∃ H:GH,St Ha wa H w []∧Inc Ha H)|.rt x=>((e=Exit.ret)∧(fun e f w=>(e=Exit.normal∨e=Exit.ret)∧∀ a,Fr (δ:=[]) 26 a f→∃ v,(results Tryz.f16 a.tmps).run Tryz.prog w=.ok v w∧(Sc Ha wa (Value.bool x)) (.returned v) w) e f w)) hq ⟨_,S0,(Inc.rfl _),rfl,rfl,rfl⟩ ?_ ?_) ?_
  ·
   clear hp hq
   rintro i23 y22 s23 f55 w54 ⟨H51,S52,i53,k56,k57,k58⟩ hx23 o78 hp
   refine FW.seq (FW.seq (FW.region ?_))
   refine FL.v (E.move k56) ?_
   refine FL.v (E.move k57) ?_
   refine FL.v (E.lenP te34 rfl p0) ?_
   refine FL.v (E.lssT rfl rfl (zaw hx23)) ?_
   refine FL.nil ?_
   refine FW.condT rfl rfl ?_
   refine FW.skip (FW.seq (FW.block (FW.seq ?_)))
   refine FW.draw (fun w'=>Run w54.heap.size H51 w54 H51 w') (by kernel_rfl) (by kernel_rfl) (zaG S52.sl) ?_
   refine FD.val rfl rfl rfl (fun w' hw'=>(E.move k57)) ?_
   refine FD.val rfl rfl rfl (fun w' hw'=>(E.move k56)) ?_
   obtain ⟨p60,cs61,pt62,l63,at64,rel65⟩:=p0.at (zal hx23)
   obtain rfl:=zam rel65
   refine FD.val rfl rfl rfl (fun w' hw'=>(E.indexAddr te34 rfl rfl pt62)) ?_
   refine FD.val rfl rfl rfl (fun w' hw'=>(E.load rfl (zaf Tryz.isAgg3 ((at64.mono i53).now (S52.call hw').sl) rfl))) ?_
   refine FD.val rfl rfl rfl (fun w' hw'=>(E.move k58)) ?_
   refine FD.val rfl rfl rfl (fun w' hw'=>(E.move k56)) ?_
   obtain ⟨x72,hx73,hp⟩:=bnd hp
   obtain ⟨p66,cs67,pt68,l69,at70,rel71⟩:=p1.at hx73
   obtain rfl:=zam rel71
   refine FD.val rfl rfl rfl (fun w' hw'=>(E.indexAddr te34 rfl rfl pt68)) ?_
   refine FD.val rfl rfl rfl (fun w' hw'=>(E.load rfl (zaf Tryz.isAgg3 ((at70.mono i53).now (S52.call hw').sl) rfl))) ?_
   refine FD.val rfl rfl rfl (fun w' hw'=>(E.neq rfl rfl)) ?_
   refine FD.nil ?_
   intro w74 r76
   have S75:=S52.call r76
   rcases ifB hp with ⟨c77,hp⟩|⟨c77,hp⟩
   ·
    refine FW.condT rfl c77 ?_
    refine FW.seq (FW.region ?_)
    refine FL.v (E.assign (v:=Value.bool false) rfl) ?_
    refine FL.nil ?_
    refine FW.ret ?_
    obtain rfl:=Option.some.inj hp
    exact ⟨nofun,rfl,⟨.inr rfl,res1 rfl rfl ⟨rfl,S75.back⟩⟩⟩
   ·
    refine FW.condF rfl c77 ?_
    refine FW.skip (FW.region ?_)
    refine FL.v (E.move k56) ?_
    refine FL.v (E.add rfl rfl) ?_
    refine FL.v (E.assign (v:=Value.int .i64 (wr (((i23:Nat):Int) + 1))) rfl) ?_
    refine FL.nil ?_
    obtain rfl:=Option.some.inj hp
    exact ⟨rfl,⟨_,S75,i53,(zap rfl (zaq hx23) (p0.mono i53).le),k57,k58⟩⟩
  ·
   clear hp hq
   rintro s23 f88 w87 ⟨H84,S85,i86,k89,k90,k91⟩
   refine FW.seq (FW.seq (FW.region ?_))
   refine FL.v (E.move k89) ?_
   refine FL.v (E.move k90) ?_
   refine FL.v (E.lenP te34 rfl p0) ?_
   refine FL.v (E.lss rfl rfl) ?_
   refine FL.nil ?_
   refine FW.condF rfl zax ?_
   refine FW.exit ?_
   exact ⟨nofun,rfl,⟨_,S85,i86⟩⟩
  ·
   clear hq
   intro e f83 w82 hD
   rcases q23 with s23|x23
   ·
    obtain ⟨rfl,hD⟩:=hD
    obtain ⟨H79,S80,i81⟩:=hD
    replace hp:=el_go hp
    refine FW.seq (FW.region ?_)
    refine FL.v (E.assign (v:=Value.bool true) rfl) ?_
    refine FL.nil ?_
    refine FW.ret ?_
    obtain rfl:=Option.some.inj hp
    exact ⟨.inr rfl,res1 rfl rfl ⟨rfl,S80.back⟩⟩
   ·
    obtain ⟨he,hL⟩:=hD
    replace hp:=el_rt hp
    obtain rfl:=Option.some.inj hp
    subst he
    exact hL

set_option maxHeartbeats 4000000 in
theorem w_laws_vTable {Ha:GH} {wa:World} (hs:Sl Ha wa) (v0:Value) (a0:List (List Int)) (p0:RSl Ha (eL eI 1) 1 v0 a0) (v1:Value) (a1:List (List Int)) (p1:RSl Ha (eL eI 1) 1 v1 a1) {r:Bool} (hp:(PF.zcQ a0 a1)=some r) :
  Calls Tryz.prog 8 #[v0,v1] wa (Sc Ha wa (Value.bool r)):=by
 unfold PF.zcQ at hp
 have S0:=St.init hs
 refine zae (N:=27) (args:=[v0,v1]) Tryz.func8 rfl rfl rfl ?_
 refine FW.seq (FW.region ?_)
 refine FL.v (E.assign (v:=Value.bool false) rfl) ?_
 refine FL.nil (FW.seq (FW.seq (FW.region ?_)))
 refine FL.v (E.move (v:=v0) rfl) ?_
 refine FL.v (E.lenP te24 rfl p0) ?_
 refine FL.v (E.move (v:=v1) rfl) ?_
 refine FL.v (E.lenP te24 rfl p1) ?_
 refine FL.v (E.neq rfl rfl) ?_
 refine FL.nil ?_
 rcases ifB hp with ⟨c21,hp⟩|⟨c21,hp⟩
 ·
  refine FW.condT rfl c21 ?_
  refine FW.seq (FW.region ?_)
  refine FL.v (E.assign (v:=Value.bool false) rfl) ?_
  refine FL.nil ?_
  refine FW.ret ?_
  obtain rfl:=Option.some.inj hp
  exact ⟨.inr rfl,res1 rfl rfl ⟨rfl,S0.back⟩⟩
 ·
  refine FW.condF rfl c21 ?_
  refine FW.skip (FW.seq (FW.seq (FW.region ?_)))
  refine FL.v (E.assign (v:=Value.int .i64 0) rfl) ?_
  refine FL.nil ?_
  obtain ⟨q23,hq,hp⟩:=bndR hp
  refine FW.block ?_
  refine FW.mono (FW.forL (S:=Unit) (X:=Bool) (fun (i23:Nat) (s23:Unit) f w=>∃ H:GH,St Ha wa H w []∧Inc Ha H∧f 5=Value.int .i64 ((i23:Nat):Int)∧f 0=v0∧f 1=v1) (fun q e f w=>match q with|.go s23=>e=Exit.exit 0∧(∃ H:GH,St Ha wa H w []∧Inc Ha H)|.rt x=>((e=Exit.ret)∧(fun e f w=>(e=Exit.normal∨e=Exit.ret)∧∀ a,Fr (δ:=[]) 27 a f→∃ v,(results Tryz.f8 a.tmps).run Tryz.prog w=.ok v w∧(Sc Ha wa (Value.bool x)) (.returned v) w) e f w)) hq ⟨_,S0,(Inc.rfl _),rfl,rfl,rfl⟩ ?_ ?_) ?_
  ·
   clear hp hq
   rintro i23 y22 s23 f61 w60 ⟨H57,S58,i59,k62,k63,k64⟩ hx23 o90 hp
   refine FW.seq (FW.seq (FW.region ?_))
   refine FL.v (E.move k62) ?_
   refine FL.v (E.move k63) ?_
   refine FL.v (E.lenP te24 rfl p0) ?_
   refine FL.v (E.lssT rfl rfl (zaw hx23)) ?_
   refine FL.nil ?_
   refine FW.condT rfl rfl ?_
   refine FW.skip (FW.seq (FW.block (FW.seq ?_)))
   refine FW.draw (fun w'=>Run w60.heap.size H57 w60 H57 w') (by kernel_rfl) (by kernel_rfl) (zaG S58.sl) ?_
   refine FD.val rfl rfl rfl (fun w' hw'=>(E.move k63)) ?_
   refine FD.val rfl rfl rfl (fun w' hw'=>(E.move k62)) ?_
   obtain ⟨p66,cs67,pt68,l69,at70,rel71⟩:=p0.at (zal hx23)
   obtain ⟨v72,rfl,h73⟩:=zav rel71
   refine FD.val rfl rfl rfl (fun w' hw'=>(E.indexAddr te24 rfl rfl pt68)) ?_
   refine FD.val rfl rfl rfl (fun w' hw'=>(E.load rfl (zaf Tryz.isAgg34 ((at70.mono i59).now (S58.call hw').sl) rfl))) ?_
   refine FD.val rfl rfl rfl (fun w' hw'=>(E.move k64)) ?_
   refine FD.val rfl rfl rfl (fun w' hw'=>(E.move k62)) ?_
   obtain ⟨x80,hx81,hp⟩:=bnd hp
   obtain ⟨p74,cs75,pt76,l77,at78,rel79⟩:=p1.at hx81
   obtain ⟨v82,rfl,h83⟩:=zav rel79
   refine FD.val rfl rfl rfl (fun w' hw'=>(E.indexAddr te24 rfl rfl pt76)) ?_
   refine FD.val rfl rfl rfl (fun w' hw'=>(E.load rfl (zaf Tryz.isAgg34 ((at78.mono i59).now (S58.call hw').sl) rfl))) ?_
   obtain ⟨r84,hr85,hp⟩:=bnd hp
   refine FD.call rfl rfl rfl (fun w' hw'=>(E.call Tryz.call16 (A2 rfl rfl))) (fun w' hw'=>Calls.cls hw' (w_laws_vInts (S58.call hw').sl v72 y22 (h73.mono i59) v82 x80 (h83.mono i59) hr85)) ?_
   refine FD.val rfl rfl rfl (fun w' hw'=>(E.not rfl)) ?_
   refine FD.nil ?_
   intro w86 r88
   have S87:=S58.call r88
   rcases ifB hp with ⟨c89,hp⟩|⟨c89,hp⟩
   ·
    refine FW.condT rfl c89 ?_
    refine FW.seq (FW.region ?_)
    refine FL.v (E.assign (v:=Value.bool false) rfl) ?_
    refine FL.nil ?_
    refine FW.ret ?_
    obtain rfl:=Option.some.inj hp
    exact ⟨nofun,rfl,⟨.inr rfl,res1 rfl rfl ⟨rfl,S87.back⟩⟩⟩
   ·
    refine FW.condF rfl c89 ?_
    refine FW.skip (FW.region ?_)
    refine FL.v (E.move k62) ?_
    refine FL.v (E.add rfl rfl) ?_
    refine FL.v (E.assign (v:=Value.int .i64 (wr (((i23:Nat):Int) + 1))) rfl) ?_
    refine FL.nil ?_
    obtain rfl:=Option.some.inj hp
    exact ⟨rfl,⟨_,S87,i59,(zap rfl (zaq hx23) (p0.mono i59).le),k63,k64⟩⟩
  ·
   clear hp hq
   rintro s23 fA0 w99 ⟨H96,S97,i98,kA1,kA2,kA3⟩
   refine FW.seq (FW.seq (FW.region ?_))
   refine FL.v (E.move kA1) ?_
   refine FL.v (E.move kA2) ?_
   refine FL.v (E.lenP te24 rfl p0) ?_
   refine FL.v (E.lss rfl rfl) ?_
   refine FL.nil ?_
   refine FW.condF rfl zax ?_
   refine FW.exit ?_
   exact ⟨nofun,rfl,⟨_,S97,i98⟩⟩
  ·
   clear hq
   intro e f95 w94 hD
   rcases q23 with s23|x23
   ·
    obtain ⟨rfl,hD⟩:=hD
    obtain ⟨H91,S92,i93⟩:=hD
    replace hp:=el_go hp
    refine FW.seq (FW.region ?_)
    refine FL.v (E.assign (v:=Value.bool true) rfl) ?_
    refine FL.nil ?_
    refine FW.ret ?_
    obtain rfl:=Option.some.inj hp
    exact ⟨.inr rfl,res1 rfl rfl ⟨rfl,S92.back⟩⟩
   ·
    obtain ⟨he,hL⟩:=hD
    replace hp:=el_rt hp
    obtain rfl:=Option.some.inj hp
    subst he
    exact hL

theorem w_impl_HasFamily {Ha:GH} {wa:World} (hs:Sl Ha wa) (a0:Cnf) (v0_1:Value) (p0_1:RSl Ha (eL eI 1) 1 v0_1 a0.clauses) (a1:Int) {r:(Bool×Bool)} (hp:(PF.zb8 a0 a1)=some r) :
  Calls Tryz.prog 9 #[Value.agg #[Value.int .i64 a0.vars,v0_1],Value.int .i64 a1] wa (Sc Ha wa (Value.tuple #[Value.bool r.1,Value.bool r.2])):=by
 unfold PF.zb8 at hp
 have S0:=St.init hs
 refine zae (N:=16) (args:=[Value.agg #[Value.int .i64 a0.vars,v0_1],Value.int .i64 a1]) Tryz.func9 rfl rfl rfl ?_
 refine FW.seq (FW.region ?_)
 obtain ⟨b21,w22,run23,S24⟩:=S0.box (P:=Tryz.prog) 26 [Value.int .i64 a0.vars,v0_1] (v:=Value.agg #[Value.int .i64 a0.vars,v0_1]) rfl (zac rfl (zac p0_1.one zad))
 refine FL.v (E.box rfl run23) ?_
 obtain ⟨H25,S26,i27,at28⟩:=S24.sealBox (i:=0) (l':=[]) rfl rfl
 refine FL.v (E.assign (v:=Value.bool false) rfl) ?_
 refine FL.v (E.assign (v:=Value.bool false) rfl) ?_
 refine FL.nil (FW.seq (FW.seq (FW.region ?_)))
 refine FL.v (E.load rfl (zai Tryz.isAgg26 Tryz.sizeOf26 (at28.now S26.sl) rfl)) ?_
 refine FL.v (E.move (v:=Value.int .i64 a1) rfl) ?_
 obtain ⟨r29,hr30,hp⟩:=bnd hp
 refine FL.call rfl rfl rfl (E.call Tryz.call23 (A2 rfl rfl)) (zco S26.sl a0 v0_1 (p0_1.mono i27) a1 hr30) ?_
 rintro e w31 ⟨rfl,r32⟩
 refine ⟨_,rfl,?_⟩
 have S33:=S26.call r32
 refine FL.v (E.not rfl) ?_
 refine FL.nil ?_
 rcases ifB hp with ⟨c34,hp⟩|⟨c34,hp⟩
 ·
  refine FW.condT rfl c34 ?_
  refine FW.seq (FW.region ?_)
  refine FL.v (E.assign (v:=Value.bool false) rfl) ?_
  refine FL.v (E.assign (v:=Value.bool false) rfl) ?_
  refine FL.nil ?_
  refine FW.ret ?_
  obtain rfl:=Option.some.inj hp
  exact ⟨.inr rfl,res2 rfl rfl rfl ⟨rfl,S33.back⟩⟩
 ·
  refine FW.condF rfl c34 ?_
  refine FW.skip (FW.seq (FW.region ?_))
  refine FL.v (E.load rfl (zai Tryz.isAgg26 Tryz.sizeOf26 (at28.now S33.sl) rfl)) ?_
  refine FL.v (E.move (v:=Value.int .i64 a1) rfl) ?_
  obtain ⟨r35,hr36,hp⟩:=bnd hp
  refine FL.call rfl rfl rfl (E.call Tryz.call24 (A2 rfl rfl)) (zer S33.sl a0 v0_1 (p0_1.mono i27) a1 hr36) ?_
  rintro e w38 ⟨H37,v41,rfl,r40,h42⟩
  refine ⟨_,rfl,?_⟩
  have S39:=S33.call r40
  obtain ⟨y43,hy44,hp⟩:=bnd hp
  rw [hy44] at h42
  obtain ⟨q45,rfl,v46,v48,v50,v53,h47,h49,h51,h54,at56⟩:=h42
  have nv52:New H25 [v50]:=New.of_up S33.sl h51.dom
  have h51:=h51.mono (up_le S33.size)
  have nv55:New H25 [v53]:=New.of_up S33.sl h54.dom
  have h54:=h54.mono (up_le S33.size)
  obtain ⟨r57,hr58,hp⟩:=bnd hp
  refine FL.call rfl rfl rfl (E.call Tryz.call25 (A1 rfl)) (ze0 S39.sl q45 y43 v46 v48 v50 v53 h47 h49 (h51.mono upI) (h54.mono upI) at56 hr58) ?_
  rintro e w60 ⟨H59,v63,n64,cs65,rfl,r62,els66⟩
  refine ⟨_,rfl,?_⟩
  have nv67:New H37 cs65:=New.of_up S39.sl els66.dom
  have els66:=els66.mono (up_le S39.size)
  have S61:=S39.join (l':=[.row 34 1 v63 n64 cs65]) r62 rfl
  refine FL.v (E.lenO te24 rfl S61 (i:=0) rfl els66 (by decide)) ?_
  refine FL.v (E.gtr rfl rfl) ?_
  refine FL.v (E.assign (v:=Value.bool (decide (0 < (len r57)))) rfl) ?_
  refine FL.v (E.assign (v:=Value.bool true) rfl) ?_
  refine FL.nil ?_
  refine FW.ret ?_
  obtain rfl:=Option.some.inj hp
  exact ⟨.inr rfl,res2 rfl rfl rfl ⟨rfl,S61.back⟩⟩

theorem w_spec_HasFamily {Ha:GH} {wa:World} (hs:Sl Ha wa) (a0:Cnf) (v0_1:Value) (p0_1:RSl Ha (eL eI 1) 1 v0_1 a0.clauses) (a1:Int) {r:(Bool×Bool)} (hp:(PF.zb9 a0 a1)=some r) :
  Calls Tryz.prog 10 #[Value.agg #[Value.int .i64 a0.vars,v0_1],Value.int .i64 a1] wa (Sc Ha wa (Value.tuple #[Value.bool r.1,Value.bool r.2])):=by
 unfold PF.zb9 at hp
 have S0:=St.init hs
 refine zae (N:=16) (args:=[Value.agg #[Value.int .i64 a0.vars,v0_1],Value.int .i64 a1]) Tryz.func10 rfl rfl rfl ?_
 refine FW.seq (FW.region ?_)
 obtain ⟨b21,w22,run23,S24⟩:=S0.box (P:=Tryz.prog) 26 [Value.int .i64 a0.vars,v0_1] (v:=Value.agg #[Value.int .i64 a0.vars,v0_1]) rfl (zac rfl (zac p0_1.one zad))
 refine FL.v (E.box rfl run23) ?_
 obtain ⟨H25,S26,i27,at28⟩:=S24.sealBox (i:=0) (l':=[]) rfl rfl
 refine FL.v (E.assign (v:=Value.bool false) rfl) ?_
 refine FL.v (E.assign (v:=Value.bool false) rfl) ?_
 refine FL.nil (FW.seq (FW.seq (FW.region ?_)))
 refine FL.v (E.load rfl (zai Tryz.isAgg26 Tryz.sizeOf26 (at28.now S26.sl) rfl)) ?_
 refine FL.v (E.move (v:=Value.int .i64 a1) rfl) ?_
 obtain ⟨r29,hr30,hp⟩:=bnd hp
 refine FL.call rfl rfl rfl (E.call Tryz.call26 (A2 rfl rfl)) (zc0 S26.sl a0 v0_1 (p0_1.mono i27) a1 hr30) ?_
 rintro e w31 ⟨rfl,r32⟩
 refine ⟨_,rfl,?_⟩
 have S33:=S26.call r32
 refine FL.v (E.not rfl) ?_
 refine FL.nil ?_
 rcases ifB hp with ⟨c34,hp⟩|⟨c34,hp⟩
 ·
  refine FW.condT rfl c34 ?_
  refine FW.seq (FW.region ?_)
  refine FL.v (E.assign (v:=Value.bool false) rfl) ?_
  refine FL.v (E.assign (v:=Value.bool false) rfl) ?_
  refine FL.nil ?_
  refine FW.ret ?_
  obtain rfl:=Option.some.inj hp
  exact ⟨.inr rfl,res2 rfl rfl rfl ⟨rfl,S33.back⟩⟩
 ·
  refine FW.condF rfl c34 ?_
  refine FW.skip (FW.seq (FW.region ?_))
  refine FL.v (E.load rfl (zai Tryz.isAgg26 Tryz.sizeOf26 (at28.now S33.sl) rfl)) ?_
  refine FL.v (E.move (v:=Value.int .i64 a1) rfl) ?_
  obtain ⟨r35,hr36,hp⟩:=bnd hp
  refine FL.call rfl rfl rfl (E.call Tryz.call28 (A2 rfl rfl)) (zd4 S33.sl a0 v0_1 (p0_1.mono i27) a1 hr36) ?_
  rintro e w38 ⟨H37,v41,v43,v46,v49,rfl,r40,h42,h44,h47,h50,bk51⟩
  refine ⟨_,rfl,?_⟩
  have nv45:New H25 [v43]:=New.of_up S33.sl h44.dom
  have h44:=h44.mono (up_le S33.size)
  have nv48:New H25 [v46]:=New.of_up S33.sl h47.dom
  have h47:=h47.mono (up_le S33.size)
  have bk51:=bk51.le S33.size
  have S39:=S33.call r40
  refine FL.v (E.field (fd49_3 rfl) rfl) ?_
  refine FL.v (E.lenP te24 rfl h50) ?_
  refine FL.v (E.gtr rfl rfl) ?_
  refine FL.v (E.assign (v:=Value.bool (decide (0 < (len r35.left)))) rfl) ?_
  refine FL.v (E.assign (v:=Value.bool true) rfl) ?_
  refine FL.nil ?_
  refine FW.ret ?_
  obtain rfl:=Option.some.inj hp
  exact ⟨.inr rfl,res2 rfl rfl rfl ⟨rfl,S39.back⟩⟩

set_option maxHeartbeats 4000000 in
theorem w_impl_maskOf {Ha:GH} {wa:World} (hs:Sl Ha wa) (v0:Value) (a0:List Int) (p0:RSl Ha eI 1 v0 a0) {r:Int} (hp:(PF.zca a0)=some r) :
  Calls Tryz.prog 63 #[v0] wa (Sc Ha wa (Value.int .u16 r)):=by
 unfold PF.zca at hp
 have S0:=St.init hs
 refine zae (N:=27) (args:=[v0]) Tryz.func63 rfl rfl rfl ?_
 refine FW.seq (FW.region ?_)
 refine FL.v (E.assign (v:=Value.int .u16 0) rfl) ?_
 refine FL.nil (FW.seq (FW.region ?_))
 refine FL.v (E.assign (v:=Value.int .u16 0) rfl) ?_
 refine FL.nil (FW.seq (FW.seq (FW.region ?_)))
 refine FL.v (E.move (v:=v0) rfl) ?_
 refine FL.v (E.lenP te34 rfl p0) ?_
 refine FL.v (E.move (v:=Value.int .i64 0) rfl) ?_
 refine FL.nil ?_
 obtain ⟨q22,hq,hp⟩:=bndR hp
 refine FW.block ?_
 refine FW.mono (FW.forL (S:=Int) (X:=Empty) (fun (i22:Nat) (s22:Int) f w=>∃ H:GH,St Ha wa H w []∧Inc Ha H∧f 8=Value.int .i64 ((i22:Nat):Int)∧f 3=Value.int .u16 s22∧f 6=v0∧f 7=Value.int .i64 (len a0)) (fun (q:Rs Int Empty) e f w=>match q with|.go s22=>e=Exit.exit 0∧(∃ H:GH,St Ha wa H w []∧Inc Ha H∧f 3=Value.int .u16 s22)|.rt x=>x.elim) hq ⟨_,S0,(Inc.rfl _),rfl,rfl,rfl,rfl⟩ ?_ ?_) ?_
 ·
  clear hp hq
  rintro i22 y21 s22 f47 w46 ⟨H43,S44,i45,k48,k49,k50,k51⟩ hx22 o63 hp
  refine FW.seq (FW.region ?_)
  refine FL.v (E.lssT k48 k51 (zaw hx22)) ?_
  refine FL.nil (FW.seq ?_)
  refine FW.condT rfl rfl ?_
  refine FW.skip (FW.seq (FW.block (FW.seq (FW.region ?_))))
  obtain ⟨p52,cs53,pt54,l55,at56,rel57⟩:=p0.at (zal hx22)
  obtain rfl:=zam rel57
  refine FL.v (E.indexAddr te34 k50 k48 pt54) ?_
  refine FL.v (E.load rfl (zaf Tryz.isAgg3 ((at56.mono i45).now S44.sl) rfl)) ?_
  refine FL.v (E.assign (v:=Value.int .i64 y21) rfl) ?_
  refine FL.nil (FW.seq (FW.region ?_))
  refine FL.v (E.move (v:=Value.int .i64 y21) rfl) ?_
  refine FL.v (E.gtr rfl rfl) ?_
  refine FL.nil ?_
  rcases ifB hp with ⟨c58,hp⟩|⟨c58,hp⟩
  ·
   refine FW.condT rfl c58 ?_
   refine FW.region ?_
   refine FL.v (E.move k49) ?_
   refine FL.v (E.move (v:=Value.int .i64 y21) rfl) ?_
   refine FL.v (E.sub rfl rfl) ?_
   obtain ⟨u60,z59,hp⟩:=bnd hp
   refine FL.v (E.shl rfl rfl (nn_ge z59)) ?_
   refine FL.v (E.or rfl rfl) ?_
   refine FL.v (E.assign (v:=Value.int .u16 (orK false 16 s22 (shlK false 16 1 (wr (y21 - 1))))) rfl) ?_
   refine FL.nil (FW.region ?_)
   refine FL.v (E.add k48 rfl) ?_
   refine FL.v (E.move (v:=Value.int .i64 (wr (((i22:Nat):Int) + 1))) rfl) ?_
   refine FL.nil ?_
   obtain rfl:=Option.some.inj hp
   exact ⟨rfl,⟨_,S44,i45,(zap rfl (zaq hx22) (p0.mono i45).le),rfl,k50,k51⟩⟩
  ·
   refine FW.condF rfl c58 ?_
   refine FW.region ?_
   refine FL.v (E.move k49) ?_
   refine FL.v (E.move (v:=Value.int .i64 y21) rfl) ?_
   refine FL.v (E.sub rfl rfl) ?_
   refine FL.v (E.sub rfl rfl) ?_
   obtain ⟨u62,z61,hp⟩:=bnd hp
   refine FL.v (E.shl rfl rfl (nn_ge z61)) ?_
   refine FL.v (E.or rfl rfl) ?_
   refine FL.v (E.assign (v:=Value.int .u16 (orK false 16 s22 (shlK false 16 1 (wr ((wr (6 - y21)) - 1))))) rfl) ?_
   refine FL.nil (FW.region ?_)
   refine FL.v (E.add k48 rfl) ?_
   refine FL.v (E.move (v:=Value.int .i64 (wr (((i22:Nat):Int) + 1))) rfl) ?_
   refine FL.nil ?_
   obtain rfl:=Option.some.inj hp
   exact ⟨rfl,⟨_,S44,i45,(zap rfl (zaq hx22) (p0.mono i45).le),rfl,k50,k51⟩⟩
 ·
  clear hp hq
  rintro s22 f74 w73 ⟨H70,S71,i72,k75,k76,k77,k78⟩
  refine FW.seq (FW.region ?_)
  refine FL.v (E.lss k75 k78) ?_
  refine FL.nil (FW.seq ?_)
  refine FW.condF rfl zax ?_
  refine FW.exit ?_
  exact ⟨nofun,rfl,⟨_,S71,i72,k76⟩⟩
 ·
  clear hq
  intro e f68 w67 hD
  rcases q22 with s22|x22
  ·
   obtain ⟨rfl,hD⟩:=hD
   obtain ⟨H64,S65,i66,k69⟩:=hD
   replace hp:=el_go hp
   refine FW.seq (FW.region ?_)
   refine FL.v (E.move k69) ?_
   refine FL.v (E.assign (v:=Value.int .u16 s22) rfl) ?_
   refine FL.nil ?_
   refine FW.ret ?_
   obtain rfl:=Option.some.inj hp
   exact ⟨.inr rfl,res1 rfl rfl ⟨rfl,S65.back⟩⟩
  ·
   exact x22.elim

theorem zfI {Ha:GH} {wa:World} (hs:Sl Ha wa) (a0:Int) :
  Calls Tryz.prog 103 #[Value.int .u16 a0] wa (Sc Ha wa (Value.int .u16 (PF.za9 a0))):=by
 obtain ⟨r,hp⟩:∃ r,(PF.za9 a0)=r:=⟨_,rfl⟩
 rw [hp]
 unfold PF.za9 at hp
 have S0:=St.init hs
 refine zae (N:=9) (args:=[Value.int .u16 a0]) Tryz.func103 rfl rfl rfl ?_
 refine FW.seq (FW.region ?_)
 refine FL.v (E.assign (v:=Value.int .u16 0) rfl) ?_
 refine FL.nil (FW.seq (FW.region ?_))
 refine FL.v (E.move (v:=Value.int .u16 a0) rfl) ?_
 refine FL.v (E.and rfl rfl) ?_
 refine FL.v (E.shl rfl rfl (by decide)) ?_
 refine FL.v (E.move (v:=Value.int .u16 a0) rfl) ?_
 refine FL.v (E.shr rfl rfl (by decide)) ?_
 refine FL.v (E.or rfl rfl) ?_
 refine FL.v (E.assign (v:=Value.int .u16 (orK false 16 (shlK false 16 (andK false 16 a0 63) 6) (shrK 16 a0 6))) rfl) ?_
 refine FL.nil ?_
 refine FW.ret ?_
 obtain rfl:=hp
 exact ⟨.inr rfl,res1 rfl rfl ⟨rfl,S0.back⟩⟩

theorem w_impl_bothOf {Ha:GH} {wa:World} (hs:Sl Ha wa) (a0:Int) (a1:Int) :
  Calls Tryz.prog 64 #[Value.int .u16 a0,Value.int .u16 a1] wa (Sc Ha wa (Value.int .u16 (PF.zak a0 a1))):=by
 obtain ⟨r,hp⟩:∃ r,(PF.zak a0 a1)=r:=⟨_,rfl⟩
 rw [hp]
 unfold PF.zak at hp
 have S0:=St.init hs
 refine zae (N:=15) (args:=[Value.int .u16 a0,Value.int .u16 a1]) Tryz.func64 rfl rfl rfl ?_
 refine FW.seq (FW.region ?_)
 refine FL.v (E.assign (v:=Value.int .u16 0) rfl) ?_
 refine FL.nil (FW.seq (FW.region ?_))
 refine FL.v (E.move (v:=Value.int .u16 a0) rfl) ?_
 refine FL.v (E.move (v:=Value.int .u16 a1) rfl) ?_
 refine FL.call rfl rfl rfl (E.call Tryz.call103 (A1 rfl)) (zfI S0.sl a1) ?_
 rintro e w21 ⟨rfl,r22⟩
 refine ⟨_,rfl,?_⟩
 have S23:=S0.call r22
 refine FL.v (E.and rfl rfl) ?_
 refine FL.v (E.assign (v:=Value.int .u16 (andK false 16 a0 (PF.za9 a1))) rfl) ?_
 refine FL.nil (FW.seq (FW.region ?_))
 refine FL.v (E.move (v:=Value.int .u16 (andK false 16 a0 (PF.za9 a1))) rfl) ?_
 refine FL.v (E.move (v:=Value.int .u16 (andK false 16 a0 (PF.za9 a1))) rfl) ?_
 refine FL.v (E.shr rfl rfl (by decide)) ?_
 refine FL.v (E.or rfl rfl) ?_
 refine FL.v (E.and rfl rfl) ?_
 refine FL.v (E.assign (v:=Value.int .u16 (andK false 16 (orK false 16 (andK false 16 a0 (PF.za9 a1)) (shrK 16 (andK false 16 a0 (PF.za9 a1)) 6)) 63)) rfl) ?_
 refine FL.nil ?_
 refine FW.ret ?_
 obtain rfl:=hp
 exact ⟨.inr rfl,res1 rfl rfl ⟨rfl,S23.back⟩⟩

theorem w_impl_mask_one {Ha:GH} {wa:World} (hs:Sl Ha wa) (a0:Int) :
  Calls Tryz.prog 65 #[Value.int .u16 a0] wa (Sc Ha wa (Value.bool (PF.zcb a0))):=by
 obtain ⟨r,hp⟩:∃ r,(PF.zcb a0)=r:=⟨_,rfl⟩
 rw [hp]
 unfold PF.zcb at hp
 have S0:=St.init hs
 refine zae (N:=12) (args:=[Value.int .u16 a0]) Tryz.func65 rfl rfl rfl ?_
 refine FW.seq (FW.region ?_)
 refine FL.v (E.assign (v:=Value.bool false) rfl) ?_
 refine FL.nil (FW.seq (FW.region ?_))
 refine FL.v (E.move (v:=Value.int .u16 a0) rfl) ?_
 refine FL.v (E.neq rfl rfl) ?_
 refine FL.v (E.move (v:=Value.bool (!(a0 == 0))) rfl) ?_
 refine FL.cut 6 (fun f w=>∃ H:GH,St Ha wa H w []∧Inc Ha H∧f 11=Value.bool (bif (!(a0 == 0)) then ((andK false 16 a0 (wrk false 16 (a0 - 1))) == 0) else false)) ?_ ?_
 ·
  rcases bcase (!(a0 == 0)) with c27|c27
  ·
   refine FL.val (zab rfl rfl rfl c27) rfl rfl (E.move (v:=Value.int .u16 a0) rfl) ?_
   refine FL.val (zab rfl rfl rfl c27) rfl rfl (E.move (v:=Value.int .u16 a0) rfl) ?_
   refine FL.val (zab rfl rfl rfl c27) rfl rfl (E.subK rfl rfl) ?_
   refine FL.val (zab rfl rfl rfl c27) rfl rfl (E.and rfl rfl) ?_
   refine FL.val (zab rfl rfl rfl c27) rfl rfl (E.eql rfl rfl) ?_
   refine FL.v (E.pickT rfl c27 rfl) ?_
   exact FL.nil ⟨rfl,_,S0,(Inc.rfl _),(congrArg Value.bool (bifT c27).symm)⟩
  ·
   refine FL.skip (wF_no rfl rfl rfl c27) rfl ?_
   refine FL.skip (wF_no rfl rfl rfl c27) rfl ?_
   refine FL.skip (wF_no rfl rfl rfl c27) rfl ?_
   refine FL.skip (wF_no rfl rfl rfl c27) rfl ?_
   refine FL.skip (wF_no rfl rfl rfl c27) rfl ?_
   refine FL.v (E.pickF rfl c27 rfl) ?_
   exact FL.nil ⟨rfl,_,S0,(Inc.rfl _),(congrArg Value.bool (bifF c27).symm)⟩
 rintro f26 w25 ⟨H22,S23,i24,k28⟩
 refine FL.v (E.assign k28) ?_
 refine FL.nil ?_
 refine FW.ret ?_
 obtain rfl:=hp
 exact ⟨.inr rfl,res1 rfl rfl ⟨rfl,S23.back⟩⟩

theorem w_impl_mask_count {Ha:GH} {wa:World} (hs:Sl Ha wa) (a0:Int) {r:Int} (hp:(PF.zbO a0)=some r) :
  Calls Tryz.prog 66 #[Value.int .u16 a0] wa (Sc Ha wa (Value.int .i64 r)):=by
 unfold PF.zbO at hp
 have S0:=St.init hs
 refine zae (N:=13) (args:=[Value.int .u16 a0]) Tryz.func66 rfl rfl rfl ?_
 refine FW.seq (FW.region ?_)
 refine FL.v (E.assign (v:=Value.int .i64 0) rfl) ?_
 refine FL.nil (FW.seq (FW.region ?_))
 refine FL.v (E.assign (v:=Value.int .i64 0) rfl) ?_
 refine FL.nil (FW.seq ?_)
 obtain ⟨q21,hq,hp⟩:=bndR hp
 refine FW.block ?_
 refine FW.mono (FW.iter (S:=(Int×Int)) (X:=Empty) (fun (s21:(Int×Int)) f w=>∃ H:GH,St Ha wa H w []∧Inc Ha H∧f 0=Value.int .u16 s21.1∧f 3=Value.int .i64 s21.2) (fun (q:Rs (Int×Int) Empty) e f w=>match q with|.go s21=>e=Exit.exit 0∧(∃ H:GH,St Ha wa H w []∧Inc Ha H∧f 3=Value.int .i64 s21.2)|.rt x=>x.elim) hq ⟨_,S0,(Inc.rfl _),rfl,rfl⟩ ?_) ?_
 ·
  clear hp hq
  rintro s21 f34 w33 ⟨H30,S31,i32,k35,k36⟩ o38 hp
  refine FW.seq (FW.seq (FW.region ?_))
  refine FL.v (E.move k35) ?_
  refine FL.v (E.neq rfl rfl) ?_
  refine FL.nil ?_
  rcases ifB hp with ⟨c37,hp⟩|⟨c37,hp⟩
  ·
   refine FW.condT rfl c37 ?_
   refine FW.skip (FW.seq (FW.block (FW.region ?_)))
   refine FL.v (E.move k36) ?_
   refine FL.v (E.add rfl rfl) ?_
   refine FL.v (E.assign (v:=Value.int .i64 (wr (s21.2 + 1))) rfl) ?_
   refine FL.nil (FW.region ?_)
   refine FL.v (E.move k35) ?_
   refine FL.v (E.move k35) ?_
   refine FL.v (E.subK rfl rfl) ?_
   refine FL.v (E.and rfl rfl) ?_
   refine FL.v (E.assign (v:=Value.int .u16 (andK false 16 s21.1 (wrk false 16 (s21.1 - 1)))) rfl) ?_
   refine FL.nil ?_
   obtain rfl:=Option.some.inj hp
   exact ⟨rfl,⟨_,S31,i32,rfl,rfl⟩⟩
  ·
   refine FW.condF rfl c37 ?_
   refine FW.exit ?_
   obtain rfl:=Option.some.inj hp
   exact ⟨nofun,rfl,⟨_,S31,i32,k36⟩⟩
 ·
  clear hq
  intro e f43 w42 hD
  rcases q21 with s21|x21
  ·
   obtain ⟨rfl,hD⟩:=hD
   obtain ⟨H39,S40,i41,k44⟩:=hD
   replace hp:=el_go hp
   refine FW.seq (FW.region ?_)
   refine FL.v (E.move k44) ?_
   refine FL.v (E.assign (v:=Value.int .i64 s21.2) rfl) ?_
   refine FL.nil ?_
   refine FW.ret ?_
   obtain rfl:=Option.some.inj hp
   exact ⟨.inr rfl,res1 rfl rfl ⟨rfl,S40.back⟩⟩
  ·
   exact x21.elim

@[reducible] def p_impl_closureOf (Ha:GH) (wa:World) (r:(Option za7)):Ending→World→Prop :=
 fun e w'=>∃ H':GH,∃ v0:Value,e=.returned (v0)∧Run wa.heap.size Ha wa H' w'∧OP (fun (q:Addr) (x:za7)=>∃ v0R_0:Value,∃ v0R_1:Value,RSl (up wa.heap.size H') (eN .u16) 1 v0R_0 x.masks∧MAt (K:=Int) (V:=Int) H' (Value.int .u16) (Value.int .i64) v0R_1 x.rounds∧CAt H' q [v0R_0,v0R_1,Value.int .i64 x.last]) v0 r
set_option maxHeartbeats 4000000 in
theorem ze7 {Ha:GH} {wa:World} (hs:Sl Ha wa) (a0:Cnf) (v0_1:Value) (p0_1:RSl Ha (eL eI 1) 1 v0_1 a0.clauses) (a1:Int) {r:(Option za7)} (hp:(PF.zcR a0 a1)=some r) :
  Calls Tryz.prog 33 #[Value.agg #[Value.int .i64 a0.vars,v0_1],Value.int .i64 a1] wa (p_impl_closureOf Ha wa r):=by
 unfold PF.zcR at hp
 have S0:=St.init hs
 refine zae (N:=99) (args:=[Value.agg #[Value.int .i64 a0.vars,v0_1],Value.int .i64 a1]) Tryz.func33 rfl rfl rfl ?_
 refine FW.seq (FW.region ?_)
 obtain ⟨b21,w22,run23,S24⟩:=S0.box (P:=Tryz.prog) 26 [Value.int .i64 a0.vars,v0_1] (v:=Value.agg #[Value.int .i64 a0.vars,v0_1]) rfl (zac rfl (zac p0_1.one zad))
 refine FL.v (E.box rfl run23) ?_
 obtain ⟨H25,S26,i27,at28⟩:=S24.sealBox (i:=0) (l':=[]) rfl rfl
 refine FL.v (E.assign (v:=Value.pointer none) rfl) ?_
 refine FL.nil (FW.seq (FW.region ?_))
 obtain ⟨b29,o30,w31,run32,S33,hm34⟩:=S26.makeMap (P:=Tryz.prog) (K:=Int) (V:=Int) 82 (Value.int .u16) (Value.int .i64)
 refine FL.v (E.makeMap run32) ?_
 refine FL.v (E.build (B1 rfl) (run_build _ 85 #[(1,Value.map (some b29))] #[Value.slice none 0 0,Value.map (some b29),Value.int .i64 0] (by rfl))) ?_
 have S39:=S33.nil 88 1
 have els40:Els (up wa.heap.size H25) (eN .u16) 1 [] []:=Els.nil
 obtain ⟨b35,w36,run37,S38⟩:=S39.box (P:=Tryz.prog) 85 [(Value.slice none 0 0),Value.map (some b29),Value.int .i64 0] (v:=Value.agg #[Value.slice none 0 0,Value.map (some b29),Value.int .i64 0]) rfl (zac (Ln.one (S39.row_ln (i:=0) rfl)) (zac rfl (zac rfl zad)))
 refine FL.v (E.box rfl run37) ?_
 refine FL.v (E.assign (v:=Value.pointer (some (⟨b35,0,none⟩:Addr))) rfl) ?_
 refine FL.nil (FW.seq (FW.seq (FW.region ?_)))
 refine FL.v (E.fieldAddr zay rfl) ?_
 refine FL.v (E.load rfl (zah Tryz.isAgg24 (at28.now S38.sl) rfl)) ?_
 refine FL.v (E.lenP te24 rfl p0_1) ?_
 refine FL.v (E.move (v:=Value.int .i64 0) rfl) ?_
 refine FL.nil ?_
 obtain ⟨q42,hq,hp⟩:=bndR hp
 refine FW.block ?_
 refine FW.mono (FW.forL (S:=((List Int)×Int×(List (Int×Int)))) (X:=Empty) (fun (i42:Nat) (s42:((List Int)×Int×(List (Int×Int)))) f w=>∃ H:GH,∃ vA7:Value,∃ nA8:Nat,∃ csA9:List Value,∃ oAb:Obj,St Ha wa H w [.box b35 85 [vA7,Value.map (some b29),Value.int .i64 s42.2.1],.row 88 1 vA7 nA8 csA9,.raw b29 oAb]∧Inc H25 H∧Els (up wa.heap.size H) (eN .u16) 1 csA9 s42.1∧MapOf (K:=Int) (V:=Int) (Value.int .u16) (Value.int .i64) oAb s42.2.2∧f 23=Value.int .i64 ((i42:Nat):Int)∧f 1=Value.int .i64 a1∧f 5=Value.pointer (some (⟨b35,0,none⟩:Addr))∧f 21=v0_1∧f 22=Value.int .i64 (len a0.clauses)) (fun (q:Rs ((List Int)×Int×(List (Int×Int))) Empty) e f w=>match q with|.go s42=>e=Exit.exit 0∧(∃ H:GH,∃ vA7:Value,∃ nA8:Nat,∃ csA9:List Value,∃ oAb:Obj,St Ha wa H w [.box b35 85 [vA7,Value.map (some b29),Value.int .i64 s42.2.1],.row 88 1 vA7 nA8 csA9,.raw b29 oAb]∧Inc H25 H∧Els (up wa.heap.size H) (eN .u16) 1 csA9 s42.1∧MapOf (K:=Int) (V:=Int) (Value.int .u16) (Value.int .i64) oAb s42.2.2∧f 1=Value.int .i64 a1∧f 5=Value.pointer (some (⟨b35,0,none⟩:Addr)))|.rt x=>x.elim) hq ⟨_,_,_,_,_,S38,(Inc.rfl _),els40,hm34,rfl,rfl,rfl,rfl,rfl⟩ ?_ ?_) ?_
 ·
  clear hp hq
  rintro i42 y41 s42 fBj wBi ⟨HBf,vA7,nA8,csA9,oAb,SBg,iBh,elsAa,hm112,kBk,kBl,kBm,kBn,kBo⟩ hx42 oCJ hp
  refine FW.seq (FW.region ?_)
  refine FL.v (E.lssT kBk kBo (zaw hx42)) ?_
  refine FL.nil (FW.seq ?_)
  refine FW.condT rfl rfl ?_
  refine FW.skip (FW.seq (FW.block (FW.seq (FW.region ?_))))
  obtain ⟨pBp,csBq,ptBr,lBs,atBt,relBu⟩:=p0_1.at (zal hx42)
  obtain ⟨vBv,rfl,hBw⟩:=zav relBu
  refine FL.v (E.indexAddr te24 kBn kBk ptBr) ?_
  refine FL.v (E.load rfl (zaf Tryz.isAgg34 ((atBt.mono (i27.tr iBh)).now SBg.sl) rfl)) ?_
  refine FL.v (E.assign (v:=vBv) rfl) ?_
  refine FL.nil (FW.seq (FW.region ?_))
  refine FL.v (E.move (v:=vBv) rfl) ?_
  refine FL.v (E.lenP te34 rfl hBw) ?_
  refine FL.v (E.move kBl) ?_
  refine FL.v (E.leq rfl rfl) ?_
  refine FL.nil ?_
  rcases ifB hp with ⟨cBx,hp⟩|⟨cBx,hp⟩
  ·
   refine FW.condT rfl cBx ?_
   refine FW.region ?_
   refine FL.v (E.move kBm) ?_
   refine FL.v (E.move (v:=vBv) rfl) ?_
   obtain ⟨rBy,hrBz,hp⟩:=bnd hp
   refine FL.call rfl rfl rfl (E.call Tryz.call63 (A1 rfl)) (w_impl_maskOf SBg.sl vBv y41 (hBw.mono (i27.tr iBh)) hrBz) ?_
   rintro e wBA ⟨rfl,rBB⟩
   refine ⟨_,rfl,?_⟩
   have SBC:=SBg.call rBB
   obtain ⟨sC5,hqC5,hp⟩:=bnd hp
   obtain ⟨R229,hRC5⟩:∃ R229:((List Int)×Int×(List (Int×Int)))→Ending→World→Prop,R229=(fun sC5 e w=>∃ H:GH,∃ vC6:Value,∃ nC7:Nat,∃ csC8:List Value,∃ oCa:Obj,e=Ending.returned (Value.tuple #[])∧St Ha wa H w [.box b35 85 [vC6,Value.map (some b29),Value.int .i64 sC5.2.1],.row 88 1 vC6 nC7 csC8,.raw b29 oCa]∧Inc HBf H∧Els (up wa.heap.size H) (eN .u16) 1 csC8 sC5.1∧MapOf (K:=Int) (V:=Int) (Value.int .u16) (Value.int .i64) oCa sC5.2.2):=⟨_,rfl⟩
   have hcC5:Calls Tryz.prog 62 #[Value.pointer (some (⟨b35,0,none⟩:Addr)),Value.int .u16 rBy,Value.int .i64 0] wBA (R229 sC5):=by
    clear hp;have hp:=hqC5;clear hqC5
    refine zae (N:=39) (args:=[Value.pointer (some (⟨b35,0,none⟩:Addr)),Value.int .u16 rBy,Value.int .i64 0]) Tryz.func62 rfl rfl rfl ?_
    refine FW.seq (FW.region ?_)
    refine FL.v (E.move (v:=Value.pointer (some (⟨b35,0,none⟩:Addr))) rfl) ?_
    refine FL.v (E.nilCheck rfl) ?_
    refine FL.v (E.fieldAddr tf85_1 rfl) ?_
    refine FL.v (E.load rfl (zah Tryz.isAgg82 (SBC.box_now (i:=0) rfl) rfl)) ?_
    refine FL.v (E.move (v:=Value.int .u16 rBy) rfl) ?_
    refine FL.v (E.lookup rfl rfl (SBC.mapGetOk (P:=Tryz.prog) (i:=2) rfl hm112 Tryz.runUnderlying82 (zbj.intk Tryz.runUnderlying88) (z:=0) Tryz.zeroValue3 rBy)) ?_
    refine FL.v (E.move (v:=Value.tuple #[Value.int .i64 ((mget s42.2.2 rBy).getD 0),Value.bool ((mget s42.2.2 rBy).isSome)]) rfl) ?_
    refine FL.v (E.extract (i:=0) rfl rfl) ?_
    refine FL.v (E.extract (i:=1) rfl rfl) ?_
    refine FL.v (E.assign (v:=Value.int .i64 ((mget s42.2.2 rBy).getD 0)) rfl) ?_
    refine FL.v (E.assign (v:=Value.bool ((mget s42.2.2 rBy).isSome)) rfl) ?_
    refine FL.nil (FW.seq (FW.region ?_))
    refine FL.v (E.move (v:=Value.bool ((mget s42.2.2 rBy).isSome)) rfl) ?_
    refine FL.v (E.not rfl) ?_
    refine FL.nil ?_
    rcases ifB hp with ⟨cCc,hp⟩|⟨cCc,hp⟩
    ·
     refine FW.condT rfl cCc ?_
     refine FW.seq (FW.region ?_)
     refine FL.v (E.move (v:=Value.pointer (some (⟨b35,0,none⟩:Addr))) rfl) ?_
     refine FL.v (E.nilCheck rfl) ?_
     refine FL.v (E.fieldAddr tf85_1 rfl) ?_
     refine FL.v (E.load rfl (zah Tryz.isAgg82 (SBC.box_now (i:=0) rfl) rfl)) ?_
     refine FL.v (E.move (v:=Value.int .u16 rBy) rfl) ?_
     refine FL.v (E.move (v:=Value.int .i64 0) rfl) ?_
     obtain ⟨oCd,wCe,runCf,SCg,hm241⟩:=SBC.mapPut (P:=Tryz.prog) (i:=2) rfl hm112 Tryz.runUnderlying82 (zbj.intk Tryz.runUnderlying88) rBy 0
     have SCg:St Ha wa HBf wCe [.box b35 85 [vA7,Value.map (some b29),Value.int .i64 s42.2.1],.row 88 1 vA7 nA8 csA9,.raw b29 oCd]:=SCg
     refine FL.act rfl rfl (E.mapUpdate rfl rfl rfl runCf) ?_
     refine FL.nil (FW.seq (FW.region ?_))
     refine FL.v (E.move (v:=Value.pointer (some (⟨b35,0,none⟩:Addr))) rfl) ?_
     refine FL.v (E.move (v:=Value.pointer (some (⟨b35,0,none⟩:Addr))) rfl) ?_
     refine FL.v (E.nilCheck rfl) ?_
     refine FL.v (E.fieldAddr tf85_0 rfl) ?_
     refine FL.v (E.load rfl (zah Tryz.isAgg83 (SCg.box_now (i:=0) rfl) rfl)) ?_
     refine FL.v (E.move (v:=Value.int .u16 rBy) rfl) ?_
     obtain ⟨vCi,wCj,runCk,SCl⟩:=SCg.buildSlice (P:=Tryz.prog) te83 [Value.int .u16 rBy] (parts:=#[(0,Value.int .u16 rBy)]) (cells:=[Value.int .u16 rBy]) rfl (zat rfl zao) (zas rfl zan) (zac rfl zad) (Nat.le_of_ble_eq_true rfl)
     have elsCm:Els (up wa.heap.size HBf) (eN .u16) 1 [Value.int .u16 rBy] [rBy]:=(Els.snoc (H:=(up wa.heap.size HBf)) (E:=(eN .u16)) (k:=1) (c:=[Value.int .u16 rBy]) (x:=rBy) Els.nil rfl rfl)
     refine FL.v (E.buildSlice (B1 rfl) runCk) ?_
     obtain ⟨xsCn,hzCo,hp⟩:=bnd hp
     obtain ⟨vCp,wCs,nCq,csCr,runCt,SCu,elsCv,ceCw⟩:=SCl.appendO (P:=Tryz.prog) te83 (i:=2) (j:=0) rfl elsAa rfl elsCm hzCo
     have SCu:St Ha wa HBf wCs [.row 88 1 vCi 1 [Value.int .u16 rBy],.box b35 85 [vA7,Value.map (some b29),Value.int .i64 s42.2.1],.row 88 1 vCp nCq csCr,.raw b29 oCd]:=SCu
     have SCx:St Ha wa HBf wCs [.box b35 85 [vA7,Value.map (some b29),Value.int .i64 s42.2.1],.row 88 1 vCp nCq csCr,.raw b29 oCd]:=SCu.drop 0
     refine FL.v (E.append rfl rfl runCt) ?_
     refine FL.v (E.nilCheck rfl) ?_
     refine FL.v (E.fieldAddr tf85_0 rfl) ?_
     obtain ⟨wCy,runCz,SCA⟩:=SCx.store (P:=Tryz.prog) (t:=83) (i:=0) (j:=0) (cs':=[vCp,Value.map (some b29),Value.int .i64 s42.2.1]) (l':=[.box b35 85 [vCp,Value.map (some b29),Value.int .i64 s42.2.1],.row 88 1 vCp nCq csCr,.raw b29 oCd]) (v:=vCp) (c:=[vCp]) rfl Tryz.sizeOf83 (Ln.cells (SCx.row_ln (i:=1) rfl)) rfl (zac (Ln.one (SCx.row_ln (i:=1) rfl)) zad) (Nat.le_of_ble_eq_true rfl) rfl rfl
     refine FL.act rfl rfl (E.store rfl rfl runCz) ?_
     refine FL.nil (FW.region ?_)
     refine FL.v (E.move (v:=Value.pointer (some (⟨b35,0,none⟩:Addr))) rfl) ?_
     refine FL.v (E.move (v:=Value.int .i64 0) rfl) ?_
     refine FL.v (E.nilCheck rfl) ?_
     refine FL.v (E.fieldAddr tf85_2 rfl) ?_
     obtain ⟨wCB,runCC,SCD⟩:=SCA.store (P:=Tryz.prog) (t:=3) (i:=0) (j:=2) (cs':=[vCp,Value.map (some b29),Value.int .i64 0]) (l':=[.box b35 85 [vCp,Value.map (some b29),Value.int .i64 0],.row 88 1 vCp nCq csCr,.raw b29 oCd]) (v:=Value.int .i64 0) (c:=[Value.int .i64 0]) rfl Tryz.sizeOf3 rfl rfl (zac rfl zad) (Nat.le_of_ble_eq_true rfl) rfl rfl
     refine FL.act rfl rfl (E.store rfl rfl runCC) ?_
     refine FL.nil ?_
     obtain rfl:=Option.some.inj hp
     exact ⟨.inl rfl,res0 rfl (by rw [hRC5];exact ⟨_,_,_,_,_,rfl,SCD,(Inc.rfl _),elsCv,hm241⟩)⟩
    ·
     refine FW.condF rfl cCc ?_
     refine FW.skip ?_
     obtain rfl:=Option.some.inj hp
     exact ⟨.inl rfl,res0 rfl (by rw [hRC5];exact ⟨_,_,_,_,_,rfl,SBC,(Inc.rfl _),elsAa,hm112⟩)⟩
   clear hqC5
   refine FL.call rfl rfl rfl (E.call Tryz.call62 (A3 rfl rfl rfl)) hcC5 ?_
   intro e wCH hQC5
   rw [hRC5] at hQC5
   obtain ⟨HCE,vC6,nC7,csC8,oCa,rfl,SCF,iCG,elsC9,hm235⟩:=hQC5
   refine ⟨_,rfl,?_⟩
   refine FL.nil (FW.region ?_)
   refine FL.v (E.add kBk rfl) ?_
   refine FL.v (E.move (v:=Value.int .i64 (wr (((i42:Nat):Int) + 1))) rfl) ?_
   refine FL.nil ?_
   obtain rfl:=Option.some.inj hp
   exact ⟨rfl,⟨_,_,_,_,_,SCF,(iBh.tr iCG),elsC9,hm235,(zap rfl (zaq hx42) (p0_1.mono ((i27.tr iBh).tr iCG)).le),kBl,kBm,kBn,kBo⟩⟩
  ·
   refine FW.condF rfl cBx ?_
   refine FW.skip (FW.region ?_)
   refine FL.v (E.add kBk rfl) ?_
   refine FL.v (E.move (v:=Value.int .i64 (wr (((i42:Nat):Int) + 1))) rfl) ?_
   refine FL.nil ?_
   obtain rfl:=Option.some.inj hp
   exact ⟨rfl,⟨_,_,_,_,_,SBg,iBh,elsAa,hm112,(zap rfl (zaq hx42) (p0_1.mono (i27.tr iBh)).le),kBl,kBm,kBn,kBo⟩⟩
 ·
  clear hp hq
  rintro s42 fDp wDo ⟨HDl,vA7,nA8,csA9,oAb,SDm,iDn,elsAa,hm112,kDq,kDr,kDs,kDt,kDu⟩
  refine FW.seq (FW.region ?_)
  refine FL.v (E.lss kDq kDu) ?_
  refine FL.nil (FW.seq ?_)
  refine FW.condF rfl zax ?_
  refine FW.exit ?_
  exact ⟨nofun,rfl,⟨_,_,_,_,_,SDm,iDn,elsAa,hm112,kDr,kDs⟩⟩
 ·
  clear hq
  intro e fCO wCN hD
  rcases q42 with s42|x42
  ·
   obtain ⟨rfl,hD⟩:=hD
   obtain ⟨HCK,vA7,nA8,csA9,oAb,SCL,iCM,elsAa,hm112,kCP,kCQ⟩:=hD
   replace hp:=el_go hp
   refine FW.seq (FW.seq (FW.region ?_))
   refine FL.v (E.assign (v:=Value.int .i64 0) rfl) ?_
   refine FL.v (E.assign (v:=Value.int .i64 1) rfl) ?_
   refine FL.nil ?_
   obtain ⟨qCR,hq,hp⟩:=bndR hp
   refine FW.block ?_
   refine FW.mono (FW.iter (S:=((List Int)×Int×(List (Int×Int))×Int×Int)) (X:=Empty) (fun (sCR:((List Int)×Int×(List (Int×Int))×Int×Int)) f w=>∃ H:GH,∃ vKA:Value,∃ nKB:Nat,∃ csKC:List Value,∃ oKE:Obj,St Ha wa H w [.box b35 85 [vKA,Value.map (some b29),Value.int .i64 sCR.2.1],.row 88 1 vKA nKB csKC,.raw b29 oKE]∧Inc HCK H∧Els (up wa.heap.size H) (eN .u16) 1 csKC sCR.1∧MapOf (K:=Int) (V:=Int) (Value.int .u16) (Value.int .i64) oKE sCR.2.2.1∧f 1=Value.int .i64 a1∧f 5=Value.pointer (some (⟨b35,0,none⟩:Addr))∧f 8=Value.int .i64 sCR.2.2.2.1∧f 9=Value.int .i64 sCR.2.2.2.2) (fun (q:Rs ((List Int)×Int×(List (Int×Int))×Int×Int) Empty) e f w=>match q with|.go sCR=>e=Exit.exit 2∧(∃ H:GH,∃ vKA:Value,∃ nKB:Nat,∃ csKC:List Value,∃ oKE:Obj,St Ha wa H w [.box b35 85 [vKA,Value.map (some b29),Value.int .i64 sCR.2.1],.row 88 1 vKA nKB csKC,.raw b29 oKE]∧Inc HCK H∧Els (up wa.heap.size H) (eN .u16) 1 csKC sCR.1∧MapOf (K:=Int) (V:=Int) (Value.int .u16) (Value.int .i64) oKE sCR.2.2.1∧f 5=Value.pointer (some (⟨b35,0,none⟩:Addr)))|.rt x=>x.elim) hq ⟨_,_,_,_,_,SCL,(Inc.rfl _),elsAa,hm112,kCP,kCQ,rfl,rfl⟩ ?_) ?_
   ·
    clear hp hq
    rintro sCR f47 w46 ⟨H43,vKA,nKB,csKC,oKE,S44,i45,elsKD,hm761,k48,k49,k50,k51⟩ oD1 hp
    refine FW.seq (FW.seq (FW.region ?_))
    refine FL.v (E.move k50) ?_
    refine FL.v (E.move k49) ?_
    refine FL.v (E.nilCheck rfl) ?_
    refine FL.v (E.fieldAddr tf85_0 rfl) ?_
    refine FL.v (E.load rfl (zah Tryz.isAgg83 (S44.box_now (i:=0) rfl) rfl)) ?_
    refine FL.v (E.lenO te83 rfl S44 (i:=1) rfl elsKD (by decide)) ?_
    refine FL.v (E.lss rfl rfl) ?_
    refine FL.nil ?_
    rcases ifB hp with ⟨c52,hp⟩|⟨c52,hp⟩
    ·
     refine FW.condT rfl c52 ?_
     refine FW.skip (FW.seq (FW.block (FW.seq (FW.region ?_))))
     refine FL.v (E.move k49) ?_
     refine FL.v (E.nilCheck rfl) ?_
     refine FL.v (E.fieldAddr tf85_0 rfl) ?_
     refine FL.v (E.load rfl (zah Tryz.isAgg83 (S44.box_now (i:=0) rfl) rfl)) ?_
     refine FL.v (E.lenO te83 rfl S44 (i:=1) rfl elsKD (by decide)) ?_
     refine FL.v (E.assign (v:=Value.int .i64 (len sCR.1)) rfl) ?_
     refine FL.nil (FW.seq (FW.seq (FW.region ?_)))
     refine FL.v (E.move k50) ?_
     refine FL.v (E.assign (v:=Value.int .i64 sCR.2.2.2.1) rfl) ?_
     refine FL.nil ?_
     obtain ⟨q53,hq,hp⟩:=bndR hp
     refine FW.block ?_
     refine FW.mono (FW.iter (S:=((List Int)×Int×(List (Int×Int))×Int)) (X:=Empty) (fun (s53:((List Int)×Int×(List (Int×Int))×Int)) f w=>∃ H:GH,∃ v54:Value,∃ n55:Nat,∃ cs56:List Value,∃ o58:Obj,St Ha wa H w [.box b35 85 [v54,Value.map (some b29),Value.int .i64 s53.2.1],.row 88 1 v54 n55 cs56,.raw b29 o58]∧Inc H43 H∧Els (up wa.heap.size H) (eN .u16) 1 cs56 s53.1∧MapOf (K:=Int) (V:=Int) (Value.int .u16) (Value.int .i64) o58 s53.2.2.1∧f 1=Value.int .i64 a1∧f 5=Value.pointer (some (⟨b35,0,none⟩:Addr))∧f 9=Value.int .i64 sCR.2.2.2.2∧f 10=Value.int .i64 (len sCR.1)∧f 11=Value.int .i64 s53.2.2.2) (fun (q:Rs ((List Int)×Int×(List (Int×Int))×Int) Empty) e f w=>match q with|.go s53=>e=Exit.exit 4∧(∃ H:GH,∃ v54:Value,∃ n55:Nat,∃ cs56:List Value,∃ o58:Obj,St Ha wa H w [.box b35 85 [v54,Value.map (some b29),Value.int .i64 s53.2.1],.row 88 1 v54 n55 cs56,.raw b29 o58]∧Inc H43 H∧Els (up wa.heap.size H) (eN .u16) 1 cs56 s53.1∧MapOf (K:=Int) (V:=Int) (Value.int .u16) (Value.int .i64) o58 s53.2.2.1∧f 1=Value.int .i64 a1∧f 5=Value.pointer (some (⟨b35,0,none⟩:Addr))∧f 9=Value.int .i64 sCR.2.2.2.2∧f 10=Value.int .i64 (len sCR.1))|.rt x=>x.elim) hq ⟨_,_,_,_,_,S44,(Inc.rfl _),elsKD,hm761,k48,k49,k51,rfl,rfl⟩ ?_) ?_
     ·
      clear hp hq
      rintro s53 f64 w63 ⟨H60,v54,n55,cs56,o58,S61,i62,els57,hm59,k65,k66,k67,k68,k69⟩ oCI hp
      refine FW.seq (FW.seq (FW.region ?_))
      refine FL.v (E.move k69) ?_
      refine FL.v (E.move k68) ?_
      refine FL.v (E.lss rfl rfl) ?_
      refine FL.nil ?_
      rcases ifB hp with ⟨c70,hp⟩|⟨c70,hp⟩
      ·
       refine FW.condT rfl c70 ?_
       refine FW.skip (FW.seq (FW.block (FW.seq (FW.region ?_))))
       refine FL.v (E.move k66) ?_
       refine FL.v (E.nilCheck rfl) ?_
       refine FL.v (E.fieldAddr tf85_0 rfl) ?_
       refine FL.v (E.load rfl (zah Tryz.isAgg83 (S61.box_now (i:=0) rfl) rfl)) ?_
       refine FL.v (E.move k69) ?_
       obtain ⟨xs71,hc72,hp⟩:=bnd hp
       obtain ⟨v73,cs74,run75,S76,vw77,els78,vl79⟩:=S61.view te83 (kk:=.i64) (i:=1) rfl els57 hc72
       refine FL.v (E.slice te83 rfl rfl (congrArg some rfl) rfl (run75 _)) ?_
       refine FL.v (E.len te83 rfl vl79.ln) ?_
       refine FL.v (E.move (v:=Value.int .i64 0) rfl) ?_
       refine FL.nil ?_
       obtain ⟨q81,hq,hp⟩:=bndR hp
       refine FW.block ?_
       refine FW.mono (FW.forL (S:=((List Int)×Int×(List (Int×Int)))) (X:=Empty) (fun (i81:Nat) (s81:((List Int)×Int×(List (Int×Int)))) f w=>∃ H:GH,∃ v82:Value,∃ n84:Nat,∃ cs86:List Value,∃ o88:MO,∃ o90:Obj,St Ha wa H w [o88,.box b35 85 [v82,Value.map (some b29),Value.int .i64 s81.2.1],.row 88 1 v82 n84 cs86,.raw b29 o90]∧Inc H60 H∧Els (up wa.heap.size H) (eN .u16) 1 cs86 s81.1∧View 1 v82 v73 cs86 cs74 o88∧MapOf (K:=Int) (V:=Int) (Value.int .u16) (Value.int .i64) o90 s81.2.2∧f 63=Value.int .i64 ((i81:Nat):Int)∧f 1=Value.int .i64 a1∧f 5=Value.pointer (some (⟨b35,0,none⟩:Addr))∧f 9=Value.int .i64 sCR.2.2.2.2∧f 10=Value.int .i64 (len sCR.1)∧f 11=Value.int .i64 s53.2.2.2∧f 61=v73∧f 62=Value.int .i64 (len xs71)) (fun (q:Rs ((List Int)×Int×(List (Int×Int))) Empty) e f w=>match q with|.go s81=>e=Exit.exit 6∧(∃ H:GH,∃ v82:Value,∃ n84:Nat,∃ cs86:List Value,∃ o88:MO,∃ o90:Obj,St Ha wa H w [o88,.box b35 85 [v82,Value.map (some b29),Value.int .i64 s81.2.1],.row 88 1 v82 n84 cs86,.raw b29 o90]∧Inc H60 H∧Els (up wa.heap.size H) (eN .u16) 1 cs86 s81.1∧View 1 v82 v73 cs86 cs74 o88∧MapOf (K:=Int) (V:=Int) (Value.int .u16) (Value.int .i64) o90 s81.2.2∧f 1=Value.int .i64 a1∧f 5=Value.pointer (some (⟨b35,0,none⟩:Addr))∧f 9=Value.int .i64 sCR.2.2.2.2∧f 10=Value.int .i64 (len sCR.1)∧f 11=Value.int .i64 s53.2.2.2)|.rt x=>x.elim) hq ⟨_,_,_,_,_,_,S76,(Inc.rfl _),els57,vw77,hm59,rfl,k65,k66,k67,k68,k69,rfl,rfl⟩ ?_ ?_) ?_
       ·
        clear hp hq
        rintro i81 y80 s81 f96 w95 ⟨H92,v82,n84,cs86,o88,o90,S93,i94,els87,vw89,hm91,k97,k98,k99,kA0,kA1,kA2,kA3,kA4⟩ hx81 oBH hp
        refine FW.seq (FW.region ?_)
        refine FL.v (E.lssT k97 kA4 (zaw hx81)) ?_
        refine FL.nil (FW.seq ?_)
        refine FW.condT rfl rfl ?_
        refine FW.skip (FW.seq (FW.block (FW.seq (FW.region ?_))))
        obtain ⟨pA5,csA6,ptAd,lAe,atAf,relAg⟩:=S93.view_at (i:=2) (q:=0) rfl rfl vw89 els78 (by decide) (zal hx81)
        obtain rfl:=eN_open relAg
        refine FL.v (E.indexAddr te83 kA3 k97 ptAd) ?_
        refine FL.v (E.load rfl (zaf Tryz.isAgg88 atAf rfl)) ?_
        refine FL.v (E.assign (v:=Value.int .u16 y80) rfl) ?_
        refine FL.nil (FW.seq (FW.region ?_))
        refine FL.v (E.move k99) ?_
        refine FL.v (E.nilCheck rfl) ?_
        refine FL.v (E.fieldAddr tf85_0 rfl) ?_
        refine FL.v (E.load rfl (zah Tryz.isAgg83 (S93.box_now (i:=1) rfl) rfl)) ?_
        refine FL.v (E.move kA2) ?_
        obtain ⟨xAn,hxAo,hp⟩:=bnd hp
        obtain ⟨pAh,csAi,ptAj,lAk,atAl,relAm⟩:=S93.row_at (i:=2) rfl els87 (by decide) hxAo
        obtain rfl:=eN_open relAm
        refine FL.v (E.indexAddr te83 rfl rfl ptAj) ?_
        refine FL.v (E.load rfl (zaf Tryz.isAgg88 atAl rfl)) ?_
        refine FL.v (E.assign (v:=Value.int .u16 xAn) rfl) ?_
        refine FL.nil (FW.seq (FW.region ?_))
        refine FL.v (E.move (v:=Value.int .u16 xAn) rfl) ?_
        refine FL.v (E.move (v:=Value.int .u16 y80) rfl) ?_
        refine FL.call rfl rfl rfl (E.call Tryz.call64 (A2 rfl rfl)) (w_impl_bothOf S93.sl xAn y80) ?_
        rintro e wAp ⟨rfl,rAq⟩
        refine ⟨_,rfl,?_⟩
        have SAr:=S93.call rAq
        refine FL.v (E.assign (v:=Value.int .u16 (PF.zak xAn y80)) rfl) ?_
        refine FL.nil (FW.seq (FW.seq (FW.region ?_)))
        refine FL.v (E.move (v:=Value.int .u16 (PF.zak xAn y80)) rfl) ?_
        refine FL.call rfl rfl rfl (E.call Tryz.call65 (A1 rfl)) (w_impl_mask_one SAr.sl (PF.zak xAn y80)) ?_
        rintro e wAs ⟨rfl,rAt⟩
        refine ⟨_,rfl,?_⟩
        have SAu:=SAr.call rAt
        refine FL.v (E.not rfl) ?_
        refine FL.nil ?_
        rcases ifB hp with ⟨cAv,hp⟩|⟨cAv,hp⟩
        ·
         refine FW.condT rfl cAv ?_
         refine FW.exit ?_
         refine FW.region ?_
         refine FL.v (E.add k97 rfl) ?_
         refine FL.v (E.move (v:=Value.int .i64 (wr (((i81:Nat):Int) + 1))) rfl) ?_
         refine FL.nil ?_
         obtain rfl:=Option.some.inj hp
         exact ⟨rfl,⟨_,_,_,_,_,_,SAu,i94,els87,vw89,hm91,(zap rfl (zaq hx81) vl79.le),k98,k99,kA0,kA1,kA2,kA3,kA4⟩⟩
        ·
         refine FW.condF rfl cAv ?_
         refine FW.skip (FW.seq (FW.region ?_))
         refine FL.v (E.move (v:=Value.int .u16 xAn) rfl) ?_
         refine FL.v (E.move (v:=Value.int .u16 y80) rfl) ?_
         refine FL.v (E.or rfl rfl) ?_
         refine FL.v (E.move (v:=Value.int .u16 (PF.zak xAn y80)) rfl) ?_
         refine FL.v (E.move (v:=Value.int .u16 (PF.zak xAn y80)) rfl) ?_
         refine FL.v (E.shl rfl rfl (by decide)) ?_
         refine FL.v (E.or rfl rfl) ?_
         refine FL.v (E.andNot rfl rfl) ?_
         refine FL.v (E.assign (v:=Value.int .u16 (anK false 16 (orK false 16 xAn y80) (orK false 16 (PF.zak xAn y80) (shlK false 16 (PF.zak xAn y80) 6)))) rfl) ?_
         refine FL.nil (FW.seq (FW.region ?_))
         refine FL.v (E.move (v:=Value.int .u16 (anK false 16 (orK false 16 xAn y80) (orK false 16 (PF.zak xAn y80) (shlK false 16 (PF.zak xAn y80) 6)))) rfl) ?_
         obtain ⟨rAw,hrAx,hp⟩:=bnd hp
         refine FL.call rfl rfl rfl (E.call Tryz.call66 (A1 rfl)) (w_impl_mask_count SAu.sl (anK false 16 (orK false 16 xAn y80) (orK false 16 (PF.zak xAn y80) (shlK false 16 (PF.zak xAn y80) 6))) hrAx) ?_
         rintro e wAy ⟨rfl,rAz⟩
         refine ⟨_,rfl,?_⟩
         have SAA:=SAu.call rAz
         refine FL.v (E.move k98) ?_
         refine FL.v (E.leq rfl rfl) ?_
         refine FL.nil ?_
         rcases ifB hp with ⟨cAB,hp⟩|⟨cAB,hp⟩
         ·
          refine FW.condT rfl cAB ?_
          refine FW.region ?_
          refine FL.v (E.move k99) ?_
          refine FL.v (E.move (v:=Value.int .u16 (anK false 16 (orK false 16 xAn y80) (orK false 16 (PF.zak xAn y80) (shlK false 16 (PF.zak xAn y80) 6)))) rfl) ?_
          refine FL.v (E.move kA0) ?_
          obtain ⟨sAC,hqAC,hp⟩:=bnd hp
          obtain ⟨R138,hRAC⟩:∃ R138:((List Int)×Int×(List (Int×Int)))→Ending→World→Prop,R138=(fun sAC e w=>∃ H:GH,∃ vAD:Value,∃ nAE:Nat,∃ csAF:List Value,∃ oAH:MO,∃ oAJ:Obj,e=Ending.returned (Value.tuple #[])∧St Ha wa H w [oAH,.box b35 85 [vAD,Value.map (some b29),Value.int .i64 sAC.2.1],.row 88 1 vAD nAE csAF,.raw b29 oAJ]∧Inc H92 H∧Els (up wa.heap.size H) (eN .u16) 1 csAF sAC.1∧View 1 vAD v73 csAF cs74 oAH∧MapOf (K:=Int) (V:=Int) (Value.int .u16) (Value.int .i64) oAJ sAC.2.2):=⟨_,rfl⟩
          have hcAC:Calls Tryz.prog 62 #[Value.pointer (some (⟨b35,0,none⟩:Addr)),Value.int .u16 (anK false 16 (orK false 16 xAn y80) (orK false 16 (PF.zak xAn y80) (shlK false 16 (PF.zak xAn y80) 6))),Value.int .i64 sCR.2.2.2.2] wAy (R138 sAC):=by
           clear hp;have hp:=hqAC;clear hqAC
           refine zae (N:=39) (args:=[Value.pointer (some (⟨b35,0,none⟩:Addr)),Value.int .u16 (anK false 16 (orK false 16 xAn y80) (orK false 16 (PF.zak xAn y80) (shlK false 16 (PF.zak xAn y80) 6))),Value.int .i64 sCR.2.2.2.2]) Tryz.func62 rfl rfl rfl ?_
           refine FW.seq (FW.region ?_)
           refine FL.v (E.move (v:=Value.pointer (some (⟨b35,0,none⟩:Addr))) rfl) ?_
           refine FL.v (E.nilCheck rfl) ?_
           refine FL.v (E.fieldAddr tf85_1 rfl) ?_
           refine FL.v (E.load rfl (zah Tryz.isAgg82 (SAA.box_now (i:=1) rfl) rfl)) ?_
           refine FL.v (E.move (v:=Value.int .u16 (anK false 16 (orK false 16 xAn y80) (orK false 16 (PF.zak xAn y80) (shlK false 16 (PF.zak xAn y80) 6)))) rfl) ?_
           refine FL.v (E.lookup rfl rfl (SAA.mapGetOk (P:=Tryz.prog) (i:=3) rfl hm91 Tryz.runUnderlying82 (zbj.intk Tryz.runUnderlying88) (z:=0) Tryz.zeroValue3 (anK false 16 (orK false 16 xAn y80) (orK false 16 (PF.zak xAn y80) (shlK false 16 (PF.zak xAn y80) 6))))) ?_
           refine FL.v (E.move (v:=Value.tuple #[Value.int .i64 ((mget s81.2.2 (anK false 16 (orK false 16 xAn y80) (orK false 16 (PF.zak xAn y80) (shlK false 16 (PF.zak xAn y80) 6)))).getD 0),Value.bool ((mget s81.2.2 (anK false 16 (orK false 16 xAn y80) (orK false 16 (PF.zak xAn y80) (shlK false 16 (PF.zak xAn y80) 6)))).isSome)]) rfl) ?_
           refine FL.v (E.extract (i:=0) rfl rfl) ?_
           refine FL.v (E.extract (i:=1) rfl rfl) ?_
           refine FL.v (E.assign (v:=Value.int .i64 ((mget s81.2.2 (anK false 16 (orK false 16 xAn y80) (orK false 16 (PF.zak xAn y80) (shlK false 16 (PF.zak xAn y80) 6)))).getD 0)) rfl) ?_
           refine FL.v (E.assign (v:=Value.bool ((mget s81.2.2 (anK false 16 (orK false 16 xAn y80) (orK false 16 (PF.zak xAn y80) (shlK false 16 (PF.zak xAn y80) 6)))).isSome)) rfl) ?_
           refine FL.nil (FW.seq (FW.region ?_))
           refine FL.v (E.move (v:=Value.bool ((mget s81.2.2 (anK false 16 (orK false 16 xAn y80) (orK false 16 (PF.zak xAn y80) (shlK false 16 (PF.zak xAn y80) 6)))).isSome)) rfl) ?_
           refine FL.v (E.not rfl) ?_
           refine FL.nil ?_
           rcases ifB hp with ⟨cAL,hp⟩|⟨cAL,hp⟩
           ·
            refine FW.condT rfl cAL ?_
            refine FW.seq (FW.region ?_)
            refine FL.v (E.move (v:=Value.pointer (some (⟨b35,0,none⟩:Addr))) rfl) ?_
            refine FL.v (E.nilCheck rfl) ?_
            refine FL.v (E.fieldAddr tf85_1 rfl) ?_
            refine FL.v (E.load rfl (zah Tryz.isAgg82 (SAA.box_now (i:=1) rfl) rfl)) ?_
            refine FL.v (E.move (v:=Value.int .u16 (anK false 16 (orK false 16 xAn y80) (orK false 16 (PF.zak xAn y80) (shlK false 16 (PF.zak xAn y80) 6)))) rfl) ?_
            refine FL.v (E.move (v:=Value.int .i64 sCR.2.2.2.2) rfl) ?_
            obtain ⟨oAM,wAN,runAO,SAP,hm152⟩:=SAA.mapPut (P:=Tryz.prog) (i:=3) rfl hm91 Tryz.runUnderlying82 (zbj.intk Tryz.runUnderlying88) (anK false 16 (orK false 16 xAn y80) (orK false 16 (PF.zak xAn y80) (shlK false 16 (PF.zak xAn y80) 6))) sCR.2.2.2.2
            have SAP:St Ha wa H92 wAN [o88,.box b35 85 [v82,Value.map (some b29),Value.int .i64 s81.2.1],.row 88 1 v82 n84 cs86,.raw b29 oAM]:=SAP
            refine FL.act rfl rfl (E.mapUpdate rfl rfl rfl runAO) ?_
            refine FL.nil (FW.seq (FW.region ?_))
            refine FL.v (E.move (v:=Value.pointer (some (⟨b35,0,none⟩:Addr))) rfl) ?_
            refine FL.v (E.move (v:=Value.pointer (some (⟨b35,0,none⟩:Addr))) rfl) ?_
            refine FL.v (E.nilCheck rfl) ?_
            refine FL.v (E.fieldAddr tf85_0 rfl) ?_
            refine FL.v (E.load rfl (zah Tryz.isAgg83 (SAP.box_now (i:=1) rfl) rfl)) ?_
            refine FL.v (E.move (v:=Value.int .u16 (anK false 16 (orK false 16 xAn y80) (orK false 16 (PF.zak xAn y80) (shlK false 16 (PF.zak xAn y80) 6)))) rfl) ?_
            obtain ⟨vAR,wAS,runAT,SAU⟩:=SAP.buildSlice (P:=Tryz.prog) te83 [Value.int .u16 (anK false 16 (orK false 16 xAn y80) (orK false 16 (PF.zak xAn y80) (shlK false 16 (PF.zak xAn y80) 6)))] (parts:=#[(0,Value.int .u16 (anK false 16 (orK false 16 xAn y80) (orK false 16 (PF.zak xAn y80) (shlK false 16 (PF.zak xAn y80) 6))))]) (cells:=[Value.int .u16 (anK false 16 (orK false 16 xAn y80) (orK false 16 (PF.zak xAn y80) (shlK false 16 (PF.zak xAn y80) 6)))]) rfl (zat rfl zao) (zas rfl zan) (zac rfl zad) (Nat.le_of_ble_eq_true rfl)
            have elsAV:Els (up wa.heap.size H92) (eN .u16) 1 [Value.int .u16 (anK false 16 (orK false 16 xAn y80) (orK false 16 (PF.zak xAn y80) (shlK false 16 (PF.zak xAn y80) 6)))] [(anK false 16 (orK false 16 xAn y80) (orK false 16 (PF.zak xAn y80) (shlK false 16 (PF.zak xAn y80) 6)))]:=(Els.snoc (H:=(up wa.heap.size H92)) (E:=(eN .u16)) (k:=1) (c:=[Value.int .u16 (anK false 16 (orK false 16 xAn y80) (orK false 16 (PF.zak xAn y80) (shlK false 16 (PF.zak xAn y80) 6)))]) (x:=(anK false 16 (orK false 16 xAn y80) (orK false 16 (PF.zak xAn y80) (shlK false 16 (PF.zak xAn y80) 6)))) Els.nil rfl rfl)
            refine FL.v (E.buildSlice (B1 rfl) runAT) ?_
            obtain ⟨xsAW,hzAX,hp⟩:=bnd hp
            obtain ⟨vAY,wB1,nAZ,csB0,oB6,runB2,SB3,elsB4,ceB5,vw169⟩:=SAU.appendVO (P:=Tryz.prog) te83 (i:=3) (j:=0) (q:=1) rfl els87 rfl elsAV hzAX rfl vw89
            have SB3:St Ha wa H92 wB1 [.row 88 1 vAR 1 [Value.int .u16 (anK false 16 (orK false 16 xAn y80) (orK false 16 (PF.zak xAn y80) (shlK false 16 (PF.zak xAn y80) 6)))],oB6,.box b35 85 [v82,Value.map (some b29),Value.int .i64 s81.2.1],.row 88 1 vAY nAZ csB0,.raw b29 oAM]:=SB3
            have SB8:St Ha wa H92 wB1 [oB6,.box b35 85 [v82,Value.map (some b29),Value.int .i64 s81.2.1],.row 88 1 vAY nAZ csB0,.raw b29 oAM]:=SB3.drop 0
            refine FL.v (E.append rfl rfl runB2) ?_
            refine FL.v (E.nilCheck rfl) ?_
            refine FL.v (E.fieldAddr tf85_0 rfl) ?_
            obtain ⟨wB9,runBa,SBb⟩:=SB8.store (P:=Tryz.prog) (t:=83) (i:=1) (j:=0) (cs':=[vAY,Value.map (some b29),Value.int .i64 s81.2.1]) (l':=[oB6,.box b35 85 [vAY,Value.map (some b29),Value.int .i64 s81.2.1],.row 88 1 vAY nAZ csB0,.raw b29 oAM]) (v:=vAY) (c:=[vAY]) rfl Tryz.sizeOf83 (Ln.cells (SB8.row_ln (i:=2) rfl)) rfl (zac (Ln.one (SB8.row_ln (i:=2) rfl)) zad) (Nat.le_of_ble_eq_true rfl) rfl rfl
            refine FL.act rfl rfl (E.store rfl rfl runBa) ?_
            refine FL.nil (FW.region ?_)
            refine FL.v (E.move (v:=Value.pointer (some (⟨b35,0,none⟩:Addr))) rfl) ?_
            refine FL.v (E.move (v:=Value.int .i64 sCR.2.2.2.2) rfl) ?_
            refine FL.v (E.nilCheck rfl) ?_
            refine FL.v (E.fieldAddr tf85_2 rfl) ?_
            obtain ⟨wBc,runBd,SBe⟩:=SBb.store (P:=Tryz.prog) (t:=3) (i:=1) (j:=2) (cs':=[vAY,Value.map (some b29),Value.int .i64 sCR.2.2.2.2]) (l':=[oB6,.box b35 85 [vAY,Value.map (some b29),Value.int .i64 sCR.2.2.2.2],.row 88 1 vAY nAZ csB0,.raw b29 oAM]) (v:=Value.int .i64 sCR.2.2.2.2) (c:=[Value.int .i64 sCR.2.2.2.2]) rfl Tryz.sizeOf3 rfl rfl (zac rfl zad) (Nat.le_of_ble_eq_true rfl) rfl rfl
            refine FL.act rfl rfl (E.store rfl rfl runBd) ?_
            refine FL.nil ?_
            obtain rfl:=Option.some.inj hp
            exact ⟨.inl rfl,res0 rfl (by rw [hRAC];exact ⟨_,_,_,_,_,_,rfl,SBe,(Inc.rfl _),elsB4,vw169,hm152⟩)⟩
           ·
            refine FW.condF rfl cAL ?_
            refine FW.skip ?_
            obtain rfl:=Option.some.inj hp
            exact ⟨.inl rfl,res0 rfl (by rw [hRAC];exact ⟨_,_,_,_,_,_,rfl,SAA,(Inc.rfl _),els87,vw89,hm91⟩)⟩
          clear hqAC
          refine FL.call rfl rfl rfl (E.call Tryz.call62 (A3 rfl rfl rfl)) hcAC ?_
          intro e wBG hQAC
          rw [hRAC] at hQAC
          obtain ⟨HBD,vAD,nAE,csAF,oAH,oAJ,rfl,SBE,iBF,elsAG,vw144,hm146⟩:=hQAC
          refine ⟨_,rfl,?_⟩
          refine FL.nil (FW.region ?_)
          refine FL.v (E.add k97 rfl) ?_
          refine FL.v (E.move (v:=Value.int .i64 (wr (((i81:Nat):Int) + 1))) rfl) ?_
          refine FL.nil ?_
          obtain rfl:=Option.some.inj hp
          exact ⟨rfl,⟨_,_,_,_,_,_,SBE,(i94.tr iBF),elsAG,vw144,hm146,(zap rfl (zaq hx81) vl79.le),k98,k99,kA0,kA1,kA2,kA3,kA4⟩⟩
         ·
          refine FW.condF rfl cAB ?_
          refine FW.skip (FW.region ?_)
          refine FL.v (E.add k97 rfl) ?_
          refine FL.v (E.move (v:=Value.int .i64 (wr (((i81:Nat):Int) + 1))) rfl) ?_
          refine FL.nil ?_
          obtain rfl:=Option.some.inj hp
          exact ⟨rfl,⟨_,_,_,_,_,_,SAA,i94,els87,vw89,hm91,(zap rfl (zaq hx81) vl79.le),k98,k99,kA0,kA1,kA2,kA3,kA4⟩⟩
       ·
        clear hp hq
        rintro s81 fBW wBV ⟨HBS,v82,n84,cs86,o88,o90,SBT,iBU,els87,vw89,hm91,kBX,kBY,kBZ,kC0,kC1,kC2,kC3,kC4⟩
        refine FW.seq (FW.region ?_)
        refine FL.v (E.lss kBX kC4) ?_
        refine FL.nil (FW.seq ?_)
        refine FW.condF rfl zax ?_
        refine FW.exit ?_
        exact ⟨nofun,rfl,⟨_,_,_,_,_,_,SBT,iBU,els87,vw89,hm91,kBY,kBZ,kC0,kC1,kC2⟩⟩
       ·
        clear hq
        intro e fBM wBL hD
        rcases q81 with s81|x81
        ·
         obtain ⟨rfl,hD⟩:=hD
         obtain ⟨HBI,v82,n84,cs86,o88,o90,SBJ,iBK,els87,vw89,hm91,kBN,kBO,kBP,kBQ,kBR⟩:=hD
         replace hp:=el_go hp
         refine FW.region ?_
         refine FL.v (E.move kBR) ?_
         refine FL.v (E.add rfl rfl) ?_
         refine FL.v (E.assign (v:=Value.int .i64 (wr (s53.2.2.2 + 1))) rfl) ?_
         refine FL.nil ?_
         obtain rfl:=Option.some.inj hp
         exact ⟨rfl,⟨_,_,_,_,_,(SBJ.sel [1,2,3] (by decide) rfl),(i62.tr iBK),els87,hm91,kBN,kBO,kBP,kBQ,rfl⟩⟩
        ·
         exact x81.elim
      ·
       refine FW.condF rfl c70 ?_
       refine FW.exit ?_
       obtain rfl:=Option.some.inj hp
       exact ⟨nofun,rfl,⟨_,_,_,_,_,S61,i62,els57,hm59,k65,k66,k67,k68⟩⟩
     ·
      clear hq
      intro e fCW wCV hD
      rcases q53 with s53|x53
      ·
       obtain ⟨rfl,hD⟩:=hD
       obtain ⟨HCS,v54,n55,cs56,o58,SCT,iCU,els57,hm59,kCX,kCY,kCZ,kD0⟩:=hD
       replace hp:=el_go hp
       refine FW.region ?_
       refine FL.v (E.move kD0) ?_
       refine FL.v (E.assign (v:=Value.int .i64 (len sCR.1)) rfl) ?_
       refine FL.nil (FW.region ?_)
       refine FL.v (E.move kCZ) ?_
       refine FL.v (E.add rfl rfl) ?_
       refine FL.v (E.assign (v:=Value.int .i64 (wr (sCR.2.2.2.2 + 1))) rfl) ?_
       refine FL.nil ?_
       obtain rfl:=Option.some.inj hp
       exact ⟨rfl,⟨_,_,_,_,_,SCT,(i45.tr iCU),els57,hm59,kCX,kCY,rfl,rfl⟩⟩
      ·
       exact x53.elim
    ·
     refine FW.condF rfl c52 ?_
     refine FW.exit ?_
     obtain rfl:=Option.some.inj hp
     exact ⟨nofun,rfl,⟨_,_,_,_,_,S44,i45,elsKD,hm761,k49⟩⟩
   ·
    clear hq
    intro e fD6 wD5 hD
    rcases qCR with sCR|xCR
    ·
     obtain ⟨rfl,hD⟩:=hD
     obtain ⟨HD2,vKA,nKB,csKC,oKE,SD3,iD4,elsKD,hm761,kD7⟩:=hD
     replace hp:=el_go hp
     refine FW.seq (FW.region ?_)
     refine FL.v (E.move kD7) ?_
     refine FL.v (E.assign (v:=Value.pointer (some (⟨b35,0,none⟩:Addr))) rfl) ?_
     refine FL.nil ?_
     refine FW.ret ?_
     obtain ⟨HD8,SD9,iDa,hDb,nvDc⟩:=SD3.sealRowU (i:=1) (l':=[.box b35 85 [vKA,Value.map (some b29),Value.int .i64 sCR.2.1],.raw b29 oKE]) rfl elsKD (by decide) rfl
     obtain ⟨HDd,SDe,iDf,hDg⟩:=SD9.sealMap (i:=1) (l':=[.box b35 85 [vKA,Value.map (some b29),Value.int .i64 sCR.2.1]]) rfl hm761 rfl
     obtain ⟨HDh,SDi,iDj,atDk⟩:=SDe.sealBox (i:=0) (l':=[]) rfl rfl
     obtain rfl:=Option.some.inj hp
     exact ⟨.inr rfl,res1 rfl rfl ⟨_,_,rfl,SDi.run,⟨_,rfl,_,_,(hDb.mono (zag (iDf.tr iDj))),(hDg.mono iDj),atDk⟩⟩⟩
    ·
     exact xCR.elim
  ·
   exact x42.elim

theorem zfJ {Ha:GH} {wa:World} (hs:Sl Ha wa) (q0P:Addr) (a0:za7) (v0P_0:Value) (v0P_1:Value) (p0P_0:RSl Ha (eN .u16) 1 v0P_0 a0.masks) (p0P_1:MAt (K:=Int) (V:=Int) Ha (Value.int .u16) (Value.int .i64) v0P_1 a0.rounds) (c0P:CAt Ha q0P [v0P_0,v0P_1,Value.int .i64 a0.last]) (v1:Value) (a1:List Int) (p1:RSl Ha eI 1 v1 a1) {r:Int} (hp:(PF.zdu a0 a1)=some r) :
  Calls Tryz.prog 53 #[Value.pointer (some q0P),v1] wa (Sc Ha wa (Value.int .i64 r)):=by
 unfold PF.zdu at hp
 have S0:=St.init hs
 refine zae (N:=19) (args:=[Value.pointer (some q0P),v1]) Tryz.func53 rfl rfl rfl ?_
 refine FW.seq (FW.region ?_)
 refine FL.v (E.assign (v:=Value.int .i64 0) rfl) ?_
 refine FL.nil (FW.seq (FW.seq ?_))
 refine FW.draw (fun w'=>Run wa.heap.size Ha wa Ha w') (by kernel_rfl) (by kernel_rfl) (zaG S0.sl) ?_
 refine FD.val rfl rfl rfl (fun w' hw'=>(E.move (v:=Value.pointer (some q0P)) rfl)) ?_
 refine FD.val rfl rfl rfl (fun w' hw'=>(E.nilCheck rfl)) ?_
 refine FD.val rfl rfl rfl (fun w' hw'=>(E.fieldAddr tf85_1 rfl)) ?_
 refine FD.val rfl rfl rfl (fun w' hw'=>(E.load rfl (zah Tryz.isAgg82 (c0P.now (S0.call hw').sl) rfl))) ?_
 refine FD.val rfl rfl rfl (fun w' hw'=>(E.move (v:=v1) rfl)) ?_
 obtain ⟨r22,hr23,hp⟩:=bnd hp
 refine FD.call rfl rfl rfl (fun w' hw'=>(E.call Tryz.call63 (A1 rfl))) (fun w' hw'=>Calls.cls hw' (w_impl_maskOf (S0.call hw').sl v1 a1 p1 hr23)) ?_
 refine FD.val rfl rfl rfl (fun w' hw'=>(E.lookup rfl rfl (p0P_1.getOk (P:=Tryz.prog) (S0.call hw').sl Tryz.runUnderlying82 (zbj.intk Tryz.runUnderlying88) (z:=0) Tryz.zeroValue3 r22))) ?_
 refine FD.val rfl rfl rfl (fun w' hw'=>(E.move (v:=Value.tuple #[Value.int .i64 ((mget a0.rounds r22).getD 0),Value.bool ((mget a0.rounds r22).isSome)]) rfl)) ?_
 refine FD.val rfl rfl rfl (fun w' hw'=>(E.extract (i:=0) rfl rfl)) ?_
 refine FD.val rfl rfl rfl (fun w' hw'=>(E.extract (i:=1) rfl rfl)) ?_
 refine FD.val rfl rfl rfl (fun w' hw'=>(E.assign (v:=Value.int .i64 ((mget a0.rounds r22).getD 0)) rfl)) ?_
 refine FD.val rfl rfl rfl (fun w' hw'=>(E.assign (v:=Value.bool ((mget a0.rounds r22).isSome)) rfl)) ?_
 refine FD.nil ?_
 intro w24 r26
 have S25:=S0.call r26
 refine FW.seq (FW.region ?_)
 refine FL.v (E.move (v:=Value.bool ((mget a0.rounds r22).isSome)) rfl) ?_
 refine FL.nil ?_
 rcases ifB hp with ⟨c27,hp⟩|⟨c27,hp⟩
 ·
  refine FW.condT rfl c27 ?_
  refine FW.seq (FW.region ?_)
  refine FL.v (E.move (v:=Value.int .i64 ((mget a0.rounds r22).getD 0)) rfl) ?_
  refine FL.v (E.assign (v:=Value.int .i64 ((mget a0.rounds r22).getD 0)) rfl) ?_
  refine FL.nil ?_
  refine FW.ret ?_
  obtain rfl:=Option.some.inj hp
  exact ⟨.inr rfl,res1 rfl rfl ⟨rfl,S25.back⟩⟩
 ·
  refine FW.condF rfl c27 ?_
  refine FW.skip (FW.seq (FW.region ?_))
  refine FL.v (E.assign (v:=Value.int .i64 (-1)) rfl) ?_
  refine FL.nil ?_
  refine FW.ret ?_
  obtain rfl:=Option.some.inj hp
  exact ⟨.inr rfl,res1 rfl rfl ⟨rfl,S25.back⟩⟩

theorem w_impl_narrow {Ha:GH} {wa:World} (hs:Sl Ha wa) (a0:Cnf) (v0_1:Value) (p0_1:RSl Ha (eL eI 1) 1 v0_1 a0.clauses) (a1:Int) {r:Bool} (hp:(PF.zdv a0 a1)=some r) :
  Calls Tryz.prog 29 #[Value.agg #[Value.int .i64 a0.vars,v0_1],Value.int .i64 a1] wa (Sc Ha wa (Value.bool r)):=by
 unfold PF.zdv at hp
 have S0:=St.init hs
 refine zae (N:=10) (args:=[Value.agg #[Value.int .i64 a0.vars,v0_1],Value.int .i64 a1]) Tryz.func29 rfl rfl rfl ?_
 refine FW.seq (FW.region ?_)
 obtain ⟨b21,w22,run23,S24⟩:=S0.box (P:=Tryz.prog) 26 [Value.int .i64 a0.vars,v0_1] (v:=Value.agg #[Value.int .i64 a0.vars,v0_1]) rfl (zac rfl (zac p0_1.one zad))
 refine FL.v (E.box rfl run23) ?_
 obtain ⟨H25,S26,i27,at28⟩:=S24.sealBox (i:=0) (l':=[]) rfl rfl
 refine FL.v (E.assign (v:=Value.bool false) rfl) ?_
 refine FL.nil (FW.seq (FW.region ?_))
 refine FL.v (E.load rfl (zai Tryz.isAgg26 Tryz.sizeOf26 (at28.now S26.sl) rfl)) ?_
 refine FL.v (E.move (v:=Value.int .i64 a1) rfl) ?_
 obtain ⟨r29,hr30,hp⟩:=bnd hp
 refine FL.call rfl rfl rfl (E.call Tryz.call33 (A2 rfl rfl)) (ze7 S26.sl a0 v0_1 (p0_1.mono i27) a1 hr30) ?_
 rintro e w32 ⟨H31,v35,rfl,r34,h36⟩
 refine ⟨_,rfl,?_⟩
 have S33:=S26.call r34
 obtain ⟨y37,hy38,hp⟩:=bnd hp
 rw [hy38] at h36
 obtain ⟨q39,rfl,v40,v43,h41,h44,at45⟩:=h36
 have nv42:New H25 [v40]:=New.of_up S26.sl h41.dom
 have h41:=h41.mono (up_le S26.size)
 obtain ⟨r46,hr47,hp⟩:=bnd hp
 refine FL.call rfl rfl rfl (E.call Tryz.call53 (A2 rfl rfl)) (zfJ S33.sl q39 y37 v40 v43 (h41.mono upI) h44 at45 _ [] (RSl.nil _ _ _) hr47) ?_
 rintro e w48 ⟨rfl,r49⟩
 refine ⟨_,rfl,?_⟩
 have S50:=S33.call r49
 refine FL.v (E.geq rfl rfl) ?_
 refine FL.v (E.assign (v:=Value.bool (decide (0≤r46))) rfl) ?_
 refine FL.nil ?_
 refine FW.ret ?_
 obtain rfl:=Option.some.inj hp
 exact ⟨.inr rfl,res1 rfl rfl ⟨rfl,S50.back⟩⟩

theorem zfK {Ha:GH} {wa:World} (hs:Sl Ha wa) (a0:Cnf) (v0_1:Value) (p0_1:RSl Ha (eL eI 1) 1 v0_1 a0.clauses) (a1:Int) {r:(Bool×Bool)} (hp:(PF.zcc a0 a1)=some r) :
  Calls Tryz.prog 11 #[Value.agg #[Value.int .i64 a0.vars,v0_1],Value.int .i64 a1] wa (Sc Ha wa (Value.tuple #[Value.bool r.1,Value.bool r.2])):=by
 unfold PF.zcc at hp
 have S0:=St.init hs
 refine zae (N:=13) (args:=[Value.agg #[Value.int .i64 a0.vars,v0_1],Value.int .i64 a1]) Tryz.func11 rfl rfl rfl ?_
 refine FW.seq (FW.region ?_)
 obtain ⟨b21,w22,run23,S24⟩:=S0.box (P:=Tryz.prog) 26 [Value.int .i64 a0.vars,v0_1] (v:=Value.agg #[Value.int .i64 a0.vars,v0_1]) rfl (zac rfl (zac p0_1.one zad))
 refine FL.v (E.box rfl run23) ?_
 obtain ⟨H25,S26,i27,at28⟩:=S24.sealBox (i:=0) (l':=[]) rfl rfl
 refine FL.v (E.assign (v:=Value.bool false) rfl) ?_
 refine FL.v (E.assign (v:=Value.bool false) rfl) ?_
 refine FL.nil (FW.seq (FW.seq (FW.region ?_)))
 refine FL.v (E.load rfl (zai Tryz.isAgg26 Tryz.sizeOf26 (at28.now S26.sl) rfl)) ?_
 refine FL.v (E.move (v:=Value.int .i64 a1) rfl) ?_
 obtain ⟨r29,hr30,hp⟩:=bnd hp
 refine FL.call rfl rfl rfl (E.call Tryz.call23 (A2 rfl rfl)) (zco S26.sl a0 v0_1 (p0_1.mono i27) a1 hr30) ?_
 rintro e w31 ⟨rfl,r32⟩
 refine ⟨_,rfl,?_⟩
 have S33:=S26.call r32
 refine FL.v (E.not rfl) ?_
 refine FL.nil ?_
 rcases ifB hp with ⟨c34,hp⟩|⟨c34,hp⟩
 ·
  refine FW.condT rfl c34 ?_
  refine FW.seq (FW.region ?_)
  refine FL.v (E.assign (v:=Value.bool false) rfl) ?_
  refine FL.v (E.assign (v:=Value.bool false) rfl) ?_
  refine FL.nil ?_
  refine FW.ret ?_
  obtain rfl:=Option.some.inj hp
  exact ⟨.inr rfl,res2 rfl rfl rfl ⟨rfl,S33.back⟩⟩
 ·
  refine FW.condF rfl c34 ?_
  refine FW.skip (FW.seq (FW.region ?_))
  refine FL.v (E.load rfl (zai Tryz.isAgg26 Tryz.sizeOf26 (at28.now S33.sl) rfl)) ?_
  refine FL.v (E.move (v:=Value.int .i64 a1) rfl) ?_
  obtain ⟨r35,hr36,hp⟩:=bnd hp
  refine FL.call rfl rfl rfl (E.call Tryz.call29 (A2 rfl rfl)) (w_impl_narrow S33.sl a0 v0_1 (p0_1.mono i27) a1 hr36) ?_
  rintro e w37 ⟨rfl,r38⟩
  refine ⟨_,rfl,?_⟩
  have S39:=S33.call r38
  refine FL.v (E.assign (v:=Value.bool r35) rfl) ?_
  refine FL.v (E.assign (v:=Value.bool true) rfl) ?_
  refine FL.nil ?_
  refine FW.ret ?_
  obtain rfl:=Option.some.inj hp
  exact ⟨.inr rfl,res2 rfl rfl rfl ⟨rfl,S39.back⟩⟩

@[reducible] def zfL (Ha:GH) (wa:World) (r:((List (List Int))×Bool)):Ending→World→Prop :=
 fun e w'=>∃ H':GH,∃ v0:Value,∃ n0:Nat,∃ c0:List Value,e=.returned (Value.tuple #[v0,Value.bool r.2])∧St Ha wa H' w' [.row 34 1 v0 n0 c0]∧Els (up wa.heap.size H') (eL eI 1) 1 c0 r.1∧(bl c0).Nodup
theorem zfM {Ha:GH} {wa:World} (hs:Sl Ha wa) (a0:Cnf) (v0_1:Value) (p0_1:RSl Ha (eL eI 1) 1 v0_1 a0.clauses) (a1:Int) {r:((List (List Int))×Bool)} (hp:(PF.zcd a0 a1)=some r) :
  Calls Tryz.prog 12 #[Value.agg #[Value.int .i64 a0.vars,v0_1],Value.int .i64 a1] wa (zfL Ha wa r):=by
 unfold PF.zcd at hp
 have S0:=St.init hs
 refine zae (N:=14) (args:=[Value.agg #[Value.int .i64 a0.vars,v0_1],Value.int .i64 a1]) Tryz.func12 rfl rfl rfl ?_
 refine FW.seq (FW.region ?_)
 obtain ⟨b21,w22,run23,S24⟩:=S0.box (P:=Tryz.prog) 26 [Value.int .i64 a0.vars,v0_1] (v:=Value.agg #[Value.int .i64 a0.vars,v0_1]) rfl (zac rfl (zac p0_1.one zad))
 refine FL.v (E.box rfl run23) ?_
 obtain ⟨H25,S26,i27,at28⟩:=S24.sealBox (i:=0) (l':=[]) rfl rfl
 refine FL.v (E.assign (v:=Value.slice none 0 0) rfl) ?_
 refine FL.v (E.assign (v:=Value.bool false) rfl) ?_
 refine FL.nil (FW.seq (FW.seq (FW.region ?_)))
 refine FL.v (E.load rfl (zai Tryz.isAgg26 Tryz.sizeOf26 (at28.now S26.sl) rfl)) ?_
 refine FL.v (E.move (v:=Value.int .i64 a1) rfl) ?_
 obtain ⟨r29,hr30,hp⟩:=bnd hp
 refine FL.call rfl rfl rfl (E.call Tryz.call23 (A2 rfl rfl)) (zco S26.sl a0 v0_1 (p0_1.mono i27) a1 hr30) ?_
 rintro e w31 ⟨rfl,r32⟩
 refine ⟨_,rfl,?_⟩
 have S33:=S26.call r32
 refine FL.v (E.not rfl) ?_
 refine FL.nil ?_
 rcases ifB hp with ⟨c34,hp⟩|⟨c34,hp⟩
 ·
  refine FW.condT rfl c34 ?_
  refine FW.seq (FW.region ?_)
  refine FL.v (E.assign (v:=Value.slice none 0 0) rfl) ?_
  refine FL.v (E.assign (v:=Value.bool false) rfl) ?_
  refine FL.nil ?_
  refine FW.ret ?_
  obtain rfl:=Option.some.inj hp
  exact ⟨.inr rfl,res2 rfl rfl rfl ⟨_,_,_,_,rfl,(S33.nil 34 1),Els.nil,List.nodup_nil⟩⟩
 ·
  refine FW.condF rfl c34 ?_
  refine FW.skip (FW.seq (FW.region ?_))
  refine FL.v (E.load rfl (zai Tryz.isAgg26 Tryz.sizeOf26 (at28.now S33.sl) rfl)) ?_
  refine FL.v (E.move (v:=Value.int .i64 a1) rfl) ?_
  obtain ⟨r35,hr36,hp⟩:=bnd hp
  refine FL.call rfl rfl rfl (E.call Tryz.call31 (A2 rfl rfl)) (zeX S33.sl a0 v0_1 (p0_1.mono i27) a1 hr36) ?_
  rintro e w38 ⟨H37,v41,n42,cs43,rfl,r40,els44⟩
  refine ⟨_,rfl,?_⟩
  have S39:=S33.join (l':=[.row 34 1 v41 n42 cs43]) r40 rfl
  obtain ⟨H45,S46,i47,h48⟩:=S39.sealRow (i:=0) (l':=[]) rfl els44 (by decide) rfl
  obtain ⟨r50,hr51,hp⟩:=bnd hp
  refine FL.call rfl rfl rfl (E.call Tryz.call30 (A1 rfl)) (zeZ S46.sl v41 r35 h48 hr51) ?_
  rintro e w53 ⟨H52,v58,n59,cs60,rfl,r55,els61,nd62⟩
  refine ⟨_,rfl,?_⟩
  obtain ⟨H56,r55,hU57⟩:=St.lendX i47 S39.sl r55
  have nv63:New H37 cs60:=New.of_up S39.sl els61.dom
  have els61:=els61.mono (hU57.tr (up_le S39.size))
  have S54:=S39.join (l':=[.row 34 1 v58 n59 cs60,.row 34 1 v41 n42 cs43]) r55 rfl
  refine FL.v (E.assign (v:=v58) rfl) ?_
  refine FL.v (E.assign (v:=Value.bool true) rfl) ?_
  refine FL.nil ?_
  refine FW.ret ?_
  obtain rfl:=Option.some.inj hp
  exact ⟨.inr rfl,res2 rfl rfl rfl ⟨_,_,_,_,rfl,(S54.sel [0] (by decide) rfl),els61,nd62⟩⟩

@[reducible] def zfN (Ha:GH) (wa:World) (r:((List (List Int))×Bool)):Ending→World→Prop :=
 fun e w'=>∃ H':GH,∃ v0:Value,e=.returned (Value.tuple #[v0,Value.bool r.2])∧Run wa.heap.size Ha wa H' w'∧RSl H' (eL eI 1) 1 v0 r.1
theorem zfO {Ha:GH} {wa:World} (hs:Sl Ha wa) (a0:Cnf) (v0_1:Value) (p0_1:RSl Ha (eL eI 1) 1 v0_1 a0.clauses) (a1:Int) {r:((List (List Int))×Bool)} (hp:(PF.zce a0 a1)=some r) :
  Calls Tryz.prog 13 #[Value.agg #[Value.int .i64 a0.vars,v0_1],Value.int .i64 a1] wa (zfN Ha wa r):=by
 unfold PF.zce at hp
 have S0:=St.init hs
 refine zae (N:=14) (args:=[Value.agg #[Value.int .i64 a0.vars,v0_1],Value.int .i64 a1]) Tryz.func13 rfl rfl rfl ?_
 refine FW.seq (FW.region ?_)
 obtain ⟨b21,w22,run23,S24⟩:=S0.box (P:=Tryz.prog) 26 [Value.int .i64 a0.vars,v0_1] (v:=Value.agg #[Value.int .i64 a0.vars,v0_1]) rfl (zac rfl (zac p0_1.one zad))
 refine FL.v (E.box rfl run23) ?_
 obtain ⟨H25,S26,i27,at28⟩:=S24.sealBox (i:=0) (l':=[]) rfl rfl
 refine FL.v (E.assign (v:=Value.slice none 0 0) rfl) ?_
 refine FL.v (E.assign (v:=Value.bool false) rfl) ?_
 refine FL.nil (FW.seq (FW.seq (FW.region ?_)))
 refine FL.v (E.load rfl (zai Tryz.isAgg26 Tryz.sizeOf26 (at28.now S26.sl) rfl)) ?_
 refine FL.v (E.move (v:=Value.int .i64 a1) rfl) ?_
 obtain ⟨r29,hr30,hp⟩:=bnd hp
 refine FL.call rfl rfl rfl (E.call Tryz.call26 (A2 rfl rfl)) (zc0 S26.sl a0 v0_1 (p0_1.mono i27) a1 hr30) ?_
 rintro e w31 ⟨rfl,r32⟩
 refine ⟨_,rfl,?_⟩
 have S33:=S26.call r32
 refine FL.v (E.not rfl) ?_
 refine FL.nil ?_
 rcases ifB hp with ⟨c34,hp⟩|⟨c34,hp⟩
 ·
  refine FW.condT rfl c34 ?_
  refine FW.seq (FW.region ?_)
  obtain ⟨v35,w36,run37,S38⟩:=S33.buildSlice (P:=Tryz.prog) te24 [] (parts:=#[]) (cells:=[]) rfl zao zan zad (Nat.le_of_ble_eq_true rfl)
  have els39:Els (up wa.heap.size H25) (eL eI 1) 1 [] []:=Els.nil
  refine FL.v (E.buildSlice (B0) run37) ?_
  refine FL.v (E.assign (v:=v35) rfl) ?_
  refine FL.v (E.assign (v:=Value.bool false) rfl) ?_
  refine FL.nil ?_
  refine FW.ret ?_
  obtain ⟨H40,S41,i42,ns45,nv44⟩:=S38.sealRowN (i:=0) (l':=[]) rfl els39 (show (bl []).Nodup from List.nodup_nil) (by decide) rfl
  have h43:=ns45.rsl
  obtain rfl:=Option.some.inj hp
  exact ⟨.inr rfl,res2 rfl rfl rfl ⟨_,_,rfl,S41.run,(h43.mono upI)⟩⟩
 ·
  refine FW.condF rfl c34 ?_
  refine FW.skip (FW.seq (FW.region ?_))
  refine FL.v (E.load rfl (zai Tryz.isAgg26 Tryz.sizeOf26 (at28.now S33.sl) rfl)) ?_
  refine FL.v (E.move (v:=Value.int .i64 a1) rfl) ?_
  obtain ⟨r46,hr47,hp⟩:=bnd hp
  refine FL.call rfl rfl rfl (E.call Tryz.call32 (A2 rfl rfl)) (ze4 S33.sl a0 v0_1 (p0_1.mono i27) a1 hr47) ?_
  rintro e w49 ⟨H48,v52,rfl,r51,h53,bk54⟩
  refine ⟨_,rfl,?_⟩
  have bk54:=bk54.le S33.size
  have S50:=S33.call r51
  refine FL.v (E.assign (v:=v52) rfl) ?_
  refine FL.v (E.assign (v:=Value.bool true) rfl) ?_
  refine FL.nil ?_
  refine FW.ret ?_
  obtain rfl:=Option.some.inj hp
  exact ⟨.inr rfl,res2 rfl rfl rfl ⟨_,_,rfl,S50.run,h53⟩⟩

@[reducible] def zfP (Ha:GH) (wa:World) (r:((List Int)×Bool)):Ending→World→Prop :=
 fun e w'=>∃ H':GH,∃ v0:Value,∃ n0:Nat,∃ c0:List Value,e=.returned (Value.tuple #[v0,Value.bool r.2])∧St Ha wa H' w' [.row 3 1 v0 n0 c0]∧Els (up wa.heap.size H') eI 1 c0 r.1
set_option maxHeartbeats 4000000 in
theorem zfQ {Ha:GH} {wa:World} (hs:Sl Ha wa) (a0:Cnf) (v0_1:Value) (p0_1:RSl Ha (eL eI 1) 1 v0_1 a0.clauses) (a1:Int) {r:((List Int)×Bool)} (hp:(PF.zcf a0 a1)=some r) :
  Calls Tryz.prog 14 #[Value.agg #[Value.int .i64 a0.vars,v0_1],Value.int .i64 a1] wa (zfP Ha wa r):=by
 unfold PF.zcf at hp
 have S0:=St.init hs
 refine zae (N:=42) (args:=[Value.agg #[Value.int .i64 a0.vars,v0_1],Value.int .i64 a1]) Tryz.func14 rfl rfl rfl ?_
 refine FW.seq (FW.region ?_)
 obtain ⟨b21,w22,run23,S24⟩:=S0.box (P:=Tryz.prog) 26 [Value.int .i64 a0.vars,v0_1] (v:=Value.agg #[Value.int .i64 a0.vars,v0_1]) rfl (zac rfl (zac p0_1.one zad))
 refine FL.v (E.box rfl run23) ?_
 obtain ⟨H25,S26,i27,at28⟩:=S24.sealBox (i:=0) (l':=[]) rfl rfl
 refine FL.v (E.assign (v:=Value.slice none 0 0) rfl) ?_
 refine FL.v (E.assign (v:=Value.bool false) rfl) ?_
 refine FL.nil (FW.seq (FW.seq (FW.region ?_)))
 refine FL.v (E.load rfl (zai Tryz.isAgg26 Tryz.sizeOf26 (at28.now S26.sl) rfl)) ?_
 refine FL.v (E.move (v:=Value.int .i64 a1) rfl) ?_
 obtain ⟨r29,hr30,hp⟩:=bnd hp
 refine FL.call rfl rfl rfl (E.call Tryz.call23 (A2 rfl rfl)) (zco S26.sl a0 v0_1 (p0_1.mono i27) a1 hr30) ?_
 rintro e w31 ⟨rfl,r32⟩
 refine ⟨_,rfl,?_⟩
 have S33:=S26.call r32
 refine FL.v (E.not rfl) ?_
 refine FL.nil ?_
 rcases ifB hp with ⟨c34,hp⟩|⟨c34,hp⟩
 ·
  refine FW.condT rfl c34 ?_
  refine FW.seq (FW.region ?_)
  refine FL.v (E.assign (v:=Value.slice none 0 0) rfl) ?_
  refine FL.v (E.assign (v:=Value.bool false) rfl) ?_
  refine FL.nil ?_
  refine FW.ret ?_
  obtain rfl:=Option.some.inj hp
  exact ⟨.inr rfl,res2 rfl rfl rfl ⟨_,_,_,_,rfl,(S33.nil 3 1),Els.nil⟩⟩
 ·
  refine FW.condF rfl c34 ?_
  refine FW.skip (FW.seq (FW.region ?_))
  refine FL.v (E.assign (v:=Value.slice none 0 0) rfl) ?_
  refine FL.nil (FW.seq (FW.seq (FW.region ?_)))
  refine FL.v (E.load rfl (zai Tryz.isAgg26 Tryz.sizeOf26 (at28.now S33.sl) rfl)) ?_
  refine FL.v (E.move (v:=Value.int .i64 a1) rfl) ?_
  obtain ⟨r35,hr36,hp⟩:=bnd hp
  refine FL.call rfl rfl rfl (E.call Tryz.call24 (A2 rfl rfl)) (zer S33.sl a0 v0_1 (p0_1.mono i27) a1 hr36) ?_
  rintro e w38 ⟨H37,v41,rfl,r40,h42⟩
  refine ⟨_,rfl,?_⟩
  have S39:=S33.call r40
  obtain ⟨y43,hy44,hp⟩:=bnd hp
  rw [hy44] at h42
  obtain ⟨q45,rfl,v46,v48,v50,v53,h47,h49,h51,h54,at56⟩:=h42
  have nv52:New H25 [v50]:=New.of_up S33.sl h51.dom
  have h51:=h51.mono (up_le S33.size)
  have nv55:New H25 [v53]:=New.of_up S33.sl h54.dom
  have h54:=h54.mono (up_le S33.size)
  refine FL.v (E.nilCheck rfl) ?_
  refine FL.v (E.fieldAddr tf54_4 rfl) ?_
  refine FL.v (E.load rfl (zah Tryz.isAgg34 (at56.now S39.sl) rfl)) ?_
  refine FL.v (E.lenP te34 rfl h54) ?_
  refine FL.v (E.move (v:=Value.int .i64 0) rfl) ?_
  refine FL.nil ?_
  obtain ⟨q58,hq,hp⟩:=bndR hp
  refine FW.block ?_
  refine FW.mono (FW.forL (S:=(List Int)) (X:=Empty) (fun (i58:Nat) (s58:(List Int)) f w=>∃ H:GH,∃ v59:Value,∃ n60:Nat,∃ cs61:List Value,St Ha wa H w [.row 3 1 v59 n60 cs61]∧Inc H37 H∧Els (up wa.heap.size H) eI 1 cs61 s58∧f 20=Value.int .i64 ((i58:Nat):Int)∧f 6=v59∧f 18=v53∧f 19=Value.int .i64 (len y43.rounds)) (fun (q:Rs (List Int) Empty) e f w=>match q with|.go s58=>e=Exit.exit 0∧(∃ H:GH,∃ v59:Value,∃ n60:Nat,∃ cs61:List Value,St Ha wa H w [.row 3 1 v59 n60 cs61]∧Inc H37 H∧Els (up wa.heap.size H) eI 1 cs61 s58∧f 6=v59)|.rt x=>x.elim) hq ⟨_,_,_,_,(S39.nil 3 1),(Inc.rfl _),Els.nil,rfl,rfl,rfl,rfl⟩ ?_ ?_) ?_
  ·
   clear hp hq
   rintro i58 y57 s58 fAX wAW ⟨HAT,v59,n60,cs61,SAU,iAV,els62,kAY,kAZ,kB0,kB1⟩ hx58 oCF hp
   refine FW.seq (FW.region ?_)
   refine FL.v (E.lssT kAY kB1 (zaw hx58)) ?_
   refine FL.nil (FW.seq ?_)
   refine FW.condT rfl rfl ?_
   refine FW.skip (FW.seq (FW.block (FW.seq (FW.region ?_))))
   obtain ⟨pB2,csB3,ptB4,lB5,atB6,relB7⟩:=h54.at (zal hx58)
   obtain rfl:=zam relB7
   refine FL.v (E.indexAddr te34 kB0 kAY ptB4) ?_
   refine FL.v (E.load rfl (zaf Tryz.isAgg3 ((atB6.mono (upI.tr iAV)).now SAU.sl) rfl)) ?_
   refine FL.v (E.assign (v:=Value.int .i64 y57) rfl) ?_
   refine FL.nil (FW.seq ?_)
   obtain ⟨qB8,hq,hp⟩:=bndR hp
   refine FW.block ?_
   refine FW.mono (FW.iter (S:=(List Int)) (X:=Empty) (fun (sB8:(List Int)) f w=>∃ H:GH,∃ vB9:Value,∃ nBa:Nat,∃ csBb:List Value,St Ha wa H w [.row 3 1 vB9 nBa csBb]∧Inc HAT H∧Els (up wa.heap.size H) eI 1 csBb sB8∧f 6=vB9∧f 8=Value.int .i64 y57∧f 18=v53∧f 19=Value.int .i64 (len y43.rounds)∧f 20=Value.int .i64 ((i58:Nat):Int)) (fun (q:Rs (List Int) Empty) e f w=>match q with|.go sB8=>e=Exit.exit 2∧(∃ H:GH,∃ vB9:Value,∃ nBa:Nat,∃ csBb:List Value,St Ha wa H w [.row 3 1 vB9 nBa csBb]∧Inc HAT H∧Els (up wa.heap.size H) eI 1 csBb sB8∧f 6=vB9∧f 8=Value.int .i64 y57∧f 18=v53∧f 19=Value.int .i64 (len y43.rounds)∧f 20=Value.int .i64 ((i58:Nat):Int))|.rt x=>x.elim) hq ⟨_,_,_,_,SAU,(Inc.rfl _),els62,kAZ,rfl,kB0,kB1,kAY⟩ ?_) ?_
   ·
    clear hp hq
    rintro sB8 fBI wBH ⟨HBE,vB9,nBa,csBb,SBF,iBG,elsBc,kBJ,kBK,kBL,kBM,kBN⟩ oC5 hp
    refine FW.seq (FW.seq (FW.region ?_))
    refine FL.v (E.move kBJ) ?_
    refine FL.v (E.lenO te34 rfl SBF (i:=0) rfl elsBc (by decide)) ?_
    refine FL.v (E.move kBK) ?_
    refine FL.v (E.lss rfl rfl) ?_
    refine FL.nil ?_
    rcases ifB hp with ⟨cBO,hp⟩|⟨cBO,hp⟩
    ·
     refine FW.condT rfl cBO ?_
     refine FW.skip (FW.block (FW.region ?_))
     refine FL.v (E.move kBJ) ?_
     obtain ⟨vBP,wBQ,runBR,SBS,elsBT⟩:=SBF.ints (P:=Tryz.prog) te34 (up wa.heap.size HBE) 1 [0]
     refine FL.v (E.buildSlice (B1 rfl) runBR) ?_
     obtain ⟨xsBU,hzBV,hp⟩:=bnd hp
     obtain ⟨vBW,wBZ,nBX,csBY,runC0,SC1,elsC2,ceC3⟩:=SBS.appendO (P:=Tryz.prog) te34 (i:=1) (j:=0) rfl elsBc rfl elsBT hzBV
     have SC1:St Ha wa HBE wBZ [.row 3 1 vBP 1 (iC [0]),.row 3 1 vBW nBX csBY]:=SC1
     have SC4:St Ha wa HBE wBZ [.row 3 1 vBW nBX csBY]:=SC1.drop 0
     refine FL.v (E.append rfl rfl runC0) ?_
     refine FL.v (E.assign (v:=vBW) rfl) ?_
     refine FL.nil ?_
     obtain rfl:=Option.some.inj hp
     exact ⟨rfl,⟨_,_,_,_,SC4,iBG,elsC2,rfl,kBK,kBL,kBM,kBN⟩⟩
    ·
     refine FW.condF rfl cBO ?_
     refine FW.exit ?_
     obtain rfl:=Option.some.inj hp
     exact ⟨nofun,rfl,⟨_,_,_,_,SBF,iBG,elsBc,kBJ,kBK,kBL,kBM,kBN⟩⟩
   ·
    clear hq
    intro e fCa wC9 hD
    rcases qB8 with sB8|xB8
    ·
     obtain ⟨rfl,hD⟩:=hD
     obtain ⟨HC6,vB9,nBa,csBb,SC7,iC8,elsBc,kCb,kCc,kCd,kCe,kCf⟩:=hD
     replace hp:=el_go hp
     refine FW.seq (FW.region ?_)
     refine FL.v (E.move kCc) ?_
     refine FL.v (E.gtr rfl rfl) ?_
     refine FL.nil ?_
     rcases ifB hp with ⟨cCg,hp⟩|⟨cCg,hp⟩
     ·
      refine FW.condT rfl cCg ?_
      refine FW.region ?_
      refine FL.v (E.move kCb) ?_
      refine FL.v (E.move kCc) ?_
      refine FL.v (E.sub rfl rfl) ?_
      obtain ⟨xCn,hxCo,hp⟩:=bnd hp
      obtain ⟨pCh,csCi,ptCj,lCk,atCl,relCm⟩:=SC7.row_at (i:=0) rfl elsBc (by decide) hxCo
      obtain rfl:=zam relCm
      refine FL.v (E.indexAddr te34 rfl rfl ptCj) ?_
      refine FL.v (E.load rfl (zaf Tryz.isAgg3 atCl rfl)) ?_
      refine FL.v (E.add rfl rfl) ?_
      obtain ⟨xCv,hxCw,hp⟩:=bnd hp
      obtain ⟨pCp,csCq,ptCr,lCs,atCt,relCu⟩:=SC7.row_at (i:=0) rfl elsBc (by decide) hxCw
      obtain rfl:=zam relCu
      refine FL.v (E.indexAddr te34 rfl rfl ptCr) ?_
      obtain ⟨xsCA,hputCB,hp⟩:=bnd hp
      obtain ⟨wCx,csCD,runCy,SCz,elsCC,ceCE⟩:=SC7.putEls (P:=Tryz.prog) (t:=3) (i:=0) rfl elsBc hputCB ptCr Tryz.sizeOf3 (u:=Value.int .i64 (wr (xCn + 1))) (c:=[Value.int .i64 (wr (xCn + 1))]) rfl rfl (zac rfl zad) rfl
      have SCz:St Ha wa HC6 wCx [.row 3 1 vB9 nBa csCD]:=SCz
      refine FL.act rfl rfl (E.store rfl rfl runCy) ?_
      refine FL.nil (FW.region ?_)
      refine FL.v (E.add kCf rfl) ?_
      refine FL.v (E.move (v:=Value.int .i64 (wr (((i58:Nat):Int) + 1))) rfl) ?_
      refine FL.nil ?_
      obtain rfl:=Option.some.inj hp
      exact ⟨rfl,⟨_,_,_,_,SCz,(iAV.tr iC8),elsCC,(zap rfl (zaq hx58) (h54.mono (upI.tr (iAV.tr iC8))).le),kCb,kCd,kCe⟩⟩
     ·
      refine FW.condF rfl cCg ?_
      refine FW.skip (FW.region ?_)
      refine FL.v (E.add kCf rfl) ?_
      refine FL.v (E.move (v:=Value.int .i64 (wr (((i58:Nat):Int) + 1))) rfl) ?_
      refine FL.nil ?_
      obtain rfl:=Option.some.inj hp
      exact ⟨rfl,⟨_,_,_,_,SC7,(iAV.tr iC8),elsBc,(zap rfl (zaq hx58) (h54.mono (upI.tr (iAV.tr iC8))).le),kCb,kCd,kCe⟩⟩
    ·
     exact xB8.elim
  ·
   clear hp hq
   rintro s58 fCQ wCP ⟨HCM,v59,n60,cs61,SCN,iCO,els62,kCR,kCS,kCT,kCU⟩
   refine FW.seq (FW.region ?_)
   refine FL.v (E.lss kCR kCU) ?_
   refine FL.nil (FW.seq ?_)
   refine FW.condF rfl zax ?_
   refine FW.exit ?_
   exact ⟨nofun,rfl,⟨_,_,_,_,SCN,iCO,els62,kCS⟩⟩
  ·
   clear hq
   intro e fCK wCJ hD
   rcases q58 with s58|x58
   ·
    obtain ⟨rfl,hD⟩:=hD
    obtain ⟨HCG,v59,n60,cs61,SCH,iCI,els62,kCL⟩:=hD
    replace hp:=el_go hp
    refine FW.seq (FW.region ?_)
    refine FL.v (E.move kCL) ?_
    refine FL.v (E.assign (v:=v59) rfl) ?_
    refine FL.v (E.assign (v:=Value.bool true) rfl) ?_
    refine FL.nil ?_
    refine FW.ret ?_
    obtain rfl:=Option.some.inj hp
    exact ⟨.inr rfl,res2 rfl rfl rfl ⟨_,_,_,_,rfl,SCH,els62⟩⟩
   ·
    exact x58.elim

@[reducible] def zfR (Ha:GH) (wa:World) (r:((List Int)×Bool)):Ending→World→Prop :=
 fun e w'=>∃ H':GH,∃ v0:Value,e=.returned (Value.tuple #[v0,Value.bool r.2])∧Run wa.heap.size Ha wa H' w'∧RSl (up wa.heap.size H') eI 1 v0 r.1
theorem zfS {Ha:GH} {wa:World} (hs:Sl Ha wa) (a0:Cnf) (v0_1:Value) (p0_1:RSl Ha (eL eI 1) 1 v0_1 a0.clauses) (a1:Int) {r:((List Int)×Bool)} (hp:(PF.zcg a0 a1)=some r) :
  Calls Tryz.prog 15 #[Value.agg #[Value.int .i64 a0.vars,v0_1],Value.int .i64 a1] wa (zfR Ha wa r):=by
 unfold PF.zcg at hp
 have S0:=St.init hs
 refine zae (N:=15) (args:=[Value.agg #[Value.int .i64 a0.vars,v0_1],Value.int .i64 a1]) Tryz.func15 rfl rfl rfl ?_
 refine FW.seq (FW.region ?_)
 obtain ⟨b21,w22,run23,S24⟩:=S0.box (P:=Tryz.prog) 26 [Value.int .i64 a0.vars,v0_1] (v:=Value.agg #[Value.int .i64 a0.vars,v0_1]) rfl (zac rfl (zac p0_1.one zad))
 refine FL.v (E.box rfl run23) ?_
 obtain ⟨H25,S26,i27,at28⟩:=S24.sealBox (i:=0) (l':=[]) rfl rfl
 refine FL.v (E.assign (v:=Value.slice none 0 0) rfl) ?_
 refine FL.v (E.assign (v:=Value.bool false) rfl) ?_
 refine FL.nil (FW.seq (FW.seq (FW.region ?_)))
 refine FL.v (E.load rfl (zai Tryz.isAgg26 Tryz.sizeOf26 (at28.now S26.sl) rfl)) ?_
 refine FL.v (E.move (v:=Value.int .i64 a1) rfl) ?_
 obtain ⟨r29,hr30,hp⟩:=bnd hp
 refine FL.call rfl rfl rfl (E.call Tryz.call26 (A2 rfl rfl)) (zc0 S26.sl a0 v0_1 (p0_1.mono i27) a1 hr30) ?_
 rintro e w31 ⟨rfl,r32⟩
 refine ⟨_,rfl,?_⟩
 have S33:=S26.call r32
 refine FL.v (E.not rfl) ?_
 refine FL.nil ?_
 rcases ifB hp with ⟨c34,hp⟩|⟨c34,hp⟩
 ·
  refine FW.condT rfl c34 ?_
  refine FW.seq (FW.region ?_)
  obtain ⟨v35,w36,run37,S38⟩:=S33.buildSlice (P:=Tryz.prog) te34 [] (parts:=#[]) (cells:=[]) rfl zao zan zad (Nat.le_of_ble_eq_true rfl)
  have els39:Els (up wa.heap.size H25) eI 1 [] []:=Els.nil
  refine FL.v (E.buildSlice (B0) run37) ?_
  refine FL.v (E.assign (v:=v35) rfl) ?_
  refine FL.v (E.assign (v:=Value.bool false) rfl) ?_
  refine FL.nil ?_
  refine FW.ret ?_
  obtain ⟨H40,S41,i42,h43,nv44⟩:=S38.sealRowU (i:=0) (l':=[]) rfl els39 (by decide) rfl
  obtain rfl:=Option.some.inj hp
  exact ⟨.inr rfl,res2 rfl rfl rfl ⟨_,_,rfl,S41.run,h43⟩⟩
 ·
  refine FW.condF rfl c34 ?_
  refine FW.skip (FW.seq (FW.region ?_))
  refine FL.v (E.load rfl (zai Tryz.isAgg26 Tryz.sizeOf26 (at28.now S33.sl) rfl)) ?_
  refine FL.v (E.move (v:=Value.int .i64 a1) rfl) ?_
  obtain ⟨r45,hr46,hp⟩:=bnd hp
  refine FL.call rfl rfl rfl (E.call Tryz.call28 (A2 rfl rfl)) (zd4 S33.sl a0 v0_1 (p0_1.mono i27) a1 hr46) ?_
  rintro e w48 ⟨H47,v51,v53,v56,v59,rfl,r50,h52,h54,h57,h60,bk61⟩
  refine ⟨_,rfl,?_⟩
  have nv55:New H25 [v53]:=New.of_up S33.sl h54.dom
  have h54:=h54.mono (up_le S33.size)
  have nv58:New H25 [v56]:=New.of_up S33.sl h57.dom
  have h57:=h57.mono (up_le S33.size)
  have bk61:=bk61.le S33.size
  have S49:=S33.call r50
  refine FL.v (E.field (fd49_2 rfl) rfl) ?_
  refine FL.v (E.assign (v:=v56) rfl) ?_
  refine FL.v (E.assign (v:=Value.bool true) rfl) ?_
  refine FL.nil ?_
  refine FW.ret ?_
  obtain rfl:=Option.some.inj hp
  exact ⟨.inr rfl,res2 rfl rfl rfl ⟨_,_,rfl,S49.run,h57⟩⟩

@[reducible] def p_impl_mask_clause (Ha:GH) (wa:World) (r:(List Int)):Ending→World→Prop :=
 fun e w'=>∃ H':GH,∃ v0:Value,∃ n0:Nat,∃ c0:List Value,e=.returned (v0)∧St Ha wa H' w' [.row 3 1 v0 n0 c0]∧Els (up wa.heap.size H') eI 1 c0 r
set_option maxHeartbeats 4000000 in
theorem w_impl_mask_clause {Ha:GH} {wa:World} (hs:Sl Ha wa) (a0:Int) {r:(List Int)} (hp:(PF.zch a0)=some r) :
  Calls Tryz.prog 67 #[Value.int .u16 a0] wa (p_impl_mask_clause Ha wa r):=by
 unfold PF.zch at hp
 have S0:=St.init hs
 refine zae (N:=32) (args:=[Value.int .u16 a0]) Tryz.func67 rfl rfl rfl ?_
 refine FW.seq (FW.region ?_)
 refine FL.v (E.assign (v:=Value.slice none 0 0) rfl) ?_
 refine FL.nil (FW.seq (FW.region ?_))
 refine FL.v (E.assign (v:=Value.slice none 0 0) rfl) ?_
 refine FL.nil (FW.seq (FW.seq (FW.region ?_)))
 refine FL.v (E.assign (v:=Value.int .i64 1) rfl) ?_
 refine FL.nil ?_
 obtain ⟨q21,hq,hp⟩:=bndR hp
 refine FW.block ?_
 refine FW.mono (FW.iter (S:=((List Int)×Int)) (X:=Empty) (fun (s21:((List Int)×Int)) f w=>∃ H:GH,∃ v22:Value,∃ n23:Nat,∃ cs24:List Value,St Ha wa H w [.row 3 1 v22 n23 cs24]∧Inc Ha H∧Els (up wa.heap.size H) eI 1 cs24 s21.1∧f 0=Value.int .u16 a0∧f 3=v22∧f 4=Value.int .i64 s21.2) (fun (q:Rs ((List Int)×Int) Empty) e f w=>match q with|.go s21=>e=Exit.exit 0∧(∃ H:GH,∃ v22:Value,∃ n23:Nat,∃ cs24:List Value,St Ha wa H w [.row 3 1 v22 n23 cs24]∧Inc Ha H∧Els (up wa.heap.size H) eI 1 cs24 s21.1∧f 3=v22)|.rt x=>x.elim) hq ⟨_,_,_,_,(S0.nil 3 1),(Inc.rfl _),Els.nil,rfl,rfl,rfl⟩ ?_) ?_
 ·
  clear hp hq
  rintro s21 f92 w91 ⟨H88,v22,n23,cs24,S89,i90,els25,k93,k94,k95⟩ oAS hp
  refine FW.seq (FW.seq (FW.region ?_))
  refine FL.v (E.move k95) ?_
  refine FL.v (E.leq rfl rfl) ?_
  refine FL.nil ?_
  rcases ifB hp with ⟨c96,hp⟩|⟨c96,hp⟩
  ·
   refine FW.condT rfl c96 ?_
   refine FW.skip (FW.seq (FW.block (FW.seq (FW.seq (FW.region ?_)))))
   refine FL.v (E.move k93) ?_
   refine FL.v (E.move k95) ?_
   refine FL.v (E.sub rfl rfl) ?_
   obtain ⟨u98,z97,hp⟩:=bnd hp
   refine FL.v (E.shr rfl rfl (nn_ge z97)) ?_
   refine FL.v (E.and rfl rfl) ?_
   refine FL.v (E.eql rfl rfl) ?_
   refine FL.nil ?_
   rcases ifB hp with ⟨c99,hp⟩|⟨c99,hp⟩
   ·
    refine FW.condT rfl c99 ?_
    refine FW.region ?_
    refine FL.v (E.move k94) ?_
    refine FL.v (E.move k95) ?_
    obtain ⟨vA0,wA1,runA2,SA3,elsA4⟩:=S89.ints (P:=Tryz.prog) te34 (up wa.heap.size H88) 1 [s21.2]
    refine FL.v (E.buildSlice (B1 rfl) runA2) ?_
    obtain ⟨xsA5,hzA6,hp⟩:=bnd hp
    obtain ⟨vA7,wAa,nA8,csA9,runAb,SAc,elsAd,ceAe⟩:=SA3.appendO (P:=Tryz.prog) te34 (i:=1) (j:=0) rfl els25 rfl elsA4 hzA6
    have SAc:St Ha wa H88 wAa [.row 3 1 vA0 1 (iC [s21.2]),.row 3 1 vA7 nA8 csA9]:=SAc
    have SAf:St Ha wa H88 wAa [.row 3 1 vA7 nA8 csA9]:=SAc.drop 0
    refine FL.v (E.append rfl rfl runAb) ?_
    refine FL.v (E.assign (v:=vA7) rfl) ?_
    refine FL.nil (FW.seq (FW.region ?_))
    refine FL.v (E.move k93) ?_
    refine FL.v (E.move k95) ?_
    refine FL.v (E.add rfl rfl) ?_
    refine FL.v (E.sub rfl rfl) ?_
    obtain ⟨u117,zAg,hp⟩:=bnd hp
    refine FL.v (E.shr rfl rfl (nn_ge zAg)) ?_
    refine FL.v (E.and rfl rfl) ?_
    refine FL.v (E.eql rfl rfl) ?_
    refine FL.nil ?_
    rcases ifB hp with ⟨cAi,hp⟩|⟨cAi,hp⟩
    ·
     refine FW.condT rfl cAi ?_
     refine FW.region ?_
     refine FL.v (E.move (v:=vA7) rfl) ?_
     refine FL.v (E.move k95) ?_
     refine FL.v (E.neg rfl) ?_
     obtain ⟨vAj,wAk,runAl,SAm,elsAn⟩:=SAf.ints (P:=Tryz.prog) te34 (up wa.heap.size H88) 1 [(wr (-s21.2))]
     refine FL.v (E.buildSlice (B1 rfl) runAl) ?_
     obtain ⟨xsAo,hzAp,hp⟩:=bnd hp
     obtain ⟨vAq,wAt,nAr,csAs,runAu,SAv,elsAw,ceAx⟩:=SAm.appendO (P:=Tryz.prog) te34 (i:=1) (j:=0) rfl elsAd rfl elsAn hzAp
     have SAv:St Ha wa H88 wAt [.row 3 1 vAj 1 (iC [(wr (-s21.2))]),.row 3 1 vAq nAr csAs]:=SAv
     have SAy:St Ha wa H88 wAt [.row 3 1 vAq nAr csAs]:=SAv.drop 0
     refine FL.v (E.append rfl rfl runAu) ?_
     refine FL.v (E.assign (v:=vAq) rfl) ?_
     refine FL.nil (FW.region ?_)
     refine FL.v (E.move k95) ?_
     refine FL.v (E.add rfl rfl) ?_
     refine FL.v (E.assign (v:=Value.int .i64 (wr (s21.2 + 1))) rfl) ?_
     refine FL.nil ?_
     obtain rfl:=Option.some.inj hp
     exact ⟨rfl,⟨_,_,_,_,SAy,i90,elsAw,k93,rfl,rfl⟩⟩
    ·
     refine FW.condF rfl cAi ?_
     refine FW.skip (FW.region ?_)
     refine FL.v (E.move k95) ?_
     refine FL.v (E.add rfl rfl) ?_
     refine FL.v (E.assign (v:=Value.int .i64 (wr (s21.2 + 1))) rfl) ?_
     refine FL.nil ?_
     obtain rfl:=Option.some.inj hp
     exact ⟨rfl,⟨_,_,_,_,SAf,i90,elsAd,k93,rfl,rfl⟩⟩
   ·
    refine FW.condF rfl c99 ?_
    refine FW.skip (FW.seq (FW.region ?_))
    refine FL.v (E.move k93) ?_
    refine FL.v (E.move k95) ?_
    refine FL.v (E.add rfl rfl) ?_
    refine FL.v (E.sub rfl rfl) ?_
    obtain ⟨u136,zAz,hp⟩:=bnd hp
    refine FL.v (E.shr rfl rfl (nn_ge zAz)) ?_
    refine FL.v (E.and rfl rfl) ?_
    refine FL.v (E.eql rfl rfl) ?_
    refine FL.nil ?_
    rcases ifB hp with ⟨cAB,hp⟩|⟨cAB,hp⟩
    ·
     refine FW.condT rfl cAB ?_
     refine FW.region ?_
     refine FL.v (E.move k94) ?_
     refine FL.v (E.move k95) ?_
     refine FL.v (E.neg rfl) ?_
     obtain ⟨vAC,wAD,runAE,SAF,elsAG⟩:=S89.ints (P:=Tryz.prog) te34 (up wa.heap.size H88) 1 [(wr (-s21.2))]
     refine FL.v (E.buildSlice (B1 rfl) runAE) ?_
     obtain ⟨xsAH,hzAI,hp⟩:=bnd hp
     obtain ⟨vAJ,wAM,nAK,csAL,runAN,SAO,elsAP,ceAQ⟩:=SAF.appendO (P:=Tryz.prog) te34 (i:=1) (j:=0) rfl els25 rfl elsAG hzAI
     have SAO:St Ha wa H88 wAM [.row 3 1 vAC 1 (iC [(wr (-s21.2))]),.row 3 1 vAJ nAK csAL]:=SAO
     have SAR:St Ha wa H88 wAM [.row 3 1 vAJ nAK csAL]:=SAO.drop 0
     refine FL.v (E.append rfl rfl runAN) ?_
     refine FL.v (E.assign (v:=vAJ) rfl) ?_
     refine FL.nil (FW.region ?_)
     refine FL.v (E.move k95) ?_
     refine FL.v (E.add rfl rfl) ?_
     refine FL.v (E.assign (v:=Value.int .i64 (wr (s21.2 + 1))) rfl) ?_
     refine FL.nil ?_
     obtain rfl:=Option.some.inj hp
     exact ⟨rfl,⟨_,_,_,_,SAR,i90,elsAP,k93,rfl,rfl⟩⟩
    ·
     refine FW.condF rfl cAB ?_
     refine FW.skip (FW.region ?_)
     refine FL.v (E.move k95) ?_
     refine FL.v (E.add rfl rfl) ?_
     refine FL.v (E.assign (v:=Value.int .i64 (wr (s21.2 + 1))) rfl) ?_
     refine FL.nil ?_
     obtain rfl:=Option.some.inj hp
     exact ⟨rfl,⟨_,_,_,_,S89,i90,els25,k93,k94,rfl⟩⟩
  ·
   refine FW.condF rfl c96 ?_
   refine FW.exit ?_
   obtain rfl:=Option.some.inj hp
   exact ⟨nofun,rfl,⟨_,_,_,_,S89,i90,els25,k94⟩⟩
 ·
  clear hq
  intro e fAX wAW hD
  rcases q21 with s21|x21
  ·
   obtain ⟨rfl,hD⟩:=hD
   obtain ⟨HAT,v22,n23,cs24,SAU,iAV,els25,kAY⟩:=hD
   replace hp:=el_go hp
   refine FW.seq (FW.region ?_)
   refine FL.v (E.move kAY) ?_
   refine FL.v (E.assign (v:=v22) rfl) ?_
   refine FL.nil ?_
   refine FW.ret ?_
   obtain rfl:=Option.some.inj hp
   exact ⟨.inr rfl,res1 rfl rfl ⟨_,_,_,_,rfl,SAU,els25⟩⟩
  ·
   exact x21.elim

@[reducible] def zfT (Ha:GH) (wa:World) (r:(List (List Int))):Ending→World→Prop :=
 fun e w'=>∃ H':GH,∃ v0:Value,∃ n0:Nat,∃ c0:List Value,e=.returned (v0)∧St Ha wa H' w' [.row 34 1 v0 n0 c0]∧Els H' (eL eI 1) 1 c0 r
set_option maxHeartbeats 4000000 in
theorem zfU {Ha:GH} {wa:World} (hs:Sl Ha wa) (q0P:Addr) (a0:za7) (v0P_0:Value) (v0P_1:Value) (p0P_0:RSl Ha (eN .u16) 1 v0P_0 a0.masks) (p0P_1:MAt (K:=Int) (V:=Int) Ha (Value.int .u16) (Value.int .i64) v0P_1 a0.rounds) (c0P:CAt Ha q0P [v0P_0,v0P_1,Value.int .i64 a0.last]) {r:(List (List Int))} (hp:(PF.zdw a0)=some r) :
  Calls Tryz.prog 34 #[Value.pointer (some q0P)] wa (zfT Ha wa r):=by
 unfold PF.zdw at hp
 have S0:=St.init hs
 refine zae (N:=24) (args:=[Value.pointer (some q0P)]) Tryz.func34 rfl rfl rfl ?_
 refine FW.seq (FW.region ?_)
 refine FL.v (E.assign (v:=Value.slice none 0 0) rfl) ?_
 refine FL.nil (FW.seq (FW.region ?_))
 refine FL.v (E.assign (v:=Value.slice none 0 0) rfl) ?_
 refine FL.nil (FW.seq (FW.seq (FW.region ?_)))
 refine FL.v (E.move (v:=Value.pointer (some q0P)) rfl) ?_
 refine FL.v (E.nilCheck rfl) ?_
 refine FL.v (E.fieldAddr tf85_0 rfl) ?_
 refine FL.v (E.load rfl (zah Tryz.isAgg83 (c0P.now S0.sl) rfl)) ?_
 refine FL.v (E.lenP te83 rfl p0P_0) ?_
 refine FL.v (E.move (v:=Value.int .i64 0) rfl) ?_
 refine FL.nil ?_
 obtain ⟨q22,hq,hp⟩:=bndR hp
 refine FW.block ?_
 refine FW.mono (FW.forL (S:=(List (List Int))) (X:=Empty) (fun (i22:Nat) (s22:(List (List Int))) f w=>∃ H:GH,∃ v23:Value,∃ n24:Nat,∃ cs25:List Value,St Ha wa H w [.row 34 1 v23 n24 cs25]∧Inc Ha H∧Els (up wa.heap.size H) (eL eI 1) 1 cs25 s22∧(bl cs25).Nodup∧f 11=Value.int .i64 ((i22:Nat):Int)∧f 3=v23∧f 9=v0P_0∧f 10=Value.int .i64 (len a0.masks)) (fun (q:Rs (List (List Int)) Empty) e f w=>match q with|.go s22=>e=Exit.exit 0∧(∃ H:GH,∃ v23:Value,∃ n24:Nat,∃ cs25:List Value,St Ha wa H w [.row 34 1 v23 n24 cs25]∧Inc Ha H∧Els (up wa.heap.size H) (eL eI 1) 1 cs25 s22∧(bl cs25).Nodup∧f 3=v23)|.rt x=>x.elim) hq ⟨_,_,_,_,(S0.nil 34 1),(Inc.rfl _),Els.nil,List.nodup_nil,rfl,rfl,rfl,rfl⟩ ?_ ?_) ?_
 ·
  clear hp hq
  rintro i22 y21 s22 f80 w79 ⟨H76,v23,n24,cs25,S77,i78,els26,nd27,k81,k82,k83,k84⟩ hx22 oAo hp
  refine FW.seq (FW.region ?_)
  refine FL.v (E.lssT k81 k84 (zaw hx22)) ?_
  refine FL.nil (FW.seq ?_)
  refine FW.condT rfl rfl ?_
  refine FW.skip (FW.seq (FW.block (FW.seq (FW.region ?_))))
  obtain ⟨p85,cs86,pt87,l88,at89,rel90⟩:=p0P_0.at (zal hx22)
  obtain rfl:=eN_open rel90
  refine FL.v (E.indexAddr te83 k83 k81 pt87) ?_
  refine FL.v (E.load rfl (zaf Tryz.isAgg88 ((at89.mono i78).now S77.sl) rfl)) ?_
  refine FL.v (E.assign (v:=Value.int .u16 y21) rfl) ?_
  refine FL.nil (FW.region ?_)
  refine FL.v (E.move k82) ?_
  refine FL.v (E.move (v:=Value.int .u16 y21) rfl) ?_
  obtain ⟨r91,hr92,hp⟩:=bnd hp
  refine FL.call rfl rfl rfl (E.call Tryz.call67 (A1 rfl)) (w_impl_mask_clause S77.sl y21 hr92) ?_
  rintro e w94 ⟨H93,v97,n98,cs99,rfl,r96,elsA0⟩
  refine ⟨_,rfl,?_⟩
  have elsA0:=elsA0.mono (up_le S77.size)
  have S95:=S77.join (l':=[.row 3 1 v97 n98 cs99,.row 34 1 v23 n24 cs25]) r96 rfl
  obtain ⟨HA1,SA2,iA3,hA4,nvA5⟩:=S95.sealRowU (i:=0) (l':=[.row 34 1 v23 n24 cs25]) rfl elsA0 (by decide) rfl
  obtain ⟨vA6,wA7,runA8,SA9⟩:=SA2.buildSlice (P:=Tryz.prog) te24 [v97] (parts:=#[(0,v97)]) (cells:=[v97]) rfl (zat (zaH hA4.cells) zao) (zas hA4.cells zan) (zac hA4.one zad) (Nat.le_of_ble_eq_true rfl)
  have elsAa:Els (up wa.heap.size HA1) (eL eI 1) 1 [v97] [r91]:=(Els.snoc (H:=(up wa.heap.size HA1)) (E:=(eL eI 1)) (k:=1) (c:=[v97]) (x:=r91) Els.nil rfl ⟨_,rfl,hA4⟩)
  have ndAb:(bl [v97]).Nodup:=by exact za5 v97
  refine FL.v (E.buildSlice (B1 rfl) runA8) ?_
  obtain ⟨xsAc,hzAd,hp⟩:=bnd hp
  obtain ⟨vAe,wAh,nAf,csAg,runAi,SAj,elsAk,ceAl⟩:=SA9.appendO (P:=Tryz.prog) te24 (i:=1) (j:=0) rfl (els26.mono (zag (r96.run.inc.tr iA3))) rfl elsAa hzAd
  have SAj:St Ha wa HA1 wAh [.row 34 1 vA6 1 [v97],.row 34 1 vAe nAf csAg]:=SAj
  have ndAm:(bl csAg).Nodup:=by rw [ceAl];exact zba nd27 ndAb (Els.dom (els26.mono (upI.tr r96.run.inc))) (by exact nvA5)
  have SAn:St Ha wa HA1 wAh [.row 34 1 vAe nAf csAg]:=SAj.drop 0
  refine FL.v (E.append rfl rfl runAi) ?_
  refine FL.v (E.assign (v:=vAe) rfl) ?_
  refine FL.nil (FW.region ?_)
  refine FL.v (E.add k81 rfl) ?_
  refine FL.v (E.move (v:=Value.int .i64 (wr (((i22:Nat):Int) + 1))) rfl) ?_
  refine FL.nil ?_
  obtain rfl:=Option.some.inj hp
  exact ⟨rfl,⟨_,_,_,_,SAn,((i78.tr r96.run.inc).tr iA3),elsAk,ndAm,(zap rfl (zaq hx22) (p0P_0.mono ((i78.tr r96.run.inc).tr iA3)).le),rfl,k83,k84⟩⟩
 ·
  clear hp hq
  rintro s22 fAH wAG ⟨HAD,v23,n24,cs25,SAE,iAF,els26,nd27,kAI,kAJ,kAK,kAL⟩
  refine FW.seq (FW.region ?_)
  refine FL.v (E.lss kAI kAL) ?_
  refine FL.nil (FW.seq ?_)
  refine FW.condF rfl zax ?_
  refine FW.exit ?_
  exact ⟨nofun,rfl,⟨_,_,_,_,SAE,iAF,els26,nd27,kAJ⟩⟩
 ·
  clear hq
  intro e fAt wAs hD
  rcases q22 with s22|x22
  ·
   obtain ⟨rfl,hD⟩:=hD
   obtain ⟨HAp,v23,n24,cs25,SAq,iAr,els26,nd27,kAu⟩:=hD
   replace hp:=el_go hp
   refine FW.seq (FW.region ?_)
   refine FL.v (E.move kAu) ?_
   obtain ⟨rAv,hrAw,hp⟩:=bnd hp
   refine FL.call rfl rfl rfl (E.call Tryz.call58 (A2 rfl rfl)) (zeV (L:=[]) SAq s22 (els26.mono upI) (Value.func (.func 59) #[] #[]) (fun x0 x1=>PF.zaQ x0 x1) (fun H2 w2 hi2 hs2 x0 y0 z0 x1 y1 z1 r hr=>⟨59,#[],rfl,Tryz.call59,zeq hs2 y0 x0 z0 y1 x1 z1  hr⟩) hrAw) ?_
   rintro e wAy ⟨HAx,csAB,rfl,⟨SAz,iAA⟩,elsAC⟩
   refine ⟨_,rfl,?_⟩
   have SAz:St Ha wa HAx wAy [.row 34 1 v23 n24 csAB]:=SAz
   refine FL.nil (FW.seq (FW.region ?_))
   refine FL.v (E.move kAu) ?_
   refine FL.v (E.assign (v:=v23) rfl) ?_
   refine FL.nil ?_
   refine FW.ret ?_
   obtain rfl:=Option.some.inj hp
   exact ⟨.inr rfl,res1 rfl rfl ⟨_,_,_,_,rfl,SAz,elsAC⟩⟩
  ·
   exact x22.elim

@[reducible] def p_impl_ClosureAt (Ha:GH) (wa:World) (r:((List (List Int))×Bool)):Ending→World→Prop :=
 fun e w'=>∃ H':GH,∃ v0:Value,∃ n0:Nat,∃ c0:List Value,e=.returned (Value.tuple #[v0,Value.bool r.2])∧St Ha wa H' w' [.row 34 1 v0 n0 c0]∧Els H' (eL eI 1) 1 c0 r.1
theorem w_impl_ClosureAt {Ha:GH} {wa:World} (hs:Sl Ha wa) (a0:Cnf) (v0_1:Value) (p0_1:RSl Ha (eL eI 1) 1 v0_1 a0.clauses) (a1:Int) {r:((List (List Int))×Bool)} (hp:(PF.zci a0 a1)=some r) :
  Calls Tryz.prog 17 #[Value.agg #[Value.int .i64 a0.vars,v0_1],Value.int .i64 a1] wa (p_impl_ClosureAt Ha wa r):=by
 unfold PF.zci at hp
 have S0:=St.init hs
 refine zae (N:=14) (args:=[Value.agg #[Value.int .i64 a0.vars,v0_1],Value.int .i64 a1]) Tryz.func17 rfl rfl rfl ?_
 refine FW.seq (FW.region ?_)
 obtain ⟨b21,w22,run23,S24⟩:=S0.box (P:=Tryz.prog) 26 [Value.int .i64 a0.vars,v0_1] (v:=Value.agg #[Value.int .i64 a0.vars,v0_1]) rfl (zac rfl (zac p0_1.one zad))
 refine FL.v (E.box rfl run23) ?_
 obtain ⟨H25,S26,i27,at28⟩:=S24.sealBox (i:=0) (l':=[]) rfl rfl
 refine FL.v (E.assign (v:=Value.slice none 0 0) rfl) ?_
 refine FL.v (E.assign (v:=Value.bool false) rfl) ?_
 refine FL.nil (FW.seq (FW.seq (FW.region ?_)))
 refine FL.v (E.load rfl (zai Tryz.isAgg26 Tryz.sizeOf26 (at28.now S26.sl) rfl)) ?_
 refine FL.v (E.move (v:=Value.int .i64 a1) rfl) ?_
 obtain ⟨r29,hr30,hp⟩:=bnd hp
 refine FL.call rfl rfl rfl (E.call Tryz.call23 (A2 rfl rfl)) (zco S26.sl a0 v0_1 (p0_1.mono i27) a1 hr30) ?_
 rintro e w31 ⟨rfl,r32⟩
 refine ⟨_,rfl,?_⟩
 have S33:=S26.call r32
 refine FL.v (E.not rfl) ?_
 refine FL.nil ?_
 rcases ifB hp with ⟨c34,hp⟩|⟨c34,hp⟩
 ·
  refine FW.condT rfl c34 ?_
  refine FW.seq (FW.region ?_)
  refine FL.v (E.assign (v:=Value.slice none 0 0) rfl) ?_
  refine FL.v (E.assign (v:=Value.bool false) rfl) ?_
  refine FL.nil ?_
  refine FW.ret ?_
  obtain rfl:=Option.some.inj hp
  exact ⟨.inr rfl,res2 rfl rfl rfl ⟨_,_,_,_,rfl,(S33.nil 34 1),Els.nil⟩⟩
 ·
  refine FW.condF rfl c34 ?_
  refine FW.skip (FW.seq (FW.region ?_))
  refine FL.v (E.load rfl (zai Tryz.isAgg26 Tryz.sizeOf26 (at28.now S33.sl) rfl)) ?_
  refine FL.v (E.move (v:=Value.int .i64 a1) rfl) ?_
  obtain ⟨r35,hr36,hp⟩:=bnd hp
  refine FL.call rfl rfl rfl (E.call Tryz.call33 (A2 rfl rfl)) (ze7 S33.sl a0 v0_1 (p0_1.mono i27) a1 hr36) ?_
  rintro e w38 ⟨H37,v41,rfl,r40,h42⟩
  refine ⟨_,rfl,?_⟩
  have S39:=S33.call r40
  obtain ⟨y43,hy44,hp⟩:=bnd hp
  rw [hy44] at h42
  obtain ⟨q45,rfl,v46,v49,h47,h50,at51⟩:=h42
  have nv48:New H25 [v46]:=New.of_up S33.sl h47.dom
  have h47:=h47.mono (up_le S33.size)
  obtain ⟨r52,hr53,hp⟩:=bnd hp
  refine FL.call rfl rfl rfl (E.call Tryz.call34 (A1 rfl)) (zfU S39.sl q45 y43 v46 v49 (h47.mono upI) h50 at51 hr53) ?_
  rintro e w55 ⟨H54,v58,n59,cs60,rfl,r57,els61⟩
  refine ⟨_,rfl,?_⟩
  have S56:=S39.join (l':=[.row 34 1 v58 n59 cs60]) r57 rfl
  refine FL.v (E.assign (v:=v58) rfl) ?_
  refine FL.v (E.assign (v:=Value.bool true) rfl) ?_
  refine FL.nil ?_
  refine FW.ret ?_
  obtain rfl:=Option.some.inj hp
  exact ⟨.inr rfl,res2 rfl rfl rfl ⟨_,_,_,_,rfl,S56,els61⟩⟩

theorem ze8 {Ha:GH} {wa:World} (hs:Sl Ha wa) (a0:Int) (v1:Value) (a1:List Int) (p1:RSl Ha eI 1 v1 a1) {r:Bool} (hp:(PF.zcS a0 a1)=some r) :
  Calls Tryz.prog 36 #[Value.int .i64 a0,v1] wa (Sc Ha wa (Value.bool r)):=by
 unfold PF.zcS at hp
 have S0:=St.init hs
 refine zae (N:=8) (args:=[Value.int .i64 a0,v1]) Tryz.func36 rfl rfl rfl ?_
 refine FW.seq (FW.region ?_)
 refine FL.v (E.assign (v:=Value.bool false) rfl) ?_
 refine FL.nil (FW.seq (FW.region ?_))
 refine FL.v (E.move (v:=Value.int .i64 a0) rfl) ?_
 refine FL.v (E.move (v:=v1) rfl) ?_
 obtain ⟨r21,hr22,hp⟩:=bnd hp
 refine FL.call rfl rfl rfl (E.call Tryz.call35 (A2 rfl rfl)) (zeo S0.sl a0 v1 a1 p1 hr22) ?_
 rintro e w23 ⟨rfl,r24⟩
 refine ⟨_,rfl,?_⟩
 have S25:=S0.call r24
 refine FL.v (E.assign (v:=Value.bool r21) rfl) ?_
 refine FL.nil ?_
 refine FW.ret ?_
 obtain rfl:=Option.some.inj hp
 exact ⟨.inr rfl,res1 rfl rfl ⟨rfl,S25.back⟩⟩

theorem zfV {Ha:GH} {wa:World} (hs:Sl Ha wa) (a0:Int) (v1:Value) (a1:List Int) (p1:RSl Ha eI 1 v1 a1) (v2:Value) (a2:List Int) (p2:RSl Ha eI 1 v2 a2) {r:(Int×Bool)} (hp:(PF.zcT a0 a1 a2)=some r) :
  Calls Tryz.prog 18 #[Value.int .i64 a0,v1,v2] wa (Sc Ha wa (Value.tuple #[Value.int .i64 r.1,Value.bool r.2])):=by
 unfold PF.zcT at hp
 have S0:=St.init hs
 refine zae (N:=21) (args:=[Value.int .i64 a0,v1,v2]) Tryz.func18 rfl rfl rfl ?_
 refine FW.seq (FW.region ?_)
 refine FL.v (E.assign (v:=Value.int .i64 0) rfl) ?_
 refine FL.v (E.assign (v:=Value.bool false) rfl) ?_
 refine FL.nil (FW.seq (FW.seq (FW.region ?_)))
 refine FL.v (E.move (v:=Value.int .i64 a0) rfl) ?_
 refine FL.v (E.move (v:=v1) rfl) ?_
 obtain ⟨r21,hr22,hp⟩:=bnd hp
 refine FL.call rfl rfl rfl (E.call Tryz.call35 (A2 rfl rfl)) (zeo S0.sl a0 v1 a1 p1 hr22) ?_
 rintro e w23 ⟨rfl,r24⟩
 refine ⟨_,rfl,?_⟩
 have S25:=S0.call r24
 refine FL.v (E.not rfl) ?_
 refine FL.v (E.move (v:=Value.bool (!r21)) rfl) ?_
 obtain ⟨t31,hqt31,hp⟩:=bnd hp
 refine FL.cut 5 (fun f w=>∃ H:GH,St Ha wa H w []∧Inc Ha H∧f 1=v1∧f 2=v2∧f 17=Value.bool t31) ?_ ?_
 ·
  clear hp;have hp:=hqt31;clear hqt31
  rcases ifB hp with ⟨c37,hp⟩|⟨c37,hp⟩
  ·
   refine FL.skip (wF_no rfl rfl rfl c37) rfl ?_
   refine FL.skip (wF_no rfl rfl rfl c37) rfl ?_
   refine FL.skip (wF_no rfl rfl rfl c37) rfl ?_
   refine FL.skip (wF_no rfl rfl rfl c37) rfl ?_
   obtain rfl:=Option.some.inj hp
   refine FL.v (E.pickT rfl c37 rfl) ?_
   exact FL.nil ⟨rfl,_,S25,(Inc.rfl _),rfl,rfl,rfl⟩
  ·
   refine FL.val (zab rfl rfl rfl c37) rfl rfl (E.move (v:=Value.int .i64 a0) rfl) ?_
   refine FL.val (zab rfl rfl rfl c37) rfl rfl (E.move (v:=v2) rfl) ?_
   obtain ⟨r38,hr39,hp⟩:=bnd hp
   refine FL.call (zab rfl rfl rfl c37) rfl rfl (E.call Tryz.call36 (A2 rfl rfl)) (ze8 S25.sl a0 v2 a2 p2 hr39) ?_
   rintro e w40 ⟨rfl,r41⟩
   refine ⟨_,rfl,?_⟩
   have S42:=S25.call r41
   refine FL.val (zab rfl rfl rfl c37) rfl rfl (E.not rfl) ?_
   obtain rfl:=Option.some.inj hp
   refine FL.v (E.pickF rfl c37 rfl) ?_
   exact FL.nil ⟨rfl,_,S42,(Inc.rfl _),rfl,rfl,rfl⟩
 rintro f36 w35 ⟨H32,S33,i34,k43,k44,k45⟩
 refine FL.nil ?_
 rcases ifB hp with ⟨c46,hp⟩|⟨c46,hp⟩
 ·
  refine FW.condT k45 c46 ?_
  refine FW.seq (FW.region ?_)
  refine FL.v (E.assign (v:=Value.int .i64 0) rfl) ?_
  refine FL.v (E.assign (v:=Value.bool false) rfl) ?_
  refine FL.nil ?_
  refine FW.ret ?_
  obtain rfl:=Option.some.inj hp
  exact ⟨.inr rfl,res2 rfl rfl rfl ⟨rfl,S33.back⟩⟩
 ·
  refine FW.condF k45 c46 ?_
  refine FW.skip (FW.seq (FW.region ?_))
  refine FL.v (E.move k43) ?_
  refine FL.v (E.move k44) ?_
  obtain ⟨r47,hr48,hp⟩:=bnd hp
  refine FL.call rfl rfl rfl (E.call Tryz.call37 (A2 rfl rfl)) (zeT S33.sl v1 a1 (p1.mono i34) v2 a2 (p2.mono i34) hr48) ?_
  rintro e w49 ⟨rfl,r50⟩
  refine ⟨_,rfl,?_⟩
  have S51:=S33.call r50
  refine FL.v (E.assign (v:=Value.int .i64 r47) rfl) ?_
  refine FL.v (E.assign (v:=Value.bool true) rfl) ?_
  refine FL.nil ?_
  refine FW.ret ?_
  obtain rfl:=Option.some.inj hp
  exact ⟨.inr rfl,res2 rfl rfl rfl ⟨rfl,S51.back⟩⟩

end Go.Proofs
