/- Part of the walks and plain laws behind the claim: it proves helpers, under no condition beyond their own. -/
import Derived.Test.YtkaikagbfoadpaaGreatFcWk2
set_option linter.unusedVariables false
set_option maxRecDepth 100000
namespace Go.Proofs
open Go.Mr Go.Pu Go.PF Go.RowKit

@[reducible] def p_spec_l1Cur_proof (H0:GH) (w0:World) (Ha:GH) (L:List MO) (b0:Nat) (r:(Cnf×(List zaa)×l1Cur)):Ending→World→Prop :=
 fun e w'=>∃ H':GH,∃ v0_1:Value,∃ v1:Value,∃ v0_0r:Value,e=.returned (Value.tuple #[Value.agg #[Value.int .i64 r.1.vars,v0_1],v1])∧(St H0 w0 H' w' (.box b0 103 [v0_0r,Value.int .i64 r.2.2.at_,Value.int .u64 r.2.2.seed]::L)∧Inc Ha H')∧RSl (up w0.heap.size H') (eL eI 1) 1 v0_1 r.1.clauses∧RSl (up w0.heap.size H') zah 4 v1 r.2.1∧RSl H' (eN .u8) 1 v0_0r r.2.2.code
set_option maxHeartbeats 4000000 in
theorem w_spec_l1Cur_proof {H0 Ha:GH} {w0 wa:World} {L:List MO} {a0:l1Cur} {b0:Nat} {v0_0:Value} (S0:St H0 w0 Ha wa (.box b0 103 [v0_0,Value.int .i64 a0.at_,Value.int .u64 a0.seed]::L)) (p0_0:RSl Ha (eN .u8) 1 v0_0 a0.code) {r:(Cnf×(List zaa)×l1Cur)} (hp:(PF.zcR a0)=some r) :
  Calls Tryz.prog 100 #[Value.pointer (some (⟨b0,0,none⟩:Addr))] wa (p_spec_l1Cur_proof H0 w0 Ha L b0 r):=by
 unfold PF.zcR at hp
 refine zaj (N:=96) (args:=[Value.pointer (some (⟨b0,0,none⟩:Addr))]) Tryz.func100 rfl rfl rfl ?_
 refine FW.seq (FW.region ?_)
 obtain ⟨b21,w22,run23,S24⟩:=S0.alloc (P:=Tryz.prog) 26 [Value.int .i64 0,Value.slice none 0 0] Tryz.zeroValue26 rfl (zab rfl (zab rfl zae))
 refine FL.v (E.alloc run23) ?_
 refine FL.v (E.assign (v:=Value.slice none 0 0) rfl) ?_
 refine FL.nil (FW.seq (FW.region ?_))
 refine FL.v (E.move (v:=Value.pointer (some (⟨b0,0,none⟩:Addr))) rfl) ?_
 obtain ⟨r25,hr26,hp⟩:=bnd hp
 have S27:St H0 w0 Ha w22 (.box b0 103 [v0_0,Value.int .i64 a0.at_,Value.int .u64 a0.seed]::.box b21 26 [Value.int .i64 0,Value.slice none 0 0]::L):=S24.front 1 rfl rfl
 refine FL.call rfl rfl rfl (E.call Tryz.call134 (A1 rfl)) (w_spec_l1Cur_cnf (L:=(.box b21 26 [Value.int .i64 0,Value.slice none 0 0]::L)) S27 (a0:=a0) p0_0 hr26) ?_
 rintro e w29 ⟨H28,v32,v34,rfl,⟨S30,i31⟩,h33,h35⟩
 refine ⟨_,rfl,?_⟩
 have S30:St H0 w0 H28 w29 (.box b0 103 [v34,Value.int .i64 r25.2.at_,Value.int .u64 r25.2.seed]::.box b21 26 [Value.int .i64 0,Value.slice none 0 0]::L):=S30
 obtain ⟨b36,w37,run38,S39⟩:=S30.alloc (P:=Tryz.prog) 26 [Value.int .i64 0,Value.slice none 0 0] Tryz.zeroValue26 rfl (zab rfl (zab rfl zae))
 refine FL.v (E.alloc run38) ?_
 obtain ⟨w40,run41,S42⟩:=S39.store0 (P:=Tryz.prog) (t:=26) (i:=0) (cs':=[Value.int .i64 r25.1.vars,v32]) (l':=(.box b36 26 [Value.int .i64 r25.1.vars,v32]::.box b0 103 [v34,Value.int .i64 r25.2.at_,Value.int .u64 r25.2.seed]::.box b21 26 [Value.int .i64 0,Value.slice none 0 0]::L)) (v:=Value.agg #[Value.int .i64 r25.1.vars,v32]) (c:=[Value.int .i64 r25.1.vars,v32]) rfl Tryz.sizeOf26 rfl rfl (zab rfl (zab h33.one zae)) (Nat.le_of_ble_eq_true rfl) rfl rfl
 refine FL.act rfl rfl (E.store rfl rfl run41) ?_
 refine FL.nil (FW.seq (FW.region ?_))
 refine FL.v (E.move (v:=Value.pointer (some (⟨b0,0,none⟩:Addr))) rfl) ?_
 refine FL.v (E.load rfl (zal Tryz.isAgg26 Tryz.sizeOf26 (S42.box_now (i:=0) rfl) rfl)) ?_
 obtain ⟨r43,hr44,hp⟩:=bnd hp
 have S45:St H0 w0 H28 w40 (.box b0 103 [v34,Value.int .i64 r25.2.at_,Value.int .u64 r25.2.seed]::.box b36 26 [Value.int .i64 r25.1.vars,v32]::.box b21 26 [Value.int .i64 0,Value.slice none 0 0]::L):=S42.front 1 rfl rfl
 refine FL.call rfl rfl rfl (E.call Tryz.call101 (A2 rfl rfl)) (zeo (L:=(.box b36 26 [Value.int .i64 r25.1.vars,v32]::.box b21 26 [Value.int .i64 0,Value.slice none 0 0]::L)) S45 (a0:=r25.2) h35 r25.1 v32 (h33.mono upI) hr44) ?_
 rintro e w47 ⟨H46,v50,n51,cs52,v55,rfl,⟨S48,i49⟩,els53,nd54,h56⟩
 refine ⟨_,rfl,?_⟩
 have S48:St H0 w0 H46 w47 (.row 134 4 v50 n51 cs52::.box b0 103 [v55,Value.int .i64 r43.2.at_,Value.int .u64 r43.2.seed]::.box b36 26 [Value.int .i64 r25.1.vars,v32]::.box b21 26 [Value.int .i64 0,Value.slice none 0 0]::L):=S48
 refine FL.v (E.assign (v:=v50) rfl) ?_
 refine FL.nil (FW.seq (FW.seq (FW.region ?_)))
 refine FL.v (E.move (v:=Value.pointer (some (⟨b0,0,none⟩:Addr))) rfl) ?_
 obtain ⟨r57,hr58,hp⟩:=bnd hp
 have S59:St H0 w0 H46 w47 (.box b0 103 [v55,Value.int .i64 r43.2.at_,Value.int .u64 r43.2.seed]::.row 134 4 v50 n51 cs52::.box b36 26 [Value.int .i64 r25.1.vars,v32]::.box b21 26 [Value.int .i64 0,Value.slice none 0 0]::L):=S48.front 1 rfl rfl
 refine FL.call rfl rfl rfl (E.call Tryz.call68 (A2 rfl rfl)) (zbn (L:=(.row 134 4 v50 n51 cs52::.box b36 26 [Value.int .i64 r25.1.vars,v32]::.box b21 26 [Value.int .i64 0,Value.slice none 0 0]::L)) S59 (a0:=r43.2) h56 2 hr58) ?_
 rintro e w61 ⟨H60,v64,rfl,⟨S62,i63⟩,h65⟩
 refine ⟨_,rfl,?_⟩
 have S62:St H0 w0 H60 w61 (.box b0 103 [v64,Value.int .i64 r57.2.at_,Value.int .u64 r57.2.seed]::.row 134 4 v50 n51 cs52::.box b36 26 [Value.int .i64 r25.1.vars,v32]::.box b21 26 [Value.int .i64 0,Value.slice none 0 0]::L):=S62
 refine FL.nil ?_
 obtain ⟨qA2,hq,hp⟩:=bndR hp
 refine FW.joinE (S:=((List Int)×Int×Int×Int×(List (List Int))×(List zaa))) (X:=Empty) (q:=qA2) (fun sA1 f w=>∃ H:GH,∃ vA4:Value,∃ qA6:Addr,∃ vA8:Value,∃ vAa:Value,∃ nAb:Nat,∃ csAc:List Value,St H0 w0 H w (.box b0 103 [vA4,Value.int .i64 sA1.2.1,Value.int .u64 sA1.2.2.1]::.box b21 26 [Value.int .i64 0,Value.slice none 0 0]::.row 134 4 vAa nAb csAc::L)∧Inc H60 H∧RSl H (eN .u8) 1 vA4 sA1.1∧RSl (up w0.heap.size H) (eL eI 1) 1 vA8 sA1.2.2.2.2.1∧CAt H qA6 [Value.int .i64 sA1.2.2.2.1,vA8]∧Els (up w0.heap.size H) zah 4 csAc sA1.2.2.2.2.2∧(bl csAc).Nodup∧f 0=Value.pointer (some (⟨b0,0,none⟩:Addr))∧f 2=Value.pointer (some (⟨b21,0,none⟩:Addr))∧f 4=Value.pointer (some qA6)∧f 5=vAa) (fun (_:Empty) _ _ _=>False) ?_ ?_ ?_
 ·
  clear hp;have hp:=hq;clear hq
  rcases ifB hp with ⟨cAf,hp⟩|⟨cAf,hp⟩
  ·
   refine FW.condT rfl cAf ?_
   refine FW.seq (FW.region ?_)
   refine FL.v (E.move (v:=Value.pointer (some (⟨b0,0,none⟩:Addr))) rfl) ?_
   obtain ⟨rAg,hrAh,hp⟩:=bnd hp
   refine FL.call rfl rfl rfl (E.call Tryz.call94 (A1 rfl)) (zel (L:=(.row 134 4 v50 n51 cs52::.box b36 26 [Value.int .i64 r25.1.vars,v32]::.box b21 26 [Value.int .i64 0,Value.slice none 0 0]::L)) S62 (a0:=r57.2) h65 hrAh) ?_
   rintro e wAj ⟨HAi,vAm,vAo,rfl,⟨SAk,iAl⟩,⟨_,⟨hAn,_⟩⟩,hAp⟩
   refine ⟨_,rfl,?_⟩
   have SAk:St H0 w0 HAi wAj (.box b0 103 [vAo,Value.int .i64 rAg.2.at_,Value.int .u64 rAg.2.seed]::.row 134 4 v50 n51 cs52::.box b36 26 [Value.int .i64 r25.1.vars,v32]::.box b21 26 [Value.int .i64 0,Value.slice none 0 0]::L):=SAk
   obtain ⟨wAq,runAr,SAs⟩:=SAk.store0 (P:=Tryz.prog) (t:=26) (i:=2) (cs':=[Value.int .i64 rAg.1.vars,vAm]) (l':=(.box b0 103 [vAo,Value.int .i64 rAg.2.at_,Value.int .u64 rAg.2.seed]::.row 134 4 v50 n51 cs52::.box b36 26 [Value.int .i64 rAg.1.vars,vAm]::.box b21 26 [Value.int .i64 0,Value.slice none 0 0]::L)) (v:=Value.agg #[Value.int .i64 rAg.1.vars,vAm]) (c:=[Value.int .i64 rAg.1.vars,vAm]) rfl Tryz.sizeOf26 rfl rfl (zab rfl (zab hAn.one zae)) (Nat.le_of_ble_eq_true rfl) rfl rfl
   refine FL.act rfl rfl (E.store rfl rfl runAr) ?_
   obtain ⟨HAt,SAu,iAv,atAw⟩:=SAs.sealBox (i:=2) (l':=(.box b0 103 [vAo,Value.int .i64 rAg.2.at_,Value.int .u64 rAg.2.seed]::.row 134 4 v50 n51 cs52::.box b21 26 [Value.int .i64 0,Value.slice none 0 0]::L)) rfl rfl
   refine FL.nil (FW.region ?_)
   refine FL.v (E.move (v:=Value.pointer (some (⟨b0,0,none⟩:Addr))) rfl) ?_
   refine FL.v (E.load rfl (zal Tryz.isAgg26 Tryz.sizeOf26 (atAw.now SAu.sl) rfl)) ?_
   obtain ⟨rAx,hrAy,hp⟩:=bnd hp
   refine FL.call rfl rfl rfl (E.call Tryz.call96 (A2 rfl rfl)) (zeG (L:=(.row 134 4 v50 n51 cs52::.box b21 26 [Value.int .i64 0,Value.slice none 0 0]::L)) SAu (a0:=rAg.2) (hAp.mono iAv) rAg.1 vAm (hAn.mono (upI.tr iAv)) hrAy) ?_
   rintro e wAA ⟨HAz,vAD,nAE,csAF,vAI,rfl,⟨SAB,iAC⟩,elsAG,ndAH,hAJ⟩
   refine ⟨_,rfl,?_⟩
   have SAB:St H0 w0 HAz wAA (.row 134 4 vAD nAE csAF::.box b0 103 [vAI,Value.int .i64 rAx.2.at_,Value.int .u64 rAx.2.seed]::.row 134 4 v50 n51 cs52::.box b21 26 [Value.int .i64 0,Value.slice none 0 0]::L):=SAB
   refine FL.v (E.assign (v:=vAD) rfl) ?_
   refine FL.nil ?_
   obtain rfl:=Option.some.inj hp
   exact ⟨rfl,⟨_,_,_,_,_,_,_,(SAB.selT (a:=[.row 134 4 vAD nAE csAF,.box b0 103 [vAI,Value.int .i64 rAx.2.at_,Value.int .u64 rAx.2.seed],.row 134 4 v50 n51 cs52,.box b21 26 [Value.int .i64 0,Value.slice none 0 0]]) (l':=[.box b0 103 [vAI,Value.int .i64 rAx.2.at_,Value.int .u64 rAx.2.seed],.box b21 26 [Value.int .i64 0,Value.slice none 0 0],.row 134 4 vAD nAE csAF]) [1,3,0] (by decide) rfl),((iAl.tr iAv).tr iAC),hAJ,(hAn.mono (zaf (iAv.tr iAC))),(atAw.mono iAC),elsAG,ndAH,rfl,rfl,rfl,rfl⟩⟩
  ·
   refine FW.condF rfl cAf ?_
   refine FW.skip ?_
   obtain ⟨HAK,SAL,iAM,atAN⟩:=S62.sealBox (i:=2) (l':=(.box b0 103 [v64,Value.int .i64 r57.2.at_,Value.int .u64 r57.2.seed]::.row 134 4 v50 n51 cs52::.box b21 26 [Value.int .i64 0,Value.slice none 0 0]::L)) rfl rfl
   obtain rfl:=Option.some.inj hp
   exact ⟨rfl,⟨_,_,_,_,_,_,_,(SAL.selT (a:=[.box b0 103 [v64,Value.int .i64 r57.2.at_,Value.int .u64 r57.2.seed],.row 134 4 v50 n51 cs52,.box b21 26 [Value.int .i64 0,Value.slice none 0 0]]) (l':=[.box b0 103 [v64,Value.int .i64 r57.2.at_,Value.int .u64 r57.2.seed],.box b21 26 [Value.int .i64 0,Value.slice none 0 0],.row 134 4 v50 n51 cs52]) [0,2,1] (by decide) rfl),iAM,(h65.mono iAM),(h33.mono (zaf ((i49.tr i63).tr iAM))),atAN,(els53.mono (zaf (i63.tr iAM))),nd54,rfl,rfl,rfl,rfl⟩⟩
 ·
  rintro sA1 rfl fAS wAR ⟨HAO,vA4,qA6,vA8,vAa,nAb,csAc,SAP,iAQ,hA5,hA9,atA7,elsAd,ndAe,kAT,kAU,kAV,kAW⟩
  replace hp:=el_go hp
  refine FW.seq (FW.seq (FW.region ?_))
  refine FL.v (E.move kAW) ?_
  refine FL.v (E.lenO te61 rfl SAP (i:=2) rfl elsAd (by decide)) ?_
  refine FL.v (E.gtr rfl rfl) ?_
  refine FL.v (E.move (v:=Value.bool (decide (0 < (len sA1.2.2.2.2.2)))) rfl) ?_
  obtain ⟨t167,hqtB5,hp⟩:=bnd hp
  refine FL.cut 3 (fun f w=>∃ H:GH,∃ vB7:Value,St H0 w0 H w (.box b0 103 [vB7,Value.int .i64 t167.2.1,Value.int .u64 t167.2.2.1]::.box b21 26 [Value.int .i64 0,Value.slice none 0 0]::.row 134 4 vAa nAb csAc::L)∧Inc HAO H∧RSl H (eN .u8) 1 vB7 t167.1∧f 0=Value.pointer (some (⟨b0,0,none⟩:Addr))∧f 2=Value.pointer (some (⟨b21,0,none⟩:Addr))∧f 4=Value.pointer (some qA6)∧f 5=vAa∧f 25=Value.bool t167.2.2.2) ?_ ?_
  ·
   clear hp;have hp:=hqtB5;clear hqtB5
   rcases ifB hp with ⟨cB6,hp⟩|⟨cB6,hp⟩
   ·
    refine FL.val (zac rfl rfl rfl cB6) rfl rfl (E.move kAT) ?_
    obtain ⟨rB9,hrBa,hp⟩:=bnd hp
    refine FL.call (zac rfl rfl rfl cB6) rfl rfl (E.call Tryz.call68 (A2 rfl rfl)) (zbn (L:=(.box b21 26 [Value.int .i64 0,Value.slice none 0 0]::.row 134 4 vAa nAb csAc::L)) SAP (a0:=(l1Cur.mk sA1.1 sA1.2.1 sA1.2.2.1)) hA5 8 hrBa) ?_
    rintro e wBc ⟨HBb,vBf,rfl,⟨SBd,iBe⟩,hBg⟩
    refine ⟨_,rfl,?_⟩
    have SBd:St H0 w0 HBb wBc (.box b0 103 [vBf,Value.int .i64 rB9.2.at_,Value.int .u64 rB9.2.seed]::.box b21 26 [Value.int .i64 0,Value.slice none 0 0]::.row 134 4 vAa nAb csAc::L):=SBd
    refine FL.v (E.pickT rfl cB6 rfl) ?_
    obtain rfl:=Option.some.inj hp
    exact FL.nil ⟨rfl,⟨_,_,SBd,iBe,hBg,kAT,kAU,kAV,kAW,rfl⟩⟩
   ·
    refine FL.skip (wF_no rfl rfl rfl cB6) rfl ?_
    refine FL.skip (wF_no rfl rfl rfl cB6) rfl ?_
    refine FL.v (E.pickF rfl cB6 rfl) ?_
    obtain rfl:=Option.some.inj hp
    exact FL.nil ⟨rfl,⟨_,_,SAP,(Inc.rfl _),hA5,kAT,kAU,kAV,kAW,rfl⟩⟩
  clear hqtB5
  rintro fBl wBk ⟨HBh,vB7,SBi,iBj,hB8,kBm,kBn,kBo,kBp,kBq⟩
  refine FL.nil ?_
  obtain ⟨qEg,hq,hp⟩:=bndR hp
  refine FW.joinE (S:=((List zaa)×(List Int)×Int×Int)) (X:=Empty) (q:=qEg) (fun sEf f w=>∃ H:GH,∃ vEi:Value,∃ nEj:Nat,∃ csEk:List Value,∃ vEm:Value,St H0 w0 H w (.box b0 103 [vEm,Value.int .i64 sEf.2.2.1,Value.int .u64 sEf.2.2.2]::.box b21 26 [Value.int .i64 0,Value.slice none 0 0]::.rowo 134 4 vEi nEj csEk::L)∧Inc HBh H∧Els (up w0.heap.size H) zah 4 csEk sEf.1∧RSl H (eN .u8) 1 vEm sEf.2.1∧f 0=Value.pointer (some (⟨b0,0,none⟩:Addr))∧f 2=Value.pointer (some (⟨b21,0,none⟩:Addr))∧f 4=Value.pointer (some qA6)∧f 5=vEi) (fun (_:Empty) _ _ _=>False) ?_ ?_ ?_
  ·
   clear hp;have hp:=hq;clear hq
   rcases ifB hp with ⟨cEo,hp⟩|⟨cEo,hp⟩
   ·
    refine FW.condT kBq cEo ?_
    refine FW.seq (FW.region ?_)
    refine FL.v (E.move kBm) ?_
    refine FL.v (E.move kBp) ?_
    refine FL.v (E.lenO te61 rfl SBi (i:=2) rfl elsAd (by decide)) ?_
    obtain ⟨rEp,hrEq,hp⟩:=bnd hp
    refine FL.call rfl rfl rfl (E.call Tryz.call78 (A2 rfl rfl)) (za5 (L:=(.box b21 26 [Value.int .i64 0,Value.slice none 0 0]::.row 134 4 vAa nAb csAc::L)) SBi (a0:=(l1Cur.mk t167.1 t167.2.1 t167.2.2.1)) hB8 (len sA1.2.2.2.2.2) hrEq) ?_
    rintro e wEs ⟨HEr,vEv,rfl,⟨SEt,iEu⟩,hEw⟩
    refine ⟨_,rfl,?_⟩
    have SEt:St H0 w0 HEr wEs (.box b0 103 [vEv,Value.int .i64 rEp.2.at_,Value.int .u64 rEp.2.seed]::.box b21 26 [Value.int .i64 0,Value.slice none 0 0]::.row 134 4 vAa nAb csAc::L):=SEt
    refine FL.v (E.assign (v:=Value.int .i64 rEp.1) rfl) ?_
    refine FL.nil (FW.seq (FW.region ?_))
    refine FL.v (E.move kBm) ?_
    obtain ⟨rEx,hrEy,hp⟩:=bnd hp
    refine FL.call rfl rfl rfl (E.call Tryz.call78 (A2 rfl rfl)) (za5 (L:=(.box b21 26 [Value.int .i64 0,Value.slice none 0 0]::.row 134 4 vAa nAb csAc::L)) SEt (a0:=rEp.2) hEw 5 hrEy) ?_
    rintro e wEA ⟨HEz,vED,rfl,⟨SEB,iEC⟩,hEE⟩
    refine ⟨_,rfl,?_⟩
    have SEB:St H0 w0 HEz wEA (.box b0 103 [vED,Value.int .i64 rEx.2.at_,Value.int .u64 rEx.2.seed]::.box b21 26 [Value.int .i64 0,Value.slice none 0 0]::.row 134 4 vAa nAb csAc::L):=SEB
    refine FL.nil (FW.block (FW.seq (FW.region ?_)))
    refine FL.v (E.eql rfl rfl) ?_
    refine FL.v (E.assign (v:=Value.bool (rEx.1 == 0)) rfl) ?_
    refine FL.nil ?_
    rcases ifB hp with ⟨cEF,hp⟩|⟨cEF,hp⟩
    ·
     refine FW.condT rfl cEF ?_
     refine FW.region ?_
     refine FL.v (E.move kBp) ?_
     refine FL.v (E.move (v:=Value.int .i64 rEp.1) rfl) ?_
     refine FL.v (E.move kBm) ?_
     refine FL.v (E.fieldAddr zaC kBo) ?_
     refine FL.v (E.load rfl (zag Tryz.isAgg3 ((atA7.mono ((iBj.tr iEu).tr iEC)).now SEB.sl) rfl)) ?_
     obtain ⟨rEG,hrEH,hp⟩:=bnd hp
     refine FL.call rfl rfl rfl (E.call Tryz.call167 (A2 rfl rfl)) (zem (L:=(.box b21 26 [Value.int .i64 0,Value.slice none 0 0]::.row 134 4 vAa nAb csAc::L)) SEB (a0:=rEx.2) hEE sA1.2.2.2.1 hrEH) ?_
     rintro e wEJ ⟨HEI,vEM,nEN,csEO,vEQ,rfl,⟨SEK,iEL⟩,elsEP,hER⟩
     refine ⟨_,rfl,?_⟩
     have SEK:St H0 w0 HEI wEJ (.row 3 1 vEM nEN csEO::.box b0 103 [vEQ,Value.int .i64 rEG.2.at_,Value.int .u64 rEG.2.seed]::.box b21 26 [Value.int .i64 0,Value.slice none 0 0]::.row 134 4 vAa nAb csAc::L):=SEK
     obtain ⟨xEY,hxEZ,hp⟩:=bnd hp
     obtain ⟨pES,csET,ptEU,lEV,atEW,relEX⟩:=SEK.row_at (i:=3) rfl elsAd (by decide) hxEZ
     obtain ⟨vF0,rfl,hF1⟩:=zap relEX
     refine FL.v (E.indexAddr te61 rfl rfl ptEU) ?_
     refine FL.v (E.fieldAddr zav rfl) ?_
     obtain ⟨HF2,SF3,iF4,hF5,nvF6⟩:=SEK.sealRowU (i:=0) (l':=(.box b0 103 [vEQ,Value.int .i64 rEG.2.at_,Value.int .u64 rEG.2.seed]::.box b21 26 [Value.int .i64 0,Value.slice none 0 0]::.row 134 4 vAa nAb csAc::L)) rfl elsEP (by decide) rfl
     obtain ⟨xsFa,hputFb,hp⟩:=bnd hp
     obtain ⟨wF7,csFd,runF8,SF9,elsFc,ceFe⟩:=SF3.putPart (P:=Tryz.prog) (t:=52) (i:=2) rfl (elsAd.mono (zaf ((((iBj.tr iEu).tr iEC).tr iEL).tr iF4))) hputFb ptEU (cs:=[vF0,Value.int .i64 xEY.left,Value.int .i64 xEY.right,Value.int .i64 xEY.pivot]) rfl atEW (off:=0) (m:=1) Tryz.sizeOf52 (u:=vEM) (c:=[vEM]) hF5.cells rfl (by decide) (zab hF5.one zae) (c2:=[vEM,Value.int .i64 xEY.left,Value.int .i64 xEY.right,Value.int .i64 xEY.pivot]) rfl ⟨_,rfl,hF5⟩
     have SF9:St H0 w0 HF2 wF7 (.box b0 103 [vEQ,Value.int .i64 rEG.2.at_,Value.int .u64 rEG.2.seed]::.box b21 26 [Value.int .i64 0,Value.slice none 0 0]::.row 134 4 vAa nAb csFd::L):=SF9
     have ndFf:(bl csFd).Nodup:=by rw [ceFe];exact nd_put (Nat.le_add_right _ _) ndAe (by exact zaT vEM) (Els.dom (elsAd.mono (upI.tr (((iBj.tr iEu).tr iEC).tr iEL)))) (by exact nvF6)
     refine FL.act rfl rfl (E.store rfl rfl runF8) ?_
     refine FL.nil ?_
     obtain rfl:=Option.some.inj hp
     exact ⟨rfl,⟨_,_,_,_,_,(SF9.toQ 2 (l':=(.box b0 103 [vEQ,Value.int .i64 rEG.2.at_,Value.int .u64 rEG.2.seed]::.box b21 26 [Value.int .i64 0,Value.slice none 0 0]::.rowo 134 4 vAa nAb csFd::L))),(((iEu.tr iEC).tr iEL).tr iF4),elsFc,(hER.mono iF4),kBm,kBn,kBo,kBp⟩⟩
    ·
     refine FW.condF rfl cEF ?_
     refine FW.seq (FW.region ?_)
     refine FL.v (E.eql rfl rfl) ?_
     refine FL.v (E.assign (v:=Value.bool (rEx.1 == 1)) rfl) ?_
     refine FL.nil ?_
     rcases ifB hp with ⟨cFg,hp⟩|⟨cFg,hp⟩
     ·
      refine FW.condT rfl cFg ?_
      refine FW.region ?_
      refine FL.v (E.move kBp) ?_
      refine FL.v (E.move (v:=Value.int .i64 rEp.1) rfl) ?_
      refine FL.v (E.move kBm) ?_
      refine FL.v (E.move kBp) ?_
      refine FL.v (E.lenO te61 rfl SEB (i:=2) rfl elsAd (by decide)) ?_
      obtain ⟨vFh,wFi,runFj,SFk,elsFl⟩:=SEB.ints (P:=Tryz.prog) te52 (up w0.heap.size HEz) 5 [(-1),0,(-2),(len sA1.2.2.2.2.2),1099511627776]
      refine FL.v (E.buildSlice (B5 rfl rfl rfl rfl rfl) runFj) ?_
      obtain ⟨HFm,SFn,iFo,hFp,nvFq⟩:=SFk.sealRowU (i:=0) (l':=(.box b0 103 [vED,Value.int .i64 rEx.2.at_,Value.int .u64 rEx.2.seed]::.box b21 26 [Value.int .i64 0,Value.slice none 0 0]::.row 134 4 vAa nAb csAc::L)) rfl elsFl (by decide) rfl
      obtain ⟨rFr,hrFs,hp⟩:=bnd hp
      refine FL.call rfl rfl rfl (E.call Tryz.call104 (A2 rfl rfl)) (zbo (L:=(.box b21 26 [Value.int .i64 0,Value.slice none 0 0]::.row 134 4 vAa nAb csAc::L)) SFn (a0:=rEx.2) (hEE.mono iFo) vFh [(-1),0,(-2),(len sA1.2.2.2.2.2),1099511627776] (hFp.mono upI) hrFs) ?_
      rintro e wFu ⟨HFt,vFx,rfl,⟨SFv,iFw⟩,hFy⟩
      refine ⟨_,rfl,?_⟩
      have SFv:St H0 w0 HFt wFu (.box b0 103 [vFx,Value.int .i64 rFr.2.at_,Value.int .u64 rFr.2.seed]::.box b21 26 [Value.int .i64 0,Value.slice none 0 0]::.row 134 4 vAa nAb csAc::L):=SFv
      obtain ⟨xFF,hxFG,hp⟩:=bnd hp
      obtain ⟨pFz,csFA,ptFB,lFC,atFD,relFE⟩:=SFv.row_at (i:=2) rfl elsAd (by decide) hxFG
      obtain ⟨vFH,rfl,hFI⟩:=zap relFE
      refine FL.v (E.indexAddr te61 rfl rfl ptFB) ?_
      refine FL.v (E.fieldAddr zaN rfl) ?_
      obtain ⟨xsFM,hputFN,hp⟩:=bnd hp
      obtain ⟨wFJ,csFP,runFK,SFL,elsFO,ceFQ⟩:=SFv.putPart (P:=Tryz.prog) (t:=3) (i:=2) rfl (elsAd.mono (zaf ((((iBj.tr iEu).tr iEC).tr iFo).tr iFw))) hputFN ptFB (cs:=[vFH,Value.int .i64 xFF.left,Value.int .i64 xFF.right,Value.int .i64 xFF.pivot]) rfl atFD (off:=1) (m:=1) Tryz.sizeOf3 (u:=Value.int .i64 rFr.1) (c:=[Value.int .i64 rFr.1]) rfl rfl (by decide) (zab rfl zae) (c2:=[vFH,Value.int .i64 rFr.1,Value.int .i64 xFF.right,Value.int .i64 xFF.pivot]) rfl ⟨_,rfl,(hFI.mono (zaf ((((iBj.tr iEu).tr iEC).tr iFo).tr iFw)))⟩
      have SFL:St H0 w0 HFt wFJ (.box b0 103 [vFx,Value.int .i64 rFr.2.at_,Value.int .u64 rFr.2.seed]::.box b21 26 [Value.int .i64 0,Value.slice none 0 0]::.row 134 4 vAa nAb csFP::L):=SFL
      refine FL.act rfl rfl (E.store rfl rfl runFK) ?_
      refine FL.nil ?_
      obtain rfl:=Option.some.inj hp
      exact ⟨rfl,⟨_,_,_,_,_,(SFL.toQ 2 (l':=(.box b0 103 [vFx,Value.int .i64 rFr.2.at_,Value.int .u64 rFr.2.seed]::.box b21 26 [Value.int .i64 0,Value.slice none 0 0]::.rowo 134 4 vAa nAb csFP::L))),(((iEu.tr iEC).tr iFo).tr iFw),elsFO,hFy,kBm,kBn,kBo,kBp⟩⟩
     ·
      refine FW.condF rfl cFg ?_
      refine FW.seq (FW.region ?_)
      refine FL.v (E.eql rfl rfl) ?_
      refine FL.v (E.assign (v:=Value.bool (rEx.1 == 2)) rfl) ?_
      refine FL.nil ?_
      rcases ifB hp with ⟨cFR,hp⟩|⟨cFR,hp⟩
      ·
       refine FW.condT rfl cFR ?_
       refine FW.region ?_
       refine FL.v (E.move kBp) ?_
       refine FL.v (E.move (v:=Value.int .i64 rEp.1) rfl) ?_
       refine FL.v (E.move kBm) ?_
       obtain ⟨vFS,wFT,runFU,SFV,elsFW⟩:=SEB.ints (P:=Tryz.prog) te52 (up w0.heap.size HEz) 5 [(-1),0,(-2),60,1099511627776]
       refine FL.v (E.buildSlice (B5 rfl rfl rfl rfl rfl) runFU) ?_
       obtain ⟨HFX,SFY,iFZ,hG0,nvG1⟩:=SFV.sealRowU (i:=0) (l':=(.box b0 103 [vED,Value.int .i64 rEx.2.at_,Value.int .u64 rEx.2.seed]::.box b21 26 [Value.int .i64 0,Value.slice none 0 0]::.row 134 4 vAa nAb csAc::L)) rfl elsFW (by decide) rfl
       obtain ⟨rG2,hrG3,hp⟩:=bnd hp
       refine FL.call rfl rfl rfl (E.call Tryz.call104 (A2 rfl rfl)) (zbo (L:=(.box b21 26 [Value.int .i64 0,Value.slice none 0 0]::.row 134 4 vAa nAb csAc::L)) SFY (a0:=rEx.2) (hEE.mono iFZ) vFS [(-1),0,(-2),60,1099511627776] (hG0.mono upI) hrG3) ?_
       rintro e wG5 ⟨HG4,vG8,rfl,⟨SG6,iG7⟩,hG9⟩
       refine ⟨_,rfl,?_⟩
       have SG6:St H0 w0 HG4 wG5 (.box b0 103 [vG8,Value.int .i64 rG2.2.at_,Value.int .u64 rG2.2.seed]::.box b21 26 [Value.int .i64 0,Value.slice none 0 0]::.row 134 4 vAa nAb csAc::L):=SG6
       obtain ⟨xGg,hxGh,hp⟩:=bnd hp
       obtain ⟨pGa,csGb,ptGc,lGd,atGe,relGf⟩:=SG6.row_at (i:=2) rfl elsAd (by decide) hxGh
       obtain ⟨vGi,rfl,hGj⟩:=zap relGf
       refine FL.v (E.indexAddr te61 rfl rfl ptGc) ?_
       refine FL.v (E.fieldAddr zaO rfl) ?_
       obtain ⟨xsGn,hputGo,hp⟩:=bnd hp
       obtain ⟨wGk,csGq,runGl,SGm,elsGp,ceGr⟩:=SG6.putPart (P:=Tryz.prog) (t:=3) (i:=2) rfl (elsAd.mono (zaf ((((iBj.tr iEu).tr iEC).tr iFZ).tr iG7))) hputGo ptGc (cs:=[vGi,Value.int .i64 xGg.left,Value.int .i64 xGg.right,Value.int .i64 xGg.pivot]) rfl atGe (off:=2) (m:=1) Tryz.sizeOf3 (u:=Value.int .i64 rG2.1) (c:=[Value.int .i64 rG2.1]) rfl rfl (by decide) (zab rfl zae) (c2:=[vGi,Value.int .i64 xGg.left,Value.int .i64 rG2.1,Value.int .i64 xGg.pivot]) rfl ⟨_,rfl,(hGj.mono (zaf ((((iBj.tr iEu).tr iEC).tr iFZ).tr iG7)))⟩
       have SGm:St H0 w0 HG4 wGk (.box b0 103 [vG8,Value.int .i64 rG2.2.at_,Value.int .u64 rG2.2.seed]::.box b21 26 [Value.int .i64 0,Value.slice none 0 0]::.row 134 4 vAa nAb csGq::L):=SGm
       refine FL.act rfl rfl (E.store rfl rfl runGl) ?_
       refine FL.nil ?_
       obtain rfl:=Option.some.inj hp
       exact ⟨rfl,⟨_,_,_,_,_,(SGm.toQ 2 (l':=(.box b0 103 [vG8,Value.int .i64 rG2.2.at_,Value.int .u64 rG2.2.seed]::.box b21 26 [Value.int .i64 0,Value.slice none 0 0]::.rowo 134 4 vAa nAb csGq::L))),(((iEu.tr iEC).tr iFZ).tr iG7),elsGp,hG9,kBm,kBn,kBo,kBp⟩⟩
      ·
       refine FW.condF rfl cFR ?_
       refine FW.seq (FW.region ?_)
       refine FL.v (E.eql rfl rfl) ?_
       refine FL.v (E.assign (v:=Value.bool (rEx.1 == 3)) rfl) ?_
       refine FL.nil ?_
       rcases ifB hp with ⟨cGs,hp⟩|⟨cGs,hp⟩
       ·
        refine FW.condT rfl cGs ?_
        refine FW.region ?_
        refine FL.v (E.move kBp) ?_
        refine FL.v (E.move (v:=Value.int .i64 rEp.1) rfl) ?_
        refine FL.v (E.move kBm) ?_
        obtain ⟨vGt,wGu,runGv,SGw,elsGx⟩:=SEB.ints (P:=Tryz.prog) te52 (up w0.heap.size HEz) 5 [0,1,2,(-1),13]
        refine FL.v (E.buildSlice (B5 rfl rfl rfl rfl rfl) runGv) ?_
        obtain ⟨HGy,SGz,iGA,hGB,nvGC⟩:=SGw.sealRowU (i:=0) (l':=(.box b0 103 [vED,Value.int .i64 rEx.2.at_,Value.int .u64 rEx.2.seed]::.box b21 26 [Value.int .i64 0,Value.slice none 0 0]::.row 134 4 vAa nAb csAc::L)) rfl elsGx (by decide) rfl
        obtain ⟨rGD,hrGE,hp⟩:=bnd hp
        refine FL.call rfl rfl rfl (E.call Tryz.call104 (A2 rfl rfl)) (zbo (L:=(.box b21 26 [Value.int .i64 0,Value.slice none 0 0]::.row 134 4 vAa nAb csAc::L)) SGz (a0:=rEx.2) (hEE.mono iGA) vGt [0,1,2,(-1),13] (hGB.mono upI) hrGE) ?_
        rintro e wGG ⟨HGF,vGJ,rfl,⟨SGH,iGI⟩,hGK⟩
        refine ⟨_,rfl,?_⟩
        have SGH:St H0 w0 HGF wGG (.box b0 103 [vGJ,Value.int .i64 rGD.2.at_,Value.int .u64 rGD.2.seed]::.box b21 26 [Value.int .i64 0,Value.slice none 0 0]::.row 134 4 vAa nAb csAc::L):=SGH
        obtain ⟨xGR,hxGS,hp⟩:=bnd hp
        obtain ⟨pGL,csGM,ptGN,lGO,atGP,relGQ⟩:=SGH.row_at (i:=2) rfl elsAd (by decide) hxGS
        obtain ⟨vGT,rfl,hGU⟩:=zap relGQ
        refine FL.v (E.indexAddr te61 rfl rfl ptGN) ?_
        refine FL.v (E.fieldAddr zbi rfl) ?_
        obtain ⟨xsGY,hputGZ,hp⟩:=bnd hp
        obtain ⟨wGV,csH1,runGW,SGX,elsH0,ceH2⟩:=SGH.putPart (P:=Tryz.prog) (t:=3) (i:=2) rfl (elsAd.mono (zaf ((((iBj.tr iEu).tr iEC).tr iGA).tr iGI))) hputGZ ptGN (cs:=[vGT,Value.int .i64 xGR.left,Value.int .i64 xGR.right,Value.int .i64 xGR.pivot]) rfl atGP (off:=3) (m:=1) Tryz.sizeOf3 (u:=Value.int .i64 rGD.1) (c:=[Value.int .i64 rGD.1]) rfl rfl (by decide) (zab rfl zae) (c2:=[vGT,Value.int .i64 xGR.left,Value.int .i64 xGR.right,Value.int .i64 rGD.1]) rfl ⟨_,rfl,(hGU.mono (zaf ((((iBj.tr iEu).tr iEC).tr iGA).tr iGI)))⟩
        have SGX:St H0 w0 HGF wGV (.box b0 103 [vGJ,Value.int .i64 rGD.2.at_,Value.int .u64 rGD.2.seed]::.box b21 26 [Value.int .i64 0,Value.slice none 0 0]::.row 134 4 vAa nAb csH1::L):=SGX
        refine FL.act rfl rfl (E.store rfl rfl runGW) ?_
        refine FL.nil ?_
        obtain rfl:=Option.some.inj hp
        exact ⟨rfl,⟨_,_,_,_,_,(SGX.toQ 2 (l':=(.box b0 103 [vGJ,Value.int .i64 rGD.2.at_,Value.int .u64 rGD.2.seed]::.box b21 26 [Value.int .i64 0,Value.slice none 0 0]::.rowo 134 4 vAa nAb csH1::L))),(((iEu.tr iEC).tr iGA).tr iGI),elsH0,hGK,kBm,kBn,kBo,kBp⟩⟩
       ·
        refine FW.condF rfl cGs ?_
        refine FW.seq (FW.region ?_)
        refine FL.v (E.eql rfl rfl) ?_
        refine FL.v (E.assign (v:=Value.bool (rEx.1 == 4)) rfl) ?_
        refine FL.nil ?_
        rcases ifB hp with ⟨cH3,hp⟩|⟨cH3,hp⟩
        ·
         refine FW.condT rfl cH3 ?_
         refine FW.region ?_
         refine FL.v (E.move kBp) ?_
         obtain ⟨xsH4,hcH5,hp⟩:=bnd hp
         obtain ⟨vH6,nH7,csH8,runH9,SHa,elsHb⟩:=(SEB.toQ 2).cutTailQ te61 (kk:=.i64) (i:=2) rfl elsAd hcH5
         have SHa:St H0 w0 HEz wEA (.box b0 103 [vED,Value.int .i64 rEx.2.at_,Value.int .u64 rEx.2.seed]::.box b21 26 [Value.int .i64 0,Value.slice none 0 0]::.rowo 134 4 vH6 nH7 csH8::L):=SHa
         refine FL.v (E.slice te61 rfl (congrArg some rfl) rfl rfl (runH9 _)) ?_
         refine FL.v (E.assign (v:=vH6) rfl) ?_
         refine FL.nil ?_
         obtain rfl:=Option.some.inj hp
         exact ⟨rfl,⟨_,_,_,_,_,SHa,(iEu.tr iEC),(elsHb.mono (zaf ((iBj.tr iEu).tr iEC))),hEE,kBm,kBn,kBo,rfl⟩⟩
        ·
         refine FW.condF rfl cH3 ?_
         refine FW.skip ?_
         obtain rfl:=Option.some.inj hp
         exact ⟨rfl,⟨_,_,_,_,_,(SEB.toQ 2 (l':=(.box b0 103 [vED,Value.int .i64 rEx.2.at_,Value.int .u64 rEx.2.seed]::.box b21 26 [Value.int .i64 0,Value.slice none 0 0]::.rowo 134 4 vAa nAb csAc::L))),(iEu.tr iEC),(elsAd.mono (zaf ((iBj.tr iEu).tr iEC))),hEE,kBm,kBn,kBo,kBp⟩⟩
   ·
    refine FW.condF kBq cEo ?_
    refine FW.skip ?_
    obtain rfl:=Option.some.inj hp
    exact ⟨rfl,⟨_,_,_,_,_,(SBi.toQ 2 (l':=(.box b0 103 [vB7,Value.int .i64 t167.2.1,Value.int .u64 t167.2.2.1]::.box b21 26 [Value.int .i64 0,Value.slice none 0 0]::.rowo 134 4 vAa nAb csAc::L))),(Inc.rfl _),(elsAd.mono (zaf iBj)),hB8,kBm,kBn,kBo,kBp⟩⟩
  ·
   rintro sEf rfl fHg wHf ⟨HHc,vEi,nEj,csEk,vEm,SHd,iHe,elsEl,hEn,kHh,kHi,kHj,kHk⟩
   replace hp:=el_go hp
   refine FW.seq (FW.seq (FW.region ?_))
   refine FL.v (E.move kHh) ?_
   obtain ⟨rHl,hrHm,hp⟩:=bnd hp
   refine FL.call rfl rfl rfl (E.call Tryz.call68 (A2 rfl rfl)) (zbn (L:=(.box b21 26 [Value.int .i64 0,Value.slice none 0 0]::.rowo 134 4 vEi nEj csEk::L)) SHd (a0:=(l1Cur.mk sEf.2.1 sEf.2.2.1 sEf.2.2.2)) hEn 48 hrHm) ?_
   rintro e wHo ⟨HHn,vHr,rfl,⟨SHp,iHq⟩,hHs⟩
   refine ⟨_,rfl,?_⟩
   have SHp:St H0 w0 HHn wHo (.box b0 103 [vHr,Value.int .i64 rHl.2.at_,Value.int .u64 rHl.2.seed]::.box b21 26 [Value.int .i64 0,Value.slice none 0 0]::.rowo 134 4 vEi nEj csEk::L):=SHp
   refine FL.v (E.move (v:=Value.bool rHl.1) rfl) ?_
   refine FL.cut 4 (fun f w=>∃ H:GH,St H0 w0 H w (.box b0 103 [vHr,Value.int .i64 rHl.2.at_,Value.int .u64 rHl.2.seed]::.box b21 26 [Value.int .i64 0,Value.slice none 0 0]::.rowo 134 4 vEi nEj csEk::L)∧Inc HHn H∧f 0=Value.pointer (some (⟨b0,0,none⟩:Addr))∧f 2=Value.pointer (some (⟨b21,0,none⟩:Addr))∧f 4=Value.pointer (some qA6)∧f 5=vEi∧f 81=Value.bool (bif rHl.1 then (decide (0 < (len sEf.1))) else false)) ?_ ?_
   ·
    rcases bcase rHl.1 with cHz|cHz
    ·
     refine FL.val (zac rfl rfl rfl cHz) rfl rfl (E.move kHk) ?_
     refine FL.val (zac rfl rfl rfl cHz) rfl rfl (E.lenQ te61 rfl SHp (i:=2) rfl elsEl (by decide)) ?_
     refine FL.val (zac rfl rfl rfl cHz) rfl rfl (E.gtr rfl rfl) ?_
     refine FL.v (E.pickT rfl cHz rfl) ?_
     exact FL.nil ⟨rfl,_,SHp,(Inc.rfl _),kHh,kHi,kHj,kHk,(congrArg Value.bool (bifT cHz).symm)⟩
    ·
     refine FL.skip (wF_no rfl rfl rfl cHz) rfl ?_
     refine FL.skip (wF_no rfl rfl rfl cHz) rfl ?_
     refine FL.skip (wF_no rfl rfl rfl cHz) rfl ?_
     refine FL.v (E.pickF rfl cHz rfl) ?_
     exact FL.nil ⟨rfl,_,SHp,(Inc.rfl _),kHh,kHi,kHj,kHk,(congrArg Value.bool (bifF cHz).symm)⟩
   rintro fHy wHx ⟨HHu,SHv,iHw,kHA,kHB,kHC,kHD,kHE⟩
   refine FL.nil ?_
   rcases ifB hp with ⟨cHF,hp⟩|⟨cHF,hp⟩
   ·
    refine FW.condT kHE cHF ?_
    obtain ⟨qHG,hq,hp⟩:=bndR hp
    refine FW.block ?_
    refine FW.mono (FW.iter (S:=((List zaa)×(List Int)×Int×Int)) (X:=Empty) (fun (sHG:((List zaa)×(List Int)×Int×Int)) f w=>∃ H:GH,∃ vIt:Value,∃ nIu:Nat,∃ csIv:List Value,∃ vIx:Value,St H0 w0 H w (.box b0 103 [vIx,Value.int .i64 sHG.2.2.1,Value.int .u64 sHG.2.2.2]::.box b21 26 [Value.int .i64 0,Value.slice none 0 0]::.rowo 134 4 vIt nIu csIv::L)∧Inc HHu H∧Els (up w0.heap.size H) zah 4 csIv sHG.1∧RSl H (eN .u8) 1 vIx sHG.2.1∧f 0=Value.pointer (some (⟨b0,0,none⟩:Addr))∧f 2=Value.pointer (some (⟨b21,0,none⟩:Addr))∧f 4=Value.pointer (some qA6)∧f 5=vIt) (fun (q:Rs ((List zaa)×(List Int)×Int×Int) Empty) e f w=>match q with|.go sHG=>e=Exit.exit 1∧(∃ H:GH,∃ vIt:Value,∃ nIu:Nat,∃ csIv:List Value,∃ vIx:Value,St H0 w0 H w (.box b0 103 [vIx,Value.int .i64 sHG.2.2.1,Value.int .u64 sHG.2.2.2]::.box b21 26 [Value.int .i64 0,Value.slice none 0 0]::.rowo 134 4 vIt nIu csIv::L)∧Inc HHu H∧Els (up w0.heap.size H) zah 4 csIv sHG.1∧RSl H (eN .u8) 1 vIx sHG.2.1∧f 2=Value.pointer (some (⟨b21,0,none⟩:Addr))∧f 4=Value.pointer (some qA6)∧f 5=vIt)|.rt x=>x.elim) hq ⟨_,_,_,_,_,SHv,(Inc.rfl _),(elsEl.mono (zaf (iHq.tr iHw))),(hHs.mono iHw),kHA,kHB,kHC,kHD⟩ ?_) ?_
    ·
     clear hp hq
     rintro sHG fJl wJk ⟨HJh,vIt,nIu,csIv,vIx,SJi,iJj,elsIw,hIy,kJm,kJn,kJo,kJp⟩ oJZ hp
     refine FW.seq (FW.seq (FW.region ?_))
     refine FL.v (E.move kJp) ?_
     refine FL.v (E.lenQ te61 rfl SJi (i:=2) rfl elsIw (by decide)) ?_
     refine FL.v (E.move kJm) ?_
     obtain ⟨rJq,hrJr,hp⟩:=bnd hp
     refine FL.call rfl rfl rfl (E.call Tryz.call78 (A2 rfl rfl)) (za5 (L:=(.box b21 26 [Value.int .i64 0,Value.slice none 0 0]::.rowo 134 4 vIt nIu csIv::L)) SJi (a0:=(l1Cur.mk sHG.2.1 sHG.2.2.1 sHG.2.2.2)) hIy 2 hrJr) ?_
     rintro e wJt ⟨HJs,vJw,rfl,⟨SJu,iJv⟩,hJx⟩
     refine ⟨_,rfl,?_⟩
     have SJu:St H0 w0 HJs wJt (.box b0 103 [vJw,Value.int .i64 rJq.2.at_,Value.int .u64 rJq.2.seed]::.box b21 26 [Value.int .i64 0,Value.slice none 0 0]::.rowo 134 4 vIt nIu csIv::L):=SJu
     refine FL.v (E.add rfl rfl) ?_
     refine FL.v (E.lss rfl rfl) ?_
     refine FL.nil ?_
     rcases ifB hp with ⟨cJy,hp⟩|⟨cJy,hp⟩
     ·
      refine FW.condT rfl cJy ?_
      refine FW.skip (FW.block (FW.region ?_))
      refine FL.v (E.move kJp) ?_
      refine FL.v (E.move kJp) ?_
      obtain ⟨xJF,hxJG,hp⟩:=bnd hp
      obtain ⟨pJz,csJA,ptJB,lJC,atJD,relJE⟩:=SJu.rowQ_at (i:=2) rfl elsIw (by decide) hxJG
      obtain ⟨vJH,rfl,hJI⟩:=zap relJE
      refine FL.v (E.indexAddr te61 rfl rfl ptJB) ?_
      refine FL.v (E.load rfl (zal Tryz.isAgg134 Tryz.sizeOf134 atJD rfl)) ?_
      obtain ⟨vJJ,wJK,runJL,SJM⟩:=SJu.buildSlice (P:=Tryz.prog) te61 [Value.agg #[vJH,Value.int .i64 xJF.left,Value.int .i64 xJF.right,Value.int .i64 xJF.pivot]] (parts:=#[(0,Value.agg #[vJH,Value.int .i64 xJF.left,Value.int .i64 xJF.right,Value.int .i64 xJF.pivot])]) (cells:=[vJH,Value.int .i64 xJF.left,Value.int .i64 xJF.right,Value.int .i64 xJF.pivot]) rfl (zas rfl zan) (zar rfl zam) (zab hJI.one (zab rfl (zab rfl (zab rfl zae)))) (Nat.le_of_ble_eq_true rfl)
      have elsJN:Els (up w0.heap.size HJs) zah 4 [vJH,Value.int .i64 xJF.left,Value.int .i64 xJF.right,Value.int .i64 xJF.pivot] [xJF]:=(Els.snoc (H:=(up w0.heap.size HJs)) (E:=zah) (k:=4) (c:=[vJH,Value.int .i64 xJF.left,Value.int .i64 xJF.right,Value.int .i64 xJF.pivot]) (x:=xJF) Els.nil rfl ⟨_,rfl,(hJI.mono (zaf iJv))⟩)
      refine FL.v (E.buildSlice (B1 rfl) runJL) ?_
      obtain ⟨xsJO,hzJP,hp⟩:=bnd hp
      obtain ⟨vJQ,wJT,nJR,csJS,runJU,SJV,elsJW,ceJX⟩:=SJM.appendQ (P:=Tryz.prog) te61 (i:=3) (j:=0) rfl (elsIw.mono (zaf iJv)) rfl elsJN hzJP
      have SJV:St H0 w0 HJs wJT (.row 134 4 vJJ 1 [vJH,Value.int .i64 xJF.left,Value.int .i64 xJF.right,Value.int .i64 xJF.pivot]::.box b0 103 [vJw,Value.int .i64 rJq.2.at_,Value.int .u64 rJq.2.seed]::.box b21 26 [Value.int .i64 0,Value.slice none 0 0]::.rowo 134 4 vJQ nJR csJS::L):=SJV
      have SJY:St H0 w0 HJs wJT (.box b0 103 [vJw,Value.int .i64 rJq.2.at_,Value.int .u64 rJq.2.seed]::.box b21 26 [Value.int .i64 0,Value.slice none 0 0]::.rowo 134 4 vJQ nJR csJS::L):=SJV.drop 0
      refine FL.v (E.append rfl rfl runJU) ?_
      refine FL.v (E.assign (v:=vJQ) rfl) ?_
      refine FL.nil ?_
      obtain rfl:=Option.some.inj hp
      exact ⟨rfl,⟨_,_,_,_,_,SJY,(iJj.tr iJv),elsJW,hJx,kJm,kJn,kJo,rfl⟩⟩
     ·
      refine FW.condF rfl cJy ?_
      refine FW.exit ?_
      obtain rfl:=Option.some.inj hp
      exact ⟨nofun,rfl,⟨_,_,_,_,_,SJu,(iJj.tr iJv),(elsIw.mono (zaf iJv)),hJx,kJn,kJo,kJp⟩⟩
    ·
     clear hq
     intro e fK4 wK3 hD
     rcases qHG with sHG|xHG
     ·
      obtain ⟨rfl,hD⟩:=hD
      obtain ⟨HK0,vIt,nIu,csIv,vIx,SK1,iK2,elsIw,hIy,kK5,kK6,kK7⟩:=hD
      replace hp:=el_go hp
      refine FW.seq (FW.region ?_)
      refine FL.v (E.load kK6 (zal Tryz.isAgg26 Tryz.sizeOf26 ((atA7.mono ((((iBj.tr iHe).tr iHq).tr iHw).tr iK2)).now SK1.sl) rfl)) ?_
      refine FL.v (E.move kK7) ?_
      obtain ⟨wK8,runK9,SKa⟩:=SK1.store0 (P:=Tryz.prog) (t:=26) (i:=1) (cs':=[Value.int .i64 sA1.2.2.2.1,vA8]) (l':=(.box b0 103 [vIx,Value.int .i64 sHG.2.2.1,Value.int .u64 sHG.2.2.2]::.box b21 26 [Value.int .i64 sA1.2.2.2.1,vA8]::.rowo 134 4 vIt nIu csIv::L)) (v:=Value.agg #[Value.int .i64 sA1.2.2.2.1,vA8]) (c:=[Value.int .i64 sA1.2.2.2.1,vA8]) rfl Tryz.sizeOf26 rfl rfl (zab rfl (zab hA9.one zae)) (Nat.le_of_ble_eq_true rfl) rfl rfl
      refine FL.act rfl rfl (E.store kK5 rfl runK9) ?_
      obtain ⟨HKb,SKc,iKd,atKe⟩:=SKa.sealBox (i:=1) (l':=(.box b0 103 [vIx,Value.int .i64 sHG.2.2.1,Value.int .u64 sHG.2.2.2]::.rowo 134 4 vIt nIu csIv::L)) rfl rfl
      refine FL.v (E.assign (v:=vIt) rfl) ?_
      refine FL.nil ?_
      refine FW.ret ?_
      obtain ⟨HKf,SKg,iKh,hKi,nvKj⟩:=SKc.sealRowUQ (i:=1) (l':=(.box b0 103 [vIx,Value.int .i64 sHG.2.2.1,Value.int .u64 sHG.2.2.2]::L)) rfl (elsIw.mono (zaf iKd)) (by decide) rfl
      obtain rfl:=Option.some.inj hp
      exact ⟨.inr rfl,resC2 rfl kK5 (zaA Tryz.isAgg26 Tryz.sizeOf26 ((atKe.mono iKh).now SKg.sl) rfl) rfl ⟨_,_,_,_,rfl,⟨SKg,((((((((((i31.tr i49).tr i63).tr iAQ).tr iBj).tr iHe).tr iHq).tr iHw).tr iK2).tr iKd).tr iKh)⟩,(hA9.mono (zaf ((((((iBj.tr iHe).tr iHq).tr iHw).tr iK2).tr iKd).tr iKh))),hKi,(hIy.mono (iKd.tr iKh))⟩⟩
     ·
      exact xHG.elim
   ·
    refine FW.condF kHE cHF ?_
    refine FW.skip (FW.seq (FW.region ?_))
    refine FL.v (E.load kHC (zal Tryz.isAgg26 Tryz.sizeOf26 ((atA7.mono (((iBj.tr iHe).tr iHq).tr iHw)).now SHv.sl) rfl)) ?_
    refine FL.v (E.move kHD) ?_
    obtain ⟨wKk,runKl,SKm⟩:=SHv.store0 (P:=Tryz.prog) (t:=26) (i:=1) (cs':=[Value.int .i64 sA1.2.2.2.1,vA8]) (l':=(.box b0 103 [vHr,Value.int .i64 rHl.2.at_,Value.int .u64 rHl.2.seed]::.box b21 26 [Value.int .i64 sA1.2.2.2.1,vA8]::.rowo 134 4 vEi nEj csEk::L)) (v:=Value.agg #[Value.int .i64 sA1.2.2.2.1,vA8]) (c:=[Value.int .i64 sA1.2.2.2.1,vA8]) rfl Tryz.sizeOf26 rfl rfl (zab rfl (zab hA9.one zae)) (Nat.le_of_ble_eq_true rfl) rfl rfl
    refine FL.act rfl rfl (E.store kHB rfl runKl) ?_
    obtain ⟨HKn,SKo,iKp,atKq⟩:=SKm.sealBox (i:=1) (l':=(.box b0 103 [vHr,Value.int .i64 rHl.2.at_,Value.int .u64 rHl.2.seed]::.rowo 134 4 vEi nEj csEk::L)) rfl rfl
    refine FL.v (E.assign (v:=vEi) rfl) ?_
    refine FL.nil ?_
    refine FW.ret ?_
    obtain ⟨HKr,SKs,iKt,hKu,nvKv⟩:=SKo.sealRowUQ (i:=1) (l':=(.box b0 103 [vHr,Value.int .i64 rHl.2.at_,Value.int .u64 rHl.2.seed]::L)) rfl (elsEl.mono (zaf ((iHq.tr iHw).tr iKp))) (by decide) rfl
    obtain rfl:=Option.some.inj hp
    exact ⟨.inr rfl,resC2 rfl kHB (zaA Tryz.isAgg26 Tryz.sizeOf26 ((atKq.mono iKt).now SKs.sl) rfl) rfl ⟨_,_,_,_,rfl,⟨SKs,(((((((((i31.tr i49).tr i63).tr iAQ).tr iBj).tr iHe).tr iHq).tr iHw).tr iKp).tr iKt)⟩,(hA9.mono (zaf (((((iBj.tr iHe).tr iHq).tr iHw).tr iKp).tr iKt))),hKu,(hHs.mono ((iHw.tr iKp).tr iKt))⟩⟩
  ·
   intro xEh;exact xEh.elim
 ·
  intro xA3;exact xA3.elim

theorem w_spec_l7Asked {Ha:GH} {wa:World} (hs:Sl Ha wa) (a0:Cnf) (v0_1:Value) (p0_1:RSl Ha (eL eI 1) 1 v0_1 a0.clauses) (v1:Value) (a1:List zaa) (p1:RSl Ha zah 4 v1 a1) {r:Bool} (hp:(PF.zdr a0 a1)=some r) :
  Calls Tryz.prog 171 #[Value.agg #[Value.int .i64 a0.vars,v0_1],v1] wa (Sc Ha wa (Value.bool r)):=by
 unfold PF.zdr at hp
 have S0:=St.init hs
 refine zaj (N:=12) (args:=[Value.agg #[Value.int .i64 a0.vars,v0_1],v1]) Tryz.func171 rfl rfl rfl ?_
 refine FW.seq (FW.region ?_)
 obtain ⟨b21,w22,run23,S24⟩:=S0.box (P:=Tryz.prog) 26 [Value.int .i64 a0.vars,v0_1] (v:=Value.agg #[Value.int .i64 a0.vars,v0_1]) rfl (zab rfl (zab p0_1.one zae))
 refine FL.v (E.box rfl run23) ?_
 obtain ⟨H25,S26,i27,at28⟩:=S24.sealBox (i:=0) (l':=[]) rfl rfl
 refine FL.v (E.assign (v:=Value.bool false) rfl) ?_
 refine FL.nil (FW.seq (FW.region ?_))
 refine FL.v (E.move (v:=v1) rfl) ?_
 refine FL.v (E.lenP te61 rfl p1) ?_
 refine FL.v (E.leq rfl rfl) ?_
 refine FL.v (E.move (v:=Value.bool (decide ((len a1)≤200))) rfl) ?_
 obtain ⟨t34,hqt34,hp⟩:=bnd hp
 refine FL.cut 3 (fun f w=>∃ H:GH,St Ha wa H w []∧Inc H25 H∧f 11=Value.bool t34) ?_ ?_
 ·
  clear hp;have hp:=hqt34;clear hqt34
  rcases ifB hp with ⟨c40,hp⟩|⟨c40,hp⟩
  ·
   refine FL.val (zac rfl rfl rfl c40) rfl rfl (E.load rfl (zal Tryz.isAgg26 Tryz.sizeOf26 (at28.now S26.sl) rfl)) ?_
   obtain ⟨r41,hr42,hp⟩:=bnd hp
   refine FL.call (zac rfl rfl rfl c40) rfl rfl (E.call Tryz.call127 (A1 rfl)) (zdz S26.sl a0 v0_1 (p0_1.mono i27) hr42) ?_
   rintro e w43 ⟨rfl,r44⟩
   refine ⟨_,rfl,?_⟩
   have S45:=S26.call r44
   obtain rfl:=Option.some.inj hp
   refine FL.v (E.pickT rfl c40 rfl) ?_
   exact FL.nil ⟨rfl,_,S45,(Inc.rfl _),rfl⟩
  ·
   refine FL.skip (wF_no rfl rfl rfl c40) rfl ?_
   refine FL.skip (wF_no rfl rfl rfl c40) rfl ?_
   obtain rfl:=Option.some.inj hp
   refine FL.v (E.pickF rfl c40 rfl) ?_
   exact FL.nil ⟨rfl,_,S26,(Inc.rfl _),rfl⟩
 rintro f39 w38 ⟨H35,S36,i37,k46⟩
 refine FL.v (E.assign k46) ?_
 refine FL.nil ?_
 refine FW.ret ?_
 obtain rfl:=Option.some.inj hp
 exact ⟨.inr rfl,res1 rfl rfl ⟨rfl,S36.back⟩⟩

set_option maxHeartbeats 4000000 in
theorem w_spec_l1Same {Ha:GH} {wa:World} (hs:Sl Ha wa) (v0:Value) (a0:List Int) (p0:RSl Ha eI 1 v0 a0) (v1:Value) (a1:List Int) (p1:RSl Ha eI 1 v1 a1) {r:Bool} (hp:(PF.zcS a0 a1)=some r) :
  Calls Tryz.prog 166 #[v0,v1] wa (Sc Ha wa (Value.bool r)):=by
 unfold PF.zcS at hp
 have S0:=St.init hs
 refine zaj (N:=26) (args:=[v0,v1]) Tryz.func166 rfl rfl rfl ?_
 refine FW.seq (FW.region ?_)
 refine FL.v (E.assign (v:=Value.bool false) rfl) ?_
 refine FL.nil (FW.seq (FW.seq (FW.region ?_)))
 refine FL.v (E.move (v:=v0) rfl) ?_
 refine FL.v (E.lenP te52 rfl p0) ?_
 refine FL.v (E.move (v:=v1) rfl) ?_
 refine FL.v (E.lenP te52 rfl p1) ?_
 refine FL.v (E.neq rfl rfl) ?_
 refine FL.nil ?_
 rcases ifB hp with ⟨c21,hp⟩|⟨c21,hp⟩
 ·
  refine FW.condT rfl c21 ?_
  refine FW.seq (FW.region ?_)
  refine FL.v (E.assign (v:=Value.bool false) rfl) ?_
  refine FL.nil ?_
  refine FW.ret ?_
  obtain rfl:=Option.some.inj hp
  exact ⟨.inr rfl,res1 rfl rfl ⟨rfl,S0.back⟩⟩
 ·
  refine FW.condF rfl c21 ?_
  refine FW.skip (FW.seq (FW.seq (FW.region ?_)))
  refine FL.v (E.assign (v:=Value.int .i64 0) rfl) ?_
  refine FL.nil ?_
  obtain ⟨q23,hq,hp⟩:=bndR hp
  refine FW.block ?_
  refine FW.mono (FW.forL (S:=Unit) (X:=Bool) (fun (i23:Nat) (s23:Unit) f w=>∃ H:GH,St Ha wa H w []∧Inc Ha H∧f 5=Value.int .i64 ((i23:Nat):Int)∧f 0=v0∧f 1=v1) (fun q e f w=>match q with|.go s23=>e=Exit.exit 0∧(∃ H:GH,St Ha wa H w []∧Inc Ha H)|.rt x=>((e=Exit.ret)∧(fun e f w=>(e=Exit.normal∨e=Exit.ret)∧∀ a,Fr (δ:=[]) 26 a f→∃ v,(results Tryz.f166 a.tmps).run Tryz.prog w=.ok v w∧(Sc Ha wa (Value.bool x)) (.returned v) w) e f w)) hq ⟨_,S0,(Inc.rfl _),rfl,rfl,rfl⟩ ?_ ?_) ?_
  ·
   clear hp hq
   rintro i23 y22 s23 f55 w54 ⟨H51,S52,i53,k56,k57,k58⟩ hx23 o78 hp
   refine FW.seq (FW.seq (FW.region ?_))
   refine FL.v (E.move k56) ?_
   refine FL.v (E.move k57) ?_
   refine FL.v (E.lenP te52 rfl p0) ?_
   refine FL.v (E.lssT rfl rfl (zaF hx23)) ?_
   refine FL.nil ?_
   refine FW.condT rfl rfl ?_
   refine FW.skip (FW.seq (FW.block (FW.seq ?_)))
   refine FW.draw (fun w'=>Run w54.heap.size H51 w54 H51 w') (by kernel_rfl) (by kernel_rfl) (zaQ S52.sl) ?_
   refine FD.val rfl rfl rfl (fun w' hw'=>(E.move k57)) ?_
   refine FD.val rfl rfl rfl (fun w' hw'=>(E.move k56)) ?_
   obtain ⟨p60,cs61,pt62,l63,at64,rel65⟩:=p0.at (zaz hx23)
   obtain rfl:=zao rel65
   refine FD.val rfl rfl rfl (fun w' hw'=>(E.indexAddr te52 rfl rfl pt62)) ?_
   refine FD.val rfl rfl rfl (fun w' hw'=>(E.load rfl (zak Tryz.isAgg3 ((at64.mono i53).now (S52.call hw').sl) rfl))) ?_
   refine FD.val rfl rfl rfl (fun w' hw'=>(E.move k58)) ?_
   refine FD.val rfl rfl rfl (fun w' hw'=>(E.move k56)) ?_
   obtain ⟨x72,hx73,hp⟩:=bnd hp
   obtain ⟨p66,cs67,pt68,l69,at70,rel71⟩:=p1.at hx73
   obtain rfl:=zao rel71
   refine FD.val rfl rfl rfl (fun w' hw'=>(E.indexAddr te52 rfl rfl pt68)) ?_
   refine FD.val rfl rfl rfl (fun w' hw'=>(E.load rfl (zak Tryz.isAgg3 ((at70.mono i53).now (S52.call hw').sl) rfl))) ?_
   refine FD.val rfl rfl rfl (fun w' hw'=>(E.neq rfl rfl)) ?_
   refine FD.nil ?_
   intro w74 r76
   have S75:=S52.call r76
   rcases ifB hp with ⟨c77,hp⟩|⟨c77,hp⟩
   ·
    refine FW.condT rfl c77 ?_
    refine FW.seq (FW.region ?_)
    refine FL.v (E.assign (v:=Value.bool false) rfl) ?_
    refine FL.nil ?_
    refine FW.ret ?_
    obtain rfl:=Option.some.inj hp
    exact ⟨nofun,rfl,⟨.inr rfl,res1 rfl rfl ⟨rfl,S75.back⟩⟩⟩
   ·
    refine FW.condF rfl c77 ?_
    refine FW.skip (FW.region ?_)
    refine FL.v (E.move k56) ?_
    refine FL.v (E.add rfl rfl) ?_
    refine FL.v (E.assign (v:=Value.int .i64 (wr (((i23:Nat):Int) + 1))) rfl) ?_
    refine FL.nil ?_
    obtain rfl:=Option.some.inj hp
    exact ⟨rfl,⟨_,S75,i53,(zaw rfl (zaB hx23) (p0.mono i53).le),k57,k58⟩⟩
  ·
   clear hp hq
   rintro s23 f88 w87 ⟨H84,S85,i86,k89,k90,k91⟩
   refine FW.seq (FW.seq (FW.region ?_))
   refine FL.v (E.move k89) ?_
   refine FL.v (E.move k90) ?_
   refine FL.v (E.lenP te52 rfl p0) ?_
   refine FL.v (E.lss rfl rfl) ?_
   refine FL.nil ?_
   refine FW.condF rfl zaG ?_
   refine FW.exit ?_
   exact ⟨nofun,rfl,⟨_,S85,i86⟩⟩
  ·
   clear hq
   intro e f83 w82 hD
   rcases q23 with s23|x23
   ·
    obtain ⟨rfl,hD⟩:=hD
    obtain ⟨H79,S80,i81⟩:=hD
    replace hp:=el_go hp
    refine FW.seq (FW.region ?_)
    refine FL.v (E.assign (v:=Value.bool true) rfl) ?_
    refine FL.nil ?_
    refine FW.ret ?_
    obtain rfl:=Option.some.inj hp
    exact ⟨.inr rfl,res1 rfl rfl ⟨rfl,S80.back⟩⟩
   ·
    obtain ⟨he,hL⟩:=hD
    replace hp:=el_rt hp
    obtain rfl:=Option.some.inj hp
    subst he
    exact hL

theorem zep {Ha:GH} {wa:World} (hs:Sl Ha wa) (a0:Cnf) (v0_1:Value) (p0_1:RSl Ha (eL eI 1) 1 v0_1 a0.clauses) (v1:Value) (a1:List zaa) (p1:RSl Ha zah 4 v1 a1) (a2:Int) (a3:Int) {r:Bool} (hp:(PF.zcj a0 a1 a2 a3)=some r) :
  Calls Tryz.prog 253 #[Value.agg #[Value.int .i64 a0.vars,v0_1],v1,Value.int .i64 a2,Value.int .i64 a3] wa (Sc Ha wa (Value.bool r)):=by
 unfold PF.zcj at hp
 have S0:=St.init hs
 refine zaj (N:=23) (args:=[Value.agg #[Value.int .i64 a0.vars,v0_1],v1,Value.int .i64 a2,Value.int .i64 a3]) Tryz.func253 rfl rfl rfl ?_
 refine FW.seq (FW.region ?_)
 obtain ⟨b21,w22,run23,S24⟩:=S0.box (P:=Tryz.prog) 26 [Value.int .i64 a0.vars,v0_1] (v:=Value.agg #[Value.int .i64 a0.vars,v0_1]) rfl (zab rfl (zab p0_1.one zae))
 refine FL.v (E.box rfl run23) ?_
 obtain ⟨H25,S26,i27,at28⟩:=S24.sealBox (i:=0) (l':=[]) rfl rfl
 refine FL.v (E.assign (v:=Value.bool false) rfl) ?_
 refine FL.nil (FW.seq ?_)
 refine FW.draw (fun w'=>Run w22.heap.size H25 w22 H25 w') (by kernel_rfl) (by kernel_rfl) (zaQ S26.sl) ?_
 refine FD.val rfl rfl rfl (fun w' hw'=>(E.move (v:=Value.int .i64 a3) rfl)) ?_
 refine FD.val rfl rfl rfl (fun w' hw'=>(E.move (v:=Value.int .i64 a2) rfl)) ?_
 refine FD.val rfl rfl rfl (fun w' hw'=>(E.sub rfl rfl)) ?_
 refine FD.call rfl rfl rfl (fun w' hw'=>(E.call Tryz.call81 (A3 rfl rfl rfl))) (fun w' hw'=>Calls.cls hw' (zb2 (S26.call hw').sl a3 0 (wr (a2 - 1)))) ?_
 refine FD.val rfl rfl rfl (fun w' hw'=>(E.move (v:=Value.bool (PF.zaU a3 0 (wr (a2 - 1)))) rfl)) ?_
 obtain ⟨t42,hqt42,hp⟩:=bnd hp
 refine FD.cut 9 (fun f=>f 22=Value.bool t42) ?_ ?_
 ·
  clear hp;have hp:=hqt42;clear hqt42
  rcases ifB hp with ⟨c48,hp⟩|⟨c48,hp⟩
  ·
   refine FD.val (zac rfl rfl rfl c48) rfl rfl (fun w' hw'=>(E.fieldAddr zaC rfl)) ?_
   refine FD.val (zac rfl rfl rfl c48) rfl rfl (fun w' hw'=>(E.load rfl (zag Tryz.isAgg3 (at28.now (S26.call hw').sl) rfl))) ?_
   refine FD.val (zac rfl rfl rfl c48) rfl rfl (fun w' hw'=>(E.move (v:=v1) rfl)) ?_
   refine FD.val (zac rfl rfl rfl c48) rfl rfl (fun w' hw'=>(E.move (v:=Value.int .i64 a3) rfl)) ?_
   obtain ⟨x55,hx56,hp⟩:=bnd hp
   obtain ⟨p49,cs50,pt51,l52,at53,rel54⟩:=p1.at hx56
   obtain ⟨v57,rfl,h58⟩:=zap rel54
   refine FD.val (zac rfl rfl rfl c48) rfl rfl (fun w' hw'=>(E.indexAddr te61 rfl rfl pt51)) ?_
   refine FD.val (zac rfl rfl rfl c48) rfl rfl (fun w' hw'=>(E.fieldAddr zav rfl)) ?_
   refine FD.val (zac rfl rfl rfl c48) rfl rfl (fun w' hw'=>(E.load rfl (zag Tryz.isAgg52 ((at53.mono i27).now (S26.call hw').sl) rfl))) ?_
   obtain ⟨r59,hr60,hp⟩:=bnd hp
   refine FD.call (zac rfl rfl rfl c48) rfl rfl (fun w' hw'=>(E.call Tryz.call190 (A2 rfl rfl))) (fun w' hw'=>Calls.cls hw' (zdy (S26.call hw').sl a0.vars v57 x55.clause (h58.mono i27) hr60)) ?_
   obtain rfl:=Option.some.inj hp
   refine FD.val rfl rfl rfl (fun w' hw'=>(E.pickT rfl c48 rfl)) ?_
   exact FD.nil rfl
  ·
   refine FD.skip (wF_no rfl rfl rfl c48) rfl ?_
   refine FD.skip (wF_no rfl rfl rfl c48) rfl ?_
   refine FD.skip (wF_no rfl rfl rfl c48) rfl ?_
   refine FD.skip (wF_no rfl rfl rfl c48) rfl ?_
   refine FD.skip (wF_no rfl rfl rfl c48) rfl ?_
   refine FD.skip (wF_no rfl rfl rfl c48) rfl ?_
   refine FD.skip (wF_no rfl rfl rfl c48) rfl ?_
   refine FD.skip (wF_no rfl rfl rfl c48) rfl ?_
   obtain rfl:=Option.some.inj hp
   refine FD.val rfl rfl rfl (fun w' hw'=>(E.pickF rfl c48 rfl)) ?_
   exact FD.nil rfl
 intro f47 k61
 refine FD.val rfl rfl rfl (fun w' hw'=>(E.assign k61)) ?_
 refine FD.nil ?_
 intro w62 r64
 have S63:=S26.call r64
 refine FW.ret ?_
 obtain rfl:=Option.some.inj hp
 exact ⟨.inr rfl,res1 rfl rfl ⟨rfl,S63.back⟩⟩

set_option maxHeartbeats 4000000 in
theorem w_spec_l7Correct {Ha:GH} {wa:World} (hs:Sl Ha wa) (a0:Cnf) (v0_1:Value) (p0_1:RSl Ha (eL eI 1) 1 v0_1 a0.clauses) (v1:Value) (a1:List zaa) (p1:RSl Ha zah 4 v1 a1) (a2:Int) {r:Bool} (hp:(PF.zcT a0 a1 a2)=some r) :
  Calls Tryz.prog 226 #[Value.agg #[Value.int .i64 a0.vars,v0_1],v1,Value.int .i64 a2] wa (Sc Ha wa (Value.bool r)):=by
 unfold PF.zcT at hp
 have S0:=St.init hs
 refine zaj (N:=110) (args:=[Value.agg #[Value.int .i64 a0.vars,v0_1],v1,Value.int .i64 a2]) Tryz.func226 rfl rfl rfl ?_
 refine FW.seq (FW.region ?_)
 obtain ⟨b21,w22,run23,S24⟩:=S0.box (P:=Tryz.prog) 26 [Value.int .i64 a0.vars,v0_1] (v:=Value.agg #[Value.int .i64 a0.vars,v0_1]) rfl (zab rfl (zab p0_1.one zae))
 refine FL.v (E.box rfl run23) ?_
 obtain ⟨H25,S26,i27,at28⟩:=S24.sealBox (i:=0) (l':=[]) rfl rfl
 refine FL.v (E.assign (v:=Value.bool false) rfl) ?_
 refine FL.nil (FW.seq (FW.region ?_))
 refine FL.v (E.move (v:=v1) rfl) ?_
 refine FL.v (E.move (v:=Value.int .i64 a2) rfl) ?_
 obtain ⟨x35,hx36,hp⟩:=bnd hp
 obtain ⟨p29,cs30,pt31,l32,at33,rel34⟩:=p1.at hx36
 obtain ⟨v37,rfl,h38⟩:=zap rel34
 refine FL.v (E.indexAddr te61 rfl rfl pt31) ?_
 refine FL.v (E.load rfl (zal Tryz.isAgg134 Tryz.sizeOf134 ((at33.mono i27).now S26.sl) rfl)) ?_
 obtain ⟨b39,w40,run41,S42⟩:=S26.alloc (P:=Tryz.prog) 134 [Value.slice none 0 0,Value.int .i64 0,Value.int .i64 0,Value.int .i64 0] Tryz.zeroValue134 rfl (zab rfl (zab rfl (zab rfl (zab rfl zae))))
 refine FL.v (E.alloc run41) ?_
 obtain ⟨w43,run44,S45⟩:=S42.store0 (P:=Tryz.prog) (t:=134) (i:=0) (cs':=[v37,Value.int .i64 x35.left,Value.int .i64 x35.right,Value.int .i64 x35.pivot]) (l':=[.box b39 134 [v37,Value.int .i64 x35.left,Value.int .i64 x35.right,Value.int .i64 x35.pivot]]) (v:=Value.agg #[v37,Value.int .i64 x35.left,Value.int .i64 x35.right,Value.int .i64 x35.pivot]) (c:=[v37,Value.int .i64 x35.left,Value.int .i64 x35.right,Value.int .i64 x35.pivot]) rfl Tryz.sizeOf134 rfl rfl (zab h38.one (zab rfl (zab rfl (zab rfl zae)))) (Nat.le_of_ble_eq_true rfl) rfl rfl
 refine FL.act rfl rfl (E.store rfl rfl run44) ?_
 obtain ⟨H46,S47,i48,at49⟩:=S45.sealBox (i:=0) (l':=[]) rfl rfl
 refine FL.nil (FW.seq (FW.seq (FW.region ?_)))
 refine FL.v (E.fieldAddr zaC rfl) ?_
 refine FL.v (E.load rfl (zag Tryz.isAgg3 ((at28.mono i48).now S47.sl) rfl)) ?_
 refine FL.v (E.fieldAddr zav rfl) ?_
 refine FL.v (E.load rfl (zag Tryz.isAgg52 (at49.now S47.sl) rfl)) ?_
 obtain ⟨r50,hr51,hp⟩:=bnd hp
 refine FL.call rfl rfl rfl (E.call Tryz.call190 (A2 rfl rfl)) (zdy S47.sl a0.vars v37 x35.clause (h38.mono (i27.tr i48)) hr51) ?_
 rintro e w52 ⟨rfl,r53⟩
 refine ⟨_,rfl,?_⟩
 have S54:=S47.call r53
 refine FL.v (E.not rfl) ?_
 refine FL.nil ?_
 rcases ifB hp with ⟨c55,hp⟩|⟨c55,hp⟩
 ·
  refine FW.condT rfl c55 ?_
  refine FW.seq (FW.region ?_)
  refine FL.v (E.assign (v:=Value.bool false) rfl) ?_
  refine FL.nil ?_
  refine FW.ret ?_
  obtain rfl:=Option.some.inj hp
  exact ⟨.inr rfl,res1 rfl rfl ⟨rfl,S54.back⟩⟩
 ·
  refine FW.condF rfl c55 ?_
  refine FW.skip (FW.seq (FW.seq (FW.region ?_)))
  refine FL.v (E.fieldAddr zaN rfl) ?_
  refine FL.v (E.load rfl (zag Tryz.isAgg3 (at49.now S54.sl) rfl)) ?_
  refine FL.v (E.eql rfl rfl) ?_
  refine FL.nil ?_
  rcases ifB hp with ⟨c56,hp⟩|⟨c56,hp⟩
  ·
   refine FW.condT rfl c56 ?_
   refine FW.seq ?_
   refine FW.draw (fun w'=>Run w52.heap.size H46 w52 H46 w') (by kernel_rfl) (by kernel_rfl) (zaQ S54.sl) ?_
   refine FD.val rfl rfl rfl (fun w' hw'=>(E.fieldAddr zbi rfl)) ?_
   refine FD.val rfl rfl rfl (fun w' hw'=>(E.load rfl (zag Tryz.isAgg3 (at49.now (S54.call hw').sl) rfl))) ?_
   refine FD.val rfl rfl rfl (fun w' hw'=>(E.eql rfl rfl)) ?_
   refine FD.val rfl rfl rfl (fun w' hw'=>(E.move (v:=Value.bool (x35.pivot == 0)) rfl)) ?_
   refine FD.cut 8 (fun f=>f 3=Value.pointer (some ⟨b21,0,none⟩)∧f 7=Value.pointer (some ⟨b39,0,none⟩)∧f 34=Value.bool (bif (x35.pivot == 0) then (PF.zaU x35.right 0 (wr ((len a0.clauses) - 1))) else false)) ?_ ?_
   ·
    rcases bcase (x35.pivot == 0) with c64|c64
    ·
     refine FD.val (zac rfl rfl rfl c64) rfl rfl (fun w' hw'=>(E.fieldAddr zaO rfl)) ?_
     refine FD.val (zac rfl rfl rfl c64) rfl rfl (fun w' hw'=>(E.load rfl (zag Tryz.isAgg3 (at49.now (S54.call hw').sl) rfl))) ?_
     refine FD.val (zac rfl rfl rfl c64) rfl rfl (fun w' hw'=>(E.fieldAddr zay rfl)) ?_
     refine FD.val (zac rfl rfl rfl c64) rfl rfl (fun w' hw'=>(E.load rfl (zag Tryz.isAgg24 ((at28.mono i48).now (S54.call hw').sl) rfl))) ?_
     refine FD.val (zac rfl rfl rfl c64) rfl rfl (fun w' hw'=>(E.lenP te24 rfl p0_1)) ?_
     refine FD.val (zac rfl rfl rfl c64) rfl rfl (fun w' hw'=>(E.sub rfl rfl)) ?_
     refine FD.call (zac rfl rfl rfl c64) rfl rfl (fun w' hw'=>(E.call Tryz.call81 (A3 rfl rfl rfl))) (fun w' hw'=>Calls.cls hw' (zb2 (S54.call hw').sl x35.right 0 (wr ((len a0.clauses) - 1)))) ?_
     refine FD.val rfl rfl rfl (fun w' hw'=>(E.pickT rfl c64 rfl)) ?_
     exact FD.nil ⟨rfl,rfl,(congrArg Value.bool (bifT c64).symm)⟩
    ·
     refine FD.skip (wF_no rfl rfl rfl c64) rfl ?_
     refine FD.skip (wF_no rfl rfl rfl c64) rfl ?_
     refine FD.skip (wF_no rfl rfl rfl c64) rfl ?_
     refine FD.skip (wF_no rfl rfl rfl c64) rfl ?_
     refine FD.skip (wF_no rfl rfl rfl c64) rfl ?_
     refine FD.skip (wF_no rfl rfl rfl c64) rfl ?_
     refine FD.skip (wF_no rfl rfl rfl c64) rfl ?_
     refine FD.val rfl rfl rfl (fun w' hw'=>(E.pickF rfl c64 rfl)) ?_
     exact FD.nil ⟨rfl,rfl,(congrArg Value.bool (bifF c64).symm)⟩
   rintro f63 ⟨k65,k66,k67⟩
   refine FD.val rfl rfl rfl (fun w' hw'=>(E.move k67)) ?_
   obtain ⟨t80,hqt80,hp⟩:=bnd hp
   refine FD.cut 10 (fun f=>f 45=Value.bool t80) ?_ ?_
   ·
    clear hp;have hp:=hqt80;clear hqt80
    rcases ifB hp with ⟨c86,hp⟩|⟨c86,hp⟩
    ·
     refine FD.val (zac rfl rfl rfl c86) rfl rfl (fun w' hw'=>(E.fieldAddr zay k65)) ?_
     refine FD.val (zac rfl rfl rfl c86) rfl rfl (fun w' hw'=>(E.load rfl (zag Tryz.isAgg24 ((at28.mono i48).now (S54.call hw').sl) rfl))) ?_
     refine FD.val (zac rfl rfl rfl c86) rfl rfl (fun w' hw'=>(E.fieldAddr zaO k66)) ?_
     refine FD.val (zac rfl rfl rfl c86) rfl rfl (fun w' hw'=>(E.load rfl (zag Tryz.isAgg3 (at49.now (S54.call hw').sl) rfl))) ?_
     obtain ⟨x93,hx94,hp⟩:=bnd hp
     obtain ⟨p87,cs88,pt89,l90,at91,rel92⟩:=p0_1.at hx94
     obtain ⟨v95,rfl,h96⟩:=zbr rel92
     refine FD.val (zac rfl rfl rfl c86) rfl rfl (fun w' hw'=>(E.indexAddr te24 rfl rfl pt89)) ?_
     refine FD.val (zac rfl rfl rfl c86) rfl rfl (fun w' hw'=>(E.load rfl (zak Tryz.isAgg52 ((at91.mono (i27.tr i48)).now (S54.call hw').sl) rfl))) ?_
     refine FD.val (zac rfl rfl rfl c86) rfl rfl (fun w' hw'=>(E.fieldAddr zav k66)) ?_
     refine FD.val (zac rfl rfl rfl c86) rfl rfl (fun w' hw'=>(E.load rfl (zag Tryz.isAgg52 (at49.now (S54.call hw').sl) rfl))) ?_
     obtain ⟨r97,hr98,hp⟩:=bnd hp
     refine FD.call (zac rfl rfl rfl c86) rfl rfl (fun w' hw'=>(E.call Tryz.call166 (A2 rfl rfl))) (fun w' hw'=>Calls.cls hw' (w_spec_l1Same (S54.call hw').sl v95 x93 (h96.mono (i27.tr i48)) v37 x35.clause (h38.mono (i27.tr i48)) hr98)) ?_
     obtain rfl:=Option.some.inj hp
     refine FD.val rfl rfl rfl (fun w' hw'=>(E.pickT rfl c86 rfl)) ?_
     exact FD.nil rfl
    ·
     refine FD.skip (wF_no rfl rfl rfl c86) rfl ?_
     refine FD.skip (wF_no rfl rfl rfl c86) rfl ?_
     refine FD.skip (wF_no rfl rfl rfl c86) rfl ?_
     refine FD.skip (wF_no rfl rfl rfl c86) rfl ?_
     refine FD.skip (wF_no rfl rfl rfl c86) rfl ?_
     refine FD.skip (wF_no rfl rfl rfl c86) rfl ?_
     refine FD.skip (wF_no rfl rfl rfl c86) rfl ?_
     refine FD.skip (wF_no rfl rfl rfl c86) rfl ?_
     refine FD.skip (wF_no rfl rfl rfl c86) rfl ?_
     obtain rfl:=Option.some.inj hp
     refine FD.val rfl rfl rfl (fun w' hw'=>(E.pickF rfl c86 rfl)) ?_
     exact FD.nil rfl
   intro f85 k99
   refine FD.val rfl rfl rfl (fun w' hw'=>(E.assign k99)) ?_
   refine FD.nil ?_
   intro wA0 rA2
   have SA1:=S54.call rA2
   refine FW.ret ?_
   obtain rfl:=Option.some.inj hp
   exact ⟨.inr rfl,res1 rfl rfl ⟨rfl,SA1.back⟩⟩
  ·
   refine FW.condF rfl c56 ?_
   refine FW.skip (FW.seq (FW.seq (FW.region ?_)))
   refine FL.v (E.load rfl (zal Tryz.isAgg26 Tryz.sizeOf26 ((at28.mono i48).now S54.sl) rfl)) ?_
   refine FL.v (E.move (v:=v1) rfl) ?_
   refine FL.v (E.move (v:=Value.int .i64 a2) rfl) ?_
   refine FL.v (E.fieldAddr zaN rfl) ?_
   refine FL.v (E.load rfl (zag Tryz.isAgg3 (at49.now S54.sl) rfl)) ?_
   obtain ⟨rA3,hrA4,hp⟩:=bnd hp
   refine FL.call rfl rfl rfl (E.call Tryz.call253 (A4 rfl rfl rfl rfl)) (zep S54.sl a0 v0_1 (p0_1.mono (i27.tr i48)) v1 a1 (p1.mono (i27.tr i48)) a2 x35.left hrA4) ?_
   rintro e wA5 ⟨rfl,rA6⟩
   refine ⟨_,rfl,?_⟩
   have SA7:=S54.call rA6
   refine FL.v (E.not rfl) ?_
   refine FL.nil ?_
   rcases ifB hp with ⟨cA8,hp⟩|⟨cA8,hp⟩
   ·
    refine FW.condT rfl cA8 ?_
    refine FW.seq (FW.region ?_)
    refine FL.v (E.assign (v:=Value.bool false) rfl) ?_
    refine FL.nil ?_
    refine FW.ret ?_
    obtain rfl:=Option.some.inj hp
    exact ⟨.inr rfl,res1 rfl rfl ⟨rfl,SA7.back⟩⟩
   ·
    refine FW.condF rfl cA8 ?_
    refine FW.skip (FW.seq (FW.seq (FW.region ?_)))
    refine FL.v (E.fieldAddr zaO rfl) ?_
    refine FL.v (E.load rfl (zag Tryz.isAgg3 (at49.now SA7.sl) rfl)) ?_
    refine FL.v (E.eql rfl rfl) ?_
    refine FL.nil ?_
    rcases ifB hp with ⟨cA9,hp⟩|⟨cA9,hp⟩
    ·
     refine FW.condT rfl cA9 ?_
     refine FW.seq ?_
     refine FW.draw (fun w'=>Run wA5.heap.size H46 wA5 H46 w') (by kernel_rfl) (by kernel_rfl) (zaQ SA7.sl) ?_
     refine FD.val rfl rfl rfl (fun w' hw'=>(E.fieldAddr zbi rfl)) ?_
     refine FD.val rfl rfl rfl (fun w' hw'=>(E.load rfl (zag Tryz.isAgg3 (at49.now (SA7.call hw').sl) rfl))) ?_
     refine FD.val rfl rfl rfl (fun w' hw'=>(E.eql rfl rfl)) ?_
     refine FD.val rfl rfl rfl (fun w' hw'=>(E.move (v:=Value.bool (x35.pivot == 0)) rfl)) ?_
     obtain ⟨t123,hqtAn,hp⟩:=bnd hp
     refine FD.cut 10 (fun f=>f 69=Value.bool t123) ?_ ?_
     ·
      clear hp;have hp:=hqtAn;clear hqtAn
      rcases ifB hp with ⟨cAt,hp⟩|⟨cAt,hp⟩
      ·
       refine FD.val (zac rfl rfl rfl cAt) rfl rfl (fun w' hw'=>(E.move (v:=v1) rfl)) ?_
       refine FD.val (zac rfl rfl rfl cAt) rfl rfl (fun w' hw'=>(E.fieldAddr zaN rfl)) ?_
       refine FD.val (zac rfl rfl rfl cAt) rfl rfl (fun w' hw'=>(E.load rfl (zag Tryz.isAgg3 (at49.now (SA7.call hw').sl) rfl))) ?_
       obtain ⟨xAA,hxAB,hp⟩:=bnd hp
       obtain ⟨pAu,csAv,ptAw,lAx,atAy,relAz⟩:=p1.at hxAB
       obtain ⟨vAC,rfl,hAD⟩:=zap relAz
       refine FD.val (zac rfl rfl rfl cAt) rfl rfl (fun w' hw'=>(E.indexAddr te61 rfl rfl ptAw)) ?_
       refine FD.val (zac rfl rfl rfl cAt) rfl rfl (fun w' hw'=>(E.fieldAddr zav rfl)) ?_
       refine FD.val (zac rfl rfl rfl cAt) rfl rfl (fun w' hw'=>(E.load rfl (zag Tryz.isAgg52 ((atAy.mono (i27.tr i48)).now (SA7.call hw').sl) rfl))) ?_
       refine FD.val (zac rfl rfl rfl cAt) rfl rfl (fun w' hw'=>(E.fieldAddr zav rfl)) ?_
       refine FD.val (zac rfl rfl rfl cAt) rfl rfl (fun w' hw'=>(E.load rfl (zag Tryz.isAgg52 (at49.now (SA7.call hw').sl) rfl))) ?_
       obtain ⟨rAE,hrAF,hp⟩:=bnd hp
       refine FD.call (zac rfl rfl rfl cAt) rfl rfl (fun w' hw'=>(E.call Tryz.call222 (A2 rfl rfl))) (fun w' hw'=>Calls.cls hw' (zdV (SA7.call hw').sl vAC xAA.clause (hAD.mono (i27.tr i48)) v37 x35.clause (h38.mono (i27.tr i48)) hrAF)) ?_
       obtain rfl:=Option.some.inj hp
       refine FD.val rfl rfl rfl (fun w' hw'=>(E.pickT rfl cAt rfl)) ?_
       exact FD.nil rfl
      ·
       refine FD.skip (wF_no rfl rfl rfl cAt) rfl ?_
       refine FD.skip (wF_no rfl rfl rfl cAt) rfl ?_
       refine FD.skip (wF_no rfl rfl rfl cAt) rfl ?_
       refine FD.skip (wF_no rfl rfl rfl cAt) rfl ?_
       refine FD.skip (wF_no rfl rfl rfl cAt) rfl ?_
       refine FD.skip (wF_no rfl rfl rfl cAt) rfl ?_
       refine FD.skip (wF_no rfl rfl rfl cAt) rfl ?_
       refine FD.skip (wF_no rfl rfl rfl cAt) rfl ?_
       refine FD.skip (wF_no rfl rfl rfl cAt) rfl ?_
       obtain rfl:=Option.some.inj hp
       refine FD.val rfl rfl rfl (fun w' hw'=>(E.pickF rfl cAt rfl)) ?_
       exact FD.nil rfl
     intro fAs kAG
     refine FD.val rfl rfl rfl (fun w' hw'=>(E.assign kAG)) ?_
     refine FD.nil ?_
     intro wAH rAJ
     have SAI:=SA7.call rAJ
     refine FW.ret ?_
     obtain rfl:=Option.some.inj hp
     exact ⟨.inr rfl,res1 rfl rfl ⟨rfl,SAI.back⟩⟩
    ·
     refine FW.condF rfl cA9 ?_
     refine FW.skip (FW.seq (FW.seq (FW.region ?_)))
     refine FL.v (E.load rfl (zal Tryz.isAgg26 Tryz.sizeOf26 ((at28.mono i48).now SA7.sl) rfl)) ?_
     refine FL.v (E.move (v:=v1) rfl) ?_
     refine FL.v (E.move (v:=Value.int .i64 a2) rfl) ?_
     refine FL.v (E.fieldAddr zaO rfl) ?_
     refine FL.v (E.load rfl (zag Tryz.isAgg3 (at49.now SA7.sl) rfl)) ?_
     obtain ⟨rAK,hrAL,hp⟩:=bnd hp
     refine FL.call rfl rfl rfl (E.call Tryz.call253 (A4 rfl rfl rfl rfl)) (zep SA7.sl a0 v0_1 (p0_1.mono (i27.tr i48)) v1 a1 (p1.mono (i27.tr i48)) a2 x35.right hrAL) ?_
     rintro e wAM ⟨rfl,rAN⟩
     refine ⟨_,rfl,?_⟩
     have SAO:=SA7.call rAN
     refine FL.v (E.not rfl) ?_
     refine FL.v (E.move (v:=Value.bool (!rAK)) rfl) ?_
     refine FL.cut 7 (fun f w=>∃ H:GH,St Ha wa H w []∧Inc H46 H∧f 1=v1∧f 7=Value.pointer (some ⟨b39,0,none⟩)∧f 84=Value.bool (bif (!rAK) then true else (!(PF.zaU x35.pivot 1 a0.vars)))) ?_ ?_
     ·
      rcases bcase (!rAK) with cAY|cAY
      ·
       refine FL.skip (wF_no rfl rfl rfl cAY) rfl ?_
       refine FL.skip (wF_no rfl rfl rfl cAY) rfl ?_
       refine FL.skip (wF_no rfl rfl rfl cAY) rfl ?_
       refine FL.skip (wF_no rfl rfl rfl cAY) rfl ?_
       refine FL.skip (wF_no rfl rfl rfl cAY) rfl ?_
       refine FL.skip (wF_no rfl rfl rfl cAY) rfl ?_
       refine FL.v (E.pickT rfl cAY rfl) ?_
       exact FL.nil ⟨rfl,_,SAO,(Inc.rfl _),rfl,rfl,(congrArg Value.bool (bifT cAY).symm)⟩
      ·
       refine FL.val (zac rfl rfl rfl cAY) rfl rfl (E.fieldAddr zbi rfl) ?_
       refine FL.val (zac rfl rfl rfl cAY) rfl rfl (E.load rfl (zag Tryz.isAgg3 (at49.now SAO.sl) rfl)) ?_
       refine FL.val (zac rfl rfl rfl cAY) rfl rfl (E.fieldAddr zaC rfl) ?_
       refine FL.val (zac rfl rfl rfl cAY) rfl rfl (E.load rfl (zag Tryz.isAgg3 ((at28.mono i48).now SAO.sl) rfl)) ?_
       refine FL.call (zac rfl rfl rfl cAY) rfl rfl (E.call Tryz.call81 (A3 rfl rfl rfl)) (zb2 SAO.sl x35.pivot 1 a0.vars) ?_
       rintro e wAZ ⟨rfl,rB0⟩
       refine ⟨_,rfl,?_⟩
       have SB1:=SAO.call rB0
       refine FL.val (zac rfl rfl rfl cAY) rfl rfl (E.not rfl) ?_
       refine FL.v (E.pickF rfl cAY rfl) ?_
       exact FL.nil ⟨rfl,_,SB1,(Inc.rfl _),rfl,rfl,(congrArg Value.bool (bifF cAY).symm)⟩
     rintro fAX wAW ⟨HAT,SAU,iAV,kB2,kB3,kB4⟩
     refine FL.nil ?_
     rcases ifB hp with ⟨cB5,hp⟩|⟨cB5,hp⟩
     ·
      refine FW.condT kB4 cB5 ?_
      refine FW.seq (FW.region ?_)
      refine FL.v (E.assign (v:=Value.bool false) rfl) ?_
      refine FL.nil ?_
      refine FW.ret ?_
      obtain rfl:=Option.some.inj hp
      exact ⟨.inr rfl,res1 rfl rfl ⟨rfl,SAU.back⟩⟩
     ·
      refine FW.condF kB4 cB5 ?_
      refine FW.skip (FW.seq ?_)
      obtain ⟨x69,hx70,hp⟩:=bnd hp
      obtain ⟨x79,hx81,hp⟩:=bnd hp
      obtain ⟨r84,hrAa,hp⟩:=bnd hp
      refine FW.drawB (Sl HAT) (fun f w=>∃ H:GH,∃ vAj:Value,∃ nAk:Nat,∃ csAl:List Value,St Ha wa H w [.row 3 1 vAj nAk csAl]∧Inc HAT H∧Els (up wa.heap.size H) eI 1 csAl r84.1∧f 7=Value.pointer (some ⟨b39,0,none⟩)∧f 8=vAj∧f 9=Value.bool r84.2) (by kernel_rfl) SAU.sl ?_ ?_
      ·
       intro wB6 rB7
       have SB8:=SAU.call rB7
       refine FB.t (i:=0) (bs 20 1) rfl (SP.nil SB8.sl) rfl (fun w' hw'=>(E.move kB2)) ?_
       refine FB.t (i:=1) (bs 20 3) rfl (SP.nil SB8.sl) rfl (fun w' hw'=>(E.fieldAddr zaN kB3)) ?_
       refine FB.t (i:=2) (bs 20 7) rfl (SP.nil SB8.sl) rfl (fun w' hw'=>(E.load rfl (zag Tryz.isAgg3 ((at49.mono iAV).now hw') rfl))) ?_
       obtain ⟨p57,cs58,pt59,l60,at62,rel68⟩:=p1.at hx70
       obtain ⟨v71,rfl,h72⟩:=zap rel68
       refine FB.t (i:=3) (bs 20 15) rfl (SP.nil SB8.sl) rfl (fun w' hw'=>(E.indexAddr te61 rfl rfl pt59)) ?_
       refine FB.t (i:=4) (bs 20 31) rfl (SP.nil SB8.sl) rfl (fun w' hw'=>(E.fieldAddr zav rfl)) ?_
       refine FB.t (i:=5) (bs 20 63) rfl (SP.nil SB8.sl) rfl (fun w' hw'=>(E.load rfl (zag Tryz.isAgg52 ((at62.mono ((i27.tr i48).tr iAV)).now hw') rfl))) ?_
       refine FB.t (i:=6) (bs 20 127) rfl (SP.nil SB8.sl) rfl (fun w' hw'=>(E.move kB2)) ?_
       refine FB.t (i:=7) (bs 20 255) rfl (SP.nil SB8.sl) rfl (fun w' hw'=>(E.fieldAddr zaO kB3)) ?_
       refine FB.t (i:=8) (bs 20 511) rfl (SP.nil SB8.sl) rfl (fun w' hw'=>(E.load rfl (zag Tryz.isAgg3 ((at49.mono iAV).now hw') rfl))) ?_
       obtain ⟨p73,cs74,pt75,l76,at77,rel78⟩:=p1.at hx81
       obtain ⟨v82,rfl,h83⟩:=zap rel78
       refine FB.t (i:=9) (bs 20 1023) rfl (SP.nil SB8.sl) rfl (fun w' hw'=>(E.indexAddr te61 rfl rfl pt75)) ?_
       refine FB.t (i:=10) (bs 20 2047) rfl (SP.nil SB8.sl) rfl (fun w' hw'=>(E.fieldAddr zav rfl)) ?_
       refine FB.t (i:=11) (bs 20 4095) rfl (SP.nil SB8.sl) rfl (fun w' hw'=>(E.load rfl (zag Tryz.isAgg52 ((at77.mono ((i27.tr i48).tr iAV)).now hw') rfl))) ?_
       refine FB.t (i:=12) (bs 20 8191) rfl (SP.nil SB8.sl) rfl (fun w' hw'=>(E.fieldAddr zbi kB3)) ?_
       refine FB.t (i:=13) (bs 20 16383) rfl (SP.nil SB8.sl) rfl (fun w' hw'=>(E.load rfl (zag Tryz.isAgg3 ((at49.mono iAV).now hw') rfl))) ?_
       refine FB.all1 (i:=14) (by kernel_rfl) ?_
       ·
        refine FC.call (l':=(bs 20 32767)) rfl (by kernel_rfl) rfl rfl rfl (E.call Tryz.call103 (A3 rfl rfl rfl)) (zb3 SB8.sl v71 x69.clause (h72.mono ((i27.tr i48).tr iAV)) v82 x79.clause (h83.mono ((i27.tr i48).tr iAV)) x35.pivot hrAa) ?_
        rintro e wAc ⟨HAb,vAf,nAg,csAh,rfl,rAe,elsAi⟩
        refine ⟨_,rfl,?_⟩
        have elsAi:=elsAi.mono (up_le SB8.size)
        have SAd:=SB8.join (l':=[.row 3 1 vAf nAg csAh]) rAe rfl
        refine ⟨(SP.nil (Sl.of_inc rAe.run.inc SAd.sl)),?_⟩
        refine FB.t (i:=15) (bs 20 65535) rfl (SP.nil (Sl.of_inc rAe.run.inc SAd.sl)) rfl (fun w' hw'=>(E.move (v:=Value.tuple #[vAf,Value.bool r84.2]) rfl)) ?_
        refine FB.t (i:=16) (bs 20 131071) rfl (SP.nil (Sl.of_inc rAe.run.inc SAd.sl)) rfl (fun w' hw'=>(E.extract (i:=0) rfl rfl)) ?_
        refine FB.t (i:=17) (bs 20 262143) rfl (SP.nil (Sl.of_inc rAe.run.inc SAd.sl)) rfl (fun w' hw'=>(E.extract (i:=1) rfl rfl)) ?_
        refine FB.t (i:=18) (bs 20 524287) rfl (SP.nil (Sl.of_inc rAe.run.inc SAd.sl)) rfl (fun w' hw'=>(E.assign (v:=vAf) rfl)) ?_
        refine FB.t (i:=19) (bs 20 1048575) rfl (SP.nil (Sl.of_inc rAe.run.inc SAd.sl)) rfl (fun w' hw'=>(E.assign (v:=Value.bool r84.2) rfl)) ?_
        exact FB.done (by kernel_rfl) ⟨_,_,_,_,SAd,rAe.run.inc,elsAi,kB3,rfl,rfl⟩
      ·
       rintro fAP wAr ⟨HAo,vAj,nAk,csAl,SAp,iAq,elsAm,kAQ,kAR,kAS⟩
       refine FW.seq (FW.region ?_)
       refine FL.v (E.move kAS) ?_
       refine FL.v (E.move (v:=Value.bool r84.2) rfl) ?_
       obtain ⟨t171,hqtB9,hp⟩:=bnd hp
       refine FL.cut 5 (fun f w=>∃ H:GH,St Ha wa H w [.row 3 1 vAj nAk csAl]∧Inc HAo H∧f 109=Value.bool t171) ?_ ?_
       ·
        clear hp;have hp:=hqtB9;clear hqtB9
        rcases ifB hp with ⟨cBf,hp⟩|⟨cBf,hp⟩
        ·
         refine FL.val (zac rfl rfl rfl cBf) rfl rfl (E.move kAR) ?_
         refine FL.val (zac rfl rfl rfl cBf) rfl rfl (E.fieldAddr zav kAQ) ?_
         refine FL.val (zac rfl rfl rfl cBf) rfl rfl (E.load rfl (zag Tryz.isAgg52 ((at49.mono (iAV.tr iAq)).now SAp.sl) rfl)) ?_
         obtain ⟨HBg,SBh,iBi,hBj,nvBk⟩:=SAp.sealRowU (i:=0) (l':=[]) rfl elsAm (by decide) rfl
         obtain ⟨rBl,hrBm,hp⟩:=bnd hp
         refine FL.call (zac rfl rfl rfl cBf) rfl rfl (E.call Tryz.call166 (A2 rfl rfl)) (w_spec_l1Same SBh.sl vAj r84.1 (hBj.mono upI) v37 x35.clause (h38.mono ((((i27.tr i48).tr iAV).tr iAq).tr iBi)) hrBm) ?_
         rintro e wBn ⟨rfl,rBo⟩
         refine ⟨_,rfl,?_⟩
         have rBo:=Run.lend iBi SAp.sl rBo
         have SBp:=SAp.call rBo
         obtain rfl:=Option.some.inj hp
         refine FL.v (E.pickT rfl cBf rfl) ?_
         exact FL.nil ⟨rfl,_,SBp,(Inc.rfl _),rfl⟩
        ·
         refine FL.skip (wF_no rfl rfl rfl cBf) rfl ?_
         refine FL.skip (wF_no rfl rfl rfl cBf) rfl ?_
         refine FL.skip (wF_no rfl rfl rfl cBf) rfl ?_
         refine FL.skip (wF_no rfl rfl rfl cBf) rfl ?_
         obtain rfl:=Option.some.inj hp
         refine FL.v (E.pickF rfl cBf rfl) ?_
         exact FL.nil ⟨rfl,_,SAp,(Inc.rfl _),rfl⟩
       rintro fBe wBd ⟨HBa,SBb,iBc,kBq⟩
       refine FL.v (E.assign kBq) ?_
       refine FL.nil ?_
       refine FW.ret ?_
       obtain rfl:=Option.some.inj hp
       exact ⟨.inr rfl,res1 rfl rfl ⟨rfl,SBb.back⟩⟩

theorem w_spec_l7Wrong {Ha:GH} {wa:World} (hs:Sl Ha wa) (a0:Cnf) (v0_1:Value) (p0_1:RSl Ha (eL eI 1) 1 v0_1 a0.clauses) (v1:Value) (a1:List zaa) (p1:RSl Ha zah 4 v1 a1) {r:Int} (hp:(PF.zcU a0 a1)=some r) :
  Calls Tryz.prog 172 #[Value.agg #[Value.int .i64 a0.vars,v0_1],v1] wa (Sc Ha wa (Value.int .i64 r)):=by
 unfold PF.zcU at hp
 have S0:=St.init hs
 refine zaj (N:=18) (args:=[Value.agg #[Value.int .i64 a0.vars,v0_1],v1]) Tryz.func172 rfl rfl rfl ?_
 refine FW.seq (FW.region ?_)
 obtain ⟨b21,w22,run23,S24⟩:=S0.box (P:=Tryz.prog) 26 [Value.int .i64 a0.vars,v0_1] (v:=Value.agg #[Value.int .i64 a0.vars,v0_1]) rfl (zab rfl (zab p0_1.one zae))
 refine FL.v (E.box rfl run23) ?_
 obtain ⟨H25,S26,i27,at28⟩:=S24.sealBox (i:=0) (l':=[]) rfl rfl
 refine FL.v (E.assign (v:=Value.int .i64 0) rfl) ?_
 refine FL.nil (FW.seq (FW.seq (FW.region ?_)))
 refine FL.v (E.assign (v:=Value.int .i64 0) rfl) ?_
 refine FL.nil ?_
 obtain ⟨q30,hq,hp⟩:=bndR hp
 refine FW.block ?_
 refine FW.mono (FW.forL (S:=Unit) (X:=Int) (fun (i30:Nat) (s30:Unit) f w=>∃ H:GH,St Ha wa H w []∧Inc H25 H∧f 5=Value.int .i64 ((i30:Nat):Int)∧f 1=v1∧f 2=Value.pointer (some ⟨b21,0,none⟩)) (fun q e f w=>match q with|.go s30=>e=Exit.exit 0∧(∃ H:GH,St Ha wa H w []∧Inc H25 H)|.rt x=>((e=Exit.ret)∧(fun e f w=>(e=Exit.normal∨e=Exit.ret)∧∀ a,Fr (δ:=[]) 18 a f→∃ v,(results Tryz.f172 a.tmps).run Tryz.prog w=.ok v w∧(Sc Ha wa (Value.int .i64 x)) (.returned v) w) e f w)) hq ⟨_,S26,(Inc.rfl _),rfl,rfl,rfl⟩ ?_ ?_) ?_
 ·
  clear hp hq
  rintro i30 y29 s30 f49 w48 ⟨H45,S46,i47,k50,k51,k52⟩ hx30 o59 hp
  refine FW.seq (FW.seq (FW.region ?_))
  refine FL.v (E.move k50) ?_
  refine FL.v (E.move k51) ?_
  refine FL.v (E.lenP te61 rfl p1) ?_
  refine FL.v (E.lssT rfl rfl (zaF hx30)) ?_
  refine FL.nil ?_
  refine FW.condT rfl rfl ?_
  refine FW.skip (FW.seq (FW.block (FW.seq (FW.region ?_))))
  refine FL.v (E.load k52 (zal Tryz.isAgg26 Tryz.sizeOf26 ((at28.mono i47).now S46.sl) rfl)) ?_
  refine FL.v (E.move k51) ?_
  refine FL.v (E.move k50) ?_
  obtain ⟨r53,hr54,hp⟩:=bnd hp
  refine FL.call rfl rfl rfl (E.call Tryz.call226 (A3 rfl rfl rfl)) (w_spec_l7Correct S46.sl a0 v0_1 (p0_1.mono (i27.tr i47)) v1 a1 (p1.mono (i27.tr i47)) ((i30:Nat):Int) hr54) ?_
  rintro e w55 ⟨rfl,r56⟩
  refine ⟨_,rfl,?_⟩
  have S57:=S46.call r56
  refine FL.v (E.not rfl) ?_
  refine FL.nil ?_
  rcases ifB hp with ⟨c58,hp⟩|⟨c58,hp⟩
  ·
   refine FW.condT rfl c58 ?_
   refine FW.seq (FW.region ?_)
   refine FL.v (E.move k50) ?_
   refine FL.v (E.assign (v:=Value.int .i64 ((i30:Nat):Int)) rfl) ?_
   refine FL.nil ?_
   refine FW.ret ?_
   obtain rfl:=Option.some.inj hp
   exact ⟨nofun,rfl,⟨.inr rfl,res1 rfl rfl ⟨rfl,S57.back⟩⟩⟩
  ·
   refine FW.condF rfl c58 ?_
   refine FW.skip (FW.region ?_)
   refine FL.v (E.move k50) ?_
   refine FL.v (E.add rfl rfl) ?_
   refine FL.v (E.assign (v:=Value.int .i64 (wr (((i30:Nat):Int) + 1))) rfl) ?_
   refine FL.nil ?_
   obtain rfl:=Option.some.inj hp
   exact ⟨rfl,⟨_,S57,i47,(zaw rfl (zaB hx30) (p1.mono (i27.tr i47)).le),k51,k52⟩⟩
 ·
  clear hp hq
  rintro s30 f69 w68 ⟨H65,S66,i67,k70,k71,k72⟩
  refine FW.seq (FW.seq (FW.region ?_))
  refine FL.v (E.move k70) ?_
  refine FL.v (E.move k71) ?_
  refine FL.v (E.lenP te61 rfl p1) ?_
  refine FL.v (E.lss rfl rfl) ?_
  refine FL.nil ?_
  refine FW.condF rfl zaG ?_
  refine FW.exit ?_
  exact ⟨nofun,rfl,⟨_,S66,i67⟩⟩
 ·
  clear hq
  intro e f64 w63 hD
  rcases q30 with s30|x30
  ·
   obtain ⟨rfl,hD⟩:=hD
   obtain ⟨H60,S61,i62⟩:=hD
   replace hp:=el_go hp
   refine FW.seq (FW.region ?_)
   refine FL.v (E.assign (v:=Value.int .i64 (-1)) rfl) ?_
   refine FL.nil ?_
   refine FW.ret ?_
   obtain rfl:=Option.some.inj hp
   exact ⟨.inr rfl,res1 rfl rfl ⟨rfl,S61.back⟩⟩
  ·
   obtain ⟨he,hL⟩:=hD
   replace hp:=el_rt hp
   obtain rfl:=Option.some.inj hp
   subst he
   exact hL

theorem zdX {Ha:GH} {wa:World} (hs:Sl Ha wa) (a0:Cnf) (v0_1:Value) (p0_1:RSl Ha (eL eI 1) 1 v0_1 a0.clauses) (v1:Value) (a1:List zaa) (p1:RSl Ha zah 4 v1 a1) {r:Bool} (hp:(PF.zbX a0 a1)=some r) :
  Calls Tryz.prog 102 #[Value.agg #[Value.int .i64 a0.vars,v0_1],v1] wa (Sc Ha wa (Value.bool r)):=by
 unfold PF.zbX at hp
 have S0:=St.init hs
 refine zaj (N:=14) (args:=[Value.agg #[Value.int .i64 a0.vars,v0_1],v1]) Tryz.func102 rfl rfl rfl ?_
 refine FW.seq (FW.region ?_)
 obtain ⟨b21,w22,run23,S24⟩:=S0.box (P:=Tryz.prog) 26 [Value.int .i64 a0.vars,v0_1] (v:=Value.agg #[Value.int .i64 a0.vars,v0_1]) rfl (zab rfl (zab p0_1.one zae))
 refine FL.v (E.box rfl run23) ?_
 obtain ⟨H25,S26,i27,at28⟩:=S24.sealBox (i:=0) (l':=[]) rfl rfl
 refine FL.v (E.assign (v:=Value.bool false) rfl) ?_
 refine FL.nil (FW.seq (FW.region ?_))
 refine FL.v (E.load rfl (zal Tryz.isAgg26 Tryz.sizeOf26 (at28.now S26.sl) rfl)) ?_
 refine FL.v (E.move (v:=v1) rfl) ?_
 obtain ⟨r29,hr30,hp⟩:=bnd hp
 refine FL.call rfl rfl rfl (E.call Tryz.call171 (A2 rfl rfl)) (w_spec_l7Asked S26.sl a0 v0_1 (p0_1.mono i27) v1 a1 (p1.mono i27) hr30) ?_
 rintro e w31 ⟨rfl,r32⟩
 refine ⟨_,rfl,?_⟩
 have S33:=S26.call r32
 refine FL.v (E.move (v:=Value.bool r29) rfl) ?_
 obtain ⟨t39,hqt39,hp⟩:=bnd hp
 refine FL.cut 5 (fun f w=>∃ H:GH,St Ha wa H w []∧Inc H25 H∧f 13=Value.bool t39) ?_ ?_
 ·
  clear hp;have hp:=hqt39;clear hqt39
  rcases ifB hp with ⟨c45,hp⟩|⟨c45,hp⟩
  ·
   refine FL.val (zac rfl rfl rfl c45) rfl rfl (E.load rfl (zal Tryz.isAgg26 Tryz.sizeOf26 (at28.now S33.sl) rfl)) ?_
   refine FL.val (zac rfl rfl rfl c45) rfl rfl (E.move (v:=v1) rfl) ?_
   obtain ⟨r46,hr47,hp⟩:=bnd hp
   refine FL.call (zac rfl rfl rfl c45) rfl rfl (E.call Tryz.call172 (A2 rfl rfl)) (w_spec_l7Wrong S33.sl a0 v0_1 (p0_1.mono i27) v1 a1 (p1.mono i27) hr47) ?_
   rintro e w48 ⟨rfl,r49⟩
   refine ⟨_,rfl,?_⟩
   have S50:=S33.call r49
   refine FL.val (zac rfl rfl rfl c45) rfl rfl (E.lss rfl rfl) ?_
   obtain rfl:=Option.some.inj hp
   refine FL.v (E.pickT rfl c45 rfl) ?_
   exact FL.nil ⟨rfl,_,S50,(Inc.rfl _),rfl⟩
  ·
   refine FL.skip (wF_no rfl rfl rfl c45) rfl ?_
   refine FL.skip (wF_no rfl rfl rfl c45) rfl ?_
   refine FL.skip (wF_no rfl rfl rfl c45) rfl ?_
   refine FL.skip (wF_no rfl rfl rfl c45) rfl ?_
   obtain rfl:=Option.some.inj hp
   refine FL.v (E.pickF rfl c45 rfl) ?_
   exact FL.nil ⟨rfl,_,S33,(Inc.rfl _),rfl⟩
 rintro f44 w43 ⟨H40,S41,i42,k51⟩
 refine FL.v (E.assign k51) ?_
 refine FL.nil ?_
 refine FW.ret ?_
 obtain rfl:=Option.some.inj hp
 exact ⟨.inr rfl,res1 rfl rfl ⟨rfl,S41.back⟩⟩

@[reducible] def zdB (Ha:GH) (wa:World) (r:(Cnf×(List zaa)×(List zaa)×Int)):Ending→World→Prop :=
 fun e w'=>∃ H':GH,∃ v0_1:Value,∃ v1:Value,∃ v2:Value,∃ n2:Nat,∃ c2:List Value,e=.returned (Value.tuple #[Value.agg #[Value.int .i64 r.1.vars,v0_1],v1,v2,Value.int .i64 r.2.2.2])∧St Ha wa H' w' [.row 134 4 v2 n2 c2]∧RSl (up wa.heap.size H') (eL eI 1) 1 v0_1 r.1.clauses∧RSl (up wa.heap.size H') zah 4 v1 r.2.1∧Els (up wa.heap.size H') zah 4 c2 r.2.2.1∧(bl c2).Nodup
set_option maxHeartbeats 4000000 in
theorem zeH {Ha:GH} {wa:World} (hs:Sl Ha wa) (v0:Value) (a0:List Int) (p0:RSl Ha (eN .u8) 1 v0 a0) {r:(Cnf×(List zaa)×(List zaa)×Int)} (hp:(PF.zcV a0)=some r) :
  Calls Tryz.prog 40 #[v0] wa (zdB Ha wa r):=by
 unfold PF.zcV at hp
 have S0:=St.init hs
 refine zaj (N:=93) (args:=[v0]) Tryz.func40 rfl rfl rfl ?_
 refine FW.seq (FW.region ?_)
 obtain ⟨b21,w22,run23,S24⟩:=S0.alloc (P:=Tryz.prog) 26 [Value.int .i64 0,Value.slice none 0 0] Tryz.zeroValue26 rfl (zab rfl (zab rfl zae))
 refine FL.v (E.alloc run23) ?_
 refine FL.v (E.assign (v:=Value.slice none 0 0) rfl) ?_
 refine FL.v (E.assign (v:=Value.slice none 0 0) rfl) ?_
 refine FL.v (E.assign (v:=Value.int .i64 0) rfl) ?_
 refine FL.nil (FW.seq (FW.region ?_))
 refine FL.v (E.move (v:=v0) rfl) ?_
 refine FL.v (E.build (B1 rfl) (run_build _ 103 #[(0,v0)] #[v0,Value.int .i64 0,Value.int .u64 0] (by obtain ⟨_,_,rfl⟩:=RSl.ln p0;rfl))) ?_
 obtain ⟨b25,w26,run27,S28⟩:=S24.box (P:=Tryz.prog) 103 [v0,Value.int .i64 0,Value.int .u64 0] (v:=Value.agg #[v0,Value.int .i64 0,Value.int .u64 0]) rfl (zab p0.one (zab rfl (zab rfl zae)))
 refine FL.v (E.box rfl run27) ?_
 refine FL.v (E.assign (v:=Value.pointer (some (⟨b25,0,none⟩:Addr))) rfl) ?_
 refine FL.nil (FW.seq (FW.region ?_))
 refine FL.v (E.move (v:=Value.pointer (some (⟨b25,0,none⟩:Addr))) rfl) ?_
 obtain ⟨r29,hr30,hp⟩:=bnd hp
 refine FL.call rfl rfl rfl (E.call Tryz.call100 (A1 rfl)) (w_spec_l1Cur_proof (L:=[.box b21 26 [Value.int .i64 0,Value.slice none 0 0]]) S28 (a0:=(l1Cur.mk a0 0 0)) p0 hr30) ?_
 rintro e w32 ⟨H31,v35,v37,v39,rfl,⟨S33,i34⟩,h36,h38,h40⟩
 refine ⟨_,rfl,?_⟩
 have S33:St Ha wa H31 w32 [.box b25 103 [v39,Value.int .i64 r29.2.2.at_,Value.int .u64 r29.2.2.seed],.box b21 26 [Value.int .i64 0,Value.slice none 0 0]]:=S33
 refine FL.v (E.move (v:=Value.tuple #[Value.agg #[Value.int .i64 r29.1.vars,v35],v37]) rfl) ?_
 refine FL.v (E.extract (i:=0) rfl rfl) ?_
 refine FL.v (E.extract (i:=1) rfl rfl) ?_
 obtain ⟨b41,w42,run43,S44⟩:=S33.alloc (P:=Tryz.prog) 26 [Value.int .i64 0,Value.slice none 0 0] Tryz.zeroValue26 rfl (zab rfl (zab rfl zae))
 refine FL.v (E.alloc run43) ?_
 obtain ⟨w45,run46,S47⟩:=S44.store0 (P:=Tryz.prog) (t:=26) (i:=0) (cs':=[Value.int .i64 r29.1.vars,v35]) (l':=[.box b41 26 [Value.int .i64 r29.1.vars,v35],.box b25 103 [v39,Value.int .i64 r29.2.2.at_,Value.int .u64 r29.2.2.seed],.box b21 26 [Value.int .i64 0,Value.slice none 0 0]]) (v:=Value.agg #[Value.int .i64 r29.1.vars,v35]) (c:=[Value.int .i64 r29.1.vars,v35]) rfl Tryz.sizeOf26 rfl rfl (zab rfl (zab h36.one zae)) (Nat.le_of_ble_eq_true rfl) rfl rfl
 refine FL.act rfl rfl (E.store rfl rfl run46) ?_
 obtain ⟨H48,S49,i50,at51⟩:=S47.sealBox (i:=0) (l':=[.box b25 103 [v39,Value.int .i64 r29.2.2.at_,Value.int .u64 r29.2.2.seed],.box b21 26 [Value.int .i64 0,Value.slice none 0 0]]) rfl rfl
 refine FL.v (E.assign (v:=v37) rfl) ?_
 refine FL.nil (FW.seq (FW.region ?_))
 refine FL.v (E.move (v:=Value.pointer (some (⟨b25,0,none⟩:Addr))) rfl) ?_
 refine FL.v (E.load rfl (zal Tryz.isAgg26 Tryz.sizeOf26 (at51.now S49.sl) rfl)) ?_
 obtain ⟨r52,hr53,hp⟩:=bnd hp
 refine FL.call rfl rfl rfl (E.call Tryz.call101 (A2 rfl rfl)) (zeo (L:=[.box b21 26 [Value.int .i64 0,Value.slice none 0 0]]) S49 (a0:=r29.2.2) (h40.mono i50) r29.1 v35 (h36.mono (upI.tr i50)) hr53) ?_
 rintro e w55 ⟨H54,v58,n59,cs60,v63,rfl,⟨S56,i57⟩,els61,nd62,h64⟩
 refine ⟨_,rfl,?_⟩
 have S56:St Ha wa H54 w55 [.row 134 4 v58 n59 cs60,.box b25 103 [v63,Value.int .i64 r52.2.at_,Value.int .u64 r52.2.seed],.box b21 26 [Value.int .i64 0,Value.slice none 0 0]]:=S56
 refine FL.v (E.assign (v:=v58) rfl) ?_
 refine FL.nil (FW.seq (FW.seq (FW.region ?_)))
 refine FL.v (E.load rfl (zal Tryz.isAgg26 Tryz.sizeOf26 ((at51.mono i57).now S56.sl) rfl)) ?_
 refine FL.v (E.move (v:=v37) rfl) ?_
 obtain ⟨r65,hr66,hp⟩:=bnd hp
 refine FL.call rfl rfl rfl (E.call Tryz.call102 (A2 rfl rfl)) (zdX S56.sl r29.1 v35 (h36.mono (upI.tr (i50.tr i57))) v37 r29.2.1 (h38.mono (upI.tr (i50.tr i57))) hr66) ?_
 rintro e w67 ⟨rfl,r68⟩
 refine ⟨_,rfl,?_⟩
 have S69:=S56.call r68
 refine FL.v (E.move (v:=Value.bool r65) rfl) ?_
 refine FL.cut 4 (fun f w=>∃ H:GH,St Ha wa H w [.row 134 4 v58 n59 cs60,.box b25 103 [v63,Value.int .i64 r52.2.at_,Value.int .u64 r52.2.seed],.box b21 26 [Value.int .i64 0,Value.slice none 0 0]]∧Inc H54 H∧f 2=Value.pointer (some (⟨b21,0,none⟩:Addr))∧f 6=Value.pointer (some (⟨b25,0,none⟩:Addr))∧f 7=Value.pointer (some ⟨b41,0,none⟩)∧f 8=v37∧f 9=v58∧f 33=Value.bool (bif r65 then (decide (0 < (len r29.2.1))) else false)) ?_ ?_
 ·
  rcases bcase r65 with c76|c76
  ·
   refine FL.val (zac rfl rfl rfl c76) rfl rfl (E.move (v:=v37) rfl) ?_
   refine FL.val (zac rfl rfl rfl c76) rfl rfl (E.lenP te61 rfl h38) ?_
   refine FL.val (zac rfl rfl rfl c76) rfl rfl (E.gtr rfl rfl) ?_
   refine FL.v (E.pickT rfl c76 rfl) ?_
   exact FL.nil ⟨rfl,_,S69,(Inc.rfl _),rfl,rfl,rfl,rfl,rfl,(congrArg Value.bool (bifT c76).symm)⟩
  ·
   refine FL.skip (wF_no rfl rfl rfl c76) rfl ?_
   refine FL.skip (wF_no rfl rfl rfl c76) rfl ?_
   refine FL.skip (wF_no rfl rfl rfl c76) rfl ?_
   refine FL.v (E.pickF rfl c76 rfl) ?_
   exact FL.nil ⟨rfl,_,S69,(Inc.rfl _),rfl,rfl,rfl,rfl,rfl,(congrArg Value.bool (bifF c76).symm)⟩
 rintro f75 w74 ⟨H71,S72,i73,k77,k78,k79,k80,k81,k82⟩
 refine FL.v (E.move k82) ?_
 refine FL.cut 4 (fun f w=>∃ H:GH,St Ha wa H w [.row 134 4 v58 n59 cs60,.box b25 103 [v63,Value.int .i64 r52.2.at_,Value.int .u64 r52.2.seed],.box b21 26 [Value.int .i64 0,Value.slice none 0 0]]∧Inc H71 H∧f 2=Value.pointer (some (⟨b21,0,none⟩:Addr))∧f 6=Value.pointer (some (⟨b25,0,none⟩:Addr))∧f 7=Value.pointer (some ⟨b41,0,none⟩)∧f 8=v37∧f 9=v58∧f 38=Value.bool (bif (bif r65 then (decide (0 < (len r29.2.1))) else false) then (decide (0 < (len r52.1))) else false)) ?_ ?_
 ·
  rcases bcase (bif r65 then (decide (0 < (len r29.2.1))) else false) with c89|c89
  ·
   refine FL.val (zac rfl rfl rfl c89) rfl rfl (E.move k81) ?_
   refine FL.val (zac rfl rfl rfl c89) rfl rfl (E.lenO te61 rfl S72 (i:=0) rfl els61 (by decide)) ?_
   refine FL.val (zac rfl rfl rfl c89) rfl rfl (E.gtr rfl rfl) ?_
   refine FL.v (E.pickT rfl c89 rfl) ?_
   exact FL.nil ⟨rfl,_,S72,(Inc.rfl _),k77,k78,k79,k80,k81,(congrArg Value.bool (bifT c89).symm)⟩
  ·
   refine FL.skip (wF_no rfl rfl rfl c89) rfl ?_
   refine FL.skip (wF_no rfl rfl rfl c89) rfl ?_
   refine FL.skip (wF_no rfl rfl rfl c89) rfl ?_
   refine FL.v (E.pickF rfl c89 rfl) ?_
   exact FL.nil ⟨rfl,_,S72,(Inc.rfl _),k77,k78,k79,k80,k81,(congrArg Value.bool (bifF c89).symm)⟩
 rintro f88 w87 ⟨H84,S85,i86,k90,k91,k92,k93,k94,k95⟩
 refine FL.nil ?_
 rcases ifB hp with ⟨c96,hp⟩|⟨c96,hp⟩
 ·
  refine FW.condT k95 c96 ?_
  refine FW.seq (FW.region ?_)
  refine FL.v (E.assign (v:=Value.int .i64 1) rfl) ?_
  refine FL.nil ?_
  obtain ⟨q97,hq,hp⟩:=bndR hp
  refine FW.block ?_
  refine FW.mono (FW.iter (S:=((List Int)×Int×Int×Int)) (X:=(Cnf×(List zaa)×(List zaa)×Int)) (fun (s97:((List Int)×Int×Int×Int)) f w=>∃ H:GH,∃ v70:Value,St Ha wa H w [.row 134 4 v58 n59 cs60,.box b25 103 [v70,Value.int .i64 s97.2.1,Value.int .u64 s97.2.2.1],.box b21 26 [Value.int .i64 0,Value.slice none 0 0]]∧Inc H84 H∧RSl H (eN .u8) 1 v70 s97.1∧f 2=Value.pointer (some (⟨b21,0,none⟩:Addr))∧f 6=Value.pointer (some (⟨b25,0,none⟩:Addr))∧f 7=Value.pointer (some ⟨b41,0,none⟩)∧f 8=v37∧f 9=v58∧f 10=Value.int .i64 s97.2.2.2) (fun q e f w=>match q with|.go s97=>e=Exit.exit 0∧(∃ H:GH,∃ v70:Value,St Ha wa H w [.row 134 4 v58 n59 cs60,.box b25 103 [v70,Value.int .i64 s97.2.1,Value.int .u64 s97.2.2.1],.box b21 26 [Value.int .i64 0,Value.slice none 0 0]]∧Inc H84 H∧RSl H (eN .u8) 1 v70 s97.1∧f 2=Value.pointer (some (⟨b21,0,none⟩:Addr))∧f 6=Value.pointer (some (⟨b25,0,none⟩:Addr))∧f 7=Value.pointer (some ⟨b41,0,none⟩)∧f 8=v37∧f 9=v58)|.rt x=>((e=Exit.ret)∧(fun e f w=>(e=Exit.normal∨e=Exit.ret)∧∀ a,Fr (δ:=[]) 93 a f→∃ v,(results Tryz.f40 a.tmps).run Tryz.prog w=.ok v w∧(zdB Ha wa x) (.returned v) w) e f w)) hq ⟨_,_,S85,(Inc.rfl _),(h64.mono (i73.tr i86)),k90,k91,k92,k93,k94,rfl⟩ ?_) ?_
  ·
   clear hp hq
   rintro s97 fA2 wA1 ⟨H98,v70,S99,iA0,h83,kA3,kA4,kA5,kA6,kA7,kA8⟩ oCX hp
   refine FW.seq (FW.seq (FW.region ?_))
   refine FL.v (E.move kA8) ?_
   refine FL.v (E.move kA6) ?_
   refine FL.v (E.lenP te61 rfl h38) ?_
   refine FL.v (E.leq rfl rfl) ?_
   refine FL.nil ?_
   rcases ifB hp with ⟨cA9,hp⟩|⟨cA9,hp⟩
   ·
    refine FW.condT rfl cA9 ?_
    refine FW.skip (FW.seq (FW.block (FW.seq (FW.region ?_))))
    refine FL.v (E.assign (v:=Value.int .i64 1) rfl) ?_
    refine FL.nil ?_
    obtain ⟨qAa,hq,hp⟩:=bndR hp
    refine FW.block ?_
    refine FW.mono (FW.iter (S:=((List Int)×Int×Int×Int)) (X:=(Lp ((List Int)×Int×Int×Int) (Cnf×(List zaa)×(List zaa)×Int))) (fun (sAa:((List Int)×Int×Int×Int)) f w=>∃ H:GH,∃ vAb:Value,St Ha wa H w [.row 134 4 v58 n59 cs60,.box b25 103 [vAb,Value.int .i64 sAa.2.1,Value.int .u64 sAa.2.2.1],.box b21 26 [Value.int .i64 0,Value.slice none 0 0]]∧Inc H98 H∧RSl H (eN .u8) 1 vAb sAa.1∧f 2=Value.pointer (some (⟨b21,0,none⟩:Addr))∧f 6=Value.pointer (some (⟨b25,0,none⟩:Addr))∧f 7=Value.pointer (some ⟨b41,0,none⟩)∧f 8=v37∧f 9=v58∧f 10=Value.int .i64 s97.2.2.2∧f 11=Value.int .i64 sAa.2.2.2) (fun q e f w=>match q with|.go sAa=>e=Exit.exit 2∧(∃ H:GH,∃ vAb:Value,St Ha wa H w [.row 134 4 v58 n59 cs60,.box b25 103 [vAb,Value.int .i64 sAa.2.1,Value.int .u64 sAa.2.2.1],.box b21 26 [Value.int .i64 0,Value.slice none 0 0]]∧Inc H98 H∧RSl H (eN .u8) 1 vAb sAa.1∧f 2=Value.pointer (some (⟨b21,0,none⟩:Addr))∧f 6=Value.pointer (some (⟨b25,0,none⟩:Addr))∧f 7=Value.pointer (some ⟨b41,0,none⟩)∧f 8=v37∧f 9=v58∧f 10=Value.int .i64 s97.2.2.2)|.rt x=>((e=Exit.ret)∧(Rd (fun (s97:((List Int)×Int×Int×Int)) f w=>∃ H:GH,∃ v70:Value,St Ha wa H w [.row 134 4 v58 n59 cs60,.box b25 103 [v70,Value.int .i64 s97.2.1,Value.int .u64 s97.2.2.1],.box b21 26 [Value.int .i64 0,Value.slice none 0 0]]∧Inc H84 H∧RSl H (eN .u8) 1 v70 s97.1∧f 2=Value.pointer (some (⟨b21,0,none⟩:Addr))∧f 6=Value.pointer (some (⟨b25,0,none⟩:Addr))∧f 7=Value.pointer (some ⟨b41,0,none⟩)∧f 8=v37∧f 9=v58∧f 10=Value.int .i64 s97.2.2.2) (fun q e f w=>match q with|.go s97=>e=Exit.exit 0∧(∃ H:GH,∃ v70:Value,St Ha wa H w [.row 134 4 v58 n59 cs60,.box b25 103 [v70,Value.int .i64 s97.2.1,Value.int .u64 s97.2.2.1],.box b21 26 [Value.int .i64 0,Value.slice none 0 0]]∧Inc H84 H∧RSl H (eN .u8) 1 v70 s97.1∧f 2=Value.pointer (some (⟨b21,0,none⟩:Addr))∧f 6=Value.pointer (some (⟨b25,0,none⟩:Addr))∧f 7=Value.pointer (some ⟨b41,0,none⟩)∧f 8=v37∧f 9=v58)|.rt x=>((e=Exit.ret)∧(fun e f w=>(e=Exit.normal∨e=Exit.ret)∧∀ a,Fr (δ:=[]) 93 a f→∃ v,(results Tryz.f40 a.tmps).run Tryz.prog w=.ok v w∧(zdB Ha wa x) (.returned v) w) e f w)) x) e f w)) hq ⟨_,_,S99,(Inc.rfl _),h83,kA3,kA4,kA5,kA6,kA7,kA8,rfl⟩ ?_) ?_
    ·
     clear hp hq
     rintro sAa fAh wAg ⟨HAd,vAb,SAe,iAf,hAc,kAi,kAj,kAk,kAl,kAm,kAn,kAo⟩ oCL hp
     refine FW.seq (FW.seq (FW.region ?_))
     refine FL.v (E.move kAo) ?_
     refine FL.v (E.move kAm) ?_
     refine FL.v (E.lenO te61 rfl SAe (i:=0) rfl els61 (by decide)) ?_
     refine FL.v (E.leq rfl rfl) ?_
     refine FL.nil ?_
     rcases ifB hp with ⟨cAp,hp⟩|⟨cAp,hp⟩
     ·
      refine FW.condT rfl cAp ?_
      refine FW.skip (FW.seq (FW.block (FW.seq (FW.region ?_))))
      refine FL.v (E.assign (v:=Value.int .i64 1) rfl) ?_
      refine FL.nil ?_
      obtain ⟨qAq,hq,hp⟩:=bndR hp
      refine FW.block ?_
      refine FW.mono (FW.iter (S:=((List Int)×Int×Int×Int)) (X:=(Lp ((List Int)×Int×Int×Int) (Lp ((List Int)×Int×Int×Int) (Cnf×(List zaa)×(List zaa)×Int)))) (fun (sAq:((List Int)×Int×Int×Int)) f w=>∃ H:GH,∃ vAr:Value,St Ha wa H w [.row 134 4 v58 n59 cs60,.box b25 103 [vAr,Value.int .i64 sAq.2.1,Value.int .u64 sAq.2.2.1],.box b21 26 [Value.int .i64 0,Value.slice none 0 0]]∧Inc HAd H∧RSl H (eN .u8) 1 vAr sAq.1∧f 2=Value.pointer (some (⟨b21,0,none⟩:Addr))∧f 6=Value.pointer (some (⟨b25,0,none⟩:Addr))∧f 7=Value.pointer (some ⟨b41,0,none⟩)∧f 8=v37∧f 9=v58∧f 10=Value.int .i64 s97.2.2.2∧f 11=Value.int .i64 sAa.2.2.2∧f 12=Value.int .i64 sAq.2.2.2) (fun q e f w=>match q with|.go sAq=>e=Exit.exit 4∧(∃ H:GH,∃ vAr:Value,St Ha wa H w [.row 134 4 v58 n59 cs60,.box b25 103 [vAr,Value.int .i64 sAq.2.1,Value.int .u64 sAq.2.2.1],.box b21 26 [Value.int .i64 0,Value.slice none 0 0]]∧Inc HAd H∧RSl H (eN .u8) 1 vAr sAq.1∧f 2=Value.pointer (some (⟨b21,0,none⟩:Addr))∧f 6=Value.pointer (some (⟨b25,0,none⟩:Addr))∧f 7=Value.pointer (some ⟨b41,0,none⟩)∧f 8=v37∧f 9=v58∧f 10=Value.int .i64 s97.2.2.2∧f 11=Value.int .i64 sAa.2.2.2)|.rt x=>((e=Exit.ret)∧(Rd (fun (sAa:((List Int)×Int×Int×Int)) f w=>∃ H:GH,∃ vAb:Value,St Ha wa H w [.row 134 4 v58 n59 cs60,.box b25 103 [vAb,Value.int .i64 sAa.2.1,Value.int .u64 sAa.2.2.1],.box b21 26 [Value.int .i64 0,Value.slice none 0 0]]∧Inc H98 H∧RSl H (eN .u8) 1 vAb sAa.1∧f 2=Value.pointer (some (⟨b21,0,none⟩:Addr))∧f 6=Value.pointer (some (⟨b25,0,none⟩:Addr))∧f 7=Value.pointer (some ⟨b41,0,none⟩)∧f 8=v37∧f 9=v58∧f 10=Value.int .i64 s97.2.2.2∧f 11=Value.int .i64 sAa.2.2.2) (fun q e f w=>match q with|.go sAa=>e=Exit.exit 2∧(∃ H:GH,∃ vAb:Value,St Ha wa H w [.row 134 4 v58 n59 cs60,.box b25 103 [vAb,Value.int .i64 sAa.2.1,Value.int .u64 sAa.2.2.1],.box b21 26 [Value.int .i64 0,Value.slice none 0 0]]∧Inc H98 H∧RSl H (eN .u8) 1 vAb sAa.1∧f 2=Value.pointer (some (⟨b21,0,none⟩:Addr))∧f 6=Value.pointer (some (⟨b25,0,none⟩:Addr))∧f 7=Value.pointer (some ⟨b41,0,none⟩)∧f 8=v37∧f 9=v58∧f 10=Value.int .i64 s97.2.2.2)|.rt x=>((e=Exit.ret)∧(Rd (fun (s97:((List Int)×Int×Int×Int)) f w=>∃ H:GH,∃ v70:Value,St Ha wa H w [.row 134 4 v58 n59 cs60,.box b25 103 [v70,Value.int .i64 s97.2.1,Value.int .u64 s97.2.2.1],.box b21 26 [Value.int .i64 0,Value.slice none 0 0]]∧Inc H84 H∧RSl H (eN .u8) 1 v70 s97.1∧f 2=Value.pointer (some (⟨b21,0,none⟩:Addr))∧f 6=Value.pointer (some (⟨b25,0,none⟩:Addr))∧f 7=Value.pointer (some ⟨b41,0,none⟩)∧f 8=v37∧f 9=v58∧f 10=Value.int .i64 s97.2.2.2) (fun q e f w=>match q with|.go s97=>e=Exit.exit 0∧(∃ H:GH,∃ v70:Value,St Ha wa H w [.row 134 4 v58 n59 cs60,.box b25 103 [v70,Value.int .i64 s97.2.1,Value.int .u64 s97.2.2.1],.box b21 26 [Value.int .i64 0,Value.slice none 0 0]]∧Inc H84 H∧RSl H (eN .u8) 1 v70 s97.1∧f 2=Value.pointer (some (⟨b21,0,none⟩:Addr))∧f 6=Value.pointer (some (⟨b25,0,none⟩:Addr))∧f 7=Value.pointer (some ⟨b41,0,none⟩)∧f 8=v37∧f 9=v58)|.rt x=>((e=Exit.ret)∧(fun e f w=>(e=Exit.normal∨e=Exit.ret)∧∀ a,Fr (δ:=[]) 93 a f→∃ v,(results Tryz.f40 a.tmps).run Tryz.prog w=.ok v w∧(zdB Ha wa x) (.returned v) w) e f w)) x) e f w)) x) e f w)) hq ⟨_,_,SAe,(Inc.rfl _),hAc,kAi,kAj,kAk,kAl,kAm,kAn,kAo,rfl⟩ ?_) ?_
      ·
       clear hp hq
       rintro sAq fAx wAw ⟨HAt,vAr,SAu,iAv,hAs,kAz,kAA,kAB,kAC,kAD,kAE,kAF,kAG⟩ oCy hp
       refine FW.seq (FW.seq (FW.region ?_))
       refine FL.v (E.move kAG) ?_
       refine FL.v (E.fieldAddr zaC kAB) ?_
       refine FL.v (E.load rfl (zag Tryz.isAgg3 ((at51.mono (((((i57.tr i73).tr i86).tr iA0).tr iAf).tr iAv)).now SAu.sl) rfl)) ?_
       refine FL.v (E.leq rfl rfl) ?_
       refine FL.nil ?_
       rcases ifB hp with ⟨cAH,hp⟩|⟨cAH,hp⟩
       ·
        refine FW.condT rfl cAH ?_
        refine FW.skip (FW.seq (FW.block (FW.seq ?_)))
        obtain ⟨xAR,hxAS,hp⟩:=bnd hp
        obtain ⟨xB1,hxB2,hp⟩:=bnd hp
        obtain ⟨rB6,hrB7,hp⟩:=bnd hp
        refine FW.drawB (SX Ha wa HAt [.row 134 4 v58 n59 cs60]) (fun f w=>∃ H:GH,St Ha wa H w [.row 134 4 v58 n59 cs60,.box b25 103 [vAr,Value.int .i64 sAq.2.1,Value.int .u64 sAq.2.2.1],.box b21 26 [Value.int .i64 0,Value.slice none 0 0]]∧Inc HAt H∧f 2=Value.pointer (some (⟨b21,0,none⟩:Addr))∧f 6=Value.pointer (some (⟨b25,0,none⟩:Addr))∧f 7=Value.pointer (some ⟨b41,0,none⟩)∧f 8=v37∧f 9=v58∧f 10=Value.int .i64 s97.2.2.2∧f 11=Value.int .i64 sAa.2.2.2∧f 12=Value.int .i64 sAq.2.2.2∧f 14=Value.bool rB6.2) (by kernel_rfl) SAu.sl ?_ ?_
        ·
         intro wAI rAJ
         have SAK:=SAu.call rAJ
         refine FB.t (i:=0) (bs 19 1) rfl (SP.nil ⟨_,(SAK.sel [0] (by decide) rfl),(Inc.rfl _)⟩) rfl (fun w' hw'=>(E.move kAC)) ?_
         refine FB.t (i:=1) (bs 19 3) rfl (SP.nil ⟨_,(SAK.sel [0] (by decide) rfl),(Inc.rfl _)⟩) rfl (fun w' hw'=>(E.move kAE)) ?_
         refine FB.t (i:=2) (bs 19 7) rfl (SP.nil ⟨_,(SAK.sel [0] (by decide) rfl),(Inc.rfl _)⟩) rfl (fun w' hw'=>(E.sub rfl rfl)) ?_
         obtain ⟨pAL,csAM,ptAN,lAO,atAP,relAQ⟩:=h38.at hxAS
         obtain ⟨vAT,rfl,hAU⟩:=zap relAQ
         refine FB.t (i:=3) (bs 19 15) rfl (SP.nil ⟨_,(SAK.sel [0] (by decide) rfl),(Inc.rfl _)⟩) rfl (fun w' hw'=>(E.indexAddr te61 rfl rfl ptAN)) ?_
         refine FB.t (i:=4) (bs 19 31) rfl (SP.nil ⟨_,(SAK.sel [0] (by decide) rfl),(Inc.rfl _)⟩) rfl (fun w' hw'=>(E.fieldAddr zav rfl)) ?_
         refine FB.t (i:=5) (bs 19 63) rfl (SP.nil ⟨_,(SAK.sel [0] (by decide) rfl),(Inc.rfl _)⟩) rfl (fun w' hw'=>(E.load rfl (zag Tryz.isAgg52 ((atAP.mono (upI.tr ((((((i50.tr i57).tr i73).tr i86).tr iA0).tr iAf).tr iAv))).now hw'.sl) rfl))) ?_
         refine FB.t (i:=6) (bs 19 127) rfl (SP.nil ⟨_,(SAK.sel [0] (by decide) rfl),(Inc.rfl _)⟩) rfl (fun w' hw'=>(E.move kAD)) ?_
         refine FB.t (i:=7) (bs 19 255) rfl (SP.nil ⟨_,(SAK.sel [0] (by decide) rfl),(Inc.rfl _)⟩) rfl (fun w' hw'=>(E.move kAF)) ?_
         refine FB.t (i:=8) (bs 19 511) rfl (SP.nil ⟨_,(SAK.sel [0] (by decide) rfl),(Inc.rfl _)⟩) rfl (fun w' hw'=>(E.sub rfl rfl)) ?_
         obtain ⟨pAV,csAW,ptAX,lAY,atAZ,relB0,hallB3⟩:=SAK.row_atA (i:=0) rfl els61 (by decide) hxB2
         obtain ⟨vB4,rfl,hB5⟩:=zap relB0
         refine FB.t (i:=9) (bs 19 1023) rfl (SP.nil ⟨_,(SAK.sel [0] (by decide) rfl),(Inc.rfl _)⟩) rfl (fun w' hw'=>(E.indexAddr te61 rfl rfl ptAX)) ?_
         refine FB.t (i:=10) (bs 19 2047) rfl (SP.nil ⟨_,(SAK.sel [0] (by decide) rfl),(Inc.rfl _)⟩) rfl (fun w' hw'=>(E.fieldAddr zav rfl)) ?_
         refine FB.t (i:=11) (bs 19 4095) rfl (SP.nil ⟨_,(SAK.sel [0] (by decide) rfl),(Inc.rfl _)⟩) rfl (fun w' hw'=>(E.load rfl (zag Tryz.isAgg52 (hw'.use fun _ st=>hallB3 _ _ _ 0 st rfl) rfl))) ?_
         refine FB.t (i:=12) (bs 19 8191) rfl (SP.nil ⟨_,(SAK.sel [0] (by decide) rfl),(Inc.rfl _)⟩) rfl (fun w' hw'=>(E.move kAG)) ?_
         refine FB.all1 (i:=13) (by kernel_rfl) ?_
         ·
          refine FC.call (l':=(bs 19 16383)) rfl (by kernel_rfl) rfl rfl rfl (E.call Tryz.call103 (A3 rfl rfl rfl)) (zb3 SAK.sl vAT xAR.clause (hAU.mono (upI.tr ((((((i50.tr i57).tr i73).tr i86).tr iA0).tr iAf).tr iAv))) vB4 xB1.clause (hB5.mono (upI.tr ((((i73.tr i86).tr iA0).tr iAf).tr iAv))) sAq.2.2.2 hrB7) ?_
          rintro e wB9 ⟨HB8,vBc,nBd,csBe,rfl,rBb,elsBf⟩
          refine ⟨_,rfl,?_⟩
          have elsBf:=elsBf.mono (up_le SAK.size)
          have SBa:=SAK.join (l':=[.row 3 1 vBc nBd csBe,.row 134 4 v58 n59 cs60,.box b25 103 [vAr,Value.int .i64 sAq.2.1,Value.int .u64 sAq.2.2.1],.box b21 26 [Value.int .i64 0,Value.slice none 0 0]]) rBb rfl
          refine ⟨(SP.nil ⟨_,(SBa.sel [1] (by decide) rfl),rBb.run.inc⟩),?_⟩
          refine FB.t (i:=14) (bs 19 32767) rfl (SP.nil ⟨_,(SBa.sel [1] (by decide) rfl),rBb.run.inc⟩) rfl (fun w' hw'=>(E.move (v:=Value.tuple #[vBc,Value.bool rB6.2]) rfl)) ?_
          refine FB.t (i:=15) (bs 19 65535) rfl (SP.nil ⟨_,(SBa.sel [1] (by decide) rfl),rBb.run.inc⟩) rfl (fun w' hw'=>(E.extract (i:=0) rfl rfl)) ?_
          refine FB.t (i:=16) (bs 19 131071) rfl (SP.nil ⟨_,(SBa.sel [1] (by decide) rfl),rBb.run.inc⟩) rfl (fun w' hw'=>(E.extract (i:=1) rfl rfl)) ?_
          refine FB.t (i:=17) (bs 19 262143) rfl (SP.nil ⟨_,(SBa.sel [1] (by decide) rfl),rBb.run.inc⟩) rfl (fun w' hw'=>(E.assign (v:=vBc) rfl)) ?_
          refine FB.t (i:=18) (bs 19 524287) rfl (SP.nil ⟨_,(SBa.sel [1] (by decide) rfl),rBb.run.inc⟩) rfl (fun w' hw'=>(E.assign (v:=Value.bool rB6.2) rfl)) ?_
          exact FB.done (by kernel_rfl) ⟨_,(SBa.sel [1,2,3] (by decide) rfl),rBb.run.inc,kAz,kAA,kAB,kAC,kAD,kAE,kAF,kAG,rfl⟩
        ·
         rintro fBk wBj ⟨HBg,SBh,iBi,kBl,kBm,kBn,kBo,kBp,kBq,kBr,kBs,kBt⟩
         refine FW.seq (FW.region ?_)
         refine FL.v (E.move kBt) ?_
         refine FL.v (E.move (v:=Value.bool rB6.2) rfl) ?_
         obtain ⟨t192,hqtBu,hp⟩:=bnd hp
         refine FL.cut 3 (fun f w=>∃ H:GH,∃ vBw:Value,St Ha wa H w [.row 134 4 v58 n59 cs60,.box b25 103 [vBw,Value.int .i64 t192.2.1,Value.int .u64 t192.2.2.1],.box b21 26 [Value.int .i64 0,Value.slice none 0 0]]∧Inc HBg H∧RSl H (eN .u8) 1 vBw t192.1∧f 2=Value.pointer (some (⟨b21,0,none⟩:Addr))∧f 6=Value.pointer (some (⟨b25,0,none⟩:Addr))∧f 7=Value.pointer (some ⟨b41,0,none⟩)∧f 8=v37∧f 9=v58∧f 10=Value.int .i64 s97.2.2.2∧f 11=Value.int .i64 sAa.2.2.2∧f 12=Value.int .i64 sAq.2.2.2∧f 78=Value.bool t192.2.2.2) ?_ ?_
         ·
          clear hp;have hp:=hqtBu;clear hqtBu
          rcases ifB hp with ⟨cBv,hp⟩|⟨cBv,hp⟩
          ·
           refine FL.val (zac rfl rfl rfl cBv) rfl rfl (E.move kBm) ?_
           obtain ⟨rBy,hrBz,hp⟩:=bnd hp
           have SBA:St Ha wa HBg wBj [.box b25 103 [vAr,Value.int .i64 sAq.2.1,Value.int .u64 sAq.2.2.1],.row 134 4 v58 n59 cs60,.box b21 26 [Value.int .i64 0,Value.slice none 0 0]]:=SBh.front 1 rfl rfl
           refine FL.call (zac rfl rfl rfl cBv) rfl rfl (E.call Tryz.call68 (A2 rfl rfl)) (zbn (L:=[.row 134 4 v58 n59 cs60,.box b21 26 [Value.int .i64 0,Value.slice none 0 0]]) SBA (a0:=(l1Cur.mk sAq.1 sAq.2.1 sAq.2.2.1)) (hAs.mono iBi) 3 hrBz) ?_
           rintro e wBC ⟨HBB,vBF,rfl,⟨SBD,iBE⟩,hBG⟩
           refine ⟨_,rfl,?_⟩
           have SBD:St Ha wa HBB wBC [.box b25 103 [vBF,Value.int .i64 rBy.2.at_,Value.int .u64 rBy.2.seed],.row 134 4 v58 n59 cs60,.box b21 26 [Value.int .i64 0,Value.slice none 0 0]]:=SBD
           refine FL.v (E.pickT rfl cBv rfl) ?_
           obtain rfl:=Option.some.inj hp
           exact FL.nil ⟨rfl,⟨_,_,(SBD.sel [1,0,2] (by decide) rfl),iBE,hBG,kBl,kBm,kBn,kBo,kBp,kBq,kBr,kBs,rfl⟩⟩
          ·
           refine FL.skip (wF_no rfl rfl rfl cBv) rfl ?_
           refine FL.skip (wF_no rfl rfl rfl cBv) rfl ?_
           refine FL.v (E.pickF rfl cBv rfl) ?_
           obtain rfl:=Option.some.inj hp
           exact FL.nil ⟨rfl,⟨_,_,SBh,(Inc.rfl _),(hAs.mono iBi),kBl,kBm,kBn,kBo,kBp,kBq,kBr,kBs,rfl⟩⟩
         clear hqtBu
         rintro fBL wBK ⟨HBH,vBw,SBI,iBJ,hBx,kBM,kBN,kBO,kBP,kBQ,kBR,kBS,kBT,kBU⟩
         refine FL.nil ?_
         rcases ifB hp with ⟨cBV,hp⟩|⟨cBV,hp⟩
         ·
          refine FW.condT kBU cBV ?_
          refine FW.seq ?_
          obtain ⟨xsBZ,hcC0,hp⟩:=bnd hp
          obtain ⟨xsC4,hcC5,hp⟩:=bnd hp
          refine FW.drawB (Sl HBH) (fun f w=>∃ H:GH,∃ vCg:Value,∃ nCh:Nat,∃ csCi:List Value,∃ vCl:Value,∃ vCn:Value,St Ha wa H w [.row 134 4 vCg nCh csCi,.box b21 26 [Value.int .i64 r29.1.vars,vCl]]∧Inc HBH H∧Els (up wa.heap.size H) zah 4 csCi xsC4∧RSl (up wa.heap.size H) (eL eI 1) 1 vCl r29.1.clauses∧RSl (up wa.heap.size H) zah 4 vCn xsBZ∧(bl csCi).Nodup∧f 2=Value.pointer (some (⟨b21,0,none⟩:Addr))∧f 3=vCn∧f 4=vCg∧f 5=Value.int .i64 sAq.2.2.2) (by kernel_rfl) SBI.sl ?_ ?_
          ·
           intro wBW rBX
           have SBY:=SBI.call rBX
           refine FB.t (i:=0) (bs 12 1) rfl (SP.nil SBY.sl) rfl (fun w' hw'=>(E.load kBO (zal Tryz.isAgg26 Tryz.sizeOf26 ((at51.mono (((((((i57.tr i73).tr i86).tr iA0).tr iAf).tr iAv).tr iBi).tr iBJ)).now hw') rfl))) ?_
           refine FB.t (i:=1) (bs 12 3) rfl (SP.nil SBY.sl) rfl (fun w' hw'=>(E.move kBP)) ?_
           refine FB.t (i:=2) (bs 12 7) rfl (SP.nil SBY.sl) rfl (fun w' hw'=>(E.move kBR)) ?_
           obtain ⟨vC1,runC2,hC3⟩:=h38.cut te61 hcC0 (lo:=none) (hi:=some (Value.int .i64 s97.2.2.2)) (.inl ⟨rfl,rfl⟩) (.inr ⟨_,rfl⟩)
           refine FB.t (i:=3) (bs 12 15) rfl (SP.nil SBY.sl) rfl (fun w' hw'=>(E.slice te61 rfl rfl (congrArg some rfl) rfl (runC2 _))) ?_
           refine FB.t (i:=4) (bs 12 31) rfl (SP.nil SBY.sl) rfl (fun w' hw'=>(E.move kBQ)) ?_
           refine FB.t (i:=5) (bs 12 63) rfl (SP.nil SBY.sl) rfl (fun w' hw'=>(E.move kBS)) ?_
           refine FB.t (i:=7) (bs 12 191) rfl (SP.nil SBY.sl) rfl (fun w' hw'=>(E.move kBT)) ?_
           refine FB.all2 (i:=6) (j:=8) (by kernel_rfl) ?_ ?_
           ·
            obtain ⟨vC6,nC7,csC8,runC9,SCa,elsCb,ndCc⟩:=SBY.cutRow te61 (kk:=.i64) (i:=0) rfl els61 hcC5
            have SCa:St Ha wa HBH wBW [.row 134 4 vC6 nC7 csC8,.box b25 103 [vBw,Value.int .i64 t192.2.1,Value.int .u64 t192.2.2.1],.box b21 26 [Value.int .i64 0,Value.slice none 0 0]]:=SCa
            refine FC.val (l':=(bs 12 255)) rfl (by kernel_rfl) rfl rfl rfl (E.slice te61 rfl rfl (congrArg some rfl) rfl (runC9 _)) ?_
            refine ⟨(SP.nil SCa.sl),?_⟩
            refine FB.all1 (i:=8) (by kernel_rfl) ?_
            ·
             obtain ⟨wCd,runCe,SCf⟩:=SCa.store0 (P:=Tryz.prog) (t:=26) (i:=2) (cs':=[Value.int .i64 r29.1.vars,v35]) (l':=[.row 134 4 vC6 nC7 csC8,.box b25 103 [vBw,Value.int .i64 t192.2.1,Value.int .u64 t192.2.2.1],.box b21 26 [Value.int .i64 r29.1.vars,v35]]) (v:=Value.agg #[Value.int .i64 r29.1.vars,v35]) (c:=[Value.int .i64 r29.1.vars,v35]) rfl Tryz.sizeOf26 rfl rfl (zab rfl (zab h36.one zae)) (Nat.le_of_ble_eq_true rfl) rfl rfl
             refine FC.act (l':=(bs 12 511)) rfl (by kernel_rfl) rfl rfl (E.store kBM rfl runCe) ?_
             refine ⟨(SP.nil SCf.sl),?_⟩
             refine FB.t (i:=9) (bs 12 1023) rfl (SP.nil SCf.sl) rfl (fun w' hw'=>(E.assign (v:=vC1) rfl)) ?_
             refine FB.t (i:=10) (bs 12 2047) rfl (SP.nil SCf.sl) rfl (fun w' hw'=>(E.assign (v:=vC6) rfl)) ?_
             refine FB.t (i:=11) (bs 12 4095) rfl (SP.nil SCf.sl) rfl (fun w' hw'=>(E.assign (v:=Value.int .i64 sAq.2.2.2) rfl)) ?_
             exact FB.done (by kernel_rfl) ⟨_,_,_,_,_,_,(SCf.sel [0,2] (by decide) rfl),(Inc.rfl _),(elsCb.mono (zaf ((((((i73.tr i86).tr iA0).tr iAf).tr iAv).tr iBi).tr iBJ))),(h36.mono (zaf ((((((((i50.tr i57).tr i73).tr i86).tr iA0).tr iAf).tr iAv).tr iBi).tr iBJ))),(hC3.mono (zaf ((((((((i50.tr i57).tr i73).tr i86).tr iA0).tr iAf).tr iAv).tr iBi).tr iBJ))),(ndCc nd62),kBM,rfl,rfl,rfl⟩
           ·
            obtain ⟨wCd,runCe,SCf⟩:=SBY.store0 (P:=Tryz.prog) (t:=26) (i:=2) (cs':=[Value.int .i64 r29.1.vars,v35]) (l':=[.row 134 4 v58 n59 cs60,.box b25 103 [vBw,Value.int .i64 t192.2.1,Value.int .u64 t192.2.2.1],.box b21 26 [Value.int .i64 r29.1.vars,v35]]) (v:=Value.agg #[Value.int .i64 r29.1.vars,v35]) (c:=[Value.int .i64 r29.1.vars,v35]) rfl Tryz.sizeOf26 rfl rfl (zab rfl (zab h36.one zae)) (Nat.le_of_ble_eq_true rfl) rfl rfl
            refine FC.act (l':=(bs 12 447)) rfl (by kernel_rfl) rfl rfl (E.store kBM rfl runCe) ?_
            refine ⟨(SP.nil SCf.sl),?_⟩
            refine FB.t (i:=9) (bs 12 959) rfl (SP.nil SCf.sl) rfl (fun w' hw'=>(E.assign (v:=vC1) rfl)) ?_
            refine FB.phase [] (fun w'=>w'=wCd) ?_
            obtain ⟨vC6,nC7,csC8,runC9,SCa,elsCb,ndCc⟩:=SCf.cutRow te61 (kk:=.i64) (i:=0) rfl els61 hcC5
            have SCa:St Ha wa HBH wCd [.row 134 4 vC6 nC7 csC8,.box b25 103 [vBw,Value.int .i64 t192.2.1,Value.int .u64 t192.2.2.1],.box b21 26 [Value.int .i64 r29.1.vars,v35]]:=SCa
            refine FB.u (i:=6) (bs 12 1023) [10,11] rfl (SP.on rfl (SP.nil SCf.sl)) rfl (E.slice te61 rfl rfl (congrArg some rfl) rfl (runC9 _)) ?_
            refine FB.t (i:=10) (bs 12 2047) rfl (SP.on rfl (SP.nil SCa.sl)) rfl (fun w' hw'=>(E.assign (v:=vC6) rfl)) ?_
            refine FB.t (i:=11) (bs 12 4095) rfl (SP.on rfl (SP.nil SCa.sl)) rfl (fun w' hw'=>(E.assign (v:=Value.int .i64 sAq.2.2.2) rfl)) ?_
            exact FB.done (by kernel_rfl) ⟨_,_,_,_,_,_,(SCa.sel [0,2] (by decide) rfl),(Inc.rfl _),(elsCb.mono (zaf ((((((i73.tr i86).tr iA0).tr iAf).tr iAv).tr iBi).tr iBJ))),(h36.mono (zaf ((((((((i50.tr i57).tr i73).tr i86).tr iA0).tr iAf).tr iAv).tr iBi).tr iBJ))),(hC3.mono (zaf ((((((((i50.tr i57).tr i73).tr i86).tr iA0).tr iAf).tr iAv).tr iBi).tr iBJ))),(ndCc nd62),kBM,rfl,rfl,rfl⟩
          ·
           rintro fCt wCs ⟨HCp,vCg,nCh,csCi,vCl,vCn,SCq,iCr,elsCj,hCm,hCo,ndCk,kCu,kCv,kCw,kCx⟩
           refine FW.ret ?_
           obtain rfl:=Option.some.inj hp
           exact ⟨nofun,rfl,⟨nofun,rfl,⟨nofun,rfl,⟨.inr rfl,resX_cttt rfl kCu (zaA Tryz.isAgg26 Tryz.sizeOf26 (SCq.box_now (i:=1) rfl) rfl) kCv kCw kCx ⟨_,_,_,_,_,_,rfl,(SCq.sel [0] (by decide) rfl),hCm,hCo,elsCj,ndCk⟩⟩⟩⟩⟩
         ·
          refine FW.condF kBU cBV ?_
          refine FW.skip (FW.region ?_)
          refine FL.v (E.move kBT) ?_
          refine FL.v (E.add rfl rfl) ?_
          refine FL.v (E.assign (v:=Value.int .i64 (wr (sAq.2.2.2 + 1))) rfl) ?_
          refine FL.nil ?_
          obtain rfl:=Option.some.inj hp
          exact ⟨rfl,⟨_,_,SBI,((iAv.tr iBi).tr iBJ),hBx,kBM,kBN,kBO,kBP,kBQ,kBR,kBS,rfl⟩⟩
       ·
        refine FW.condF rfl cAH ?_
        refine FW.exit ?_
        obtain rfl:=Option.some.inj hp
        exact ⟨nofun,rfl,⟨_,_,SAu,iAv,hAs,kAz,kAA,kAB,kAC,kAD,kAE,kAF⟩⟩
      ·
       clear hq
       intro e fCD wCC hD
       rcases qAq with sAq|xAq
       ·
        obtain ⟨rfl,hD⟩:=hD
        obtain ⟨HCz,vAr,SCA,iCB,hAs,kCE,kCF,kCG,kCH,kCI,kCJ,kCK⟩:=hD
        replace hp:=el_go hp
        refine FW.region ?_
        refine FL.v (E.move kCK) ?_
        refine FL.v (E.add rfl rfl) ?_
        refine FL.v (E.assign (v:=Value.int .i64 (wr (sAa.2.2.2 + 1))) rfl) ?_
        refine FL.nil ?_
        obtain rfl:=Option.some.inj hp
        exact ⟨rfl,⟨_,_,SCA,(iAf.tr iCB),hAs,kCE,kCF,kCG,kCH,kCI,kCJ,rfl⟩⟩
       ·
        obtain ⟨he,hL⟩:=hD
        replace hp:=el_rt hp
        obtain rfl:=Option.some.inj hp
        subst he
        exact hL
     ·
      refine FW.condF rfl cAp ?_
      refine FW.exit ?_
      obtain rfl:=Option.some.inj hp
      exact ⟨nofun,rfl,⟨_,_,SAe,iAf,hAc,kAi,kAj,kAk,kAl,kAm,kAn⟩⟩
    ·
     clear hq
     intro e fCQ wCP hD
     rcases qAa with sAa|xAa
     ·
      obtain ⟨rfl,hD⟩:=hD
      obtain ⟨HCM,vAb,SCN,iCO,hAc,kCR,kCS,kCT,kCU,kCV,kCW⟩:=hD
      replace hp:=el_go hp
      refine FW.region ?_
      refine FL.v (E.move kCW) ?_
      refine FL.v (E.add rfl rfl) ?_
      refine FL.v (E.assign (v:=Value.int .i64 (wr (s97.2.2.2 + 1))) rfl) ?_
      refine FL.nil ?_
      obtain rfl:=Option.some.inj hp
      exact ⟨rfl,⟨_,_,SCN,(iA0.tr iCO),hAc,kCR,kCS,kCT,kCU,kCV,rfl⟩⟩
     ·
      obtain ⟨he,hL⟩:=hD
      replace hp:=el_rt hp
      obtain rfl:=Option.some.inj hp
      subst he
      exact hL
   ·
    refine FW.condF rfl cA9 ?_
    refine FW.exit ?_
    obtain rfl:=Option.some.inj hp
    exact ⟨nofun,rfl,⟨_,_,S99,iA0,h83,kA3,kA4,kA5,kA6,kA7⟩⟩
  ·
   clear hq
   intro e fD2 wD1 hD
   rcases q97 with s97|x97
   ·
    obtain ⟨rfl,hD⟩:=hD
    obtain ⟨HCY,v70,SCZ,iD0,h83,kD3,kD4,kD5,kD6,kD7⟩:=hD
    replace hp:=el_go hp
    refine FW.seq ?_
    obtain ⟨rDl,hrDm,hp⟩:=bnd hp
    refine FW.drawB (Sl HCY) (fun f w=>∃ H:GH,∃ vDx:Value,∃ vDz:Value,St Ha wa H w [.row 134 4 v58 n59 cs60,.box b21 26 [Value.int .i64 r29.1.vars,vDx]]∧Inc HCY H∧RSl (up wa.heap.size H) (eL eI 1) 1 vDx r29.1.clauses∧RSl (up wa.heap.size H) zah 4 vDz r29.2.1∧f 2=Value.pointer (some (⟨b21,0,none⟩:Addr))∧f 3=vDz∧f 4=v58∧f 5=Value.int .i64 rDl.1) (by kernel_rfl) SCZ.sl ?_ ?_
    ·
     intro wD8 rD9
     have SDa:=SCZ.call rD9
     refine FB.t (i:=0) (bs 10 1) rfl (SP.nil SDa.sl) rfl (fun w' hw'=>(E.load kD5 (zal Tryz.isAgg26 Tryz.sizeOf26 ((at51.mono (((i57.tr i73).tr i86).tr iD0)).now hw') rfl))) ?_
     refine FB.t (i:=1) (bs 10 3) rfl (SP.nil SDa.sl) rfl (fun w' hw'=>(E.move kD6)) ?_
     refine FB.t (i:=2) (bs 10 7) rfl (SP.nil SDa.sl) rfl (fun w' hw'=>(E.move kD7)) ?_
     refine FB.t (i:=3) (bs 10 15) rfl (SP.nil SDa.sl) rfl (fun w' hw'=>(E.move kD4)) ?_
     refine FB.all1 (i:=4) (by kernel_rfl) ?_
     ·
      obtain ⟨vDb,wDc,runDd,SDe,elsDf⟩:=SDa.ints (P:=Tryz.prog) te52 (up wa.heap.size HCY) 4 [1,2,0,13]
      refine FC.val (l':=(bs 10 31)) rfl (by kernel_rfl) rfl rfl rfl (E.buildSlice (B4 rfl rfl rfl rfl) runDd) ?_
      refine ⟨(SP.nil SDe.sl),?_⟩
      refine FB.all1 (i:=5) (by kernel_rfl) ?_
      ·
       obtain ⟨HDg,SDh,iDi,hDj,nvDk⟩:=SDe.sealRowU (i:=0) (l':=[.row 134 4 v58 n59 cs60,.box b25 103 [v70,Value.int .i64 s97.2.1,Value.int .u64 s97.2.2.1],.box b21 26 [Value.int .i64 0,Value.slice none 0 0]]) rfl elsDf (by decide) rfl
       have SDn:St Ha wa HDg wDc [.box b25 103 [v70,Value.int .i64 s97.2.1,Value.int .u64 s97.2.2.1],.row 134 4 v58 n59 cs60,.box b21 26 [Value.int .i64 0,Value.slice none 0 0]]:=SDh.front 1 rfl rfl
       refine FC.call (l':=(bs 10 63)) rfl (by kernel_rfl) rfl rfl rfl (E.call Tryz.call104 (A2 rfl rfl)) (zbo (L:=[.row 134 4 v58 n59 cs60,.box b21 26 [Value.int .i64 0,Value.slice none 0 0]]) SDn (a0:=(l1Cur.mk s97.1 s97.2.1 s97.2.2.1)) (h83.mono iDi) vDb [1,2,0,13] (hDj.mono upI) hrDm) ?_
       rintro e wDp ⟨HDo,vDs,rfl,⟨SDq,iDr⟩,h315⟩
       refine ⟨_,rfl,?_⟩
       have SDq:St Ha wa HDo wDp [.box b25 103 [vDs,Value.int .i64 rDl.2.at_,Value.int .u64 rDl.2.seed],.row 134 4 v58 n59 cs60,.box b21 26 [Value.int .i64 0,Value.slice none 0 0]]:=SDq
       refine ⟨(SP.nil (Sl.of_inc (iDi.tr iDr) SDq.sl)),?_⟩
       refine FB.all1 (i:=6) (by kernel_rfl) ?_
       ·
        obtain ⟨wDu,runDv,SDw⟩:=SDq.store0 (P:=Tryz.prog) (t:=26) (i:=2) (cs':=[Value.int .i64 r29.1.vars,v35]) (l':=[.box b25 103 [vDs,Value.int .i64 rDl.2.at_,Value.int .u64 rDl.2.seed],.row 134 4 v58 n59 cs60,.box b21 26 [Value.int .i64 r29.1.vars,v35]]) (v:=Value.agg #[Value.int .i64 r29.1.vars,v35]) (c:=[Value.int .i64 r29.1.vars,v35]) rfl Tryz.sizeOf26 rfl rfl (zab rfl (zab h36.one zae)) (Nat.le_of_ble_eq_true rfl) rfl rfl
        refine FC.act (l':=(bs 10 127)) rfl (by kernel_rfl) rfl rfl (E.store kD3 rfl runDv) ?_
        refine ⟨(SP.nil (Sl.of_inc (iDi.tr iDr) SDw.sl)),?_⟩
        refine FB.t (i:=7) (bs 10 255) rfl (SP.nil (Sl.of_inc (iDi.tr iDr) SDw.sl)) rfl (fun w' hw'=>(E.assign (v:=v37) rfl)) ?_
        refine FB.t (i:=8) (bs 10 511) rfl (SP.nil (Sl.of_inc (iDi.tr iDr) SDw.sl)) rfl (fun w' hw'=>(E.assign (v:=v58) rfl)) ?_
        refine FB.t (i:=9) (bs 10 1023) rfl (SP.nil (Sl.of_inc (iDi.tr iDr) SDw.sl)) rfl (fun w' hw'=>(E.assign (v:=Value.int .i64 rDl.1) rfl)) ?_
        exact FB.done (by kernel_rfl) ⟨_,_,_,(SDw.sel [1,2] (by decide) rfl),(iDi.tr iDr),(h36.mono (zaf ((((((i50.tr i57).tr i73).tr i86).tr iD0).tr iDi).tr iDr))),(h38.mono (zaf ((((((i50.tr i57).tr i73).tr i86).tr iD0).tr iDi).tr iDr))),kD3,rfl,rfl,rfl⟩
    ·
     rintro fDF wDE ⟨HDB,vDx,vDz,SDC,iDD,hDy,hDA,kDG,kDH,kDI,kDJ⟩
     refine FW.ret ?_
     obtain rfl:=Option.some.inj hp
     exact ⟨.inr rfl,resX_cttt rfl kDG (zaA Tryz.isAgg26 Tryz.sizeOf26 (SDC.box_now (i:=1) rfl) rfl) kDH kDI kDJ ⟨_,_,_,_,_,_,rfl,(SDC.sel [0] (by decide) rfl),hDy,hDA,(els61.mono (zaf (((i73.tr i86).tr iD0).tr iDD))),nd62⟩⟩
   ·
    obtain ⟨he,hL⟩:=hD
    replace hp:=el_rt hp
    obtain rfl:=Option.some.inj hp
    subst he
    exact hL
 ·
  refine FW.condF k95 c96 ?_
  refine FW.skip (FW.seq ?_)
  obtain ⟨rDX,hrDY,hp⟩:=bnd hp
  refine FW.drawB (Sl H84) (fun f w=>∃ H:GH,∃ vE9:Value,∃ vEb:Value,St Ha wa H w [.row 134 4 v58 n59 cs60,.box b21 26 [Value.int .i64 r29.1.vars,vE9]]∧Inc H84 H∧RSl (up wa.heap.size H) (eL eI 1) 1 vE9 r29.1.clauses∧RSl (up wa.heap.size H) zah 4 vEb r29.2.1∧f 2=Value.pointer (some (⟨b21,0,none⟩:Addr))∧f 3=vEb∧f 4=v58∧f 5=Value.int .i64 rDX.1) (by kernel_rfl) S85.sl ?_ ?_
  ·
   intro wDK rDL
   have SDM:=S85.call rDL
   refine FB.t (i:=0) (bs 10 1) rfl (SP.nil SDM.sl) rfl (fun w' hw'=>(E.load k92 (zal Tryz.isAgg26 Tryz.sizeOf26 ((at51.mono ((i57.tr i73).tr i86)).now hw') rfl))) ?_
   refine FB.t (i:=1) (bs 10 3) rfl (SP.nil SDM.sl) rfl (fun w' hw'=>(E.move k93)) ?_
   refine FB.t (i:=2) (bs 10 7) rfl (SP.nil SDM.sl) rfl (fun w' hw'=>(E.move k94)) ?_
   refine FB.t (i:=3) (bs 10 15) rfl (SP.nil SDM.sl) rfl (fun w' hw'=>(E.move k91)) ?_
   refine FB.all1 (i:=4) (by kernel_rfl) ?_
   ·
    obtain ⟨vDN,wDO,runDP,SDQ,elsDR⟩:=SDM.ints (P:=Tryz.prog) te52 (up wa.heap.size H84) 4 [1,2,0,13]
    refine FC.val (l':=(bs 10 31)) rfl (by kernel_rfl) rfl rfl rfl (E.buildSlice (B4 rfl rfl rfl rfl) runDP) ?_
    refine ⟨(SP.nil SDQ.sl),?_⟩
    refine FB.all1 (i:=5) (by kernel_rfl) ?_
    ·
     obtain ⟨HDS,SDT,iDU,hDV,nvDW⟩:=SDQ.sealRowU (i:=0) (l':=[.row 134 4 v58 n59 cs60,.box b25 103 [v63,Value.int .i64 r52.2.at_,Value.int .u64 r52.2.seed],.box b21 26 [Value.int .i64 0,Value.slice none 0 0]]) rfl elsDR (by decide) rfl
     have SDZ:St Ha wa HDS wDO [.box b25 103 [v63,Value.int .i64 r52.2.at_,Value.int .u64 r52.2.seed],.row 134 4 v58 n59 cs60,.box b21 26 [Value.int .i64 0,Value.slice none 0 0]]:=SDT.front 1 rfl rfl
     refine FC.call (l':=(bs 10 63)) rfl (by kernel_rfl) rfl rfl rfl (E.call Tryz.call104 (A2 rfl rfl)) (zbo (L:=[.row 134 4 v58 n59 cs60,.box b21 26 [Value.int .i64 0,Value.slice none 0 0]]) SDZ (a0:=r52.2) (h64.mono ((i73.tr i86).tr iDU)) vDN [1,2,0,13] (hDV.mono upI) hrDY) ?_
     rintro e wE1 ⟨HE0,vE4,rfl,⟨SE2,iE3⟩,hE5⟩
     refine ⟨_,rfl,?_⟩
     have SE2:St Ha wa HE0 wE1 [.box b25 103 [vE4,Value.int .i64 rDX.2.at_,Value.int .u64 rDX.2.seed],.row 134 4 v58 n59 cs60,.box b21 26 [Value.int .i64 0,Value.slice none 0 0]]:=SE2
     refine ⟨(SP.nil (Sl.of_inc (iDU.tr iE3) SE2.sl)),?_⟩
     refine FB.all1 (i:=6) (by kernel_rfl) ?_
     ·
      obtain ⟨wE6,runE7,SE8⟩:=SE2.store0 (P:=Tryz.prog) (t:=26) (i:=2) (cs':=[Value.int .i64 r29.1.vars,v35]) (l':=[.box b25 103 [vE4,Value.int .i64 rDX.2.at_,Value.int .u64 rDX.2.seed],.row 134 4 v58 n59 cs60,.box b21 26 [Value.int .i64 r29.1.vars,v35]]) (v:=Value.agg #[Value.int .i64 r29.1.vars,v35]) (c:=[Value.int .i64 r29.1.vars,v35]) rfl Tryz.sizeOf26 rfl rfl (zab rfl (zab h36.one zae)) (Nat.le_of_ble_eq_true rfl) rfl rfl
      refine FC.act (l':=(bs 10 127)) rfl (by kernel_rfl) rfl rfl (E.store k90 rfl runE7) ?_
      refine ⟨(SP.nil (Sl.of_inc (iDU.tr iE3) SE8.sl)),?_⟩
      refine FB.t (i:=7) (bs 10 255) rfl (SP.nil (Sl.of_inc (iDU.tr iE3) SE8.sl)) rfl (fun w' hw'=>(E.assign (v:=v37) rfl)) ?_
      refine FB.t (i:=8) (bs 10 511) rfl (SP.nil (Sl.of_inc (iDU.tr iE3) SE8.sl)) rfl (fun w' hw'=>(E.assign (v:=v58) rfl)) ?_
      refine FB.t (i:=9) (bs 10 1023) rfl (SP.nil (Sl.of_inc (iDU.tr iE3) SE8.sl)) rfl (fun w' hw'=>(E.assign (v:=Value.int .i64 rDX.1) rfl)) ?_
      exact FB.done (by kernel_rfl) ⟨_,_,_,(SE8.sel [1,2] (by decide) rfl),(iDU.tr iE3),(h36.mono (zaf (((((i50.tr i57).tr i73).tr i86).tr iDU).tr iE3))),(h38.mono (zaf (((((i50.tr i57).tr i73).tr i86).tr iDU).tr iE3))),k90,rfl,rfl,rfl⟩
  ·
   rintro fEh wEg ⟨HEd,vE9,vEb,SEe,iEf,hEa,hEc,kEi,kEj,kEk,kEl⟩
   refine FW.ret ?_
   obtain rfl:=Option.some.inj hp
   exact ⟨.inr rfl,resX_cttt rfl kEi (zaA Tryz.isAgg26 Tryz.sizeOf26 (SEe.box_now (i:=1) rfl) rfl) kEj kEk kEl ⟨_,_,_,_,_,_,rfl,(SEe.sel [0] (by decide) rfl),hEa,hEc,(els61.mono (zaf ((i73.tr i86).tr iEf))),nd62⟩⟩

theorem zdg {Ha:GH} {wa:World} (hs:Sl Ha wa) (a0:Int) (a1:Int) (a2:Int) :
  Calls Tryz.prog 79 #[Value.int .i64 a0,Value.int .i64 a1,Value.int .i64 a2] wa (Sc Ha wa (Value.bool (PF.za3 a0 a1 a2))):=by
 obtain ⟨r,hp⟩:∃ r,(PF.za3 a0 a1 a2)=r:=⟨_,rfl⟩
 rw [hp]
 unfold PF.za3 at hp
 have S0:=St.init hs
 refine zaj (N:=15) (args:=[Value.int .i64 a0,Value.int .i64 a1,Value.int .i64 a2]) Tryz.func79 rfl rfl rfl ?_
 refine FW.seq (FW.region ?_)
 refine FL.v (E.assign (v:=Value.bool false) rfl) ?_
 refine FL.nil (FW.seq (FW.region ?_))
 refine FL.v (E.move (v:=Value.int .i64 a0) rfl) ?_
 refine FL.v (E.move (v:=Value.int .i64 a1) rfl) ?_
 refine FL.v (E.geq rfl rfl) ?_
 refine FL.v (E.move (v:=Value.bool (decide (a1≤a0))) rfl) ?_
 refine FL.cut 4 (fun f w=>∃ H:GH,St Ha wa H w []∧Inc Ha H∧f 14=Value.bool (bif (decide (a1≤a0)) then (decide (a0≤a2)) else false)) ?_ ?_
 ·
  rcases bcase (decide (a1≤a0)) with c27|c27
  ·
   refine FL.val (zac rfl rfl rfl c27) rfl rfl (E.move (v:=Value.int .i64 a0) rfl) ?_
   refine FL.val (zac rfl rfl rfl c27) rfl rfl (E.move (v:=Value.int .i64 a2) rfl) ?_
   refine FL.val (zac rfl rfl rfl c27) rfl rfl (E.leq rfl rfl) ?_
   refine FL.v (E.pickT rfl c27 rfl) ?_
   exact FL.nil ⟨rfl,_,S0,(Inc.rfl _),(congrArg Value.bool (bifT c27).symm)⟩
  ·
   refine FL.skip (wF_no rfl rfl rfl c27) rfl ?_
   refine FL.skip (wF_no rfl rfl rfl c27) rfl ?_
   refine FL.skip (wF_no rfl rfl rfl c27) rfl ?_
   refine FL.v (E.pickF rfl c27 rfl) ?_
   exact FL.nil ⟨rfl,_,S0,(Inc.rfl _),(congrArg Value.bool (bifF c27).symm)⟩
 rintro f26 w25 ⟨H22,S23,i24,k28⟩
 refine FL.v (E.assign k28) ?_
 refine FL.nil ?_
 refine FW.ret ?_
 obtain rfl:=hp
 exact ⟨.inr rfl,res1 rfl rfl ⟨rfl,S23.back⟩⟩

theorem w_impl_isLiteral {Ha:GH} {wa:World} (hs:Sl Ha wa) (a0:Int) (a1:Int) :
  Calls Tryz.prog 183 #[Value.int .i64 a0,Value.int .i64 a1] wa (Sc Ha wa (Value.bool (PF.zbL a0 a1))):=by
 obtain ⟨r,hp⟩:∃ r,(PF.zbL a0 a1)=r:=⟨_,rfl⟩
 rw [hp]
 unfold PF.zbL at hp
 have S0:=St.init hs
 refine zaj (N:=14) (args:=[Value.int .i64 a0,Value.int .i64 a1]) Tryz.func183 rfl rfl rfl ?_
 refine FW.seq (FW.region ?_)
 refine FL.v (E.assign (v:=Value.bool false) rfl) ?_
 refine FL.nil (FW.seq (FW.region ?_))
 refine FL.v (E.move (v:=Value.int .i64 a1) rfl) ?_
 refine FL.v (E.neq rfl rfl) ?_
 refine FL.v (E.move (v:=Value.bool (!(a1 == 0))) rfl) ?_
 refine FL.cut 6 (fun f w=>∃ H:GH,St Ha wa H w []∧Inc Ha H∧f 13=Value.bool (bif (!(a1 == 0)) then (PF.za3 a1 (wr (-a0)) a0) else false)) ?_ ?_
 ·
  rcases bcase (!(a1 == 0)) with c30|c30
  ·
   refine FL.val (zac rfl rfl rfl c30) rfl rfl (E.move (v:=Value.int .i64 a1) rfl) ?_
   refine FL.val (zac rfl rfl rfl c30) rfl rfl (E.move (v:=Value.int .i64 a0) rfl) ?_
   refine FL.val (zac rfl rfl rfl c30) rfl rfl (E.neg rfl) ?_
   refine FL.val (zac rfl rfl rfl c30) rfl rfl (E.move (v:=Value.int .i64 a0) rfl) ?_
   refine FL.call (zac rfl rfl rfl c30) rfl rfl (E.call Tryz.call79 (A3 rfl rfl rfl)) (zdg S0.sl a1 (wr (-a0)) a0) ?_
   rintro e w31 ⟨rfl,r32⟩
   refine ⟨_,rfl,?_⟩
   have S33:=S0.call r32
   refine FL.v (E.pickT rfl c30 rfl) ?_
   exact FL.nil ⟨rfl,_,S33,(Inc.rfl _),(congrArg Value.bool (bifT c30).symm)⟩
  ·
   refine FL.skip (wF_no rfl rfl rfl c30) rfl ?_
   refine FL.skip (wF_no rfl rfl rfl c30) rfl ?_
   refine FL.skip (wF_no rfl rfl rfl c30) rfl ?_
   refine FL.skip (wF_no rfl rfl rfl c30) rfl ?_
   refine FL.skip (wF_no rfl rfl rfl c30) rfl ?_
   refine FL.v (E.pickF rfl c30 rfl) ?_
   exact FL.nil ⟨rfl,_,S0,(Inc.rfl _),(congrArg Value.bool (bifF c30).symm)⟩
 rintro f29 w28 ⟨H25,S26,i27,k34⟩
 refine FL.v (E.assign k34) ?_
 refine FL.nil ?_
 refine FW.ret ?_
 obtain rfl:=hp
 exact ⟨.inr rfl,res1 rfl rfl ⟨rfl,S26.back⟩⟩

theorem zdh {Ha:GH} {wa:World} (hs:Sl Ha wa) (a0:Int) :
  Calls Tryz.prog 184 #[Value.int .i64 a0] wa (Sc Ha wa (Value.int .i64 (PF.zax a0))):=by
 obtain ⟨r,hp⟩:∃ r,(PF.zax a0)=r:=⟨_,rfl⟩
 rw [hp]
 unfold PF.zax at hp
 have S0:=St.init hs
 refine zaj (N:=7) (args:=[Value.int .i64 a0]) Tryz.func184 rfl rfl rfl ?_
 refine FW.seq (FW.region ?_)
 refine FL.v (E.assign (v:=Value.int .i64 0) rfl) ?_
 refine FL.nil (FW.seq (FW.region ?_))
 refine FL.v (E.move (v:=Value.int .i64 a0) rfl) ?_
 refine FL.v (E.move (v:=Value.int .i64 a0) rfl) ?_
 refine FL.v (E.neg rfl) ?_
 refine FL.v (E.max2 rfl rfl) ?_
 refine FL.v (E.assign (v:=Value.int .i64 (mx a0 (wr (-a0)))) rfl) ?_
 refine FL.nil ?_
 refine FW.ret ?_
 obtain rfl:=hp
 exact ⟨.inr rfl,res1 rfl rfl ⟨rfl,S0.back⟩⟩

theorem w_impl_varsOk {Ha:GH} {wa:World} (hs:Sl Ha wa) (a0:Int) :
  Calls Tryz.prog 131 #[Value.int .i64 a0] wa (Sc Ha wa (Value.bool (PF.zbv a0))):=by
 obtain ⟨r,hp⟩:∃ r,(PF.zbv a0)=r:=⟨_,rfl⟩
 rw [hp]
 unfold PF.zbv at hp
 have S0:=St.init hs
 refine zaj (N:=5) (args:=[Value.int .i64 a0]) Tryz.func131 rfl rfl rfl ?_
 refine FW.seq (FW.region ?_)
 refine FL.v (E.assign (v:=Value.bool false) rfl) ?_
 refine FL.nil (FW.seq (FW.region ?_))
 refine FL.v (E.move (v:=Value.int .i64 a0) rfl) ?_
 refine FL.call rfl rfl rfl (E.call Tryz.call79 (A3 rfl rfl rfl)) (zdg S0.sl a0 0 12) ?_
 rintro e w21 ⟨rfl,r22⟩
 refine ⟨_,rfl,?_⟩
 have S23:=S0.call r22
 refine FL.v (E.assign (v:=Value.bool (PF.za3 a0 0 12)) rfl) ?_
 refine FL.nil ?_
 refine FW.ret ?_
 obtain rfl:=hp
 exact ⟨.inr rfl,res1 rfl rfl ⟨rfl,S23.back⟩⟩

set_option maxHeartbeats 4000000 in
theorem zdi {Ha:GH} {wa:World} (hs:Sl Ha wa) (a0:Int) (v1:Value) (a1:List Int) (p1:RSl Ha eI 1 v1 a1) {r:Bool} (hp:(PF.zbE a0 a1)=some r) :
  Calls Tryz.prog 115 #[Value.int .i64 a0,v1] wa (Sc Ha wa (Value.bool r)):=by
 unfold PF.zbE at hp
 have S0:=St.init hs
 refine zaj (N:=36) (args:=[Value.int .i64 a0,v1]) Tryz.func115 rfl rfl rfl ?_
 refine FW.seq (FW.region ?_)
 refine FL.v (E.assign (v:=Value.bool false) rfl) ?_
 refine FL.nil (FW.seq (FW.seq (FW.region ?_)))
 refine FL.v (E.move (v:=v1) rfl) ?_
 refine FL.v (E.lenP te52 rfl p1) ?_
 refine FL.v (E.move (v:=Value.int .i64 0) rfl) ?_
 refine FL.nil ?_
 obtain ⟨q22,hq,hp⟩:=bndR hp
 refine FW.block ?_
 refine FW.mono (FW.forL (S:=Unit) (X:=Bool) (fun (i22:Nat) (s22:Unit) f w=>∃ H:GH,St Ha wa H w []∧Inc Ha H∧f 9=Value.int .i64 ((i22:Nat):Int)∧f 0=Value.int .i64 a0∧f 1=v1∧f 7=v1∧f 8=Value.int .i64 (len a1)) (fun q e f w=>match q with|.go s22=>e=Exit.exit 0∧(∃ H:GH,St Ha wa H w []∧Inc Ha H∧f 0=Value.int .i64 a0)|.rt x=>((e=Exit.ret)∧(fun e f w=>(e=Exit.normal∨e=Exit.ret)∧∀ a,Fr (δ:=[]) 36 a f→∃ v,(results Tryz.f115 a.tmps).run Tryz.prog w=.ok v w∧(Sc Ha wa (Value.bool x)) (.returned v) w) e f w)) hq ⟨_,S0,(Inc.rfl _),rfl,rfl,rfl,rfl,rfl⟩ ?_ ?_) ?_
 ·
  clear hp hq
  rintro i22 y21 s22 fAl wAk ⟨HAh,SAi,iAj,kAm,kAn,kAo,kAp,kAq⟩ hx22 oBN hp
  refine FW.seq (FW.region ?_)
  refine FL.v (E.lssT kAm kAq (zaF hx22)) ?_
  refine FL.nil (FW.seq ?_)
  refine FW.condT rfl rfl ?_
  refine FW.skip (FW.seq (FW.block (FW.seq (FW.region ?_))))
  refine FL.v (E.move kAm) ?_
  obtain ⟨pAr,csAs,ptAt,lAu,atAv,relAw⟩:=p1.at (zaz hx22)
  obtain rfl:=zao relAw
  refine FL.v (E.indexAddr te52 kAp kAm ptAt) ?_
  refine FL.v (E.load rfl (zak Tryz.isAgg3 ((atAv.mono iAj).now SAi.sl) rfl)) ?_
  refine FL.v (E.assign (v:=Value.int .i64 ((i22:Nat):Int)) rfl) ?_
  refine FL.v (E.assign (v:=Value.int .i64 y21) rfl) ?_
  refine FL.nil (FW.seq ?_)
  refine FW.draw (fun w'=>Run wAk.heap.size HAh wAk HAh w') (by kernel_rfl) (by kernel_rfl) (zaQ SAi.sl) ?_
  refine FD.val rfl rfl rfl (fun w' hw'=>(E.move kAn)) ?_
  refine FD.val rfl rfl rfl (fun w' hw'=>(E.move (v:=Value.int .i64 y21) rfl)) ?_
  refine FD.call rfl rfl rfl (fun w' hw'=>(E.call Tryz.call183 (A2 rfl rfl))) (fun w' hw'=>Calls.cls hw' (w_impl_isLiteral (SAi.call hw').sl a0 y21)) ?_
  refine FD.val rfl rfl rfl (fun w' hw'=>(E.not rfl)) ?_
  refine FD.val rfl rfl rfl (fun w' hw'=>(E.move (v:=Value.bool (!(PF.zbL a0 y21))) rfl)) ?_
  obtain ⟨t164,hqtB2,hp⟩:=bnd hp
  refine FD.cut 14 (fun f=>f 0=Value.int .i64 a0∧f 1=v1∧f 7=v1∧f 8=Value.int .i64 (len a1)∧f 9=Value.int .i64 ((i22:Nat):Int)∧f 32=Value.bool t164) ?_ ?_
  ·
   clear hp;have hp:=hqtB2;clear hqtB2
   rcases ifB hp with ⟨cB8,hp⟩|⟨cB8,hp⟩
   ·
    refine FD.skip (wF_no rfl rfl rfl cB8) rfl ?_
    refine FD.skip (wF_no rfl rfl rfl cB8) rfl ?_
    refine FD.skip (wF_no rfl rfl rfl cB8) rfl ?_
    refine FD.skip (zaP rfl rfl rfl) rfl ?_
    refine FD.skip (zaP rfl rfl rfl) rfl ?_
    refine FD.skip (zaP rfl rfl rfl) rfl ?_
    refine FD.skip (zaP rfl rfl rfl) rfl ?_
    refine FD.skip (zaP rfl rfl rfl) rfl ?_
    refine FD.skip (zaP rfl rfl rfl) rfl ?_
    refine FD.skip (zaP rfl rfl rfl) rfl ?_
    refine FD.skip (zaP rfl rfl rfl) rfl ?_
    refine FD.skip (zaP rfl rfl rfl) rfl ?_
    refine FD.skip (wF_no rfl rfl rfl cB8) rfl ?_
    obtain rfl:=Option.some.inj hp
    refine FD.val rfl rfl rfl (fun w' hw'=>(E.pickT rfl cB8 rfl)) ?_
    exact FD.nil ⟨kAn,kAo,kAp,kAq,kAm,rfl⟩
   ·
    refine FD.val (zac rfl rfl rfl cB8) rfl rfl (fun w' hw'=>(E.move (v:=Value.int .i64 ((i22:Nat):Int)) rfl)) ?_
    refine FD.val (zac rfl rfl rfl cB8) rfl rfl (fun w' hw'=>(E.gtr rfl rfl)) ?_
    refine FD.val (zac rfl rfl rfl cB8) rfl rfl (fun w' hw'=>(E.move (v:=Value.bool (decide (0 < ((i22:Nat):Int)))) rfl)) ?_
    obtain ⟨t179,hqtBh,hp⟩:=bnd hp
    refine FD.cut 10 (fun f=>f 0=Value.int .i64 a0∧f 1=v1∧f 7=v1∧f 8=Value.int .i64 (len a1)∧f 9=Value.int .i64 ((i22:Nat):Int)∧f 18=Value.bool (!(PF.zbL a0 y21))∧f 31=Value.bool t179) ?_ ?_
    ·
     clear hp;have hp:=hqtBh;clear hqtBh
     rcases ifB hp with ⟨cBn,hp⟩|⟨cBn,hp⟩
     ·
      refine FD.val (zac rfl rfl rfl cBn) rfl rfl (fun w' hw'=>(E.move (v:=Value.int .i64 y21) rfl)) ?_
      refine FD.call (zac rfl rfl rfl cBn) rfl rfl (fun w' hw'=>(E.call Tryz.call184 (A1 rfl))) (fun w' hw'=>Calls.cls hw' (zdh (SAi.call hw').sl y21)) ?_
      refine FD.val (zac rfl rfl rfl cBn) rfl rfl (fun w' hw'=>(E.move kAo)) ?_
      refine FD.val (zac rfl rfl rfl cBn) rfl rfl (fun w' hw'=>(E.move (v:=Value.int .i64 ((i22:Nat):Int)) rfl)) ?_
      refine FD.val (zac rfl rfl rfl cBn) rfl rfl (fun w' hw'=>(E.sub rfl rfl)) ?_
      obtain ⟨xBu,hxBv,hp⟩:=bnd hp
      obtain ⟨pBo,csBp,ptBq,lBr,atBs,relBt⟩:=p1.at hxBv
      obtain rfl:=zao relBt
      refine FD.val (zac rfl rfl rfl cBn) rfl rfl (fun w' hw'=>(E.indexAddr te52 rfl rfl ptBq)) ?_
      refine FD.val (zac rfl rfl rfl cBn) rfl rfl (fun w' hw'=>(E.load rfl (zak Tryz.isAgg3 ((atBs.mono iAj).now (SAi.call hw').sl) rfl))) ?_
      refine FD.call (zac rfl rfl rfl cBn) rfl rfl (fun w' hw'=>(E.call Tryz.call184 (A1 rfl))) (fun w' hw'=>Calls.cls hw' (zdh (SAi.call hw').sl xBu)) ?_
      refine FD.val (zac rfl rfl rfl cBn) rfl rfl (fun w' hw'=>(E.leq rfl rfl)) ?_
      obtain rfl:=Option.some.inj hp
      refine FD.val (zac rfl rfl rfl cB8) rfl rfl (fun w' hw'=>(E.pickT rfl cBn rfl)) ?_
      exact FD.nil ⟨kAn,kAo,kAp,kAq,kAm,rfl,rfl⟩
     ·
      refine FD.skip (wF_no rfl rfl rfl cBn) rfl ?_
      refine FD.skip (wF_no rfl rfl rfl cBn) rfl ?_
      refine FD.skip (wF_no rfl rfl rfl cBn) rfl ?_
      refine FD.skip (wF_no rfl rfl rfl cBn) rfl ?_
      refine FD.skip (wF_no rfl rfl rfl cBn) rfl ?_
      refine FD.skip (wF_no rfl rfl rfl cBn) rfl ?_
      refine FD.skip (wF_no rfl rfl rfl cBn) rfl ?_
      refine FD.skip (wF_no rfl rfl rfl cBn) rfl ?_
      refine FD.skip (wF_no rfl rfl rfl cBn) rfl ?_
      obtain rfl:=Option.some.inj hp
      refine FD.val (zac rfl rfl rfl cB8) rfl rfl (fun w' hw'=>(E.pickF rfl cBn rfl)) ?_
      exact FD.nil ⟨kAn,kAo,kAp,kAq,kAm,rfl,rfl⟩
    rintro fBm ⟨kBw,kBx,kBy,kBz,kBA,kBB,kBC⟩
    obtain rfl:=Option.some.inj hp
    refine FD.val rfl rfl rfl (fun w' hw'=>(E.pickF kBB cB8 kBC)) ?_
    exact FD.nil ⟨kBw,kBx,kBy,kBz,kBA,rfl⟩
  rintro fB7 ⟨kBD,kBE,kBF,kBG,kBH,kBI⟩
  refine FD.nil ?_
  intro wBJ rBL
  have SBK:=SAi.call rBL
  rcases ifB hp with ⟨cBM,hp⟩|⟨cBM,hp⟩
  ·
   refine FW.condT kBI cBM ?_
   refine FW.seq (FW.region ?_)
   refine FL.v (E.assign (v:=Value.bool false) rfl) ?_
   refine FL.nil ?_
   refine FW.ret ?_
   obtain rfl:=Option.some.inj hp
   exact ⟨nofun,rfl,⟨.inr rfl,res1 rfl rfl ⟨rfl,SBK.back⟩⟩⟩
  ·
   refine FW.condF kBI cBM ?_
   refine FW.skip (FW.region ?_)
   refine FL.v (E.add kBH rfl) ?_
   refine FL.v (E.move (v:=Value.int .i64 (wr (((i22:Nat):Int) + 1))) rfl) ?_
   refine FL.nil ?_
   obtain rfl:=Option.some.inj hp
   exact ⟨rfl,⟨_,SBK,iAj,(zaw rfl (zaB hx22) (p1.mono iAj).le),kBD,kBE,kBF,kBG⟩⟩
 ·
  clear hp hq
  rintro s22 fC1 wC0 ⟨HBX,SBY,iBZ,kC2,kC3,kC4,kC5,kC6⟩
  refine FW.seq (FW.region ?_)
  refine FL.v (E.lss kC2 kC6) ?_
  refine FL.nil (FW.seq ?_)
  refine FW.condF rfl zaG ?_
  refine FW.exit ?_
  exact ⟨nofun,rfl,⟨_,SBY,iBZ,kC3⟩⟩
 ·
  clear hq
  intro e fBS wBR hD
  rcases q22 with s22|x22
  ·
   obtain ⟨rfl,hD⟩:=hD
   obtain ⟨HBO,SBP,iBQ,kBT⟩:=hD
   replace hp:=el_go hp
   refine FW.seq (FW.region ?_)
   refine FL.v (E.move kBT) ?_
   refine FL.call rfl rfl rfl (E.call Tryz.call131 (A1 rfl)) (w_impl_varsOk SBP.sl a0) ?_
   rintro e wBU ⟨rfl,rBV⟩
   refine ⟨_,rfl,?_⟩
   have SBW:=SBP.call rBV
   refine FL.v (E.assign (v:=Value.bool (PF.zbv a0)) rfl) ?_
   refine FL.nil ?_
   refine FW.ret ?_
   obtain rfl:=Option.some.inj hp
   exact ⟨.inr rfl,res1 rfl rfl ⟨rfl,SBW.back⟩⟩
  ·
   obtain ⟨he,hL⟩:=hD
   replace hp:=el_rt hp
   obtain rfl:=Option.some.inj hp
   subst he
   exact hL

set_option maxHeartbeats 4000000 in
theorem w_impl_IsCnf {Ha:GH} {wa:World} (hs:Sl Ha wa) (a0:Cnf) (v0_1:Value) (p0_1:RSl Ha (eL eI 1) 1 v0_1 a0.clauses) {r:Bool} (hp:(PF.zcW a0)=some r) :
  Calls Tryz.prog 62 #[Value.agg #[Value.int .i64 a0.vars,v0_1]] wa (Sc Ha wa (Value.bool r)):=by
 unfold PF.zcW at hp
 have S0:=St.init hs
 refine zaj (N:=27) (args:=[Value.agg #[Value.int .i64 a0.vars,v0_1]]) Tryz.func62 rfl rfl rfl ?_
 refine FW.seq (FW.region ?_)
 obtain ⟨b21,w22,run23,S24⟩:=S0.box (P:=Tryz.prog) 26 [Value.int .i64 a0.vars,v0_1] (v:=Value.agg #[Value.int .i64 a0.vars,v0_1]) rfl (zab rfl (zab p0_1.one zae))
 refine FL.v (E.box rfl run23) ?_
 obtain ⟨H25,S26,i27,at28⟩:=S24.sealBox (i:=0) (l':=[]) rfl rfl
 refine FL.v (E.assign (v:=Value.bool false) rfl) ?_
 refine FL.nil (FW.seq (FW.seq (FW.region ?_)))
 refine FL.v (E.fieldAddr zay rfl) ?_
 refine FL.v (E.load rfl (zag Tryz.isAgg24 (at28.now S26.sl) rfl)) ?_
 refine FL.v (E.lenP te24 rfl p0_1) ?_
 refine FL.v (E.move (v:=Value.int .i64 0) rfl) ?_
 refine FL.nil ?_
 obtain ⟨q30,hq,hp⟩:=bndR hp
 refine FW.block ?_
 refine FW.mono (FW.forL (S:=Unit) (X:=Bool) (fun (i30:Nat) (s30:Unit) f w=>∃ H:GH,St Ha wa H w []∧Inc H25 H∧f 8=Value.int .i64 ((i30:Nat):Int)∧f 1=Value.pointer (some ⟨b21,0,none⟩)∧f 6=v0_1∧f 7=Value.int .i64 (len a0.clauses)) (fun q e f w=>match q with|.go s30=>e=Exit.exit 0∧(∃ H:GH,St Ha wa H w []∧Inc H25 H∧f 1=Value.pointer (some ⟨b21,0,none⟩))|.rt x=>((e=Exit.ret)∧(fun e f w=>(e=Exit.normal∨e=Exit.ret)∧∀ a,Fr (δ:=[]) 27 a f→∃ v,(results Tryz.f62 a.tmps).run Tryz.prog w=.ok v w∧(Sc Ha wa (Value.bool x)) (.returned v) w) e f w)) hq ⟨_,S26,(Inc.rfl _),rfl,rfl,rfl,rfl⟩ ?_ ?_) ?_
 ·
  clear hp hq
  rintro i30 y29 s30 f58 w57 ⟨H54,S55,i56,k59,k60,k61,k62⟩ hx30 o77 hp
  refine FW.seq (FW.region ?_)
  refine FL.v (E.lssT k59 k62 (zaF hx30)) ?_
  refine FL.nil (FW.seq ?_)
  refine FW.condT rfl rfl ?_
  refine FW.skip (FW.seq (FW.block (FW.seq (FW.region ?_))))
  obtain ⟨p63,cs64,pt65,l66,at67,rel68⟩:=p0_1.at (zaz hx30)
  obtain ⟨v69,rfl,h70⟩:=zbr rel68
  refine FL.v (E.indexAddr te24 k61 k59 pt65) ?_
  refine FL.v (E.load rfl (zak Tryz.isAgg52 ((at67.mono (i27.tr i56)).now S55.sl) rfl)) ?_
  refine FL.v (E.assign (v:=v69) rfl) ?_
  refine FL.nil (FW.seq (FW.region ?_))
  refine FL.v (E.fieldAddr zaC k60) ?_
  refine FL.v (E.load rfl (zag Tryz.isAgg3 ((at28.mono i56).now S55.sl) rfl)) ?_
  refine FL.v (E.move (v:=v69) rfl) ?_
  obtain ⟨r71,hr72,hp⟩:=bnd hp
  refine FL.call rfl rfl rfl (E.call Tryz.call115 (A2 rfl rfl)) (zdi S55.sl a0.vars v69 y29 (h70.mono (i27.tr i56)) hr72) ?_
  rintro e w73 ⟨rfl,r74⟩
  refine ⟨_,rfl,?_⟩
  have S75:=S55.call r74
  refine FL.v (E.not rfl) ?_
  refine FL.nil ?_
  rcases ifB hp with ⟨c76,hp⟩|⟨c76,hp⟩
  ·
   refine FW.condT rfl c76 ?_
   refine FW.seq (FW.region ?_)
   refine FL.v (E.assign (v:=Value.bool false) rfl) ?_
   refine FL.nil ?_
   refine FW.ret ?_
   obtain rfl:=Option.some.inj hp
   exact ⟨nofun,rfl,⟨.inr rfl,res1 rfl rfl ⟨rfl,S75.back⟩⟩⟩
  ·
   refine FW.condF rfl c76 ?_
   refine FW.skip (FW.region ?_)
   refine FL.v (E.add k59 rfl) ?_
   refine FL.v (E.move (v:=Value.int .i64 (wr (((i30:Nat):Int) + 1))) rfl) ?_
   refine FL.nil ?_
   obtain rfl:=Option.some.inj hp
   exact ⟨rfl,⟨_,S75,i56,(zaw rfl (zaB hx30) (p0_1.mono (i27.tr i56)).le),k60,k61,k62⟩⟩
 ·
  clear hp hq
  rintro s30 f99 w98 ⟨H95,S96,i97,kA0,kA1,kA2,kA3⟩
  refine FW.seq (FW.region ?_)
  refine FL.v (E.lss kA0 kA3) ?_
  refine FL.nil (FW.seq ?_)
  refine FW.condF rfl zaG ?_
  refine FW.exit ?_
  exact ⟨nofun,rfl,⟨_,S96,i97,kA1⟩⟩
 ·
  clear hq
  intro e f82 w81 hD
  rcases q30 with s30|x30
  ·
   obtain ⟨rfl,hD⟩:=hD
   obtain ⟨H78,S79,i80,k83⟩:=hD
   replace hp:=el_go hp
   refine FW.seq (FW.region ?_)
   refine FL.v (E.fieldAddr zaC k83) ?_
   refine FL.v (E.load rfl (zag Tryz.isAgg3 ((at28.mono i80).now S79.sl) rfl)) ?_
   refine FL.call rfl rfl rfl (E.call Tryz.call131 (A1 rfl)) (w_impl_varsOk S79.sl a0.vars) ?_
   rintro e w84 ⟨rfl,r85⟩
   refine ⟨_,rfl,?_⟩
   have S86:=S79.call r85
   refine FL.v (E.move (v:=Value.bool (PF.zbv a0.vars)) rfl) ?_
   refine FL.cut 5 (fun f w=>∃ H:GH,St Ha wa H w []∧Inc H78 H∧f 26=Value.bool (bif (PF.zbv a0.vars) then (decide ((len a0.clauses)≤60)) else false)) ?_ ?_
   ·
    rcases bcase (PF.zbv a0.vars) with c93|c93
    ·
     refine FL.val (zac rfl rfl rfl c93) rfl rfl (E.fieldAddr zay k83) ?_
     refine FL.val (zac rfl rfl rfl c93) rfl rfl (E.load rfl (zag Tryz.isAgg24 ((at28.mono i80).now S86.sl) rfl)) ?_
     refine FL.val (zac rfl rfl rfl c93) rfl rfl (E.lenP te24 rfl p0_1) ?_
     refine FL.val (zac rfl rfl rfl c93) rfl rfl (E.leq rfl rfl) ?_
     refine FL.v (E.pickT rfl c93 rfl) ?_
     exact FL.nil ⟨rfl,_,S86,(Inc.rfl _),(congrArg Value.bool (bifT c93).symm)⟩
    ·
     refine FL.skip (wF_no rfl rfl rfl c93) rfl ?_
     refine FL.skip (wF_no rfl rfl rfl c93) rfl ?_
     refine FL.skip (wF_no rfl rfl rfl c93) rfl ?_
     refine FL.skip (wF_no rfl rfl rfl c93) rfl ?_
     refine FL.v (E.pickF rfl c93 rfl) ?_
     exact FL.nil ⟨rfl,_,S86,(Inc.rfl _),(congrArg Value.bool (bifF c93).symm)⟩
   rintro f92 w91 ⟨H88,S89,i90,k94⟩
   refine FL.v (E.assign k94) ?_
   refine FL.nil ?_
   refine FW.ret ?_
   obtain rfl:=Option.some.inj hp
   exact ⟨.inr rfl,res1 rfl rfl ⟨rfl,S89.back⟩⟩
  ·
   obtain ⟨he,hL⟩:=hD
   replace hp:=el_rt hp
   obtain rfl:=Option.some.inj hp
   subst he
   exact hL

set_option maxHeartbeats 4000000 in
theorem zeq {Ha:GH} {wa:World} (hs:Sl Ha wa) (v0:Value) (a0:List Int) (p0:RSl Ha eI 1 v0 a0) (v1:Value) (a1:List Int) (p1:RSl Ha eI 1 v1 a1) {r:Bool} (hp:(PF.zcX a0 a1)=some r) :
  Calls Tryz.prog 250 #[v0,v1] wa (Sc Ha wa (Value.bool r)):=by
 unfold PF.zcX at hp
 have S0:=St.init hs
 refine zaj (N:=26) (args:=[v0,v1]) Tryz.func250 rfl rfl rfl ?_
 refine FW.seq (FW.region ?_)
 refine FL.v (E.assign (v:=Value.bool false) rfl) ?_
 refine FL.nil (FW.seq (FW.seq (FW.region ?_)))
 refine FL.v (E.move (v:=v0) rfl) ?_
 refine FL.v (E.lenP te52 rfl p0) ?_
 refine FL.v (E.move (v:=v1) rfl) ?_
 refine FL.v (E.lenP te52 rfl p1) ?_
 refine FL.v (E.neq rfl rfl) ?_
 refine FL.nil ?_
 rcases ifB hp with ⟨c21,hp⟩|⟨c21,hp⟩
 ·
  refine FW.condT rfl c21 ?_
  refine FW.seq (FW.region ?_)
  refine FL.v (E.assign (v:=Value.bool false) rfl) ?_
  refine FL.nil ?_
  refine FW.ret ?_
  obtain rfl:=Option.some.inj hp
  exact ⟨.inr rfl,res1 rfl rfl ⟨rfl,S0.back⟩⟩
 ·
  refine FW.condF rfl c21 ?_
  refine FW.skip (FW.seq (FW.seq (FW.region ?_)))
  refine FL.v (E.move (v:=v0) rfl) ?_
  refine FL.v (E.lenP te52 rfl p0) ?_
  refine FL.v (E.move (v:=Value.int .i64 0) rfl) ?_
  refine FL.nil ?_
  obtain ⟨q23,hq,hp⟩:=bndR hp
  refine FW.block ?_
  refine FW.mono (FW.forL (S:=Unit) (X:=Bool) (fun (i23:Nat) (s23:Unit) f w=>∃ H:GH,St Ha wa H w []∧Inc Ha H∧f 13=Value.int .i64 ((i23:Nat):Int)∧f 0=v0∧f 1=v1∧f 12=Value.int .i64 (len a0)) (fun q e f w=>match q with|.go s23=>e=Exit.exit 0∧(∃ H:GH,St Ha wa H w []∧Inc Ha H)|.rt x=>((e=Exit.ret)∧(fun e f w=>(e=Exit.normal∨e=Exit.ret)∧∀ a,Fr (δ:=[]) 26 a f→∃ v,(results Tryz.f250 a.tmps).run Tryz.prog w=.ok v w∧(Sc Ha wa (Value.bool x)) (.returned v) w) e f w)) hq ⟨_,S0,(Inc.rfl _),rfl,rfl,rfl,rfl⟩ ?_ ?_) ?_
  ·
   clear hp hq
   rintro i23 y22 s23 f56 w55 ⟨H52,S53,i54,k57,k58,k59,k60⟩ hx23 o80 hp
   refine FW.seq (FW.region ?_)
   refine FL.v (E.lssT k57 k60 (zaF hx23)) ?_
   refine FL.nil (FW.seq ?_)
   refine FW.condT rfl rfl ?_
   refine FW.skip (FW.seq (FW.block (FW.seq (FW.region ?_))))
   refine FL.v (E.move k57) ?_
   refine FL.v (E.assign (v:=Value.int .i64 ((i23:Nat):Int)) rfl) ?_
   refine FL.nil (FW.seq ?_)
   refine FW.draw (fun w'=>Run w55.heap.size H52 w55 H52 w') (by kernel_rfl) (by kernel_rfl) (zaQ S53.sl) ?_
   refine FD.val rfl rfl rfl (fun w' hw'=>(E.move k58)) ?_
   refine FD.val rfl rfl rfl (fun w' hw'=>(E.move (v:=Value.int .i64 ((i23:Nat):Int)) rfl)) ?_
   obtain ⟨p62,cs63,pt64,l65,at66,rel67⟩:=p0.at (zaz hx23)
   obtain rfl:=zao rel67
   refine FD.val rfl rfl rfl (fun w' hw'=>(E.indexAddr te52 rfl rfl pt64)) ?_
   refine FD.val rfl rfl rfl (fun w' hw'=>(E.load rfl (zak Tryz.isAgg3 ((at66.mono i54).now (S53.call hw').sl) rfl))) ?_
   refine FD.val rfl rfl rfl (fun w' hw'=>(E.move k59)) ?_
   refine FD.val rfl rfl rfl (fun w' hw'=>(E.move (v:=Value.int .i64 ((i23:Nat):Int)) rfl)) ?_
   obtain ⟨x74,hx75,hp⟩:=bnd hp
   obtain ⟨p68,cs69,pt70,l71,at72,rel73⟩:=p1.at hx75
   obtain rfl:=zao rel73
   refine FD.val rfl rfl rfl (fun w' hw'=>(E.indexAddr te52 rfl rfl pt70)) ?_
   refine FD.val rfl rfl rfl (fun w' hw'=>(E.load rfl (zak Tryz.isAgg3 ((at72.mono i54).now (S53.call hw').sl) rfl))) ?_
   refine FD.val rfl rfl rfl (fun w' hw'=>(E.neq rfl rfl)) ?_
   refine FD.nil ?_
   intro w76 r78
   have S77:=S53.call r78
   rcases ifB hp with ⟨c79,hp⟩|⟨c79,hp⟩
   ·
    refine FW.condT rfl c79 ?_
    refine FW.seq (FW.region ?_)
    refine FL.v (E.assign (v:=Value.bool false) rfl) ?_
    refine FL.nil ?_
    refine FW.ret ?_
    obtain rfl:=Option.some.inj hp
    exact ⟨nofun,rfl,⟨.inr rfl,res1 rfl rfl ⟨rfl,S77.back⟩⟩⟩
   ·
    refine FW.condF rfl c79 ?_
    refine FW.skip (FW.region ?_)
    refine FL.v (E.add k57 rfl) ?_
    refine FL.v (E.move (v:=Value.int .i64 (wr (((i23:Nat):Int) + 1))) rfl) ?_
    refine FL.nil ?_
    obtain rfl:=Option.some.inj hp
    exact ⟨rfl,⟨_,S77,i54,(zaw rfl (zaB hx23) (p0.mono i54).le),k58,k59,k60⟩⟩
  ·
   clear hp hq
   rintro s23 f90 w89 ⟨H86,S87,i88,k91,k92,k93,k94⟩
   refine FW.seq (FW.region ?_)
   refine FL.v (E.lss k91 k94) ?_
   refine FL.nil (FW.seq ?_)
   refine FW.condF rfl zaG ?_
   refine FW.exit ?_
   exact ⟨nofun,rfl,⟨_,S87,i88⟩⟩
  ·
   clear hq
   intro e f85 w84 hD
   rcases q23 with s23|x23
   ·
    obtain ⟨rfl,hD⟩:=hD
    obtain ⟨H81,S82,i83⟩:=hD
    replace hp:=el_go hp
    refine FW.seq (FW.region ?_)
    refine FL.v (E.assign (v:=Value.bool true) rfl) ?_
    refine FL.nil ?_
    refine FW.ret ?_
    obtain rfl:=Option.some.inj hp
    exact ⟨.inr rfl,res1 rfl rfl ⟨rfl,S82.back⟩⟩
   ·
    obtain ⟨he,hL⟩:=hD
    replace hp:=el_rt hp
    obtain rfl:=Option.some.inj hp
    subst he
    exact hL

@[reducible] def p_impl_earlier (Ha:GH) (wa:World) (r:((List Int)×Bool)):Ending→World→Prop :=
 fun e w'=>∃ H':GH,∃ v0:Value,e=.returned (Value.tuple #[v0,Value.bool r.2])∧Run wa.heap.size Ha wa H' w'∧RSl H' eI 1 v0 r.1
theorem zer {Ha:GH} {wa:World} (hs:Sl Ha wa) (a0:Cnf) (v0_1:Value) (p0_1:RSl Ha (eL eI 1) 1 v0_1 a0.clauses) (v1:Value) (a1:List zaa) (p1:RSl Ha zah 4 v1 a1) (a2:Int) (a3:Int) {r:((List Int)×Bool)} (hp:(PF.zck a0 a1 a2 a3)=some r) :
  Calls Tryz.prog 254 #[Value.agg #[Value.int .i64 a0.vars,v0_1],v1,Value.int .i64 a2,Value.int .i64 a3] wa (p_impl_earlier Ha wa r):=by
 unfold PF.zck at hp
 have S0:=St.init hs
 refine zaj (N:=31) (args:=[Value.agg #[Value.int .i64 a0.vars,v0_1],v1,Value.int .i64 a2,Value.int .i64 a3]) Tryz.func254 rfl rfl rfl ?_
 refine FW.seq (FW.region ?_)
 obtain ⟨b21,w22,run23,S24⟩:=S0.box (P:=Tryz.prog) 26 [Value.int .i64 a0.vars,v0_1] (v:=Value.agg #[Value.int .i64 a0.vars,v0_1]) rfl (zab rfl (zab p0_1.one zae))
 refine FL.v (E.box rfl run23) ?_
 obtain ⟨H25,S26,i27,at28⟩:=S24.sealBox (i:=0) (l':=[]) rfl rfl
 refine FL.v (E.assign (v:=Value.slice none 0 0) rfl) ?_
 refine FL.v (E.assign (v:=Value.bool false) rfl) ?_
 refine FL.nil (FW.seq (FW.seq ?_))
 refine FW.draw (fun w'=>Run w22.heap.size H25 w22 H25 w') (by kernel_rfl) (by kernel_rfl) (zaQ S26.sl) ?_
 refine FD.val rfl rfl rfl (fun w' hw'=>(E.move (v:=Value.int .i64 a3) rfl)) ?_
 refine FD.val rfl rfl rfl (fun w' hw'=>(E.move (v:=Value.int .i64 a2) rfl)) ?_
 refine FD.val rfl rfl rfl (fun w' hw'=>(E.sub rfl rfl)) ?_
 refine FD.call rfl rfl rfl (fun w' hw'=>(E.call Tryz.call79 (A3 rfl rfl rfl))) (fun w' hw'=>Calls.cls hw' (zdg (S26.call hw').sl a3 0 (wr (a2 - 1)))) ?_
 refine FD.val rfl rfl rfl (fun w' hw'=>(E.not rfl)) ?_
 refine FD.val rfl rfl rfl (fun w' hw'=>(E.move (v:=Value.bool (!(PF.za3 a3 0 (wr (a2 - 1))))) rfl)) ?_
 obtain ⟨t42,hqt42,hp⟩:=bnd hp
 refine FD.cut 10 (fun f=>f 1=v1∧f 3=Value.int .i64 a3∧f 25=Value.bool t42) ?_ ?_
 ·
  clear hp;have hp:=hqt42;clear hqt42
  rcases ifB hp with ⟨c48,hp⟩|⟨c48,hp⟩
  ·
   refine FD.skip (wF_no rfl rfl rfl c48) rfl ?_
   refine FD.skip (wF_no rfl rfl rfl c48) rfl ?_
   refine FD.skip (wF_no rfl rfl rfl c48) rfl ?_
   refine FD.skip (wF_no rfl rfl rfl c48) rfl ?_
   refine FD.skip (wF_no rfl rfl rfl c48) rfl ?_
   refine FD.skip (wF_no rfl rfl rfl c48) rfl ?_
   refine FD.skip (wF_no rfl rfl rfl c48) rfl ?_
   refine FD.skip (wF_no rfl rfl rfl c48) rfl ?_
   refine FD.skip (wF_no rfl rfl rfl c48) rfl ?_
   obtain rfl:=Option.some.inj hp
   refine FD.val rfl rfl rfl (fun w' hw'=>(E.pickT rfl c48 rfl)) ?_
   exact FD.nil ⟨rfl,rfl,rfl⟩
  ·
   refine FD.val (zac rfl rfl rfl c48) rfl rfl (fun w' hw'=>(E.fieldAddr zaC rfl)) ?_
   refine FD.val (zac rfl rfl rfl c48) rfl rfl (fun w' hw'=>(E.load rfl (zag Tryz.isAgg3 (at28.now (S26.call hw').sl) rfl))) ?_
   refine FD.val (zac rfl rfl rfl c48) rfl rfl (fun w' hw'=>(E.move (v:=v1) rfl)) ?_
   refine FD.val (zac rfl rfl rfl c48) rfl rfl (fun w' hw'=>(E.move (v:=Value.int .i64 a3) rfl)) ?_
   obtain ⟨x55,hx56,hp⟩:=bnd hp
   obtain ⟨p49,cs50,pt51,l52,at53,rel54⟩:=p1.at hx56
   obtain ⟨v57,rfl,h58⟩:=zap rel54
   refine FD.val (zac rfl rfl rfl c48) rfl rfl (fun w' hw'=>(E.indexAddr te61 rfl rfl pt51)) ?_
   refine FD.val (zac rfl rfl rfl c48) rfl rfl (fun w' hw'=>(E.fieldAddr zav rfl)) ?_
   refine FD.val (zac rfl rfl rfl c48) rfl rfl (fun w' hw'=>(E.load rfl (zag Tryz.isAgg52 ((at53.mono i27).now (S26.call hw').sl) rfl))) ?_
   obtain ⟨r59,hr60,hp⟩:=bnd hp
   refine FD.call (zac rfl rfl rfl c48) rfl rfl (fun w' hw'=>(E.call Tryz.call115 (A2 rfl rfl))) (fun w' hw'=>Calls.cls hw' (zdi (S26.call hw').sl a0.vars v57 x55.clause (h58.mono i27) hr60)) ?_
   refine FD.val (zac rfl rfl rfl c48) rfl rfl (fun w' hw'=>(E.not rfl)) ?_
   obtain rfl:=Option.some.inj hp
   refine FD.val rfl rfl rfl (fun w' hw'=>(E.pickF rfl c48 rfl)) ?_
   exact FD.nil ⟨rfl,rfl,rfl⟩
 rintro f47 ⟨k61,k62,k63⟩
 refine FD.nil ?_
 intro w64 r66
 have S65:=S26.call r66
 rcases ifB hp with ⟨c67,hp⟩|⟨c67,hp⟩
 ·
  refine FW.condT k63 c67 ?_
  refine FW.seq (FW.region ?_)
  refine FL.v (E.assign (v:=Value.slice none 0 0) rfl) ?_
  refine FL.v (E.assign (v:=Value.bool false) rfl) ?_
  refine FL.nil ?_
  refine FW.ret ?_
  obtain rfl:=Option.some.inj hp
  exact ⟨.inr rfl,res2 rfl rfl rfl ⟨_,_,rfl,S65.run,(RSl.nil _ _ _)⟩⟩
 ·
  refine FW.condF k63 c67 ?_
  refine FW.skip (FW.seq (FW.region ?_))
  refine FL.v (E.move k61) ?_
  refine FL.v (E.move k62) ?_
  obtain ⟨x74,hx75,hp⟩:=bnd hp
  obtain ⟨p68,cs69,pt70,l71,at72,rel73⟩:=p1.at hx75
  obtain ⟨v76,rfl,h77⟩:=zap rel73
  refine FL.v (E.indexAddr te61 rfl rfl pt70) ?_
  refine FL.v (E.fieldAddr zav rfl) ?_
  refine FL.v (E.load rfl (zag Tryz.isAgg52 ((at72.mono i27).now S65.sl) rfl)) ?_
  refine FL.v (E.assign (v:=v76) rfl) ?_
  refine FL.v (E.assign (v:=Value.bool true) rfl) ?_
  refine FL.nil ?_
  refine FW.ret ?_
  obtain rfl:=Option.some.inj hp
  exact ⟨.inr rfl,res2 rfl rfl rfl ⟨_,_,rfl,S65.run,(h77.mono i27)⟩⟩

theorem zes {Ha:GH} {wa:World} (hs:Sl Ha wa) (v0:Value) (a0:List Int) (p0:RSl Ha eI 1 v0 a0) (v1:Value) (a1:Int→Option Bool) (p1:zct Tryz.prog Ha v1 a1) {r:Int} (hp:(PF.zcl a0 a1)=some r) :
  Calls Tryz.prog 213 #[v0,v1] wa (Sc Ha wa (Value.int .i64 r)):=by
 unfold PF.zcl at hp
 have S0:=St.init hs
 refine zaj (N:=19) (args:=[v0,v1]) Tryz.func213 rfl rfl rfl ?_
 refine FW.seq (FW.region ?_)
 refine FL.v (E.assign (v:=Value.int .i64 0) rfl) ?_
 refine FL.nil (FW.seq (FW.seq (FW.region ?_)))
 refine FL.v (E.move (v:=v0) rfl) ?_
 refine FL.v (E.lenP te52 rfl p0) ?_
 refine FL.v (E.move (v:=Value.int .i64 0) rfl) ?_
 refine FL.nil ?_
 obtain ⟨q22,hq,hp⟩:=bndR hp
 refine FW.block ?_
 refine FW.mono (FW.forL (S:=Unit) (X:=Int) (fun (i22:Nat) (s22:Unit) f w=>∃ H:GH,St Ha wa H w []∧Inc Ha H∧f 8=Value.int .i64 ((i22:Nat):Int)∧f 0=v0∧f 1=v1∧f 7=Value.int .i64 (len a0)) (fun q e f w=>match q with|.go s22=>e=Exit.exit 0∧(∃ H:GH,St Ha wa H w []∧Inc Ha H)|.rt x=>((e=Exit.ret)∧(fun e f w=>(e=Exit.normal∨e=Exit.ret)∧∀ a,Fr (δ:=[]) 19 a f→∃ v,(results Tryz.f213 a.tmps).run Tryz.prog w=.ok v w∧(Sc Ha wa (Value.int .i64 x)) (.returned v) w) e f w)) hq ⟨_,S0,(Inc.rfl _),rfl,rfl,rfl,rfl⟩ ?_ ?_) ?_
 ·
  clear hp hq
  rintro i22 y21 s22 f53 w52 ⟨H49,S50,i51,k54,k55,k56,k57⟩ hx22 o75 hp
  refine FW.seq (FW.region ?_)
  refine FL.v (E.lssT k54 k57 (zaF hx22)) ?_
  refine FL.nil (FW.seq ?_)
  refine FW.condT rfl rfl ?_
  refine FW.skip (FW.seq (FW.block (FW.seq (FW.region ?_))))
  refine FL.v (E.move k54) ?_
  refine FL.v (E.assign (v:=Value.int .i64 ((i22:Nat):Int)) rfl) ?_
  refine FL.nil (FW.seq (FW.region ?_))
  refine FL.v (E.move k56) ?_
  refine FL.v (E.move k55) ?_
  refine FL.v (E.move (v:=Value.int .i64 ((i22:Nat):Int)) rfl) ?_
  obtain ⟨p58,cs59,pt60,l61,at62,rel63⟩:=p0.at (zaz hx22)
  obtain rfl:=zao rel63
  refine FL.v (E.indexAddr te52 rfl rfl pt60) ?_
  refine FL.v (E.load rfl (zak Tryz.isAgg3 ((at62.mono i51).now S50.sl) rfl)) ?_
  obtain ⟨r64,hr65,hp⟩:=bnd hp
  obtain ⟨fi69,cs70,hv71,he72,hc73⟩:=(p1.mono i51) H49 w52 (Inc.rfl _) S50.sl y21 r64 hr65
  refine FL.call rfl rfl rfl (E.callV he72 (Eq.trans rfl hv71) (appA (A1 rfl) cs70)) hc73 ?_
  rintro e w66 ⟨rfl,r67⟩
  refine ⟨_,rfl,?_⟩
  have S68:=S50.call r67
  refine FL.nil ?_
  rcases ifB hp with ⟨c74,hp⟩|⟨c74,hp⟩
  ·
   refine FW.condT rfl c74 ?_
   refine FW.seq (FW.region ?_)
   refine FL.v (E.move (v:=Value.int .i64 ((i22:Nat):Int)) rfl) ?_
   refine FL.v (E.assign (v:=Value.int .i64 ((i22:Nat):Int)) rfl) ?_
   refine FL.nil ?_
   refine FW.ret ?_
   obtain rfl:=Option.some.inj hp
   exact ⟨nofun,rfl,⟨.inr rfl,res1 rfl rfl ⟨rfl,S68.back⟩⟩⟩
  ·
   refine FW.condF rfl c74 ?_
   refine FW.skip (FW.region ?_)
   refine FL.v (E.add k54 rfl) ?_
   refine FL.v (E.move (v:=Value.int .i64 (wr (((i22:Nat):Int) + 1))) rfl) ?_
   refine FL.nil ?_
   obtain rfl:=Option.some.inj hp
   exact ⟨rfl,⟨_,S68,i51,(zaw rfl (zaB hx22) (p0.mono i51).le),k55,k56,k57⟩⟩
 ·
  clear hp hq
  rintro s22 f85 w84 ⟨H81,S82,i83,k86,k87,k88,k89⟩
  refine FW.seq (FW.region ?_)
  refine FL.v (E.lss k86 k89) ?_
  refine FL.nil (FW.seq ?_)
  refine FW.condF rfl zaG ?_
  refine FW.exit ?_
  exact ⟨nofun,rfl,⟨_,S82,i83⟩⟩
 ·
  clear hq
  intro e f80 w79 hD
  rcases q22 with s22|x22
  ·
   obtain ⟨rfl,hD⟩:=hD
   obtain ⟨H76,S77,i78⟩:=hD
   replace hp:=el_go hp
   refine FW.seq (FW.region ?_)
   refine FL.v (E.assign (v:=Value.int .i64 (-1)) rfl) ?_
   refine FL.nil ?_
   refine FW.ret ?_
   obtain rfl:=Option.some.inj hp
   exact ⟨.inr rfl,res1 rfl rfl ⟨rfl,S77.back⟩⟩
  ·
   obtain ⟨he,hL⟩:=hD
   replace hp:=el_rt hp
   obtain rfl:=Option.some.inj hp
   subst he
   exact hL

theorem zeI {Ha:GH} {wa:World} (hs:Sl Ha wa) (v0:Value) (a0:List Int) (p0:RSl Ha eI 1 v0 a0) (v1:Value) (a1:Int→Option Bool) (p1:zct Tryz.prog Ha v1 a1) {r:Bool} (hp:(PF.zcY a0 a1)=some r) :
  Calls Tryz.prog 153 #[v0,v1] wa (Sc Ha wa (Value.bool r)):=by
 unfold PF.zcY at hp
 have S0:=St.init hs
 refine zaj (N:=9) (args:=[v0,v1]) Tryz.func153 rfl rfl rfl ?_
 refine FW.seq (FW.region ?_)
 refine FL.v (E.assign (v:=Value.bool false) rfl) ?_
 refine FL.nil (FW.seq (FW.region ?_))
 refine FL.v (E.move (v:=v0) rfl) ?_
 refine FL.v (E.move (v:=v1) rfl) ?_
 obtain ⟨r21,hr22,hp⟩:=bnd hp
 refine FL.call rfl rfl rfl (E.call Tryz.call213 (A2 rfl rfl)) (zes S0.sl v0 a0 p0 v1 a1 p1 hr22) ?_
 rintro e w23 ⟨rfl,r24⟩
 refine ⟨_,rfl,?_⟩
 have S25:=S0.call r24
 refine FL.v (E.geq rfl rfl) ?_
 refine FL.v (E.assign (v:=Value.bool (decide (0≤r21))) rfl) ?_
 refine FL.nil ?_
 refine FW.ret ?_
 obtain rfl:=Option.some.inj hp
 exact ⟨.inr rfl,res1 rfl rfl ⟨rfl,S25.back⟩⟩

theorem zeJ {Ha:GH} {wa:World} (hs:Sl Ha wa) (v0:Value) (a0:List Int) (p0:RSl Ha eI 1 v0 a0) (a1:Int) {r:Int} (hp:(PF.zcZ a0 a1)=some r) :
  Calls Tryz.prog 124 #[v0,Value.int .i64 a1] wa (Sc Ha wa (Value.int .i64 r)):=by
 unfold PF.zcZ at hp
 have S0:=St.init hs
 refine zaj (N:=19) (args:=[v0,Value.int .i64 a1]) Tryz.func124 rfl rfl rfl ?_
 refine FW.seq (FW.region ?_)
 refine FL.v (E.assign (v:=Value.int .i64 0) rfl) ?_
 refine FL.nil (FW.seq (FW.seq (FW.region ?_)))
 refine FL.v (E.move (v:=v0) rfl) ?_
 refine FL.v (E.lenP te52 rfl p0) ?_
 refine FL.v (E.move (v:=Value.int .i64 0) rfl) ?_
 refine FL.nil ?_
 obtain ⟨q22,hq,hp⟩:=bndR hp
 refine FW.block ?_
 refine FW.mono (FW.forL (S:=Unit) (X:=Int) (fun (i22:Nat) (s22:Unit) f w=>∃ H:GH,St Ha wa H w []∧Inc Ha H∧f 8=Value.int .i64 ((i22:Nat):Int)∧f 0=v0∧f 1=Value.int .i64 a1∧f 7=Value.int .i64 (len a0)) (fun q e f w=>match q with|.go s22=>e=Exit.exit 0∧(∃ H:GH,St Ha wa H w []∧Inc Ha H)|.rt x=>((e=Exit.ret)∧(fun e f w=>(e=Exit.normal∨e=Exit.ret)∧∀ a,Fr (δ:=[]) 19 a f→∃ v,(results Tryz.f124 a.tmps).run Tryz.prog w=.ok v w∧(Sc Ha wa (Value.int .i64 x)) (.returned v) w) e f w)) hq ⟨_,S0,(Inc.rfl _),rfl,rfl,rfl,rfl⟩ ?_ ?_) ?_
 ·
  clear hp hq
  rintro i22 y21 s22 f43 w42 ⟨H39,S40,i41,k44,k45,k46,k47⟩ hx22 o55 hp
  refine FW.seq (FW.region ?_)
  refine FL.v (E.lssT k44 k47 (zaF hx22)) ?_
  refine FL.nil (FW.seq ?_)
  refine FW.condT rfl rfl ?_
  refine FW.skip (FW.seq (FW.block (FW.seq (FW.region ?_))))
  refine FL.v (E.move k44) ?_
  refine FL.v (E.assign (v:=Value.int .i64 ((i22:Nat):Int)) rfl) ?_
  refine FL.nil (FW.seq (FW.region ?_))
  refine FL.v (E.move k46) ?_
  refine FL.v (E.move k45) ?_
  refine FL.v (E.move (v:=Value.int .i64 ((i22:Nat):Int)) rfl) ?_
  obtain ⟨p48,cs49,pt50,l51,at52,rel53⟩:=p0.at (zaz hx22)
  obtain rfl:=zao rel53
  refine FL.v (E.indexAddr te52 rfl rfl pt50) ?_
  refine FL.v (E.load rfl (zak Tryz.isAgg3 ((at52.mono i41).now S40.sl) rfl)) ?_
  refine FL.v (E.eql rfl rfl) ?_
  refine FL.nil ?_
  rcases ifB hp with ⟨c54,hp⟩|⟨c54,hp⟩
  ·
   refine FW.condT rfl c54 ?_
   refine FW.seq (FW.region ?_)
   refine FL.v (E.move (v:=Value.int .i64 ((i22:Nat):Int)) rfl) ?_
   refine FL.v (E.assign (v:=Value.int .i64 ((i22:Nat):Int)) rfl) ?_
   refine FL.nil ?_
   refine FW.ret ?_
   obtain rfl:=Option.some.inj hp
   exact ⟨nofun,rfl,⟨.inr rfl,res1 rfl rfl ⟨rfl,S40.back⟩⟩⟩
  ·
   refine FW.condF rfl c54 ?_
   refine FW.skip (FW.region ?_)
   refine FL.v (E.add k44 rfl) ?_
   refine FL.v (E.move (v:=Value.int .i64 (wr (((i22:Nat):Int) + 1))) rfl) ?_
   refine FL.nil ?_
   obtain rfl:=Option.some.inj hp
   exact ⟨rfl,⟨_,S40,i41,(zaw rfl (zaB hx22) (p0.mono i41).le),k45,k46,k47⟩⟩
 ·
  clear hp hq
  rintro s22 f65 w64 ⟨H61,S62,i63,k66,k67,k68,k69⟩
  refine FW.seq (FW.region ?_)
  refine FL.v (E.lss k66 k69) ?_
  refine FL.nil (FW.seq ?_)
  refine FW.condF rfl zaG ?_
  refine FW.exit ?_
  exact ⟨nofun,rfl,⟨_,S62,i63⟩⟩
 ·
  clear hq
  intro e f60 w59 hD
  rcases q22 with s22|x22
  ·
   obtain ⟨rfl,hD⟩:=hD
   obtain ⟨H56,S57,i58⟩:=hD
   replace hp:=el_go hp
   refine FW.seq (FW.region ?_)
   refine FL.v (E.assign (v:=Value.int .i64 (-1)) rfl) ?_
   refine FL.nil ?_
   refine FW.ret ?_
   obtain rfl:=Option.some.inj hp
   exact ⟨.inr rfl,res1 rfl rfl ⟨rfl,S57.back⟩⟩
  ·
   obtain ⟨he,hL⟩:=hD
   replace hp:=el_rt hp
   obtain rfl:=Option.some.inj hp
   subst he
   exact hL

theorem zdY {Ha:GH} {wa:World} (hs:Sl Ha wa) (v0:Value) (a0:List Int) (p0:RSl Ha eI 1 v0 a0) (a1:Int) {r:Bool} (hp:(PF.zbY a0 a1)=some r) :
  Calls Tryz.prog 176 #[v0,Value.int .i64 a1] wa (Sc Ha wa (Value.bool r)):=by
 unfold PF.zbY at hp
 have S0:=St.init hs
 refine zaj (N:=9) (args:=[v0,Value.int .i64 a1]) Tryz.func176 rfl rfl rfl ?_
 refine FW.seq (FW.region ?_)
 refine FL.v (E.assign (v:=Value.bool false) rfl) ?_
 refine FL.nil (FW.seq (FW.region ?_))
 refine FL.v (E.move (v:=v0) rfl) ?_
 refine FL.v (E.move (v:=Value.int .i64 a1) rfl) ?_
 obtain ⟨r21,hr22,hp⟩:=bnd hp
 refine FL.call rfl rfl rfl (E.call Tryz.call124 (A2 rfl rfl)) (zeJ S0.sl v0 a0 p0 a1 hr22) ?_
 rintro e w23 ⟨rfl,r24⟩
 refine ⟨_,rfl,?_⟩
 have S25:=S0.call r24
 refine FL.v (E.geq rfl rfl) ?_
 refine FL.v (E.assign (v:=Value.bool (decide (0≤r21))) rfl) ?_
 refine FL.nil ?_
 refine FW.ret ?_
 obtain rfl:=Option.some.inj hp
 exact ⟨.inr rfl,res1 rfl rfl ⟨rfl,S25.back⟩⟩

theorem w_impl_part_1 {Ha:GH} {wa:World} (hs:Sl Ha wa) (a0:Int) (q0:Addr) (b0:List Int) (u0_0:Value) (g0_0:RSl Ha eI 1 u0_0 b0) (c0:CAt Ha q0 [u0_0]) {r:Bool} (hp:(PF.zc0 a0 b0)=some r) :
  Calls Tryz.prog 267 #[Value.int .i64 a0,Value.pointer (some q0)] wa (Sc Ha wa (Value.bool r)):=by
 unfold PF.zc0 at hp
 have S0:=St.init hs
 refine zaj (N:=8) (args:=[Value.int .i64 a0,Value.pointer (some q0)]) Tryz.func267 rfl rfl rfl ?_
 refine FW.seq (FW.region ?_)
 refine FL.v (E.assign (v:=Value.bool false) rfl) ?_
 refine FL.nil (FW.seq (FW.region ?_))
 refine FL.v (E.load rfl (zak Tryz.isAgg52 (c0.now S0.sl) rfl)) ?_
 refine FL.v (E.move (v:=Value.int .i64 a0) rfl) ?_
 obtain ⟨r21,hr22,hp⟩:=bnd hp
 refine FL.call rfl rfl rfl (E.call Tryz.call176 (A2 rfl rfl)) (zdY S0.sl u0_0 b0 g0_0 a0 hr22) ?_
 rintro e w23 ⟨rfl,r24⟩
 refine ⟨_,rfl,?_⟩
 have S25:=S0.call r24
 refine FL.v (E.not rfl) ?_
 refine FL.v (E.assign (v:=Value.bool (!r21)) rfl) ?_
 refine FL.nil ?_
 refine FW.ret ?_
 obtain rfl:=Option.some.inj hp
 exact ⟨.inr rfl,res1 rfl rfl ⟨rfl,S25.back⟩⟩

theorem w_impl_part {Ha:GH} {wa:World} (hs:Sl Ha wa) (v0:Value) (a0:List Int) (p0:RSl Ha eI 1 v0 a0) (v1:Value) (a1:List Int) (p1:RSl Ha eI 1 v1 a1) {r:Bool} (hp:(PF.zc1 a0 a1)=some r) :
  Calls Tryz.prog 255 #[v0,v1] wa (Sc Ha wa (Value.bool r)):=by
 unfold PF.zc1 at hp
 have S0:=St.init hs
 refine zaj (N:=9) (args:=[v0,v1]) Tryz.func255 rfl rfl rfl ?_
 refine FW.seq (FW.region ?_)
 obtain ⟨b21,w22,run23,S24⟩:=S0.box (P:=Tryz.prog) 52 [v1] (v:=v1) p1.cells (zab p1.one zae)
 refine FL.v (E.box rfl run23) ?_
 obtain ⟨H25,S26,i27,at28⟩:=S24.sealBox (i:=0) (l':=[]) rfl rfl
 refine FL.v (E.assign (v:=Value.bool false) rfl) ?_
 refine FL.nil (FW.seq (FW.region ?_))
 refine FL.v (E.move (v:=v0) rfl) ?_
 refine FL.v (E.makeFunc A0 (A1 rfl)) ?_
 obtain ⟨r29,hr30,hp⟩:=bnd hp
 refine FL.call rfl rfl rfl (E.call Tryz.call153 (A2 rfl rfl)) (zeI S26.sl v0 a0 (p0.mono i27) (Value.func (.func 267) #[] #[Value.pointer (some ⟨b21,0,none⟩)]) (fun x0=>PF.zc0 x0 a1) (fun H2 w2 hi2 hs2 x0 r hr=>⟨267,#[Value.pointer (some ⟨b21,0,none⟩)],rfl,Tryz.call267,w_impl_part_1 hs2 x0 ⟨b21,0,none⟩ a1 v1 ((p1.mono i27).mono hi2) (at28.mono hi2) hr⟩) hr30) ?_
 rintro e w31 ⟨rfl,r32⟩
 refine ⟨_,rfl,?_⟩
 have S33:=S26.call r32
 refine FL.v (E.not rfl) ?_
 refine FL.v (E.assign (v:=Value.bool (!r29)) rfl) ?_
 refine FL.nil ?_
 refine FW.ret ?_
 obtain rfl:=Option.some.inj hp
 exact ⟨.inr rfl,res1 rfl rfl ⟨rfl,S33.back⟩⟩

theorem zdZ {Ha:GH} {wa:World} (hs:Sl Ha wa) (a0:Int) (a1:Int) :
  Calls Tryz.prog 106 #[Value.int .i64 a0,Value.int .i64 a1] wa (Sc Ha wa (Value.bool (PF.zbg a0 a1))):=by
 obtain ⟨r,hp⟩:∃ r,(PF.zbg a0 a1)=r:=⟨_,rfl⟩
 rw [hp]
 unfold PF.zbg at hp
 have S0:=St.init hs
 refine zaj (N:=8) (args:=[Value.int .i64 a0,Value.int .i64 a1]) Tryz.func106 rfl rfl rfl ?_
 refine FW.seq (FW.region ?_)
 refine FL.v (E.assign (v:=Value.bool false) rfl) ?_
 refine FL.nil (FW.seq (FW.region ?_))
 refine FL.v (E.move (v:=Value.int .i64 a1) rfl) ?_
 refine FL.v (E.move (v:=Value.int .i64 a0) rfl) ?_
 refine FL.call rfl rfl rfl (E.call Tryz.call79 (A3 rfl rfl rfl)) (zdg S0.sl a1 1 a0) ?_
 rintro e w21 ⟨rfl,r22⟩
 refine ⟨_,rfl,?_⟩
 have S23:=S0.call r22
 refine FL.v (E.assign (v:=Value.bool (PF.za3 a1 1 a0)) rfl) ?_
 refine FL.nil ?_
 refine FW.ret ?_
 obtain rfl:=hp
 exact ⟨.inr rfl,res1 rfl rfl ⟨rfl,S23.back⟩⟩

@[reducible] def zeK (Ha:GH) (wa:World) (r:(List Int)):Ending→World→Prop :=
 fun e w'=>∃ H':GH,∃ v0:Value,∃ n0:Nat,∃ c0:List Value,e=.returned (v0)∧St Ha wa H' w' [.row 3 1 v0 n0 c0]∧Els (up wa.heap.size H') eI 1 c0 r
theorem zdj {Ha:GH} {wa:World} (hs:Sl Ha wa) (v0:Value) (a0:List Int) (p0:RSl Ha eI 1 v0 a0) {r:(List Int)} (hp:(PF.zbw a0)=some r) :
  Calls Tryz.prog 114 #[v0] wa (zeK Ha wa r):=by
 unfold PF.zbw at hp
 have S0:=St.init hs
 refine zaj (N:=8) (args:=[v0]) Tryz.func114 rfl rfl rfl ?_
 refine FW.seq (FW.region ?_)
 refine FL.v (E.assign (v:=Value.slice none 0 0) rfl) ?_
 refine FL.nil (FW.seq (FW.seq (FW.region ?_)))
 refine FL.v (E.move (v:=v0) rfl) ?_
 obtain ⟨nb21,run22,hn23⟩:=RSl.nilTest te52 p0
 refine FL.v (run22 _ _ _ _ _ _ _ _ _ _ _ _ rfl rfl) ?_
 refine FL.nil ?_
 rcases bcase nb21 with c24|c24
 ·
  refine FW.condT (b:=nb21) rfl c24 ?_
  rw [hn23 c24,app_nil2] at hp
  refine FW.seq (FW.region ?_)
  refine FL.v (E.assign (v:=Value.slice none 0 0) rfl) ?_
  refine FL.nil ?_
  refine FW.ret ?_
  obtain rfl:=Option.some.inj hp
  exact ⟨.inr rfl,res1 rfl rfl ⟨_,_,_,_,rfl,(S0.nil 3 1),Els.nil⟩⟩
 ·
  refine FW.condF (b:=nb21) rfl c24 ?_
  refine FW.skip (FW.seq (FW.region ?_))
  obtain ⟨v25,w26,run27,S28⟩:=S0.buildSlice (P:=Tryz.prog) te52 [] (parts:=#[]) (cells:=[]) rfl zan zam zae (Nat.le_of_ble_eq_true rfl)
  have els29:Els (up wa.heap.size Ha) eI 1 [] []:=Els.nil
  refine FL.v (E.buildSlice (B0) run27) ?_
  refine FL.v (E.move (v:=v0) rfl) ?_
  obtain ⟨xs30,hz31,hp⟩:=bnd hp
  obtain ⟨v32,w35,n33,cs34,run36,S37,els38⟩:=S28.appendP (P:=Tryz.prog) (Inc.rfl _) te52 (i:=0) rfl (els29.mono upI) p0 hz31
  have S37:St Ha wa Ha w35 [.row 3 1 v32 n33 cs34]:=S37
  have els38:Els (up wa.heap.size Ha) eI 1 cs34 xs30:=els38.any (fun _ _ _ _ h=>h)
  refine FL.v (E.append rfl rfl run36) ?_
  refine FL.v (E.assign (v:=v32) rfl) ?_
  refine FL.nil ?_
  refine FW.ret ?_
  obtain rfl:=Option.some.inj hp
  exact ⟨.inr rfl,res1 rfl rfl ⟨_,_,_,_,rfl,S37,els38⟩⟩

@[reducible] def zeL (H0:GH) (w0:World) (Ha:GH) (L:List MO) (r:(List Int)):Ending→World→Prop :=
 fun e w'=>∃ H':GH,∃ v0r:Value,∃ n0r:Nat,∃ c0r:List Value,e=.returned (v0r)∧(St H0 w0 H' w' (.row 3 1 v0r n0r c0r::L)∧Inc Ha H')∧Els (up w0.heap.size H') eI 1 c0r r
set_option maxHeartbeats 4000000 in
theorem zeM {H0 Ha:GH} {w0 wa:World} {L:List MO} {v0:Value} {n0:Nat} {k0:List Value} (S0:St H0 w0 Ha wa (.row 3 1 v0 n0 k0::L)) (a0:List Int) (p0:Els (up w0.heap.size Ha) eI 1 k0 a0) (v1:Value) (a1:Int→Option Bool) (p1:zct Tryz.prog Ha v1 a1) {r:(List Int)} (hp:(PF.zc2 a0 a1)=some r) :
  Calls Tryz.prog 233 #[v0,v1] wa (zeL H0 w0 Ha L r):=by
 unfold PF.zc2 at hp
 refine zaj (N:=42) (args:=[v0,v1]) Tryz.func233 rfl rfl rfl ?_
 refine FW.seq (FW.region ?_)
 refine FL.v (E.assign (v:=Value.slice none 0 0) rfl) ?_
 refine FL.nil (FW.seq (FW.region ?_))
 refine FL.v (E.move (v:=v0) rfl) ?_
 refine FL.v (E.move (v:=v1) rfl) ?_
 obtain ⟨H21,S22,i23,h24,nv25⟩:=S0.sealRowU (i:=0) (l':=L) rfl p0 (by decide) rfl
 obtain ⟨r26,hr27,hp⟩:=bnd hp
 refine FL.call rfl rfl rfl (E.call Tryz.call213 (A2 rfl rfl)) (zes S22.sl v0 a0 (h24.mono upI) v1 a1 (p1.mono i23) hr27) ?_
 rintro e w28 ⟨rfl,r29⟩
 refine ⟨_,rfl,?_⟩
 have r29:=Run.lend i23 S0.sl r29
 have S30:=S0.call r29
 refine FL.v (E.assign (v:=Value.int .i64 r26) rfl) ?_
 refine FL.nil (FW.seq (FW.seq (FW.region ?_)))
 refine FL.v (E.move (v:=Value.int .i64 r26) rfl) ?_
 refine FL.v (E.eql rfl rfl) ?_
 refine FL.nil ?_
 rcases ifB hp with ⟨c31,hp⟩|⟨c31,hp⟩
 ·
  refine FW.condT rfl c31 ?_
  refine FW.seq (FW.region ?_)
  refine FL.v (E.move (v:=v0) rfl) ?_
  refine FL.v (E.assign (v:=v0) rfl) ?_
  refine FL.nil ?_
  refine FW.ret ?_
  obtain rfl:=Option.some.inj hp
  exact ⟨.inr rfl,res1 rfl rfl ⟨_,_,_,_,rfl,⟨S30,(Inc.rfl _)⟩,p0⟩⟩
 ·
  refine FW.condF rfl c31 ?_
  refine FW.skip (FW.seq (FW.seq (FW.region ?_)))
  refine FL.v (E.move (v:=Value.int .i64 r26) rfl) ?_
  refine FL.v (E.add rfl rfl) ?_
  refine FL.v (E.assign (v:=Value.int .i64 (wr (r26 + 1))) rfl) ?_
  refine FL.nil ?_
  obtain ⟨q32,hq,hp⟩:=bndR hp
  refine FW.block ?_
  refine FW.mono (FW.iter (S:=((List Int)×Int×Int)) (X:=Empty) (fun (s32:((List Int)×Int×Int)) f w=>∃ H:GH,∃ cs78:List Value,St H0 w0 H w (.row 3 1 v0 n0 cs78::L)∧Inc Ha H∧Els (up w0.heap.size H) eI 1 cs78 s32.1∧f 0=v0∧f 1=v1∧f 5=Value.int .i64 s32.2.1∧f 6=Value.int .i64 s32.2.2) (fun (q:Rs ((List Int)×Int×Int) Empty) e f w=>match q with|.go s32=>e=Exit.exit 0∧(∃ H:GH,∃ cs78:List Value,St H0 w0 H w (.row 3 1 v0 n0 cs78::L)∧Inc Ha H∧Els (up w0.heap.size H) eI 1 cs78 s32.1∧f 0=v0∧f 5=Value.int .i64 s32.2.1)|.rt x=>x.elim) hq ⟨_,_,S30,(Inc.rfl _),p0,rfl,rfl,rfl,rfl⟩ ?_) ?_
  ·
   clear hp hq
   rintro s32 fAt wAs ⟨HAp,cs78,SAq,iAr,els79,kAu,kAv,kAw,kAx⟩ oB8 hp
   refine FW.seq (FW.seq (FW.region ?_))
   refine FL.v (E.move kAx) ?_
   refine FL.v (E.move kAu) ?_
   refine FL.v (E.lenO te52 rfl SAq (i:=0) rfl els79 (by decide)) ?_
   refine FL.v (E.lss rfl rfl) ?_
   refine FL.nil ?_
   rcases ifB hp with ⟨cAy,hp⟩|⟨cAy,hp⟩
   ·
    refine FW.condT rfl cAy ?_
    refine FW.skip (FW.seq (FW.block (FW.seq (FW.region ?_))))
    refine FL.v (E.move kAu) ?_
    refine FL.v (E.move kAx) ?_
    obtain ⟨xAF,hxAG,hp⟩:=bnd hp
    obtain ⟨pAz,csAA,ptAB,lAC,atAD,relAE⟩:=SAq.row_at (i:=0) rfl els79 (by decide) hxAG
    obtain rfl:=zao relAE
    refine FL.v (E.indexAddr te52 rfl rfl ptAB) ?_
    refine FL.v (E.load rfl (zak Tryz.isAgg3 atAD rfl)) ?_
    refine FL.v (E.assign (v:=Value.int .i64 xAF) rfl) ?_
    refine FL.nil (FW.seq (FW.region ?_))
    refine FL.v (E.move kAv) ?_
    refine FL.v (E.move (v:=Value.int .i64 xAF) rfl) ?_
    obtain ⟨rAH,hrAI,hp⟩:=bnd hp
    obtain ⟨fi148,csAN,hv150,he151,hcAQ⟩:=(p1.mono iAr) HAp wAs (Inc.rfl _) SAq.sl xAF rAH hrAI
    refine FL.call rfl rfl rfl (E.callV he151 (Eq.trans rfl hv150) (appA (A1 rfl) csAN)) hcAQ ?_
    rintro e wAJ ⟨rfl,rAK⟩
    refine ⟨_,rfl,?_⟩
    have SAL:=SAq.call rAK
    refine FL.v (E.not rfl) ?_
    refine FL.nil ?_
    rcases ifB hp with ⟨cAR,hp⟩|⟨cAR,hp⟩
    ·
     refine FW.condT rfl cAR ?_
     refine FW.seq (FW.region ?_)
     refine FL.v (E.move kAu) ?_
     refine FL.v (E.move kAw) ?_
     refine FL.v (E.move (v:=Value.int .i64 xAF) rfl) ?_
     obtain ⟨xAY,hxAZ,hp⟩:=bnd hp
     obtain ⟨pAS,csAT,ptAU,lAV,atAW,relAX⟩:=SAL.row_at (i:=0) rfl els79 (by decide) hxAZ
     obtain rfl:=zao relAX
     refine FL.v (E.indexAddr te52 rfl rfl ptAU) ?_
     obtain ⟨xsB3,hputB4,hp⟩:=bnd hp
     obtain ⟨wB0,csB6,runB1,SB2,elsB5,ceB7⟩:=SAL.putEls (P:=Tryz.prog) (t:=3) (i:=0) rfl els79 hputB4 ptAU Tryz.sizeOf3 (u:=Value.int .i64 xAF) (c:=[Value.int .i64 xAF]) rfl rfl (zab rfl zae) rfl
     have SB2:St H0 w0 HAp wB0 (.row 3 1 v0 n0 csB6::L):=SB2
     refine FL.act rfl rfl (E.store rfl rfl runB1) ?_
     refine FL.nil (FW.region ?_)
     refine FL.v (E.move kAw) ?_
     refine FL.v (E.add rfl rfl) ?_
     refine FL.v (E.assign (v:=Value.int .i64 (wr (s32.2.1 + 1))) rfl) ?_
     refine FL.nil (FW.region ?_)
     refine FL.v (E.move kAx) ?_
     refine FL.v (E.add rfl rfl) ?_
     refine FL.v (E.assign (v:=Value.int .i64 (wr (s32.2.2 + 1))) rfl) ?_
     refine FL.nil ?_
     obtain rfl:=Option.some.inj hp
     exact ⟨rfl,⟨_,_,SB2,iAr,elsB5,kAu,kAv,rfl,rfl⟩⟩
    ·
     refine FW.condF rfl cAR ?_
     refine FW.skip (FW.region ?_)
     refine FL.v (E.move kAx) ?_
     refine FL.v (E.add rfl rfl) ?_
     refine FL.v (E.assign (v:=Value.int .i64 (wr (s32.2.2 + 1))) rfl) ?_
     refine FL.nil ?_
     obtain rfl:=Option.some.inj hp
     exact ⟨rfl,⟨_,_,SAL,iAr,els79,kAu,kAv,kAw,rfl⟩⟩
   ·
    refine FW.condF rfl cAy ?_
    refine FW.exit ?_
    obtain rfl:=Option.some.inj hp
    exact ⟨nofun,rfl,⟨_,_,SAq,iAr,els79,kAu,kAw⟩⟩
  ·
   clear hq
   intro e fBd wBc hD
   rcases q32 with s32|x32
   ·
    obtain ⟨rfl,hD⟩:=hD
    obtain ⟨HB9,cs78,SBa,iBb,els79,kBe,kBf⟩:=hD
    replace hp:=el_go hp
    refine FW.seq (FW.region ?_)
    refine FL.v (E.move kBe) ?_
    refine FL.v (E.move kBf) ?_
    obtain ⟨xsBg,hcBh,hp⟩:=bnd hp
    obtain ⟨vBi,runBj,hBk⟩:=SBa.tail te52 (kk:=.i64) (i:=0) rfl els79 hcBh
    refine FL.v (E.slice te52 rfl (congrArg some rfl) rfl rfl (runBj _)) ?_
    obtain ⟨wBl,csBm,runBn,SBo,elsBp⟩:=SBa.clearTail (P:=Tryz.prog) te52 (i:=0) rfl els79 hBk rfl (zab rfl zae)
    have SBo:St H0 w0 HB9 wBl (.row 3 1 v0 n0 csBm::L):=SBo
    refine FL.val0 rfl rfl (E.clear rfl runBn) ?_
    refine FL.nil (FW.seq (FW.region ?_))
    refine FL.v (E.move kBe) ?_
    refine FL.v (E.move kBf) ?_
    obtain ⟨xsBq,hcBr,hp⟩:=bnd hp
    obtain ⟨vBs,nBt,csBu,runBv,SBw,elsBx,ndBy⟩:=SBo.cutRow te52 (kk:=.i64) (i:=0) rfl elsBp hcBr
    have SBw:St H0 w0 HB9 wBl (.row 3 1 vBs nBt csBu::L):=SBw
    refine FL.v (E.slice te52 rfl rfl (congrArg some rfl) rfl (runBv _)) ?_
    refine FL.v (E.assign (v:=vBs) rfl) ?_
    refine FL.nil ?_
    refine FW.ret ?_
    obtain rfl:=Option.some.inj hp
    exact ⟨.inr rfl,res1 rfl rfl ⟨_,_,_,_,rfl,⟨SBw,iBb⟩,elsBx⟩⟩
   ·
    exact x32.elim

theorem zeN {Ha:GH} {wa:World} (hs:Sl Ha wa) (a0:Int) (q0:Addr) (b0:Int) (c0:CAt Ha q0 [Value.int .i64 b0]) :
  Calls Tryz.prog 234 #[Value.int .i64 a0,Value.pointer (some q0)] wa (Sc Ha wa (Value.bool (PF.zcm a0 b0))):=by
 obtain ⟨r,hp⟩:∃ r,(PF.zcm a0 b0)=r:=⟨_,rfl⟩
 rw [hp]
 unfold PF.zcm at hp
 have S0:=St.init hs
 refine zaj (N:=8) (args:=[Value.int .i64 a0,Value.pointer (some q0)]) Tryz.func234 rfl rfl rfl ?_
 refine FW.seq (FW.region ?_)
 refine FL.v (E.assign (v:=Value.bool false) rfl) ?_
 refine FL.nil (FW.seq ?_)
 refine FW.draw (fun w'=>Run wa.heap.size Ha wa Ha w') (by kernel_rfl) (by kernel_rfl) (zaQ S0.sl) ?_
 refine FD.val rfl rfl rfl (fun w' hw'=>(E.move (v:=Value.int .i64 a0) rfl)) ?_
 refine FD.call rfl rfl rfl (fun w' hw'=>(E.call Tryz.call184 (A1 rfl))) (fun w' hw'=>Calls.cls hw' (zdh (S0.call hw').sl a0)) ?_
 refine FD.val rfl rfl rfl (fun w' hw'=>(E.load rfl (zak Tryz.isAgg3 (c0.now (S0.call hw').sl) rfl))) ?_
 refine FD.val rfl rfl rfl (fun w' hw'=>(E.eql rfl rfl)) ?_
 refine FD.val rfl rfl rfl (fun w' hw'=>(E.assign (v:=Value.bool ((PF.zax a0) == b0)) rfl)) ?_
 refine FD.nil ?_
 intro w22 r24
 have S23:=S0.call r24
 refine FW.ret ?_
 obtain rfl:=hp
 exact ⟨.inr rfl,res1 rfl rfl ⟨rfl,S23.back⟩⟩

@[reducible] def p_impl_withoutVar (Ha:GH) (wa:World) (r:(List Int)):Ending→World→Prop :=
 fun e w'=>∃ H':GH,∃ v0:Value,∃ n0:Nat,∃ c0:List Value,e=.returned (v0)∧St Ha wa H' w' [.row 3 1 v0 n0 c0]∧Els (up wa.heap.size H') eI 1 c0 r
theorem zet {Ha:GH} {wa:World} (hs:Sl Ha wa) (v0:Value) (a0:List Int) (p0:RSl Ha eI 1 v0 a0) (a1:Int) {r:(List Int)} (hp:(PF.zcn a0 a1)=some r) :
  Calls Tryz.prog 179 #[v0,Value.int .i64 a1] wa (p_impl_withoutVar Ha wa r):=by
 unfold PF.zcn at hp
 have S0:=St.init hs
 refine zaj (N:=9) (args:=[v0,Value.int .i64 a1]) Tryz.func179 rfl rfl rfl ?_
 refine FW.seq (FW.region ?_)
 obtain ⟨b21,w22,run23,S24⟩:=S0.box (P:=Tryz.prog) 3 [Value.int .i64 a1] (v:=Value.int .i64 a1) rfl (zab rfl zae)
 refine FL.v (E.box rfl run23) ?_
 obtain ⟨H25,S26,i27,at28⟩:=S24.sealBox (i:=0) (l':=[]) rfl rfl
 refine FL.v (E.assign (v:=Value.slice none 0 0) rfl) ?_
 refine FL.nil (FW.seq (FW.region ?_))
 refine FL.v (E.move (v:=v0) rfl) ?_
 obtain ⟨r29,hr30,hp⟩:=bnd hp
 refine FL.call rfl rfl rfl (E.call Tryz.call114 (A1 rfl)) (zdj S26.sl v0 a0 (p0.mono i27) hr30) ?_
 rintro e w32 ⟨H31,v35,n36,cs37,rfl,r34,els38⟩
 refine ⟨_,rfl,?_⟩
 have els38:=els38.mono (up_le S26.size)
 have S33:=S26.join (l':=[.row 3 1 v35 n36 cs37]) r34 rfl
 refine FL.v (E.makeFunc A0 (A1 rfl)) ?_
 obtain ⟨r39,hr40,hp⟩:=bnd hp
 refine FL.call rfl rfl rfl (E.call Tryz.call233 (A2 rfl rfl)) (zeM (L:=[]) S33 r29 els38 (Value.func (.func 234) #[] #[Value.pointer (some ⟨b21,0,none⟩)]) (fun x0=>some (PF.zcm x0 a1)) (fun H2 w2 hi2 hs2 x0 r hr=>⟨234,#[Value.pointer (some ⟨b21,0,none⟩)],rfl,Tryz.call234,by cases hr;exact zeN hs2 x0 ⟨b21,0,none⟩ a1 ((at28.mono r34.run.inc).mono hi2)⟩) hr40) ?_
 rintro e w42 ⟨H41,v45,n46,cs47,rfl,⟨S43,i44⟩,els48⟩
 refine ⟨_,rfl,?_⟩
 have S43:St Ha wa H41 w42 [.row 3 1 v45 n46 cs47]:=S43
 refine FL.v (E.assign (v:=v45) rfl) ?_
 refine FL.nil ?_
 refine FW.ret ?_
 obtain rfl:=Option.some.inj hp
 exact ⟨.inr rfl,res1 rfl rfl ⟨_,_,_,_,rfl,S43,els48⟩⟩

@[reducible] def zeO (Ha:GH) (wa:World) (r:List Int):Ending→World→Prop :=
 fun e w'=>∃ H':GH,∃ v0:Value,∃ n0:Nat,∃ c0:List Value,e=.returned (v0)∧St Ha wa H' w' [.row 3 1 v0 n0 c0]∧Els (up wa.heap.size H') eI 1 c0 r
theorem zeP {Ha:GH} {wa:World} (hs:Sl Ha wa) (a1:Int) {r:List Int} (hp:PF.zds a1=some r) :
  Calls Tryz.prog 232 #[.slice none 0 0,.int .i64 a1] wa (zeO Ha wa r):=by
 unfold PF.zds at hp
 split at hp
 ·
  rename_i h
  cases hp
  refine (growNil (En:=eI) te52 hs h.1 h.2 (fun w=>Any8.slices_Grow_room (P:=Tryz.prog) Tryz.grow232 none 0 0 0 w (Nat.le_refl _) (by decide) (by decide) (by decide))
   (fun n w h0 hl=>?_)).mono ?_
  ·
   have h:=Any8.slices_Grow_grow (P:=Tryz.prog) Tryz.grow232 _ _ Tryz.type3 rfl (by decide) none 0 0 n [] w (Nat.le_refl _) (by omega) ?_ (by unfold lim at hl;omega) (by simp) (fun _=>rfl) (by simp)
   ·
    refine h.mono ?_
    rintro _ _ ⟨rfl,rfl⟩
    refine ⟨by simp;rfl,?_⟩
    simp
    rfl
   ·
    rw [Nat.zero_add];refine Nat.le_trans (Nat.mul_le_mul hl (show _≤4096 by decide)) (by decide)
  ·
   rintro e w' ⟨v,n,c,rfl,h1,h2⟩
   exact ⟨_,_,_,_,rfl,h1,h2 _⟩
 ·
  cases hp

@[reducible] def zeQ (Ha:GH) (wa:World) (r:(List Int)):Ending→World→Prop :=
 fun e w'=>∃ H':GH,∃ v0:Value,∃ n0:Nat,∃ c0:List Value,e=.returned (v0)∧St Ha wa H' w' [.row 3 1 v0 n0 c0]∧Els (up wa.heap.size H') eI 1 c0 r
set_option maxHeartbeats 4000000 in
theorem zeR {Ha:GH} {wa:World} (hs:Sl Ha wa) (v0:Value) (a0:List (List Int)) (p0:RSl Ha (eL eI 1) 1 v0 a0) {r:(List Int)} (hp:(PF.zc3 a0)=some r) :
  Calls Tryz.prog 178 #[v0] wa (zeQ Ha wa r):=by
 unfold PF.zc3 at hp
 have S0:=St.init hs
 refine zaj (N:=36) (args:=[v0]) Tryz.func178 rfl rfl rfl ?_
 refine FW.seq (FW.region ?_)
 refine FL.v (E.assign (v:=Value.slice none 0 0) rfl) ?_
 refine FL.nil (FW.seq (FW.region ?_))
 refine FL.v (E.assign (v:=Value.int .i64 0) rfl) ?_
 refine FL.nil (FW.seq (FW.seq (FW.region ?_)))
 refine FL.v (E.move (v:=v0) rfl) ?_
 refine FL.v (E.lenP te24 rfl p0) ?_
 refine FL.v (E.move (v:=Value.int .i64 0) rfl) ?_
 refine FL.nil ?_
 obtain ⟨q22,hq,hp⟩:=bndR hp
 refine FW.block ?_
 refine FW.mono (FW.forL (S:=Int) (X:=Empty) (fun (i22:Nat) (s22:Int) f w=>∃ H:GH,St Ha wa H w []∧Inc Ha H∧f 11=Value.int .i64 ((i22:Nat):Int)∧f 0=v0∧f 3=Value.int .i64 s22∧f 9=v0∧f 10=Value.int .i64 (len a0)) (fun (q:Rs Int Empty) e f w=>match q with|.go s22=>e=Exit.exit 0∧(∃ H:GH,St Ha wa H w []∧Inc Ha H∧f 0=v0∧f 3=Value.int .i64 s22)|.rt x=>x.elim) hq ⟨_,S0,(Inc.rfl _),rfl,rfl,rfl,rfl,rfl⟩ ?_ ?_) ?_
 ·
  clear hp hq
  rintro i22 y21 s22 f46 w45 ⟨H42,S43,i44,k47,k48,k49,k50,k51⟩ hx22 o61 hp
  refine FW.seq (FW.region ?_)
  refine FL.v (E.lssT k47 k51 (zaF hx22)) ?_
  refine FL.nil (FW.seq ?_)
  refine FW.condT rfl rfl ?_
  refine FW.skip (FW.seq (FW.block (FW.seq (FW.region ?_))))
  obtain ⟨p52,cs53,pt54,l55,at56,rel57⟩:=p0.at (zaz hx22)
  obtain ⟨v58,rfl,h59⟩:=zbr rel57
  refine FL.v (E.indexAddr te24 k50 k47 pt54) ?_
  refine FL.v (E.load rfl (zak Tryz.isAgg52 ((at56.mono i44).now S43.sl) rfl)) ?_
  refine FL.v (E.assign (v:=v58) rfl) ?_
  refine FL.nil (FW.seq (FW.region ?_))
  refine FL.v (E.move k49) ?_
  refine FL.v (E.move (v:=v58) rfl) ?_
  refine FL.v (E.lenP te52 rfl h59) ?_
  refine FL.v (E.add rfl rfl) ?_
  refine FL.v (E.assign (v:=Value.int .i64 (wr (s22 + (len y21)))) rfl) ?_
  refine FL.nil (FW.seq (FW.region ?_))
  refine FL.v (E.move (v:=Value.int .i64 (wr (s22 + (len y21)))) rfl) ?_
  refine FL.v (E.lss rfl rfl) ?_
  refine FL.nil ?_
  rcases ifB hp with ⟨c60,hp⟩|⟨c60,hp⟩
  ·
   refine FW.condT rfl c60 ?_
   cases hp
  ·
   refine FW.condF rfl c60 ?_
   refine FW.skip (FW.region ?_)
   refine FL.v (E.add k47 rfl) ?_
   refine FL.v (E.move (v:=Value.int .i64 (wr (((i22:Nat):Int) + 1))) rfl) ?_
   refine FL.nil ?_
   obtain rfl:=Option.some.inj hp
   exact ⟨rfl,⟨_,S43,i44,(zaw rfl (zaB hx22) (p0.mono i44).le),k48,rfl,k50,k51⟩⟩
 ·
  clear hp hq
  rintro s22 fAX wAW ⟨HAT,SAU,iAV,kAY,kAZ,kB0,kB1,kB2⟩
  refine FW.seq (FW.region ?_)
  refine FL.v (E.lss kAY kB2) ?_
  refine FL.nil (FW.seq ?_)
  refine FW.condF rfl zaG ?_
  refine FW.exit ?_
  exact ⟨nofun,rfl,⟨_,SAU,iAV,kAZ,kB0⟩⟩
 ·
  clear hq
  intro e f66 w65 hD
  rcases q22 with s22|x22
  ·
   obtain ⟨rfl,hD⟩:=hD
   obtain ⟨H62,S63,i64,k67,k68⟩:=hD
   replace hp:=el_go hp
   refine FW.seq (FW.region ?_)
   refine FL.v (E.move k68) ?_
   obtain ⟨r69,hr70,hp⟩:=bnd hp
   refine FL.call rfl rfl rfl (E.call Tryz.call232 (A2 rfl rfl)) (zeP S63.sl s22 hr70) ?_
   rintro e w72 ⟨H71,v75,n76,cs77,rfl,r74,els78⟩
   refine ⟨_,rfl,?_⟩
   have els78:=els78.mono (up_le S63.size)
   have S73:=S63.join (l':=[.row 3 1 v75 n76 cs77]) r74 rfl
   refine FL.v (E.assign (v:=v75) rfl) ?_
   refine FL.nil (FW.seq (FW.seq (FW.region ?_)))
   refine FL.v (E.move k67) ?_
   refine FL.v (E.lenP te24 rfl p0) ?_
   refine FL.v (E.move (v:=Value.int .i64 0) rfl) ?_
   refine FL.nil ?_
   obtain ⟨q80,hq,hp⟩:=bndR hp
   refine FW.block ?_
   refine FW.mono (FW.forL (S:=(List Int)) (X:=Empty) (fun (i80:Nat) (s80:(List Int)) f w=>∃ H:GH,∃ v81:Value,∃ n82:Nat,∃ cs83:List Value,St Ha wa H w [.row 3 1 v81 n82 cs83]∧Inc H71 H∧Els (up wa.heap.size H) eI 1 cs83 s80∧f 27=Value.int .i64 ((i80:Nat):Int)∧f 6=v81∧f 25=v0∧f 26=Value.int .i64 (len a0)) (fun (q:Rs (List Int) Empty) e f w=>match q with|.go s80=>e=Exit.exit 2∧(∃ H:GH,∃ v81:Value,∃ n82:Nat,∃ cs83:List Value,St Ha wa H w [.row 3 1 v81 n82 cs83]∧Inc H71 H∧Els (up wa.heap.size H) eI 1 cs83 s80∧f 6=v81)|.rt x=>x.elim) hq ⟨_,_,_,_,S73,(Inc.rfl _),els78,rfl,rfl,rfl,rfl⟩ ?_ ?_) ?_
   ·
    clear hp hq
    rintro i80 y79 s80 fAg wAf ⟨HAc,v81,n82,cs83,SAd,iAe,els84,kAh,kAi,kAj,kAk⟩ hx80 oAD hp
    refine FW.seq (FW.region ?_)
    refine FL.v (E.lssT kAh kAk (zaF hx80)) ?_
    refine FL.nil (FW.seq ?_)
    refine FW.condT rfl rfl ?_
    refine FW.skip (FW.seq (FW.block (FW.seq (FW.region ?_))))
    obtain ⟨pAl,csAm,ptAn,lAo,atAp,relAq⟩:=p0.at (zaz hx80)
    obtain ⟨vAr,rfl,hAs⟩:=zbr relAq
    refine FL.v (E.indexAddr te24 kAj kAh ptAn) ?_
    refine FL.v (E.load rfl (zak Tryz.isAgg52 ((atAp.mono ((i64.tr r74.run.inc).tr iAe)).now SAd.sl) rfl)) ?_
    refine FL.v (E.assign (v:=vAr) rfl) ?_
    refine FL.nil (FW.region ?_)
    refine FL.v (E.move kAi) ?_
    refine FL.v (E.move (v:=vAr) rfl) ?_
    obtain ⟨xsAt,hzAu,hp⟩:=bnd hp
    obtain ⟨vAv,wAy,nAw,csAx,runAz,SAA,elsAB⟩:=SAd.appendP (P:=Tryz.prog) (Inc.rfl _) te52 (i:=0) rfl (els84.mono upI) (hAs.mono ((i64.tr r74.run.inc).tr iAe)) hzAu
    have SAA:St Ha wa HAc wAy [.row 3 1 vAv nAw csAx]:=SAA
    have elsAB:Els (up wa.heap.size HAc) eI 1 csAx xsAt:=elsAB.any (fun _ _ _ _ h=>h)
    refine FL.v (E.append rfl rfl runAz) ?_
    refine FL.v (E.assign (v:=vAv) rfl) ?_
    refine FL.nil (FW.region ?_)
    refine FL.v (E.add kAh rfl) ?_
    refine FL.v (E.move (v:=Value.int .i64 (wr (((i80:Nat):Int) + 1))) rfl) ?_
    refine FL.nil ?_
    obtain rfl:=Option.some.inj hp
    exact ⟨rfl,⟨_,_,_,_,SAA,iAe,elsAB,(zaw rfl (zaB hx80) (p0.mono ((i64.tr r74.run.inc).tr iAe)).le),rfl,kAj,kAk⟩⟩
   ·
    clear hp hq
    rintro s80 fAO wAN ⟨HAK,v81,n82,cs83,SAL,iAM,els84,kAP,kAQ,kAR,kAS⟩
    refine FW.seq (FW.region ?_)
    refine FL.v (E.lss kAP kAS) ?_
    refine FL.nil (FW.seq ?_)
    refine FW.condF rfl zaG ?_
    refine FW.exit ?_
    exact ⟨nofun,rfl,⟨_,_,_,_,SAL,iAM,els84,kAQ⟩⟩
   ·
    clear hq
    intro e fAI wAH hD
    rcases q80 with s80|x80
    ·
     obtain ⟨rfl,hD⟩:=hD
     obtain ⟨HAE,v81,n82,cs83,SAF,iAG,els84,kAJ⟩:=hD
     replace hp:=el_go hp
     refine FW.seq (FW.region ?_)
     refine FL.v (E.move kAJ) ?_
     refine FL.v (E.assign (v:=v81) rfl) ?_
     refine FL.nil ?_
     refine FW.ret ?_
     obtain rfl:=Option.some.inj hp
     exact ⟨.inr rfl,res1 rfl rfl ⟨_,_,_,_,rfl,SAF,els84⟩⟩
    ·
     exact x80.elim
  ·
   exact x22.elim

@[reducible] def zeS (H0:GH) (w0:World) (Ha:GH) (L:List MO) (v0:Value) (n0:Nat) (r:(List Int)):Ending→World→Prop :=
 fun e w'=>∃ H':GH,∃ c0k:List Value,e=.returned (Value.tuple #[])∧(St H0 w0 H' w' (.row 3 1 v0 n0 c0k::L)∧Inc Ha H')∧Els (up w0.heap.size H') eI 1 c0k r
theorem zeT {H0 Ha:GH} {w0 wa:World} {L:List MO} {v0:Value} {n0:Nat} {k0:List Value} (S0:St H0 w0 Ha wa (.row 3 1 v0 n0 k0::L)) (a0:List Int) (p0:Els (up w0.heap.size Ha) eI 1 k0 a0) (v1:Value) (a1:Int→Int→Option Int) (p1:Fn_I_I_to_I Tryz.prog Ha v1 a1) {r:(List Int)} (hp:(PF.zdt a0 a1)=some r) :
  Calls Tryz.prog 229 #[v0,v1] wa (zeS H0 w0 Ha L v0 n0 r):=by
 refine (St.sortF (l:=.row 3 1 v0 n0 k0::L) (i:=0) upI S0 rfl p0 (fun H2 w2 hi hs2 c x hc d y hd r hr=>by cases zao hc;cases zao hd;exact p1 H2 w2 hi hs2 x y r hr) (fun p cap fv w=>AnyF.slices_SortFunc_none (P:=Tryz.prog) (ρ:=Tryz.sort229_ren) { Tryz.sort229 with } p cap fv w) (fun α _ enc h1 cf hO g cb blk off cap d w eg hc hH hb hs=>Any.slices_SortFunc Tryz.sort229 enc h1 cf hO g cb blk off cap d w eg hc hH hb hs) hp).mono ?_
 rintro e w' ⟨rfl,c',h1,h2,hq⟩
 exact ⟨_,_,rfl,⟨h1,Inc.rfl _⟩,h2⟩

theorem zeu {Ha:GH} {wa:World} (hs:Sl Ha wa) (a0:Int) :
  Calls Tryz.prog 278 #[Value.int .i64 a0] wa (Sc Ha wa (Value.bool (PF.zbh a0))):=by
 obtain ⟨r,hp⟩:∃ r,(PF.zbh a0)=r:=⟨_,rfl⟩
 rw [hp]
 unfold PF.zbh at hp
 have S0:=St.init hs
 refine zaj (N:=6) (args:=[Value.int .i64 a0]) Tryz.func278 rfl rfl rfl ?_
 refine FW.seq (FW.region ?_)
 refine FL.v (E.assign (v:=Value.bool false) rfl) ?_
 refine FL.nil (FW.seq (FW.region ?_))
 refine FL.v (E.move (v:=Value.int .i64 a0) rfl) ?_
 refine FL.v (E.move (v:=Value.int .i64 a0) rfl) ?_
 refine FL.v (E.neq rfl rfl) ?_
 refine FL.v (E.assign (v:=Value.bool (!(a0 == a0))) rfl) ?_
 refine FL.nil ?_
 refine FW.ret ?_
 obtain rfl:=hp
 exact ⟨.inr rfl,res1 rfl rfl ⟨rfl,S0.back⟩⟩

set_option maxHeartbeats 4000000 in
theorem zev {Ha:GH} {wa:World} (hs:Sl Ha wa) (a0:Int) (a1:Int) :
  Calls Tryz.prog 259 #[Value.int .i64 a0,Value.int .i64 a1] wa (Sc Ha wa (Value.int .i64 (PF.zbm a0 a1))):=by
 obtain ⟨r,hp⟩:∃ r,(PF.zbm a0 a1)=r:=⟨_,rfl⟩
 rw [hp]
 unfold PF.zbm at hp
 have S0:=St.init hs
 refine zaj (N:=20) (args:=[Value.int .i64 a0,Value.int .i64 a1]) Tryz.func259 rfl rfl rfl ?_
 refine FW.seq (FW.region ?_)
 refine FL.v (E.assign (v:=Value.int .i64 0) rfl) ?_
 refine FL.nil (FW.seq (FW.region ?_))
 refine FL.v (E.move (v:=Value.int .i64 a0) rfl) ?_
 refine FL.call rfl rfl rfl (E.call Tryz.call278 (A1 rfl)) (zeu S0.sl a0) ?_
 rintro e w21 ⟨rfl,r22⟩
 refine ⟨_,rfl,?_⟩
 have S23:=S0.call r22
 refine FL.v (E.assign (v:=Value.bool (PF.zbh a0)) rfl) ?_
 refine FL.nil (FW.seq (FW.region ?_))
 refine FL.v (E.move (v:=Value.int .i64 a1) rfl) ?_
 refine FL.call rfl rfl rfl (E.call Tryz.call278 (A1 rfl)) (zeu S23.sl a1) ?_
 rintro e w24 ⟨rfl,r25⟩
 refine ⟨_,rfl,?_⟩
 have S26:=S23.call r25
 refine FL.v (E.assign (v:=Value.bool (PF.zbh a1)) rfl) ?_
 refine FL.nil (FW.seq (FW.seq (FW.region ?_)))
 refine FL.v (E.move (v:=Value.bool (PF.zbh a0)) rfl) ?_
 refine FL.nil ?_
 rcases ifT hp with ⟨c27,hp⟩|⟨c27,hp⟩
 ·
  refine FW.condT rfl c27 ?_
  refine FW.seq (FW.seq (FW.region ?_))
  refine FL.v (E.move (v:=Value.bool (PF.zbh a1)) rfl) ?_
  refine FL.nil ?_
  rcases ifT hp with ⟨c28,hp⟩|⟨c28,hp⟩
  ·
   refine FW.condT rfl c28 ?_
   refine FW.seq (FW.region ?_)
   refine FL.v (E.assign (v:=Value.int .i64 0) rfl) ?_
   refine FL.nil ?_
   refine FW.ret ?_
   obtain rfl:=hp
   exact ⟨.inr rfl,res1 rfl rfl ⟨rfl,S26.back⟩⟩
  ·
   refine FW.condF rfl c28 ?_
   refine FW.skip (FW.seq (FW.region ?_))
   refine FL.v (E.assign (v:=Value.int .i64 (-1)) rfl) ?_
   refine FL.nil ?_
   refine FW.ret ?_
   obtain rfl:=hp
   exact ⟨.inr rfl,res1 rfl rfl ⟨rfl,S26.back⟩⟩
 ·
  refine FW.condF rfl c27 ?_
  refine FW.skip (FW.seq (FW.seq (FW.region ?_)))
  refine FL.v (E.move (v:=Value.bool (PF.zbh a1)) rfl) ?_
  refine FL.nil ?_
  rcases ifT hp with ⟨c29,hp⟩|⟨c29,hp⟩
  ·
   refine FW.condT rfl c29 ?_
   refine FW.seq (FW.region ?_)
   refine FL.v (E.assign (v:=Value.int .i64 1) rfl) ?_
   refine FL.nil ?_
   refine FW.ret ?_
   obtain rfl:=hp
   exact ⟨.inr rfl,res1 rfl rfl ⟨rfl,S26.back⟩⟩
  ·
   refine FW.condF rfl c29 ?_
   refine FW.skip (FW.seq (FW.seq (FW.region ?_)))
   refine FL.v (E.move (v:=Value.int .i64 a0) rfl) ?_
   refine FL.v (E.move (v:=Value.int .i64 a1) rfl) ?_
   refine FL.v (E.lss rfl rfl) ?_
   refine FL.nil ?_
   rcases ifT hp with ⟨c30,hp⟩|⟨c30,hp⟩
   ·
    refine FW.condT rfl c30 ?_
    refine FW.seq (FW.region ?_)
    refine FL.v (E.assign (v:=Value.int .i64 (-1)) rfl) ?_
    refine FL.nil ?_
    refine FW.ret ?_
    obtain rfl:=hp
    exact ⟨.inr rfl,res1 rfl rfl ⟨rfl,S26.back⟩⟩
   ·
    refine FW.condF rfl c30 ?_
    refine FW.skip (FW.seq (FW.seq (FW.region ?_)))
    refine FL.v (E.move (v:=Value.int .i64 a0) rfl) ?_
    refine FL.v (E.move (v:=Value.int .i64 a1) rfl) ?_
    refine FL.v (E.gtr rfl rfl) ?_
    refine FL.nil ?_
    rcases ifT hp with ⟨c31,hp⟩|⟨c31,hp⟩
    ·
     refine FW.condT rfl c31 ?_
     refine FW.seq (FW.region ?_)
     refine FL.v (E.assign (v:=Value.int .i64 1) rfl) ?_
     refine FL.nil ?_
     refine FW.ret ?_
     obtain rfl:=hp
     exact ⟨.inr rfl,res1 rfl rfl ⟨rfl,S26.back⟩⟩
    ·
     refine FW.condF rfl c31 ?_
     refine FW.skip (FW.seq (FW.region ?_))
     refine FL.v (E.assign (v:=Value.int .i64 0) rfl) ?_
     refine FL.nil ?_
     refine FW.ret ?_
     obtain rfl:=hp
     exact ⟨.inr rfl,res1 rfl rfl ⟨rfl,S26.back⟩⟩

theorem w_cmp_Or_int {Ha:GH} {wa:World} (hs:Sl Ha wa) (v0:Value) (a0:List Int) (p0:RSl Ha eI 1 v0 a0) {r:Int} (hp:(PF.zdu a0)=some r) :
  Calls Tryz.prog 258 #[v0] wa (Sc Ha wa (Value.int .i64 r)):=by
 unfold PF.zdu at hp
 have S0:=St.init hs
 refine zaj (N:=18) (args:=[v0]) Tryz.func258 rfl rfl rfl ?_
 refine FW.seq (FW.region ?_)
 refine FL.v (E.assign (v:=Value.int .i64 0) rfl) ?_
 refine FL.nil (FW.seq (FW.region ?_))
 refine FL.v (E.assign (v:=Value.int .i64 0) rfl) ?_
 refine FL.nil (FW.seq (FW.seq (FW.region ?_)))
 refine FL.v (E.move (v:=v0) rfl) ?_
 refine FL.v (E.lenP te52 rfl p0) ?_
 refine FL.v (E.move (v:=Value.int .i64 0) rfl) ?_
 refine FL.nil ?_
 obtain ⟨q22,hq,hp⟩:=bndR hp
 refine FW.block ?_
 refine FW.mono (FW.forL (S:=Unit) (X:=Int) (fun (i22:Nat) (s22:Unit) f w=>∃ H:GH,St Ha wa H w []∧Inc Ha H∧f 8=Value.int .i64 ((i22:Nat):Int)∧f 3=Value.int .i64 0∧f 6=v0∧f 7=Value.int .i64 (len a0)) (fun q e f w=>match q with|.go s22=>e=Exit.exit 0∧(∃ H:GH,St Ha wa H w []∧Inc Ha H∧f 3=Value.int .i64 0)|.rt x=>((e=Exit.ret)∧(fun e f w=>(e=Exit.normal∨e=Exit.ret)∧∀ a,Fr (δ:=[]) 18 a f→∃ v,(results Tryz.f258 a.tmps).run Tryz.prog w=.ok v w∧(Sc Ha wa (Value.int .i64 x)) (.returned v) w) e f w)) hq ⟨_,S0,(Inc.rfl _),rfl,rfl,rfl,rfl⟩ ?_ ?_) ?_
 ·
  clear hp hq
  rintro i22 y21 s22 f43 w42 ⟨H39,S40,i41,k44,k45,k46,k47⟩ hx22 o55 hp
  refine FW.seq (FW.region ?_)
  refine FL.v (E.lssT k44 k47 (zaF hx22)) ?_
  refine FL.nil (FW.seq ?_)
  refine FW.condT rfl rfl ?_
  refine FW.skip (FW.seq (FW.block (FW.seq (FW.region ?_))))
  obtain ⟨p48,cs49,pt50,l51,at52,rel53⟩:=p0.at (zaz hx22)
  obtain rfl:=zao rel53
  refine FL.v (E.indexAddr te52 k46 k44 pt50) ?_
  refine FL.v (E.load rfl (zak Tryz.isAgg3 ((at52.mono i41).now S40.sl) rfl)) ?_
  refine FL.v (E.assign (v:=Value.int .i64 y21) rfl) ?_
  refine FL.nil (FW.seq (FW.region ?_))
  refine FL.v (E.move (v:=Value.int .i64 y21) rfl) ?_
  refine FL.v (E.move k45) ?_
  refine FL.v (E.neq rfl rfl) ?_
  refine FL.nil ?_
  rcases ifB hp with ⟨c54,hp⟩|⟨c54,hp⟩
  ·
   refine FW.condT rfl c54 ?_
   refine FW.seq (FW.region ?_)
   refine FL.v (E.move (v:=Value.int .i64 y21) rfl) ?_
   refine FL.v (E.assign (v:=Value.int .i64 y21) rfl) ?_
   refine FL.nil ?_
   refine FW.ret ?_
   obtain rfl:=Option.some.inj hp
   exact ⟨nofun,rfl,⟨.inr rfl,res1 rfl rfl ⟨rfl,S40.back⟩⟩⟩
  ·
   refine FW.condF rfl c54 ?_
   refine FW.skip (FW.region ?_)
   refine FL.v (E.add k44 rfl) ?_
   refine FL.v (E.move (v:=Value.int .i64 (wr (((i22:Nat):Int) + 1))) rfl) ?_
   refine FL.nil ?_
   obtain rfl:=Option.some.inj hp
   exact ⟨rfl,⟨_,S40,i41,(zaw rfl (zaB hx22) (p0.mono i41).le),k45,k46,k47⟩⟩
 ·
  clear hp hq
  rintro s22 f66 w65 ⟨H62,S63,i64,k67,k68,k69,k70⟩
  refine FW.seq (FW.region ?_)
  refine FL.v (E.lss k67 k70) ?_
  refine FL.nil (FW.seq ?_)
  refine FW.condF rfl zaG ?_
  refine FW.exit ?_
  exact ⟨nofun,rfl,⟨_,S63,i64,k68⟩⟩
 ·
  clear hq
  intro e f60 w59 hD
  rcases q22 with s22|x22
  ·
   obtain ⟨rfl,hD⟩:=hD
   obtain ⟨H56,S57,i58,k61⟩:=hD
   replace hp:=el_go hp
   refine FW.seq (FW.region ?_)
   refine FL.v (E.move k61) ?_
   refine FL.v (E.assign (v:=Value.int .i64 0) rfl) ?_
   refine FL.nil ?_
   refine FW.ret ?_
   obtain rfl:=Option.some.inj hp
   exact ⟨.inr rfl,res1 rfl rfl ⟨rfl,S57.back⟩⟩
  ·
   obtain ⟨he,hL⟩:=hD
   replace hp:=el_rt hp
   obtain rfl:=Option.some.inj hp
   subst he
   exact hL

theorem zeU {Ha:GH} {wa:World} (hs:Sl Ha wa) (a0:Int) (a1:Int) {r:Int} (hp:(PF.za4 a0 a1)=some r) :
  Calls Tryz.prog 230 #[Value.int .i64 a0,Value.int .i64 a1] wa (Sc Ha wa (Value.int .i64 r)):=by
 unfold PF.za4 at hp
 have S0:=St.init hs
 refine zaj (N:=15) (args:=[Value.int .i64 a0,Value.int .i64 a1]) Tryz.func230 rfl rfl rfl ?_
 refine FW.seq (FW.region ?_)
 refine FL.v (E.assign (v:=Value.int .i64 0) rfl) ?_
 refine FL.nil (FW.seq (FW.region ?_))
 refine FL.v (E.move (v:=Value.int .i64 a0) rfl) ?_
 refine FL.call rfl rfl rfl (E.call Tryz.call184 (A1 rfl)) (zdh S0.sl a0) ?_
 rintro e w21 ⟨rfl,r22⟩
 refine ⟨_,rfl,?_⟩
 have S23:=S0.call r22
 refine FL.v (E.move (v:=Value.int .i64 a1) rfl) ?_
 refine FL.call rfl rfl rfl (E.call Tryz.call184 (A1 rfl)) (zdh S23.sl a1) ?_
 rintro e w24 ⟨rfl,r25⟩
 refine ⟨_,rfl,?_⟩
 have S26:=S23.call r25
 refine FL.call rfl rfl rfl (E.call Tryz.call259 (A2 rfl rfl)) (zev S26.sl (PF.zax a0) (PF.zax a1)) ?_
 rintro e w27 ⟨rfl,r28⟩
 refine ⟨_,rfl,?_⟩
 have S29:=S26.call r28
 refine FL.v (E.move (v:=Value.int .i64 a1) rfl) ?_
 refine FL.v (E.move (v:=Value.int .i64 a0) rfl) ?_
 refine FL.call rfl rfl rfl (E.call Tryz.call259 (A2 rfl rfl)) (zev S29.sl a1 a0) ?_
 rintro e w30 ⟨rfl,r31⟩
 refine ⟨_,rfl,?_⟩
 have S32:=S29.call r31
 obtain ⟨v33,w34,run35,S36,els37⟩:=S32.ints (P:=Tryz.prog) te52 (up wa.heap.size Ha) 2 [(PF.zbm (PF.zax a0) (PF.zax a1)),(PF.zbm a1 a0)]
 refine FL.v (E.buildSlice (B2 rfl rfl) run35) ?_
 obtain ⟨H38,S39,i40,h41,nv42⟩:=S36.sealRowU (i:=0) (l':=[]) rfl els37 (by decide) rfl
 obtain ⟨r43,hr44,hp⟩:=bnd hp
 refine FL.call rfl rfl rfl (E.call Tryz.call258 (A1 rfl)) (w_cmp_Or_int S39.sl v33 [(PF.zbm (PF.zax a0) (PF.zax a1)),(PF.zbm a1 a0)] (h41.mono upI) hr44) ?_
 rintro e w45 ⟨rfl,r46⟩
 refine ⟨_,rfl,?_⟩
 have r46:=Run.lend i40 S36.sl r46
 have S47:=S36.call r46
 refine FL.v (E.assign (v:=Value.int .i64 r43) rfl) ?_
 refine FL.nil ?_
 refine FW.ret ?_
 obtain rfl:=Option.some.inj hp
 exact ⟨.inr rfl,res1 rfl rfl ⟨rfl,S47.back⟩⟩

@[reducible] def zeV (H0:GH) (w0:World) (Ha:GH) (L:List MO) (r:(List Int)):Ending→World→Prop :=
 fun e w'=>∃ H':GH,∃ v0r:Value,∃ n0r:Nat,∃ c0r:List Value,e=.returned (v0r)∧(St H0 w0 H' w' (.row 3 1 v0r n0r c0r::L)∧Inc Ha H')∧Els (up w0.heap.size H') eI 1 c0r r
theorem zeW {H0 Ha:GH} {w0 wa:World} {L:List MO} {v0:Value} {n0:Nat} {k0:List Value} (S0:St H0 w0 Ha wa (.row 3 1 v0 n0 k0::L)) (a0:List Int) (p0:Els (up w0.heap.size Ha) eI 1 k0 a0) {r:(List Int)} (hp:(PF.zdT a0)=some r) :
  Calls Tryz.prog 231 #[v0] wa (zeV H0 w0 Ha L r):=by
 cases hp
 refine (St.compactF (l:=.row 3 1 v0 n0 k0::L) (i:=0) S0 rfl p0 (enc:=Value.int .i64) (fun _=>rfl) (fun _ _ _ h=>by cases zao h;rfl) (fun _ _=>rfl) 0 (fun w=>compact_none Tryz.comp231 w) (fun blk off cap d w hH hs hc=>AnyE.slices_Compact Tryz.comp231 (Value.int .i64) (fun _=>rfl) (EqlAt.intD _ _ _) (NeqAt.intD _ _ _) 0 (fun w=>Tryz.zeroValue3 w) blk off cap d w hH hs hc)).mono ?_
 rintro e w' ⟨v',n',c',rfl,h1,h2⟩
 exact ⟨_,_,_,_,rfl,⟨h1,Inc.rfl _⟩,h2⟩

@[reducible] def p_impl_clause (Ha:GH) (wa:World) (r:((List Int)×Bool)):Ending→World→Prop :=
 fun e w'=>∃ H':GH,∃ v0:Value,∃ n0:Nat,∃ c0:List Value,e=.returned (Value.tuple #[v0,Value.bool r.2])∧St Ha wa H' w' [.row 3 1 v0 n0 c0]∧Els (up wa.heap.size H') eI 1 c0 r.1
set_option maxHeartbeats 4000000 in
theorem w_impl_clause {Ha:GH} {wa:World} (hs:Sl Ha wa) (v0:Value) (a0:List Int) (p0:RSl Ha eI 1 v0 a0) {r:((List Int)×Bool)} (hp:(PF.zco a0)=some r) :
  Calls Tryz.prog 177 #[v0] wa (p_impl_clause Ha wa r):=by
 unfold PF.zco at hp
 have S0:=St.init hs
 refine zaj (N:=30) (args:=[v0]) Tryz.func177 rfl rfl rfl ?_
 refine FW.seq (FW.region ?_)
 refine FL.v (E.assign (v:=Value.slice none 0 0) rfl) ?_
 refine FL.v (E.assign (v:=Value.bool false) rfl) ?_
 refine FL.nil (FW.seq (FW.region ?_))
 refine FL.v (E.move (v:=v0) rfl) ?_
 obtain ⟨r21,hr22,hp⟩:=bnd hp
 refine FL.call rfl rfl rfl (E.call Tryz.call114 (A1 rfl)) (zdj S0.sl v0 a0 p0 hr22) ?_
 rintro e w24 ⟨H23,v27,n28,cs29,rfl,r26,els30⟩
 refine ⟨_,rfl,?_⟩
 have els30:=els30.mono (up_le S0.size)
 have S25:=S0.join (l':=[.row 3 1 v27 n28 cs29]) r26 rfl
 refine FL.v (E.assign (v:=v27) rfl) ?_
 refine FL.nil (FW.seq (FW.region ?_))
 refine FL.v (E.move (v:=v27) rfl) ?_
 obtain ⟨r31,hr32,hp⟩:=bnd hp
 refine FL.call rfl rfl rfl (E.call Tryz.call229 (A2 rfl rfl)) (zeT (L:=[]) S25 r21 els30 (Value.func (.func 230) #[] #[]) (fun x0 x1=>PF.za4 x0 x1) (fun H2 w2 hi2 hs2 x0 x1 r hr=>⟨230,#[],rfl,Tryz.call230,zeU hs2 x0 x1  hr⟩) hr32) ?_
 rintro e w34 ⟨H33,cs37,rfl,⟨S35,i36⟩,els38⟩
 refine ⟨_,rfl,?_⟩
 have S35:St Ha wa H33 w34 [.row 3 1 v27 n28 cs37]:=S35
 refine FL.nil (FW.seq (FW.region ?_))
 refine FL.v (E.move (v:=v27) rfl) ?_
 obtain ⟨r39,hr40,hp⟩:=bnd hp
 refine FL.call rfl rfl rfl (E.call Tryz.call231 (A1 rfl)) (zeW (L:=[]) S35 r31 els38 hr40) ?_
 rintro e w42 ⟨H41,v45,n46,cs47,rfl,⟨S43,i44⟩,els48⟩
 refine ⟨_,rfl,?_⟩
 have S43:St Ha wa H41 w42 [.row 3 1 v45 n46 cs47]:=S43
 refine FL.v (E.assign (v:=v45) rfl) ?_
 refine FL.nil (FW.seq (FW.seq (FW.region ?_)))
 refine FL.v (E.assign (v:=Value.int .i64 1) rfl) ?_
 refine FL.nil ?_
 obtain ⟨q49,hq,hp⟩:=bndR hp
 refine FW.block ?_
 refine FW.mono (FW.iter (S:=Int) (X:=((List Int)×Bool)) (fun (s49:Int) f w=>∃ H:GH,St Ha wa H w [.row 3 1 v45 n46 cs47]∧Inc H41 H∧f 4=v45∧f 5=Value.int .i64 s49) (fun q e f w=>match q with|.go s49=>e=Exit.exit 0∧(∃ H:GH,St Ha wa H w [.row 3 1 v45 n46 cs47]∧Inc H41 H∧f 4=v45)|.rt x=>((e=Exit.ret)∧(fun e f w=>(e=Exit.normal∨e=Exit.ret)∧∀ a,Fr (δ:=[]) 30 a f→∃ v,(results Tryz.f177 a.tmps).run Tryz.prog w=.ok v w∧(p_impl_clause Ha wa x) (.returned v) w) e f w)) hq ⟨_,S43,(Inc.rfl _),rfl,rfl⟩ ?_) ?_
 ·
  clear hp hq
  rintro s49 f83 w82 ⟨H79,S80,i81,k84,k85⟩ oA8 hp
  refine FW.seq (FW.seq (FW.region ?_))
  refine FL.v (E.move k85) ?_
  refine FL.v (E.move k84) ?_
  refine FL.v (E.lenO te52 rfl S80 (i:=0) rfl els48 (by decide)) ?_
  refine FL.v (E.lss rfl rfl) ?_
  refine FL.nil ?_
  rcases ifB hp with ⟨c86,hp⟩|⟨c86,hp⟩
  ·
   refine FW.condT rfl c86 ?_
   refine FW.skip (FW.seq (FW.block (FW.seq ?_)))
   refine FW.draw (fun w'=>Run w82.heap.size H79 w82 H79 w') (by kernel_rfl) (by kernel_rfl) (zaQ S80.sl) ?_
   refine FD.val rfl rfl rfl (fun w' hw'=>(E.move k84)) ?_
   refine FD.val rfl rfl rfl (fun w' hw'=>(E.move k85)) ?_
   obtain ⟨x94,hx95,hp⟩:=bnd hp
   obtain ⟨p88,cs89,pt90,l91,at92,rel93⟩:=S80.row_at (i:=0) rfl els48 (by decide) hx95
   obtain rfl:=zao rel93
   refine FD.val rfl rfl rfl (fun w' hw'=>(E.indexAddr te52 rfl rfl pt90)) ?_
   refine FD.val rfl rfl rfl (fun w' hw'=>(E.load rfl (zak Tryz.isAgg3 (at92.cls hw') rfl))) ?_
   refine FD.val rfl rfl rfl (fun w' hw'=>(E.move k84)) ?_
   refine FD.val rfl rfl rfl (fun w' hw'=>(E.move k85)) ?_
   refine FD.val rfl rfl rfl (fun w' hw'=>(E.sub rfl rfl)) ?_
   obtain ⟨xA2,hxA3,hp⟩:=bnd hp
   obtain ⟨p96,cs97,pt98,l99,atA0,relA1⟩:=S80.row_at (i:=0) rfl els48 (by decide) hxA3
   obtain rfl:=zao relA1
   refine FD.val rfl rfl rfl (fun w' hw'=>(E.indexAddr te52 rfl rfl pt98)) ?_
   refine FD.val rfl rfl rfl (fun w' hw'=>(E.load rfl (zak Tryz.isAgg3 (atA0.cls hw') rfl))) ?_
   refine FD.val rfl rfl rfl (fun w' hw'=>(E.neg rfl)) ?_
   refine FD.val rfl rfl rfl (fun w' hw'=>(E.eql rfl rfl)) ?_
   refine FD.nil ?_
   intro wA4 rA6
   have SA5:=S80.call rA6
   rcases ifB hp with ⟨cA7,hp⟩|⟨cA7,hp⟩
   ·
    refine FW.condT rfl cA7 ?_
    refine FW.seq (FW.region ?_)
    refine FL.v (E.assign (v:=Value.slice none 0 0) rfl) ?_
    refine FL.v (E.assign (v:=Value.bool false) rfl) ?_
    refine FL.nil ?_
    refine FW.ret ?_
    obtain rfl:=Option.some.inj hp
    exact ⟨nofun,rfl,⟨.inr rfl,res2 rfl rfl rfl ⟨_,_,_,_,rfl,((SA5.nil 3 1).sel [0] (by decide) rfl),Els.nil⟩⟩⟩
   ·
    refine FW.condF rfl cA7 ?_
    refine FW.skip (FW.region ?_)
    refine FL.v (E.move k85) ?_
    refine FL.v (E.add rfl rfl) ?_
    refine FL.v (E.assign (v:=Value.int .i64 (wr (s49 + 1))) rfl) ?_
    refine FL.nil ?_
    obtain rfl:=Option.some.inj hp
    exact ⟨rfl,⟨_,SA5,i81,k84,rfl⟩⟩
  ·
   refine FW.condF rfl c86 ?_
   refine FW.exit ?_
   obtain rfl:=Option.some.inj hp
   exact ⟨nofun,rfl,⟨_,S80,i81,k84⟩⟩
 ·
  clear hq
  intro e fAd wAc hD
  rcases q49 with s49|x49
  ·
   obtain ⟨rfl,hD⟩:=hD
   obtain ⟨HA9,SAa,iAb,kAe⟩:=hD
   replace hp:=el_go hp
   refine FW.seq (FW.region ?_)
   refine FL.v (E.move kAe) ?_
   refine FL.v (E.assign (v:=v45) rfl) ?_
   refine FL.v (E.assign (v:=Value.bool true) rfl) ?_
   refine FL.nil ?_
   refine FW.ret ?_
   obtain rfl:=Option.some.inj hp
   exact ⟨.inr rfl,res2 rfl rfl rfl ⟨_,_,_,_,rfl,SAa,(els48.mono (zaf iAb))⟩⟩
  ·
   obtain ⟨he,hL⟩:=hD
   replace hp:=el_rt hp
   obtain rfl:=Option.some.inj hp
   subst he
   exact hL

@[reducible] def p_impl_resolve (Ha:GH) (wa:World) (r:((List Int)×Bool)):Ending→World→Prop :=
 fun e w'=>∃ H':GH,∃ v0:Value,∃ n0:Nat,∃ c0:List Value,e=.returned (Value.tuple #[v0,Value.bool r.2])∧St Ha wa H' w' [.row 3 1 v0 n0 c0]∧Els (up wa.heap.size H') eI 1 c0 r.1
set_option maxHeartbeats 4000000 in
theorem zd0 {Ha:GH} {wa:World} (hs:Sl Ha wa) (v0:Value) (a0:List Int) (p0:RSl Ha eI 1 v0 a0) (v1:Value) (a1:List Int) (p1:RSl Ha eI 1 v1 a1) (a2:Int) {r:((List Int)×Bool)} (hp:(PF.zbZ a0 a1 a2)=some r) :
  Calls Tryz.prog 107 #[v0,v1,Value.int .i64 a2] wa (p_impl_resolve Ha wa r):=by
 unfold PF.zbZ at hp
 have S0:=St.init hs
 refine zaj (N:=30) (args:=[v0,v1,Value.int .i64 a2]) Tryz.func107 rfl rfl rfl ?_
 refine FW.seq (FW.region ?_)
 refine FL.v (E.assign (v:=Value.slice none 0 0) rfl) ?_
 refine FL.v (E.assign (v:=Value.bool false) rfl) ?_
 refine FL.nil (FW.seq (FW.seq (FW.region ?_)))
 refine FL.v (E.move (v:=v0) rfl) ?_
 refine FL.v (E.move (v:=Value.int .i64 a2) rfl) ?_
 obtain ⟨r21,hr22,hp⟩:=bnd hp
 refine FL.call rfl rfl rfl (E.call Tryz.call176 (A2 rfl rfl)) (zdY S0.sl v0 a0 p0 a2 hr22) ?_
 rintro e w23 ⟨rfl,r24⟩
 refine ⟨_,rfl,?_⟩
 have S25:=S0.call r24
 refine FL.v (E.not rfl) ?_
 refine FL.v (E.move (v:=Value.bool (!r21)) rfl) ?_
 obtain ⟨t31,hqt31,hp⟩:=bnd hp
 refine FL.cut 6 (fun f w=>∃ H:GH,St Ha wa H w []∧Inc Ha H∧f 0=v0∧f 1=v1∧f 2=Value.int .i64 a2∧f 18=Value.bool t31) ?_ ?_
 ·
  clear hp;have hp:=hqt31;clear hqt31
  rcases ifB hp with ⟨c37,hp⟩|⟨c37,hp⟩
  ·
   refine FL.skip (wF_no rfl rfl rfl c37) rfl ?_
   refine FL.skip (wF_no rfl rfl rfl c37) rfl ?_
   refine FL.skip (wF_no rfl rfl rfl c37) rfl ?_
   refine FL.skip (wF_no rfl rfl rfl c37) rfl ?_
   refine FL.skip (wF_no rfl rfl rfl c37) rfl ?_
   obtain rfl:=Option.some.inj hp
   refine FL.v (E.pickT rfl c37 rfl) ?_
   exact FL.nil ⟨rfl,_,S25,(Inc.rfl _),rfl,rfl,rfl,rfl⟩
  ·
   refine FL.val (zac rfl rfl rfl c37) rfl rfl (E.move (v:=v1) rfl) ?_
   refine FL.val (zac rfl rfl rfl c37) rfl rfl (E.move (v:=Value.int .i64 a2) rfl) ?_
   refine FL.val (zac rfl rfl rfl c37) rfl rfl (E.neg rfl) ?_
   obtain ⟨r38,hr39,hp⟩:=bnd hp
   refine FL.call (zac rfl rfl rfl c37) rfl rfl (E.call Tryz.call176 (A2 rfl rfl)) (zdY S25.sl v1 a1 p1 (wr (-a2)) hr39) ?_
   rintro e w40 ⟨rfl,r41⟩
   refine ⟨_,rfl,?_⟩
   have S42:=S25.call r41
   refine FL.val (zac rfl rfl rfl c37) rfl rfl (E.not rfl) ?_
   obtain rfl:=Option.some.inj hp
   refine FL.v (E.pickF rfl c37 rfl) ?_
   exact FL.nil ⟨rfl,_,S42,(Inc.rfl _),rfl,rfl,rfl,rfl⟩
 rintro f36 w35 ⟨H32,S33,i34,k43,k44,k45,k46⟩
 refine FL.nil ?_
 rcases ifB hp with ⟨c47,hp⟩|⟨c47,hp⟩
 ·
  refine FW.condT k46 c47 ?_
  refine FW.seq (FW.region ?_)
  refine FL.v (E.assign (v:=Value.slice none 0 0) rfl) ?_
  refine FL.v (E.assign (v:=Value.bool false) rfl) ?_
  refine FL.nil ?_
  refine FW.ret ?_
  obtain rfl:=Option.some.inj hp
  exact ⟨.inr rfl,res2 rfl rfl rfl ⟨_,_,_,_,rfl,(S33.nil 3 1),Els.nil⟩⟩
 ·
  refine FW.condF k46 c47 ?_
  refine FW.skip (FW.seq (FW.region ?_))
  refine FL.v (E.move k43) ?_
  refine FL.v (E.move k45) ?_
  obtain ⟨r48,hr49,hp⟩:=bnd hp
  refine FL.call rfl rfl rfl (E.call Tryz.call179 (A2 rfl rfl)) (zet S33.sl v0 a0 (p0.mono i34) a2 hr49) ?_
  rintro e w51 ⟨H50,v54,n55,cs56,rfl,r53,els57⟩
  refine ⟨_,rfl,?_⟩
  have els57:=els57.mono (up_le S33.size)
  have S52:=S33.join (l':=[.row 3 1 v54 n55 cs56]) r53 rfl
  refine FL.v (E.move k44) ?_
  refine FL.v (E.move k45) ?_
  obtain ⟨r58,hr59,hp⟩:=bnd hp
  refine FL.call rfl rfl rfl (E.call Tryz.call179 (A2 rfl rfl)) (zet S52.sl v1 a1 (p1.mono (i34.tr r53.run.inc)) a2 hr59) ?_
  rintro e w61 ⟨H60,v64,n65,cs66,rfl,r63,els67⟩
  refine ⟨_,rfl,?_⟩
  have els67:=els67.mono (up_le S52.size)
  have S62:=S52.join (l':=[.row 3 1 v64 n65 cs66,.row 3 1 v54 n55 cs56]) r63 rfl
  obtain ⟨H68,S69,i70,h71,nv72⟩:=S62.sealRowU (i:=1) (l':=[.row 3 1 v64 n65 cs66]) rfl (els57.mono (zaf r63.run.inc)) (by decide) rfl
  obtain ⟨H73,S74,i75,h76,nv77⟩:=S69.sealRowU (i:=0) (l':=[]) rfl (els67.mono (zaf i70)) (by decide) rfl
  obtain ⟨v78,w79,run80,S81⟩:=S74.buildSlice (P:=Tryz.prog) te24 [v54,v64] (parts:=#[(0,v54),(1,v64)]) (cells:=[v54,v64]) rfl (zas (zba h71.cells) (zas (zba h76.cells) zan)) (zar h71.cells (zar h76.cells zam)) (zab h71.one (zab h76.one zae)) (Nat.le_of_ble_eq_true rfl)
  have els82:Els (up wa.heap.size H73) (eL eI 1) 1 [v54,v64] [r48,r58]:=(Els.snoc (H:=(up wa.heap.size H73)) (E:=(eL eI 1)) (k:=1) (c:=[v64]) (x:=r58) (Els.snoc (H:=(up wa.heap.size H73)) (E:=(eL eI 1)) (k:=1) (c:=[v54]) (x:=r48) Els.nil rfl ⟨_,rfl,(h71.mono (zaf i75))⟩) rfl ⟨_,rfl,h76⟩)
  refine FL.v (E.buildSlice (B2 rfl rfl) run80) ?_
  obtain ⟨H83,S84,i85,h86,nv87⟩:=S81.sealRowU (i:=0) (l':=[]) rfl els82 (by decide) rfl
  obtain ⟨r88,hr89,hp⟩:=bnd hp
  refine FL.call rfl rfl rfl (E.call Tryz.call178 (A1 rfl)) (zeR S84.sl v78 [r48,r58] (h86.mono upI) hr89) ?_
  rintro e w91 ⟨H90,v96,n97,cs98,rfl,r93,els99⟩
  refine ⟨_,rfl,?_⟩
  obtain ⟨H94,r93,hU95⟩:=St.lendX i85 S81.sl r93
  have els99:=els99.mono (hU95.tr (up_le S81.size))
  have S92:=S81.join (l':=[.row 3 1 v96 n97 cs98,.row 52 1 v78 2 [v54,v64]]) r93 rfl
  obtain ⟨HA0,SA1,iA2,hA3,nvA4⟩:=S92.sealRowU (i:=0) (l':=[.row 52 1 v78 2 [v54,v64]]) rfl els99 (by decide) rfl
  obtain ⟨rA5,hrA6,hp⟩:=bnd hp
  refine FL.call rfl rfl rfl (E.call Tryz.call177 (A1 rfl)) (w_impl_clause SA1.sl v96 r88 (hA3.mono upI) hrA6) ?_
  rintro e wA8 ⟨HA7,vAd,nAe,csAf,rfl,rAa,elsAg⟩
  refine ⟨_,rfl,?_⟩
  obtain ⟨HAb,rAa,hU112⟩:=St.lendX iA2 S92.sl rAa
  have elsAg:=elsAg.mono (hU112.tr (up_le S92.size))
  have SA9:=S92.join (l':=[.row 3 1 vAd nAe csAf,.row 3 1 v96 n97 cs98,.row 52 1 v78 2 [v54,v64]]) rAa rfl
  refine FL.v (E.extract (i:=0) rfl rfl) ?_
  refine FL.v (E.extract (i:=1) rfl rfl) ?_
  refine FL.v (E.assign (v:=vAd) rfl) ?_
  refine FL.v (E.assign (v:=Value.bool rA5.2) rfl) ?_
  refine FL.nil ?_
  refine FW.ret ?_
  obtain rfl:=Option.some.inj hp
  exact ⟨.inr rfl,res2 rfl rfl rfl ⟨_,_,_,_,rfl,(SA9.sel [0] (by decide) rfl),elsAg⟩⟩

set_option maxHeartbeats 4000000 in
theorem w_impl_correct {Ha:GH} {wa:World} (hs:Sl Ha wa) (a0:Cnf) (v0_1:Value) (p0_1:RSl Ha (eL eI 1) 1 v0_1 a0.clauses) (v1:Value) (a1:List zaa) (p1:RSl Ha zah 4 v1 a1) (a2:Int) {r:Bool} (hp:(PF.zc4 a0 a1 a2)=some r) :
  Calls Tryz.prog 228 #[Value.agg #[Value.int .i64 a0.vars,v0_1],v1,Value.int .i64 a2] wa (Sc Ha wa (Value.bool r)):=by
 unfold PF.zc4 at hp
 have S0:=St.init hs
 refine zaj (N:=105) (args:=[Value.agg #[Value.int .i64 a0.vars,v0_1],v1,Value.int .i64 a2]) Tryz.func228 rfl rfl rfl ?_
 refine FW.seq (FW.region ?_)
 obtain ⟨b21,w22,run23,S24⟩:=S0.box (P:=Tryz.prog) 26 [Value.int .i64 a0.vars,v0_1] (v:=Value.agg #[Value.int .i64 a0.vars,v0_1]) rfl (zab rfl (zab p0_1.one zae))
 refine FL.v (E.box rfl run23) ?_
 obtain ⟨H25,S26,i27,at28⟩:=S24.sealBox (i:=0) (l':=[]) rfl rfl
 refine FL.v (E.assign (v:=Value.bool false) rfl) ?_
 refine FL.nil (FW.seq (FW.region ?_))
 refine FL.v (E.move (v:=v1) rfl) ?_
 refine FL.v (E.move (v:=Value.int .i64 a2) rfl) ?_
 obtain ⟨x35,hx36,hp⟩:=bnd hp
 obtain ⟨p29,cs30,pt31,l32,at33,rel34⟩:=p1.at hx36
 obtain ⟨v37,rfl,h38⟩:=zap rel34
 refine FL.v (E.indexAddr te61 rfl rfl pt31) ?_
 refine FL.v (E.load rfl (zal Tryz.isAgg134 Tryz.sizeOf134 ((at33.mono i27).now S26.sl) rfl)) ?_
 obtain ⟨b39,w40,run41,S42⟩:=S26.alloc (P:=Tryz.prog) 134 [Value.slice none 0 0,Value.int .i64 0,Value.int .i64 0,Value.int .i64 0] Tryz.zeroValue134 rfl (zab rfl (zab rfl (zab rfl (zab rfl zae))))
 refine FL.v (E.alloc run41) ?_
 obtain ⟨w43,run44,S45⟩:=S42.store0 (P:=Tryz.prog) (t:=134) (i:=0) (cs':=[v37,Value.int .i64 x35.left,Value.int .i64 x35.right,Value.int .i64 x35.pivot]) (l':=[.box b39 134 [v37,Value.int .i64 x35.left,Value.int .i64 x35.right,Value.int .i64 x35.pivot]]) (v:=Value.agg #[v37,Value.int .i64 x35.left,Value.int .i64 x35.right,Value.int .i64 x35.pivot]) (c:=[v37,Value.int .i64 x35.left,Value.int .i64 x35.right,Value.int .i64 x35.pivot]) rfl Tryz.sizeOf134 rfl rfl (zab h38.one (zab rfl (zab rfl (zab rfl zae)))) (Nat.le_of_ble_eq_true rfl) rfl rfl
 refine FL.act rfl rfl (E.store rfl rfl run44) ?_
 obtain ⟨H46,S47,i48,at49⟩:=S45.sealBox (i:=0) (l':=[]) rfl rfl
 refine FL.nil (FW.seq (FW.seq (FW.region ?_)))
 refine FL.v (E.fieldAddr zaC rfl) ?_
 refine FL.v (E.load rfl (zag Tryz.isAgg3 ((at28.mono i48).now S47.sl) rfl)) ?_
 refine FL.v (E.fieldAddr zav rfl) ?_
 refine FL.v (E.load rfl (zag Tryz.isAgg52 (at49.now S47.sl) rfl)) ?_
 obtain ⟨r50,hr51,hp⟩:=bnd hp
 refine FL.call rfl rfl rfl (E.call Tryz.call115 (A2 rfl rfl)) (zdi S47.sl a0.vars v37 x35.clause (h38.mono (i27.tr i48)) hr51) ?_
 rintro e w52 ⟨rfl,r53⟩
 refine ⟨_,rfl,?_⟩
 have S54:=S47.call r53
 refine FL.v (E.not rfl) ?_
 refine FL.nil ?_
 rcases ifB hp with ⟨c55,hp⟩|⟨c55,hp⟩
 ·
  refine FW.condT rfl c55 ?_
  refine FW.seq (FW.region ?_)
  refine FL.v (E.assign (v:=Value.bool false) rfl) ?_
  refine FL.nil ?_
  refine FW.ret ?_
  obtain rfl:=Option.some.inj hp
  exact ⟨.inr rfl,res1 rfl rfl ⟨rfl,S54.back⟩⟩
 ·
  refine FW.condF rfl c55 ?_
  refine FW.skip (FW.seq (FW.seq (FW.region ?_)))
  refine FL.v (E.fieldAddr zaN rfl) ?_
  refine FL.v (E.load rfl (zag Tryz.isAgg3 (at49.now S54.sl) rfl)) ?_
  refine FL.v (E.eql rfl rfl) ?_
  refine FL.nil ?_
  rcases ifB hp with ⟨c56,hp⟩|⟨c56,hp⟩
  ·
   refine FW.condT rfl c56 ?_
   refine FW.seq ?_
   refine FW.draw (fun w'=>Run w52.heap.size H46 w52 H46 w') (by kernel_rfl) (by kernel_rfl) (zaQ S54.sl) ?_
   refine FD.val rfl rfl rfl (fun w' hw'=>(E.fieldAddr zbi rfl)) ?_
   refine FD.val rfl rfl rfl (fun w' hw'=>(E.load rfl (zag Tryz.isAgg3 (at49.now (S54.call hw').sl) rfl))) ?_
   refine FD.val rfl rfl rfl (fun w' hw'=>(E.eql rfl rfl)) ?_
   refine FD.val rfl rfl rfl (fun w' hw'=>(E.move (v:=Value.bool (x35.pivot == 0)) rfl)) ?_
   refine FD.cut 8 (fun f=>f 3=Value.pointer (some ⟨b21,0,none⟩)∧f 7=Value.pointer (some ⟨b39,0,none⟩)∧f 36=Value.bool (bif (x35.pivot == 0) then (PF.za3 x35.right 0 (wr ((len a0.clauses) - 1))) else false)) ?_ ?_
   ·
    rcases bcase (x35.pivot == 0) with c64|c64
    ·
     refine FD.val (zac rfl rfl rfl c64) rfl rfl (fun w' hw'=>(E.fieldAddr zaO rfl)) ?_
     refine FD.val (zac rfl rfl rfl c64) rfl rfl (fun w' hw'=>(E.load rfl (zag Tryz.isAgg3 (at49.now (S54.call hw').sl) rfl))) ?_
     refine FD.val (zac rfl rfl rfl c64) rfl rfl (fun w' hw'=>(E.fieldAddr zay rfl)) ?_
     refine FD.val (zac rfl rfl rfl c64) rfl rfl (fun w' hw'=>(E.load rfl (zag Tryz.isAgg24 ((at28.mono i48).now (S54.call hw').sl) rfl))) ?_
     refine FD.val (zac rfl rfl rfl c64) rfl rfl (fun w' hw'=>(E.lenP te24 rfl p0_1)) ?_
     refine FD.val (zac rfl rfl rfl c64) rfl rfl (fun w' hw'=>(E.sub rfl rfl)) ?_
     refine FD.call (zac rfl rfl rfl c64) rfl rfl (fun w' hw'=>(E.call Tryz.call79 (A3 rfl rfl rfl))) (fun w' hw'=>Calls.cls hw' (zdg (S54.call hw').sl x35.right 0 (wr ((len a0.clauses) - 1)))) ?_
     refine FD.val rfl rfl rfl (fun w' hw'=>(E.pickT rfl c64 rfl)) ?_
     exact FD.nil ⟨rfl,rfl,(congrArg Value.bool (bifT c64).symm)⟩
    ·
     refine FD.skip (wF_no rfl rfl rfl c64) rfl ?_
     refine FD.skip (wF_no rfl rfl rfl c64) rfl ?_
     refine FD.skip (wF_no rfl rfl rfl c64) rfl ?_
     refine FD.skip (wF_no rfl rfl rfl c64) rfl ?_
     refine FD.skip (wF_no rfl rfl rfl c64) rfl ?_
     refine FD.skip (wF_no rfl rfl rfl c64) rfl ?_
     refine FD.skip (wF_no rfl rfl rfl c64) rfl ?_
     refine FD.val rfl rfl rfl (fun w' hw'=>(E.pickF rfl c64 rfl)) ?_
     exact FD.nil ⟨rfl,rfl,(congrArg Value.bool (bifF c64).symm)⟩
   rintro f63 ⟨k65,k66,k67⟩
   refine FD.val rfl rfl rfl (fun w' hw'=>(E.move k67)) ?_
   obtain ⟨t80,hqt80,hp⟩:=bnd hp
   refine FD.cut 10 (fun f=>f 47=Value.bool t80) ?_ ?_
   ·
    clear hp;have hp:=hqt80;clear hqt80
    rcases ifB hp with ⟨c86,hp⟩|⟨c86,hp⟩
    ·
     refine FD.val (zac rfl rfl rfl c86) rfl rfl (fun w' hw'=>(E.fieldAddr zay k65)) ?_
     refine FD.val (zac rfl rfl rfl c86) rfl rfl (fun w' hw'=>(E.load rfl (zag Tryz.isAgg24 ((at28.mono i48).now (S54.call hw').sl) rfl))) ?_
     refine FD.val (zac rfl rfl rfl c86) rfl rfl (fun w' hw'=>(E.fieldAddr zaO k66)) ?_
     refine FD.val (zac rfl rfl rfl c86) rfl rfl (fun w' hw'=>(E.load rfl (zag Tryz.isAgg3 (at49.now (S54.call hw').sl) rfl))) ?_
     obtain ⟨x93,hx94,hp⟩:=bnd hp
     obtain ⟨p87,cs88,pt89,l90,at91,rel92⟩:=p0_1.at hx94
     obtain ⟨v95,rfl,h96⟩:=zbr rel92
     refine FD.val (zac rfl rfl rfl c86) rfl rfl (fun w' hw'=>(E.indexAddr te24 rfl rfl pt89)) ?_
     refine FD.val (zac rfl rfl rfl c86) rfl rfl (fun w' hw'=>(E.load rfl (zak Tryz.isAgg52 ((at91.mono (i27.tr i48)).now (S54.call hw').sl) rfl))) ?_
     refine FD.val (zac rfl rfl rfl c86) rfl rfl (fun w' hw'=>(E.fieldAddr zav k66)) ?_
     refine FD.val (zac rfl rfl rfl c86) rfl rfl (fun w' hw'=>(E.load rfl (zag Tryz.isAgg52 (at49.now (S54.call hw').sl) rfl))) ?_
     obtain ⟨r97,hr98,hp⟩:=bnd hp
     refine FD.call (zac rfl rfl rfl c86) rfl rfl (fun w' hw'=>(E.call Tryz.call250 (A2 rfl rfl))) (fun w' hw'=>Calls.cls hw' (zeq (S54.call hw').sl v95 x93 (h96.mono (i27.tr i48)) v37 x35.clause (h38.mono (i27.tr i48)) hr98)) ?_
     obtain rfl:=Option.some.inj hp
     refine FD.val rfl rfl rfl (fun w' hw'=>(E.pickT rfl c86 rfl)) ?_
     exact FD.nil rfl
    ·
     refine FD.skip (wF_no rfl rfl rfl c86) rfl ?_
     refine FD.skip (wF_no rfl rfl rfl c86) rfl ?_
     refine FD.skip (wF_no rfl rfl rfl c86) rfl ?_
     refine FD.skip (wF_no rfl rfl rfl c86) rfl ?_
     refine FD.skip (wF_no rfl rfl rfl c86) rfl ?_
     refine FD.skip (wF_no rfl rfl rfl c86) rfl ?_
     refine FD.skip (wF_no rfl rfl rfl c86) rfl ?_
     refine FD.skip (wF_no rfl rfl rfl c86) rfl ?_
     refine FD.skip (wF_no rfl rfl rfl c86) rfl ?_
     obtain rfl:=Option.some.inj hp
     refine FD.val rfl rfl rfl (fun w' hw'=>(E.pickF rfl c86 rfl)) ?_
     exact FD.nil rfl
   intro f85 k99
   refine FD.val rfl rfl rfl (fun w' hw'=>(E.assign k99)) ?_
   refine FD.nil ?_
   intro wA0 rA2
   have SA1:=S54.call rA2
   refine FW.ret ?_
   obtain rfl:=Option.some.inj hp
   exact ⟨.inr rfl,res1 rfl rfl ⟨rfl,SA1.back⟩⟩
  ·
   refine FW.condF rfl c56 ?_
   refine FW.skip (FW.seq (FW.region ?_))
   refine FL.v (E.load rfl (zal Tryz.isAgg26 Tryz.sizeOf26 ((at28.mono i48).now S54.sl) rfl)) ?_
   refine FL.v (E.move (v:=v1) rfl) ?_
   refine FL.v (E.move (v:=Value.int .i64 a2) rfl) ?_
   refine FL.v (E.fieldAddr zaN rfl) ?_
   refine FL.v (E.load rfl (zag Tryz.isAgg3 (at49.now S54.sl) rfl)) ?_
   obtain ⟨rA3,hrA4,hp⟩:=bnd hp
   refine FL.call rfl rfl rfl (E.call Tryz.call254 (A4 rfl rfl rfl rfl)) (zer S54.sl a0 v0_1 (p0_1.mono (i27.tr i48)) v1 a1 (p1.mono (i27.tr i48)) a2 x35.left hrA4) ?_
   rintro e wA6 ⟨HA5,vA9,rfl,rA8,hAa⟩
   refine ⟨_,rfl,?_⟩
   have SA7:=S54.call rA8
   refine FL.v (E.move (v:=Value.tuple #[vA9,Value.bool rA3.2]) rfl) ?_
   refine FL.v (E.extract (i:=0) rfl rfl) ?_
   refine FL.v (E.extract (i:=1) rfl rfl) ?_
   refine FL.v (E.assign (v:=vA9) rfl) ?_
   refine FL.v (E.assign (v:=Value.bool rA3.2) rfl) ?_
   refine FL.nil (FW.seq (FW.seq (FW.region ?_)))
   refine FL.v (E.move (v:=Value.bool rA3.2) rfl) ?_
   refine FL.v (E.not rfl) ?_
   refine FL.nil ?_
   rcases ifB hp with ⟨cAb,hp⟩|⟨cAb,hp⟩
   ·
    refine FW.condT rfl cAb ?_
    refine FW.seq (FW.region ?_)
    refine FL.v (E.assign (v:=Value.bool false) rfl) ?_
    refine FL.nil ?_
    refine FW.ret ?_
    obtain rfl:=Option.some.inj hp
    exact ⟨.inr rfl,res1 rfl rfl ⟨rfl,SA7.back⟩⟩
   ·
    refine FW.condF rfl cAb ?_
    refine FW.skip (FW.seq (FW.seq (FW.region ?_)))
    refine FL.v (E.fieldAddr zaO rfl) ?_
    refine FL.v (E.load rfl (zag Tryz.isAgg3 ((at49.mono rA8.inc).now SA7.sl) rfl)) ?_
    refine FL.v (E.eql rfl rfl) ?_
    refine FL.nil ?_
    rcases ifB hp with ⟨cAc,hp⟩|⟨cAc,hp⟩
    ·
     refine FW.condT rfl cAc ?_
     refine FW.seq (FW.region ?_)
     refine FL.v (E.fieldAddr zbi rfl) ?_
     refine FL.v (E.load rfl (zag Tryz.isAgg3 ((at49.mono rA8.inc).now SA7.sl) rfl)) ?_
     refine FL.v (E.eql rfl rfl) ?_
     refine FL.v (E.move (v:=Value.bool (x35.pivot == 0)) rfl) ?_
     obtain ⟨t118,hqtAi,hp⟩:=bnd hp
     refine FL.cut 5 (fun f w=>∃ H:GH,St Ha wa H w []∧Inc HA5 H∧f 70=Value.bool t118) ?_ ?_
     ·
      clear hp;have hp:=hqtAi;clear hqtAi
      rcases ifB hp with ⟨cAo,hp⟩|⟨cAo,hp⟩
      ·
       refine FL.val (zac rfl rfl rfl cAo) rfl rfl (E.move (v:=vA9) rfl) ?_
       refine FL.val (zac rfl rfl rfl cAo) rfl rfl (E.fieldAddr zav rfl) ?_
       refine FL.val (zac rfl rfl rfl cAo) rfl rfl (E.load rfl (zag Tryz.isAgg52 ((at49.mono rA8.inc).now SA7.sl) rfl)) ?_
       obtain ⟨rAp,hrAq,hp⟩:=bnd hp
       refine FL.call (zac rfl rfl rfl cAo) rfl rfl (E.call Tryz.call255 (A2 rfl rfl)) (w_impl_part SA7.sl vA9 rA3.1 hAa v37 x35.clause (h38.mono ((i27.tr i48).tr rA8.inc)) hrAq) ?_
       rintro e wAr ⟨rfl,rAs⟩
       refine ⟨_,rfl,?_⟩
       have SAt:=SA7.call rAs
       obtain rfl:=Option.some.inj hp
       refine FL.v (E.pickT rfl cAo rfl) ?_
       exact FL.nil ⟨rfl,_,SAt,(Inc.rfl _),rfl⟩
      ·
       refine FL.skip (wF_no rfl rfl rfl cAo) rfl ?_
       refine FL.skip (wF_no rfl rfl rfl cAo) rfl ?_
       refine FL.skip (wF_no rfl rfl rfl cAo) rfl ?_
       refine FL.skip (wF_no rfl rfl rfl cAo) rfl ?_
       obtain rfl:=Option.some.inj hp
       refine FL.v (E.pickF rfl cAo rfl) ?_
       exact FL.nil ⟨rfl,_,SA7,(Inc.rfl _),rfl⟩
     rintro fAn wAm ⟨HAj,SAk,iAl,kAu⟩
     refine FL.v (E.assign kAu) ?_
     refine FL.nil ?_
     refine FW.ret ?_
     obtain rfl:=Option.some.inj hp
     exact ⟨.inr rfl,res1 rfl rfl ⟨rfl,SAk.back⟩⟩
    ·
     refine FW.condF rfl cAc ?_
     refine FW.skip (FW.seq (FW.region ?_))
     refine FL.v (E.load rfl (zal Tryz.isAgg26 Tryz.sizeOf26 ((at28.mono (i48.tr rA8.inc)).now SA7.sl) rfl)) ?_
     refine FL.v (E.move (v:=v1) rfl) ?_
     refine FL.v (E.move (v:=Value.int .i64 a2) rfl) ?_
     refine FL.v (E.fieldAddr zaO rfl) ?_
     refine FL.v (E.load rfl (zag Tryz.isAgg3 ((at49.mono rA8.inc).now SA7.sl) rfl)) ?_
     obtain ⟨rAv,hrAw,hp⟩:=bnd hp
     refine FL.call rfl rfl rfl (E.call Tryz.call254 (A4 rfl rfl rfl rfl)) (zer SA7.sl a0 v0_1 (p0_1.mono ((i27.tr i48).tr rA8.inc)) v1 a1 (p1.mono ((i27.tr i48).tr rA8.inc)) a2 x35.right hrAw) ?_
     rintro e wAy ⟨HAx,vAB,rfl,rAA,hAC⟩
     refine ⟨_,rfl,?_⟩
     have SAz:=SA7.call rAA
     refine FL.v (E.move (v:=Value.tuple #[vAB,Value.bool rAv.2]) rfl) ?_
     refine FL.v (E.extract (i:=0) rfl rfl) ?_
     refine FL.v (E.extract (i:=1) rfl rfl) ?_
     refine FL.v (E.assign (v:=vAB) rfl) ?_
     refine FL.v (E.assign (v:=Value.bool rAv.2) rfl) ?_
     refine FL.nil (FW.seq (FW.seq (FW.region ?_)))
     refine FL.v (E.move (v:=Value.bool rAv.2) rfl) ?_
     refine FL.v (E.not rfl) ?_
     refine FL.v (E.move (v:=Value.bool (!rAv.2)) rfl) ?_
     refine FL.cut 7 (fun f w=>∃ H:GH,St Ha wa H w []∧Inc HAx H∧f 7=Value.pointer (some ⟨b39,0,none⟩)∧f 8=vA9∧f 10=vAB∧f 89=Value.bool (bif (!rAv.2) then true else (!(PF.zbg a0.vars x35.pivot)))) ?_ ?_
     ·
      rcases bcase (!rAv.2) with cAM|cAM
      ·
       refine FL.skip (wF_no rfl rfl rfl cAM) rfl ?_
       refine FL.skip (wF_no rfl rfl rfl cAM) rfl ?_
       refine FL.skip (wF_no rfl rfl rfl cAM) rfl ?_
       refine FL.skip (wF_no rfl rfl rfl cAM) rfl ?_
       refine FL.skip (wF_no rfl rfl rfl cAM) rfl ?_
       refine FL.skip (wF_no rfl rfl rfl cAM) rfl ?_
       refine FL.v (E.pickT rfl cAM rfl) ?_
       exact FL.nil ⟨rfl,_,SAz,(Inc.rfl _),rfl,rfl,rfl,(congrArg Value.bool (bifT cAM).symm)⟩
      ·
       refine FL.val (zac rfl rfl rfl cAM) rfl rfl (E.fieldAddr zaC rfl) ?_
       refine FL.val (zac rfl rfl rfl cAM) rfl rfl (E.load rfl (zag Tryz.isAgg3 ((at28.mono ((i48.tr rA8.inc).tr rAA.inc)).now SAz.sl) rfl)) ?_
       refine FL.val (zac rfl rfl rfl cAM) rfl rfl (E.fieldAddr zbi rfl) ?_
       refine FL.val (zac rfl rfl rfl cAM) rfl rfl (E.load rfl (zag Tryz.isAgg3 ((at49.mono (rA8.inc.tr rAA.inc)).now SAz.sl) rfl)) ?_
       refine FL.call (zac rfl rfl rfl cAM) rfl rfl (E.call Tryz.call106 (A2 rfl rfl)) (zdZ SAz.sl a0.vars x35.pivot) ?_
       rintro e wAN ⟨rfl,rAO⟩
       refine ⟨_,rfl,?_⟩
       have SAP:=SAz.call rAO
       refine FL.val (zac rfl rfl rfl cAM) rfl rfl (E.not rfl) ?_
       refine FL.v (E.pickF rfl cAM rfl) ?_
       exact FL.nil ⟨rfl,_,SAP,(Inc.rfl _),rfl,rfl,rfl,(congrArg Value.bool (bifF cAM).symm)⟩
     rintro fAL wAK ⟨HAH,SAI,iAJ,kAQ,kAR,kAS,kAT⟩
     refine FL.nil ?_
     rcases ifB hp with ⟨cAU,hp⟩|⟨cAU,hp⟩
     ·
      refine FW.condT kAT cAU ?_
      refine FW.seq (FW.region ?_)
      refine FL.v (E.assign (v:=Value.bool false) rfl) ?_
      refine FL.nil ?_
      refine FW.ret ?_
      obtain rfl:=Option.some.inj hp
      exact ⟨.inr rfl,res1 rfl rfl ⟨rfl,SAI.back⟩⟩
     ·
      refine FW.condF kAT cAU ?_
      refine FW.skip (FW.seq (FW.region ?_))
      refine FL.v (E.move kAR) ?_
      refine FL.v (E.move kAS) ?_
      refine FL.v (E.fieldAddr zbi kAQ) ?_
      refine FL.v (E.load rfl (zag Tryz.isAgg3 ((at49.mono ((rA8.inc.tr rAA.inc).tr iAJ)).now SAI.sl) rfl)) ?_
      obtain ⟨rAV,hrAW,hp⟩:=bnd hp
      refine FL.call rfl rfl rfl (E.call Tryz.call107 (A3 rfl rfl rfl)) (zd0 SAI.sl vA9 rA3.1 (hAa.mono (rAA.inc.tr iAJ)) vAB rAv.1 (hAC.mono iAJ) x35.pivot hrAW) ?_
      rintro e wAY ⟨HAX,vB1,nB2,csB3,rfl,rB0,elsB4⟩
      refine ⟨_,rfl,?_⟩
      have elsB4:=elsB4.mono (up_le SAI.size)
      have SAZ:=SAI.join (l':=[.row 3 1 vB1 nB2 csB3]) rB0 rfl
      refine FL.v (E.move (v:=Value.tuple #[vB1,Value.bool rAV.2]) rfl) ?_
      refine FL.v (E.extract (i:=0) rfl rfl) ?_
      refine FL.v (E.extract (i:=1) rfl rfl) ?_
      refine FL.v (E.assign (v:=vB1) rfl) ?_
      refine FL.v (E.assign (v:=Value.bool rAV.2) rfl) ?_
      refine FL.nil (FW.seq (FW.region ?_))
      refine FL.v (E.move (v:=Value.bool rAV.2) rfl) ?_
      refine FL.v (E.move (v:=Value.bool rAV.2) rfl) ?_
      obtain ⟨t177,hqtBf,hp⟩:=bnd hp
      refine FL.cut 5 (fun f w=>∃ H:GH,St Ha wa H w [.row 3 1 vB1 nB2 csB3]∧Inc HAX H∧f 104=Value.bool t177) ?_ ?_
      ·
       clear hp;have hp:=hqtBf;clear hqtBf
       rcases ifB hp with ⟨cBl,hp⟩|⟨cBl,hp⟩
       ·
        refine FL.val (zac rfl rfl rfl cBl) rfl rfl (E.move (v:=vB1) rfl) ?_
        refine FL.val (zac rfl rfl rfl cBl) rfl rfl (E.fieldAddr zav kAQ) ?_
        refine FL.val (zac rfl rfl rfl cBl) rfl rfl (E.load rfl (zag Tryz.isAgg52 ((at49.mono (((rA8.inc.tr rAA.inc).tr iAJ).tr rB0.run.inc)).now SAZ.sl) rfl)) ?_
        obtain ⟨HBm,SBn,iBo,hBp,nvBq⟩:=SAZ.sealRowU (i:=0) (l':=[]) rfl elsB4 (by decide) rfl
        obtain ⟨rBr,hrBs,hp⟩:=bnd hp
        refine FL.call (zac rfl rfl rfl cBl) rfl rfl (E.call Tryz.call250 (A2 rfl rfl)) (zeq SBn.sl vB1 rAV.1 (hBp.mono upI) v37 x35.clause (h38.mono ((((((i27.tr i48).tr rA8.inc).tr rAA.inc).tr iAJ).tr rB0.run.inc).tr iBo)) hrBs) ?_
        rintro e wBt ⟨rfl,rBu⟩
        refine ⟨_,rfl,?_⟩
        have rBu:=Run.lend iBo SAZ.sl rBu
        have SBv:=SAZ.call rBu
        obtain rfl:=Option.some.inj hp
        refine FL.v (E.pickT rfl cBl rfl) ?_
        exact FL.nil ⟨rfl,_,SBv,(Inc.rfl _),rfl⟩
       ·
        refine FL.skip (wF_no rfl rfl rfl cBl) rfl ?_
        refine FL.skip (wF_no rfl rfl rfl cBl) rfl ?_
        refine FL.skip (wF_no rfl rfl rfl cBl) rfl ?_
        refine FL.skip (wF_no rfl rfl rfl cBl) rfl ?_
        obtain rfl:=Option.some.inj hp
        refine FL.v (E.pickF rfl cBl rfl) ?_
        exact FL.nil ⟨rfl,_,SAZ,(Inc.rfl _),rfl⟩
      rintro fBk wBj ⟨HBg,SBh,iBi,kBw⟩
      refine FL.v (E.assign kBw) ?_
      refine FL.nil ?_
      refine FW.ret ?_
      obtain rfl:=Option.some.inj hp
      exact ⟨.inr rfl,res1 rfl rfl ⟨rfl,SBh.back⟩⟩

theorem w_impl_firstWrong {Ha:GH} {wa:World} (hs:Sl Ha wa) (a0:Cnf) (v0_1:Value) (p0_1:RSl Ha (eL eI 1) 1 v0_1 a0.clauses) (v1:Value) (a1:List zaa) (p1:RSl Ha zah 4 v1 a1) {r:Int} (hp:(PF.zc5 a0 a1)=some r) :
  Calls Tryz.prog 175 #[Value.agg #[Value.int .i64 a0.vars,v0_1],v1] wa (Sc Ha wa (Value.int .i64 r)):=by
 unfold PF.zc5 at hp
 have S0:=St.init hs
 refine zaj (N:=18) (args:=[Value.agg #[Value.int .i64 a0.vars,v0_1],v1]) Tryz.func175 rfl rfl rfl ?_
 refine FW.seq (FW.region ?_)
 obtain ⟨b21,w22,run23,S24⟩:=S0.box (P:=Tryz.prog) 26 [Value.int .i64 a0.vars,v0_1] (v:=Value.agg #[Value.int .i64 a0.vars,v0_1]) rfl (zab rfl (zab p0_1.one zae))
 refine FL.v (E.box rfl run23) ?_
 obtain ⟨H25,S26,i27,at28⟩:=S24.sealBox (i:=0) (l':=[]) rfl rfl
 refine FL.v (E.assign (v:=Value.int .i64 0) rfl) ?_
 refine FL.nil (FW.seq (FW.seq (FW.region ?_)))
 refine FL.v (E.move (v:=v1) rfl) ?_
 refine FL.v (E.lenP te61 rfl p1) ?_
 refine FL.v (E.move (v:=Value.int .i64 0) rfl) ?_
 refine FL.nil ?_
 obtain ⟨q30,hq,hp⟩:=bndR hp
 refine FW.block ?_
 refine FW.mono (FW.forL (S:=Unit) (X:=Int) (fun (i30:Nat) (s30:Unit) f w=>∃ H:GH,St Ha wa H w []∧Inc H25 H∧f 8=Value.int .i64 ((i30:Nat):Int)∧f 1=v1∧f 2=Value.pointer (some ⟨b21,0,none⟩)∧f 7=Value.int .i64 (len a1)) (fun q e f w=>match q with|.go s30=>e=Exit.exit 0∧(∃ H:GH,St Ha wa H w []∧Inc H25 H)|.rt x=>((e=Exit.ret)∧(fun e f w=>(e=Exit.normal∨e=Exit.ret)∧∀ a,Fr (δ:=[]) 18 a f→∃ v,(results Tryz.f175 a.tmps).run Tryz.prog w=.ok v w∧(Sc Ha wa (Value.int .i64 x)) (.returned v) w) e f w)) hq ⟨_,S26,(Inc.rfl _),rfl,rfl,rfl,rfl⟩ ?_ ?_) ?_
 ·
  clear hp hq
  rintro i30 y29 s30 f50 w49 ⟨H46,S47,i48,k51,k52,k53,k54⟩ hx30 o61 hp
  refine FW.seq (FW.region ?_)
  refine FL.v (E.lssT k51 k54 (zaF hx30)) ?_
  refine FL.nil (FW.seq ?_)
  refine FW.condT rfl rfl ?_
  refine FW.skip (FW.seq (FW.block (FW.seq (FW.region ?_))))
  refine FL.v (E.move k51) ?_
  refine FL.v (E.assign (v:=Value.int .i64 ((i30:Nat):Int)) rfl) ?_
  refine FL.nil (FW.seq (FW.region ?_))
  refine FL.v (E.load k53 (zal Tryz.isAgg26 Tryz.sizeOf26 ((at28.mono i48).now S47.sl) rfl)) ?_
  refine FL.v (E.move k52) ?_
  refine FL.v (E.move (v:=Value.int .i64 ((i30:Nat):Int)) rfl) ?_
  obtain ⟨r55,hr56,hp⟩:=bnd hp
  refine FL.call rfl rfl rfl (E.call Tryz.call228 (A3 rfl rfl rfl)) (w_impl_correct S47.sl a0 v0_1 (p0_1.mono (i27.tr i48)) v1 a1 (p1.mono (i27.tr i48)) ((i30:Nat):Int) hr56) ?_
  rintro e w57 ⟨rfl,r58⟩
  refine ⟨_,rfl,?_⟩
  have S59:=S47.call r58
  refine FL.v (E.not rfl) ?_
  refine FL.nil ?_
  rcases ifB hp with ⟨c60,hp⟩|⟨c60,hp⟩
  ·
   refine FW.condT rfl c60 ?_
   refine FW.seq (FW.region ?_)
   refine FL.v (E.move (v:=Value.int .i64 ((i30:Nat):Int)) rfl) ?_
   refine FL.v (E.assign (v:=Value.int .i64 ((i30:Nat):Int)) rfl) ?_
   refine FL.nil ?_
   refine FW.ret ?_
   obtain rfl:=Option.some.inj hp
   exact ⟨nofun,rfl,⟨.inr rfl,res1 rfl rfl ⟨rfl,S59.back⟩⟩⟩
  ·
   refine FW.condF rfl c60 ?_
   refine FW.skip (FW.region ?_)
   refine FL.v (E.add k51 rfl) ?_
   refine FL.v (E.move (v:=Value.int .i64 (wr (((i30:Nat):Int) + 1))) rfl) ?_
   refine FL.nil ?_
   obtain rfl:=Option.some.inj hp
   exact ⟨rfl,⟨_,S59,i48,(zaw rfl (zaB hx30) (p1.mono (i27.tr i48)).le),k52,k53,k54⟩⟩
 ·
  clear hp hq
  rintro s30 f71 w70 ⟨H67,S68,i69,k72,k73,k74,k75⟩
  refine FW.seq (FW.region ?_)
  refine FL.v (E.lss k72 k75) ?_
  refine FL.nil (FW.seq ?_)
  refine FW.condF rfl zaG ?_
  refine FW.exit ?_
  exact ⟨nofun,rfl,⟨_,S68,i69⟩⟩
 ·
  clear hq
  intro e f66 w65 hD
  rcases q30 with s30|x30
  ·
   obtain ⟨rfl,hD⟩:=hD
   obtain ⟨H62,S63,i64⟩:=hD
   replace hp:=el_go hp
   refine FW.seq (FW.region ?_)
   refine FL.v (E.assign (v:=Value.int .i64 (-1)) rfl) ?_
   refine FL.nil ?_
   refine FW.ret ?_
   obtain rfl:=Option.some.inj hp
   exact ⟨.inr rfl,res1 rfl rfl ⟨rfl,S63.back⟩⟩
  ·
   obtain ⟨he,hL⟩:=hD
   replace hp:=el_rt hp
   obtain rfl:=Option.some.inj hp
   subst he
   exact hL

theorem zdC {Ha:GH} {wa:World} (hs:Sl Ha wa) (a0:Cnf) (v0_1:Value) (p0_1:RSl Ha (eL eI 1) 1 v0_1 a0.clauses) (v1:Value) (a1:List zaa) (p1:RSl Ha zah 4 v1 a1) {r:Bool} (hp:(PF.zbM a0 a1)=some r) :
  Calls Tryz.prog 105 #[Value.agg #[Value.int .i64 a0.vars,v0_1],v1] wa (Sc Ha wa (Value.bool r)):=by
 unfold PF.zbM at hp
 have S0:=St.init hs
 refine zaj (N:=18) (args:=[Value.agg #[Value.int .i64 a0.vars,v0_1],v1]) Tryz.func105 rfl rfl rfl ?_
 refine FW.seq (FW.region ?_)
 obtain ⟨b21,w22,run23,S24⟩:=S0.box (P:=Tryz.prog) 26 [Value.int .i64 a0.vars,v0_1] (v:=Value.agg #[Value.int .i64 a0.vars,v0_1]) rfl (zab rfl (zab p0_1.one zae))
 refine FL.v (E.box rfl run23) ?_
 obtain ⟨H25,S26,i27,at28⟩:=S24.sealBox (i:=0) (l':=[]) rfl rfl
 refine FL.v (E.assign (v:=Value.bool false) rfl) ?_
 refine FL.nil (FW.seq (FW.region ?_))
 refine FL.v (E.load rfl (zal Tryz.isAgg26 Tryz.sizeOf26 (at28.now S26.sl) rfl)) ?_
 obtain ⟨r29,hr30,hp⟩:=bnd hp
 refine FL.call rfl rfl rfl (E.call Tryz.call62 (A1 rfl)) (w_impl_IsCnf S26.sl a0 v0_1 (p0_1.mono i27) hr30) ?_
 rintro e w31 ⟨rfl,r32⟩
 refine ⟨_,rfl,?_⟩
 have S33:=S26.call r32
 refine FL.v (E.move (v:=Value.bool r29) rfl) ?_
 refine FL.cut 4 (fun f w=>∃ H:GH,St Ha wa H w []∧Inc H25 H∧f 1=v1∧f 2=Value.pointer (some ⟨b21,0,none⟩)∧f 11=Value.bool (bif r29 then (decide ((len a1)≤200)) else false)) ?_ ?_
 ·
  rcases bcase r29 with c40|c40
  ·
   refine FL.val (zac rfl rfl rfl c40) rfl rfl (E.move (v:=v1) rfl) ?_
   refine FL.val (zac rfl rfl rfl c40) rfl rfl (E.lenP te61 rfl p1) ?_
   refine FL.val (zac rfl rfl rfl c40) rfl rfl (E.leq rfl rfl) ?_
   refine FL.v (E.pickT rfl c40 rfl) ?_
   exact FL.nil ⟨rfl,_,S33,(Inc.rfl _),rfl,rfl,(congrArg Value.bool (bifT c40).symm)⟩
  ·
   refine FL.skip (wF_no rfl rfl rfl c40) rfl ?_
   refine FL.skip (wF_no rfl rfl rfl c40) rfl ?_
   refine FL.skip (wF_no rfl rfl rfl c40) rfl ?_
   refine FL.v (E.pickF rfl c40 rfl) ?_
   exact FL.nil ⟨rfl,_,S33,(Inc.rfl _),rfl,rfl,(congrArg Value.bool (bifF c40).symm)⟩
 rintro f39 w38 ⟨H35,S36,i37,k41,k42,k43⟩
 refine FL.v (E.move k43) ?_
 obtain ⟨t49,hqt49,hp⟩:=bnd hp
 refine FL.cut 5 (fun f w=>∃ H:GH,St Ha wa H w []∧Inc H35 H∧f 17=Value.bool t49) ?_ ?_
 ·
  clear hp;have hp:=hqt49;clear hqt49
  rcases ifB hp with ⟨c55,hp⟩|⟨c55,hp⟩
  ·
   refine FL.val (zac rfl rfl rfl c55) rfl rfl (E.load k42 (zal Tryz.isAgg26 Tryz.sizeOf26 ((at28.mono i37).now S36.sl) rfl)) ?_
   refine FL.val (zac rfl rfl rfl c55) rfl rfl (E.move k41) ?_
   obtain ⟨r56,hr57,hp⟩:=bnd hp
   refine FL.call (zac rfl rfl rfl c55) rfl rfl (E.call Tryz.call175 (A2 rfl rfl)) (w_impl_firstWrong S36.sl a0 v0_1 (p0_1.mono (i27.tr i37)) v1 a1 (p1.mono (i27.tr i37)) hr57) ?_
   rintro e w58 ⟨rfl,r59⟩
   refine ⟨_,rfl,?_⟩
   have S60:=S36.call r59
   refine FL.val (zac rfl rfl rfl c55) rfl rfl (E.lss rfl rfl) ?_
   obtain rfl:=Option.some.inj hp
   refine FL.v (E.pickT rfl c55 rfl) ?_
   exact FL.nil ⟨rfl,_,S60,(Inc.rfl _),rfl⟩
  ·
   refine FL.skip (wF_no rfl rfl rfl c55) rfl ?_
   refine FL.skip (wF_no rfl rfl rfl c55) rfl ?_
   refine FL.skip (wF_no rfl rfl rfl c55) rfl ?_
   refine FL.skip (wF_no rfl rfl rfl c55) rfl ?_
   obtain rfl:=Option.some.inj hp
   refine FL.v (E.pickF rfl c55 rfl) ?_
   exact FL.nil ⟨rfl,_,S36,(Inc.rfl _),rfl⟩
 rintro f54 w53 ⟨H50,S51,i52,k61⟩
 refine FL.v (E.assign k61) ?_
 refine FL.nil ?_
 refine FW.ret ?_
 obtain rfl:=Option.some.inj hp
 exact ⟨.inr rfl,res1 rfl rfl ⟨rfl,S51.back⟩⟩

@[reducible] def zeX (Ha:GH) (wa:World) (r:zaa):Ending→World→Prop :=
 fun e w'=>∃ H':GH,∃ v0_0:Value,e=.returned (Value.agg #[v0_0,Value.int .i64 r.left,Value.int .i64 r.right,Value.int .i64 r.pivot])∧Run wa.heap.size Ha wa H' w'∧RSl H' eI 1 v0_0 r.clause
theorem zd1 {Ha:GH} {wa:World} (hs:Sl Ha wa) (v0:Value) (a0:List zaa) (p0:RSl Ha zah 4 v0 a0) {r:zaa} (hp:(PF.zb0 a0)=some r) :
  Calls Tryz.prog 108 #[v0] wa (zeX Ha wa r):=by
 unfold PF.zb0 at hp
 have S0:=St.init hs
 refine zaj (N:=9) (args:=[v0]) Tryz.func108 rfl rfl rfl ?_
 refine FW.seq (FW.region ?_)
 obtain ⟨b21,w22,run23,S24⟩:=S0.alloc (P:=Tryz.prog) 134 [Value.slice none 0 0,Value.int .i64 0,Value.int .i64 0,Value.int .i64 0] Tryz.zeroValue134 rfl (zab rfl (zab rfl (zab rfl (zab rfl zae))))
 refine FL.v (E.alloc run23) ?_
 refine FL.nil (FW.seq (FW.region ?_))
 refine FL.v (E.move (v:=v0) rfl) ?_
 refine FL.v (E.move (v:=v0) rfl) ?_
 refine FL.v (E.lenP te61 rfl p0) ?_
 refine FL.v (E.sub rfl rfl) ?_
 obtain ⟨x31,hx32,hp⟩:=bnd hp
 obtain ⟨p25,cs26,pt27,l28,at29,rel30⟩:=p0.at hx32
 obtain ⟨v33,rfl,h34⟩:=zap rel30
 refine FL.v (E.indexAddr te61 rfl rfl pt27) ?_
 refine FL.v (E.load rfl (zal Tryz.isAgg134 Tryz.sizeOf134 (at29.now S24.sl) rfl)) ?_
 obtain ⟨w35,run36,S37⟩:=S24.store0 (P:=Tryz.prog) (t:=134) (i:=0) (cs':=[v33,Value.int .i64 x31.left,Value.int .i64 x31.right,Value.int .i64 x31.pivot]) (l':=[.box b21 134 [v33,Value.int .i64 x31.left,Value.int .i64 x31.right,Value.int .i64 x31.pivot]]) (v:=Value.agg #[v33,Value.int .i64 x31.left,Value.int .i64 x31.right,Value.int .i64 x31.pivot]) (c:=[v33,Value.int .i64 x31.left,Value.int .i64 x31.right,Value.int .i64 x31.pivot]) rfl Tryz.sizeOf134 rfl rfl (zab h34.one (zab rfl (zab rfl (zab rfl zae)))) (Nat.le_of_ble_eq_true rfl) rfl rfl
 refine FL.act rfl rfl (E.store rfl rfl run36) ?_
 obtain ⟨H38,S39,i40,at41⟩:=S37.sealBox (i:=0) (l':=[]) rfl rfl
 refine FL.nil ?_
 refine FW.ret ?_
 obtain rfl:=Option.some.inj hp
 exact ⟨.inr rfl,resC rfl rfl (zaA Tryz.isAgg134 Tryz.sizeOf134 (at41.now S39.sl) rfl) ⟨_,_,rfl,S39.run,(h34.mono i40)⟩⟩

@[reducible] def p_impl_cloneSteps (Ha:GH) (wa:World) (r:(List zaa)):Ending→World→Prop :=
 fun e w'=>∃ H':GH,∃ v0:Value,∃ n0:Nat,∃ c0:List Value,e=.returned (v0)∧St Ha wa H' w' [.row 134 4 v0 n0 c0]∧Els (up wa.heap.size H') zah 4 c0 r∧(bl c0).Nodup
set_option maxHeartbeats 4000000 in
theorem w_impl_cloneSteps {Ha:GH} {wa:World} (hs:Sl Ha wa) (v0:Value) (a0:List zaa) (p0:RSl Ha zah 4 v0 a0) {r:(List zaa)} (hp:(PF.zc6 a0)=some r) :
  Calls Tryz.prog 109 #[v0] wa (p_impl_cloneSteps Ha wa r):=by
 unfold PF.zc6 at hp
 have S0:=St.init hs
 refine zaj (N:=22) (args:=[v0]) Tryz.func109 rfl rfl rfl ?_
 refine FW.seq (FW.region ?_)
 refine FL.v (E.assign (v:=Value.slice none 0 0) rfl) ?_
 refine FL.nil (FW.seq (FW.region ?_))
 refine FL.v (E.assign (v:=Value.slice none 0 0) rfl) ?_
 refine FL.nil (FW.seq (FW.seq (FW.region ?_)))
 refine FL.v (E.move (v:=v0) rfl) ?_
 refine FL.v (E.lenP te61 rfl p0) ?_
 refine FL.v (E.move (v:=Value.int .i64 0) rfl) ?_
 refine FL.nil ?_
 obtain ⟨q22,hq,hp⟩:=bndR hp
 refine FW.block ?_
 refine FW.mono (FW.forL (S:=(List zaa)) (X:=Empty) (fun (i22:Nat) (s22:(List zaa)) f w=>∃ H:GH,∃ v23:Value,∃ n24:Nat,∃ cs25:List Value,St Ha wa H w [.row 134 4 v23 n24 cs25]∧Inc Ha H∧Els (up wa.heap.size H) zah 4 cs25 s22∧(bl cs25).Nodup∧f 8=Value.int .i64 ((i22:Nat):Int)∧f 3=v23∧f 6=v0∧f 7=Value.int .i64 (len a0)) (fun (q:Rs (List zaa) Empty) e f w=>match q with|.go s22=>e=Exit.exit 0∧(∃ H:GH,∃ v23:Value,∃ n24:Nat,∃ cs25:List Value,St Ha wa H w [.row 134 4 v23 n24 cs25]∧Inc Ha H∧Els (up wa.heap.size H) zah 4 cs25 s22∧(bl cs25).Nodup∧f 3=v23)|.rt x=>x.elim) hq ⟨_,_,_,_,(S0.nil 134 4),(Inc.rfl _),Els.nil,List.nodup_nil,rfl,rfl,rfl,rfl⟩ ?_ ?_) ?_
 ·
  clear hp hq
  rintro i22 y21 s22 f96 w95 ⟨H92,v23,n24,cs25,S93,i94,els26,nd27,k97,k98,k99,kA0⟩ hx22 oAU hp
  refine FW.seq (FW.region ?_)
  refine FL.v (E.lssT k97 kA0 (zaF hx22)) ?_
  refine FL.nil (FW.seq ?_)
  refine FW.condT rfl rfl ?_
  refine FW.skip (FW.seq (FW.block (FW.seq (FW.region ?_))))
  obtain ⟨pA1,csA2,ptA3,lA4,atA5,relA6⟩:=p0.at (zaz hx22)
  obtain ⟨vA7,rfl,hA8⟩:=zap relA6
  refine FL.v (E.indexAddr te61 k99 k97 ptA3) ?_
  refine FL.v (E.load rfl (zal Tryz.isAgg134 Tryz.sizeOf134 ((atA5.mono i94).now S93.sl) rfl)) ?_
  obtain ⟨bA9,wAa,runAb,SAc⟩:=S93.alloc (P:=Tryz.prog) 134 [Value.slice none 0 0,Value.int .i64 0,Value.int .i64 0,Value.int .i64 0] Tryz.zeroValue134 rfl (zab rfl (zab rfl (zab rfl (zab rfl zae))))
  refine FL.v (E.alloc runAb) ?_
  obtain ⟨wAd,runAe,SAf⟩:=SAc.store0 (P:=Tryz.prog) (t:=134) (i:=0) (cs':=[vA7,Value.int .i64 y21.left,Value.int .i64 y21.right,Value.int .i64 y21.pivot]) (l':=[.box bA9 134 [vA7,Value.int .i64 y21.left,Value.int .i64 y21.right,Value.int .i64 y21.pivot],.row 134 4 v23 n24 cs25]) (v:=Value.agg #[vA7,Value.int .i64 y21.left,Value.int .i64 y21.right,Value.int .i64 y21.pivot]) (c:=[vA7,Value.int .i64 y21.left,Value.int .i64 y21.right,Value.int .i64 y21.pivot]) rfl Tryz.sizeOf134 rfl rfl (zab hA8.one (zab rfl (zab rfl (zab rfl zae)))) (Nat.le_of_ble_eq_true rfl) rfl rfl
  refine FL.act rfl rfl (E.store rfl rfl runAe) ?_
  refine FL.nil (FW.seq (FW.region ?_))
  refine FL.v (E.fieldAddr zav rfl) ?_
  refine FL.v (E.load rfl (zag Tryz.isAgg52 (SAf.box_now (i:=0) rfl) rfl)) ?_
  obtain ⟨rAg,hrAh,hp⟩:=bnd hp
  refine FL.call rfl rfl rfl (E.call Tryz.call114 (A1 rfl)) (zdj SAf.sl vA7 y21.clause (hA8.mono i94) hrAh) ?_
  rintro e wAj ⟨HAi,vAm,nAn,csAo,rfl,rAl,elsAp⟩
  refine ⟨_,rfl,?_⟩
  have elsAp:=elsAp.mono (up_le SAf.size)
  have SAk:=SAf.join (l':=[.row 3 1 vAm nAn csAo,.box bA9 134 [vA7,Value.int .i64 y21.left,Value.int .i64 y21.right,Value.int .i64 y21.pivot],.row 134 4 v23 n24 cs25]) rAl rfl
  refine FL.v (E.fieldAddr zav rfl) ?_
  obtain ⟨wAq,runAr,SAs⟩:=SAk.store (P:=Tryz.prog) (t:=52) (i:=1) (j:=0) (cs':=[vAm,Value.int .i64 y21.left,Value.int .i64 y21.right,Value.int .i64 y21.pivot]) (l':=[.row 3 1 vAm nAn csAo,.box bA9 134 [vAm,Value.int .i64 y21.left,Value.int .i64 y21.right,Value.int .i64 y21.pivot],.row 134 4 v23 n24 cs25]) (v:=vAm) (c:=[vAm]) rfl Tryz.sizeOf52 (Ln.cells (SAk.row_ln (i:=0) rfl)) rfl (zab (Ln.one (SAk.row_ln (i:=0) rfl)) zae) (Nat.le_of_ble_eq_true rfl) rfl rfl
  refine FL.act rfl rfl (E.store rfl rfl runAr) ?_
  obtain ⟨HAt,SAu,iAv,hAw,nvAx⟩:=SAs.sealRowU (i:=0) (l':=[.box bA9 134 [vAm,Value.int .i64 y21.left,Value.int .i64 y21.right,Value.int .i64 y21.pivot],.row 134 4 v23 n24 cs25]) rfl elsAp (by decide) rfl
  obtain ⟨HAy,SAz,iAA,atAB⟩:=SAu.sealBox (i:=0) (l':=[.row 134 4 v23 n24 cs25]) rfl rfl
  refine FL.nil (FW.region ?_)
  refine FL.v (E.move k98) ?_
  refine FL.v (E.load rfl (zal Tryz.isAgg134 Tryz.sizeOf134 (atAB.now SAz.sl) rfl)) ?_
  obtain ⟨vAC,wAD,runAE,SAF⟩:=SAz.buildSlice (P:=Tryz.prog) te61 [Value.agg #[vAm,Value.int .i64 y21.left,Value.int .i64 y21.right,Value.int .i64 y21.pivot]] (parts:=#[(0,Value.agg #[vAm,Value.int .i64 y21.left,Value.int .i64 y21.right,Value.int .i64 y21.pivot])]) (cells:=[vAm,Value.int .i64 y21.left,Value.int .i64 y21.right,Value.int .i64 y21.pivot]) rfl (zas rfl zan) (zar rfl zam) (zab hAw.one (zab rfl (zab rfl (zab rfl zae)))) (Nat.le_of_ble_eq_true rfl)
  have elsAG:Els (up wa.heap.size HAy) zah 4 [vAm,Value.int .i64 y21.left,Value.int .i64 y21.right,Value.int .i64 y21.pivot] [(zaa.mk rAg y21.left y21.right y21.pivot)]:=(Els.snoc (H:=(up wa.heap.size HAy)) (E:=zah) (k:=4) (c:=[vAm,Value.int .i64 y21.left,Value.int .i64 y21.right,Value.int .i64 y21.pivot]) (x:=(zaa.mk rAg y21.left y21.right y21.pivot)) Els.nil rfl ⟨_,rfl,(hAw.mono (zaf iAA))⟩)
  have ndAH:(bl [vAm,Value.int .i64 y21.left,Value.int .i64 y21.right,Value.int .i64 y21.pivot]).Nodup:=by exact zaT vAm
  refine FL.v (E.buildSlice (B1 rfl) runAE) ?_
  obtain ⟨xsAI,hzAJ,hp⟩:=bnd hp
  obtain ⟨vAK,wAN,nAL,csAM,runAO,SAP,elsAQ,ceAR⟩:=SAF.appendO (P:=Tryz.prog) te61 (i:=1) (j:=0) rfl (els26.mono (zaf ((rAl.run.inc.tr iAv).tr iAA))) rfl elsAG hzAJ
  have SAP:St Ha wa HAy wAN [.row 134 4 vAC 1 [vAm,Value.int .i64 y21.left,Value.int .i64 y21.right,Value.int .i64 y21.pivot],.row 134 4 vAK nAL csAM]:=SAP
  have ndAS:(bl csAM).Nodup:=by rw [ceAR];exact zaS nd27 ndAH (Els.dom (els26.mono (upI.tr rAl.run.inc))) (by exact nvAx)
  have SAT:St Ha wa HAy wAN [.row 134 4 vAK nAL csAM]:=SAP.drop 0
  refine FL.v (E.append rfl rfl runAO) ?_
  refine FL.v (E.assign (v:=vAK) rfl) ?_
  refine FL.nil (FW.region ?_)
  refine FL.v (E.add k97 rfl) ?_
  refine FL.v (E.move (v:=Value.int .i64 (wr (((i22:Nat):Int) + 1))) rfl) ?_
  refine FL.nil ?_
  obtain rfl:=Option.some.inj hp
  exact ⟨rfl,⟨_,_,_,_,SAT,(((i94.tr rAl.run.inc).tr iAv).tr iAA),elsAQ,ndAS,(zaw rfl (zaB hx22) (p0.mono (((i94.tr rAl.run.inc).tr iAv).tr iAA)).le),rfl,k99,kA0⟩⟩
 ·
  clear hp hq
  rintro s22 fB5 wB4 ⟨HB1,v23,n24,cs25,SB2,iB3,els26,nd27,kB6,kB7,kB8,kB9⟩
  refine FW.seq (FW.region ?_)
  refine FL.v (E.lss kB6 kB9) ?_
  refine FL.nil (FW.seq ?_)
  refine FW.condF rfl zaG ?_
  refine FW.exit ?_
  exact ⟨nofun,rfl,⟨_,_,_,_,SB2,iB3,els26,nd27,kB7⟩⟩
 ·
  clear hq
  intro e fAZ wAY hD
  rcases q22 with s22|x22
  ·
   obtain ⟨rfl,hD⟩:=hD
   obtain ⟨HAV,v23,n24,cs25,SAW,iAX,els26,nd27,kB0⟩:=hD
   replace hp:=el_go hp
   refine FW.seq (FW.region ?_)
   refine FL.v (E.move kB0) ?_
   refine FL.v (E.assign (v:=v23) rfl) ?_
   refine FL.nil ?_
   refine FW.ret ?_
   obtain rfl:=Option.some.inj hp
   exact ⟨.inr rfl,res1 rfl rfl ⟨_,_,_,_,rfl,SAW,els26,nd27⟩⟩
  ·
   exact x22.elim

theorem zew {Ha:GH} {wa:World} (hs:Sl Ha wa) (a0:zaa) (v0_0:Value) (p0_0:RSl Ha eI 1 v0_0 a0.clause) :
  Calls Tryz.prog 180 #[Value.agg #[v0_0,Value.int .i64 a0.left,Value.int .i64 a0.right,Value.int .i64 a0.pivot]] wa (Sc Ha wa (Value.bool (PF.zbN a0))):=by
 obtain ⟨r,hp⟩:∃ r,(PF.zbN a0)=r:=⟨_,rfl⟩
 rw [hp]
 unfold PF.zbN at hp
 have S0:=St.init hs
 refine zaj (N:=11) (args:=[Value.agg #[v0_0,Value.int .i64 a0.left,Value.int .i64 a0.right,Value.int .i64 a0.pivot]]) Tryz.func180 rfl rfl rfl ?_
 refine FW.seq (FW.region ?_)
 obtain ⟨b21,w22,run23,S24⟩:=S0.box (P:=Tryz.prog) 134 [v0_0,Value.int .i64 a0.left,Value.int .i64 a0.right,Value.int .i64 a0.pivot] (v:=Value.agg #[v0_0,Value.int .i64 a0.left,Value.int .i64 a0.right,Value.int .i64 a0.pivot]) rfl (zab p0_0.one (zab rfl (zab rfl (zab rfl zae))))
 refine FL.v (E.box rfl run23) ?_
 obtain ⟨H25,S26,i27,at28⟩:=S24.sealBox (i:=0) (l':=[]) rfl rfl
 refine FL.v (E.assign (v:=Value.bool false) rfl) ?_
 refine FL.nil (FW.seq (FW.region ?_))
 refine FL.v (E.fieldAddr zaN rfl) ?_
 refine FL.v (E.load rfl (zag Tryz.isAgg3 (at28.now S26.sl) rfl)) ?_
 refine FL.v (E.geq rfl rfl) ?_
 refine FL.v (E.move (v:=Value.bool (decide (0≤a0.left))) rfl) ?_
 refine FL.cut 4 (fun f w=>∃ H:GH,St Ha wa H w []∧Inc H25 H∧f 10=Value.bool (bif (decide (0≤a0.left)) then (decide (0≤a0.right)) else false)) ?_ ?_
 ·
  rcases bcase (decide (0≤a0.left)) with c35|c35
  ·
   refine FL.val (zac rfl rfl rfl c35) rfl rfl (E.fieldAddr zaO rfl) ?_
   refine FL.val (zac rfl rfl rfl c35) rfl rfl (E.load rfl (zag Tryz.isAgg3 (at28.now S26.sl) rfl)) ?_
   refine FL.val (zac rfl rfl rfl c35) rfl rfl (E.geq rfl rfl) ?_
   refine FL.v (E.pickT rfl c35 rfl) ?_
   exact FL.nil ⟨rfl,_,S26,(Inc.rfl _),(congrArg Value.bool (bifT c35).symm)⟩
  ·
   refine FL.skip (wF_no rfl rfl rfl c35) rfl ?_
   refine FL.skip (wF_no rfl rfl rfl c35) rfl ?_
   refine FL.skip (wF_no rfl rfl rfl c35) rfl ?_
   refine FL.v (E.pickF rfl c35 rfl) ?_
   exact FL.nil ⟨rfl,_,S26,(Inc.rfl _),(congrArg Value.bool (bifF c35).symm)⟩
 rintro f34 w33 ⟨H30,S31,i32,k36⟩
 refine FL.v (E.assign k36) ?_
 refine FL.nil ?_
 refine FW.ret ?_
 obtain rfl:=hp
 exact ⟨.inr rfl,res1 rfl rfl ⟨rfl,S31.back⟩⟩

theorem zex {Ha:GH} {wa:World} (hs:Sl Ha wa) (a0:zaa) (v0_0:Value) (p0_0:RSl Ha eI 1 v0_0 a0.clause) :
  Calls Tryz.prog 181 #[Value.agg #[v0_0,Value.int .i64 a0.left,Value.int .i64 a0.right,Value.int .i64 a0.pivot]] wa (Sc Ha wa (Value.bool (PF.zbF a0))):=by
 obtain ⟨r,hp⟩:∃ r,(PF.zbF a0)=r:=⟨_,rfl⟩
 rw [hp]
 unfold PF.zbF at hp
 have S0:=St.init hs
 refine zaj (N:=6) (args:=[Value.agg #[v0_0,Value.int .i64 a0.left,Value.int .i64 a0.right,Value.int .i64 a0.pivot]]) Tryz.func181 rfl rfl rfl ?_
 refine FW.seq (FW.region ?_)
 obtain ⟨b21,w22,run23,S24⟩:=S0.box (P:=Tryz.prog) 134 [v0_0,Value.int .i64 a0.left,Value.int .i64 a0.right,Value.int .i64 a0.pivot] (v:=Value.agg #[v0_0,Value.int .i64 a0.left,Value.int .i64 a0.right,Value.int .i64 a0.pivot]) rfl (zab p0_0.one (zab rfl (zab rfl (zab rfl zae))))
 refine FL.v (E.box rfl run23) ?_
 obtain ⟨H25,S26,i27,at28⟩:=S24.sealBox (i:=0) (l':=[]) rfl rfl
 refine FL.v (E.assign (v:=Value.bool false) rfl) ?_
 refine FL.nil (FW.seq (FW.region ?_))
 refine FL.v (E.fieldAddr zaN rfl) ?_
 refine FL.v (E.load rfl (zag Tryz.isAgg3 (at28.now S26.sl) rfl)) ?_
 refine FL.v (E.lss rfl rfl) ?_
 refine FL.v (E.assign (v:=Value.bool (decide (a0.left < 0))) rfl) ?_
 refine FL.nil ?_
 refine FW.ret ?_
 obtain rfl:=hp
 exact ⟨.inr rfl,res1 rfl rfl ⟨rfl,S26.back⟩⟩

end Go.Proofs
