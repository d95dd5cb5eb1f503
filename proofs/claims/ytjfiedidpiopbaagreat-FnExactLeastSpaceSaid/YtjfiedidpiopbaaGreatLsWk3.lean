/- Part of the walks and plain laws behind the claim: it proves helpers, under no condition beyond their own. -/
import Derived.Test.YtjfiedidpiopbaaGreatLsWk2
set_option linter.unusedVariables false
set_option maxRecDepth 100000
namespace Go.Proofs
open Go.Mr Go.Pu Go.PF Go.RowKit

@[reducible] def p_spec_l10Closure (Ha:GH) (wa:World) (r:zaA):Ending→World→Prop :=
 fun e w'=>∃ H':GH,∃ v0_0:Value,∃ v0_1:Value,∃ v0_2:Value,∃ v0_3:Value,∃ v0_4:Value,∃ v0_5:Value,e=.returned (Value.agg #[v0_0,v0_1,v0_2,v0_3,v0_4,v0_5])∧Run wa.heap.size Ha wa H' w'∧RSl H' (eL eI 1) 1 v0_0 r.list∧RSl (up wa.heap.size H') eI 1 v0_1 r.rounds∧RSl (up wa.heap.size H') eI 1 v0_2 r.left∧RSl (up wa.heap.size H') eI 1 v0_3 r.right∧RSl (up wa.heap.size H') eI 1 v0_4 r.pivots∧RSl H' (eL eI 1) 1 v0_5 r.sorted
set_option maxHeartbeats 4000000 in
theorem w_spec_l10Closure {Ha:GH} {wa:World} (hs:Sl Ha wa) (a0:Cnf) (v0_1:Value) (p0_1:RSl Ha (eL eI 1) 1 v0_1 a0.clauses) (a1:Int) {r:zaA} (hp:(PF.zcv a0 a1)=some r) :
  Calls Tryz.prog 43 #[Value.agg #[Value.int .i64 a0.vars,v0_1],Value.int .i64 a1] wa (p_spec_l10Closure Ha wa r):=by
 unfold PF.zcv at hp
 have S0:=St.init hs
 refine zag (N:=86) (args:=[Value.agg #[Value.int .i64 a0.vars,v0_1],Value.int .i64 a1]) Tryz.func43 rfl rfl rfl ?_
 refine FW.seq (FW.region ?_)
 obtain ⟨b21,w22,run23,S24⟩:=S0.box (P:=Tryz.prog) 28 [Value.int .i64 a0.vars,v0_1] (v:=Value.agg #[Value.int .i64 a0.vars,v0_1]) rfl (zab rfl (zab p0_1.one zad))
 refine FL.v (E.box rfl run23) ?_
 obtain ⟨H25,S26,i27,at28⟩:=S24.sealBox (i:=0) (l':=[]) rfl rfl
 have S33:=S26.nil 45 1
 have els34:Els (up wa.heap.size H25) (eL eI 1) 1 [] []:=Els.nil
 have S35:=S33.nil 3 1
 have els36:Els (up wa.heap.size H25) eI 1 [] []:=Els.nil
 have S37:=S35.nil 3 1
 have els38:Els (up wa.heap.size H25) eI 1 [] []:=Els.nil
 have S39:=S37.nil 3 1
 have els40:Els (up wa.heap.size H25) eI 1 [] []:=Els.nil
 have S41:=S39.nil 3 1
 have els42:Els (up wa.heap.size H25) eI 1 [] []:=Els.nil
 obtain ⟨b29,w30,run31,S32⟩:=S41.alloc (P:=Tryz.prog) 70 [Value.slice none 0 0,Value.slice none 0 0,Value.slice none 0 0,Value.slice none 0 0,Value.slice none 0 0,Value.slice none 0 0] Tryz.zeroValue70 rfl (zab rfl (zab rfl (zab rfl (zab rfl (zab rfl (zab rfl zad))))))
 refine FL.v (E.alloc run31) ?_
 refine FL.nil (FW.seq (FW.region ?_))
 refine FL.v (E.build (B0) (run_build _ 70 #[] #[Value.slice none 0 0,Value.slice none 0 0,Value.slice none 0 0,Value.slice none 0 0,Value.slice none 0 0,Value.slice none 0 0] (by rfl))) ?_
 obtain ⟨v43,w44,run45,S46⟩:=S32.buildSlice (P:=Tryz.prog) te22 [] (parts:=#[]) (cells:=[]) rfl zaw zav zad (Nat.le_of_ble_eq_true rfl)
 have els47:Els (up wa.heap.size H25) (eL eI 1) 1 [] []:=Els.nil
 refine FL.v (E.buildSlice (B0) run45) ?_
 have S52:=S46.nil 45 1
 have els53:Els (up wa.heap.size H25) (eL eI 1) 1 [] []:=Els.nil
 have S54:=S52.nil 3 1
 have els55:Els (up wa.heap.size H25) eI 1 [] []:=Els.nil
 have S56:=S54.nil 3 1
 have els57:Els (up wa.heap.size H25) eI 1 [] []:=Els.nil
 have S58:=S56.nil 3 1
 have els59:Els (up wa.heap.size H25) eI 1 [] []:=Els.nil
 have S60:=S58.nil 3 1
 have els61:Els (up wa.heap.size H25) eI 1 [] []:=Els.nil
 obtain ⟨b48,w49,run50,S51⟩:=S60.alloc (P:=Tryz.prog) 70 [Value.slice none 0 0,Value.slice none 0 0,Value.slice none 0 0,Value.slice none 0 0,Value.slice none 0 0,Value.slice none 0 0] Tryz.zeroValue70 rfl (zab rfl (zab rfl (zab rfl (zab rfl (zab rfl (zab rfl zad))))))
 refine FL.v (E.alloc run50) ?_
 have S62:=S51.nil 45 1
 have els63:Els (up wa.heap.size H25) (eL eI 1) 1 [] []:=Els.nil
 have S64:=S62.nil 3 1
 have els65:Els (up wa.heap.size H25) eI 1 [] []:=Els.nil
 have S66:=S64.nil 3 1
 have els67:Els (up wa.heap.size H25) eI 1 [] []:=Els.nil
 have S68:=S66.nil 3 1
 have els69:Els (up wa.heap.size H25) eI 1 [] []:=Els.nil
 have S70:=S68.nil 3 1
 have els71:Els (up wa.heap.size H25) eI 1 [] []:=Els.nil
 obtain ⟨w72,run73,S74⟩:=S70.store0 (P:=Tryz.prog) (t:=70) (i:=5) (cs':=[(Value.slice none 0 0),(Value.slice none 0 0),(Value.slice none 0 0),(Value.slice none 0 0),(Value.slice none 0 0),Value.slice none 0 0]) (l':=[.row 3 1 (Value.slice none 0 0) 0 [],.row 3 1 (Value.slice none 0 0) 0 [],.row 3 1 (Value.slice none 0 0) 0 [],.row 3 1 (Value.slice none 0 0) 0 [],.row 45 1 (Value.slice none 0 0) 0 [],.box b48 70 [(Value.slice none 0 0),(Value.slice none 0 0),(Value.slice none 0 0),(Value.slice none 0 0),(Value.slice none 0 0),Value.slice none 0 0],.row 3 1 (Value.slice none 0 0) 0 [],.row 3 1 (Value.slice none 0 0) 0 [],.row 3 1 (Value.slice none 0 0) 0 [],.row 3 1 (Value.slice none 0 0) 0 [],.row 45 1 (Value.slice none 0 0) 0 [],.row 45 1 v43 0 [],.box b29 70 [(Value.slice none 0 0),(Value.slice none 0 0),(Value.slice none 0 0),(Value.slice none 0 0),(Value.slice none 0 0),Value.slice none 0 0],.row 3 1 (Value.slice none 0 0) 0 [],.row 3 1 (Value.slice none 0 0) 0 [],.row 3 1 (Value.slice none 0 0) 0 [],.row 3 1 (Value.slice none 0 0) 0 [],.row 45 1 (Value.slice none 0 0) 0 []]) (v:=Value.agg #[(Value.slice none 0 0),(Value.slice none 0 0),(Value.slice none 0 0),(Value.slice none 0 0),(Value.slice none 0 0),Value.slice none 0 0]) (c:=[(Value.slice none 0 0),(Value.slice none 0 0),(Value.slice none 0 0),(Value.slice none 0 0),(Value.slice none 0 0),Value.slice none 0 0]) rfl Tryz.sizeOf70 rfl rfl (zab (Ln.one (S70.row_ln (i:=4) rfl)) (zab (Ln.one (S70.row_ln (i:=3) rfl)) (zab (Ln.one (S70.row_ln (i:=2) rfl)) (zab (Ln.one (S70.row_ln (i:=1) rfl)) (zab (Ln.one (S70.row_ln (i:=0) rfl)) (zab rfl zad)))))) (Nat.le_of_ble_eq_true rfl) rfl rfl
 refine FL.act rfl rfl (E.store rfl rfl run73) ?_
 refine FL.v (E.assign (v:=v43) rfl) ?_
 refine FL.nil (FW.seq (FW.seq (FW.region ?_)))
 refine FL.v (E.assign (v:=Value.int .i64 0) rfl) ?_
 refine FL.nil ?_
 obtain ⟨H75,S76,i77,ns80,nv79⟩:=S74.sealRowN (i:=11) (l':=[.row 3 1 (Value.slice none 0 0) 0 [],.row 3 1 (Value.slice none 0 0) 0 [],.row 3 1 (Value.slice none 0 0) 0 [],.row 3 1 (Value.slice none 0 0) 0 [],.row 45 1 (Value.slice none 0 0) 0 [],.box b48 70 [(Value.slice none 0 0),(Value.slice none 0 0),(Value.slice none 0 0),(Value.slice none 0 0),(Value.slice none 0 0),Value.slice none 0 0],.row 3 1 (Value.slice none 0 0) 0 [],.row 3 1 (Value.slice none 0 0) 0 [],.row 3 1 (Value.slice none 0 0) 0 [],.row 3 1 (Value.slice none 0 0) 0 [],.row 45 1 (Value.slice none 0 0) 0 [],.box b29 70 [(Value.slice none 0 0),(Value.slice none 0 0),(Value.slice none 0 0),(Value.slice none 0 0),(Value.slice none 0 0),Value.slice none 0 0],.row 3 1 (Value.slice none 0 0) 0 [],.row 3 1 (Value.slice none 0 0) 0 [],.row 3 1 (Value.slice none 0 0) 0 [],.row 3 1 (Value.slice none 0 0) 0 [],.row 45 1 (Value.slice none 0 0) 0 []]) rfl els47 (show (bl []).Nodup from List.nodup_nil) (by decide) rfl
 have h78:=ns80.rsl
 obtain ⟨q81,hq,hp⟩:=bndR hp
 refine FW.block ?_
 refine FW.mono (FW.iter (S:=((List (List Int))×Int)) (X:=Empty) (fun (s81:((List (List Int))×Int)) f w=>∃ H:GH,∃ v82:Value,St Ha wa H w [.row 3 1 (Value.slice none 0 0) 0 [],.row 3 1 (Value.slice none 0 0) 0 [],.row 3 1 (Value.slice none 0 0) 0 [],.row 3 1 (Value.slice none 0 0) 0 [],.row 45 1 (Value.slice none 0 0) 0 [],.box b48 70 [(Value.slice none 0 0),(Value.slice none 0 0),(Value.slice none 0 0),(Value.slice none 0 0),(Value.slice none 0 0),Value.slice none 0 0],.box b29 70 [(Value.slice none 0 0),(Value.slice none 0 0),(Value.slice none 0 0),(Value.slice none 0 0),(Value.slice none 0 0),Value.slice none 0 0],.row 3 1 (Value.slice none 0 0) 0 [],.row 3 1 (Value.slice none 0 0) 0 [],.row 3 1 (Value.slice none 0 0) 0 [],.row 3 1 (Value.slice none 0 0) 0 [],.row 45 1 (Value.slice none 0 0) 0 []]∧Inc H75 H∧RSl H (eL eI 1) 1 v82 s81.1∧f 1=Value.int .i64 a1∧f 2=Value.pointer (some ⟨b21,0,none⟩)∧f 4=Value.pointer (some (⟨b29,0,none⟩:Addr))∧f 5=Value.pointer (some (⟨b48,0,none⟩:Addr))∧f 6=v82∧f 7=Value.int .i64 s81.2) (fun (q:Rs ((List (List Int))×Int) Empty) e f w=>match q with|.go s81=>e=Exit.exit 0∧(∃ H:GH,∃ v82:Value,St Ha wa H w [.row 3 1 (Value.slice none 0 0) 0 [],.row 3 1 (Value.slice none 0 0) 0 [],.row 3 1 (Value.slice none 0 0) 0 [],.row 3 1 (Value.slice none 0 0) 0 [],.row 45 1 (Value.slice none 0 0) 0 [],.box b48 70 [(Value.slice none 0 0),(Value.slice none 0 0),(Value.slice none 0 0),(Value.slice none 0 0),(Value.slice none 0 0),Value.slice none 0 0],.box b29 70 [(Value.slice none 0 0),(Value.slice none 0 0),(Value.slice none 0 0),(Value.slice none 0 0),(Value.slice none 0 0),Value.slice none 0 0],.row 3 1 (Value.slice none 0 0) 0 [],.row 3 1 (Value.slice none 0 0) 0 [],.row 3 1 (Value.slice none 0 0) 0 [],.row 3 1 (Value.slice none 0 0) 0 [],.row 45 1 (Value.slice none 0 0) 0 []]∧Inc H75 H∧RSl H (eL eI 1) 1 v82 s81.1∧f 1=Value.int .i64 a1∧f 2=Value.pointer (some ⟨b21,0,none⟩)∧f 4=Value.pointer (some (⟨b29,0,none⟩:Addr))∧f 5=Value.pointer (some (⟨b48,0,none⟩:Addr))∧f 6=v82)|.rt x=>x.elim) hq ⟨_,_,(S76.sel [0,1,2,3,4,5,11,12,13,14,15,16] (by decide) rfl),(Inc.rfl _),(h78.mono upI),rfl,rfl,rfl,rfl,rfl,rfl⟩ ?_) ?_
 ·
  clear hp hq
  rintro s81 fAI wAH ⟨HAE,v82,SAF,iAG,h83,kAJ,kAK,kAL,kAM,kAN,kAO⟩ oBy hp
  refine FW.seq (FW.seq (FW.region ?_))
  refine FL.v (E.move kAO) ?_
  refine FL.v (E.fieldAddr zaS kAK) ?_
  refine FL.v (E.load rfl (zah Tryz.isAgg22 ((at28.mono (i77.tr iAG)).now SAF.sl) rfl)) ?_
  refine FL.v (E.lenP te22 rfl p0_1) ?_
  refine FL.v (E.lss rfl rfl) ?_
  refine FL.nil ?_
  rcases ifB hp with ⟨cAP,hp⟩|⟨cAP,hp⟩
  ·
   refine FW.condT rfl cAP ?_
   refine FW.skip (FW.seq (FW.block (FW.seq (FW.region ?_))))
   refine FL.v (E.fieldAddr zaS kAK) ?_
   refine FL.v (E.load rfl (zah Tryz.isAgg22 ((at28.mono (i77.tr iAG)).now SAF.sl) rfl)) ?_
   refine FL.v (E.move kAO) ?_
   obtain ⟨xAW,hxAX,hp⟩:=bnd hp
   obtain ⟨pAQ,csAR,ptAS,lAT,atAU,relAV⟩:=p0_1.at hxAX
   obtain ⟨vAY,rfl,hAZ⟩:=eL_open relAV
   refine FL.v (E.indexAddr te22 rfl rfl ptAS) ?_
   refine FL.v (E.load rfl (zae Tryz.isAgg45 ((atAU.mono ((i27.tr i77).tr iAG)).now SAF.sl) rfl)) ?_
   refine FL.v (E.lenP te45 rfl hAZ) ?_
   refine FL.v (E.move kAJ) ?_
   refine FL.v (E.leq rfl rfl) ?_
   refine FL.nil ?_
   rcases ifB hp with ⟨cB0,hp⟩|⟨cB0,hp⟩
   ·
    refine FW.condT rfl cB0 ?_
    refine FW.region ?_
    refine FL.v (E.move kAN) ?_
    refine FL.v (E.fieldAddr zaS kAK) ?_
    refine FL.v (E.load rfl (zah Tryz.isAgg22 ((at28.mono (i77.tr iAG)).now SAF.sl) rfl)) ?_
    refine FL.v (E.move kAO) ?_
    obtain ⟨xB7,hxB8,hp⟩:=bnd hp
    obtain ⟨pB1,csB2,ptB3,lB4,atB5,relB6⟩:=p0_1.at hxB8
    obtain ⟨vB9,rfl,hBa⟩:=eL_open relB6
    refine FL.v (E.indexAddr te22 rfl rfl ptB3) ?_
    refine FL.v (E.load rfl (zae Tryz.isAgg45 ((atB5.mono ((i27.tr i77).tr iAG)).now SAF.sl) rfl)) ?_
    obtain ⟨rBb,hrBc,hp⟩:=bnd hp
    refine FL.call rfl rfl rfl (E.call Tryz.call66 (A1 rfl)) (zaT SAF.sl vB9 xB7 (hBa.mono ((i27.tr i77).tr iAG)) hrBc) ?_
    rintro e wBe ⟨HBd,vBh,nBi,csBj,rfl,rBg,elsBk⟩
    refine ⟨_,rfl,?_⟩
    have elsBk:=elsBk.mono (up_le SAF.size)
    have SBf:=SAF.join (l':=[.row 3 1 vBh nBi csBj,.row 3 1 (Value.slice none 0 0) 0 [],.row 3 1 (Value.slice none 0 0) 0 [],.row 3 1 (Value.slice none 0 0) 0 [],.row 3 1 (Value.slice none 0 0) 0 [],.row 45 1 (Value.slice none 0 0) 0 [],.box b48 70 [(Value.slice none 0 0),(Value.slice none 0 0),(Value.slice none 0 0),(Value.slice none 0 0),(Value.slice none 0 0),Value.slice none 0 0],.box b29 70 [(Value.slice none 0 0),(Value.slice none 0 0),(Value.slice none 0 0),(Value.slice none 0 0),(Value.slice none 0 0),Value.slice none 0 0],.row 3 1 (Value.slice none 0 0) 0 [],.row 3 1 (Value.slice none 0 0) 0 [],.row 3 1 (Value.slice none 0 0) 0 [],.row 3 1 (Value.slice none 0 0) 0 [],.row 45 1 (Value.slice none 0 0) 0 []]) rBg rfl
    obtain ⟨HBl,SBm,iBn,hBo,nvBp⟩:=SBf.sealRowU (i:=0) (l':=[.row 3 1 (Value.slice none 0 0) 0 [],.row 3 1 (Value.slice none 0 0) 0 [],.row 3 1 (Value.slice none 0 0) 0 [],.row 3 1 (Value.slice none 0 0) 0 [],.row 45 1 (Value.slice none 0 0) 0 [],.box b48 70 [(Value.slice none 0 0),(Value.slice none 0 0),(Value.slice none 0 0),(Value.slice none 0 0),(Value.slice none 0 0),Value.slice none 0 0],.box b29 70 [(Value.slice none 0 0),(Value.slice none 0 0),(Value.slice none 0 0),(Value.slice none 0 0),(Value.slice none 0 0),Value.slice none 0 0],.row 3 1 (Value.slice none 0 0) 0 [],.row 3 1 (Value.slice none 0 0) 0 [],.row 3 1 (Value.slice none 0 0) 0 [],.row 3 1 (Value.slice none 0 0) 0 [],.row 45 1 (Value.slice none 0 0) 0 []]) rfl elsBk (by decide) rfl
    obtain ⟨rBq,hrBr,hp⟩:=bnd hp
    refine FL.call rfl rfl rfl (E.call Tryz.call59 (A2 rfl rfl)) (zdq SBm.sl v82 s81.1 (h83.mono (rBg.run.inc.tr iBn)) vBh rBb (hBo.mono upI) hrBr) ?_
    rintro e wBt ⟨HBs,vBw,rfl,rBv,hBx⟩
    refine ⟨_,rfl,?_⟩
    have SBu:=SBm.call rBv
    refine FL.v (E.assign (v:=vBw) rfl) ?_
    refine FL.nil (FW.region ?_)
    refine FL.v (E.move kAO) ?_
    refine FL.v (E.add rfl rfl) ?_
    refine FL.v (E.assign (v:=Value.int .i64 (wr (s81.2 + 1))) rfl) ?_
    refine FL.nil ?_
    obtain rfl:=Option.some.inj hp
    exact ⟨rfl,⟨_,_,SBu,(((iAG.tr rBg.run.inc).tr iBn).tr rBv.inc),hBx,kAJ,kAK,kAL,kAM,rfl,rfl⟩⟩
   ·
    refine FW.condF rfl cB0 ?_
    refine FW.skip (FW.region ?_)
    refine FL.v (E.move kAO) ?_
    refine FL.v (E.add rfl rfl) ?_
    refine FL.v (E.assign (v:=Value.int .i64 (wr (s81.2 + 1))) rfl) ?_
    refine FL.nil ?_
    obtain rfl:=Option.some.inj hp
    exact ⟨rfl,⟨_,_,SAF,iAG,h83,kAJ,kAK,kAL,kAM,kAN,rfl⟩⟩
  ·
   refine FW.condF rfl cAP ?_
   refine FW.exit ?_
   obtain rfl:=Option.some.inj hp
   exact ⟨nofun,rfl,⟨_,_,SAF,iAG,h83,kAJ,kAK,kAL,kAM,kAN⟩⟩
 ·
  clear hq
  intro e fBD wBC hD
  rcases q81 with s81|x81
  ·
   obtain ⟨rfl,hD⟩:=hD
   obtain ⟨HBz,v82,SBA,iBB,h83,kBE,kBF,kBG,kBH,kBI⟩:=hD
   replace hp:=el_go hp
   refine FW.seq (FW.seq (FW.region ?_))
   refine FL.v (E.assign (v:=Value.int .i64 0) rfl) ?_
   refine FL.nil ?_
   obtain ⟨qBK,hq,hp⟩:=bndR hp
   refine FW.block ?_
   refine FW.mono (FW.forL (S:=((List Int)×(List Int)×(List Int)×(List Int)×(List (List Int))×(List (List Int)))) (X:=Empty) (fun (iBK:Nat) (sBK:((List Int)×(List Int)×(List Int)×(List Int)×(List (List Int))×(List (List Int)))) f w=>∃ H:GH,∃ v84:Value,∃ n85:Nat,∃ cs86:List Value,∃ v88:Value,∃ n89:Nat,∃ cs90:List Value,∃ v92:Value,∃ n93:Nat,∃ cs94:List Value,∃ v96:Value,∃ n97:Nat,∃ cs98:List Value,∃ vA0:Value,∃ nA1:Nat,∃ csA2:List Value,∃ vA4:Value,St Ha wa H w [.row 3 1 v84 n85 cs86,.row 3 1 v88 n89 cs90,.row 3 1 v92 n93 cs94,.row 3 1 v96 n97 cs98,.row 45 1 vA0 nA1 csA2,.box b48 70 [vA0,v96,v92,v88,v84,vA4],.box b29 70 [(Value.slice none 0 0),(Value.slice none 0 0),(Value.slice none 0 0),(Value.slice none 0 0),(Value.slice none 0 0),Value.slice none 0 0],.row 3 1 (Value.slice none 0 0) 0 [],.row 3 1 (Value.slice none 0 0) 0 [],.row 3 1 (Value.slice none 0 0) 0 [],.row 3 1 (Value.slice none 0 0) 0 [],.row 45 1 (Value.slice none 0 0) 0 []]∧Inc HBz H∧Els (up wa.heap.size H) eI 1 cs86 sBK.1∧Els (up wa.heap.size H) eI 1 cs90 sBK.2.1∧Els (up wa.heap.size H) eI 1 cs94 sBK.2.2.1∧Els (up wa.heap.size H) eI 1 cs98 sBK.2.2.2.1∧Els H (eL eI 1) 1 csA2 sBK.2.2.2.2.1∧RSl H (eL eI 1) 1 vA4 sBK.2.2.2.2.2∧f 8=Value.int .i64 ((iBK:Nat):Int)∧f 1=Value.int .i64 a1∧f 2=Value.pointer (some ⟨b21,0,none⟩)∧f 4=Value.pointer (some (⟨b29,0,none⟩:Addr))∧f 5=Value.pointer (some (⟨b48,0,none⟩:Addr))∧f 6=v82) (fun (q:Rs ((List Int)×(List Int)×(List Int)×(List Int)×(List (List Int))×(List (List Int))) Empty) e f w=>match q with|.go sBK=>e=Exit.exit 2∧(∃ H:GH,∃ v84:Value,∃ n85:Nat,∃ cs86:List Value,∃ v88:Value,∃ n89:Nat,∃ cs90:List Value,∃ v92:Value,∃ n93:Nat,∃ cs94:List Value,∃ v96:Value,∃ n97:Nat,∃ cs98:List Value,∃ vA0:Value,∃ nA1:Nat,∃ csA2:List Value,∃ vA4:Value,St Ha wa H w [.row 3 1 v84 n85 cs86,.row 3 1 v88 n89 cs90,.row 3 1 v92 n93 cs94,.row 3 1 v96 n97 cs98,.row 45 1 vA0 nA1 csA2,.box b48 70 [vA0,v96,v92,v88,v84,vA4],.box b29 70 [(Value.slice none 0 0),(Value.slice none 0 0),(Value.slice none 0 0),(Value.slice none 0 0),(Value.slice none 0 0),Value.slice none 0 0],.row 3 1 (Value.slice none 0 0) 0 [],.row 3 1 (Value.slice none 0 0) 0 [],.row 3 1 (Value.slice none 0 0) 0 [],.row 3 1 (Value.slice none 0 0) 0 [],.row 45 1 (Value.slice none 0 0) 0 []]∧Inc HBz H∧Els (up wa.heap.size H) eI 1 cs86 sBK.1∧Els (up wa.heap.size H) eI 1 cs90 sBK.2.1∧Els (up wa.heap.size H) eI 1 cs94 sBK.2.2.1∧Els (up wa.heap.size H) eI 1 cs98 sBK.2.2.2.1∧Els H (eL eI 1) 1 csA2 sBK.2.2.2.2.1∧RSl H (eL eI 1) 1 vA4 sBK.2.2.2.2.2∧f 1=Value.int .i64 a1∧f 2=Value.pointer (some ⟨b21,0,none⟩)∧f 4=Value.pointer (some (⟨b29,0,none⟩:Addr))∧f 5=Value.pointer (some (⟨b48,0,none⟩:Addr))∧f 6=v82)|.rt x=>x.elim) hq ⟨_,_,_,_,_,_,_,_,_,_,_,_,_,_,_,_,_,SBA,(Inc.rfl _),(els71.mono (zaf (i77.tr iBB))),(els69.mono (zaf (i77.tr iBB))),(els67.mono (zaf (i77.tr iBB))),(els65.mono (zaf (i77.tr iBB))),(els63.mono (upI.tr (i77.tr iBB))),(RSl.nil _ _ _),rfl,kBE,kBF,kBG,kBH,kBI⟩ ?_ ?_) ?_
   ·
    clear hp hq
    rintro iBK yBJ sBK fAa wA9 ⟨HA6,v84,n85,cs86,v88,n89,cs90,v92,n93,cs94,v96,n97,cs98,vA0,nA1,csA2,vA4,SA7,iA8,els87,els91,els95,els99,elsA3,hA5,kAb,kAc,kAd,kAe,kAf,kAg⟩ hxBK oDn hp
    refine FW.seq (FW.seq (FW.region ?_))
    refine FL.v (E.move kAb) ?_
    refine FL.v (E.move kAg) ?_
    refine FL.v (E.lenP te22 rfl h83) ?_
    refine FL.v (E.lssT rfl rfl (zaq hxBK)) ?_
    refine FL.nil ?_
    refine FW.condT rfl rfl ?_
    refine FW.skip (FW.seq (FW.block (FW.seq ?_)))
    obtain ⟨xsAx,hzAy,hp⟩:=bnd hp
    refine FW.drawB (Sl HA6) (fun f w=>∃ H:GH,∃ vBS:Value,∃ nBT:Nat,∃ csBU:List Value,∃ vBW:Value,St Ha wa H w [.row 3 1 v84 n85 cs86,.row 3 1 v88 n89 cs90,.row 3 1 v92 n93 cs94,.row 3 1 v96 n97 cs98,.row 45 1 vBS nBT csBU,.box b48 70 [vBS,v96,v92,v88,v84,vBW],.box b29 70 [(Value.slice none 0 0),(Value.slice none 0 0),(Value.slice none 0 0),(Value.slice none 0 0),(Value.slice none 0 0),Value.slice none 0 0],.row 3 1 (Value.slice none 0 0) 0 [],.row 3 1 (Value.slice none 0 0) 0 [],.row 3 1 (Value.slice none 0 0) 0 [],.row 3 1 (Value.slice none 0 0) 0 [],.row 45 1 (Value.slice none 0 0) 0 []]∧Inc HA6 H∧Els H (eL eI 1) 1 csBU xsAx∧RSl H (eL eI 1) 1 vBW sBK.2.2.2.2.2∧f 1=Value.int .i64 a1∧f 2=Value.pointer (some ⟨b21,0,none⟩)∧f 4=Value.pointer (some (⟨b29,0,none⟩:Addr))∧f 5=Value.pointer (some (⟨b48,0,none⟩:Addr))∧f 6=v82∧f 8=Value.int .i64 ((iBK:Nat):Int)) (by kernel_rfl) SA7.sl ?_ ?_
    ·
     intro wAh rAi
     have SAj:=SA7.call rAi
     refine FB.phase [9] (fun w=>WAt w (Addr.add ⟨b48,0,none⟩ 0) [vA0]) ?_
     refine FB.t (i:=0) (bs 10 1) rfl (SP.on ((SAj.box_now (i:=5) rfl).sub (j:=0) (n:=1) (c:=[vA0]) rfl) (SP.nil SAj.sl)) rfl (fun w' hw'=>(E.fieldAddr tf70_0 kAf)) ?_
     refine FB.p (i:=1) (bs 10 3) 0 [7,8,9] rfl (SP.on ((SAj.box_now (i:=5) rfl).sub (j:=0) (n:=1) (c:=[vA0]) rfl) (SP.nil SAj.sl)) rfl rfl (fun w' hw'=>(E.load rfl (zae Tryz.isAgg22 hw' rfl))) ?_
     refine FB.t (i:=2) (bs 10 7) rfl (SP.on ((SAj.box_now (i:=5) rfl).sub (j:=0) (n:=1) (c:=[vA0]) rfl) (SP.nil SAj.sl)) rfl (fun w' hw'=>(E.move kAg)) ?_
     refine FB.t (i:=3) (bs 10 15) rfl (SP.on ((SAj.box_now (i:=5) rfl).sub (j:=0) (n:=1) (c:=[vA0]) rfl) (SP.nil SAj.sl)) rfl (fun w' hw'=>(E.move kAb)) ?_
     obtain ⟨pAk,csAl,ptAm,lAn,atAo,relAp⟩:=h83.at (zak hxBK)
     obtain ⟨vAq,rfl,hAr⟩:=eL_open relAp
     refine FB.t (i:=4) (bs 10 31) rfl (SP.on ((SAj.box_now (i:=5) rfl).sub (j:=0) (n:=1) (c:=[vA0]) rfl) (SP.nil SAj.sl)) rfl (fun w' hw'=>(E.indexAddr te22 rfl rfl ptAm)) ?_
     refine FB.t (i:=5) (bs 10 63) rfl (SP.on ((SAj.box_now (i:=5) rfl).sub (j:=0) (n:=1) (c:=[vA0]) rfl) (SP.nil SAj.sl)) rfl (fun w' hw'=>(E.load rfl (zae Tryz.isAgg45 ((atAo.mono iA8).now hw') rfl))) ?_
     refine FB.all1 (i:=6) (by kernel_rfl) ?_
     ·
      obtain ⟨vAs,wAt,runAu,SAv⟩:=SAj.buildSlice (P:=Tryz.prog) te22 [vAq] (parts:=#[(0,vAq)]) (cells:=[vAq]) rfl (zaH (zbs hAr.cells) zaw) (zaG hAr.cells zav) (zab hAr.one zad) (Nat.le_of_ble_eq_true rfl)
      have elsAw:Els HA6 (eL eI 1) 1 [vAq] [yBJ]:=(Els.snoc (H:=HA6) (E:=(eL eI 1)) (k:=1) (c:=[vAq]) (x:=yBJ) Els.nil rfl ⟨_,rfl,(hAr.mono iA8)⟩)
      refine FC.val (l':=(bs 10 127)) rfl (by kernel_rfl) rfl rfl rfl (E.buildSlice (B1 rfl) runAu) ?_
      refine ⟨(SP.on ((SAv.box_now (i:=6) rfl).sub (j:=0) (n:=1) (c:=[vA0]) rfl) (SP.nil SAv.sl)),?_⟩
      refine FB.all1 (i:=7) (by kernel_rfl) ?_
      ·
       obtain ⟨vAz,wAC,nAA,csAB,runAD,SBL,elsBM,ceBN⟩:=SAv.appendO (P:=Tryz.prog) te22 (i:=5) (j:=0) rfl elsA3 rfl elsAw hzAy
       have SBL:St Ha wa HA6 wAC [.row 45 1 vAs 1 [vAq],.row 3 1 v84 n85 cs86,.row 3 1 v88 n89 cs90,.row 3 1 v92 n93 cs94,.row 3 1 v96 n97 cs98,.row 45 1 vAz nAA csAB,.box b48 70 [vA0,v96,v92,v88,v84,vA4],.box b29 70 [(Value.slice none 0 0),(Value.slice none 0 0),(Value.slice none 0 0),(Value.slice none 0 0),(Value.slice none 0 0),Value.slice none 0 0],.row 3 1 (Value.slice none 0 0) 0 [],.row 3 1 (Value.slice none 0 0) 0 [],.row 3 1 (Value.slice none 0 0) 0 [],.row 3 1 (Value.slice none 0 0) 0 [],.row 45 1 (Value.slice none 0 0) 0 []]:=SBL
       have SBO:St Ha wa HA6 wAC [.row 3 1 v84 n85 cs86,.row 3 1 v88 n89 cs90,.row 3 1 v92 n93 cs94,.row 3 1 v96 n97 cs98,.row 45 1 vAz nAA csAB,.box b48 70 [vA0,v96,v92,v88,v84,vA4],.box b29 70 [(Value.slice none 0 0),(Value.slice none 0 0),(Value.slice none 0 0),(Value.slice none 0 0),(Value.slice none 0 0),Value.slice none 0 0],.row 3 1 (Value.slice none 0 0) 0 [],.row 3 1 (Value.slice none 0 0) 0 [],.row 3 1 (Value.slice none 0 0) 0 [],.row 3 1 (Value.slice none 0 0) 0 [],.row 45 1 (Value.slice none 0 0) 0 []]:=SBL.drop 0
       refine FC.val (l':=(bs 10 255)) rfl (by kernel_rfl) rfl rfl rfl (E.append rfl rfl runAD) ?_
       refine ⟨(SP.on ((SBO.box_now (i:=5) rfl).sub (j:=0) (n:=1) (c:=[vA0]) rfl) (SP.nil SBO.sl)),?_⟩
       refine FB.t (i:=8) (bs 10 511) rfl (SP.on ((SBO.box_now (i:=5) rfl).sub (j:=0) (n:=1) (c:=[vA0]) rfl) (SP.nil SBO.sl)) rfl (fun w' hw'=>(E.fieldAddr tf70_0 kAf)) ?_
       refine FB.all1 (i:=9) (by kernel_rfl) ?_
       ·
        obtain ⟨wBP,runBQ,SBR⟩:=SBO.store (P:=Tryz.prog) (t:=22) (i:=5) (j:=0) (cs':=[vAz,v96,v92,v88,v84,vA4]) (l':=[.row 3 1 v84 n85 cs86,.row 3 1 v88 n89 cs90,.row 3 1 v92 n93 cs94,.row 3 1 v96 n97 cs98,.row 45 1 vAz nAA csAB,.box b48 70 [vAz,v96,v92,v88,v84,vA4],.box b29 70 [(Value.slice none 0 0),(Value.slice none 0 0),(Value.slice none 0 0),(Value.slice none 0 0),(Value.slice none 0 0),Value.slice none 0 0],.row 3 1 (Value.slice none 0 0) 0 [],.row 3 1 (Value.slice none 0 0) 0 [],.row 3 1 (Value.slice none 0 0) 0 [],.row 3 1 (Value.slice none 0 0) 0 [],.row 45 1 (Value.slice none 0 0) 0 []]) (v:=vAz) (c:=[vAz]) rfl Tryz.sizeOf22 (Ln.cells (SBO.row_ln (i:=4) rfl)) rfl (zab (Ln.one (SBO.row_ln (i:=4) rfl)) zad) (Nat.le_of_ble_eq_true rfl) rfl rfl
        refine FC.act (l':=(bs 10 1023)) rfl (by kernel_rfl) rfl rfl (E.store rfl rfl runBQ) ?_
        refine ⟨(SP.o (SP.nil SBR.sl)),?_⟩
        exact FB.done (by kernel_rfl) ⟨_,_,_,_,_,SBR,(Inc.rfl _),elsBM,hA5,kAc,kAd,kAe,kAf,kAg,kAb⟩
    ·
     rintro fC2 wC1 ⟨HBY,vBS,nBT,csBU,vBW,SBZ,iC0,elsBV,hBX,kC3,kC4,kC5,kC6,kC7,kC8⟩
     refine FW.seq (FW.region ?_)
     refine FL.v (E.fieldAddr tf70_1 kC6) ?_
     refine FL.v (E.load rfl (zah Tryz.isAgg45 (SBZ.box_now (i:=5) rfl) rfl)) ?_
     obtain ⟨vC9,wCa,runCb,SCc,elsCd⟩:=SBZ.ints (P:=Tryz.prog) te45 (up wa.heap.size HBY) 1 [0]
     refine FL.v (E.buildSlice (B1 rfl) runCb) ?_
     obtain ⟨xsCe,hzCf,hp⟩:=bnd hp
     obtain ⟨vCg,wCj,nCh,csCi,runCk,SCl,elsCm,ceCn⟩:=SCc.appendO (P:=Tryz.prog) te45 (i:=4) (j:=0) rfl (els99.mono (zaf iC0)) rfl elsCd hzCf
     have SCl:St Ha wa HBY wCj [.row 3 1 vC9 1 (iC [0]),.row 3 1 v84 n85 cs86,.row 3 1 v88 n89 cs90,.row 3 1 v92 n93 cs94,.row 3 1 vCg nCh csCi,.row 45 1 vBS nBT csBU,.box b48 70 [vBS,v96,v92,v88,v84,vBW],.box b29 70 [(Value.slice none 0 0),(Value.slice none 0 0),(Value.slice none 0 0),(Value.slice none 0 0),(Value.slice none 0 0),Value.slice none 0 0],.row 3 1 (Value.slice none 0 0) 0 [],.row 3 1 (Value.slice none 0 0) 0 [],.row 3 1 (Value.slice none 0 0) 0 [],.row 3 1 (Value.slice none 0 0) 0 [],.row 45 1 (Value.slice none 0 0) 0 []]:=SCl
     have SCo:St Ha wa HBY wCj [.row 3 1 v84 n85 cs86,.row 3 1 v88 n89 cs90,.row 3 1 v92 n93 cs94,.row 3 1 vCg nCh csCi,.row 45 1 vBS nBT csBU,.box b48 70 [vBS,v96,v92,v88,v84,vBW],.box b29 70 [(Value.slice none 0 0),(Value.slice none 0 0),(Value.slice none 0 0),(Value.slice none 0 0),(Value.slice none 0 0),Value.slice none 0 0],.row 3 1 (Value.slice none 0 0) 0 [],.row 3 1 (Value.slice none 0 0) 0 [],.row 3 1 (Value.slice none 0 0) 0 [],.row 3 1 (Value.slice none 0 0) 0 [],.row 45 1 (Value.slice none 0 0) 0 []]:=SCl.drop 0
     refine FL.v (E.append rfl rfl runCk) ?_
     refine FL.v (E.fieldAddr tf70_1 kC6) ?_
     obtain ⟨wCp,runCq,SCr⟩:=SCo.store (P:=Tryz.prog) (t:=45) (i:=5) (j:=1) (cs':=[vBS,vCg,v92,v88,v84,vBW]) (l':=[.row 3 1 v84 n85 cs86,.row 3 1 v88 n89 cs90,.row 3 1 v92 n93 cs94,.row 3 1 vCg nCh csCi,.row 45 1 vBS nBT csBU,.box b48 70 [vBS,vCg,v92,v88,v84,vBW],.box b29 70 [(Value.slice none 0 0),(Value.slice none 0 0),(Value.slice none 0 0),(Value.slice none 0 0),(Value.slice none 0 0),Value.slice none 0 0],.row 3 1 (Value.slice none 0 0) 0 [],.row 3 1 (Value.slice none 0 0) 0 [],.row 3 1 (Value.slice none 0 0) 0 [],.row 3 1 (Value.slice none 0 0) 0 [],.row 45 1 (Value.slice none 0 0) 0 []]) (v:=vCg) (c:=[vCg]) rfl Tryz.sizeOf45 (Ln.cells (SCo.row_ln (i:=3) rfl)) rfl (zab (Ln.one (SCo.row_ln (i:=3) rfl)) zad) (Nat.le_of_ble_eq_true rfl) rfl rfl
     refine FL.act rfl rfl (E.store rfl rfl runCq) ?_
     refine FL.nil (FW.seq (FW.region ?_))
     refine FL.v (E.fieldAddr tf70_2 kC6) ?_
     refine FL.v (E.load rfl (zah Tryz.isAgg45 (SCr.box_now (i:=5) rfl) rfl)) ?_
     obtain ⟨vCs,wCt,runCu,SCv,elsCw⟩:=SCr.ints (P:=Tryz.prog) te45 (up wa.heap.size HBY) 1 [(-1)]
     refine FL.v (E.buildSlice (B1 rfl) runCu) ?_
     obtain ⟨xsCx,hzCy,hp⟩:=bnd hp
     obtain ⟨vCz,wCC,nCA,csCB,runCD,SCE,elsCF,ceCG⟩:=SCv.appendO (P:=Tryz.prog) te45 (i:=3) (j:=0) rfl (els95.mono (zaf iC0)) rfl elsCw hzCy
     have SCE:St Ha wa HBY wCC [.row 3 1 vCs 1 (iC [(-1)]),.row 3 1 v84 n85 cs86,.row 3 1 v88 n89 cs90,.row 3 1 vCz nCA csCB,.row 3 1 vCg nCh csCi,.row 45 1 vBS nBT csBU,.box b48 70 [vBS,vCg,v92,v88,v84,vBW],.box b29 70 [(Value.slice none 0 0),(Value.slice none 0 0),(Value.slice none 0 0),(Value.slice none 0 0),(Value.slice none 0 0),Value.slice none 0 0],.row 3 1 (Value.slice none 0 0) 0 [],.row 3 1 (Value.slice none 0 0) 0 [],.row 3 1 (Value.slice none 0 0) 0 [],.row 3 1 (Value.slice none 0 0) 0 [],.row 45 1 (Value.slice none 0 0) 0 []]:=SCE
     have SCH:St Ha wa HBY wCC [.row 3 1 v84 n85 cs86,.row 3 1 v88 n89 cs90,.row 3 1 vCz nCA csCB,.row 3 1 vCg nCh csCi,.row 45 1 vBS nBT csBU,.box b48 70 [vBS,vCg,v92,v88,v84,vBW],.box b29 70 [(Value.slice none 0 0),(Value.slice none 0 0),(Value.slice none 0 0),(Value.slice none 0 0),(Value.slice none 0 0),Value.slice none 0 0],.row 3 1 (Value.slice none 0 0) 0 [],.row 3 1 (Value.slice none 0 0) 0 [],.row 3 1 (Value.slice none 0 0) 0 [],.row 3 1 (Value.slice none 0 0) 0 [],.row 45 1 (Value.slice none 0 0) 0 []]:=SCE.drop 0
     refine FL.v (E.append rfl rfl runCD) ?_
     refine FL.v (E.fieldAddr tf70_2 kC6) ?_
     obtain ⟨wCI,runCJ,SCK⟩:=SCH.store (P:=Tryz.prog) (t:=45) (i:=5) (j:=2) (cs':=[vBS,vCg,vCz,v88,v84,vBW]) (l':=[.row 3 1 v84 n85 cs86,.row 3 1 v88 n89 cs90,.row 3 1 vCz nCA csCB,.row 3 1 vCg nCh csCi,.row 45 1 vBS nBT csBU,.box b48 70 [vBS,vCg,vCz,v88,v84,vBW],.box b29 70 [(Value.slice none 0 0),(Value.slice none 0 0),(Value.slice none 0 0),(Value.slice none 0 0),(Value.slice none 0 0),Value.slice none 0 0],.row 3 1 (Value.slice none 0 0) 0 [],.row 3 1 (Value.slice none 0 0) 0 [],.row 3 1 (Value.slice none 0 0) 0 [],.row 3 1 (Value.slice none 0 0) 0 [],.row 45 1 (Value.slice none 0 0) 0 []]) (v:=vCz) (c:=[vCz]) rfl Tryz.sizeOf45 (Ln.cells (SCH.row_ln (i:=2) rfl)) rfl (zab (Ln.one (SCH.row_ln (i:=2) rfl)) zad) (Nat.le_of_ble_eq_true rfl) rfl rfl
     refine FL.act rfl rfl (E.store rfl rfl runCJ) ?_
     refine FL.nil (FW.seq (FW.region ?_))
     refine FL.v (E.fieldAddr tf70_3 kC6) ?_
     refine FL.v (E.load rfl (zah Tryz.isAgg45 (SCK.box_now (i:=5) rfl) rfl)) ?_
     obtain ⟨vCL,wCM,runCN,SCO,elsCP⟩:=SCK.ints (P:=Tryz.prog) te45 (up wa.heap.size HBY) 1 [(-1)]
     refine FL.v (E.buildSlice (B1 rfl) runCN) ?_
     obtain ⟨xsCQ,hzCR,hp⟩:=bnd hp
     obtain ⟨vCS,wCV,nCT,csCU,runCW,SCX,elsCY,ceCZ⟩:=SCO.appendO (P:=Tryz.prog) te45 (i:=2) (j:=0) rfl (els91.mono (zaf iC0)) rfl elsCP hzCR
     have SCX:St Ha wa HBY wCV [.row 3 1 vCL 1 (iC [(-1)]),.row 3 1 v84 n85 cs86,.row 3 1 vCS nCT csCU,.row 3 1 vCz nCA csCB,.row 3 1 vCg nCh csCi,.row 45 1 vBS nBT csBU,.box b48 70 [vBS,vCg,vCz,v88,v84,vBW],.box b29 70 [(Value.slice none 0 0),(Value.slice none 0 0),(Value.slice none 0 0),(Value.slice none 0 0),(Value.slice none 0 0),Value.slice none 0 0],.row 3 1 (Value.slice none 0 0) 0 [],.row 3 1 (Value.slice none 0 0) 0 [],.row 3 1 (Value.slice none 0 0) 0 [],.row 3 1 (Value.slice none 0 0) 0 [],.row 45 1 (Value.slice none 0 0) 0 []]:=SCX
     have SD0:St Ha wa HBY wCV [.row 3 1 v84 n85 cs86,.row 3 1 vCS nCT csCU,.row 3 1 vCz nCA csCB,.row 3 1 vCg nCh csCi,.row 45 1 vBS nBT csBU,.box b48 70 [vBS,vCg,vCz,v88,v84,vBW],.box b29 70 [(Value.slice none 0 0),(Value.slice none 0 0),(Value.slice none 0 0),(Value.slice none 0 0),(Value.slice none 0 0),Value.slice none 0 0],.row 3 1 (Value.slice none 0 0) 0 [],.row 3 1 (Value.slice none 0 0) 0 [],.row 3 1 (Value.slice none 0 0) 0 [],.row 3 1 (Value.slice none 0 0) 0 [],.row 45 1 (Value.slice none 0 0) 0 []]:=SCX.drop 0
     refine FL.v (E.append rfl rfl runCW) ?_
     refine FL.v (E.fieldAddr tf70_3 kC6) ?_
     obtain ⟨wD1,runD2,SD3⟩:=SD0.store (P:=Tryz.prog) (t:=45) (i:=5) (j:=3) (cs':=[vBS,vCg,vCz,vCS,v84,vBW]) (l':=[.row 3 1 v84 n85 cs86,.row 3 1 vCS nCT csCU,.row 3 1 vCz nCA csCB,.row 3 1 vCg nCh csCi,.row 45 1 vBS nBT csBU,.box b48 70 [vBS,vCg,vCz,vCS,v84,vBW],.box b29 70 [(Value.slice none 0 0),(Value.slice none 0 0),(Value.slice none 0 0),(Value.slice none 0 0),(Value.slice none 0 0),Value.slice none 0 0],.row 3 1 (Value.slice none 0 0) 0 [],.row 3 1 (Value.slice none 0 0) 0 [],.row 3 1 (Value.slice none 0 0) 0 [],.row 3 1 (Value.slice none 0 0) 0 [],.row 45 1 (Value.slice none 0 0) 0 []]) (v:=vCS) (c:=[vCS]) rfl Tryz.sizeOf45 (Ln.cells (SD0.row_ln (i:=1) rfl)) rfl (zab (Ln.one (SD0.row_ln (i:=1) rfl)) zad) (Nat.le_of_ble_eq_true rfl) rfl rfl
     refine FL.act rfl rfl (E.store rfl rfl runD2) ?_
     refine FL.nil (FW.region ?_)
     refine FL.v (E.fieldAddr tf70_4 kC6) ?_
     refine FL.v (E.load rfl (zah Tryz.isAgg45 (SD3.box_now (i:=5) rfl) rfl)) ?_
     obtain ⟨vD4,wD5,runD6,SD7,elsD8⟩:=SD3.ints (P:=Tryz.prog) te45 (up wa.heap.size HBY) 1 [0]
     refine FL.v (E.buildSlice (B1 rfl) runD6) ?_
     obtain ⟨xsD9,hzDa,hp⟩:=bnd hp
     obtain ⟨vDb,wDe,nDc,csDd,runDf,SDg,elsDh,ceDi⟩:=SD7.appendO (P:=Tryz.prog) te45 (i:=1) (j:=0) rfl (els87.mono (zaf iC0)) rfl elsD8 hzDa
     have SDg:St Ha wa HBY wDe [.row 3 1 vD4 1 (iC [0]),.row 3 1 vDb nDc csDd,.row 3 1 vCS nCT csCU,.row 3 1 vCz nCA csCB,.row 3 1 vCg nCh csCi,.row 45 1 vBS nBT csBU,.box b48 70 [vBS,vCg,vCz,vCS,v84,vBW],.box b29 70 [(Value.slice none 0 0),(Value.slice none 0 0),(Value.slice none 0 0),(Value.slice none 0 0),(Value.slice none 0 0),Value.slice none 0 0],.row 3 1 (Value.slice none 0 0) 0 [],.row 3 1 (Value.slice none 0 0) 0 [],.row 3 1 (Value.slice none 0 0) 0 [],.row 3 1 (Value.slice none 0 0) 0 [],.row 45 1 (Value.slice none 0 0) 0 []]:=SDg
     have SDj:St Ha wa HBY wDe [.row 3 1 vDb nDc csDd,.row 3 1 vCS nCT csCU,.row 3 1 vCz nCA csCB,.row 3 1 vCg nCh csCi,.row 45 1 vBS nBT csBU,.box b48 70 [vBS,vCg,vCz,vCS,v84,vBW],.box b29 70 [(Value.slice none 0 0),(Value.slice none 0 0),(Value.slice none 0 0),(Value.slice none 0 0),(Value.slice none 0 0),Value.slice none 0 0],.row 3 1 (Value.slice none 0 0) 0 [],.row 3 1 (Value.slice none 0 0) 0 [],.row 3 1 (Value.slice none 0 0) 0 [],.row 3 1 (Value.slice none 0 0) 0 [],.row 45 1 (Value.slice none 0 0) 0 []]:=SDg.drop 0
     refine FL.v (E.append rfl rfl runDf) ?_
     refine FL.v (E.fieldAddr tf70_4 kC6) ?_
     obtain ⟨wDk,runDl,SDm⟩:=SDj.store (P:=Tryz.prog) (t:=45) (i:=5) (j:=4) (cs':=[vBS,vCg,vCz,vCS,vDb,vBW]) (l':=[.row 3 1 vDb nDc csDd,.row 3 1 vCS nCT csCU,.row 3 1 vCz nCA csCB,.row 3 1 vCg nCh csCi,.row 45 1 vBS nBT csBU,.box b48 70 [vBS,vCg,vCz,vCS,vDb,vBW],.box b29 70 [(Value.slice none 0 0),(Value.slice none 0 0),(Value.slice none 0 0),(Value.slice none 0 0),(Value.slice none 0 0),Value.slice none 0 0],.row 3 1 (Value.slice none 0 0) 0 [],.row 3 1 (Value.slice none 0 0) 0 [],.row 3 1 (Value.slice none 0 0) 0 [],.row 3 1 (Value.slice none 0 0) 0 [],.row 45 1 (Value.slice none 0 0) 0 []]) (v:=vDb) (c:=[vDb]) rfl Tryz.sizeOf45 (Ln.cells (SDj.row_ln (i:=0) rfl)) rfl (zab (Ln.one (SDj.row_ln (i:=0) rfl)) zad) (Nat.le_of_ble_eq_true rfl) rfl rfl
     refine FL.act rfl rfl (E.store rfl rfl runDl) ?_
     refine FL.nil (FW.region ?_)
     refine FL.v (E.move kC8) ?_
     refine FL.v (E.add rfl rfl) ?_
     refine FL.v (E.assign (v:=Value.int .i64 (wr (((iBK:Nat):Int) + 1))) rfl) ?_
     refine FL.nil ?_
     obtain rfl:=Option.some.inj hp
     exact ⟨rfl,⟨_,_,_,_,_,_,_,_,_,_,_,_,_,_,_,_,_,SDm,(iA8.tr iC0),elsDh,elsCY,elsCF,elsCm,elsBV,hBX,(zam rfl (zal hxBK) (h83.mono (iA8.tr iC0)).le),kC3,kC4,kC5,kC6,kC7⟩⟩
   ·
    clear hp hq
    rintro sBK fFq wFp ⟨HFm,v84,n85,cs86,v88,n89,cs90,v92,n93,cs94,v96,n97,cs98,vA0,nA1,csA2,vA4,SFn,iFo,els87,els91,els95,els99,elsA3,hA5,kFr,kFs,kFt,kFu,kFv,kFw⟩
    refine FW.seq (FW.seq (FW.region ?_))
    refine FL.v (E.move kFr) ?_
    refine FL.v (E.move kFw) ?_
    refine FL.v (E.lenP te22 rfl h83) ?_
    refine FL.v (E.lss rfl rfl) ?_
    refine FL.nil ?_
    refine FW.condF rfl zar ?_
    refine FW.exit ?_
    exact ⟨nofun,rfl,⟨_,_,_,_,_,_,_,_,_,_,_,_,_,_,_,_,_,SFn,iFo,els87,els91,els95,els99,elsA3,hA5,kFs,kFt,kFu,kFv,kFw⟩⟩
   ·
    clear hq
    intro e fDs wDr hD
    rcases qBK with sBK|xBK
    ·
     obtain ⟨rfl,hD⟩:=hD
     obtain ⟨HDo,v84,n85,cs86,v88,n89,cs90,v92,n93,cs94,v96,n97,cs98,vA0,nA1,csA2,vA4,SDp,iDq,els87,els91,els95,els99,elsA3,hA5,kDt,kDu,kDv,kDw,kDx⟩:=hD
     replace hp:=el_go hp
     refine FW.seq (FW.region ?_)
     refine FL.v (E.move kDx) ?_
     refine FL.v (E.fieldAddr za8 kDw) ?_
     obtain ⟨wDy,runDz,SDA⟩:=SDp.store (P:=Tryz.prog) (t:=22) (i:=5) (j:=5) (cs':=[vA0,v96,v92,v88,v84,v82]) (l':=[.row 3 1 v84 n85 cs86,.row 3 1 v88 n89 cs90,.row 3 1 v92 n93 cs94,.row 3 1 v96 n97 cs98,.row 45 1 vA0 nA1 csA2,.box b48 70 [vA0,v96,v92,v88,v84,v82],.box b29 70 [(Value.slice none 0 0),(Value.slice none 0 0),(Value.slice none 0 0),(Value.slice none 0 0),(Value.slice none 0 0),Value.slice none 0 0],.row 3 1 (Value.slice none 0 0) 0 [],.row 3 1 (Value.slice none 0 0) 0 [],.row 3 1 (Value.slice none 0 0) 0 [],.row 3 1 (Value.slice none 0 0) 0 [],.row 45 1 (Value.slice none 0 0) 0 []]) (v:=v82) (c:=[v82]) rfl Tryz.sizeOf22 h83.cells rfl (zab h83.one zad) (Nat.le_of_ble_eq_true rfl) rfl rfl
     refine FL.act rfl rfl (E.store rfl rfl runDz) ?_
     refine FL.nil (FW.seq (FW.seq (FW.region ?_)))
     refine FL.v (E.assign (v:=Value.int .i64 1) rfl) ?_
     refine FL.v (E.assign (v:=Value.bool true) rfl) ?_
     refine FL.nil ?_
     obtain ⟨qDB,hq,hp⟩:=bndR hp
     refine FW.block ?_
     refine FW.mono (FW.iter (S:=((List Int)×(List Int)×(List Int)×(List Int)×(List (List Int))×(List (List Int))×Int×Bool)) (X:=Empty) (fun (sDB:((List Int)×(List Int)×(List Int)×(List Int)×(List (List Int))×(List (List Int))×Int×Bool)) f w=>∃ H:GH,∃ vDC:Value,∃ nDD:Nat,∃ csDE:List Value,∃ vDG:Value,∃ nDH:Nat,∃ csDI:List Value,∃ vDK:Value,∃ nDL:Nat,∃ csDM:List Value,∃ vDO:Value,∃ nDP:Nat,∃ csDQ:List Value,∃ vDS:Value,∃ nDT:Nat,∃ csDU:List Value,∃ vDW:Value,St Ha wa H w [.row 3 1 vDC nDD csDE,.row 3 1 vDG nDH csDI,.row 3 1 vDK nDL csDM,.row 3 1 vDO nDP csDQ,.row 45 1 vDS nDT csDU,.box b48 70 [vDS,vDO,vDK,vDG,vDC,vDW],.box b29 70 [(Value.slice none 0 0),(Value.slice none 0 0),(Value.slice none 0 0),(Value.slice none 0 0),(Value.slice none 0 0),Value.slice none 0 0],.row 3 1 (Value.slice none 0 0) 0 [],.row 3 1 (Value.slice none 0 0) 0 [],.row 3 1 (Value.slice none 0 0) 0 [],.row 3 1 (Value.slice none 0 0) 0 [],.row 45 1 (Value.slice none 0 0) 0 []]∧Inc HDo H∧Els (up wa.heap.size H) eI 1 csDE sDB.1∧Els (up wa.heap.size H) eI 1 csDI sDB.2.1∧Els (up wa.heap.size H) eI 1 csDM sDB.2.2.1∧Els (up wa.heap.size H) eI 1 csDQ sDB.2.2.2.1∧Els H (eL eI 1) 1 csDU sDB.2.2.2.2.1∧RSl H (eL eI 1) 1 vDW sDB.2.2.2.2.2.1∧f 1=Value.int .i64 a1∧f 2=Value.pointer (some ⟨b21,0,none⟩)∧f 4=Value.pointer (some (⟨b29,0,none⟩:Addr))∧f 5=Value.pointer (some (⟨b48,0,none⟩:Addr))∧f 9=Value.int .i64 sDB.2.2.2.2.2.2.1∧f 10=Value.bool sDB.2.2.2.2.2.2.2) (fun (q:Rs ((List Int)×(List Int)×(List Int)×(List Int)×(List (List Int))×(List (List Int))×Int×Bool) Empty) e f w=>match q with|.go sDB=>e=Exit.exit 4∧(∃ H:GH,∃ vDC:Value,∃ nDD:Nat,∃ csDE:List Value,∃ vDG:Value,∃ nDH:Nat,∃ csDI:List Value,∃ vDK:Value,∃ nDL:Nat,∃ csDM:List Value,∃ vDO:Value,∃ nDP:Nat,∃ csDQ:List Value,∃ vDS:Value,∃ nDT:Nat,∃ csDU:List Value,∃ vDW:Value,St Ha wa H w [.row 3 1 vDC nDD csDE,.row 3 1 vDG nDH csDI,.row 3 1 vDK nDL csDM,.row 3 1 vDO nDP csDQ,.row 45 1 vDS nDT csDU,.box b48 70 [vDS,vDO,vDK,vDG,vDC,vDW],.box b29 70 [(Value.slice none 0 0),(Value.slice none 0 0),(Value.slice none 0 0),(Value.slice none 0 0),(Value.slice none 0 0),Value.slice none 0 0],.row 3 1 (Value.slice none 0 0) 0 [],.row 3 1 (Value.slice none 0 0) 0 [],.row 3 1 (Value.slice none 0 0) 0 [],.row 3 1 (Value.slice none 0 0) 0 [],.row 45 1 (Value.slice none 0 0) 0 []]∧Inc HDo H∧Els (up wa.heap.size H) eI 1 csDE sDB.1∧Els (up wa.heap.size H) eI 1 csDI sDB.2.1∧Els (up wa.heap.size H) eI 1 csDM sDB.2.2.1∧Els (up wa.heap.size H) eI 1 csDQ sDB.2.2.2.1∧Els H (eL eI 1) 1 csDU sDB.2.2.2.2.1∧RSl H (eL eI 1) 1 vDW sDB.2.2.2.2.2.1∧f 4=Value.pointer (some (⟨b29,0,none⟩:Addr))∧f 5=Value.pointer (some (⟨b48,0,none⟩:Addr)))|.rt x=>x.elim) hq ⟨_,_,_,_,_,_,_,_,_,_,_,_,_,_,_,_,_,SDA,(Inc.rfl _),els87,els91,els95,els99,elsA3,(h83.mono iDq),kDt,kDu,kDv,kDw,rfl,rfl⟩ ?_) ?_
     ·
      clear hp hq
      rintro sDB fE2 wE1 ⟨HDY,vDC,nDD,csDE,vDG,nDH,csDI,vDK,nDL,csDM,vDO,nDP,csDQ,vDS,nDT,csDU,vDW,SDZ,iE0,elsDF,elsDJ,elsDN,elsDR,elsDV,hDX,kE3,kE4,kE5,kE6,kE7,kE8⟩ oEJ hp
      refine FW.seq (FW.seq (FW.region ?_))
      refine FL.v (E.move kE8) ?_
      refine FL.nil ?_
      rcases ifB hp with ⟨cE9,hp⟩|⟨cE9,hp⟩
      ·
       refine FW.condT rfl cE9 ?_
       refine FW.skip (FW.seq (FW.block (FW.region ?_)))
       refine FL.v (E.fieldAddr za0 kE4) ?_
       refine FL.v (E.load rfl (zah Tryz.isAgg3 ((at28.mono (((i77.tr iBB).tr iDq).tr iE0)).now SDZ.sl) rfl)) ?_
       refine FL.v (E.load kE6 (zax Tryz.isAgg70 Tryz.sizeOf70 (SDZ.box_now (i:=5) rfl) rfl)) ?_
       refine FL.v (E.move kE3) ?_
       refine FL.v (E.move kE7) ?_
       obtain ⟨rEa,hrEb,hp⟩:=bnd hp
       have SEc:St Ha wa HDY wE1 [.row 3 1 vDG nDH csDI,.row 3 1 vDC nDD csDE,.row 3 1 vDK nDL csDM,.row 3 1 vDO nDP csDQ,.row 45 1 vDS nDT csDU,.box b48 70 [vDS,vDO,vDK,vDG,vDC,vDW],.box b29 70 [(Value.slice none 0 0),(Value.slice none 0 0),(Value.slice none 0 0),(Value.slice none 0 0),(Value.slice none 0 0),Value.slice none 0 0],.row 3 1 (Value.slice none 0 0) 0 [],.row 3 1 (Value.slice none 0 0) 0 [],.row 3 1 (Value.slice none 0 0) 0 [],.row 3 1 (Value.slice none 0 0) 0 [],.row 45 1 (Value.slice none 0 0) 0 []]:=SDZ.front 1 rfl rfl
       have SEd:St Ha wa HDY wE1 [.row 3 1 vDK nDL csDM,.row 3 1 vDG nDH csDI,.row 3 1 vDC nDD csDE,.row 3 1 vDO nDP csDQ,.row 45 1 vDS nDT csDU,.box b48 70 [vDS,vDO,vDK,vDG,vDC,vDW],.box b29 70 [(Value.slice none 0 0),(Value.slice none 0 0),(Value.slice none 0 0),(Value.slice none 0 0),(Value.slice none 0 0),Value.slice none 0 0],.row 3 1 (Value.slice none 0 0) 0 [],.row 3 1 (Value.slice none 0 0) 0 [],.row 3 1 (Value.slice none 0 0) 0 [],.row 3 1 (Value.slice none 0 0) 0 [],.row 45 1 (Value.slice none 0 0) 0 []]:=SEc.front 2 rfl rfl
       have SEe:St Ha wa HDY wE1 [.row 3 1 vDO nDP csDQ,.row 3 1 vDK nDL csDM,.row 3 1 vDG nDH csDI,.row 3 1 vDC nDD csDE,.row 45 1 vDS nDT csDU,.box b48 70 [vDS,vDO,vDK,vDG,vDC,vDW],.box b29 70 [(Value.slice none 0 0),(Value.slice none 0 0),(Value.slice none 0 0),(Value.slice none 0 0),(Value.slice none 0 0),Value.slice none 0 0],.row 3 1 (Value.slice none 0 0) 0 [],.row 3 1 (Value.slice none 0 0) 0 [],.row 3 1 (Value.slice none 0 0) 0 [],.row 3 1 (Value.slice none 0 0) 0 [],.row 45 1 (Value.slice none 0 0) 0 []]:=SEd.front 3 rfl rfl
       have SEf:St Ha wa HDY wE1 [.row 45 1 vDS nDT csDU,.row 3 1 vDO nDP csDQ,.row 3 1 vDK nDL csDM,.row 3 1 vDG nDH csDI,.row 3 1 vDC nDD csDE,.box b48 70 [vDS,vDO,vDK,vDG,vDC,vDW],.box b29 70 [(Value.slice none 0 0),(Value.slice none 0 0),(Value.slice none 0 0),(Value.slice none 0 0),(Value.slice none 0 0),Value.slice none 0 0],.row 3 1 (Value.slice none 0 0) 0 [],.row 3 1 (Value.slice none 0 0) 0 [],.row 3 1 (Value.slice none 0 0) 0 [],.row 3 1 (Value.slice none 0 0) 0 [],.row 45 1 (Value.slice none 0 0) 0 []]:=SEe.front 4 rfl rfl
       refine FL.call rfl rfl rfl (E.call Tryz.call67 (A4 rfl rfl rfl rfl)) (w_spec_l10Round (L:=[.box b48 70 [vDS,vDO,vDK,vDG,vDC,vDW],.box b29 70 [(Value.slice none 0 0),(Value.slice none 0 0),(Value.slice none 0 0),(Value.slice none 0 0),(Value.slice none 0 0),Value.slice none 0 0],.row 3 1 (Value.slice none 0 0) 0 [],.row 3 1 (Value.slice none 0 0) 0 [],.row 3 1 (Value.slice none 0 0) 0 [],.row 3 1 (Value.slice none 0 0) 0 [],.row 45 1 (Value.slice none 0 0) 0 []]) SEf a0.vars (a1:=(zaA.mk sDB.2.2.2.2.1 sDB.2.2.2.1 sDB.2.2.1 sDB.2.1 sDB.1 sDB.2.2.2.2.2.1)) elsDV elsDR elsDN elsDJ elsDF hDX a1 sDB.2.2.2.2.2.2.1 hrEb) ?_
       rintro e wEh ⟨HEg,vEk,nEl,csEm,vEo,nEp,csEq,vEs,nEt,csEu,vEw,nEx,csEy,vEA,nEB,csEC,vEE,rfl,⟨SEi,iEj⟩,elsEn,elsEr,elsEv,elsEz,elsED,hEF⟩
       refine ⟨_,rfl,?_⟩
       have SEi:St Ha wa HEg wEh [.row 45 1 vEk nEl csEm,.row 3 1 vEo nEp csEq,.row 3 1 vEs nEt csEu,.row 3 1 vEw nEx csEy,.row 3 1 vEA nEB csEC,.box b48 70 [vDS,vDO,vDK,vDG,vDC,vDW],.box b29 70 [(Value.slice none 0 0),(Value.slice none 0 0),(Value.slice none 0 0),(Value.slice none 0 0),(Value.slice none 0 0),Value.slice none 0 0],.row 3 1 (Value.slice none 0 0) 0 [],.row 3 1 (Value.slice none 0 0) 0 [],.row 3 1 (Value.slice none 0 0) 0 [],.row 3 1 (Value.slice none 0 0) 0 [],.row 45 1 (Value.slice none 0 0) 0 []]:=SEi
       refine FL.v (E.move (v:=Value.tuple #[Value.agg #[vEk,vEo,vEs,vEw,vEA,vEE],Value.bool rEa.2]) rfl) ?_
       refine FL.v (E.extract (i:=0) rfl rfl) ?_
       refine FL.v (E.extract (i:=1) rfl rfl) ?_
       obtain ⟨wEG,runEH,SEI⟩:=SEi.store0 (P:=Tryz.prog) (t:=70) (i:=5) (cs':=[vEk,vEo,vEs,vEw,vEA,vEE]) (l':=[.row 45 1 vEk nEl csEm,.row 3 1 vEo nEp csEq,.row 3 1 vEs nEt csEu,.row 3 1 vEw nEx csEy,.row 3 1 vEA nEB csEC,.box b48 70 [vEk,vEo,vEs,vEw,vEA,vEE],.box b29 70 [(Value.slice none 0 0),(Value.slice none 0 0),(Value.slice none 0 0),(Value.slice none 0 0),(Value.slice none 0 0),Value.slice none 0 0],.row 3 1 (Value.slice none 0 0) 0 [],.row 3 1 (Value.slice none 0 0) 0 [],.row 3 1 (Value.slice none 0 0) 0 [],.row 3 1 (Value.slice none 0 0) 0 [],.row 45 1 (Value.slice none 0 0) 0 []]) (v:=Value.agg #[vEk,vEo,vEs,vEw,vEA,vEE]) (c:=[vEk,vEo,vEs,vEw,vEA,vEE]) rfl Tryz.sizeOf70 rfl rfl (zab (Ln.one (SEi.row_ln (i:=0) rfl)) (zab (Ln.one (SEi.row_ln (i:=1) rfl)) (zab (Ln.one (SEi.row_ln (i:=2) rfl)) (zab (Ln.one (SEi.row_ln (i:=3) rfl)) (zab (Ln.one (SEi.row_ln (i:=4) rfl)) (zab hEF.one zad)))))) (Nat.le_of_ble_eq_true rfl) rfl rfl
       refine FL.act rfl rfl (E.store kE6 rfl runEH) ?_
       refine FL.v (E.assign (v:=Value.bool rEa.2) rfl) ?_
       refine FL.nil (FW.region ?_)
       refine FL.v (E.move kE7) ?_
       refine FL.v (E.add rfl rfl) ?_
       refine FL.v (E.assign (v:=Value.int .i64 (wr (sDB.2.2.2.2.2.2.1 + 1))) rfl) ?_
       refine FL.nil ?_
       obtain rfl:=Option.some.inj hp
       exact ⟨rfl,⟨_,_,_,_,_,_,_,_,_,_,_,_,_,_,_,_,_,(SEI.sel [4,3,2,1,0,5,6,7,8,9,10,11] (by decide) rfl),(iE0.tr iEj),elsED,elsEz,elsEv,elsEr,elsEn,hEF,kE3,kE4,kE5,kE6,rfl,rfl⟩⟩
      ·
       refine FW.condF rfl cE9 ?_
       refine FW.exit ?_
       obtain rfl:=Option.some.inj hp
       exact ⟨nofun,rfl,⟨_,_,_,_,_,_,_,_,_,_,_,_,_,_,_,_,_,SDZ,iE0,elsDF,elsDJ,elsDN,elsDR,elsDV,hDX,kE5,kE6⟩⟩
     ·
      clear hq
      intro e fEO wEN hD
      rcases qDB with sDB|xDB
      ·
       obtain ⟨rfl,hD⟩:=hD
       obtain ⟨HEK,vDC,nDD,csDE,vDG,nDH,csDI,vDK,nDL,csDM,vDO,nDP,csDQ,vDS,nDT,csDU,vDW,SEL,iEM,elsDF,elsDJ,elsDN,elsDR,elsDV,hDX,kEP,kEQ⟩:=hD
       replace hp:=el_go hp
       refine FW.seq (FW.region ?_)
       refine FL.v (E.load kEQ (zax Tryz.isAgg70 Tryz.sizeOf70 (SEL.box_now (i:=5) rfl) rfl)) ?_
       obtain ⟨wER,runES,SET⟩:=SEL.store0 (P:=Tryz.prog) (t:=70) (i:=6) (cs':=[vDS,vDO,vDK,vDG,vDC,vDW]) (l':=[.row 3 1 vDC nDD csDE,.row 3 1 vDG nDH csDI,.row 3 1 vDK nDL csDM,.row 3 1 vDO nDP csDQ,.row 45 1 vDS nDT csDU,.box b48 70 [vDS,vDO,vDK,vDG,vDC,vDW],.box b29 70 [vDS,vDO,vDK,vDG,vDC,vDW],.row 3 1 (Value.slice none 0 0) 0 [],.row 3 1 (Value.slice none 0 0) 0 [],.row 3 1 (Value.slice none 0 0) 0 [],.row 3 1 (Value.slice none 0 0) 0 [],.row 45 1 (Value.slice none 0 0) 0 []]) (v:=Value.agg #[vDS,vDO,vDK,vDG,vDC,vDW]) (c:=[vDS,vDO,vDK,vDG,vDC,vDW]) rfl Tryz.sizeOf70 rfl rfl (zab (Ln.one (SEL.row_ln (i:=4) rfl)) (zab (Ln.one (SEL.row_ln (i:=3) rfl)) (zab (Ln.one (SEL.row_ln (i:=2) rfl)) (zab (Ln.one (SEL.row_ln (i:=1) rfl)) (zab (Ln.one (SEL.row_ln (i:=0) rfl)) (zab hDX.one zad)))))) (Nat.le_of_ble_eq_true rfl) rfl rfl
       refine FL.act rfl rfl (E.store kEP rfl runES) ?_
       obtain ⟨HEU,SEV,iEW,hEX⟩:=SET.sealRow (i:=4) (l':=[.row 3 1 vDC nDD csDE,.row 3 1 vDG nDH csDI,.row 3 1 vDK nDL csDM,.row 3 1 vDO nDP csDQ,.box b48 70 [vDS,vDO,vDK,vDG,vDC,vDW],.box b29 70 [vDS,vDO,vDK,vDG,vDC,vDW],.row 3 1 (Value.slice none 0 0) 0 [],.row 3 1 (Value.slice none 0 0) 0 [],.row 3 1 (Value.slice none 0 0) 0 [],.row 3 1 (Value.slice none 0 0) 0 [],.row 45 1 (Value.slice none 0 0) 0 []]) rfl elsDV (by decide) rfl
       obtain ⟨HEY,SEZ,iF0,hF1,nvF2⟩:=SEV.sealRowU (i:=3) (l':=[.row 3 1 vDC nDD csDE,.row 3 1 vDG nDH csDI,.row 3 1 vDK nDL csDM,.box b48 70 [vDS,vDO,vDK,vDG,vDC,vDW],.box b29 70 [vDS,vDO,vDK,vDG,vDC,vDW],.row 3 1 (Value.slice none 0 0) 0 [],.row 3 1 (Value.slice none 0 0) 0 [],.row 3 1 (Value.slice none 0 0) 0 [],.row 3 1 (Value.slice none 0 0) 0 [],.row 45 1 (Value.slice none 0 0) 0 []]) rfl (elsDR.mono (zaf iEW)) (by decide) rfl
       obtain ⟨HF3,SF4,iF5,hF6,nvF7⟩:=SEZ.sealRowU (i:=2) (l':=[.row 3 1 vDC nDD csDE,.row 3 1 vDG nDH csDI,.box b48 70 [vDS,vDO,vDK,vDG,vDC,vDW],.box b29 70 [vDS,vDO,vDK,vDG,vDC,vDW],.row 3 1 (Value.slice none 0 0) 0 [],.row 3 1 (Value.slice none 0 0) 0 [],.row 3 1 (Value.slice none 0 0) 0 [],.row 3 1 (Value.slice none 0 0) 0 [],.row 45 1 (Value.slice none 0 0) 0 []]) rfl (elsDN.mono (zaf (iEW.tr iF0))) (by decide) rfl
       obtain ⟨HF8,SF9,iFa,hFb,nvFc⟩:=SF4.sealRowU (i:=1) (l':=[.row 3 1 vDC nDD csDE,.box b48 70 [vDS,vDO,vDK,vDG,vDC,vDW],.box b29 70 [vDS,vDO,vDK,vDG,vDC,vDW],.row 3 1 (Value.slice none 0 0) 0 [],.row 3 1 (Value.slice none 0 0) 0 [],.row 3 1 (Value.slice none 0 0) 0 [],.row 3 1 (Value.slice none 0 0) 0 [],.row 45 1 (Value.slice none 0 0) 0 []]) rfl (elsDJ.mono (zaf ((iEW.tr iF0).tr iF5))) (by decide) rfl
       obtain ⟨HFd,SFe,iFf,hFg,nvFh⟩:=SF9.sealRowU (i:=0) (l':=[.box b48 70 [vDS,vDO,vDK,vDG,vDC,vDW],.box b29 70 [vDS,vDO,vDK,vDG,vDC,vDW],.row 3 1 (Value.slice none 0 0) 0 [],.row 3 1 (Value.slice none 0 0) 0 [],.row 3 1 (Value.slice none 0 0) 0 [],.row 3 1 (Value.slice none 0 0) 0 [],.row 45 1 (Value.slice none 0 0) 0 []]) rfl (elsDF.mono (zaf (((iEW.tr iF0).tr iF5).tr iFa))) (by decide) rfl
       obtain ⟨HFi,SFj,iFk,atFl⟩:=SFe.sealBox (i:=1) (l':=[.box b48 70 [vDS,vDO,vDK,vDG,vDC,vDW],.row 3 1 (Value.slice none 0 0) 0 [],.row 3 1 (Value.slice none 0 0) 0 [],.row 3 1 (Value.slice none 0 0) 0 [],.row 3 1 (Value.slice none 0 0) 0 [],.row 45 1 (Value.slice none 0 0) 0 []]) rfl rfl
       refine FL.nil ?_
       refine FW.ret ?_
       obtain rfl:=Option.some.inj hp
       exact ⟨.inr rfl,resC rfl kEP (loadVar_A Tryz.isAgg70 Tryz.sizeOf70 (atFl.now SFj.sl) rfl) ⟨_,_,_,_,_,_,_,rfl,SFj.run,(hEX.mono ((((iF0.tr iF5).tr iFa).tr iFf).tr iFk)),(hF1.mono (zaf (((iF5.tr iFa).tr iFf).tr iFk))),(hF6.mono (zaf ((iFa.tr iFf).tr iFk))),(hFb.mono (zaf (iFf.tr iFk))),(hFg.mono (zaf iFk)),(hDX.mono (((((iEW.tr iF0).tr iF5).tr iFa).tr iFf).tr iFk))⟩⟩
      ·
       exact xDB.elim
    ·
     exact xBK.elim
  ·
   exact x81.elim

@[reducible] def p_spec_l15All (Ha:GH) (wa:World) (r:((List (List Int))×Bool)):Ending→World→Prop :=
 fun e w'=>∃ H':GH,∃ v0:Value,e=.returned (Value.tuple #[v0,Value.bool r.2])∧Run wa.heap.size Ha wa H' w'∧RSl H' (eL eI 1) 1 v0 r.1
theorem w_spec_l15All {Ha:GH} {wa:World} (hs:Sl Ha wa) (a0:Cnf) (v0_1:Value) (p0_1:RSl Ha (eL eI 1) 1 v0_1 a0.clauses) {r:((List (List Int))×Bool)} (hp:(PF.zb0 a0)=some r) :
  Calls Tryz.prog 20 #[Value.agg #[Value.int .i64 a0.vars,v0_1]] wa (p_spec_l15All Ha wa r):=by
 unfold PF.zb0 at hp
 have S0:=St.init hs
 refine zag (N:=16) (args:=[Value.agg #[Value.int .i64 a0.vars,v0_1]]) Tryz.func20 rfl rfl rfl ?_
 refine FW.seq (FW.region ?_)
 obtain ⟨b21,w22,run23,S24⟩:=S0.box (P:=Tryz.prog) 28 [Value.int .i64 a0.vars,v0_1] (v:=Value.agg #[Value.int .i64 a0.vars,v0_1]) rfl (zab rfl (zab p0_1.one zad))
 refine FL.v (E.box rfl run23) ?_
 obtain ⟨H25,S26,i27,at28⟩:=S24.sealBox (i:=0) (l':=[]) rfl rfl
 refine FL.v (E.assign (v:=Value.slice none 0 0) rfl) ?_
 refine FL.v (E.assign (v:=Value.bool false) rfl) ?_
 refine FL.nil (FW.seq (FW.seq (FW.region ?_)))
 refine FL.v (E.load rfl (zax Tryz.isAgg28 Tryz.sizeOf28 (at28.now S26.sl) rfl)) ?_
 obtain ⟨r29,hr30,hp⟩:=bnd hp
 refine FL.call rfl rfl rfl (E.call Tryz.call42 (A1 rfl)) (w_spec_l10Good S26.sl a0 v0_1 (p0_1.mono i27) hr30) ?_
 rintro e w31 ⟨rfl,r32⟩
 refine ⟨_,rfl,?_⟩
 have S33:=S26.call r32
 refine FL.v (E.not rfl) ?_
 refine FL.nil ?_
 rcases ifB hp with ⟨c34,hp⟩|⟨c34,hp⟩
 ·
  refine FW.condT rfl c34 ?_
  refine FW.seq (FW.region ?_)
  obtain ⟨v35,w36,run37,S38⟩:=S33.buildSlice (P:=Tryz.prog) te22 [] (parts:=#[]) (cells:=[]) rfl zaw zav zad (Nat.le_of_ble_eq_true rfl)
  have els39:Els (up wa.heap.size H25) (eL eI 1) 1 [] []:=Els.nil
  refine FL.v (E.buildSlice (B0) run37) ?_
  refine FL.v (E.assign (v:=v35) rfl) ?_
  refine FL.v (E.assign (v:=Value.bool false) rfl) ?_
  refine FL.nil ?_
  refine FW.ret ?_
  obtain ⟨H40,S41,i42,ns45,nv44⟩:=S38.sealRowN (i:=0) (l':=[]) rfl els39 (show (bl []).Nodup from List.nodup_nil) (by decide) rfl
  have h43:=ns45.rsl
  obtain rfl:=Option.some.inj hp
  exact ⟨.inr rfl,res2 rfl rfl rfl ⟨_,_,rfl,S41.run,(h43.mono upI)⟩⟩
 ·
  refine FW.condF rfl c34 ?_
  refine FW.skip (FW.seq (FW.region ?_))
  refine FL.v (E.load rfl (zax Tryz.isAgg28 Tryz.sizeOf28 (at28.now S33.sl) rfl)) ?_
  obtain ⟨r46,hr47,hp⟩:=bnd hp
  refine FL.call rfl rfl rfl (E.call Tryz.call43 (A2 rfl rfl)) (w_spec_l10Closure S33.sl a0 v0_1 (p0_1.mono i27) 6 hr47) ?_
  rintro e w49 ⟨H48,v52,v54,v57,v60,v63,v66,rfl,r51,h53,h55,h58,h61,h64,h67⟩
  refine ⟨_,rfl,?_⟩
  have nv56:New H25 [v54]:=New.of_up S33.sl h55.dom
  have h55:=h55.mono (up_le S33.size)
  have nv59:New H25 [v57]:=New.of_up S33.sl h58.dom
  have h58:=h58.mono (up_le S33.size)
  have nv62:New H25 [v60]:=New.of_up S33.sl h61.dom
  have h61:=h61.mono (up_le S33.size)
  have nv65:New H25 [v63]:=New.of_up S33.sl h64.dom
  have h64:=h64.mono (up_le S33.size)
  have S50:=S33.call r51
  refine FL.v (E.field (fd70_5 rfl) rfl) ?_
  refine FL.v (E.assign (v:=v66) rfl) ?_
  refine FL.nil (FW.seq (FW.region ?_))
  refine FL.v (E.move (v:=v66) rfl) ?_
  refine FL.v (E.move (v:=v66) rfl) ?_
  refine FL.v (E.lenP te22 rfl h67) ?_
  refine FL.v (E.leq rfl rfl) ?_
  refine FL.v (E.assign (v:=v66) rfl) ?_
  refine FL.v (E.assign (v:=Value.bool (decide ((len r46.sorted)≤14))) rfl) ?_
  refine FL.nil ?_
  refine FW.ret ?_
  obtain rfl:=Option.some.inj hp
  exact ⟨.inr rfl,res2 rfl rfl rfl ⟨_,_,rfl,S50.run,h67⟩⟩

theorem zdH {Ha:GH} {wa:World} (hs:Sl Ha wa) (v0:Value) (a0:List (List Int)) (p0:RSl Ha (eL eI 1) 1 v0 a0) {r:Bool} (hp:(PF.zb1 a0)=some r) :
  Calls Tryz.prog 30 #[v0] wa (Sc Ha wa (Value.bool r)):=by
 unfold PF.zb1 at hp
 have S0:=St.init hs
 refine zag (N:=13) (args:=[v0]) Tryz.func30 rfl rfl rfl ?_
 refine FW.seq (FW.region ?_)
 refine FL.v (E.assign (v:=Value.bool false) rfl) ?_
 refine FL.nil (FW.seq (FW.region ?_))
 refine FL.v (E.move (v:=v0) rfl) ?_
 refine FL.v (E.lenP te22 rfl p0) ?_
 refine FL.v (E.gtr rfl rfl) ?_
 refine FL.v (E.move (v:=Value.bool (decide (0 < (len a0)))) rfl) ?_
 obtain ⟨t31,hqt31,hp⟩:=bnd hp
 refine FL.cut 6 (fun f w=>∃ H:GH,St Ha wa H w []∧Inc Ha H∧f 12=Value.bool t31) ?_ ?_
 ·
  clear hp;have hp:=hqt31;clear hqt31
  rcases ifB hp with ⟨c37,hp⟩|⟨c37,hp⟩
  ·
   refine FL.val (zac rfl rfl rfl c37) rfl rfl (E.move (v:=v0) rfl) ?_
   obtain ⟨x44,hx45,hp⟩:=bnd hp
   obtain ⟨p38,cs39,pt40,l41,at42,rel43⟩:=p0.at hx45
   obtain ⟨v46,rfl,h47⟩:=eL_open rel43
   refine FL.val (zac rfl rfl rfl c37) rfl rfl (E.indexAddr te22 rfl rfl pt40) ?_
   refine FL.val (zac rfl rfl rfl c37) rfl rfl (E.load rfl (zae Tryz.isAgg45 (at42.now S0.sl) rfl)) ?_
   refine FL.val (zac rfl rfl rfl c37) rfl rfl (E.lenP te45 rfl h47) ?_
   refine FL.val (zac rfl rfl rfl c37) rfl rfl (E.eql rfl rfl) ?_
   obtain rfl:=Option.some.inj hp
   refine FL.v (E.pickT rfl c37 rfl) ?_
   exact FL.nil ⟨rfl,_,S0,(Inc.rfl _),rfl⟩
  ·
   refine FL.skip (wF_no rfl rfl rfl c37) rfl ?_
   refine FL.skip (wF_no rfl rfl rfl c37) rfl ?_
   refine FL.skip (wF_no rfl rfl rfl c37) rfl ?_
   refine FL.skip (wF_no rfl rfl rfl c37) rfl ?_
   refine FL.skip (wF_no rfl rfl rfl c37) rfl ?_
   obtain rfl:=Option.some.inj hp
   refine FL.v (E.pickF rfl c37 rfl) ?_
   exact FL.nil ⟨rfl,_,S0,(Inc.rfl _),rfl⟩
 rintro f36 w35 ⟨H32,S33,i34,k48⟩
 refine FL.v (E.assign k48) ?_
 refine FL.nil ?_
 refine FW.ret ?_
 obtain rfl:=Option.some.inj hp
 exact ⟨.inr rfl,res1 rfl rfl ⟨rfl,S33.back⟩⟩

@[reducible] def p_spec_l15Of (Ha:GH) (wa:World) (r:zbE):Ending→World→Prop :=
 fun e w'=>∃ H':GH,∃ v0_0:Value,∃ v0_1:Value,e=.returned (Value.agg #[v0_0,v0_1])∧Run wa.heap.size Ha wa H' w'∧RSl (up wa.heap.size H') eB 1 v0_0 r.axiomS∧RSl (up wa.heap.size H') (eL eI 1) 1 v0_1 r.pairs
set_option maxHeartbeats 4000000 in
theorem zcR {Ha:GH} {wa:World} (hs:Sl Ha wa) (a0:Cnf) (v0_1:Value) (p0_1:RSl Ha (eL eI 1) 1 v0_1 a0.clauses) (v1:Value) (a1:List (List Int)) (p1:RSl Ha (eL eI 1) 1 v1 a1) {r:zbE} (hp:(PF.zcw a0 a1)=some r) :
  Calls Tryz.prog 44 #[Value.agg #[Value.int .i64 a0.vars,v0_1],v1] wa (p_spec_l15Of Ha wa r):=by
 unfold PF.zcw at hp
 have S0:=St.init hs
 refine zag (N:=89) (args:=[Value.agg #[Value.int .i64 a0.vars,v0_1],v1]) Tryz.func44 rfl rfl rfl ?_
 refine FW.seq (FW.region ?_)
 obtain ⟨b21,w22,run23,S24⟩:=S0.box (P:=Tryz.prog) 28 [Value.int .i64 a0.vars,v0_1] (v:=Value.agg #[Value.int .i64 a0.vars,v0_1]) rfl (zab rfl (zab p0_1.one zad))
 refine FL.v (E.box rfl run23) ?_
 obtain ⟨H25,S26,i27,at28⟩:=S24.sealBox (i:=0) (l':=[]) rfl rfl
 obtain ⟨b29,w30,run31,S32⟩:=S26.alloc (P:=Tryz.prog) 74 [Value.slice none 0 0,Value.slice none 0 0] Tryz.zeroValue74 rfl (zab rfl (zab rfl zad))
 refine FL.v (E.alloc run31) ?_
 refine FL.nil (FW.seq ?_)
 obtain ⟨xs36,hm37,hp⟩:=bnd hp
 obtain ⟨xs47,hm48,hp⟩:=bnd hp
 refine FW.drawB (Sl H25) (fun f w=>∃ H:GH,∃ b64:Nat,∃ v65:Value,∃ n66:Nat,∃ cs67:List Value,∃ v69:Value,∃ n70:Nat,∃ cs71:List Value,∃ rs75:List PR,St Ha wa H w (.box b29 74 [Value.slice none 0 0,Value.slice none 0 0]::.box b64 74 [v65,v69]::.row 4 1 v65 n66 cs67::.row 45 1 v69 n70 cs71::(plT 3 1 rs75 []))∧Inc H25 H∧Els (up wa.heap.size H) eB 1 cs67 xs36∧Pool (up wa.heap.size H) eI 1 cs71 rs75 xs47∧f 1=v1∧f 2=Value.pointer (some ⟨b21,0,none⟩)∧f 4=Value.pointer (some (⟨b29,0,none⟩:Addr))∧f 5=Value.pointer (some (⟨b64,0,none⟩:Addr))) (by kernel_rfl) S32.sl ?_ ?_
 ·
  intro w33 r34
  have S35:=S32.call r34
  refine FB.t (i:=0) (bs 9 1) rfl (SP.nil S35.sl) rfl (fun w' hw'=>(E.move (v:=v1) rfl)) ?_
  refine FB.t (i:=1) (bs 9 3) rfl (SP.nil S35.sl) rfl (fun w' hw'=>(E.lenP te22 rfl p1)) ?_
  refine FB.t (i:=3) (bs 9 11) rfl (SP.nil S35.sl) rfl (fun w' hw'=>(E.move (v:=v1) rfl)) ?_
  refine FB.t (i:=4) (bs 9 27) rfl (SP.nil S35.sl) rfl (fun w' hw'=>(E.lenP te22 rfl p1)) ?_
  refine FB.all3 (i:=2) (j:=5) (k:=7) (by kernel_rfl) ?_ ?_ ?_
  ·
   obtain ⟨v38,w39,n43,cs44,run40,S41,els42,hbl46⟩:=S35.makeEls (P:=Tryz.prog) te72 (G:=(up wa.heap.size H25)) (En:=eB) (x0:=(false:Bool)) hm37 rfl (zab rfl zad) .i64 .i64
   refine FC.val (l':=(bs 9 31)) rfl (by kernel_rfl) rfl rfl rfl (E.makeSlice rfl rfl run40) ?_
   refine ⟨(SP.nil S41.sl),?_⟩
   refine FB.all2 (i:=5) (j:=7) (by kernel_rfl) ?_ ?_
   ·
    obtain ⟨v49,w50,n54,cs55,rs56,run51,S52,els53⟩:=S41.makePool (P:=Tryz.prog) (a:=[.row 4 1 v38 n43 cs44,.box b29 74 [Value.slice none 0 0,Value.slice none 0 0]]) (L:=[]) te22 rfl (G:=(up wa.heap.size H25)) (En:=eI) hm48 3 1 .i64 .i64
    have S52:St Ha wa H25 w50 (.row 45 1 v49 n54 cs55::.row 4 1 v38 n43 cs44::.box b29 74 [Value.slice none 0 0,Value.slice none 0 0]::(plT 3 1 rs56 [])):=S52
    refine FC.val (l':=(bs 9 63)) rfl (by kernel_rfl) rfl rfl rfl (E.makeSlice rfl rfl run51) ?_
    refine ⟨(SP.nil S52.sl),?_⟩
    refine FB.t (i:=6) (bs 9 127) rfl (SP.nil S52.sl) rfl (fun w' hw'=>(E.build (B2 rfl rfl) (run_build _ 74 #[(0,v38),(1,v49)] #[v38,v49] (by obtain ⟨_,_,rfl⟩:=S52.row_ln (i:=1) rfl;obtain ⟨_,_,rfl⟩:=S52.row_ln (i:=0) rfl;rfl)))) ?_
    refine FB.all1 (i:=7) (by kernel_rfl) ?_
    ·
     obtain ⟨b57,w58,run59,S60⟩:=S52.alloc (P:=Tryz.prog) 74 [Value.slice none 0 0,Value.slice none 0 0] Tryz.zeroValue74 rfl (zab rfl (zab rfl zad))
     refine FC.val (l':=(bs 9 255)) rfl (by kernel_rfl) rfl rfl rfl (E.alloc run59) ?_
     refine ⟨(SP.nil S60.sl),?_⟩
     refine FB.all1 (i:=8) (by kernel_rfl) ?_
     ·
      obtain ⟨w61,run62,S63⟩:=S60.store0 (P:=Tryz.prog) (t:=74) (i:=0) (cs':=[v38,v49]) (l':=(.box b57 74 [v38,v49]::.row 45 1 v49 n54 cs55::.row 4 1 v38 n43 cs44::.box b29 74 [Value.slice none 0 0,Value.slice none 0 0]::(plT 3 1 rs56 []))) (v:=Value.agg #[v38,v49]) (c:=[v38,v49]) rfl Tryz.sizeOf74 rfl rfl (zab (Ln.one (S60.row_ln (i:=2) rfl)) (zab (Ln.one (S60.row_ln (i:=1) rfl)) zad)) (Nat.le_of_ble_eq_true rfl) rfl rfl
      refine FC.act (l':=(bs 9 511)) rfl (by kernel_rfl) rfl rfl (E.store rfl rfl run62) ?_
      refine ⟨(SP.nil S63.sl),?_⟩
      exact FB.done (by kernel_rfl) ⟨_,_,_,_,_,_,_,_,_,(S63.selT (a:=[.box b57 74 [v38,v49],.row 45 1 v49 n54 cs55,.row 4 1 v38 n43 cs44,.box b29 74 [Value.slice none 0 0,Value.slice none 0 0]]) (l':=[.box b29 74 [Value.slice none 0 0,Value.slice none 0 0],.box b57 74 [v38,v49],.row 4 1 v38 n43 cs44,.row 45 1 v49 n54 cs55]) [3,0,2,1] (by decide) rfl),(Inc.rfl _),els42,els53,rfl,rfl,rfl,rfl⟩
   ·
    obtain ⟨b57,w58,run59,S60⟩:=S41.alloc (P:=Tryz.prog) 74 [Value.slice none 0 0,Value.slice none 0 0] Tryz.zeroValue74 rfl (zab rfl (zab rfl zad))
    refine FC.val (l':=(bs 9 159)) rfl (by kernel_rfl) rfl rfl rfl (E.alloc run59) ?_
    refine ⟨(SP.nil S60.sl),?_⟩
    refine FB.all1 (i:=5) (by kernel_rfl) ?_
    ·
     obtain ⟨v49,w50,n54,cs55,rs56,run51,S52,els53⟩:=S60.makePool (P:=Tryz.prog) (a:=[.box b57 74 [Value.slice none 0 0,Value.slice none 0 0],.row 4 1 v38 n43 cs44,.box b29 74 [Value.slice none 0 0,Value.slice none 0 0]]) (L:=[]) te22 rfl (G:=(up wa.heap.size H25)) (En:=eI) hm48 3 1 .i64 .i64
     have S52:St Ha wa H25 w50 (.row 45 1 v49 n54 cs55::.box b57 74 [Value.slice none 0 0,Value.slice none 0 0]::.row 4 1 v38 n43 cs44::.box b29 74 [Value.slice none 0 0,Value.slice none 0 0]::(plT 3 1 rs56 [])):=S52
     refine FC.val (l':=(bs 9 191)) rfl (by kernel_rfl) rfl rfl rfl (E.makeSlice rfl rfl run51) ?_
     refine ⟨(SP.nil S52.sl),?_⟩
     refine FB.t (i:=6) (bs 9 255) rfl (SP.nil S52.sl) rfl (fun w' hw'=>(E.build (B2 rfl rfl) (run_build _ 74 #[(0,v38),(1,v49)] #[v38,v49] (by obtain ⟨_,_,rfl⟩:=S52.row_ln (i:=2) rfl;obtain ⟨_,_,rfl⟩:=S52.row_ln (i:=0) rfl;rfl)))) ?_
     refine FB.all1 (i:=8) (by kernel_rfl) ?_
     ·
      obtain ⟨w61,run62,S63⟩:=S52.store0 (P:=Tryz.prog) (t:=74) (i:=1) (cs':=[v38,v49]) (l':=(.row 45 1 v49 n54 cs55::.box b57 74 [v38,v49]::.row 4 1 v38 n43 cs44::.box b29 74 [Value.slice none 0 0,Value.slice none 0 0]::(plT 3 1 rs56 []))) (v:=Value.agg #[v38,v49]) (c:=[v38,v49]) rfl Tryz.sizeOf74 rfl rfl (zab (Ln.one (S52.row_ln (i:=2) rfl)) (zab (Ln.one (S52.row_ln (i:=0) rfl)) zad)) (Nat.le_of_ble_eq_true rfl) rfl rfl
      refine FC.act (l':=(bs 9 511)) rfl (by kernel_rfl) rfl rfl (E.store rfl rfl run62) ?_
      refine ⟨(SP.nil S63.sl),?_⟩
      exact FB.done (by kernel_rfl) ⟨_,_,_,_,_,_,_,_,_,(S63.selT (a:=[.row 45 1 v49 n54 cs55,.box b57 74 [v38,v49],.row 4 1 v38 n43 cs44,.box b29 74 [Value.slice none 0 0,Value.slice none 0 0]]) (l':=[.box b29 74 [Value.slice none 0 0,Value.slice none 0 0],.box b57 74 [v38,v49],.row 4 1 v38 n43 cs44,.row 45 1 v49 n54 cs55]) [3,1,2,0] (by decide) rfl),(Inc.rfl _),els42,els53,rfl,rfl,rfl,rfl⟩
  ·
   obtain ⟨v49,w50,n54,cs55,rs56,run51,S52,els53⟩:=S35.makePool (P:=Tryz.prog) (a:=[.box b29 74 [Value.slice none 0 0,Value.slice none 0 0]]) (L:=[]) te22 rfl (G:=(up wa.heap.size H25)) (En:=eI) hm48 3 1 .i64 .i64
   have S52:St Ha wa H25 w50 (.row 45 1 v49 n54 cs55::.box b29 74 [Value.slice none 0 0,Value.slice none 0 0]::(plT 3 1 rs56 [])):=S52
   refine FC.val (l':=(bs 9 59)) rfl (by kernel_rfl) rfl rfl rfl (E.makeSlice rfl rfl run51) ?_
   refine ⟨(SP.nil S52.sl),?_⟩
   refine FB.all2 (i:=2) (j:=7) (by kernel_rfl) ?_ ?_
   ·
    obtain ⟨v38,w39,n43,cs44,run40,S41,els42,hbl46⟩:=S52.makeEls (P:=Tryz.prog) te72 (G:=(up wa.heap.size H25)) (En:=eB) (x0:=(false:Bool)) hm37 rfl (zab rfl zad) .i64 .i64
    refine FC.val (l':=(bs 9 63)) rfl (by kernel_rfl) rfl rfl rfl (E.makeSlice rfl rfl run40) ?_
    refine ⟨(SP.nil S41.sl),?_⟩
    refine FB.t (i:=6) (bs 9 127) rfl (SP.nil S41.sl) rfl (fun w' hw'=>(E.build (B2 rfl rfl) (run_build _ 74 #[(0,v38),(1,v49)] #[v38,v49] (by obtain ⟨_,_,rfl⟩:=S41.row_ln (i:=0) rfl;obtain ⟨_,_,rfl⟩:=S41.row_ln (i:=1) rfl;rfl)))) ?_
    refine FB.all1 (i:=7) (by kernel_rfl) ?_
    ·
     obtain ⟨b57,w58,run59,S60⟩:=S41.alloc (P:=Tryz.prog) 74 [Value.slice none 0 0,Value.slice none 0 0] Tryz.zeroValue74 rfl (zab rfl (zab rfl zad))
     refine FC.val (l':=(bs 9 255)) rfl (by kernel_rfl) rfl rfl rfl (E.alloc run59) ?_
     refine ⟨(SP.nil S60.sl),?_⟩
     refine FB.all1 (i:=8) (by kernel_rfl) ?_
     ·
      obtain ⟨w61,run62,S63⟩:=S60.store0 (P:=Tryz.prog) (t:=74) (i:=0) (cs':=[v38,v49]) (l':=(.box b57 74 [v38,v49]::.row 4 1 v38 n43 cs44::.row 45 1 v49 n54 cs55::.box b29 74 [Value.slice none 0 0,Value.slice none 0 0]::(plT 3 1 rs56 []))) (v:=Value.agg #[v38,v49]) (c:=[v38,v49]) rfl Tryz.sizeOf74 rfl rfl (zab (Ln.one (S60.row_ln (i:=1) rfl)) (zab (Ln.one (S60.row_ln (i:=2) rfl)) zad)) (Nat.le_of_ble_eq_true rfl) rfl rfl
      refine FC.act (l':=(bs 9 511)) rfl (by kernel_rfl) rfl rfl (E.store rfl rfl run62) ?_
      refine ⟨(SP.nil S63.sl),?_⟩
      exact FB.done (by kernel_rfl) ⟨_,_,_,_,_,_,_,_,_,(S63.selT (a:=[.box b57 74 [v38,v49],.row 4 1 v38 n43 cs44,.row 45 1 v49 n54 cs55,.box b29 74 [Value.slice none 0 0,Value.slice none 0 0]]) (l':=[.box b29 74 [Value.slice none 0 0,Value.slice none 0 0],.box b57 74 [v38,v49],.row 4 1 v38 n43 cs44,.row 45 1 v49 n54 cs55]) [3,0,1,2] (by decide) rfl),(Inc.rfl _),els42,els53,rfl,rfl,rfl,rfl⟩
   ·
    obtain ⟨b57,w58,run59,S60⟩:=S52.alloc (P:=Tryz.prog) 74 [Value.slice none 0 0,Value.slice none 0 0] Tryz.zeroValue74 rfl (zab rfl (zab rfl zad))
    refine FC.val (l':=(bs 9 187)) rfl (by kernel_rfl) rfl rfl rfl (E.alloc run59) ?_
    refine ⟨(SP.nil S60.sl),?_⟩
    refine FB.all1 (i:=2) (by kernel_rfl) ?_
    ·
     obtain ⟨v38,w39,n43,cs44,run40,S41,els42,hbl46⟩:=S60.makeEls (P:=Tryz.prog) te72 (G:=(up wa.heap.size H25)) (En:=eB) (x0:=(false:Bool)) hm37 rfl (zab rfl zad) .i64 .i64
     refine FC.val (l':=(bs 9 191)) rfl (by kernel_rfl) rfl rfl rfl (E.makeSlice rfl rfl run40) ?_
     refine ⟨(SP.nil S41.sl),?_⟩
     refine FB.t (i:=6) (bs 9 255) rfl (SP.nil S41.sl) rfl (fun w' hw'=>(E.build (B2 rfl rfl) (run_build _ 74 #[(0,v38),(1,v49)] #[v38,v49] (by obtain ⟨_,_,rfl⟩:=S41.row_ln (i:=0) rfl;obtain ⟨_,_,rfl⟩:=S41.row_ln (i:=2) rfl;rfl)))) ?_
     refine FB.all1 (i:=8) (by kernel_rfl) ?_
     ·
      obtain ⟨w61,run62,S63⟩:=S41.store0 (P:=Tryz.prog) (t:=74) (i:=1) (cs':=[v38,v49]) (l':=(.row 4 1 v38 n43 cs44::.box b57 74 [v38,v49]::.row 45 1 v49 n54 cs55::.box b29 74 [Value.slice none 0 0,Value.slice none 0 0]::(plT 3 1 rs56 []))) (v:=Value.agg #[v38,v49]) (c:=[v38,v49]) rfl Tryz.sizeOf74 rfl rfl (zab (Ln.one (S41.row_ln (i:=0) rfl)) (zab (Ln.one (S41.row_ln (i:=2) rfl)) zad)) (Nat.le_of_ble_eq_true rfl) rfl rfl
      refine FC.act (l':=(bs 9 511)) rfl (by kernel_rfl) rfl rfl (E.store rfl rfl run62) ?_
      refine ⟨(SP.nil S63.sl),?_⟩
      exact FB.done (by kernel_rfl) ⟨_,_,_,_,_,_,_,_,_,(S63.selT (a:=[.row 4 1 v38 n43 cs44,.box b57 74 [v38,v49],.row 45 1 v49 n54 cs55,.box b29 74 [Value.slice none 0 0,Value.slice none 0 0]]) (l':=[.box b29 74 [Value.slice none 0 0,Value.slice none 0 0],.box b57 74 [v38,v49],.row 4 1 v38 n43 cs44,.row 45 1 v49 n54 cs55]) [3,1,0,2] (by decide) rfl),(Inc.rfl _),els42,els53,rfl,rfl,rfl,rfl⟩
  ·
   obtain ⟨b57,w58,run59,S60⟩:=S35.alloc (P:=Tryz.prog) 74 [Value.slice none 0 0,Value.slice none 0 0] Tryz.zeroValue74 rfl (zab rfl (zab rfl zad))
   refine FC.val (l':=(bs 9 155)) rfl (by kernel_rfl) rfl rfl rfl (E.alloc run59) ?_
   refine ⟨(SP.nil S60.sl),?_⟩
   refine FB.all2 (i:=2) (j:=5) (by kernel_rfl) ?_ ?_
   ·
    obtain ⟨v38,w39,n43,cs44,run40,S41,els42,hbl46⟩:=S60.makeEls (P:=Tryz.prog) te72 (G:=(up wa.heap.size H25)) (En:=eB) (x0:=(false:Bool)) hm37 rfl (zab rfl zad) .i64 .i64
    refine FC.val (l':=(bs 9 159)) rfl (by kernel_rfl) rfl rfl rfl (E.makeSlice rfl rfl run40) ?_
    refine ⟨(SP.nil S41.sl),?_⟩
    refine FB.all1 (i:=5) (by kernel_rfl) ?_
    ·
     obtain ⟨v49,w50,n54,cs55,rs56,run51,S52,els53⟩:=S41.makePool (P:=Tryz.prog) (a:=[.row 4 1 v38 n43 cs44,.box b57 74 [Value.slice none 0 0,Value.slice none 0 0],.box b29 74 [Value.slice none 0 0,Value.slice none 0 0]]) (L:=[]) te22 rfl (G:=(up wa.heap.size H25)) (En:=eI) hm48 3 1 .i64 .i64
     have S52:St Ha wa H25 w50 (.row 45 1 v49 n54 cs55::.row 4 1 v38 n43 cs44::.box b57 74 [Value.slice none 0 0,Value.slice none 0 0]::.box b29 74 [Value.slice none 0 0,Value.slice none 0 0]::(plT 3 1 rs56 [])):=S52
     refine FC.val (l':=(bs 9 191)) rfl (by kernel_rfl) rfl rfl rfl (E.makeSlice rfl rfl run51) ?_
     refine ⟨(SP.nil S52.sl),?_⟩
     refine FB.t (i:=6) (bs 9 255) rfl (SP.nil S52.sl) rfl (fun w' hw'=>(E.build (B2 rfl rfl) (run_build _ 74 #[(0,v38),(1,v49)] #[v38,v49] (by obtain ⟨_,_,rfl⟩:=S52.row_ln (i:=1) rfl;obtain ⟨_,_,rfl⟩:=S52.row_ln (i:=0) rfl;rfl)))) ?_
     refine FB.all1 (i:=8) (by kernel_rfl) ?_
     ·
      obtain ⟨w61,run62,S63⟩:=S52.store0 (P:=Tryz.prog) (t:=74) (i:=2) (cs':=[v38,v49]) (l':=(.row 45 1 v49 n54 cs55::.row 4 1 v38 n43 cs44::.box b57 74 [v38,v49]::.box b29 74 [Value.slice none 0 0,Value.slice none 0 0]::(plT 3 1 rs56 []))) (v:=Value.agg #[v38,v49]) (c:=[v38,v49]) rfl Tryz.sizeOf74 rfl rfl (zab (Ln.one (S52.row_ln (i:=1) rfl)) (zab (Ln.one (S52.row_ln (i:=0) rfl)) zad)) (Nat.le_of_ble_eq_true rfl) rfl rfl
      refine FC.act (l':=(bs 9 511)) rfl (by kernel_rfl) rfl rfl (E.store rfl rfl run62) ?_
      refine ⟨(SP.nil S63.sl),?_⟩
      exact FB.done (by kernel_rfl) ⟨_,_,_,_,_,_,_,_,_,(S63.selT (a:=[.row 45 1 v49 n54 cs55,.row 4 1 v38 n43 cs44,.box b57 74 [v38,v49],.box b29 74 [Value.slice none 0 0,Value.slice none 0 0]]) (l':=[.box b29 74 [Value.slice none 0 0,Value.slice none 0 0],.box b57 74 [v38,v49],.row 4 1 v38 n43 cs44,.row 45 1 v49 n54 cs55]) [3,2,1,0] (by decide) rfl),(Inc.rfl _),els42,els53,rfl,rfl,rfl,rfl⟩
   ·
    obtain ⟨v49,w50,n54,cs55,rs56,run51,S52,els53⟩:=S60.makePool (P:=Tryz.prog) (a:=[.box b57 74 [Value.slice none 0 0,Value.slice none 0 0],.box b29 74 [Value.slice none 0 0,Value.slice none 0 0]]) (L:=[]) te22 rfl (G:=(up wa.heap.size H25)) (En:=eI) hm48 3 1 .i64 .i64
    have S52:St Ha wa H25 w50 (.row 45 1 v49 n54 cs55::.box b57 74 [Value.slice none 0 0,Value.slice none 0 0]::.box b29 74 [Value.slice none 0 0,Value.slice none 0 0]::(plT 3 1 rs56 [])):=S52
    refine FC.val (l':=(bs 9 187)) rfl (by kernel_rfl) rfl rfl rfl (E.makeSlice rfl rfl run51) ?_
    refine ⟨(SP.nil S52.sl),?_⟩
    refine FB.all1 (i:=2) (by kernel_rfl) ?_
    ·
     obtain ⟨v38,w39,n43,cs44,run40,S41,els42,hbl46⟩:=S52.makeEls (P:=Tryz.prog) te72 (G:=(up wa.heap.size H25)) (En:=eB) (x0:=(false:Bool)) hm37 rfl (zab rfl zad) .i64 .i64
     refine FC.val (l':=(bs 9 191)) rfl (by kernel_rfl) rfl rfl rfl (E.makeSlice rfl rfl run40) ?_
     refine ⟨(SP.nil S41.sl),?_⟩
     refine FB.t (i:=6) (bs 9 255) rfl (SP.nil S41.sl) rfl (fun w' hw'=>(E.build (B2 rfl rfl) (run_build _ 74 #[(0,v38),(1,v49)] #[v38,v49] (by obtain ⟨_,_,rfl⟩:=S41.row_ln (i:=0) rfl;obtain ⟨_,_,rfl⟩:=S41.row_ln (i:=1) rfl;rfl)))) ?_
     refine FB.all1 (i:=8) (by kernel_rfl) ?_
     ·
      obtain ⟨w61,run62,S63⟩:=S41.store0 (P:=Tryz.prog) (t:=74) (i:=2) (cs':=[v38,v49]) (l':=(.row 4 1 v38 n43 cs44::.row 45 1 v49 n54 cs55::.box b57 74 [v38,v49]::.box b29 74 [Value.slice none 0 0,Value.slice none 0 0]::(plT 3 1 rs56 []))) (v:=Value.agg #[v38,v49]) (c:=[v38,v49]) rfl Tryz.sizeOf74 rfl rfl (zab (Ln.one (S41.row_ln (i:=0) rfl)) (zab (Ln.one (S41.row_ln (i:=1) rfl)) zad)) (Nat.le_of_ble_eq_true rfl) rfl rfl
      refine FC.act (l':=(bs 9 511)) rfl (by kernel_rfl) rfl rfl (E.store rfl rfl run62) ?_
      refine ⟨(SP.nil S63.sl),?_⟩
      exact FB.done (by kernel_rfl) ⟨_,_,_,_,_,_,_,_,_,(S63.selT (a:=[.row 4 1 v38 n43 cs44,.row 45 1 v49 n54 cs55,.box b57 74 [v38,v49],.box b29 74 [Value.slice none 0 0,Value.slice none 0 0]]) (l':=[.box b29 74 [Value.slice none 0 0,Value.slice none 0 0],.box b57 74 [v38,v49],.row 4 1 v38 n43 cs44,.row 45 1 v49 n54 cs55]) [3,2,0,1] (by decide) rfl),(Inc.rfl _),els42,els53,rfl,rfl,rfl,rfl⟩
 ·
  rintro f80 w79 ⟨H76,b64,v65,n66,cs67,v69,n70,cs71,rs75,S77,i78,els68,els73,k81,k82,k83,k84⟩
  refine FW.seq (FW.seq (FW.region ?_))
  refine FL.v (E.assign (v:=Value.int .i64 0) rfl) ?_
  refine FL.nil ?_
  obtain ⟨q85,hq,hp⟩:=bndR hp
  refine FW.block ?_
  refine FW.mono (FW.iter (S:=((List Bool)×Int)) (X:=Empty) (fun (s85:((List Bool)×Int)) f w=>∃ H:GH,∃ v86:Value,∃ n87:Nat,∃ cs88:List Value,St Ha wa H w (.box b29 74 [Value.slice none 0 0,Value.slice none 0 0]::.box b64 74 [v86,v69]::.row 4 1 v86 n87 cs88::.row 45 1 v69 n70 cs71::(plT 3 1 rs75 []))∧Inc H76 H∧Els (up wa.heap.size H) eB 1 cs88 s85.1∧f 1=v1∧f 2=Value.pointer (some ⟨b21,0,none⟩)∧f 4=Value.pointer (some (⟨b29,0,none⟩:Addr))∧f 5=Value.pointer (some (⟨b64,0,none⟩:Addr))∧f 6=Value.int .i64 s85.2) (fun (q:Rs ((List Bool)×Int) Empty) e f w=>match q with|.go s85=>e=Exit.exit 0∧(∃ H:GH,∃ v86:Value,∃ n87:Nat,∃ cs88:List Value,St Ha wa H w (.box b29 74 [Value.slice none 0 0,Value.slice none 0 0]::.box b64 74 [v86,v69]::.row 4 1 v86 n87 cs88::.row 45 1 v69 n70 cs71::(plT 3 1 rs75 []))∧Inc H76 H∧Els (up wa.heap.size H) eB 1 cs88 s85.1∧f 1=v1∧f 2=Value.pointer (some ⟨b21,0,none⟩)∧f 4=Value.pointer (some (⟨b29,0,none⟩:Addr))∧f 5=Value.pointer (some (⟨b64,0,none⟩:Addr)))|.rt x=>x.elim) hq ⟨_,_,_,_,S77,(Inc.rfl _),els68,k81,k82,k83,k84,rfl⟩ ?_) ?_
  ·
   clear hp hq
   rintro s85 f94 w93 ⟨H90,v86,n87,cs88,S91,i92,els89,k95,k96,k97,k98,k99⟩ oAO hp
   refine FW.seq (FW.seq (FW.region ?_))
   refine FL.v (E.move k99) ?_
   refine FL.v (E.fieldAddr zaS k96) ?_
   refine FL.v (E.load rfl (zah Tryz.isAgg22 ((at28.mono (i78.tr i92)).now S91.sl) rfl)) ?_
   refine FL.v (E.lenP te22 rfl p0_1) ?_
   refine FL.v (E.lss rfl rfl) ?_
   refine FL.nil ?_
   rcases ifB hp with ⟨cA0,hp⟩|⟨cA0,hp⟩
   ·
    refine FW.condT rfl cA0 ?_
    refine FW.skip (FW.seq (FW.block ?_))
    obtain ⟨xAa,hxAb,hp⟩:=bnd hp
    obtain ⟨rAe,hrAf,hp⟩:=bnd hp
    obtain ⟨xAp,hxAq,hp⟩:=bnd hp
    obtain ⟨xsAv,hputAw,hp⟩:=bnd hp
    refine FW.drawB (Sl H90) (fun f w=>∃ H:GH,∃ vAA:Value,∃ nAB:Nat,∃ csAC:List Value,St Ha wa H w (.box b29 74 [Value.slice none 0 0,Value.slice none 0 0]::.box b64 74 [vAA,v69]::.row 4 1 vAA nAB csAC::.row 45 1 v69 n70 cs71::(plT 3 1 rs75 []))∧Inc H90 H∧Els (up wa.heap.size H) eB 1 csAC xsAv∧f 1=v1∧f 2=Value.pointer (some ⟨b21,0,none⟩)∧f 4=Value.pointer (some (⟨b29,0,none⟩:Addr))∧f 5=Value.pointer (some (⟨b64,0,none⟩:Addr))∧f 6=Value.int .i64 s85.2) (by kernel_rfl) S91.sl ?_ ?_
    ·
     intro wA1 rA2
     have SA3:=S91.call rA2
     refine FB.phase [10] (fun w=>WAt w (Addr.add ⟨b64,0,none⟩ 0) [v86]) ?_
     refine FB.t (i:=0) (bs 11 1) rfl (SP.on ((SA3.box_now (i:=1) rfl).sub (j:=0) (n:=1) (c:=[v86]) rfl) (SP.nil SA3.sl)) rfl (fun w' hw'=>(E.fieldAddr tf74_0 k98)) ?_
     refine FB.p (i:=1) (bs 11 3) 0 [9,10] rfl (SP.on ((SA3.box_now (i:=1) rfl).sub (j:=0) (n:=1) (c:=[v86]) rfl) (SP.nil SA3.sl)) rfl rfl (fun w' hw'=>(E.load rfl (zae Tryz.isAgg72 hw' rfl))) ?_
     refine FB.t (i:=2) (bs 11 7) rfl (SP.on ((SA3.box_now (i:=1) rfl).sub (j:=0) (n:=1) (c:=[v86]) rfl) (SP.nil SA3.sl)) rfl (fun w' hw'=>(E.move k95)) ?_
     refine FB.t (i:=3) (bs 11 15) rfl (SP.on ((SA3.box_now (i:=1) rfl).sub (j:=0) (n:=1) (c:=[v86]) rfl) (SP.nil SA3.sl)) rfl (fun w' hw'=>(E.fieldAddr zaS k96)) ?_
     refine FB.t (i:=4) (bs 11 31) rfl (SP.on ((SA3.box_now (i:=1) rfl).sub (j:=0) (n:=1) (c:=[v86]) rfl) (SP.nil SA3.sl)) rfl (fun w' hw'=>(E.load rfl (zah Tryz.isAgg22 ((at28.mono (i78.tr i92)).now hw') rfl))) ?_
     refine FB.t (i:=5) (bs 11 63) rfl (SP.on ((SA3.box_now (i:=1) rfl).sub (j:=0) (n:=1) (c:=[v86]) rfl) (SP.nil SA3.sl)) rfl (fun w' hw'=>(E.move k99)) ?_
     obtain ⟨pA4,csA5,ptA6,lA7,atA8,relA9⟩:=p0_1.at hxAb
     obtain ⟨vAc,rfl,hAd⟩:=eL_open relA9
     refine FB.t (i:=6) (bs 11 127) rfl (SP.on ((SA3.box_now (i:=1) rfl).sub (j:=0) (n:=1) (c:=[v86]) rfl) (SP.nil SA3.sl)) rfl (fun w' hw'=>(E.indexAddr te22 rfl rfl ptA6)) ?_
     refine FB.t (i:=7) (bs 11 255) rfl (SP.on ((SA3.box_now (i:=1) rfl).sub (j:=0) (n:=1) (c:=[v86]) rfl) (SP.nil SA3.sl)) rfl (fun w' hw'=>(E.load rfl (zae Tryz.isAgg45 ((atA8.mono ((i27.tr i78).tr i92)).now hw') rfl))) ?_
     refine FB.all1 (i:=8) (by kernel_rfl) ?_
     ·
      refine FC.call (l':=(bs 11 511)) rfl (by kernel_rfl) rfl rfl rfl (E.call Tryz.call58 (A2 rfl rfl)) (zda SA3.sl v1 a1 (p1.mono ((i27.tr i78).tr i92)) vAc xAa (hAd.mono ((i27.tr i78).tr i92)) hrAf) ?_
      rintro e wAg ⟨rfl,rAh⟩
      refine ⟨_,rfl,?_⟩
      have SAi:=SA3.call rAh
      refine ⟨(SP.on ((SAi.box_now (i:=1) rfl).sub (j:=0) (n:=1) (c:=[v86]) rfl) (SP.nil SAi.sl)),?_⟩
      obtain ⟨pAj,csAk,ptAl,lAm,atAn,relAo,hallAr⟩:=SAi.row_atA (i:=2) rfl els89 (by decide) hxAq
      obtain rfl:=eB_open relAo
      refine FB.t (i:=9) (bs 11 1023) rfl (SP.on ((SAi.box_now (i:=1) rfl).sub (j:=0) (n:=1) (c:=[v86]) rfl) (SP.nil SAi.sl)) rfl (fun w' hw'=>(E.indexAddr te72 rfl rfl ptAl)) ?_
      refine FB.all1 (i:=10) (by kernel_rfl) ?_
      ·
       obtain ⟨wAs,csAy,runAt,SAu,elsAx,ceAz⟩:=SAi.putEls (P:=Tryz.prog) (t:=4) (i:=2) rfl els89 hputAw ptAl Tryz.sizeOf4 (u:=Value.bool true) (c:=[Value.bool true]) rfl rfl (zab rfl zad) rfl
       have SAu:St Ha wa H90 wAs (.box b29 74 [Value.slice none 0 0,Value.slice none 0 0]::.box b64 74 [v86,v69]::.row 4 1 v86 n87 csAy::.row 45 1 v69 n70 cs71::(plT 3 1 rs75 [])):=SAu
       refine FC.act (l':=(bs 11 2047)) rfl (by kernel_rfl) rfl rfl (E.store rfl rfl runAt) ?_
       refine ⟨(SP.o (SP.nil SAu.sl)),?_⟩
       exact FB.done (by kernel_rfl) ⟨_,_,_,_,SAu,(Inc.rfl _),elsAx,k95,k96,k97,k98,k99⟩
    ·
     rintro fAI wAH ⟨HAE,vAA,nAB,csAC,SAF,iAG,elsAD,kAJ,kAK,kAL,kAM,kAN⟩
     refine FW.region ?_
     refine FL.v (E.move kAN) ?_
     refine FL.v (E.add rfl rfl) ?_
     refine FL.v (E.assign (v:=Value.int .i64 (wr (s85.2 + 1))) rfl) ?_
     refine FL.nil ?_
     obtain rfl:=Option.some.inj hp
     exact ⟨rfl,⟨_,_,_,_,SAF,(i92.tr iAG),elsAD,kAJ,kAK,kAL,kAM,rfl⟩⟩
   ·
    refine FW.condF rfl cA0 ?_
    refine FW.exit ?_
    obtain rfl:=Option.some.inj hp
    exact ⟨nofun,rfl,⟨_,_,_,_,S91,i92,els89,k95,k96,k97,k98⟩⟩
  ·
   clear hq
   intro e fAT wAS hD
   rcases q85 with s85|x85
   ·
    obtain ⟨rfl,hD⟩:=hD
    obtain ⟨HAP,v86,n87,cs88,SAQ,iAR,els89,kAU,kAV,kAW,kAX⟩:=hD
    replace hp:=el_go hp
    refine FW.seq (FW.seq (FW.region ?_))
    refine FL.v (E.assign (v:=Value.int .i64 0) rfl) ?_
    refine FL.nil ?_
    obtain ⟨qAZ,hq,hp⟩:=bndR hp
    refine FW.block ?_
    refine FW.mono (FW.forL (S:=(List (List Int))) (X:=Empty) (fun (iAZ:Nat) (sAZ:(List (List Int))) f w=>∃ H:GH,∃ vB0:Value,∃ nB1:Nat,∃ csB2:List Value,∃ rs166:List PR,St Ha wa H w (.box b29 74 [Value.slice none 0 0,Value.slice none 0 0]::.box b64 74 [v86,vB0]::.row 4 1 v86 n87 cs88::.row 45 1 vB0 nB1 csB2::(plT 3 1 rs166 []))∧Inc HAP H∧Pool (up wa.heap.size H) eI 1 csB2 rs166 sAZ∧f 7=Value.int .i64 ((iAZ:Nat):Int)∧f 1=v1∧f 2=Value.pointer (some ⟨b21,0,none⟩)∧f 4=Value.pointer (some (⟨b29,0,none⟩:Addr))∧f 5=Value.pointer (some (⟨b64,0,none⟩:Addr))) (fun (q:Rs (List (List Int)) Empty) e f w=>match q with|.go sAZ=>e=Exit.exit 2∧(∃ H:GH,∃ vB0:Value,∃ nB1:Nat,∃ csB2:List Value,∃ rs166:List PR,St Ha wa H w (.box b29 74 [Value.slice none 0 0,Value.slice none 0 0]::.box b64 74 [v86,vB0]::.row 4 1 v86 n87 cs88::.row 45 1 vB0 nB1 csB2::(plT 3 1 rs166 []))∧Inc HAP H∧Pool (up wa.heap.size H) eI 1 csB2 rs166 sAZ∧f 4=Value.pointer (some (⟨b29,0,none⟩:Addr))∧f 5=Value.pointer (some (⟨b64,0,none⟩:Addr)))|.rt x=>x.elim) hq ⟨_,_,_,_,_,SAQ,(Inc.rfl _),(els73.mono (zaf iAR)),rfl,kAU,kAV,kAW,kAX⟩ ?_ ?_) ?_
    ·
     clear hp hq
     rintro iAZ yAY sAZ fB9 wB8 ⟨HB5,vB0,nB1,csB2,rs166,SB6,iB7,elsB3,kBa,kBb,kBc,kBd,kBe⟩ hxAZ oEm hp
     refine FW.seq (FW.seq (FW.region ?_))
     refine FL.v (E.move kBa) ?_
     refine FL.v (E.move kBb) ?_
     refine FL.v (E.lenP te22 rfl p1) ?_
     refine FL.v (E.lssT rfl rfl (zaq hxAZ)) ?_
     refine FL.nil ?_
     refine FW.condT rfl rfl ?_
     refine FW.skip (FW.seq (FW.block (FW.seq (FW.region ?_))))
     refine FL.v (E.assign (v:=Value.int .i64 0) rfl) ?_
     refine FL.nil ?_
     obtain ⟨qBg,hq,hp⟩:=bndR hp
     refine FW.block ?_
     refine FW.mono (FW.forL (S:=(List (List Int))) (X:=Empty) (fun (iBg:Nat) (sBg:(List (List Int))) f w=>∃ H:GH,∃ vBh:Value,∃ nBi:Nat,∃ csBj:List Value,∃ rs183:List PR,St Ha wa H w (.box b29 74 [Value.slice none 0 0,Value.slice none 0 0]::.box b64 74 [v86,vBh]::.row 4 1 v86 n87 cs88::.row 45 1 vBh nBi csBj::(plT 3 1 rs183 []))∧Inc HB5 H∧Pool (up wa.heap.size H) eI 1 csBj rs183 sBg∧f 8=Value.int .i64 ((iBg:Nat):Int)∧f 1=v1∧f 2=Value.pointer (some ⟨b21,0,none⟩)∧f 4=Value.pointer (some (⟨b29,0,none⟩:Addr))∧f 5=Value.pointer (some (⟨b64,0,none⟩:Addr))∧f 7=Value.int .i64 ((iAZ:Nat):Int)) (fun (q:Rs (List (List Int)) Empty) e f w=>match q with|.go sBg=>e=Exit.exit 4∧(∃ H:GH,∃ vBh:Value,∃ nBi:Nat,∃ csBj:List Value,∃ rs183:List PR,St Ha wa H w (.box b29 74 [Value.slice none 0 0,Value.slice none 0 0]::.box b64 74 [v86,vBh]::.row 4 1 v86 n87 cs88::.row 45 1 vBh nBi csBj::(plT 3 1 rs183 []))∧Inc HB5 H∧Pool (up wa.heap.size H) eI 1 csBj rs183 sBg∧f 1=v1∧f 2=Value.pointer (some ⟨b21,0,none⟩)∧f 4=Value.pointer (some (⟨b29,0,none⟩:Addr))∧f 5=Value.pointer (some (⟨b64,0,none⟩:Addr))∧f 7=Value.int .i64 ((iAZ:Nat):Int))|.rt x=>x.elim) hq ⟨_,_,_,_,_,SB6,(Inc.rfl _),elsB3,rfl,kBb,kBc,kBd,kBe,kBa⟩ ?_ ?_) ?_
     ·
      clear hp hq
      rintro iBg yBf sBg fBq wBp ⟨HBm,vBh,nBi,csBj,rs183,SBn,iBo,elsBk,kBr,kBs,kBt,kBu,kBv,kBw⟩ hxBg oE0 hp
      refine FW.seq (FW.seq (FW.region ?_))
      refine FL.v (E.move kBr) ?_
      refine FL.v (E.move kBs) ?_
      refine FL.v (E.lenP te22 rfl p1) ?_
      refine FL.v (E.lssT rfl rfl (zaq hxBg)) ?_
      refine FL.nil ?_
      refine FW.condT rfl rfl ?_
      refine FW.skip (FW.seq (FW.block (FW.seq (FW.region ?_))))
      refine FL.v (E.assign (v:=Value.int .i64 1) rfl) ?_
      refine FL.nil ?_
      obtain ⟨qBx,hq,hp⟩:=bndR hp
      refine FW.block ?_
      refine FW.mono (FW.iter (S:=((List (List Int))×Int)) (X:=Empty) (fun (sBx:((List (List Int))×Int)) f w=>∃ H:GH,∃ vBy:Value,∃ nBz:Nat,∃ csBA:List Value,∃ rs200:List PR,St Ha wa H w (.box b29 74 [Value.slice none 0 0,Value.slice none 0 0]::.box b64 74 [v86,vBy]::.row 4 1 v86 n87 cs88::.row 45 1 vBy nBz csBA::(plT 3 1 rs200 []))∧Inc HBm H∧Pool (up wa.heap.size H) eI 1 csBA rs200 sBx.1∧f 1=v1∧f 2=Value.pointer (some ⟨b21,0,none⟩)∧f 4=Value.pointer (some (⟨b29,0,none⟩:Addr))∧f 5=Value.pointer (some (⟨b64,0,none⟩:Addr))∧f 7=Value.int .i64 ((iAZ:Nat):Int)∧f 8=Value.int .i64 ((iBg:Nat):Int)∧f 9=Value.int .i64 sBx.2) (fun (q:Rs ((List (List Int))×Int) Empty) e f w=>match q with|.go sBx=>e=Exit.exit 6∧(∃ H:GH,∃ vBy:Value,∃ nBz:Nat,∃ csBA:List Value,∃ rs200:List PR,St Ha wa H w (.box b29 74 [Value.slice none 0 0,Value.slice none 0 0]::.box b64 74 [v86,vBy]::.row 4 1 v86 n87 cs88::.row 45 1 vBy nBz csBA::(plT 3 1 rs200 []))∧Inc HBm H∧Pool (up wa.heap.size H) eI 1 csBA rs200 sBx.1∧f 1=v1∧f 2=Value.pointer (some ⟨b21,0,none⟩)∧f 4=Value.pointer (some (⟨b29,0,none⟩:Addr))∧f 5=Value.pointer (some (⟨b64,0,none⟩:Addr))∧f 7=Value.int .i64 ((iAZ:Nat):Int)∧f 8=Value.int .i64 ((iBg:Nat):Int))|.rt x=>x.elim) hq ⟨_,_,_,_,_,SBn,(Inc.rfl _),elsBk,kBs,kBt,kBu,kBv,kBw,kBr,rfl⟩ ?_) ?_
      ·
       clear hp hq
       rintro sBx fBH wBG ⟨HBD,vBy,nBz,csBA,rs200,SBE,iBF,elsBB,kBI,kBJ,kBK,kBL,kBM,kBN,kBO⟩ oDO hp
       refine FW.seq (FW.seq (FW.region ?_))
       refine FL.v (E.move kBO) ?_
       refine FL.v (E.fieldAddr za0 kBJ) ?_
       refine FL.v (E.load rfl (zah Tryz.isAgg3 ((at28.mono ((((i78.tr iAR).tr iB7).tr iBo).tr iBF)).now SBE.sl) rfl)) ?_
       refine FL.v (E.leq rfl rfl) ?_
       refine FL.nil ?_
       rcases ifB hp with ⟨cBP,hp⟩|⟨cBP,hp⟩
       ·
        refine FW.condT rfl cBP ?_
        refine FW.skip (FW.seq (FW.block (FW.seq ?_)))
        obtain ⟨rC9,hrCa,hp⟩:=bnd hp
        refine FW.drawB (Sl HBD) (fun f w=>∃ H:GH,∃ vCj:Value,∃ nCk:Nat,∃ csCl:List Value,St Ha wa H w (.box b29 74 [Value.slice none 0 0,Value.slice none 0 0]::.box b64 74 [v86,vBy]::.row 4 1 v86 n87 cs88::.row 45 1 vBy nBz csBA::.row 3 1 vCj nCk csCl::(plT 3 1 rs200 []))∧Inc HBD H∧Els (up wa.heap.size H) eI 1 csCl rC9.1∧f 1=v1∧f 2=Value.pointer (some ⟨b21,0,none⟩)∧f 4=Value.pointer (some (⟨b29,0,none⟩:Addr))∧f 5=Value.pointer (some (⟨b64,0,none⟩:Addr))∧f 7=Value.int .i64 ((iAZ:Nat):Int)∧f 8=Value.int .i64 ((iBg:Nat):Int)∧f 9=Value.int .i64 sBx.2∧f 10=vCj∧f 11=Value.bool rC9.2) (by kernel_rfl) SBE.sl ?_ ?_
        ·
         intro wBQ rBR
         have SBS:=SBE.call rBR
         refine FB.t (i:=0) (bs 15 1) rfl (SP.nil SBS.sl) rfl (fun w' hw'=>(E.move kBI)) ?_
         refine FB.t (i:=1) (bs 15 3) rfl (SP.nil SBS.sl) rfl (fun w' hw'=>(E.move kBM)) ?_
         obtain ⟨pBT,csBU,ptBV,lBW,atBX,relBY⟩:=p1.at (zak hxAZ)
         obtain ⟨vBZ,rfl,hC0⟩:=eL_open relBY
         refine FB.t (i:=2) (bs 15 7) rfl (SP.nil SBS.sl) rfl (fun w' hw'=>(E.indexAddr te22 rfl rfl ptBV)) ?_
         refine FB.t (i:=3) (bs 15 15) rfl (SP.nil SBS.sl) rfl (fun w' hw'=>(E.load rfl (zae Tryz.isAgg45 ((atBX.mono (((((i27.tr i78).tr iAR).tr iB7).tr iBo).tr iBF)).now hw') rfl))) ?_
         refine FB.t (i:=4) (bs 15 31) rfl (SP.nil SBS.sl) rfl (fun w' hw'=>(E.move kBI)) ?_
         refine FB.t (i:=5) (bs 15 63) rfl (SP.nil SBS.sl) rfl (fun w' hw'=>(E.move kBN)) ?_
         obtain ⟨pC1,csC2,ptC3,lC4,atC5,relC6⟩:=p1.at (zak hxBg)
         obtain ⟨vC7,rfl,hC8⟩:=eL_open relC6
         refine FB.t (i:=6) (bs 15 127) rfl (SP.nil SBS.sl) rfl (fun w' hw'=>(E.indexAddr te22 rfl rfl ptC3)) ?_
         refine FB.t (i:=7) (bs 15 255) rfl (SP.nil SBS.sl) rfl (fun w' hw'=>(E.load rfl (zae Tryz.isAgg45 ((atC5.mono (((((i27.tr i78).tr iAR).tr iB7).tr iBo).tr iBF)).now hw') rfl))) ?_
         refine FB.t (i:=8) (bs 15 511) rfl (SP.nil SBS.sl) rfl (fun w' hw'=>(E.move kBO)) ?_
         refine FB.all1 (i:=9) (by kernel_rfl) ?_
         ·
          refine FC.call (l':=(bs 15 1023)) rfl (by kernel_rfl) rfl rfl rfl (E.call Tryz.call60 (A3 rfl rfl rfl)) (zdG SBS.sl vBZ yAY (hC0.mono (((((i27.tr i78).tr iAR).tr iB7).tr iBo).tr iBF)) vC7 yBf (hC8.mono (((((i27.tr i78).tr iAR).tr iB7).tr iBo).tr iBF)) sBx.2 hrCa) ?_
          rintro e wCc ⟨HCb,vCf,nCg,csCh,rfl,rCe,elsCi⟩
          refine ⟨_,rfl,?_⟩
          have elsCi:=elsCi.mono (up_le SBS.size)
          have SCd:=SBS.join (l':=(.row 3 1 vCf nCg csCh::.box b29 74 [Value.slice none 0 0,Value.slice none 0 0]::.box b64 74 [v86,vBy]::.row 4 1 v86 n87 cs88::.row 45 1 vBy nBz csBA::(plT 3 1 rs200 []))) rCe rfl
          refine ⟨(SP.nil (Sl.of_inc rCe.run.inc SCd.sl)),?_⟩
          refine FB.t (i:=10) (bs 15 2047) rfl (SP.nil (Sl.of_inc rCe.run.inc SCd.sl)) rfl (fun w' hw'=>(E.move (v:=Value.tuple #[vCf,Value.bool rC9.2]) rfl)) ?_
          refine FB.t (i:=11) (bs 15 4095) rfl (SP.nil (Sl.of_inc rCe.run.inc SCd.sl)) rfl (fun w' hw'=>(E.extract (i:=0) rfl rfl)) ?_
          refine FB.t (i:=12) (bs 15 8191) rfl (SP.nil (Sl.of_inc rCe.run.inc SCd.sl)) rfl (fun w' hw'=>(E.extract (i:=1) rfl rfl)) ?_
          refine FB.t (i:=13) (bs 15 16383) rfl (SP.nil (Sl.of_inc rCe.run.inc SCd.sl)) rfl (fun w' hw'=>(E.assign (v:=vCf) rfl)) ?_
          refine FB.t (i:=14) (bs 15 32767) rfl (SP.nil (Sl.of_inc rCe.run.inc SCd.sl)) rfl (fun w' hw'=>(E.assign (v:=Value.bool rC9.2) rfl)) ?_
          exact FB.done (by kernel_rfl) ⟨_,_,_,_,(SCd.selT (a:=[.row 3 1 vCf nCg csCh,.box b29 74 [Value.slice none 0 0,Value.slice none 0 0],.box b64 74 [v86,vBy],.row 4 1 v86 n87 cs88,.row 45 1 vBy nBz csBA]) (l':=[.box b29 74 [Value.slice none 0 0,Value.slice none 0 0],.box b64 74 [v86,vBy],.row 4 1 v86 n87 cs88,.row 45 1 vBy nBz csBA,.row 3 1 vCf nCg csCh]) [1,2,3,4,0] (by decide) rfl),rCe.run.inc,elsCi,kBI,kBJ,kBK,kBL,kBM,kBN,kBO,rfl,rfl⟩
        ·
         rintro fCr wCq ⟨HCn,vCj,nCk,csCl,SCo,iCp,elsCm,kCs,kCt,kCu,kCv,kCw,kCx,kCy,kCz,kCA⟩
         refine FW.seq (FW.region ?_)
         refine FL.v (E.move kCA) ?_
         refine FL.nil ?_
         rcases ifB hp with ⟨cCB,hp⟩|⟨cCB,hp⟩
         ·
          refine FW.condT rfl cCB ?_
          refine FW.seq (FW.region ?_)
          refine FL.v (E.move kCs) ?_
          refine FL.v (E.move kCz) ?_
          obtain ⟨HCC,SCD,iCE,hCF,nvCG⟩:=SCo.sealRowU (i:=4) (l':=(.box b29 74 [Value.slice none 0 0,Value.slice none 0 0]::.box b64 74 [v86,vBy]::.row 4 1 v86 n87 cs88::.row 45 1 vBy nBz csBA::(plT 3 1 rs200 []))) rfl elsCm (by decide) rfl
          obtain ⟨rCH,hrCI,hp⟩:=bnd hp
          refine FL.call rfl rfl rfl (E.call Tryz.call58 (A2 rfl rfl)) (zda SCD.sl v1 a1 (p1.mono (((((((i27.tr i78).tr iAR).tr iB7).tr iBo).tr iBF).tr iCp).tr iCE)) vCj rC9.1 (hCF.mono upI) hrCI) ?_
          rintro e wCJ ⟨rfl,rCK⟩
          refine ⟨_,rfl,?_⟩
          have rCK:=Run.lend iCE SCo.sl rCK
          have SCL:=SCo.call rCK
          refine FL.v (E.assign (v:=Value.int .i64 rCH) rfl) ?_
          refine FL.nil ?_
          obtain ⟨xCS,hxCT,hp⟩:=bnd hp
          obtain ⟨u285,zCY,hp⟩:=bnd hp
          obtain ⟨u287,zD0,hp⟩:=bnd hp
          obtain ⟨xsD7,hzD8,hp⟩:=bnd hp
          obtain ⟨xDk,hxDl,hp⟩:=bnd hp
          obtain ⟨xsDq,hputDr,hp⟩:=bnd hp
          refine FW.drawB (Sl HCn) (fun f w=>∃ H:GH,∃ vDx:Value,∃ nDy:Nat,∃ csDz:List Value,∃ rs323:List PR,St Ha wa H w (.box b29 74 [Value.slice none 0 0,Value.slice none 0 0]::.box b64 74 [v86,vDx]::.row 4 1 v86 n87 cs88::.row 45 1 vDx nDy csDz::(plT 3 1 rs323 []))∧Inc HCn H∧Pool (up wa.heap.size H) eI 1 csDz rs323 xsDq∧f 1=v1∧f 2=Value.pointer (some ⟨b21,0,none⟩)∧f 4=Value.pointer (some (⟨b29,0,none⟩:Addr))∧f 5=Value.pointer (some (⟨b64,0,none⟩:Addr))∧f 7=Value.int .i64 ((iAZ:Nat):Int)∧f 8=Value.int .i64 ((iBg:Nat):Int)∧f 9=Value.int .i64 sBx.2) (by kernel_rfl) SCL.sl ?_ ?_
          ·
           intro wCM rCN
           have SCO:=SCL.call rCN
           refine FB.phase [16] (fun w=>WAt w (Addr.add ⟨b64,0,none⟩ 1) [vBy]) ?_
           refine FB.t (i:=0) (bs 17 1) rfl (SP.on ((SCO.box_now (i:=1) rfl).sub (j:=1) (n:=1) (c:=[vBy]) rfl) (SP.nil SCO.sl)) rfl (fun w' hw'=>(E.fieldAddr tf74_1 kCv)) ?_
           refine FB.p (i:=1) (bs 17 3) 0 [15,16] rfl (SP.on ((SCO.box_now (i:=1) rfl).sub (j:=1) (n:=1) (c:=[vBy]) rfl) (SP.nil SCO.sl)) rfl rfl (fun w' hw'=>(E.load rfl (zae Tryz.isAgg22 hw' rfl))) ?_
           refine FB.t (i:=2) (bs 17 7) rfl (SP.on ((SCO.box_now (i:=1) rfl).sub (j:=1) (n:=1) (c:=[vBy]) rfl) (SP.nil SCO.sl)) rfl (fun w' hw'=>(E.move (v:=Value.int .i64 rCH) rfl)) ?_
           refine FB.t (i:=3) (bs 17 15) rfl (SP.on ((SCO.box_now (i:=1) rfl).sub (j:=1) (n:=1) (c:=[vBy]) rfl) (SP.nil SCO.sl)) rfl (fun w' hw'=>(E.fieldAddr tf74_1 kCv)) ?_
           refine FB.p (i:=4) (bs 17 31) 0 [6,7,14,15,16] rfl (SP.on ((SCO.box_now (i:=1) rfl).sub (j:=1) (n:=1) (c:=[vBy]) rfl) (SP.nil SCO.sl)) rfl rfl (fun w' hw'=>(E.load rfl (zae Tryz.isAgg22 hw' rfl))) ?_
           refine FB.t (i:=5) (bs 17 63) rfl (SP.on ((SCO.box_now (i:=1) rfl).sub (j:=1) (n:=1) (c:=[vBy]) rfl) (SP.nil SCO.sl)) rfl (fun w' hw'=>(E.move (v:=Value.int .i64 rCH) rfl)) ?_
           obtain ⟨pCP,rCV,ptCQ,atCR,hrCW,he283,hallCU⟩:=SCO.pool_at (i:=3) rfl elsBB hxCT
           refine FB.t (i:=6) (bs 17 127) rfl (SP.on ((SCO.box_now (i:=1) rfl).sub (j:=1) (n:=1) (c:=[vBy]) rfl) (SP.nil SCO.sl)) rfl (fun w' hw'=>(E.indexAddr te22 rfl rfl ptCQ)) ?_
           refine FB.phase [16] (fun w'=>WAt w' pCP [rCV.v]) ?_
           refine FB.p (i:=7) (bs 17 255) 0 [14,15,16] rfl (SP.on (hallCU _ _ _ 3 SCO rfl) (SP.on ((SCO.box_now (i:=1) rfl).sub (j:=1) (n:=1) (c:=[vBy]) rfl) (SP.nil SCO.sl))) rfl rfl (fun w' hw'=>(E.load rfl (zae Tryz.isAgg45 hw' rfl))) ?_
           refine FB.t (i:=8) (bs 17 511) rfl (SP.on (hallCU _ _ _ 3 SCO rfl) (SP.on ((SCO.box_now (i:=1) rfl).sub (j:=1) (n:=1) (c:=[vBy]) rfl) (SP.nil SCO.sl))) rfl (fun w' hw'=>(E.move kCw)) ?_
           refine FB.t (i:=9) (bs 17 1023) rfl (SP.on (hallCU _ _ _ 3 SCO rfl) (SP.on ((SCO.box_now (i:=1) rfl).sub (j:=1) (n:=1) (c:=[vBy]) rfl) (SP.nil SCO.sl))) rfl (fun w' hw'=>(E.shl rfl rfl (nn_ge zCY))) ?_
           refine FB.t (i:=10) (bs 17 2047) rfl (SP.on (hallCU _ _ _ 3 SCO rfl) (SP.on ((SCO.box_now (i:=1) rfl).sub (j:=1) (n:=1) (c:=[vBy]) rfl) (SP.nil SCO.sl))) rfl (fun w' hw'=>(E.move kCx)) ?_
           refine FB.t (i:=11) (bs 17 4095) rfl (SP.on (hallCU _ _ _ 3 SCO rfl) (SP.on ((SCO.box_now (i:=1) rfl).sub (j:=1) (n:=1) (c:=[vBy]) rfl) (SP.nil SCO.sl))) rfl (fun w' hw'=>(E.shl rfl rfl (nn_ge zD0))) ?_
           refine FB.t (i:=12) (bs 17 8191) rfl (SP.on (hallCU _ _ _ 3 SCO rfl) (SP.on ((SCO.box_now (i:=1) rfl).sub (j:=1) (n:=1) (c:=[vBy]) rfl) (SP.nil SCO.sl))) rfl (fun w' hw'=>(E.or rfl rfl)) ?_
           refine FB.all1 (i:=13) (by kernel_rfl) ?_
           ·
            obtain ⟨vD2,wD3,runD4,SD5,elsD6⟩:=SCO.ints (P:=Tryz.prog) te45 (up wa.heap.size HCn) 1 [(orK true 64 (shlK true 64 1 ((iAZ:Nat):Int)) (shlK true 64 1 ((iBg:Nat):Int)))]
            refine FC.val (l':=(bs 17 16383)) rfl (by kernel_rfl) rfl rfl rfl (E.buildSlice (B1 rfl) runD4) ?_
            refine ⟨(SP.on (hallCU _ _ _ 4 SD5 rfl) (SP.on ((SD5.box_now (i:=2) rfl).sub (j:=1) (n:=1) (c:=[vBy]) rfl) (SP.nil SD5.sl))),?_⟩
            refine FB.all1 (i:=14) (by kernel_rfl) ?_
            ·
             obtain ⟨wDa,rD9,runDb,SDc,elsDd,hcDe,hcDf⟩:=SD5.poolAppend (P:=Tryz.prog) (a:=[.row 3 1 vD2 1 (iC [(orK true 64 (shlK true 64 1 ((iAZ:Nat):Int)) (shlK true 64 1 ((iBg:Nat):Int)))]),.box b29 74 [Value.slice none 0 0,Value.slice none 0 0],.box b64 74 [v86,vBy],.row 4 1 v86 n87 cs88,.row 45 1 vBy nBz csBA,.row 3 1 vCj nCk csCl]) (L:=[]) te45 hrCW (he283.mono (zaf iCp)) (q:=0) rfl elsD6 hzD8
             have SDc:St Ha wa HCn wDa (.row 3 1 vD2 1 (iC [(orK true 64 (shlK true 64 1 ((iAZ:Nat):Int)) (shlK true 64 1 ((iBg:Nat):Int)))])::.box b29 74 [Value.slice none 0 0,Value.slice none 0 0]::.box b64 74 [v86,vBy]::.row 4 1 v86 n87 cs88::.row 45 1 vBy nBz csBA::.row 3 1 vCj nCk csCl::(plT 3 1 (rs200.set (Int.toNat rCH) rD9) [])):=SDc
             have SDg:St Ha wa HCn wDa (.box b29 74 [Value.slice none 0 0,Value.slice none 0 0]::.box b64 74 [v86,vBy]::.row 4 1 v86 n87 cs88::.row 45 1 vBy nBz csBA::.row 3 1 vCj nCk csCl::(plT 3 1 (rs200.set (Int.toNat rCH) rD9) [])):=SDc.drop 0
             refine FC.val (l':=(bs 17 32767)) rfl (by kernel_rfl) rfl rfl rfl (E.append rfl rfl runDb) ?_
             refine ⟨(SP.on (hallCU _ _ _ 3 SDg rfl) (SP.on ((SDg.box_now (i:=1) rfl).sub (j:=1) (n:=1) (c:=[vBy]) rfl) (SP.nil SDg.sl))),?_⟩
             obtain ⟨pDh,rDn,ptDi,atDj,hrDo,he311,hallDm⟩:=SDg.pool_at (i:=3) rfl elsBB hxDl
             refine FB.t (i:=15) (bs 17 65535) rfl (SP.on (hallCU _ _ _ 3 SDg rfl) (SP.on ((SDg.box_now (i:=1) rfl).sub (j:=1) (n:=1) (c:=[vBy]) rfl) (SP.nil SDg.sl))) rfl (fun w' hw'=>(E.indexAddr te22 rfl rfl ptDi)) ?_
             refine FB.all1 (i:=16) (by kernel_rfl) ?_
             ·
              obtain ⟨wDs,csDt,runDu,SDv,elsDw⟩:=SDg.poolPut (P:=Tryz.prog) (t:=45) (i:=3) rfl (elsBB.mono (zaf iCp)) elsDd hputDr ptDi Tryz.sizeOf45 hcDe hcDf
              have SDv:St Ha wa HCn wDs (.box b29 74 [Value.slice none 0 0,Value.slice none 0 0]::.box b64 74 [v86,vBy]::.row 4 1 v86 n87 cs88::.row 45 1 vBy nBz csDt::.row 3 1 vCj nCk csCl::(plT 3 1 (rs200.set (Int.toNat rCH) rD9) [])):=SDv
              refine FC.act (l':=(bs 17 131071)) rfl (by kernel_rfl) rfl rfl (E.store rfl rfl runDu) ?_
              refine ⟨(SP.o (SP.o (SP.nil SDv.sl))),?_⟩
              exact FB.done (by kernel_rfl) ⟨_,_,_,_,_,(SDv.selT (a:=[.box b29 74 [Value.slice none 0 0,Value.slice none 0 0],.box b64 74 [v86,vBy],.row 4 1 v86 n87 cs88,.row 45 1 vBy nBz csDt,.row 3 1 vCj nCk csCl]) (l':=[.box b29 74 [Value.slice none 0 0,Value.slice none 0 0],.box b64 74 [v86,vBy],.row 4 1 v86 n87 cs88,.row 45 1 vBy nBz csDt]) [0,1,2,3] (by decide) rfl),(Inc.rfl _),elsDw,kCs,kCt,kCu,kCv,kCw,kCx,kCy⟩
          ·
           rintro fDG wDF ⟨HDC,vDx,nDy,csDz,rs323,SDD,iDE,elsDA,kDH,kDI,kDJ,kDK,kDL,kDM,kDN⟩
           refine FW.region ?_
           refine FL.v (E.move kDN) ?_
           refine FL.v (E.add rfl rfl) ?_
           refine FL.v (E.assign (v:=Value.int .i64 (wr (sBx.2 + 1))) rfl) ?_
           refine FL.nil ?_
           obtain rfl:=Option.some.inj hp
           exact ⟨rfl,⟨_,_,_,_,_,SDD,((iBF.tr iCp).tr iDE),elsDA,kDH,kDI,kDJ,kDK,kDL,kDM,rfl⟩⟩
         ·
          refine FW.condF rfl cCB ?_
          refine FW.skip (FW.region ?_)
          refine FL.v (E.move kCy) ?_
          refine FL.v (E.add rfl rfl) ?_
          refine FL.v (E.assign (v:=Value.int .i64 (wr (sBx.2 + 1))) rfl) ?_
          refine FL.nil ?_
          obtain rfl:=Option.some.inj hp
          exact ⟨rfl,⟨_,_,_,_,_,(SCo.selT (a:=[.box b29 74 [Value.slice none 0 0,Value.slice none 0 0],.box b64 74 [v86,vBy],.row 4 1 v86 n87 cs88,.row 45 1 vBy nBz csBA,.row 3 1 vCj nCk csCl]) (l':=[.box b29 74 [Value.slice none 0 0,Value.slice none 0 0],.box b64 74 [v86,vBy],.row 4 1 v86 n87 cs88,.row 45 1 vBy nBz csBA]) [0,1,2,3] (by decide) rfl),(iBF.tr iCp),(elsBB.mono (zaf iCp)),kCs,kCt,kCu,kCv,kCw,kCx,rfl⟩⟩
       ·
        refine FW.condF rfl cBP ?_
        refine FW.exit ?_
        obtain rfl:=Option.some.inj hp
        exact ⟨nofun,rfl,⟨_,_,_,_,_,SBE,iBF,elsBB,kBI,kBJ,kBK,kBL,kBM,kBN⟩⟩
      ·
       clear hq
       intro e fDT wDS hD
       rcases qBx with sBx|xBx
       ·
        obtain ⟨rfl,hD⟩:=hD
        obtain ⟨HDP,vBy,nBz,csBA,rs200,SDQ,iDR,elsBB,kDU,kDV,kDW,kDX,kDY,kDZ⟩:=hD
        replace hp:=el_go hp
        refine FW.region ?_
        refine FL.v (E.move kDZ) ?_
        refine FL.v (E.add rfl rfl) ?_
        refine FL.v (E.assign (v:=Value.int .i64 (wr (((iBg:Nat):Int) + 1))) rfl) ?_
        refine FL.nil ?_
        obtain rfl:=Option.some.inj hp
        exact ⟨rfl,⟨_,_,_,_,_,SDQ,(iBo.tr iDR),elsBB,(zam rfl (zal hxBg) (p1.mono (((((i27.tr i78).tr iAR).tr iB7).tr iBo).tr iDR)).le),kDU,kDV,kDW,kDX,kDY⟩⟩
       ·
        exact xBx.elim
     ·
      clear hp hq
      rintro sBg fEf wEe ⟨HEb,vBh,nBi,csBj,rs183,SEc,iEd,elsBk,kEg,kEh,kEi,kEj,kEk,kEl⟩
      refine FW.seq (FW.seq (FW.region ?_))
      refine FL.v (E.move kEg) ?_
      refine FL.v (E.move kEh) ?_
      refine FL.v (E.lenP te22 rfl p1) ?_
      refine FL.v (E.lss rfl rfl) ?_
      refine FL.nil ?_
      refine FW.condF rfl zar ?_
      refine FW.exit ?_
      exact ⟨nofun,rfl,⟨_,_,_,_,_,SEc,iEd,elsBk,kEh,kEi,kEj,kEk,kEl⟩⟩
     ·
      clear hq
      intro e fE5 wE4 hD
      rcases qBg with sBg|xBg
      ·
       obtain ⟨rfl,hD⟩:=hD
       obtain ⟨HE1,vBh,nBi,csBj,rs183,SE2,iE3,elsBk,kE6,kE7,kE8,kE9,kEa⟩:=hD
       replace hp:=el_go hp
       refine FW.region ?_
       refine FL.v (E.move kEa) ?_
       refine FL.v (E.add rfl rfl) ?_
       refine FL.v (E.assign (v:=Value.int .i64 (wr (((iAZ:Nat):Int) + 1))) rfl) ?_
       refine FL.nil ?_
       obtain rfl:=Option.some.inj hp
       exact ⟨rfl,⟨_,_,_,_,_,SE2,(iB7.tr iE3),elsBk,(zam rfl (zal hxAZ) (p1.mono ((((i27.tr i78).tr iAR).tr iB7).tr iE3)).le),kE6,kE7,kE8,kE9⟩⟩
      ·
       exact xBg.elim
    ·
     clear hp hq
     rintro sAZ fEP wEO ⟨HEL,vB0,nB1,csB2,rs166,SEM,iEN,elsB3,kEQ,kER,kES,kET,kEU⟩
     refine FW.seq (FW.seq (FW.region ?_))
     refine FL.v (E.move kEQ) ?_
     refine FL.v (E.move kER) ?_
     refine FL.v (E.lenP te22 rfl p1) ?_
     refine FL.v (E.lss rfl rfl) ?_
     refine FL.nil ?_
     refine FW.condF rfl zar ?_
     refine FW.exit ?_
     exact ⟨nofun,rfl,⟨_,_,_,_,_,SEM,iEN,elsB3,kET,kEU⟩⟩
    ·
     clear hq
     intro e fEr wEq hD
     rcases qAZ with sAZ|xAZ
     ·
      obtain ⟨rfl,hD⟩:=hD
      obtain ⟨HEn,vB0,nB1,csB2,rs166,SEo,iEp,elsB3,kEs,kEt⟩:=hD
      replace hp:=el_go hp
      refine FW.seq (FW.region ?_)
      refine FL.v (E.load kEt (zax Tryz.isAgg74 Tryz.sizeOf74 (SEo.box_now (i:=1) rfl) rfl)) ?_
      obtain ⟨wEu,runEv,SEw⟩:=SEo.store0 (P:=Tryz.prog) (t:=74) (i:=0) (cs':=[v86,vB0]) (l':=(.box b29 74 [v86,vB0]::.box b64 74 [v86,vB0]::.row 4 1 v86 n87 cs88::.row 45 1 vB0 nB1 csB2::(plT 3 1 rs166 []))) (v:=Value.agg #[v86,vB0]) (c:=[v86,vB0]) rfl Tryz.sizeOf74 rfl rfl (zab (Ln.one (SEo.row_ln (i:=2) rfl)) (zab (Ln.one (SEo.row_ln (i:=3) rfl)) zad)) (Nat.le_of_ble_eq_true rfl) rfl rfl
      refine FL.act rfl rfl (E.store kEs rfl runEv) ?_
      refine FL.nil ?_
      refine FW.ret ?_
      obtain ⟨HEx,SEy,iEz,hEA,nvEB⟩:=SEw.sealRowU (i:=2) (l':=(.box b29 74 [v86,vB0]::.box b64 74 [v86,vB0]::.row 45 1 vB0 nB1 csB2::(plT 3 1 rs166 []))) rfl (els89.mono (zaf iEp)) (by decide) rfl
      obtain ⟨HEC,SED,iEE,elsEF⟩:=SEy.poolEls (a:=[.box b29 74 [v86,vB0],.box b64 74 [v86,vB0],.row 45 1 vB0 nB1 csB2]) (L:=[]) (elsB3.mono (zaf iEz)) (by decide)
      have SED:St Ha wa HEC wEu [.box b29 74 [v86,vB0],.box b64 74 [v86,vB0],.row 45 1 vB0 nB1 csB2]:=SED
      obtain ⟨HEG,SEH,iEI,hEJ,nvEK⟩:=SED.sealRowU (i:=2) (l':=[.box b29 74 [v86,vB0],.box b64 74 [v86,vB0]]) rfl elsEF (by decide) rfl
      obtain rfl:=Option.some.inj hp
      exact ⟨.inr rfl,resC rfl kEs (loadVar_A Tryz.isAgg74 Tryz.sizeOf74 (SEH.box_now (i:=0) rfl) rfl) ⟨_,_,_,rfl,SEH.run,(hEA.mono (zaf (iEE.tr iEI))),hEJ⟩⟩
     ·
      exact xAZ.elim
   ·
    exact x85.elim

theorem w_spec_l14Count {Ha:GH} {wa:World} (hs:Sl Ha wa) (a0:Int) {r:Int} (hp:(PF.zb2 a0)=some r) :
  Calls Tryz.prog 45 #[Value.int .i64 a0] wa (Sc Ha wa (Value.int .i64 r)):=by
 unfold PF.zb2 at hp
 have S0:=St.init hs
 refine zag (N:=13) (args:=[Value.int .i64 a0]) Tryz.func45 rfl rfl rfl ?_
 refine FW.seq (FW.region ?_)
 refine FL.v (E.assign (v:=Value.int .i64 0) rfl) ?_
 refine FL.nil (FW.seq (FW.region ?_))
 refine FL.v (E.assign (v:=Value.int .i64 0) rfl) ?_
 refine FL.nil (FW.seq ?_)
 obtain ⟨q21,hq,hp⟩:=bndR hp
 refine FW.block ?_
 refine FW.mono (FW.iter (S:=(Int×Int)) (X:=Empty) (fun (s21:(Int×Int)) f w=>∃ H:GH,St Ha wa H w []∧Inc Ha H∧f 0=Value.int .i64 s21.1∧f 3=Value.int .i64 s21.2) (fun (q:Rs (Int×Int) Empty) e f w=>match q with|.go s21=>e=Exit.exit 0∧(∃ H:GH,St Ha wa H w []∧Inc Ha H∧f 3=Value.int .i64 s21.2)|.rt x=>x.elim) hq ⟨_,S0,(Inc.rfl _),rfl,rfl⟩ ?_) ?_
 ·
  clear hp hq
  rintro s21 f34 w33 ⟨H30,S31,i32,k35,k36⟩ o38 hp
  refine FW.seq (FW.seq (FW.region ?_))
  refine FL.v (E.move k35) ?_
  refine FL.v (E.gtr rfl rfl) ?_
  refine FL.nil ?_
  rcases ifB hp with ⟨c37,hp⟩|⟨c37,hp⟩
  ·
   refine FW.condT rfl c37 ?_
   refine FW.skip (FW.seq (FW.block (FW.region ?_)))
   refine FL.v (E.move k36) ?_
   refine FL.v (E.move k35) ?_
   refine FL.v (E.rem rfl rfl (by decide)) ?_
   refine FL.v (E.add rfl rfl) ?_
   refine FL.v (E.assign (v:=Value.int .i64 (wr (s21.2 + (s21.1.tmod 2)))) rfl) ?_
   refine FL.nil (FW.region ?_)
   refine FL.v (E.move k35) ?_
   refine FL.v (E.quo rfl rfl (by decide)) ?_
   refine FL.v (E.assign (v:=Value.int .i64 (wr (s21.1.tdiv 2))) rfl) ?_
   refine FL.nil ?_
   obtain rfl:=Option.some.inj hp
   exact ⟨rfl,⟨_,S31,i32,rfl,rfl⟩⟩
  ·
   refine FW.condF rfl c37 ?_
   refine FW.exit ?_
   obtain rfl:=Option.some.inj hp
   exact ⟨nofun,rfl,⟨_,S31,i32,k36⟩⟩
 ·
  clear hq
  intro e f43 w42 hD
  rcases q21 with s21|x21
  ·
   obtain ⟨rfl,hD⟩:=hD
   obtain ⟨H39,S40,i41,k44⟩:=hD
   replace hp:=el_go hp
   refine FW.seq (FW.region ?_)
   refine FL.v (E.move k44) ?_
   refine FL.v (E.assign (v:=Value.int .i64 s21.2) rfl) ?_
   refine FL.nil ?_
   refine FW.ret ?_
   obtain rfl:=Option.some.inj hp
   exact ⟨.inr rfl,res1 rfl rfl ⟨rfl,S40.back⟩⟩
  ·
   exact x21.elim

set_option maxHeartbeats 4000000 in
theorem w_spec_l15Gain {Ha:GH} {wa:World} (hs:Sl Ha wa) (a0:zbE) (v0_0:Value) (p0_0:RSl Ha eB 1 v0_0 a0.axiomS) (v0_1:Value) (p0_1:RSl Ha (eL eI 1) 1 v0_1 a0.pairs) (a1:Int) (a2:Int) {r:Bool} (hp:(PF.zb3 a0 a1 a2)=some r) :
  Calls Tryz.prog 46 #[Value.agg #[v0_0,v0_1],Value.int .i64 a1,Value.int .i64 a2] wa (Sc Ha wa (Value.bool r)):=by
 unfold PF.zb3 at hp
 have S0:=St.init hs
 refine zag (N:=48) (args:=[Value.agg #[v0_0,v0_1],Value.int .i64 a1,Value.int .i64 a2]) Tryz.func46 rfl rfl rfl ?_
 refine FW.seq (FW.region ?_)
 obtain ⟨b21,w22,run23,S24⟩:=S0.box (P:=Tryz.prog) 74 [v0_0,v0_1] (v:=Value.agg #[v0_0,v0_1]) rfl (zab p0_0.one (zab p0_1.one zad))
 refine FL.v (E.box rfl run23) ?_
 obtain ⟨H25,S26,i27,at28⟩:=S24.sealBox (i:=0) (l':=[]) rfl rfl
 refine FL.v (E.assign (v:=Value.bool false) rfl) ?_
 refine FL.nil (FW.seq (FW.region ?_))
 refine FL.v (E.fieldAddr tf74_0 rfl) ?_
 refine FL.v (E.load rfl (zah Tryz.isAgg72 (at28.now S26.sl) rfl)) ?_
 refine FL.v (E.move (v:=Value.int .i64 a2) rfl) ?_
 obtain ⟨x35,hx36,hp⟩:=bnd hp
 obtain ⟨p29,cs30,pt31,l32,at33,rel34⟩:=p0_0.at hx36
 obtain rfl:=eB_open rel34
 refine FL.v (E.indexAddr te72 rfl rfl pt31) ?_
 refine FL.v (E.load rfl (zae Tryz.isAgg4 ((at33.mono i27).now S26.sl) rfl)) ?_
 refine FL.v (E.assign (v:=Value.bool x35) rfl) ?_
 refine FL.nil (FW.seq (FW.seq (FW.region ?_)))
 refine FL.v (E.assign (v:=Value.int .i64 0) rfl) ?_
 refine FL.nil ?_
 obtain ⟨q37,hq,hp⟩:=bndR hp
 refine FW.block ?_
 refine FW.mono (FW.iter (S:=(Bool×Int)) (X:=Empty) (fun (s37:(Bool×Int)) f w=>∃ H:GH,St Ha wa H w []∧Inc H25 H∧f 1=Value.int .i64 a1∧f 2=Value.int .i64 a2∧f 3=Value.pointer (some ⟨b21,0,none⟩)∧f 7=Value.bool s37.1∧f 8=Value.int .i64 s37.2) (fun (q:Rs (Bool×Int) Empty) e f w=>match q with|.go s37=>e=Exit.exit 0∧(∃ H:GH,St Ha wa H w []∧Inc H25 H∧f 7=Value.bool s37.1)|.rt x=>x.elim) hq ⟨_,S26,(Inc.rfl _),rfl,rfl,rfl,rfl,rfl⟩ ?_) ?_
 ·
  clear hp hq
  rintro s37 fAg wAf ⟨HAc,SAd,iAe,kAh,kAi,kAj,kAk,kAl⟩ oBo hp
  refine FW.seq (FW.seq (FW.region ?_))
  refine FL.v (E.move kAl) ?_
  refine FL.v (E.fieldAddr tf74_1 kAj) ?_
  refine FL.v (E.load rfl (zah Tryz.isAgg22 ((at28.mono iAe).now SAd.sl) rfl)) ?_
  refine FL.v (E.move kAi) ?_
  obtain ⟨xAs,hxAt,hp⟩:=bnd hp
  obtain ⟨pAm,csAn,ptAo,lAp,atAq,relAr⟩:=p0_1.at hxAt
  obtain ⟨vAu,rfl,hAv⟩:=eL_open relAr
  refine FL.v (E.indexAddr te22 rfl rfl ptAo) ?_
  refine FL.v (E.load rfl (zae Tryz.isAgg45 ((atAq.mono (i27.tr iAe)).now SAd.sl) rfl)) ?_
  refine FL.v (E.lenP te45 rfl hAv) ?_
  refine FL.v (E.lss rfl rfl) ?_
  refine FL.v (E.move (v:=Value.bool (decide (s37.2 < (len xAs)))) rfl) ?_
  refine FL.cut 3 (fun f w=>∃ H:GH,St Ha wa H w []∧Inc HAc H∧f 1=Value.int .i64 a1∧f 2=Value.int .i64 a2∧f 3=Value.pointer (some ⟨b21,0,none⟩)∧f 7=Value.bool s37.1∧f 8=Value.int .i64 s37.2∧f 25=Value.bool (bif (decide (s37.2 < (len xAs))) then (!s37.1) else false)) ?_ ?_
  ·
   rcases bcase (decide (s37.2 < (len xAs))) with cAC|cAC
   ·
    refine FL.val (zac rfl rfl rfl cAC) rfl rfl (E.move kAk) ?_
    refine FL.val (zac rfl rfl rfl cAC) rfl rfl (E.not rfl) ?_
    refine FL.v (E.pickT rfl cAC rfl) ?_
    exact FL.nil ⟨rfl,_,SAd,(Inc.rfl _),kAh,kAi,kAj,kAk,kAl,(congrArg Value.bool (bifT cAC).symm)⟩
   ·
    refine FL.skip (wF_no rfl rfl rfl cAC) rfl ?_
    refine FL.skip (wF_no rfl rfl rfl cAC) rfl ?_
    refine FL.v (E.pickF rfl cAC rfl) ?_
    exact FL.nil ⟨rfl,_,SAd,(Inc.rfl _),kAh,kAi,kAj,kAk,kAl,(congrArg Value.bool (bifF cAC).symm)⟩
  rintro fAB wAA ⟨HAx,SAy,iAz,kAD,kAE,kAF,kAG,kAH,kAI⟩
  refine FL.nil ?_
  rcases ifB hp with ⟨cAJ,hp⟩|⟨cAJ,hp⟩
  ·
   refine FW.condT kAI cAJ ?_
   refine FW.skip (FW.seq (FW.block ?_))
   refine FW.draw (fun w'=>Run wAA.heap.size HAx wAA HAx w') (by kernel_rfl) (by kernel_rfl) (zaF SAy.sl) ?_
   refine FD.val rfl rfl rfl (fun w' hw'=>(E.move kAD)) ?_
   refine FD.val rfl rfl rfl (fun w' hw'=>(E.fieldAddr tf74_1 kAF)) ?_
   refine FD.val rfl rfl rfl (fun w' hw'=>(E.load rfl (zah Tryz.isAgg22 ((at28.mono (iAe.tr iAz)).now (SAy.call hw').sl) rfl))) ?_
   refine FD.val rfl rfl rfl (fun w' hw'=>(E.move kAE)) ?_
   obtain ⟨xAR,hxAS,hp⟩:=bnd hp
   obtain ⟨pAL,csAM,ptAN,lAO,atAP,relAQ⟩:=p0_1.at hxAS
   obtain ⟨vAT,rfl,hAU⟩:=eL_open relAQ
   refine FD.val rfl rfl rfl (fun w' hw'=>(E.indexAddr te22 rfl rfl ptAN)) ?_
   refine FD.val rfl rfl rfl (fun w' hw'=>(E.load rfl (zae Tryz.isAgg45 ((atAP.mono ((i27.tr iAe).tr iAz)).now (SAy.call hw').sl) rfl))) ?_
   refine FD.val rfl rfl rfl (fun w' hw'=>(E.move kAH)) ?_
   obtain ⟨xB1,hxB2,hp⟩:=bnd hp
   obtain ⟨pAV,csAW,ptAX,lAY,atAZ,relB0⟩:=hAU.at hxB2
   obtain rfl:=eI_open relB0
   refine FD.val rfl rfl rfl (fun w' hw'=>(E.indexAddr te45 rfl rfl ptAX)) ?_
   refine FD.val rfl rfl rfl (fun w' hw'=>(E.load rfl (zae Tryz.isAgg3 ((atAZ.mono ((i27.tr iAe).tr iAz)).now (SAy.call hw').sl) rfl))) ?_
   refine FD.val rfl rfl rfl (fun w' hw'=>(E.and rfl rfl)) ?_
   refine FD.val rfl rfl rfl (fun w' hw'=>(E.fieldAddr tf74_1 kAF)) ?_
   refine FD.val rfl rfl rfl (fun w' hw'=>(E.load rfl (zah Tryz.isAgg22 ((at28.mono (iAe.tr iAz)).now (SAy.call hw').sl) rfl))) ?_
   refine FD.val rfl rfl rfl (fun w' hw'=>(E.move kAE)) ?_
   obtain ⟨xB9,hxBa,hp⟩:=bnd hp
   obtain ⟨pB3,csB4,ptB5,lB6,atB7,relB8⟩:=p0_1.at hxBa
   obtain ⟨vBb,rfl,hBc⟩:=eL_open relB8
   refine FD.val rfl rfl rfl (fun w' hw'=>(E.indexAddr te22 rfl rfl ptB5)) ?_
   refine FD.val rfl rfl rfl (fun w' hw'=>(E.load rfl (zae Tryz.isAgg45 ((atB7.mono ((i27.tr iAe).tr iAz)).now (SAy.call hw').sl) rfl))) ?_
   refine FD.val rfl rfl rfl (fun w' hw'=>(E.move kAH)) ?_
   obtain ⟨xBj,hxBk,hp⟩:=bnd hp
   obtain ⟨pBd,csBe,ptBf,lBg,atBh,relBi⟩:=hBc.at hxBk
   obtain rfl:=eI_open relBi
   refine FD.val rfl rfl rfl (fun w' hw'=>(E.indexAddr te45 rfl rfl ptBf)) ?_
   refine FD.val rfl rfl rfl (fun w' hw'=>(E.load rfl (zae Tryz.isAgg3 ((atBh.mono ((i27.tr iAe).tr iAz)).now (SAy.call hw').sl) rfl))) ?_
   refine FD.val rfl rfl rfl (fun w' hw'=>(E.eql rfl rfl)) ?_
   refine FD.val rfl rfl rfl (fun w' hw'=>(E.assign (v:=Value.bool ((andK true 64 a1 xB1) == xBj)) rfl)) ?_
   refine FD.nil ?_
   intro wBl rBn
   have SBm:=SAy.call rBn
   refine FW.region ?_
   refine FL.v (E.move kAH) ?_
   refine FL.v (E.add rfl rfl) ?_
   refine FL.v (E.assign (v:=Value.int .i64 (wr (s37.2 + 1))) rfl) ?_
   refine FL.nil ?_
   obtain rfl:=Option.some.inj hp
   exact ⟨rfl,⟨_,SBm,(iAe.tr iAz),kAD,kAE,kAF,rfl,rfl⟩⟩
  ·
   refine FW.condF kAI cAJ ?_
   refine FW.exit ?_
   obtain rfl:=Option.some.inj hp
   exact ⟨nofun,rfl,⟨_,SAy,(iAe.tr iAz),kAG⟩⟩
 ·
  clear hq
  intro e fBt wBs hD
  rcases q37 with s37|x37
  ·
   obtain ⟨rfl,hD⟩:=hD
   obtain ⟨HBp,SBq,iBr,kBu⟩:=hD
   replace hp:=el_go hp
   refine FW.seq (FW.region ?_)
   refine FL.v (E.move kBu) ?_
   refine FL.v (E.assign (v:=Value.bool s37.1) rfl) ?_
   refine FL.nil ?_
   refine FW.ret ?_
   obtain rfl:=Option.some.inj hp
   exact ⟨.inr rfl,res1 rfl rfl ⟨rfl,SBq.back⟩⟩
  ·
   exact x37.elim

@[reducible] def p_spec_l15From (Ha:GH) (wa:World) (r:(List Int)):Ending→World→Prop :=
 fun e w'=>∃ H':GH,∃ v0:Value,∃ n0:Nat,∃ c0:List Value,e=.returned (v0)∧St Ha wa H' w' [.row 3 1 v0 n0 c0]∧Els (up wa.heap.size H') eI 1 c0 r
set_option maxHeartbeats 4000000 in
theorem w_spec_l15From {Ha:GH} {wa:World} (hs:Sl Ha wa) (a0:Cnf) (v0_1:Value) (p0_1:RSl Ha (eL eI 1) 1 v0_1 a0.clauses) (v1:Value) (a1:List (List Int)) (p1:RSl Ha (eL eI 1) 1 v1 a1) (a2:Int) {r:(List Int)} (hp:(PF.zbI a0 a1 a2)=some r) :
  Calls Tryz.prog 23 #[Value.agg #[Value.int .i64 a0.vars,v0_1],v1,Value.int .i64 a2] wa (p_spec_l15From Ha wa r):=by
 unfold PF.zbI at hp
 have S0:=St.init hs
 refine zag (N:=99) (args:=[Value.agg #[Value.int .i64 a0.vars,v0_1],v1,Value.int .i64 a2]) Tryz.func23 rfl rfl rfl ?_
 refine FW.seq (FW.region ?_)
 obtain ⟨b21,w22,run23,S24⟩:=S0.box (P:=Tryz.prog) 28 [Value.int .i64 a0.vars,v0_1] (v:=Value.agg #[Value.int .i64 a0.vars,v0_1]) rfl (zab rfl (zab p0_1.one zad))
 refine FL.v (E.box rfl run23) ?_
 obtain ⟨H25,S26,i27,at28⟩:=S24.sealBox (i:=0) (l':=[]) rfl rfl
 refine FL.v (E.assign (v:=Value.slice none 0 0) rfl) ?_
 refine FL.nil (FW.seq ?_)
 obtain ⟨u33,z32,hp⟩:=bnd hp
 obtain ⟨xs34,hm35,hp⟩:=bnd hp
 obtain ⟨r44,hr46,hp⟩:=bnd hp
 refine FW.drawB (Sl H25) (fun f w=>∃ H:GH,∃ v68:Value,∃ n69:Nat,∃ cs70:List Value,∃ q72:Addr,∃ v74:Value,∃ v77:Value,St Ha wa H w [.row 3 1 v68 n69 cs70]∧Inc H25 H∧Els (up wa.heap.size H) eI 1 cs70 xs34∧RSl (up wa.heap.size H) eB 1 v74 r44.axiomS∧RSl (up wa.heap.size H) (eL eI 1) 1 v77 r44.pairs∧CAt H q72 [v74,v77]∧New H25 [v74]∧New H25 [v77]∧f 1=v1∧f 2=Value.int .i64 a2∧f 7=v68∧f 8=Value.pointer (some q72)) (by kernel_rfl) S26.sl ?_ ?_
 ·
  intro w29 r30
  have S31:=S26.call r30
  refine FB.t (i:=0) (bs 10 1) rfl (SP.nil S31.sl) rfl (fun w' hw'=>(E.move (v:=v1) rfl)) ?_
  refine FB.t (i:=1) (bs 10 3) rfl (SP.nil S31.sl) rfl (fun w' hw'=>(E.lenP te22 rfl p1)) ?_
  refine FB.t (i:=2) (bs 10 7) rfl (SP.nil S31.sl) rfl (fun w' hw'=>(E.shl rfl rfl (nn_ge z32))) ?_
  refine FB.t (i:=4) (bs 10 23) rfl (SP.nil S31.sl) rfl (fun w' hw'=>(E.load rfl (zax Tryz.isAgg28 Tryz.sizeOf28 (at28.now hw') rfl))) ?_
  refine FB.t (i:=5) (bs 10 55) rfl (SP.nil S31.sl) rfl (fun w' hw'=>(E.move (v:=v1) rfl)) ?_
  refine FB.all3 (i:=3) (j:=6) (k:=7) (by kernel_rfl) ?_ ?_ ?_
  ·
   obtain ⟨v36,w37,n41,cs42,run38,S39,els40,hbl43⟩:=S31.makeEls (P:=Tryz.prog) te45 (G:=(up wa.heap.size H25)) (En:=eI) (x0:=(0:Int)) hm35 rfl (zab rfl zad) .i64 .i64
   refine FC.val (l':=(bs 10 63)) rfl (by kernel_rfl) rfl rfl rfl (E.makeSlice rfl rfl run38) ?_
   refine ⟨(SP.nil S39.sl),?_⟩
   refine FB.all2 (i:=6) (j:=7) (by kernel_rfl) ?_ ?_
   ·
    refine FC.call (l':=(bs 10 127)) rfl (by kernel_rfl) rfl rfl rfl (E.call Tryz.call44 (A2 rfl rfl)) (zcR S39.sl a0 v0_1 (p0_1.mono i27) v1 a1 (p1.mono i27) hr46) ?_
    rintro e w48 ⟨H47,v51,v54,rfl,r50,h52,h55⟩
    refine ⟨_,rfl,?_⟩
    have nv53:New H25 [v51]:=New.of_up S39.sl h52.dom
    have h52:=h52.mono (up_le S39.size)
    have nv56:New H25 [v54]:=New.of_up S39.sl h55.dom
    have h55:=h55.mono (up_le S39.size)
    have S49:=S39.call r50
    refine ⟨(SP.nil (Sl.of_inc r50.inc S49.sl)),?_⟩
    refine FB.all1 (i:=7) (by kernel_rfl) ?_
    ·
     obtain ⟨b57,w58,run59,S60⟩:=S49.alloc (P:=Tryz.prog) 74 [Value.slice none 0 0,Value.slice none 0 0] Tryz.zeroValue74 rfl (zab rfl (zab rfl zad))
     refine FC.val (l':=(bs 10 255)) rfl (by kernel_rfl) rfl rfl rfl (E.alloc run59) ?_
     refine ⟨(SP.nil (Sl.of_inc r50.inc S60.sl)),?_⟩
     refine FB.t (i:=8) (bs 10 511) rfl (SP.nil (Sl.of_inc r50.inc S60.sl)) rfl (fun w' hw'=>(E.assign (v:=v36) rfl)) ?_
     refine FB.all1 (i:=9) (by kernel_rfl) ?_
     ·
      obtain ⟨w61,run62,S63⟩:=S60.store0 (P:=Tryz.prog) (t:=74) (i:=0) (cs':=[v51,v54]) (l':=[.box b57 74 [v51,v54],.row 3 1 v36 n41 cs42]) (v:=Value.agg #[v51,v54]) (c:=[v51,v54]) rfl Tryz.sizeOf74 rfl rfl (zab h52.one (zab h55.one zad)) (Nat.le_of_ble_eq_true rfl) rfl rfl
      refine FC.act (l':=(bs 10 1023)) rfl (by kernel_rfl) rfl rfl (E.store rfl rfl run62) ?_
      obtain ⟨H64,S65,i66,at67⟩:=S63.sealBox (i:=0) (l':=[.row 3 1 v36 n41 cs42]) rfl rfl
      refine ⟨(SP.nil (Sl.of_inc (r50.inc.tr i66) S65.sl)),?_⟩
      exact FB.done (by kernel_rfl) ⟨_,_,_,_,_,_,_,S65,(r50.inc.tr i66),(els40.mono (zaf (r50.inc.tr i66))),(h52.mono (zaf i66)),(h55.mono (zaf i66)),at67,(nv53.anti (Inc.rfl _)),(nv56.anti (Inc.rfl _)),rfl,rfl,rfl,rfl⟩
   ·
    obtain ⟨b57,w58,run59,S60⟩:=S39.alloc (P:=Tryz.prog) 74 [Value.slice none 0 0,Value.slice none 0 0] Tryz.zeroValue74 rfl (zab rfl (zab rfl zad))
    refine FC.val (l':=(bs 10 191)) rfl (by kernel_rfl) rfl rfl rfl (E.alloc run59) ?_
    refine ⟨(SP.nil S60.sl),?_⟩
    refine FB.all1 (i:=6) (by kernel_rfl) ?_
    ·
     refine FC.call (l':=(bs 10 255)) rfl (by kernel_rfl) rfl rfl rfl (E.call Tryz.call44 (A2 rfl rfl)) (zcR S60.sl a0 v0_1 (p0_1.mono i27) v1 a1 (p1.mono i27) hr46) ?_
     rintro e w48 ⟨H47,v51,v54,rfl,r50,h52,h55⟩
     refine ⟨_,rfl,?_⟩
     have nv53:New H25 [v51]:=New.of_up S60.sl h52.dom
     have h52:=h52.mono (up_le S60.size)
     have nv56:New H25 [v54]:=New.of_up S60.sl h55.dom
     have h55:=h55.mono (up_le S60.size)
     have S49:=S60.call r50
     refine ⟨(SP.nil (Sl.of_inc r50.inc S49.sl)),?_⟩
     refine FB.t (i:=8) (bs 10 511) rfl (SP.nil (Sl.of_inc r50.inc S49.sl)) rfl (fun w' hw'=>(E.assign (v:=v36) rfl)) ?_
     refine FB.all1 (i:=9) (by kernel_rfl) ?_
     ·
      obtain ⟨w61,run62,S63⟩:=S49.store0 (P:=Tryz.prog) (t:=74) (i:=0) (cs':=[v51,v54]) (l':=[.box b57 74 [v51,v54],.row 3 1 v36 n41 cs42]) (v:=Value.agg #[v51,v54]) (c:=[v51,v54]) rfl Tryz.sizeOf74 rfl rfl (zab h52.one (zab h55.one zad)) (Nat.le_of_ble_eq_true rfl) rfl rfl
      refine FC.act (l':=(bs 10 1023)) rfl (by kernel_rfl) rfl rfl (E.store rfl rfl run62) ?_
      obtain ⟨H64,S65,i66,at67⟩:=S63.sealBox (i:=0) (l':=[.row 3 1 v36 n41 cs42]) rfl rfl
      refine ⟨(SP.nil (Sl.of_inc (r50.inc.tr i66) S65.sl)),?_⟩
      exact FB.done (by kernel_rfl) ⟨_,_,_,_,_,_,_,S65,(r50.inc.tr i66),(els40.mono (zaf (r50.inc.tr i66))),(h52.mono (zaf i66)),(h55.mono (zaf i66)),at67,(nv53.anti (Inc.rfl _)),(nv56.anti (Inc.rfl _)),rfl,rfl,rfl,rfl⟩
  ·
   refine FC.call (l':=(bs 10 119)) rfl (by kernel_rfl) rfl rfl rfl (E.call Tryz.call44 (A2 rfl rfl)) (zcR S31.sl a0 v0_1 (p0_1.mono i27) v1 a1 (p1.mono i27) hr46) ?_
   rintro e w48 ⟨H47,v51,v54,rfl,r50,h52,h55⟩
   refine ⟨_,rfl,?_⟩
   have nv53:New H25 [v51]:=New.of_up S31.sl h52.dom
   have h52:=h52.mono (up_le S31.size)
   have nv56:New H25 [v54]:=New.of_up S31.sl h55.dom
   have h55:=h55.mono (up_le S31.size)
   have S49:=S31.call r50
   refine ⟨(SP.nil (Sl.of_inc r50.inc S49.sl)),?_⟩
   refine FB.all2 (i:=3) (j:=7) (by kernel_rfl) ?_ ?_
   ·
    obtain ⟨v36,w37,n41,cs42,run38,S39,els40,hbl43⟩:=S49.makeEls (P:=Tryz.prog) te45 (G:=(up wa.heap.size H47)) (En:=eI) (x0:=(0:Int)) hm35 rfl (zab rfl zad) .i64 .i64
    refine FC.val (l':=(bs 10 127)) rfl (by kernel_rfl) rfl rfl rfl (E.makeSlice rfl rfl run38) ?_
    refine ⟨(SP.nil (Sl.of_inc r50.inc S39.sl)),?_⟩
    refine FB.all1 (i:=7) (by kernel_rfl) ?_
    ·
     obtain ⟨b57,w58,run59,S60⟩:=S39.alloc (P:=Tryz.prog) 74 [Value.slice none 0 0,Value.slice none 0 0] Tryz.zeroValue74 rfl (zab rfl (zab rfl zad))
     refine FC.val (l':=(bs 10 255)) rfl (by kernel_rfl) rfl rfl rfl (E.alloc run59) ?_
     refine ⟨(SP.nil (Sl.of_inc r50.inc S60.sl)),?_⟩
     refine FB.t (i:=8) (bs 10 511) rfl (SP.nil (Sl.of_inc r50.inc S60.sl)) rfl (fun w' hw'=>(E.assign (v:=v36) rfl)) ?_
     refine FB.all1 (i:=9) (by kernel_rfl) ?_
     ·
      obtain ⟨w61,run62,S63⟩:=S60.store0 (P:=Tryz.prog) (t:=74) (i:=0) (cs':=[v51,v54]) (l':=[.box b57 74 [v51,v54],.row 3 1 v36 n41 cs42]) (v:=Value.agg #[v51,v54]) (c:=[v51,v54]) rfl Tryz.sizeOf74 rfl rfl (zab h52.one (zab h55.one zad)) (Nat.le_of_ble_eq_true rfl) rfl rfl
      refine FC.act (l':=(bs 10 1023)) rfl (by kernel_rfl) rfl rfl (E.store rfl rfl run62) ?_
      obtain ⟨H64,S65,i66,at67⟩:=S63.sealBox (i:=0) (l':=[.row 3 1 v36 n41 cs42]) rfl rfl
      refine ⟨(SP.nil (Sl.of_inc (r50.inc.tr i66) S65.sl)),?_⟩
      exact FB.done (by kernel_rfl) ⟨_,_,_,_,_,_,_,S65,(r50.inc.tr i66),(els40.mono (zaf i66)),(h52.mono (zaf i66)),(h55.mono (zaf i66)),at67,(nv53.anti (Inc.rfl _)),(nv56.anti (Inc.rfl _)),rfl,rfl,rfl,rfl⟩
   ·
    obtain ⟨b57,w58,run59,S60⟩:=S49.alloc (P:=Tryz.prog) 74 [Value.slice none 0 0,Value.slice none 0 0] Tryz.zeroValue74 rfl (zab rfl (zab rfl zad))
    refine FC.val (l':=(bs 10 247)) rfl (by kernel_rfl) rfl rfl rfl (E.alloc run59) ?_
    refine ⟨(SP.nil (Sl.of_inc r50.inc S60.sl)),?_⟩
    refine FB.all1 (i:=3) (by kernel_rfl) ?_
    ·
     obtain ⟨v36,w37,n41,cs42,run38,S39,els40,hbl43⟩:=S60.makeEls (P:=Tryz.prog) te45 (G:=(up wa.heap.size H47)) (En:=eI) (x0:=(0:Int)) hm35 rfl (zab rfl zad) .i64 .i64
     refine FC.val (l':=(bs 10 255)) rfl (by kernel_rfl) rfl rfl rfl (E.makeSlice rfl rfl run38) ?_
     refine ⟨(SP.nil (Sl.of_inc r50.inc S39.sl)),?_⟩
     refine FB.t (i:=8) (bs 10 511) rfl (SP.nil (Sl.of_inc r50.inc S39.sl)) rfl (fun w' hw'=>(E.assign (v:=v36) rfl)) ?_
     refine FB.all1 (i:=9) (by kernel_rfl) ?_
     ·
      obtain ⟨w61,run62,S63⟩:=S39.store0 (P:=Tryz.prog) (t:=74) (i:=1) (cs':=[v51,v54]) (l':=[.row 3 1 v36 n41 cs42,.box b57 74 [v51,v54]]) (v:=Value.agg #[v51,v54]) (c:=[v51,v54]) rfl Tryz.sizeOf74 rfl rfl (zab h52.one (zab h55.one zad)) (Nat.le_of_ble_eq_true rfl) rfl rfl
      refine FC.act (l':=(bs 10 1023)) rfl (by kernel_rfl) rfl rfl (E.store rfl rfl run62) ?_
      obtain ⟨H64,S65,i66,at67⟩:=S63.sealBox (i:=1) (l':=[.row 3 1 v36 n41 cs42]) rfl rfl
      refine ⟨(SP.nil (Sl.of_inc (r50.inc.tr i66) S65.sl)),?_⟩
      exact FB.done (by kernel_rfl) ⟨_,_,_,_,_,_,_,S65,(r50.inc.tr i66),(els40.mono (zaf i66)),(h52.mono (zaf i66)),(h55.mono (zaf i66)),at67,(nv53.anti (Inc.rfl _)),(nv56.anti (Inc.rfl _)),rfl,rfl,rfl,rfl⟩
  ·
   obtain ⟨b57,w58,run59,S60⟩:=S31.alloc (P:=Tryz.prog) 74 [Value.slice none 0 0,Value.slice none 0 0] Tryz.zeroValue74 rfl (zab rfl (zab rfl zad))
   refine FC.val (l':=(bs 10 183)) rfl (by kernel_rfl) rfl rfl rfl (E.alloc run59) ?_
   refine ⟨(SP.nil S60.sl),?_⟩
   refine FB.all2 (i:=3) (j:=6) (by kernel_rfl) ?_ ?_
   ·
    obtain ⟨v36,w37,n41,cs42,run38,S39,els40,hbl43⟩:=S60.makeEls (P:=Tryz.prog) te45 (G:=(up wa.heap.size H25)) (En:=eI) (x0:=(0:Int)) hm35 rfl (zab rfl zad) .i64 .i64
    refine FC.val (l':=(bs 10 191)) rfl (by kernel_rfl) rfl rfl rfl (E.makeSlice rfl rfl run38) ?_
    refine ⟨(SP.nil S39.sl),?_⟩
    refine FB.all1 (i:=6) (by kernel_rfl) ?_
    ·
     refine FC.call (l':=(bs 10 255)) rfl (by kernel_rfl) rfl rfl rfl (E.call Tryz.call44 (A2 rfl rfl)) (zcR S39.sl a0 v0_1 (p0_1.mono i27) v1 a1 (p1.mono i27) hr46) ?_
     rintro e w48 ⟨H47,v51,v54,rfl,r50,h52,h55⟩
     refine ⟨_,rfl,?_⟩
     have nv53:New H25 [v51]:=New.of_up S39.sl h52.dom
     have h52:=h52.mono (up_le S39.size)
     have nv56:New H25 [v54]:=New.of_up S39.sl h55.dom
     have h55:=h55.mono (up_le S39.size)
     have S49:=S39.call r50
     refine ⟨(SP.nil (Sl.of_inc r50.inc S49.sl)),?_⟩
     refine FB.t (i:=8) (bs 10 511) rfl (SP.nil (Sl.of_inc r50.inc S49.sl)) rfl (fun w' hw'=>(E.assign (v:=v36) rfl)) ?_
     refine FB.all1 (i:=9) (by kernel_rfl) ?_
     ·
      obtain ⟨w61,run62,S63⟩:=S49.store0 (P:=Tryz.prog) (t:=74) (i:=1) (cs':=[v51,v54]) (l':=[.row 3 1 v36 n41 cs42,.box b57 74 [v51,v54]]) (v:=Value.agg #[v51,v54]) (c:=[v51,v54]) rfl Tryz.sizeOf74 rfl rfl (zab h52.one (zab h55.one zad)) (Nat.le_of_ble_eq_true rfl) rfl rfl
      refine FC.act (l':=(bs 10 1023)) rfl (by kernel_rfl) rfl rfl (E.store rfl rfl run62) ?_
      obtain ⟨H64,S65,i66,at67⟩:=S63.sealBox (i:=1) (l':=[.row 3 1 v36 n41 cs42]) rfl rfl
      refine ⟨(SP.nil (Sl.of_inc (r50.inc.tr i66) S65.sl)),?_⟩
      exact FB.done (by kernel_rfl) ⟨_,_,_,_,_,_,_,S65,(r50.inc.tr i66),(els40.mono (zaf (r50.inc.tr i66))),(h52.mono (zaf i66)),(h55.mono (zaf i66)),at67,(nv53.anti (Inc.rfl _)),(nv56.anti (Inc.rfl _)),rfl,rfl,rfl,rfl⟩
   ·
    refine FC.call (l':=(bs 10 247)) rfl (by kernel_rfl) rfl rfl rfl (E.call Tryz.call44 (A2 rfl rfl)) (zcR S60.sl a0 v0_1 (p0_1.mono i27) v1 a1 (p1.mono i27) hr46) ?_
    rintro e w48 ⟨H47,v51,v54,rfl,r50,h52,h55⟩
    refine ⟨_,rfl,?_⟩
    have nv53:New H25 [v51]:=New.of_up S60.sl h52.dom
    have h52:=h52.mono (up_le S60.size)
    have nv56:New H25 [v54]:=New.of_up S60.sl h55.dom
    have h55:=h55.mono (up_le S60.size)
    have S49:=S60.call r50
    refine ⟨(SP.nil (Sl.of_inc r50.inc S49.sl)),?_⟩
    refine FB.all1 (i:=3) (by kernel_rfl) ?_
    ·
     obtain ⟨v36,w37,n41,cs42,run38,S39,els40,hbl43⟩:=S49.makeEls (P:=Tryz.prog) te45 (G:=(up wa.heap.size H47)) (En:=eI) (x0:=(0:Int)) hm35 rfl (zab rfl zad) .i64 .i64
     refine FC.val (l':=(bs 10 255)) rfl (by kernel_rfl) rfl rfl rfl (E.makeSlice rfl rfl run38) ?_
     refine ⟨(SP.nil (Sl.of_inc r50.inc S39.sl)),?_⟩
     refine FB.t (i:=8) (bs 10 511) rfl (SP.nil (Sl.of_inc r50.inc S39.sl)) rfl (fun w' hw'=>(E.assign (v:=v36) rfl)) ?_
     refine FB.all1 (i:=9) (by kernel_rfl) ?_
     ·
      obtain ⟨w61,run62,S63⟩:=S39.store0 (P:=Tryz.prog) (t:=74) (i:=1) (cs':=[v51,v54]) (l':=[.row 3 1 v36 n41 cs42,.box b57 74 [v51,v54]]) (v:=Value.agg #[v51,v54]) (c:=[v51,v54]) rfl Tryz.sizeOf74 rfl rfl (zab h52.one (zab h55.one zad)) (Nat.le_of_ble_eq_true rfl) rfl rfl
      refine FC.act (l':=(bs 10 1023)) rfl (by kernel_rfl) rfl rfl (E.store rfl rfl run62) ?_
      obtain ⟨H64,S65,i66,at67⟩:=S63.sealBox (i:=1) (l':=[.row 3 1 v36 n41 cs42]) rfl rfl
      refine ⟨(SP.nil (Sl.of_inc (r50.inc.tr i66) S65.sl)),?_⟩
      exact FB.done (by kernel_rfl) ⟨_,_,_,_,_,_,_,S65,(r50.inc.tr i66),(els40.mono (zaf i66)),(h52.mono (zaf i66)),(h55.mono (zaf i66)),at67,(nv53.anti (Inc.rfl _)),(nv56.anti (Inc.rfl _)),rfl,rfl,rfl,rfl⟩
 ·
  rintro f84 w83 ⟨H80,v68,n69,cs70,q72,v74,v77,S81,i82,els71,h75,h78,at73,nv76,nv79,k85,k86,k87,k88⟩
  refine FW.seq (FW.seq (FW.region ?_))
  refine FL.v (E.assign (v:=Value.int .i64 0) rfl) ?_
  refine FL.nil ?_
  obtain ⟨q89,hq,hp⟩:=bndR hp
  refine FW.block ?_
  refine FW.mono (FW.iter (S:=((List Int)×Int)) (X:=Empty) (fun (s89:((List Int)×Int)) f w=>∃ H:GH,∃ v90:Value,∃ n91:Nat,∃ cs92:List Value,St Ha wa H w [.row 3 1 v90 n91 cs92]∧Inc H80 H∧Els (up wa.heap.size H) eI 1 cs92 s89.1∧f 1=v1∧f 2=Value.int .i64 a2∧f 7=v90∧f 8=Value.pointer (some q72)∧f 9=Value.int .i64 s89.2) (fun (q:Rs ((List Int)×Int) Empty) e f w=>match q with|.go s89=>e=Exit.exit 0∧(∃ H:GH,∃ v90:Value,∃ n91:Nat,∃ cs92:List Value,St Ha wa H w [.row 3 1 v90 n91 cs92]∧Inc H80 H∧Els (up wa.heap.size H) eI 1 cs92 s89.1∧f 1=v1∧f 2=Value.int .i64 a2∧f 7=v90∧f 8=Value.pointer (some q72))|.rt x=>x.elim) hq ⟨_,_,_,_,S81,(Inc.rfl _),els71,k85,k86,k87,k88,rfl⟩ ?_) ?_
  ·
   clear hp hq
   rintro s89 f98 w97 ⟨H94,v90,n91,cs92,S95,i96,els93,k99,kA0,kA1,kA2,kA3⟩ oAl hp
   refine FW.seq (FW.seq (FW.region ?_))
   refine FL.v (E.move kA3) ?_
   refine FL.v (E.move kA1) ?_
   refine FL.v (E.lenO te45 rfl S95 (i:=0) rfl els93 (by decide)) ?_
   refine FL.v (E.lss rfl rfl) ?_
   refine FL.nil ?_
   rcases ifB hp with ⟨cA4,hp⟩|⟨cA4,hp⟩
   ·
    refine FW.condT rfl cA4 ?_
    refine FW.skip (FW.seq (FW.block (FW.region ?_)))
    refine FL.v (E.move kA1) ?_
    refine FL.v (E.move kA3) ?_
    obtain ⟨xAb,hxAc,hp⟩:=bnd hp
    obtain ⟨pA5,csA6,ptA7,lA8,atA9,relAa⟩:=S95.row_at (i:=0) rfl els93 (by decide) hxAc
    obtain rfl:=eI_open relAa
    refine FL.v (E.indexAddr te45 rfl rfl ptA7) ?_
    obtain ⟨xsAg,hputAh,hp⟩:=bnd hp
    obtain ⟨wAd,csAj,runAe,SAf,elsAi,ceAk⟩:=S95.putEls (P:=Tryz.prog) (t:=3) (i:=0) rfl els93 hputAh ptA7 Tryz.sizeOf3 (u:=Value.int .i64 (-1)) (c:=[Value.int .i64 (-1)]) rfl rfl (zab rfl zad) rfl
    have SAf:St Ha wa H94 wAd [.row 3 1 v90 n91 csAj]:=SAf
    refine FL.act rfl rfl (E.store rfl rfl runAe) ?_
    refine FL.nil (FW.region ?_)
    refine FL.v (E.move kA3) ?_
    refine FL.v (E.add rfl rfl) ?_
    refine FL.v (E.assign (v:=Value.int .i64 (wr (s89.2 + 1))) rfl) ?_
    refine FL.nil ?_
    obtain rfl:=Option.some.inj hp
    exact ⟨rfl,⟨_,_,_,_,SAf,i96,elsAi,k99,kA0,kA1,kA2,rfl⟩⟩
   ·
    refine FW.condF rfl cA4 ?_
    refine FW.exit ?_
    obtain rfl:=Option.some.inj hp
    exact ⟨nofun,rfl,⟨_,_,_,_,S95,i96,els93,k99,kA0,kA1,kA2⟩⟩
  ·
   clear hq
   intro e fAq wAp hD
   rcases q89 with s89|x89
   ·
    obtain ⟨rfl,hD⟩:=hD
    obtain ⟨HAm,v90,n91,cs92,SAn,iAo,els93,kAr,kAs,kAt,kAu⟩:=hD
    replace hp:=el_go hp
    refine FW.seq (FW.region ?_)
    refine FL.v (E.move kAt) ?_
    obtain ⟨xAB,hxAC,hp⟩:=bnd hp
    obtain ⟨pAv,csAw,ptAx,lAy,atAz,relAA⟩:=SAn.row_at (i:=0) rfl els93 (by decide) hxAC
    obtain rfl:=eI_open relAA
    refine FL.v (E.indexAddr te45 rfl rfl ptAx) ?_
    obtain ⟨xsAG,hputAH,hp⟩:=bnd hp
    obtain ⟨wAD,csAJ,runAE,SAF,elsAI,ceAK⟩:=SAn.putEls (P:=Tryz.prog) (t:=3) (i:=0) rfl els93 hputAH ptAx Tryz.sizeOf3 (u:=Value.int .i64 0) (c:=[Value.int .i64 0]) rfl rfl (zab rfl zad) rfl
    have SAF:St Ha wa HAm wAD [.row 3 1 v90 n91 csAJ]:=SAF
    refine FL.act rfl rfl (E.store rfl rfl runAE) ?_
    refine FL.nil (FW.seq (FW.region ?_))
    obtain ⟨vAL,wAM,runAN,SAO,elsAP⟩:=SAF.ints (P:=Tryz.prog) te45 (up wa.heap.size HAm) 1 [0]
    refine FL.v (E.buildSlice (B1 rfl) runAN) ?_
    refine FL.v (E.assign (v:=vAL) rfl) ?_
    refine FL.nil (FW.seq (FW.seq (FW.region ?_)))
    refine FL.v (E.assign (v:=Value.int .i64 0) rfl) ?_
    refine FL.nil ?_
    obtain ⟨qAQ,hq,hp⟩:=bndR hp
    refine FW.block ?_
    refine FW.mono (FW.iter (S:=((List Int)×(List Int)×Int)) (X:=Empty) (fun (sAQ:((List Int)×(List Int)×Int)) f w=>∃ H:GH,∃ vAR:Value,∃ nAS:Nat,∃ csAT:List Value,∃ vAV:Value,∃ nAW:Nat,∃ csAX:List Value,St Ha wa H w [.row 3 1 vAR nAS csAT,.row 3 1 vAV nAW csAX]∧Inc HAm H∧Els (up wa.heap.size H) eI 1 csAT sAQ.1∧Els (up wa.heap.size H) eI 1 csAX sAQ.2.1∧f 1=v1∧f 2=Value.int .i64 a2∧f 7=vAV∧f 8=Value.pointer (some q72)∧f 10=vAR∧f 11=Value.int .i64 sAQ.2.2) (fun (q:Rs ((List Int)×(List Int)×Int) Empty) e f w=>match q with|.go sAQ=>e=Exit.exit 2∧(∃ H:GH,∃ vAR:Value,∃ nAS:Nat,∃ csAT:List Value,∃ vAV:Value,∃ nAW:Nat,∃ csAX:List Value,St Ha wa H w [.row 3 1 vAR nAS csAT,.row 3 1 vAV nAW csAX]∧Inc HAm H∧Els (up wa.heap.size H) eI 1 csAT sAQ.1∧Els (up wa.heap.size H) eI 1 csAX sAQ.2.1∧f 7=vAV)|.rt x=>x.elim) hq ⟨_,_,_,_,_,_,_,SAO,(Inc.rfl _),elsAP,elsAI,kAr,kAs,kAt,kAu,rfl,rfl⟩ ?_) ?_
    ·
     clear hp hq
     rintro sAQ fB3 wB2 ⟨HAZ,vAR,nAS,csAT,vAV,nAW,csAX,SB0,iB1,elsAU,elsAY,kB4,kB5,kB6,kB7,kB8,kB9⟩ oE3 hp
     refine FW.seq (FW.seq (FW.region ?_))
     refine FL.v (E.move kB9) ?_
     refine FL.v (E.move kB8) ?_
     refine FL.v (E.lenO te45 rfl SB0 (i:=0) rfl elsAU (by decide)) ?_
     refine FL.v (E.lss rfl rfl) ?_
     refine FL.nil ?_
     rcases ifB hp with ⟨cBa,hp⟩|⟨cBa,hp⟩
     ·
      refine FW.condT rfl cBa ?_
      refine FW.skip (FW.seq (FW.block (FW.seq (FW.region ?_))))
      refine FL.v (E.assign (v:=Value.int .i64 0) rfl) ?_
      refine FL.nil ?_
      obtain ⟨qBc,hq,hp⟩:=bndR hp
      refine FW.block ?_
      refine FW.mono (FW.forL (S:=((List Int)×(List Int))) (X:=Empty) (fun (iBc:Nat) (sBc:((List Int)×(List Int))) f w=>∃ H:GH,∃ vBd:Value,∃ nBe:Nat,∃ csBf:List Value,∃ vBh:Value,∃ nBi:Nat,∃ csBj:List Value,St Ha wa H w [.row 3 1 vBd nBe csBf,.row 3 1 vBh nBi csBj]∧Inc HAZ H∧Els (up wa.heap.size H) eI 1 csBf sBc.1∧Els (up wa.heap.size H) eI 1 csBj sBc.2∧f 12=Value.int .i64 ((iBc:Nat):Int)∧f 1=v1∧f 2=Value.int .i64 a2∧f 7=vBh∧f 8=Value.pointer (some q72)∧f 10=vBd∧f 11=Value.int .i64 sAQ.2.2) (fun (q:Rs ((List Int)×(List Int)) Empty) e f w=>match q with|.go sBc=>e=Exit.exit 4∧(∃ H:GH,∃ vBd:Value,∃ nBe:Nat,∃ csBf:List Value,∃ vBh:Value,∃ nBi:Nat,∃ csBj:List Value,St Ha wa H w [.row 3 1 vBd nBe csBf,.row 3 1 vBh nBi csBj]∧Inc HAZ H∧Els (up wa.heap.size H) eI 1 csBf sBc.1∧Els (up wa.heap.size H) eI 1 csBj sBc.2∧f 1=v1∧f 2=Value.int .i64 a2∧f 7=vBh∧f 8=Value.pointer (some q72)∧f 10=vBd∧f 11=Value.int .i64 sAQ.2.2)|.rt x=>x.elim) hq ⟨_,_,_,_,_,_,_,SB0,(Inc.rfl _),elsAU,elsAY,rfl,kB4,kB5,kB6,kB7,kB8,kB9⟩ ?_ ?_) ?_
      ·
       clear hp hq
       rintro iBc yBb sBc fBp wBo ⟨HBl,vBd,nBe,csBf,vBh,nBi,csBj,SBm,iBn,elsBg,elsBk,kBq,kBr,kBs,kBt,kBu,kBv,kBw⟩ hxBc oDF hp
       refine FW.seq (FW.seq (FW.region ?_))
       refine FL.v (E.move kBq) ?_
       refine FL.v (E.move kBr) ?_
       refine FL.v (E.lenP te22 rfl p1) ?_
       refine FL.v (E.lssT rfl rfl (zaq hxBc)) ?_
       refine FL.nil ?_
       refine FW.condT rfl rfl ?_
       refine FW.skip (FW.seq (FW.block (FW.seq ?_)))
       refine FW.draw (fun w'=>Run wBo.heap.size HBl wBo HBl w') (by kernel_rfl) (by kernel_rfl) (zaF SBm.sl) ?_
       refine FD.val rfl rfl rfl (fun w' hw'=>(E.move kBv)) ?_
       refine FD.val rfl rfl rfl (fun w' hw'=>(E.move kBw)) ?_
       obtain ⟨xBD,hxBE,hp⟩:=bnd hp
       obtain ⟨pBx,csBy,ptBz,lBA,atBB,relBC⟩:=SBm.row_at (i:=0) rfl elsBg (by decide) hxBE
       obtain rfl:=eI_open relBC
       refine FD.val rfl rfl rfl (fun w' hw'=>(E.indexAddr te45 rfl rfl ptBz)) ?_
       refine FD.val rfl rfl rfl (fun w' hw'=>(E.load rfl (zae Tryz.isAgg3 (atBB.cls hw') rfl))) ?_
       refine FD.val rfl rfl rfl (fun w' hw'=>(E.move kBq)) ?_
       obtain ⟨u204,zBF,hp⟩:=bnd hp
       refine FD.val rfl rfl rfl (fun w' hw'=>(E.shl rfl rfl (nn_ge zBF))) ?_
       refine FD.val rfl rfl rfl (fun w' hw'=>(E.xor rfl rfl)) ?_
       refine FD.val rfl rfl rfl (fun w' hw'=>(E.assign (v:=Value.int .i64 (xorK true 64 xBD (shlK true 64 1 ((iBc:Nat):Int)))) rfl)) ?_
       refine FD.nil ?_
       intro wBH rBJ
       have SBI:=SBm.call rBJ
       refine FW.seq (FW.seq ?_)
       refine FW.draw (fun w'=>Run wBH.heap.size HBl wBH HBl w') (by kernel_rfl) (by kernel_rfl) (zaF SBI.sl) ?_
       refine FD.val rfl rfl rfl (fun w' hw'=>(E.move kBt)) ?_
       refine FD.val rfl rfl rfl (fun w' hw'=>(E.move (v:=Value.int .i64 (xorK true 64 xBD (shlK true 64 1 ((iBc:Nat):Int)))) rfl)) ?_
       obtain ⟨xBQ,hxBR,hp⟩:=bnd hp
       obtain ⟨pBK,csBL,ptBM,lBN,atBO,relBP⟩:=SBI.row_at (i:=1) rfl elsBk (by decide) hxBR
       obtain rfl:=eI_open relBP
       refine FD.val rfl rfl rfl (fun w' hw'=>(E.indexAddr te45 rfl rfl ptBM)) ?_
       refine FD.val rfl rfl rfl (fun w' hw'=>(E.load rfl (zae Tryz.isAgg3 (atBO.cls hw') rfl))) ?_
       refine FD.val rfl rfl rfl (fun w' hw'=>(E.geq rfl rfl)) ?_
       refine FD.val rfl rfl rfl (fun w' hw'=>(E.move (v:=Value.bool (decide (0≤xBQ))) rfl)) ?_
       obtain ⟨t216,hqtBS,hp⟩:=bnd hp
       refine FD.cut 5 (fun f=>f 1=v1∧f 2=Value.int .i64 a2∧f 7=vBh∧f 8=Value.pointer (some q72)∧f 10=vBd∧f 11=Value.int .i64 sAQ.2.2∧f 12=Value.int .i64 ((iBc:Nat):Int)∧f 13=Value.int .i64 (xorK true 64 xBD (shlK true 64 1 ((iBc:Nat):Int)))∧f 62=Value.bool t216) ?_ ?_
       ·
        clear hp;have hp:=hqtBS;clear hqtBS
        rcases ifB hp with ⟨cBU,hp⟩|⟨cBU,hp⟩
        ·
         refine FD.skip (wF_no rfl rfl rfl cBU) rfl ?_
         refine FD.skip (wF_no rfl rfl rfl cBU) rfl ?_
         refine FD.skip (wF_no rfl rfl rfl cBU) rfl ?_
         refine FD.skip (wF_no rfl rfl rfl cBU) rfl ?_
         obtain rfl:=Option.some.inj hp
         refine FD.val rfl rfl rfl (fun w' hw'=>(E.pickT rfl cBU rfl)) ?_
         exact FD.nil ⟨kBr,kBs,kBt,kBu,kBv,kBw,kBq,rfl,rfl⟩
        ·
         refine FD.val (zac rfl rfl rfl cBU) rfl rfl (fun w' hw'=>(E.move (v:=Value.int .i64 (xorK true 64 xBD (shlK true 64 1 ((iBc:Nat):Int)))) rfl)) ?_
         obtain ⟨rBV,hrBW,hp⟩:=bnd hp
         refine FD.call (zac rfl rfl rfl cBU) rfl rfl (fun w' hw'=>(E.call Tryz.call45 (A1 rfl))) (fun w' hw'=>Calls.cls hw' (w_spec_l14Count (SBI.call hw').sl (xorK true 64 xBD (shlK true 64 1 ((iBc:Nat):Int))) hrBW)) ?_
         refine FD.val (zac rfl rfl rfl cBU) rfl rfl (fun w' hw'=>(E.move kBs)) ?_
         refine FD.val (zac rfl rfl rfl cBU) rfl rfl (fun w' hw'=>(E.gtr rfl rfl)) ?_
         obtain rfl:=Option.some.inj hp
         refine FD.val rfl rfl rfl (fun w' hw'=>(E.pickF rfl cBU rfl)) ?_
         exact FD.nil ⟨kBr,kBs,kBt,kBu,kBv,kBw,kBq,rfl,rfl⟩
       rintro fBT ⟨kBX,kBY,kBZ,kC0,kC1,kC2,kC3,kC4,kC5⟩
       refine FD.val rfl rfl rfl (fun w' hw'=>(E.move kC5)) ?_
       obtain ⟨t230,hqtC6,hp⟩:=bnd hp
       refine FD.cut 19 (fun f=>f 1=v1∧f 2=Value.int .i64 a2∧f 7=vBh∧f 8=Value.pointer (some q72)∧f 10=vBd∧f 11=Value.int .i64 sAQ.2.2∧f 12=Value.int .i64 ((iBc:Nat):Int)∧f 13=Value.int .i64 (xorK true 64 xBD (shlK true 64 1 ((iBc:Nat):Int)))∧f 82=Value.bool t230) ?_ ?_
       ·
        clear hp;have hp:=hqtC6;clear hqtC6
        rcases ifB hp with ⟨cC8,hp⟩|⟨cC8,hp⟩
        ·
         refine FD.skip (wF_no rfl rfl rfl cC8) rfl ?_
         refine FD.skip (wF_no rfl rfl rfl cC8) rfl ?_
         refine FD.skip (wF_no rfl rfl rfl cC8) rfl ?_
         refine FD.skip (wF_no rfl rfl rfl cC8) rfl ?_
         refine FD.skip (wF_no rfl rfl rfl cC8) rfl ?_
         refine FD.skip (wF_no rfl rfl rfl cC8) rfl ?_
         refine FD.skip (wF_no rfl rfl rfl cC8) rfl ?_
         refine FD.skip (wF_no rfl rfl rfl cC8) rfl ?_
         refine FD.skip (wF_no rfl rfl rfl cC8) rfl ?_
         refine FD.skip (zas rfl rfl rfl) rfl ?_
         refine FD.skip (zas rfl rfl rfl) rfl ?_
         refine FD.skip (zas rfl rfl rfl) rfl ?_
         refine FD.skip (zas rfl rfl rfl) rfl ?_
         refine FD.skip (zas rfl rfl rfl) rfl ?_
         refine FD.skip (zas rfl rfl rfl) rfl ?_
         refine FD.skip (zas rfl rfl rfl) rfl ?_
         refine FD.skip (zas rfl rfl rfl) rfl ?_
         refine FD.skip (wF_no rfl rfl rfl cC8) rfl ?_
         obtain rfl:=Option.some.inj hp
         refine FD.val rfl rfl rfl (fun w' hw'=>(E.pickT rfl cC8 rfl)) ?_
         exact FD.nil ⟨kBX,kBY,kBZ,kC0,kC1,kC2,kC3,kC4,rfl⟩
        ·
         refine FD.val (zac rfl rfl rfl cC8) rfl rfl (fun w' hw'=>(E.move kC1)) ?_
         refine FD.val (zac rfl rfl rfl cC8) rfl rfl (fun w' hw'=>(E.move kC2)) ?_
         obtain ⟨xCf,hxCg,hp⟩:=bnd hp
         obtain ⟨pC9,csCa,ptCb,lCc,atCd,relCe⟩:=SBI.row_at (i:=0) rfl elsBg (by decide) hxCg
         obtain rfl:=eI_open relCe
         refine FD.val (zac rfl rfl rfl cC8) rfl rfl (fun w' hw'=>(E.indexAddr te45 rfl rfl ptCb)) ?_
         refine FD.val (zac rfl rfl rfl cC8) rfl rfl (fun w' hw'=>(E.load rfl (zae Tryz.isAgg3 (atCd.cls hw') rfl))) ?_
         refine FD.val (zac rfl rfl rfl cC8) rfl rfl (fun w' hw'=>(E.move kC3)) ?_
         obtain ⟨u242,zCh,hp⟩:=bnd hp
         refine FD.val (zac rfl rfl rfl cC8) rfl rfl (fun w' hw'=>(E.shr rfl rfl (nn_ge zCh))) ?_
         refine FD.val (zac rfl rfl rfl cC8) rfl rfl (fun w' hw'=>(E.and rfl rfl)) ?_
         refine FD.val (zac rfl rfl rfl cC8) rfl rfl (fun w' hw'=>(E.eql rfl rfl)) ?_
         refine FD.val (zac rfl rfl rfl cC8) rfl rfl (fun w' hw'=>(E.move (v:=Value.bool ((andK true 64 (shrK 64 xCf ((iBc:Nat):Int)) 1) == 0)) rfl)) ?_
         obtain ⟨t243,hqtCj,hp⟩:=bnd hp
         refine FD.cut 9 (fun f=>f 1=v1∧f 2=Value.int .i64 a2∧f 7=vBh∧f 8=Value.pointer (some q72)∧f 10=vBd∧f 11=Value.int .i64 sAQ.2.2∧f 12=Value.int .i64 ((iBc:Nat):Int)∧f 13=Value.int .i64 (xorK true 64 xBD (shlK true 64 1 ((iBc:Nat):Int)))∧f 63=Value.bool t216∧f 81=Value.bool t243) ?_ ?_
         ·
          clear hp;have hp:=hqtCj;clear hqtCj
          rcases ifB hp with ⟨cCl,hp⟩|⟨cCl,hp⟩
          ·
           refine FD.val (zac rfl rfl rfl cCl) rfl rfl (fun w' hw'=>(E.load kC0 (zax Tryz.isAgg74 Tryz.sizeOf74 ((at73.mono ((iAo.tr iB1).tr iBn)).now (SBI.call hw').sl) rfl))) ?_
           refine FD.val (zac rfl rfl rfl cCl) rfl rfl (fun w' hw'=>(E.move kC1)) ?_
           refine FD.val (zac rfl rfl rfl cCl) rfl rfl (fun w' hw'=>(E.move kC2)) ?_
           obtain ⟨xCs,hxCt,hp⟩:=bnd hp
           obtain ⟨pCm,csCn,ptCo,lCp,atCq,relCr⟩:=SBI.row_at (i:=0) rfl elsBg (by decide) hxCt
           obtain rfl:=eI_open relCr
           refine FD.val (zac rfl rfl rfl cCl) rfl rfl (fun w' hw'=>(E.indexAddr te45 rfl rfl ptCo)) ?_
           refine FD.val (zac rfl rfl rfl cCl) rfl rfl (fun w' hw'=>(E.load rfl (zae Tryz.isAgg3 (atCq.cls hw') rfl))) ?_
           refine FD.val (zac rfl rfl rfl cCl) rfl rfl (fun w' hw'=>(E.move kC3)) ?_
           obtain ⟨rCu,hrCv,hp⟩:=bnd hp
           refine FD.call (zac rfl rfl rfl cCl) rfl rfl (fun w' hw'=>(E.call Tryz.call46 (A3 rfl rfl rfl))) (fun w' hw'=>Calls.cls hw' (w_spec_l15Gain (SBI.call hw').sl r44 v74 (h75.mono (upI.tr ((iAo.tr iB1).tr iBn))) v77 (h78.mono (upI.tr ((iAo.tr iB1).tr iBn))) xCs ((iBc:Nat):Int) hrCv)) ?_
           refine FD.val (zac rfl rfl rfl cCl) rfl rfl (fun w' hw'=>(E.not rfl)) ?_
           obtain rfl:=Option.some.inj hp
           refine FD.val (zac rfl rfl rfl cC8) rfl rfl (fun w' hw'=>(E.pickT rfl cCl rfl)) ?_
           exact FD.nil ⟨kBX,kBY,kBZ,kC0,kC1,kC2,kC3,kC4,rfl,rfl⟩
          ·
           refine FD.skip (wF_no rfl rfl rfl cCl) rfl ?_
           refine FD.skip (wF_no rfl rfl rfl cCl) rfl ?_
           refine FD.skip (wF_no rfl rfl rfl cCl) rfl ?_
           refine FD.skip (wF_no rfl rfl rfl cCl) rfl ?_
           refine FD.skip (wF_no rfl rfl rfl cCl) rfl ?_
           refine FD.skip (wF_no rfl rfl rfl cCl) rfl ?_
           refine FD.skip (wF_no rfl rfl rfl cCl) rfl ?_
           refine FD.skip (wF_no rfl rfl rfl cCl) rfl ?_
           obtain rfl:=Option.some.inj hp
           refine FD.val (zac rfl rfl rfl cC8) rfl rfl (fun w' hw'=>(E.pickF rfl cCl rfl)) ?_
           exact FD.nil ⟨kBX,kBY,kBZ,kC0,kC1,kC2,kC3,kC4,rfl,rfl⟩
         rintro fCk ⟨kCw,kCx,kCy,kCz,kCA,kCB,kCC,kCD,kCE,kCF⟩
         obtain rfl:=Option.some.inj hp
         refine FD.val rfl rfl rfl (fun w' hw'=>(E.pickF kCE cC8 kCF)) ?_
         exact FD.nil ⟨kCw,kCx,kCy,kCz,kCA,kCB,kCC,kCD,rfl⟩
       rintro fC7 ⟨kCG,kCH,kCI,kCJ,kCK,kCL,kCM,kCN,kCO⟩
       refine FD.nil ?_
       intro wCP rCR
       have SCQ:=SBI.call rCR
       rcases ifB hp with ⟨cCS,hp⟩|⟨cCS,hp⟩
       ·
        refine FW.condT kCO cCS ?_
        refine FW.exit ?_
        refine FW.region ?_
        refine FL.v (E.move kCM) ?_
        refine FL.v (E.add rfl rfl) ?_
        refine FL.v (E.assign (v:=Value.int .i64 (wr (((iBc:Nat):Int) + 1))) rfl) ?_
        refine FL.nil ?_
        obtain rfl:=Option.some.inj hp
        exact ⟨rfl,⟨_,_,_,_,_,_,_,SCQ,iBn,elsBg,elsBk,(zam rfl (zal hxBc) (p1.mono ((((i27.tr i82).tr iAo).tr iB1).tr iBn)).le),kCG,kCH,kCI,kCJ,kCK,kCL⟩⟩
       ·
        refine FW.condF kCO cCS ?_
        refine FW.skip (FW.seq (FW.region ?_))
        refine FL.v (E.move kCI) ?_
        refine FL.v (E.move kCN) ?_
        refine FL.v (E.move kCI) ?_
        refine FL.v (E.move kCK) ?_
        refine FL.v (E.move kCL) ?_
        obtain ⟨xCZ,hxD0,hp⟩:=bnd hp
        obtain ⟨pCT,csCU,ptCV,lCW,atCX,relCY⟩:=SCQ.row_at (i:=0) rfl elsBg (by decide) hxD0
        obtain rfl:=eI_open relCY
        refine FL.v (E.indexAddr te45 rfl rfl ptCV) ?_
        refine FL.v (E.load rfl (zae Tryz.isAgg3 atCX rfl)) ?_
        obtain ⟨xD7,hxD8,hp⟩:=bnd hp
        obtain ⟨pD1,csD2,ptD3,lD4,atD5,relD6⟩:=SCQ.row_at (i:=1) rfl elsBk (by decide) hxD8
        obtain rfl:=eI_open relD6
        refine FL.v (E.indexAddr te45 rfl rfl ptD3) ?_
        refine FL.v (E.load rfl (zae Tryz.isAgg3 atD5 rfl)) ?_
        refine FL.v (E.add rfl rfl) ?_
        obtain ⟨xDf,hxDg,hp⟩:=bnd hp
        obtain ⟨pD9,csDa,ptDb,lDc,atDd,relDe⟩:=SCQ.row_at (i:=1) rfl elsBk (by decide) hxDg
        obtain rfl:=eI_open relDe
        refine FL.v (E.indexAddr te45 rfl rfl ptDb) ?_
        obtain ⟨xsDk,hputDl,hp⟩:=bnd hp
        obtain ⟨wDh,csDn,runDi,SDj,elsDm,ceDo⟩:=SCQ.putEls (P:=Tryz.prog) (t:=3) (i:=1) rfl elsBk hputDl ptDb Tryz.sizeOf3 (u:=Value.int .i64 (wr (xD7 + 1))) (c:=[Value.int .i64 (wr (xD7 + 1))]) rfl rfl (zab rfl zad) rfl
        have SDj:St Ha wa HBl wDh [.row 3 1 vBd nBe csBf,.row 3 1 vBh nBi csDn]:=SDj
        refine FL.act rfl rfl (E.store rfl rfl runDi) ?_
        refine FL.nil (FW.region ?_)
        refine FL.v (E.move kCK) ?_
        refine FL.v (E.move kCN) ?_
        obtain ⟨vDp,wDq,runDr,SDs,elsDt⟩:=SDj.ints (P:=Tryz.prog) te45 (up wa.heap.size HBl) 1 [(xorK true 64 xBD (shlK true 64 1 ((iBc:Nat):Int)))]
        refine FL.v (E.buildSlice (B1 rfl) runDr) ?_
        obtain ⟨xsDu,hzDv,hp⟩:=bnd hp
        obtain ⟨vDw,wDz,nDx,csDy,runDA,SDB,elsDC,ceDD⟩:=SDs.appendO (P:=Tryz.prog) te45 (i:=1) (j:=0) rfl elsBg rfl elsDt hzDv
        have SDB:St Ha wa HBl wDz [.row 3 1 vDp 1 (iC [(xorK true 64 xBD (shlK true 64 1 ((iBc:Nat):Int)))]),.row 3 1 vDw nDx csDy,.row 3 1 vBh nBi csDn]:=SDB
        have SDE:St Ha wa HBl wDz [.row 3 1 vDw nDx csDy,.row 3 1 vBh nBi csDn]:=SDB.drop 0
        refine FL.v (E.append rfl rfl runDA) ?_
        refine FL.v (E.assign (v:=vDw) rfl) ?_
        refine FL.nil (FW.region ?_)
        refine FL.v (E.move kCM) ?_
        refine FL.v (E.add rfl rfl) ?_
        refine FL.v (E.assign (v:=Value.int .i64 (wr (((iBc:Nat):Int) + 1))) rfl) ?_
        refine FL.nil ?_
        obtain rfl:=Option.some.inj hp
        exact ⟨rfl,⟨_,_,_,_,_,_,_,SDE,iBn,elsDC,elsDm,(zam rfl (zal hxBc) (p1.mono ((((i27.tr i82).tr iAo).tr iB1).tr iBn)).le),kCG,kCH,kCI,kCJ,rfl,kCL⟩⟩
      ·
       clear hp hq
       rintro sBc fDV wDU ⟨HDR,vBd,nBe,csBf,vBh,nBi,csBj,SDS,iDT,elsBg,elsBk,kDW,kDX,kDY,kDZ,kE0,kE1,kE2⟩
       refine FW.seq (FW.seq (FW.region ?_))
       refine FL.v (E.move kDW) ?_
       refine FL.v (E.move kDX) ?_
       refine FL.v (E.lenP te22 rfl p1) ?_
       refine FL.v (E.lss rfl rfl) ?_
       refine FL.nil ?_
       refine FW.condF rfl zar ?_
       refine FW.exit ?_
       exact ⟨nofun,rfl,⟨_,_,_,_,_,_,_,SDS,iDT,elsBg,elsBk,kDX,kDY,kDZ,kE0,kE1,kE2⟩⟩
      ·
       clear hq
       intro e fDK wDJ hD
       rcases qBc with sBc|xBc
       ·
        obtain ⟨rfl,hD⟩:=hD
        obtain ⟨HDG,vBd,nBe,csBf,vBh,nBi,csBj,SDH,iDI,elsBg,elsBk,kDL,kDM,kDN,kDO,kDP,kDQ⟩:=hD
        replace hp:=el_go hp
        refine FW.region ?_
        refine FL.v (E.move kDQ) ?_
        refine FL.v (E.add rfl rfl) ?_
        refine FL.v (E.assign (v:=Value.int .i64 (wr (sAQ.2.2 + 1))) rfl) ?_
        refine FL.nil ?_
        obtain rfl:=Option.some.inj hp
        exact ⟨rfl,⟨_,_,_,_,_,_,_,SDH,(iB1.tr iDI),elsBg,elsBk,kDL,kDM,kDN,kDO,kDP,rfl⟩⟩
       ·
        exact xBc.elim
     ·
      refine FW.condF rfl cBa ?_
      refine FW.exit ?_
      obtain rfl:=Option.some.inj hp
      exact ⟨nofun,rfl,⟨_,_,_,_,_,_,_,SB0,iB1,elsAU,elsAY,kB6⟩⟩
    ·
     clear hq
     intro e fE8 wE7 hD
     rcases qAQ with sAQ|xAQ
     ·
      obtain ⟨rfl,hD⟩:=hD
      obtain ⟨HE4,vAR,nAS,csAT,vAV,nAW,csAX,SE5,iE6,elsAU,elsAY,kE9⟩:=hD
      replace hp:=el_go hp
      refine FW.seq (FW.region ?_)
      refine FL.v (E.move kE9) ?_
      refine FL.v (E.assign (v:=vAV) rfl) ?_
      refine FL.nil ?_
      refine FW.ret ?_
      obtain rfl:=Option.some.inj hp
      exact ⟨.inr rfl,res1 rfl rfl ⟨_,_,_,_,rfl,(SE5.sel [1] (by decide) rfl),elsAY⟩⟩
     ·
      exact xAQ.elim
   ·
    exact x89.elim

set_option maxHeartbeats 4000000 in
theorem w_spec_l15Time {Ha:GH} {wa:World} (hs:Sl Ha wa) (v0:Value) (a0:List (List Int)) (p0:RSl Ha (eL eI 1) 1 v0 a0) (v1:Value) (a1:List Int) (p1:RSl Ha eI 1 v1 a1) {r:Int} (hp:(PF.zbJ a0 a1)=some r) :
  Calls Tryz.prog 22 #[v0,v1] wa (Sc Ha wa (Value.int .i64 r)):=by
 unfold PF.zbJ at hp
 have S0:=St.init hs
 refine zag (N:=44) (args:=[v0,v1]) Tryz.func22 rfl rfl rfl ?_
 refine FW.seq (FW.region ?_)
 refine FL.v (E.assign (v:=Value.int .i64 0) rfl) ?_
 refine FL.nil (FW.seq (FW.region ?_))
 refine FL.v (E.assign (v:=Value.int .i64 (-1)) rfl) ?_
 refine FL.nil (FW.seq (FW.seq (FW.region ?_)))
 refine FL.v (E.assign (v:=Value.int .i64 0) rfl) ?_
 refine FL.nil ?_
 obtain ⟨q22,hq,hp⟩:=bndR hp
 refine FW.block ?_
 refine FW.mono (FW.forL (S:=Int) (X:=Empty) (fun (i22:Nat) (s22:Int) f w=>∃ H:GH,St Ha wa H w []∧Inc Ha H∧f 6=Value.int .i64 ((i22:Nat):Int)∧f 0=v0∧f 1=v1∧f 5=Value.int .i64 s22) (fun (q:Rs Int Empty) e f w=>match q with|.go s22=>e=Exit.exit 0∧(∃ H:GH,St Ha wa H w []∧Inc Ha H∧f 5=Value.int .i64 s22)|.rt x=>x.elim) hq ⟨_,S0,(Inc.rfl _),rfl,rfl,rfl,rfl⟩ ?_ ?_) ?_
 ·
  clear hp hq
  rintro i22 y21 s22 fAK wAJ ⟨HAG,SAH,iAI,kAL,kAM,kAN,kAO⟩ hx22 oCB hp
  refine FW.seq (FW.seq (FW.region ?_))
  refine FL.v (E.move kAL) ?_
  refine FL.v (E.move kAN) ?_
  refine FL.v (E.lenP te45 rfl p1) ?_
  refine FL.v (E.lssT rfl rfl (zaq hx22)) ?_
  refine FL.nil ?_
  refine FW.condT rfl rfl ?_
  refine FW.skip (FW.seq (FW.block (FW.seq (FW.region ?_))))
  refine FL.v (E.move kAM) ?_
  obtain ⟨rAP,hrAQ,hp⟩:=bnd hp
  refine FL.call rfl rfl rfl (E.call Tryz.call30 (A1 rfl)) (zdH SAH.sl v0 a0 (p0.mono iAI) hrAQ) ?_
  rintro e wAR ⟨rfl,rAS⟩
  refine ⟨_,rfl,?_⟩
  have SAT:=SAH.call rAS
  refine FL.v (E.move (v:=Value.bool rAP) rfl) ?_
  refine FL.cut 4 (fun f w=>∃ H:GH,St Ha wa H w []∧Inc HAG H∧f 0=v0∧f 1=v1∧f 5=Value.int .i64 s22∧f 6=Value.int .i64 ((i22:Nat):Int)∧f 19=Value.bool (bif rAP then ((andK true 64 ((i22:Nat):Int) 1) == 1) else false)) ?_ ?_
  ·
   rcases bcase rAP with cB0|cB0
   ·
    refine FL.val (zac rfl rfl rfl cB0) rfl rfl (E.move kAL) ?_
    refine FL.val (zac rfl rfl rfl cB0) rfl rfl (E.and rfl rfl) ?_
    refine FL.val (zac rfl rfl rfl cB0) rfl rfl (E.eql rfl rfl) ?_
    refine FL.v (E.pickT rfl cB0 rfl) ?_
    exact FL.nil ⟨rfl,_,SAT,(Inc.rfl _),kAM,kAN,kAO,kAL,(congrArg Value.bool (bifT cB0).symm)⟩
   ·
    refine FL.skip (wF_no rfl rfl rfl cB0) rfl ?_
    refine FL.skip (wF_no rfl rfl rfl cB0) rfl ?_
    refine FL.skip (wF_no rfl rfl rfl cB0) rfl ?_
    refine FL.v (E.pickF rfl cB0 rfl) ?_
    exact FL.nil ⟨rfl,_,SAT,(Inc.rfl _),kAM,kAN,kAO,kAL,(congrArg Value.bool (bifF cB0).symm)⟩
  rintro fAZ wAY ⟨HAV,SAW,iAX,kB1,kB2,kB3,kB4,kB5⟩
  refine FL.v (E.move kB5) ?_
  refine FL.cut 6 (fun f w=>∃ H:GH,St Ha wa H w []∧Inc HAV H∧f 0=v0∧f 1=v1∧f 5=Value.int .i64 s22∧f 6=Value.int .i64 ((i22:Nat):Int)∧f 26=Value.bool (bif (bif rAP then ((andK true 64 ((i22:Nat):Int) 1) == 1) else false) then (decide (0≤y21)) else false)) ?_ ?_
  ·
   rcases bcase (bif rAP then ((andK true 64 ((i22:Nat):Int) 1) == 1) else false) with cBi|cBi
   ·
    refine FL.val (zac rfl rfl rfl cBi) rfl rfl (E.move kB2) ?_
    refine FL.val (zac rfl rfl rfl cBi) rfl rfl (E.move kB4) ?_
    obtain ⟨pBj,csBk,ptBl,lBm,atBn,relBo⟩:=p1.at (zak hx22)
    obtain rfl:=eI_open relBo
    refine FL.val (zac rfl rfl rfl cBi) rfl rfl (E.indexAddr te45 rfl rfl ptBl) ?_
    refine FL.val (zac rfl rfl rfl cBi) rfl rfl (E.load rfl (zae Tryz.isAgg3 ((atBn.mono (iAI.tr iAX)).now SAW.sl) rfl)) ?_
    refine FL.val (zac rfl rfl rfl cBi) rfl rfl (E.geq rfl rfl) ?_
    refine FL.v (E.pickT rfl cBi rfl) ?_
    exact FL.nil ⟨rfl,_,SAW,(Inc.rfl _),kB1,kB2,kB3,kB4,(congrArg Value.bool (bifT cBi).symm)⟩
   ·
    refine FL.skip (wF_no rfl rfl rfl cBi) rfl ?_
    refine FL.skip (wF_no rfl rfl rfl cBi) rfl ?_
    refine FL.skip (wF_no rfl rfl rfl cBi) rfl ?_
    refine FL.skip (wF_no rfl rfl rfl cBi) rfl ?_
    refine FL.skip (wF_no rfl rfl rfl cBi) rfl ?_
    refine FL.v (E.pickF rfl cBi rfl) ?_
    exact FL.nil ⟨rfl,_,SAW,(Inc.rfl _),kB1,kB2,kB3,kB4,(congrArg Value.bool (bifF cBi).symm)⟩
  rintro fBh wBg ⟨HBd,SBe,iBf,kBp,kBq,kBr,kBs,kBt⟩
  refine FL.v (E.move kBt) ?_
  refine FL.cut 11 (fun f w=>∃ H:GH,St Ha wa H w []∧Inc HBd H∧f 0=v0∧f 1=v1∧f 5=Value.int .i64 s22∧f 6=Value.int .i64 ((i22:Nat):Int)∧f 38=Value.bool (bif (bif (bif rAP then ((andK true 64 ((i22:Nat):Int) 1) == 1) else false) then (decide (0≤y21)) else false) then (bif (decide (s22 < 0)) then true else (decide (y21 < s22))) else false)) ?_ ?_
  ·
   rcases bcase (bif (bif rAP then ((andK true 64 ((i22:Nat):Int) 1) == 1) else false) then (decide (0≤y21)) else false) with cBZ|cBZ
   ·
    refine FL.val (zac rfl rfl rfl cBZ) rfl rfl (E.move kBr) ?_
    refine FL.val (zac rfl rfl rfl cBZ) rfl rfl (E.lss rfl rfl) ?_
    refine FL.val (zac rfl rfl rfl cBZ) rfl rfl (E.move (v:=Value.bool (decide (s22 < 0))) rfl) ?_
    refine FL.cut 7 (fun f w=>∃ H:GH,St Ha wa H w []∧Inc HBd H∧f 0=v0∧f 1=v1∧f 5=Value.int .i64 s22∧f 6=Value.int .i64 ((i22:Nat):Int)∧f 27=Value.bool (bif (bif rAP then ((andK true 64 ((i22:Nat):Int) 1) == 1) else false) then (decide (0≤y21)) else false)∧f 37=Value.bool (bif (decide (s22 < 0)) then true else (decide (y21 < s22)))) ?_ ?_
    ·
     rcases bcase (decide (s22 < 0)) with cCc|cCc
     ·
      refine FL.skip (wF_no rfl rfl rfl cCc) rfl ?_
      refine FL.skip (wF_no rfl rfl rfl cCc) rfl ?_
      refine FL.skip (wF_no rfl rfl rfl cCc) rfl ?_
      refine FL.skip (wF_no rfl rfl rfl cCc) rfl ?_
      refine FL.skip (wF_no rfl rfl rfl cCc) rfl ?_
      refine FL.skip (wF_no rfl rfl rfl cCc) rfl ?_
      refine FL.val (zac rfl rfl rfl cBZ) rfl rfl (E.pickT rfl cCc rfl) ?_
      exact FL.nil ⟨rfl,_,SBe,(Inc.rfl _),kBp,kBq,kBr,kBs,rfl,(congrArg Value.bool (bifT cCc).symm)⟩
     ·
      refine FL.val (zac rfl rfl rfl cCc) rfl rfl (E.move kBq) ?_
      refine FL.val (zac rfl rfl rfl cCc) rfl rfl (E.move kBs) ?_
      obtain ⟨pCd,csCe,ptCf,lCg,atCh,relCi⟩:=p1.at (zak hx22)
      obtain rfl:=eI_open relCi
      refine FL.val (zac rfl rfl rfl cCc) rfl rfl (E.indexAddr te45 rfl rfl ptCf) ?_
      refine FL.val (zac rfl rfl rfl cCc) rfl rfl (E.load rfl (zae Tryz.isAgg3 ((atCh.mono ((iAI.tr iAX).tr iBf)).now SBe.sl) rfl)) ?_
      refine FL.val (zac rfl rfl rfl cCc) rfl rfl (E.move kBr) ?_
      refine FL.val (zac rfl rfl rfl cCc) rfl rfl (E.lss rfl rfl) ?_
      refine FL.val (zac rfl rfl rfl cBZ) rfl rfl (E.pickF rfl cCc rfl) ?_
      exact FL.nil ⟨rfl,_,SBe,(Inc.rfl _),kBp,kBq,kBr,kBs,rfl,(congrArg Value.bool (bifF cCc).symm)⟩
    rintro fCb wCa ⟨HC7,SC8,iC9,kCj,kCk,kCl,kCm,kCn,kCo⟩
    refine FL.v (E.pickT kCn cBZ kCo) ?_
    exact FL.nil ⟨rfl,_,SC8,iC9,kCj,kCk,kCl,kCm,(congrArg Value.bool (bifT cBZ).symm)⟩
   ·
    refine FL.skip (wF_no rfl rfl rfl cBZ) rfl ?_
    refine FL.skip (wF_no rfl rfl rfl cBZ) rfl ?_
    refine FL.skip (wF_no rfl rfl rfl cBZ) rfl ?_
    refine FL.skip (zas rfl rfl rfl) rfl ?_
    refine FL.skip (zas rfl rfl rfl) rfl ?_
    refine FL.skip (zas rfl rfl rfl) rfl ?_
    refine FL.skip (zas rfl rfl rfl) rfl ?_
    refine FL.skip (zas rfl rfl rfl) rfl ?_
    refine FL.skip (zas rfl rfl rfl) rfl ?_
    refine FL.skip (wF_no rfl rfl rfl cBZ) rfl ?_
    refine FL.v (E.pickF rfl cBZ rfl) ?_
    exact FL.nil ⟨rfl,_,SBe,(Inc.rfl _),kBp,kBq,kBr,kBs,(congrArg Value.bool (bifF cBZ).symm)⟩
  rintro fBY wBX ⟨HBU,SBV,iBW,kCp,kCq,kCr,kCs,kCt⟩
  refine FL.nil ?_
  rcases ifB hp with ⟨cCu,hp⟩|⟨cCu,hp⟩
  ·
   refine FW.condT kCt cCu ?_
   refine FW.region ?_
   refine FL.v (E.move kCq) ?_
   refine FL.v (E.move kCs) ?_
   obtain ⟨pCv,csCw,ptCx,lCy,atCz,relCA⟩:=p1.at (zak hx22)
   obtain rfl:=eI_open relCA
   refine FL.v (E.indexAddr te45 rfl rfl ptCx) ?_
   refine FL.v (E.load rfl (zae Tryz.isAgg3 ((atCz.mono (((iAI.tr iAX).tr iBf).tr iBW)).now SBV.sl) rfl)) ?_
   refine FL.v (E.assign (v:=Value.int .i64 y21) rfl) ?_
   refine FL.nil (FW.region ?_)
   refine FL.v (E.move kCs) ?_
   refine FL.v (E.add rfl rfl) ?_
   refine FL.v (E.assign (v:=Value.int .i64 (wr (((i22:Nat):Int) + 1))) rfl) ?_
   refine FL.nil ?_
   obtain rfl:=Option.some.inj hp
   exact ⟨rfl,⟨_,SBV,(((iAI.tr iAX).tr iBf).tr iBW),(zam rfl (zal hx22) (p1.mono (((iAI.tr iAX).tr iBf).tr iBW)).le),kCp,kCq,rfl⟩⟩
  ·
   refine FW.condF kCt cCu ?_
   refine FW.skip (FW.region ?_)
   refine FL.v (E.move kCs) ?_
   refine FL.v (E.add rfl rfl) ?_
   refine FL.v (E.assign (v:=Value.int .i64 (wr (((i22:Nat):Int) + 1))) rfl) ?_
   refine FL.nil ?_
   obtain rfl:=Option.some.inj hp
   exact ⟨rfl,⟨_,SBV,(((iAI.tr iAX).tr iBf).tr iBW),(zam rfl (zal hx22) (p1.mono (((iAI.tr iAX).tr iBf).tr iBW)).le),kCp,kCq,kCr⟩⟩
 ·
  clear hp hq
  rintro s22 fCM wCL ⟨HCI,SCJ,iCK,kCN,kCO,kCP,kCQ⟩
  refine FW.seq (FW.seq (FW.region ?_))
  refine FL.v (E.move kCN) ?_
  refine FL.v (E.move kCP) ?_
  refine FL.v (E.lenP te45 rfl p1) ?_
  refine FL.v (E.lss rfl rfl) ?_
  refine FL.nil ?_
  refine FW.condF rfl zar ?_
  refine FW.exit ?_
  exact ⟨nofun,rfl,⟨_,SCJ,iCK,kCQ⟩⟩
 ·
  clear hq
  intro e fCG wCF hD
  rcases q22 with s22|x22
  ·
   obtain ⟨rfl,hD⟩:=hD
   obtain ⟨HCC,SCD,iCE,kCH⟩:=hD
   replace hp:=el_go hp
   refine FW.seq (FW.region ?_)
   refine FL.v (E.move kCH) ?_
   refine FL.v (E.assign (v:=Value.int .i64 s22) rfl) ?_
   refine FL.nil ?_
   refine FW.ret ?_
   obtain rfl:=Option.some.inj hp
   exact ⟨.inr rfl,res1 rfl rfl ⟨rfl,SCD.back⟩⟩
  ·
   exact x22.elim

set_option maxHeartbeats 4000000 in
theorem w_spec_LeastSpace {Ha:GH} {wa:World} (hs:Sl Ha wa) (a0:Cnf) (v0_1:Value) (p0_1:RSl Ha (eL eI 1) 1 v0_1 a0.clauses) {r:(Int×Bool)} (hp:(PF.zcx a0)=some r) :
  Calls Tryz.prog 11 #[Value.agg #[Value.int .i64 a0.vars,v0_1]] wa (Sc Ha wa (Value.tuple #[Value.int .i64 r.1,Value.bool r.2])):=by
 unfold PF.zcx at hp
 have S0:=St.init hs
 refine zag (N:=29) (args:=[Value.agg #[Value.int .i64 a0.vars,v0_1]]) Tryz.func11 rfl rfl rfl ?_
 refine FW.seq (FW.region ?_)
 obtain ⟨b21,w22,run23,S24⟩:=S0.box (P:=Tryz.prog) 28 [Value.int .i64 a0.vars,v0_1] (v:=Value.agg #[Value.int .i64 a0.vars,v0_1]) rfl (zab rfl (zab p0_1.one zad))
 refine FL.v (E.box rfl run23) ?_
 obtain ⟨H25,S26,i27,at28⟩:=S24.sealBox (i:=0) (l':=[]) rfl rfl
 refine FL.v (E.assign (v:=Value.int .i64 0) rfl) ?_
 refine FL.v (E.assign (v:=Value.bool false) rfl) ?_
 refine FL.nil (FW.seq (FW.region ?_))
 refine FL.v (E.load rfl (zax Tryz.isAgg28 Tryz.sizeOf28 (at28.now S26.sl) rfl)) ?_
 obtain ⟨r29,hr30,hp⟩:=bnd hp
 refine FL.call rfl rfl rfl (E.call Tryz.call20 (A1 rfl)) (w_spec_l15All S26.sl a0 v0_1 (p0_1.mono i27) hr30) ?_
 rintro e w32 ⟨H31,v35,rfl,r34,h36⟩
 refine ⟨_,rfl,?_⟩
 have S33:=S26.call r34
 refine FL.v (E.move (v:=Value.tuple #[v35,Value.bool r29.2]) rfl) ?_
 refine FL.v (E.extract (i:=0) rfl rfl) ?_
 refine FL.v (E.extract (i:=1) rfl rfl) ?_
 refine FL.v (E.assign (v:=v35) rfl) ?_
 refine FL.v (E.assign (v:=Value.bool r29.2) rfl) ?_
 refine FL.nil (FW.seq (FW.seq (FW.region ?_)))
 refine FL.v (E.move (v:=Value.bool r29.2) rfl) ?_
 refine FL.v (E.not rfl) ?_
 refine FL.v (E.move (v:=Value.bool (!r29.2)) rfl) ?_
 obtain ⟨t42,hqt42,hp⟩:=bnd hp
 refine FL.cut 4 (fun f w=>∃ H:GH,St Ha wa H w []∧Inc H31 H∧f 1=Value.pointer (some ⟨b21,0,none⟩)∧f 4=v35∧f 18=Value.bool t42) ?_ ?_
 ·
  clear hp;have hp:=hqt42;clear hqt42
  rcases ifB hp with ⟨c48,hp⟩|⟨c48,hp⟩
  ·
   refine FL.skip (wF_no rfl rfl rfl c48) rfl ?_
   refine FL.skip (wF_no rfl rfl rfl c48) rfl ?_
   refine FL.skip (wF_no rfl rfl rfl c48) rfl ?_
   obtain rfl:=Option.some.inj hp
   refine FL.v (E.pickT rfl c48 rfl) ?_
   exact FL.nil ⟨rfl,_,S33,(Inc.rfl _),rfl,rfl,rfl⟩
  ·
   refine FL.val (zac rfl rfl rfl c48) rfl rfl (E.move (v:=v35) rfl) ?_
   obtain ⟨r49,hr50,hp⟩:=bnd hp
   refine FL.call (zac rfl rfl rfl c48) rfl rfl (E.call Tryz.call30 (A1 rfl)) (zdH S33.sl v35 r29.1 h36 hr50) ?_
   rintro e w51 ⟨rfl,r52⟩
   refine ⟨_,rfl,?_⟩
   have S53:=S33.call r52
   refine FL.val (zac rfl rfl rfl c48) rfl rfl (E.not rfl) ?_
   obtain rfl:=Option.some.inj hp
   refine FL.v (E.pickF rfl c48 rfl) ?_
   exact FL.nil ⟨rfl,_,S53,(Inc.rfl _),rfl,rfl,rfl⟩
 rintro f47 w46 ⟨H43,S44,i45,k54,k55,k56⟩
 refine FL.nil ?_
 rcases ifB hp with ⟨c57,hp⟩|⟨c57,hp⟩
 ·
  refine FW.condT k56 c57 ?_
  refine FW.seq (FW.region ?_)
  refine FL.v (E.assign (v:=Value.int .i64 0) rfl) ?_
  refine FL.v (E.assign (v:=Value.bool false) rfl) ?_
  refine FL.nil ?_
  refine FW.ret ?_
  obtain rfl:=Option.some.inj hp
  exact ⟨.inr rfl,res2 rfl rfl rfl ⟨rfl,S44.back⟩⟩
 ·
  refine FW.condF k56 c57 ?_
  refine FW.skip (FW.seq (FW.region ?_))
  refine FL.v (E.assign (v:=Value.int .i64 1) rfl) ?_
  refine FL.nil (FW.seq ?_)
  obtain ⟨q58,hq,hp⟩:=bndR hp
  refine FW.block ?_
  refine FW.mono (FW.iter (S:=Int) (X:=Empty) (fun (s58:Int) f w=>∃ H:GH,St Ha wa H w []∧Inc H43 H∧f 1=Value.pointer (some ⟨b21,0,none⟩)∧f 4=v35∧f 6=Value.int .i64 s58) (fun (q:Rs Int Empty) e f w=>match q with|.go s58=>e=Exit.exit 0∧(∃ H:GH,St Ha wa H w []∧Inc H43 H∧f 6=Value.int .i64 s58)|.rt x=>x.elim) hq ⟨_,S44,(Inc.rfl _),k54,k55,rfl⟩ ?_) ?_
  ·
   clear hp hq
   rintro s58 f92 w91 ⟨H88,S89,i90,k93,k94,k95⟩ oAh hp
   refine FW.seq (FW.seq (FW.region ?_))
   refine FL.v (E.move k94) ?_
   refine FL.v (E.load k93 (zax Tryz.isAgg28 Tryz.sizeOf28 ((at28.mono ((r34.inc.tr i45).tr i90)).now S89.sl) rfl)) ?_
   refine FL.v (E.move k94) ?_
   refine FL.v (E.move k95) ?_
   obtain ⟨r96,hr97,hp⟩:=bnd hp
   refine FL.call rfl rfl rfl (E.call Tryz.call23 (A3 rfl rfl rfl)) (w_spec_l15From S89.sl a0 v0_1 (p0_1.mono (((i27.tr r34.inc).tr i45).tr i90)) v35 r29.1 (h36.mono (i45.tr i90)) s58 hr97) ?_
   rintro e w99 ⟨H98,vA2,nA3,csA4,rfl,rA1,elsA5⟩
   refine ⟨_,rfl,?_⟩
   have elsA5:=elsA5.mono (up_le S89.size)
   have SA0:=S89.join (l':=[.row 3 1 vA2 nA3 csA4]) rA1 rfl
   obtain ⟨HA6,SA7,iA8,hA9,nvAa⟩:=SA0.sealRowU (i:=0) (l':=[]) rfl elsA5 (by decide) rfl
   obtain ⟨rAb,hrAc,hp⟩:=bnd hp
   refine FL.call rfl rfl rfl (E.call Tryz.call22 (A2 rfl rfl)) (w_spec_l15Time SA7.sl v35 r29.1 (h36.mono (((i45.tr i90).tr rA1.run.inc).tr iA8)) vA2 r96 (hA9.mono upI) hrAc) ?_
   rintro e wAd ⟨rfl,rAe⟩
   refine ⟨_,rfl,?_⟩
   have rAe:=Run.lend iA8 SA0.sl rAe
   have SAf:=SA0.call rAe
   refine FL.v (E.lss rfl rfl) ?_
   refine FL.nil ?_
   rcases ifB hp with ⟨cAg,hp⟩|⟨cAg,hp⟩
   ·
    refine FW.condT rfl cAg ?_
    refine FW.skip (FW.block (FW.region ?_))
    refine FL.v (E.move k95) ?_
    refine FL.v (E.add rfl rfl) ?_
    refine FL.v (E.assign (v:=Value.int .i64 (wr (s58 + 1))) rfl) ?_
    refine FL.nil ?_
    obtain rfl:=Option.some.inj hp
    exact ⟨rfl,⟨_,(SAf.sel [] (by decide) rfl),(i90.tr rA1.run.inc),k93,k94,rfl⟩⟩
   ·
    refine FW.condF rfl cAg ?_
    refine FW.exit ?_
    obtain rfl:=Option.some.inj hp
    exact ⟨nofun,rfl,⟨_,(SAf.sel [] (by decide) rfl),(i90.tr rA1.run.inc),k95⟩⟩
  ·
   clear hq
   intro e fAm wAl hD
   rcases q58 with s58|x58
   ·
    obtain ⟨rfl,hD⟩:=hD
    obtain ⟨HAi,SAj,iAk,kAn⟩:=hD
    replace hp:=el_go hp
    refine FW.seq (FW.region ?_)
    refine FL.v (E.move kAn) ?_
    refine FL.v (E.assign (v:=Value.int .i64 s58) rfl) ?_
    refine FL.v (E.assign (v:=Value.bool true) rfl) ?_
    refine FL.nil ?_
    refine FW.ret ?_
    obtain rfl:=Option.some.inj hp
    exact ⟨.inr rfl,res2 rfl rfl rfl ⟨rfl,SAj.back⟩⟩
   ·
    exact x58.elim

theorem zdb {Ha:GH} {wa:World} (hs:Sl Ha wa) (a0:Int) (a1:Int) (a2:Int) :
  Calls Tryz.prog 26 #[Value.int .i64 a0,Value.int .i64 a1,Value.int .i64 a2] wa (Sc Ha wa (Value.bool (PF.zaY a0 a1 a2))):=by
 obtain ⟨r,hp⟩:∃ r,(PF.zaY a0 a1 a2)=r:=⟨_,rfl⟩
 rw [hp]
 unfold PF.zaY at hp
 have S0:=St.init hs
 refine zag (N:=15) (args:=[Value.int .i64 a0,Value.int .i64 a1,Value.int .i64 a2]) Tryz.func26 rfl rfl rfl ?_
 refine FW.seq (FW.region ?_)
 refine FL.v (E.assign (v:=Value.bool false) rfl) ?_
 refine FL.nil (FW.seq (FW.region ?_))
 refine FL.v (E.move (v:=Value.int .i64 a0) rfl) ?_
 refine FL.v (E.move (v:=Value.int .i64 a1) rfl) ?_
 refine FL.v (E.geq rfl rfl) ?_
 refine FL.v (E.move (v:=Value.bool (decide (a1≤a0))) rfl) ?_
 refine FL.cut 4 (fun f w=>∃ H:GH,St Ha wa H w []∧Inc Ha H∧f 14=Value.bool (bif (decide (a1≤a0)) then (decide (a0≤a2)) else false)) ?_ ?_
 ·
  rcases bcase (decide (a1≤a0)) with c27|c27
  ·
   refine FL.val (zac rfl rfl rfl c27) rfl rfl (E.move (v:=Value.int .i64 a0) rfl) ?_
   refine FL.val (zac rfl rfl rfl c27) rfl rfl (E.move (v:=Value.int .i64 a2) rfl) ?_
   refine FL.val (zac rfl rfl rfl c27) rfl rfl (E.leq rfl rfl) ?_
   refine FL.v (E.pickT rfl c27 rfl) ?_
   exact FL.nil ⟨rfl,_,S0,(Inc.rfl _),(congrArg Value.bool (bifT c27).symm)⟩
  ·
   refine FL.skip (wF_no rfl rfl rfl c27) rfl ?_
   refine FL.skip (wF_no rfl rfl rfl c27) rfl ?_
   refine FL.skip (wF_no rfl rfl rfl c27) rfl ?_
   refine FL.v (E.pickF rfl c27 rfl) ?_
   exact FL.nil ⟨rfl,_,S0,(Inc.rfl _),(congrArg Value.bool (bifF c27).symm)⟩
 rintro f26 w25 ⟨H22,S23,i24,k28⟩
 refine FL.v (E.assign k28) ?_
 refine FL.nil ?_
 refine FW.ret ?_
 obtain rfl:=hp
 exact ⟨.inr rfl,res1 rfl rfl ⟨rfl,S23.back⟩⟩

theorem w_impl_isLiteral {Ha:GH} {wa:World} (hs:Sl Ha wa) (a0:Int) (a1:Int) :
  Calls Tryz.prog 124 #[Value.int .i64 a0,Value.int .i64 a1] wa (Sc Ha wa (Value.bool (PF.zby a0 a1))):=by
 obtain ⟨r,hp⟩:∃ r,(PF.zby a0 a1)=r:=⟨_,rfl⟩
 rw [hp]
 unfold PF.zby at hp
 have S0:=St.init hs
 refine zag (N:=14) (args:=[Value.int .i64 a0,Value.int .i64 a1]) Tryz.func124 rfl rfl rfl ?_
 refine FW.seq (FW.region ?_)
 refine FL.v (E.assign (v:=Value.bool false) rfl) ?_
 refine FL.nil (FW.seq (FW.region ?_))
 refine FL.v (E.move (v:=Value.int .i64 a1) rfl) ?_
 refine FL.v (E.neq rfl rfl) ?_
 refine FL.v (E.move (v:=Value.bool (!(a1 == 0))) rfl) ?_
 refine FL.cut 6 (fun f w=>∃ H:GH,St Ha wa H w []∧Inc Ha H∧f 13=Value.bool (bif (!(a1 == 0)) then (PF.zaY a1 (wr (-a0)) a0) else false)) ?_ ?_
 ·
  rcases bcase (!(a1 == 0)) with c30|c30
  ·
   refine FL.val (zac rfl rfl rfl c30) rfl rfl (E.move (v:=Value.int .i64 a1) rfl) ?_
   refine FL.val (zac rfl rfl rfl c30) rfl rfl (E.move (v:=Value.int .i64 a0) rfl) ?_
   refine FL.val (zac rfl rfl rfl c30) rfl rfl (E.neg rfl) ?_
   refine FL.val (zac rfl rfl rfl c30) rfl rfl (E.move (v:=Value.int .i64 a0) rfl) ?_
   refine FL.call (zac rfl rfl rfl c30) rfl rfl (E.call Tryz.call26 (A3 rfl rfl rfl)) (zdb S0.sl a1 (wr (-a0)) a0) ?_
   rintro e w31 ⟨rfl,r32⟩
   refine ⟨_,rfl,?_⟩
   have S33:=S0.call r32
   refine FL.v (E.pickT rfl c30 rfl) ?_
   exact FL.nil ⟨rfl,_,S33,(Inc.rfl _),(congrArg Value.bool (bifT c30).symm)⟩
  ·
   refine FL.skip (wF_no rfl rfl rfl c30) rfl ?_
   refine FL.skip (wF_no rfl rfl rfl c30) rfl ?_
   refine FL.skip (wF_no rfl rfl rfl c30) rfl ?_
   refine FL.skip (wF_no rfl rfl rfl c30) rfl ?_
   refine FL.skip (wF_no rfl rfl rfl c30) rfl ?_
   refine FL.v (E.pickF rfl c30 rfl) ?_
   exact FL.nil ⟨rfl,_,S0,(Inc.rfl _),(congrArg Value.bool (bifF c30).symm)⟩
 rintro f29 w28 ⟨H25,S26,i27,k34⟩
 refine FL.v (E.assign k34) ?_
 refine FL.nil ?_
 refine FW.ret ?_
 obtain rfl:=hp
 exact ⟨.inr rfl,res1 rfl rfl ⟨rfl,S26.back⟩⟩

theorem zcS {Ha:GH} {wa:World} (hs:Sl Ha wa) (a0:Int) :
  Calls Tryz.prog 117 #[Value.int .i64 a0] wa (Sc Ha wa (Value.int .i64 (PF.zat a0))):=by
 obtain ⟨r,hp⟩:∃ r,(PF.zat a0)=r:=⟨_,rfl⟩
 rw [hp]
 unfold PF.zat at hp
 have S0:=St.init hs
 refine zag (N:=7) (args:=[Value.int .i64 a0]) Tryz.func117 rfl rfl rfl ?_
 refine FW.seq (FW.region ?_)
 refine FL.v (E.assign (v:=Value.int .i64 0) rfl) ?_
 refine FL.nil (FW.seq (FW.region ?_))
 refine FL.v (E.move (v:=Value.int .i64 a0) rfl) ?_
 refine FL.v (E.move (v:=Value.int .i64 a0) rfl) ?_
 refine FL.v (E.neg rfl) ?_
 refine FL.v (E.max2 rfl rfl) ?_
 refine FL.v (E.assign (v:=Value.int .i64 (mx a0 (wr (-a0)))) rfl) ?_
 refine FL.nil ?_
 refine FW.ret ?_
 obtain rfl:=hp
 exact ⟨.inr rfl,res1 rfl rfl ⟨rfl,S0.back⟩⟩

theorem w_impl_varsOk {Ha:GH} {wa:World} (hs:Sl Ha wa) (a0:Int) :
  Calls Tryz.prog 102 #[Value.int .i64 a0] wa (Sc Ha wa (Value.bool (PF.zbg a0))):=by
 obtain ⟨r,hp⟩:∃ r,(PF.zbg a0)=r:=⟨_,rfl⟩
 rw [hp]
 unfold PF.zbg at hp
 have S0:=St.init hs
 refine zag (N:=5) (args:=[Value.int .i64 a0]) Tryz.func102 rfl rfl rfl ?_
 refine FW.seq (FW.region ?_)
 refine FL.v (E.assign (v:=Value.bool false) rfl) ?_
 refine FL.nil (FW.seq (FW.region ?_))
 refine FL.v (E.move (v:=Value.int .i64 a0) rfl) ?_
 refine FL.call rfl rfl rfl (E.call Tryz.call26 (A3 rfl rfl rfl)) (zdb S0.sl a0 0 12) ?_
 rintro e w21 ⟨rfl,r22⟩
 refine ⟨_,rfl,?_⟩
 have S23:=S0.call r22
 refine FL.v (E.assign (v:=Value.bool (PF.zaY a0 0 12)) rfl) ?_
 refine FL.nil ?_
 refine FW.ret ?_
 obtain rfl:=hp
 exact ⟨.inr rfl,res1 rfl rfl ⟨rfl,S23.back⟩⟩

set_option maxHeartbeats 4000000 in
theorem w_impl_IsClause {Ha:GH} {wa:World} (hs:Sl Ha wa) (a0:Int) (v1:Value) (a1:List Int) (p1:RSl Ha eI 1 v1 a1) {r:Bool} (hp:(PF.zcy a0 a1)=some r) :
  Calls Tryz.prog 101 #[Value.int .i64 a0,v1] wa (Sc Ha wa (Value.bool r)):=by
 unfold PF.zcy at hp
 have S0:=St.init hs
 refine zag (N:=36) (args:=[Value.int .i64 a0,v1]) Tryz.func101 rfl rfl rfl ?_
 refine FW.seq (FW.region ?_)
 refine FL.v (E.assign (v:=Value.bool false) rfl) ?_
 refine FL.nil (FW.seq (FW.seq (FW.region ?_)))
 refine FL.v (E.move (v:=v1) rfl) ?_
 refine FL.v (E.lenP te45 rfl p1) ?_
 refine FL.v (E.move (v:=Value.int .i64 0) rfl) ?_
 refine FL.nil ?_
 obtain ⟨q22,hq,hp⟩:=bndR hp
 refine FW.block ?_
 refine FW.mono (FW.forL (S:=Unit) (X:=Bool) (fun (i22:Nat) (s22:Unit) f w=>∃ H:GH,St Ha wa H w []∧Inc Ha H∧f 9=Value.int .i64 ((i22:Nat):Int)∧f 0=Value.int .i64 a0∧f 1=v1∧f 7=v1∧f 8=Value.int .i64 (len a1)) (fun q e f w=>match q with|.go s22=>e=Exit.exit 0∧(∃ H:GH,St Ha wa H w []∧Inc Ha H∧f 0=Value.int .i64 a0)|.rt x=>((e=Exit.ret)∧(fun e f w=>(e=Exit.normal∨e=Exit.ret)∧∀ a,Fr (δ:=[]) 36 a f→∃ v,(results Tryz.f101 a.tmps).run Tryz.prog w=.ok v w∧(Sc Ha wa (Value.bool x)) (.returned v) w) e f w)) hq ⟨_,S0,(Inc.rfl _),rfl,rfl,rfl,rfl,rfl⟩ ?_ ?_) ?_
 ·
  clear hp hq
  rintro i22 y21 s22 fAl wAk ⟨HAh,SAi,iAj,kAm,kAn,kAo,kAp,kAq⟩ hx22 oBN hp
  refine FW.seq (FW.region ?_)
  refine FL.v (E.lssT kAm kAq (zaq hx22)) ?_
  refine FL.nil (FW.seq ?_)
  refine FW.condT rfl rfl ?_
  refine FW.skip (FW.seq (FW.block (FW.seq (FW.region ?_))))
  refine FL.v (E.move kAm) ?_
  obtain ⟨pAr,csAs,ptAt,lAu,atAv,relAw⟩:=p1.at (zak hx22)
  obtain rfl:=eI_open relAw
  refine FL.v (E.indexAddr te45 kAp kAm ptAt) ?_
  refine FL.v (E.load rfl (zae Tryz.isAgg3 ((atAv.mono iAj).now SAi.sl) rfl)) ?_
  refine FL.v (E.assign (v:=Value.int .i64 ((i22:Nat):Int)) rfl) ?_
  refine FL.v (E.assign (v:=Value.int .i64 y21) rfl) ?_
  refine FL.nil (FW.seq ?_)
  refine FW.draw (fun w'=>Run wAk.heap.size HAh wAk HAh w') (by kernel_rfl) (by kernel_rfl) (zaF SAi.sl) ?_
  refine FD.val rfl rfl rfl (fun w' hw'=>(E.move kAn)) ?_
  refine FD.val rfl rfl rfl (fun w' hw'=>(E.move (v:=Value.int .i64 y21) rfl)) ?_
  refine FD.call rfl rfl rfl (fun w' hw'=>(E.call Tryz.call124 (A2 rfl rfl))) (fun w' hw'=>Calls.cls hw' (w_impl_isLiteral (SAi.call hw').sl a0 y21)) ?_
  refine FD.val rfl rfl rfl (fun w' hw'=>(E.not rfl)) ?_
  refine FD.val rfl rfl rfl (fun w' hw'=>(E.move (v:=Value.bool (!(PF.zby a0 y21))) rfl)) ?_
  obtain ⟨t164,hqtB2,hp⟩:=bnd hp
  refine FD.cut 14 (fun f=>f 0=Value.int .i64 a0∧f 1=v1∧f 7=v1∧f 8=Value.int .i64 (len a1)∧f 9=Value.int .i64 ((i22:Nat):Int)∧f 32=Value.bool t164) ?_ ?_
  ·
   clear hp;have hp:=hqtB2;clear hqtB2
   rcases ifB hp with ⟨cB8,hp⟩|⟨cB8,hp⟩
   ·
    refine FD.skip (wF_no rfl rfl rfl cB8) rfl ?_
    refine FD.skip (wF_no rfl rfl rfl cB8) rfl ?_
    refine FD.skip (wF_no rfl rfl rfl cB8) rfl ?_
    refine FD.skip (zas rfl rfl rfl) rfl ?_
    refine FD.skip (zas rfl rfl rfl) rfl ?_
    refine FD.skip (zas rfl rfl rfl) rfl ?_
    refine FD.skip (zas rfl rfl rfl) rfl ?_
    refine FD.skip (zas rfl rfl rfl) rfl ?_
    refine FD.skip (zas rfl rfl rfl) rfl ?_
    refine FD.skip (zas rfl rfl rfl) rfl ?_
    refine FD.skip (zas rfl rfl rfl) rfl ?_
    refine FD.skip (zas rfl rfl rfl) rfl ?_
    refine FD.skip (wF_no rfl rfl rfl cB8) rfl ?_
    obtain rfl:=Option.some.inj hp
    refine FD.val rfl rfl rfl (fun w' hw'=>(E.pickT rfl cB8 rfl)) ?_
    exact FD.nil ⟨kAn,kAo,kAp,kAq,kAm,rfl⟩
   ·
    refine FD.val (zac rfl rfl rfl cB8) rfl rfl (fun w' hw'=>(E.move (v:=Value.int .i64 ((i22:Nat):Int)) rfl)) ?_
    refine FD.val (zac rfl rfl rfl cB8) rfl rfl (fun w' hw'=>(E.gtr rfl rfl)) ?_
    refine FD.val (zac rfl rfl rfl cB8) rfl rfl (fun w' hw'=>(E.move (v:=Value.bool (decide (0 < ((i22:Nat):Int)))) rfl)) ?_
    obtain ⟨t179,hqtBh,hp⟩:=bnd hp
    refine FD.cut 10 (fun f=>f 0=Value.int .i64 a0∧f 1=v1∧f 7=v1∧f 8=Value.int .i64 (len a1)∧f 9=Value.int .i64 ((i22:Nat):Int)∧f 18=Value.bool (!(PF.zby a0 y21))∧f 31=Value.bool t179) ?_ ?_
    ·
     clear hp;have hp:=hqtBh;clear hqtBh
     rcases ifB hp with ⟨cBn,hp⟩|⟨cBn,hp⟩
     ·
      refine FD.val (zac rfl rfl rfl cBn) rfl rfl (fun w' hw'=>(E.move (v:=Value.int .i64 y21) rfl)) ?_
      refine FD.call (zac rfl rfl rfl cBn) rfl rfl (fun w' hw'=>(E.call Tryz.call117 (A1 rfl))) (fun w' hw'=>Calls.cls hw' (zcS (SAi.call hw').sl y21)) ?_
      refine FD.val (zac rfl rfl rfl cBn) rfl rfl (fun w' hw'=>(E.move kAo)) ?_
      refine FD.val (zac rfl rfl rfl cBn) rfl rfl (fun w' hw'=>(E.move (v:=Value.int .i64 ((i22:Nat):Int)) rfl)) ?_
      refine FD.val (zac rfl rfl rfl cBn) rfl rfl (fun w' hw'=>(E.sub rfl rfl)) ?_
      obtain ⟨xBu,hxBv,hp⟩:=bnd hp
      obtain ⟨pBo,csBp,ptBq,lBr,atBs,relBt⟩:=p1.at hxBv
      obtain rfl:=eI_open relBt
      refine FD.val (zac rfl rfl rfl cBn) rfl rfl (fun w' hw'=>(E.indexAddr te45 rfl rfl ptBq)) ?_
      refine FD.val (zac rfl rfl rfl cBn) rfl rfl (fun w' hw'=>(E.load rfl (zae Tryz.isAgg3 ((atBs.mono iAj).now (SAi.call hw').sl) rfl))) ?_
      refine FD.call (zac rfl rfl rfl cBn) rfl rfl (fun w' hw'=>(E.call Tryz.call117 (A1 rfl))) (fun w' hw'=>Calls.cls hw' (zcS (SAi.call hw').sl xBu)) ?_
      refine FD.val (zac rfl rfl rfl cBn) rfl rfl (fun w' hw'=>(E.leq rfl rfl)) ?_
      obtain rfl:=Option.some.inj hp
      refine FD.val (zac rfl rfl rfl cB8) rfl rfl (fun w' hw'=>(E.pickT rfl cBn rfl)) ?_
      exact FD.nil ⟨kAn,kAo,kAp,kAq,kAm,rfl,rfl⟩
     ·
      refine FD.skip (wF_no rfl rfl rfl cBn) rfl ?_
      refine FD.skip (wF_no rfl rfl rfl cBn) rfl ?_
      refine FD.skip (wF_no rfl rfl rfl cBn) rfl ?_
      refine FD.skip (wF_no rfl rfl rfl cBn) rfl ?_
      refine FD.skip (wF_no rfl rfl rfl cBn) rfl ?_
      refine FD.skip (wF_no rfl rfl rfl cBn) rfl ?_
      refine FD.skip (wF_no rfl rfl rfl cBn) rfl ?_
      refine FD.skip (wF_no rfl rfl rfl cBn) rfl ?_
      refine FD.skip (wF_no rfl rfl rfl cBn) rfl ?_
      obtain rfl:=Option.some.inj hp
      refine FD.val (zac rfl rfl rfl cB8) rfl rfl (fun w' hw'=>(E.pickF rfl cBn rfl)) ?_
      exact FD.nil ⟨kAn,kAo,kAp,kAq,kAm,rfl,rfl⟩
    rintro fBm ⟨kBw,kBx,kBy,kBz,kBA,kBB,kBC⟩
    obtain rfl:=Option.some.inj hp
    refine FD.val rfl rfl rfl (fun w' hw'=>(E.pickF kBB cB8 kBC)) ?_
    exact FD.nil ⟨kBw,kBx,kBy,kBz,kBA,rfl⟩
  rintro fB7 ⟨kBD,kBE,kBF,kBG,kBH,kBI⟩
  refine FD.nil ?_
  intro wBJ rBL
  have SBK:=SAi.call rBL
  rcases ifB hp with ⟨cBM,hp⟩|⟨cBM,hp⟩
  ·
   refine FW.condT kBI cBM ?_
   refine FW.seq (FW.region ?_)
   refine FL.v (E.assign (v:=Value.bool false) rfl) ?_
   refine FL.nil ?_
   refine FW.ret ?_
   obtain rfl:=Option.some.inj hp
   exact ⟨nofun,rfl,⟨.inr rfl,res1 rfl rfl ⟨rfl,SBK.back⟩⟩⟩
  ·
   refine FW.condF kBI cBM ?_
   refine FW.skip (FW.region ?_)
   refine FL.v (E.add kBH rfl) ?_
   refine FL.v (E.move (v:=Value.int .i64 (wr (((i22:Nat):Int) + 1))) rfl) ?_
   refine FL.nil ?_
   obtain rfl:=Option.some.inj hp
   exact ⟨rfl,⟨_,SBK,iAj,(zam rfl (zal hx22) (p1.mono iAj).le),kBD,kBE,kBF,kBG⟩⟩
 ·
  clear hp hq
  rintro s22 fC1 wC0 ⟨HBX,SBY,iBZ,kC2,kC3,kC4,kC5,kC6⟩
  refine FW.seq (FW.region ?_)
  refine FL.v (E.lss kC2 kC6) ?_
  refine FL.nil (FW.seq ?_)
  refine FW.condF rfl zar ?_
  refine FW.exit ?_
  exact ⟨nofun,rfl,⟨_,SBY,iBZ,kC3⟩⟩
 ·
  clear hq
  intro e fBS wBR hD
  rcases q22 with s22|x22
  ·
   obtain ⟨rfl,hD⟩:=hD
   obtain ⟨HBO,SBP,iBQ,kBT⟩:=hD
   replace hp:=el_go hp
   refine FW.seq (FW.region ?_)
   refine FL.v (E.move kBT) ?_
   refine FL.call rfl rfl rfl (E.call Tryz.call102 (A1 rfl)) (w_impl_varsOk SBP.sl a0) ?_
   rintro e wBU ⟨rfl,rBV⟩
   refine ⟨_,rfl,?_⟩
   have SBW:=SBP.call rBV
   refine FL.v (E.assign (v:=Value.bool (PF.zbg a0)) rfl) ?_
   refine FL.nil ?_
   refine FW.ret ?_
   obtain rfl:=Option.some.inj hp
   exact ⟨.inr rfl,res1 rfl rfl ⟨rfl,SBW.back⟩⟩
  ·
   obtain ⟨he,hL⟩:=hD
   replace hp:=el_rt hp
   obtain rfl:=Option.some.inj hp
   subst he
   exact hL

set_option maxHeartbeats 4000000 in
theorem w_impl_IsCnf {Ha:GH} {wa:World} (hs:Sl Ha wa) (a0:Cnf) (v0_1:Value) (p0_1:RSl Ha (eL eI 1) 1 v0_1 a0.clauses) {r:Bool} (hp:(PF.zcz a0)=some r) :
  Calls Tryz.prog 68 #[Value.agg #[Value.int .i64 a0.vars,v0_1]] wa (Sc Ha wa (Value.bool r)):=by
 unfold PF.zcz at hp
 have S0:=St.init hs
 refine zag (N:=27) (args:=[Value.agg #[Value.int .i64 a0.vars,v0_1]]) Tryz.func68 rfl rfl rfl ?_
 refine FW.seq (FW.region ?_)
 obtain ⟨b21,w22,run23,S24⟩:=S0.box (P:=Tryz.prog) 28 [Value.int .i64 a0.vars,v0_1] (v:=Value.agg #[Value.int .i64 a0.vars,v0_1]) rfl (zab rfl (zab p0_1.one zad))
 refine FL.v (E.box rfl run23) ?_
 obtain ⟨H25,S26,i27,at28⟩:=S24.sealBox (i:=0) (l':=[]) rfl rfl
 refine FL.v (E.assign (v:=Value.bool false) rfl) ?_
 refine FL.nil (FW.seq (FW.seq (FW.region ?_)))
 refine FL.v (E.fieldAddr zaS rfl) ?_
 refine FL.v (E.load rfl (zah Tryz.isAgg22 (at28.now S26.sl) rfl)) ?_
 refine FL.v (E.lenP te22 rfl p0_1) ?_
 refine FL.v (E.move (v:=Value.int .i64 0) rfl) ?_
 refine FL.nil ?_
 obtain ⟨q30,hq,hp⟩:=bndR hp
 refine FW.block ?_
 refine FW.mono (FW.forL (S:=Unit) (X:=Bool) (fun (i30:Nat) (s30:Unit) f w=>∃ H:GH,St Ha wa H w []∧Inc H25 H∧f 8=Value.int .i64 ((i30:Nat):Int)∧f 1=Value.pointer (some ⟨b21,0,none⟩)∧f 6=v0_1∧f 7=Value.int .i64 (len a0.clauses)) (fun q e f w=>match q with|.go s30=>e=Exit.exit 0∧(∃ H:GH,St Ha wa H w []∧Inc H25 H∧f 1=Value.pointer (some ⟨b21,0,none⟩))|.rt x=>((e=Exit.ret)∧(fun e f w=>(e=Exit.normal∨e=Exit.ret)∧∀ a,Fr (δ:=[]) 27 a f→∃ v,(results Tryz.f68 a.tmps).run Tryz.prog w=.ok v w∧(Sc Ha wa (Value.bool x)) (.returned v) w) e f w)) hq ⟨_,S26,(Inc.rfl _),rfl,rfl,rfl,rfl⟩ ?_ ?_) ?_
 ·
  clear hp hq
  rintro i30 y29 s30 f58 w57 ⟨H54,S55,i56,k59,k60,k61,k62⟩ hx30 o77 hp
  refine FW.seq (FW.region ?_)
  refine FL.v (E.lssT k59 k62 (zaq hx30)) ?_
  refine FL.nil (FW.seq ?_)
  refine FW.condT rfl rfl ?_
  refine FW.skip (FW.seq (FW.block (FW.seq (FW.region ?_))))
  obtain ⟨p63,cs64,pt65,l66,at67,rel68⟩:=p0_1.at (zak hx30)
  obtain ⟨v69,rfl,h70⟩:=eL_open rel68
  refine FL.v (E.indexAddr te22 k61 k59 pt65) ?_
  refine FL.v (E.load rfl (zae Tryz.isAgg45 ((at67.mono (i27.tr i56)).now S55.sl) rfl)) ?_
  refine FL.v (E.assign (v:=v69) rfl) ?_
  refine FL.nil (FW.seq (FW.region ?_))
  refine FL.v (E.fieldAddr za0 k60) ?_
  refine FL.v (E.load rfl (zah Tryz.isAgg3 ((at28.mono i56).now S55.sl) rfl)) ?_
  refine FL.v (E.move (v:=v69) rfl) ?_
  obtain ⟨r71,hr72,hp⟩:=bnd hp
  refine FL.call rfl rfl rfl (E.call Tryz.call101 (A2 rfl rfl)) (w_impl_IsClause S55.sl a0.vars v69 y29 (h70.mono (i27.tr i56)) hr72) ?_
  rintro e w73 ⟨rfl,r74⟩
  refine ⟨_,rfl,?_⟩
  have S75:=S55.call r74
  refine FL.v (E.not rfl) ?_
  refine FL.nil ?_
  rcases ifB hp with ⟨c76,hp⟩|⟨c76,hp⟩
  ·
   refine FW.condT rfl c76 ?_
   refine FW.seq (FW.region ?_)
   refine FL.v (E.assign (v:=Value.bool false) rfl) ?_
   refine FL.nil ?_
   refine FW.ret ?_
   obtain rfl:=Option.some.inj hp
   exact ⟨nofun,rfl,⟨.inr rfl,res1 rfl rfl ⟨rfl,S75.back⟩⟩⟩
  ·
   refine FW.condF rfl c76 ?_
   refine FW.skip (FW.region ?_)
   refine FL.v (E.add k59 rfl) ?_
   refine FL.v (E.move (v:=Value.int .i64 (wr (((i30:Nat):Int) + 1))) rfl) ?_
   refine FL.nil ?_
   obtain rfl:=Option.some.inj hp
   exact ⟨rfl,⟨_,S75,i56,(zam rfl (zal hx30) (p0_1.mono (i27.tr i56)).le),k60,k61,k62⟩⟩
 ·
  clear hp hq
  rintro s30 f99 w98 ⟨H95,S96,i97,kA0,kA1,kA2,kA3⟩
  refine FW.seq (FW.region ?_)
  refine FL.v (E.lss kA0 kA3) ?_
  refine FL.nil (FW.seq ?_)
  refine FW.condF rfl zar ?_
  refine FW.exit ?_
  exact ⟨nofun,rfl,⟨_,S96,i97,kA1⟩⟩
 ·
  clear hq
  intro e f82 w81 hD
  rcases q30 with s30|x30
  ·
   obtain ⟨rfl,hD⟩:=hD
   obtain ⟨H78,S79,i80,k83⟩:=hD
   replace hp:=el_go hp
   refine FW.seq (FW.region ?_)
   refine FL.v (E.fieldAddr za0 k83) ?_
   refine FL.v (E.load rfl (zah Tryz.isAgg3 ((at28.mono i80).now S79.sl) rfl)) ?_
   refine FL.call rfl rfl rfl (E.call Tryz.call102 (A1 rfl)) (w_impl_varsOk S79.sl a0.vars) ?_
   rintro e w84 ⟨rfl,r85⟩
   refine ⟨_,rfl,?_⟩
   have S86:=S79.call r85
   refine FL.v (E.move (v:=Value.bool (PF.zbg a0.vars)) rfl) ?_
   refine FL.cut 5 (fun f w=>∃ H:GH,St Ha wa H w []∧Inc H78 H∧f 26=Value.bool (bif (PF.zbg a0.vars) then (decide ((len a0.clauses)≤60)) else false)) ?_ ?_
   ·
    rcases bcase (PF.zbg a0.vars) with c93|c93
    ·
     refine FL.val (zac rfl rfl rfl c93) rfl rfl (E.fieldAddr zaS k83) ?_
     refine FL.val (zac rfl rfl rfl c93) rfl rfl (E.load rfl (zah Tryz.isAgg22 ((at28.mono i80).now S86.sl) rfl)) ?_
     refine FL.val (zac rfl rfl rfl c93) rfl rfl (E.lenP te22 rfl p0_1) ?_
     refine FL.val (zac rfl rfl rfl c93) rfl rfl (E.leq rfl rfl) ?_
     refine FL.v (E.pickT rfl c93 rfl) ?_
     exact FL.nil ⟨rfl,_,S86,(Inc.rfl _),(congrArg Value.bool (bifT c93).symm)⟩
    ·
     refine FL.skip (wF_no rfl rfl rfl c93) rfl ?_
     refine FL.skip (wF_no rfl rfl rfl c93) rfl ?_
     refine FL.skip (wF_no rfl rfl rfl c93) rfl ?_
     refine FL.skip (wF_no rfl rfl rfl c93) rfl ?_
     refine FL.v (E.pickF rfl c93 rfl) ?_
     exact FL.nil ⟨rfl,_,S86,(Inc.rfl _),(congrArg Value.bool (bifF c93).symm)⟩
   rintro f92 w91 ⟨H88,S89,i90,k94⟩
   refine FL.v (E.assign k94) ?_
   refine FL.nil ?_
   refine FW.ret ?_
   obtain rfl:=Option.some.inj hp
   exact ⟨.inr rfl,res1 rfl rfl ⟨rfl,S89.back⟩⟩
  ·
   obtain ⟨he,hL⟩:=hD
   replace hp:=el_rt hp
   obtain rfl:=Option.some.inj hp
   subst he
   exact hL

theorem w_impl_narrowOk {Ha:GH} {wa:World} (hs:Sl Ha wa) (a0:Cnf) (v0_1:Value) (p0_1:RSl Ha (eL eI 1) 1 v0_1 a0.clauses) (a1:Int) {r:Bool} (hp:(PF.zcA a0 a1)=some r) :
  Calls Tryz.prog 48 #[Value.agg #[Value.int .i64 a0.vars,v0_1],Value.int .i64 a1] wa (Sc Ha wa (Value.bool r)):=by
 unfold PF.zcA at hp
 have S0:=St.init hs
 refine zag (N:=16) (args:=[Value.agg #[Value.int .i64 a0.vars,v0_1],Value.int .i64 a1]) Tryz.func48 rfl rfl rfl ?_
 refine FW.seq (FW.region ?_)
 obtain ⟨b21,w22,run23,S24⟩:=S0.box (P:=Tryz.prog) 28 [Value.int .i64 a0.vars,v0_1] (v:=Value.agg #[Value.int .i64 a0.vars,v0_1]) rfl (zab rfl (zab p0_1.one zad))
 refine FL.v (E.box rfl run23) ?_
 obtain ⟨H25,S26,i27,at28⟩:=S24.sealBox (i:=0) (l':=[]) rfl rfl
 refine FL.v (E.assign (v:=Value.bool false) rfl) ?_
 refine FL.nil (FW.seq (FW.region ?_))
 refine FL.v (E.load rfl (zax Tryz.isAgg28 Tryz.sizeOf28 (at28.now S26.sl) rfl)) ?_
 obtain ⟨r29,hr30,hp⟩:=bnd hp
 refine FL.call rfl rfl rfl (E.call Tryz.call68 (A1 rfl)) (w_impl_IsCnf S26.sl a0 v0_1 (p0_1.mono i27) hr30) ?_
 rintro e w31 ⟨rfl,r32⟩
 refine ⟨_,rfl,?_⟩
 have S33:=S26.call r32
 refine FL.v (E.move (v:=Value.bool r29) rfl) ?_
 refine FL.cut 4 (fun f w=>∃ H:GH,St Ha wa H w []∧Inc H25 H∧f 1=Value.int .i64 a1∧f 11=Value.bool (bif r29 then (decide (a0.vars≤6)) else false)) ?_ ?_
 ·
  rcases bcase r29 with c40|c40
  ·
   refine FL.val (zac rfl rfl rfl c40) rfl rfl (E.fieldAddr za0 rfl) ?_
   refine FL.val (zac rfl rfl rfl c40) rfl rfl (E.load rfl (zah Tryz.isAgg3 (at28.now S33.sl) rfl)) ?_
   refine FL.val (zac rfl rfl rfl c40) rfl rfl (E.leq rfl rfl) ?_
   refine FL.v (E.pickT rfl c40 rfl) ?_
   exact FL.nil ⟨rfl,_,S33,(Inc.rfl _),rfl,(congrArg Value.bool (bifT c40).symm)⟩
  ·
   refine FL.skip (wF_no rfl rfl rfl c40) rfl ?_
   refine FL.skip (wF_no rfl rfl rfl c40) rfl ?_
   refine FL.skip (wF_no rfl rfl rfl c40) rfl ?_
   refine FL.v (E.pickF rfl c40 rfl) ?_
   exact FL.nil ⟨rfl,_,S33,(Inc.rfl _),rfl,(congrArg Value.bool (bifF c40).symm)⟩
 rintro f39 w38 ⟨H35,S36,i37,k41,k42⟩
 refine FL.v (E.move k42) ?_
 refine FL.cut 3 (fun f w=>∃ H:GH,St Ha wa H w []∧Inc H35 H∧f 15=Value.bool (bif (bif r29 then (decide (a0.vars≤6)) else false) then (PF.zaY a1 0 6) else false)) ?_ ?_
 ·
  rcases bcase (bif r29 then (decide (a0.vars≤6)) else false) with c52|c52
  ·
   refine FL.val (zac rfl rfl rfl c52) rfl rfl (E.move k41) ?_
   refine FL.call (zac rfl rfl rfl c52) rfl rfl (E.call Tryz.call26 (A3 rfl rfl rfl)) (zdb S36.sl a1 0 6) ?_
   rintro e w53 ⟨rfl,r54⟩
   refine ⟨_,rfl,?_⟩
   have S55:=S36.call r54
   refine FL.v (E.pickT rfl c52 rfl) ?_
   exact FL.nil ⟨rfl,_,S55,(Inc.rfl _),(congrArg Value.bool (bifT c52).symm)⟩
  ·
   refine FL.skip (wF_no rfl rfl rfl c52) rfl ?_
   refine FL.skip (wF_no rfl rfl rfl c52) rfl ?_
   refine FL.v (E.pickF rfl c52 rfl) ?_
   exact FL.nil ⟨rfl,_,S36,(Inc.rfl _),(congrArg Value.bool (bifF c52).symm)⟩
 rintro f51 w50 ⟨H47,S48,i49,k56⟩
 refine FL.v (E.assign k56) ?_
 refine FL.nil ?_
 refine FW.ret ?_
 obtain rfl:=Option.some.inj hp
 exact ⟨.inr rfl,res1 rfl rfl ⟨rfl,S48.back⟩⟩

set_option maxHeartbeats 4000000 in
theorem w_impl_maskOf {Ha:GH} {wa:World} (hs:Sl Ha wa) (v0:Value) (a0:List Int) (p0:RSl Ha eI 1 v0 a0) {r:Int} (hp:(PF.zb4 a0)=some r) :
  Calls Tryz.prog 70 #[v0] wa (Sc Ha wa (Value.int .u16 r)):=by
 unfold PF.zb4 at hp
 have S0:=St.init hs
 refine zag (N:=27) (args:=[v0]) Tryz.func70 rfl rfl rfl ?_
 refine FW.seq (FW.region ?_)
 refine FL.v (E.assign (v:=Value.int .u16 0) rfl) ?_
 refine FL.nil (FW.seq (FW.region ?_))
 refine FL.v (E.assign (v:=Value.int .u16 0) rfl) ?_
 refine FL.nil (FW.seq (FW.seq (FW.region ?_)))
 refine FL.v (E.move (v:=v0) rfl) ?_
 refine FL.v (E.lenP te45 rfl p0) ?_
 refine FL.v (E.move (v:=Value.int .i64 0) rfl) ?_
 refine FL.nil ?_
 obtain ⟨q22,hq,hp⟩:=bndR hp
 refine FW.block ?_
 refine FW.mono (FW.forL (S:=Int) (X:=Empty) (fun (i22:Nat) (s22:Int) f w=>∃ H:GH,St Ha wa H w []∧Inc Ha H∧f 8=Value.int .i64 ((i22:Nat):Int)∧f 3=Value.int .u16 s22∧f 6=v0∧f 7=Value.int .i64 (len a0)) (fun (q:Rs Int Empty) e f w=>match q with|.go s22=>e=Exit.exit 0∧(∃ H:GH,St Ha wa H w []∧Inc Ha H∧f 3=Value.int .u16 s22)|.rt x=>x.elim) hq ⟨_,S0,(Inc.rfl _),rfl,rfl,rfl,rfl⟩ ?_ ?_) ?_
 ·
  clear hp hq
  rintro i22 y21 s22 f47 w46 ⟨H43,S44,i45,k48,k49,k50,k51⟩ hx22 o63 hp
  refine FW.seq (FW.region ?_)
  refine FL.v (E.lssT k48 k51 (zaq hx22)) ?_
  refine FL.nil (FW.seq ?_)
  refine FW.condT rfl rfl ?_
  refine FW.skip (FW.seq (FW.block (FW.seq (FW.region ?_))))
  obtain ⟨p52,cs53,pt54,l55,at56,rel57⟩:=p0.at (zak hx22)
  obtain rfl:=eI_open rel57
  refine FL.v (E.indexAddr te45 k50 k48 pt54) ?_
  refine FL.v (E.load rfl (zae Tryz.isAgg3 ((at56.mono i45).now S44.sl) rfl)) ?_
  refine FL.v (E.assign (v:=Value.int .i64 y21) rfl) ?_
  refine FL.nil (FW.seq (FW.region ?_))
  refine FL.v (E.move (v:=Value.int .i64 y21) rfl) ?_
  refine FL.v (E.gtr rfl rfl) ?_
  refine FL.nil ?_
  rcases ifB hp with ⟨c58,hp⟩|⟨c58,hp⟩
  ·
   refine FW.condT rfl c58 ?_
   refine FW.region ?_
   refine FL.v (E.move k49) ?_
   refine FL.v (E.move (v:=Value.int .i64 y21) rfl) ?_
   refine FL.v (E.sub rfl rfl) ?_
   obtain ⟨u60,z59,hp⟩:=bnd hp
   refine FL.v (E.shl rfl rfl (nn_ge z59)) ?_
   refine FL.v (E.or rfl rfl) ?_
   refine FL.v (E.assign (v:=Value.int .u16 (orK false 16 s22 (shlK false 16 1 (wr (y21 - 1))))) rfl) ?_
   refine FL.nil (FW.region ?_)
   refine FL.v (E.add k48 rfl) ?_
   refine FL.v (E.move (v:=Value.int .i64 (wr (((i22:Nat):Int) + 1))) rfl) ?_
   refine FL.nil ?_
   obtain rfl:=Option.some.inj hp
   exact ⟨rfl,⟨_,S44,i45,(zam rfl (zal hx22) (p0.mono i45).le),rfl,k50,k51⟩⟩
  ·
   refine FW.condF rfl c58 ?_
   refine FW.region ?_
   refine FL.v (E.move k49) ?_
   refine FL.v (E.move (v:=Value.int .i64 y21) rfl) ?_
   refine FL.v (E.sub rfl rfl) ?_
   refine FL.v (E.sub rfl rfl) ?_
   obtain ⟨u62,z61,hp⟩:=bnd hp
   refine FL.v (E.shl rfl rfl (nn_ge z61)) ?_
   refine FL.v (E.or rfl rfl) ?_
   refine FL.v (E.assign (v:=Value.int .u16 (orK false 16 s22 (shlK false 16 1 (wr ((wr (6 - y21)) - 1))))) rfl) ?_
   refine FL.nil (FW.region ?_)
   refine FL.v (E.add k48 rfl) ?_
   refine FL.v (E.move (v:=Value.int .i64 (wr (((i22:Nat):Int) + 1))) rfl) ?_
   refine FL.nil ?_
   obtain rfl:=Option.some.inj hp
   exact ⟨rfl,⟨_,S44,i45,(zam rfl (zal hx22) (p0.mono i45).le),rfl,k50,k51⟩⟩
 ·
  clear hp hq
  rintro s22 f74 w73 ⟨H70,S71,i72,k75,k76,k77,k78⟩
  refine FW.seq (FW.region ?_)
  refine FL.v (E.lss k75 k78) ?_
  refine FL.nil (FW.seq ?_)
  refine FW.condF rfl zar ?_
  refine FW.exit ?_
  exact ⟨nofun,rfl,⟨_,S71,i72,k76⟩⟩
 ·
  clear hq
  intro e f68 w67 hD
  rcases q22 with s22|x22
  ·
   obtain ⟨rfl,hD⟩:=hD
   obtain ⟨H64,S65,i66,k69⟩:=hD
   replace hp:=el_go hp
   refine FW.seq (FW.region ?_)
   refine FL.v (E.move k69) ?_
   refine FL.v (E.assign (v:=Value.int .u16 s22) rfl) ?_
   refine FL.nil ?_
   refine FW.ret ?_
   obtain rfl:=Option.some.inj hp
   exact ⟨.inr rfl,res1 rfl rfl ⟨rfl,S65.back⟩⟩
  ·
   exact x22.elim

theorem zdV {Ha:GH} {wa:World} (hs:Sl Ha wa) (a0:Int) :
  Calls Tryz.prog 103 #[Value.int .u16 a0] wa (Sc Ha wa (Value.int .u16 (PF.za5 a0))):=by
 obtain ⟨r,hp⟩:∃ r,(PF.za5 a0)=r:=⟨_,rfl⟩
 rw [hp]
 unfold PF.za5 at hp
 have S0:=St.init hs
 refine zag (N:=9) (args:=[Value.int .u16 a0]) Tryz.func103 rfl rfl rfl ?_
 refine FW.seq (FW.region ?_)
 refine FL.v (E.assign (v:=Value.int .u16 0) rfl) ?_
 refine FL.nil (FW.seq (FW.region ?_))
 refine FL.v (E.move (v:=Value.int .u16 a0) rfl) ?_
 refine FL.v (E.and rfl rfl) ?_
 refine FL.v (E.shl rfl rfl (by decide)) ?_
 refine FL.v (E.move (v:=Value.int .u16 a0) rfl) ?_
 refine FL.v (E.shr rfl rfl (by decide)) ?_
 refine FL.v (E.or rfl rfl) ?_
 refine FL.v (E.assign (v:=Value.int .u16 (orK false 16 (shlK false 16 (andK false 16 a0 63) 6) (shrK 16 a0 6))) rfl) ?_
 refine FL.nil ?_
 refine FW.ret ?_
 obtain rfl:=hp
 exact ⟨.inr rfl,res1 rfl rfl ⟨rfl,S0.back⟩⟩

theorem w_impl_bothOf {Ha:GH} {wa:World} (hs:Sl Ha wa) (a0:Int) (a1:Int) :
  Calls Tryz.prog 71 #[Value.int .u16 a0,Value.int .u16 a1] wa (Sc Ha wa (Value.int .u16 (PF.zaj a0 a1))):=by
 obtain ⟨r,hp⟩:∃ r,(PF.zaj a0 a1)=r:=⟨_,rfl⟩
 rw [hp]
 unfold PF.zaj at hp
 have S0:=St.init hs
 refine zag (N:=15) (args:=[Value.int .u16 a0,Value.int .u16 a1]) Tryz.func71 rfl rfl rfl ?_
 refine FW.seq (FW.region ?_)
 refine FL.v (E.assign (v:=Value.int .u16 0) rfl) ?_
 refine FL.nil (FW.seq (FW.region ?_))
 refine FL.v (E.move (v:=Value.int .u16 a0) rfl) ?_
 refine FL.v (E.move (v:=Value.int .u16 a1) rfl) ?_
 refine FL.call rfl rfl rfl (E.call Tryz.call103 (A1 rfl)) (zdV S0.sl a1) ?_
 rintro e w21 ⟨rfl,r22⟩
 refine ⟨_,rfl,?_⟩
 have S23:=S0.call r22
 refine FL.v (E.and rfl rfl) ?_
 refine FL.v (E.assign (v:=Value.int .u16 (andK false 16 a0 (PF.za5 a1))) rfl) ?_
 refine FL.nil (FW.seq (FW.region ?_))
 refine FL.v (E.move (v:=Value.int .u16 (andK false 16 a0 (PF.za5 a1))) rfl) ?_
 refine FL.v (E.move (v:=Value.int .u16 (andK false 16 a0 (PF.za5 a1))) rfl) ?_
 refine FL.v (E.shr rfl rfl (by decide)) ?_
 refine FL.v (E.or rfl rfl) ?_
 refine FL.v (E.and rfl rfl) ?_
 refine FL.v (E.assign (v:=Value.int .u16 (andK false 16 (orK false 16 (andK false 16 a0 (PF.za5 a1)) (shrK 16 (andK false 16 a0 (PF.za5 a1)) 6)) 63)) rfl) ?_
 refine FL.nil ?_
 refine FW.ret ?_
 obtain rfl:=hp
 exact ⟨.inr rfl,res1 rfl rfl ⟨rfl,S23.back⟩⟩

theorem w_impl_mask_one {Ha:GH} {wa:World} (hs:Sl Ha wa) (a0:Int) :
  Calls Tryz.prog 72 #[Value.int .u16 a0] wa (Sc Ha wa (Value.bool (PF.zbK a0))):=by
 obtain ⟨r,hp⟩:∃ r,(PF.zbK a0)=r:=⟨_,rfl⟩
 rw [hp]
 unfold PF.zbK at hp
 have S0:=St.init hs
 refine zag (N:=12) (args:=[Value.int .u16 a0]) Tryz.func72 rfl rfl rfl ?_
 refine FW.seq (FW.region ?_)
 refine FL.v (E.assign (v:=Value.bool false) rfl) ?_
 refine FL.nil (FW.seq (FW.region ?_))
 refine FL.v (E.move (v:=Value.int .u16 a0) rfl) ?_
 refine FL.v (E.neq rfl rfl) ?_
 refine FL.v (E.move (v:=Value.bool (!(a0 == 0))) rfl) ?_
 refine FL.cut 6 (fun f w=>∃ H:GH,St Ha wa H w []∧Inc Ha H∧f 11=Value.bool (bif (!(a0 == 0)) then ((andK false 16 a0 (wrk false 16 (a0 - 1))) == 0) else false)) ?_ ?_
 ·
  rcases bcase (!(a0 == 0)) with c27|c27
  ·
   refine FL.val (zac rfl rfl rfl c27) rfl rfl (E.move (v:=Value.int .u16 a0) rfl) ?_
   refine FL.val (zac rfl rfl rfl c27) rfl rfl (E.move (v:=Value.int .u16 a0) rfl) ?_
   refine FL.val (zac rfl rfl rfl c27) rfl rfl (E.subK rfl rfl) ?_
   refine FL.val (zac rfl rfl rfl c27) rfl rfl (E.and rfl rfl) ?_
   refine FL.val (zac rfl rfl rfl c27) rfl rfl (E.eql rfl rfl) ?_
   refine FL.v (E.pickT rfl c27 rfl) ?_
   exact FL.nil ⟨rfl,_,S0,(Inc.rfl _),(congrArg Value.bool (bifT c27).symm)⟩
  ·
   refine FL.skip (wF_no rfl rfl rfl c27) rfl ?_
   refine FL.skip (wF_no rfl rfl rfl c27) rfl ?_
   refine FL.skip (wF_no rfl rfl rfl c27) rfl ?_
   refine FL.skip (wF_no rfl rfl rfl c27) rfl ?_
   refine FL.skip (wF_no rfl rfl rfl c27) rfl ?_
   refine FL.v (E.pickF rfl c27 rfl) ?_
   exact FL.nil ⟨rfl,_,S0,(Inc.rfl _),(congrArg Value.bool (bifF c27).symm)⟩
 rintro f26 w25 ⟨H22,S23,i24,k28⟩
 refine FL.v (E.assign k28) ?_
 refine FL.nil ?_
 refine FW.ret ?_
 obtain rfl:=hp
 exact ⟨.inr rfl,res1 rfl rfl ⟨rfl,S23.back⟩⟩

theorem w_impl_mask_count {Ha:GH} {wa:World} (hs:Sl Ha wa) (a0:Int) {r:Int} (hp:(PF.zbz a0)=some r) :
  Calls Tryz.prog 73 #[Value.int .u16 a0] wa (Sc Ha wa (Value.int .i64 r)):=by
 unfold PF.zbz at hp
 have S0:=St.init hs
 refine zag (N:=13) (args:=[Value.int .u16 a0]) Tryz.func73 rfl rfl rfl ?_
 refine FW.seq (FW.region ?_)
 refine FL.v (E.assign (v:=Value.int .i64 0) rfl) ?_
 refine FL.nil (FW.seq (FW.region ?_))
 refine FL.v (E.assign (v:=Value.int .i64 0) rfl) ?_
 refine FL.nil (FW.seq ?_)
 obtain ⟨q21,hq,hp⟩:=bndR hp
 refine FW.block ?_
 refine FW.mono (FW.iter (S:=(Int×Int)) (X:=Empty) (fun (s21:(Int×Int)) f w=>∃ H:GH,St Ha wa H w []∧Inc Ha H∧f 0=Value.int .u16 s21.1∧f 3=Value.int .i64 s21.2) (fun (q:Rs (Int×Int) Empty) e f w=>match q with|.go s21=>e=Exit.exit 0∧(∃ H:GH,St Ha wa H w []∧Inc Ha H∧f 3=Value.int .i64 s21.2)|.rt x=>x.elim) hq ⟨_,S0,(Inc.rfl _),rfl,rfl⟩ ?_) ?_
 ·
  clear hp hq
  rintro s21 f34 w33 ⟨H30,S31,i32,k35,k36⟩ o38 hp
  refine FW.seq (FW.seq (FW.region ?_))
  refine FL.v (E.move k35) ?_
  refine FL.v (E.neq rfl rfl) ?_
  refine FL.nil ?_
  rcases ifB hp with ⟨c37,hp⟩|⟨c37,hp⟩
  ·
   refine FW.condT rfl c37 ?_
   refine FW.skip (FW.seq (FW.block (FW.region ?_)))
   refine FL.v (E.move k36) ?_
   refine FL.v (E.add rfl rfl) ?_
   refine FL.v (E.assign (v:=Value.int .i64 (wr (s21.2 + 1))) rfl) ?_
   refine FL.nil (FW.region ?_)
   refine FL.v (E.move k35) ?_
   refine FL.v (E.move k35) ?_
   refine FL.v (E.subK rfl rfl) ?_
   refine FL.v (E.and rfl rfl) ?_
   refine FL.v (E.assign (v:=Value.int .u16 (andK false 16 s21.1 (wrk false 16 (s21.1 - 1)))) rfl) ?_
   refine FL.nil ?_
   obtain rfl:=Option.some.inj hp
   exact ⟨rfl,⟨_,S31,i32,rfl,rfl⟩⟩
  ·
   refine FW.condF rfl c37 ?_
   refine FW.exit ?_
   obtain rfl:=Option.some.inj hp
   exact ⟨nofun,rfl,⟨_,S31,i32,k36⟩⟩
 ·
  clear hq
  intro e f43 w42 hD
  rcases q21 with s21|x21
  ·
   obtain ⟨rfl,hD⟩:=hD
   obtain ⟨H39,S40,i41,k44⟩:=hD
   replace hp:=el_go hp
   refine FW.seq (FW.region ?_)
   refine FL.v (E.move k44) ?_
   refine FL.v (E.assign (v:=Value.int .i64 s21.2) rfl) ?_
   refine FL.nil ?_
   refine FW.ret ?_
   obtain rfl:=Option.some.inj hp
   exact ⟨.inr rfl,res1 rfl rfl ⟨rfl,S40.back⟩⟩
  ·
   exact x21.elim

@[reducible] def p_impl_closureOf (Ha:GH) (wa:World) (r:(Option zbl)):Ending→World→Prop :=
 fun e w'=>∃ H':GH,∃ v0:Value,e=.returned (v0)∧Run wa.heap.size Ha wa H' w'∧OP (fun (q:Addr) (x:zbl)=>∃ v0R_0:Value,∃ v0R_1:Value,RSl (up wa.heap.size H') (eN .u16) 1 v0R_0 x.masks∧MAt (K:=Int) (V:=Int) H' (Value.int .u16) (Value.int .i64) v0R_1 x.rounds∧CAt H' q [v0R_0,v0R_1,Value.int .i64 x.last]) v0 r
set_option maxHeartbeats 4000000 in
theorem w_impl_closureOf {Ha:GH} {wa:World} (hs:Sl Ha wa) (a0:Cnf) (v0_1:Value) (p0_1:RSl Ha (eL eI 1) 1 v0_1 a0.clauses) (a1:Int) {r:(Option zbl)} (hp:(PF.zcB a0 a1)=some r) :
  Calls Tryz.prog 49 #[Value.agg #[Value.int .i64 a0.vars,v0_1],Value.int .i64 a1] wa (p_impl_closureOf Ha wa r):=by
 unfold PF.zcB at hp
 have S0:=St.init hs
 refine zag (N:=99) (args:=[Value.agg #[Value.int .i64 a0.vars,v0_1],Value.int .i64 a1]) Tryz.func49 rfl rfl rfl ?_
 refine FW.seq (FW.region ?_)
 obtain ⟨b21,w22,run23,S24⟩:=S0.box (P:=Tryz.prog) 28 [Value.int .i64 a0.vars,v0_1] (v:=Value.agg #[Value.int .i64 a0.vars,v0_1]) rfl (zab rfl (zab p0_1.one zad))
 refine FL.v (E.box rfl run23) ?_
 obtain ⟨H25,S26,i27,at28⟩:=S24.sealBox (i:=0) (l':=[]) rfl rfl
 refine FL.v (E.assign (v:=Value.pointer none) rfl) ?_
 refine FL.nil (FW.seq (FW.region ?_))
 obtain ⟨b29,o30,w31,run32,S33,hm34⟩:=S26.makeMap (P:=Tryz.prog) (K:=Int) (V:=Int) 100 (Value.int .u16) (Value.int .i64)
 refine FL.v (E.makeMap run32) ?_
 refine FL.v (E.build (B1 rfl) (run_build _ 103 #[(1,Value.map (some b29))] #[Value.slice none 0 0,Value.map (some b29),Value.int .i64 0] (by rfl))) ?_
 have S39:=S33.nil 106 1
 have els40:Els (up wa.heap.size H25) (eN .u16) 1 [] []:=Els.nil
 obtain ⟨b35,w36,run37,S38⟩:=S39.box (P:=Tryz.prog) 103 [(Value.slice none 0 0),Value.map (some b29),Value.int .i64 0] (v:=Value.agg #[Value.slice none 0 0,Value.map (some b29),Value.int .i64 0]) rfl (zab (Ln.one (S39.row_ln (i:=0) rfl)) (zab rfl (zab rfl zad)))
 refine FL.v (E.box rfl run37) ?_
 refine FL.v (E.assign (v:=Value.pointer (some (⟨b35,0,none⟩:Addr))) rfl) ?_
 refine FL.nil (FW.seq (FW.seq (FW.region ?_)))
 refine FL.v (E.fieldAddr zaS rfl) ?_
 refine FL.v (E.load rfl (zah Tryz.isAgg22 (at28.now S38.sl) rfl)) ?_
 refine FL.v (E.lenP te22 rfl p0_1) ?_
 refine FL.v (E.move (v:=Value.int .i64 0) rfl) ?_
 refine FL.nil ?_
 obtain ⟨q42,hq,hp⟩:=bndR hp
 refine FW.block ?_
 refine FW.mono (FW.forL (S:=((List Int)×Int×(List (Int×Int)))) (X:=Empty) (fun (i42:Nat) (s42:((List Int)×Int×(List (Int×Int)))) f w=>∃ H:GH,∃ vA7:Value,∃ nA8:Nat,∃ csA9:List Value,∃ oAb:Obj,St Ha wa H w [.box b35 103 [vA7,Value.map (some b29),Value.int .i64 s42.2.1],.row 106 1 vA7 nA8 csA9,.raw b29 oAb]∧Inc H25 H∧Els (up wa.heap.size H) (eN .u16) 1 csA9 s42.1∧MapOf (K:=Int) (V:=Int) (Value.int .u16) (Value.int .i64) oAb s42.2.2∧f 23=Value.int .i64 ((i42:Nat):Int)∧f 1=Value.int .i64 a1∧f 5=Value.pointer (some (⟨b35,0,none⟩:Addr))∧f 21=v0_1∧f 22=Value.int .i64 (len a0.clauses)) (fun (q:Rs ((List Int)×Int×(List (Int×Int))) Empty) e f w=>match q with|.go s42=>e=Exit.exit 0∧(∃ H:GH,∃ vA7:Value,∃ nA8:Nat,∃ csA9:List Value,∃ oAb:Obj,St Ha wa H w [.box b35 103 [vA7,Value.map (some b29),Value.int .i64 s42.2.1],.row 106 1 vA7 nA8 csA9,.raw b29 oAb]∧Inc H25 H∧Els (up wa.heap.size H) (eN .u16) 1 csA9 s42.1∧MapOf (K:=Int) (V:=Int) (Value.int .u16) (Value.int .i64) oAb s42.2.2∧f 1=Value.int .i64 a1∧f 5=Value.pointer (some (⟨b35,0,none⟩:Addr)))|.rt x=>x.elim) hq ⟨_,_,_,_,_,S38,(Inc.rfl _),els40,hm34,rfl,rfl,rfl,rfl,rfl⟩ ?_ ?_) ?_
 ·
  clear hp hq
  rintro i42 y41 s42 fBj wBi ⟨HBf,vA7,nA8,csA9,oAb,SBg,iBh,elsAa,hm112,kBk,kBl,kBm,kBn,kBo⟩ hx42 oCJ hp
  refine FW.seq (FW.region ?_)
  refine FL.v (E.lssT kBk kBo (zaq hx42)) ?_
  refine FL.nil (FW.seq ?_)
  refine FW.condT rfl rfl ?_
  refine FW.skip (FW.seq (FW.block (FW.seq (FW.region ?_))))
  obtain ⟨pBp,csBq,ptBr,lBs,atBt,relBu⟩:=p0_1.at (zak hx42)
  obtain ⟨vBv,rfl,hBw⟩:=eL_open relBu
  refine FL.v (E.indexAddr te22 kBn kBk ptBr) ?_
  refine FL.v (E.load rfl (zae Tryz.isAgg45 ((atBt.mono (i27.tr iBh)).now SBg.sl) rfl)) ?_
  refine FL.v (E.assign (v:=vBv) rfl) ?_
  refine FL.nil (FW.seq (FW.region ?_))
  refine FL.v (E.move (v:=vBv) rfl) ?_
  refine FL.v (E.lenP te45 rfl hBw) ?_
  refine FL.v (E.move kBl) ?_
  refine FL.v (E.leq rfl rfl) ?_
  refine FL.nil ?_
  rcases ifB hp with ⟨cBx,hp⟩|⟨cBx,hp⟩
  ·
   refine FW.condT rfl cBx ?_
   refine FW.region ?_
   refine FL.v (E.move kBm) ?_
   refine FL.v (E.move (v:=vBv) rfl) ?_
   obtain ⟨rBy,hrBz,hp⟩:=bnd hp
   refine FL.call rfl rfl rfl (E.call Tryz.call70 (A1 rfl)) (w_impl_maskOf SBg.sl vBv y41 (hBw.mono (i27.tr iBh)) hrBz) ?_
   rintro e wBA ⟨rfl,rBB⟩
   refine ⟨_,rfl,?_⟩
   have SBC:=SBg.call rBB
   obtain ⟨sC5,hqC5,hp⟩:=bnd hp
   obtain ⟨R229,hRC5⟩:∃ R229:((List Int)×Int×(List (Int×Int)))→Ending→World→Prop,R229=(fun sC5 e w=>∃ H:GH,∃ vC6:Value,∃ nC7:Nat,∃ csC8:List Value,∃ oCa:Obj,e=Ending.returned (Value.tuple #[])∧St Ha wa H w [.box b35 103 [vC6,Value.map (some b29),Value.int .i64 sC5.2.1],.row 106 1 vC6 nC7 csC8,.raw b29 oCa]∧Inc HBf H∧Els (up wa.heap.size H) (eN .u16) 1 csC8 sC5.1∧MapOf (K:=Int) (V:=Int) (Value.int .u16) (Value.int .i64) oCa sC5.2.2):=⟨_,rfl⟩
   have hcC5:Calls Tryz.prog 69 #[Value.pointer (some (⟨b35,0,none⟩:Addr)),Value.int .u16 rBy,Value.int .i64 0] wBA (R229 sC5):=by
    clear hp;have hp:=hqC5;clear hqC5
    refine zag (N:=39) (args:=[Value.pointer (some (⟨b35,0,none⟩:Addr)),Value.int .u16 rBy,Value.int .i64 0]) Tryz.func69 rfl rfl rfl ?_
    refine FW.seq (FW.region ?_)
    refine FL.v (E.move (v:=Value.pointer (some (⟨b35,0,none⟩:Addr))) rfl) ?_
    refine FL.v (E.nilCheck rfl) ?_
    refine FL.v (E.fieldAddr tf103_1 rfl) ?_
    refine FL.v (E.load rfl (zah Tryz.isAgg100 (SBC.box_now (i:=0) rfl) rfl)) ?_
    refine FL.v (E.move (v:=Value.int .u16 rBy) rfl) ?_
    refine FL.v (E.lookup rfl rfl (SBC.mapGetOk (P:=Tryz.prog) (i:=2) rfl hm112 Tryz.runUnderlying100 (KeyNow.intk Tryz.runUnderlying106) (z:=0) Tryz.zeroValue3 rBy)) ?_
    refine FL.v (E.move (v:=Value.tuple #[Value.int .i64 ((mget s42.2.2 rBy).getD 0),Value.bool ((mget s42.2.2 rBy).isSome)]) rfl) ?_
    refine FL.v (E.extract (i:=0) rfl rfl) ?_
    refine FL.v (E.extract (i:=1) rfl rfl) ?_
    refine FL.v (E.assign (v:=Value.int .i64 ((mget s42.2.2 rBy).getD 0)) rfl) ?_
    refine FL.v (E.assign (v:=Value.bool ((mget s42.2.2 rBy).isSome)) rfl) ?_
    refine FL.nil (FW.seq (FW.region ?_))
    refine FL.v (E.move (v:=Value.bool ((mget s42.2.2 rBy).isSome)) rfl) ?_
    refine FL.v (E.not rfl) ?_
    refine FL.nil ?_
    rcases ifB hp with ⟨cCc,hp⟩|⟨cCc,hp⟩
    ·
     refine FW.condT rfl cCc ?_
     refine FW.seq (FW.region ?_)
     refine FL.v (E.move (v:=Value.pointer (some (⟨b35,0,none⟩:Addr))) rfl) ?_
     refine FL.v (E.nilCheck rfl) ?_
     refine FL.v (E.fieldAddr tf103_1 rfl) ?_
     refine FL.v (E.load rfl (zah Tryz.isAgg100 (SBC.box_now (i:=0) rfl) rfl)) ?_
     refine FL.v (E.move (v:=Value.int .u16 rBy) rfl) ?_
     refine FL.v (E.move (v:=Value.int .i64 0) rfl) ?_
     obtain ⟨oCd,wCe,runCf,SCg,hm241⟩:=SBC.mapPut (P:=Tryz.prog) (i:=2) rfl hm112 Tryz.runUnderlying100 (KeyNow.intk Tryz.runUnderlying106) rBy 0
     have SCg:St Ha wa HBf wCe [.box b35 103 [vA7,Value.map (some b29),Value.int .i64 s42.2.1],.row 106 1 vA7 nA8 csA9,.raw b29 oCd]:=SCg
     refine FL.act rfl rfl (E.mapUpdate rfl rfl rfl runCf) ?_
     refine FL.nil (FW.seq (FW.region ?_))
     refine FL.v (E.move (v:=Value.pointer (some (⟨b35,0,none⟩:Addr))) rfl) ?_
     refine FL.v (E.move (v:=Value.pointer (some (⟨b35,0,none⟩:Addr))) rfl) ?_
     refine FL.v (E.nilCheck rfl) ?_
     refine FL.v (E.fieldAddr zbr rfl) ?_
     refine FL.v (E.load rfl (zah Tryz.isAgg101 (SCg.box_now (i:=0) rfl) rfl)) ?_
     refine FL.v (E.move (v:=Value.int .u16 rBy) rfl) ?_
     obtain ⟨vCi,wCj,runCk,SCl⟩:=SCg.buildSlice (P:=Tryz.prog) te101 [Value.int .u16 rBy] (parts:=#[(0,Value.int .u16 rBy)]) (cells:=[Value.int .u16 rBy]) rfl (zaH rfl zaw) (zaG rfl zav) (zab rfl zad) (Nat.le_of_ble_eq_true rfl)
     have elsCm:Els (up wa.heap.size HBf) (eN .u16) 1 [Value.int .u16 rBy] [rBy]:=(Els.snoc (H:=(up wa.heap.size HBf)) (E:=(eN .u16)) (k:=1) (c:=[Value.int .u16 rBy]) (x:=rBy) Els.nil rfl rfl)
     refine FL.v (E.buildSlice (B1 rfl) runCk) ?_
     obtain ⟨xsCn,hzCo,hp⟩:=bnd hp
     obtain ⟨vCp,wCs,nCq,csCr,runCt,SCu,elsCv,ceCw⟩:=SCl.appendO (P:=Tryz.prog) te101 (i:=2) (j:=0) rfl elsAa rfl elsCm hzCo
     have SCu:St Ha wa HBf wCs [.row 106 1 vCi 1 [Value.int .u16 rBy],.box b35 103 [vA7,Value.map (some b29),Value.int .i64 s42.2.1],.row 106 1 vCp nCq csCr,.raw b29 oCd]:=SCu
     have SCx:St Ha wa HBf wCs [.box b35 103 [vA7,Value.map (some b29),Value.int .i64 s42.2.1],.row 106 1 vCp nCq csCr,.raw b29 oCd]:=SCu.drop 0
     refine FL.v (E.append rfl rfl runCt) ?_
     refine FL.v (E.nilCheck rfl) ?_
     refine FL.v (E.fieldAddr zbr rfl) ?_
     obtain ⟨wCy,runCz,SCA⟩:=SCx.store (P:=Tryz.prog) (t:=101) (i:=0) (j:=0) (cs':=[vCp,Value.map (some b29),Value.int .i64 s42.2.1]) (l':=[.box b35 103 [vCp,Value.map (some b29),Value.int .i64 s42.2.1],.row 106 1 vCp nCq csCr,.raw b29 oCd]) (v:=vCp) (c:=[vCp]) rfl Tryz.sizeOf101 (Ln.cells (SCx.row_ln (i:=1) rfl)) rfl (zab (Ln.one (SCx.row_ln (i:=1) rfl)) zad) (Nat.le_of_ble_eq_true rfl) rfl rfl
     refine FL.act rfl rfl (E.store rfl rfl runCz) ?_
     refine FL.nil (FW.region ?_)
     refine FL.v (E.move (v:=Value.pointer (some (⟨b35,0,none⟩:Addr))) rfl) ?_
     refine FL.v (E.move (v:=Value.int .i64 0) rfl) ?_
     refine FL.v (E.nilCheck rfl) ?_
     refine FL.v (E.fieldAddr tf103_2 rfl) ?_
     obtain ⟨wCB,runCC,SCD⟩:=SCA.store (P:=Tryz.prog) (t:=3) (i:=0) (j:=2) (cs':=[vCp,Value.map (some b29),Value.int .i64 0]) (l':=[.box b35 103 [vCp,Value.map (some b29),Value.int .i64 0],.row 106 1 vCp nCq csCr,.raw b29 oCd]) (v:=Value.int .i64 0) (c:=[Value.int .i64 0]) rfl Tryz.sizeOf3 rfl rfl (zab rfl zad) (Nat.le_of_ble_eq_true rfl) rfl rfl
     refine FL.act rfl rfl (E.store rfl rfl runCC) ?_
     refine FL.nil ?_
     obtain rfl:=Option.some.inj hp
     exact ⟨.inl rfl,res0 rfl (by rw [hRC5];exact ⟨_,_,_,_,_,rfl,SCD,(Inc.rfl _),elsCv,hm241⟩)⟩
    ·
     refine FW.condF rfl cCc ?_
     refine FW.skip ?_
     obtain rfl:=Option.some.inj hp
     exact ⟨.inl rfl,res0 rfl (by rw [hRC5];exact ⟨_,_,_,_,_,rfl,SBC,(Inc.rfl _),elsAa,hm112⟩)⟩
   clear hqC5
   refine FL.call rfl rfl rfl (E.call Tryz.call69 (A3 rfl rfl rfl)) hcC5 ?_
   intro e wCH hQC5
   rw [hRC5] at hQC5
   obtain ⟨HCE,vC6,nC7,csC8,oCa,rfl,SCF,iCG,elsC9,hm235⟩:=hQC5
   refine ⟨_,rfl,?_⟩
   refine FL.nil (FW.region ?_)
   refine FL.v (E.add kBk rfl) ?_
   refine FL.v (E.move (v:=Value.int .i64 (wr (((i42:Nat):Int) + 1))) rfl) ?_
   refine FL.nil ?_
   obtain rfl:=Option.some.inj hp
   exact ⟨rfl,⟨_,_,_,_,_,SCF,(iBh.tr iCG),elsC9,hm235,(zam rfl (zal hx42) (p0_1.mono ((i27.tr iBh).tr iCG)).le),kBl,kBm,kBn,kBo⟩⟩
  ·
   refine FW.condF rfl cBx ?_
   refine FW.skip (FW.region ?_)
   refine FL.v (E.add kBk rfl) ?_
   refine FL.v (E.move (v:=Value.int .i64 (wr (((i42:Nat):Int) + 1))) rfl) ?_
   refine FL.nil ?_
   obtain rfl:=Option.some.inj hp
   exact ⟨rfl,⟨_,_,_,_,_,SBg,iBh,elsAa,hm112,(zam rfl (zal hx42) (p0_1.mono (i27.tr iBh)).le),kBl,kBm,kBn,kBo⟩⟩
 ·
  clear hp hq
  rintro s42 fDq wDp ⟨HDm,vA7,nA8,csA9,oAb,SDn,iDo,elsAa,hm112,kDr,kDs,kDt,kDu,kDv⟩
  refine FW.seq (FW.region ?_)
  refine FL.v (E.lss kDr kDv) ?_
  refine FL.nil (FW.seq ?_)
  refine FW.condF rfl zar ?_
  refine FW.exit ?_
  exact ⟨nofun,rfl,⟨_,_,_,_,_,SDn,iDo,elsAa,hm112,kDs,kDt⟩⟩
 ·
  clear hq
  intro e fCO wCN hD
  rcases q42 with s42|x42
  ·
   obtain ⟨rfl,hD⟩:=hD
   obtain ⟨HCK,vA7,nA8,csA9,oAb,SCL,iCM,elsAa,hm112,kCP,kCQ⟩:=hD
   replace hp:=el_go hp
   refine FW.seq (FW.seq (FW.region ?_))
   refine FL.v (E.assign (v:=Value.int .i64 0) rfl) ?_
   refine FL.v (E.assign (v:=Value.int .i64 1) rfl) ?_
   refine FL.nil ?_
   obtain ⟨qCR,hq,hp⟩:=bndR hp
   refine FW.block ?_
   refine FW.mono (FW.iter (S:=((List Int)×Int×(List (Int×Int))×Int×Int)) (X:=Empty) (fun (sCR:((List Int)×Int×(List (Int×Int))×Int×Int)) f w=>∃ H:GH,∃ vKA:Value,∃ nKB:Nat,∃ csKC:List Value,∃ oKE:Obj,St Ha wa H w [.box b35 103 [vKA,Value.map (some b29),Value.int .i64 sCR.2.1],.row 106 1 vKA nKB csKC,.raw b29 oKE]∧Inc HCK H∧Els (up wa.heap.size H) (eN .u16) 1 csKC sCR.1∧MapOf (K:=Int) (V:=Int) (Value.int .u16) (Value.int .i64) oKE sCR.2.2.1∧f 1=Value.int .i64 a1∧f 5=Value.pointer (some (⟨b35,0,none⟩:Addr))∧f 8=Value.int .i64 sCR.2.2.2.1∧f 9=Value.int .i64 sCR.2.2.2.2) (fun (q:Rs ((List Int)×Int×(List (Int×Int))×Int×Int) Empty) e f w=>match q with|.go sCR=>e=Exit.exit 2∧(∃ H:GH,∃ vKA:Value,∃ nKB:Nat,∃ csKC:List Value,∃ oKE:Obj,St Ha wa H w [.box b35 103 [vKA,Value.map (some b29),Value.int .i64 sCR.2.1],.row 106 1 vKA nKB csKC,.raw b29 oKE]∧Inc HCK H∧Els (up wa.heap.size H) (eN .u16) 1 csKC sCR.1∧MapOf (K:=Int) (V:=Int) (Value.int .u16) (Value.int .i64) oKE sCR.2.2.1∧f 5=Value.pointer (some (⟨b35,0,none⟩:Addr)))|.rt x=>x.elim) hq ⟨_,_,_,_,_,SCL,(Inc.rfl _),elsAa,hm112,kCP,kCQ,rfl,rfl⟩ ?_) ?_
   ·
    clear hp hq
    rintro sCR f48 w47 ⟨H43,vKA,nKB,csKC,oKE,S44,i46,elsKD,hm761,k49,k50,k51,k52⟩ oD2 hp
    refine FW.seq (FW.seq (FW.region ?_))
    refine FL.v (E.move k51) ?_
    refine FL.v (E.move k50) ?_
    refine FL.v (E.nilCheck rfl) ?_
    refine FL.v (E.fieldAddr zbr rfl) ?_
    refine FL.v (E.load rfl (zah Tryz.isAgg101 (S44.box_now (i:=0) rfl) rfl)) ?_
    refine FL.v (E.lenO te101 rfl S44 (i:=1) rfl elsKD (by decide)) ?_
    refine FL.v (E.lss rfl rfl) ?_
    refine FL.nil ?_
    rcases ifB hp with ⟨c53,hp⟩|⟨c53,hp⟩
    ·
     refine FW.condT rfl c53 ?_
     refine FW.skip (FW.seq (FW.block (FW.seq (FW.region ?_))))
     refine FL.v (E.move k50) ?_
     refine FL.v (E.nilCheck rfl) ?_
     refine FL.v (E.fieldAddr zbr rfl) ?_
     refine FL.v (E.load rfl (zah Tryz.isAgg101 (S44.box_now (i:=0) rfl) rfl)) ?_
     refine FL.v (E.lenO te101 rfl S44 (i:=1) rfl elsKD (by decide)) ?_
     refine FL.v (E.assign (v:=Value.int .i64 (len sCR.1)) rfl) ?_
     refine FL.nil (FW.seq (FW.seq (FW.region ?_)))
     refine FL.v (E.move k51) ?_
     refine FL.v (E.assign (v:=Value.int .i64 sCR.2.2.2.1) rfl) ?_
     refine FL.nil ?_
     obtain ⟨q54,hq,hp⟩:=bndR hp
     refine FW.block ?_
     refine FW.mono (FW.iter (S:=((List Int)×Int×(List (Int×Int))×Int)) (X:=Empty) (fun (s54:((List Int)×Int×(List (Int×Int))×Int)) f w=>∃ H:GH,∃ v55:Value,∃ n56:Nat,∃ cs57:List Value,∃ o59:Obj,St Ha wa H w [.box b35 103 [v55,Value.map (some b29),Value.int .i64 s54.2.1],.row 106 1 v55 n56 cs57,.raw b29 o59]∧Inc H43 H∧Els (up wa.heap.size H) (eN .u16) 1 cs57 s54.1∧MapOf (K:=Int) (V:=Int) (Value.int .u16) (Value.int .i64) o59 s54.2.2.1∧f 1=Value.int .i64 a1∧f 5=Value.pointer (some (⟨b35,0,none⟩:Addr))∧f 9=Value.int .i64 sCR.2.2.2.2∧f 10=Value.int .i64 (len sCR.1)∧f 11=Value.int .i64 s54.2.2.2) (fun (q:Rs ((List Int)×Int×(List (Int×Int))×Int) Empty) e f w=>match q with|.go s54=>e=Exit.exit 4∧(∃ H:GH,∃ v55:Value,∃ n56:Nat,∃ cs57:List Value,∃ o59:Obj,St Ha wa H w [.box b35 103 [v55,Value.map (some b29),Value.int .i64 s54.2.1],.row 106 1 v55 n56 cs57,.raw b29 o59]∧Inc H43 H∧Els (up wa.heap.size H) (eN .u16) 1 cs57 s54.1∧MapOf (K:=Int) (V:=Int) (Value.int .u16) (Value.int .i64) o59 s54.2.2.1∧f 1=Value.int .i64 a1∧f 5=Value.pointer (some (⟨b35,0,none⟩:Addr))∧f 9=Value.int .i64 sCR.2.2.2.2∧f 10=Value.int .i64 (len sCR.1))|.rt x=>x.elim) hq ⟨_,_,_,_,_,S44,(Inc.rfl _),elsKD,hm761,k49,k50,k52,rfl,rfl⟩ ?_) ?_
     ·
      clear hp hq
      rintro s54 f65 w64 ⟨H61,v55,n56,cs57,o59,S62,i63,els58,hm60,k66,k67,k68,k69,k70⟩ oCS hp
      refine FW.seq (FW.seq (FW.region ?_))
      refine FL.v (E.move k70) ?_
      refine FL.v (E.move k69) ?_
      refine FL.v (E.lss rfl rfl) ?_
      refine FL.nil ?_
      rcases ifB hp with ⟨c71,hp⟩|⟨c71,hp⟩
      ·
       refine FW.condT rfl c71 ?_
       refine FW.skip (FW.seq (FW.block (FW.seq (FW.region ?_))))
       refine FL.v (E.move k67) ?_
       refine FL.v (E.nilCheck rfl) ?_
       refine FL.v (E.fieldAddr zbr rfl) ?_
       refine FL.v (E.load rfl (zah Tryz.isAgg101 (S62.box_now (i:=0) rfl) rfl)) ?_
       refine FL.v (E.move k70) ?_
       obtain ⟨xs72,hc73,hp⟩:=bnd hp
       obtain ⟨v74,cs75,run76,S77,vw78,els79,vl80⟩:=S62.view te101 (kk:=.i64) (i:=1) rfl els58 hc73
       refine FL.v (E.slice te101 rfl rfl (congrArg some rfl) rfl (run76 _)) ?_
       refine FL.v (E.len te101 rfl vl80.ln) ?_
       refine FL.v (E.move (v:=Value.int .i64 0) rfl) ?_
       refine FL.nil ?_
       obtain ⟨q82,hq,hp⟩:=bndR hp
       refine FW.block ?_
       refine FW.mono (FW.forL (S:=((List Int)×Int×(List (Int×Int)))) (X:=Empty) (fun (i82:Nat) (s82:((List Int)×Int×(List (Int×Int)))) f w=>∃ H:GH,∃ v83:Value,∃ n84:Nat,∃ cs85:List Value,∃ o87:MO,∃ o89:Obj,St Ha wa H w [o87,.box b35 103 [v83,Value.map (some b29),Value.int .i64 s82.2.1],.row 106 1 v83 n84 cs85,.raw b29 o89]∧Inc H61 H∧Els (up wa.heap.size H) (eN .u16) 1 cs85 s82.1∧View 1 v83 v74 cs85 cs75 o87∧MapOf (K:=Int) (V:=Int) (Value.int .u16) (Value.int .i64) o89 s82.2.2∧f 63=Value.int .i64 ((i82:Nat):Int)∧f 1=Value.int .i64 a1∧f 5=Value.pointer (some (⟨b35,0,none⟩:Addr))∧f 9=Value.int .i64 sCR.2.2.2.2∧f 10=Value.int .i64 (len sCR.1)∧f 11=Value.int .i64 s54.2.2.2∧f 61=v74∧f 62=Value.int .i64 (len xs72)) (fun (q:Rs ((List Int)×Int×(List (Int×Int))) Empty) e f w=>match q with|.go s82=>e=Exit.exit 6∧(∃ H:GH,∃ v83:Value,∃ n84:Nat,∃ cs85:List Value,∃ o87:MO,∃ o89:Obj,St Ha wa H w [o87,.box b35 103 [v83,Value.map (some b29),Value.int .i64 s82.2.1],.row 106 1 v83 n84 cs85,.raw b29 o89]∧Inc H61 H∧Els (up wa.heap.size H) (eN .u16) 1 cs85 s82.1∧View 1 v83 v74 cs85 cs75 o87∧MapOf (K:=Int) (V:=Int) (Value.int .u16) (Value.int .i64) o89 s82.2.2∧f 1=Value.int .i64 a1∧f 5=Value.pointer (some (⟨b35,0,none⟩:Addr))∧f 9=Value.int .i64 sCR.2.2.2.2∧f 10=Value.int .i64 (len sCR.1)∧f 11=Value.int .i64 s54.2.2.2)|.rt x=>x.elim) hq ⟨_,_,_,_,_,_,S77,(Inc.rfl _),els58,vw78,hm60,rfl,k66,k67,k68,k69,k70,rfl,rfl⟩ ?_ ?_) ?_
       ·
        clear hp hq
        rintro i82 y81 s82 f95 w94 ⟨H91,v83,n84,cs85,o87,o89,S92,i93,els86,vw88,hm90,k96,k97,k98,k99,kA0,kA2,kA4,kA5⟩ hx82 oBI hp
        refine FW.seq (FW.region ?_)
        refine FL.v (E.lssT k96 kA5 (zaq hx82)) ?_
        refine FL.nil (FW.seq ?_)
        refine FW.condT rfl rfl ?_
        refine FW.skip (FW.seq (FW.block (FW.seq (FW.region ?_))))
        obtain ⟨pA6,csAd,ptAe,lAf,atAg,relAh⟩:=S92.view_at (i:=2) (q:=0) rfl rfl vw88 els79 (by decide) (zak hx82)
        obtain rfl:=eN_open relAh
        refine FL.v (E.indexAddr te101 kA4 k96 ptAe) ?_
        refine FL.v (E.load rfl (zae Tryz.isAgg106 atAg rfl)) ?_
        refine FL.v (E.assign (v:=Value.int .u16 y81) rfl) ?_
        refine FL.nil (FW.seq (FW.region ?_))
        refine FL.v (E.move k98) ?_
        refine FL.v (E.nilCheck rfl) ?_
        refine FL.v (E.fieldAddr zbr rfl) ?_
        refine FL.v (E.load rfl (zah Tryz.isAgg101 (S92.box_now (i:=1) rfl) rfl)) ?_
        refine FL.v (E.move kA2) ?_
        obtain ⟨xAo,hxAp,hp⟩:=bnd hp
        obtain ⟨pAi,csAj,ptAk,lAl,atAm,relAn⟩:=S92.row_at (i:=2) rfl els86 (by decide) hxAp
        obtain rfl:=eN_open relAn
        refine FL.v (E.indexAddr te101 rfl rfl ptAk) ?_
        refine FL.v (E.load rfl (zae Tryz.isAgg106 atAm rfl)) ?_
        refine FL.v (E.assign (v:=Value.int .u16 xAo) rfl) ?_
        refine FL.nil (FW.seq (FW.region ?_))
        refine FL.v (E.move (v:=Value.int .u16 xAo) rfl) ?_
        refine FL.v (E.move (v:=Value.int .u16 y81) rfl) ?_
        refine FL.call rfl rfl rfl (E.call Tryz.call71 (A2 rfl rfl)) (w_impl_bothOf S92.sl xAo y81) ?_
        rintro e wAq ⟨rfl,rAr⟩
        refine ⟨_,rfl,?_⟩
        have SAs:=S92.call rAr
        refine FL.v (E.assign (v:=Value.int .u16 (PF.zaj xAo y81)) rfl) ?_
        refine FL.nil (FW.seq (FW.seq (FW.region ?_)))
        refine FL.v (E.move (v:=Value.int .u16 (PF.zaj xAo y81)) rfl) ?_
        refine FL.call rfl rfl rfl (E.call Tryz.call72 (A1 rfl)) (w_impl_mask_one SAs.sl (PF.zaj xAo y81)) ?_
        rintro e wAt ⟨rfl,rAu⟩
        refine ⟨_,rfl,?_⟩
        have SAv:=SAs.call rAu
        refine FL.v (E.not rfl) ?_
        refine FL.nil ?_
        rcases ifB hp with ⟨cAw,hp⟩|⟨cAw,hp⟩
        ·
         refine FW.condT rfl cAw ?_
         refine FW.exit ?_
         refine FW.region ?_
         refine FL.v (E.add k96 rfl) ?_
         refine FL.v (E.move (v:=Value.int .i64 (wr (((i82:Nat):Int) + 1))) rfl) ?_
         refine FL.nil ?_
         obtain rfl:=Option.some.inj hp
         exact ⟨rfl,⟨_,_,_,_,_,_,SAv,i93,els86,vw88,hm90,(zam rfl (zal hx82) vl80.le),k97,k98,k99,kA0,kA2,kA4,kA5⟩⟩
        ·
         refine FW.condF rfl cAw ?_
         refine FW.skip (FW.seq (FW.region ?_))
         refine FL.v (E.move (v:=Value.int .u16 xAo) rfl) ?_
         refine FL.v (E.move (v:=Value.int .u16 y81) rfl) ?_
         refine FL.v (E.or rfl rfl) ?_
         refine FL.v (E.move (v:=Value.int .u16 (PF.zaj xAo y81)) rfl) ?_
         refine FL.v (E.move (v:=Value.int .u16 (PF.zaj xAo y81)) rfl) ?_
         refine FL.v (E.shl rfl rfl (by decide)) ?_
         refine FL.v (E.or rfl rfl) ?_
         refine FL.v (E.andNot rfl rfl) ?_
         refine FL.v (E.assign (v:=Value.int .u16 (anK false 16 (orK false 16 xAo y81) (orK false 16 (PF.zaj xAo y81) (shlK false 16 (PF.zaj xAo y81) 6)))) rfl) ?_
         refine FL.nil (FW.seq (FW.region ?_))
         refine FL.v (E.move (v:=Value.int .u16 (anK false 16 (orK false 16 xAo y81) (orK false 16 (PF.zaj xAo y81) (shlK false 16 (PF.zaj xAo y81) 6)))) rfl) ?_
         obtain ⟨rAx,hrAy,hp⟩:=bnd hp
         refine FL.call rfl rfl rfl (E.call Tryz.call73 (A1 rfl)) (w_impl_mask_count SAv.sl (anK false 16 (orK false 16 xAo y81) (orK false 16 (PF.zaj xAo y81) (shlK false 16 (PF.zaj xAo y81) 6))) hrAy) ?_
         rintro e wAz ⟨rfl,rAA⟩
         refine ⟨_,rfl,?_⟩
         have SAB:=SAv.call rAA
         refine FL.v (E.move k97) ?_
         refine FL.v (E.leq rfl rfl) ?_
         refine FL.nil ?_
         rcases ifB hp with ⟨cAC,hp⟩|⟨cAC,hp⟩
         ·
          refine FW.condT rfl cAC ?_
          refine FW.region ?_
          refine FL.v (E.move k98) ?_
          refine FL.v (E.move (v:=Value.int .u16 (anK false 16 (orK false 16 xAo y81) (orK false 16 (PF.zaj xAo y81) (shlK false 16 (PF.zaj xAo y81) 6)))) rfl) ?_
          refine FL.v (E.move k99) ?_
          obtain ⟨sAD,hqAD,hp⟩:=bnd hp
          obtain ⟨R139,hRAD⟩:∃ R139:((List Int)×Int×(List (Int×Int)))→Ending→World→Prop,R139=(fun sAD e w=>∃ H:GH,∃ vAE:Value,∃ nAF:Nat,∃ csAG:List Value,∃ oAI:MO,∃ oAK:Obj,e=Ending.returned (Value.tuple #[])∧St Ha wa H w [oAI,.box b35 103 [vAE,Value.map (some b29),Value.int .i64 sAD.2.1],.row 106 1 vAE nAF csAG,.raw b29 oAK]∧Inc H91 H∧Els (up wa.heap.size H) (eN .u16) 1 csAG sAD.1∧View 1 vAE v74 csAG cs75 oAI∧MapOf (K:=Int) (V:=Int) (Value.int .u16) (Value.int .i64) oAK sAD.2.2):=⟨_,rfl⟩
          have hcAD:Calls Tryz.prog 69 #[Value.pointer (some (⟨b35,0,none⟩:Addr)),Value.int .u16 (anK false 16 (orK false 16 xAo y81) (orK false 16 (PF.zaj xAo y81) (shlK false 16 (PF.zaj xAo y81) 6))),Value.int .i64 sCR.2.2.2.2] wAz (R139 sAD):=by
           clear hp;have hp:=hqAD;clear hqAD
           refine zag (N:=39) (args:=[Value.pointer (some (⟨b35,0,none⟩:Addr)),Value.int .u16 (anK false 16 (orK false 16 xAo y81) (orK false 16 (PF.zaj xAo y81) (shlK false 16 (PF.zaj xAo y81) 6))),Value.int .i64 sCR.2.2.2.2]) Tryz.func69 rfl rfl rfl ?_
           refine FW.seq (FW.region ?_)
           refine FL.v (E.move (v:=Value.pointer (some (⟨b35,0,none⟩:Addr))) rfl) ?_
           refine FL.v (E.nilCheck rfl) ?_
           refine FL.v (E.fieldAddr tf103_1 rfl) ?_
           refine FL.v (E.load rfl (zah Tryz.isAgg100 (SAB.box_now (i:=1) rfl) rfl)) ?_
           refine FL.v (E.move (v:=Value.int .u16 (anK false 16 (orK false 16 xAo y81) (orK false 16 (PF.zaj xAo y81) (shlK false 16 (PF.zaj xAo y81) 6)))) rfl) ?_
           refine FL.v (E.lookup rfl rfl (SAB.mapGetOk (P:=Tryz.prog) (i:=3) rfl hm90 Tryz.runUnderlying100 (KeyNow.intk Tryz.runUnderlying106) (z:=0) Tryz.zeroValue3 (anK false 16 (orK false 16 xAo y81) (orK false 16 (PF.zaj xAo y81) (shlK false 16 (PF.zaj xAo y81) 6))))) ?_
           refine FL.v (E.move (v:=Value.tuple #[Value.int .i64 ((mget s82.2.2 (anK false 16 (orK false 16 xAo y81) (orK false 16 (PF.zaj xAo y81) (shlK false 16 (PF.zaj xAo y81) 6)))).getD 0),Value.bool ((mget s82.2.2 (anK false 16 (orK false 16 xAo y81) (orK false 16 (PF.zaj xAo y81) (shlK false 16 (PF.zaj xAo y81) 6)))).isSome)]) rfl) ?_
           refine FL.v (E.extract (i:=0) rfl rfl) ?_
           refine FL.v (E.extract (i:=1) rfl rfl) ?_
           refine FL.v (E.assign (v:=Value.int .i64 ((mget s82.2.2 (anK false 16 (orK false 16 xAo y81) (orK false 16 (PF.zaj xAo y81) (shlK false 16 (PF.zaj xAo y81) 6)))).getD 0)) rfl) ?_
           refine FL.v (E.assign (v:=Value.bool ((mget s82.2.2 (anK false 16 (orK false 16 xAo y81) (orK false 16 (PF.zaj xAo y81) (shlK false 16 (PF.zaj xAo y81) 6)))).isSome)) rfl) ?_
           refine FL.nil (FW.seq (FW.region ?_))
           refine FL.v (E.move (v:=Value.bool ((mget s82.2.2 (anK false 16 (orK false 16 xAo y81) (orK false 16 (PF.zaj xAo y81) (shlK false 16 (PF.zaj xAo y81) 6)))).isSome)) rfl) ?_
           refine FL.v (E.not rfl) ?_
           refine FL.nil ?_
           rcases ifB hp with ⟨cAM,hp⟩|⟨cAM,hp⟩
           ·
            refine FW.condT rfl cAM ?_
            refine FW.seq (FW.region ?_)
            refine FL.v (E.move (v:=Value.pointer (some (⟨b35,0,none⟩:Addr))) rfl) ?_
            refine FL.v (E.nilCheck rfl) ?_
            refine FL.v (E.fieldAddr tf103_1 rfl) ?_
            refine FL.v (E.load rfl (zah Tryz.isAgg100 (SAB.box_now (i:=1) rfl) rfl)) ?_
            refine FL.v (E.move (v:=Value.int .u16 (anK false 16 (orK false 16 xAo y81) (orK false 16 (PF.zaj xAo y81) (shlK false 16 (PF.zaj xAo y81) 6)))) rfl) ?_
            refine FL.v (E.move (v:=Value.int .i64 sCR.2.2.2.2) rfl) ?_
            obtain ⟨oAN,wAO,runAP,SAQ,hm153⟩:=SAB.mapPut (P:=Tryz.prog) (i:=3) rfl hm90 Tryz.runUnderlying100 (KeyNow.intk Tryz.runUnderlying106) (anK false 16 (orK false 16 xAo y81) (orK false 16 (PF.zaj xAo y81) (shlK false 16 (PF.zaj xAo y81) 6))) sCR.2.2.2.2
            have SAQ:St Ha wa H91 wAO [o87,.box b35 103 [v83,Value.map (some b29),Value.int .i64 s82.2.1],.row 106 1 v83 n84 cs85,.raw b29 oAN]:=SAQ
            refine FL.act rfl rfl (E.mapUpdate rfl rfl rfl runAP) ?_
            refine FL.nil (FW.seq (FW.region ?_))
            refine FL.v (E.move (v:=Value.pointer (some (⟨b35,0,none⟩:Addr))) rfl) ?_
            refine FL.v (E.move (v:=Value.pointer (some (⟨b35,0,none⟩:Addr))) rfl) ?_
            refine FL.v (E.nilCheck rfl) ?_
            refine FL.v (E.fieldAddr zbr rfl) ?_
            refine FL.v (E.load rfl (zah Tryz.isAgg101 (SAQ.box_now (i:=1) rfl) rfl)) ?_
            refine FL.v (E.move (v:=Value.int .u16 (anK false 16 (orK false 16 xAo y81) (orK false 16 (PF.zaj xAo y81) (shlK false 16 (PF.zaj xAo y81) 6)))) rfl) ?_
            obtain ⟨vAS,wAT,runAU,SAV⟩:=SAQ.buildSlice (P:=Tryz.prog) te101 [Value.int .u16 (anK false 16 (orK false 16 xAo y81) (orK false 16 (PF.zaj xAo y81) (shlK false 16 (PF.zaj xAo y81) 6)))] (parts:=#[(0,Value.int .u16 (anK false 16 (orK false 16 xAo y81) (orK false 16 (PF.zaj xAo y81) (shlK false 16 (PF.zaj xAo y81) 6))))]) (cells:=[Value.int .u16 (anK false 16 (orK false 16 xAo y81) (orK false 16 (PF.zaj xAo y81) (shlK false 16 (PF.zaj xAo y81) 6)))]) rfl (zaH rfl zaw) (zaG rfl zav) (zab rfl zad) (Nat.le_of_ble_eq_true rfl)
            have elsAW:Els (up wa.heap.size H91) (eN .u16) 1 [Value.int .u16 (anK false 16 (orK false 16 xAo y81) (orK false 16 (PF.zaj xAo y81) (shlK false 16 (PF.zaj xAo y81) 6)))] [(anK false 16 (orK false 16 xAo y81) (orK false 16 (PF.zaj xAo y81) (shlK false 16 (PF.zaj xAo y81) 6)))]:=(Els.snoc (H:=(up wa.heap.size H91)) (E:=(eN .u16)) (k:=1) (c:=[Value.int .u16 (anK false 16 (orK false 16 xAo y81) (orK false 16 (PF.zaj xAo y81) (shlK false 16 (PF.zaj xAo y81) 6)))]) (x:=(anK false 16 (orK false 16 xAo y81) (orK false 16 (PF.zaj xAo y81) (shlK false 16 (PF.zaj xAo y81) 6)))) Els.nil rfl rfl)
            refine FL.v (E.buildSlice (B1 rfl) runAU) ?_
            obtain ⟨xsAX,hzAY,hp⟩:=bnd hp
            obtain ⟨vAZ,wB2,nB0,csB1,oB7,runB3,SB4,elsB5,ceB6,vw170⟩:=SAV.appendVO (P:=Tryz.prog) te101 (i:=3) (j:=0) (q:=1) rfl els86 rfl elsAW hzAY rfl vw88
            have SB4:St Ha wa H91 wB2 [.row 106 1 vAS 1 [Value.int .u16 (anK false 16 (orK false 16 xAo y81) (orK false 16 (PF.zaj xAo y81) (shlK false 16 (PF.zaj xAo y81) 6)))],oB7,.box b35 103 [v83,Value.map (some b29),Value.int .i64 s82.2.1],.row 106 1 vAZ nB0 csB1,.raw b29 oAN]:=SB4
            have SB9:St Ha wa H91 wB2 [oB7,.box b35 103 [v83,Value.map (some b29),Value.int .i64 s82.2.1],.row 106 1 vAZ nB0 csB1,.raw b29 oAN]:=SB4.drop 0
            refine FL.v (E.append rfl rfl runB3) ?_
            refine FL.v (E.nilCheck rfl) ?_
            refine FL.v (E.fieldAddr zbr rfl) ?_
            obtain ⟨wBa,runBb,SBc⟩:=SB9.store (P:=Tryz.prog) (t:=101) (i:=1) (j:=0) (cs':=[vAZ,Value.map (some b29),Value.int .i64 s82.2.1]) (l':=[oB7,.box b35 103 [vAZ,Value.map (some b29),Value.int .i64 s82.2.1],.row 106 1 vAZ nB0 csB1,.raw b29 oAN]) (v:=vAZ) (c:=[vAZ]) rfl Tryz.sizeOf101 (Ln.cells (SB9.row_ln (i:=2) rfl)) rfl (zab (Ln.one (SB9.row_ln (i:=2) rfl)) zad) (Nat.le_of_ble_eq_true rfl) rfl rfl
            refine FL.act rfl rfl (E.store rfl rfl runBb) ?_
            refine FL.nil (FW.region ?_)
            refine FL.v (E.move (v:=Value.pointer (some (⟨b35,0,none⟩:Addr))) rfl) ?_
            refine FL.v (E.move (v:=Value.int .i64 sCR.2.2.2.2) rfl) ?_
            refine FL.v (E.nilCheck rfl) ?_
            refine FL.v (E.fieldAddr tf103_2 rfl) ?_
            obtain ⟨wBd,runBe,SBD⟩:=SBc.store (P:=Tryz.prog) (t:=3) (i:=1) (j:=2) (cs':=[vAZ,Value.map (some b29),Value.int .i64 sCR.2.2.2.2]) (l':=[oB7,.box b35 103 [vAZ,Value.map (some b29),Value.int .i64 sCR.2.2.2.2],.row 106 1 vAZ nB0 csB1,.raw b29 oAN]) (v:=Value.int .i64 sCR.2.2.2.2) (c:=[Value.int .i64 sCR.2.2.2.2]) rfl Tryz.sizeOf3 rfl rfl (zab rfl zad) (Nat.le_of_ble_eq_true rfl) rfl rfl
            refine FL.act rfl rfl (E.store rfl rfl runBe) ?_
            refine FL.nil ?_
            obtain rfl:=Option.some.inj hp
            exact ⟨.inl rfl,res0 rfl (by rw [hRAD];exact ⟨_,_,_,_,_,_,rfl,SBD,(Inc.rfl _),elsB5,vw170,hm153⟩)⟩
           ·
            refine FW.condF rfl cAM ?_
            refine FW.skip ?_
            obtain rfl:=Option.some.inj hp
            exact ⟨.inl rfl,res0 rfl (by rw [hRAD];exact ⟨_,_,_,_,_,_,rfl,SAB,(Inc.rfl _),els86,vw88,hm90⟩)⟩
          clear hqAD
          refine FL.call rfl rfl rfl (E.call Tryz.call69 (A3 rfl rfl rfl)) hcAD ?_
          intro e wBH hQAD
          rw [hRAD] at hQAD
          obtain ⟨HBE,vAE,nAF,csAG,oAI,oAK,rfl,SBF,iBG,elsAH,vw145,hm147⟩:=hQAD
          refine ⟨_,rfl,?_⟩
          refine FL.nil (FW.region ?_)
          refine FL.v (E.add k96 rfl) ?_
          refine FL.v (E.move (v:=Value.int .i64 (wr (((i82:Nat):Int) + 1))) rfl) ?_
          refine FL.nil ?_
          obtain rfl:=Option.some.inj hp
          exact ⟨rfl,⟨_,_,_,_,_,_,SBF,(i93.tr iBG),elsAH,vw145,hm147,(zam rfl (zal hx82) vl80.le),k97,k98,k99,kA0,kA2,kA4,kA5⟩⟩
         ·
          refine FW.condF rfl cAC ?_
          refine FW.skip (FW.region ?_)
          refine FL.v (E.add k96 rfl) ?_
          refine FL.v (E.move (v:=Value.int .i64 (wr (((i82:Nat):Int) + 1))) rfl) ?_
          refine FL.nil ?_
          obtain rfl:=Option.some.inj hp
          exact ⟨rfl,⟨_,_,_,_,_,_,SAB,i93,els86,vw88,hm90,(zam rfl (zal hx82) vl80.le),k97,k98,k99,kA0,kA2,kA4,kA5⟩⟩
       ·
        clear hp hq
        rintro s82 fBX wBW ⟨HBT,v83,n84,cs85,o87,o89,SBU,iBV,els86,vw88,hm90,kBY,kBZ,kC0,kC1,kC2,kC3,kC4,kCI⟩
        refine FW.seq (FW.region ?_)
        refine FL.v (E.lss kBY kCI) ?_
        refine FL.nil (FW.seq ?_)
        refine FW.condF rfl zar ?_
        refine FW.exit ?_
        exact ⟨nofun,rfl,⟨_,_,_,_,_,_,SBU,iBV,els86,vw88,hm90,kBZ,kC0,kC1,kC2,kC3⟩⟩
       ·
        clear hq
        intro e fBN wBM hD
        rcases q82 with s82|x82
        ·
         obtain ⟨rfl,hD⟩:=hD
         obtain ⟨HBJ,v83,n84,cs85,o87,o89,SBK,iBL,els86,vw88,hm90,kBO,kBP,kBQ,kBR,kBS⟩:=hD
         replace hp:=el_go hp
         refine FW.region ?_
         refine FL.v (E.move kBS) ?_
         refine FL.v (E.add rfl rfl) ?_
         refine FL.v (E.assign (v:=Value.int .i64 (wr (s54.2.2.2 + 1))) rfl) ?_
         refine FL.nil ?_
         obtain rfl:=Option.some.inj hp
         exact ⟨rfl,⟨_,_,_,_,_,(SBK.sel [1,2,3] (by decide) rfl),(i63.tr iBL),els86,hm90,kBO,kBP,kBQ,kBR,rfl⟩⟩
        ·
         exact x82.elim
      ·
       refine FW.condF rfl c71 ?_
       refine FW.exit ?_
       obtain rfl:=Option.some.inj hp
       exact ⟨nofun,rfl,⟨_,_,_,_,_,S62,i63,els58,hm60,k66,k67,k68,k69⟩⟩
     ·
      clear hq
      intro e fCX wCW hD
      rcases q54 with s54|x54
      ·
       obtain ⟨rfl,hD⟩:=hD
       obtain ⟨HCT,v55,n56,cs57,o59,SCU,iCV,els58,hm60,kCY,kCZ,kD0,kD1⟩:=hD
       replace hp:=el_go hp
       refine FW.region ?_
       refine FL.v (E.move kD1) ?_
       refine FL.v (E.assign (v:=Value.int .i64 (len sCR.1)) rfl) ?_
       refine FL.nil (FW.region ?_)
       refine FL.v (E.move kD0) ?_
       refine FL.v (E.add rfl rfl) ?_
       refine FL.v (E.assign (v:=Value.int .i64 (wr (sCR.2.2.2.2 + 1))) rfl) ?_
       refine FL.nil ?_
       obtain rfl:=Option.some.inj hp
       exact ⟨rfl,⟨_,_,_,_,_,SCU,(i46.tr iCV),els58,hm60,kCY,kCZ,rfl,rfl⟩⟩
      ·
       exact x54.elim
    ·
     refine FW.condF rfl c53 ?_
     refine FW.exit ?_
     obtain rfl:=Option.some.inj hp
     exact ⟨nofun,rfl,⟨_,_,_,_,_,S44,i46,elsKD,hm761,k50⟩⟩
   ·
    clear hq
    intro e fD7 wD6 hD
    rcases qCR with sCR|xCR
    ·
     obtain ⟨rfl,hD⟩:=hD
     obtain ⟨HD3,vKA,nKB,csKC,oKE,SD4,iD5,elsKD,hm761,kD8⟩:=hD
     replace hp:=el_go hp
     refine FW.seq (FW.region ?_)
     refine FL.v (E.move kD8) ?_
     refine FL.v (E.assign (v:=Value.pointer (some (⟨b35,0,none⟩:Addr))) rfl) ?_
     refine FL.nil ?_
     refine FW.ret ?_
     obtain ⟨HD9,SDa,iDb,hDc,nvDd⟩:=SD4.sealRowU (i:=1) (l':=[.box b35 103 [vKA,Value.map (some b29),Value.int .i64 sCR.2.1],.raw b29 oKE]) rfl elsKD (by decide) rfl
     obtain ⟨HDe,SDf,iDg,hDh⟩:=SDa.sealMap (i:=1) (l':=[.box b35 103 [vKA,Value.map (some b29),Value.int .i64 sCR.2.1]]) rfl hm761 rfl
     obtain ⟨HDi,SDj,iDk,atDl⟩:=SDf.sealBox (i:=0) (l':=[]) rfl rfl
     obtain rfl:=Option.some.inj hp
     exact ⟨.inr rfl,res1 rfl rfl ⟨_,_,rfl,SDj.run,⟨_,rfl,_,_,(hDc.mono (zaf (iDg.tr iDk))),(hDh.mono iDk),atDl⟩⟩⟩
    ·
     exact xCR.elim
  ·
   exact x42.elim

@[reducible] def p_impl_mask_clause (Ha:GH) (wa:World) (r:(List Int)):Ending→World→Prop :=
 fun e w'=>∃ H':GH,∃ v0:Value,∃ n0:Nat,∃ c0:List Value,e=.returned (v0)∧St Ha wa H' w' [.row 3 1 v0 n0 c0]∧Els (up wa.heap.size H') eI 1 c0 r
set_option maxHeartbeats 4000000 in
theorem w_impl_mask_clause {Ha:GH} {wa:World} (hs:Sl Ha wa) (a0:Int) {r:(List Int)} (hp:(PF.zbL a0)=some r) :
  Calls Tryz.prog 74 #[Value.int .u16 a0] wa (p_impl_mask_clause Ha wa r):=by
 unfold PF.zbL at hp
 have S0:=St.init hs
 refine zag (N:=32) (args:=[Value.int .u16 a0]) Tryz.func74 rfl rfl rfl ?_
 refine FW.seq (FW.region ?_)
 refine FL.v (E.assign (v:=Value.slice none 0 0) rfl) ?_
 refine FL.nil (FW.seq (FW.region ?_))
 refine FL.v (E.assign (v:=Value.slice none 0 0) rfl) ?_
 refine FL.nil (FW.seq (FW.seq (FW.region ?_)))
 refine FL.v (E.assign (v:=Value.int .i64 1) rfl) ?_
 refine FL.nil ?_
 obtain ⟨q21,hq,hp⟩:=bndR hp
 refine FW.block ?_
 refine FW.mono (FW.iter (S:=((List Int)×Int)) (X:=Empty) (fun (s21:((List Int)×Int)) f w=>∃ H:GH,∃ v22:Value,∃ n23:Nat,∃ cs24:List Value,St Ha wa H w [.row 3 1 v22 n23 cs24]∧Inc Ha H∧Els (up wa.heap.size H) eI 1 cs24 s21.1∧f 0=Value.int .u16 a0∧f 3=v22∧f 4=Value.int .i64 s21.2) (fun (q:Rs ((List Int)×Int) Empty) e f w=>match q with|.go s21=>e=Exit.exit 0∧(∃ H:GH,∃ v22:Value,∃ n23:Nat,∃ cs24:List Value,St Ha wa H w [.row 3 1 v22 n23 cs24]∧Inc Ha H∧Els (up wa.heap.size H) eI 1 cs24 s21.1∧f 3=v22)|.rt x=>x.elim) hq ⟨_,_,_,_,(S0.nil 3 1),(Inc.rfl _),Els.nil,rfl,rfl,rfl⟩ ?_) ?_
 ·
  clear hp hq
  rintro s21 f92 w91 ⟨H88,v22,n23,cs24,S89,i90,els25,k93,k94,k95⟩ oAS hp
  refine FW.seq (FW.seq (FW.region ?_))
  refine FL.v (E.move k95) ?_
  refine FL.v (E.leq rfl rfl) ?_
  refine FL.nil ?_
  rcases ifB hp with ⟨c96,hp⟩|⟨c96,hp⟩
  ·
   refine FW.condT rfl c96 ?_
   refine FW.skip (FW.seq (FW.block (FW.seq (FW.seq (FW.region ?_)))))
   refine FL.v (E.move k93) ?_
   refine FL.v (E.move k95) ?_
   refine FL.v (E.sub rfl rfl) ?_
   obtain ⟨u98,z97,hp⟩:=bnd hp
   refine FL.v (E.shr rfl rfl (nn_ge z97)) ?_
   refine FL.v (E.and rfl rfl) ?_
   refine FL.v (E.eql rfl rfl) ?_
   refine FL.nil ?_
   rcases ifB hp with ⟨c99,hp⟩|⟨c99,hp⟩
   ·
    refine FW.condT rfl c99 ?_
    refine FW.region ?_
    refine FL.v (E.move k94) ?_
    refine FL.v (E.move k95) ?_
    obtain ⟨vA0,wA1,runA2,SA3,elsA4⟩:=S89.ints (P:=Tryz.prog) te45 (up wa.heap.size H88) 1 [s21.2]
    refine FL.v (E.buildSlice (B1 rfl) runA2) ?_
    obtain ⟨xsA5,hzA6,hp⟩:=bnd hp
    obtain ⟨vA7,wAa,nA8,csA9,runAb,SAc,elsAd,ceAe⟩:=SA3.appendO (P:=Tryz.prog) te45 (i:=1) (j:=0) rfl els25 rfl elsA4 hzA6
    have SAc:St Ha wa H88 wAa [.row 3 1 vA0 1 (iC [s21.2]),.row 3 1 vA7 nA8 csA9]:=SAc
    have SAf:St Ha wa H88 wAa [.row 3 1 vA7 nA8 csA9]:=SAc.drop 0
    refine FL.v (E.append rfl rfl runAb) ?_
    refine FL.v (E.assign (v:=vA7) rfl) ?_
    refine FL.nil (FW.seq (FW.region ?_))
    refine FL.v (E.move k93) ?_
    refine FL.v (E.move k95) ?_
    refine FL.v (E.add rfl rfl) ?_
    refine FL.v (E.sub rfl rfl) ?_
    obtain ⟨u117,zAg,hp⟩:=bnd hp
    refine FL.v (E.shr rfl rfl (nn_ge zAg)) ?_
    refine FL.v (E.and rfl rfl) ?_
    refine FL.v (E.eql rfl rfl) ?_
    refine FL.nil ?_
    rcases ifB hp with ⟨cAi,hp⟩|⟨cAi,hp⟩
    ·
     refine FW.condT rfl cAi ?_
     refine FW.region ?_
     refine FL.v (E.move (v:=vA7) rfl) ?_
     refine FL.v (E.move k95) ?_
     refine FL.v (E.neg rfl) ?_
     obtain ⟨vAj,wAk,runAl,SAm,elsAn⟩:=SAf.ints (P:=Tryz.prog) te45 (up wa.heap.size H88) 1 [(wr (-s21.2))]
     refine FL.v (E.buildSlice (B1 rfl) runAl) ?_
     obtain ⟨xsAo,hzAp,hp⟩:=bnd hp
     obtain ⟨vAq,wAt,nAr,csAs,runAu,SAv,elsAw,ceAx⟩:=SAm.appendO (P:=Tryz.prog) te45 (i:=1) (j:=0) rfl elsAd rfl elsAn hzAp
     have SAv:St Ha wa H88 wAt [.row 3 1 vAj 1 (iC [(wr (-s21.2))]),.row 3 1 vAq nAr csAs]:=SAv
     have SAy:St Ha wa H88 wAt [.row 3 1 vAq nAr csAs]:=SAv.drop 0
     refine FL.v (E.append rfl rfl runAu) ?_
     refine FL.v (E.assign (v:=vAq) rfl) ?_
     refine FL.nil (FW.region ?_)
     refine FL.v (E.move k95) ?_
     refine FL.v (E.add rfl rfl) ?_
     refine FL.v (E.assign (v:=Value.int .i64 (wr (s21.2 + 1))) rfl) ?_
     refine FL.nil ?_
     obtain rfl:=Option.some.inj hp
     exact ⟨rfl,⟨_,_,_,_,SAy,i90,elsAw,k93,rfl,rfl⟩⟩
    ·
     refine FW.condF rfl cAi ?_
     refine FW.skip (FW.region ?_)
     refine FL.v (E.move k95) ?_
     refine FL.v (E.add rfl rfl) ?_
     refine FL.v (E.assign (v:=Value.int .i64 (wr (s21.2 + 1))) rfl) ?_
     refine FL.nil ?_
     obtain rfl:=Option.some.inj hp
     exact ⟨rfl,⟨_,_,_,_,SAf,i90,elsAd,k93,rfl,rfl⟩⟩
   ·
    refine FW.condF rfl c99 ?_
    refine FW.skip (FW.seq (FW.region ?_))
    refine FL.v (E.move k93) ?_
    refine FL.v (E.move k95) ?_
    refine FL.v (E.add rfl rfl) ?_
    refine FL.v (E.sub rfl rfl) ?_
    obtain ⟨u136,zAz,hp⟩:=bnd hp
    refine FL.v (E.shr rfl rfl (nn_ge zAz)) ?_
    refine FL.v (E.and rfl rfl) ?_
    refine FL.v (E.eql rfl rfl) ?_
    refine FL.nil ?_
    rcases ifB hp with ⟨cAB,hp⟩|⟨cAB,hp⟩
    ·
     refine FW.condT rfl cAB ?_
     refine FW.region ?_
     refine FL.v (E.move k94) ?_
     refine FL.v (E.move k95) ?_
     refine FL.v (E.neg rfl) ?_
     obtain ⟨vAC,wAD,runAE,SAF,elsAG⟩:=S89.ints (P:=Tryz.prog) te45 (up wa.heap.size H88) 1 [(wr (-s21.2))]
     refine FL.v (E.buildSlice (B1 rfl) runAE) ?_
     obtain ⟨xsAH,hzAI,hp⟩:=bnd hp
     obtain ⟨vAJ,wAM,nAK,csAL,runAN,SAO,elsAP,ceAQ⟩:=SAF.appendO (P:=Tryz.prog) te45 (i:=1) (j:=0) rfl els25 rfl elsAG hzAI
     have SAO:St Ha wa H88 wAM [.row 3 1 vAC 1 (iC [(wr (-s21.2))]),.row 3 1 vAJ nAK csAL]:=SAO
     have SAR:St Ha wa H88 wAM [.row 3 1 vAJ nAK csAL]:=SAO.drop 0
     refine FL.v (E.append rfl rfl runAN) ?_
     refine FL.v (E.assign (v:=vAJ) rfl) ?_
     refine FL.nil (FW.region ?_)
     refine FL.v (E.move k95) ?_
     refine FL.v (E.add rfl rfl) ?_
     refine FL.v (E.assign (v:=Value.int .i64 (wr (s21.2 + 1))) rfl) ?_
     refine FL.nil ?_
     obtain rfl:=Option.some.inj hp
     exact ⟨rfl,⟨_,_,_,_,SAR,i90,elsAP,k93,rfl,rfl⟩⟩
    ·
     refine FW.condF rfl cAB ?_
     refine FW.skip (FW.region ?_)
     refine FL.v (E.move k95) ?_
     refine FL.v (E.add rfl rfl) ?_
     refine FL.v (E.assign (v:=Value.int .i64 (wr (s21.2 + 1))) rfl) ?_
     refine FL.nil ?_
     obtain rfl:=Option.some.inj hp
     exact ⟨rfl,⟨_,_,_,_,S89,i90,els25,k93,k94,rfl⟩⟩
  ·
   refine FW.condF rfl c96 ?_
   refine FW.exit ?_
   obtain rfl:=Option.some.inj hp
   exact ⟨nofun,rfl,⟨_,_,_,_,S89,i90,els25,k94⟩⟩
 ·
  clear hq
  intro e fAX wAW hD
  rcases q21 with s21|x21
  ·
   obtain ⟨rfl,hD⟩:=hD
   obtain ⟨HAT,v22,n23,cs24,SAU,iAV,els25,kAY⟩:=hD
   replace hp:=el_go hp
   refine FW.seq (FW.region ?_)
   refine FL.v (E.move kAY) ?_
   refine FL.v (E.assign (v:=v22) rfl) ?_
   refine FL.nil ?_
   refine FW.ret ?_
   obtain rfl:=Option.some.inj hp
   exact ⟨.inr rfl,res1 rfl rfl ⟨_,_,_,_,rfl,SAU,els25⟩⟩
  ·
   exact x21.elim

@[reducible] def zdW (H0:GH) (w0:World) (Ha:GH) (L:List MO) (v0:Value) (n0:Nat) (r:(List (List Int))):Ending→World→Prop :=
 fun e w'=>∃ H':GH,∃ c0k:List Value,e=.returned (Value.tuple #[])∧(St H0 w0 H' w' (.row 45 1 v0 n0 c0k::L)∧Inc Ha H')∧Els (up w0.heap.size H') (eL eI 1) 1 c0k r∧(bl c0k).Nodup
theorem zdX {H0 Ha:GH} {w0 wa:World} {L:List MO} {v0:Value} {n0:Nat} {k0:List Value} (S0:St H0 w0 Ha wa (.row 45 1 v0 n0 k0::L)) (a0:List (List Int)) (p0:Els (up w0.heap.size Ha) (eL eI 1) 1 k0 a0) (d0:(bl k0).Nodup) (v1:Value) (a1:(List Int)→(List Int)→Option Int) (p1:zdU Tryz.prog Ha v1 a1) {r:(List (List Int))} (hp:(PF.zc1 a0 a1)=some r) :
  Calls Tryz.prog 75 #[v0,v1] wa (zdW H0 w0 Ha L v0 n0 r):=by
 refine (St.sortF (l:=.row 45 1 v0 n0 k0::L) (i:=0) upI S0 rfl p0 (fun H2 w2 hi hs2 c x hc d y hd r hr=>by obtain ⟨y0,e0,z0⟩:=eL_open hc;cases e0;obtain ⟨y1,e1,z1⟩:=eL_open hd;cases e1;exact p1 H2 w2 hi hs2 x c z0 y d z1 r hr) (fun p cap fv w=>AnyF.slices_SortFunc_none (P:=Tryz.prog) (ρ:=Tryz.sort75_ren) { Tryz.sort75 with } p cap fv w) (fun α _ enc h1 cf hO g cb blk off cap d w eg hc hH hb hs=>Any.slices_SortFunc Tryz.sort75 enc h1 cf hO g cb blk off cap d w eg hc hH hb hs) hp).mono ?_
 rintro e w' ⟨rfl,c',h1,h2,hq⟩
 exact ⟨_,_,rfl,⟨h1,Inc.rfl _⟩,h2,nd_perm hq d0⟩

theorem zdI {Ha:GH} {wa:World} (hs:Sl Ha wa) (a0:Int) :
  Calls Tryz.prog 135 #[Value.int .i64 a0] wa (Sc Ha wa (Value.bool (PF.zaZ a0))):=by
 obtain ⟨r,hp⟩:∃ r,(PF.zaZ a0)=r:=⟨_,rfl⟩
 rw [hp]
 unfold PF.zaZ at hp
 have S0:=St.init hs
 refine zag (N:=6) (args:=[Value.int .i64 a0]) Tryz.func135 rfl rfl rfl ?_
 refine FW.seq (FW.region ?_)
 refine FL.v (E.assign (v:=Value.bool false) rfl) ?_
 refine FL.nil (FW.seq (FW.region ?_))
 refine FL.v (E.move (v:=Value.int .i64 a0) rfl) ?_
 refine FL.v (E.move (v:=Value.int .i64 a0) rfl) ?_
 refine FL.v (E.neq rfl rfl) ?_
 refine FL.v (E.assign (v:=Value.bool (!(a0 == a0))) rfl) ?_
 refine FL.nil ?_
 refine FW.ret ?_
 obtain rfl:=hp
 exact ⟨.inr rfl,res1 rfl rfl ⟨rfl,S0.back⟩⟩

set_option maxHeartbeats 4000000 in
theorem zdr {Ha:GH} {wa:World} (hs:Sl Ha wa) (a0:Int) (a1:Int) :
  Calls Tryz.prog 107 #[Value.int .i64 a0,Value.int .i64 a1] wa (Sc Ha wa (Value.int .i64 (PF.zaO a0 a1))):=by
 obtain ⟨r,hp⟩:∃ r,(PF.zaO a0 a1)=r:=⟨_,rfl⟩
 rw [hp]
 unfold PF.zaO at hp
 have S0:=St.init hs
 refine zag (N:=20) (args:=[Value.int .i64 a0,Value.int .i64 a1]) Tryz.func107 rfl rfl rfl ?_
 refine FW.seq (FW.region ?_)
 refine FL.v (E.assign (v:=Value.int .i64 0) rfl) ?_
 refine FL.nil (FW.seq (FW.region ?_))
 refine FL.v (E.move (v:=Value.int .i64 a0) rfl) ?_
 refine FL.call rfl rfl rfl (E.call Tryz.call135 (A1 rfl)) (zdI S0.sl a0) ?_
 rintro e w21 ⟨rfl,r22⟩
 refine ⟨_,rfl,?_⟩
 have S23:=S0.call r22
 refine FL.v (E.assign (v:=Value.bool (PF.zaZ a0)) rfl) ?_
 refine FL.nil (FW.seq (FW.region ?_))
 refine FL.v (E.move (v:=Value.int .i64 a1) rfl) ?_
 refine FL.call rfl rfl rfl (E.call Tryz.call135 (A1 rfl)) (zdI S23.sl a1) ?_
 rintro e w24 ⟨rfl,r25⟩
 refine ⟨_,rfl,?_⟩
 have S26:=S23.call r25
 refine FL.v (E.assign (v:=Value.bool (PF.zaZ a1)) rfl) ?_
 refine FL.nil (FW.seq (FW.seq (FW.region ?_)))
 refine FL.v (E.move (v:=Value.bool (PF.zaZ a0)) rfl) ?_
 refine FL.nil ?_
 rcases ifT hp with ⟨c27,hp⟩|⟨c27,hp⟩
 ·
  refine FW.condT rfl c27 ?_
  refine FW.seq (FW.seq (FW.region ?_))
  refine FL.v (E.move (v:=Value.bool (PF.zaZ a1)) rfl) ?_
  refine FL.nil ?_
  rcases ifT hp with ⟨c28,hp⟩|⟨c28,hp⟩
  ·
   refine FW.condT rfl c28 ?_
   refine FW.seq (FW.region ?_)
   refine FL.v (E.assign (v:=Value.int .i64 0) rfl) ?_
   refine FL.nil ?_
   refine FW.ret ?_
   obtain rfl:=hp
   exact ⟨.inr rfl,res1 rfl rfl ⟨rfl,S26.back⟩⟩
  ·
   refine FW.condF rfl c28 ?_
   refine FW.skip (FW.seq (FW.region ?_))
   refine FL.v (E.assign (v:=Value.int .i64 (-1)) rfl) ?_
   refine FL.nil ?_
   refine FW.ret ?_
   obtain rfl:=hp
   exact ⟨.inr rfl,res1 rfl rfl ⟨rfl,S26.back⟩⟩
 ·
  refine FW.condF rfl c27 ?_
  refine FW.skip (FW.seq (FW.seq (FW.region ?_)))
  refine FL.v (E.move (v:=Value.bool (PF.zaZ a1)) rfl) ?_
  refine FL.nil ?_
  rcases ifT hp with ⟨c29,hp⟩|⟨c29,hp⟩
  ·
   refine FW.condT rfl c29 ?_
   refine FW.seq (FW.region ?_)
   refine FL.v (E.assign (v:=Value.int .i64 1) rfl) ?_
   refine FL.nil ?_
   refine FW.ret ?_
   obtain rfl:=hp
   exact ⟨.inr rfl,res1 rfl rfl ⟨rfl,S26.back⟩⟩
  ·
   refine FW.condF rfl c29 ?_
   refine FW.skip (FW.seq (FW.seq (FW.region ?_)))
   refine FL.v (E.move (v:=Value.int .i64 a0) rfl) ?_
   refine FL.v (E.move (v:=Value.int .i64 a1) rfl) ?_
   refine FL.v (E.lss rfl rfl) ?_
   refine FL.nil ?_
   rcases ifT hp with ⟨c30,hp⟩|⟨c30,hp⟩
   ·
    refine FW.condT rfl c30 ?_
    refine FW.seq (FW.region ?_)
    refine FL.v (E.assign (v:=Value.int .i64 (-1)) rfl) ?_
    refine FL.nil ?_
    refine FW.ret ?_
    obtain rfl:=hp
    exact ⟨.inr rfl,res1 rfl rfl ⟨rfl,S26.back⟩⟩
   ·
    refine FW.condF rfl c30 ?_
    refine FW.skip (FW.seq (FW.seq (FW.region ?_)))
    refine FL.v (E.move (v:=Value.int .i64 a0) rfl) ?_
    refine FL.v (E.move (v:=Value.int .i64 a1) rfl) ?_
    refine FL.v (E.gtr rfl rfl) ?_
    refine FL.nil ?_
    rcases ifT hp with ⟨c31,hp⟩|⟨c31,hp⟩
    ·
     refine FW.condT rfl c31 ?_
     refine FW.seq (FW.region ?_)
     refine FL.v (E.assign (v:=Value.int .i64 1) rfl) ?_
     refine FL.nil ?_
     refine FW.ret ?_
     obtain rfl:=hp
     exact ⟨.inr rfl,res1 rfl rfl ⟨rfl,S26.back⟩⟩
    ·
     refine FW.condF rfl c31 ?_
     refine FW.skip (FW.seq (FW.region ?_))
     refine FL.v (E.assign (v:=Value.int .i64 0) rfl) ?_
     refine FL.nil ?_
     refine FW.ret ?_
     obtain rfl:=hp
     exact ⟨.inr rfl,res1 rfl rfl ⟨rfl,S26.back⟩⟩

end Go.Proofs
