/- Part of the walks and plain laws behind the claim: it proves helpers, under no condition beyond their own. -/
import Derived.Test.YtcnboephmehppaaGreatPcWk4
set_option linter.unusedVariables false
set_option maxRecDepth 100000
namespace Go.Proofs
open Go.Mr Go.Pu Go.PF Go.RowKit

@[reducible] def p_spec_l10Closure (Ha:GH) (wa:World) (r:zaH):Ending→World→Prop :=
 fun e w'=>∃ H':GH,∃ v0_0:Value,∃ v0_1:Value,∃ v0_2:Value,∃ v0_3:Value,∃ v0_4:Value,∃ v0_5:Value,e=.returned (Value.agg #[v0_0,v0_1,v0_2,v0_3,v0_4,v0_5])∧Run wa.heap.size Ha wa H' w'∧RSl H' (eL eI 1) 1 v0_0 r.list∧RSl (up wa.heap.size H') eI 1 v0_1 r.rounds∧RSl (up wa.heap.size H') eI 1 v0_2 r.left∧RSl (up wa.heap.size H') eI 1 v0_3 r.right∧RSl (up wa.heap.size H') eI 1 v0_4 r.pivots∧RSl H' (eL eI 1) 1 v0_5 r.sorted
set_option maxHeartbeats 4000000 in
theorem w_spec_l10Closure {Ha:GH} {wa:World} (hs:Sl Ha wa) (a0:Cnf) (v0_1:Value) (p0_1:RSl Ha (eL eI 1) 1 v0_1 a0.clauses) (a1:Int) {r:zaH} (hp:(PF.zda a0 a1)=some r) :
  Calls Tryz.prog 138 #[Value.agg #[Value.int .i64 a0.vars,v0_1],Value.int .i64 a1] wa (p_spec_l10Closure Ha wa r):=by
 unfold PF.zda at hp
 have S0:=St.init hs
 refine zah (N:=86) (args:=[Value.agg #[Value.int .i64 a0.vars,v0_1],Value.int .i64 a1]) Tryz.func138 rfl rfl rfl ?_
 refine FW.seq (FW.region ?_)
 obtain ⟨b21,w22,run23,S24⟩:=S0.box (P:=Tryz.prog) 26 [Value.int .i64 a0.vars,v0_1] (v:=Value.agg #[Value.int .i64 a0.vars,v0_1]) rfl (zaa rfl (zaa p0_1.one zad))
 refine FL.v (E.box rfl run23) ?_
 obtain ⟨H25,S26,i27,at28⟩:=S24.sealBox (i:=0) (l':=[]) rfl rfl
 have S33:=S26.nil 34 1
 have els34:Els (up wa.heap.size H25) (eL eI 1) 1 [] []:=Els.nil
 have S35:=S33.nil 3 1
 have els36:Els (up wa.heap.size H25) eI 1 [] []:=Els.nil
 have S37:=S35.nil 3 1
 have els38:Els (up wa.heap.size H25) eI 1 [] []:=Els.nil
 have S39:=S37.nil 3 1
 have els40:Els (up wa.heap.size H25) eI 1 [] []:=Els.nil
 have S41:=S39.nil 3 1
 have els42:Els (up wa.heap.size H25) eI 1 [] []:=Els.nil
 obtain ⟨b29,w30,run31,S32⟩:=S41.alloc (P:=Tryz.prog) 130 [Value.slice none 0 0,Value.slice none 0 0,Value.slice none 0 0,Value.slice none 0 0,Value.slice none 0 0,Value.slice none 0 0] Tryz.zeroValue130 rfl (zaa rfl (zaa rfl (zaa rfl (zaa rfl (zaa rfl (zaa rfl zad))))))
 refine FL.v (E.alloc run31) ?_
 refine FL.nil (FW.seq (FW.region ?_))
 refine FL.v (E.build (B0) (run_build _ 130 #[] #[Value.slice none 0 0,Value.slice none 0 0,Value.slice none 0 0,Value.slice none 0 0,Value.slice none 0 0,Value.slice none 0 0] (by rfl))) ?_
 obtain ⟨v43,w44,run45,S46⟩:=S32.buildSlice (P:=Tryz.prog) te24 [] (parts:=#[]) (cells:=[]) rfl zal zak zad (Nat.le_of_ble_eq_true rfl)
 have els47:Els (up wa.heap.size H25) (eL eI 1) 1 [] []:=Els.nil
 refine FL.v (E.buildSlice (B0) run45) ?_
 have S52:=S46.nil 34 1
 have els53:Els (up wa.heap.size H25) (eL eI 1) 1 [] []:=Els.nil
 have S54:=S52.nil 3 1
 have els55:Els (up wa.heap.size H25) eI 1 [] []:=Els.nil
 have S56:=S54.nil 3 1
 have els57:Els (up wa.heap.size H25) eI 1 [] []:=Els.nil
 have S58:=S56.nil 3 1
 have els59:Els (up wa.heap.size H25) eI 1 [] []:=Els.nil
 have S60:=S58.nil 3 1
 have els61:Els (up wa.heap.size H25) eI 1 [] []:=Els.nil
 obtain ⟨b48,w49,run50,S51⟩:=S60.alloc (P:=Tryz.prog) 130 [Value.slice none 0 0,Value.slice none 0 0,Value.slice none 0 0,Value.slice none 0 0,Value.slice none 0 0,Value.slice none 0 0] Tryz.zeroValue130 rfl (zaa rfl (zaa rfl (zaa rfl (zaa rfl (zaa rfl (zaa rfl zad))))))
 refine FL.v (E.alloc run50) ?_
 have S62:=S51.nil 34 1
 have els63:Els (up wa.heap.size H25) (eL eI 1) 1 [] []:=Els.nil
 have S64:=S62.nil 3 1
 have els65:Els (up wa.heap.size H25) eI 1 [] []:=Els.nil
 have S66:=S64.nil 3 1
 have els67:Els (up wa.heap.size H25) eI 1 [] []:=Els.nil
 have S68:=S66.nil 3 1
 have els69:Els (up wa.heap.size H25) eI 1 [] []:=Els.nil
 have S70:=S68.nil 3 1
 have els71:Els (up wa.heap.size H25) eI 1 [] []:=Els.nil
 obtain ⟨w72,run73,S74⟩:=S70.store0 (P:=Tryz.prog) (t:=130) (i:=5) (cs':=[(Value.slice none 0 0),(Value.slice none 0 0),(Value.slice none 0 0),(Value.slice none 0 0),(Value.slice none 0 0),Value.slice none 0 0]) (l':=[.row 3 1 (Value.slice none 0 0) 0 [],.row 3 1 (Value.slice none 0 0) 0 [],.row 3 1 (Value.slice none 0 0) 0 [],.row 3 1 (Value.slice none 0 0) 0 [],.row 34 1 (Value.slice none 0 0) 0 [],.box b48 130 [(Value.slice none 0 0),(Value.slice none 0 0),(Value.slice none 0 0),(Value.slice none 0 0),(Value.slice none 0 0),Value.slice none 0 0],.row 3 1 (Value.slice none 0 0) 0 [],.row 3 1 (Value.slice none 0 0) 0 [],.row 3 1 (Value.slice none 0 0) 0 [],.row 3 1 (Value.slice none 0 0) 0 [],.row 34 1 (Value.slice none 0 0) 0 [],.row 34 1 v43 0 [],.box b29 130 [(Value.slice none 0 0),(Value.slice none 0 0),(Value.slice none 0 0),(Value.slice none 0 0),(Value.slice none 0 0),Value.slice none 0 0],.row 3 1 (Value.slice none 0 0) 0 [],.row 3 1 (Value.slice none 0 0) 0 [],.row 3 1 (Value.slice none 0 0) 0 [],.row 3 1 (Value.slice none 0 0) 0 [],.row 34 1 (Value.slice none 0 0) 0 []]) (v:=Value.agg #[(Value.slice none 0 0),(Value.slice none 0 0),(Value.slice none 0 0),(Value.slice none 0 0),(Value.slice none 0 0),Value.slice none 0 0]) (c:=[(Value.slice none 0 0),(Value.slice none 0 0),(Value.slice none 0 0),(Value.slice none 0 0),(Value.slice none 0 0),Value.slice none 0 0]) rfl Tryz.sizeOf130 rfl rfl (zaa (Ln.one (S70.row_ln (i:=4) rfl)) (zaa (Ln.one (S70.row_ln (i:=3) rfl)) (zaa (Ln.one (S70.row_ln (i:=2) rfl)) (zaa (Ln.one (S70.row_ln (i:=1) rfl)) (zaa (Ln.one (S70.row_ln (i:=0) rfl)) (zaa rfl zad)))))) (Nat.le_of_ble_eq_true rfl) rfl rfl
 refine FL.act rfl rfl (E.store rfl rfl run73) ?_
 refine FL.v (E.assign (v:=v43) rfl) ?_
 refine FL.nil (FW.seq (FW.seq (FW.region ?_)))
 refine FL.v (E.assign (v:=Value.int .i64 0) rfl) ?_
 refine FL.nil ?_
 obtain ⟨H75,S76,i77,ns80,nv79⟩:=S74.sealRowN (i:=11) (l':=[.row 3 1 (Value.slice none 0 0) 0 [],.row 3 1 (Value.slice none 0 0) 0 [],.row 3 1 (Value.slice none 0 0) 0 [],.row 3 1 (Value.slice none 0 0) 0 [],.row 34 1 (Value.slice none 0 0) 0 [],.box b48 130 [(Value.slice none 0 0),(Value.slice none 0 0),(Value.slice none 0 0),(Value.slice none 0 0),(Value.slice none 0 0),Value.slice none 0 0],.row 3 1 (Value.slice none 0 0) 0 [],.row 3 1 (Value.slice none 0 0) 0 [],.row 3 1 (Value.slice none 0 0) 0 [],.row 3 1 (Value.slice none 0 0) 0 [],.row 34 1 (Value.slice none 0 0) 0 [],.box b29 130 [(Value.slice none 0 0),(Value.slice none 0 0),(Value.slice none 0 0),(Value.slice none 0 0),(Value.slice none 0 0),Value.slice none 0 0],.row 3 1 (Value.slice none 0 0) 0 [],.row 3 1 (Value.slice none 0 0) 0 [],.row 3 1 (Value.slice none 0 0) 0 [],.row 3 1 (Value.slice none 0 0) 0 [],.row 34 1 (Value.slice none 0 0) 0 []]) rfl els47 (show (bl []).Nodup from List.nodup_nil) (by decide) rfl
 have h78:=ns80.rsl
 obtain ⟨q81,hq,hp⟩:=bndR hp
 refine FW.block ?_
 refine FW.mono (FW.iter (S:=((List (List Int))×Int)) (X:=Empty) (fun (s81:((List (List Int))×Int)) f w=>∃ H:GH,∃ v82:Value,St Ha wa H w [.row 3 1 (Value.slice none 0 0) 0 [],.row 3 1 (Value.slice none 0 0) 0 [],.row 3 1 (Value.slice none 0 0) 0 [],.row 3 1 (Value.slice none 0 0) 0 [],.row 34 1 (Value.slice none 0 0) 0 [],.box b48 130 [(Value.slice none 0 0),(Value.slice none 0 0),(Value.slice none 0 0),(Value.slice none 0 0),(Value.slice none 0 0),Value.slice none 0 0],.box b29 130 [(Value.slice none 0 0),(Value.slice none 0 0),(Value.slice none 0 0),(Value.slice none 0 0),(Value.slice none 0 0),Value.slice none 0 0],.row 3 1 (Value.slice none 0 0) 0 [],.row 3 1 (Value.slice none 0 0) 0 [],.row 3 1 (Value.slice none 0 0) 0 [],.row 3 1 (Value.slice none 0 0) 0 [],.row 34 1 (Value.slice none 0 0) 0 []]∧Inc H75 H∧RSl H (eL eI 1) 1 v82 s81.1∧f 1=Value.int .i64 a1∧f 2=Value.pointer (some ⟨b21,0,none⟩)∧f 4=Value.pointer (some (⟨b29,0,none⟩:Addr))∧f 5=Value.pointer (some (⟨b48,0,none⟩:Addr))∧f 6=v82∧f 7=Value.int .i64 s81.2) (fun (q:Rs ((List (List Int))×Int) Empty) e f w=>match q with|.go s81=>e=Exit.exit 0∧(∃ H:GH,∃ v82:Value,St Ha wa H w [.row 3 1 (Value.slice none 0 0) 0 [],.row 3 1 (Value.slice none 0 0) 0 [],.row 3 1 (Value.slice none 0 0) 0 [],.row 3 1 (Value.slice none 0 0) 0 [],.row 34 1 (Value.slice none 0 0) 0 [],.box b48 130 [(Value.slice none 0 0),(Value.slice none 0 0),(Value.slice none 0 0),(Value.slice none 0 0),(Value.slice none 0 0),Value.slice none 0 0],.box b29 130 [(Value.slice none 0 0),(Value.slice none 0 0),(Value.slice none 0 0),(Value.slice none 0 0),(Value.slice none 0 0),Value.slice none 0 0],.row 3 1 (Value.slice none 0 0) 0 [],.row 3 1 (Value.slice none 0 0) 0 [],.row 3 1 (Value.slice none 0 0) 0 [],.row 3 1 (Value.slice none 0 0) 0 [],.row 34 1 (Value.slice none 0 0) 0 []]∧Inc H75 H∧RSl H (eL eI 1) 1 v82 s81.1∧f 1=Value.int .i64 a1∧f 2=Value.pointer (some ⟨b21,0,none⟩)∧f 4=Value.pointer (some (⟨b29,0,none⟩:Addr))∧f 5=Value.pointer (some (⟨b48,0,none⟩:Addr))∧f 6=v82)|.rt x=>x.elim) hq ⟨_,_,(S76.sel [0,1,2,3,4,5,11,12,13,14,15,16] (by decide) rfl),(Inc.rfl _),(h78.mono upI),rfl,rfl,rfl,rfl,rfl,rfl⟩ ?_) ?_
 ·
  clear hp hq
  rintro s81 fAI wAH ⟨HAE,v82,SAF,iAG,h83,kAJ,kAK,kAL,kAM,kAN,kAO⟩ oBy hp
  refine FW.seq (FW.seq (FW.region ?_))
  refine FL.v (E.move kAO) ?_
  refine FL.v (E.fieldAddr zan kAK) ?_
  refine FL.v (E.load rfl (zag Tryz.isAgg24 ((at28.mono (i77.tr iAG)).now SAF.sl) rfl)) ?_
  refine FL.v (E.lenP te24 rfl p0_1) ?_
  refine FL.v (E.lss rfl rfl) ?_
  refine FL.nil ?_
  rcases ifB hp with ⟨cAP,hp⟩|⟨cAP,hp⟩
  ·
   refine FW.condT rfl cAP ?_
   refine FW.skip (FW.seq (FW.block (FW.seq (FW.region ?_))))
   refine FL.v (E.fieldAddr zan kAK) ?_
   refine FL.v (E.load rfl (zag Tryz.isAgg24 ((at28.mono (i77.tr iAG)).now SAF.sl) rfl)) ?_
   refine FL.v (E.move kAO) ?_
   obtain ⟨xAW,hxAX,hp⟩:=bnd hp
   obtain ⟨pAQ,csAR,ptAS,lAT,atAU,relAV⟩:=p0_1.at hxAX
   obtain ⟨vAY,rfl,hAZ⟩:=zau relAV
   refine FL.v (E.indexAddr te24 rfl rfl ptAS) ?_
   refine FL.v (E.load rfl (zaf Tryz.isAgg34 ((atAU.mono ((i27.tr i77).tr iAG)).now SAF.sl) rfl)) ?_
   refine FL.v (E.lenP te34 rfl hAZ) ?_
   refine FL.v (E.move kAJ) ?_
   refine FL.v (E.leq rfl rfl) ?_
   refine FL.nil ?_
   rcases ifB hp with ⟨cB0,hp⟩|⟨cB0,hp⟩
   ·
    refine FW.condT rfl cB0 ?_
    refine FW.region ?_
    refine FL.v (E.move kAN) ?_
    refine FL.v (E.fieldAddr zan kAK) ?_
    refine FL.v (E.load rfl (zag Tryz.isAgg24 ((at28.mono (i77.tr iAG)).now SAF.sl) rfl)) ?_
    refine FL.v (E.move kAO) ?_
    obtain ⟨xB7,hxB8,hp⟩:=bnd hp
    obtain ⟨pB1,csB2,ptB3,lB4,atB5,relB6⟩:=p0_1.at hxB8
    obtain ⟨vB9,rfl,hBa⟩:=zau relB6
    refine FL.v (E.indexAddr te24 rfl rfl ptB3) ?_
    refine FL.v (E.load rfl (zaf Tryz.isAgg34 ((atB5.mono ((i27.tr i77).tr iAG)).now SAF.sl) rfl)) ?_
    obtain ⟨rBb,hrBc,hp⟩:=bnd hp
    refine FL.call rfl rfl rfl (E.call Tryz.call145 (A1 rfl)) (zaP SAF.sl vB9 xB7 (hBa.mono ((i27.tr i77).tr iAG)) hrBc) ?_
    rintro e wBe ⟨HBd,vBh,nBi,csBj,rfl,rBg,elsBk⟩
    refine ⟨_,rfl,?_⟩
    have elsBk:=elsBk.mono (up_le SAF.size)
    have SBf:=SAF.join (l':=[.row 3 1 vBh nBi csBj,.row 3 1 (Value.slice none 0 0) 0 [],.row 3 1 (Value.slice none 0 0) 0 [],.row 3 1 (Value.slice none 0 0) 0 [],.row 3 1 (Value.slice none 0 0) 0 [],.row 34 1 (Value.slice none 0 0) 0 [],.box b48 130 [(Value.slice none 0 0),(Value.slice none 0 0),(Value.slice none 0 0),(Value.slice none 0 0),(Value.slice none 0 0),Value.slice none 0 0],.box b29 130 [(Value.slice none 0 0),(Value.slice none 0 0),(Value.slice none 0 0),(Value.slice none 0 0),(Value.slice none 0 0),Value.slice none 0 0],.row 3 1 (Value.slice none 0 0) 0 [],.row 3 1 (Value.slice none 0 0) 0 [],.row 3 1 (Value.slice none 0 0) 0 [],.row 3 1 (Value.slice none 0 0) 0 [],.row 34 1 (Value.slice none 0 0) 0 []]) rBg rfl
    obtain ⟨HBl,SBm,iBn,hBo,nvBp⟩:=SBf.sealRowU (i:=0) (l':=[.row 3 1 (Value.slice none 0 0) 0 [],.row 3 1 (Value.slice none 0 0) 0 [],.row 3 1 (Value.slice none 0 0) 0 [],.row 3 1 (Value.slice none 0 0) 0 [],.row 34 1 (Value.slice none 0 0) 0 [],.box b48 130 [(Value.slice none 0 0),(Value.slice none 0 0),(Value.slice none 0 0),(Value.slice none 0 0),(Value.slice none 0 0),Value.slice none 0 0],.box b29 130 [(Value.slice none 0 0),(Value.slice none 0 0),(Value.slice none 0 0),(Value.slice none 0 0),(Value.slice none 0 0),Value.slice none 0 0],.row 3 1 (Value.slice none 0 0) 0 [],.row 3 1 (Value.slice none 0 0) 0 [],.row 3 1 (Value.slice none 0 0) 0 [],.row 3 1 (Value.slice none 0 0) 0 [],.row 34 1 (Value.slice none 0 0) 0 []]) rfl elsBk (by decide) rfl
    obtain ⟨rBq,hrBr,hp⟩:=bnd hp
    refine FL.call rfl rfl rfl (E.call Tryz.call121 (A2 rfl rfl)) (zdE SBm.sl v82 s81.1 (h83.mono (rBg.run.inc.tr iBn)) vBh rBb (hBo.mono upI) hrBr) ?_
    rintro e wBt ⟨HBs,vBw,rfl,rBv,hBx⟩
    refine ⟨_,rfl,?_⟩
    have SBu:=SBm.call rBv
    refine FL.v (E.assign (v:=vBw) rfl) ?_
    refine FL.nil (FW.region ?_)
    refine FL.v (E.move kAO) ?_
    refine FL.v (E.add rfl rfl) ?_
    refine FL.v (E.assign (v:=Value.int .i64 (wr (s81.2 + 1))) rfl) ?_
    refine FL.nil ?_
    obtain rfl:=Option.some.inj hp
    exact ⟨rfl,⟨_,_,SBu,(((iAG.tr rBg.run.inc).tr iBn).tr rBv.inc),hBx,kAJ,kAK,kAL,kAM,rfl,rfl⟩⟩
   ·
    refine FW.condF rfl cB0 ?_
    refine FW.skip (FW.region ?_)
    refine FL.v (E.move kAO) ?_
    refine FL.v (E.add rfl rfl) ?_
    refine FL.v (E.assign (v:=Value.int .i64 (wr (s81.2 + 1))) rfl) ?_
    refine FL.nil ?_
    obtain rfl:=Option.some.inj hp
    exact ⟨rfl,⟨_,_,SAF,iAG,h83,kAJ,kAK,kAL,kAM,kAN,rfl⟩⟩
  ·
   refine FW.condF rfl cAP ?_
   refine FW.exit ?_
   obtain rfl:=Option.some.inj hp
   exact ⟨nofun,rfl,⟨_,_,SAF,iAG,h83,kAJ,kAK,kAL,kAM,kAN⟩⟩
 ·
  clear hq
  intro e fBD wBC hD
  rcases q81 with s81|x81
  ·
   obtain ⟨rfl,hD⟩:=hD
   obtain ⟨HBz,v82,SBA,iBB,h83,kBE,kBF,kBG,kBH,kBI⟩:=hD
   replace hp:=el_go hp
   refine FW.seq (FW.seq (FW.region ?_))
   refine FL.v (E.assign (v:=Value.int .i64 0) rfl) ?_
   refine FL.nil ?_
   obtain ⟨qBK,hq,hp⟩:=bndR hp
   refine FW.block ?_
   refine FW.mono (FW.forL (S:=((List Int)×(List Int)×(List Int)×(List Int)×(List (List Int))×(List (List Int)))) (X:=Empty) (fun (iBK:Nat) (sBK:((List Int)×(List Int)×(List Int)×(List Int)×(List (List Int))×(List (List Int)))) f w=>∃ H:GH,∃ v84:Value,∃ n85:Nat,∃ cs86:List Value,∃ v88:Value,∃ n89:Nat,∃ cs90:List Value,∃ v92:Value,∃ n93:Nat,∃ cs94:List Value,∃ v96:Value,∃ n97:Nat,∃ cs98:List Value,∃ vA0:Value,∃ nA1:Nat,∃ csA2:List Value,∃ vA4:Value,St Ha wa H w [.row 3 1 v84 n85 cs86,.row 3 1 v88 n89 cs90,.row 3 1 v92 n93 cs94,.row 3 1 v96 n97 cs98,.row 34 1 vA0 nA1 csA2,.box b48 130 [vA0,v96,v92,v88,v84,vA4],.box b29 130 [(Value.slice none 0 0),(Value.slice none 0 0),(Value.slice none 0 0),(Value.slice none 0 0),(Value.slice none 0 0),Value.slice none 0 0],.row 3 1 (Value.slice none 0 0) 0 [],.row 3 1 (Value.slice none 0 0) 0 [],.row 3 1 (Value.slice none 0 0) 0 [],.row 3 1 (Value.slice none 0 0) 0 [],.row 34 1 (Value.slice none 0 0) 0 []]∧Inc HBz H∧Els (up wa.heap.size H) eI 1 cs86 sBK.1∧Els (up wa.heap.size H) eI 1 cs90 sBK.2.1∧Els (up wa.heap.size H) eI 1 cs94 sBK.2.2.1∧Els (up wa.heap.size H) eI 1 cs98 sBK.2.2.2.1∧Els H (eL eI 1) 1 csA2 sBK.2.2.2.2.1∧RSl H (eL eI 1) 1 vA4 sBK.2.2.2.2.2∧f 8=Value.int .i64 ((iBK:Nat):Int)∧f 1=Value.int .i64 a1∧f 2=Value.pointer (some ⟨b21,0,none⟩)∧f 4=Value.pointer (some (⟨b29,0,none⟩:Addr))∧f 5=Value.pointer (some (⟨b48,0,none⟩:Addr))∧f 6=v82) (fun (q:Rs ((List Int)×(List Int)×(List Int)×(List Int)×(List (List Int))×(List (List Int))) Empty) e f w=>match q with|.go sBK=>e=Exit.exit 2∧(∃ H:GH,∃ v84:Value,∃ n85:Nat,∃ cs86:List Value,∃ v88:Value,∃ n89:Nat,∃ cs90:List Value,∃ v92:Value,∃ n93:Nat,∃ cs94:List Value,∃ v96:Value,∃ n97:Nat,∃ cs98:List Value,∃ vA0:Value,∃ nA1:Nat,∃ csA2:List Value,∃ vA4:Value,St Ha wa H w [.row 3 1 v84 n85 cs86,.row 3 1 v88 n89 cs90,.row 3 1 v92 n93 cs94,.row 3 1 v96 n97 cs98,.row 34 1 vA0 nA1 csA2,.box b48 130 [vA0,v96,v92,v88,v84,vA4],.box b29 130 [(Value.slice none 0 0),(Value.slice none 0 0),(Value.slice none 0 0),(Value.slice none 0 0),(Value.slice none 0 0),Value.slice none 0 0],.row 3 1 (Value.slice none 0 0) 0 [],.row 3 1 (Value.slice none 0 0) 0 [],.row 3 1 (Value.slice none 0 0) 0 [],.row 3 1 (Value.slice none 0 0) 0 [],.row 34 1 (Value.slice none 0 0) 0 []]∧Inc HBz H∧Els (up wa.heap.size H) eI 1 cs86 sBK.1∧Els (up wa.heap.size H) eI 1 cs90 sBK.2.1∧Els (up wa.heap.size H) eI 1 cs94 sBK.2.2.1∧Els (up wa.heap.size H) eI 1 cs98 sBK.2.2.2.1∧Els H (eL eI 1) 1 csA2 sBK.2.2.2.2.1∧RSl H (eL eI 1) 1 vA4 sBK.2.2.2.2.2∧f 1=Value.int .i64 a1∧f 2=Value.pointer (some ⟨b21,0,none⟩)∧f 4=Value.pointer (some (⟨b29,0,none⟩:Addr))∧f 5=Value.pointer (some (⟨b48,0,none⟩:Addr))∧f 6=v82)|.rt x=>x.elim) hq ⟨_,_,_,_,_,_,_,_,_,_,_,_,_,_,_,_,_,SBA,(Inc.rfl _),(els71.mono (zae (i77.tr iBB))),(els69.mono (zae (i77.tr iBB))),(els67.mono (zae (i77.tr iBB))),(els65.mono (zae (i77.tr iBB))),(els63.mono (upI.tr (i77.tr iBB))),(RSl.nil _ _ _),rfl,kBE,kBF,kBG,kBH,kBI⟩ ?_ ?_) ?_
   ·
    clear hp hq
    rintro iBK yBJ sBK fAa wA9 ⟨HA6,v84,n85,cs86,v88,n89,cs90,v92,n93,cs94,v96,n97,cs98,vA0,nA1,csA2,vA4,SA7,iA8,els87,els91,els95,els99,elsA3,hA5,kAb,kAc,kAd,kAe,kAf,kAg⟩ hxBK oDo hp
    refine FW.seq (FW.seq (FW.region ?_))
    refine FL.v (E.move kAb) ?_
    refine FL.v (E.move kAg) ?_
    refine FL.v (E.lenP te24 rfl h83) ?_
    refine FL.v (E.lssT rfl rfl (zay hxBK)) ?_
    refine FL.nil ?_
    refine FW.condT rfl rfl ?_
    refine FW.skip (FW.seq (FW.block (FW.seq ?_)))
    obtain ⟨xsAy,hzAz,hp⟩:=bnd hp
    refine FW.drawB (Sl HA6) (fun f w=>∃ H:GH,∃ vBT:Value,∃ nBU:Nat,∃ csBV:List Value,∃ vBX:Value,St Ha wa H w [.row 3 1 v84 n85 cs86,.row 3 1 v88 n89 cs90,.row 3 1 v92 n93 cs94,.row 3 1 v96 n97 cs98,.row 34 1 vBT nBU csBV,.box b48 130 [vBT,v96,v92,v88,v84,vBX],.box b29 130 [(Value.slice none 0 0),(Value.slice none 0 0),(Value.slice none 0 0),(Value.slice none 0 0),(Value.slice none 0 0),Value.slice none 0 0],.row 3 1 (Value.slice none 0 0) 0 [],.row 3 1 (Value.slice none 0 0) 0 [],.row 3 1 (Value.slice none 0 0) 0 [],.row 3 1 (Value.slice none 0 0) 0 [],.row 34 1 (Value.slice none 0 0) 0 []]∧Inc HA6 H∧Els H (eL eI 1) 1 csBV xsAy∧RSl H (eL eI 1) 1 vBX sBK.2.2.2.2.2∧f 1=Value.int .i64 a1∧f 2=Value.pointer (some ⟨b21,0,none⟩)∧f 4=Value.pointer (some (⟨b29,0,none⟩:Addr))∧f 5=Value.pointer (some (⟨b48,0,none⟩:Addr))∧f 6=v82∧f 8=Value.int .i64 ((iBK:Nat):Int)) (by kernel_rfl) SA7.sl ?_ ?_
    ·
     intro wAh rAi
     have SAj:=SA7.call rAi
     refine FB.phase [9] (fun w=>WAt w (Addr.add ⟨b48,0,none⟩ 0) [vA0]) ?_
     refine FB.t (i:=0) (bs 10 1) rfl (SP.on ((SAj.box_now (i:=5) rfl).sub (j:=0) (n:=1) (c:=[vA0]) rfl) (SP.nil SAj.sl)) rfl (fun w' hw'=>(E.fieldAddr zbo kAf)) ?_
     refine FB.p (i:=1) (bs 10 3) 0 [7,8,9] rfl (SP.on ((SAj.box_now (i:=5) rfl).sub (j:=0) (n:=1) (c:=[vA0]) rfl) (SP.nil SAj.sl)) rfl rfl (fun w' hw'=>(E.load rfl (zaf Tryz.isAgg24 hw' rfl))) ?_
     refine FB.t (i:=2) (bs 10 7) rfl (SP.on ((SAj.box_now (i:=5) rfl).sub (j:=0) (n:=1) (c:=[vA0]) rfl) (SP.nil SAj.sl)) rfl (fun w' hw'=>(E.move kAg)) ?_
     refine FB.t (i:=3) (bs 10 15) rfl (SP.on ((SAj.box_now (i:=5) rfl).sub (j:=0) (n:=1) (c:=[vA0]) rfl) (SP.nil SAj.sl)) rfl (fun w' hw'=>(E.move kAb)) ?_
     obtain ⟨pAk,csAl,ptAm,lAn,atAo,relAp⟩:=h83.at (zap hxBK)
     obtain ⟨vAq,rfl,hAr⟩:=zau relAp
     refine FB.t (i:=4) (bs 10 31) rfl (SP.on ((SAj.box_now (i:=5) rfl).sub (j:=0) (n:=1) (c:=[vA0]) rfl) (SP.nil SAj.sl)) rfl (fun w' hw'=>(E.indexAddr te24 rfl rfl ptAm)) ?_
     refine FB.t (i:=5) (bs 10 63) rfl (SP.on ((SAj.box_now (i:=5) rfl).sub (j:=0) (n:=1) (c:=[vA0]) rfl) (SP.nil SAj.sl)) rfl (fun w' hw'=>(E.load rfl (zaf Tryz.isAgg34 ((atAo.mono iA8).now hw') rfl))) ?_
     refine FB.all1 (i:=6) (by kernel_rfl) ?_
     ·
      obtain ⟨vAs,wAt,runAv,SAw⟩:=SAj.buildSlice (P:=Tryz.prog) te24 [vAq] (parts:=#[(0,vAq)]) (cells:=[vAq]) rfl (zar (zaE hAr.cells) zal) (zaq hAr.cells zak) (zaa hAr.one zad) (Nat.le_of_ble_eq_true rfl)
      have elsAx:Els HA6 (eL eI 1) 1 [vAq] [yBJ]:=(Els.snoc (H:=HA6) (E:=(eL eI 1)) (k:=1) (c:=[vAq]) (x:=yBJ) Els.nil rfl ⟨_,rfl,(hAr.mono iA8)⟩)
      refine FC.val (l':=(bs 10 127)) rfl (by kernel_rfl) rfl rfl rfl (E.buildSlice (B1 rfl) runAv) ?_
      refine ⟨(SP.on ((SAw.box_now (i:=6) rfl).sub (j:=0) (n:=1) (c:=[vA0]) rfl) (SP.nil SAw.sl)),?_⟩
      refine FB.all1 (i:=7) (by kernel_rfl) ?_
      ·
       obtain ⟨vAA,wAD,nAB,csAC,runBL,SBM,elsBN,ceBO⟩:=SAw.appendO (P:=Tryz.prog) te24 (i:=5) (j:=0) rfl elsA3 rfl elsAx hzAz
       have SBM:St Ha wa HA6 wAD [.row 34 1 vAs 1 [vAq],.row 3 1 v84 n85 cs86,.row 3 1 v88 n89 cs90,.row 3 1 v92 n93 cs94,.row 3 1 v96 n97 cs98,.row 34 1 vAA nAB csAC,.box b48 130 [vA0,v96,v92,v88,v84,vA4],.box b29 130 [(Value.slice none 0 0),(Value.slice none 0 0),(Value.slice none 0 0),(Value.slice none 0 0),(Value.slice none 0 0),Value.slice none 0 0],.row 3 1 (Value.slice none 0 0) 0 [],.row 3 1 (Value.slice none 0 0) 0 [],.row 3 1 (Value.slice none 0 0) 0 [],.row 3 1 (Value.slice none 0 0) 0 [],.row 34 1 (Value.slice none 0 0) 0 []]:=SBM
       have SBP:St Ha wa HA6 wAD [.row 3 1 v84 n85 cs86,.row 3 1 v88 n89 cs90,.row 3 1 v92 n93 cs94,.row 3 1 v96 n97 cs98,.row 34 1 vAA nAB csAC,.box b48 130 [vA0,v96,v92,v88,v84,vA4],.box b29 130 [(Value.slice none 0 0),(Value.slice none 0 0),(Value.slice none 0 0),(Value.slice none 0 0),(Value.slice none 0 0),Value.slice none 0 0],.row 3 1 (Value.slice none 0 0) 0 [],.row 3 1 (Value.slice none 0 0) 0 [],.row 3 1 (Value.slice none 0 0) 0 [],.row 3 1 (Value.slice none 0 0) 0 [],.row 34 1 (Value.slice none 0 0) 0 []]:=SBM.drop 0
       refine FC.val (l':=(bs 10 255)) rfl (by kernel_rfl) rfl rfl rfl (E.append rfl rfl runBL) ?_
       refine ⟨(SP.on ((SBP.box_now (i:=5) rfl).sub (j:=0) (n:=1) (c:=[vA0]) rfl) (SP.nil SBP.sl)),?_⟩
       refine FB.t (i:=8) (bs 10 511) rfl (SP.on ((SBP.box_now (i:=5) rfl).sub (j:=0) (n:=1) (c:=[vA0]) rfl) (SP.nil SBP.sl)) rfl (fun w' hw'=>(E.fieldAddr zbo kAf)) ?_
       refine FB.all1 (i:=9) (by kernel_rfl) ?_
       ·
        obtain ⟨wBQ,runBR,SBS⟩:=SBP.store (P:=Tryz.prog) (t:=24) (i:=5) (j:=0) (cs':=[vAA,v96,v92,v88,v84,vA4]) (l':=[.row 3 1 v84 n85 cs86,.row 3 1 v88 n89 cs90,.row 3 1 v92 n93 cs94,.row 3 1 v96 n97 cs98,.row 34 1 vAA nAB csAC,.box b48 130 [vAA,v96,v92,v88,v84,vA4],.box b29 130 [(Value.slice none 0 0),(Value.slice none 0 0),(Value.slice none 0 0),(Value.slice none 0 0),(Value.slice none 0 0),Value.slice none 0 0],.row 3 1 (Value.slice none 0 0) 0 [],.row 3 1 (Value.slice none 0 0) 0 [],.row 3 1 (Value.slice none 0 0) 0 [],.row 3 1 (Value.slice none 0 0) 0 [],.row 34 1 (Value.slice none 0 0) 0 []]) (v:=vAA) (c:=[vAA]) rfl Tryz.sizeOf24 (Ln.cells (SBP.row_ln (i:=4) rfl)) rfl (zaa (Ln.one (SBP.row_ln (i:=4) rfl)) zad) (Nat.le_of_ble_eq_true rfl) rfl rfl
        refine FC.act (l':=(bs 10 1023)) rfl (by kernel_rfl) rfl rfl (E.store rfl rfl runBR) ?_
        refine ⟨(SP.o (SP.nil SBS.sl)),?_⟩
        exact FB.done (by kernel_rfl) ⟨_,_,_,_,_,SBS,(Inc.rfl _),elsBN,hA5,kAc,kAd,kAe,kAf,kAg,kAb⟩
    ·
     rintro fC3 wC2 ⟨HBZ,vBT,nBU,csBV,vBX,SC0,iC1,elsBW,hBY,kC4,kC5,kC6,kC7,kC8,kC9⟩
     refine FW.seq (FW.region ?_)
     refine FL.v (E.fieldAddr tf130_1 kC7) ?_
     refine FL.v (E.load rfl (zag Tryz.isAgg34 (SC0.box_now (i:=5) rfl) rfl)) ?_
     obtain ⟨vCa,wCb,runCc,SCd,elsCe⟩:=SC0.ints (P:=Tryz.prog) te34 (up wa.heap.size HBZ) 1 [0]
     refine FL.v (E.buildSlice (B1 rfl) runCc) ?_
     obtain ⟨xsCf,hzCg,hp⟩:=bnd hp
     obtain ⟨vCh,wCk,nCi,csCj,runCl,SCm,elsCn,ceCo⟩:=SCd.appendO (P:=Tryz.prog) te34 (i:=4) (j:=0) rfl (els99.mono (zae iC1)) rfl elsCe hzCg
     have SCm:St Ha wa HBZ wCk [.row 3 1 vCa 1 (iC [0]),.row 3 1 v84 n85 cs86,.row 3 1 v88 n89 cs90,.row 3 1 v92 n93 cs94,.row 3 1 vCh nCi csCj,.row 34 1 vBT nBU csBV,.box b48 130 [vBT,v96,v92,v88,v84,vBX],.box b29 130 [(Value.slice none 0 0),(Value.slice none 0 0),(Value.slice none 0 0),(Value.slice none 0 0),(Value.slice none 0 0),Value.slice none 0 0],.row 3 1 (Value.slice none 0 0) 0 [],.row 3 1 (Value.slice none 0 0) 0 [],.row 3 1 (Value.slice none 0 0) 0 [],.row 3 1 (Value.slice none 0 0) 0 [],.row 34 1 (Value.slice none 0 0) 0 []]:=SCm
     have SCp:St Ha wa HBZ wCk [.row 3 1 v84 n85 cs86,.row 3 1 v88 n89 cs90,.row 3 1 v92 n93 cs94,.row 3 1 vCh nCi csCj,.row 34 1 vBT nBU csBV,.box b48 130 [vBT,v96,v92,v88,v84,vBX],.box b29 130 [(Value.slice none 0 0),(Value.slice none 0 0),(Value.slice none 0 0),(Value.slice none 0 0),(Value.slice none 0 0),Value.slice none 0 0],.row 3 1 (Value.slice none 0 0) 0 [],.row 3 1 (Value.slice none 0 0) 0 [],.row 3 1 (Value.slice none 0 0) 0 [],.row 3 1 (Value.slice none 0 0) 0 [],.row 34 1 (Value.slice none 0 0) 0 []]:=SCm.drop 0
     refine FL.v (E.append rfl rfl runCl) ?_
     refine FL.v (E.fieldAddr tf130_1 kC7) ?_
     obtain ⟨wCq,runCr,SCs⟩:=SCp.store (P:=Tryz.prog) (t:=34) (i:=5) (j:=1) (cs':=[vBT,vCh,v92,v88,v84,vBX]) (l':=[.row 3 1 v84 n85 cs86,.row 3 1 v88 n89 cs90,.row 3 1 v92 n93 cs94,.row 3 1 vCh nCi csCj,.row 34 1 vBT nBU csBV,.box b48 130 [vBT,vCh,v92,v88,v84,vBX],.box b29 130 [(Value.slice none 0 0),(Value.slice none 0 0),(Value.slice none 0 0),(Value.slice none 0 0),(Value.slice none 0 0),Value.slice none 0 0],.row 3 1 (Value.slice none 0 0) 0 [],.row 3 1 (Value.slice none 0 0) 0 [],.row 3 1 (Value.slice none 0 0) 0 [],.row 3 1 (Value.slice none 0 0) 0 [],.row 34 1 (Value.slice none 0 0) 0 []]) (v:=vCh) (c:=[vCh]) rfl Tryz.sizeOf34 (Ln.cells (SCp.row_ln (i:=3) rfl)) rfl (zaa (Ln.one (SCp.row_ln (i:=3) rfl)) zad) (Nat.le_of_ble_eq_true rfl) rfl rfl
     refine FL.act rfl rfl (E.store rfl rfl runCr) ?_
     refine FL.nil (FW.seq (FW.region ?_))
     refine FL.v (E.fieldAddr zbp kC7) ?_
     refine FL.v (E.load rfl (zag Tryz.isAgg34 (SCs.box_now (i:=5) rfl) rfl)) ?_
     obtain ⟨vCt,wCu,runCv,SCw,elsCx⟩:=SCs.ints (P:=Tryz.prog) te34 (up wa.heap.size HBZ) 1 [(-1)]
     refine FL.v (E.buildSlice (B1 rfl) runCv) ?_
     obtain ⟨xsCy,hzCz,hp⟩:=bnd hp
     obtain ⟨vCA,wCD,nCB,csCC,runCE,SCF,elsCG,ceCH⟩:=SCw.appendO (P:=Tryz.prog) te34 (i:=3) (j:=0) rfl (els95.mono (zae iC1)) rfl elsCx hzCz
     have SCF:St Ha wa HBZ wCD [.row 3 1 vCt 1 (iC [(-1)]),.row 3 1 v84 n85 cs86,.row 3 1 v88 n89 cs90,.row 3 1 vCA nCB csCC,.row 3 1 vCh nCi csCj,.row 34 1 vBT nBU csBV,.box b48 130 [vBT,vCh,v92,v88,v84,vBX],.box b29 130 [(Value.slice none 0 0),(Value.slice none 0 0),(Value.slice none 0 0),(Value.slice none 0 0),(Value.slice none 0 0),Value.slice none 0 0],.row 3 1 (Value.slice none 0 0) 0 [],.row 3 1 (Value.slice none 0 0) 0 [],.row 3 1 (Value.slice none 0 0) 0 [],.row 3 1 (Value.slice none 0 0) 0 [],.row 34 1 (Value.slice none 0 0) 0 []]:=SCF
     have SCI:St Ha wa HBZ wCD [.row 3 1 v84 n85 cs86,.row 3 1 v88 n89 cs90,.row 3 1 vCA nCB csCC,.row 3 1 vCh nCi csCj,.row 34 1 vBT nBU csBV,.box b48 130 [vBT,vCh,v92,v88,v84,vBX],.box b29 130 [(Value.slice none 0 0),(Value.slice none 0 0),(Value.slice none 0 0),(Value.slice none 0 0),(Value.slice none 0 0),Value.slice none 0 0],.row 3 1 (Value.slice none 0 0) 0 [],.row 3 1 (Value.slice none 0 0) 0 [],.row 3 1 (Value.slice none 0 0) 0 [],.row 3 1 (Value.slice none 0 0) 0 [],.row 34 1 (Value.slice none 0 0) 0 []]:=SCF.drop 0
     refine FL.v (E.append rfl rfl runCE) ?_
     refine FL.v (E.fieldAddr zbp kC7) ?_
     obtain ⟨wCJ,runCK,SCL⟩:=SCI.store (P:=Tryz.prog) (t:=34) (i:=5) (j:=2) (cs':=[vBT,vCh,vCA,v88,v84,vBX]) (l':=[.row 3 1 v84 n85 cs86,.row 3 1 v88 n89 cs90,.row 3 1 vCA nCB csCC,.row 3 1 vCh nCi csCj,.row 34 1 vBT nBU csBV,.box b48 130 [vBT,vCh,vCA,v88,v84,vBX],.box b29 130 [(Value.slice none 0 0),(Value.slice none 0 0),(Value.slice none 0 0),(Value.slice none 0 0),(Value.slice none 0 0),Value.slice none 0 0],.row 3 1 (Value.slice none 0 0) 0 [],.row 3 1 (Value.slice none 0 0) 0 [],.row 3 1 (Value.slice none 0 0) 0 [],.row 3 1 (Value.slice none 0 0) 0 [],.row 34 1 (Value.slice none 0 0) 0 []]) (v:=vCA) (c:=[vCA]) rfl Tryz.sizeOf34 (Ln.cells (SCI.row_ln (i:=2) rfl)) rfl (zaa (Ln.one (SCI.row_ln (i:=2) rfl)) zad) (Nat.le_of_ble_eq_true rfl) rfl rfl
     refine FL.act rfl rfl (E.store rfl rfl runCK) ?_
     refine FL.nil (FW.seq (FW.region ?_))
     refine FL.v (E.fieldAddr zbq kC7) ?_
     refine FL.v (E.load rfl (zag Tryz.isAgg34 (SCL.box_now (i:=5) rfl) rfl)) ?_
     obtain ⟨vCM,wCN,runCO,SCP,elsCQ⟩:=SCL.ints (P:=Tryz.prog) te34 (up wa.heap.size HBZ) 1 [(-1)]
     refine FL.v (E.buildSlice (B1 rfl) runCO) ?_
     obtain ⟨xsCR,hzCS,hp⟩:=bnd hp
     obtain ⟨vCT,wCW,nCU,csCV,runCX,SCY,elsCZ,ceD0⟩:=SCP.appendO (P:=Tryz.prog) te34 (i:=2) (j:=0) rfl (els91.mono (zae iC1)) rfl elsCQ hzCS
     have SCY:St Ha wa HBZ wCW [.row 3 1 vCM 1 (iC [(-1)]),.row 3 1 v84 n85 cs86,.row 3 1 vCT nCU csCV,.row 3 1 vCA nCB csCC,.row 3 1 vCh nCi csCj,.row 34 1 vBT nBU csBV,.box b48 130 [vBT,vCh,vCA,v88,v84,vBX],.box b29 130 [(Value.slice none 0 0),(Value.slice none 0 0),(Value.slice none 0 0),(Value.slice none 0 0),(Value.slice none 0 0),Value.slice none 0 0],.row 3 1 (Value.slice none 0 0) 0 [],.row 3 1 (Value.slice none 0 0) 0 [],.row 3 1 (Value.slice none 0 0) 0 [],.row 3 1 (Value.slice none 0 0) 0 [],.row 34 1 (Value.slice none 0 0) 0 []]:=SCY
     have SD1:St Ha wa HBZ wCW [.row 3 1 v84 n85 cs86,.row 3 1 vCT nCU csCV,.row 3 1 vCA nCB csCC,.row 3 1 vCh nCi csCj,.row 34 1 vBT nBU csBV,.box b48 130 [vBT,vCh,vCA,v88,v84,vBX],.box b29 130 [(Value.slice none 0 0),(Value.slice none 0 0),(Value.slice none 0 0),(Value.slice none 0 0),(Value.slice none 0 0),Value.slice none 0 0],.row 3 1 (Value.slice none 0 0) 0 [],.row 3 1 (Value.slice none 0 0) 0 [],.row 3 1 (Value.slice none 0 0) 0 [],.row 3 1 (Value.slice none 0 0) 0 [],.row 34 1 (Value.slice none 0 0) 0 []]:=SCY.drop 0
     refine FL.v (E.append rfl rfl runCX) ?_
     refine FL.v (E.fieldAddr zbq kC7) ?_
     obtain ⟨wD2,runD3,SD4⟩:=SD1.store (P:=Tryz.prog) (t:=34) (i:=5) (j:=3) (cs':=[vBT,vCh,vCA,vCT,v84,vBX]) (l':=[.row 3 1 v84 n85 cs86,.row 3 1 vCT nCU csCV,.row 3 1 vCA nCB csCC,.row 3 1 vCh nCi csCj,.row 34 1 vBT nBU csBV,.box b48 130 [vBT,vCh,vCA,vCT,v84,vBX],.box b29 130 [(Value.slice none 0 0),(Value.slice none 0 0),(Value.slice none 0 0),(Value.slice none 0 0),(Value.slice none 0 0),Value.slice none 0 0],.row 3 1 (Value.slice none 0 0) 0 [],.row 3 1 (Value.slice none 0 0) 0 [],.row 3 1 (Value.slice none 0 0) 0 [],.row 3 1 (Value.slice none 0 0) 0 [],.row 34 1 (Value.slice none 0 0) 0 []]) (v:=vCT) (c:=[vCT]) rfl Tryz.sizeOf34 (Ln.cells (SD1.row_ln (i:=1) rfl)) rfl (zaa (Ln.one (SD1.row_ln (i:=1) rfl)) zad) (Nat.le_of_ble_eq_true rfl) rfl rfl
     refine FL.act rfl rfl (E.store rfl rfl runD3) ?_
     refine FL.nil (FW.region ?_)
     refine FL.v (E.fieldAddr zbr kC7) ?_
     refine FL.v (E.load rfl (zag Tryz.isAgg34 (SD4.box_now (i:=5) rfl) rfl)) ?_
     obtain ⟨vD5,wD6,runD7,SD8,elsD9⟩:=SD4.ints (P:=Tryz.prog) te34 (up wa.heap.size HBZ) 1 [0]
     refine FL.v (E.buildSlice (B1 rfl) runD7) ?_
     obtain ⟨xsDa,hzDb,hp⟩:=bnd hp
     obtain ⟨vDc,wDf,nDd,csDe,runDg,SDh,elsDi,ceDj⟩:=SD8.appendO (P:=Tryz.prog) te34 (i:=1) (j:=0) rfl (els87.mono (zae iC1)) rfl elsD9 hzDb
     have SDh:St Ha wa HBZ wDf [.row 3 1 vD5 1 (iC [0]),.row 3 1 vDc nDd csDe,.row 3 1 vCT nCU csCV,.row 3 1 vCA nCB csCC,.row 3 1 vCh nCi csCj,.row 34 1 vBT nBU csBV,.box b48 130 [vBT,vCh,vCA,vCT,v84,vBX],.box b29 130 [(Value.slice none 0 0),(Value.slice none 0 0),(Value.slice none 0 0),(Value.slice none 0 0),(Value.slice none 0 0),Value.slice none 0 0],.row 3 1 (Value.slice none 0 0) 0 [],.row 3 1 (Value.slice none 0 0) 0 [],.row 3 1 (Value.slice none 0 0) 0 [],.row 3 1 (Value.slice none 0 0) 0 [],.row 34 1 (Value.slice none 0 0) 0 []]:=SDh
     have SDk:St Ha wa HBZ wDf [.row 3 1 vDc nDd csDe,.row 3 1 vCT nCU csCV,.row 3 1 vCA nCB csCC,.row 3 1 vCh nCi csCj,.row 34 1 vBT nBU csBV,.box b48 130 [vBT,vCh,vCA,vCT,v84,vBX],.box b29 130 [(Value.slice none 0 0),(Value.slice none 0 0),(Value.slice none 0 0),(Value.slice none 0 0),(Value.slice none 0 0),Value.slice none 0 0],.row 3 1 (Value.slice none 0 0) 0 [],.row 3 1 (Value.slice none 0 0) 0 [],.row 3 1 (Value.slice none 0 0) 0 [],.row 3 1 (Value.slice none 0 0) 0 [],.row 34 1 (Value.slice none 0 0) 0 []]:=SDh.drop 0
     refine FL.v (E.append rfl rfl runDg) ?_
     refine FL.v (E.fieldAddr zbr kC7) ?_
     obtain ⟨wDl,runDm,SDn⟩:=SDk.store (P:=Tryz.prog) (t:=34) (i:=5) (j:=4) (cs':=[vBT,vCh,vCA,vCT,vDc,vBX]) (l':=[.row 3 1 vDc nDd csDe,.row 3 1 vCT nCU csCV,.row 3 1 vCA nCB csCC,.row 3 1 vCh nCi csCj,.row 34 1 vBT nBU csBV,.box b48 130 [vBT,vCh,vCA,vCT,vDc,vBX],.box b29 130 [(Value.slice none 0 0),(Value.slice none 0 0),(Value.slice none 0 0),(Value.slice none 0 0),(Value.slice none 0 0),Value.slice none 0 0],.row 3 1 (Value.slice none 0 0) 0 [],.row 3 1 (Value.slice none 0 0) 0 [],.row 3 1 (Value.slice none 0 0) 0 [],.row 3 1 (Value.slice none 0 0) 0 [],.row 34 1 (Value.slice none 0 0) 0 []]) (v:=vDc) (c:=[vDc]) rfl Tryz.sizeOf34 (Ln.cells (SDk.row_ln (i:=0) rfl)) rfl (zaa (Ln.one (SDk.row_ln (i:=0) rfl)) zad) (Nat.le_of_ble_eq_true rfl) rfl rfl
     refine FL.act rfl rfl (E.store rfl rfl runDm) ?_
     refine FL.nil (FW.region ?_)
     refine FL.v (E.move kC9) ?_
     refine FL.v (E.add rfl rfl) ?_
     refine FL.v (E.assign (v:=Value.int .i64 (wr (((iBK:Nat):Int) + 1))) rfl) ?_
     refine FL.nil ?_
     obtain rfl:=Option.some.inj hp
     exact ⟨rfl,⟨_,_,_,_,_,_,_,_,_,_,_,_,_,_,_,_,_,SDn,(iA8.tr iC1),elsDi,elsCZ,elsCG,elsCn,elsBW,hBY,(zas rfl (zao hxBK) (h83.mono (iA8.tr iC1)).le),kC4,kC5,kC6,kC7,kC8⟩⟩
   ·
    clear hp hq
    rintro sBK fFr wFq ⟨HFn,v84,n85,cs86,v88,n89,cs90,v92,n93,cs94,v96,n97,cs98,vA0,nA1,csA2,vA4,SFo,iFp,els87,els91,els95,els99,elsA3,hA5,kFs,kFt,kFu,kFv,kFw,kFx⟩
    refine FW.seq (FW.seq (FW.region ?_))
    refine FL.v (E.move kFs) ?_
    refine FL.v (E.move kFx) ?_
    refine FL.v (E.lenP te24 rfl h83) ?_
    refine FL.v (E.lss rfl rfl) ?_
    refine FL.nil ?_
    refine FW.condF rfl zaz ?_
    refine FW.exit ?_
    exact ⟨nofun,rfl,⟨_,_,_,_,_,_,_,_,_,_,_,_,_,_,_,_,_,SFo,iFp,els87,els91,els95,els99,elsA3,hA5,kFt,kFu,kFv,kFw,kFx⟩⟩
   ·
    clear hq
    intro e fDt wDs hD
    rcases qBK with sBK|xBK
    ·
     obtain ⟨rfl,hD⟩:=hD
     obtain ⟨HDp,v84,n85,cs86,v88,n89,cs90,v92,n93,cs94,v96,n97,cs98,vA0,nA1,csA2,vA4,SDq,iDr,els87,els91,els95,els99,elsA3,hA5,kDu,kDv,kDw,kDx,kDy⟩:=hD
     replace hp:=el_go hp
     refine FW.seq (FW.region ?_)
     refine FL.v (E.move kDy) ?_
     refine FL.v (E.fieldAddr za8 kDx) ?_
     obtain ⟨wDz,runDA,SDB⟩:=SDq.store (P:=Tryz.prog) (t:=24) (i:=5) (j:=5) (cs':=[vA0,v96,v92,v88,v84,v82]) (l':=[.row 3 1 v84 n85 cs86,.row 3 1 v88 n89 cs90,.row 3 1 v92 n93 cs94,.row 3 1 v96 n97 cs98,.row 34 1 vA0 nA1 csA2,.box b48 130 [vA0,v96,v92,v88,v84,v82],.box b29 130 [(Value.slice none 0 0),(Value.slice none 0 0),(Value.slice none 0 0),(Value.slice none 0 0),(Value.slice none 0 0),Value.slice none 0 0],.row 3 1 (Value.slice none 0 0) 0 [],.row 3 1 (Value.slice none 0 0) 0 [],.row 3 1 (Value.slice none 0 0) 0 [],.row 3 1 (Value.slice none 0 0) 0 [],.row 34 1 (Value.slice none 0 0) 0 []]) (v:=v82) (c:=[v82]) rfl Tryz.sizeOf24 h83.cells rfl (zaa h83.one zad) (Nat.le_of_ble_eq_true rfl) rfl rfl
     refine FL.act rfl rfl (E.store rfl rfl runDA) ?_
     refine FL.nil (FW.seq (FW.seq (FW.region ?_)))
     refine FL.v (E.assign (v:=Value.int .i64 1) rfl) ?_
     refine FL.v (E.assign (v:=Value.bool true) rfl) ?_
     refine FL.nil ?_
     obtain ⟨qDC,hq,hp⟩:=bndR hp
     refine FW.block ?_
     refine FW.mono (FW.iter (S:=((List Int)×(List Int)×(List Int)×(List Int)×(List (List Int))×(List (List Int))×Int×Bool)) (X:=Empty) (fun (sDC:((List Int)×(List Int)×(List Int)×(List Int)×(List (List Int))×(List (List Int))×Int×Bool)) f w=>∃ H:GH,∃ vDD:Value,∃ nDE:Nat,∃ csDF:List Value,∃ vDH:Value,∃ nDI:Nat,∃ csDJ:List Value,∃ vDL:Value,∃ nDM:Nat,∃ csDN:List Value,∃ vDP:Value,∃ nDQ:Nat,∃ csDR:List Value,∃ vDT:Value,∃ nDU:Nat,∃ csDV:List Value,∃ vDX:Value,St Ha wa H w [.row 3 1 vDD nDE csDF,.row 3 1 vDH nDI csDJ,.row 3 1 vDL nDM csDN,.row 3 1 vDP nDQ csDR,.row 34 1 vDT nDU csDV,.box b48 130 [vDT,vDP,vDL,vDH,vDD,vDX],.box b29 130 [(Value.slice none 0 0),(Value.slice none 0 0),(Value.slice none 0 0),(Value.slice none 0 0),(Value.slice none 0 0),Value.slice none 0 0],.row 3 1 (Value.slice none 0 0) 0 [],.row 3 1 (Value.slice none 0 0) 0 [],.row 3 1 (Value.slice none 0 0) 0 [],.row 3 1 (Value.slice none 0 0) 0 [],.row 34 1 (Value.slice none 0 0) 0 []]∧Inc HDp H∧Els (up wa.heap.size H) eI 1 csDF sDC.1∧Els (up wa.heap.size H) eI 1 csDJ sDC.2.1∧Els (up wa.heap.size H) eI 1 csDN sDC.2.2.1∧Els (up wa.heap.size H) eI 1 csDR sDC.2.2.2.1∧Els H (eL eI 1) 1 csDV sDC.2.2.2.2.1∧RSl H (eL eI 1) 1 vDX sDC.2.2.2.2.2.1∧f 1=Value.int .i64 a1∧f 2=Value.pointer (some ⟨b21,0,none⟩)∧f 4=Value.pointer (some (⟨b29,0,none⟩:Addr))∧f 5=Value.pointer (some (⟨b48,0,none⟩:Addr))∧f 9=Value.int .i64 sDC.2.2.2.2.2.2.1∧f 10=Value.bool sDC.2.2.2.2.2.2.2) (fun (q:Rs ((List Int)×(List Int)×(List Int)×(List Int)×(List (List Int))×(List (List Int))×Int×Bool) Empty) e f w=>match q with|.go sDC=>e=Exit.exit 4∧(∃ H:GH,∃ vDD:Value,∃ nDE:Nat,∃ csDF:List Value,∃ vDH:Value,∃ nDI:Nat,∃ csDJ:List Value,∃ vDL:Value,∃ nDM:Nat,∃ csDN:List Value,∃ vDP:Value,∃ nDQ:Nat,∃ csDR:List Value,∃ vDT:Value,∃ nDU:Nat,∃ csDV:List Value,∃ vDX:Value,St Ha wa H w [.row 3 1 vDD nDE csDF,.row 3 1 vDH nDI csDJ,.row 3 1 vDL nDM csDN,.row 3 1 vDP nDQ csDR,.row 34 1 vDT nDU csDV,.box b48 130 [vDT,vDP,vDL,vDH,vDD,vDX],.box b29 130 [(Value.slice none 0 0),(Value.slice none 0 0),(Value.slice none 0 0),(Value.slice none 0 0),(Value.slice none 0 0),Value.slice none 0 0],.row 3 1 (Value.slice none 0 0) 0 [],.row 3 1 (Value.slice none 0 0) 0 [],.row 3 1 (Value.slice none 0 0) 0 [],.row 3 1 (Value.slice none 0 0) 0 [],.row 34 1 (Value.slice none 0 0) 0 []]∧Inc HDp H∧Els (up wa.heap.size H) eI 1 csDF sDC.1∧Els (up wa.heap.size H) eI 1 csDJ sDC.2.1∧Els (up wa.heap.size H) eI 1 csDN sDC.2.2.1∧Els (up wa.heap.size H) eI 1 csDR sDC.2.2.2.1∧Els H (eL eI 1) 1 csDV sDC.2.2.2.2.1∧RSl H (eL eI 1) 1 vDX sDC.2.2.2.2.2.1∧f 4=Value.pointer (some (⟨b29,0,none⟩:Addr))∧f 5=Value.pointer (some (⟨b48,0,none⟩:Addr)))|.rt x=>x.elim) hq ⟨_,_,_,_,_,_,_,_,_,_,_,_,_,_,_,_,_,SDB,(Inc.rfl _),els87,els91,els95,els99,elsA3,(h83.mono iDr),kDu,kDv,kDw,kDx,rfl,rfl⟩ ?_) ?_
     ·
      clear hp hq
      rintro sDC fE3 wE2 ⟨HDZ,vDD,nDE,csDF,vDH,nDI,csDJ,vDL,nDM,csDN,vDP,nDQ,csDR,vDT,nDU,csDV,vDX,SE0,iE1,elsDG,elsDK,elsDO,elsDS,elsDW,hDY,kE4,kE5,kE6,kE7,kE8,kE9⟩ oEK hp
      refine FW.seq (FW.seq (FW.region ?_))
      refine FL.v (E.move kE9) ?_
      refine FL.nil ?_
      rcases ifB hp with ⟨cEa,hp⟩|⟨cEa,hp⟩
      ·
       refine FW.condT rfl cEa ?_
       refine FW.skip (FW.seq (FW.block (FW.region ?_)))
       refine FL.v (E.fieldAddr zax kE5) ?_
       refine FL.v (E.load rfl (zag Tryz.isAgg3 ((at28.mono (((i77.tr iBB).tr iDr).tr iE1)).now SE0.sl) rfl)) ?_
       refine FL.v (E.load kE7 (zat Tryz.isAgg130 Tryz.sizeOf130 (SE0.box_now (i:=5) rfl) rfl)) ?_
       refine FL.v (E.move kE4) ?_
       refine FL.v (E.move kE8) ?_
       obtain ⟨rEb,hrEc,hp⟩:=bnd hp
       have SEd:St Ha wa HDZ wE2 [.row 3 1 vDH nDI csDJ,.row 3 1 vDD nDE csDF,.row 3 1 vDL nDM csDN,.row 3 1 vDP nDQ csDR,.row 34 1 vDT nDU csDV,.box b48 130 [vDT,vDP,vDL,vDH,vDD,vDX],.box b29 130 [(Value.slice none 0 0),(Value.slice none 0 0),(Value.slice none 0 0),(Value.slice none 0 0),(Value.slice none 0 0),Value.slice none 0 0],.row 3 1 (Value.slice none 0 0) 0 [],.row 3 1 (Value.slice none 0 0) 0 [],.row 3 1 (Value.slice none 0 0) 0 [],.row 3 1 (Value.slice none 0 0) 0 [],.row 34 1 (Value.slice none 0 0) 0 []]:=SE0.front 1 rfl rfl
       have SEe:St Ha wa HDZ wE2 [.row 3 1 vDL nDM csDN,.row 3 1 vDH nDI csDJ,.row 3 1 vDD nDE csDF,.row 3 1 vDP nDQ csDR,.row 34 1 vDT nDU csDV,.box b48 130 [vDT,vDP,vDL,vDH,vDD,vDX],.box b29 130 [(Value.slice none 0 0),(Value.slice none 0 0),(Value.slice none 0 0),(Value.slice none 0 0),(Value.slice none 0 0),Value.slice none 0 0],.row 3 1 (Value.slice none 0 0) 0 [],.row 3 1 (Value.slice none 0 0) 0 [],.row 3 1 (Value.slice none 0 0) 0 [],.row 3 1 (Value.slice none 0 0) 0 [],.row 34 1 (Value.slice none 0 0) 0 []]:=SEd.front 2 rfl rfl
       have SEf:St Ha wa HDZ wE2 [.row 3 1 vDP nDQ csDR,.row 3 1 vDL nDM csDN,.row 3 1 vDH nDI csDJ,.row 3 1 vDD nDE csDF,.row 34 1 vDT nDU csDV,.box b48 130 [vDT,vDP,vDL,vDH,vDD,vDX],.box b29 130 [(Value.slice none 0 0),(Value.slice none 0 0),(Value.slice none 0 0),(Value.slice none 0 0),(Value.slice none 0 0),Value.slice none 0 0],.row 3 1 (Value.slice none 0 0) 0 [],.row 3 1 (Value.slice none 0 0) 0 [],.row 3 1 (Value.slice none 0 0) 0 [],.row 3 1 (Value.slice none 0 0) 0 [],.row 34 1 (Value.slice none 0 0) 0 []]:=SEe.front 3 rfl rfl
       have SEg:St Ha wa HDZ wE2 [.row 34 1 vDT nDU csDV,.row 3 1 vDP nDQ csDR,.row 3 1 vDL nDM csDN,.row 3 1 vDH nDI csDJ,.row 3 1 vDD nDE csDF,.box b48 130 [vDT,vDP,vDL,vDH,vDD,vDX],.box b29 130 [(Value.slice none 0 0),(Value.slice none 0 0),(Value.slice none 0 0),(Value.slice none 0 0),(Value.slice none 0 0),Value.slice none 0 0],.row 3 1 (Value.slice none 0 0) 0 [],.row 3 1 (Value.slice none 0 0) 0 [],.row 3 1 (Value.slice none 0 0) 0 [],.row 3 1 (Value.slice none 0 0) 0 [],.row 34 1 (Value.slice none 0 0) 0 []]:=SEf.front 4 rfl rfl
       refine FL.call rfl rfl rfl (E.call Tryz.call204 (A4 rfl rfl rfl rfl)) (w_spec_l10Round (L:=[.box b48 130 [vDT,vDP,vDL,vDH,vDD,vDX],.box b29 130 [(Value.slice none 0 0),(Value.slice none 0 0),(Value.slice none 0 0),(Value.slice none 0 0),(Value.slice none 0 0),Value.slice none 0 0],.row 3 1 (Value.slice none 0 0) 0 [],.row 3 1 (Value.slice none 0 0) 0 [],.row 3 1 (Value.slice none 0 0) 0 [],.row 3 1 (Value.slice none 0 0) 0 [],.row 34 1 (Value.slice none 0 0) 0 []]) SEg a0.vars (a1:=(zaH.mk sDC.2.2.2.2.1 sDC.2.2.2.1 sDC.2.2.1 sDC.2.1 sDC.1 sDC.2.2.2.2.2.1)) elsDW elsDS elsDO elsDK elsDG hDY a1 sDC.2.2.2.2.2.2.1 hrEc) ?_
       rintro e wEi ⟨HEh,vEl,nEm,csEn,vEp,nEq,csEr,vEt,nEu,csEv,vEx,nEy,csEz,vEB,nEC,csED,vEF,rfl,⟨SEj,iEk⟩,elsEo,elsEs,elsEw,elsEA,elsEE,hEG⟩
       refine ⟨_,rfl,?_⟩
       have SEj:St Ha wa HEh wEi [.row 34 1 vEl nEm csEn,.row 3 1 vEp nEq csEr,.row 3 1 vEt nEu csEv,.row 3 1 vEx nEy csEz,.row 3 1 vEB nEC csED,.box b48 130 [vDT,vDP,vDL,vDH,vDD,vDX],.box b29 130 [(Value.slice none 0 0),(Value.slice none 0 0),(Value.slice none 0 0),(Value.slice none 0 0),(Value.slice none 0 0),Value.slice none 0 0],.row 3 1 (Value.slice none 0 0) 0 [],.row 3 1 (Value.slice none 0 0) 0 [],.row 3 1 (Value.slice none 0 0) 0 [],.row 3 1 (Value.slice none 0 0) 0 [],.row 34 1 (Value.slice none 0 0) 0 []]:=SEj
       refine FL.v (E.move (v:=Value.tuple #[Value.agg #[vEl,vEp,vEt,vEx,vEB,vEF],Value.bool rEb.2]) rfl) ?_
       refine FL.v (E.extract (i:=0) rfl rfl) ?_
       refine FL.v (E.extract (i:=1) rfl rfl) ?_
       obtain ⟨wEH,runEI,SEJ⟩:=SEj.store0 (P:=Tryz.prog) (t:=130) (i:=5) (cs':=[vEl,vEp,vEt,vEx,vEB,vEF]) (l':=[.row 34 1 vEl nEm csEn,.row 3 1 vEp nEq csEr,.row 3 1 vEt nEu csEv,.row 3 1 vEx nEy csEz,.row 3 1 vEB nEC csED,.box b48 130 [vEl,vEp,vEt,vEx,vEB,vEF],.box b29 130 [(Value.slice none 0 0),(Value.slice none 0 0),(Value.slice none 0 0),(Value.slice none 0 0),(Value.slice none 0 0),Value.slice none 0 0],.row 3 1 (Value.slice none 0 0) 0 [],.row 3 1 (Value.slice none 0 0) 0 [],.row 3 1 (Value.slice none 0 0) 0 [],.row 3 1 (Value.slice none 0 0) 0 [],.row 34 1 (Value.slice none 0 0) 0 []]) (v:=Value.agg #[vEl,vEp,vEt,vEx,vEB,vEF]) (c:=[vEl,vEp,vEt,vEx,vEB,vEF]) rfl Tryz.sizeOf130 rfl rfl (zaa (Ln.one (SEj.row_ln (i:=0) rfl)) (zaa (Ln.one (SEj.row_ln (i:=1) rfl)) (zaa (Ln.one (SEj.row_ln (i:=2) rfl)) (zaa (Ln.one (SEj.row_ln (i:=3) rfl)) (zaa (Ln.one (SEj.row_ln (i:=4) rfl)) (zaa hEG.one zad)))))) (Nat.le_of_ble_eq_true rfl) rfl rfl
       refine FL.act rfl rfl (E.store kE7 rfl runEI) ?_
       refine FL.v (E.assign (v:=Value.bool rEb.2) rfl) ?_
       refine FL.nil (FW.region ?_)
       refine FL.v (E.move kE8) ?_
       refine FL.v (E.add rfl rfl) ?_
       refine FL.v (E.assign (v:=Value.int .i64 (wr (sDC.2.2.2.2.2.2.1 + 1))) rfl) ?_
       refine FL.nil ?_
       obtain rfl:=Option.some.inj hp
       exact ⟨rfl,⟨_,_,_,_,_,_,_,_,_,_,_,_,_,_,_,_,_,(SEJ.sel [4,3,2,1,0,5,6,7,8,9,10,11] (by decide) rfl),(iE1.tr iEk),elsEE,elsEA,elsEw,elsEs,elsEo,hEG,kE4,kE5,kE6,kE7,rfl,rfl⟩⟩
      ·
       refine FW.condF rfl cEa ?_
       refine FW.exit ?_
       obtain rfl:=Option.some.inj hp
       exact ⟨nofun,rfl,⟨_,_,_,_,_,_,_,_,_,_,_,_,_,_,_,_,_,SE0,iE1,elsDG,elsDK,elsDO,elsDS,elsDW,hDY,kE6,kE7⟩⟩
     ·
      clear hq
      intro e fEP wEO hD
      rcases qDC with sDC|xDC
      ·
       obtain ⟨rfl,hD⟩:=hD
       obtain ⟨HEL,vDD,nDE,csDF,vDH,nDI,csDJ,vDL,nDM,csDN,vDP,nDQ,csDR,vDT,nDU,csDV,vDX,SEM,iEN,elsDG,elsDK,elsDO,elsDS,elsDW,hDY,kEQ,kER⟩:=hD
       replace hp:=el_go hp
       refine FW.seq (FW.region ?_)
       refine FL.v (E.load kER (zat Tryz.isAgg130 Tryz.sizeOf130 (SEM.box_now (i:=5) rfl) rfl)) ?_
       obtain ⟨wES,runET,SEU⟩:=SEM.store0 (P:=Tryz.prog) (t:=130) (i:=6) (cs':=[vDT,vDP,vDL,vDH,vDD,vDX]) (l':=[.row 3 1 vDD nDE csDF,.row 3 1 vDH nDI csDJ,.row 3 1 vDL nDM csDN,.row 3 1 vDP nDQ csDR,.row 34 1 vDT nDU csDV,.box b48 130 [vDT,vDP,vDL,vDH,vDD,vDX],.box b29 130 [vDT,vDP,vDL,vDH,vDD,vDX],.row 3 1 (Value.slice none 0 0) 0 [],.row 3 1 (Value.slice none 0 0) 0 [],.row 3 1 (Value.slice none 0 0) 0 [],.row 3 1 (Value.slice none 0 0) 0 [],.row 34 1 (Value.slice none 0 0) 0 []]) (v:=Value.agg #[vDT,vDP,vDL,vDH,vDD,vDX]) (c:=[vDT,vDP,vDL,vDH,vDD,vDX]) rfl Tryz.sizeOf130 rfl rfl (zaa (Ln.one (SEM.row_ln (i:=4) rfl)) (zaa (Ln.one (SEM.row_ln (i:=3) rfl)) (zaa (Ln.one (SEM.row_ln (i:=2) rfl)) (zaa (Ln.one (SEM.row_ln (i:=1) rfl)) (zaa (Ln.one (SEM.row_ln (i:=0) rfl)) (zaa hDY.one zad)))))) (Nat.le_of_ble_eq_true rfl) rfl rfl
       refine FL.act rfl rfl (E.store kEQ rfl runET) ?_
       obtain ⟨HEV,SEW,iEX,hEY⟩:=SEU.sealRow (i:=4) (l':=[.row 3 1 vDD nDE csDF,.row 3 1 vDH nDI csDJ,.row 3 1 vDL nDM csDN,.row 3 1 vDP nDQ csDR,.box b48 130 [vDT,vDP,vDL,vDH,vDD,vDX],.box b29 130 [vDT,vDP,vDL,vDH,vDD,vDX],.row 3 1 (Value.slice none 0 0) 0 [],.row 3 1 (Value.slice none 0 0) 0 [],.row 3 1 (Value.slice none 0 0) 0 [],.row 3 1 (Value.slice none 0 0) 0 [],.row 34 1 (Value.slice none 0 0) 0 []]) rfl elsDW (by decide) rfl
       obtain ⟨HEZ,SF0,iF1,hF2,nvF3⟩:=SEW.sealRowU (i:=3) (l':=[.row 3 1 vDD nDE csDF,.row 3 1 vDH nDI csDJ,.row 3 1 vDL nDM csDN,.box b48 130 [vDT,vDP,vDL,vDH,vDD,vDX],.box b29 130 [vDT,vDP,vDL,vDH,vDD,vDX],.row 3 1 (Value.slice none 0 0) 0 [],.row 3 1 (Value.slice none 0 0) 0 [],.row 3 1 (Value.slice none 0 0) 0 [],.row 3 1 (Value.slice none 0 0) 0 [],.row 34 1 (Value.slice none 0 0) 0 []]) rfl (elsDS.mono (zae iEX)) (by decide) rfl
       obtain ⟨HF4,SF5,iF6,hF7,nvF8⟩:=SF0.sealRowU (i:=2) (l':=[.row 3 1 vDD nDE csDF,.row 3 1 vDH nDI csDJ,.box b48 130 [vDT,vDP,vDL,vDH,vDD,vDX],.box b29 130 [vDT,vDP,vDL,vDH,vDD,vDX],.row 3 1 (Value.slice none 0 0) 0 [],.row 3 1 (Value.slice none 0 0) 0 [],.row 3 1 (Value.slice none 0 0) 0 [],.row 3 1 (Value.slice none 0 0) 0 [],.row 34 1 (Value.slice none 0 0) 0 []]) rfl (elsDO.mono (zae (iEX.tr iF1))) (by decide) rfl
       obtain ⟨HF9,SFa,iFb,hFc,nvFd⟩:=SF5.sealRowU (i:=1) (l':=[.row 3 1 vDD nDE csDF,.box b48 130 [vDT,vDP,vDL,vDH,vDD,vDX],.box b29 130 [vDT,vDP,vDL,vDH,vDD,vDX],.row 3 1 (Value.slice none 0 0) 0 [],.row 3 1 (Value.slice none 0 0) 0 [],.row 3 1 (Value.slice none 0 0) 0 [],.row 3 1 (Value.slice none 0 0) 0 [],.row 34 1 (Value.slice none 0 0) 0 []]) rfl (elsDK.mono (zae ((iEX.tr iF1).tr iF6))) (by decide) rfl
       obtain ⟨HFe,SFf,iFg,hFh,nvFi⟩:=SFa.sealRowU (i:=0) (l':=[.box b48 130 [vDT,vDP,vDL,vDH,vDD,vDX],.box b29 130 [vDT,vDP,vDL,vDH,vDD,vDX],.row 3 1 (Value.slice none 0 0) 0 [],.row 3 1 (Value.slice none 0 0) 0 [],.row 3 1 (Value.slice none 0 0) 0 [],.row 3 1 (Value.slice none 0 0) 0 [],.row 34 1 (Value.slice none 0 0) 0 []]) rfl (elsDG.mono (zae (((iEX.tr iF1).tr iF6).tr iFb))) (by decide) rfl
       obtain ⟨HFj,SFk,iFl,atFm⟩:=SFf.sealBox (i:=1) (l':=[.box b48 130 [vDT,vDP,vDL,vDH,vDD,vDX],.row 3 1 (Value.slice none 0 0) 0 [],.row 3 1 (Value.slice none 0 0) 0 [],.row 3 1 (Value.slice none 0 0) 0 [],.row 3 1 (Value.slice none 0 0) 0 [],.row 34 1 (Value.slice none 0 0) 0 []]) rfl rfl
       refine FL.nil ?_
       refine FW.ret ?_
       obtain rfl:=Option.some.inj hp
       exact ⟨.inr rfl,resC rfl kEQ (zaA Tryz.isAgg130 Tryz.sizeOf130 (atFm.now SFk.sl) rfl) ⟨_,_,_,_,_,_,_,rfl,SFk.run,(hEY.mono ((((iF1.tr iF6).tr iFb).tr iFg).tr iFl)),(hF2.mono (zae (((iF6.tr iFb).tr iFg).tr iFl))),(hF7.mono (zae ((iFb.tr iFg).tr iFl))),(hFc.mono (zae (iFg.tr iFl))),(hFh.mono (zae iFl)),(hDY.mono (((((iEX.tr iF1).tr iF6).tr iFb).tr iFg).tr iFl))⟩⟩
      ·
       exact xDC.elim
    ·
     exact xBK.elim
  ·
   exact x81.elim

@[reducible] def p_spec_l10Minimal (Ha:GH) (wa:World) (r:(List (List Int))):Ending→World→Prop :=
 fun e w'=>∃ H':GH,∃ v0:Value,∃ n0:Nat,∃ c0:List Value,e=.returned (v0)∧St Ha wa H' w' [.row 34 1 v0 n0 c0]∧Els (up wa.heap.size H') (eL eI 1) 1 c0 r∧(bl c0).Nodup
set_option maxHeartbeats 4000000 in
theorem w_spec_l10Minimal {Ha:GH} {wa:World} (hs:Sl Ha wa) (v0:Value) (a0:List (List Int)) (p0:RSl Ha (eL eI 1) 1 v0 a0) {r:(List (List Int))} (hp:(PF.zdb a0)=some r) :
  Calls Tryz.prog 137 #[v0] wa (p_spec_l10Minimal Ha wa r):=by
 unfold PF.zdb at hp
 have S0:=St.init hs
 refine zah (N:=43) (args:=[v0]) Tryz.func137 rfl rfl rfl ?_
 refine FW.seq (FW.region ?_)
 refine FL.v (E.assign (v:=Value.slice none 0 0) rfl) ?_
 refine FL.nil (FW.seq (FW.region ?_))
 obtain ⟨v21,w22,run23,S24⟩:=S0.buildSlice (P:=Tryz.prog) te24 [] (parts:=#[]) (cells:=[]) rfl zal zak zad (Nat.le_of_ble_eq_true rfl)
 have els25:Els (up wa.heap.size Ha) (eL eI 1) 1 [] []:=Els.nil
 refine FL.v (E.buildSlice (B0) run23) ?_
 refine FL.v (E.assign (v:=v21) rfl) ?_
 refine FL.nil (FW.seq (FW.seq (FW.region ?_)))
 refine FL.v (E.assign (v:=Value.int .i64 0) rfl) ?_
 refine FL.nil ?_
 obtain ⟨q27,hq,hp⟩:=bndR hp
 refine FW.block ?_
 refine FW.mono (FW.forL (S:=(List (List Int))) (X:=Empty) (fun (i27:Nat) (s27:(List (List Int))) f w=>∃ H:GH,∃ v28:Value,∃ n29:Nat,∃ cs30:List Value,St Ha wa H w [.row 34 1 v28 n29 cs30]∧Inc Ha H∧Els (up wa.heap.size H) (eL eI 1) 1 cs30 s27∧(bl cs30).Nodup∧f 4=Value.int .i64 ((i27:Nat):Int)∧f 0=v0∧f 3=v28) (fun (q:Rs (List (List Int)) Empty) e f w=>match q with|.go s27=>e=Exit.exit 0∧(∃ H:GH,∃ v28:Value,∃ n29:Nat,∃ cs30:List Value,St Ha wa H w [.row 34 1 v28 n29 cs30]∧Inc Ha H∧Els (up wa.heap.size H) (eL eI 1) 1 cs30 s27∧(bl cs30).Nodup∧f 3=v28)|.rt x=>x.elim) hq ⟨_,_,_,_,S24,(Inc.rfl _),els25,(show (bl []).Nodup from List.nodup_nil),rfl,rfl,rfl⟩ ?_ ?_) ?_
 ·
  clear hp hq
  rintro i27 y26 s27 fAT wAS ⟨HAP,v28,n29,cs30,SAQ,iAR,els31,nd32,kAU,kAV,kAW⟩ hx27 oDm hp
  refine FW.seq (FW.seq (FW.region ?_))
  refine FL.v (E.move kAU) ?_
  refine FL.v (E.move kAV) ?_
  refine FL.v (E.lenP te24 rfl p0) ?_
  refine FL.v (E.lssT rfl rfl (zay hx27)) ?_
  refine FL.nil ?_
  refine FW.condT rfl rfl ?_
  refine FW.skip (FW.seq (FW.block (FW.seq (FW.region ?_))))
  refine FL.v (E.assign (v:=Value.bool true) rfl) ?_
  refine FL.nil (FW.seq (FW.seq (FW.region ?_)))
  refine FL.v (E.assign (v:=Value.int .i64 0) rfl) ?_
  refine FL.nil ?_
  obtain ⟨qAX,hq,hp⟩:=bndR hp
  refine FW.block ?_
  refine FW.mono (FW.iter (S:=(Bool×Int)) (X:=Empty) (fun (sAX:(Bool×Int)) f w=>∃ H:GH,St Ha wa H w [.row 34 1 v28 n29 cs30]∧Inc HAP H∧f 0=v0∧f 3=v28∧f 4=Value.int .i64 ((i27:Nat):Int)∧f 5=Value.bool sAX.1∧f 6=Value.int .i64 sAX.2) (fun (q:Rs (Bool×Int) Empty) e f w=>match q with|.go sAX=>e=Exit.exit 2∧(∃ H:GH,St Ha wa H w [.row 34 1 v28 n29 cs30]∧Inc HAP H∧f 0=v0∧f 3=v28∧f 4=Value.int .i64 ((i27:Nat):Int)∧f 5=Value.bool sAX.1)|.rt x=>x.elim) hq ⟨_,SAQ,(Inc.rfl _),kAV,kAW,kAU,rfl,rfl⟩ ?_) ?_
  ·
   clear hp hq
   rintro sAX fBO wBN ⟨HBK,SBL,iBM,kBP,kBQ,kBR,kBS,kBT⟩ oCw hp
   refine FW.seq (FW.seq (FW.region ?_))
   refine FL.v (E.move kBT) ?_
   refine FL.v (E.move kBQ) ?_
   refine FL.v (E.lenO te24 rfl SBL (i:=0) rfl els31 (by decide)) ?_
   refine FL.v (E.lss rfl rfl) ?_
   refine FL.v (E.move (v:=Value.bool (decide (sAX.2 < (len s27)))) rfl) ?_
   refine FL.cut 2 (fun f w=>∃ H:GH,St Ha wa H w [.row 34 1 v28 n29 cs30]∧Inc HBK H∧f 0=v0∧f 3=v28∧f 4=Value.int .i64 ((i27:Nat):Int)∧f 5=Value.bool sAX.1∧f 6=Value.int .i64 sAX.2∧f 20=Value.bool (bif (decide (sAX.2 < (len s27))) then sAX.1 else false)) ?_ ?_
   ·
    rcases bcase (decide (sAX.2 < (len s27))) with cC0|cC0
    ·
     refine FL.val (zac rfl rfl rfl cC0) rfl rfl (E.move kBS) ?_
     refine FL.v (E.pickT rfl cC0 rfl) ?_
     exact FL.nil ⟨rfl,_,SBL,(Inc.rfl _),kBP,kBQ,kBR,kBS,kBT,(congrArg Value.bool (bifT cC0).symm)⟩
    ·
     refine FL.skip (wF_no rfl rfl rfl cC0) rfl ?_
     refine FL.v (E.pickF rfl cC0 rfl) ?_
     exact FL.nil ⟨rfl,_,SBL,(Inc.rfl _),kBP,kBQ,kBR,kBS,kBT,(congrArg Value.bool (bifF cC0).symm)⟩
   rintro fBZ wBY ⟨HBV,SBW,iBX,kC1,kC2,kC3,kC4,kC5,kC6⟩
   refine FL.nil ?_
   rcases ifB hp with ⟨cC7,hp⟩|⟨cC7,hp⟩
   ·
    refine FW.condT kC6 cC7 ?_
    refine FW.skip (FW.seq (FW.block ?_))
    refine FW.draw (fun w'=>Run wBY.heap.size HBV wBY HBV w') (by kernel_rfl) (by kernel_rfl) (zaD SBW.sl) ?_
    refine FD.val rfl rfl rfl (fun w' hw'=>(E.move kC2)) ?_
    refine FD.val rfl rfl rfl (fun w' hw'=>(E.move kC5)) ?_
    obtain ⟨xCf,hxCg,hp⟩:=bnd hp
    obtain ⟨pC9,csCa,ptCb,lCc,atCd,relCe⟩:=SBW.row_at (i:=0) rfl els31 (by decide) hxCg
    obtain ⟨vCh,rfl,hCi⟩:=zau relCe
    refine FD.val rfl rfl rfl (fun w' hw'=>(E.indexAddr te24 rfl rfl ptCb)) ?_
    refine FD.val rfl rfl rfl (fun w' hw'=>(E.load rfl (zaf Tryz.isAgg34 (atCd.cls hw') rfl))) ?_
    refine FD.val rfl rfl rfl (fun w' hw'=>(E.move kC1)) ?_
    refine FD.val rfl rfl rfl (fun w' hw'=>(E.move kC3)) ?_
    obtain ⟨pCj,csCk,ptCl,lCm,atCn,relCo⟩:=p0.at (zap hx27)
    obtain ⟨vCp,rfl,hCq⟩:=zau relCo
    refine FD.val rfl rfl rfl (fun w' hw'=>(E.indexAddr te24 rfl rfl ptCl)) ?_
    refine FD.val rfl rfl rfl (fun w' hw'=>(E.load rfl (zaf Tryz.isAgg34 ((atCn.mono ((iAR.tr iBM).tr iBX)).now (SBW.call hw').sl) rfl))) ?_
    obtain ⟨rCr,hrCs,hp⟩:=bnd hp
    refine FD.call rfl rfl rfl (fun w' hw'=>(E.call Tryz.call59 (A2 rfl rfl))) (fun w' hw'=>Calls.cls hw' (w_spec_l2Sub (SBW.call hw').sl vCh xCf (hCi.mono (upI.tr (iBM.tr iBX))) vCp y26 (hCq.mono ((iAR.tr iBM).tr iBX)) hrCs)) ?_
    refine FD.val rfl rfl rfl (fun w' hw'=>(E.not rfl)) ?_
    refine FD.val rfl rfl rfl (fun w' hw'=>(E.assign (v:=Value.bool (!rCr)) rfl)) ?_
    refine FD.nil ?_
    intro wCt rCv
    have SCu:=SBW.call rCv
    refine FW.region ?_
    refine FL.v (E.move kC5) ?_
    refine FL.v (E.add rfl rfl) ?_
    refine FL.v (E.assign (v:=Value.int .i64 (wr (sAX.2 + 1))) rfl) ?_
    refine FL.nil ?_
    obtain rfl:=Option.some.inj hp
    exact ⟨rfl,⟨_,SCu,(iBM.tr iBX),kC1,kC2,kC3,rfl,rfl⟩⟩
   ·
    refine FW.condF kC6 cC7 ?_
    refine FW.exit ?_
    obtain rfl:=Option.some.inj hp
    exact ⟨nofun,rfl,⟨_,SBW,(iBM.tr iBX),kC1,kC2,kC3,kC4⟩⟩
  ·
   clear hq
   intro e fCB wCA hD
   rcases qAX with sAX|xAX
   ·
    obtain ⟨rfl,hD⟩:=hD
    obtain ⟨HCx,SCy,iCz,kCC,kCD,kCE,kCF⟩:=hD
    replace hp:=el_go hp
    refine FW.seq (FW.region ?_)
    refine FL.v (E.move kCF) ?_
    refine FL.nil ?_
    rcases ifB hp with ⟨cCG,hp⟩|⟨cCG,hp⟩
    ·
     refine FW.condT rfl cCG ?_
     refine FW.region ?_
     refine FL.v (E.move kCD) ?_
     refine FL.v (E.move kCC) ?_
     refine FL.v (E.move kCE) ?_
     obtain ⟨pCH,csCI,ptCJ,lCK,atCL,relCM⟩:=p0.at (zap hx27)
     obtain ⟨vCN,rfl,hCO⟩:=zau relCM
     refine FL.v (E.indexAddr te24 rfl rfl ptCJ) ?_
     refine FL.v (E.load rfl (zaf Tryz.isAgg34 ((atCL.mono (iAR.tr iCz)).now SCy.sl) rfl)) ?_
     obtain ⟨rCP,hrCQ,hp⟩:=bnd hp
     refine FL.call rfl rfl rfl (E.call Tryz.call145 (A1 rfl)) (zaP SCy.sl vCN y26 (hCO.mono (iAR.tr iCz)) hrCQ) ?_
     rintro e wCS ⟨HCR,vCV,nCW,csCX,rfl,rCU,elsCY⟩
     refine ⟨_,rfl,?_⟩
     have elsCY:=elsCY.mono (up_le SCy.size)
     have SCT:=SCy.join (l':=[.row 3 1 vCV nCW csCX,.row 34 1 v28 n29 cs30]) rCU rfl
     obtain ⟨HCZ,SD0,iD1,h288,nvD3⟩:=SCT.sealRowU (i:=0) (l':=[.row 34 1 v28 n29 cs30]) rfl elsCY (by decide) rfl
     obtain ⟨vD4,wD5,runD6,SD7⟩:=SD0.buildSlice (P:=Tryz.prog) te24 [vCV] (parts:=#[(0,vCV)]) (cells:=[vCV]) rfl (zar (zaE h288.cells) zal) (zaq h288.cells zak) (zaa h288.one zad) (Nat.le_of_ble_eq_true rfl)
     have elsD8:Els (up wa.heap.size HCZ) (eL eI 1) 1 [vCV] [rCP]:=(Els.snoc (H:=(up wa.heap.size HCZ)) (E:=(eL eI 1)) (k:=1) (c:=[vCV]) (x:=rCP) Els.nil rfl ⟨_,rfl,h288⟩)
     have ndD9:(bl [vCV]).Nodup:=by exact za3 vCV
     refine FL.v (E.buildSlice (B1 rfl) runD6) ?_
     obtain ⟨xsDa,hzDb,hp⟩:=bnd hp
     obtain ⟨vDc,wDf,nDd,csDe,runDg,SDh,elsDi,ceDj⟩:=SD7.appendO (P:=Tryz.prog) te24 (i:=1) (j:=0) rfl (els31.mono (zae ((iCz.tr rCU.run.inc).tr iD1))) rfl elsD8 hzDb
     have SDh:St Ha wa HCZ wDf [.row 34 1 vD4 1 [vCV],.row 34 1 vDc nDd csDe]:=SDh
     have ndDk:(bl csDe).Nodup:=by rw [ceDj];exact zba nd32 ndD9 (Els.dom (els31.mono (upI.tr (iCz.tr rCU.run.inc)))) (by exact nvD3)
     have SDl:St Ha wa HCZ wDf [.row 34 1 vDc nDd csDe]:=SDh.drop 0
     refine FL.v (E.append rfl rfl runDg) ?_
     refine FL.v (E.assign (v:=vDc) rfl) ?_
     refine FL.nil (FW.region ?_)
     refine FL.v (E.move kCE) ?_
     refine FL.v (E.add rfl rfl) ?_
     refine FL.v (E.assign (v:=Value.int .i64 (wr (((i27:Nat):Int) + 1))) rfl) ?_
     refine FL.nil ?_
     obtain rfl:=Option.some.inj hp
     exact ⟨rfl,⟨_,_,_,_,SDl,(((iAR.tr iCz).tr rCU.run.inc).tr iD1),elsDi,ndDk,(zas rfl (zao hx27) (p0.mono (((iAR.tr iCz).tr rCU.run.inc).tr iD1)).le),kCC,rfl⟩⟩
    ·
     refine FW.condF rfl cCG ?_
     refine FW.skip (FW.region ?_)
     refine FL.v (E.move kCE) ?_
     refine FL.v (E.add rfl rfl) ?_
     refine FL.v (E.assign (v:=Value.int .i64 (wr (((i27:Nat):Int) + 1))) rfl) ?_
     refine FL.nil ?_
     obtain rfl:=Option.some.inj hp
     exact ⟨rfl,⟨_,_,_,_,SCy,(iAR.tr iCz),(els31.mono (zae iCz)),nd32,(zas rfl (zao hx27) (p0.mono (iAR.tr iCz)).le),kCC,kCD⟩⟩
   ·
    exact xAX.elim
 ·
  clear hp hq
  rintro s27 fDx wDw ⟨HDt,v28,n29,cs30,SDu,iDv,els31,nd32,kDy,kDz,kDA⟩
  refine FW.seq (FW.seq (FW.region ?_))
  refine FL.v (E.move kDy) ?_
  refine FL.v (E.move kDz) ?_
  refine FL.v (E.lenP te24 rfl p0) ?_
  refine FL.v (E.lss rfl rfl) ?_
  refine FL.nil ?_
  refine FW.condF rfl zaz ?_
  refine FW.exit ?_
  exact ⟨nofun,rfl,⟨_,_,_,_,SDu,iDv,els31,nd32,kDA⟩⟩
 ·
  clear hq
  intro e fDr wDq hD
  rcases q27 with s27|x27
  ·
   obtain ⟨rfl,hD⟩:=hD
   obtain ⟨HDn,v28,n29,cs30,SDo,iDp,els31,nd32,kDs⟩:=hD
   replace hp:=el_go hp
   refine FW.seq (FW.region ?_)
   refine FL.v (E.move kDs) ?_
   refine FL.v (E.assign (v:=v28) rfl) ?_
   refine FL.nil ?_
   refine FW.ret ?_
   obtain rfl:=Option.some.inj hp
   exact ⟨.inr rfl,res1 rfl rfl ⟨_,_,_,_,rfl,SDo,els31,nd32⟩⟩
  ·
   exact x27.elim

@[reducible] def ze3 (Ha:GH) (wa:World) (r:((List (List Int))×Bool)):Ending→World→Prop :=
 fun e w'=>∃ H':GH,∃ v0:Value,∃ n0:Nat,∃ c0:List Value,e=.returned (Value.tuple #[v0,Value.bool r.2])∧St Ha wa H' w' [.row 34 1 v0 n0 c0]∧Els (up wa.heap.size H') (eL eI 1) 1 c0 r.1∧(bl c0).Nodup
theorem ze4 {Ha:GH} {wa:World} (hs:Sl Ha wa) (a0:Cnf) (v0_1:Value) (p0_1:RSl Ha (eL eI 1) 1 v0_1 a0.clauses) (a1:Int) {r:((List (List Int))×Bool)} (hp:(PF.zdx a0 a1)=some r) :
  Calls Tryz.prog 65 #[Value.agg #[Value.int .i64 a0.vars,v0_1],Value.int .i64 a1] wa (ze3 Ha wa r):=by
 unfold PF.zdx at hp
 have S0:=St.init hs
 refine zah (N:=20) (args:=[Value.agg #[Value.int .i64 a0.vars,v0_1],Value.int .i64 a1]) Tryz.func65 rfl rfl rfl ?_
 refine FW.seq (FW.region ?_)
 obtain ⟨b21,w22,run23,S24⟩:=S0.box (P:=Tryz.prog) 26 [Value.int .i64 a0.vars,v0_1] (v:=Value.agg #[Value.int .i64 a0.vars,v0_1]) rfl (zaa rfl (zaa p0_1.one zad))
 refine FL.v (E.box rfl run23) ?_
 obtain ⟨H25,S26,i27,at28⟩:=S24.sealBox (i:=0) (l':=[]) rfl rfl
 refine FL.v (E.assign (v:=Value.slice none 0 0) rfl) ?_
 refine FL.v (E.assign (v:=Value.bool false) rfl) ?_
 refine FL.nil (FW.seq (FW.seq (FW.region ?_)))
 refine FL.v (E.load rfl (zat Tryz.isAgg26 Tryz.sizeOf26 (at28.now S26.sl) rfl)) ?_
 obtain ⟨r29,hr30,hp⟩:=bnd hp
 refine FL.call rfl rfl rfl (E.call Tryz.call104 (A1 rfl)) (w_spec_l10Good S26.sl a0 v0_1 (p0_1.mono i27) hr30) ?_
 rintro e w31 ⟨rfl,r32⟩
 refine ⟨_,rfl,?_⟩
 have S33:=S26.call r32
 refine FL.v (E.not rfl) ?_
 refine FL.v (E.move (v:=Value.bool (!r29)) rfl) ?_
 refine FL.cut 4 (fun f w=>∃ H:GH,St Ha wa H w []∧Inc H25 H∧f 1=Value.int .i64 a1∧f 2=Value.pointer (some ⟨b21,0,none⟩)∧f 13=Value.bool (bif (!r29) then true else (!(PF.zcr a1)))) ?_ ?_
 ·
  rcases bcase (!r29) with c43|c43
  ·
   refine FL.skip (wF_no rfl rfl rfl c43) rfl ?_
   refine FL.skip (wF_no rfl rfl rfl c43) rfl ?_
   refine FL.skip (wF_no rfl rfl rfl c43) rfl ?_
   refine FL.v (E.pickT rfl c43 rfl) ?_
   exact FL.nil ⟨rfl,_,S33,(Inc.rfl _),rfl,rfl,(congrArg Value.bool (bifT c43).symm)⟩
  ·
   refine FL.val (zac rfl rfl rfl c43) rfl rfl (E.move (v:=Value.int .i64 a1) rfl) ?_
   refine FL.call (zac rfl rfl rfl c43) rfl rfl (E.call Tryz.call136 (A1 rfl)) (w_spec_l10Width S33.sl a1) ?_
   rintro e w44 ⟨rfl,r45⟩
   refine ⟨_,rfl,?_⟩
   have S46:=S33.call r45
   refine FL.val (zac rfl rfl rfl c43) rfl rfl (E.not rfl) ?_
   refine FL.v (E.pickF rfl c43 rfl) ?_
   exact FL.nil ⟨rfl,_,S46,(Inc.rfl _),rfl,rfl,(congrArg Value.bool (bifF c43).symm)⟩
 rintro f42 w41 ⟨H38,S39,i40,k47,k48,k49⟩
 refine FL.nil ?_
 rcases ifB hp with ⟨c50,hp⟩|⟨c50,hp⟩
 ·
  refine FW.condT k49 c50 ?_
  refine FW.seq (FW.region ?_)
  obtain ⟨v51,w52,run53,S54⟩:=S39.buildSlice (P:=Tryz.prog) te24 [] (parts:=#[]) (cells:=[]) rfl zal zak zad (Nat.le_of_ble_eq_true rfl)
  have els55:Els (up wa.heap.size H38) (eL eI 1) 1 [] []:=Els.nil
  refine FL.v (E.buildSlice (B0) run53) ?_
  refine FL.v (E.assign (v:=v51) rfl) ?_
  refine FL.v (E.assign (v:=Value.bool false) rfl) ?_
  refine FL.nil ?_
  refine FW.ret ?_
  obtain rfl:=Option.some.inj hp
  exact ⟨.inr rfl,res2 rfl rfl rfl ⟨_,_,_,_,rfl,S54,els55,(show (bl []).Nodup from List.nodup_nil)⟩⟩
 ·
  refine FW.condF k49 c50 ?_
  refine FW.skip (FW.seq (FW.region ?_))
  refine FL.v (E.load k48 (zat Tryz.isAgg26 Tryz.sizeOf26 ((at28.mono i40).now S39.sl) rfl)) ?_
  refine FL.v (E.move k47) ?_
  obtain ⟨r56,hr57,hp⟩:=bnd hp
  refine FL.call rfl rfl rfl (E.call Tryz.call138 (A2 rfl rfl)) (w_spec_l10Closure S39.sl a0 v0_1 (p0_1.mono (i27.tr i40)) a1 hr57) ?_
  rintro e w59 ⟨H58,v62,v64,v67,v70,v73,v76,rfl,r61,h63,h65,h68,h71,h74,h77⟩
  refine ⟨_,rfl,?_⟩
  have nv66:New H38 [v64]:=New.of_up S39.sl h65.dom
  have h65:=h65.mono (up_le S39.size)
  have nv69:New H38 [v67]:=New.of_up S39.sl h68.dom
  have h68:=h68.mono (up_le S39.size)
  have nv72:New H38 [v70]:=New.of_up S39.sl h71.dom
  have h71:=h71.mono (up_le S39.size)
  have nv75:New H38 [v73]:=New.of_up S39.sl h74.dom
  have h74:=h74.mono (up_le S39.size)
  have S60:=S39.call r61
  refine FL.v (E.field (fd130_5 rfl) rfl) ?_
  obtain ⟨r78,hr79,hp⟩:=bnd hp
  refine FL.call rfl rfl rfl (E.call Tryz.call137 (A1 rfl)) (w_spec_l10Minimal S60.sl v76 r56.sorted h77 hr79) ?_
  rintro e w81 ⟨H80,v84,n85,cs86,rfl,r83,els87,nd88⟩
  refine ⟨_,rfl,?_⟩
  have nv89:New H58 cs86:=New.of_up S60.sl els87.dom
  have els87:=els87.mono (up_le S60.size)
  have S82:=S60.join (l':=[.row 34 1 v84 n85 cs86]) r83 rfl
  refine FL.v (E.assign (v:=v84) rfl) ?_
  refine FL.v (E.assign (v:=Value.bool true) rfl) ?_
  refine FL.nil ?_
  refine FW.ret ?_
  obtain rfl:=Option.some.inj hp
  exact ⟨.inr rfl,res2 rfl rfl rfl ⟨_,_,_,_,rfl,S82,els87,nd88⟩⟩

@[reducible] def ze5 (Ha:GH) (wa:World) (r:((List (List Int))×Bool)):Ending→World→Prop :=
 fun e w'=>∃ H':GH,∃ v0:Value,∃ n0:Nat,∃ c0:List Value,e=.returned (Value.tuple #[v0,Value.bool r.2])∧St Ha wa H' w' [.row 34 1 v0 n0 c0]∧Els (up wa.heap.size H') (eL eI 1) 1 c0 r.1∧(bl c0).Nodup
theorem ze6 {Ha:GH} {wa:World} (hs:Sl Ha wa) (a0:Cnf) (v0_1:Value) (p0_1:RSl Ha (eL eI 1) 1 v0_1 a0.clauses) {r:((List (List Int))×Bool)} (hp:(PF.zdc a0)=some r) :
  Calls Tryz.prog 14 #[Value.agg #[Value.int .i64 a0.vars,v0_1]] wa (ze5 Ha wa r):=by
 unfold PF.zdc at hp
 have S0:=St.init hs
 refine zah (N:=8) (args:=[Value.agg #[Value.int .i64 a0.vars,v0_1]]) Tryz.func14 rfl rfl rfl ?_
 refine FW.seq (FW.region ?_)
 obtain ⟨b21,w22,run23,S24⟩:=S0.box (P:=Tryz.prog) 26 [Value.int .i64 a0.vars,v0_1] (v:=Value.agg #[Value.int .i64 a0.vars,v0_1]) rfl (zaa rfl (zaa p0_1.one zad))
 refine FL.v (E.box rfl run23) ?_
 obtain ⟨H25,S26,i27,at28⟩:=S24.sealBox (i:=0) (l':=[]) rfl rfl
 refine FL.v (E.assign (v:=Value.slice none 0 0) rfl) ?_
 refine FL.v (E.assign (v:=Value.bool false) rfl) ?_
 refine FL.nil (FW.seq (FW.region ?_))
 refine FL.v (E.load rfl (zat Tryz.isAgg26 Tryz.sizeOf26 (at28.now S26.sl) rfl)) ?_
 obtain ⟨r29,hr30,hp⟩:=bnd hp
 refine FL.call rfl rfl rfl (E.call Tryz.call65 (A2 rfl rfl)) (ze4 S26.sl a0 v0_1 (p0_1.mono i27) 6 hr30) ?_
 rintro e w32 ⟨H31,v35,n36,cs37,rfl,r34,els38,nd39⟩
 refine ⟨_,rfl,?_⟩
 have nv40:New H25 cs37:=New.of_up S26.sl els38.dom
 have els38:=els38.mono (up_le S26.size)
 have S33:=S26.join (l':=[.row 34 1 v35 n36 cs37]) r34 rfl
 refine FL.v (E.extract (i:=0) rfl rfl) ?_
 refine FL.v (E.extract (i:=1) rfl rfl) ?_
 refine FL.v (E.assign (v:=v35) rfl) ?_
 refine FL.v (E.assign (v:=Value.bool r29.2) rfl) ?_
 refine FL.nil ?_
 refine FW.ret ?_
 obtain rfl:=Option.some.inj hp
 exact ⟨.inr rfl,res2 rfl rfl rfl ⟨_,_,_,_,rfl,S33,els38,nd39⟩⟩

set_option maxHeartbeats 4000000 in
theorem w_laws_FnPrimeClauses {Ha:GH} {wa:World} (hs:Sl Ha wa) (v0:Value) (a0:List Int) (p0:RSl Ha (eN .u8) 1 v0 a0) {r:Bool} (hp:(PF.zdy a0)=some r) :
  Calls Tryz.prog 3 #[v0] wa (Sc Ha wa (Value.bool r)):=by
 unfold PF.zdy at hp
 have S0:=St.init hs
 refine zah (N:=122) (args:=[v0]) Tryz.func3 rfl rfl rfl ?_
 refine FW.seq (FW.region ?_)
 refine FL.v (E.assign (v:=Value.bool false) rfl) ?_
 refine FL.nil (FW.seq (FW.seq (FW.region ?_)))
 refine FL.v (E.move (v:=v0) rfl) ?_
 refine FL.call rfl rfl rfl (E.call Tryz.call6 (A1 rfl)) (w_laws_rBig S0.sl v0 a0 p0) ?_
 rintro e w21 ⟨rfl,r22⟩
 refine ⟨_,rfl,?_⟩
 have S23:=S0.call r22
 refine FL.nil ?_
 rcases ifB hp with ⟨c24,hp⟩|⟨c24,hp⟩
 ·
  refine FW.condT rfl c24 ?_
  refine FW.seq (FW.region ?_)
  refine FL.v (E.assign (v:=Value.bool true) rfl) ?_
  refine FL.nil ?_
  refine FW.ret ?_
  obtain rfl:=Option.some.inj hp
  exact ⟨.inr rfl,res1 rfl rfl ⟨rfl,S23.back⟩⟩
 ·
  refine FW.condF rfl c24 ?_
  refine FW.skip (FW.seq (FW.region ?_))
  refine FL.v (E.move (v:=v0) rfl) ?_
  obtain ⟨r25,hr26,hp⟩:=bnd hp
  refine FL.call rfl rfl rfl (E.call Tryz.call7 (A1 rfl)) (zeC S23.sl v0 a0 p0 hr26) ?_
  rintro e w28 ⟨H27,v31,rfl,r30,h32⟩
  refine ⟨_,rfl,?_⟩
  have nv33:New Ha [v31]:=New.of_up S23.sl h32.dom
  have h32:=h32.mono (up_le S23.size)
  have S29:=S23.call r30
  obtain ⟨b34,w35,run36,S37⟩:=S29.alloc (P:=Tryz.prog) 26 [Value.int .i64 0,Value.slice none 0 0] Tryz.zeroValue26 rfl (zaa rfl (zaa rfl zad))
  refine FL.v (E.alloc run36) ?_
  obtain ⟨w38,run39,S40⟩:=S37.store0 (P:=Tryz.prog) (t:=26) (i:=0) (cs':=[Value.int .i64 r25.vars,v31]) (l':=[.box b34 26 [Value.int .i64 r25.vars,v31]]) (v:=Value.agg #[Value.int .i64 r25.vars,v31]) (c:=[Value.int .i64 r25.vars,v31]) rfl Tryz.sizeOf26 rfl rfl (zaa rfl (zaa h32.one zad)) (Nat.le_of_ble_eq_true rfl) rfl rfl
  refine FL.act rfl rfl (E.store rfl rfl run39) ?_
  obtain ⟨H41,S42,i43,at44⟩:=S40.sealBox (i:=0) (l':=[]) rfl rfl
  refine FL.nil (FW.seq (FW.region ?_))
  refine FL.v (E.load rfl (zat Tryz.isAgg26 Tryz.sizeOf26 (at44.now S42.sl) rfl)) ?_
  obtain ⟨r45,hr46,hp⟩:=bnd hp
  refine FL.call rfl rfl rfl (E.call Tryz.call8 (A1 rfl)) (zeM S42.sl r25 v31 (h32.mono (upI.tr i43)) hr46) ?_
  rintro e w48 ⟨H47,v51,rfl,r50,h52⟩
  refine ⟨_,rfl,?_⟩
  have S49:=S42.call r50
  refine FL.v (E.move (v:=Value.tuple #[Value.agg #[Value.int .i64 r45.1.vars,v51],Value.bool r45.2]) rfl) ?_
  refine FL.v (E.extract (i:=0) rfl rfl) ?_
  refine FL.v (E.extract (i:=1) rfl rfl) ?_
  have S57:=S49.nil 34 1
  have els58:Els (up wa.heap.size H47) (eL eI 1) 1 [] []:=Els.nil
  obtain ⟨b53,w54,run55,S56⟩:=S57.alloc (P:=Tryz.prog) 26 [Value.int .i64 0,Value.slice none 0 0] Tryz.zeroValue26 rfl (zaa rfl (zaa rfl zad))
  refine FL.v (E.alloc run55) ?_
  obtain ⟨w59,run60,S61⟩:=S56.store0 (P:=Tryz.prog) (t:=26) (i:=0) (cs':=[Value.int .i64 r45.1.vars,v51]) (l':=[.box b53 26 [Value.int .i64 r45.1.vars,v51],.row 34 1 (Value.slice none 0 0) 0 []]) (v:=Value.agg #[Value.int .i64 r45.1.vars,v51]) (c:=[Value.int .i64 r45.1.vars,v51]) rfl Tryz.sizeOf26 rfl rfl (zaa rfl (zaa h52.one zad)) (Nat.le_of_ble_eq_true rfl) rfl rfl
  refine FL.act rfl rfl (E.store rfl rfl run60) ?_
  obtain ⟨H62,S63,i64,at65⟩:=S61.sealBox (i:=0) (l':=[.row 34 1 (Value.slice none 0 0) 0 []]) rfl rfl
  refine FL.v (E.assign (v:=Value.bool r45.2) rfl) ?_
  refine FL.nil (FW.seq (FW.seq (FW.region ?_)))
  refine FL.v (E.load rfl (zat Tryz.isAgg26 Tryz.sizeOf26 ((at44.mono (r50.inc.tr i64)).now S63.sl) rfl)) ?_
  obtain ⟨r66,hr67,hp⟩:=bnd hp
  refine FL.call rfl rfl rfl (E.call Tryz.call9 (A1 rfl)) (zeO S63.sl r25 v31 (h32.mono (upI.tr ((i43.tr r50.inc).tr i64))) hr67) ?_
  rintro e w69 ⟨H68,v72,rfl,r71,h73⟩
  refine ⟨_,rfl,?_⟩
  have S70:=S63.call r71
  refine FL.v (E.move (v:=Value.tuple #[Value.agg #[Value.int .i64 r66.1.vars,v72],Value.bool r66.2]) rfl) ?_
  refine FL.v (E.extract (i:=0) rfl rfl) ?_
  refine FL.v (E.extract (i:=1) rfl rfl) ?_
  have S78:=S70.nil 34 1
  have els79:Els (up wa.heap.size H68) (eL eI 1) 1 [] []:=Els.nil
  obtain ⟨b74,w75,run76,S77⟩:=S78.alloc (P:=Tryz.prog) 26 [Value.int .i64 0,Value.slice none 0 0] Tryz.zeroValue26 rfl (zaa rfl (zaa rfl zad))
  refine FL.v (E.alloc run76) ?_
  obtain ⟨w80,run81,S82⟩:=S77.store0 (P:=Tryz.prog) (t:=26) (i:=0) (cs':=[Value.int .i64 r66.1.vars,v72]) (l':=[.box b74 26 [Value.int .i64 r66.1.vars,v72],.row 34 1 (Value.slice none 0 0) 0 [],.row 34 1 (Value.slice none 0 0) 0 []]) (v:=Value.agg #[Value.int .i64 r66.1.vars,v72]) (c:=[Value.int .i64 r66.1.vars,v72]) rfl Tryz.sizeOf26 rfl rfl (zaa rfl (zaa h73.one zad)) (Nat.le_of_ble_eq_true rfl) rfl rfl
  refine FL.act rfl rfl (E.store rfl rfl run81) ?_
  obtain ⟨H83,S84,i85,at86⟩:=S82.sealBox (i:=0) (l':=[.row 34 1 (Value.slice none 0 0) 0 [],.row 34 1 (Value.slice none 0 0) 0 []]) rfl rfl
  refine FL.v (E.assign (v:=Value.bool r66.2) rfl) ?_
  refine FL.nil (FW.seq (FW.region ?_))
  refine FL.v (E.move (v:=Value.bool r45.2) rfl) ?_
  refine FL.v (E.move (v:=Value.bool r66.2) rfl) ?_
  refine FL.v (E.neqB Tryz.runUnderlying4 rfl rfl) ?_
  refine FL.v (E.move (v:=Value.bool (!(r45.2 == r66.2))) rfl) ?_
  obtain ⟨t92,hqt92,hp⟩:=bnd hp
  refine FL.cut 5 (fun f w=>∃ H:GH,St Ha wa H w [.row 34 1 (Value.slice none 0 0) 0 [],.row 34 1 (Value.slice none 0 0) 0 []]∧Inc H83 H∧f 3=Value.pointer (some ⟨b34,0,none⟩)∧f 4=Value.pointer (some ⟨b53,0,none⟩)∧f 5=Value.bool r45.2∧f 40=Value.bool t92) ?_ ?_
  ·
   clear hp;have hp:=hqt92;clear hqt92
   rcases ifB hp with ⟨c98,hp⟩|⟨c98,hp⟩
   ·
    refine FL.skip (wF_no rfl rfl rfl c98) rfl ?_
    refine FL.skip (wF_no rfl rfl rfl c98) rfl ?_
    refine FL.skip (wF_no rfl rfl rfl c98) rfl ?_
    refine FL.skip (wF_no rfl rfl rfl c98) rfl ?_
    obtain rfl:=Option.some.inj hp
    refine FL.v (E.pickT rfl c98 rfl) ?_
    exact FL.nil ⟨rfl,_,S84,(Inc.rfl _),rfl,rfl,rfl,rfl⟩
   ·
    refine FL.val (zac rfl rfl rfl c98) rfl rfl (E.load rfl (zat Tryz.isAgg26 Tryz.sizeOf26 ((at65.mono (r71.inc.tr i85)).now S84.sl) rfl)) ?_
    refine FL.val (zac rfl rfl rfl c98) rfl rfl (E.load rfl (zat Tryz.isAgg26 Tryz.sizeOf26 (at86.now S84.sl) rfl)) ?_
    obtain ⟨r99,hrA0,hp⟩:=bnd hp
    refine FL.call (zac rfl rfl rfl c98) rfl rfl (E.call Tryz.call10 (A2 rfl rfl)) (w_laws_rCnf S84.sl r45.1 v51 (h52.mono ((i64.tr r71.inc).tr i85)) r66.1 v72 (h73.mono i85) hrA0) ?_
    rintro e wA1 ⟨rfl,rA2⟩
    refine ⟨_,rfl,?_⟩
    have SA3:=S84.call rA2
    refine FL.val (zac rfl rfl rfl c98) rfl rfl (E.not rfl) ?_
    obtain rfl:=Option.some.inj hp
    refine FL.v (E.pickF rfl c98 rfl) ?_
    exact FL.nil ⟨rfl,_,SA3,(Inc.rfl _),rfl,rfl,rfl,rfl⟩
  rintro f97 w96 ⟨H93,S94,i95,kA4,kA5,kA6,kA7⟩
  refine FL.nil ?_
  rcases ifB hp with ⟨cA8,hp⟩|⟨cA8,hp⟩
  ·
   refine FW.condT kA7 cA8 ?_
   refine FW.seq (FW.region ?_)
   refine FL.v (E.assign (v:=Value.bool false) rfl) ?_
   refine FL.nil ?_
   refine FW.ret ?_
   obtain rfl:=Option.some.inj hp
   exact ⟨.inr rfl,res1 rfl rfl ⟨rfl,S94.back⟩⟩
  ·
   refine FW.condF kA7 cA8 ?_
   refine FW.skip (FW.seq (FW.seq (FW.region ?_)))
   refine FL.v (E.move kA6) ?_
   refine FL.v (E.not rfl) ?_
   refine FL.nil ?_
   rcases ifB hp with ⟨cA9,hp⟩|⟨cA9,hp⟩
   ·
    refine FW.condT rfl cA9 ?_
    refine FW.seq (FW.region ?_)
    refine FL.v (E.assign (v:=Value.bool true) rfl) ?_
    refine FL.nil ?_
    refine FW.ret ?_
    obtain rfl:=Option.some.inj hp
    exact ⟨.inr rfl,res1 rfl rfl ⟨rfl,S94.back⟩⟩
   ·
    refine FW.condF rfl cA9 ?_
    refine FW.skip (FW.seq (FW.region ?_))
    refine FL.v (E.load kA4 (zat Tryz.isAgg26 Tryz.sizeOf26 ((at44.mono ((((r50.inc.tr i64).tr r71.inc).tr i85).tr i95)).now S94.sl) rfl)) ?_
    refine FL.v (E.load kA5 (zat Tryz.isAgg26 Tryz.sizeOf26 ((at65.mono ((r71.inc.tr i85).tr i95)).now S94.sl) rfl)) ?_
    obtain ⟨rAa,hrAb,hp⟩:=bnd hp
    refine FL.call rfl rfl rfl (E.call Tryz.call11 (A2 rfl rfl)) (zeP S94.sl r25 v31 (h32.mono (upI.tr (((((i43.tr r50.inc).tr i64).tr r71.inc).tr i85).tr i95))) r45.1 v51 (h52.mono (((i64.tr r71.inc).tr i85).tr i95)) hrAb) ?_
    rintro e wAc ⟨rfl,rAd⟩
    refine ⟨_,rfl,?_⟩
    have SAe:=S94.call rAd
    refine FL.v (E.move (v:=Value.tuple #[Value.bool rAa.1,Value.bool rAa.2]) rfl) ?_
    refine FL.v (E.extract (i:=0) rfl rfl) ?_
    refine FL.v (E.extract (i:=1) rfl rfl) ?_
    refine FL.v (E.assign (v:=Value.bool rAa.1) rfl) ?_
    refine FL.v (E.assign (v:=Value.bool rAa.2) rfl) ?_
    refine FL.nil (FW.seq (FW.seq (FW.region ?_)))
    refine FL.v (E.move (v:=Value.bool rAa.2) rfl) ?_
    refine FL.v (E.not rfl) ?_
    refine FL.v (E.move (v:=Value.bool (!rAa.2)) rfl) ?_
    refine FL.cut 3 (fun f w=>∃ H:GH,St Ha wa H w [.row 34 1 (Value.slice none 0 0) 0 [],.row 34 1 (Value.slice none 0 0) 0 []]∧Inc H93 H∧f 3=Value.pointer (some ⟨b34,0,none⟩)∧f 4=Value.pointer (some ⟨b53,0,none⟩)∧f 54=Value.bool (bif (!rAa.2) then true else (!rAa.1))) ?_ ?_
    ·
     rcases bcase (!rAa.2) with cAl|cAl
     ·
      refine FL.skip (wF_no rfl rfl rfl cAl) rfl ?_
      refine FL.skip (wF_no rfl rfl rfl cAl) rfl ?_
      refine FL.v (E.pickT rfl cAl rfl) ?_
      exact FL.nil ⟨rfl,_,SAe,(Inc.rfl _),kA4,kA5,(congrArg Value.bool (bifT cAl).symm)⟩
     ·
      refine FL.val (zac rfl rfl rfl cAl) rfl rfl (E.move (v:=Value.bool rAa.1) rfl) ?_
      refine FL.val (zac rfl rfl rfl cAl) rfl rfl (E.not rfl) ?_
      refine FL.v (E.pickF rfl cAl rfl) ?_
      exact FL.nil ⟨rfl,_,SAe,(Inc.rfl _),kA4,kA5,(congrArg Value.bool (bifF cAl).symm)⟩
    rintro fAk wAj ⟨HAg,SAh,iAi,kAm,kAn,kAo⟩
    refine FL.nil ?_
    rcases ifB hp with ⟨cAp,hp⟩|⟨cAp,hp⟩
    ·
     refine FW.condT kAo cAp ?_
     refine FW.seq (FW.region ?_)
     refine FL.v (E.assign (v:=Value.bool false) rfl) ?_
     refine FL.nil ?_
     refine FW.ret ?_
     obtain rfl:=Option.some.inj hp
     exact ⟨.inr rfl,res1 rfl rfl ⟨rfl,SAh.back⟩⟩
    ·
     refine FW.condF kAo cAp ?_
     refine FW.skip (FW.seq (FW.seq (FW.region ?_)))
     refine FL.v (E.assign (v:=Value.int .i64 0) rfl) ?_
     refine FL.nil ?_
     obtain ⟨qAq,hq,hp⟩:=bndR hp
     refine FW.block ?_
     refine FW.mono (FW.iter (S:=Int) (X:=Bool) (fun (sAq:Int) f w=>∃ H:GH,St Ha wa H w []∧Inc HAg H∧f 3=Value.pointer (some ⟨b34,0,none⟩)∧f 4=Value.pointer (some ⟨b53,0,none⟩)∧f 10=Value.int .i64 sAq) (fun q e f w=>match q with|.go sAq=>e=Exit.exit 0∧(∃ H:GH,St Ha wa H w []∧Inc HAg H∧f 3=Value.pointer (some ⟨b34,0,none⟩)∧f 4=Value.pointer (some ⟨b53,0,none⟩))|.rt x=>((e=Exit.ret)∧(fun e f w=>(e=Exit.normal∨e=Exit.ret)∧∀ a,Fr (δ:=[]) 122 a f→∃ v,(results Tryz.f3 a.tmps).run Tryz.prog w=.ok v w∧(Sc Ha wa (Value.bool x)) (.returned v) w) e f w)) hq ⟨_,(SAh.sel [] (by decide) rfl),(Inc.rfl _),kAm,kAn,rfl⟩ ?_) ?_
     ·
      clear hp hq
      rintro sAq fC9 wC8 ⟨HC5,SC6,iC7,kCa,kCb,kCc⟩ oEO hp
      refine FW.seq (FW.seq (FW.region ?_))
      refine FL.v (E.move kCc) ?_
      refine FL.v (E.fieldAddr zan kCb) ?_
      refine FL.v (E.load rfl (zag Tryz.isAgg24 ((at65.mono ((((r71.inc.tr i85).tr i95).tr iAi).tr iC7)).now SC6.sl) rfl)) ?_
      refine FL.v (E.lenP te24 rfl h52) ?_
      refine FL.v (E.lss rfl rfl) ?_
      refine FL.nil ?_
      rcases ifB hp with ⟨cCd,hp⟩|⟨cCd,hp⟩
      ·
       refine FW.condT rfl cCd ?_
       refine FW.skip (FW.seq (FW.block (FW.seq (FW.region ?_))))
       refine FL.v (E.assign (v:=Value.int .i64 0) rfl) ?_
       refine FL.nil ?_
       obtain ⟨qCe,hq,hp⟩:=bndR hp
       refine FW.block ?_
       refine FW.mono (FW.iter (S:=Int) (X:=(Lp Int Bool)) (fun (sCe:Int) f w=>∃ H:GH,St Ha wa H w []∧Inc HC5 H∧f 3=Value.pointer (some ⟨b34,0,none⟩)∧f 4=Value.pointer (some ⟨b53,0,none⟩)∧f 10=Value.int .i64 sAq∧f 11=Value.int .i64 sCe) (fun q e f w=>match q with|.go sCe=>e=Exit.exit 2∧(∃ H:GH,St Ha wa H w []∧Inc HC5 H∧f 3=Value.pointer (some ⟨b34,0,none⟩)∧f 4=Value.pointer (some ⟨b53,0,none⟩)∧f 10=Value.int .i64 sAq)|.rt x=>((e=Exit.ret)∧(Rd (fun (sAq:Int) f w=>∃ H:GH,St Ha wa H w []∧Inc HAg H∧f 3=Value.pointer (some ⟨b34,0,none⟩)∧f 4=Value.pointer (some ⟨b53,0,none⟩)∧f 10=Value.int .i64 sAq) (fun q e f w=>match q with|.go sAq=>e=Exit.exit 0∧(∃ H:GH,St Ha wa H w []∧Inc HAg H∧f 3=Value.pointer (some ⟨b34,0,none⟩)∧f 4=Value.pointer (some ⟨b53,0,none⟩))|.rt x=>((e=Exit.ret)∧(fun e f w=>(e=Exit.normal∨e=Exit.ret)∧∀ a,Fr (δ:=[]) 122 a f→∃ v,(results Tryz.f3 a.tmps).run Tryz.prog w=.ok v w∧(Sc Ha wa (Value.bool x)) (.returned v) w) e f w)) x) e f w)) hq ⟨_,SC6,(Inc.rfl _),kCa,kCb,kCc,rfl⟩ ?_) ?_
       ·
        clear hp hq
        rintro sCe fDw wDv ⟨HDs,SDt,iDu,kDx,kDy,kDz,kDA⟩ oEF hp
        refine FW.seq (FW.seq (FW.region ?_))
        refine FL.v (E.move kDA) ?_
        refine FL.v (E.fieldAddr zan kDy) ?_
        refine FL.v (E.load rfl (zag Tryz.isAgg24 ((at65.mono (((((r71.inc.tr i85).tr i95).tr iAi).tr iC7).tr iDu)).now SDt.sl) rfl)) ?_
        refine FL.v (E.lenP te24 rfl h52) ?_
        refine FL.v (E.lss rfl rfl) ?_
        refine FL.nil ?_
        rcases ifB hp with ⟨cDB,hp⟩|⟨cDB,hp⟩
        ·
         refine FW.condT rfl cDB ?_
         refine FW.skip (FW.seq (FW.block (FW.seq ?_)))
         refine FW.draw (fun w'=>Run wDv.heap.size HDs wDv HDs w') (by kernel_rfl) (by kernel_rfl) (zaD SDt.sl) ?_
         refine FD.val rfl rfl rfl (fun w' hw'=>(E.fieldAddr zax kDx)) ?_
         refine FD.val rfl rfl rfl (fun w' hw'=>(E.load rfl (zag Tryz.isAgg3 ((at44.mono (((((((r50.inc.tr i64).tr r71.inc).tr i85).tr i95).tr iAi).tr iC7).tr iDu)).now (SDt.call hw').sl) rfl))) ?_
         refine FD.val rfl rfl rfl (fun w' hw'=>(E.fieldAddr zan kDy)) ?_
         refine FD.val rfl rfl rfl (fun w' hw'=>(E.load rfl (zag Tryz.isAgg24 ((at65.mono (((((r71.inc.tr i85).tr i95).tr iAi).tr iC7).tr iDu)).now (SDt.call hw').sl) rfl))) ?_
         refine FD.val rfl rfl rfl (fun w' hw'=>(E.move kDz)) ?_
         obtain ⟨xDJ,hxDK,hp⟩:=bnd hp
         obtain ⟨pDD,csDE,ptDF,lDG,atDH,relDI⟩:=h52.at hxDK
         obtain ⟨vDL,rfl,hDM⟩:=zau relDI
         refine FD.val rfl rfl rfl (fun w' hw'=>(E.indexAddr te24 rfl rfl ptDF)) ?_
         refine FD.val rfl rfl rfl (fun w' hw'=>(E.load rfl (zaf Tryz.isAgg34 ((atDH.mono ((((((i64.tr r71.inc).tr i85).tr i95).tr iAi).tr iC7).tr iDu)).now (SDt.call hw').sl) rfl))) ?_
         refine FD.val rfl rfl rfl (fun w' hw'=>(E.fieldAddr zan kDy)) ?_
         refine FD.val rfl rfl rfl (fun w' hw'=>(E.load rfl (zag Tryz.isAgg24 ((at65.mono (((((r71.inc.tr i85).tr i95).tr iAi).tr iC7).tr iDu)).now (SDt.call hw').sl) rfl))) ?_
         refine FD.val rfl rfl rfl (fun w' hw'=>(E.move kDA)) ?_
         obtain ⟨xDT,hxDU,hp⟩:=bnd hp
         obtain ⟨pDN,csDO,ptDP,lDQ,atDR,relDS⟩:=h52.at hxDU
         obtain ⟨vDV,rfl,hDW⟩:=zau relDS
         refine FD.val rfl rfl rfl (fun w' hw'=>(E.indexAddr te24 rfl rfl ptDP)) ?_
         refine FD.val rfl rfl rfl (fun w' hw'=>(E.load rfl (zaf Tryz.isAgg34 ((atDR.mono ((((((i64.tr r71.inc).tr i85).tr i95).tr iAi).tr iC7).tr iDu)).now (SDt.call hw').sl) rfl))) ?_
         obtain ⟨rDX,hrDY,hp⟩:=bnd hp
         refine FD.call rfl rfl rfl (fun w' hw'=>(E.call Tryz.call12 (A3 rfl rfl rfl))) (fun w' hw'=>Calls.cls hw' (w_impl_IsPart (SDt.call hw').sl r25.vars vDL xDJ (hDM.mono ((((((i64.tr r71.inc).tr i85).tr i95).tr iAi).tr iC7).tr iDu)) vDV xDT (hDW.mono ((((((i64.tr r71.inc).tr i85).tr i95).tr iAi).tr iC7).tr iDu)) hrDY)) ?_
         refine FD.val rfl rfl rfl (fun w' hw'=>(E.move (v:=Value.tuple #[Value.bool rDX.1,Value.bool rDX.2]) rfl)) ?_
         refine FD.val rfl rfl rfl (fun w' hw'=>(E.extract (i:=0) rfl rfl)) ?_
         refine FD.val rfl rfl rfl (fun w' hw'=>(E.extract (i:=1) rfl rfl)) ?_
         refine FD.val rfl rfl rfl (fun w' hw'=>(E.assign (v:=Value.bool rDX.1) rfl)) ?_
         refine FD.val rfl rfl rfl (fun w' hw'=>(E.assign (v:=Value.bool rDX.2) rfl)) ?_
         refine FD.nil ?_
         intro wDZ rE1
         have SE0:=SDt.call rE1
         refine FW.seq (FW.region ?_)
         refine FL.v (E.move (v:=Value.bool rDX.2) rfl) ?_
         refine FL.v (E.not rfl) ?_
         refine FL.v (E.move (v:=Value.bool (!rDX.2)) rfl) ?_
         refine FL.cut 7 (fun f w=>∃ H:GH,St Ha wa H w []∧Inc HDs H∧f 3=Value.pointer (some ⟨b34,0,none⟩)∧f 4=Value.pointer (some ⟨b53,0,none⟩)∧f 10=Value.int .i64 sAq∧f 11=Value.int .i64 sCe∧f 94=Value.bool (bif (!rDX.2) then true else (bif rDX.1 then (!(sAq == sCe)) else false))) ?_ ?_
         ·
          rcases bcase (!rDX.2) with cEl|cEl
          ·
           refine FL.skip (wF_no rfl rfl rfl cEl) rfl ?_
           refine FL.skip (wF_no rfl rfl rfl cEl) rfl ?_
           refine FL.skip (zaB rfl rfl rfl) rfl ?_
           refine FL.skip (zaB rfl rfl rfl) rfl ?_
           refine FL.skip (zaB rfl rfl rfl) rfl ?_
           refine FL.skip (wF_no rfl rfl rfl cEl) rfl ?_
           refine FL.v (E.pickT rfl cEl rfl) ?_
           exact FL.nil ⟨rfl,_,SE0,(Inc.rfl _),kDx,kDy,kDz,kDA,(congrArg Value.bool (bifT cEl).symm)⟩
          ·
           refine FL.val (zac rfl rfl rfl cEl) rfl rfl (E.move (v:=Value.bool rDX.1) rfl) ?_
           refine FL.val (zac rfl rfl rfl cEl) rfl rfl (E.move (v:=Value.bool rDX.1) rfl) ?_
           refine FL.cut 4 (fun f w=>∃ H:GH,St Ha wa H w []∧Inc HDs H∧f 3=Value.pointer (some ⟨b34,0,none⟩)∧f 4=Value.pointer (some ⟨b53,0,none⟩)∧f 10=Value.int .i64 sAq∧f 11=Value.int .i64 sCe∧f 87=Value.bool (!rDX.2)∧f 93=Value.bool (bif rDX.1 then (!(sAq == sCe)) else false)) ?_ ?_
           ·
            rcases bcase rDX.1 with cEs|cEs
            ·
             refine FL.val (zac rfl rfl rfl cEs) rfl rfl (E.move kDz) ?_
             refine FL.val (zac rfl rfl rfl cEs) rfl rfl (E.move kDA) ?_
             refine FL.val (zac rfl rfl rfl cEs) rfl rfl (E.neq rfl rfl) ?_
             refine FL.val (zac rfl rfl rfl cEl) rfl rfl (E.pickT rfl cEs rfl) ?_
             exact FL.nil ⟨rfl,_,SE0,(Inc.rfl _),kDx,kDy,kDz,kDA,rfl,(congrArg Value.bool (bifT cEs).symm)⟩
            ·
             refine FL.skip (wF_no rfl rfl rfl cEs) rfl ?_
             refine FL.skip (wF_no rfl rfl rfl cEs) rfl ?_
             refine FL.skip (wF_no rfl rfl rfl cEs) rfl ?_
             refine FL.val (zac rfl rfl rfl cEl) rfl rfl (E.pickF rfl cEs rfl) ?_
             exact FL.nil ⟨rfl,_,SE0,(Inc.rfl _),kDx,kDy,kDz,kDA,rfl,(congrArg Value.bool (bifF cEs).symm)⟩
           rintro fEr wEq ⟨HEn,SEo,iEp,kEt,kEu,kEv,kEw,kEx,kEy⟩
           refine FL.v (E.pickF kEx cEl kEy) ?_
           exact FL.nil ⟨rfl,_,SEo,iEp,kEt,kEu,kEv,kEw,(congrArg Value.bool (bifF cEl).symm)⟩
         rintro fEk wEj ⟨HEg,SEh,iEi,kEz,kEA,kEB,kEC,kED⟩
         refine FL.nil ?_
         rcases ifB hp with ⟨cEE,hp⟩|⟨cEE,hp⟩
         ·
          refine FW.condT kED cEE ?_
          refine FW.seq (FW.region ?_)
          refine FL.v (E.assign (v:=Value.bool false) rfl) ?_
          refine FL.nil ?_
          refine FW.ret ?_
          obtain rfl:=Option.some.inj hp
          exact ⟨nofun,rfl,⟨nofun,rfl,⟨.inr rfl,res1 rfl rfl ⟨rfl,SEh.back⟩⟩⟩⟩
         ·
          refine FW.condF kED cEE ?_
          refine FW.skip (FW.region ?_)
          refine FL.v (E.move kEC) ?_
          refine FL.v (E.add rfl rfl) ?_
          refine FL.v (E.assign (v:=Value.int .i64 (wr (sCe + 1))) rfl) ?_
          refine FL.nil ?_
          obtain rfl:=Option.some.inj hp
          exact ⟨rfl,⟨_,SEh,(iDu.tr iEi),kEz,kEA,kEB,rfl⟩⟩
        ·
         refine FW.condF rfl cDB ?_
         refine FW.exit ?_
         obtain rfl:=Option.some.inj hp
         exact ⟨nofun,rfl,⟨_,SDt,iDu,kDx,kDy,kDz⟩⟩
       ·
        clear hq
        intro e fEK wEJ hD
        rcases qCe with sCe|xCe
        ·
         obtain ⟨rfl,hD⟩:=hD
         obtain ⟨HEG,SEH,iEI,kEL,kEM,kEN⟩:=hD
         replace hp:=el_go hp
         refine FW.region ?_
         refine FL.v (E.move kEN) ?_
         refine FL.v (E.add rfl rfl) ?_
         refine FL.v (E.assign (v:=Value.int .i64 (wr (sAq + 1))) rfl) ?_
         refine FL.nil ?_
         obtain rfl:=Option.some.inj hp
         exact ⟨rfl,⟨_,SEH,(iC7.tr iEI),kEL,kEM,rfl⟩⟩
        ·
         obtain ⟨he,hL⟩:=hD
         replace hp:=el_rt hp
         obtain rfl:=Option.some.inj hp
         subst he
         exact hL
      ·
       refine FW.condF rfl cCd ?_
       refine FW.exit ?_
       obtain rfl:=Option.some.inj hp
       exact ⟨nofun,rfl,⟨_,SC6,iC7,kCa,kCb⟩⟩
     ·
      clear hq
      intro e fET wES hD
      rcases qAq with sAq|xAq
      ·
       obtain ⟨rfl,hD⟩:=hD
       obtain ⟨HEP,SEQ,iER,kEU,kEV⟩:=hD
       replace hp:=el_go hp
       refine FW.seq (FW.region ?_)
       refine FL.v (E.load kEU (zat Tryz.isAgg26 Tryz.sizeOf26 ((at44.mono ((((((r50.inc.tr i64).tr r71.inc).tr i85).tr i95).tr iAi).tr iER)).now SEQ.sl) rfl)) ?_
       obtain ⟨rEW,hrEX,hp⟩:=bnd hp
       refine FL.call rfl rfl rfl (E.call Tryz.call13 (A1 rfl)) (ze2 SEQ.sl r25 v31 (h32.mono (upI.tr (((((((i43.tr r50.inc).tr i64).tr r71.inc).tr i85).tr i95).tr iAi).tr iER))) hrEX) ?_
       rintro e wEZ ⟨HEY,vF2,nF3,csF4,rfl,rF1,elsF5⟩
       refine ⟨_,rfl,?_⟩
       have SF0:=SEQ.join (l':=[.row 34 1 vF2 nF3 csF4]) rF1 rfl
       refine FL.v (E.move (v:=Value.tuple #[vF2,Value.bool rEW.2]) rfl) ?_
       refine FL.v (E.extract (i:=0) rfl rfl) ?_
       refine FL.v (E.extract (i:=1) rfl rfl) ?_
       refine FL.v (E.assign (v:=vF2) rfl) ?_
       refine FL.v (E.assign (v:=Value.bool rEW.2) rfl) ?_
       refine FL.nil (FW.seq (FW.seq (FW.region ?_)))
       refine FL.v (E.load kEU (zat Tryz.isAgg26 Tryz.sizeOf26 ((at44.mono (((((((r50.inc.tr i64).tr r71.inc).tr i85).tr i95).tr iAi).tr iER).tr rF1.run.inc)).now SF0.sl) rfl)) ?_
       obtain ⟨rF6,hrF7,hp⟩:=bnd hp
       refine FL.call rfl rfl rfl (E.call Tryz.call14 (A1 rfl)) (ze6 SF0.sl r25 v31 (h32.mono (upI.tr ((((((((i43.tr r50.inc).tr i64).tr r71.inc).tr i85).tr i95).tr iAi).tr iER).tr rF1.run.inc))) hrF7) ?_
       rintro e wF9 ⟨HF8,vFc,nFd,csFe,rfl,rFb,elsFf,ndFg⟩
       refine ⟨_,rfl,?_⟩
       have nvFh:New HEY csFe:=New.of_up SF0.sl elsFf.dom
       have elsFf:=elsFf.mono (up_le SF0.size)
       have SFa:=SF0.join (l':=[.row 34 1 vFc nFd csFe,.row 34 1 vF2 nF3 csF4]) rFb rfl
       refine FL.v (E.move (v:=Value.tuple #[vFc,Value.bool rF6.2]) rfl) ?_
       refine FL.v (E.extract (i:=0) rfl rfl) ?_
       refine FL.v (E.extract (i:=1) rfl rfl) ?_
       refine FL.v (E.assign (v:=vFc) rfl) ?_
       refine FL.v (E.assign (v:=Value.bool rF6.2) rfl) ?_
       refine FL.nil (FW.seq (FW.region ?_))
       refine FL.v (E.move (v:=Value.bool rEW.2) rfl) ?_
       refine FL.v (E.move (v:=Value.bool rF6.2) rfl) ?_
       refine FL.v (E.neqB Tryz.runUnderlying4 rfl rfl) ?_
       refine FL.v (E.move (v:=Value.bool (!(rEW.2 == rF6.2))) rfl) ?_
       obtain ⟨t444,hqtFy,hp⟩:=bnd hp
       refine FL.cut 5 (fun f w=>∃ H:GH,St Ha wa H w [.row 34 1 vFc nFd csFe,.row 34 1 vF2 nF3 csF4]∧Inc HF8 H∧f 4=Value.pointer (some ⟨b53,0,none⟩)∧f 14=vF2∧f 15=Value.bool rEW.2∧f 113=Value.bool t444) ?_ ?_
       ·
        clear hp;have hp:=hqtFy;clear hqtFy
        rcases ifB hp with ⟨cFE,hp⟩|⟨cFE,hp⟩
        ·
         refine FL.skip (wF_no rfl rfl rfl cFE) rfl ?_
         refine FL.skip (wF_no rfl rfl rfl cFE) rfl ?_
         refine FL.skip (wF_no rfl rfl rfl cFE) rfl ?_
         refine FL.skip (wF_no rfl rfl rfl cFE) rfl ?_
         obtain rfl:=Option.some.inj hp
         refine FL.v (E.pickT rfl cFE rfl) ?_
         exact FL.nil ⟨rfl,_,SFa,(Inc.rfl _),kEV,rfl,rfl,rfl⟩
        ·
         refine FL.val (zac rfl rfl rfl cFE) rfl rfl (E.move (v:=vF2) rfl) ?_
         refine FL.val (zac rfl rfl rfl cFE) rfl rfl (E.move (v:=vFc) rfl) ?_
         obtain ⟨HFF,SFG,iFH,hFI⟩:=SFa.sealRow (i:=1) (l':=[.row 34 1 vFc nFd csFe]) rfl (elsF5.mono rFb.run.inc) (by decide) rfl
         obtain ⟨HFK,SFL,iFM,nsFP,nvFO⟩:=SFG.sealRowN (i:=0) (l':=[]) rfl (elsFf.mono (zae iFH)) ndFg (by decide) rfl
         have hFN:=nsFP.rsl
         obtain ⟨rFQ,hrFR,hp⟩:=bnd hp
         refine FL.call (zac rfl rfl rfl cFE) rfl rfl (E.call Tryz.call15 (A2 rfl rfl)) (zd0 SFL.sl vF2 rEW.1 (hFI.mono iFM) vFc rF6.1 (hFN.mono upI) hrFR) ?_
         rintro e wFS ⟨rfl,rFT⟩
         refine ⟨_,rfl,?_⟩
         have rFT:=Run.lend (iFH.tr iFM) SFa.sl rFT
         have SFU:=SFa.call rFT
         refine FL.val (zac rfl rfl rfl cFE) rfl rfl (E.not rfl) ?_
         obtain rfl:=Option.some.inj hp
         refine FL.v (E.pickF rfl cFE rfl) ?_
         exact FL.nil ⟨rfl,_,SFU,(Inc.rfl _),kEV,rfl,rfl,rfl⟩
       rintro fFD wFC ⟨HFz,SFA,iFB,kFV,kFW,kFX,kFY⟩
       refine FL.nil ?_
       rcases ifB hp with ⟨cFZ,hp⟩|⟨cFZ,hp⟩
       ·
        refine FW.condT kFY cFZ ?_
        refine FW.seq (FW.region ?_)
        refine FL.v (E.assign (v:=Value.bool false) rfl) ?_
        refine FL.nil ?_
        refine FW.ret ?_
        obtain rfl:=Option.some.inj hp
        exact ⟨.inr rfl,res1 rfl rfl ⟨rfl,SFA.back⟩⟩
       ·
        refine FW.condF kFY cFZ ?_
        refine FW.skip (FW.seq (FW.region ?_))
        refine FL.v (E.move kFX) ?_
        refine FL.v (E.not rfl) ?_
        refine FL.v (E.move (v:=Value.bool (!rEW.2)) rfl) ?_
        obtain ⟨t482,hqtGa,hp⟩:=bnd hp
        refine FL.cut 5 (fun f w=>∃ H:GH,St Ha wa H w [.row 34 1 vFc nFd csFe,.row 34 1 vF2 nF3 csF4]∧Inc HFz H∧f 121=Value.bool t482) ?_ ?_
        ·
         clear hp;have hp:=hqtGa;clear hqtGa
         rcases ifB hp with ⟨cGg,hp⟩|⟨cGg,hp⟩
         ·
          refine FL.skip (wF_no rfl rfl rfl cGg) rfl ?_
          refine FL.skip (wF_no rfl rfl rfl cGg) rfl ?_
          refine FL.skip (wF_no rfl rfl rfl cGg) rfl ?_
          refine FL.skip (wF_no rfl rfl rfl cGg) rfl ?_
          obtain rfl:=Option.some.inj hp
          refine FL.v (E.pickT rfl cGg rfl) ?_
          exact FL.nil ⟨rfl,_,SFA,(Inc.rfl _),rfl⟩
         ·
          refine FL.val (zac rfl rfl rfl cGg) rfl rfl (E.move kFW) ?_
          refine FL.val (zac rfl rfl rfl cGg) rfl rfl (E.fieldAddr zan kFV) ?_
          refine FL.val (zac rfl rfl rfl cGg) rfl rfl (E.load rfl (zag Tryz.isAgg24 ((at65.mono (((((((r71.inc.tr i85).tr i95).tr iAi).tr iER).tr rF1.run.inc).tr rFb.run.inc).tr iFB)).now SFA.sl) rfl)) ?_
          obtain ⟨HGh,SGi,iGj,hGk⟩:=SFA.sealRow (i:=1) (l':=[.row 34 1 vFc nFd csFe]) rfl (elsF5.mono (rFb.run.inc.tr iFB)) (by decide) rfl
          obtain ⟨rGm,hrGn,hp⟩:=bnd hp
          refine FL.call (zac rfl rfl rfl cGg) rfl rfl (E.call Tryz.call15 (A2 rfl rfl)) (zd0 SGi.sl vF2 rEW.1 hGk v51 r45.1.clauses (h52.mono (((((((((i64.tr r71.inc).tr i85).tr i95).tr iAi).tr iER).tr rF1.run.inc).tr rFb.run.inc).tr iFB).tr iGj)) hrGn) ?_
          rintro e wGo ⟨rfl,rGp⟩
          refine ⟨_,rfl,?_⟩
          have rGp:=Run.lend iGj SFA.sl rGp
          have SGq:=SFA.call rGp
          obtain rfl:=Option.some.inj hp
          refine FL.v (E.pickF rfl cGg rfl) ?_
          exact FL.nil ⟨rfl,_,SGq,(Inc.rfl _),rfl⟩
        rintro fGf wGe ⟨HGb,SGc,iGd,kGr⟩
        refine FL.v (E.assign kGr) ?_
        refine FL.nil ?_
        refine FW.ret ?_
        obtain rfl:=Option.some.inj hp
        exact ⟨.inr rfl,res1 rfl rfl ⟨rfl,SGc.back⟩⟩
      ·
       obtain ⟨he,hL⟩:=hD
       replace hp:=el_rt hp
       obtain rfl:=Option.some.inj hp
       subst he
       exact hL

end Go.Proofs
