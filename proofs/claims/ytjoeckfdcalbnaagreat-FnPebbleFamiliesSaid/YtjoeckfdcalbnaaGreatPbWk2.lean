/- Part of the walks and plain laws behind the claim: it proves helpers, under no condition beyond their own. -/
import Derived.Test.YtjoeckfdcalbnaaGreatPbWk1
set_option linter.unusedVariables false
set_option maxRecDepth 100000
namespace Go.Proofs
open Go.Mr Go.Pu Go.PF Go.RowKit

@[reducible] def p_spec_l1Cur_cnf (H0:GH) (w0:World) (Ha:GH) (L:List MO) (b0:Nat) (r:(Cnf×l1Cur)):Ending→World→Prop :=
 fun e w'=>∃ H':GH,∃ v0_1:Value,∃ v0_0r:Value,e=.returned (Value.agg #[Value.int .i64 r.1.vars,v0_1])∧(St H0 w0 H' w' (.box b0 63 [v0_0r,Value.int .i64 r.2.at_,Value.int .u64 r.2.seed]::L)∧Inc Ha H')∧RSl (up w0.heap.size H') (eL eI 1) 1 v0_1 r.1.clauses∧RSl H' (eN .u8) 1 v0_0r r.2.code
set_option maxHeartbeats 4000000 in
theorem w_spec_l1Cur_cnf {H0 Ha:GH} {w0 wa:World} {L:List MO} {a0:l1Cur} {b0:Nat} {v0_0:Value} (S0:St H0 w0 Ha wa (.box b0 63 [v0_0,Value.int .i64 a0.at_,Value.int .u64 a0.seed]::L)) (p0_0:RSl Ha (eN .u8) 1 v0_0 a0.code) {r:(Cnf×l1Cur)} (hp:(PF.zde a0)=some r) :
  Calls Tryz.prog 79 #[Value.pointer (some (⟨b0,0,none⟩:Addr))] wa (p_spec_l1Cur_cnf H0 w0 Ha L b0 r):=by
 unfold PF.zde at hp
 refine zae (N:=76) (args:=[Value.pointer (some (⟨b0,0,none⟩:Addr))]) Tryz.func79 rfl rfl rfl ?_
 refine FW.seq (FW.region ?_)
 obtain ⟨b21,w22,run23,S24⟩:=S0.alloc (P:=Tryz.prog) 26 [Value.int .i64 0,Value.slice none 0 0] Tryz.zeroValue26 rfl (zac rfl (zac rfl zad))
 refine FL.v (E.alloc run23) ?_
 refine FL.nil (FW.seq (FW.seq (FW.region ?_)))
 refine FL.v (E.move (v:=Value.pointer (some (⟨b0,0,none⟩:Addr))) rfl) ?_
 obtain ⟨r25,hr26,hp⟩:=bnd hp
 have S27:St H0 w0 Ha w22 (.box b0 63 [v0_0,Value.int .i64 a0.at_,Value.int .u64 a0.seed]::.box b21 26 [Value.int .i64 0,Value.slice none 0 0]::L):=S24.front 1 rfl rfl
 refine FL.call rfl rfl rfl (E.call Tryz.call80 (A2 rfl rfl)) (zcl (L:=(.box b21 26 [Value.int .i64 0,Value.slice none 0 0]::L)) S27 (a0:=a0) p0_0 4 hr26) ?_
 rintro e w29 ⟨H28,v32,rfl,⟨S30,i31⟩,h33⟩
 refine ⟨_,rfl,?_⟩
 have S30:St H0 w0 H28 w29 (.box b0 63 [v32,Value.int .i64 r25.2.at_,Value.int .u64 r25.2.seed]::.box b21 26 [Value.int .i64 0,Value.slice none 0 0]::L):=S30
 refine FL.nil ?_
 rcases ifB hp with ⟨c34,hp⟩|⟨c34,hp⟩
 ·
  refine FW.condT rfl c34 ?_
  refine FW.seq (FW.region ?_)
  refine FL.v (E.move (v:=Value.pointer (some (⟨b0,0,none⟩:Addr))) rfl) ?_
  obtain ⟨r35,hr36,hp⟩:=bnd hp
  refine FL.call rfl rfl rfl (E.call Tryz.call81 (A1 rfl)) (zeP (L:=(.box b21 26 [Value.int .i64 0,Value.slice none 0 0]::L)) S30 (a0:=r25.2) h33 hr36) ?_
  rintro e w38 ⟨H37,v41,v43,rfl,⟨S39,i40⟩,⟨_,⟨h42,_⟩⟩,h44⟩
  refine ⟨_,rfl,?_⟩
  have S39:St H0 w0 H37 w38 (.box b0 63 [v43,Value.int .i64 r35.2.at_,Value.int .u64 r35.2.seed]::.box b21 26 [Value.int .i64 0,Value.slice none 0 0]::L):=S39
  obtain ⟨w45,run46,S47⟩:=S39.store0 (P:=Tryz.prog) (t:=26) (i:=1) (cs':=[Value.int .i64 r35.1.vars,v41]) (l':=(.box b0 63 [v43,Value.int .i64 r35.2.at_,Value.int .u64 r35.2.seed]::.box b21 26 [Value.int .i64 r35.1.vars,v41]::L)) (v:=Value.agg #[Value.int .i64 r35.1.vars,v41]) (c:=[Value.int .i64 r35.1.vars,v41]) rfl Tryz.sizeOf26 rfl rfl (zac rfl (zac h42.one zad)) (Nat.le_of_ble_eq_true rfl) rfl rfl
  refine FL.act rfl rfl (E.store rfl rfl run46) ?_
  refine FL.nil ?_
  refine FW.ret ?_
  obtain rfl:=Option.some.inj hp
  exact ⟨.inr rfl,resC rfl rfl (zaB Tryz.isAgg26 Tryz.sizeOf26 (S47.box_now (i:=1) rfl) rfl) ⟨_,_,_,rfl,⟨(S47.selT (a:=[.box b0 63 [v43,Value.int .i64 r35.2.at_,Value.int .u64 r35.2.seed],.box b21 26 [Value.int .i64 r35.1.vars,v41]]) (l':=[.box b0 63 [v43,Value.int .i64 r35.2.at_,Value.int .u64 r35.2.seed]]) [0] (by decide) rfl),(i31.tr i40)⟩,h42,h44⟩⟩
 ·
  refine FW.condF rfl c34 ?_
  refine FW.skip (FW.seq (FW.region ?_))
  refine FL.v (E.move (v:=Value.pointer (some (⟨b0,0,none⟩:Addr))) rfl) ?_
  obtain ⟨v48,w49,run50,S51,els52⟩:=S30.ints (P:=Tryz.prog) te34 (up w0.heap.size H28) 5 [2,3,3,4,5]
  refine FL.v (E.buildSlice (B5 rfl rfl rfl rfl rfl) run50) ?_
  obtain ⟨H53,S54,i55,h56,nv57⟩:=S51.sealRowU (i:=0) (l':=(.box b0 63 [v32,Value.int .i64 r25.2.at_,Value.int .u64 r25.2.seed]::.box b21 26 [Value.int .i64 0,Value.slice none 0 0]::L)) rfl els52 (by decide) rfl
  obtain ⟨r58,hr59,hp⟩:=bnd hp
  refine FL.call rfl rfl rfl (E.call Tryz.call82 (A2 rfl rfl)) (zby (L:=(.box b21 26 [Value.int .i64 0,Value.slice none 0 0]::L)) S54 (a0:=r25.2) (h33.mono i55) v48 [2,3,3,4,5] (h56.mono upI) hr59) ?_
  rintro e w61 ⟨H60,v64,rfl,⟨S62,i63⟩,h65⟩
  refine ⟨_,rfl,?_⟩
  have S62:St H0 w0 H60 w61 (.box b0 63 [v64,Value.int .i64 r58.2.at_,Value.int .u64 r58.2.seed]::.box b21 26 [Value.int .i64 0,Value.slice none 0 0]::L):=S62
  obtain ⟨v66,w67,run68,S69⟩:=S62.buildSlice (P:=Tryz.prog) te24 [] (parts:=#[]) (cells:=[]) rfl zao zan zad (Nat.le_of_ble_eq_true rfl)
  have els70:Els (up w0.heap.size H60) (eL eI 1) 1 [] []:=Els.nil
  refine FL.v (E.buildSlice (B0) run68) ?_
  refine FL.v (E.build (B2 rfl rfl) (run_build _ 26 #[(0,Value.int .i64 r58.1),(1,v66)] #[Value.int .i64 r58.1,v66] (by obtain ⟨_,_,rfl⟩:=S69.row_ln (i:=0) rfl;rfl))) ?_
  obtain ⟨b71,w72,run73,S74⟩:=S69.alloc (P:=Tryz.prog) 26 [Value.int .i64 0,Value.slice none 0 0] Tryz.zeroValue26 rfl (zac rfl (zac rfl zad))
  refine FL.v (E.alloc run73) ?_
  obtain ⟨w75,run76,S77⟩:=S74.store0 (P:=Tryz.prog) (t:=26) (i:=0) (cs':=[Value.int .i64 r58.1,v66]) (l':=(.box b71 26 [Value.int .i64 r58.1,v66]::.row 34 1 v66 0 []::.box b0 63 [v64,Value.int .i64 r58.2.at_,Value.int .u64 r58.2.seed]::.box b21 26 [Value.int .i64 0,Value.slice none 0 0]::L)) (v:=Value.agg #[Value.int .i64 r58.1,v66]) (c:=[Value.int .i64 r58.1,v66]) rfl Tryz.sizeOf26 rfl rfl (zac rfl (zac (Ln.one (S74.row_ln (i:=1) rfl)) zad)) (Nat.le_of_ble_eq_true rfl) rfl rfl
  refine FL.act rfl rfl (E.store rfl rfl run76) ?_
  refine FL.nil (FW.seq (FW.seq (FW.region ?_)))
  refine FL.v (E.move (v:=Value.pointer (some (⟨b0,0,none⟩:Addr))) rfl) ?_
  obtain ⟨r78,hr79,hp⟩:=bnd hp
  have S80:St H0 w0 H60 w75 (.box b0 63 [v64,Value.int .i64 r58.2.at_,Value.int .u64 r58.2.seed]::.box b71 26 [Value.int .i64 r58.1,v66]::.row 34 1 v66 0 []::.box b21 26 [Value.int .i64 0,Value.slice none 0 0]::L):=S77.front 2 rfl rfl
  refine FL.call rfl rfl rfl (E.call Tryz.call74 (A2 rfl rfl)) (zaR (L:=(.box b71 26 [Value.int .i64 r58.1,v66]::.row 34 1 v66 0 []::.box b21 26 [Value.int .i64 0,Value.slice none 0 0]::L)) S80 (a0:=r58.2) h65 10 hr79) ?_
  rintro e w82 ⟨H81,v85,rfl,⟨S83,i84⟩,h86⟩
  refine ⟨_,rfl,?_⟩
  have S83:St H0 w0 H81 w82 (.box b0 63 [v85,Value.int .i64 r78.2.at_,Value.int .u64 r78.2.seed]::.box b71 26 [Value.int .i64 r58.1,v66]::.row 34 1 v66 0 []::.box b21 26 [Value.int .i64 0,Value.slice none 0 0]::L):=S83
  refine FL.v (E.assign (v:=Value.int .i64 r78.1) rfl) ?_
  refine FL.nil ?_
  obtain ⟨q87,hq,hp⟩:=bndR hp
  refine FW.block ?_
  refine FW.mono (FW.iter (S:=((List (List Int))×(List Int)×Int×Int×Int)) (X:=Empty) (fun (s87:((List (List Int))×(List Int)×Int×Int×Int)) f w=>∃ H:GH,∃ v88:Value,∃ n89:Nat,∃ cs90:List Value,∃ v93:Value,St H0 w0 H w (.box b0 63 [v93,Value.int .i64 s87.2.2.1,Value.int .u64 s87.2.2.2.1]::.box b71 26 [Value.int .i64 r58.1,v88]::.row 34 1 v88 n89 cs90::.box b21 26 [Value.int .i64 0,Value.slice none 0 0]::L)∧Inc H81 H∧Els (up w0.heap.size H) (eL eI 1) 1 cs90 s87.1∧RSl H (eN .u8) 1 v93 s87.2.1∧(bl cs90).Nodup∧f 0=Value.pointer (some (⟨b0,0,none⟩:Addr))∧f 2=Value.pointer (some (⟨b21,0,none⟩:Addr))∧f 3=Value.pointer (some (⟨b71,0,none⟩:Addr))∧f 4=Value.int .i64 s87.2.2.2.2) (fun (q:Rs ((List (List Int))×(List Int)×Int×Int×Int) Empty) e f w=>match q with|.go s87=>e=Exit.exit 0∧(∃ H:GH,∃ v88:Value,∃ n89:Nat,∃ cs90:List Value,∃ v93:Value,St H0 w0 H w (.box b0 63 [v93,Value.int .i64 s87.2.2.1,Value.int .u64 s87.2.2.2.1]::.box b71 26 [Value.int .i64 r58.1,v88]::.row 34 1 v88 n89 cs90::.box b21 26 [Value.int .i64 0,Value.slice none 0 0]::L)∧Inc H81 H∧Els (up w0.heap.size H) (eL eI 1) 1 cs90 s87.1∧RSl H (eN .u8) 1 v93 s87.2.1∧(bl cs90).Nodup∧f 0=Value.pointer (some (⟨b0,0,none⟩:Addr))∧f 2=Value.pointer (some (⟨b21,0,none⟩:Addr))∧f 3=Value.pointer (some (⟨b71,0,none⟩:Addr)))|.rt x=>x.elim) hq ⟨_,_,_,_,_,S83,(Inc.rfl _),(els70.mono (zag i84)),h86,(show (bl []).Nodup from List.nodup_nil),rfl,rfl,rfl,rfl⟩ ?_) ?_
  ·
   clear hp hq
   rintro s87 f99 w98 ⟨H95,v88,n89,cs90,v93,S96,i97,els91,h94,nd92,kA0,kA1,kA2,kA3⟩ oB0 hp
   refine FW.seq (FW.seq (FW.region ?_))
   refine FL.v (E.move kA3) ?_
   refine FL.v (E.gtr rfl rfl) ?_
   refine FL.nil ?_
   rcases ifB hp with ⟨cA4,hp⟩|⟨cA4,hp⟩
   ·
    refine FW.condT rfl cA4 ?_
    refine FW.skip (FW.seq (FW.block ?_))
    obtain ⟨rA8,hrA9,hp⟩:=bnd hp
    obtain ⟨xsAv,hzAw,hp⟩:=bnd hp
    refine FW.drawB (Sl H95) (fun f w=>∃ H:GH,∃ vAK:Value,∃ nAL:Nat,∃ csAM:List Value,∃ vAP:Value,St H0 w0 H w (.box b0 63 [vAP,Value.int .i64 rA8.2.at_,Value.int .u64 rA8.2.seed]::.box b71 26 [Value.int .i64 r58.1,vAK]::.row 34 1 vAK nAL csAM::.box b21 26 [Value.int .i64 0,Value.slice none 0 0]::L)∧Inc H95 H∧Els (up w0.heap.size H) (eL eI 1) 1 csAM xsAv∧RSl H (eN .u8) 1 vAP rA8.2.code∧(bl csAM).Nodup∧f 0=Value.pointer (some (⟨b0,0,none⟩:Addr))∧f 2=Value.pointer (some (⟨b21,0,none⟩:Addr))∧f 3=Value.pointer (some (⟨b71,0,none⟩:Addr))∧f 4=Value.int .i64 s87.2.2.2.2) (by kernel_rfl) S96.sl ?_ ?_
    ·
     intro wA5 rA6
     have SA7:=S96.call rA6
     refine FB.phase [] (fun w=>WAt w (Addr.add ⟨b71,0,none⟩ 0) [Value.int .i64 r58.1]) ?_
     refine FB.phase [9] (fun w=>WAt w (Addr.add ⟨b71,0,none⟩ 1) [v88]) ?_
     refine FB.t (i:=0) (bs 10 1) rfl (SP.on ((SA7.box_now (i:=1) rfl).sub (j:=1) (n:=1) (c:=[v88]) rfl) (SP.on ((SA7.box_now (i:=1) rfl).sub (j:=0) (n:=1) (c:=[Value.int .i64 r58.1]) rfl) (SP.nil SA7.sl))) rfl (fun w' hw'=>(E.fieldAddr zay kA2)) ?_
     refine FB.p (i:=1) (bs 10 3) 0 [7,8,9] rfl (SP.on ((SA7.box_now (i:=1) rfl).sub (j:=1) (n:=1) (c:=[v88]) rfl) (SP.on ((SA7.box_now (i:=1) rfl).sub (j:=0) (n:=1) (c:=[Value.int .i64 r58.1]) rfl) (SP.nil SA7.sl))) rfl rfl (fun w' hw'=>(E.load rfl (zaf Tryz.isAgg24 hw' rfl))) ?_
     refine FB.t (i:=2) (bs 10 7) rfl (SP.on ((SA7.box_now (i:=1) rfl).sub (j:=1) (n:=1) (c:=[v88]) rfl) (SP.on ((SA7.box_now (i:=1) rfl).sub (j:=0) (n:=1) (c:=[Value.int .i64 r58.1]) rfl) (SP.nil SA7.sl))) rfl (fun w' hw'=>(E.move kA0)) ?_
     refine FB.t (i:=3) (bs 10 15) rfl (SP.on ((SA7.box_now (i:=1) rfl).sub (j:=1) (n:=1) (c:=[v88]) rfl) (SP.on ((SA7.box_now (i:=1) rfl).sub (j:=0) (n:=1) (c:=[Value.int .i64 r58.1]) rfl) (SP.nil SA7.sl))) rfl (fun w' hw'=>(E.fieldAddr zaC kA2)) ?_
     refine FB.p (i:=4) (bs 10 31) 1 [5,6,7,8,9] rfl (SP.on ((SA7.box_now (i:=1) rfl).sub (j:=1) (n:=1) (c:=[v88]) rfl) (SP.on ((SA7.box_now (i:=1) rfl).sub (j:=0) (n:=1) (c:=[Value.int .i64 r58.1]) rfl) (SP.nil SA7.sl))) rfl rfl (fun w' hw'=>(E.load rfl (zaf Tryz.isAgg3 hw' rfl))) ?_
     refine FB.all1 (i:=5) (by kernel_rfl) ?_
     ·
      refine FC.call (l':=(bs 10 63)) rfl (by kernel_rfl) rfl rfl rfl (E.call Tryz.call111 (A2 rfl rfl)) (zdC (L:=(.box b71 26 [Value.int .i64 r58.1,v88]::.row 34 1 v88 n89 cs90::.box b21 26 [Value.int .i64 0,Value.slice none 0 0]::L)) SA7 (a0:=(l1Cur.mk s87.2.1 s87.2.2.1 s87.2.2.2.1)) h94 r58.1 hrA9) ?_
      rintro e wAb ⟨HAa,vAe,nAf,csAg,vAi,rfl,⟨SAc,iAd⟩,elsAh,hAj⟩
      refine ⟨_,rfl,?_⟩
      have SAc:St H0 w0 HAa wAb (.row 3 1 vAe nAf csAg::.box b0 63 [vAi,Value.int .i64 rA8.2.at_,Value.int .u64 rA8.2.seed]::.box b71 26 [Value.int .i64 r58.1,v88]::.row 34 1 v88 n89 cs90::.box b21 26 [Value.int .i64 0,Value.slice none 0 0]::L):=SAc
      refine ⟨(SP.on ((SAc.box_now (i:=2) rfl).sub (j:=1) (n:=1) (c:=[v88]) rfl) (SP.on ((SAc.box_now (i:=2) rfl).sub (j:=0) (n:=1) (c:=[Value.int .i64 r58.1]) rfl) (SP.nil (Sl.of_inc iAd SAc.sl)))),?_⟩
      refine FB.all1 (i:=6) (by kernel_rfl) ?_
      ·
       obtain ⟨HAk,SAl,iAm,hAn,nvAo⟩:=SAc.sealRowU (i:=0) (l':=(.box b0 63 [vAi,Value.int .i64 rA8.2.at_,Value.int .u64 rA8.2.seed]::.box b71 26 [Value.int .i64 r58.1,v88]::.row 34 1 v88 n89 cs90::.box b21 26 [Value.int .i64 0,Value.slice none 0 0]::L)) rfl elsAh (by decide) rfl
       obtain ⟨vAp,wAq,runAr,SAs⟩:=SAl.buildSlice (P:=Tryz.prog) te24 [vAe] (parts:=#[(0,vAe)]) (cells:=[vAe]) rfl (zat (zaH hAn.cells) zao) (zas hAn.cells zan) (zac hAn.one zad) (Nat.le_of_ble_eq_true rfl)
       have elsAt:Els (up w0.heap.size HAk) (eL eI 1) 1 [vAe] [rA8.1]:=(Els.snoc (H:=(up w0.heap.size HAk)) (E:=(eL eI 1)) (k:=1) (c:=[vAe]) (x:=rA8.1) Els.nil rfl ⟨_,rfl,hAn⟩)
       have ndAu:(bl [vAe]).Nodup:=by exact za5 vAe
       refine FC.val (l':=(bs 10 127)) rfl (by kernel_rfl) rfl rfl rfl (E.buildSlice (B1 rfl) runAr) ?_
       refine ⟨(SP.on ((SAs.box_now (i:=2) rfl).sub (j:=1) (n:=1) (c:=[v88]) rfl) (SP.on ((SAs.box_now (i:=2) rfl).sub (j:=0) (n:=1) (c:=[Value.int .i64 r58.1]) rfl) (SP.nil (Sl.of_inc (iAd.tr iAm) SAs.sl)))),?_⟩
       refine FB.all1 (i:=7) (by kernel_rfl) ?_
       ·
        obtain ⟨vAx,wAA,nAy,csAz,runAB,SAC,elsAD,ceAE⟩:=SAs.appendO (P:=Tryz.prog) te24 (i:=3) (j:=0) rfl (els91.mono (zag (iAd.tr iAm))) rfl elsAt hzAw
        have SAC:St H0 w0 HAk wAA (.row 34 1 vAp 1 [vAe]::.box b0 63 [vAi,Value.int .i64 rA8.2.at_,Value.int .u64 rA8.2.seed]::.box b71 26 [Value.int .i64 r58.1,v88]::.row 34 1 vAx nAy csAz::.box b21 26 [Value.int .i64 0,Value.slice none 0 0]::L):=SAC
        have ndAF:(bl csAz).Nodup:=by rw [ceAE];exact zba nd92 ndAu (Els.dom (els91.mono (upI.tr iAd))) (by exact nvAo)
        have SAG:St H0 w0 HAk wAA (.box b0 63 [vAi,Value.int .i64 rA8.2.at_,Value.int .u64 rA8.2.seed]::.box b71 26 [Value.int .i64 r58.1,v88]::.row 34 1 vAx nAy csAz::.box b21 26 [Value.int .i64 0,Value.slice none 0 0]::L):=SAC.drop 0
        refine FC.val (l':=(bs 10 255)) rfl (by kernel_rfl) rfl rfl rfl (E.append rfl rfl runAB) ?_
        refine ⟨(SP.on ((SAG.box_now (i:=1) rfl).sub (j:=1) (n:=1) (c:=[v88]) rfl) (SP.on ((SAG.box_now (i:=1) rfl).sub (j:=0) (n:=1) (c:=[Value.int .i64 r58.1]) rfl) (SP.nil (Sl.of_inc (iAd.tr iAm) SAG.sl)))),?_⟩
        refine FB.t (i:=8) (bs 10 511) rfl (SP.on ((SAG.box_now (i:=1) rfl).sub (j:=1) (n:=1) (c:=[v88]) rfl) (SP.on ((SAG.box_now (i:=1) rfl).sub (j:=0) (n:=1) (c:=[Value.int .i64 r58.1]) rfl) (SP.nil (Sl.of_inc (iAd.tr iAm) SAG.sl)))) rfl (fun w' hw'=>(E.fieldAddr zay kA2)) ?_
        refine FB.all1 (i:=9) (by kernel_rfl) ?_
        ·
         obtain ⟨wAH,runAI,SAJ⟩:=SAG.store (P:=Tryz.prog) (t:=24) (i:=1) (j:=1) (cs':=[Value.int .i64 r58.1,vAx]) (l':=(.box b0 63 [vAi,Value.int .i64 rA8.2.at_,Value.int .u64 rA8.2.seed]::.box b71 26 [Value.int .i64 r58.1,vAx]::.row 34 1 vAx nAy csAz::.box b21 26 [Value.int .i64 0,Value.slice none 0 0]::L)) (v:=vAx) (c:=[vAx]) rfl Tryz.sizeOf24 (Ln.cells (SAG.row_ln (i:=2) rfl)) rfl (zac (Ln.one (SAG.row_ln (i:=2) rfl)) zad) (Nat.le_of_ble_eq_true rfl) rfl rfl
         refine FC.act (l':=(bs 10 1023)) rfl (by kernel_rfl) rfl rfl (E.store rfl rfl runAI) ?_
         refine ⟨(SP.o (SP.on ((SAJ.box_now (i:=1) rfl).sub (j:=0) (n:=1) (c:=[Value.int .i64 r58.1]) rfl) (SP.nil (Sl.of_inc (iAd.tr iAm) SAJ.sl)))),?_⟩
         exact FB.done (by kernel_rfl) ⟨_,_,_,_,_,SAJ,(iAd.tr iAm),elsAD,(hAj.mono iAm),ndAF,kA0,kA1,kA2,kA3⟩
    ·
     rintro fAV wAU ⟨HAR,vAK,nAL,csAM,vAP,SAS,iAT,elsAN,hAQ,ndAO,kAW,kAX,kAY,kAZ⟩
     refine FW.region ?_
     refine FL.v (E.move kAZ) ?_
     refine FL.v (E.sub rfl rfl) ?_
     refine FL.v (E.assign (v:=Value.int .i64 (wr (s87.2.2.2.2 - 1))) rfl) ?_
     refine FL.nil ?_
     obtain rfl:=Option.some.inj hp
     exact ⟨rfl,⟨_,_,_,_,_,SAS,(i97.tr iAT),elsAN,hAQ,ndAO,kAW,kAX,kAY,rfl⟩⟩
   ·
    refine FW.condF rfl cA4 ?_
    refine FW.exit ?_
    obtain rfl:=Option.some.inj hp
    exact ⟨nofun,rfl,⟨_,_,_,_,_,S96,i97,els91,h94,nd92,kA0,kA1,kA2⟩⟩
  ·
   clear hq
   intro e fB5 wB4 hD
   rcases q87 with s87|x87
   ·
    obtain ⟨rfl,hD⟩:=hD
    obtain ⟨HB1,v88,n89,cs90,v93,SB2,iB3,els91,h94,nd92,kB6,kB7,kB8⟩:=hD
    replace hp:=el_go hp
    refine FW.seq (FW.seq (FW.region ?_))
    refine FL.v (E.move kB6) ?_
    obtain ⟨rB9,hrBa,hp⟩:=bnd hp
    refine FL.call rfl rfl rfl (E.call Tryz.call74 (A2 rfl rfl)) (zaR (L:=(.box b71 26 [Value.int .i64 r58.1,v88]::.row 34 1 v88 n89 cs90::.box b21 26 [Value.int .i64 0,Value.slice none 0 0]::L)) SB2 (a0:=(l1Cur.mk s87.2.1 s87.2.2.1 s87.2.2.2.1)) h94 40 hrBa) ?_
    rintro e wBc ⟨HBb,vBf,rfl,⟨SBd,iBe⟩,hBg⟩
    refine ⟨_,rfl,?_⟩
    have SBd:St H0 w0 HBb wBc (.box b0 63 [vBf,Value.int .i64 rB9.2.at_,Value.int .u64 rB9.2.seed]::.box b71 26 [Value.int .i64 r58.1,v88]::.row 34 1 v88 n89 cs90::.box b21 26 [Value.int .i64 0,Value.slice none 0 0]::L):=SBd
    refine FL.nil (FW.block (FW.seq (FW.region ?_)))
    refine FL.v (E.eql rfl rfl) ?_
    refine FL.v (E.assign (v:=Value.bool (rB9.1 == 0)) rfl) ?_
    refine FL.nil ?_
    rcases ifB hp with ⟨cBh,hp⟩|⟨cBh,hp⟩
    ·
     refine FW.condT rfl cBh ?_
     refine FW.region ?_
     refine FL.v (E.move kB6) ?_
     obtain ⟨vBi,wBj,runBk,SBl,elsBm⟩:=SBd.ints (P:=Tryz.prog) te34 (up w0.heap.size HBb) 5 [(-1),13,12,0,1]
     refine FL.v (E.buildSlice (B5 rfl rfl rfl rfl rfl) runBk) ?_
     obtain ⟨HBn,SBo,iBp,hBq,nvBr⟩:=SBl.sealRowU (i:=0) (l':=(.box b0 63 [vBf,Value.int .i64 rB9.2.at_,Value.int .u64 rB9.2.seed]::.box b71 26 [Value.int .i64 r58.1,v88]::.row 34 1 v88 n89 cs90::.box b21 26 [Value.int .i64 0,Value.slice none 0 0]::L)) rfl elsBm (by decide) rfl
     obtain ⟨rBs,hrBt,hp⟩:=bnd hp
     refine FL.call rfl rfl rfl (E.call Tryz.call82 (A2 rfl rfl)) (zby (L:=(.box b71 26 [Value.int .i64 r58.1,v88]::.row 34 1 v88 n89 cs90::.box b21 26 [Value.int .i64 0,Value.slice none 0 0]::L)) SBo (a0:=rB9.2) (hBg.mono iBp) vBi [(-1),13,12,0,1] (hBq.mono upI) hrBt) ?_
     rintro e wBv ⟨HBu,vBy,rfl,⟨SBw,iBx⟩,hBz⟩
     refine ⟨_,rfl,?_⟩
     have SBw:St H0 w0 HBu wBv (.box b0 63 [vBy,Value.int .i64 rBs.2.at_,Value.int .u64 rBs.2.seed]::.box b71 26 [Value.int .i64 r58.1,v88]::.row 34 1 v88 n89 cs90::.box b21 26 [Value.int .i64 0,Value.slice none 0 0]::L):=SBw
     refine FL.v (E.fieldAddr zaC kB8) ?_
     obtain ⟨wBA,runBB,SBC⟩:=SBw.store (P:=Tryz.prog) (t:=3) (i:=1) (j:=0) (cs':=[Value.int .i64 rBs.1,v88]) (l':=(.box b0 63 [vBy,Value.int .i64 rBs.2.at_,Value.int .u64 rBs.2.seed]::.box b71 26 [Value.int .i64 rBs.1,v88]::.row 34 1 v88 n89 cs90::.box b21 26 [Value.int .i64 0,Value.slice none 0 0]::L)) (v:=Value.int .i64 rBs.1) (c:=[Value.int .i64 rBs.1]) rfl Tryz.sizeOf3 rfl rfl (zac rfl zad) (Nat.le_of_ble_eq_true rfl) rfl rfl
     refine FL.act rfl rfl (E.store rfl rfl runBB) ?_
     refine FL.nil (FW.seq (FW.region ?_))
     refine FL.v (E.load kB8 (zai Tryz.isAgg26 Tryz.sizeOf26 (SBC.box_now (i:=1) rfl) rfl)) ?_
     obtain ⟨wBD,runBE,SBF⟩:=SBC.store0 (P:=Tryz.prog) (t:=26) (i:=3) (cs':=[Value.int .i64 rBs.1,v88]) (l':=(.box b0 63 [vBy,Value.int .i64 rBs.2.at_,Value.int .u64 rBs.2.seed]::.box b71 26 [Value.int .i64 rBs.1,v88]::.row 34 1 v88 n89 cs90::.box b21 26 [Value.int .i64 rBs.1,v88]::L)) (v:=Value.agg #[Value.int .i64 rBs.1,v88]) (c:=[Value.int .i64 rBs.1,v88]) rfl Tryz.sizeOf26 rfl rfl (zac rfl (zac (Ln.one (SBC.row_ln (i:=2) rfl)) zad)) (Nat.le_of_ble_eq_true rfl) rfl rfl
     refine FL.act rfl rfl (E.store kB7 rfl runBE) ?_
     refine FL.nil ?_
     refine FW.ret ?_
     obtain ⟨HBG,SBH,iBI,nsBL,nvBK⟩:=SBF.sealRowN (i:=2) (l':=(.box b0 63 [vBy,Value.int .i64 rBs.2.at_,Value.int .u64 rBs.2.seed]::.box b71 26 [Value.int .i64 rBs.1,v88]::.box b21 26 [Value.int .i64 rBs.1,v88]::L)) rfl (els91.mono (zag ((iBe.tr iBp).tr iBx))) nd92 (by decide) rfl
     have hBJ:=nsBL.rsl
     obtain rfl:=Option.some.inj hp
     exact ⟨.inr rfl,resC rfl kB7 (zaB Tryz.isAgg26 Tryz.sizeOf26 (SBH.box_now (i:=2) rfl) rfl) ⟨_,_,_,rfl,⟨(SBH.selT (a:=[.box b0 63 [vBy,Value.int .i64 rBs.2.at_,Value.int .u64 rBs.2.seed],.box b71 26 [Value.int .i64 rBs.1,v88],.box b21 26 [Value.int .i64 rBs.1,v88]]) (l':=[.box b0 63 [vBy,Value.int .i64 rBs.2.at_,Value.int .u64 rBs.2.seed]]) [0] (by decide) rfl),((((((((i31.tr i55).tr i63).tr i84).tr iB3).tr iBe).tr iBp).tr iBx).tr iBI)⟩,hBJ,(hBz.mono iBI)⟩⟩
    ·
     refine FW.condF rfl cBh ?_
     refine FW.seq (FW.region ?_)
     refine FL.v (E.eql rfl rfl) ?_
     refine FL.v (E.assign (v:=Value.bool (rB9.1 == 1)) rfl) ?_
     refine FL.nil ?_
     rcases ifB hp with ⟨cBM,hp⟩|⟨cBM,hp⟩
     ·
      refine FW.condT rfl cBM ?_
      obtain ⟨rBQ,hrBR,hp⟩:=bnd hp
      obtain ⟨xsCd,hzCe,hp⟩:=bnd hp
      refine FW.drawB (Sl HBb) (fun f w=>∃ H:GH,∃ vCs:Value,∃ nCt:Nat,∃ csCu:List Value,∃ vCx:Value,St H0 w0 H w (.box b0 63 [vCx,Value.int .i64 rBQ.2.at_,Value.int .u64 rBQ.2.seed]::.box b71 26 [Value.int .i64 r58.1,vCs]::.row 34 1 vCs nCt csCu::.box b21 26 [Value.int .i64 0,Value.slice none 0 0]::L)∧Inc HBb H∧Els (up w0.heap.size H) (eL eI 1) 1 csCu xsCd∧RSl H (eN .u8) 1 vCx rBQ.2.code∧(bl csCu).Nodup∧f 2=Value.pointer (some (⟨b21,0,none⟩:Addr))∧f 3=Value.pointer (some (⟨b71,0,none⟩:Addr))) (by kernel_rfl) SBd.sl ?_ ?_
      ·
       intro wBN rBO
       have SBP:=SBd.call rBO
       refine FB.phase [] (fun w=>WAt w (Addr.add ⟨b71,0,none⟩ 0) [Value.int .i64 r58.1]) ?_
       refine FB.phase [9] (fun w=>WAt w (Addr.add ⟨b71,0,none⟩ 1) [v88]) ?_
       refine FB.t (i:=0) (bs 10 1) rfl (SP.on ((SBP.box_now (i:=1) rfl).sub (j:=1) (n:=1) (c:=[v88]) rfl) (SP.on ((SBP.box_now (i:=1) rfl).sub (j:=0) (n:=1) (c:=[Value.int .i64 r58.1]) rfl) (SP.nil SBP.sl))) rfl (fun w' hw'=>(E.fieldAddr zay kB8)) ?_
       refine FB.p (i:=1) (bs 10 3) 0 [7,8,9] rfl (SP.on ((SBP.box_now (i:=1) rfl).sub (j:=1) (n:=1) (c:=[v88]) rfl) (SP.on ((SBP.box_now (i:=1) rfl).sub (j:=0) (n:=1) (c:=[Value.int .i64 r58.1]) rfl) (SP.nil SBP.sl))) rfl rfl (fun w' hw'=>(E.load rfl (zaf Tryz.isAgg24 hw' rfl))) ?_
       refine FB.t (i:=2) (bs 10 7) rfl (SP.on ((SBP.box_now (i:=1) rfl).sub (j:=1) (n:=1) (c:=[v88]) rfl) (SP.on ((SBP.box_now (i:=1) rfl).sub (j:=0) (n:=1) (c:=[Value.int .i64 r58.1]) rfl) (SP.nil SBP.sl))) rfl (fun w' hw'=>(E.move kB6)) ?_
       refine FB.t (i:=3) (bs 10 15) rfl (SP.on ((SBP.box_now (i:=1) rfl).sub (j:=1) (n:=1) (c:=[v88]) rfl) (SP.on ((SBP.box_now (i:=1) rfl).sub (j:=0) (n:=1) (c:=[Value.int .i64 r58.1]) rfl) (SP.nil SBP.sl))) rfl (fun w' hw'=>(E.fieldAddr zaC kB8)) ?_
       refine FB.p (i:=4) (bs 10 31) 1 [5,6,7,8,9] rfl (SP.on ((SBP.box_now (i:=1) rfl).sub (j:=1) (n:=1) (c:=[v88]) rfl) (SP.on ((SBP.box_now (i:=1) rfl).sub (j:=0) (n:=1) (c:=[Value.int .i64 r58.1]) rfl) (SP.nil SBP.sl))) rfl rfl (fun w' hw'=>(E.load rfl (zaf Tryz.isAgg3 hw' rfl))) ?_
       refine FB.all1 (i:=5) (by kernel_rfl) ?_
       ·
        refine FC.call (l':=(bs 10 63)) rfl (by kernel_rfl) rfl rfl rfl (E.call Tryz.call112 (A2 rfl rfl)) (zfl (L:=(.box b71 26 [Value.int .i64 r58.1,v88]::.row 34 1 v88 n89 cs90::.box b21 26 [Value.int .i64 0,Value.slice none 0 0]::L)) SBP (a0:=rB9.2) hBg r58.1 hrBR) ?_
        rintro e wBT ⟨HBS,vBW,nBX,csBY,vC0,rfl,⟨SBU,iBV⟩,elsBZ,hC1⟩
        refine ⟨_,rfl,?_⟩
        have SBU:St H0 w0 HBS wBT (.row 3 1 vBW nBX csBY::.box b0 63 [vC0,Value.int .i64 rBQ.2.at_,Value.int .u64 rBQ.2.seed]::.box b71 26 [Value.int .i64 r58.1,v88]::.row 34 1 v88 n89 cs90::.box b21 26 [Value.int .i64 0,Value.slice none 0 0]::L):=SBU
        refine ⟨(SP.on ((SBU.box_now (i:=2) rfl).sub (j:=1) (n:=1) (c:=[v88]) rfl) (SP.on ((SBU.box_now (i:=2) rfl).sub (j:=0) (n:=1) (c:=[Value.int .i64 r58.1]) rfl) (SP.nil (Sl.of_inc iBV SBU.sl)))),?_⟩
        refine FB.all1 (i:=6) (by kernel_rfl) ?_
        ·
         obtain ⟨HC2,SC3,iC4,hC5,nvC6⟩:=SBU.sealRowU (i:=0) (l':=(.box b0 63 [vC0,Value.int .i64 rBQ.2.at_,Value.int .u64 rBQ.2.seed]::.box b71 26 [Value.int .i64 r58.1,v88]::.row 34 1 v88 n89 cs90::.box b21 26 [Value.int .i64 0,Value.slice none 0 0]::L)) rfl elsBZ (by decide) rfl
         obtain ⟨vC7,wC8,runC9,SCa⟩:=SC3.buildSlice (P:=Tryz.prog) te24 [vBW] (parts:=#[(0,vBW)]) (cells:=[vBW]) rfl (zat (zaH hC5.cells) zao) (zas hC5.cells zan) (zac hC5.one zad) (Nat.le_of_ble_eq_true rfl)
         have elsCb:Els (up w0.heap.size HC2) (eL eI 1) 1 [vBW] [rBQ.1]:=(Els.snoc (H:=(up w0.heap.size HC2)) (E:=(eL eI 1)) (k:=1) (c:=[vBW]) (x:=rBQ.1) Els.nil rfl ⟨_,rfl,hC5⟩)
         have ndCc:(bl [vBW]).Nodup:=by exact za5 vBW
         refine FC.val (l':=(bs 10 127)) rfl (by kernel_rfl) rfl rfl rfl (E.buildSlice (B1 rfl) runC9) ?_
         refine ⟨(SP.on ((SCa.box_now (i:=2) rfl).sub (j:=1) (n:=1) (c:=[v88]) rfl) (SP.on ((SCa.box_now (i:=2) rfl).sub (j:=0) (n:=1) (c:=[Value.int .i64 r58.1]) rfl) (SP.nil (Sl.of_inc (iBV.tr iC4) SCa.sl)))),?_⟩
         refine FB.all1 (i:=7) (by kernel_rfl) ?_
         ·
          obtain ⟨vCf,wCi,nCg,csCh,runCj,SCk,elsCl,ceCm⟩:=SCa.appendO (P:=Tryz.prog) te24 (i:=3) (j:=0) rfl (els91.mono (zag ((iBe.tr iBV).tr iC4))) rfl elsCb hzCe
          have SCk:St H0 w0 HC2 wCi (.row 34 1 vC7 1 [vBW]::.box b0 63 [vC0,Value.int .i64 rBQ.2.at_,Value.int .u64 rBQ.2.seed]::.box b71 26 [Value.int .i64 r58.1,v88]::.row 34 1 vCf nCg csCh::.box b21 26 [Value.int .i64 0,Value.slice none 0 0]::L):=SCk
          have ndCn:(bl csCh).Nodup:=by rw [ceCm];exact zba nd92 ndCc (Els.dom (els91.mono (upI.tr (iBe.tr iBV)))) (by exact nvC6)
          have SCo:St H0 w0 HC2 wCi (.box b0 63 [vC0,Value.int .i64 rBQ.2.at_,Value.int .u64 rBQ.2.seed]::.box b71 26 [Value.int .i64 r58.1,v88]::.row 34 1 vCf nCg csCh::.box b21 26 [Value.int .i64 0,Value.slice none 0 0]::L):=SCk.drop 0
          refine FC.val (l':=(bs 10 255)) rfl (by kernel_rfl) rfl rfl rfl (E.append rfl rfl runCj) ?_
          refine ⟨(SP.on ((SCo.box_now (i:=1) rfl).sub (j:=1) (n:=1) (c:=[v88]) rfl) (SP.on ((SCo.box_now (i:=1) rfl).sub (j:=0) (n:=1) (c:=[Value.int .i64 r58.1]) rfl) (SP.nil (Sl.of_inc (iBV.tr iC4) SCo.sl)))),?_⟩
          refine FB.t (i:=8) (bs 10 511) rfl (SP.on ((SCo.box_now (i:=1) rfl).sub (j:=1) (n:=1) (c:=[v88]) rfl) (SP.on ((SCo.box_now (i:=1) rfl).sub (j:=0) (n:=1) (c:=[Value.int .i64 r58.1]) rfl) (SP.nil (Sl.of_inc (iBV.tr iC4) SCo.sl)))) rfl (fun w' hw'=>(E.fieldAddr zay kB8)) ?_
          refine FB.all1 (i:=9) (by kernel_rfl) ?_
          ·
           obtain ⟨wCp,runCq,SCr⟩:=SCo.store (P:=Tryz.prog) (t:=24) (i:=1) (j:=1) (cs':=[Value.int .i64 r58.1,vCf]) (l':=(.box b0 63 [vC0,Value.int .i64 rBQ.2.at_,Value.int .u64 rBQ.2.seed]::.box b71 26 [Value.int .i64 r58.1,vCf]::.row 34 1 vCf nCg csCh::.box b21 26 [Value.int .i64 0,Value.slice none 0 0]::L)) (v:=vCf) (c:=[vCf]) rfl Tryz.sizeOf24 (Ln.cells (SCo.row_ln (i:=2) rfl)) rfl (zac (Ln.one (SCo.row_ln (i:=2) rfl)) zad) (Nat.le_of_ble_eq_true rfl) rfl rfl
           refine FC.act (l':=(bs 10 1023)) rfl (by kernel_rfl) rfl rfl (E.store rfl rfl runCq) ?_
           refine ⟨(SP.o (SP.on ((SCr.box_now (i:=1) rfl).sub (j:=0) (n:=1) (c:=[Value.int .i64 r58.1]) rfl) (SP.nil (Sl.of_inc (iBV.tr iC4) SCr.sl)))),?_⟩
           exact FB.done (by kernel_rfl) ⟨_,_,_,_,_,SCr,(iBV.tr iC4),elsCl,(hC1.mono iC4),ndCn,kB7,kB8⟩
      ·
       rintro fCD wCC ⟨HCz,vCs,nCt,csCu,vCx,SCA,iCB,elsCv,hCy,ndCw,kCE,kCF⟩
       refine FW.seq (FW.region ?_)
       refine FL.v (E.load kCF (zai Tryz.isAgg26 Tryz.sizeOf26 (SCA.box_now (i:=1) rfl) rfl)) ?_
       obtain ⟨wCG,runCH,SCI⟩:=SCA.store0 (P:=Tryz.prog) (t:=26) (i:=3) (cs':=[Value.int .i64 r58.1,vCs]) (l':=(.box b0 63 [vCx,Value.int .i64 rBQ.2.at_,Value.int .u64 rBQ.2.seed]::.box b71 26 [Value.int .i64 r58.1,vCs]::.row 34 1 vCs nCt csCu::.box b21 26 [Value.int .i64 r58.1,vCs]::L)) (v:=Value.agg #[Value.int .i64 r58.1,vCs]) (c:=[Value.int .i64 r58.1,vCs]) rfl Tryz.sizeOf26 rfl rfl (zac rfl (zac (Ln.one (SCA.row_ln (i:=2) rfl)) zad)) (Nat.le_of_ble_eq_true rfl) rfl rfl
       refine FL.act rfl rfl (E.store kCE rfl runCH) ?_
       refine FL.nil ?_
       refine FW.ret ?_
       obtain ⟨HCJ,SCK,iCL,nsCO,nvCN⟩:=SCI.sealRowN (i:=2) (l':=(.box b0 63 [vCx,Value.int .i64 rBQ.2.at_,Value.int .u64 rBQ.2.seed]::.box b71 26 [Value.int .i64 r58.1,vCs]::.box b21 26 [Value.int .i64 r58.1,vCs]::L)) rfl elsCv ndCw (by decide) rfl
       have hCM:=nsCO.rsl
       obtain rfl:=Option.some.inj hp
       exact ⟨.inr rfl,resC rfl kCE (zaB Tryz.isAgg26 Tryz.sizeOf26 (SCK.box_now (i:=2) rfl) rfl) ⟨_,_,_,rfl,⟨(SCK.selT (a:=[.box b0 63 [vCx,Value.int .i64 rBQ.2.at_,Value.int .u64 rBQ.2.seed],.box b71 26 [Value.int .i64 r58.1,vCs],.box b21 26 [Value.int .i64 r58.1,vCs]]) (l':=[.box b0 63 [vCx,Value.int .i64 rBQ.2.at_,Value.int .u64 rBQ.2.seed]]) [0] (by decide) rfl),(((((((i31.tr i55).tr i63).tr i84).tr iB3).tr iBe).tr iCB).tr iCL)⟩,hCM,(hCy.mono iCL)⟩⟩
     ·
      refine FW.condF rfl cBM ?_
      refine FW.seq (FW.region ?_)
      refine FL.v (E.eql rfl rfl) ?_
      refine FL.v (E.assign (v:=Value.bool (rB9.1 == 2)) rfl) ?_
      refine FL.nil ?_
      rcases ifB hp with ⟨cCP,hp⟩|⟨cCP,hp⟩
      ·
       refine FW.condT rfl cCP ?_
       obtain ⟨qCQ,hq,hp⟩:=bndR hp
       refine FW.block ?_
       refine FW.mono (FW.iter (S:=((List (List Int))×(List Int)×Int×Int)) (X:=Empty) (fun (sCQ:((List (List Int))×(List Int)×Int×Int)) f w=>∃ H:GH,∃ vCR:Value,∃ nCS:Nat,∃ csCT:List Value,∃ vCW:Value,St H0 w0 H w (.box b0 63 [vCW,Value.int .i64 sCQ.2.2.1,Value.int .u64 sCQ.2.2.2]::.box b71 26 [Value.int .i64 r58.1,vCR]::.row 34 1 vCR nCS csCT::.box b21 26 [Value.int .i64 0,Value.slice none 0 0]::L)∧Inc HBb H∧Els (up w0.heap.size H) (eL eI 1) 1 csCT sCQ.1∧RSl H (eN .u8) 1 vCW sCQ.2.1∧(bl csCT).Nodup∧f 0=Value.pointer (some (⟨b0,0,none⟩:Addr))∧f 2=Value.pointer (some (⟨b21,0,none⟩:Addr))∧f 3=Value.pointer (some (⟨b71,0,none⟩:Addr))) (fun (q:Rs ((List (List Int))×(List Int)×Int×Int) Empty) e f w=>match q with|.go sCQ=>e=Exit.exit 3∧(∃ H:GH,∃ vCR:Value,∃ nCS:Nat,∃ csCT:List Value,∃ vCW:Value,St H0 w0 H w (.box b0 63 [vCW,Value.int .i64 sCQ.2.2.1,Value.int .u64 sCQ.2.2.2]::.box b71 26 [Value.int .i64 r58.1,vCR]::.row 34 1 vCR nCS csCT::.box b21 26 [Value.int .i64 0,Value.slice none 0 0]::L)∧Inc HBb H∧Els (up w0.heap.size H) (eL eI 1) 1 csCT sCQ.1∧RSl H (eN .u8) 1 vCW sCQ.2.1∧(bl csCT).Nodup∧f 2=Value.pointer (some (⟨b21,0,none⟩:Addr))∧f 3=Value.pointer (some (⟨b71,0,none⟩:Addr)))|.rt x=>x.elim) hq ⟨_,_,_,_,_,SBd,(Inc.rfl _),(els91.mono (zag iBe)),hBg,nd92,kB6,kB7,kB8⟩ ?_) ?_
       ·
        clear hp hq
        rintro sCQ fD2 wD1 ⟨HCY,vCR,nCS,csCT,vCW,SCZ,iD0,elsCU,hCX,ndCV,kD3,kD4,kD5⟩ oDY hp
        refine FW.seq (FW.seq ?_)
        obtain ⟨rD9,hrDa,hp⟩:=bnd hp
        refine FW.drawB (SX H0 w0 HCY (.box b71 26 [Value.int .i64 r58.1,vCR]::L)) (fun f w=>∃ H:GH,∃ vDh:Value,St H0 w0 H w (.box b0 63 [vDh,Value.int .i64 rD9.2.at_,Value.int .u64 rD9.2.seed]::.box b71 26 [Value.int .i64 r58.1,vCR]::.row 34 1 vCR nCS csCT::.box b21 26 [Value.int .i64 0,Value.slice none 0 0]::L)∧Inc HCY H∧RSl H (eN .u8) 1 vDh rD9.2.code∧f 0=Value.pointer (some (⟨b0,0,none⟩:Addr))∧f 2=Value.pointer (some (⟨b21,0,none⟩:Addr))∧f 3=Value.pointer (some (⟨b71,0,none⟩:Addr))∧f 56=Value.bool (decide ((len sCQ.1) < (wr (60 + rD9.1))))) (by kernel_rfl) SCZ.sl ?_ ?_
        ·
         intro wD6 rD7
         have SD8:=SCZ.call rD7
         refine FB.t (i:=0) (bs 7 1) rfl (SP.nil ⟨_,(SD8.selT (a:=[.box b0 63 [vCW,Value.int .i64 sCQ.2.2.1,Value.int .u64 sCQ.2.2.2],.box b71 26 [Value.int .i64 r58.1,vCR],.row 34 1 vCR nCS csCT,.box b21 26 [Value.int .i64 0,Value.slice none 0 0]]) (l':=[.box b71 26 [Value.int .i64 r58.1,vCR]]) [1] (by decide) rfl),(Inc.rfl _)⟩) rfl (fun w' hw'=>(E.fieldAddr zay kD5)) ?_
         refine FB.t (i:=1) (bs 7 3) rfl (SP.nil ⟨_,(SD8.selT (a:=[.box b0 63 [vCW,Value.int .i64 sCQ.2.2.1,Value.int .u64 sCQ.2.2.2],.box b71 26 [Value.int .i64 r58.1,vCR],.row 34 1 vCR nCS csCT,.box b21 26 [Value.int .i64 0,Value.slice none 0 0]]) (l':=[.box b71 26 [Value.int .i64 r58.1,vCR]]) [1] (by decide) rfl),(Inc.rfl _)⟩) rfl (fun w' hw'=>(E.load rfl (zah Tryz.isAgg24 (SX.box_now hw' (i:=0) rfl) rfl))) ?_
         refine FB.t (i:=2) (bs 7 7) rfl (SP.nil ⟨_,(SD8.selT (a:=[.box b0 63 [vCW,Value.int .i64 sCQ.2.2.1,Value.int .u64 sCQ.2.2.2],.box b71 26 [Value.int .i64 r58.1,vCR],.row 34 1 vCR nCS csCT,.box b21 26 [Value.int .i64 0,Value.slice none 0 0]]) (l':=[.box b71 26 [Value.int .i64 r58.1,vCR]]) [1] (by decide) rfl),(Inc.rfl _)⟩) rfl (fun w' hw'=>(E.lenOW te24 rfl SD8 (i:=2) rfl elsCU (by decide))) ?_
         refine FB.t (i:=3) (bs 7 15) rfl (SP.nil ⟨_,(SD8.selT (a:=[.box b0 63 [vCW,Value.int .i64 sCQ.2.2.1,Value.int .u64 sCQ.2.2.2],.box b71 26 [Value.int .i64 r58.1,vCR],.row 34 1 vCR nCS csCT,.box b21 26 [Value.int .i64 0,Value.slice none 0 0]]) (l':=[.box b71 26 [Value.int .i64 r58.1,vCR]]) [1] (by decide) rfl),(Inc.rfl _)⟩) rfl (fun w' hw'=>(E.move kD3)) ?_
         refine FB.all1 (i:=4) (by kernel_rfl) ?_
         ·
          refine FC.call (l':=(bs 7 31)) rfl (by kernel_rfl) rfl rfl rfl (E.call Tryz.call74 (A2 rfl rfl)) (zaR (L:=(.box b71 26 [Value.int .i64 r58.1,vCR]::.row 34 1 vCR nCS csCT::.box b21 26 [Value.int .i64 0,Value.slice none 0 0]::L)) SD8 (a0:=(l1Cur.mk sCQ.2.1 sCQ.2.2.1 sCQ.2.2.2)) hCX 2 hrDa) ?_
          rintro e wDc ⟨HDb,vDf,rfl,⟨SDd,iDe⟩,hDg⟩
          refine ⟨_,rfl,?_⟩
          have SDd:St H0 w0 HDb wDc (.box b0 63 [vDf,Value.int .i64 rD9.2.at_,Value.int .u64 rD9.2.seed]::.box b71 26 [Value.int .i64 r58.1,vCR]::.row 34 1 vCR nCS csCT::.box b21 26 [Value.int .i64 0,Value.slice none 0 0]::L):=SDd
          refine ⟨(SP.nil ⟨_,(SDd.selT (a:=[.box b0 63 [vDf,Value.int .i64 rD9.2.at_,Value.int .u64 rD9.2.seed],.box b71 26 [Value.int .i64 r58.1,vCR],.row 34 1 vCR nCS csCT,.box b21 26 [Value.int .i64 0,Value.slice none 0 0]]) (l':=[.box b71 26 [Value.int .i64 r58.1,vCR]]) [1] (by decide) rfl),iDe⟩),?_⟩
          refine FB.t (i:=5) (bs 7 63) rfl (SP.nil ⟨_,(SDd.selT (a:=[.box b0 63 [vDf,Value.int .i64 rD9.2.at_,Value.int .u64 rD9.2.seed],.box b71 26 [Value.int .i64 r58.1,vCR],.row 34 1 vCR nCS csCT,.box b21 26 [Value.int .i64 0,Value.slice none 0 0]]) (l':=[.box b71 26 [Value.int .i64 r58.1,vCR]]) [1] (by decide) rfl),iDe⟩) rfl (fun w' hw'=>(E.add rfl rfl)) ?_
          refine FB.t (i:=6) (bs 7 127) rfl (SP.nil ⟨_,(SDd.selT (a:=[.box b0 63 [vDf,Value.int .i64 rD9.2.at_,Value.int .u64 rD9.2.seed],.box b71 26 [Value.int .i64 r58.1,vCR],.row 34 1 vCR nCS csCT,.box b21 26 [Value.int .i64 0,Value.slice none 0 0]]) (l':=[.box b71 26 [Value.int .i64 r58.1,vCR]]) [1] (by decide) rfl),iDe⟩) rfl (fun w' hw'=>(E.lss rfl rfl)) ?_
          exact FB.done (by kernel_rfl) ⟨_,_,SDd,iDe,hDg,kD3,kD4,kD5,rfl⟩
        ·
         rintro fDn wDm ⟨HDj,vDh,SDk,iDl,hDi,kDo,kDp,kDq,kDr⟩
         rcases ifB hp with ⟨cDs,hp⟩|⟨cDs,hp⟩
         ·
          refine FW.condT kDr cDs ?_
          refine FW.skip (FW.block (FW.region ?_))
          refine FL.v (E.fieldAddr zay kDq) ?_
          refine FL.v (E.load rfl (zah Tryz.isAgg24 (SDk.box_now (i:=1) rfl) rfl)) ?_
          obtain ⟨vDt,wDu,runDv,SDw,elsDx⟩:=SDk.ints (P:=Tryz.prog) te34 (up w0.heap.size HDj) 1 [1]
          refine FL.v (E.buildSlice (B1 rfl) runDv) ?_
          obtain ⟨HDy,SDz,iDA,hDB,nvDC⟩:=SDw.sealRowU (i:=0) (l':=(.box b0 63 [vDh,Value.int .i64 rD9.2.at_,Value.int .u64 rD9.2.seed]::.box b71 26 [Value.int .i64 r58.1,vCR]::.row 34 1 vCR nCS csCT::.box b21 26 [Value.int .i64 0,Value.slice none 0 0]::L)) rfl elsDx (by decide) rfl
          obtain ⟨vDD,wDE,runDF,SDG⟩:=SDz.buildSlice (P:=Tryz.prog) te24 [vDt] (parts:=#[(0,vDt)]) (cells:=[vDt]) rfl (zat (zaH hDB.cells) zao) (zas hDB.cells zan) (zac hDB.one zad) (Nat.le_of_ble_eq_true rfl)
          have elsDH:Els (up w0.heap.size HDy) (eL eI 1) 1 [vDt] [[1]]:=(Els.snoc (H:=(up w0.heap.size HDy)) (E:=(eL eI 1)) (k:=1) (c:=[vDt]) (x:=[1]) Els.nil rfl ⟨_,rfl,hDB⟩)
          have ndDI:(bl [vDt]).Nodup:=by exact za5 vDt
          refine FL.v (E.buildSlice (B1 rfl) runDF) ?_
          obtain ⟨xsDJ,hzDK,hp⟩:=bnd hp
          obtain ⟨vDL,wDO,nDM,csDN,runDP,SDQ,elsDR,ceDS⟩:=SDG.appendO (P:=Tryz.prog) te24 (i:=3) (j:=0) rfl (elsCU.mono (zag (iDl.tr iDA))) rfl elsDH hzDK
          have SDQ:St H0 w0 HDy wDO (.row 34 1 vDD 1 [vDt]::.box b0 63 [vDh,Value.int .i64 rD9.2.at_,Value.int .u64 rD9.2.seed]::.box b71 26 [Value.int .i64 r58.1,vCR]::.row 34 1 vDL nDM csDN::.box b21 26 [Value.int .i64 0,Value.slice none 0 0]::L):=SDQ
          have ndDT:(bl csDN).Nodup:=by rw [ceDS];exact zba ndCV ndDI (Els.dom (elsCU.mono (upI.tr iDl))) (by exact nvDC)
          have SDU:St H0 w0 HDy wDO (.box b0 63 [vDh,Value.int .i64 rD9.2.at_,Value.int .u64 rD9.2.seed]::.box b71 26 [Value.int .i64 r58.1,vCR]::.row 34 1 vDL nDM csDN::.box b21 26 [Value.int .i64 0,Value.slice none 0 0]::L):=SDQ.drop 0
          refine FL.v (E.append rfl rfl runDP) ?_
          refine FL.v (E.fieldAddr zay kDq) ?_
          obtain ⟨wDV,runDW,SDX⟩:=SDU.store (P:=Tryz.prog) (t:=24) (i:=1) (j:=1) (cs':=[Value.int .i64 r58.1,vDL]) (l':=(.box b0 63 [vDh,Value.int .i64 rD9.2.at_,Value.int .u64 rD9.2.seed]::.box b71 26 [Value.int .i64 r58.1,vDL]::.row 34 1 vDL nDM csDN::.box b21 26 [Value.int .i64 0,Value.slice none 0 0]::L)) (v:=vDL) (c:=[vDL]) rfl Tryz.sizeOf24 (Ln.cells (SDU.row_ln (i:=2) rfl)) rfl (zac (Ln.one (SDU.row_ln (i:=2) rfl)) zad) (Nat.le_of_ble_eq_true rfl) rfl rfl
          refine FL.act rfl rfl (E.store rfl rfl runDW) ?_
          refine FL.nil ?_
          obtain rfl:=Option.some.inj hp
          exact ⟨rfl,⟨_,_,_,_,_,SDX,((iD0.tr iDl).tr iDA),elsDR,(hDi.mono iDA),ndDT,kDo,kDp,kDq⟩⟩
         ·
          refine FW.condF kDr cDs ?_
          refine FW.exit ?_
          obtain rfl:=Option.some.inj hp
          exact ⟨nofun,rfl,⟨_,_,_,_,_,SDk,(iD0.tr iDl),(elsCU.mono (zag iDl)),hDi,ndCV,kDp,kDq⟩⟩
       ·
        clear hq
        intro e fE3 wE2 hD
        rcases qCQ with sCQ|xCQ
        ·
         obtain ⟨rfl,hD⟩:=hD
         obtain ⟨HDZ,vCR,nCS,csCT,vCW,SE0,iE1,elsCU,hCX,ndCV,kE4,kE5⟩:=hD
         replace hp:=el_go hp
         refine FW.seq (FW.region ?_)
         refine FL.v (E.load kE5 (zai Tryz.isAgg26 Tryz.sizeOf26 (SE0.box_now (i:=1) rfl) rfl)) ?_
         obtain ⟨wE6,runE7,SE8⟩:=SE0.store0 (P:=Tryz.prog) (t:=26) (i:=3) (cs':=[Value.int .i64 r58.1,vCR]) (l':=(.box b0 63 [vCW,Value.int .i64 sCQ.2.2.1,Value.int .u64 sCQ.2.2.2]::.box b71 26 [Value.int .i64 r58.1,vCR]::.row 34 1 vCR nCS csCT::.box b21 26 [Value.int .i64 r58.1,vCR]::L)) (v:=Value.agg #[Value.int .i64 r58.1,vCR]) (c:=[Value.int .i64 r58.1,vCR]) rfl Tryz.sizeOf26 rfl rfl (zac rfl (zac (Ln.one (SE0.row_ln (i:=2) rfl)) zad)) (Nat.le_of_ble_eq_true rfl) rfl rfl
         refine FL.act rfl rfl (E.store kE4 rfl runE7) ?_
         refine FL.nil ?_
         refine FW.ret ?_
         obtain ⟨HE9,SEa,iEb,nsEe,nvEd⟩:=SE8.sealRowN (i:=2) (l':=(.box b0 63 [vCW,Value.int .i64 sCQ.2.2.1,Value.int .u64 sCQ.2.2.2]::.box b71 26 [Value.int .i64 r58.1,vCR]::.box b21 26 [Value.int .i64 r58.1,vCR]::L)) rfl elsCU ndCV (by decide) rfl
         have hEc:=nsEe.rsl
         obtain rfl:=Option.some.inj hp
         exact ⟨.inr rfl,resC rfl kE4 (zaB Tryz.isAgg26 Tryz.sizeOf26 (SEa.box_now (i:=2) rfl) rfl) ⟨_,_,_,rfl,⟨(SEa.selT (a:=[.box b0 63 [vCW,Value.int .i64 sCQ.2.2.1,Value.int .u64 sCQ.2.2.2],.box b71 26 [Value.int .i64 r58.1,vCR],.box b21 26 [Value.int .i64 r58.1,vCR]]) (l':=[.box b0 63 [vCW,Value.int .i64 sCQ.2.2.1,Value.int .u64 sCQ.2.2.2]]) [0] (by decide) rfl),(((((((i31.tr i55).tr i63).tr i84).tr iB3).tr iBe).tr iE1).tr iEb)⟩,hEc,(hCX.mono iEb)⟩⟩
        ·
         exact xCQ.elim
      ·
       refine FW.condF rfl cCP ?_
       refine FW.seq (FW.region ?_)
       refine FL.v (E.eql rfl rfl) ?_
       refine FL.v (E.assign (v:=Value.bool (rB9.1 == 3)) rfl) ?_
       refine FL.nil ?_
       rcases ifB hp with ⟨cEf,hp⟩|⟨cEf,hp⟩
       ·
        refine FW.condT rfl cEf ?_
        obtain ⟨rEj,hrEk,hp⟩:=bnd hp
        obtain ⟨xsES,hzET,hp⟩:=bnd hp
        refine FW.drawB (Sl HBb) (fun f w=>∃ H:GH,∃ vF7:Value,∃ nF8:Nat,∃ csF9:List Value,∃ vFc:Value,St H0 w0 H w (.box b0 63 [vFc,Value.int .i64 rEj.2.at_,Value.int .u64 rEj.2.seed]::.box b71 26 [Value.int .i64 r58.1,vF7]::.row 34 1 vF7 nF8 csF9::.box b21 26 [Value.int .i64 0,Value.slice none 0 0]::L)∧Inc HBb H∧Els (up w0.heap.size H) (eL eI 1) 1 csF9 xsES∧RSl H (eN .u8) 1 vFc rEj.2.code∧(bl csF9).Nodup∧f 2=Value.pointer (some (⟨b21,0,none⟩:Addr))∧f 3=Value.pointer (some (⟨b71,0,none⟩:Addr))) (by kernel_rfl) SBd.sl ?_ ?_
        ·
         intro wEg rEh
         have SEi:=SBd.call rEh
         refine FB.phase [] (fun w=>WAt w (Addr.add ⟨b71,0,none⟩ 0) [Value.int .i64 r58.1]) ?_
         refine FB.phase [10] (fun w=>WAt w (Addr.add ⟨b71,0,none⟩ 1) [v88]) ?_
         refine FB.t (i:=0) (bs 11 1) rfl (SP.on ((SEi.box_now (i:=1) rfl).sub (j:=1) (n:=1) (c:=[v88]) rfl) (SP.on ((SEi.box_now (i:=1) rfl).sub (j:=0) (n:=1) (c:=[Value.int .i64 r58.1]) rfl) (SP.nil SEi.sl))) rfl (fun w' hw'=>(E.fieldAddr zay kB8)) ?_
         refine FB.p (i:=1) (bs 11 3) 0 [8,9,10] rfl (SP.on ((SEi.box_now (i:=1) rfl).sub (j:=1) (n:=1) (c:=[v88]) rfl) (SP.on ((SEi.box_now (i:=1) rfl).sub (j:=0) (n:=1) (c:=[Value.int .i64 r58.1]) rfl) (SP.nil SEi.sl))) rfl rfl (fun w' hw'=>(E.load rfl (zaf Tryz.isAgg24 hw' rfl))) ?_
         refine FB.t (i:=2) (bs 11 7) rfl (SP.on ((SEi.box_now (i:=1) rfl).sub (j:=1) (n:=1) (c:=[v88]) rfl) (SP.on ((SEi.box_now (i:=1) rfl).sub (j:=0) (n:=1) (c:=[Value.int .i64 r58.1]) rfl) (SP.nil SEi.sl))) rfl (fun w' hw'=>(E.move kB6)) ?_
         refine FB.t (i:=3) (bs 11 15) rfl (SP.on ((SEi.box_now (i:=1) rfl).sub (j:=1) (n:=1) (c:=[v88]) rfl) (SP.on ((SEi.box_now (i:=1) rfl).sub (j:=0) (n:=1) (c:=[Value.int .i64 r58.1]) rfl) (SP.nil SEi.sl))) rfl (fun w' hw'=>(E.fieldAddr zaC kB8)) ?_
         refine FB.p (i:=4) (bs 11 31) 1 [5,7,8,9,10] rfl (SP.on ((SEi.box_now (i:=1) rfl).sub (j:=1) (n:=1) (c:=[v88]) rfl) (SP.on ((SEi.box_now (i:=1) rfl).sub (j:=0) (n:=1) (c:=[Value.int .i64 r58.1]) rfl) (SP.nil SEi.sl))) rfl rfl (fun w' hw'=>(E.load rfl (zaf Tryz.isAgg3 hw' rfl))) ?_
         refine FB.all2 (i:=5) (j:=6) (by kernel_rfl) ?_ ?_
         ·
          refine FC.call (l':=(bs 11 63)) rfl (by kernel_rfl) rfl rfl rfl (E.call Tryz.call111 (A2 rfl rfl)) (zdC (L:=(.box b71 26 [Value.int .i64 r58.1,v88]::.row 34 1 v88 n89 cs90::.box b21 26 [Value.int .i64 0,Value.slice none 0 0]::L)) SEi (a0:=rB9.2) hBg r58.1 hrEk) ?_
          rintro e wEm ⟨HEl,vEp,nEq,csEr,vEt,rfl,⟨SEn,iEo⟩,elsEs,hEu⟩
          refine ⟨_,rfl,?_⟩
          have SEn:St H0 w0 HEl wEm (.row 3 1 vEp nEq csEr::.box b0 63 [vEt,Value.int .i64 rEj.2.at_,Value.int .u64 rEj.2.seed]::.box b71 26 [Value.int .i64 r58.1,v88]::.row 34 1 v88 n89 cs90::.box b21 26 [Value.int .i64 0,Value.slice none 0 0]::L):=SEn
          refine ⟨(SP.on ((SEn.box_now (i:=2) rfl).sub (j:=1) (n:=1) (c:=[v88]) rfl) (SP.on ((SEn.box_now (i:=2) rfl).sub (j:=0) (n:=1) (c:=[Value.int .i64 r58.1]) rfl) (SP.nil (Sl.of_inc iEo SEn.sl)))),?_⟩
          refine FB.all1 (i:=6) (by kernel_rfl) ?_
          ·
           obtain ⟨vEw,wEx,runEy,SEz⟩:=SEn.buildSlice (P:=Tryz.prog) te34 [] (parts:=#[]) (cells:=[]) rfl zao zan zad (Nat.le_of_ble_eq_true rfl)
           have elsEA:Els (up w0.heap.size HEl) eI 1 [] []:=Els.nil
           refine FC.val (l':=(bs 11 127)) rfl (by kernel_rfl) rfl rfl rfl (E.buildSlice (B0) runEy) ?_
           refine ⟨(SP.on ((SEz.box_now (i:=3) rfl).sub (j:=1) (n:=1) (c:=[v88]) rfl) (SP.on ((SEz.box_now (i:=3) rfl).sub (j:=0) (n:=1) (c:=[Value.int .i64 r58.1]) rfl) (SP.nil (Sl.of_inc iEo SEz.sl)))),?_⟩
           refine FB.all1 (i:=7) (by kernel_rfl) ?_
           ·
            obtain ⟨HEB,SEC,iED,hEE,nvEF⟩:=SEz.sealRowU (i:=1) (l':=(.row 3 1 vEw 0 []::.box b0 63 [vEt,Value.int .i64 rEj.2.at_,Value.int .u64 rEj.2.seed]::.box b71 26 [Value.int .i64 r58.1,v88]::.row 34 1 v88 n89 cs90::.box b21 26 [Value.int .i64 0,Value.slice none 0 0]::L)) rfl elsEs (by decide) rfl
            obtain ⟨HEG,SEH,iEI,hEJ,nvEK⟩:=SEC.sealRowU (i:=0) (l':=(.box b0 63 [vEt,Value.int .i64 rEj.2.at_,Value.int .u64 rEj.2.seed]::.box b71 26 [Value.int .i64 r58.1,v88]::.row 34 1 v88 n89 cs90::.box b21 26 [Value.int .i64 0,Value.slice none 0 0]::L)) rfl (elsEA.mono (zag iED)) (by decide) rfl
            obtain ⟨vEL,wEM,runEN,SEO⟩:=SEH.buildSlice (P:=Tryz.prog) te24 [vEp,vEw] (parts:=#[(0,vEp),(1,vEw)]) (cells:=[vEp,vEw]) rfl (zat (zaH hEE.cells) (zat (zaH hEJ.cells) zao)) (zas hEE.cells (zas hEJ.cells zan)) (zac hEE.one (zac hEJ.one zad)) (Nat.le_of_ble_eq_true rfl)
            have elsEP:Els (up w0.heap.size HEG) (eL eI 1) 1 [vEp,vEw] [rEj.1,[]]:=(Els.snoc (H:=(up w0.heap.size HEG)) (E:=(eL eI 1)) (k:=1) (c:=[vEw]) (x:=[]) (Els.snoc (H:=(up w0.heap.size HEG)) (E:=(eL eI 1)) (k:=1) (c:=[vEp]) (x:=rEj.1) Els.nil rfl ⟨_,rfl,(hEE.mono (zag iEI))⟩) rfl ⟨_,rfl,hEJ⟩)
            have ndEQ:(bl [vEp,vEw]).Nodup:=by exact nd_two (New.apart (hEE.mono (zag (Inc.rfl _))) nvEK)
            have nvER:New HEl [vEp,vEw]:=by exact (New.two nvEF (nvEK.anti iED))
            refine FC.val (l':=(bs 11 255)) rfl (by kernel_rfl) rfl rfl rfl (E.buildSlice (B2 rfl rfl) runEN) ?_
            refine ⟨(SP.on ((SEO.box_now (i:=2) rfl).sub (j:=1) (n:=1) (c:=[v88]) rfl) (SP.on ((SEO.box_now (i:=2) rfl).sub (j:=0) (n:=1) (c:=[Value.int .i64 r58.1]) rfl) (SP.nil (Sl.of_inc ((iEo.tr iED).tr iEI) SEO.sl)))),?_⟩
            refine FB.all1 (i:=8) (by kernel_rfl) ?_
            ·
             obtain ⟨vEU,wEX,nEV,csEW,runEY,SEZ,elsF0,ceF1⟩:=SEO.appendO (P:=Tryz.prog) te24 (i:=3) (j:=0) rfl (els91.mono (zag (((iBe.tr iEo).tr iED).tr iEI))) rfl elsEP hzET
             have SEZ:St H0 w0 HEG wEX (.row 34 1 vEL 2 [vEp,vEw]::.box b0 63 [vEt,Value.int .i64 rEj.2.at_,Value.int .u64 rEj.2.seed]::.box b71 26 [Value.int .i64 r58.1,v88]::.row 34 1 vEU nEV csEW::.box b21 26 [Value.int .i64 0,Value.slice none 0 0]::L):=SEZ
             have ndF2:(bl csEW).Nodup:=by rw [ceF1];exact zba nd92 ndEQ (Els.dom (els91.mono (upI.tr (iBe.tr iEo)))) (by exact nvER)
             have SF3:St H0 w0 HEG wEX (.box b0 63 [vEt,Value.int .i64 rEj.2.at_,Value.int .u64 rEj.2.seed]::.box b71 26 [Value.int .i64 r58.1,v88]::.row 34 1 vEU nEV csEW::.box b21 26 [Value.int .i64 0,Value.slice none 0 0]::L):=SEZ.drop 0
             refine FC.val (l':=(bs 11 511)) rfl (by kernel_rfl) rfl rfl rfl (E.append rfl rfl runEY) ?_
             refine ⟨(SP.on ((SF3.box_now (i:=1) rfl).sub (j:=1) (n:=1) (c:=[v88]) rfl) (SP.on ((SF3.box_now (i:=1) rfl).sub (j:=0) (n:=1) (c:=[Value.int .i64 r58.1]) rfl) (SP.nil (Sl.of_inc ((iEo.tr iED).tr iEI) SF3.sl)))),?_⟩
             refine FB.t (i:=9) (bs 11 1023) rfl (SP.on ((SF3.box_now (i:=1) rfl).sub (j:=1) (n:=1) (c:=[v88]) rfl) (SP.on ((SF3.box_now (i:=1) rfl).sub (j:=0) (n:=1) (c:=[Value.int .i64 r58.1]) rfl) (SP.nil (Sl.of_inc ((iEo.tr iED).tr iEI) SF3.sl)))) rfl (fun w' hw'=>(E.fieldAddr zay kB8)) ?_
             refine FB.all1 (i:=10) (by kernel_rfl) ?_
             ·
              obtain ⟨wF4,runF5,SF6⟩:=SF3.store (P:=Tryz.prog) (t:=24) (i:=1) (j:=1) (cs':=[Value.int .i64 r58.1,vEU]) (l':=(.box b0 63 [vEt,Value.int .i64 rEj.2.at_,Value.int .u64 rEj.2.seed]::.box b71 26 [Value.int .i64 r58.1,vEU]::.row 34 1 vEU nEV csEW::.box b21 26 [Value.int .i64 0,Value.slice none 0 0]::L)) (v:=vEU) (c:=[vEU]) rfl Tryz.sizeOf24 (Ln.cells (SF3.row_ln (i:=2) rfl)) rfl (zac (Ln.one (SF3.row_ln (i:=2) rfl)) zad) (Nat.le_of_ble_eq_true rfl) rfl rfl
              refine FC.act (l':=(bs 11 2047)) rfl (by kernel_rfl) rfl rfl (E.store rfl rfl runF5) ?_
              refine ⟨(SP.o (SP.on ((SF6.box_now (i:=1) rfl).sub (j:=0) (n:=1) (c:=[Value.int .i64 r58.1]) rfl) (SP.nil (Sl.of_inc ((iEo.tr iED).tr iEI) SF6.sl)))),?_⟩
              exact FB.done (by kernel_rfl) ⟨_,_,_,_,_,SF6,((iEo.tr iED).tr iEI),elsF0,(hEu.mono (iED.tr iEI)),ndF2,kB7,kB8⟩
         ·
          obtain ⟨vEw,wEx,runEy,SEz⟩:=SEi.buildSlice (P:=Tryz.prog) te34 [] (parts:=#[]) (cells:=[]) rfl zao zan zad (Nat.le_of_ble_eq_true rfl)
          have elsEA:Els (up w0.heap.size HBb) eI 1 [] []:=Els.nil
          refine FC.val (l':=(bs 11 95)) rfl (by kernel_rfl) rfl rfl rfl (E.buildSlice (B0) runEy) ?_
          refine ⟨(SP.on ((SEz.box_now (i:=2) rfl).sub (j:=1) (n:=1) (c:=[v88]) rfl) (SP.on ((SEz.box_now (i:=2) rfl).sub (j:=0) (n:=1) (c:=[Value.int .i64 r58.1]) rfl) (SP.nil SEz.sl))),?_⟩
          refine FB.all1 (i:=5) (by kernel_rfl) ?_
          ·
           have SEl:St H0 w0 HBb wEx (.box b0 63 [vBf,Value.int .i64 rB9.2.at_,Value.int .u64 rB9.2.seed]::.row 3 1 vEw 0 []::.box b71 26 [Value.int .i64 r58.1,v88]::.row 34 1 v88 n89 cs90::.box b21 26 [Value.int .i64 0,Value.slice none 0 0]::L):=SEz.front 1 rfl rfl
           refine FC.call (l':=(bs 11 127)) rfl (by kernel_rfl) rfl rfl rfl (E.call Tryz.call111 (A2 rfl rfl)) (zdC (L:=(.row 3 1 vEw 0 []::.box b71 26 [Value.int .i64 r58.1,v88]::.row 34 1 v88 n89 cs90::.box b21 26 [Value.int .i64 0,Value.slice none 0 0]::L)) SEl (a0:=rB9.2) hBg r58.1 hrEk) ?_
           rintro e wEn ⟨HEm,vEq,nEr,csEs,vEu,rfl,⟨SEo,iEp⟩,elsEt,hEv⟩
           refine ⟨_,rfl,?_⟩
           have SEo:St H0 w0 HEm wEn (.row 3 1 vEq nEr csEs::.box b0 63 [vEu,Value.int .i64 rEj.2.at_,Value.int .u64 rEj.2.seed]::.row 3 1 vEw 0 []::.box b71 26 [Value.int .i64 r58.1,v88]::.row 34 1 v88 n89 cs90::.box b21 26 [Value.int .i64 0,Value.slice none 0 0]::L):=SEo
           refine ⟨(SP.on ((SEo.box_now (i:=3) rfl).sub (j:=1) (n:=1) (c:=[v88]) rfl) (SP.on ((SEo.box_now (i:=3) rfl).sub (j:=0) (n:=1) (c:=[Value.int .i64 r58.1]) rfl) (SP.nil (Sl.of_inc iEp SEo.sl)))),?_⟩
           refine FB.all1 (i:=7) (by kernel_rfl) ?_
           ·
            obtain ⟨HEB,SEC,iED,hEE,nvEF⟩:=SEo.sealRowU (i:=0) (l':=(.box b0 63 [vEu,Value.int .i64 rEj.2.at_,Value.int .u64 rEj.2.seed]::.row 3 1 vEw 0 []::.box b71 26 [Value.int .i64 r58.1,v88]::.row 34 1 v88 n89 cs90::.box b21 26 [Value.int .i64 0,Value.slice none 0 0]::L)) rfl elsEt (by decide) rfl
            obtain ⟨HEG,SEH,iEI,hEJ,nvEK⟩:=SEC.sealRowU (i:=1) (l':=(.box b0 63 [vEu,Value.int .i64 rEj.2.at_,Value.int .u64 rEj.2.seed]::.box b71 26 [Value.int .i64 r58.1,v88]::.row 34 1 v88 n89 cs90::.box b21 26 [Value.int .i64 0,Value.slice none 0 0]::L)) rfl (elsEA.mono (zag (iEp.tr iED))) (by decide) rfl
            obtain ⟨vEL,wEM,runEN,SEO⟩:=SEH.buildSlice (P:=Tryz.prog) te24 [vEq,vEw] (parts:=#[(0,vEq),(1,vEw)]) (cells:=[vEq,vEw]) rfl (zat (zaH hEE.cells) (zat (zaH hEJ.cells) zao)) (zas hEE.cells (zas hEJ.cells zan)) (zac hEE.one (zac hEJ.one zad)) (Nat.le_of_ble_eq_true rfl)
            have elsEP:Els (up w0.heap.size HEG) (eL eI 1) 1 [vEq,vEw] [rEj.1,[]]:=(Els.snoc (H:=(up w0.heap.size HEG)) (E:=(eL eI 1)) (k:=1) (c:=[vEw]) (x:=[]) (Els.snoc (H:=(up w0.heap.size HEG)) (E:=(eL eI 1)) (k:=1) (c:=[vEq]) (x:=rEj.1) Els.nil rfl ⟨_,rfl,(hEE.mono (zag iEI))⟩) rfl ⟨_,rfl,hEJ⟩)
            have ndEQ:(bl [vEq,vEw]).Nodup:=by exact nd_two (New.apart (hEE.mono (zag (Inc.rfl _))) nvEK)
            have nvER:New HEm [vEq,vEw]:=by exact (New.two nvEF (nvEK.anti iED))
            refine FC.val (l':=(bs 11 255)) rfl (by kernel_rfl) rfl rfl rfl (E.buildSlice (B2 rfl rfl) runEN) ?_
            refine ⟨(SP.on ((SEO.box_now (i:=2) rfl).sub (j:=1) (n:=1) (c:=[v88]) rfl) (SP.on ((SEO.box_now (i:=2) rfl).sub (j:=0) (n:=1) (c:=[Value.int .i64 r58.1]) rfl) (SP.nil (Sl.of_inc ((iEp.tr iED).tr iEI) SEO.sl)))),?_⟩
            refine FB.all1 (i:=8) (by kernel_rfl) ?_
            ·
             obtain ⟨vEU,wEX,nEV,csEW,runEY,SEZ,elsF0,ceF1⟩:=SEO.appendO (P:=Tryz.prog) te24 (i:=3) (j:=0) rfl (els91.mono (zag (((iBe.tr iEp).tr iED).tr iEI))) rfl elsEP hzET
             have SEZ:St H0 w0 HEG wEX (.row 34 1 vEL 2 [vEq,vEw]::.box b0 63 [vEu,Value.int .i64 rEj.2.at_,Value.int .u64 rEj.2.seed]::.box b71 26 [Value.int .i64 r58.1,v88]::.row 34 1 vEU nEV csEW::.box b21 26 [Value.int .i64 0,Value.slice none 0 0]::L):=SEZ
             have ndF2:(bl csEW).Nodup:=by rw [ceF1];exact zba nd92 ndEQ (Els.dom (els91.mono (upI.tr (iBe.tr iEp)))) (by exact nvER)
             have SF3:St H0 w0 HEG wEX (.box b0 63 [vEu,Value.int .i64 rEj.2.at_,Value.int .u64 rEj.2.seed]::.box b71 26 [Value.int .i64 r58.1,v88]::.row 34 1 vEU nEV csEW::.box b21 26 [Value.int .i64 0,Value.slice none 0 0]::L):=SEZ.drop 0
             refine FC.val (l':=(bs 11 511)) rfl (by kernel_rfl) rfl rfl rfl (E.append rfl rfl runEY) ?_
             refine ⟨(SP.on ((SF3.box_now (i:=1) rfl).sub (j:=1) (n:=1) (c:=[v88]) rfl) (SP.on ((SF3.box_now (i:=1) rfl).sub (j:=0) (n:=1) (c:=[Value.int .i64 r58.1]) rfl) (SP.nil (Sl.of_inc ((iEp.tr iED).tr iEI) SF3.sl)))),?_⟩
             refine FB.t (i:=9) (bs 11 1023) rfl (SP.on ((SF3.box_now (i:=1) rfl).sub (j:=1) (n:=1) (c:=[v88]) rfl) (SP.on ((SF3.box_now (i:=1) rfl).sub (j:=0) (n:=1) (c:=[Value.int .i64 r58.1]) rfl) (SP.nil (Sl.of_inc ((iEp.tr iED).tr iEI) SF3.sl)))) rfl (fun w' hw'=>(E.fieldAddr zay kB8)) ?_
             refine FB.all1 (i:=10) (by kernel_rfl) ?_
             ·
              obtain ⟨wF4,runF5,SF6⟩:=SF3.store (P:=Tryz.prog) (t:=24) (i:=1) (j:=1) (cs':=[Value.int .i64 r58.1,vEU]) (l':=(.box b0 63 [vEu,Value.int .i64 rEj.2.at_,Value.int .u64 rEj.2.seed]::.box b71 26 [Value.int .i64 r58.1,vEU]::.row 34 1 vEU nEV csEW::.box b21 26 [Value.int .i64 0,Value.slice none 0 0]::L)) (v:=vEU) (c:=[vEU]) rfl Tryz.sizeOf24 (Ln.cells (SF3.row_ln (i:=2) rfl)) rfl (zac (Ln.one (SF3.row_ln (i:=2) rfl)) zad) (Nat.le_of_ble_eq_true rfl) rfl rfl
              refine FC.act (l':=(bs 11 2047)) rfl (by kernel_rfl) rfl rfl (E.store rfl rfl runF5) ?_
              refine ⟨(SP.o (SP.on ((SF6.box_now (i:=1) rfl).sub (j:=0) (n:=1) (c:=[Value.int .i64 r58.1]) rfl) (SP.nil (Sl.of_inc ((iEp.tr iED).tr iEI) SF6.sl)))),?_⟩
              exact FB.done (by kernel_rfl) ⟨_,_,_,_,_,SF6,((iEp.tr iED).tr iEI),elsF0,(hEv.mono (iED.tr iEI)),ndF2,kB7,kB8⟩
        ·
         rintro fFi wFh ⟨HFe,vF7,nF8,csF9,vFc,SFf,iFg,elsFa,hFd,ndFb,kFj,kFk⟩
         refine FW.seq (FW.region ?_)
         refine FL.v (E.load kFk (zai Tryz.isAgg26 Tryz.sizeOf26 (SFf.box_now (i:=1) rfl) rfl)) ?_
         obtain ⟨wFl,runFm,SFn⟩:=SFf.store0 (P:=Tryz.prog) (t:=26) (i:=3) (cs':=[Value.int .i64 r58.1,vF7]) (l':=(.box b0 63 [vFc,Value.int .i64 rEj.2.at_,Value.int .u64 rEj.2.seed]::.box b71 26 [Value.int .i64 r58.1,vF7]::.row 34 1 vF7 nF8 csF9::.box b21 26 [Value.int .i64 r58.1,vF7]::L)) (v:=Value.agg #[Value.int .i64 r58.1,vF7]) (c:=[Value.int .i64 r58.1,vF7]) rfl Tryz.sizeOf26 rfl rfl (zac rfl (zac (Ln.one (SFf.row_ln (i:=2) rfl)) zad)) (Nat.le_of_ble_eq_true rfl) rfl rfl
         refine FL.act rfl rfl (E.store kFj rfl runFm) ?_
         refine FL.nil ?_
         refine FW.ret ?_
         obtain ⟨HFo,SFp,iFq,nsFt,nvFs⟩:=SFn.sealRowN (i:=2) (l':=(.box b0 63 [vFc,Value.int .i64 rEj.2.at_,Value.int .u64 rEj.2.seed]::.box b71 26 [Value.int .i64 r58.1,vF7]::.box b21 26 [Value.int .i64 r58.1,vF7]::L)) rfl elsFa ndFb (by decide) rfl
         have hFr:=nsFt.rsl
         obtain rfl:=Option.some.inj hp
         exact ⟨.inr rfl,resC rfl kFj (zaB Tryz.isAgg26 Tryz.sizeOf26 (SFp.box_now (i:=2) rfl) rfl) ⟨_,_,_,rfl,⟨(SFp.selT (a:=[.box b0 63 [vFc,Value.int .i64 rEj.2.at_,Value.int .u64 rEj.2.seed],.box b71 26 [Value.int .i64 r58.1,vF7],.box b21 26 [Value.int .i64 r58.1,vF7]]) (l':=[.box b0 63 [vFc,Value.int .i64 rEj.2.at_,Value.int .u64 rEj.2.seed]]) [0] (by decide) rfl),(((((((i31.tr i55).tr i63).tr i84).tr iB3).tr iBe).tr iFg).tr iFq)⟩,hFr,(hFd.mono iFq)⟩⟩
       ·
        refine FW.condF rfl cEf ?_
        refine FW.skip (FW.seq (FW.region ?_))
        refine FL.v (E.load kB8 (zai Tryz.isAgg26 Tryz.sizeOf26 (SBd.box_now (i:=1) rfl) rfl)) ?_
        obtain ⟨wFu,runFv,SFw⟩:=SBd.store0 (P:=Tryz.prog) (t:=26) (i:=3) (cs':=[Value.int .i64 r58.1,v88]) (l':=(.box b0 63 [vBf,Value.int .i64 rB9.2.at_,Value.int .u64 rB9.2.seed]::.box b71 26 [Value.int .i64 r58.1,v88]::.row 34 1 v88 n89 cs90::.box b21 26 [Value.int .i64 r58.1,v88]::L)) (v:=Value.agg #[Value.int .i64 r58.1,v88]) (c:=[Value.int .i64 r58.1,v88]) rfl Tryz.sizeOf26 rfl rfl (zac rfl (zac (Ln.one (SBd.row_ln (i:=2) rfl)) zad)) (Nat.le_of_ble_eq_true rfl) rfl rfl
        refine FL.act rfl rfl (E.store kB7 rfl runFv) ?_
        refine FL.nil ?_
        refine FW.ret ?_
        obtain ⟨HFx,SFy,iFz,nsFC,nvFB⟩:=SFw.sealRowN (i:=2) (l':=(.box b0 63 [vBf,Value.int .i64 rB9.2.at_,Value.int .u64 rB9.2.seed]::.box b71 26 [Value.int .i64 r58.1,v88]::.box b21 26 [Value.int .i64 r58.1,v88]::L)) rfl (els91.mono (zag iBe)) nd92 (by decide) rfl
        have hFA:=nsFC.rsl
        obtain rfl:=Option.some.inj hp
        exact ⟨.inr rfl,resC rfl kB7 (zaB Tryz.isAgg26 Tryz.sizeOf26 (SFy.box_now (i:=2) rfl) rfl) ⟨_,_,_,rfl,⟨(SFy.selT (a:=[.box b0 63 [vBf,Value.int .i64 rB9.2.at_,Value.int .u64 rB9.2.seed],.box b71 26 [Value.int .i64 r58.1,v88],.box b21 26 [Value.int .i64 r58.1,v88]]) (l':=[.box b0 63 [vBf,Value.int .i64 rB9.2.at_,Value.int .u64 rB9.2.seed]]) [0] (by decide) rfl),((((((i31.tr i55).tr i63).tr i84).tr iB3).tr iBe).tr iFz)⟩,hFA,(hBg.mono iFz)⟩⟩
   ·
    exact x87.elim

@[reducible] def zfm (H0:GH) (w0:World) (Ha:GH) (L:List MO) (b0:Nat) (r:(Cnf×Int×l1Cur)):Ending→World→Prop :=
 fun e w'=>∃ H':GH,∃ v0_1:Value,∃ v0_0r:Value,e=.returned (Value.tuple #[Value.agg #[Value.int .i64 r.1.vars,v0_1],Value.int .i64 r.2.1])∧(St H0 w0 H' w' (.box b0 63 [v0_0r,Value.int .i64 r.2.2.at_,Value.int .u64 r.2.2.seed]::L)∧Inc Ha H')∧RSl (up w0.heap.size H') (eL eI 1) 1 v0_1 r.1.clauses∧RSl H' (eN .u8) 1 v0_0r r.2.2.code
set_option maxHeartbeats 4000000 in
theorem zd0 {H0 Ha:GH} {w0 wa:World} {L:List MO} {a0:l1Cur} {b0:Nat} {v0_0:Value} (S0:St H0 w0 Ha wa (.box b0 63 [v0_0,Value.int .i64 a0.at_,Value.int .u64 a0.seed]::L)) (p0_0:RSl Ha (eN .u8) 1 v0_0 a0.code) {r:(Cnf×Int×l1Cur)} (hp:(PF.zbx a0)=some r) :
  Calls Tryz.prog 41 #[Value.pointer (some (⟨b0,0,none⟩:Addr))] wa (zfm H0 w0 Ha L b0 r):=by
 unfold PF.zbx at hp
 refine zae (N:=26) (args:=[Value.pointer (some (⟨b0,0,none⟩:Addr))]) Tryz.func41 rfl rfl rfl ?_
 refine FW.seq (FW.region ?_)
 obtain ⟨b21,w22,run23,S24⟩:=S0.alloc (P:=Tryz.prog) 26 [Value.int .i64 0,Value.slice none 0 0] Tryz.zeroValue26 rfl (zac rfl (zac rfl zad))
 refine FL.v (E.alloc run23) ?_
 refine FL.v (E.assign (v:=Value.int .i64 0) rfl) ?_
 refine FL.nil (FW.seq (FW.region ?_))
 refine FL.v (E.move (v:=Value.pointer (some (⟨b0,0,none⟩:Addr))) rfl) ?_
 obtain ⟨r25,hr26,hp⟩:=bnd hp
 have S27:St H0 w0 Ha w22 (.box b0 63 [v0_0,Value.int .i64 a0.at_,Value.int .u64 a0.seed]::.box b21 26 [Value.int .i64 0,Value.slice none 0 0]::L):=S24.front 1 rfl rfl
 refine FL.call rfl rfl rfl (E.call Tryz.call79 (A1 rfl)) (w_spec_l1Cur_cnf (L:=(.box b21 26 [Value.int .i64 0,Value.slice none 0 0]::L)) S27 (a0:=a0) p0_0 hr26) ?_
 rintro e w29 ⟨H28,v32,v34,rfl,⟨S30,i31⟩,h33,h35⟩
 refine ⟨_,rfl,?_⟩
 have S30:St H0 w0 H28 w29 (.box b0 63 [v34,Value.int .i64 r25.2.at_,Value.int .u64 r25.2.seed]::.box b21 26 [Value.int .i64 0,Value.slice none 0 0]::L):=S30
 obtain ⟨b36,w37,run38,S39⟩:=S30.alloc (P:=Tryz.prog) 26 [Value.int .i64 0,Value.slice none 0 0] Tryz.zeroValue26 rfl (zac rfl (zac rfl zad))
 refine FL.v (E.alloc run38) ?_
 obtain ⟨w40,run41,S42⟩:=S39.store0 (P:=Tryz.prog) (t:=26) (i:=0) (cs':=[Value.int .i64 r25.1.vars,v32]) (l':=(.box b36 26 [Value.int .i64 r25.1.vars,v32]::.box b0 63 [v34,Value.int .i64 r25.2.at_,Value.int .u64 r25.2.seed]::.box b21 26 [Value.int .i64 0,Value.slice none 0 0]::L)) (v:=Value.agg #[Value.int .i64 r25.1.vars,v32]) (c:=[Value.int .i64 r25.1.vars,v32]) rfl Tryz.sizeOf26 rfl rfl (zac rfl (zac h33.one zad)) (Nat.le_of_ble_eq_true rfl) rfl rfl
 refine FL.act rfl rfl (E.store rfl rfl run41) ?_
 refine FL.nil (FW.seq (FW.seq (FW.region ?_)))
 refine FL.v (E.move (v:=Value.pointer (some (⟨b0,0,none⟩:Addr))) rfl) ?_
 obtain ⟨r43,hr44,hp⟩:=bnd hp
 have S45:St H0 w0 H28 w40 (.box b0 63 [v34,Value.int .i64 r25.2.at_,Value.int .u64 r25.2.seed]::.box b36 26 [Value.int .i64 r25.1.vars,v32]::.box b21 26 [Value.int .i64 0,Value.slice none 0 0]::L):=S42.front 1 rfl rfl
 refine FL.call rfl rfl rfl (E.call Tryz.call80 (A2 rfl rfl)) (zcl (L:=(.box b36 26 [Value.int .i64 r25.1.vars,v32]::.box b21 26 [Value.int .i64 0,Value.slice none 0 0]::L)) S45 (a0:=r25.2) h35 2 hr44) ?_
 rintro e w47 ⟨H46,v50,rfl,⟨S48,i49⟩,h51⟩
 refine ⟨_,rfl,?_⟩
 have S48:St H0 w0 H46 w47 (.box b0 63 [v50,Value.int .i64 r43.2.at_,Value.int .u64 r43.2.seed]::.box b36 26 [Value.int .i64 r25.1.vars,v32]::.box b21 26 [Value.int .i64 0,Value.slice none 0 0]::L):=S48
 refine FL.nil ?_
 obtain ⟨q67,hq,hp⟩:=bndR hp
 refine FW.joinE (S:=((List Int)×Int×Int×Int×(List (List Int)))) (X:=Empty) (q:=q67) (fun s66 f w=>∃ H:GH,∃ v69:Value,∃ v71:Value,St H0 w0 H w (.box b0 63 [v69,Value.int .i64 s66.2.1,Value.int .u64 s66.2.2.1]::.box b36 26 [Value.int .i64 s66.2.2.2.1,v71]::.box b21 26 [Value.int .i64 0,Value.slice none 0 0]::L)∧Inc H46 H∧RSl H (eN .u8) 1 v69 s66.1∧RSl (up w0.heap.size H) (eL eI 1) 1 v71 s66.2.2.2.2∧f 0=Value.pointer (some (⟨b0,0,none⟩:Addr))∧f 2=Value.pointer (some (⟨b21,0,none⟩:Addr))∧f 4=Value.pointer (some (⟨b36,0,none⟩:Addr))) (fun (_:Empty) _ _ _=>False) ?_ ?_ ?_
 ·
  clear hp;have hp:=hq;clear hq
  rcases ifB hp with ⟨c73,hp⟩|⟨c73,hp⟩
  ·
   refine FW.condT rfl c73 ?_
   refine FW.region ?_
   refine FL.v (E.move (v:=Value.pointer (some (⟨b0,0,none⟩:Addr))) rfl) ?_
   obtain ⟨r74,hr75,hp⟩:=bnd hp
   refine FL.call rfl rfl rfl (E.call Tryz.call81 (A1 rfl)) (zeP (L:=(.box b36 26 [Value.int .i64 r25.1.vars,v32]::.box b21 26 [Value.int .i64 0,Value.slice none 0 0]::L)) S48 (a0:=r43.2) h51 hr75) ?_
   rintro e w77 ⟨H76,v80,v82,rfl,⟨S78,i79⟩,⟨_,⟨h81,_⟩⟩,h83⟩
   refine ⟨_,rfl,?_⟩
   have S78:St H0 w0 H76 w77 (.box b0 63 [v82,Value.int .i64 r74.2.at_,Value.int .u64 r74.2.seed]::.box b36 26 [Value.int .i64 r25.1.vars,v32]::.box b21 26 [Value.int .i64 0,Value.slice none 0 0]::L):=S78
   obtain ⟨w84,run85,S86⟩:=S78.store0 (P:=Tryz.prog) (t:=26) (i:=1) (cs':=[Value.int .i64 r74.1.vars,v80]) (l':=(.box b0 63 [v82,Value.int .i64 r74.2.at_,Value.int .u64 r74.2.seed]::.box b36 26 [Value.int .i64 r74.1.vars,v80]::.box b21 26 [Value.int .i64 0,Value.slice none 0 0]::L)) (v:=Value.agg #[Value.int .i64 r74.1.vars,v80]) (c:=[Value.int .i64 r74.1.vars,v80]) rfl Tryz.sizeOf26 rfl rfl (zac rfl (zac h81.one zad)) (Nat.le_of_ble_eq_true rfl) rfl rfl
   refine FL.act rfl rfl (E.store rfl rfl run85) ?_
   refine FL.nil ?_
   obtain rfl:=Option.some.inj hp
   exact ⟨rfl,⟨_,_,_,S86,i79,h83,h81,rfl,rfl,rfl⟩⟩
  ·
   refine FW.condF rfl c73 ?_
   refine FW.skip ?_
   obtain rfl:=Option.some.inj hp
   exact ⟨rfl,⟨_,_,_,S48,(Inc.rfl _),h51,(h33.mono (zag i49)),rfl,rfl,rfl⟩⟩
 ·
  rintro s66 rfl f91 w90 ⟨H87,v69,v71,S88,i89,h70,h72,k92,k93,k94⟩
  replace hp:=el_go hp
  refine FW.seq (FW.seq (FW.region ?_))
  refine FL.v (E.move k92) ?_
  obtain ⟨r95,hr96,hp⟩:=bnd hp
  refine FL.call rfl rfl rfl (E.call Tryz.call80 (A2 rfl rfl)) (zcl (L:=(.box b36 26 [Value.int .i64 s66.2.2.2.1,v71]::.box b21 26 [Value.int .i64 0,Value.slice none 0 0]::L)) S88 (a0:=(l1Cur.mk s66.1 s66.2.1 s66.2.2.1)) h70 24 hr96) ?_
  rintro e w98 ⟨H97,vA1,rfl,⟨S99,iA0⟩,hA2⟩
  refine ⟨_,rfl,?_⟩
  have S99:St H0 w0 H97 w98 (.box b0 63 [vA1,Value.int .i64 r95.2.at_,Value.int .u64 r95.2.seed]::.box b36 26 [Value.int .i64 s66.2.2.2.1,v71]::.box b21 26 [Value.int .i64 0,Value.slice none 0 0]::L):=S99
  refine FL.nil ?_
  obtain ⟨qAq,hq,hp⟩:=bndR hp
  refine FW.joinE (S:=((List Int)×Int×Int×Int)) (X:=Empty) (q:=qAq) (fun sAp f w=>∃ H:GH,∃ vAs:Value,St H0 w0 H w (.box b0 63 [vAs,Value.int .i64 sAp.2.1,Value.int .u64 sAp.2.2.1]::.box b36 26 [Value.int .i64 sAp.2.2.2,v71]::.box b21 26 [Value.int .i64 0,Value.slice none 0 0]::L)∧Inc H97 H∧RSl H (eN .u8) 1 vAs sAp.1∧f 0=Value.pointer (some (⟨b0,0,none⟩:Addr))∧f 2=Value.pointer (some (⟨b21,0,none⟩:Addr))∧f 4=Value.pointer (some (⟨b36,0,none⟩:Addr))) (fun (_:Empty) _ _ _=>False) ?_ ?_ ?_
  ·
   clear hp;have hp:=hq;clear hq
   rcases ifB hp with ⟨cAu,hp⟩|⟨cAu,hp⟩
   ·
    refine FW.condT rfl cAu ?_
    refine FW.region ?_
    refine FL.v (E.move k92) ?_
    obtain ⟨vAv,wAw,runAx,SAy,elsAz⟩:=S99.ints (P:=Tryz.prog) te34 (up w0.heap.size H97) 2 [6,7]
    refine FL.v (E.buildSlice (B2 rfl rfl) runAx) ?_
    obtain ⟨HAA,SAB,iAC,hAD,nvAE⟩:=SAy.sealRowU (i:=0) (l':=(.box b0 63 [vA1,Value.int .i64 r95.2.at_,Value.int .u64 r95.2.seed]::.box b36 26 [Value.int .i64 s66.2.2.2.1,v71]::.box b21 26 [Value.int .i64 0,Value.slice none 0 0]::L)) rfl elsAz (by decide) rfl
    obtain ⟨rAF,hrAG,hp⟩:=bnd hp
    refine FL.call rfl rfl rfl (E.call Tryz.call82 (A2 rfl rfl)) (zby (L:=(.box b36 26 [Value.int .i64 s66.2.2.2.1,v71]::.box b21 26 [Value.int .i64 0,Value.slice none 0 0]::L)) SAB (a0:=r95.2) (hA2.mono iAC) vAv [6,7] (hAD.mono upI) hrAG) ?_
    rintro e wAI ⟨HAH,vAL,rfl,⟨SAJ,iAK⟩,hAM⟩
    refine ⟨_,rfl,?_⟩
    have SAJ:St H0 w0 HAH wAI (.box b0 63 [vAL,Value.int .i64 rAF.2.at_,Value.int .u64 rAF.2.seed]::.box b36 26 [Value.int .i64 s66.2.2.2.1,v71]::.box b21 26 [Value.int .i64 0,Value.slice none 0 0]::L):=SAJ
    refine FL.v (E.fieldAddr zaC k94) ?_
    obtain ⟨wAN,runAO,SAP⟩:=SAJ.store (P:=Tryz.prog) (t:=3) (i:=1) (j:=0) (cs':=[Value.int .i64 rAF.1,v71]) (l':=(.box b0 63 [vAL,Value.int .i64 rAF.2.at_,Value.int .u64 rAF.2.seed]::.box b36 26 [Value.int .i64 rAF.1,v71]::.box b21 26 [Value.int .i64 0,Value.slice none 0 0]::L)) (v:=Value.int .i64 rAF.1) (c:=[Value.int .i64 rAF.1]) rfl Tryz.sizeOf3 rfl rfl (zac rfl zad) (Nat.le_of_ble_eq_true rfl) rfl rfl
    refine FL.act rfl rfl (E.store rfl rfl runAO) ?_
    refine FL.nil ?_
    obtain rfl:=Option.some.inj hp
    exact ⟨rfl,⟨_,_,SAP,(iAC.tr iAK),hAM,k92,k93,k94⟩⟩
   ·
    refine FW.condF rfl cAu ?_
    refine FW.skip ?_
    obtain rfl:=Option.some.inj hp
    exact ⟨rfl,⟨_,_,S99,(Inc.rfl _),hA2,k92,k93,k94⟩⟩
  ·
   rintro sAp rfl fAU wAT ⟨HAQ,vAs,SAR,iAS,hAt,kAV,kAW,kAX⟩
   replace hp:=el_go hp
   refine FW.seq ?_
   obtain ⟨r57,hr58,hp⟩:=bnd hp
   obtain ⟨xsA3,hcA4,hp⟩:=bnd hp
   obtain ⟨rAd,hrAe,hp⟩:=bnd hp
   refine FW.drawB (SX H0 w0 HAQ (.box b36 26 [Value.int .i64 sAp.2.2.2,v71]::L)) (fun f w=>∃ H:GH,∃ vAo:Value,∃ vB2:Value,St H0 w0 H w (.box b0 63 [vAo,Value.int .i64 rAd.2.at_,Value.int .u64 rAd.2.seed]::.box b21 26 [Value.int .i64 sAp.2.2.2,vB2]::L)∧Inc HAQ H∧RSl H (eN .u8) 1 vAo rAd.2.code∧RSl (up w0.heap.size H) (eL eI 1) 1 vB2 s66.2.2.2.2∧f 2=Value.pointer (some (⟨b21,0,none⟩:Addr))∧f 3=Value.int .i64 rAd.1) (by kernel_rfl) SAR.sl ?_ ?_
   ·
    intro wAY rAZ
    have SB0:=SAR.call rAZ
    refine FB.t (i:=0) (bs 11 1) rfl (SP.nil ⟨_,(SB0.selT (a:=[.box b0 63 [vAs,Value.int .i64 sAp.2.1,Value.int .u64 sAp.2.2.1],.box b36 26 [Value.int .i64 sAp.2.2.2,v71],.box b21 26 [Value.int .i64 0,Value.slice none 0 0]]) (l':=[.box b36 26 [Value.int .i64 sAp.2.2.2,v71]]) [1] (by decide) rfl),(Inc.rfl _)⟩) rfl (fun w' hw'=>(E.load kAX (zai Tryz.isAgg26 Tryz.sizeOf26 (SX.box_now hw' (i:=0) rfl) rfl))) ?_
    refine FB.t (i:=1) (bs 11 3) rfl (SP.nil ⟨_,(SB0.selT (a:=[.box b0 63 [vAs,Value.int .i64 sAp.2.1,Value.int .u64 sAp.2.2.1],.box b36 26 [Value.int .i64 sAp.2.2.2,v71],.box b21 26 [Value.int .i64 0,Value.slice none 0 0]]) (l':=[.box b36 26 [Value.int .i64 sAp.2.2.2,v71]]) [1] (by decide) rfl),(Inc.rfl _)⟩) rfl (fun w' hw'=>(E.move kAV)) ?_
    refine FB.t (i:=3) (bs 11 11) rfl (SP.nil ⟨_,(SB0.selT (a:=[.box b0 63 [vAs,Value.int .i64 sAp.2.1,Value.int .u64 sAp.2.2.1],.box b36 26 [Value.int .i64 sAp.2.2.2,v71],.box b21 26 [Value.int .i64 0,Value.slice none 0 0]]) (l':=[.box b36 26 [Value.int .i64 sAp.2.2.2,v71]]) [1] (by decide) rfl),(Inc.rfl _)⟩) rfl (fun w' hw'=>(E.move kAV)) ?_
    refine FB.all2 (i:=2) (j:=4) (by kernel_rfl) ?_ ?_
    ·
     obtain ⟨v52,w53,run54,S55,els56⟩:=SB0.ints (P:=Tryz.prog) te34 (up w0.heap.size HAQ) 10 [1,1,2,2,0,3,4,6,7,(-1)]
     refine FC.val (l':=(bs 11 15)) rfl (by kernel_rfl) rfl rfl rfl (E.buildSlice (B10 rfl rfl rfl rfl rfl rfl rfl rfl rfl rfl) run54) ?_
     refine ⟨(SP.nil ⟨_,(S55.selT (a:=[.row 3 1 v52 10 (iC [1,1,2,2,0,3,4,6,7,(-1)]),.box b0 63 [vAs,Value.int .i64 sAp.2.1,Value.int .u64 sAp.2.2.1],.box b36 26 [Value.int .i64 sAp.2.2.2,v71],.box b21 26 [Value.int .i64 0,Value.slice none 0 0]]) (l':=[.box b36 26 [Value.int .i64 sAp.2.2.2,v71]]) [2] (by decide) rfl),(Inc.rfl _)⟩),?_⟩
     refine FB.all1 (i:=4) (by kernel_rfl) ?_
     ·
      have S59:St H0 w0 HAQ w53 (.box b0 63 [vAs,Value.int .i64 sAp.2.1,Value.int .u64 sAp.2.2.1]::.row 3 1 v52 10 (iC [1,1,2,2,0,3,4,6,7,(-1)])::.box b36 26 [Value.int .i64 sAp.2.2.2,v71]::.box b21 26 [Value.int .i64 0,Value.slice none 0 0]::L):=S55.front 1 rfl rfl
      refine FC.call (l':=(bs 11 31)) rfl (by kernel_rfl) rfl rfl rfl (E.call Tryz.call74 (A2 rfl rfl)) (zaR (L:=(.row 3 1 v52 10 (iC [1,1,2,2,0,3,4,6,7,(-1)])::.box b36 26 [Value.int .i64 sAp.2.2.2,v71]::.box b21 26 [Value.int .i64 0,Value.slice none 0 0]::L)) S59 (a0:=(l1Cur.mk sAp.1 sAp.2.1 sAp.2.2.1)) hAt 24 hr58) ?_
      rintro e w61 ⟨H60,v64,rfl,⟨S62,i63⟩,h65⟩
      refine ⟨_,rfl,?_⟩
      have S62:St H0 w0 H60 w61 (.box b0 63 [v64,Value.int .i64 r57.2.at_,Value.int .u64 r57.2.seed]::.row 3 1 v52 10 (iC [1,1,2,2,0,3,4,6,7,(-1)])::.box b36 26 [Value.int .i64 sAp.2.2.2,v71]::.box b21 26 [Value.int .i64 0,Value.slice none 0 0]::L):=S62
      refine ⟨(SP.nil ⟨_,(S62.selT (a:=[.box b0 63 [v64,Value.int .i64 r57.2.at_,Value.int .u64 r57.2.seed],.row 3 1 v52 10 (iC [1,1,2,2,0,3,4,6,7,(-1)]),.box b36 26 [Value.int .i64 sAp.2.2.2,v71],.box b21 26 [Value.int .i64 0,Value.slice none 0 0]]) (l':=[.box b36 26 [Value.int .i64 sAp.2.2.2,v71]]) [2] (by decide) rfl),i63⟩),?_⟩
      refine FB.t (i:=5) (bs 11 63) rfl (SP.nil ⟨_,(S62.selT (a:=[.box b0 63 [v64,Value.int .i64 r57.2.at_,Value.int .u64 r57.2.seed],.row 3 1 v52 10 (iC [1,1,2,2,0,3,4,6,7,(-1)]),.box b36 26 [Value.int .i64 sAp.2.2.2,v71],.box b21 26 [Value.int .i64 0,Value.slice none 0 0]]) (l':=[.box b36 26 [Value.int .i64 sAp.2.2.2,v71]]) [2] (by decide) rfl),i63⟩) rfl (fun w' hw'=>(E.quo rfl rfl (by decide))) ?_
      refine FB.t (i:=6) (bs 11 127) rfl (SP.nil ⟨_,(S62.selT (a:=[.box b0 63 [v64,Value.int .i64 r57.2.at_,Value.int .u64 r57.2.seed],.row 3 1 v52 10 (iC [1,1,2,2,0,3,4,6,7,(-1)]),.box b36 26 [Value.int .i64 sAp.2.2.2,v71],.box b21 26 [Value.int .i64 0,Value.slice none 0 0]]) (l':=[.box b36 26 [Value.int .i64 sAp.2.2.2,v71]]) [2] (by decide) rfl),i63⟩) rfl (fun w' hw'=>(E.add rfl rfl)) ?_
      refine FB.phase [8,9] (fun w'=>w'=w61) ?_
      obtain ⟨HA5,SA6,iA7,hA8,nvA9⟩:=S62.sealRowU (i:=1) (l':=(.box b0 63 [v64,Value.int .i64 r57.2.at_,Value.int .u64 r57.2.seed]::.box b36 26 [Value.int .i64 sAp.2.2.2,v71]::.box b21 26 [Value.int .i64 0,Value.slice none 0 0]::L)) rfl (els56.mono (zag i63)) (by decide) rfl
      obtain ⟨vAa,runAb,hAc⟩:=hA8.cut te34 hcA4 (lo:=none) (hi:=some (Value.int .i64 (wr (7 + (wr (r57.1.tdiv 8)))))) (.inl ⟨rfl,rfl⟩) (.inr ⟨_,rfl⟩)
      refine FB.u (i:=7) (bs 11 255) [8,9,10] rfl (SP.on rfl (SP.nil ⟨_,(S62.selT (a:=[.box b0 63 [v64,Value.int .i64 r57.2.at_,Value.int .u64 r57.2.seed],.row 3 1 v52 10 (iC [1,1,2,2,0,3,4,6,7,(-1)]),.box b36 26 [Value.int .i64 sAp.2.2.2,v71],.box b21 26 [Value.int .i64 0,Value.slice none 0 0]]) (l':=[.box b36 26 [Value.int .i64 sAp.2.2.2,v71]]) [2] (by decide) rfl),i63⟩)) rfl (E.slice te34 rfl rfl (congrArg some rfl) rfl (runAb _)) ?_
      refine FB.all1 (i:=8) (by kernel_rfl) ?_
      ·
       refine FC.call (l':=(bs 11 511)) rfl (by kernel_rfl) rfl rfl rfl (E.call Tryz.call82 (A2 rfl rfl)) (zby (L:=(.box b36 26 [Value.int .i64 sAp.2.2.2,v71]::.box b21 26 [Value.int .i64 0,Value.slice none 0 0]::L)) SA6 (a0:=r57.2) (h65.mono iA7) vAa xsA3 (hAc.mono upI) hrAe) ?_
       rintro e wAg ⟨HAf,vAj,rfl,⟨SAh,iAi⟩,hAk⟩
       refine ⟨_,rfl,?_⟩
       have SAh:St H0 w0 HAf wAg (.box b0 63 [vAj,Value.int .i64 rAd.2.at_,Value.int .u64 rAd.2.seed]::.box b36 26 [Value.int .i64 sAp.2.2.2,v71]::.box b21 26 [Value.int .i64 0,Value.slice none 0 0]::L):=SAh
       refine ⟨(SP.o (SP.nil ⟨_,(SAh.selT (a:=[.box b0 63 [vAj,Value.int .i64 rAd.2.at_,Value.int .u64 rAd.2.seed],.box b36 26 [Value.int .i64 sAp.2.2.2,v71],.box b21 26 [Value.int .i64 0,Value.slice none 0 0]]) (l':=[.box b36 26 [Value.int .i64 sAp.2.2.2,v71]]) [1] (by decide) rfl),((i63.tr iA7).tr iAi)⟩)),?_⟩
       refine FB.all1 (i:=9) (by kernel_rfl) ?_
       ·
        obtain ⟨wAl,runAm,SAn⟩:=SAh.store0 (P:=Tryz.prog) (t:=26) (i:=2) (cs':=[Value.int .i64 sAp.2.2.2,v71]) (l':=(.box b0 63 [vAj,Value.int .i64 rAd.2.at_,Value.int .u64 rAd.2.seed]::.box b36 26 [Value.int .i64 sAp.2.2.2,v71]::.box b21 26 [Value.int .i64 sAp.2.2.2,v71]::L)) (v:=Value.agg #[Value.int .i64 sAp.2.2.2,v71]) (c:=[Value.int .i64 sAp.2.2.2,v71]) rfl Tryz.sizeOf26 rfl rfl (zac rfl (zac h72.one zad)) (Nat.le_of_ble_eq_true rfl) rfl rfl
        refine FC.act (l':=(bs 11 1023)) rfl (by kernel_rfl) rfl rfl (E.store kAW rfl runAm) ?_
        refine ⟨(SP.o (SP.nil ⟨_,(SAn.selT (a:=[.box b0 63 [vAj,Value.int .i64 rAd.2.at_,Value.int .u64 rAd.2.seed],.box b36 26 [Value.int .i64 sAp.2.2.2,v71],.box b21 26 [Value.int .i64 sAp.2.2.2,v71]]) (l':=[.box b36 26 [Value.int .i64 sAp.2.2.2,v71]]) [1] (by decide) rfl),((i63.tr iA7).tr iAi)⟩)),?_⟩
        refine FB.t (i:=10) (bs 11 2047) rfl (SP.o (SP.nil ⟨_,(SAn.selT (a:=[.box b0 63 [vAj,Value.int .i64 rAd.2.at_,Value.int .u64 rAd.2.seed],.box b36 26 [Value.int .i64 sAp.2.2.2,v71],.box b21 26 [Value.int .i64 sAp.2.2.2,v71]]) (l':=[.box b36 26 [Value.int .i64 sAp.2.2.2,v71]]) [1] (by decide) rfl),((i63.tr iA7).tr iAi)⟩)) rfl (fun w' hw'=>(E.assign (v:=Value.int .i64 rAd.1) rfl)) ?_
        exact FB.done (by kernel_rfl) ⟨_,_,_,(SAn.selT (a:=[.box b0 63 [vAj,Value.int .i64 rAd.2.at_,Value.int .u64 rAd.2.seed],.box b36 26 [Value.int .i64 sAp.2.2.2,v71],.box b21 26 [Value.int .i64 sAp.2.2.2,v71]]) (l':=[.box b0 63 [vAj,Value.int .i64 rAd.2.at_,Value.int .u64 rAd.2.seed],.box b21 26 [Value.int .i64 sAp.2.2.2,v71]]) [0,2] (by decide) rfl),((i63.tr iA7).tr iAi),hAk,(h72.mono (zag ((((iA0.tr iAS).tr i63).tr iA7).tr iAi))),kAW,rfl⟩
    ·
     refine FC.call (l':=(bs 11 27)) rfl (by kernel_rfl) rfl rfl rfl (E.call Tryz.call74 (A2 rfl rfl)) (zaR (L:=(.box b36 26 [Value.int .i64 sAp.2.2.2,v71]::.box b21 26 [Value.int .i64 0,Value.slice none 0 0]::L)) SB0 (a0:=(l1Cur.mk sAp.1 sAp.2.1 sAp.2.2.1)) hAt 24 hr58) ?_
     rintro e w60 ⟨H59,v63,rfl,⟨S61,i62⟩,h64⟩
     refine ⟨_,rfl,?_⟩
     have S61:St H0 w0 H59 w60 (.box b0 63 [v63,Value.int .i64 r57.2.at_,Value.int .u64 r57.2.seed]::.box b36 26 [Value.int .i64 sAp.2.2.2,v71]::.box b21 26 [Value.int .i64 0,Value.slice none 0 0]::L):=S61
     refine ⟨(SP.nil ⟨_,(S61.selT (a:=[.box b0 63 [v63,Value.int .i64 r57.2.at_,Value.int .u64 r57.2.seed],.box b36 26 [Value.int .i64 sAp.2.2.2,v71],.box b21 26 [Value.int .i64 0,Value.slice none 0 0]]) (l':=[.box b36 26 [Value.int .i64 sAp.2.2.2,v71]]) [1] (by decide) rfl),i62⟩),?_⟩
     refine FB.t (i:=5) (bs 11 59) rfl (SP.nil ⟨_,(S61.selT (a:=[.box b0 63 [v63,Value.int .i64 r57.2.at_,Value.int .u64 r57.2.seed],.box b36 26 [Value.int .i64 sAp.2.2.2,v71],.box b21 26 [Value.int .i64 0,Value.slice none 0 0]]) (l':=[.box b36 26 [Value.int .i64 sAp.2.2.2,v71]]) [1] (by decide) rfl),i62⟩) rfl (fun w' hw'=>(E.quo rfl rfl (by decide))) ?_
     refine FB.t (i:=6) (bs 11 123) rfl (SP.nil ⟨_,(S61.selT (a:=[.box b0 63 [v63,Value.int .i64 r57.2.at_,Value.int .u64 r57.2.seed],.box b36 26 [Value.int .i64 sAp.2.2.2,v71],.box b21 26 [Value.int .i64 0,Value.slice none 0 0]]) (l':=[.box b36 26 [Value.int .i64 sAp.2.2.2,v71]]) [1] (by decide) rfl),i62⟩) rfl (fun w' hw'=>(E.add rfl rfl)) ?_
     refine FB.all1 (i:=2) (by kernel_rfl) ?_
     ·
      obtain ⟨v52,w53,run54,S55,els56⟩:=S61.ints (P:=Tryz.prog) te34 (up w0.heap.size H59) 10 [1,1,2,2,0,3,4,6,7,(-1)]
      refine FC.val (l':=(bs 11 127)) rfl (by kernel_rfl) rfl rfl rfl (E.buildSlice (B10 rfl rfl rfl rfl rfl rfl rfl rfl rfl rfl) run54) ?_
      refine ⟨(SP.nil ⟨_,(S55.selT (a:=[.row 3 1 v52 10 (iC [1,1,2,2,0,3,4,6,7,(-1)]),.box b0 63 [v63,Value.int .i64 r57.2.at_,Value.int .u64 r57.2.seed],.box b36 26 [Value.int .i64 sAp.2.2.2,v71],.box b21 26 [Value.int .i64 0,Value.slice none 0 0]]) (l':=[.box b36 26 [Value.int .i64 sAp.2.2.2,v71]]) [2] (by decide) rfl),i62⟩),?_⟩
      refine FB.phase [8,9] (fun w'=>w'=w53) ?_
      obtain ⟨HA5,SA6,iA7,hA8,nvA9⟩:=S55.sealRowU (i:=0) (l':=(.box b0 63 [v63,Value.int .i64 r57.2.at_,Value.int .u64 r57.2.seed]::.box b36 26 [Value.int .i64 sAp.2.2.2,v71]::.box b21 26 [Value.int .i64 0,Value.slice none 0 0]::L)) rfl els56 (by decide) rfl
      obtain ⟨vAa,runAb,hAc⟩:=hA8.cut te34 hcA4 (lo:=none) (hi:=some (Value.int .i64 (wr (7 + (wr (r57.1.tdiv 8)))))) (.inl ⟨rfl,rfl⟩) (.inr ⟨_,rfl⟩)
      refine FB.u (i:=7) (bs 11 255) [8,9,10] rfl (SP.on rfl (SP.nil ⟨_,(S55.selT (a:=[.row 3 1 v52 10 (iC [1,1,2,2,0,3,4,6,7,(-1)]),.box b0 63 [v63,Value.int .i64 r57.2.at_,Value.int .u64 r57.2.seed],.box b36 26 [Value.int .i64 sAp.2.2.2,v71],.box b21 26 [Value.int .i64 0,Value.slice none 0 0]]) (l':=[.box b36 26 [Value.int .i64 sAp.2.2.2,v71]]) [2] (by decide) rfl),i62⟩)) rfl (E.slice te34 rfl rfl (congrArg some rfl) rfl (runAb _)) ?_
      refine FB.all1 (i:=8) (by kernel_rfl) ?_
      ·
       refine FC.call (l':=(bs 11 511)) rfl (by kernel_rfl) rfl rfl rfl (E.call Tryz.call82 (A2 rfl rfl)) (zby (L:=(.box b36 26 [Value.int .i64 sAp.2.2.2,v71]::.box b21 26 [Value.int .i64 0,Value.slice none 0 0]::L)) SA6 (a0:=r57.2) (h64.mono iA7) vAa xsA3 (hAc.mono upI) hrAe) ?_
       rintro e wAg ⟨HAf,vAj,rfl,⟨SAh,iAi⟩,hAk⟩
       refine ⟨_,rfl,?_⟩
       have SAh:St H0 w0 HAf wAg (.box b0 63 [vAj,Value.int .i64 rAd.2.at_,Value.int .u64 rAd.2.seed]::.box b36 26 [Value.int .i64 sAp.2.2.2,v71]::.box b21 26 [Value.int .i64 0,Value.slice none 0 0]::L):=SAh
       refine ⟨(SP.o (SP.nil ⟨_,(SAh.selT (a:=[.box b0 63 [vAj,Value.int .i64 rAd.2.at_,Value.int .u64 rAd.2.seed],.box b36 26 [Value.int .i64 sAp.2.2.2,v71],.box b21 26 [Value.int .i64 0,Value.slice none 0 0]]) (l':=[.box b36 26 [Value.int .i64 sAp.2.2.2,v71]]) [1] (by decide) rfl),((i62.tr iA7).tr iAi)⟩)),?_⟩
       refine FB.all1 (i:=9) (by kernel_rfl) ?_
       ·
        obtain ⟨wAl,runAm,SAn⟩:=SAh.store0 (P:=Tryz.prog) (t:=26) (i:=2) (cs':=[Value.int .i64 sAp.2.2.2,v71]) (l':=(.box b0 63 [vAj,Value.int .i64 rAd.2.at_,Value.int .u64 rAd.2.seed]::.box b36 26 [Value.int .i64 sAp.2.2.2,v71]::.box b21 26 [Value.int .i64 sAp.2.2.2,v71]::L)) (v:=Value.agg #[Value.int .i64 sAp.2.2.2,v71]) (c:=[Value.int .i64 sAp.2.2.2,v71]) rfl Tryz.sizeOf26 rfl rfl (zac rfl (zac h72.one zad)) (Nat.le_of_ble_eq_true rfl) rfl rfl
        refine FC.act (l':=(bs 11 1023)) rfl (by kernel_rfl) rfl rfl (E.store kAW rfl runAm) ?_
        refine ⟨(SP.o (SP.nil ⟨_,(SAn.selT (a:=[.box b0 63 [vAj,Value.int .i64 rAd.2.at_,Value.int .u64 rAd.2.seed],.box b36 26 [Value.int .i64 sAp.2.2.2,v71],.box b21 26 [Value.int .i64 sAp.2.2.2,v71]]) (l':=[.box b36 26 [Value.int .i64 sAp.2.2.2,v71]]) [1] (by decide) rfl),((i62.tr iA7).tr iAi)⟩)),?_⟩
        refine FB.t (i:=10) (bs 11 2047) rfl (SP.o (SP.nil ⟨_,(SAn.selT (a:=[.box b0 63 [vAj,Value.int .i64 rAd.2.at_,Value.int .u64 rAd.2.seed],.box b36 26 [Value.int .i64 sAp.2.2.2,v71],.box b21 26 [Value.int .i64 sAp.2.2.2,v71]]) (l':=[.box b36 26 [Value.int .i64 sAp.2.2.2,v71]]) [1] (by decide) rfl),((i62.tr iA7).tr iAi)⟩)) rfl (fun w' hw'=>(E.assign (v:=Value.int .i64 rAd.1) rfl)) ?_
        exact FB.done (by kernel_rfl) ⟨_,_,_,(SAn.selT (a:=[.box b0 63 [vAj,Value.int .i64 rAd.2.at_,Value.int .u64 rAd.2.seed],.box b36 26 [Value.int .i64 sAp.2.2.2,v71],.box b21 26 [Value.int .i64 sAp.2.2.2,v71]]) (l':=[.box b0 63 [vAj,Value.int .i64 rAd.2.at_,Value.int .u64 rAd.2.seed],.box b21 26 [Value.int .i64 sAp.2.2.2,v71]]) [0,2] (by decide) rfl),((i62.tr iA7).tr iAi),hAk,(h72.mono (zag ((((iA0.tr iAS).tr i62).tr iA7).tr iAi))),kAW,rfl⟩
   ·
    rintro fB8 wB7 ⟨HB4,vAo,vB2,SB5,iB6,hB1,hB3,kB9,kBa⟩
    refine FW.ret ?_
    obtain rfl:=Option.some.inj hp
    exact ⟨.inr rfl,resC2 rfl kB9 (zaB Tryz.isAgg26 Tryz.sizeOf26 (SB5.box_now (i:=1) rfl) rfl) kBa ⟨_,_,_,rfl,⟨(SB5.selT (a:=[.box b0 63 [vAo,Value.int .i64 rAd.2.at_,Value.int .u64 rAd.2.seed],.box b21 26 [Value.int .i64 sAp.2.2.2,vB2]]) (l':=[.box b0 63 [vAo,Value.int .i64 rAd.2.at_,Value.int .u64 rAd.2.seed]]) [0] (by decide) rfl),(((((i31.tr i49).tr i89).tr iA0).tr iAS).tr iB6)⟩,hB3,hB1⟩⟩
  ·
   intro xAr;exact xAr.elim
 ·
  intro x68;exact x68.elim

@[reducible] def zfn (Ha:GH) (wa:World) (r:(Cnf×Int)):Ending→World→Prop :=
 fun e w'=>∃ H':GH,∃ v0_1:Value,e=.returned (Value.tuple #[Value.agg #[Value.int .i64 r.1.vars,v0_1],Value.int .i64 r.2])∧Run wa.heap.size Ha wa H' w'∧RSl (up wa.heap.size H') (eL eI 1) 1 v0_1 r.1.clauses
theorem zfo {Ha:GH} {wa:World} (hs:Sl Ha wa) (v0:Value) (a0:List Int) (p0:RSl Ha (eN .u8) 1 v0 a0) {r:(Cnf×Int)} (hp:(PF.zdP a0)=some r) :
  Calls Tryz.prog 22 #[v0] wa (zfn Ha wa r):=by
 unfold PF.zdP at hp
 have S0:=St.init hs
 refine zae (N:=12) (args:=[v0]) Tryz.func22 rfl rfl rfl ?_
 refine FW.seq (FW.region ?_)
 obtain ⟨b21,w22,run23,S24⟩:=S0.alloc (P:=Tryz.prog) 26 [Value.int .i64 0,Value.slice none 0 0] Tryz.zeroValue26 rfl (zac rfl (zac rfl zad))
 refine FL.v (E.alloc run23) ?_
 refine FL.v (E.assign (v:=Value.int .i64 0) rfl) ?_
 refine FL.nil (FW.seq (FW.region ?_))
 refine FL.v (E.move (v:=v0) rfl) ?_
 refine FL.v (E.build (B1 rfl) (run_build _ 63 #[(0,v0)] #[v0,Value.int .i64 0,Value.int .u64 0] (by obtain ⟨_,_,rfl⟩:=RSl.ln p0;rfl))) ?_
 obtain ⟨b25,w26,run27,S28⟩:=S24.box (P:=Tryz.prog) 63 [v0,Value.int .i64 0,Value.int .u64 0] (v:=Value.agg #[v0,Value.int .i64 0,Value.int .u64 0]) rfl (zac p0.one (zac rfl (zac rfl zad)))
 refine FL.v (E.box rfl run27) ?_
 refine FL.v (E.assign (v:=Value.pointer (some (⟨b25,0,none⟩:Addr))) rfl) ?_
 refine FL.nil (FW.seq (FW.region ?_))
 refine FL.v (E.move (v:=Value.pointer (some (⟨b25,0,none⟩:Addr))) rfl) ?_
 obtain ⟨r29,hr30,hp⟩:=bnd hp
 refine FL.call rfl rfl rfl (E.call Tryz.call41 (A1 rfl)) (zd0 (L:=[.box b21 26 [Value.int .i64 0,Value.slice none 0 0]]) S28 (a0:=(l1Cur.mk a0 0 0)) p0 hr30) ?_
 rintro e w32 ⟨H31,v35,v37,rfl,⟨S33,i34⟩,h36,h38⟩
 refine ⟨_,rfl,?_⟩
 have S33:St Ha wa H31 w32 [.box b25 63 [v37,Value.int .i64 r29.2.2.at_,Value.int .u64 r29.2.2.seed],.box b21 26 [Value.int .i64 0,Value.slice none 0 0]]:=S33
 refine FL.v (E.extract (i:=0) rfl rfl) ?_
 refine FL.v (E.extract (i:=1) rfl rfl) ?_
 obtain ⟨w39,run40,S41⟩:=S33.store0 (P:=Tryz.prog) (t:=26) (i:=1) (cs':=[Value.int .i64 r29.1.vars,v35]) (l':=[.box b25 63 [v37,Value.int .i64 r29.2.2.at_,Value.int .u64 r29.2.2.seed],.box b21 26 [Value.int .i64 r29.1.vars,v35]]) (v:=Value.agg #[Value.int .i64 r29.1.vars,v35]) (c:=[Value.int .i64 r29.1.vars,v35]) rfl Tryz.sizeOf26 rfl rfl (zac rfl (zac h36.one zad)) (Nat.le_of_ble_eq_true rfl) rfl rfl
 refine FL.act rfl rfl (E.store rfl rfl run40) ?_
 obtain ⟨H42,S43,i44,at45⟩:=S41.sealBox (i:=1) (l':=[.box b25 63 [v37,Value.int .i64 r29.2.2.at_,Value.int .u64 r29.2.2.seed]]) rfl rfl
 refine FL.v (E.assign (v:=Value.int .i64 r29.2.1) rfl) ?_
 refine FL.nil ?_
 refine FW.ret ?_
 obtain rfl:=Option.some.inj hp
 exact ⟨.inr rfl,resC2 rfl rfl (zaB Tryz.isAgg26 Tryz.sizeOf26 (at45.now S43.sl) rfl) rfl ⟨_,_,rfl,S43.run,(h36.mono (zag i44))⟩⟩

@[reducible] def zfp (Ha:GH) (wa:World) (r:(Cnf×Int)):Ending→World→Prop :=
 fun e w'=>∃ H':GH,∃ v0_1:Value,e=.returned (Value.tuple #[Value.agg #[Value.int .i64 r.1.vars,v0_1],Value.int .i64 r.2])∧Run wa.heap.size Ha wa H' w'∧RSl (up wa.heap.size H') (eL eI 1) 1 v0_1 r.1.clauses
theorem zfq {Ha:GH} {wa:World} (hs:Sl Ha wa) (v0:Value) (a0:List Int) (p0:RSl Ha (eN .u8) 1 v0 a0) {r:(Cnf×Int)} (hp:(PF.zdf a0)=some r) :
  Calls Tryz.prog 5 #[v0] wa (zfp Ha wa r):=by
 unfold PF.zdf at hp
 have S0:=St.init hs
 refine zae (N:=8) (args:=[v0]) Tryz.func5 rfl rfl rfl ?_
 refine FW.seq (FW.region ?_)
 obtain ⟨b21,w22,run23,S24⟩:=S0.alloc (P:=Tryz.prog) 26 [Value.int .i64 0,Value.slice none 0 0] Tryz.zeroValue26 rfl (zac rfl (zac rfl zad))
 refine FL.v (E.alloc run23) ?_
 refine FL.v (E.assign (v:=Value.int .i64 0) rfl) ?_
 refine FL.nil (FW.seq (FW.region ?_))
 refine FL.v (E.move (v:=v0) rfl) ?_
 obtain ⟨r25,hr26,hp⟩:=bnd hp
 refine FL.call rfl rfl rfl (E.call Tryz.call22 (A1 rfl)) (zfo S24.sl v0 a0 p0 hr26) ?_
 rintro e w28 ⟨H27,v31,rfl,r30,h32⟩
 refine ⟨_,rfl,?_⟩
 have nv33:New Ha [v31]:=New.of_up S24.sl h32.dom
 have h32:=h32.mono (up_le S24.size)
 have S29:=S24.call r30
 refine FL.v (E.extract (i:=0) rfl rfl) ?_
 refine FL.v (E.extract (i:=1) rfl rfl) ?_
 obtain ⟨w34,run35,S36⟩:=S29.store0 (P:=Tryz.prog) (t:=26) (i:=0) (cs':=[Value.int .i64 r25.1.vars,v31]) (l':=[.box b21 26 [Value.int .i64 r25.1.vars,v31]]) (v:=Value.agg #[Value.int .i64 r25.1.vars,v31]) (c:=[Value.int .i64 r25.1.vars,v31]) rfl Tryz.sizeOf26 rfl rfl (zac rfl (zac h32.one zad)) (Nat.le_of_ble_eq_true rfl) rfl rfl
 refine FL.act rfl rfl (E.store rfl rfl run35) ?_
 obtain ⟨H37,S38,i39,at40⟩:=S36.sealBox (i:=0) (l':=[]) rfl rfl
 refine FL.v (E.assign (v:=Value.int .i64 r25.2) rfl) ?_
 refine FL.nil ?_
 refine FW.ret ?_
 obtain rfl:=Option.some.inj hp
 exact ⟨.inr rfl,resC2 rfl rfl (zaB Tryz.isAgg26 Tryz.sizeOf26 (at40.now S38.sl) rfl) rfl ⟨_,_,rfl,S38.run,(h32.mono (zag i39))⟩⟩

theorem zen {Ha:GH} {wa:World} (hs:Sl Ha wa) (a0:Int) (a1:Int) (a2:Int) :
  Calls Tryz.prog 43 #[Value.int .i64 a0,Value.int .i64 a1,Value.int .i64 a2] wa (Sc Ha wa (Value.bool (PF.zbe a0 a1 a2))):=by
 obtain ⟨r,hp⟩:∃ r,(PF.zbe a0 a1 a2)=r:=⟨_,rfl⟩
 rw [hp]
 unfold PF.zbe at hp
 have S0:=St.init hs
 refine zae (N:=15) (args:=[Value.int .i64 a0,Value.int .i64 a1,Value.int .i64 a2]) Tryz.func43 rfl rfl rfl ?_
 refine FW.seq (FW.region ?_)
 refine FL.v (E.assign (v:=Value.bool false) rfl) ?_
 refine FL.nil (FW.seq (FW.region ?_))
 refine FL.v (E.move (v:=Value.int .i64 a0) rfl) ?_
 refine FL.v (E.move (v:=Value.int .i64 a1) rfl) ?_
 refine FL.v (E.geq rfl rfl) ?_
 refine FL.v (E.move (v:=Value.bool (decide (a1≤a0))) rfl) ?_
 refine FL.cut 4 (fun f w=>∃ H:GH,St Ha wa H w []∧Inc Ha H∧f 14=Value.bool (bif (decide (a1≤a0)) then (decide (a0≤a2)) else false)) ?_ ?_
 ·
  rcases bcase (decide (a1≤a0)) with c27|c27
  ·
   refine FL.val (zab rfl rfl rfl c27) rfl rfl (E.move (v:=Value.int .i64 a0) rfl) ?_
   refine FL.val (zab rfl rfl rfl c27) rfl rfl (E.move (v:=Value.int .i64 a2) rfl) ?_
   refine FL.val (zab rfl rfl rfl c27) rfl rfl (E.leq rfl rfl) ?_
   refine FL.v (E.pickT rfl c27 rfl) ?_
   exact FL.nil ⟨rfl,_,S0,(Inc.rfl _),(congrArg Value.bool (bifT c27).symm)⟩
  ·
   refine FL.skip (wF_no rfl rfl rfl c27) rfl ?_
   refine FL.skip (wF_no rfl rfl rfl c27) rfl ?_
   refine FL.skip (wF_no rfl rfl rfl c27) rfl ?_
   refine FL.v (E.pickF rfl c27 rfl) ?_
   exact FL.nil ⟨rfl,_,S0,(Inc.rfl _),(congrArg Value.bool (bifF c27).symm)⟩
 rintro f26 w25 ⟨H22,S23,i24,k28⟩
 refine FL.v (E.assign k28) ?_
 refine FL.nil ?_
 refine FW.ret ?_
 obtain rfl:=hp
 exact ⟨.inr rfl,res1 rfl rfl ⟨rfl,S23.back⟩⟩

theorem w_impl_isLiteral {Ha:GH} {wa:World} (hs:Sl Ha wa) (a0:Int) (a1:Int) :
  Calls Tryz.prog 68 #[Value.int .i64 a0,Value.int .i64 a1] wa (Sc Ha wa (Value.bool (PF.zbI a0 a1))):=by
 obtain ⟨r,hp⟩:∃ r,(PF.zbI a0 a1)=r:=⟨_,rfl⟩
 rw [hp]
 unfold PF.zbI at hp
 have S0:=St.init hs
 refine zae (N:=14) (args:=[Value.int .i64 a0,Value.int .i64 a1]) Tryz.func68 rfl rfl rfl ?_
 refine FW.seq (FW.region ?_)
 refine FL.v (E.assign (v:=Value.bool false) rfl) ?_
 refine FL.nil (FW.seq (FW.region ?_))
 refine FL.v (E.move (v:=Value.int .i64 a1) rfl) ?_
 refine FL.v (E.neq rfl rfl) ?_
 refine FL.v (E.move (v:=Value.bool (!(a1 == 0))) rfl) ?_
 refine FL.cut 6 (fun f w=>∃ H:GH,St Ha wa H w []∧Inc Ha H∧f 13=Value.bool (bif (!(a1 == 0)) then (PF.zbe a1 (wr (-a0)) a0) else false)) ?_ ?_
 ·
  rcases bcase (!(a1 == 0)) with c30|c30
  ·
   refine FL.val (zab rfl rfl rfl c30) rfl rfl (E.move (v:=Value.int .i64 a1) rfl) ?_
   refine FL.val (zab rfl rfl rfl c30) rfl rfl (E.move (v:=Value.int .i64 a0) rfl) ?_
   refine FL.val (zab rfl rfl rfl c30) rfl rfl (E.neg rfl) ?_
   refine FL.val (zab rfl rfl rfl c30) rfl rfl (E.move (v:=Value.int .i64 a0) rfl) ?_
   refine FL.call (zab rfl rfl rfl c30) rfl rfl (E.call Tryz.call43 (A3 rfl rfl rfl)) (zen S0.sl a1 (wr (-a0)) a0) ?_
   rintro e w31 ⟨rfl,r32⟩
   refine ⟨_,rfl,?_⟩
   have S33:=S0.call r32
   refine FL.v (E.pickT rfl c30 rfl) ?_
   exact FL.nil ⟨rfl,_,S33,(Inc.rfl _),(congrArg Value.bool (bifT c30).symm)⟩
  ·
   refine FL.skip (wF_no rfl rfl rfl c30) rfl ?_
   refine FL.skip (wF_no rfl rfl rfl c30) rfl ?_
   refine FL.skip (wF_no rfl rfl rfl c30) rfl ?_
   refine FL.skip (wF_no rfl rfl rfl c30) rfl ?_
   refine FL.skip (wF_no rfl rfl rfl c30) rfl ?_
   refine FL.v (E.pickF rfl c30 rfl) ?_
   exact FL.nil ⟨rfl,_,S0,(Inc.rfl _),(congrArg Value.bool (bifF c30).symm)⟩
 rintro f29 w28 ⟨H25,S26,i27,k34⟩
 refine FL.v (E.assign k34) ?_
 refine FL.nil ?_
 refine FW.ret ?_
 obtain rfl:=hp
 exact ⟨.inr rfl,res1 rfl rfl ⟨rfl,S26.back⟩⟩

theorem zd1 {Ha:GH} {wa:World} (hs:Sl Ha wa) (a0:Int) :
  Calls Tryz.prog 69 #[Value.int .i64 a0] wa (Sc Ha wa (Value.int .i64 (PF.zaA a0))):=by
 obtain ⟨r,hp⟩:∃ r,(PF.zaA a0)=r:=⟨_,rfl⟩
 rw [hp]
 unfold PF.zaA at hp
 have S0:=St.init hs
 refine zae (N:=7) (args:=[Value.int .i64 a0]) Tryz.func69 rfl rfl rfl ?_
 refine FW.seq (FW.region ?_)
 refine FL.v (E.assign (v:=Value.int .i64 0) rfl) ?_
 refine FL.nil (FW.seq (FW.region ?_))
 refine FL.v (E.move (v:=Value.int .i64 a0) rfl) ?_
 refine FL.v (E.move (v:=Value.int .i64 a0) rfl) ?_
 refine FL.v (E.neg rfl) ?_
 refine FL.v (E.max2 rfl rfl) ?_
 refine FL.v (E.assign (v:=Value.int .i64 (mx a0 (wr (-a0)))) rfl) ?_
 refine FL.nil ?_
 refine FW.ret ?_
 obtain rfl:=hp
 exact ⟨.inr rfl,res1 rfl rfl ⟨rfl,S0.back⟩⟩

theorem w_impl_varsOk {Ha:GH} {wa:World} (hs:Sl Ha wa) (a0:Int) :
  Calls Tryz.prog 70 #[Value.int .i64 a0] wa (Sc Ha wa (Value.bool (PF.zbo a0))):=by
 obtain ⟨r,hp⟩:∃ r,(PF.zbo a0)=r:=⟨_,rfl⟩
 rw [hp]
 unfold PF.zbo at hp
 have S0:=St.init hs
 refine zae (N:=5) (args:=[Value.int .i64 a0]) Tryz.func70 rfl rfl rfl ?_
 refine FW.seq (FW.region ?_)
 refine FL.v (E.assign (v:=Value.bool false) rfl) ?_
 refine FL.nil (FW.seq (FW.region ?_))
 refine FL.v (E.move (v:=Value.int .i64 a0) rfl) ?_
 refine FL.call rfl rfl rfl (E.call Tryz.call43 (A3 rfl rfl rfl)) (zen S0.sl a0 0 12) ?_
 rintro e w21 ⟨rfl,r22⟩
 refine ⟨_,rfl,?_⟩
 have S23:=S0.call r22
 refine FL.v (E.assign (v:=Value.bool (PF.zbe a0 0 12)) rfl) ?_
 refine FL.nil ?_
 refine FW.ret ?_
 obtain rfl:=hp
 exact ⟨.inr rfl,res1 rfl rfl ⟨rfl,S23.back⟩⟩

set_option maxHeartbeats 4000000 in
theorem zeo {Ha:GH} {wa:World} (hs:Sl Ha wa) (a0:Int) (v1:Value) (a1:List Int) (p1:RSl Ha eI 1 v1 a1) {r:Bool} (hp:(PF.zbZ a0 a1)=some r) :
  Calls Tryz.prog 35 #[Value.int .i64 a0,v1] wa (Sc Ha wa (Value.bool r)):=by
 unfold PF.zbZ at hp
 have S0:=St.init hs
 refine zae (N:=36) (args:=[Value.int .i64 a0,v1]) Tryz.func35 rfl rfl rfl ?_
 refine FW.seq (FW.region ?_)
 refine FL.v (E.assign (v:=Value.bool false) rfl) ?_
 refine FL.nil (FW.seq (FW.seq (FW.region ?_)))
 refine FL.v (E.move (v:=v1) rfl) ?_
 refine FL.v (E.lenP te34 rfl p1) ?_
 refine FL.v (E.move (v:=Value.int .i64 0) rfl) ?_
 refine FL.nil ?_
 obtain ⟨q22,hq,hp⟩:=bndR hp
 refine FW.block ?_
 refine FW.mono (FW.forL (S:=Unit) (X:=Bool) (fun (i22:Nat) (s22:Unit) f w=>∃ H:GH,St Ha wa H w []∧Inc Ha H∧f 9=Value.int .i64 ((i22:Nat):Int)∧f 0=Value.int .i64 a0∧f 1=v1∧f 7=v1∧f 8=Value.int .i64 (len a1)) (fun q e f w=>match q with|.go s22=>e=Exit.exit 0∧(∃ H:GH,St Ha wa H w []∧Inc Ha H∧f 0=Value.int .i64 a0)|.rt x=>((e=Exit.ret)∧(fun e f w=>(e=Exit.normal∨e=Exit.ret)∧∀ a,Fr (δ:=[]) 36 a f→∃ v,(results Tryz.f35 a.tmps).run Tryz.prog w=.ok v w∧(Sc Ha wa (Value.bool x)) (.returned v) w) e f w)) hq ⟨_,S0,(Inc.rfl _),rfl,rfl,rfl,rfl,rfl⟩ ?_ ?_) ?_
 ·
  clear hp hq
  rintro i22 y21 s22 fAl wAk ⟨HAh,SAi,iAj,kAm,kAn,kAo,kAp,kAq⟩ hx22 oBN hp
  refine FW.seq (FW.region ?_)
  refine FL.v (E.lssT kAm kAq (zaw hx22)) ?_
  refine FL.nil (FW.seq ?_)
  refine FW.condT rfl rfl ?_
  refine FW.skip (FW.seq (FW.block (FW.seq (FW.region ?_))))
  refine FL.v (E.move kAm) ?_
  obtain ⟨pAr,csAs,ptAt,lAu,atAv,relAw⟩:=p1.at (zal hx22)
  obtain rfl:=zam relAw
  refine FL.v (E.indexAddr te34 kAp kAm ptAt) ?_
  refine FL.v (E.load rfl (zaf Tryz.isAgg3 ((atAv.mono iAj).now SAi.sl) rfl)) ?_
  refine FL.v (E.assign (v:=Value.int .i64 ((i22:Nat):Int)) rfl) ?_
  refine FL.v (E.assign (v:=Value.int .i64 y21) rfl) ?_
  refine FL.nil (FW.seq ?_)
  refine FW.draw (fun w'=>Run wAk.heap.size HAh wAk HAh w') (by kernel_rfl) (by kernel_rfl) (zaG SAi.sl) ?_
  refine FD.val rfl rfl rfl (fun w' hw'=>(E.move kAn)) ?_
  refine FD.val rfl rfl rfl (fun w' hw'=>(E.move (v:=Value.int .i64 y21) rfl)) ?_
  refine FD.call rfl rfl rfl (fun w' hw'=>(E.call Tryz.call68 (A2 rfl rfl))) (fun w' hw'=>Calls.cls hw' (w_impl_isLiteral (SAi.call hw').sl a0 y21)) ?_
  refine FD.val rfl rfl rfl (fun w' hw'=>(E.not rfl)) ?_
  refine FD.val rfl rfl rfl (fun w' hw'=>(E.move (v:=Value.bool (!(PF.zbI a0 y21))) rfl)) ?_
  obtain ⟨t164,hqtB2,hp⟩:=bnd hp
  refine FD.cut 14 (fun f=>f 0=Value.int .i64 a0∧f 1=v1∧f 7=v1∧f 8=Value.int .i64 (len a1)∧f 9=Value.int .i64 ((i22:Nat):Int)∧f 32=Value.bool t164) ?_ ?_
  ·
   clear hp;have hp:=hqtB2;clear hqtB2
   rcases ifB hp with ⟨cB8,hp⟩|⟨cB8,hp⟩
   ·
    refine FD.skip (wF_no rfl rfl rfl cB8) rfl ?_
    refine FD.skip (wF_no rfl rfl rfl cB8) rfl ?_
    refine FD.skip (wF_no rfl rfl rfl cB8) rfl ?_
    refine FD.skip (zar rfl rfl rfl) rfl ?_
    refine FD.skip (zar rfl rfl rfl) rfl ?_
    refine FD.skip (zar rfl rfl rfl) rfl ?_
    refine FD.skip (zar rfl rfl rfl) rfl ?_
    refine FD.skip (zar rfl rfl rfl) rfl ?_
    refine FD.skip (zar rfl rfl rfl) rfl ?_
    refine FD.skip (zar rfl rfl rfl) rfl ?_
    refine FD.skip (zar rfl rfl rfl) rfl ?_
    refine FD.skip (zar rfl rfl rfl) rfl ?_
    refine FD.skip (wF_no rfl rfl rfl cB8) rfl ?_
    obtain rfl:=Option.some.inj hp
    refine FD.val rfl rfl rfl (fun w' hw'=>(E.pickT rfl cB8 rfl)) ?_
    exact FD.nil ⟨kAn,kAo,kAp,kAq,kAm,rfl⟩
   ·
    refine FD.val (zab rfl rfl rfl cB8) rfl rfl (fun w' hw'=>(E.move (v:=Value.int .i64 ((i22:Nat):Int)) rfl)) ?_
    refine FD.val (zab rfl rfl rfl cB8) rfl rfl (fun w' hw'=>(E.gtr rfl rfl)) ?_
    refine FD.val (zab rfl rfl rfl cB8) rfl rfl (fun w' hw'=>(E.move (v:=Value.bool (decide (0 < ((i22:Nat):Int)))) rfl)) ?_
    obtain ⟨t179,hqtBh,hp⟩:=bnd hp
    refine FD.cut 10 (fun f=>f 0=Value.int .i64 a0∧f 1=v1∧f 7=v1∧f 8=Value.int .i64 (len a1)∧f 9=Value.int .i64 ((i22:Nat):Int)∧f 18=Value.bool (!(PF.zbI a0 y21))∧f 31=Value.bool t179) ?_ ?_
    ·
     clear hp;have hp:=hqtBh;clear hqtBh
     rcases ifB hp with ⟨cBn,hp⟩|⟨cBn,hp⟩
     ·
      refine FD.val (zab rfl rfl rfl cBn) rfl rfl (fun w' hw'=>(E.move (v:=Value.int .i64 y21) rfl)) ?_
      refine FD.call (zab rfl rfl rfl cBn) rfl rfl (fun w' hw'=>(E.call Tryz.call69 (A1 rfl))) (fun w' hw'=>Calls.cls hw' (zd1 (SAi.call hw').sl y21)) ?_
      refine FD.val (zab rfl rfl rfl cBn) rfl rfl (fun w' hw'=>(E.move kAo)) ?_
      refine FD.val (zab rfl rfl rfl cBn) rfl rfl (fun w' hw'=>(E.move (v:=Value.int .i64 ((i22:Nat):Int)) rfl)) ?_
      refine FD.val (zab rfl rfl rfl cBn) rfl rfl (fun w' hw'=>(E.sub rfl rfl)) ?_
      obtain ⟨xBu,hxBv,hp⟩:=bnd hp
      obtain ⟨pBo,csBp,ptBq,lBr,atBs,relBt⟩:=p1.at hxBv
      obtain rfl:=zam relBt
      refine FD.val (zab rfl rfl rfl cBn) rfl rfl (fun w' hw'=>(E.indexAddr te34 rfl rfl ptBq)) ?_
      refine FD.val (zab rfl rfl rfl cBn) rfl rfl (fun w' hw'=>(E.load rfl (zaf Tryz.isAgg3 ((atBs.mono iAj).now (SAi.call hw').sl) rfl))) ?_
      refine FD.call (zab rfl rfl rfl cBn) rfl rfl (fun w' hw'=>(E.call Tryz.call69 (A1 rfl))) (fun w' hw'=>Calls.cls hw' (zd1 (SAi.call hw').sl xBu)) ?_
      refine FD.val (zab rfl rfl rfl cBn) rfl rfl (fun w' hw'=>(E.leq rfl rfl)) ?_
      obtain rfl:=Option.some.inj hp
      refine FD.val (zab rfl rfl rfl cB8) rfl rfl (fun w' hw'=>(E.pickT rfl cBn rfl)) ?_
      exact FD.nil ⟨kAn,kAo,kAp,kAq,kAm,rfl,rfl⟩
     ·
      refine FD.skip (wF_no rfl rfl rfl cBn) rfl ?_
      refine FD.skip (wF_no rfl rfl rfl cBn) rfl ?_
      refine FD.skip (wF_no rfl rfl rfl cBn) rfl ?_
      refine FD.skip (wF_no rfl rfl rfl cBn) rfl ?_
      refine FD.skip (wF_no rfl rfl rfl cBn) rfl ?_
      refine FD.skip (wF_no rfl rfl rfl cBn) rfl ?_
      refine FD.skip (wF_no rfl rfl rfl cBn) rfl ?_
      refine FD.skip (wF_no rfl rfl rfl cBn) rfl ?_
      refine FD.skip (wF_no rfl rfl rfl cBn) rfl ?_
      obtain rfl:=Option.some.inj hp
      refine FD.val (zab rfl rfl rfl cB8) rfl rfl (fun w' hw'=>(E.pickF rfl cBn rfl)) ?_
      exact FD.nil ⟨kAn,kAo,kAp,kAq,kAm,rfl,rfl⟩
    rintro fBm ⟨kBw,kBx,kBy,kBz,kBA,kBB,kBC⟩
    obtain rfl:=Option.some.inj hp
    refine FD.val rfl rfl rfl (fun w' hw'=>(E.pickF kBB cB8 kBC)) ?_
    exact FD.nil ⟨kBw,kBx,kBy,kBz,kBA,rfl⟩
  rintro fB7 ⟨kBD,kBE,kBF,kBG,kBH,kBI⟩
  refine FD.nil ?_
  intro wBJ rBL
  have SBK:=SAi.call rBL
  rcases ifB hp with ⟨cBM,hp⟩|⟨cBM,hp⟩
  ·
   refine FW.condT kBI cBM ?_
   refine FW.seq (FW.region ?_)
   refine FL.v (E.assign (v:=Value.bool false) rfl) ?_
   refine FL.nil ?_
   refine FW.ret ?_
   obtain rfl:=Option.some.inj hp
   exact ⟨nofun,rfl,⟨.inr rfl,res1 rfl rfl ⟨rfl,SBK.back⟩⟩⟩
  ·
   refine FW.condF kBI cBM ?_
   refine FW.skip (FW.region ?_)
   refine FL.v (E.add kBH rfl) ?_
   refine FL.v (E.move (v:=Value.int .i64 (wr (((i22:Nat):Int) + 1))) rfl) ?_
   refine FL.nil ?_
   obtain rfl:=Option.some.inj hp
   exact ⟨rfl,⟨_,SBK,iAj,(zap rfl (zaq hx22) (p1.mono iAj).le),kBD,kBE,kBF,kBG⟩⟩
 ·
  clear hp hq
  rintro s22 fC1 wC0 ⟨HBX,SBY,iBZ,kC2,kC3,kC4,kC5,kC6⟩
  refine FW.seq (FW.region ?_)
  refine FL.v (E.lss kC2 kC6) ?_
  refine FL.nil (FW.seq ?_)
  refine FW.condF rfl zax ?_
  refine FW.exit ?_
  exact ⟨nofun,rfl,⟨_,SBY,iBZ,kC3⟩⟩
 ·
  clear hq
  intro e fBS wBR hD
  rcases q22 with s22|x22
  ·
   obtain ⟨rfl,hD⟩:=hD
   obtain ⟨HBO,SBP,iBQ,kBT⟩:=hD
   replace hp:=el_go hp
   refine FW.seq (FW.region ?_)
   refine FL.v (E.move kBT) ?_
   refine FL.call rfl rfl rfl (E.call Tryz.call70 (A1 rfl)) (w_impl_varsOk SBP.sl a0) ?_
   rintro e wBU ⟨rfl,rBV⟩
   refine ⟨_,rfl,?_⟩
   have SBW:=SBP.call rBV
   refine FL.v (E.assign (v:=Value.bool (PF.zbo a0)) rfl) ?_
   refine FL.nil ?_
   refine FW.ret ?_
   obtain rfl:=Option.some.inj hp
   exact ⟨.inr rfl,res1 rfl rfl ⟨rfl,SBW.back⟩⟩
  ·
   obtain ⟨he,hL⟩:=hD
   replace hp:=el_rt hp
   obtain rfl:=Option.some.inj hp
   subst he
   exact hL

set_option maxHeartbeats 4000000 in
theorem w_impl_IsCnf {Ha:GH} {wa:World} (hs:Sl Ha wa) (a0:Cnf) (v0_1:Value) (p0_1:RSl Ha (eL eI 1) 1 v0_1 a0.clauses) {r:Bool} (hp:(PF.zdg a0)=some r) :
  Calls Tryz.prog 42 #[Value.agg #[Value.int .i64 a0.vars,v0_1]] wa (Sc Ha wa (Value.bool r)):=by
 unfold PF.zdg at hp
 have S0:=St.init hs
 refine zae (N:=27) (args:=[Value.agg #[Value.int .i64 a0.vars,v0_1]]) Tryz.func42 rfl rfl rfl ?_
 refine FW.seq (FW.region ?_)
 obtain ⟨b21,w22,run23,S24⟩:=S0.box (P:=Tryz.prog) 26 [Value.int .i64 a0.vars,v0_1] (v:=Value.agg #[Value.int .i64 a0.vars,v0_1]) rfl (zac rfl (zac p0_1.one zad))
 refine FL.v (E.box rfl run23) ?_
 obtain ⟨H25,S26,i27,at28⟩:=S24.sealBox (i:=0) (l':=[]) rfl rfl
 refine FL.v (E.assign (v:=Value.bool false) rfl) ?_
 refine FL.nil (FW.seq (FW.seq (FW.region ?_)))
 refine FL.v (E.fieldAddr zay rfl) ?_
 refine FL.v (E.load rfl (zah Tryz.isAgg24 (at28.now S26.sl) rfl)) ?_
 refine FL.v (E.lenP te24 rfl p0_1) ?_
 refine FL.v (E.move (v:=Value.int .i64 0) rfl) ?_
 refine FL.nil ?_
 obtain ⟨q30,hq,hp⟩:=bndR hp
 refine FW.block ?_
 refine FW.mono (FW.forL (S:=Unit) (X:=Bool) (fun (i30:Nat) (s30:Unit) f w=>∃ H:GH,St Ha wa H w []∧Inc H25 H∧f 8=Value.int .i64 ((i30:Nat):Int)∧f 1=Value.pointer (some ⟨b21,0,none⟩)∧f 6=v0_1∧f 7=Value.int .i64 (len a0.clauses)) (fun q e f w=>match q with|.go s30=>e=Exit.exit 0∧(∃ H:GH,St Ha wa H w []∧Inc H25 H∧f 1=Value.pointer (some ⟨b21,0,none⟩))|.rt x=>((e=Exit.ret)∧(fun e f w=>(e=Exit.normal∨e=Exit.ret)∧∀ a,Fr (δ:=[]) 27 a f→∃ v,(results Tryz.f42 a.tmps).run Tryz.prog w=.ok v w∧(Sc Ha wa (Value.bool x)) (.returned v) w) e f w)) hq ⟨_,S26,(Inc.rfl _),rfl,rfl,rfl,rfl⟩ ?_ ?_) ?_
 ·
  clear hp hq
  rintro i30 y29 s30 f58 w57 ⟨H54,S55,i56,k59,k60,k61,k62⟩ hx30 o77 hp
  refine FW.seq (FW.region ?_)
  refine FL.v (E.lssT k59 k62 (zaw hx30)) ?_
  refine FL.nil (FW.seq ?_)
  refine FW.condT rfl rfl ?_
  refine FW.skip (FW.seq (FW.block (FW.seq (FW.region ?_))))
  obtain ⟨p63,cs64,pt65,l66,at67,rel68⟩:=p0_1.at (zal hx30)
  obtain ⟨v69,rfl,h70⟩:=zav rel68
  refine FL.v (E.indexAddr te24 k61 k59 pt65) ?_
  refine FL.v (E.load rfl (zaf Tryz.isAgg34 ((at67.mono (i27.tr i56)).now S55.sl) rfl)) ?_
  refine FL.v (E.assign (v:=v69) rfl) ?_
  refine FL.nil (FW.seq (FW.region ?_))
  refine FL.v (E.fieldAddr zaC k60) ?_
  refine FL.v (E.load rfl (zah Tryz.isAgg3 ((at28.mono i56).now S55.sl) rfl)) ?_
  refine FL.v (E.move (v:=v69) rfl) ?_
  obtain ⟨r71,hr72,hp⟩:=bnd hp
  refine FL.call rfl rfl rfl (E.call Tryz.call35 (A2 rfl rfl)) (zeo S55.sl a0.vars v69 y29 (h70.mono (i27.tr i56)) hr72) ?_
  rintro e w73 ⟨rfl,r74⟩
  refine ⟨_,rfl,?_⟩
  have S75:=S55.call r74
  refine FL.v (E.not rfl) ?_
  refine FL.nil ?_
  rcases ifB hp with ⟨c76,hp⟩|⟨c76,hp⟩
  ·
   refine FW.condT rfl c76 ?_
   refine FW.seq (FW.region ?_)
   refine FL.v (E.assign (v:=Value.bool false) rfl) ?_
   refine FL.nil ?_
   refine FW.ret ?_
   obtain rfl:=Option.some.inj hp
   exact ⟨nofun,rfl,⟨.inr rfl,res1 rfl rfl ⟨rfl,S75.back⟩⟩⟩
  ·
   refine FW.condF rfl c76 ?_
   refine FW.skip (FW.region ?_)
   refine FL.v (E.add k59 rfl) ?_
   refine FL.v (E.move (v:=Value.int .i64 (wr (((i30:Nat):Int) + 1))) rfl) ?_
   refine FL.nil ?_
   obtain rfl:=Option.some.inj hp
   exact ⟨rfl,⟨_,S75,i56,(zap rfl (zaq hx30) (p0_1.mono (i27.tr i56)).le),k60,k61,k62⟩⟩
 ·
  clear hp hq
  rintro s30 f99 w98 ⟨H95,S96,i97,kA0,kA1,kA2,kA3⟩
  refine FW.seq (FW.region ?_)
  refine FL.v (E.lss kA0 kA3) ?_
  refine FL.nil (FW.seq ?_)
  refine FW.condF rfl zax ?_
  refine FW.exit ?_
  exact ⟨nofun,rfl,⟨_,S96,i97,kA1⟩⟩
 ·
  clear hq
  intro e f82 w81 hD
  rcases q30 with s30|x30
  ·
   obtain ⟨rfl,hD⟩:=hD
   obtain ⟨H78,S79,i80,k83⟩:=hD
   replace hp:=el_go hp
   refine FW.seq (FW.region ?_)
   refine FL.v (E.fieldAddr zaC k83) ?_
   refine FL.v (E.load rfl (zah Tryz.isAgg3 ((at28.mono i80).now S79.sl) rfl)) ?_
   refine FL.call rfl rfl rfl (E.call Tryz.call70 (A1 rfl)) (w_impl_varsOk S79.sl a0.vars) ?_
   rintro e w84 ⟨rfl,r85⟩
   refine ⟨_,rfl,?_⟩
   have S86:=S79.call r85
   refine FL.v (E.move (v:=Value.bool (PF.zbo a0.vars)) rfl) ?_
   refine FL.cut 5 (fun f w=>∃ H:GH,St Ha wa H w []∧Inc H78 H∧f 26=Value.bool (bif (PF.zbo a0.vars) then (decide ((len a0.clauses)≤60)) else false)) ?_ ?_
   ·
    rcases bcase (PF.zbo a0.vars) with c93|c93
    ·
     refine FL.val (zab rfl rfl rfl c93) rfl rfl (E.fieldAddr zay k83) ?_
     refine FL.val (zab rfl rfl rfl c93) rfl rfl (E.load rfl (zah Tryz.isAgg24 ((at28.mono i80).now S86.sl) rfl)) ?_
     refine FL.val (zab rfl rfl rfl c93) rfl rfl (E.lenP te24 rfl p0_1) ?_
     refine FL.val (zab rfl rfl rfl c93) rfl rfl (E.leq rfl rfl) ?_
     refine FL.v (E.pickT rfl c93 rfl) ?_
     exact FL.nil ⟨rfl,_,S86,(Inc.rfl _),(congrArg Value.bool (bifT c93).symm)⟩
    ·
     refine FL.skip (wF_no rfl rfl rfl c93) rfl ?_
     refine FL.skip (wF_no rfl rfl rfl c93) rfl ?_
     refine FL.skip (wF_no rfl rfl rfl c93) rfl ?_
     refine FL.skip (wF_no rfl rfl rfl c93) rfl ?_
     refine FL.v (E.pickF rfl c93 rfl) ?_
     exact FL.nil ⟨rfl,_,S86,(Inc.rfl _),(congrArg Value.bool (bifF c93).symm)⟩
   rintro f92 w91 ⟨H88,S89,i90,k94⟩
   refine FL.v (E.assign k94) ?_
   refine FL.nil ?_
   refine FW.ret ?_
   obtain rfl:=Option.some.inj hp
   exact ⟨.inr rfl,res1 rfl rfl ⟨rfl,S89.back⟩⟩
  ·
   obtain ⟨he,hL⟩:=hD
   replace hp:=el_rt hp
   obtain rfl:=Option.some.inj hp
   subst he
   exact hL

theorem zco {Ha:GH} {wa:World} (hs:Sl Ha wa) (a0:Cnf) (v0_1:Value) (p0_1:RSl Ha (eL eI 1) 1 v0_1 a0.clauses) (a1:Int) {r:Bool} (hp:(PF.zbf a0 a1)=some r) :
  Calls Tryz.prog 23 #[Value.agg #[Value.int .i64 a0.vars,v0_1],Value.int .i64 a1] wa (Sc Ha wa (Value.bool r)):=by
 unfold PF.zbf at hp
 have S0:=St.init hs
 refine zae (N:=16) (args:=[Value.agg #[Value.int .i64 a0.vars,v0_1],Value.int .i64 a1]) Tryz.func23 rfl rfl rfl ?_
 refine FW.seq (FW.region ?_)
 obtain ⟨b21,w22,run23,S24⟩:=S0.box (P:=Tryz.prog) 26 [Value.int .i64 a0.vars,v0_1] (v:=Value.agg #[Value.int .i64 a0.vars,v0_1]) rfl (zac rfl (zac p0_1.one zad))
 refine FL.v (E.box rfl run23) ?_
 obtain ⟨H25,S26,i27,at28⟩:=S24.sealBox (i:=0) (l':=[]) rfl rfl
 refine FL.v (E.assign (v:=Value.bool false) rfl) ?_
 refine FL.nil (FW.seq (FW.region ?_))
 refine FL.v (E.load rfl (zai Tryz.isAgg26 Tryz.sizeOf26 (at28.now S26.sl) rfl)) ?_
 obtain ⟨r29,hr30,hp⟩:=bnd hp
 refine FL.call rfl rfl rfl (E.call Tryz.call42 (A1 rfl)) (w_impl_IsCnf S26.sl a0 v0_1 (p0_1.mono i27) hr30) ?_
 rintro e w31 ⟨rfl,r32⟩
 refine ⟨_,rfl,?_⟩
 have S33:=S26.call r32
 refine FL.v (E.move (v:=Value.bool r29) rfl) ?_
 refine FL.cut 4 (fun f w=>∃ H:GH,St Ha wa H w []∧Inc H25 H∧f 1=Value.int .i64 a1∧f 11=Value.bool (bif r29 then (decide (a0.vars≤6)) else false)) ?_ ?_
 ·
  rcases bcase r29 with c40|c40
  ·
   refine FL.val (zab rfl rfl rfl c40) rfl rfl (E.fieldAddr zaC rfl) ?_
   refine FL.val (zab rfl rfl rfl c40) rfl rfl (E.load rfl (zah Tryz.isAgg3 (at28.now S33.sl) rfl)) ?_
   refine FL.val (zab rfl rfl rfl c40) rfl rfl (E.leq rfl rfl) ?_
   refine FL.v (E.pickT rfl c40 rfl) ?_
   exact FL.nil ⟨rfl,_,S33,(Inc.rfl _),rfl,(congrArg Value.bool (bifT c40).symm)⟩
  ·
   refine FL.skip (wF_no rfl rfl rfl c40) rfl ?_
   refine FL.skip (wF_no rfl rfl rfl c40) rfl ?_
   refine FL.skip (wF_no rfl rfl rfl c40) rfl ?_
   refine FL.v (E.pickF rfl c40 rfl) ?_
   exact FL.nil ⟨rfl,_,S33,(Inc.rfl _),rfl,(congrArg Value.bool (bifF c40).symm)⟩
 rintro f39 w38 ⟨H35,S36,i37,k41,k42⟩
 refine FL.v (E.move k42) ?_
 refine FL.cut 3 (fun f w=>∃ H:GH,St Ha wa H w []∧Inc H35 H∧f 15=Value.bool (bif (bif r29 then (decide (a0.vars≤6)) else false) then (PF.zbe a1 0 6) else false)) ?_ ?_
 ·
  rcases bcase (bif r29 then (decide (a0.vars≤6)) else false) with c52|c52
  ·
   refine FL.val (zab rfl rfl rfl c52) rfl rfl (E.move k41) ?_
   refine FL.call (zab rfl rfl rfl c52) rfl rfl (E.call Tryz.call43 (A3 rfl rfl rfl)) (zen S36.sl a1 0 6) ?_
   rintro e w53 ⟨rfl,r54⟩
   refine ⟨_,rfl,?_⟩
   have S55:=S36.call r54
   refine FL.v (E.pickT rfl c52 rfl) ?_
   exact FL.nil ⟨rfl,_,S55,(Inc.rfl _),(congrArg Value.bool (bifT c52).symm)⟩
  ·
   refine FL.skip (wF_no rfl rfl rfl c52) rfl ?_
   refine FL.skip (wF_no rfl rfl rfl c52) rfl ?_
   refine FL.v (E.pickF rfl c52 rfl) ?_
   exact FL.nil ⟨rfl,_,S36,(Inc.rfl _),(congrArg Value.bool (bifF c52).symm)⟩
 rintro f51 w50 ⟨H47,S48,i49,k56⟩
 refine FL.v (E.assign k56) ?_
 refine FL.nil ?_
 refine FW.ret ?_
 obtain rfl:=Option.some.inj hp
 exact ⟨.inr rfl,res1 rfl rfl ⟨rfl,S48.back⟩⟩

theorem zeR {Ha:GH} {wa:World} (hs:Sl Ha wa) (v0:Value) (a0:List (List Int)) (p0:RSl Ha (eL eI 1) 1 v0 a0) (v1:Value) (a1:(List Int)→Option Bool) (p1:zcX Tryz.prog Ha v1 a1) {r:Int} (hp:(PF.zbJ a0 a1)=some r) :
  Calls Tryz.prog 86 #[v0,v1] wa (Sc Ha wa (Value.int .i64 r)):=by
 unfold PF.zbJ at hp
 have S0:=St.init hs
 refine zae (N:=19) (args:=[v0,v1]) Tryz.func86 rfl rfl rfl ?_
 refine FW.seq (FW.region ?_)
 refine FL.v (E.assign (v:=Value.int .i64 0) rfl) ?_
 refine FL.nil (FW.seq (FW.seq (FW.region ?_)))
 refine FL.v (E.move (v:=v0) rfl) ?_
 refine FL.v (E.lenP te24 rfl p0) ?_
 refine FL.v (E.move (v:=Value.int .i64 0) rfl) ?_
 refine FL.nil ?_
 obtain ⟨q22,hq,hp⟩:=bndR hp
 refine FW.block ?_
 refine FW.mono (FW.forL (S:=Unit) (X:=Int) (fun (i22:Nat) (s22:Unit) f w=>∃ H:GH,St Ha wa H w []∧Inc Ha H∧f 8=Value.int .i64 ((i22:Nat):Int)∧f 0=v0∧f 1=v1∧f 7=Value.int .i64 (len a0)) (fun q e f w=>match q with|.go s22=>e=Exit.exit 0∧(∃ H:GH,St Ha wa H w []∧Inc Ha H)|.rt x=>((e=Exit.ret)∧(fun e f w=>(e=Exit.normal∨e=Exit.ret)∧∀ a,Fr (δ:=[]) 19 a f→∃ v,(results Tryz.f86 a.tmps).run Tryz.prog w=.ok v w∧(Sc Ha wa (Value.int .i64 x)) (.returned v) w) e f w)) hq ⟨_,S0,(Inc.rfl _),rfl,rfl,rfl,rfl⟩ ?_ ?_) ?_
 ·
  clear hp hq
  rintro i22 y21 s22 f55 w54 ⟨H51,S52,i53,k56,k57,k58,k59⟩ hx22 o79 hp
  refine FW.seq (FW.region ?_)
  refine FL.v (E.lssT k56 k59 (zaw hx22)) ?_
  refine FL.nil (FW.seq ?_)
  refine FW.condT rfl rfl ?_
  refine FW.skip (FW.seq (FW.block (FW.seq (FW.region ?_))))
  refine FL.v (E.move k56) ?_
  refine FL.v (E.assign (v:=Value.int .i64 ((i22:Nat):Int)) rfl) ?_
  refine FL.nil (FW.seq (FW.region ?_))
  refine FL.v (E.move k58) ?_
  refine FL.v (E.move k57) ?_
  refine FL.v (E.move (v:=Value.int .i64 ((i22:Nat):Int)) rfl) ?_
  obtain ⟨p60,cs61,pt62,l63,at64,rel65⟩:=p0.at (zal hx22)
  obtain ⟨v66,rfl,h67⟩:=zav rel65
  refine FL.v (E.indexAddr te24 rfl rfl pt62) ?_
  refine FL.v (E.load rfl (zaf Tryz.isAgg34 ((at64.mono i53).now S52.sl) rfl)) ?_
  obtain ⟨r68,hr69,hp⟩:=bnd hp
  obtain ⟨fi73,cs74,hv75,he76,hc77⟩:=(p1.mono i53) H51 w54 (Inc.rfl _) S52.sl y21 v66 (h67.mono i53) r68 hr69
  refine FL.call rfl rfl rfl (E.callV he76 (Eq.trans rfl hv75) (appA (A1 rfl) cs74)) hc77 ?_
  rintro e w70 ⟨rfl,r71⟩
  refine ⟨_,rfl,?_⟩
  have S72:=S52.call r71
  refine FL.nil ?_
  rcases ifB hp with ⟨c78,hp⟩|⟨c78,hp⟩
  ·
   refine FW.condT rfl c78 ?_
   refine FW.seq (FW.region ?_)
   refine FL.v (E.move (v:=Value.int .i64 ((i22:Nat):Int)) rfl) ?_
   refine FL.v (E.assign (v:=Value.int .i64 ((i22:Nat):Int)) rfl) ?_
   refine FL.nil ?_
   refine FW.ret ?_
   obtain rfl:=Option.some.inj hp
   exact ⟨nofun,rfl,⟨.inr rfl,res1 rfl rfl ⟨rfl,S72.back⟩⟩⟩
  ·
   refine FW.condF rfl c78 ?_
   refine FW.skip (FW.region ?_)
   refine FL.v (E.add k56 rfl) ?_
   refine FL.v (E.move (v:=Value.int .i64 (wr (((i22:Nat):Int) + 1))) rfl) ?_
   refine FL.nil ?_
   obtain rfl:=Option.some.inj hp
   exact ⟨rfl,⟨_,S72,i53,(zap rfl (zaq hx22) (p0.mono i53).le),k57,k58,k59⟩⟩
 ·
  clear hp hq
  rintro s22 f89 w88 ⟨H85,S86,i87,k90,k91,k92,k93⟩
  refine FW.seq (FW.region ?_)
  refine FL.v (E.lss k90 k93) ?_
  refine FL.nil (FW.seq ?_)
  refine FW.condF rfl zax ?_
  refine FW.exit ?_
  exact ⟨nofun,rfl,⟨_,S86,i87⟩⟩
 ·
  clear hq
  intro e f84 w83 hD
  rcases q22 with s22|x22
  ·
   obtain ⟨rfl,hD⟩:=hD
   obtain ⟨H80,S81,i82⟩:=hD
   replace hp:=el_go hp
   refine FW.seq (FW.region ?_)
   refine FL.v (E.assign (v:=Value.int .i64 (-1)) rfl) ?_
   refine FL.nil ?_
   refine FW.ret ?_
   obtain rfl:=Option.some.inj hp
   exact ⟨.inr rfl,res1 rfl rfl ⟨rfl,S81.back⟩⟩
  ·
   obtain ⟨he,hL⟩:=hD
   replace hp:=el_rt hp
   obtain rfl:=Option.some.inj hp
   subst he
   exact hL

theorem zeS {Ha:GH} {wa:World} (hs:Sl Ha wa) (v0:Value) (a0:List (List Int)) (p0:RSl Ha (eL eI 1) 1 v0 a0) (v1:Value) (a1:(List Int)→Option Bool) (p1:zcX Tryz.prog Ha v1 a1) {r:Bool} (hp:(PF.zcB a0 a1)=some r) :
  Calls Tryz.prog 72 #[v0,v1] wa (Sc Ha wa (Value.bool r)):=by
 unfold PF.zcB at hp
 have S0:=St.init hs
 refine zae (N:=9) (args:=[v0,v1]) Tryz.func72 rfl rfl rfl ?_
 refine FW.seq (FW.region ?_)
 refine FL.v (E.assign (v:=Value.bool false) rfl) ?_
 refine FL.nil (FW.seq (FW.region ?_))
 refine FL.v (E.move (v:=v0) rfl) ?_
 refine FL.v (E.move (v:=v1) rfl) ?_
 obtain ⟨r21,hr22,hp⟩:=bnd hp
 refine FL.call rfl rfl rfl (E.call Tryz.call86 (A2 rfl rfl)) (zeR S0.sl v0 a0 p0 v1 a1 p1 hr22) ?_
 rintro e w23 ⟨rfl,r24⟩
 refine ⟨_,rfl,?_⟩
 have S25:=S0.call r24
 refine FL.v (E.geq rfl rfl) ?_
 refine FL.v (E.assign (v:=Value.bool (decide (0≤r21))) rfl) ?_
 refine FL.nil ?_
 refine FW.ret ?_
 obtain rfl:=Option.some.inj hp
 exact ⟨.inr rfl,res1 rfl rfl ⟨rfl,S25.back⟩⟩

theorem zfr {Ha:GH} {wa:World} (hs:Sl Ha wa) (v0:Value) (a0:List Int) (p0:RSl Ha eI 1 v0 a0) (a1:Int) {r:Int} (hp:(PF.zdh a0 a1)=some r) :
  Calls Tryz.prog 104 #[v0,Value.int .i64 a1] wa (Sc Ha wa (Value.int .i64 r)):=by
 unfold PF.zdh at hp
 have S0:=St.init hs
 refine zae (N:=19) (args:=[v0,Value.int .i64 a1]) Tryz.func104 rfl rfl rfl ?_
 refine FW.seq (FW.region ?_)
 refine FL.v (E.assign (v:=Value.int .i64 0) rfl) ?_
 refine FL.nil (FW.seq (FW.seq (FW.region ?_)))
 refine FL.v (E.move (v:=v0) rfl) ?_
 refine FL.v (E.lenP te34 rfl p0) ?_
 refine FL.v (E.move (v:=Value.int .i64 0) rfl) ?_
 refine FL.nil ?_
 obtain ⟨q22,hq,hp⟩:=bndR hp
 refine FW.block ?_
 refine FW.mono (FW.forL (S:=Unit) (X:=Int) (fun (i22:Nat) (s22:Unit) f w=>∃ H:GH,St Ha wa H w []∧Inc Ha H∧f 8=Value.int .i64 ((i22:Nat):Int)∧f 0=v0∧f 1=Value.int .i64 a1∧f 7=Value.int .i64 (len a0)) (fun q e f w=>match q with|.go s22=>e=Exit.exit 0∧(∃ H:GH,St Ha wa H w []∧Inc Ha H)|.rt x=>((e=Exit.ret)∧(fun e f w=>(e=Exit.normal∨e=Exit.ret)∧∀ a,Fr (δ:=[]) 19 a f→∃ v,(results Tryz.f104 a.tmps).run Tryz.prog w=.ok v w∧(Sc Ha wa (Value.int .i64 x)) (.returned v) w) e f w)) hq ⟨_,S0,(Inc.rfl _),rfl,rfl,rfl,rfl⟩ ?_ ?_) ?_
 ·
  clear hp hq
  rintro i22 y21 s22 f43 w42 ⟨H39,S40,i41,k44,k45,k46,k47⟩ hx22 o55 hp
  refine FW.seq (FW.region ?_)
  refine FL.v (E.lssT k44 k47 (zaw hx22)) ?_
  refine FL.nil (FW.seq ?_)
  refine FW.condT rfl rfl ?_
  refine FW.skip (FW.seq (FW.block (FW.seq (FW.region ?_))))
  refine FL.v (E.move k44) ?_
  refine FL.v (E.assign (v:=Value.int .i64 ((i22:Nat):Int)) rfl) ?_
  refine FL.nil (FW.seq (FW.region ?_))
  refine FL.v (E.move k46) ?_
  refine FL.v (E.move k45) ?_
  refine FL.v (E.move (v:=Value.int .i64 ((i22:Nat):Int)) rfl) ?_
  obtain ⟨p48,cs49,pt50,l51,at52,rel53⟩:=p0.at (zal hx22)
  obtain rfl:=zam rel53
  refine FL.v (E.indexAddr te34 rfl rfl pt50) ?_
  refine FL.v (E.load rfl (zaf Tryz.isAgg3 ((at52.mono i41).now S40.sl) rfl)) ?_
  refine FL.v (E.eql rfl rfl) ?_
  refine FL.nil ?_
  rcases ifB hp with ⟨c54,hp⟩|⟨c54,hp⟩
  ·
   refine FW.condT rfl c54 ?_
   refine FW.seq (FW.region ?_)
   refine FL.v (E.move (v:=Value.int .i64 ((i22:Nat):Int)) rfl) ?_
   refine FL.v (E.assign (v:=Value.int .i64 ((i22:Nat):Int)) rfl) ?_
   refine FL.nil ?_
   refine FW.ret ?_
   obtain rfl:=Option.some.inj hp
   exact ⟨nofun,rfl,⟨.inr rfl,res1 rfl rfl ⟨rfl,S40.back⟩⟩⟩
  ·
   refine FW.condF rfl c54 ?_
   refine FW.skip (FW.region ?_)
   refine FL.v (E.add k44 rfl) ?_
   refine FL.v (E.move (v:=Value.int .i64 (wr (((i22:Nat):Int) + 1))) rfl) ?_
   refine FL.nil ?_
   obtain rfl:=Option.some.inj hp
   exact ⟨rfl,⟨_,S40,i41,(zap rfl (zaq hx22) (p0.mono i41).le),k45,k46,k47⟩⟩
 ·
  clear hp hq
  rintro s22 f65 w64 ⟨H61,S62,i63,k66,k67,k68,k69⟩
  refine FW.seq (FW.region ?_)
  refine FL.v (E.lss k66 k69) ?_
  refine FL.nil (FW.seq ?_)
  refine FW.condF rfl zax ?_
  refine FW.exit ?_
  exact ⟨nofun,rfl,⟨_,S62,i63⟩⟩
 ·
  clear hq
  intro e f60 w59 hD
  rcases q22 with s22|x22
  ·
   obtain ⟨rfl,hD⟩:=hD
   obtain ⟨H56,S57,i58⟩:=hD
   replace hp:=el_go hp
   refine FW.seq (FW.region ?_)
   refine FL.v (E.assign (v:=Value.int .i64 (-1)) rfl) ?_
   refine FL.nil ?_
   refine FW.ret ?_
   obtain rfl:=Option.some.inj hp
   exact ⟨.inr rfl,res1 rfl rfl ⟨rfl,S57.back⟩⟩
  ·
   obtain ⟨he,hL⟩:=hD
   replace hp:=el_rt hp
   obtain rfl:=Option.some.inj hp
   subst he
   exact hL

theorem zd2 {Ha:GH} {wa:World} (hs:Sl Ha wa) (v0:Value) (a0:List Int) (p0:RSl Ha eI 1 v0 a0) (a1:Int) {r:Bool} (hp:(PF.zbp a0 a1)=some r) :
  Calls Tryz.prog 71 #[v0,Value.int .i64 a1] wa (Sc Ha wa (Value.bool r)):=by
 unfold PF.zbp at hp
 have S0:=St.init hs
 refine zae (N:=9) (args:=[v0,Value.int .i64 a1]) Tryz.func71 rfl rfl rfl ?_
 refine FW.seq (FW.region ?_)
 refine FL.v (E.assign (v:=Value.bool false) rfl) ?_
 refine FL.nil (FW.seq (FW.region ?_))
 refine FL.v (E.move (v:=v0) rfl) ?_
 refine FL.v (E.move (v:=Value.int .i64 a1) rfl) ?_
 obtain ⟨r21,hr22,hp⟩:=bnd hp
 refine FL.call rfl rfl rfl (E.call Tryz.call104 (A2 rfl rfl)) (zfr S0.sl v0 a0 p0 a1 hr22) ?_
 rintro e w23 ⟨rfl,r24⟩
 refine ⟨_,rfl,?_⟩
 have S25:=S0.call r24
 refine FL.v (E.geq rfl rfl) ?_
 refine FL.v (E.assign (v:=Value.bool (decide (0≤r21))) rfl) ?_
 refine FL.nil ?_
 refine FW.ret ?_
 obtain rfl:=Option.some.inj hp
 exact ⟨.inr rfl,res1 rfl rfl ⟨rfl,S25.back⟩⟩

set_option maxHeartbeats 4000000 in
theorem zeT {Ha:GH} {wa:World} (hs:Sl Ha wa) (v0:Value) (a0:List Int) (p0:RSl Ha eI 1 v0 a0) (v1:Value) (a1:List Int) (p1:RSl Ha eI 1 v1 a1) {r:Int} (hp:(PF.zcC a0 a1)=some r) :
  Calls Tryz.prog 37 #[v0,v1] wa (Sc Ha wa (Value.int .i64 r)):=by
 unfold PF.zcC at hp
 have S0:=St.init hs
 refine zae (N:=26) (args:=[v0,v1]) Tryz.func37 rfl rfl rfl ?_
 refine FW.seq (FW.region ?_)
 refine FL.v (E.assign (v:=Value.int .i64 0) rfl) ?_
 refine FL.nil (FW.seq (FW.region ?_))
 refine FL.v (E.assign (v:=Value.int .i64 (-1)) rfl) ?_
 refine FL.nil (FW.seq (FW.seq (FW.region ?_)))
 refine FL.v (E.move (v:=v0) rfl) ?_
 refine FL.v (E.lenP te34 rfl p0) ?_
 refine FL.v (E.move (v:=Value.int .i64 0) rfl) ?_
 refine FL.nil ?_
 obtain ⟨q22,hq,hp⟩:=bndR hp
 refine FW.block ?_
 refine FW.mono (FW.forL (S:=Int) (X:=Int) (fun (i22:Nat) (s22:Int) f w=>∃ H:GH,St Ha wa H w []∧Inc Ha H∧f 10=Value.int .i64 ((i22:Nat):Int)∧f 1=v1∧f 5=Value.int .i64 s22∧f 8=v0∧f 9=Value.int .i64 (len a0)) (fun q e f w=>match q with|.go s22=>e=Exit.exit 0∧(∃ H:GH,St Ha wa H w []∧Inc Ha H∧f 5=Value.int .i64 s22)|.rt x=>((e=Exit.ret)∧(fun e f w=>(e=Exit.normal∨e=Exit.ret)∧∀ a,Fr (δ:=[]) 26 a f→∃ v,(results Tryz.f37 a.tmps).run Tryz.prog w=.ok v w∧(Sc Ha wa (Value.int .i64 x)) (.returned v) w) e f w)) hq ⟨_,S0,(Inc.rfl _),rfl,rfl,rfl,rfl,rfl⟩ ?_ ?_) ?_
 ·
  clear hp hq
  rintro i22 y21 s22 f55 w54 ⟨H51,S52,i53,k56,k57,k58,k59,k60⟩ hx22 o79 hp
  refine FW.seq (FW.region ?_)
  refine FL.v (E.lssT k56 k60 (zaw hx22)) ?_
  refine FL.nil (FW.seq ?_)
  refine FW.condT rfl rfl ?_
  refine FW.skip (FW.seq (FW.block (FW.seq (FW.region ?_))))
  obtain ⟨p61,cs62,pt63,l64,at65,rel66⟩:=p0.at (zal hx22)
  obtain rfl:=zam rel66
  refine FL.v (E.indexAddr te34 k59 k56 pt63) ?_
  refine FL.v (E.load rfl (zaf Tryz.isAgg3 ((at65.mono i53).now S52.sl) rfl)) ?_
  refine FL.v (E.assign (v:=Value.int .i64 y21) rfl) ?_
  refine FL.nil (FW.block (FW.seq (FW.region ?_)))
  refine FL.v (E.move k57) ?_
  refine FL.v (E.move (v:=Value.int .i64 y21) rfl) ?_
  obtain ⟨r67,hr68,hp⟩:=bnd hp
  refine FL.call rfl rfl rfl (E.call Tryz.call71 (A2 rfl rfl)) (zd2 S52.sl v1 a1 (p1.mono i53) y21 hr68) ?_
  rintro e w69 ⟨rfl,r70⟩
  refine ⟨_,rfl,?_⟩
  have S71:=S52.call r70
  refine FL.v (E.assign (v:=Value.bool r67) rfl) ?_
  refine FL.nil ?_
  rcases ifB hp with ⟨c72,hp⟩|⟨c72,hp⟩
  ·
   refine FW.condT rfl c72 ?_
   refine FW.seq (FW.region ?_)
   refine FL.v (E.assign (v:=Value.int .i64 1) rfl) ?_
   refine FL.nil ?_
   refine FW.ret ?_
   obtain rfl:=Option.some.inj hp
   exact ⟨nofun,rfl,⟨.inr rfl,res1 rfl rfl ⟨rfl,S71.back⟩⟩⟩
  ·
   refine FW.condF rfl c72 ?_
   refine FW.seq (FW.region ?_)
   refine FL.v (E.move k57) ?_
   refine FL.v (E.move (v:=Value.int .i64 y21) rfl) ?_
   refine FL.v (E.neg rfl) ?_
   obtain ⟨r73,hr74,hp⟩:=bnd hp
   refine FL.call rfl rfl rfl (E.call Tryz.call71 (A2 rfl rfl)) (zd2 S71.sl v1 a1 (p1.mono i53) (wr (-y21)) hr74) ?_
   rintro e w75 ⟨rfl,r76⟩
   refine ⟨_,rfl,?_⟩
   have S77:=S71.call r76
   refine FL.v (E.not rfl) ?_
   refine FL.v (E.assign (v:=Value.bool (!r73)) rfl) ?_
   refine FL.nil ?_
   rcases ifB hp with ⟨c78,hp⟩|⟨c78,hp⟩
   ·
    refine FW.condT rfl c78 ?_
    refine FW.region ?_
    refine FL.v (E.assign (v:=Value.int .i64 0) rfl) ?_
    refine FL.nil (FW.region ?_)
    refine FL.v (E.add k56 rfl) ?_
    refine FL.v (E.move (v:=Value.int .i64 (wr (((i22:Nat):Int) + 1))) rfl) ?_
    refine FL.nil ?_
    obtain rfl:=Option.some.inj hp
    exact ⟨rfl,⟨_,S77,i53,(zap rfl (zaq hx22) (p0.mono i53).le),k57,rfl,k59,k60⟩⟩
   ·
    refine FW.condF rfl c78 ?_
    refine FW.skip (FW.region ?_)
    refine FL.v (E.add k56 rfl) ?_
    refine FL.v (E.move (v:=Value.int .i64 (wr (((i22:Nat):Int) + 1))) rfl) ?_
    refine FL.nil ?_
    obtain rfl:=Option.some.inj hp
    exact ⟨rfl,⟨_,S77,i53,(zap rfl (zaq hx22) (p0.mono i53).le),k57,k58,k59,k60⟩⟩
 ·
  clear hp hq
  rintro s22 f90 w89 ⟨H86,S87,i88,k91,k92,k93,k94,k95⟩
  refine FW.seq (FW.region ?_)
  refine FL.v (E.lss k91 k95) ?_
  refine FL.nil (FW.seq ?_)
  refine FW.condF rfl zax ?_
  refine FW.exit ?_
  exact ⟨nofun,rfl,⟨_,S87,i88,k93⟩⟩
 ·
  clear hq
  intro e f84 w83 hD
  rcases q22 with s22|x22
  ·
   obtain ⟨rfl,hD⟩:=hD
   obtain ⟨H80,S81,i82,k85⟩:=hD
   replace hp:=el_go hp
   refine FW.seq (FW.region ?_)
   refine FL.v (E.move k85) ?_
   refine FL.v (E.assign (v:=Value.int .i64 s22) rfl) ?_
   refine FL.nil ?_
   refine FW.ret ?_
   obtain rfl:=Option.some.inj hp
   exact ⟨.inr rfl,res1 rfl rfl ⟨rfl,S81.back⟩⟩
  ·
   obtain ⟨he,hL⟩:=hD
   replace hp:=el_rt hp
   obtain rfl:=Option.some.inj hp
   subst he
   exact hL

theorem w_impl_allowed_1 {Ha:GH} {wa:World} (hs:Sl Ha wa) (v0:Value) (a0:List Int) (p0:RSl Ha eI 1 v0 a0) (q0:Addr) (b0:Int) (c0:CAt Ha q0 [Value.int .i64 b0]) (q1:Addr) (b1:List Int) (u1_0:Value) (g1_0:RSl Ha eI 1 u1_0 b1) (c1:CAt Ha q1 [u1_0]) {r:Bool} (hp:(PF.zcD a0 b0 b1)=some r) :
  Calls Tryz.prog 94 #[v0,Value.pointer (some q0),Value.pointer (some q1)] wa (Sc Ha wa (Value.bool r)):=by
 unfold PF.zcD at hp
 have S0:=St.init hs
 refine zae (N:=15) (args:=[v0,Value.pointer (some q0),Value.pointer (some q1)]) Tryz.func94 rfl rfl rfl ?_
 refine FW.seq (FW.region ?_)
 refine FL.v (E.assign (v:=Value.bool false) rfl) ?_
 refine FL.nil (FW.seq (FW.region ?_))
 refine FL.v (E.move (v:=v0) rfl) ?_
 refine FL.v (E.lenP te34 rfl p0) ?_
 refine FL.v (E.load rfl (zaf Tryz.isAgg3 (c0.now S0.sl) rfl)) ?_
 refine FL.v (E.leq rfl rfl) ?_
 refine FL.v (E.move (v:=Value.bool (decide ((len a0)≤b0))) rfl) ?_
 obtain ⟨t26,hqt26,hp⟩:=bnd hp
 refine FL.cut 5 (fun f w=>∃ H:GH,St Ha wa H w []∧Inc Ha H∧f 14=Value.bool t26) ?_ ?_
 ·
  clear hp;have hp:=hqt26;clear hqt26
  rcases ifB hp with ⟨c32,hp⟩|⟨c32,hp⟩
  ·
   refine FL.val (zab rfl rfl rfl c32) rfl rfl (E.move (v:=v0) rfl) ?_
   refine FL.val (zab rfl rfl rfl c32) rfl rfl (E.load rfl (zaf Tryz.isAgg34 (c1.now S0.sl) rfl)) ?_
   obtain ⟨r33,hr34,hp⟩:=bnd hp
   refine FL.call (zab rfl rfl rfl c32) rfl rfl (E.call Tryz.call37 (A2 rfl rfl)) (zeT S0.sl v0 a0 p0 u1_0 b1 g1_0 hr34) ?_
   rintro e w35 ⟨rfl,r36⟩
   refine ⟨_,rfl,?_⟩
   have S37:=S0.call r36
   refine FL.val (zab rfl rfl rfl c32) rfl rfl (E.lss rfl rfl) ?_
   obtain rfl:=Option.some.inj hp
   refine FL.v (E.pickT rfl c32 rfl) ?_
   exact FL.nil ⟨rfl,_,S37,(Inc.rfl _),rfl⟩
  ·
   refine FL.skip (wF_no rfl rfl rfl c32) rfl ?_
   refine FL.skip (wF_no rfl rfl rfl c32) rfl ?_
   refine FL.skip (wF_no rfl rfl rfl c32) rfl ?_
   refine FL.skip (wF_no rfl rfl rfl c32) rfl ?_
   obtain rfl:=Option.some.inj hp
   refine FL.v (E.pickF rfl c32 rfl) ?_
   exact FL.nil ⟨rfl,_,S0,(Inc.rfl _),rfl⟩
 rintro f31 w30 ⟨H27,S28,i29,k38⟩
 refine FL.v (E.assign k38) ?_
 refine FL.nil ?_
 refine FW.ret ?_
 obtain rfl:=Option.some.inj hp
 exact ⟨.inr rfl,res1 rfl rfl ⟨rfl,S28.back⟩⟩

theorem zeU {Ha:GH} {wa:World} (hs:Sl Ha wa) (a0:Cnf) (v0_1:Value) (p0_1:RSl Ha (eL eI 1) 1 v0_1 a0.clauses) (a1:Int) (v2:Value) (a2:List Int) (p2:RSl Ha eI 1 v2 a2) {r:Bool} (hp:(PF.zcE a0 a1 a2)=some r) :
  Calls Tryz.prog 57 #[Value.agg #[Value.int .i64 a0.vars,v0_1],Value.int .i64 a1,v2] wa (Sc Ha wa (Value.bool r)):=by
 unfold PF.zcE at hp
 have S0:=St.init hs
 refine zae (N:=19) (args:=[Value.agg #[Value.int .i64 a0.vars,v0_1],Value.int .i64 a1,v2]) Tryz.func57 rfl rfl rfl ?_
 refine FW.seq (FW.region ?_)
 obtain ⟨b21,w22,run23,S24⟩:=S0.box (P:=Tryz.prog) 26 [Value.int .i64 a0.vars,v0_1] (v:=Value.agg #[Value.int .i64 a0.vars,v0_1]) rfl (zac rfl (zac p0_1.one zad))
 refine FL.v (E.box rfl run23) ?_
 obtain ⟨H25,S26,i27,at28⟩:=S24.sealBox (i:=0) (l':=[]) rfl rfl
 obtain ⟨b29,w30,run31,S32⟩:=S26.box (P:=Tryz.prog) 3 [Value.int .i64 a1] (v:=Value.int .i64 a1) rfl (zac rfl zad)
 refine FL.v (E.box rfl run31) ?_
 obtain ⟨H33,S34,i35,at36⟩:=S32.sealBox (i:=0) (l':=[]) rfl rfl
 obtain ⟨b37,w38,run39,S40⟩:=S34.box (P:=Tryz.prog) 34 [v2] (v:=v2) p2.cells (zac p2.one zad)
 refine FL.v (E.box rfl run39) ?_
 obtain ⟨H41,S42,i43,at44⟩:=S40.sealBox (i:=0) (l':=[]) rfl rfl
 refine FL.v (E.assign (v:=Value.bool false) rfl) ?_
 refine FL.nil (FW.seq (FW.region ?_))
 refine FL.v (E.load rfl (zaf Tryz.isAgg34 (at44.now S42.sl) rfl)) ?_
 refine FL.v (E.lenP te34 rfl p2) ?_
 refine FL.v (E.load rfl (zaf Tryz.isAgg3 ((at36.mono i43).now S42.sl) rfl)) ?_
 refine FL.v (E.add rfl rfl) ?_
 refine FL.v (E.leq rfl rfl) ?_
 refine FL.v (E.move (v:=Value.bool (decide ((len a2)≤(wr (a1 + 1))))) rfl) ?_
 obtain ⟨t50,hqt50,hp⟩:=bnd hp
 refine FL.cut 6 (fun f w=>∃ H:GH,St Ha wa H w []∧Inc H41 H∧f 18=Value.bool t50) ?_ ?_
 ·
  clear hp;have hp:=hqt50;clear hqt50
  rcases ifB hp with ⟨c56,hp⟩|⟨c56,hp⟩
  ·
   refine FL.val (zab rfl rfl rfl c56) rfl rfl (E.fieldAddr zay rfl) ?_
   refine FL.val (zab rfl rfl rfl c56) rfl rfl (E.load rfl (zah Tryz.isAgg24 ((at28.mono (i35.tr i43)).now S42.sl) rfl)) ?_
   refine FL.val (zab rfl rfl rfl c56) rfl rfl (E.makeFunc A0 (A2 rfl rfl)) ?_
   obtain ⟨r57,hr58,hp⟩:=bnd hp
   refine FL.call (zab rfl rfl rfl c56) rfl rfl (E.call Tryz.call72 (A2 rfl rfl)) (zeS S42.sl v0_1 a0.clauses (p0_1.mono ((i27.tr i35).tr i43)) (Value.func (.func 94) #[] #[Value.pointer (some ⟨b29,0,none⟩),Value.pointer (some ⟨b37,0,none⟩)]) (fun x0=>PF.zcD x0 a1 a2) (fun H2 w2 hi2 hs2 x0 y0 z0 r hr=>⟨94,#[Value.pointer (some ⟨b29,0,none⟩),Value.pointer (some ⟨b37,0,none⟩)],rfl,Tryz.call94,w_impl_allowed_1 hs2 y0 x0 z0 ⟨b29,0,none⟩ a1 ((at36.mono i43).mono hi2) ⟨b37,0,none⟩ a2 v2 ((p2.mono ((i27.tr i35).tr i43)).mono hi2) (at44.mono hi2) hr⟩) hr58) ?_
   rintro e w59 ⟨rfl,r60⟩
   refine ⟨_,rfl,?_⟩
   have S61:=S42.call r60
   refine FL.val (zab rfl rfl rfl c56) rfl rfl (E.not rfl) ?_
   obtain rfl:=Option.some.inj hp
   refine FL.v (E.pickT rfl c56 rfl) ?_
   exact FL.nil ⟨rfl,_,S61,(Inc.rfl _),rfl⟩
  ·
   refine FL.skip (wF_no rfl rfl rfl c56) rfl ?_
   refine FL.skip (wF_no rfl rfl rfl c56) rfl ?_
   refine FL.skip (wF_no rfl rfl rfl c56) rfl ?_
   refine FL.skip (wF_no rfl rfl rfl c56) rfl ?_
   refine FL.skip (wF_no rfl rfl rfl c56) rfl ?_
   obtain rfl:=Option.some.inj hp
   refine FL.v (E.pickF rfl c56 rfl) ?_
   exact FL.nil ⟨rfl,_,S42,(Inc.rfl _),rfl⟩
 rintro f55 w54 ⟨H51,S52,i53,k62⟩
 refine FL.v (E.assign k62) ?_
 refine FL.nil ?_
 refine FW.ret ?_
 obtain rfl:=Option.some.inj hp
 exact ⟨.inr rfl,res1 rfl rfl ⟨rfl,S52.back⟩⟩

@[reducible] def zfs (H0:GH) (w0:World) (Ha:GH) (L:List MO) (v0:Value) (n0:Nat) (r:(List (List Int))):Ending→World→Prop :=
 fun e w'=>∃ H':GH,∃ c0k:List Value,e=.returned (Value.tuple #[])∧(St H0 w0 H' w' (.row 34 1 v0 n0 c0k::L)∧Inc Ha H')∧Els H' (eL eI 1) 1 c0k r
theorem zeV {H0 Ha:GH} {w0 wa:World} {L:List MO} {v0:Value} {n0:Nat} {k0:List Value} (S0:St H0 w0 Ha wa (.row 34 1 v0 n0 k0::L)) (a0:List (List Int)) (p0:Els Ha (eL eI 1) 1 k0 a0) (v1:Value) (a1:(List Int)→(List Int)→Option Int) (p1:zfh Tryz.prog Ha v1 a1) {r:(List (List Int))} (hp:(PF.zdi a0 a1)=some r) :
  Calls Tryz.prog 58 #[v0,v1] wa (zfs H0 w0 Ha L v0 n0 r):=by
 refine (St.sortF (l:=.row 34 1 v0 n0 k0::L) (i:=0) (Inc.rfl _) S0 rfl p0 (fun H2 w2 hi hs2 c x hc d y hd r hr=>by obtain ⟨y0,e0,z0⟩:=zav hc;cases e0;obtain ⟨y1,e1,z1⟩:=zav hd;cases e1;exact p1 H2 w2 hi hs2 x c z0 y d z1 r hr) (fun p cap fv w=>AnyF.slices_SortFunc_none (P:=Tryz.prog) (ρ:=Tryz.sort58_ren) { Tryz.sort58 with } p cap fv w) (fun α _ enc h1 cf hO g cb blk off cap d w eg hc hH hb hs=>Any.slices_SortFunc Tryz.sort58 enc h1 cf hO g cb blk off cap d w eg hc hH hb hs) hp).mono ?_
 rintro e w' ⟨rfl,c',h1,h2,hq⟩
 exact ⟨_,_,rfl,⟨h1,Inc.rfl _⟩,h2⟩

theorem zeW {Ha:GH} {wa:World} (hs:Sl Ha wa) (a0:Int) :
  Calls Tryz.prog 134 #[Value.int .i64 a0] wa (Sc Ha wa (Value.bool (PF.za4 a0))):=by
 obtain ⟨r,hp⟩:∃ r,(PF.za4 a0)=r:=⟨_,rfl⟩
 rw [hp]
 unfold PF.za4 at hp
 have S0:=St.init hs
 refine zae (N:=6) (args:=[Value.int .i64 a0]) Tryz.func134 rfl rfl rfl ?_
 refine FW.seq (FW.region ?_)
 refine FL.v (E.assign (v:=Value.bool false) rfl) ?_
 refine FL.nil (FW.seq (FW.region ?_))
 refine FL.v (E.move (v:=Value.int .i64 a0) rfl) ?_
 refine FL.v (E.move (v:=Value.int .i64 a0) rfl) ?_
 refine FL.v (E.neq rfl rfl) ?_
 refine FL.v (E.assign (v:=Value.bool (!(a0 == a0))) rfl) ?_
 refine FL.nil ?_
 refine FW.ret ?_
 obtain rfl:=hp
 exact ⟨.inr rfl,res1 rfl rfl ⟨rfl,S0.back⟩⟩

set_option maxHeartbeats 4000000 in
theorem zep {Ha:GH} {wa:World} (hs:Sl Ha wa) (a0:Int) (a1:Int) :
  Calls Tryz.prog 98 #[Value.int .i64 a0,Value.int .i64 a1] wa (Sc Ha wa (Value.int .i64 (PF.zaO a0 a1))):=by
 obtain ⟨r,hp⟩:∃ r,(PF.zaO a0 a1)=r:=⟨_,rfl⟩
 rw [hp]
 unfold PF.zaO at hp
 have S0:=St.init hs
 refine zae (N:=20) (args:=[Value.int .i64 a0,Value.int .i64 a1]) Tryz.func98 rfl rfl rfl ?_
 refine FW.seq (FW.region ?_)
 refine FL.v (E.assign (v:=Value.int .i64 0) rfl) ?_
 refine FL.nil (FW.seq (FW.region ?_))
 refine FL.v (E.move (v:=Value.int .i64 a0) rfl) ?_
 refine FL.call rfl rfl rfl (E.call Tryz.call134 (A1 rfl)) (zeW S0.sl a0) ?_
 rintro e w21 ⟨rfl,r22⟩
 refine ⟨_,rfl,?_⟩
 have S23:=S0.call r22
 refine FL.v (E.assign (v:=Value.bool (PF.za4 a0)) rfl) ?_
 refine FL.nil (FW.seq (FW.region ?_))
 refine FL.v (E.move (v:=Value.int .i64 a1) rfl) ?_
 refine FL.call rfl rfl rfl (E.call Tryz.call134 (A1 rfl)) (zeW S23.sl a1) ?_
 rintro e w24 ⟨rfl,r25⟩
 refine ⟨_,rfl,?_⟩
 have S26:=S23.call r25
 refine FL.v (E.assign (v:=Value.bool (PF.za4 a1)) rfl) ?_
 refine FL.nil (FW.seq (FW.seq (FW.region ?_)))
 refine FL.v (E.move (v:=Value.bool (PF.za4 a0)) rfl) ?_
 refine FL.nil ?_
 rcases ifT hp with ⟨c27,hp⟩|⟨c27,hp⟩
 ·
  refine FW.condT rfl c27 ?_
  refine FW.seq (FW.seq (FW.region ?_))
  refine FL.v (E.move (v:=Value.bool (PF.za4 a1)) rfl) ?_
  refine FL.nil ?_
  rcases ifT hp with ⟨c28,hp⟩|⟨c28,hp⟩
  ·
   refine FW.condT rfl c28 ?_
   refine FW.seq (FW.region ?_)
   refine FL.v (E.assign (v:=Value.int .i64 0) rfl) ?_
   refine FL.nil ?_
   refine FW.ret ?_
   obtain rfl:=hp
   exact ⟨.inr rfl,res1 rfl rfl ⟨rfl,S26.back⟩⟩
  ·
   refine FW.condF rfl c28 ?_
   refine FW.skip (FW.seq (FW.region ?_))
   refine FL.v (E.assign (v:=Value.int .i64 (-1)) rfl) ?_
   refine FL.nil ?_
   refine FW.ret ?_
   obtain rfl:=hp
   exact ⟨.inr rfl,res1 rfl rfl ⟨rfl,S26.back⟩⟩
 ·
  refine FW.condF rfl c27 ?_
  refine FW.skip (FW.seq (FW.seq (FW.region ?_)))
  refine FL.v (E.move (v:=Value.bool (PF.za4 a1)) rfl) ?_
  refine FL.nil ?_
  rcases ifT hp with ⟨c29,hp⟩|⟨c29,hp⟩
  ·
   refine FW.condT rfl c29 ?_
   refine FW.seq (FW.region ?_)
   refine FL.v (E.assign (v:=Value.int .i64 1) rfl) ?_
   refine FL.nil ?_
   refine FW.ret ?_
   obtain rfl:=hp
   exact ⟨.inr rfl,res1 rfl rfl ⟨rfl,S26.back⟩⟩
  ·
   refine FW.condF rfl c29 ?_
   refine FW.skip (FW.seq (FW.seq (FW.region ?_)))
   refine FL.v (E.move (v:=Value.int .i64 a0) rfl) ?_
   refine FL.v (E.move (v:=Value.int .i64 a1) rfl) ?_
   refine FL.v (E.lss rfl rfl) ?_
   refine FL.nil ?_
   rcases ifT hp with ⟨c30,hp⟩|⟨c30,hp⟩
   ·
    refine FW.condT rfl c30 ?_
    refine FW.seq (FW.region ?_)
    refine FL.v (E.assign (v:=Value.int .i64 (-1)) rfl) ?_
    refine FL.nil ?_
    refine FW.ret ?_
    obtain rfl:=hp
    exact ⟨.inr rfl,res1 rfl rfl ⟨rfl,S26.back⟩⟩
   ·
    refine FW.condF rfl c30 ?_
    refine FW.skip (FW.seq (FW.seq (FW.region ?_)))
    refine FL.v (E.move (v:=Value.int .i64 a0) rfl) ?_
    refine FL.v (E.move (v:=Value.int .i64 a1) rfl) ?_
    refine FL.v (E.gtr rfl rfl) ?_
    refine FL.nil ?_
    rcases ifT hp with ⟨c31,hp⟩|⟨c31,hp⟩
    ·
     refine FW.condT rfl c31 ?_
     refine FW.seq (FW.region ?_)
     refine FL.v (E.assign (v:=Value.int .i64 1) rfl) ?_
     refine FL.nil ?_
     refine FW.ret ?_
     obtain rfl:=hp
     exact ⟨.inr rfl,res1 rfl rfl ⟨rfl,S26.back⟩⟩
    ·
     refine FW.condF rfl c31 ?_
     refine FW.skip (FW.seq (FW.region ?_))
     refine FL.v (E.assign (v:=Value.int .i64 0) rfl) ?_
     refine FL.nil ?_
     refine FW.ret ?_
     obtain rfl:=hp
     exact ⟨.inr rfl,res1 rfl rfl ⟨rfl,S26.back⟩⟩

set_option maxHeartbeats 4000000 in
theorem zft {Ha:GH} {wa:World} (hs:Sl Ha wa) (v0:Value) (a0:List Int) (p0:RSl Ha eI 1 v0 a0) (v1:Value) (a1:List Int) (p1:RSl Ha eI 1 v1 a1) (v2:Value) (a2:Int→Int→Option Int) (p2:zdV Tryz.prog Ha v2 a2) {r:Int} (hp:(PF.zdj a0 a1 a2)=some r) :
  Calls Tryz.prog 99 #[v0,v1,v2] wa (Sc Ha wa (Value.int .i64 r)):=by
 unfold PF.zdj at hp
 have S0:=St.init hs
 refine zae (N:=39) (args:=[v0,v1,v2]) Tryz.func99 rfl rfl rfl ?_
 refine FW.seq (FW.region ?_)
 refine FL.v (E.assign (v:=Value.int .i64 0) rfl) ?_
 refine FL.nil (FW.seq (FW.seq (FW.region ?_)))
 refine FL.v (E.move (v:=v0) rfl) ?_
 refine FL.v (E.lenP te34 rfl p0) ?_
 refine FL.v (E.move (v:=Value.int .i64 0) rfl) ?_
 refine FL.nil ?_
 obtain ⟨q22,hq,hp⟩:=bndR hp
 refine FW.block ?_
 refine FW.mono (FW.forL (S:=Unit) (X:=Int) (fun (i22:Nat) (s22:Unit) f w=>∃ H:GH,St Ha wa H w []∧Inc Ha H∧f 13=Value.int .i64 ((i22:Nat):Int)∧f 0=v0∧f 1=v1∧f 2=v2∧f 11=v0∧f 12=Value.int .i64 (len a0)) (fun q e f w=>match q with|.go s22=>e=Exit.exit 0∧(∃ H:GH,St Ha wa H w []∧Inc Ha H∧f 0=v0∧f 1=v1)|.rt x=>((e=Exit.ret)∧(fun e f w=>(e=Exit.normal∨e=Exit.ret)∧∀ a,Fr (δ:=[]) 39 a f→∃ v,(results Tryz.f99 a.tmps).run Tryz.prog w=.ok v w∧(Sc Ha wa (Value.int .i64 x)) (.returned v) w) e f w)) hq ⟨_,S0,(Inc.rfl _),rfl,rfl,rfl,rfl,rfl,rfl⟩ ?_ ?_) ?_
 ·
  clear hp hq
  rintro i22 y21 s22 f64 w63 ⟨H60,S61,i62,k65,k66,k67,k68,k69,k70⟩ hx22 o97 hp
  refine FW.seq (FW.region ?_)
  refine FL.v (E.lssT k65 k70 (zaw hx22)) ?_
  refine FL.nil (FW.seq ?_)
  refine FW.condT rfl rfl ?_
  refine FW.skip (FW.seq (FW.block (FW.seq (FW.region ?_))))
  refine FL.v (E.move k65) ?_
  obtain ⟨p71,cs72,pt73,l74,at75,rel76⟩:=p0.at (zal hx22)
  obtain rfl:=zam rel76
  refine FL.v (E.indexAddr te34 k69 k65 pt73) ?_
  refine FL.v (E.load rfl (zaf Tryz.isAgg3 ((at75.mono i62).now S61.sl) rfl)) ?_
  refine FL.v (E.assign (v:=Value.int .i64 ((i22:Nat):Int)) rfl) ?_
  refine FL.v (E.assign (v:=Value.int .i64 y21) rfl) ?_
  refine FL.nil (FW.seq (FW.seq (FW.region ?_)))
  refine FL.v (E.move (v:=Value.int .i64 ((i22:Nat):Int)) rfl) ?_
  refine FL.v (E.move k67) ?_
  refine FL.v (E.lenP te34 rfl p1) ?_
  refine FL.v (E.geq rfl rfl) ?_
  refine FL.nil ?_
  rcases ifB hp with ⟨c77,hp⟩|⟨c77,hp⟩
  ·
   refine FW.condT rfl c77 ?_
   refine FW.seq (FW.region ?_)
   refine FL.v (E.assign (v:=Value.int .i64 1) rfl) ?_
   refine FL.nil ?_
   refine FW.ret ?_
   obtain rfl:=Option.some.inj hp
   exact ⟨nofun,rfl,⟨.inr rfl,res1 rfl rfl ⟨rfl,S61.back⟩⟩⟩
  ·
   refine FW.condF rfl c77 ?_
   refine FW.skip (FW.seq (FW.region ?_))
   refine FL.v (E.move k67) ?_
   refine FL.v (E.move (v:=Value.int .i64 ((i22:Nat):Int)) rfl) ?_
   obtain ⟨x84,hx85,hp⟩:=bnd hp
   obtain ⟨p78,cs79,pt80,l81,at82,rel83⟩:=p1.at hx85
   obtain rfl:=zam rel83
   refine FL.v (E.indexAddr te34 rfl rfl pt80) ?_
   refine FL.v (E.load rfl (zaf Tryz.isAgg3 ((at82.mono i62).now S61.sl) rfl)) ?_
   refine FL.v (E.assign (v:=Value.int .i64 x84) rfl) ?_
   refine FL.nil (FW.seq (FW.region ?_))
   refine FL.v (E.move k68) ?_
   refine FL.v (E.move (v:=Value.int .i64 y21) rfl) ?_
   refine FL.v (E.move (v:=Value.int .i64 x84) rfl) ?_
   obtain ⟨r86,hr87,hp⟩:=bnd hp
   obtain ⟨fi91,cs92,hv93,he94,hc95⟩:=(p2.mono i62) H60 w63 (Inc.rfl _) S61.sl y21 x84 r86 hr87
   refine FL.call rfl rfl rfl (E.callV he94 (Eq.trans rfl hv93) (appA (A2 rfl rfl) cs92)) hc95 ?_
   rintro e w88 ⟨rfl,r89⟩
   refine ⟨_,rfl,?_⟩
   have S90:=S61.call r89
   refine FL.v (E.assign (v:=Value.int .i64 r86) rfl) ?_
   refine FL.nil (FW.seq (FW.region ?_))
   refine FL.v (E.move (v:=Value.int .i64 r86) rfl) ?_
   refine FL.v (E.neq rfl rfl) ?_
   refine FL.nil ?_
   rcases ifB hp with ⟨c96,hp⟩|⟨c96,hp⟩
   ·
    refine FW.condT rfl c96 ?_
    refine FW.seq (FW.region ?_)
    refine FL.v (E.move (v:=Value.int .i64 r86) rfl) ?_
    refine FL.v (E.assign (v:=Value.int .i64 r86) rfl) ?_
    refine FL.nil ?_
    refine FW.ret ?_
    obtain rfl:=Option.some.inj hp
    exact ⟨nofun,rfl,⟨.inr rfl,res1 rfl rfl ⟨rfl,S90.back⟩⟩⟩
   ·
    refine FW.condF rfl c96 ?_
    refine FW.skip (FW.region ?_)
    refine FL.v (E.add k65 rfl) ?_
    refine FL.v (E.move (v:=Value.int .i64 (wr (((i22:Nat):Int) + 1))) rfl) ?_
    refine FL.nil ?_
    obtain rfl:=Option.some.inj hp
    exact ⟨rfl,⟨_,S90,i62,(zap rfl (zaq hx22) (p0.mono i62).le),k66,k67,k68,k69,k70⟩⟩
 ·
  clear hp hq
  rintro s22 fAa wA9 ⟨HA6,SA7,iA8,kAb,kAc,kAd,kAe,kAf,kAg⟩
  refine FW.seq (FW.region ?_)
  refine FL.v (E.lss kAb kAg) ?_
  refine FL.nil (FW.seq ?_)
  refine FW.condF rfl zax ?_
  refine FW.exit ?_
  exact ⟨nofun,rfl,⟨_,SA7,iA8,kAc,kAd⟩⟩
 ·
  clear hq
  intro e fA2 wA1 hD
  rcases q22 with s22|x22
  ·
   obtain ⟨rfl,hD⟩:=hD
   obtain ⟨H98,S99,iA0,kA3,kA4⟩:=hD
   replace hp:=el_go hp
   refine FW.seq (FW.seq (FW.region ?_))
   refine FL.v (E.move kA3) ?_
   refine FL.v (E.lenP te34 rfl p0) ?_
   refine FL.v (E.move kA4) ?_
   refine FL.v (E.lenP te34 rfl p1) ?_
   refine FL.v (E.lss rfl rfl) ?_
   refine FL.nil ?_
   rcases ifB hp with ⟨cA5,hp⟩|⟨cA5,hp⟩
   ·
    refine FW.condT rfl cA5 ?_
    refine FW.seq (FW.region ?_)
    refine FL.v (E.assign (v:=Value.int .i64 (-1)) rfl) ?_
    refine FL.nil ?_
    refine FW.ret ?_
    obtain rfl:=Option.some.inj hp
    exact ⟨.inr rfl,res1 rfl rfl ⟨rfl,S99.back⟩⟩
   ·
    refine FW.condF rfl cA5 ?_
    refine FW.skip (FW.seq (FW.region ?_))
    refine FL.v (E.assign (v:=Value.int .i64 0) rfl) ?_
    refine FL.nil ?_
    refine FW.ret ?_
    obtain rfl:=Option.some.inj hp
    exact ⟨.inr rfl,res1 rfl rfl ⟨rfl,S99.back⟩⟩
  ·
   obtain ⟨he,hL⟩:=hD
   replace hp:=el_rt hp
   obtain rfl:=Option.some.inj hp
   subst he
   exact hL

theorem w_cmp_Or_int {Ha:GH} {wa:World} (hs:Sl Ha wa) (v0:Value) (a0:List Int) (p0:RSl Ha eI 1 v0 a0) {r:Int} (hp:(PF.zcF a0)=some r) :
  Calls Tryz.prog 97 #[v0] wa (Sc Ha wa (Value.int .i64 r)):=by
 unfold PF.zcF at hp
 have S0:=St.init hs
 refine zae (N:=18) (args:=[v0]) Tryz.func97 rfl rfl rfl ?_
 refine FW.seq (FW.region ?_)
 refine FL.v (E.assign (v:=Value.int .i64 0) rfl) ?_
 refine FL.nil (FW.seq (FW.region ?_))
 refine FL.v (E.assign (v:=Value.int .i64 0) rfl) ?_
 refine FL.nil (FW.seq (FW.seq (FW.region ?_)))
 refine FL.v (E.move (v:=v0) rfl) ?_
 refine FL.v (E.lenP te34 rfl p0) ?_
 refine FL.v (E.move (v:=Value.int .i64 0) rfl) ?_
 refine FL.nil ?_
 obtain ⟨q22,hq,hp⟩:=bndR hp
 refine FW.block ?_
 refine FW.mono (FW.forL (S:=Unit) (X:=Int) (fun (i22:Nat) (s22:Unit) f w=>∃ H:GH,St Ha wa H w []∧Inc Ha H∧f 8=Value.int .i64 ((i22:Nat):Int)∧f 3=Value.int .i64 0∧f 6=v0∧f 7=Value.int .i64 (len a0)) (fun q e f w=>match q with|.go s22=>e=Exit.exit 0∧(∃ H:GH,St Ha wa H w []∧Inc Ha H∧f 3=Value.int .i64 0)|.rt x=>((e=Exit.ret)∧(fun e f w=>(e=Exit.normal∨e=Exit.ret)∧∀ a,Fr (δ:=[]) 18 a f→∃ v,(results Tryz.f97 a.tmps).run Tryz.prog w=.ok v w∧(Sc Ha wa (Value.int .i64 x)) (.returned v) w) e f w)) hq ⟨_,S0,(Inc.rfl _),rfl,rfl,rfl,rfl⟩ ?_ ?_) ?_
 ·
  clear hp hq
  rintro i22 y21 s22 f43 w42 ⟨H39,S40,i41,k44,k45,k46,k47⟩ hx22 o55 hp
  refine FW.seq (FW.region ?_)
  refine FL.v (E.lssT k44 k47 (zaw hx22)) ?_
  refine FL.nil (FW.seq ?_)
  refine FW.condT rfl rfl ?_
  refine FW.skip (FW.seq (FW.block (FW.seq (FW.region ?_))))
  obtain ⟨p48,cs49,pt50,l51,at52,rel53⟩:=p0.at (zal hx22)
  obtain rfl:=zam rel53
  refine FL.v (E.indexAddr te34 k46 k44 pt50) ?_
  refine FL.v (E.load rfl (zaf Tryz.isAgg3 ((at52.mono i41).now S40.sl) rfl)) ?_
  refine FL.v (E.assign (v:=Value.int .i64 y21) rfl) ?_
  refine FL.nil (FW.seq (FW.region ?_))
  refine FL.v (E.move (v:=Value.int .i64 y21) rfl) ?_
  refine FL.v (E.move k45) ?_
  refine FL.v (E.neq rfl rfl) ?_
  refine FL.nil ?_
  rcases ifB hp with ⟨c54,hp⟩|⟨c54,hp⟩
  ·
   refine FW.condT rfl c54 ?_
   refine FW.seq (FW.region ?_)
   refine FL.v (E.move (v:=Value.int .i64 y21) rfl) ?_
   refine FL.v (E.assign (v:=Value.int .i64 y21) rfl) ?_
   refine FL.nil ?_
   refine FW.ret ?_
   obtain rfl:=Option.some.inj hp
   exact ⟨nofun,rfl,⟨.inr rfl,res1 rfl rfl ⟨rfl,S40.back⟩⟩⟩
  ·
   refine FW.condF rfl c54 ?_
   refine FW.skip (FW.region ?_)
   refine FL.v (E.add k44 rfl) ?_
   refine FL.v (E.move (v:=Value.int .i64 (wr (((i22:Nat):Int) + 1))) rfl) ?_
   refine FL.nil ?_
   obtain rfl:=Option.some.inj hp
   exact ⟨rfl,⟨_,S40,i41,(zap rfl (zaq hx22) (p0.mono i41).le),k45,k46,k47⟩⟩
 ·
  clear hp hq
  rintro s22 f66 w65 ⟨H62,S63,i64,k67,k68,k69,k70⟩
  refine FW.seq (FW.region ?_)
  refine FL.v (E.lss k67 k70) ?_
  refine FL.nil (FW.seq ?_)
  refine FW.condF rfl zax ?_
  refine FW.exit ?_
  exact ⟨nofun,rfl,⟨_,S63,i64,k68⟩⟩
 ·
  clear hq
  intro e f60 w59 hD
  rcases q22 with s22|x22
  ·
   obtain ⟨rfl,hD⟩:=hD
   obtain ⟨H56,S57,i58,k61⟩:=hD
   replace hp:=el_go hp
   refine FW.seq (FW.region ?_)
   refine FL.v (E.move k61) ?_
   refine FL.v (E.assign (v:=Value.int .i64 0) rfl) ?_
   refine FL.nil ?_
   refine FW.ret ?_
   obtain rfl:=Option.some.inj hp
   exact ⟨.inr rfl,res1 rfl rfl ⟨rfl,S57.back⟩⟩
  ·
   obtain ⟨he,hL⟩:=hD
   replace hp:=el_rt hp
   obtain rfl:=Option.some.inj hp
   subst he
   exact hL

theorem zfu {Ha:GH} {wa:World} (hs:Sl Ha wa) (a0:Int) (a1:Int) {r:Int} (hp:(PF.zbK a0 a1)=some r) :
  Calls Tryz.prog 100 #[Value.int .i64 a0,Value.int .i64 a1] wa (Sc Ha wa (Value.int .i64 r)):=by
 unfold PF.zbK at hp
 have S0:=St.init hs
 refine zae (N:=15) (args:=[Value.int .i64 a0,Value.int .i64 a1]) Tryz.func100 rfl rfl rfl ?_
 refine FW.seq (FW.region ?_)
 refine FL.v (E.assign (v:=Value.int .i64 0) rfl) ?_
 refine FL.nil (FW.seq (FW.region ?_))
 refine FL.v (E.move (v:=Value.int .i64 a0) rfl) ?_
 refine FL.call rfl rfl rfl (E.call Tryz.call69 (A1 rfl)) (zd1 S0.sl a0) ?_
 rintro e w21 ⟨rfl,r22⟩
 refine ⟨_,rfl,?_⟩
 have S23:=S0.call r22
 refine FL.v (E.move (v:=Value.int .i64 a1) rfl) ?_
 refine FL.call rfl rfl rfl (E.call Tryz.call69 (A1 rfl)) (zd1 S23.sl a1) ?_
 rintro e w24 ⟨rfl,r25⟩
 refine ⟨_,rfl,?_⟩
 have S26:=S23.call r25
 refine FL.call rfl rfl rfl (E.call Tryz.call98 (A2 rfl rfl)) (zep S26.sl (PF.zaA a0) (PF.zaA a1)) ?_
 rintro e w27 ⟨rfl,r28⟩
 refine ⟨_,rfl,?_⟩
 have S29:=S26.call r28
 refine FL.v (E.move (v:=Value.int .i64 a1) rfl) ?_
 refine FL.v (E.move (v:=Value.int .i64 a0) rfl) ?_
 refine FL.call rfl rfl rfl (E.call Tryz.call98 (A2 rfl rfl)) (zep S29.sl a1 a0) ?_
 rintro e w30 ⟨rfl,r31⟩
 refine ⟨_,rfl,?_⟩
 have S32:=S29.call r31
 obtain ⟨v33,w34,run35,S36,els37⟩:=S32.ints (P:=Tryz.prog) te34 (up wa.heap.size Ha) 2 [(PF.zaO (PF.zaA a0) (PF.zaA a1)),(PF.zaO a1 a0)]
 refine FL.v (E.buildSlice (B2 rfl rfl) run35) ?_
 obtain ⟨H38,S39,i40,h41,nv42⟩:=S36.sealRowU (i:=0) (l':=[]) rfl els37 (by decide) rfl
 obtain ⟨r43,hr44,hp⟩:=bnd hp
 refine FL.call rfl rfl rfl (E.call Tryz.call97 (A1 rfl)) (w_cmp_Or_int S39.sl v33 [(PF.zaO (PF.zaA a0) (PF.zaA a1)),(PF.zaO a1 a0)] (h41.mono upI) hr44) ?_
 rintro e w45 ⟨rfl,r46⟩
 refine ⟨_,rfl,?_⟩
 have r46:=Run.lend i40 S36.sl r46
 have S47:=S36.call r46
 refine FL.v (E.assign (v:=Value.int .i64 r43) rfl) ?_
 refine FL.nil ?_
 refine FW.ret ?_
 obtain rfl:=Option.some.inj hp
 exact ⟨.inr rfl,res1 rfl rfl ⟨rfl,S47.back⟩⟩

theorem zeq {Ha:GH} {wa:World} (hs:Sl Ha wa) (v0:Value) (a0:List Int) (p0:RSl Ha eI 1 v0 a0) (v1:Value) (a1:List Int) (p1:RSl Ha eI 1 v1 a1) {r:Int} (hp:(PF.zaQ a0 a1)=some r) :
  Calls Tryz.prog 59 #[v0,v1] wa (Sc Ha wa (Value.int .i64 r)):=by
 unfold PF.zaQ at hp
 have S0:=St.init hs
 refine zae (N:=15) (args:=[v0,v1]) Tryz.func59 rfl rfl rfl ?_
 refine FW.seq (FW.region ?_)
 refine FL.v (E.assign (v:=Value.int .i64 0) rfl) ?_
 refine FL.nil (FW.seq (FW.region ?_))
 refine FL.v (E.move (v:=v0) rfl) ?_
 refine FL.v (E.lenP te34 rfl p0) ?_
 refine FL.v (E.move (v:=v1) rfl) ?_
 refine FL.v (E.lenP te34 rfl p1) ?_
 refine FL.call rfl rfl rfl (E.call Tryz.call98 (A2 rfl rfl)) (zep S0.sl (len a0) (len a1)) ?_
 rintro e w21 ⟨rfl,r22⟩
 refine ⟨_,rfl,?_⟩
 have S23:=S0.call r22
 refine FL.v (E.move (v:=v0) rfl) ?_
 refine FL.v (E.move (v:=v1) rfl) ?_
 obtain ⟨r24,hr25,hp⟩:=bnd hp
 refine FL.call rfl rfl rfl (E.call Tryz.call99 (A3 rfl rfl rfl)) (zft S23.sl v0 a0 p0 v1 a1 p1 (Value.func (.func 100) #[] #[]) (fun x0 x1=>PF.zbK x0 x1) (fun H2 w2 hi2 hs2 x0 x1 r hr=>⟨100,#[],rfl,Tryz.call100,zfu hs2 x0 x1  hr⟩) hr25) ?_
 rintro e w26 ⟨rfl,r27⟩
 refine ⟨_,rfl,?_⟩
 have S28:=S23.call r27
 obtain ⟨v29,w30,run31,S32,els33⟩:=S28.ints (P:=Tryz.prog) te34 (up wa.heap.size Ha) 2 [(PF.zaO (len a0) (len a1)),r24]
 refine FL.v (E.buildSlice (B2 rfl rfl) run31) ?_
 obtain ⟨H34,S35,i36,h37,nv38⟩:=S32.sealRowU (i:=0) (l':=[]) rfl els33 (by decide) rfl
 obtain ⟨r39,hr40,hp⟩:=bnd hp
 refine FL.call rfl rfl rfl (E.call Tryz.call97 (A1 rfl)) (w_cmp_Or_int S35.sl v29 [(PF.zaO (len a0) (len a1)),r24] (h37.mono upI) hr40) ?_
 rintro e w41 ⟨rfl,r42⟩
 refine ⟨_,rfl,?_⟩
 have r42:=Run.lend i36 S32.sl r42
 have S43:=S32.call r42
 refine FL.v (E.assign (v:=Value.int .i64 r39) rfl) ?_
 refine FL.nil ?_
 refine FW.ret ?_
 obtain rfl:=Option.some.inj hp
 exact ⟨.inr rfl,res1 rfl rfl ⟨rfl,S43.back⟩⟩

def AC (H:GH) (J:GH→World→Prop):Ending→World→Prop:=fun e w'=>e=.returned (.tuple #[])∧∃ H',Inc H H'∧J H' w'
set_option maxHeartbeats 2000000 in
theorem w_allC {σ:Type} {J:σ→GH→World→Prop} {step:List Int→σ→Option σ} {g:Nat} {cb:Array Value} (hsl:∀ {s H w},J s H w→Sl H w) (hrun:∀ {s H w H' w'},J s H w→Run w.heap.size H w H' w'→J s H' w')
    (hg:∀ args w,(callFunc g args).run Tryz.prog w=.ok (.enter g args) w)
    (hdo:∀ {s H w},J s H w→∀ v c,RSl H eI 1 v c→∀ s',step c s=some s'→Calls Tryz.prog g (#[v]++cb) w (AC H (J s'))) :
    ∀ (n:Nat) (V u:Int) (c:List Int) (v:Value) (s s':σ) (H:GH) (w:World),1≤u→u + n=V + 1→V≤1000→c.length + n≤1000000→J s H w→RSl H eI 1 v c→foldO step (c::visL n u c) s=some s' →
      Calls Tryz.prog 55 #[.int .i64 V,.int .i64 u,v,.func (.func g) #[] cb] w (AC H (J s')):=by
  intro n
  induction n using Nat.strongRecOn with
  | ind n ih =>
  intro V u c v s s' H w hu hn hV hcl hJ hc hp
  have hclone:PF.zbu c=some c:=by
    unfold PF.zbu app
    rw [if_pos (by unfold lim;simp;omega),zaa,List.nil_append]
  have happ:∀ x:Int,app c [x]=some (c++[x]):=fun x=>by unfold app;rw [if_pos (by unfold lim;simp;omega)]
  refine zae (N:=39) (args:=[.int .i64 V,.int .i64 u,v,.func (.func g) #[] cb]) Tryz.func55 rfl rfl rfl ?_
  refine FW.seq (FW.region ?_)
  refine FL.v (E.move (v:=.func (.func g) #[] cb) rfl) ?_
  refine FL.v (E.move (v:=v) rfl) ?_
  obtain ⟨s1,h1,hp⟩:=foldO_cons hp
  refine FL.call rfl rfl rfl (E.callV hg rfl (appA (A1 rfl) cb)) (hdo hJ v c hc s1 h1) ?_
  rintro e w1 ⟨rfl,H1,i1,J1⟩
  refine ⟨_,rfl,?_⟩
  refine FL.nil (FW.seq (FW.region ?_))
  refine FL.v (E.move (v:=.int .i64 u) rfl) ?_
  refine FL.v (E.assign (v:=.int .i64 u) rfl) ?_
  refine FL.nil ?_
  refine FW.block ?_
  refine FW.loopG (fun m f w=>∃ (u':Int) (t:σ) (H2:GH),m≤n∧1≤u'∧u' + m=V + 1∧J t H2 w∧Inc H H2∧foldO step (visL m u' c) t=some s'∧f 0=.int .i64 V∧f 2=v∧f 3=.func (.func g) #[] cb∧f 8=.int .i64 u') ?_ (m:=n) ⟨u,s1,H1,Nat.le_refl _,hu,hn,J1,i1,hp,rfl,rfl,rfl,rfl⟩
  clear hp h1
  rintro m f2 w2 ⟨u',t,H2,hm,hu',hn',J2,i2,hp,k0,k2,k3,k8⟩
  refine FW.seq (FW.seq (FW.region ?_))
  refine FL.v (E.move k8) ?_
  refine FL.v (E.move k0) ?_
  refine FL.v (E.leq rfl rfl) ?_
  refine FL.nil ?_
  cases m with
  | zero =>
    refine FW.condF rfl (by rw [decide_eq_false_iff_not];omega) ?_
    refine FW.exit ?_
    cases hp
    exact ⟨.inl rfl,res0 (R:=AC H (J s')) rfl ⟨rfl,H2,i2,J2⟩⟩
  | succ m =>
    refine FW.condT rfl (by rw [decide_eq_true_eq];omega) ?_
    refine FW.skip (FW.seq (FW.block (FW.seq (FW.region ?_))))
    obtain ⟨t1,hp1,hp⟩:=foldO_app hp
    obtain ⟨t2,hp2,hp⟩:=foldO_app hp
    have w1':wr (u' + 1)=u' + 1:=wr_of _ (by omega) (by omega)
    have w2':wr (-u')=-u':=wr_of _ (by omega) (by omega)
    -- the literal
    have S:=St.init (hsl J2)
    refine FL.v (E.move k0) ?_
    refine FL.v (E.move k8) ?_
    refine FL.v (E.add rfl rfl) ?_
    refine FL.v (E.move k2) ?_
    refine FL.call rfl rfl rfl (E.call Tryz.call54 (A1 rfl)) (zdW S.sl v c (hc.mono i2) hclone) ?_
    rintro e w3 ⟨H3,v3,n3,c3,rfl,r3,els3⟩
    refine ⟨_,rfl,?_⟩
    have els3:=els3.mono (up_le S.size)
    have S3:=S.join (l':=[.row 3 1 v3 n3 c3]) r3 rfl
    refine FL.v (E.move k8) ?_
    obtain ⟨v4,w4,run4,S4⟩:=S3.buildSlice (P:=Tryz.prog) te34 [.int .i64 u'] (parts:=#[(0,.int .i64 u')]) (cells:=[.int .i64 u']) rfl (zat rfl zao) (zas rfl zan) (zac rfl zad) (Nat.le_of_ble_eq_true rfl)
    have els4:Els (up w2.heap.size H3) eI 1 [.int .i64 u'] [u']:=(Els.snoc (H:=(up w2.heap.size H3)) (E:=eI) (k:=1) (c:=[.int .i64 u']) (x:=u') Els.nil rfl rfl)
    refine FL.v (E.buildSlice (B1 rfl) run4) ?_
    obtain ⟨v5,w5,n5,c5,run5,S5,els5,_⟩:=S4.appendO (P:=Tryz.prog) te34 (i:=1) (j:=0) rfl els3 rfl els4 (happ u')
    have S5:St H2 w2 H3 w5 [.row 3 1 v4 1 [.int .i64 u'],.row 3 1 v5 n5 c5]:=S5
    have S5:St H2 w2 H3 w5 [.row 3 1 v5 n5 c5]:=S5.drop 0
    refine FL.v (E.append rfl rfl run5) ?_
    refine FL.v (E.move k3) ?_
    obtain ⟨H6,S6,i6,h6⟩:=S5.sealRow (i:=0) (l':=[]) rfl (els5.mono upI) (by decide) rfl
    refine FL.call rfl rfl rfl (E.call Tryz.call55 (A4 rfl rfl rfl rfl)) (ih m (by omega) V (wr (u' + 1)) (c++[u']) v5 t t1 H6 w5 (by omega) (by omega) hV (by simp;omega) (hrun J2 S6.run) h6 (by rw [w1'];exact hp1)) ?_
    rintro e w7 ⟨rfl,H7,i7,J7⟩
    refine ⟨_,rfl,?_⟩
    refine FL.nil (FW.region ?_)
    -- its negation
    have R:=St.init (hsl J7)
    refine FL.v (E.move k0) ?_
    refine FL.v (E.move k8) ?_
    refine FL.v (E.add rfl rfl) ?_
    refine FL.v (E.move k2) ?_
    have hi7:Inc H2 H7:=(S6.inc).tr i7
    refine FL.call rfl rfl rfl (E.call Tryz.call54 (A1 rfl)) (zdW R.sl v c (hc.mono (i2.tr hi7)) hclone) ?_
    rintro e w8 ⟨H8,v8,n8,c8,rfl,r8,els8⟩
    refine ⟨_,rfl,?_⟩
    have els8:=els8.mono (up_le R.size)
    have R8:=R.join (l':=[.row 3 1 v8 n8 c8]) r8 rfl
    refine FL.v (E.move k8) ?_
    refine FL.v (E.neg rfl) ?_
    obtain ⟨v9,w9,run9,R9⟩:=R8.buildSlice (P:=Tryz.prog) te34 [.int .i64 (wr (-u'))] (parts:=#[(0,.int .i64 (wr (-u')))]) (cells:=[.int .i64 (wr (-u'))]) rfl (zat rfl zao) (zas rfl zan) (zac rfl zad) (Nat.le_of_ble_eq_true rfl)
    have els9:Els (up w7.heap.size H8) eI 1 [.int .i64 (wr (-u'))] [wr (-u')]:=(Els.snoc (H:=(up w7.heap.size H8)) (E:=eI) (k:=1) (c:=[.int .i64 (wr (-u'))]) (x:=wr (-u')) Els.nil rfl rfl)
    refine FL.v (E.buildSlice (B1 rfl) run9) ?_
    obtain ⟨v10,w10,n10,c10,run10,R10,els10,_⟩:=R9.appendO (P:=Tryz.prog) te34 (i:=1) (j:=0) rfl els8 rfl els9 (happ _)
    have R10:St H7 w7 H8 w10 [.row 3 1 v9 1 [.int .i64 (wr (-u'))],.row 3 1 v10 n10 c10]:=R10
    have R10:St H7 w7 H8 w10 [.row 3 1 v10 n10 c10]:=R10.drop 0
    refine FL.v (E.append rfl rfl run10) ?_
    refine FL.v (E.move k3) ?_
    obtain ⟨H11,R11,i11,h11⟩:=R10.sealRow (i:=0) (l':=[]) rfl (els10.mono upI) (by decide) rfl
    rw [w2'] at h11
    refine FL.call rfl rfl rfl (E.call Tryz.call55 (A4 rfl rfl rfl rfl)) (ih m (by omega) V (wr (u' + 1)) (c++[-u']) v10 t1 t2 H11 w10 (by omega) (by omega) hV (by simp;omega) (hrun J7 R11.run) h11 (by rw [w1'];exact hp2)) ?_
    rintro e w12 ⟨rfl,H12,i12,J12⟩
    refine ⟨_,rfl,?_⟩
    refine FL.nil (FW.region ?_)
    refine FL.v (E.move k8) ?_
    refine FL.v (E.add rfl rfl) ?_
    refine FL.v (E.assign (v:=.int .i64 (wr (u' + 1))) rfl) ?_
    refine FL.nil ?_
    exact ⟨m,Nat.lt_succ_self _,u' + 1,t2,H12,by omega,by omega,by omega,J12,(i2.tr hi7).tr ((R11.inc).tr i12),hp,k0,k2,k3,congrArg (Value.int .i64) w1'⟩
theorem hoc_b {n:Int} (h:(bif (decide (n < 0)) then true else (decide (1000 < n)))=false):0≤n∧n≤1000:=by
  by_cases h0:n < 0
  · rw [decide_eq_true h0] at h;cases h
  · rw [decide_eq_false h0] at h;have:=of_decide_eq_false h;omega

@[reducible] def p_impl_allowedAll (Ha:GH) (wa:World) (r:(List (List Int))):Ending→World→Prop :=
 fun e w'=>∃ H':GH,∃ v0:Value,∃ n0:Nat,∃ c0:List Value,e=.returned (v0)∧St Ha wa H' w' [.row 34 1 v0 n0 c0]∧Els H' (eL eI 1) 1 c0 r
set_option maxHeartbeats 4000000 in
theorem zeX {Ha:GH} {wa:World} (hs:Sl Ha wa) (a0:Cnf) (v0_1:Value) (p0_1:RSl Ha (eL eI 1) 1 v0_1 a0.clauses) (a1:Int) {r:(List (List Int))} (hp:(PF.zbL a0 a1)=some r) :
  Calls Tryz.prog 31 #[Value.agg #[Value.int .i64 a0.vars,v0_1],Value.int .i64 a1] wa (p_impl_allowedAll Ha wa r):=by
 unfold PF.zbL at hp
 have S0:=St.init hs
 refine zae (N:=13) (args:=[Value.agg #[Value.int .i64 a0.vars,v0_1],Value.int .i64 a1]) Tryz.func31 rfl rfl rfl ?_
 refine FW.seq (FW.region ?_)
 obtain ⟨b21,w22,run23,S24⟩:=S0.box (P:=Tryz.prog) 26 [Value.int .i64 a0.vars,v0_1] (v:=Value.agg #[Value.int .i64 a0.vars,v0_1]) rfl (zac rfl (zac p0_1.one zad))
 refine FL.v (E.box rfl run23) ?_
 obtain ⟨H25,S26,i27,at28⟩:=S24.sealBox (i:=0) (l':=[]) rfl rfl
 obtain ⟨b29,w30,run31,S32⟩:=S26.box (P:=Tryz.prog) 3 [Value.int .i64 a1] (v:=Value.int .i64 a1) rfl (zac rfl zad)
 refine FL.v (E.box rfl run31) ?_
 obtain ⟨H33,S34,i35,at36⟩:=S32.sealBox (i:=0) (l':=[]) rfl rfl
 refine FL.v (E.assign (v:=Value.slice none 0 0) rfl) ?_
 refine FL.nil (FW.seq (FW.region ?_))
 have S41:=S34.nil 34 1
 have els42:Els (up wa.heap.size H33) (eL eI 1) 1 [] []:=Els.nil
 obtain ⟨b37,w38,run39,S40⟩:=S41.alloc (P:=Tryz.prog) 24 [Value.slice none 0 0] Tryz.zeroValue24 rfl (zac rfl zad)
 refine FL.v (E.alloc run39) ?_
 refine FL.nil (FW.seq (FW.region ?_))
 refine FL.v (E.fieldAddr zaC rfl) ?_
 refine FL.v (E.load rfl (zah Tryz.isAgg3 ((at28.mono i35).now S40.sl) rfl)) ?_
 rcases ifB hp with ⟨cv,hp⟩|⟨cv,hp⟩
 · cases hp
 have hv0:=hoc_b cv
 refine FL.v (E.makeFunc A0 (A3 rfl rfl rfl)) ?_
 obtain ⟨s44,hqF,hp⟩:=bnd hp
 have hcb:∀ {s44:(List (List Int))} {HAV:GH} {wAY:World},(fun (s44:(List (List Int))) (H:GH) (w:World)=>∃ v99:Value,∃ nA0:Nat,∃ csA1:List Value,St Ha wa H w [.box b37 24 [v99],.row 34 1 v99 nA0 csA1]∧Inc H33 H∧Els H (eL eI 1) 1 csA1 s44) s44 HAV wAY→∀ (vBc:Value) (y43:List Int),RSl HAV eI 1 vBc y43→∀ sBD,PF.zb0 a0 a1 y43 s44=some sBD→Calls Tryz.prog 56 (#[vBc]++#[Value.pointer (some ⟨b21,0,none⟩),Value.pointer (some ⟨b29,0,none⟩),Value.pointer (some (⟨b37,0,none⟩:Addr))]) wAY (AC HAV ((fun (s44:(List (List Int))) (H:GH) (w:World)=>∃ v99:Value,∃ nA0:Nat,∃ csA1:List Value,St Ha wa H w [.box b37 24 [v99],.row 34 1 v99 nA0 csA1]∧Inc H33 H∧Els H (eL eI 1) 1 csA1 s44) sBD)):=by
   rintro s44 HAV wAY ⟨v99,nA0,csA1,SAW,iAX,elsA2⟩ vBc y43 hBd sBD hqBD
   unfold PF.zb0 at hqBD
   have hp:=True.intro
   obtain ⟨R201,hRBD⟩:∃ R201:(List (List Int))→Ending→World→Prop,R201=(fun sBD e w=>∃ H:GH,∃ vBE:Value,∃ nBF:Nat,∃ csBG:List Value,e=Ending.returned (Value.tuple #[])∧St Ha wa H w [.box b37 24 [vBE],.row 34 1 vBE nBF csBG]∧Inc HAV H∧Els H (eL eI 1) 1 csBG sBD):=⟨_,rfl⟩
   have hcBD:Calls Tryz.prog 56 #[vBc,Value.pointer (some ⟨b21,0,none⟩),Value.pointer (some ⟨b29,0,none⟩),Value.pointer (some (⟨b37,0,none⟩:Addr))] wAY (R201 sBD):=by
    clear hp;have hp:=hqBD;clear hqBD
    refine zae (N:=13) (args:=[vBc,Value.pointer (some ⟨b21,0,none⟩),Value.pointer (some ⟨b29,0,none⟩),Value.pointer (some (⟨b37,0,none⟩:Addr))]) Tryz.func56 rfl rfl rfl ?_
    refine FW.seq (FW.region ?_)
    refine FL.v (E.load rfl (zai Tryz.isAgg26 Tryz.sizeOf26 ((at28.mono (i35.tr iAX)).now SAW.sl) rfl)) ?_
    refine FL.v (E.load rfl (zaf Tryz.isAgg3 ((at36.mono iAX).now SAW.sl) rfl)) ?_
    refine FL.v (E.move (v:=vBc) rfl) ?_
    obtain ⟨rBI,hrBJ,hp⟩:=bnd hp
    refine FL.call rfl rfl rfl (E.call Tryz.call57 (A3 rfl rfl rfl)) (zeU SAW.sl a0 v0_1 (p0_1.mono ((i27.tr i35).tr iAX)) a1 vBc y43 hBd hrBJ) ?_
    rintro e wBK ⟨rfl,rBL⟩
    refine ⟨_,rfl,?_⟩
    have SBM:=SAW.call rBL
    refine FL.nil ?_
    rcases ifB hp with ⟨cBN,hp⟩|⟨cBN,hp⟩
    ·
     refine FW.condT rfl cBN ?_
     refine FW.region ?_
     refine FL.v (E.load rfl (zaf Tryz.isAgg24 (SBM.box_now (i:=0) rfl) rfl)) ?_
     refine FL.v (E.move (v:=vBc) rfl) ?_
     obtain ⟨vBO,wBP,runBQ,SBR⟩:=SBM.buildSlice (P:=Tryz.prog) te24 [vBc] (parts:=#[(0,vBc)]) (cells:=[vBc]) rfl (zat (zaH hBd.cells) zao) (zas hBd.cells zan) (zac hBd.one zad) (Nat.le_of_ble_eq_true rfl)
     have elsBS:Els HAV (eL eI 1) 1 [vBc] [y43]:=(Els.snoc (H:=HAV) (E:=(eL eI 1)) (k:=1) (c:=[vBc]) (x:=y43) Els.nil rfl ⟨_,rfl,hBd⟩)
     refine FL.v (E.buildSlice (B1 rfl) runBQ) ?_
     obtain ⟨xsBT,hzBU,hp⟩:=bnd hp
     obtain ⟨vBV,wBY,nBW,csBX,runBZ,SC0,elsC1,ceC2⟩:=SBR.appendO (P:=Tryz.prog) te24 (i:=2) (j:=0) rfl elsA2 rfl elsBS hzBU
     have SC0:St Ha wa HAV wBY [.row 34 1 vBO 1 [vBc],.box b37 24 [v99],.row 34 1 vBV nBW csBX]:=SC0
     have SC3:St Ha wa HAV wBY [.box b37 24 [v99],.row 34 1 vBV nBW csBX]:=SC0.drop 0
     refine FL.v (E.append rfl rfl runBZ) ?_
     obtain ⟨wC4,runC5,SC6⟩:=SC3.store0 (P:=Tryz.prog) (t:=24) (i:=0) (cs':=[vBV]) (l':=[.box b37 24 [vBV],.row 34 1 vBV nBW csBX]) (v:=vBV) (c:=[vBV]) rfl Tryz.sizeOf24 (Ln.cells (SC3.row_ln (i:=1) rfl)) rfl (zac (Ln.one (SC3.row_ln (i:=1) rfl)) zad) (Nat.le_of_ble_eq_true rfl) rfl rfl
     refine FL.act rfl rfl (E.store rfl rfl runC5) ?_
     refine FL.nil ?_
     obtain rfl:=Option.some.inj hp
     exact ⟨.inl rfl,res0 rfl (by rw [hRBD];exact ⟨_,_,_,_,rfl,SC6,(Inc.rfl _),elsC1⟩)⟩
    ·
     refine FW.condF rfl cBN ?_
     refine FW.skip ?_
     obtain rfl:=Option.some.inj hp
     exact ⟨.inl rfl,res0 rfl (by rw [hRBD];exact ⟨_,_,_,_,rfl,SBM,(Inc.rfl _),elsA2⟩)⟩
   refine hcBD.mono ?_
   rintro e w hQ
   rw [hRBD] at hQ
   obtain ⟨H,u0,u1,u2,rfl,q0,q1,q2⟩:=hQ
   exact ⟨rfl,H,q1,u0,u1,u2,q0,(iAX.tr q1),q2⟩
 refine FL.call rfl rfl rfl (E.call Tryz.call55 (A4 rfl rfl rfl rfl)) (w_allC (J:=(fun (s44:(List (List Int))) (H:GH) (w:World)=>∃ v99:Value,∃ nA0:Nat,∃ csA1:List Value,St Ha wa H w [.box b37 24 [v99],.row 34 1 v99 nA0 csA1]∧Inc H33 H∧Els H (eL eI 1) 1 csA1 s44)) (step:=PF.zb0 a0 a1) (g:=56) (cb:=#[Value.pointer (some ⟨b21,0,none⟩),Value.pointer (some ⟨b29,0,none⟩),Value.pointer (some (⟨b37,0,none⟩:Addr))]) (fun h=>let ⟨v99,nA0,csA1,g0,g1,g2⟩:=h;g0.sl) (fun h r=>let ⟨v99,nA0,csA1,g0,g1,g2⟩:=h;⟨v99,nA0,csA1,g0.call r,g1.tr r.inc,g2.mono r.inc⟩) Tryz.call56 hcb a0.vars.toNat a0.vars 1 [] (.slice none 0 0) _ s44 H33 _ (by omega) (by omega) (by omega) (by simp;omega) ⟨_,_,_,S40,(Inc.rfl _),(els42.mono upI)⟩ (RSl.nil _ _ _) hqF) ?_
 rintro e wCg ⟨rfl,HCd,_,v99,nA0,csA1,SCe,iCf,elsA2⟩
 refine ⟨_,rfl,?_⟩
 refine FL.nil (FW.seq (FW.region ?_))
 refine FL.v (E.load rfl (zaf Tryz.isAgg24 (SCe.box_now (i:=0) rfl) rfl)) ?_
 obtain ⟨rCj,hrCk,hp⟩:=bnd hp
 have SCl:St Ha wa HCd wCg [.row 34 1 v99 nA0 csA1,.box b37 24 [v99]]:=SCe.front 1 rfl rfl
 refine FL.call rfl rfl rfl (E.call Tryz.call58 (A2 rfl rfl)) (zeV (L:=[.box b37 24 [v99]]) SCl s44 elsA2 (Value.func (.func 59) #[] #[]) (fun x0 x1=>PF.zaQ x0 x1) (fun H2 w2 hi2 hs2 x0 y0 z0 x1 y1 z1 r hr=>⟨59,#[],rfl,Tryz.call59,zeq hs2 y0 x0 z0 y1 x1 z1  hr⟩) hrCk) ?_
 rintro e wCn ⟨HCm,csCq,rfl,⟨SCo,iCp⟩,elsCr⟩
 refine ⟨_,rfl,?_⟩
 have SCo:St Ha wa HCm wCn [.row 34 1 v99 nA0 csCq,.box b37 24 [v99]]:=SCo
 refine FL.nil (FW.seq (FW.region ?_))
 refine FL.v (E.load rfl (zaf Tryz.isAgg24 (SCo.box_now (i:=1) rfl) rfl)) ?_
 refine FL.v (E.assign (v:=v99) rfl) ?_
 refine FL.nil ?_
 refine FW.ret ?_
 obtain rfl:=Option.some.inj hp
 exact ⟨.inr rfl,res1 rfl rfl ⟨_,_,_,_,rfl,(SCo.sel [0] (by decide) rfl),elsCr⟩⟩

theorem zdD {Ha:GH} {wa:World} (hs:Sl Ha wa) (a0:Int) {r:Int} (hp:(PF.zbq a0)=some r) :
  Calls Tryz.prog 83 #[Value.int .i64 a0] wa (Sc Ha wa (Value.int .i64 r)):=by
 unfold PF.zbq at hp
 have S0:=St.init hs
 refine zae (N:=11) (args:=[Value.int .i64 a0]) Tryz.func83 rfl rfl rfl ?_
 refine FW.seq (FW.region ?_)
 refine FL.v (E.assign (v:=Value.int .i64 0) rfl) ?_
 refine FL.nil (FW.seq (FW.region ?_))
 refine FL.v (E.assign (v:=Value.int .i64 1) rfl) ?_
 refine FL.nil (FW.seq (FW.seq (FW.region ?_)))
 refine FL.v (E.move (v:=Value.int .i64 a0) rfl) ?_
 refine FL.v (E.move (v:=Value.int .i64 0) rfl) ?_
 refine FL.nil ?_
 obtain ⟨m21,hchk22,hp⟩:=bnd hp
 obtain ⟨q22,hq,hp⟩:=bndR hp
 refine FW.block ?_
 refine FW.mono (FW.forR (S:=Int) (X:=Empty) (fun (i22:Nat) (s22:Int) f w=>∃ H:GH,St Ha wa H w []∧Inc Ha H∧f 5=Value.int .i64 ((i22:Nat):Int)∧f 3=Value.int .i64 s22∧f 4=Value.int .i64 a0) (fun (q:Rs Int Empty) e f w=>match q with|.go s22=>e=Exit.exit 0∧(∃ H:GH,St Ha wa H w []∧Inc Ha H∧f 3=Value.int .i64 s22)|.rt x=>x.elim) hq ⟨_,S0,(Inc.rfl _),rfl,rfl,rfl⟩ ?_ ?_) ?_
 ·
  clear hp hq
  rintro i22 s22 f35 w34 ⟨H31,S32,i33,k36,k37,k38⟩ hi22 hj22 o39 hp
  refine FW.seq (FW.region ?_)
  refine FL.v (E.lssT k36 k38 (lss_chk hj22 hchk22)) ?_
  refine FL.nil (FW.seq ?_)
  refine FW.condT rfl rfl ?_
  refine FW.skip (FW.seq (FW.block (FW.region ?_)))
  refine FL.v (E.move k37) ?_
  refine FL.v (E.mul rfl rfl) ?_
  refine FL.v (E.assign (v:=Value.int .i64 (wr (s22 * 3))) rfl) ?_
  refine FL.nil (FW.region ?_)
  refine FL.v (E.add k36 rfl) ?_
  refine FL.v (E.move (v:=Value.int .i64 (wr (((i22:Nat):Int) + 1))) rfl) ?_
  refine FL.nil ?_
  obtain rfl:=Option.some.inj hp
  exact ⟨rfl,⟨_,S32,i33,(zap rfl hj22 (chk_le hchk22)),rfl,k38⟩⟩
 ·
  clear hp hq
  rintro s22 f50 w49 ⟨H46,S47,i48,k51,k52,k53⟩
  refine FW.seq (FW.region ?_)
  refine FL.v (E.lss k51 k53) ?_
  refine FL.nil (FW.seq ?_)
  refine FW.condF rfl (zc1 hchk22) ?_
  refine FW.exit ?_
  exact ⟨nofun,rfl,⟨_,S47,i48,k52⟩⟩
 ·
  clear hq
  intro e f44 w43 hD
  rcases q22 with s22|x22
  ·
   obtain ⟨rfl,hD⟩:=hD
   obtain ⟨H40,S41,i42,k45⟩:=hD
   replace hp:=el_go hp
   refine FW.seq (FW.region ?_)
   refine FL.v (E.move k45) ?_
   refine FL.v (E.assign (v:=Value.int .i64 s22) rfl) ?_
   refine FL.nil ?_
   refine FW.ret ?_
   obtain rfl:=Option.some.inj hp
   exact ⟨.inr rfl,res1 rfl rfl ⟨rfl,S41.back⟩⟩
  ·
   exact x22.elim

set_option maxHeartbeats 4000000 in
theorem zcp {Ha:GH} {wa:World} (hs:Sl Ha wa) (v0:Value) (a0:List Int) (p0:RSl Ha eI 1 v0 a0) {r:Int} (hp:(PF.za0 a0)=some r) :
  Calls Tryz.prog 45 #[v0] wa (Sc Ha wa (Value.int .i64 r)):=by
 unfold PF.za0 at hp
 have S0:=St.init hs
 refine zae (N:=28) (args:=[v0]) Tryz.func45 rfl rfl rfl ?_
 refine FW.seq (FW.region ?_)
 refine FL.v (E.assign (v:=Value.int .i64 0) rfl) ?_
 refine FL.nil (FW.seq (FW.region ?_))
 refine FL.v (E.assign (v:=Value.int .i64 0) rfl) ?_
 refine FL.nil (FW.seq (FW.seq (FW.region ?_)))
 refine FL.v (E.move (v:=v0) rfl) ?_
 refine FL.v (E.lenP te34 rfl p0) ?_
 refine FL.v (E.move (v:=Value.int .i64 0) rfl) ?_
 refine FL.nil ?_
 obtain ⟨q22,hq,hp⟩:=bndR hp
 refine FW.block ?_
 refine FW.mono (FW.forL (S:=Int) (X:=Empty) (fun (i22:Nat) (s22:Int) f w=>∃ H:GH,St Ha wa H w []∧Inc Ha H∧f 8=Value.int .i64 ((i22:Nat):Int)∧f 3=Value.int .i64 s22∧f 6=v0∧f 7=Value.int .i64 (len a0)) (fun (q:Rs Int Empty) e f w=>match q with|.go s22=>e=Exit.exit 0∧(∃ H:GH,St Ha wa H w []∧Inc Ha H∧f 3=Value.int .i64 s22)|.rt x=>x.elim) hq ⟨_,S0,(Inc.rfl _),rfl,rfl,rfl,rfl⟩ ?_ ?_) ?_
 ·
  clear hp hq
  rintro i22 y21 s22 f53 w52 ⟨H49,S50,i51,k54,k55,k56,k57⟩ hx22 o75 hp
  refine FW.seq (FW.region ?_)
  refine FL.v (E.lssT k54 k57 (zaw hx22)) ?_
  refine FL.nil (FW.seq ?_)
  refine FW.condT rfl rfl ?_
  refine FW.skip (FW.seq (FW.block (FW.seq (FW.region ?_))))
  obtain ⟨p58,cs59,pt60,l61,at62,rel63⟩:=p0.at (zal hx22)
  obtain rfl:=zam rel63
  refine FL.v (E.indexAddr te34 k56 k54 pt60) ?_
  refine FL.v (E.load rfl (zaf Tryz.isAgg3 ((at62.mono i51).now S50.sl) rfl)) ?_
  refine FL.v (E.assign (v:=Value.int .i64 y21) rfl) ?_
  refine FL.nil (FW.seq (FW.region ?_))
  refine FL.v (E.move (v:=Value.int .i64 y21) rfl) ?_
  refine FL.v (E.gtr rfl rfl) ?_
  refine FL.nil ?_
  rcases ifB hp with ⟨c64,hp⟩|⟨c64,hp⟩
  ·
   refine FW.condT rfl c64 ?_
   refine FW.region ?_
   refine FL.v (E.move k55) ?_
   refine FL.v (E.move (v:=Value.int .i64 y21) rfl) ?_
   refine FL.v (E.sub rfl rfl) ?_
   obtain ⟨r65,hr66,hp⟩:=bnd hp
   refine FL.call rfl rfl rfl (E.call Tryz.call83 (A1 rfl)) (zdD S50.sl (wr (y21 - 1)) hr66) ?_
   rintro e w67 ⟨rfl,r68⟩
   refine ⟨_,rfl,?_⟩
   have S69:=S50.call r68
   refine FL.v (E.mul rfl rfl) ?_
   refine FL.v (E.add rfl rfl) ?_
   refine FL.v (E.assign (v:=Value.int .i64 (wr (s22 + (wr (2 * r65))))) rfl) ?_
   refine FL.nil (FW.region ?_)
   refine FL.v (E.add k54 rfl) ?_
   refine FL.v (E.move (v:=Value.int .i64 (wr (((i22:Nat):Int) + 1))) rfl) ?_
   refine FL.nil ?_
   obtain rfl:=Option.some.inj hp
   exact ⟨rfl,⟨_,S69,i51,(zap rfl (zaq hx22) (p0.mono i51).le),rfl,k56,k57⟩⟩
  ·
   refine FW.condF rfl c64 ?_
   refine FW.region ?_
   refine FL.v (E.move k55) ?_
   refine FL.v (E.move (v:=Value.int .i64 y21) rfl) ?_
   refine FL.v (E.neg rfl) ?_
   refine FL.v (E.sub rfl rfl) ?_
   obtain ⟨r70,hr71,hp⟩:=bnd hp
   refine FL.call rfl rfl rfl (E.call Tryz.call83 (A1 rfl)) (zdD S50.sl (wr ((wr (-y21)) - 1)) hr71) ?_
   rintro e w72 ⟨rfl,r73⟩
   refine ⟨_,rfl,?_⟩
   have S74:=S50.call r73
   refine FL.v (E.add rfl rfl) ?_
   refine FL.v (E.assign (v:=Value.int .i64 (wr (s22 + r70))) rfl) ?_
   refine FL.nil (FW.region ?_)
   refine FL.v (E.add k54 rfl) ?_
   refine FL.v (E.move (v:=Value.int .i64 (wr (((i22:Nat):Int) + 1))) rfl) ?_
   refine FL.nil ?_
   obtain rfl:=Option.some.inj hp
   exact ⟨rfl,⟨_,S74,i51,(zap rfl (zaq hx22) (p0.mono i51).le),rfl,k56,k57⟩⟩
 ·
  clear hp hq
  rintro s22 f86 w85 ⟨H82,S83,i84,k87,k88,k89,k90⟩
  refine FW.seq (FW.region ?_)
  refine FL.v (E.lss k87 k90) ?_
  refine FL.nil (FW.seq ?_)
  refine FW.condF rfl zax ?_
  refine FW.exit ?_
  exact ⟨nofun,rfl,⟨_,S83,i84,k88⟩⟩
 ·
  clear hq
  intro e f80 w79 hD
  rcases q22 with s22|x22
  ·
   obtain ⟨rfl,hD⟩:=hD
   obtain ⟨H76,S77,i78,k81⟩:=hD
   replace hp:=el_go hp
   refine FW.seq (FW.region ?_)
   refine FL.v (E.move k81) ?_
   refine FL.v (E.assign (v:=Value.int .i64 s22) rfl) ?_
   refine FL.nil ?_
   refine FW.ret ?_
   obtain rfl:=Option.some.inj hp
   exact ⟨.inr rfl,res1 rfl rfl ⟨rfl,S77.back⟩⟩
  ·
   exact x22.elim

@[reducible] def p_impl_marks (Ha:GH) (wa:World) (r:(List Bool)):Ending→World→Prop :=
 fun e w'=>∃ H':GH,∃ v0:Value,∃ n0:Nat,∃ c0:List Value,e=.returned (v0)∧St Ha wa H' w' [.row 4 1 v0 n0 c0]∧Els (up wa.heap.size H') eB 1 c0 r
set_option maxHeartbeats 4000000 in
theorem w_impl_marks {Ha:GH} {wa:World} (hs:Sl Ha wa) (a0:Cnf) (v0_1:Value) (p0_1:RSl Ha (eL eI 1) 1 v0_1 a0.clauses) (v1:Value) (a1:List (List Int)) (p1:RSl Ha (eL eI 1) 1 v1 a1) {r:(List Bool)} (hp:(PF.zcG a0 a1)=some r) :
  Calls Tryz.prog 44 #[Value.agg #[Value.int .i64 a0.vars,v0_1],v1] wa (p_impl_marks Ha wa r):=by
 unfold PF.zcG at hp
 have S0:=St.init hs
 refine zae (N:=24) (args:=[Value.agg #[Value.int .i64 a0.vars,v0_1],v1]) Tryz.func44 rfl rfl rfl ?_
 refine FW.seq (FW.region ?_)
 obtain ⟨b21,w22,run23,S24⟩:=S0.box (P:=Tryz.prog) 26 [Value.int .i64 a0.vars,v0_1] (v:=Value.agg #[Value.int .i64 a0.vars,v0_1]) rfl (zac rfl (zac p0_1.one zad))
 refine FL.v (E.box rfl run23) ?_
 obtain ⟨H25,S26,i27,at28⟩:=S24.sealBox (i:=0) (l':=[]) rfl rfl
 refine FL.v (E.assign (v:=Value.slice none 0 0) rfl) ?_
 refine FL.nil (FW.seq (FW.region ?_))
 refine FL.v (E.fieldAddr zaC rfl) ?_
 refine FL.v (E.load rfl (zah Tryz.isAgg3 (at28.now S26.sl) rfl)) ?_
 obtain ⟨r29,hr30,hp⟩:=bnd hp
 refine FL.call rfl rfl rfl (E.call Tryz.call83 (A1 rfl)) (zdD S26.sl a0.vars hr30) ?_
 rintro e w31 ⟨rfl,r32⟩
 refine ⟨_,rfl,?_⟩
 have S33:=S26.call r32
 obtain ⟨xs34,hm35,hp⟩:=bnd hp
 obtain ⟨v36,w37,n41,cs42,run38,S39,els40,hbl43⟩:=S33.makeEls (P:=Tryz.prog) te52 (G:=(up wa.heap.size H25)) (En:=eB) (x0:=(false:Bool)) hm35 rfl (zac rfl zad) .i64 .i64
 refine FL.v (E.makeSlice rfl rfl run38) ?_
 refine FL.v (E.assign (v:=v36) rfl) ?_
 refine FL.nil (FW.seq (FW.seq (FW.region ?_)))
 refine FL.v (E.move (v:=v1) rfl) ?_
 refine FL.v (E.lenP te24 rfl p1) ?_
 refine FL.v (E.move (v:=Value.int .i64 0) rfl) ?_
 refine FL.nil ?_
 obtain ⟨q45,hq,hp⟩:=bndR hp
 refine FW.block ?_
 refine FW.mono (FW.forL (S:=(List Bool)) (X:=Empty) (fun (i45:Nat) (s45:(List Bool)) f w=>∃ H:GH,∃ v84:Value,∃ n85:Nat,∃ cs86:List Value,St Ha wa H w [.row 4 1 v84 n85 cs86]∧Inc H25 H∧Els (up wa.heap.size H) eB 1 cs86 s45∧f 14=Value.int .i64 ((i45:Nat):Int)∧f 5=v84∧f 12=v1∧f 13=Value.int .i64 (len a1)) (fun (q:Rs (List Bool) Empty) e f w=>match q with|.go s45=>e=Exit.exit 0∧(∃ H:GH,∃ v84:Value,∃ n85:Nat,∃ cs86:List Value,St Ha wa H w [.row 4 1 v84 n85 cs86]∧Inc H25 H∧Els (up wa.heap.size H) eB 1 cs86 s45∧f 5=v84)|.rt x=>x.elim) hq ⟨_,_,_,_,S39,(Inc.rfl _),els40,rfl,rfl,rfl,rfl⟩ ?_ ?_) ?_
 ·
  clear hp hq
  rintro i45 y44 s45 fAu wAt ⟨HAq,v84,n85,cs86,SAr,iAs,els87,kAv,kAw,kAx,kAy⟩ hx45 oB2 hp
  refine FW.seq (FW.region ?_)
  refine FL.v (E.lssT kAv kAy (zaw hx45)) ?_
  refine FL.nil (FW.seq ?_)
  refine FW.condT rfl rfl ?_
  refine FW.skip (FW.seq (FW.block (FW.seq (FW.region ?_))))
  obtain ⟨pAz,csAA,ptAB,lAC,atAD,relAE⟩:=p1.at (zal hx45)
  obtain ⟨vAF,rfl,hAG⟩:=zav relAE
  refine FL.v (E.indexAddr te24 kAx kAv ptAB) ?_
  refine FL.v (E.load rfl (zaf Tryz.isAgg34 ((atAD.mono (i27.tr iAs)).now SAr.sl) rfl)) ?_
  refine FL.v (E.assign (v:=vAF) rfl) ?_
  refine FL.nil (FW.region ?_)
  refine FL.v (E.move kAw) ?_
  refine FL.v (E.move (v:=vAF) rfl) ?_
  obtain ⟨rAH,hrAI,hp⟩:=bnd hp
  refine FL.call rfl rfl rfl (E.call Tryz.call45 (A1 rfl)) (zcp SAr.sl vAF y44 (hAG.mono (i27.tr iAs)) hrAI) ?_
  rintro e wAJ ⟨rfl,rAK⟩
  refine ⟨_,rfl,?_⟩
  have SAL:=SAr.call rAK
  obtain ⟨xAS,hxAT,hp⟩:=bnd hp
  obtain ⟨pAM,csAN,ptAO,lAP,atAQ,relAR⟩:=SAL.row_at (i:=0) rfl els87 (by decide) hxAT
  obtain rfl:=zbQ relAR
  refine FL.v (E.indexAddr te52 rfl rfl ptAO) ?_
  obtain ⟨xsAX,hputAY,hp⟩:=bnd hp
  obtain ⟨wAU,csB0,runAV,SAW,elsAZ,ceB1⟩:=SAL.putEls (P:=Tryz.prog) (t:=4) (i:=0) rfl els87 hputAY ptAO Tryz.sizeOf4 (u:=Value.bool true) (c:=[Value.bool true]) rfl rfl (zac rfl zad) rfl
  have SAW:St Ha wa HAq wAU [.row 4 1 v84 n85 csB0]:=SAW
  refine FL.act rfl rfl (E.store rfl rfl runAV) ?_
  refine FL.nil (FW.region ?_)
  refine FL.v (E.add kAv rfl) ?_
  refine FL.v (E.move (v:=Value.int .i64 (wr (((i45:Nat):Int) + 1))) rfl) ?_
  refine FL.nil ?_
  obtain rfl:=Option.some.inj hp
  exact ⟨rfl,⟨_,_,_,_,SAW,iAs,elsAZ,(zap rfl (zaq hx45) (p1.mono (i27.tr iAs)).le),kAw,kAx,kAy⟩⟩
 ·
  clear hp hq
  rintro s45 fBd wBc ⟨HB9,v84,n85,cs86,SBa,iBb,els87,kBe,kBf,kBg,kBh⟩
  refine FW.seq (FW.region ?_)
  refine FL.v (E.lss kBe kBh) ?_
  refine FL.nil (FW.seq ?_)
  refine FW.condF rfl zax ?_
  refine FW.exit ?_
  exact ⟨nofun,rfl,⟨_,_,_,_,SBa,iBb,els87,kBf⟩⟩
 ·
  clear hq
  intro e fB7 wB6 hD
  rcases q45 with s45|x45
  ·
   obtain ⟨rfl,hD⟩:=hD
   obtain ⟨HB3,v84,n85,cs86,SB4,iB5,els87,kB8⟩:=hD
   replace hp:=el_go hp
   refine FW.seq (FW.region ?_)
   refine FL.v (E.move kB8) ?_
   refine FL.v (E.assign (v:=v84) rfl) ?_
   refine FL.nil ?_
   refine FW.ret ?_
   obtain rfl:=Option.some.inj hp
   exact ⟨.inr rfl,res1 rfl rfl ⟨_,_,_,_,rfl,SB4,els87⟩⟩
  ·
   exact x45.elim

@[reducible] def zfv (H0:GH) (w0:World) (Ha:GH) (L:List MO) (r:(List Int)):Ending→World→Prop :=
 fun e w'=>∃ H':GH,∃ v0r:Value,∃ n0r:Nat,∃ c0r:List Value,e=.returned (v0r)∧(St H0 w0 H' w' (.row 3 1 v0r n0r c0r::L)∧Inc Ha H')∧Els (up w0.heap.size H') eI 1 c0r r
theorem zfw {H0 Ha:GH} {w0 wa:World} {L:List MO} {v0:Value} {n0:Nat} {k0:List Value} (S0:St H0 w0 Ha wa (.row 3 1 v0 n0 k0::L)) (a0:List Int) (p0:Els (up w0.heap.size Ha) eI 1 k0 a0) (a1:Int) (a2:Int) {r:(List Int)} (hp:(PF.zek a0 a1 a2)=some r) :
  Calls Tryz.prog 117 #[v0,Value.int .i64 a1,Value.int .i64 a2] wa (zfv H0 w0 Ha L r):=by
 refine (St.deleteF (l:=.row 3 1 v0 n0 k0::L) (i:=0) S0 rfl p0 ⟨_,rfl⟩ hp (fun blk off cap i j d w hH hc hm hij hj=>AnyE.slices_Delete Tryz.del117 (fun x:OC=>x.1) (fun x=>x.2) ⟨_,rfl⟩ (fun w=>Tryz.zeroValue3 w) Tryz.t3 Tryz.type3 rfl blk off cap i j d w hH hc hm hij hj)).mono ?_
 rintro e w' ⟨v',n',c',rfl,h1,h2⟩
 exact ⟨_,_,_,_,rfl,⟨h1,Inc.rfl _⟩,h2⟩

@[reducible] def p_impl_without_int (Ha:GH) (wa:World) (r:(List Int)):Ending→World→Prop :=
 fun e w'=>∃ H':GH,∃ v0:Value,∃ n0:Nat,∃ c0:List Value,e=.returned (v0)∧St Ha wa H' w' [.row 3 1 v0 n0 c0]∧Els (up wa.heap.size H') eI 1 c0 r
theorem w_impl_without_int {Ha:GH} {wa:World} (hs:Sl Ha wa) (v0:Value) (a0:List Int) (p0:RSl Ha eI 1 v0 a0) (a1:Int) {r:(List Int)} (hp:(PF.zdk a0 a1)=some r) :
  Calls Tryz.prog 84 #[v0,Value.int .i64 a1] wa (p_impl_without_int Ha wa r):=by
 unfold PF.zdk at hp
 have S0:=St.init hs
 refine zae (N:=11) (args:=[v0,Value.int .i64 a1]) Tryz.func84 rfl rfl rfl ?_
 refine FW.seq (FW.region ?_)
 refine FL.v (E.assign (v:=Value.slice none 0 0) rfl) ?_
 refine FL.nil (FW.seq (FW.region ?_))
 refine FL.v (E.move (v:=v0) rfl) ?_
 obtain ⟨r21,hr22,hp⟩:=bnd hp
 refine FL.call rfl rfl rfl (E.call Tryz.call54 (A1 rfl)) (zdW S0.sl v0 a0 p0 hr22) ?_
 rintro e w24 ⟨H23,v27,n28,cs29,rfl,r26,els30⟩
 refine ⟨_,rfl,?_⟩
 have els30:=els30.mono (up_le S0.size)
 have S25:=S0.join (l':=[.row 3 1 v27 n28 cs29]) r26 rfl
 refine FL.v (E.move (v:=Value.int .i64 a1) rfl) ?_
 refine FL.v (E.move (v:=Value.int .i64 a1) rfl) ?_
 refine FL.v (E.add rfl rfl) ?_
 obtain ⟨r31,hr32,hp⟩:=bnd hp
 refine FL.call rfl rfl rfl (E.call Tryz.call117 (A3 rfl rfl rfl)) (zfw (L:=[]) S25 r21 els30 a1 (wr (a1 + 1)) hr32) ?_
 rintro e w34 ⟨H33,v37,n38,cs39,rfl,⟨S35,i36⟩,els40⟩
 refine ⟨_,rfl,?_⟩
 have S35:St Ha wa H33 w34 [.row 3 1 v37 n38 cs39]:=S35
 refine FL.v (E.assign (v:=v37) rfl) ?_
 refine FL.nil ?_
 refine FW.ret ?_
 obtain rfl:=Option.some.inj hp
 exact ⟨.inr rfl,res1 rfl rfl ⟨_,_,_,_,rfl,S35,els40⟩⟩

@[reducible] def p_impl_upTo (Ha:GH) (wa:World) (r:(List Int)):Ending→World→Prop :=
 fun e w'=>∃ H':GH,∃ v0:Value,∃ n0:Nat,∃ c0:List Value,e=.returned (v0)∧St Ha wa H' w' [.row 3 1 v0 n0 c0]∧Els (up wa.heap.size H') eI 1 c0 r
theorem w_impl_upTo {Ha:GH} {wa:World} (hs:Sl Ha wa) (a0:Int) {r:(List Int)} (hp:(PF.zcH a0)=some r) :
  Calls Tryz.prog 119 #[Value.int .i64 a0] wa (p_impl_upTo Ha wa r):=by
 unfold PF.zcH at hp
 have S0:=St.init hs
 refine zae (N:=15) (args:=[Value.int .i64 a0]) Tryz.func119 rfl rfl rfl ?_
 refine FW.seq (FW.region ?_)
 refine FL.v (E.assign (v:=Value.slice none 0 0) rfl) ?_
 refine FL.nil (FW.seq (FW.region ?_))
 refine FL.v (E.assign (v:=Value.slice none 0 0) rfl) ?_
 refine FL.nil (FW.seq (FW.seq (FW.region ?_)))
 refine FL.v (E.assign (v:=Value.int .i64 1) rfl) ?_
 refine FL.nil ?_
 obtain ⟨q22,hq,hp⟩:=bndR hp
 refine FW.block ?_
 refine FW.mono (FW.iter (S:=((List Int)×Int)) (X:=Empty) (fun (s22:((List Int)×Int)) f w=>∃ H:GH,∃ v23:Value,∃ n24:Nat,∃ cs25:List Value,St Ha wa H w [.row 3 1 v23 n24 cs25]∧Inc Ha H∧Els (up wa.heap.size H) eI 1 cs25 s22.1∧f 0=Value.int .i64 a0∧f 3=v23∧f 4=Value.int .i64 s22.2) (fun (q:Rs ((List Int)×Int) Empty) e f w=>match q with|.go s22=>e=Exit.exit 0∧(∃ H:GH,∃ v23:Value,∃ n24:Nat,∃ cs25:List Value,St Ha wa H w [.row 3 1 v23 n24 cs25]∧Inc Ha H∧Els (up wa.heap.size H) eI 1 cs25 s22.1∧f 3=v23)|.rt x=>x.elim) hq ⟨_,_,_,_,(S0.nil 3 1),(Inc.rfl _),Els.nil,rfl,rfl,rfl⟩ ?_) ?_
 ·
  clear hp hq
  rintro s22 f56 w55 ⟨H52,v23,n24,cs25,S53,i54,els26,k57,k58,k59⟩ o77 hp
  refine FW.seq (FW.seq (FW.region ?_))
  refine FL.v (E.move k59) ?_
  refine FL.v (E.move k57) ?_
  refine FL.v (E.leq rfl rfl) ?_
  refine FL.nil ?_
  rcases ifB hp with ⟨c60,hp⟩|⟨c60,hp⟩
  ·
   refine FW.condT rfl c60 ?_
   refine FW.skip (FW.seq (FW.block (FW.region ?_)))
   refine FL.v (E.move k58) ?_
   refine FL.v (E.move k59) ?_
   obtain ⟨v61,w62,run63,S64,els65⟩:=S53.ints (P:=Tryz.prog) te34 (up wa.heap.size H52) 1 [s22.2]
   refine FL.v (E.buildSlice (B1 rfl) run63) ?_
   obtain ⟨xs66,hz67,hp⟩:=bnd hp
   obtain ⟨v68,w71,n69,cs70,run72,S73,els74,ce75⟩:=S64.appendO (P:=Tryz.prog) te34 (i:=1) (j:=0) rfl els26 rfl els65 hz67
   have S73:St Ha wa H52 w71 [.row 3 1 v61 1 (iC [s22.2]),.row 3 1 v68 n69 cs70]:=S73
   have S76:St Ha wa H52 w71 [.row 3 1 v68 n69 cs70]:=S73.drop 0
   refine FL.v (E.append rfl rfl run72) ?_
   refine FL.v (E.assign (v:=v68) rfl) ?_
   refine FL.nil (FW.region ?_)
   refine FL.v (E.move k59) ?_
   refine FL.v (E.add rfl rfl) ?_
   refine FL.v (E.assign (v:=Value.int .i64 (wr (s22.2 + 1))) rfl) ?_
   refine FL.nil ?_
   obtain rfl:=Option.some.inj hp
   exact ⟨rfl,⟨_,_,_,_,S76,i54,els74,k57,rfl,rfl⟩⟩
  ·
   refine FW.condF rfl c60 ?_
   refine FW.exit ?_
   obtain rfl:=Option.some.inj hp
   exact ⟨nofun,rfl,⟨_,_,_,_,S53,i54,els26,k58⟩⟩
 ·
  clear hq
  intro e f82 w81 hD
  rcases q22 with s22|x22
  ·
   obtain ⟨rfl,hD⟩:=hD
   obtain ⟨H78,v23,n24,cs25,S79,i80,els26,k83⟩:=hD
   replace hp:=el_go hp
   refine FW.seq (FW.region ?_)
   refine FL.v (E.move k83) ?_
   refine FL.v (E.assign (v:=v23) rfl) ?_
   refine FL.nil ?_
   refine FW.ret ?_
   obtain rfl:=Option.some.inj hp
   exact ⟨.inr rfl,res1 rfl rfl ⟨_,_,_,_,rfl,S79,els26⟩⟩
  ·
   exact x22.elim

theorem zfx {Ha:GH} {wa:World} (hs:Sl Ha wa) (v0:Value) (a0:List Int) (p0:RSl Ha eI 1 v0 a0) (v1:Value) (a1:Int→Option Bool) (p1:zdB Tryz.prog Ha v1 a1) {r:Int} (hp:(PF.zdl a0 a1)=some r) :
  Calls Tryz.prog 138 #[v0,v1] wa (Sc Ha wa (Value.int .i64 r)):=by
 unfold PF.zdl at hp
 have S0:=St.init hs
 refine zae (N:=19) (args:=[v0,v1]) Tryz.func138 rfl rfl rfl ?_
 refine FW.seq (FW.region ?_)
 refine FL.v (E.assign (v:=Value.int .i64 0) rfl) ?_
 refine FL.nil (FW.seq (FW.seq (FW.region ?_)))
 refine FL.v (E.move (v:=v0) rfl) ?_
 refine FL.v (E.lenP te34 rfl p0) ?_
 refine FL.v (E.move (v:=Value.int .i64 0) rfl) ?_
 refine FL.nil ?_
 obtain ⟨q22,hq,hp⟩:=bndR hp
 refine FW.block ?_
 refine FW.mono (FW.forL (S:=Unit) (X:=Int) (fun (i22:Nat) (s22:Unit) f w=>∃ H:GH,St Ha wa H w []∧Inc Ha H∧f 8=Value.int .i64 ((i22:Nat):Int)∧f 0=v0∧f 1=v1∧f 7=Value.int .i64 (len a0)) (fun q e f w=>match q with|.go s22=>e=Exit.exit 0∧(∃ H:GH,St Ha wa H w []∧Inc Ha H)|.rt x=>((e=Exit.ret)∧(fun e f w=>(e=Exit.normal∨e=Exit.ret)∧∀ a,Fr (δ:=[]) 19 a f→∃ v,(results Tryz.f138 a.tmps).run Tryz.prog w=.ok v w∧(Sc Ha wa (Value.int .i64 x)) (.returned v) w) e f w)) hq ⟨_,S0,(Inc.rfl _),rfl,rfl,rfl,rfl⟩ ?_ ?_) ?_
 ·
  clear hp hq
  rintro i22 y21 s22 f53 w52 ⟨H49,S50,i51,k54,k55,k56,k57⟩ hx22 o75 hp
  refine FW.seq (FW.region ?_)
  refine FL.v (E.lssT k54 k57 (zaw hx22)) ?_
  refine FL.nil (FW.seq ?_)
  refine FW.condT rfl rfl ?_
  refine FW.skip (FW.seq (FW.block (FW.seq (FW.region ?_))))
  refine FL.v (E.move k54) ?_
  refine FL.v (E.assign (v:=Value.int .i64 ((i22:Nat):Int)) rfl) ?_
  refine FL.nil (FW.seq (FW.region ?_))
  refine FL.v (E.move k56) ?_
  refine FL.v (E.move k55) ?_
  refine FL.v (E.move (v:=Value.int .i64 ((i22:Nat):Int)) rfl) ?_
  obtain ⟨p58,cs59,pt60,l61,at62,rel63⟩:=p0.at (zal hx22)
  obtain rfl:=zam rel63
  refine FL.v (E.indexAddr te34 rfl rfl pt60) ?_
  refine FL.v (E.load rfl (zaf Tryz.isAgg3 ((at62.mono i51).now S50.sl) rfl)) ?_
  obtain ⟨r64,hr65,hp⟩:=bnd hp
  obtain ⟨fi69,cs70,hv71,he72,hc73⟩:=(p1.mono i51) H49 w52 (Inc.rfl _) S50.sl y21 r64 hr65
  refine FL.call rfl rfl rfl (E.callV he72 (Eq.trans rfl hv71) (appA (A1 rfl) cs70)) hc73 ?_
  rintro e w66 ⟨rfl,r67⟩
  refine ⟨_,rfl,?_⟩
  have S68:=S50.call r67
  refine FL.nil ?_
  rcases ifB hp with ⟨c74,hp⟩|⟨c74,hp⟩
  ·
   refine FW.condT rfl c74 ?_
   refine FW.seq (FW.region ?_)
   refine FL.v (E.move (v:=Value.int .i64 ((i22:Nat):Int)) rfl) ?_
   refine FL.v (E.assign (v:=Value.int .i64 ((i22:Nat):Int)) rfl) ?_
   refine FL.nil ?_
   refine FW.ret ?_
   obtain rfl:=Option.some.inj hp
   exact ⟨nofun,rfl,⟨.inr rfl,res1 rfl rfl ⟨rfl,S68.back⟩⟩⟩
  ·
   refine FW.condF rfl c74 ?_
   refine FW.skip (FW.region ?_)
   refine FL.v (E.add k54 rfl) ?_
   refine FL.v (E.move (v:=Value.int .i64 (wr (((i22:Nat):Int) + 1))) rfl) ?_
   refine FL.nil ?_
   obtain rfl:=Option.some.inj hp
   exact ⟨rfl,⟨_,S68,i51,(zap rfl (zaq hx22) (p0.mono i51).le),k55,k56,k57⟩⟩
 ·
  clear hp hq
  rintro s22 f85 w84 ⟨H81,S82,i83,k86,k87,k88,k89⟩
  refine FW.seq (FW.region ?_)
  refine FL.v (E.lss k86 k89) ?_
  refine FL.nil (FW.seq ?_)
  refine FW.condF rfl zax ?_
  refine FW.exit ?_
  exact ⟨nofun,rfl,⟨_,S82,i83⟩⟩
 ·
  clear hq
  intro e f80 w79 hD
  rcases q22 with s22|x22
  ·
   obtain ⟨rfl,hD⟩:=hD
   obtain ⟨H76,S77,i78⟩:=hD
   replace hp:=el_go hp
   refine FW.seq (FW.region ?_)
   refine FL.v (E.assign (v:=Value.int .i64 (-1)) rfl) ?_
   refine FL.nil ?_
   refine FW.ret ?_
   obtain rfl:=Option.some.inj hp
   exact ⟨.inr rfl,res1 rfl rfl ⟨rfl,S77.back⟩⟩
  ·
   obtain ⟨he,hL⟩:=hD
   replace hp:=el_rt hp
   obtain rfl:=Option.some.inj hp
   subst he
   exact hL

@[reducible] def zfy (H0:GH) (w0:World) (Ha:GH) (L:List MO) (r:(List Int)):Ending→World→Prop :=
 fun e w'=>∃ H':GH,∃ v0r:Value,∃ n0r:Nat,∃ c0r:List Value,e=.returned (v0r)∧(St H0 w0 H' w' (.row 3 1 v0r n0r c0r::L)∧Inc Ha H')∧Els (up w0.heap.size H') eI 1 c0r r
set_option maxHeartbeats 4000000 in
theorem zfz {H0 Ha:GH} {w0 wa:World} {L:List MO} {v0:Value} {n0:Nat} {k0:List Value} (S0:St H0 w0 Ha wa (.row 3 1 v0 n0 k0::L)) (a0:List Int) (p0:Els (up w0.heap.size Ha) eI 1 k0 a0) (v1:Value) (a1:Int→Option Bool) (p1:zdB Tryz.prog Ha v1 a1) {r:(List Int)} (hp:(PF.zdm a0 a1)=some r) :
  Calls Tryz.prog 118 #[v0,v1] wa (zfy H0 w0 Ha L r):=by
 unfold PF.zdm at hp
 refine zae (N:=42) (args:=[v0,v1]) Tryz.func118 rfl rfl rfl ?_
 refine FW.seq (FW.region ?_)
 refine FL.v (E.assign (v:=Value.slice none 0 0) rfl) ?_
 refine FL.nil (FW.seq (FW.region ?_))
 refine FL.v (E.move (v:=v0) rfl) ?_
 refine FL.v (E.move (v:=v1) rfl) ?_
 obtain ⟨H21,S22,i23,h24,nv25⟩:=S0.sealRowU (i:=0) (l':=L) rfl p0 (by decide) rfl
 obtain ⟨r26,hr27,hp⟩:=bnd hp
 refine FL.call rfl rfl rfl (E.call Tryz.call138 (A2 rfl rfl)) (zfx S22.sl v0 a0 (h24.mono upI) v1 a1 (p1.mono i23) hr27) ?_
 rintro e w28 ⟨rfl,r29⟩
 refine ⟨_,rfl,?_⟩
 have r29:=Run.lend i23 S0.sl r29
 have S30:=S0.call r29
 refine FL.v (E.assign (v:=Value.int .i64 r26) rfl) ?_
 refine FL.nil (FW.seq (FW.seq (FW.region ?_)))
 refine FL.v (E.move (v:=Value.int .i64 r26) rfl) ?_
 refine FL.v (E.eql rfl rfl) ?_
 refine FL.nil ?_
 rcases ifB hp with ⟨c31,hp⟩|⟨c31,hp⟩
 ·
  refine FW.condT rfl c31 ?_
  refine FW.seq (FW.region ?_)
  refine FL.v (E.move (v:=v0) rfl) ?_
  refine FL.v (E.assign (v:=v0) rfl) ?_
  refine FL.nil ?_
  refine FW.ret ?_
  obtain rfl:=Option.some.inj hp
  exact ⟨.inr rfl,res1 rfl rfl ⟨_,_,_,_,rfl,⟨S30,(Inc.rfl _)⟩,p0⟩⟩
 ·
  refine FW.condF rfl c31 ?_
  refine FW.skip (FW.seq (FW.seq (FW.region ?_)))
  refine FL.v (E.move (v:=Value.int .i64 r26) rfl) ?_
  refine FL.v (E.add rfl rfl) ?_
  refine FL.v (E.assign (v:=Value.int .i64 (wr (r26 + 1))) rfl) ?_
  refine FL.nil ?_
  obtain ⟨q32,hq,hp⟩:=bndR hp
  refine FW.block ?_
  refine FW.mono (FW.iter (S:=((List Int)×Int×Int)) (X:=Empty) (fun (s32:((List Int)×Int×Int)) f w=>∃ H:GH,∃ cs78:List Value,St H0 w0 H w (.row 3 1 v0 n0 cs78::L)∧Inc Ha H∧Els (up w0.heap.size H) eI 1 cs78 s32.1∧f 0=v0∧f 1=v1∧f 5=Value.int .i64 s32.2.1∧f 6=Value.int .i64 s32.2.2) (fun (q:Rs ((List Int)×Int×Int) Empty) e f w=>match q with|.go s32=>e=Exit.exit 0∧(∃ H:GH,∃ cs78:List Value,St H0 w0 H w (.row 3 1 v0 n0 cs78::L)∧Inc Ha H∧Els (up w0.heap.size H) eI 1 cs78 s32.1∧f 0=v0∧f 5=Value.int .i64 s32.2.1)|.rt x=>x.elim) hq ⟨_,_,S30,(Inc.rfl _),p0,rfl,rfl,rfl,rfl⟩ ?_) ?_
  ·
   clear hp hq
   rintro s32 fAt wAs ⟨HAp,cs78,SAq,iAr,els79,kAu,kAv,kAw,kAx⟩ oB8 hp
   refine FW.seq (FW.seq (FW.region ?_))
   refine FL.v (E.move kAx) ?_
   refine FL.v (E.move kAu) ?_
   refine FL.v (E.lenO te34 rfl SAq (i:=0) rfl els79 (by decide)) ?_
   refine FL.v (E.lss rfl rfl) ?_
   refine FL.nil ?_
   rcases ifB hp with ⟨cAy,hp⟩|⟨cAy,hp⟩
   ·
    refine FW.condT rfl cAy ?_
    refine FW.skip (FW.seq (FW.block (FW.seq (FW.region ?_))))
    refine FL.v (E.move kAu) ?_
    refine FL.v (E.move kAx) ?_
    obtain ⟨xAF,hxAG,hp⟩:=bnd hp
    obtain ⟨pAz,csAA,ptAB,lAC,atAD,relAE⟩:=SAq.row_at (i:=0) rfl els79 (by decide) hxAG
    obtain rfl:=zam relAE
    refine FL.v (E.indexAddr te34 rfl rfl ptAB) ?_
    refine FL.v (E.load rfl (zaf Tryz.isAgg3 atAD rfl)) ?_
    refine FL.v (E.assign (v:=Value.int .i64 xAF) rfl) ?_
    refine FL.nil (FW.seq (FW.region ?_))
    refine FL.v (E.move kAv) ?_
    refine FL.v (E.move (v:=Value.int .i64 xAF) rfl) ?_
    obtain ⟨rAH,hrAI,hp⟩:=bnd hp
    obtain ⟨fi148,csAN,hv150,he151,hcAQ⟩:=(p1.mono iAr) HAp wAs (Inc.rfl _) SAq.sl xAF rAH hrAI
    refine FL.call rfl rfl rfl (E.callV he151 (Eq.trans rfl hv150) (appA (A1 rfl) csAN)) hcAQ ?_
    rintro e wAJ ⟨rfl,rAK⟩
    refine ⟨_,rfl,?_⟩
    have SAL:=SAq.call rAK
    refine FL.v (E.not rfl) ?_
    refine FL.nil ?_
    rcases ifB hp with ⟨cAR,hp⟩|⟨cAR,hp⟩
    ·
     refine FW.condT rfl cAR ?_
     refine FW.seq (FW.region ?_)
     refine FL.v (E.move kAu) ?_
     refine FL.v (E.move kAw) ?_
     refine FL.v (E.move (v:=Value.int .i64 xAF) rfl) ?_
     obtain ⟨xAY,hxAZ,hp⟩:=bnd hp
     obtain ⟨pAS,csAT,ptAU,lAV,atAW,relAX⟩:=SAL.row_at (i:=0) rfl els79 (by decide) hxAZ
     obtain rfl:=zam relAX
     refine FL.v (E.indexAddr te34 rfl rfl ptAU) ?_
     obtain ⟨xsB3,hputB4,hp⟩:=bnd hp
     obtain ⟨wB0,csB6,runB1,SB2,elsB5,ceB7⟩:=SAL.putEls (P:=Tryz.prog) (t:=3) (i:=0) rfl els79 hputB4 ptAU Tryz.sizeOf3 (u:=Value.int .i64 xAF) (c:=[Value.int .i64 xAF]) rfl rfl (zac rfl zad) rfl
     have SB2:St H0 w0 HAp wB0 (.row 3 1 v0 n0 csB6::L):=SB2
     refine FL.act rfl rfl (E.store rfl rfl runB1) ?_
     refine FL.nil (FW.region ?_)
     refine FL.v (E.move kAw) ?_
     refine FL.v (E.add rfl rfl) ?_
     refine FL.v (E.assign (v:=Value.int .i64 (wr (s32.2.1 + 1))) rfl) ?_
     refine FL.nil (FW.region ?_)
     refine FL.v (E.move kAx) ?_
     refine FL.v (E.add rfl rfl) ?_
     refine FL.v (E.assign (v:=Value.int .i64 (wr (s32.2.2 + 1))) rfl) ?_
     refine FL.nil ?_
     obtain rfl:=Option.some.inj hp
     exact ⟨rfl,⟨_,_,SB2,iAr,elsB5,kAu,kAv,rfl,rfl⟩⟩
    ·
     refine FW.condF rfl cAR ?_
     refine FW.skip (FW.region ?_)
     refine FL.v (E.move kAx) ?_
     refine FL.v (E.add rfl rfl) ?_
     refine FL.v (E.assign (v:=Value.int .i64 (wr (s32.2.2 + 1))) rfl) ?_
     refine FL.nil ?_
     obtain rfl:=Option.some.inj hp
     exact ⟨rfl,⟨_,_,SAL,iAr,els79,kAu,kAv,kAw,rfl⟩⟩
   ·
    refine FW.condF rfl cAy ?_
    refine FW.exit ?_
    obtain rfl:=Option.some.inj hp
    exact ⟨nofun,rfl,⟨_,_,SAq,iAr,els79,kAu,kAw⟩⟩
  ·
   clear hq
   intro e fBd wBc hD
   rcases q32 with s32|x32
   ·
    obtain ⟨rfl,hD⟩:=hD
    obtain ⟨HB9,cs78,SBa,iBb,els79,kBe,kBf⟩:=hD
    replace hp:=el_go hp
    refine FW.seq (FW.region ?_)
    refine FL.v (E.move kBe) ?_
    refine FL.v (E.move kBf) ?_
    obtain ⟨xsBg,hcBh,hp⟩:=bnd hp
    obtain ⟨vBi,runBj,hBk⟩:=SBa.tail te34 (kk:=.i64) (i:=0) rfl els79 hcBh
    refine FL.v (E.slice te34 rfl (congrArg some rfl) rfl rfl (runBj _)) ?_
    obtain ⟨wBl,csBm,runBn,SBo,elsBp⟩:=SBa.clearTail (P:=Tryz.prog) te34 (i:=0) rfl els79 hBk rfl (zac rfl zad)
    have SBo:St H0 w0 HB9 wBl (.row 3 1 v0 n0 csBm::L):=SBo
    refine FL.val0 rfl rfl (E.clear rfl runBn) ?_
    refine FL.nil (FW.seq (FW.region ?_))
    refine FL.v (E.move kBe) ?_
    refine FL.v (E.move kBf) ?_
    obtain ⟨xsBq,hcBr,hp⟩:=bnd hp
    obtain ⟨vBs,nBt,csBu,runBv,SBw,elsBx,ndBy⟩:=SBo.cutRow te34 (kk:=.i64) (i:=0) rfl elsBp hcBr
    have SBw:St H0 w0 HB9 wBl (.row 3 1 vBs nBt csBu::L):=SBw
    refine FL.v (E.slice te34 rfl rfl (congrArg some rfl) rfl (runBv _)) ?_
    refine FL.v (E.assign (v:=vBs) rfl) ?_
    refine FL.nil ?_
    refine FW.ret ?_
    obtain rfl:=Option.some.inj hp
    exact ⟨.inr rfl,res1 rfl rfl ⟨_,_,_,_,rfl,⟨SBw,iBb⟩,elsBx⟩⟩
   ·
    exact x32.elim

set_option maxHeartbeats 4000000 in
theorem w_impl_firstOpen {Ha:GH} {wa:World} (hs:Sl Ha wa) (v0:Value) (a0:List Int) (p0:RSl Ha eI 1 v0 a0) (v1:Value) (a1:List Int) (p1:RSl Ha eI 1 v1 a1) {r:Int} (hp:(PF.zdQ a0 a1)=some r) :
  Calls Tryz.prog 121 #[v0,v1] wa (Sc Ha wa (Value.int .i64 r)):=by
 unfold PF.zdQ at hp
 have S0:=St.init hs
 refine zae (N:=26) (args:=[v0,v1]) Tryz.func121 rfl rfl rfl ?_
 refine FW.seq (FW.region ?_)
 refine FL.v (E.assign (v:=Value.int .i64 0) rfl) ?_
 refine FL.nil (FW.seq (FW.seq (FW.region ?_)))
 refine FL.v (E.move (v:=v0) rfl) ?_
 refine FL.v (E.lenP te34 rfl p0) ?_
 refine FL.v (E.move (v:=Value.int .i64 0) rfl) ?_
 refine FL.nil ?_
 obtain ⟨q22,hq,hp⟩:=bndR hp
 refine FW.block ?_
 refine FW.mono (FW.forL (S:=Unit) (X:=Int) (fun (i22:Nat) (s22:Unit) f w=>∃ H:GH,St Ha wa H w []∧Inc Ha H∧f 9=Value.int .i64 ((i22:Nat):Int)∧f 1=v1∧f 7=v0∧f 8=Value.int .i64 (len a0)) (fun q e f w=>match q with|.go s22=>e=Exit.exit 0∧(∃ H:GH,St Ha wa H w []∧Inc Ha H)|.rt x=>((e=Exit.ret)∧(fun e f w=>(e=Exit.normal∨e=Exit.ret)∧∀ a,Fr (δ:=[]) 26 a f→∃ v,(results Tryz.f121 a.tmps).run Tryz.prog w=.ok v w∧(Sc Ha wa (Value.int .i64 x)) (.returned v) w) e f w)) hq ⟨_,S0,(Inc.rfl _),rfl,rfl,rfl,rfl⟩ ?_ ?_) ?_
 ·
  clear hp hq
  rintro i22 y21 s22 f71 w70 ⟨H67,S68,i69,k72,k73,k74,k75⟩ hx22 oAb hp
  refine FW.seq (FW.region ?_)
  refine FL.v (E.lssT k72 k75 (zaw hx22)) ?_
  refine FL.nil (FW.seq ?_)
  refine FW.condT rfl rfl ?_
  refine FW.skip (FW.seq (FW.block (FW.seq (FW.region ?_))))
  obtain ⟨p76,cs77,pt78,l79,at80,rel81⟩:=p0.at (zal hx22)
  obtain rfl:=zam rel81
  refine FL.v (E.indexAddr te34 k74 k72 pt78) ?_
  refine FL.v (E.load rfl (zaf Tryz.isAgg3 ((at80.mono i69).now S68.sl) rfl)) ?_
  refine FL.v (E.assign (v:=Value.int .i64 y21) rfl) ?_
  refine FL.nil (FW.seq (FW.region ?_))
  refine FL.v (E.move k73) ?_
  refine FL.v (E.move (v:=Value.int .i64 y21) rfl) ?_
  obtain ⟨r82,hr83,hp⟩:=bnd hp
  refine FL.call rfl rfl rfl (E.call Tryz.call71 (A2 rfl rfl)) (zd2 S68.sl v1 a1 (p1.mono i69) y21 hr83) ?_
  rintro e w84 ⟨rfl,r85⟩
  refine ⟨_,rfl,?_⟩
  have S86:=S68.call r85
  refine FL.v (E.not rfl) ?_
  refine FL.v (E.move (v:=Value.bool (!r82)) rfl) ?_
  obtain ⟨t92,hqt92,hp⟩:=bnd hp
  refine FL.cut 6 (fun f w=>∃ H:GH,St Ha wa H w []∧Inc H67 H∧f 1=v1∧f 6=Value.int .i64 y21∧f 7=v0∧f 8=Value.int .i64 (len a0)∧f 9=Value.int .i64 ((i22:Nat):Int)∧f 23=Value.bool t92) ?_ ?_
  ·
   clear hp;have hp:=hqt92;clear hqt92
   rcases ifB hp with ⟨c98,hp⟩|⟨c98,hp⟩
   ·
    refine FL.val (zab rfl rfl rfl c98) rfl rfl (E.move k73) ?_
    refine FL.val (zab rfl rfl rfl c98) rfl rfl (E.move (v:=Value.int .i64 y21) rfl) ?_
    refine FL.val (zab rfl rfl rfl c98) rfl rfl (E.neg rfl) ?_
    obtain ⟨r99,hrA0,hp⟩:=bnd hp
    refine FL.call (zab rfl rfl rfl c98) rfl rfl (E.call Tryz.call71 (A2 rfl rfl)) (zd2 S86.sl v1 a1 (p1.mono i69) (wr (-y21)) hrA0) ?_
    rintro e wA1 ⟨rfl,rA2⟩
    refine ⟨_,rfl,?_⟩
    have SA3:=S86.call rA2
    refine FL.val (zab rfl rfl rfl c98) rfl rfl (E.not rfl) ?_
    obtain rfl:=Option.some.inj hp
    refine FL.v (E.pickT rfl c98 rfl) ?_
    exact FL.nil ⟨rfl,_,SA3,(Inc.rfl _),k73,rfl,k74,k75,k72,rfl⟩
   ·
    refine FL.skip (wF_no rfl rfl rfl c98) rfl ?_
    refine FL.skip (wF_no rfl rfl rfl c98) rfl ?_
    refine FL.skip (wF_no rfl rfl rfl c98) rfl ?_
    refine FL.skip (wF_no rfl rfl rfl c98) rfl ?_
    refine FL.skip (wF_no rfl rfl rfl c98) rfl ?_
    obtain rfl:=Option.some.inj hp
    refine FL.v (E.pickF rfl c98 rfl) ?_
    exact FL.nil ⟨rfl,_,S86,(Inc.rfl _),k73,rfl,k74,k75,k72,rfl⟩
  rintro f97 w96 ⟨H93,S94,i95,kA4,kA5,kA6,kA7,kA8,kA9⟩
  refine FL.nil ?_
  rcases ifB hp with ⟨cAa,hp⟩|⟨cAa,hp⟩
  ·
   refine FW.condT kA9 cAa ?_
   refine FW.seq (FW.region ?_)
   refine FL.v (E.move kA5) ?_
   refine FL.v (E.assign (v:=Value.int .i64 y21) rfl) ?_
   refine FL.nil ?_
   refine FW.ret ?_
   obtain rfl:=Option.some.inj hp
   exact ⟨nofun,rfl,⟨.inr rfl,res1 rfl rfl ⟨rfl,S94.back⟩⟩⟩
  ·
   refine FW.condF kA9 cAa ?_
   refine FW.skip (FW.region ?_)
   refine FL.v (E.add kA8 rfl) ?_
   refine FL.v (E.move (v:=Value.int .i64 (wr (((i22:Nat):Int) + 1))) rfl) ?_
   refine FL.nil ?_
   obtain rfl:=Option.some.inj hp
   exact ⟨rfl,⟨_,S94,(i69.tr i95),(zap rfl (zaq hx22) (p0.mono (i69.tr i95)).le),kA4,kA6,kA7⟩⟩
 ·
  clear hp hq
  rintro s22 fAl wAk ⟨HAh,SAi,iAj,kAm,kAn,kAo,kAp⟩
  refine FW.seq (FW.region ?_)
  refine FL.v (E.lss kAm kAp) ?_
  refine FL.nil (FW.seq ?_)
  refine FW.condF rfl zax ?_
  refine FW.exit ?_
  exact ⟨nofun,rfl,⟨_,SAi,iAj⟩⟩
 ·
  clear hq
  intro e fAg wAf hD
  rcases q22 with s22|x22
  ·
   obtain ⟨rfl,hD⟩:=hD
   obtain ⟨HAc,SAd,iAe⟩:=hD
   replace hp:=el_go hp
   refine FW.seq (FW.region ?_)
   refine FL.v (E.assign (v:=Value.int .i64 0) rfl) ?_
   refine FL.nil ?_
   refine FW.ret ?_
   obtain rfl:=Option.some.inj hp
   exact ⟨.inr rfl,res1 rfl rfl ⟨rfl,SAd.back⟩⟩
  ·
   obtain ⟨he,hL⟩:=hD
   replace hp:=el_rt hp
   obtain rfl:=Option.some.inj hp
   subst he
   exact hL

theorem w_impl_openVars_1 {Ha:GH} {wa:World} (hs:Sl Ha wa) (a0:Int) (q0:Addr) (b0:List Int) (u0_0:Value) (g0_0:RSl Ha eI 1 u0_0 b0) (c0:CAt Ha q0 [u0_0]) {r:Bool} (hp:(PF.zcI a0 b0)=some r) :
  Calls Tryz.prog 120 #[Value.int .i64 a0,Value.pointer (some q0)] wa (Sc Ha wa (Value.bool r)):=by
 unfold PF.zcI at hp
 have S0:=St.init hs
 refine zae (N:=9) (args:=[Value.int .i64 a0,Value.pointer (some q0)]) Tryz.func120 rfl rfl rfl ?_
 refine FW.seq (FW.region ?_)
 refine FL.v (E.assign (v:=Value.bool false) rfl) ?_
 refine FL.nil (FW.seq (FW.region ?_))
 refine FL.v (E.move (v:=Value.int .i64 a0) rfl) ?_
 obtain ⟨v21,w22,run23,S24,els25⟩:=S0.ints (P:=Tryz.prog) te34 (up wa.heap.size Ha) 1 [a0]
 refine FL.v (E.buildSlice (B1 rfl) run23) ?_
 refine FL.v (E.load rfl (zaf Tryz.isAgg34 (c0.now S24.sl) rfl)) ?_
 obtain ⟨H26,S27,i28,h29,nv30⟩:=S24.sealRowU (i:=0) (l':=[]) rfl els25 (by decide) rfl
 obtain ⟨r31,hr32,hp⟩:=bnd hp
 refine FL.call rfl rfl rfl (E.call Tryz.call121 (A2 rfl rfl)) (w_impl_firstOpen S27.sl v21 [a0] (h29.mono upI) u0_0 b0 (g0_0.mono i28) hr32) ?_
 rintro e w33 ⟨rfl,r34⟩
 refine ⟨_,rfl,?_⟩
 have r34:=Run.lend i28 S24.sl r34
 have S35:=S24.call r34
 refine FL.v (E.eql rfl rfl) ?_
 refine FL.v (E.assign (v:=Value.bool (r31 == 0)) rfl) ?_
 refine FL.nil ?_
 refine FW.ret ?_
 obtain rfl:=Option.some.inj hp
 exact ⟨.inr rfl,res1 rfl rfl ⟨rfl,S35.back⟩⟩

@[reducible] def p_impl_openVars (Ha:GH) (wa:World) (r:(List Int)):Ending→World→Prop :=
 fun e w'=>∃ H':GH,∃ v0:Value,∃ n0:Nat,∃ c0:List Value,e=.returned (v0)∧St Ha wa H' w' [.row 3 1 v0 n0 c0]∧Els (up wa.heap.size H') eI 1 c0 r
theorem w_impl_openVars {Ha:GH} {wa:World} (hs:Sl Ha wa) (a0:Int) (v1:Value) (a1:List Int) (p1:RSl Ha eI 1 v1 a1) {r:(List Int)} (hp:(PF.zdn a0 a1)=some r) :
  Calls Tryz.prog 85 #[Value.int .i64 a0,v1] wa (p_impl_openVars Ha wa r):=by
 unfold PF.zdn at hp
 have S0:=St.init hs
 refine zae (N:=9) (args:=[Value.int .i64 a0,v1]) Tryz.func85 rfl rfl rfl ?_
 refine FW.seq (FW.region ?_)
 obtain ⟨b21,w22,run23,S24⟩:=S0.box (P:=Tryz.prog) 34 [v1] (v:=v1) p1.cells (zac p1.one zad)
 refine FL.v (E.box rfl run23) ?_
 obtain ⟨H25,S26,i27,at28⟩:=S24.sealBox (i:=0) (l':=[]) rfl rfl
 refine FL.v (E.assign (v:=Value.slice none 0 0) rfl) ?_
 refine FL.nil (FW.seq (FW.region ?_))
 refine FL.v (E.move (v:=Value.int .i64 a0) rfl) ?_
 obtain ⟨r29,hr30,hp⟩:=bnd hp
 refine FL.call rfl rfl rfl (E.call Tryz.call119 (A1 rfl)) (w_impl_upTo S26.sl a0 hr30) ?_
 rintro e w32 ⟨H31,v35,n36,cs37,rfl,r34,els38⟩
 refine ⟨_,rfl,?_⟩
 have els38:=els38.mono (up_le S26.size)
 have S33:=S26.join (l':=[.row 3 1 v35 n36 cs37]) r34 rfl
 refine FL.v (E.makeFunc A0 (A1 rfl)) ?_
 obtain ⟨r39,hr40,hp⟩:=bnd hp
 refine FL.call rfl rfl rfl (E.call Tryz.call118 (A2 rfl rfl)) (zfz (L:=[]) S33 r29 els38 (Value.func (.func 120) #[] #[Value.pointer (some ⟨b21,0,none⟩)]) (fun x0=>PF.zcI x0 a1) (fun H2 w2 hi2 hs2 x0 r hr=>⟨120,#[Value.pointer (some ⟨b21,0,none⟩)],rfl,Tryz.call120,w_impl_openVars_1 hs2 x0 ⟨b21,0,none⟩ a1 v1 ((p1.mono (i27.tr r34.run.inc)).mono hi2) ((at28.mono r34.run.inc).mono hi2) hr⟩) hr40) ?_
 rintro e w42 ⟨H41,v45,n46,cs47,rfl,⟨S43,i44⟩,els48⟩
 refine ⟨_,rfl,?_⟩
 have S43:St Ha wa H41 w42 [.row 3 1 v45 n46 cs47]:=S43
 refine FL.v (E.assign (v:=v45) rfl) ?_
 refine FL.nil ?_
 refine FW.ret ?_
 obtain rfl:=Option.some.inj hp
 exact ⟨.inr rfl,res1 rfl rfl ⟨_,_,_,_,rfl,S43,els48⟩⟩

set_option maxHeartbeats 4000000 in
theorem zeY {Ha:GH} {wa:World} (hs:Sl Ha wa) (a0:Cnf) (v0_1:Value) (p0_1:RSl Ha (eL eI 1) 1 v0_1 a0.clauses) (a1:Int) (v2:Value) (a2:List Bool) (p2:RSl Ha eB 1 v2 a2) (v3:Value) (a3:List Int) (p3:RSl Ha eI 1 v3 a3) {r:Bool} (hp:(PF.zbM a0 a1 a2 a3)=some r) :
  Calls Tryz.prog 46 #[Value.agg #[Value.int .i64 a0.vars,v0_1],Value.int .i64 a1,v2,v3] wa (Sc Ha wa (Value.bool r)):=by
 unfold PF.zbM at hp
 have S0:=St.init hs
 refine zae (N:=63) (args:=[Value.agg #[Value.int .i64 a0.vars,v0_1],Value.int .i64 a1,v2,v3]) Tryz.func46 rfl rfl rfl ?_
 refine FW.seq (FW.region ?_)
 obtain ⟨b21,w22,run23,S24⟩:=S0.box (P:=Tryz.prog) 26 [Value.int .i64 a0.vars,v0_1] (v:=Value.agg #[Value.int .i64 a0.vars,v0_1]) rfl (zac rfl (zac p0_1.one zad))
 refine FL.v (E.box rfl run23) ?_
 obtain ⟨H25,S26,i27,at28⟩:=S24.sealBox (i:=0) (l':=[]) rfl rfl
 refine FL.v (E.assign (v:=Value.bool false) rfl) ?_
 refine FL.nil (FW.seq (FW.seq (FW.region ?_)))
 refine FL.v (E.move (v:=v3) rfl) ?_
 refine FL.v (E.lenP te34 rfl p3) ?_
 refine FL.v (E.move (v:=Value.int .i64 0) rfl) ?_
 refine FL.nil ?_
 obtain ⟨q30,hq,hp⟩:=bndR hp
 refine FW.block ?_
 refine FW.mono (FW.forL (S:=Unit) (X:=Bool) (fun (i30:Nat) (s30:Unit) f w=>∃ H:GH,St Ha wa H w []∧Inc H25 H∧f 14=Value.int .i64 ((i30:Nat):Int)∧f 1=Value.int .i64 a1∧f 2=v2∧f 3=v3∧f 4=Value.pointer (some ⟨b21,0,none⟩)∧f 13=Value.int .i64 (len a3)) (fun q e f w=>match q with|.go s30=>e=Exit.exit 0∧(∃ H:GH,St Ha wa H w []∧Inc H25 H∧f 1=Value.int .i64 a1∧f 2=v2∧f 3=v3∧f 4=Value.pointer (some ⟨b21,0,none⟩))|.rt x=>((e=Exit.ret)∧(fun e f w=>(e=Exit.normal∨e=Exit.ret)∧∀ a,Fr (δ:=[]) 63 a f→∃ v,(results Tryz.f46 a.tmps).run Tryz.prog w=.ok v w∧(Sc Ha wa (Value.bool x)) (.returned v) w) e f w)) hq ⟨_,S26,(Inc.rfl _),rfl,rfl,rfl,rfl,rfl,rfl⟩ ?_ ?_) ?_
 ·
  clear hp hq
  rintro i30 y29 s30 f75 w74 ⟨H71,S72,i73,k76,k77,k78,k79,k80,k81⟩ hx30 oAb hp
  refine FW.seq (FW.region ?_)
  refine FL.v (E.lssT k76 k81 (zaw hx30)) ?_
  refine FL.nil (FW.seq ?_)
  refine FW.condT rfl rfl ?_
  refine FW.skip (FW.seq (FW.block (FW.seq (FW.region ?_))))
  refine FL.v (E.move k76) ?_
  refine FL.v (E.assign (v:=Value.int .i64 ((i30:Nat):Int)) rfl) ?_
  refine FL.nil (FW.seq (FW.region ?_))
  refine FL.v (E.move k78) ?_
  refine FL.v (E.move k79) ?_
  refine FL.v (E.move (v:=Value.int .i64 ((i30:Nat):Int)) rfl) ?_
  obtain ⟨r82,hr83,hp⟩:=bnd hp
  refine FL.call rfl rfl rfl (E.call Tryz.call84 (A2 rfl rfl)) (w_impl_without_int S72.sl v3 a3 (p3.mono (i27.tr i73)) ((i30:Nat):Int) hr83) ?_
  rintro e w85 ⟨H84,v88,n89,cs90,rfl,r87,els91⟩
  refine ⟨_,rfl,?_⟩
  have els91:=els91.mono (up_le S72.size)
  have S86:=S72.join (l':=[.row 3 1 v88 n89 cs90]) r87 rfl
  obtain ⟨H92,S93,i94,h95,nv96⟩:=S86.sealRowU (i:=0) (l':=[]) rfl els91 (by decide) rfl
  obtain ⟨r97,hr98,hp⟩:=bnd hp
  refine FL.call rfl rfl rfl (E.call Tryz.call45 (A1 rfl)) (zcp S93.sl v88 r82 (h95.mono upI) hr98) ?_
  rintro e w99 ⟨rfl,rA0⟩
  refine ⟨_,rfl,?_⟩
  have rA0:=Run.lend i94 S86.sl rA0
  have SA1:=S86.call rA0
  obtain ⟨xA8,hxA9,hp⟩:=bnd hp
  obtain ⟨pA2,csA3,ptA4,lA5,atA6,relA7⟩:=p2.at hxA9
  obtain rfl:=zbQ relA7
  refine FL.v (E.indexAddr te52 rfl rfl ptA4) ?_
  refine FL.v (E.load rfl (zaf Tryz.isAgg4 ((atA6.mono ((i27.tr i73).tr r87.run.inc)).now SA1.sl) rfl)) ?_
  refine FL.v (E.not rfl) ?_
  refine FL.nil ?_
  rcases ifB hp with ⟨cAa,hp⟩|⟨cAa,hp⟩
  ·
   refine FW.condT rfl cAa ?_
   refine FW.seq (FW.region ?_)
   refine FL.v (E.assign (v:=Value.bool false) rfl) ?_
   refine FL.nil ?_
   refine FW.ret ?_
   obtain rfl:=Option.some.inj hp
   exact ⟨nofun,rfl,⟨.inr rfl,res1 rfl rfl ⟨rfl,SA1.back⟩⟩⟩
  ·
   refine FW.condF rfl cAa ?_
   refine FW.skip (FW.region ?_)
   refine FL.v (E.add k76 rfl) ?_
   refine FL.v (E.move (v:=Value.int .i64 (wr (((i30:Nat):Int) + 1))) rfl) ?_
   refine FL.nil ?_
   obtain rfl:=Option.some.inj hp
   exact ⟨rfl,⟨_,(SA1.sel [] (by decide) rfl),(i73.tr r87.run.inc),(zap rfl (zaq hx30) (p3.mono ((i27.tr i73).tr r87.run.inc)).le),k77,k78,k79,k80,k81⟩⟩
 ·
  clear hp hq
  rintro s30 fDE wDD ⟨HDA,SDB,iDC,kDF,kDG,kDH,kDI,kDJ,kDK⟩
  refine FW.seq (FW.region ?_)
  refine FL.v (E.lss kDF kDK) ?_
  refine FL.nil (FW.seq ?_)
  refine FW.condF rfl zax ?_
  refine FW.exit ?_
  exact ⟨nofun,rfl,⟨_,SDB,iDC,kDG,kDH,kDI,kDJ⟩⟩
 ·
  clear hq
  intro e fAg wAf hD
  rcases q30 with s30|x30
  ·
   obtain ⟨rfl,hD⟩:=hD
   obtain ⟨HAc,SAd,iAe,kAh,kAi,kAj,kAk⟩:=hD
   replace hp:=el_go hp
   refine FW.seq (FW.seq (FW.region ?_))
   refine FL.v (E.move kAj) ?_
   refine FL.v (E.lenP te34 rfl p3) ?_
   refine FL.v (E.move kAh) ?_
   refine FL.v (E.gtr rfl rfl) ?_
   refine FL.nil ?_
   rcases ifB hp with ⟨cAl,hp⟩|⟨cAl,hp⟩
   ·
    refine FW.condT rfl cAl ?_
    refine FW.seq (FW.region ?_)
    refine FL.v (E.assign (v:=Value.bool true) rfl) ?_
    refine FL.nil ?_
    refine FW.ret ?_
    obtain rfl:=Option.some.inj hp
    exact ⟨.inr rfl,res1 rfl rfl ⟨rfl,SAd.back⟩⟩
   ·
    refine FW.condF rfl cAl ?_
    refine FW.skip (FW.seq (FW.seq (FW.region ?_)))
    refine FL.v (E.fieldAddr zaC kAk) ?_
    refine FL.v (E.load rfl (zah Tryz.isAgg3 ((at28.mono iAe).now SAd.sl) rfl)) ?_
    refine FL.v (E.move kAj) ?_
    obtain ⟨rAm,hrAn,hp⟩:=bnd hp
    refine FL.call rfl rfl rfl (E.call Tryz.call85 (A2 rfl rfl)) (w_impl_openVars SAd.sl a0.vars v3 a3 (p3.mono (i27.tr iAe)) hrAn) ?_
    rintro e wAp ⟨HAo,vAs,nAt,csAu,rfl,rAr,elsAv⟩
    refine ⟨_,rfl,?_⟩
    have elsAv:=elsAv.mono (up_le SAd.size)
    have SAq:=SAd.join (l':=[.row 3 1 vAs nAt csAu]) rAr rfl
    refine FL.v (E.lenO te34 rfl SAq (i:=0) rfl elsAv (by decide)) ?_
    refine FL.v (E.move (v:=Value.int .i64 0) rfl) ?_
    refine FL.nil ?_
    obtain ⟨m132,hchkAx,hp⟩:=bnd hp
    obtain ⟨qAx,hq,hp⟩:=bndR hp
    refine FW.block ?_
    refine FW.mono (FW.forR (S:=Unit) (X:=Bool) (fun (iAx:Nat) (sAx:Unit) f w=>∃ H:GH,St Ha wa H w [.row 3 1 vAs nAt csAu]∧Inc HAo H∧f 35=Value.int .i64 ((iAx:Nat):Int)∧f 2=v2∧f 3=v3∧f 33=vAs∧f 34=Value.int .i64 (len rAm)) (fun q e f w=>match q with|.go sAx=>e=Exit.exit 2∧(∃ H:GH,St Ha wa H w [.row 3 1 vAs nAt csAu]∧Inc HAo H)|.rt x=>((e=Exit.ret)∧(fun e f w=>(e=Exit.normal∨e=Exit.ret)∧∀ a,Fr (δ:=[]) 63 a f→∃ v,(results Tryz.f46 a.tmps).run Tryz.prog w=.ok v w∧(Sc Ha wa (Value.bool x)) (.returned v) w) e f w)) hq ⟨_,SAq,(Inc.rfl _),rfl,kAi,kAj,rfl,rfl⟩ ?_ ?_) ?_
    ·
     clear hp hq
     rintro iAx sAx fC0 wBZ ⟨HBW,SBX,iBY,kC1,kC2,kC3,kC4,kC5⟩ hi133 hjAx oDk hp
     refine FW.seq (FW.region ?_)
     refine FL.v (E.lssT kC1 kC5 (lss_chk hjAx hchkAx)) ?_
     refine FL.nil (FW.seq ?_)
     refine FW.condT rfl rfl ?_
     refine FW.skip (FW.seq (FW.block (FW.seq (FW.region ?_))))
     obtain ⟨xCc,hxCd,hp⟩:=bnd hp
     obtain ⟨pC6,csC7,ptC8,lC9,atCa,relCb⟩:=SBX.row_at (i:=0) rfl elsAv (by decide) hxCd
     obtain rfl:=zam relCb
     refine FL.v (E.indexAddr te34 kC4 kC1 ptC8) ?_
     refine FL.v (E.load rfl (zaf Tryz.isAgg3 atCa rfl)) ?_
     refine FL.v (E.assign (v:=Value.int .i64 xCc) rfl) ?_
     refine FL.nil (FW.seq (FW.region ?_))
     refine FL.v (E.move kC2) ?_
     refine FL.v (E.move kC3) ?_
     obtain ⟨rCe,hrCf,hp⟩:=bnd hp
     refine FL.call rfl rfl rfl (E.call Tryz.call45 (A1 rfl)) (zcp SBX.sl v3 a3 (p3.mono (((i27.tr iAe).tr rAr.run.inc).tr iBY)) hrCf) ?_
     rintro e wCg ⟨rfl,rCh⟩
     refine ⟨_,rfl,?_⟩
     have SCi:=SBX.call rCh
     refine FL.v (E.move (v:=Value.int .i64 xCc) rfl) ?_
     refine FL.v (E.sub rfl rfl) ?_
     obtain ⟨rCj,hrCk,hp⟩:=bnd hp
     refine FL.call rfl rfl rfl (E.call Tryz.call83 (A1 rfl)) (zdD SCi.sl (wr (xCc - 1)) hrCk) ?_
     rintro e wCl ⟨rfl,rCm⟩
     refine ⟨_,rfl,?_⟩
     have SCn:=SCi.call rCm
     refine FL.v (E.add rfl rfl) ?_
     obtain ⟨xCu,hxCv,hp⟩:=bnd hp
     obtain ⟨pCo,csCp,ptCq,lCr,atCs,relCt⟩:=p2.at hxCv
     obtain rfl:=zbQ relCt
     refine FL.v (E.indexAddr te52 rfl rfl ptCq) ?_
     refine FL.v (E.load rfl (zaf Tryz.isAgg4 ((atCs.mono (((i27.tr iAe).tr rAr.run.inc).tr iBY)).now SCn.sl) rfl)) ?_
     refine FL.v (E.not rfl) ?_
     refine FL.v (E.move (v:=Value.bool (!xCu)) rfl) ?_
     obtain ⟨t274,hqtCO,hp⟩:=bnd hp
     refine FL.cut 12 (fun f w=>∃ H:GH,St Ha wa H w [.row 3 1 vAs nAt csAu]∧Inc HBW H∧f 2=v2∧f 3=v3∧f 33=vAs∧f 34=Value.int .i64 (len rAm)∧f 35=Value.int .i64 ((iAx:Nat):Int)∧f 61=Value.bool t274) ?_ ?_
     ·
      clear hp;have hp:=hqtCO;clear hqtCO
      rcases ifB hp with ⟨cCU,hp⟩|⟨cCU,hp⟩
      ·
       refine FL.val (zab rfl rfl rfl cCU) rfl rfl (E.move kC2) ?_
       refine FL.val (zab rfl rfl rfl cCU) rfl rfl (E.move kC3) ?_
       obtain ⟨rCV,hrCW,hp⟩:=bnd hp
       refine FL.call (zab rfl rfl rfl cCU) rfl rfl (E.call Tryz.call45 (A1 rfl)) (zcp SCn.sl v3 a3 (p3.mono (((i27.tr iAe).tr rAr.run.inc).tr iBY)) hrCW) ?_
       rintro e wCX ⟨rfl,rCY⟩
       refine ⟨_,rfl,?_⟩
       have SCZ:=SCn.call rCY
       refine FL.val (zab rfl rfl rfl cCU) rfl rfl (E.move (v:=Value.int .i64 xCc) rfl) ?_
       refine FL.val (zab rfl rfl rfl cCU) rfl rfl (E.sub rfl rfl) ?_
       obtain ⟨rD0,hrD1,hp⟩:=bnd hp
       refine FL.call (zab rfl rfl rfl cCU) rfl rfl (E.call Tryz.call83 (A1 rfl)) (zdD SCZ.sl (wr (xCc - 1)) hrD1) ?_
       rintro e wD2 ⟨rfl,rD3⟩
       refine ⟨_,rfl,?_⟩
       have SD4:=SCZ.call rD3
       refine FL.val (zab rfl rfl rfl cCU) rfl rfl (E.mul rfl rfl) ?_
       refine FL.val (zab rfl rfl rfl cCU) rfl rfl (E.add rfl rfl) ?_
       obtain ⟨xDb,hxDc,hp⟩:=bnd hp
       obtain ⟨pD5,csD6,ptD7,lD8,atD9,relDa⟩:=p2.at hxDc
       obtain rfl:=zbQ relDa
       refine FL.val (zab rfl rfl rfl cCU) rfl rfl (E.indexAddr te52 rfl rfl ptD7) ?_
       refine FL.val (zab rfl rfl rfl cCU) rfl rfl (E.load rfl (zaf Tryz.isAgg4 ((atD9.mono (((i27.tr iAe).tr rAr.run.inc).tr iBY)).now SD4.sl) rfl)) ?_
       refine FL.val (zab rfl rfl rfl cCU) rfl rfl (E.not rfl) ?_
       obtain rfl:=Option.some.inj hp
       refine FL.v (E.pickT rfl cCU rfl) ?_
       exact FL.nil ⟨rfl,_,SD4,(Inc.rfl _),kC2,kC3,kC4,kC5,kC1,rfl⟩
      ·
       refine FL.skip (wF_no rfl rfl rfl cCU) rfl ?_
       refine FL.skip (wF_no rfl rfl rfl cCU) rfl ?_
       refine FL.skip (wF_no rfl rfl rfl cCU) rfl ?_
       refine FL.skip (wF_no rfl rfl rfl cCU) rfl ?_
       refine FL.skip (wF_no rfl rfl rfl cCU) rfl ?_
       refine FL.skip (wF_no rfl rfl rfl cCU) rfl ?_
       refine FL.skip (wF_no rfl rfl rfl cCU) rfl ?_
       refine FL.skip (wF_no rfl rfl rfl cCU) rfl ?_
       refine FL.skip (wF_no rfl rfl rfl cCU) rfl ?_
       refine FL.skip (wF_no rfl rfl rfl cCU) rfl ?_
       refine FL.skip (wF_no rfl rfl rfl cCU) rfl ?_
       obtain rfl:=Option.some.inj hp
       refine FL.v (E.pickF rfl cCU rfl) ?_
       exact FL.nil ⟨rfl,_,SCn,(Inc.rfl _),kC2,kC3,kC4,kC5,kC1,rfl⟩
     rintro fCT wCS ⟨HCP,SCQ,iCR,kDd,kDe,kDf,kDg,kDh,kDi⟩
     refine FL.nil ?_
     rcases ifB hp with ⟨cDj,hp⟩|⟨cDj,hp⟩
     ·
      refine FW.condT kDi cDj ?_
      refine FW.seq (FW.region ?_)
      refine FL.v (E.assign (v:=Value.bool false) rfl) ?_
      refine FL.nil ?_
      refine FW.ret ?_
      obtain rfl:=Option.some.inj hp
      exact ⟨nofun,rfl,⟨.inr rfl,res1 rfl rfl ⟨rfl,SCQ.back⟩⟩⟩
     ·
      refine FW.condF kDi cDj ?_
      refine FW.skip (FW.region ?_)
      refine FL.v (E.add kDh rfl) ?_
      refine FL.v (E.move (v:=Value.int .i64 (wr (((iAx:Nat):Int) + 1))) rfl) ?_
      refine FL.nil ?_
      obtain rfl:=Option.some.inj hp
      exact ⟨rfl,⟨_,SCQ,(iBY.tr iCR),(zap rfl hjAx (chk_le hchkAx)),kDd,kDe,kDf,kDg⟩⟩
    ·
     clear hp hq
     rintro sAx fDu wDt ⟨HDq,SDr,iDs,kDv,kDw,kDx,kDy,kDz⟩
     refine FW.seq (FW.region ?_)
     refine FL.v (E.lss kDv kDz) ?_
     refine FL.nil (FW.seq ?_)
     refine FW.condF rfl (zc1 hchkAx) ?_
     refine FW.exit ?_
     exact ⟨nofun,rfl,⟨_,SDr,iDs⟩⟩
    ·
     clear hq
     intro e fDp wDo hD
     rcases qAx with sAx|xAx
     ·
      obtain ⟨rfl,hD⟩:=hD
      obtain ⟨HDl,SDm,iDn⟩:=hD
      replace hp:=el_go hp
      refine FW.seq (FW.region ?_)
      refine FL.v (E.assign (v:=Value.bool true) rfl) ?_
      refine FL.nil ?_
      refine FW.ret ?_
      obtain rfl:=Option.some.inj hp
      exact ⟨.inr rfl,res1 rfl rfl ⟨rfl,SDm.back⟩⟩
     ·
      obtain ⟨he,hL⟩:=hD
      replace hp:=el_rt hp
      obtain rfl:=Option.some.inj hp
      subst he
      exact hL
  ·
   obtain ⟨he,hL⟩:=hD
   replace hp:=el_rt hp
   obtain rfl:=Option.some.inj hp
   subst he
   exact hL

@[reducible] def p_impl_shrink (Ha:GH) (wa:World) (r:(Option zbd)):Ending→World→Prop :=
 fun e w'=>∃ H':GH,∃ v0:Value,e=.returned (v0)∧Run wa.heap.size Ha wa H' w'∧OP (fun (q:Addr) (x:zbd)=>∃ v0R_1:Value,∃ v0R_3:Value,∃ v0R_4:Value,∃ v0R_5:Value,RSl H' (eL eI 1) 1 v0R_1 x.f.clauses∧RSl H' (eL eI 1) 1 v0R_3 x.all∧RSl (up wa.heap.size H') eB 1 v0R_4 x.is∧RSl (up wa.heap.size H') eI 1 v0R_5 x.rounds∧CAt H' q [Value.int .i64 x.f.vars,v0R_1,Value.int .i64 x.w,v0R_3,v0R_4,v0R_5]) v0 r
set_option maxHeartbeats 4000000 in
theorem zer {Ha:GH} {wa:World} (hs:Sl Ha wa) (a0:Cnf) (v0_1:Value) (p0_1:RSl Ha (eL eI 1) 1 v0_1 a0.clauses) (a1:Int) {r:(Option zbd)} (hp:(PF.zbN a0 a1)=some r) :
  Calls Tryz.prog 24 #[Value.agg #[Value.int .i64 a0.vars,v0_1],Value.int .i64 a1] wa (p_impl_shrink Ha wa r):=by
 unfold PF.zbN at hp
 have S0:=St.init hs
 refine zae (N:=97) (args:=[Value.agg #[Value.int .i64 a0.vars,v0_1],Value.int .i64 a1]) Tryz.func24 rfl rfl rfl ?_
 refine FW.seq (FW.region ?_)
 obtain ⟨b21,w22,run23,S24⟩:=S0.box (P:=Tryz.prog) 26 [Value.int .i64 a0.vars,v0_1] (v:=Value.agg #[Value.int .i64 a0.vars,v0_1]) rfl (zac rfl (zac p0_1.one zad))
 refine FL.v (E.box rfl run23) ?_
 obtain ⟨H25,S26,i27,at28⟩:=S24.sealBox (i:=0) (l':=[]) rfl rfl
 refine FL.v (E.assign (v:=Value.pointer none) rfl) ?_
 refine FL.nil (FW.seq ?_)
 obtain ⟨r32,hr33,hp⟩:=bnd hp
 refine FW.drawB (Sl H25) (fun f w=>∃ H:GH,∃ b51:Nat,∃ v53:Value,∃ v56:Value,∃ v58:Value,∃ v60:Value,St Ha wa H w [.box b51 54 [Value.int .i64 a0.vars,v53,Value.int .i64 a1,v56,v58,v60]]∧Inc H25 H∧RSl H (eL eI 1) 1 v53 a0.clauses∧RSl H (eL eI 1) 1 v56 r32∧RSl H eB 1 v58 []∧RSl H eI 1 v60 []∧f 1=Value.int .i64 a1∧f 2=Value.pointer (some ⟨b21,0,none⟩)∧f 5=Value.pointer (some (⟨b51,0,none⟩:Addr))) (by kernel_rfl) S26.sl ?_ ?_
 ·
  intro w29 r30
  have S31:=S26.call r30
  refine FB.t (i:=0) (bs 8 1) rfl (SP.nil S31.sl) rfl (fun w' hw'=>(E.load rfl (zai Tryz.isAgg26 Tryz.sizeOf26 (at28.now hw') rfl))) ?_
  refine FB.t (i:=1) (bs 8 3) rfl (SP.nil S31.sl) rfl (fun w' hw'=>(E.move (v:=Value.int .i64 a1) rfl)) ?_
  refine FB.t (i:=2) (bs 8 7) rfl (SP.nil S31.sl) rfl (fun w' hw'=>(E.load rfl (zai Tryz.isAgg26 Tryz.sizeOf26 (at28.now hw') rfl))) ?_
  refine FB.t (i:=3) (bs 8 15) rfl (SP.nil S31.sl) rfl (fun w' hw'=>(E.move (v:=Value.int .i64 a1) rfl)) ?_
  refine FB.all1 (i:=4) (by kernel_rfl) ?_
  ·
   refine FC.call (l':=(bs 8 31)) rfl (by kernel_rfl) rfl rfl rfl (E.call Tryz.call31 (A2 rfl rfl)) (zeX S31.sl a0 v0_1 (p0_1.mono i27) a1 hr33) ?_
   rintro e w36 ⟨H35,v39,n40,cs41,rfl,r38,els42⟩
   refine ⟨_,rfl,?_⟩
   have S37:=S31.join (l':=[.row 34 1 v39 n40 cs41]) r38 rfl
   refine ⟨(SP.nil (Sl.of_inc r38.run.inc S37.sl)),?_⟩
   obtain ⟨H43,S44,i45,h46⟩:=S37.sealRow (i:=0) (l':=[]) rfl els42 (by decide) rfl
   refine FB.t (i:=5) (bs 8 63) rfl (SP.nil (Sl.of_inc r38.run.inc S37.sl)) rfl (fun w' hw'=>(E.build (B3 rfl rfl rfl) (run_build _ 54 #[(0,Value.agg #[Value.int .i64 a0.vars,v0_1]),(1,Value.int .i64 a1),(2,v39)] #[Value.int .i64 a0.vars,v0_1,Value.int .i64 a1,v39,Value.slice none 0 0,Value.slice none 0 0] (by obtain ⟨_,_,rfl⟩:=RSl.ln (p0_1.mono ((i27.tr r38.run.inc).tr i45));obtain ⟨_,_,rfl⟩:=RSl.ln h46;rfl)))) ?_
   refine FB.all1 (i:=6) (by kernel_rfl) ?_
   ·
    obtain ⟨b47,w48,run49,S50⟩:=S44.box (P:=Tryz.prog) 54 [Value.int .i64 a0.vars,v0_1,Value.int .i64 a1,v39,Value.slice none 0 0,Value.slice none 0 0] (v:=Value.agg #[Value.int .i64 a0.vars,v0_1,Value.int .i64 a1,v39,Value.slice none 0 0,Value.slice none 0 0]) rfl (zac rfl (zac p0_1.one (zac rfl (zac h46.one (zac rfl (zac rfl zad))))))
    refine FC.val (l':=(bs 8 127)) rfl (by kernel_rfl) rfl rfl rfl (E.box rfl run49) ?_
    refine ⟨(SP.nil (Sl.of_inc (r38.run.inc.tr i45) S50.sl)),?_⟩
    refine FB.t (i:=7) (bs 8 255) rfl (SP.nil (Sl.of_inc (r38.run.inc.tr i45) S50.sl)) rfl (fun w' hw'=>(E.assign (v:=Value.pointer (some (⟨b47,0,none⟩:Addr))) rfl)) ?_
    exact FB.done (by kernel_rfl) ⟨_,_,_,_,_,_,S50,(r38.run.inc.tr i45),(p0_1.mono ((i27.tr r38.run.inc).tr i45)),h46,(RSl.nil _ _ _),(RSl.nil _ _ _),rfl,rfl,rfl⟩
 ·
  rintro f66 w65 ⟨H62,b51,v53,v56,v58,v60,S63,i64,h55,h57,h59,h61,k67,k68,k69⟩
  refine FW.seq ?_
  obtain ⟨r73,hr74,hp⟩:=bnd hp
  refine FW.drawB (Sl H62) (fun f w=>∃ H:GH,∃ v86:Value,∃ v88:Value,∃ v90:Value,∃ n91:Nat,∃ cs92:List Value,∃ v94:Value,St Ha wa H w [.box b51 54 [Value.int .i64 a0.vars,v86,Value.int .i64 a1,v88,v90,v94],.row 4 1 v90 n91 cs92]∧Inc H62 H∧RSl H (eL eI 1) 1 v86 a0.clauses∧RSl H (eL eI 1) 1 v88 r32∧Els (up wa.heap.size H) eB 1 cs92 r73∧RSl H eI 1 v94 []∧f 1=Value.int .i64 a1∧f 2=Value.pointer (some ⟨b21,0,none⟩)∧f 5=Value.pointer (some (⟨b51,0,none⟩:Addr))) (by kernel_rfl) S63.sl ?_ ?_
  ·
   intro w70 r71
   have S72:=S63.call r71
   refine FB.phase [] (fun w=>WAt w (Addr.add ⟨b51,0,none⟩ 3) [v56]) ?_
   refine FB.t (i:=0) (bs 10 1) rfl (SP.on ((S72.box_now (i:=0) rfl).sub (j:=3) (n:=1) (c:=[v56]) rfl) (SP.nil S72.sl)) rfl (fun w' hw'=>(E.move k69)) ?_
   refine FB.t (i:=1) (bs 10 3) rfl (SP.on ((S72.box_now (i:=0) rfl).sub (j:=3) (n:=1) (c:=[v56]) rfl) (SP.nil S72.sl)) rfl (fun w' hw'=>(E.load k68 (zai Tryz.isAgg26 Tryz.sizeOf26 ((at28.mono i64).now hw') rfl))) ?_
   refine FB.t (i:=2) (bs 10 7) rfl (SP.on ((S72.box_now (i:=0) rfl).sub (j:=3) (n:=1) (c:=[v56]) rfl) (SP.nil S72.sl)) rfl (fun w' hw'=>(E.move k69)) ?_
   refine FB.t (i:=3) (bs 10 15) rfl (SP.on ((S72.box_now (i:=0) rfl).sub (j:=3) (n:=1) (c:=[v56]) rfl) (SP.nil S72.sl)) rfl (fun w' hw'=>(E.nilCheck rfl)) ?_
   refine FB.t (i:=4) (bs 10 31) rfl (SP.on ((S72.box_now (i:=0) rfl).sub (j:=3) (n:=1) (c:=[v56]) rfl) (SP.nil S72.sl)) rfl (fun w' hw'=>(E.fieldAddr tf54_2 rfl)) ?_
   refine FB.p (i:=5) (bs 10 63) 0 [6,7,8,9] rfl (SP.on ((S72.box_now (i:=0) rfl).sub (j:=3) (n:=1) (c:=[v56]) rfl) (SP.nil S72.sl)) rfl rfl (fun w' hw'=>(E.load rfl (zaf Tryz.isAgg24 hw' rfl))) ?_
   refine FB.all1 (i:=6) (by kernel_rfl) ?_
   ·
    refine FC.call (l':=(bs 10 127)) rfl (by kernel_rfl) rfl rfl rfl (E.call Tryz.call44 (A2 rfl rfl)) (w_impl_marks S72.sl a0 v0_1 (p0_1.mono (i27.tr i64)) v56 r32 h57 hr74) ?_
    rintro e w76 ⟨H75,v79,n80,cs81,rfl,r78,els82⟩
    refine ⟨_,rfl,?_⟩
    have els82:=els82.mono (up_le S72.size)
    have S77:=S72.join (l':=[.row 4 1 v79 n80 cs81,.box b51 54 [Value.int .i64 a0.vars,v53,Value.int .i64 a1,v56,v58,v60]]) r78 rfl
    refine ⟨(SP.on ((S77.box_now (i:=1) rfl).sub (j:=3) (n:=1) (c:=[v56]) rfl) (SP.nil (Sl.of_inc r78.run.inc S77.sl))),?_⟩
    refine FB.t (i:=7) (bs 10 255) rfl (SP.on ((S77.box_now (i:=1) rfl).sub (j:=3) (n:=1) (c:=[v56]) rfl) (SP.nil (Sl.of_inc r78.run.inc S77.sl))) rfl (fun w' hw'=>(E.nilCheck rfl)) ?_
    refine FB.t (i:=8) (bs 10 511) rfl (SP.on ((S77.box_now (i:=1) rfl).sub (j:=3) (n:=1) (c:=[v56]) rfl) (SP.nil (Sl.of_inc r78.run.inc S77.sl))) rfl (fun w' hw'=>(E.fieldAddr tf54_3 rfl)) ?_
    refine FB.all1 (i:=9) (by kernel_rfl) ?_
    ·
     obtain ⟨w83,run84,S85⟩:=S77.store (P:=Tryz.prog) (t:=52) (i:=1) (j:=4) (cs':=[Value.int .i64 a0.vars,v53,Value.int .i64 a1,v56,v79,v60]) (l':=[.row 4 1 v79 n80 cs81,.box b51 54 [Value.int .i64 a0.vars,v53,Value.int .i64 a1,v56,v79,v60]]) (v:=v79) (c:=[v79]) rfl Tryz.sizeOf52 (Ln.cells (S77.row_ln (i:=0) rfl)) rfl (zac (Ln.one (S77.row_ln (i:=0) rfl)) zad) (Nat.le_of_ble_eq_true rfl) rfl rfl
     refine FC.act (l':=(bs 10 1023)) rfl (by kernel_rfl) rfl rfl (E.store rfl rfl run84) ?_
     refine ⟨(SP.on ((S85.box_now (i:=1) rfl).sub (j:=3) (n:=1) (c:=[v56]) rfl) (SP.nil (Sl.of_inc r78.run.inc S85.sl))),?_⟩
     exact FB.done (by kernel_rfl) ⟨_,_,_,_,_,_,_,(S85.sel [1,0] (by decide) rfl),r78.run.inc,(h55.mono r78.run.inc),(h57.mono r78.run.inc),els82,(h61.mono r78.run.inc),k67,k68,k69⟩
  ·
   rintro fA0 w99 ⟨H96,v86,v88,v90,n91,cs92,v94,S97,i98,h87,h89,els93,h95,kA1,kA2,kA3⟩
   refine FW.seq (FW.region ?_)
   refine FL.v (E.move kA3) ?_
   refine FL.v (E.move kA3) ?_
   refine FL.v (E.nilCheck rfl) ?_
   refine FL.v (E.fieldAddr tf54_3 rfl) ?_
   refine FL.v (E.load rfl (zah Tryz.isAgg52 (S97.box_now (i:=0) rfl) rfl)) ?_
   refine FL.v (E.lenO te52 rfl S97 (i:=1) rfl els93 (by decide)) ?_
   obtain ⟨xsA4,hm105,hp⟩:=bnd hp
   obtain ⟨vA6,wA7,nAb,csAc,runA8,SA9,elsAa,hbl113⟩:=S97.makeEls (P:=Tryz.prog) te34 (G:=(up wa.heap.size H96)) (En:=eI) (x0:=(0:Int)) hm105 rfl (zac rfl zad) .i64 .i64
   refine FL.v (E.makeSlice rfl rfl runA8) ?_
   refine FL.v (E.nilCheck rfl) ?_
   refine FL.v (E.fieldAddr tf54_4 rfl) ?_
   obtain ⟨wAe,runAf,SAg⟩:=SA9.store (P:=Tryz.prog) (t:=34) (i:=1) (j:=5) (cs':=[Value.int .i64 a0.vars,v86,Value.int .i64 a1,v88,v90,vA6]) (l':=[.row 3 1 vA6 nAb csAc,.box b51 54 [Value.int .i64 a0.vars,v86,Value.int .i64 a1,v88,v90,vA6],.row 4 1 v90 n91 cs92]) (v:=vA6) (c:=[vA6]) rfl Tryz.sizeOf34 (Ln.cells (SA9.row_ln (i:=0) rfl)) rfl (zac (Ln.one (SA9.row_ln (i:=0) rfl)) zad) (Nat.le_of_ble_eq_true rfl) rfl rfl
   refine FL.act rfl rfl (E.store rfl rfl runAf) ?_
   refine FL.nil (FW.seq (FW.region ?_))
   refine FL.v (E.assign (v:=Value.int .i64 1) rfl) ?_
   refine FL.nil ?_
   obtain ⟨qAh,hq,hp⟩:=bndR hp
   refine FW.block ?_
   refine FW.mono (FW.iter (S:=((List Int)×(List Bool)×Int)) (X:=(Option zbd)) (fun (sAh:((List Int)×(List Bool)×Int)) f w=>∃ H:GH,∃ vAi:Value,∃ nAj:Nat,∃ csAk:List Value,∃ vAm:Value,∃ nAn:Nat,∃ csAo:List Value,St Ha wa H w [.row 3 1 vAi nAj csAk,.box b51 54 [Value.int .i64 a0.vars,v86,Value.int .i64 a1,v88,vAm,vAi],.row 4 1 vAm nAn csAo]∧Inc H96 H∧Els (up wa.heap.size H) eI 1 csAk sAh.1∧Els (up wa.heap.size H) eB 1 csAo sAh.2.1∧f 1=Value.int .i64 a1∧f 2=Value.pointer (some ⟨b21,0,none⟩)∧f 5=Value.pointer (some (⟨b51,0,none⟩:Addr))∧f 6=Value.int .i64 sAh.2.2) (fun q e f w=>match q with|.go sAh=>e=Exit.exit 0∧(∃ H:GH,∃ vAi:Value,∃ nAj:Nat,∃ csAk:List Value,∃ vAm:Value,∃ nAn:Nat,∃ csAo:List Value,St Ha wa H w [.row 3 1 vAi nAj csAk,.box b51 54 [Value.int .i64 a0.vars,v86,Value.int .i64 a1,v88,vAm,vAi],.row 4 1 vAm nAn csAo]∧Inc H96 H∧Els (up wa.heap.size H) eI 1 csAk sAh.1∧Els (up wa.heap.size H) eB 1 csAo sAh.2.1)|.rt x=>((e=Exit.ret)∧(fun e f w=>(e=Exit.normal∨e=Exit.ret)∧∀ a,Fr (δ:=[]) 97 a f→∃ v,(results Tryz.f24 a.tmps).run Tryz.prog w=.ok v w∧(p_impl_shrink Ha wa x) (.returned v) w) e f w)) hq ⟨_,_,_,_,_,_,_,SAg,(Inc.rfl _),elsAa,els93,kA1,kA2,kA3,rfl⟩ ?_) ?_
   ·
    clear hp hq
    rintro sAh fAu wAt ⟨HAq,vAi,nAj,csAk,vAm,nAn,csAo,SAr,iAs,elsAl,elsAp,kAv,kAw,kAx,kAy⟩ oE2 hp
    refine FW.seq (FW.block (FW.seq (FW.region ?_)))
    refine FL.v (E.assign (v:=Value.slice none 0 0) rfl) ?_
    refine FL.nil (FW.seq (FW.seq (FW.region ?_)))
    refine FL.v (E.move kAx) ?_
    refine FL.v (E.nilCheck rfl) ?_
    refine FL.v (E.fieldAddr tf54_2 rfl) ?_
    refine FL.v (E.load rfl (zah Tryz.isAgg24 (SAr.box_now (i:=1) rfl) rfl)) ?_
    refine FL.v (E.lenP te24 rfl h89) ?_
    refine FL.v (E.move (v:=Value.int .i64 0) rfl) ?_
    refine FL.nil ?_
    obtain ⟨qAA,hq,hp⟩:=bndR hp
    refine FW.block ?_
    refine FW.mono (FW.forL (S:=(List Int)) (X:=Empty) (fun (iAA:Nat) (sAA:(List Int)) f w=>∃ H:GH,∃ vAB:Value,∃ nAC:Nat,∃ csAD:List Value,St Ha wa H w [.row 3 1 vAi nAj csAk,.box b51 54 [Value.int .i64 a0.vars,v86,Value.int .i64 a1,v88,vAm,vAi],.row 4 1 vAm nAn csAo,.row 3 1 vAB nAC csAD]∧Inc HAq H∧Els (up wa.heap.size H) eI 1 csAD sAA∧f 44=Value.int .i64 ((iAA:Nat):Int)∧f 1=Value.int .i64 a1∧f 2=Value.pointer (some ⟨b21,0,none⟩)∧f 5=Value.pointer (some (⟨b51,0,none⟩:Addr))∧f 6=Value.int .i64 sAh.2.2∧f 7=vAB∧f 42=v88∧f 43=Value.int .i64 (len r32)) (fun (q:Rs (List Int) Empty) e f w=>match q with|.go sAA=>e=Exit.exit 2∧(∃ H:GH,∃ vAB:Value,∃ nAC:Nat,∃ csAD:List Value,St Ha wa H w [.row 3 1 vAi nAj csAk,.box b51 54 [Value.int .i64 a0.vars,v86,Value.int .i64 a1,v88,vAm,vAi],.row 4 1 vAm nAn csAo,.row 3 1 vAB nAC csAD]∧Inc HAq H∧Els (up wa.heap.size H) eI 1 csAD sAA∧f 1=Value.int .i64 a1∧f 2=Value.pointer (some ⟨b21,0,none⟩)∧f 5=Value.pointer (some (⟨b51,0,none⟩:Addr))∧f 6=Value.int .i64 sAh.2.2∧f 7=vAB)|.rt x=>x.elim) hq ⟨_,_,_,_,((SAr.nil 3 1).sel [1,2,3,0] (by decide) rfl),(Inc.rfl _),Els.nil,rfl,kAv,kAw,kAx,kAy,rfl,rfl,rfl⟩ ?_ ?_) ?_
    ·
     clear hp hq
     rintro iAA yAz sAA fAJ wAI ⟨HAF,vAB,nAC,csAD,SAG,iAH,elsAE,kAK,kAL,kAM,kAN,kAO,kAP,kAQ,kAR⟩ hxAA oC3 hp
     refine FW.seq (FW.region ?_)
     refine FL.v (E.lssT kAK kAR (zaw hxAA)) ?_
     refine FL.nil (FW.seq ?_)
     refine FW.condT rfl rfl ?_
     refine FW.skip (FW.seq (FW.block (FW.seq (FW.region ?_))))
     obtain ⟨pAS,csAT,ptAU,lAV,atAW,relAX⟩:=h89.at (zal hxAA)
     obtain ⟨vAY,rfl,hAZ⟩:=zav relAX
     refine FL.v (E.indexAddr te24 kAQ kAK ptAU) ?_
     refine FL.v (E.load rfl (zaf Tryz.isAgg34 ((atAW.mono (iAs.tr iAH)).now SAG.sl) rfl)) ?_
     refine FL.v (E.assign (v:=vAY) rfl) ?_
     refine FL.nil (FW.seq ?_)
     obtain ⟨rB4,hrB5,hp⟩:=bnd hp
     obtain ⟨xBf,hxBg,hp⟩:=bnd hp
     obtain ⟨t162_18,hqt162_18,hp⟩:=bnd hp
     refine FW.drawB (SX Ha wa HAF [.box b51 54 [Value.int .i64 a0.vars,v86,Value.int .i64 a1,v88,vAm,vAi],.row 4 1 vAm nAn csAo]) (fun f w=>∃ H:GH,St Ha wa H w [.row 3 1 vAi nAj csAk,.box b51 54 [Value.int .i64 a0.vars,v86,Value.int .i64 a1,v88,vAm,vAi],.row 4 1 vAm nAn csAo,.row 3 1 vAB nAC csAD]∧Inc HAF H∧f 1=Value.int .i64 a1∧f 2=Value.pointer (some ⟨b21,0,none⟩)∧f 5=Value.pointer (some (⟨b51,0,none⟩:Addr))∧f 6=Value.int .i64 sAh.2.2∧f 7=vAB∧f 9=vAY∧f 42=v88∧f 43=Value.int .i64 (len r32)∧f 44=Value.int .i64 ((iAA:Nat):Int)∧f 66=Value.bool t162_18) (by kernel_rfl) SAG.sl ?_ ?_
     ·
      intro wB1 rB2
      have SB3:=SAG.call rB2
      refine FB.t (i:=0) (bs 19 1) rfl (SP.nil ⟨_,(SB3.sel [1,2] (by decide) rfl),(Inc.rfl _)⟩) rfl (fun w' hw'=>(E.move kAN)) ?_
      refine FB.t (i:=1) (bs 19 3) rfl (SP.nil ⟨_,(SB3.sel [1,2] (by decide) rfl),(Inc.rfl _)⟩) rfl (fun w' hw'=>(E.nilCheck rfl)) ?_
      refine FB.t (i:=2) (bs 19 7) rfl (SP.nil ⟨_,(SB3.sel [1,2] (by decide) rfl),(Inc.rfl _)⟩) rfl (fun w' hw'=>(E.fieldAddr tf54_3 rfl)) ?_
      refine FB.t (i:=3) (bs 19 15) rfl (SP.nil ⟨_,(SB3.sel [1,2] (by decide) rfl),(Inc.rfl _)⟩) rfl (fun w' hw'=>(E.load rfl (zah Tryz.isAgg52 (SX.box_now hw' (i:=0) rfl) rfl))) ?_
      refine FB.t (i:=4) (bs 19 31) rfl (SP.nil ⟨_,(SB3.sel [1,2] (by decide) rfl),(Inc.rfl _)⟩) rfl (fun w' hw'=>(E.move (v:=vAY) rfl)) ?_
      refine FB.all1 (i:=5) (by kernel_rfl) ?_
      ·
       refine FC.call (l':=(bs 19 63)) rfl (by kernel_rfl) rfl rfl rfl (E.call Tryz.call45 (A1 rfl)) (zcp SB3.sl vAY yAz (hAZ.mono (iAs.tr iAH)) hrB5) ?_
       rintro e wB6 ⟨rfl,rB7⟩
       refine ⟨_,rfl,?_⟩
       have SB8:=SB3.call rB7
       refine ⟨(SP.nil ⟨_,(SB8.sel [1,2] (by decide) rfl),(Inc.rfl _)⟩),?_⟩
       obtain ⟨pB9,csBa,ptBb,lBc,atBd,relBe,hallBh⟩:=SB8.row_atA (i:=2) rfl elsAp (by decide) hxBg
       obtain rfl:=zbQ relBe
       refine FB.t (i:=6) (bs 19 127) rfl (SP.nil ⟨_,(SB8.sel [1,2] (by decide) rfl),(Inc.rfl _)⟩) rfl (fun w' hw'=>(E.indexAddr te52 rfl rfl ptBb)) ?_
       refine FB.t (i:=7) (bs 19 255) rfl (SP.nil ⟨_,(SB8.sel [1,2] (by decide) rfl),(Inc.rfl _)⟩) rfl (fun w' hw'=>(E.load rfl (zaf Tryz.isAgg4 (hw'.use fun _ st=>hallBh _ _ _ 1 st rfl) rfl))) ?_
       refine FB.t (i:=8) (bs 19 511) rfl (SP.nil ⟨_,(SB8.sel [1,2] (by decide) rfl),(Inc.rfl _)⟩) rfl (fun w' hw'=>(E.move (v:=Value.bool xBf) rfl)) ?_
       rcases ifB hqt162_18 with ⟨hc162_8,hqt162_18⟩|⟨hc162_8,hqt162_18⟩
       ·
        obtain ⟨rBn,hrBo,hqt162_18⟩:=bnd hqt162_18
        refine FB.t (i:=9) (bs 19 1023) rfl (SP.nil ⟨_,(SB8.sel [1,2] (by decide) rfl),(Inc.rfl _)⟩) (zab rfl rfl rfl hc162_8) (fun w' hw'=>(E.load kAM (zai Tryz.isAgg26 Tryz.sizeOf26 ((at28.mono (((i64.tr i98).tr iAs).tr iAH)).now hw'.sl) rfl))) ?_
        refine FB.t (i:=10) (bs 19 2047) rfl (SP.nil ⟨_,(SB8.sel [1,2] (by decide) rfl),(Inc.rfl _)⟩) (zab rfl rfl rfl hc162_8) (fun w' hw'=>(E.move kAL)) ?_
        refine FB.t (i:=11) (bs 19 4095) rfl (SP.nil ⟨_,(SB8.sel [1,2] (by decide) rfl),(Inc.rfl _)⟩) (zab rfl rfl rfl hc162_8) (fun w' hw'=>(E.move kAN)) ?_
        refine FB.t (i:=12) (bs 19 8191) rfl (SP.nil ⟨_,(SB8.sel [1,2] (by decide) rfl),(Inc.rfl _)⟩) (zab rfl rfl rfl hc162_8) (fun w' hw'=>(E.nilCheck rfl)) ?_
        refine FB.t (i:=13) (bs 19 16383) rfl (SP.nil ⟨_,(SB8.sel [1,2] (by decide) rfl),(Inc.rfl _)⟩) (zab rfl rfl rfl hc162_8) (fun w' hw'=>(E.fieldAddr tf54_3 rfl)) ?_
        refine FB.t (i:=14) (bs 19 32767) rfl (SP.nil ⟨_,(SB8.sel [1,2] (by decide) rfl),(Inc.rfl _)⟩) (zab rfl rfl rfl hc162_8) (fun w' hw'=>(E.load rfl (zah Tryz.isAgg52 (SX.box_now hw' (i:=0) rfl) rfl))) ?_
        refine FB.t (i:=15) (bs 19 65535) rfl (SP.nil ⟨_,(SB8.sel [1,2] (by decide) rfl),(Inc.rfl _)⟩) (zab rfl rfl rfl hc162_8) (fun w' hw'=>(E.move (v:=vAY) rfl)) ?_
        refine FB.all1 (i:=16) (by kernel_rfl) ?_
        ·
         obtain ⟨HBi,SBj,iBk,hBl,nvBm⟩:=SB8.sealRowU (i:=2) (l':=[.row 3 1 vAi nAj csAk,.box b51 54 [Value.int .i64 a0.vars,v86,Value.int .i64 a1,v88,vAm,vAi],.row 3 1 vAB nAC csAD]) rfl (elsAp.mono (zag iAH)) (by decide) rfl
         refine FC.call (l':=(bs 19 131071)) rfl (by kernel_rfl) (zab rfl rfl rfl hc162_8) rfl rfl (E.call Tryz.call46 (A4 rfl rfl rfl rfl)) (zeY SBj.sl a0 v0_1 (p0_1.mono (((((i27.tr i64).tr i98).tr iAs).tr iAH).tr iBk)) a1 vAm sAh.2.1 (hBl.mono upI) vAY yAz (hAZ.mono ((iAs.tr iAH).tr iBk)) hrBo) ?_
         rintro e wBp ⟨rfl,rBq⟩
         refine ⟨_,rfl,?_⟩
         have rBq:=Run.lend iBk SB8.sl rBq
         have SBr:=SB8.call rBq
         refine ⟨(SP.nil ⟨_,(SBr.sel [1,2] (by decide) rfl),(Inc.rfl _)⟩),?_⟩
         refine FB.t (i:=17) (bs 19 262143) rfl (SP.nil ⟨_,(SBr.sel [1,2] (by decide) rfl),(Inc.rfl _)⟩) (zab rfl rfl rfl hc162_8) (fun w' hw'=>(E.not rfl)) ?_
         refine FB.t (i:=18) (bs 19 524287) rfl (SP.nil ⟨_,(SBr.sel [1,2] (by decide) rfl),(Inc.rfl _)⟩) rfl (fun w' hw'=>(E.asB (E.pickT rfl hc162_8 rfl) (Option.some.inj hqt162_18))) ?_
         exact FB.done (by kernel_rfl) ⟨_,SBr,(Inc.rfl _),kAL,kAM,kAN,kAO,kAP,rfl,kAQ,kAR,kAK,rfl⟩
       ·
        refine FB.skip (i:=9) (l':=(bs 19 1023)) rfl (by kernel_rfl) (by kernel_rfl) (by kernel_rfl) (by kernel_rfl) (by kernel_rfl) (SP.nil ⟨_,(SB8.sel [1,2] (by decide) rfl),(Inc.rfl _)⟩) (wF_no rfl rfl rfl hc162_8) rfl rfl ?_
        refine FB.skip (i:=10) (l':=(bs 19 2047)) rfl (by kernel_rfl) (by kernel_rfl) (by kernel_rfl) (by kernel_rfl) (by kernel_rfl) (SP.nil ⟨_,(SB8.sel [1,2] (by decide) rfl),(Inc.rfl _)⟩) (wF_no rfl rfl rfl hc162_8) rfl rfl ?_
        refine FB.skip (i:=11) (l':=(bs 19 4095)) rfl (by kernel_rfl) (by kernel_rfl) (by kernel_rfl) (by kernel_rfl) (by kernel_rfl) (SP.nil ⟨_,(SB8.sel [1,2] (by decide) rfl),(Inc.rfl _)⟩) (wF_no rfl rfl rfl hc162_8) rfl rfl ?_
        refine FB.skip (i:=12) (l':=(bs 19 8191)) rfl (by kernel_rfl) (by kernel_rfl) (by kernel_rfl) (by kernel_rfl) (by kernel_rfl) (SP.nil ⟨_,(SB8.sel [1,2] (by decide) rfl),(Inc.rfl _)⟩) (wF_no rfl rfl rfl hc162_8) rfl rfl ?_
        refine FB.skip (i:=13) (l':=(bs 19 16383)) rfl (by kernel_rfl) (by kernel_rfl) (by kernel_rfl) (by kernel_rfl) (by kernel_rfl) (SP.nil ⟨_,(SB8.sel [1,2] (by decide) rfl),(Inc.rfl _)⟩) (wF_no rfl rfl rfl hc162_8) rfl rfl ?_
        refine FB.skip (i:=14) (l':=(bs 19 32767)) rfl (by kernel_rfl) (by kernel_rfl) (by kernel_rfl) (by kernel_rfl) (by kernel_rfl) (SP.nil ⟨_,(SB8.sel [1,2] (by decide) rfl),(Inc.rfl _)⟩) (wF_no rfl rfl rfl hc162_8) rfl rfl ?_
        refine FB.skip (i:=15) (l':=(bs 19 65535)) rfl (by kernel_rfl) (by kernel_rfl) (by kernel_rfl) (by kernel_rfl) (by kernel_rfl) (SP.nil ⟨_,(SB8.sel [1,2] (by decide) rfl),(Inc.rfl _)⟩) (wF_no rfl rfl rfl hc162_8) rfl rfl ?_
        refine FB.skip (i:=16) (l':=(bs 19 131071)) rfl (by kernel_rfl) (by kernel_rfl) (by kernel_rfl) (by kernel_rfl) (by kernel_rfl) (SP.nil ⟨_,(SB8.sel [1,2] (by decide) rfl),(Inc.rfl _)⟩) (wF_no rfl rfl rfl hc162_8) rfl rfl ?_
        refine FB.skip (i:=17) (l':=(bs 19 262143)) rfl (by kernel_rfl) (by kernel_rfl) (by kernel_rfl) (by kernel_rfl) (by kernel_rfl) (SP.nil ⟨_,(SB8.sel [1,2] (by decide) rfl),(Inc.rfl _)⟩) (wF_no rfl rfl rfl hc162_8) rfl rfl ?_
        refine FB.t (i:=18) (bs 19 524287) rfl (SP.nil ⟨_,(SB8.sel [1,2] (by decide) rfl),(Inc.rfl _)⟩) rfl (fun w' hw'=>(E.asB (E.pickF rfl hc162_8 rfl) (Option.some.inj hqt162_18))) ?_
        exact FB.done (by kernel_rfl) ⟨_,SB8,(Inc.rfl _),kAL,kAM,kAN,kAO,kAP,rfl,kAQ,kAR,kAK,rfl⟩
     ·
      rintro fBw wBv ⟨HBs,SBt,iBu,kBx,kBy,kBz,kBA,kBB,kBC,kBD,kBE,kBF,kBG⟩
      rcases ifB hp with ⟨cBH,hp⟩|⟨cBH,hp⟩
      ·
       refine FW.condT kBG cBH ?_
       refine FW.region ?_
       refine FL.v (E.move kBB) ?_
       refine FL.v (E.move kBC) ?_
       obtain ⟨rBI,hrBJ,hp⟩:=bnd hp
       refine FL.call rfl rfl rfl (E.call Tryz.call45 (A1 rfl)) (zcp SBt.sl vAY yAz (hAZ.mono ((iAs.tr iAH).tr iBu)) hrBJ) ?_
       rintro e wBK ⟨rfl,rBL⟩
       refine ⟨_,rfl,?_⟩
       have SBM:=SBt.call rBL
       obtain ⟨vBN,wBO,runBP,SBQ,elsBR⟩:=SBM.ints (P:=Tryz.prog) te34 (up wa.heap.size HBs) 1 [rBI]
       refine FL.v (E.buildSlice (B1 rfl) runBP) ?_
       obtain ⟨xsBS,hzBT,hp⟩:=bnd hp
       obtain ⟨vBU,wBX,nBV,csBW,runBY,SBZ,elsC0,ceC1⟩:=SBQ.appendO (P:=Tryz.prog) te34 (i:=4) (j:=0) rfl (elsAE.mono (zag iBu)) rfl elsBR hzBT
       have SBZ:St Ha wa HBs wBX [.row 3 1 vBN 1 (iC [rBI]),.row 3 1 vAi nAj csAk,.box b51 54 [Value.int .i64 a0.vars,v86,Value.int .i64 a1,v88,vAm,vAi],.row 4 1 vAm nAn csAo,.row 3 1 vBU nBV csBW]:=SBZ
       have SC2:St Ha wa HBs wBX [.row 3 1 vAi nAj csAk,.box b51 54 [Value.int .i64 a0.vars,v86,Value.int .i64 a1,v88,vAm,vAi],.row 4 1 vAm nAn csAo,.row 3 1 vBU nBV csBW]:=SBZ.drop 0
       refine FL.v (E.append rfl rfl runBY) ?_
       refine FL.v (E.assign (v:=vBU) rfl) ?_
       refine FL.nil (FW.region ?_)
       refine FL.v (E.add kBF rfl) ?_
       refine FL.v (E.move (v:=Value.int .i64 (wr (((iAA:Nat):Int) + 1))) rfl) ?_
       refine FL.nil ?_
       obtain rfl:=Option.some.inj hp
       exact ⟨rfl,⟨_,_,_,_,SC2,(iAH.tr iBu),elsC0,(zap rfl (zaq hxAA) (h89.mono ((iAs.tr iAH).tr iBu)).le),kBx,kBy,kBz,kBA,rfl,kBD,kBE⟩⟩
      ·
       refine FW.condF kBG cBH ?_
       refine FW.skip (FW.region ?_)
       refine FL.v (E.add kBF rfl) ?_
       refine FL.v (E.move (v:=Value.int .i64 (wr (((iAA:Nat):Int) + 1))) rfl) ?_
       refine FL.nil ?_
       obtain rfl:=Option.some.inj hp
       exact ⟨rfl,⟨_,_,_,_,SBt,(iAH.tr iBu),(elsAE.mono (zag iBu)),(zap rfl (zaq hxAA) (h89.mono ((iAs.tr iAH).tr iBu)).le),kBx,kBy,kBz,kBA,kBB,kBD,kBE⟩⟩
    ·
     clear hp hq
     rintro sAA fDT wDS ⟨HDP,vAB,nAC,csAD,SDQ,iDR,elsAE,kDU,kDV,kDW,kDX,kDY,kDZ,kE0,kE1⟩
     refine FW.seq (FW.region ?_)
     refine FL.v (E.lss kDU kE1) ?_
     refine FL.nil (FW.seq ?_)
     refine FW.condF rfl zax ?_
     refine FW.exit ?_
     exact ⟨nofun,rfl,⟨_,_,_,_,SDQ,iDR,elsAE,kDV,kDW,kDX,kDY,kDZ⟩⟩
    ·
     clear hq
     intro e fC8 wC7 hD
     rcases qAA with sAA|xAA
     ·
      obtain ⟨rfl,hD⟩:=hD
      obtain ⟨HC4,vAB,nAC,csAD,SC5,iC6,elsAE,kC9,kCa,kCb,kCc,kCd⟩:=hD
      replace hp:=el_go hp
      refine FW.seq (FW.seq (FW.region ?_))
      refine FL.v (E.move kCd) ?_
      refine FL.v (E.lenO te34 rfl SC5 (i:=3) rfl elsAE (by decide)) ?_
      refine FL.v (E.eql rfl rfl) ?_
      refine FL.nil ?_
      rcases ifB hp with ⟨cCe,hp⟩|⟨cCe,hp⟩
      ·
       refine FW.condT rfl cCe ?_
       refine FW.seq (FW.region ?_)
       refine FL.v (E.move kCb) ?_
       refine FL.v (E.assign (v:=Value.pointer (some (⟨b51,0,none⟩:Addr))) rfl) ?_
       refine FL.nil ?_
       refine FW.ret ?_
       obtain ⟨HCf,SCg,iCh,hCi,nvCj⟩:=SC5.sealRowU (i:=2) (l':=[.row 3 1 vAi nAj csAk,.box b51 54 [Value.int .i64 a0.vars,v86,Value.int .i64 a1,v88,vAm,vAi],.row 3 1 vAB nAC csAD]) rfl (elsAp.mono (zag iC6)) (by decide) rfl
       obtain ⟨HCk,SCl,iCm,hCn,nvCo⟩:=SCg.sealRowU (i:=0) (l':=[.box b51 54 [Value.int .i64 a0.vars,v86,Value.int .i64 a1,v88,vAm,vAi],.row 3 1 vAB nAC csAD]) rfl (elsAl.mono (zag (iC6.tr iCh))) (by decide) rfl
       obtain ⟨HCp,SCq,iCr,atCs⟩:=SCl.sealBox (i:=0) (l':=[.row 3 1 vAB nAC csAD]) rfl rfl
       obtain rfl:=Option.some.inj hp
       exact ⟨nofun,rfl,⟨.inr rfl,res1 rfl rfl ⟨_,_,rfl,SCq.run,⟨_,rfl,_,_,_,_,(h87.mono ((((iAs.tr iC6).tr iCh).tr iCm).tr iCr)),(h89.mono ((((iAs.tr iC6).tr iCh).tr iCm).tr iCr)),(hCi.mono (zag (iCm.tr iCr))),(hCn.mono (zag iCr)),atCs⟩⟩⟩⟩
      ·
       refine FW.condF rfl cCe ?_
       refine FW.skip (FW.seq (FW.region ?_))
       refine FL.v (E.move kCd) ?_
       refine FL.v (E.lenO te34 rfl SC5 (i:=3) rfl elsAE (by decide)) ?_
       refine FL.v (E.move (v:=Value.int .i64 0) rfl) ?_
       refine FL.nil ?_
       obtain ⟨m253,hchkCu,hp⟩:=bnd hp
       obtain ⟨qCu,hq,hp⟩:=bndR hp
       refine FW.block ?_
       refine FW.mono (FW.forR (S:=((List Int)×(List Bool))) (X:=Empty) (fun (iCu:Nat) (sCu:((List Int)×(List Bool))) f w=>∃ H:GH,∃ vCv:Value,∃ nCw:Nat,∃ csCx:List Value,∃ vCz:Value,∃ nCA:Nat,∃ csCB:List Value,St Ha wa H w [.row 3 1 vCv nCw csCx,.box b51 54 [Value.int .i64 a0.vars,v86,Value.int .i64 a1,v88,vCz,vCv],.row 4 1 vCz nCA csCB,.row 3 1 vAB nAC csAD]∧Inc HC4 H∧Els (up wa.heap.size H) eI 1 csCx sCu.1∧Els (up wa.heap.size H) eB 1 csCB sCu.2∧f 79=Value.int .i64 ((iCu:Nat):Int)∧f 1=Value.int .i64 a1∧f 2=Value.pointer (some ⟨b21,0,none⟩)∧f 5=Value.pointer (some (⟨b51,0,none⟩:Addr))∧f 6=Value.int .i64 sAh.2.2∧f 77=vAB∧f 78=Value.int .i64 (len sAA)) (fun (q:Rs ((List Int)×(List Bool)) Empty) e f w=>match q with|.go sCu=>e=Exit.exit 4∧(∃ H:GH,∃ vCv:Value,∃ nCw:Nat,∃ csCx:List Value,∃ vCz:Value,∃ nCA:Nat,∃ csCB:List Value,St Ha wa H w [.row 3 1 vCv nCw csCx,.box b51 54 [Value.int .i64 a0.vars,v86,Value.int .i64 a1,v88,vCz,vCv],.row 4 1 vCz nCA csCB,.row 3 1 vAB nAC csAD]∧Inc HC4 H∧Els (up wa.heap.size H) eI 1 csCx sCu.1∧Els (up wa.heap.size H) eB 1 csCB sCu.2∧f 1=Value.int .i64 a1∧f 2=Value.pointer (some ⟨b21,0,none⟩)∧f 5=Value.pointer (some (⟨b51,0,none⟩:Addr))∧f 6=Value.int .i64 sAh.2.2)|.rt x=>x.elim) hq ⟨_,_,_,_,_,_,_,SC5,(Inc.rfl _),(elsAl.mono (zag iC6)),(elsAp.mono (zag iC6)),rfl,kC9,kCa,kCb,kCc,rfl,rfl⟩ ?_ ?_) ?_
       ·
        clear hp hq
        rintro iCu sCu fCH wCG ⟨HCD,vCv,nCw,csCx,vCz,nCA,csCB,SCE,iCF,elsCy,elsCC,kCI,kCJ,kCK,kCL,kCM,kCN,kCO⟩ hi254 hjCu oDt hp
        refine FW.seq (FW.region ?_)
        refine FL.v (E.lssT kCI kCO (lss_chk hjCu hchkCu)) ?_
        refine FL.nil (FW.seq ?_)
        refine FW.condT rfl rfl ?_
        refine FW.skip (FW.seq (FW.block (FW.seq (FW.region ?_))))
        obtain ⟨xCV,hxCW,hp⟩:=bnd hp
        obtain ⟨pCP,csCQ,ptCR,lCS,atCT,relCU⟩:=SCE.row_at (i:=3) rfl elsAE (by decide) hxCW
        obtain rfl:=zam relCU
        refine FL.v (E.indexAddr te34 kCN kCI ptCR) ?_
        refine FL.v (E.load rfl (zaf Tryz.isAgg3 atCT rfl)) ?_
        refine FL.v (E.assign (v:=Value.int .i64 xCV) rfl) ?_
        refine FL.nil (FW.seq (FW.region ?_))
        refine FL.v (E.move kCL) ?_
        refine FL.v (E.nilCheck rfl) ?_
        refine FL.v (E.fieldAddr tf54_3 rfl) ?_
        refine FL.v (E.load rfl (zah Tryz.isAgg52 (SCE.box_now (i:=1) rfl) rfl)) ?_
        refine FL.v (E.move (v:=Value.int .i64 xCV) rfl) ?_
        obtain ⟨xD3,hxD4,hp⟩:=bnd hp
        obtain ⟨pCX,csCY,ptCZ,lD0,atD1,relD2⟩:=SCE.row_at (i:=2) rfl elsCC (by decide) hxD4
        obtain rfl:=zbQ relD2
        refine FL.v (E.indexAddr te52 rfl rfl ptCZ) ?_
        obtain ⟨xsD8,hputD9,hp⟩:=bnd hp
        obtain ⟨wD5,csDb,runD6,SD7,elsDa,ceDc⟩:=SCE.putEls (P:=Tryz.prog) (t:=4) (i:=2) rfl elsCC hputD9 ptCZ Tryz.sizeOf4 (u:=Value.bool false) (c:=[Value.bool false]) rfl rfl (zac rfl zad) rfl
        have SD7:St Ha wa HCD wD5 [.row 3 1 vCv nCw csCx,.box b51 54 [Value.int .i64 a0.vars,v86,Value.int .i64 a1,v88,vCz,vCv],.row 4 1 vCz nCA csDb,.row 3 1 vAB nAC csAD]:=SD7
        refine FL.act rfl rfl (E.store rfl rfl runD6) ?_
        refine FL.nil (FW.region ?_)
        refine FL.v (E.move kCL) ?_
        refine FL.v (E.nilCheck rfl) ?_
        refine FL.v (E.fieldAddr tf54_4 rfl) ?_
        refine FL.v (E.load rfl (zah Tryz.isAgg34 (SD7.box_now (i:=1) rfl) rfl)) ?_
        refine FL.v (E.move (v:=Value.int .i64 xCV) rfl) ?_
        refine FL.v (E.move kCM) ?_
        obtain ⟨xDj,hxDk,hp⟩:=bnd hp
        obtain ⟨pDd,csDe,ptDf,lDg,atDh,relDi⟩:=SD7.row_at (i:=0) rfl elsCy (by decide) hxDk
        obtain rfl:=zam relDi
        refine FL.v (E.indexAddr te34 rfl rfl ptDf) ?_
        obtain ⟨xsDo,hputDp,hp⟩:=bnd hp
        obtain ⟨wDl,csDr,runDm,SDn,elsDq,ceDs⟩:=SD7.putEls (P:=Tryz.prog) (t:=3) (i:=0) rfl elsCy hputDp ptDf Tryz.sizeOf3 (u:=Value.int .i64 sAh.2.2) (c:=[Value.int .i64 sAh.2.2]) rfl rfl (zac rfl zad) rfl
        have SDn:St Ha wa HCD wDl [.row 3 1 vCv nCw csDr,.box b51 54 [Value.int .i64 a0.vars,v86,Value.int .i64 a1,v88,vCz,vCv],.row 4 1 vCz nCA csDb,.row 3 1 vAB nAC csAD]:=SDn
        refine FL.act rfl rfl (E.store rfl rfl runDm) ?_
        refine FL.nil (FW.region ?_)
        refine FL.v (E.add kCI rfl) ?_
        refine FL.v (E.move (v:=Value.int .i64 (wr (((iCu:Nat):Int) + 1))) rfl) ?_
        refine FL.nil ?_
        obtain rfl:=Option.some.inj hp
        exact ⟨rfl,⟨_,_,_,_,_,_,_,SDn,iCF,elsDq,elsDa,(zap rfl hjCu (chk_le hchkCu)),kCJ,kCK,kCL,kCM,kCN,kCO⟩⟩
       ·
        clear hp hq
        rintro sCu fDH wDG ⟨HDD,vCv,nCw,csCx,vCz,nCA,csCB,SDE,iDF,elsCy,elsCC,kDI,kDJ,kDK,kDL,kDM,kDN,kDO⟩
        refine FW.seq (FW.region ?_)
        refine FL.v (E.lss kDI kDO) ?_
        refine FL.nil (FW.seq ?_)
        refine FW.condF rfl (zc1 hchkCu) ?_
        refine FW.exit ?_
        exact ⟨nofun,rfl,⟨_,_,_,_,_,_,_,SDE,iDF,elsCy,elsCC,kDJ,kDK,kDL,kDM⟩⟩
       ·
        clear hq
        intro e fDy wDx hD
        rcases qCu with sCu|xCu
        ·
         obtain ⟨rfl,hD⟩:=hD
         obtain ⟨HDu,vCv,nCw,csCx,vCz,nCA,csCB,SDv,iDw,elsCy,elsCC,kDz,kDA,kDB,kDC⟩:=hD
         replace hp:=el_go hp
         refine FW.region ?_
         refine FL.v (E.move kDC) ?_
         refine FL.v (E.add rfl rfl) ?_
         refine FL.v (E.assign (v:=Value.int .i64 (wr (sAh.2.2 + 1))) rfl) ?_
         refine FL.nil ?_
         obtain rfl:=Option.some.inj hp
         exact ⟨rfl,⟨_,_,_,_,_,_,_,(SDv.sel [0,1,2] (by decide) rfl),((iAs.tr iC6).tr iDw),elsCy,elsCC,kDz,kDA,kDB,rfl⟩⟩
        ·
         exact xCu.elim
     ·
      exact xAA.elim
   ·
    clear hq
    intro e fE7 wE6 hD
    rcases qAh with sAh|xAh
    ·
     obtain ⟨rfl,hD⟩:=hD
     obtain ⟨HE3,vAi,nAj,csAk,vAm,nAn,csAo,SE4,iE5,elsAl,elsAp⟩:=hD
     replace hp:=el_go hp
     cases hp
    ·
     obtain ⟨he,hL⟩:=hD
     replace hp:=el_rt hp
     obtain rfl:=Option.some.inj hp
     subst he
     exact hL

@[reducible] def p_impl_cloneLists (Ha:GH) (wa:World) (r:(List (List Int))):Ending→World→Prop :=
 fun e w'=>∃ H':GH,∃ v0:Value,∃ n0:Nat,∃ c0:List Value,e=.returned (v0)∧St Ha wa H' w' [.row 34 1 v0 n0 c0]∧Els (up wa.heap.size H') (eL eI 1) 1 c0 r∧(bl c0).Nodup
theorem zeZ {Ha:GH} {wa:World} (hs:Sl Ha wa) (v0:Value) (a0:List (List Int)) (p0:RSl Ha (eL eI 1) 1 v0 a0) {r:(List (List Int))} (hp:(PF.zcJ a0)=some r) :
  Calls Tryz.prog 30 #[v0] wa (p_impl_cloneLists Ha wa r):=by
 unfold PF.zcJ at hp
 have S0:=St.init hs
 refine zae (N:=19) (args:=[v0]) Tryz.func30 rfl rfl rfl ?_
 refine FW.seq (FW.region ?_)
 refine FL.v (E.assign (v:=Value.slice none 0 0) rfl) ?_
 refine FL.nil (FW.seq (FW.region ?_))
 refine FL.v (E.assign (v:=Value.slice none 0 0) rfl) ?_
 refine FL.nil (FW.seq (FW.seq (FW.region ?_)))
 refine FL.v (E.move (v:=v0) rfl) ?_
 refine FL.v (E.lenP te24 rfl p0) ?_
 refine FL.v (E.move (v:=Value.int .i64 0) rfl) ?_
 refine FL.nil ?_
 obtain ⟨q22,hq,hp⟩:=bndR hp
 refine FW.block ?_
 refine FW.mono (FW.forL (S:=(List (List Int))) (X:=Empty) (fun (i22:Nat) (s22:(List (List Int))) f w=>∃ H:GH,∃ v23:Value,∃ n24:Nat,∃ cs25:List Value,St Ha wa H w [.row 34 1 v23 n24 cs25]∧Inc Ha H∧Els (up wa.heap.size H) (eL eI 1) 1 cs25 s22∧(bl cs25).Nodup∧f 8=Value.int .i64 ((i22:Nat):Int)∧f 3=v23∧f 6=v0∧f 7=Value.int .i64 (len a0)) (fun (q:Rs (List (List Int)) Empty) e f w=>match q with|.go s22=>e=Exit.exit 0∧(∃ H:GH,∃ v23:Value,∃ n24:Nat,∃ cs25:List Value,St Ha wa H w [.row 34 1 v23 n24 cs25]∧Inc Ha H∧Els (up wa.heap.size H) (eL eI 1) 1 cs25 s22∧(bl cs25).Nodup∧f 3=v23)|.rt x=>x.elim) hq ⟨_,_,_,_,(S0.nil 34 1),(Inc.rfl _),Els.nil,List.nodup_nil,rfl,rfl,rfl,rfl⟩ ?_ ?_) ?_
 ·
  clear hp hq
  rintro i22 y21 s22 f82 w81 ⟨H78,v23,n24,cs25,S79,i80,els26,nd27,k83,k84,k85,k86⟩ hx22 oAs hp
  refine FW.seq (FW.region ?_)
  refine FL.v (E.lssT k83 k86 (zaw hx22)) ?_
  refine FL.nil (FW.seq ?_)
  refine FW.condT rfl rfl ?_
  refine FW.skip (FW.seq (FW.block (FW.seq (FW.region ?_))))
  obtain ⟨p87,cs88,pt89,l90,at91,rel92⟩:=p0.at (zal hx22)
  obtain ⟨v93,rfl,h94⟩:=zav rel92
  refine FL.v (E.indexAddr te24 k85 k83 pt89) ?_
  refine FL.v (E.load rfl (zaf Tryz.isAgg34 ((at91.mono i80).now S79.sl) rfl)) ?_
  refine FL.v (E.assign (v:=v93) rfl) ?_
  refine FL.nil (FW.region ?_)
  refine FL.v (E.move k84) ?_
  refine FL.v (E.move (v:=v93) rfl) ?_
  obtain ⟨r95,hr96,hp⟩:=bnd hp
  refine FL.call rfl rfl rfl (E.call Tryz.call54 (A1 rfl)) (zdW S79.sl v93 y21 (h94.mono i80) hr96) ?_
  rintro e w98 ⟨H97,vA1,nA2,csA3,rfl,rA0,elsA4⟩
  refine ⟨_,rfl,?_⟩
  have elsA4:=elsA4.mono (up_le S79.size)
  have S99:=S79.join (l':=[.row 3 1 vA1 nA2 csA3,.row 34 1 v23 n24 cs25]) rA0 rfl
  obtain ⟨HA5,SA6,iA7,hA8,nvA9⟩:=S99.sealRowU (i:=0) (l':=[.row 34 1 v23 n24 cs25]) rfl elsA4 (by decide) rfl
  obtain ⟨vAa,wAb,runAc,SAd⟩:=SA6.buildSlice (P:=Tryz.prog) te24 [vA1] (parts:=#[(0,vA1)]) (cells:=[vA1]) rfl (zat (zaH hA8.cells) zao) (zas hA8.cells zan) (zac hA8.one zad) (Nat.le_of_ble_eq_true rfl)
  have elsAe:Els (up wa.heap.size HA5) (eL eI 1) 1 [vA1] [r95]:=(Els.snoc (H:=(up wa.heap.size HA5)) (E:=(eL eI 1)) (k:=1) (c:=[vA1]) (x:=r95) Els.nil rfl ⟨_,rfl,hA8⟩)
  have ndAf:(bl [vA1]).Nodup:=by exact za5 vA1
  refine FL.v (E.buildSlice (B1 rfl) runAc) ?_
  obtain ⟨xsAg,hzAh,hp⟩:=bnd hp
  obtain ⟨vAi,wAl,nAj,csAk,runAm,SAn,elsAo,ceAp⟩:=SAd.appendO (P:=Tryz.prog) te24 (i:=1) (j:=0) rfl (els26.mono (zag (rA0.run.inc.tr iA7))) rfl elsAe hzAh
  have SAn:St Ha wa HA5 wAl [.row 34 1 vAa 1 [vA1],.row 34 1 vAi nAj csAk]:=SAn
  have ndAq:(bl csAk).Nodup:=by rw [ceAp];exact zba nd27 ndAf (Els.dom (els26.mono (upI.tr rA0.run.inc))) (by exact nvA9)
  have SAr:St Ha wa HA5 wAl [.row 34 1 vAi nAj csAk]:=SAn.drop 0
  refine FL.v (E.append rfl rfl runAm) ?_
  refine FL.v (E.assign (v:=vAi) rfl) ?_
  refine FL.nil (FW.region ?_)
  refine FL.v (E.add k83 rfl) ?_
  refine FL.v (E.move (v:=Value.int .i64 (wr (((i22:Nat):Int) + 1))) rfl) ?_
  refine FL.nil ?_
  obtain rfl:=Option.some.inj hp
  exact ⟨rfl,⟨_,_,_,_,SAr,((i80.tr rA0.run.inc).tr iA7),elsAo,ndAq,(zap rfl (zaq hx22) (p0.mono ((i80.tr rA0.run.inc).tr iA7)).le),rfl,k85,k86⟩⟩
 ·
  clear hp hq
  rintro s22 fAD wAC ⟨HAz,v23,n24,cs25,SAA,iAB,els26,nd27,kAE,kAF,kAG,kAH⟩
  refine FW.seq (FW.region ?_)
  refine FL.v (E.lss kAE kAH) ?_
  refine FL.nil (FW.seq ?_)
  refine FW.condF rfl zax ?_
  refine FW.exit ?_
  exact ⟨nofun,rfl,⟨_,_,_,_,SAA,iAB,els26,nd27,kAF⟩⟩
 ·
  clear hq
  intro e fAx wAw hD
  rcases q22 with s22|x22
  ·
   obtain ⟨rfl,hD⟩:=hD
   obtain ⟨HAt,v23,n24,cs25,SAu,iAv,els26,nd27,kAy⟩:=hD
   replace hp:=el_go hp
   refine FW.seq (FW.region ?_)
   refine FL.v (E.move kAy) ?_
   refine FL.v (E.assign (v:=v23) rfl) ?_
   refine FL.nil ?_
   refine FW.ret ?_
   obtain rfl:=Option.some.inj hp
   exact ⟨.inr rfl,res1 rfl rfl ⟨_,_,_,_,rfl,SAu,els26,nd27⟩⟩
  ·
   exact x22.elim

end Go.Proofs
