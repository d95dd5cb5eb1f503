/- Part of the walks and plain laws behind the claim: it proves helpers, under no condition beyond their own. -/
import Derived.Test.YtcnboephmehppaaGreatPcWk1
set_option linter.unusedVariables false
set_option maxRecDepth 100000
namespace Go.Proofs
open Go.Mr Go.Pu Go.PF Go.RowKit

@[reducible] def p_spec_l1Cur_cnf (H0:GH) (w0:World) (Ha:GH) (L:List MO) (b0:Nat) (r:(Cnf×l1Cur)):Ending→World→Prop :=
 fun e w'=>∃ H':GH,∃ v0_1:Value,∃ v0_0r:Value,e=.returned (Value.agg #[Value.int .i64 r.1.vars,v0_1])∧(St H0 w0 H' w' (.box b0 94 [v0_0r,Value.int .i64 r.2.at_,Value.int .u64 r.2.seed]::L)∧Inc Ha H')∧RSl (up w0.heap.size H') (eL eI 1) 1 v0_1 r.1.clauses∧RSl H' (eN .u8) 1 v0_0r r.2.code
set_option maxHeartbeats 4000000 in
theorem w_spec_l1Cur_cnf {H0 Ha:GH} {w0 wa:World} {L:List MO} {a0:l1Cur} {b0:Nat} {v0_0:Value} (S0:St H0 w0 Ha wa (.box b0 94 [v0_0,Value.int .i64 a0.at_,Value.int .u64 a0.seed]::L)) (p0_0:RSl Ha (eN .u8) 1 v0_0 a0.code) {r:(Cnf×l1Cur)} (hp:(PF.zcJ a0)=some r) :
  Calls Tryz.prog 106 #[Value.pointer (some (⟨b0,0,none⟩:Addr))] wa (p_spec_l1Cur_cnf H0 w0 Ha L b0 r):=by
 unfold PF.zcJ at hp
 refine zah (N:=76) (args:=[Value.pointer (some (⟨b0,0,none⟩:Addr))]) Tryz.func106 rfl rfl rfl ?_
 refine FW.seq (FW.region ?_)
 obtain ⟨b21,w22,run23,S24⟩:=S0.alloc (P:=Tryz.prog) 26 [Value.int .i64 0,Value.slice none 0 0] Tryz.zeroValue26 rfl (zaa rfl (zaa rfl zad))
 refine FL.v (E.alloc run23) ?_
 refine FL.nil (FW.seq (FW.seq (FW.region ?_)))
 refine FL.v (E.move (v:=Value.pointer (some (⟨b0,0,none⟩:Addr))) rfl) ?_
 obtain ⟨r25,hr26,hp⟩:=bnd hp
 have S27:St H0 w0 Ha w22 (.box b0 94 [v0_0,Value.int .i64 a0.at_,Value.int .u64 a0.seed]::.box b21 26 [Value.int .i64 0,Value.slice none 0 0]::L):=S24.front 1 rfl rfl
 refine FL.call rfl rfl rfl (E.call Tryz.call164 (A2 rfl rfl)) (zde (L:=(.box b21 26 [Value.int .i64 0,Value.slice none 0 0]::L)) S27 (a0:=a0) p0_0 4 hr26) ?_
 rintro e w29 ⟨H28,v32,rfl,⟨S30,i31⟩,h33⟩
 refine ⟨_,rfl,?_⟩
 have S30:St H0 w0 H28 w29 (.box b0 94 [v32,Value.int .i64 r25.2.at_,Value.int .u64 r25.2.seed]::.box b21 26 [Value.int .i64 0,Value.slice none 0 0]::L):=S30
 refine FL.nil ?_
 rcases ifB hp with ⟨c34,hp⟩|⟨c34,hp⟩
 ·
  refine FW.condT rfl c34 ?_
  refine FW.seq (FW.region ?_)
  refine FL.v (E.move (v:=Value.pointer (some (⟨b0,0,none⟩:Addr))) rfl) ?_
  obtain ⟨r35,hr36,hp⟩:=bnd hp
  refine FL.call rfl rfl rfl (E.call Tryz.call180 (A1 rfl)) (w_spec_l1Cur_hard (L:=(.box b21 26 [Value.int .i64 0,Value.slice none 0 0]::L)) S30 (a0:=r25.2) h33 hr36) ?_
  rintro e w38 ⟨H37,v41,v43,rfl,⟨S39,i40⟩,⟨_,⟨h42,_⟩⟩,h44⟩
  refine ⟨_,rfl,?_⟩
  have S39:St H0 w0 H37 w38 (.box b0 94 [v43,Value.int .i64 r35.2.at_,Value.int .u64 r35.2.seed]::.box b21 26 [Value.int .i64 0,Value.slice none 0 0]::L):=S39
  obtain ⟨w45,run46,S47⟩:=S39.store0 (P:=Tryz.prog) (t:=26) (i:=1) (cs':=[Value.int .i64 r35.1.vars,v41]) (l':=(.box b0 94 [v43,Value.int .i64 r35.2.at_,Value.int .u64 r35.2.seed]::.box b21 26 [Value.int .i64 r35.1.vars,v41]::L)) (v:=Value.agg #[Value.int .i64 r35.1.vars,v41]) (c:=[Value.int .i64 r35.1.vars,v41]) rfl Tryz.sizeOf26 rfl rfl (zaa rfl (zaa h42.one zad)) (Nat.le_of_ble_eq_true rfl) rfl rfl
  refine FL.act rfl rfl (E.store rfl rfl run46) ?_
  refine FL.nil ?_
  refine FW.ret ?_
  obtain rfl:=Option.some.inj hp
  exact ⟨.inr rfl,resC rfl rfl (zaA Tryz.isAgg26 Tryz.sizeOf26 (S47.box_now (i:=1) rfl) rfl) ⟨_,_,_,rfl,⟨(S47.selT (a:=[.box b0 94 [v43,Value.int .i64 r35.2.at_,Value.int .u64 r35.2.seed],.box b21 26 [Value.int .i64 r35.1.vars,v41]]) (l':=[.box b0 94 [v43,Value.int .i64 r35.2.at_,Value.int .u64 r35.2.seed]]) [0] (by decide) rfl),(i31.tr i40)⟩,h42,h44⟩⟩
 ·
  refine FW.condF rfl c34 ?_
  refine FW.skip (FW.seq (FW.region ?_))
  refine FL.v (E.move (v:=Value.pointer (some (⟨b0,0,none⟩:Addr))) rfl) ?_
  obtain ⟨v48,w49,run50,S51,els52⟩:=S30.ints (P:=Tryz.prog) te34 (up w0.heap.size H28) 5 [2,3,3,4,5]
  refine FL.v (E.buildSlice (B5 rfl rfl rfl rfl rfl) run50) ?_
  obtain ⟨H53,S54,i55,h56,nv57⟩:=S51.sealRowU (i:=0) (l':=(.box b0 94 [v32,Value.int .i64 r25.2.at_,Value.int .u64 r25.2.seed]::.box b21 26 [Value.int .i64 0,Value.slice none 0 0]::L)) rfl els52 (by decide) rfl
  obtain ⟨r58,hr59,hp⟩:=bnd hp
  refine FL.call rfl rfl rfl (E.call Tryz.call166 (A2 rfl rfl)) (zdf (L:=(.box b21 26 [Value.int .i64 0,Value.slice none 0 0]::L)) S54 (a0:=r25.2) (h33.mono i55) v48 [2,3,3,4,5] (h56.mono upI) hr59) ?_
  rintro e w61 ⟨H60,v64,rfl,⟨S62,i63⟩,h65⟩
  refine ⟨_,rfl,?_⟩
  have S62:St H0 w0 H60 w61 (.box b0 94 [v64,Value.int .i64 r58.2.at_,Value.int .u64 r58.2.seed]::.box b21 26 [Value.int .i64 0,Value.slice none 0 0]::L):=S62
  obtain ⟨v66,w67,run68,S69⟩:=S62.buildSlice (P:=Tryz.prog) te24 [] (parts:=#[]) (cells:=[]) rfl zal zak zad (Nat.le_of_ble_eq_true rfl)
  have els70:Els (up w0.heap.size H60) (eL eI 1) 1 [] []:=Els.nil
  refine FL.v (E.buildSlice (B0) run68) ?_
  refine FL.v (E.build (B2 rfl rfl) (run_build _ 26 #[(0,Value.int .i64 r58.1),(1,v66)] #[Value.int .i64 r58.1,v66] (by obtain ⟨_,_,rfl⟩:=S69.row_ln (i:=0) rfl;rfl))) ?_
  obtain ⟨b71,w72,run73,S74⟩:=S69.alloc (P:=Tryz.prog) 26 [Value.int .i64 0,Value.slice none 0 0] Tryz.zeroValue26 rfl (zaa rfl (zaa rfl zad))
  refine FL.v (E.alloc run73) ?_
  obtain ⟨w75,run76,S77⟩:=S74.store0 (P:=Tryz.prog) (t:=26) (i:=0) (cs':=[Value.int .i64 r58.1,v66]) (l':=(.box b71 26 [Value.int .i64 r58.1,v66]::.row 34 1 v66 0 []::.box b0 94 [v64,Value.int .i64 r58.2.at_,Value.int .u64 r58.2.seed]::.box b21 26 [Value.int .i64 0,Value.slice none 0 0]::L)) (v:=Value.agg #[Value.int .i64 r58.1,v66]) (c:=[Value.int .i64 r58.1,v66]) rfl Tryz.sizeOf26 rfl rfl (zaa rfl (zaa (Ln.one (S74.row_ln (i:=1) rfl)) zad)) (Nat.le_of_ble_eq_true rfl) rfl rfl
  refine FL.act rfl rfl (E.store rfl rfl run76) ?_
  refine FL.nil (FW.seq (FW.seq (FW.region ?_)))
  refine FL.v (E.move (v:=Value.pointer (some (⟨b0,0,none⟩:Addr))) rfl) ?_
  obtain ⟨r78,hr79,hp⟩:=bnd hp
  have S80:St H0 w0 H60 w75 (.box b0 94 [v64,Value.int .i64 r58.2.at_,Value.int .u64 r58.2.seed]::.box b71 26 [Value.int .i64 r58.1,v66]::.row 34 1 v66 0 []::.box b21 26 [Value.int .i64 0,Value.slice none 0 0]::L):=S77.front 2 rfl rfl
  refine FL.call rfl rfl rfl (E.call Tryz.call158 (A2 rfl rfl)) (zbj (L:=(.box b71 26 [Value.int .i64 r58.1,v66]::.row 34 1 v66 0 []::.box b21 26 [Value.int .i64 0,Value.slice none 0 0]::L)) S80 (a0:=r58.2) h65 10 hr79) ?_
  rintro e w82 ⟨H81,v85,rfl,⟨S83,i84⟩,h86⟩
  refine ⟨_,rfl,?_⟩
  have S83:St H0 w0 H81 w82 (.box b0 94 [v85,Value.int .i64 r78.2.at_,Value.int .u64 r78.2.seed]::.box b71 26 [Value.int .i64 r58.1,v66]::.row 34 1 v66 0 []::.box b21 26 [Value.int .i64 0,Value.slice none 0 0]::L):=S83
  refine FL.v (E.assign (v:=Value.int .i64 r78.1) rfl) ?_
  refine FL.nil ?_
  obtain ⟨q87,hq,hp⟩:=bndR hp
  refine FW.block ?_
  refine FW.mono (FW.iter (S:=((List (List Int))×(List Int)×Int×Int×Int)) (X:=Empty) (fun (s87:((List (List Int))×(List Int)×Int×Int×Int)) f w=>∃ H:GH,∃ v88:Value,∃ n89:Nat,∃ cs90:List Value,∃ v93:Value,St H0 w0 H w (.box b0 94 [v93,Value.int .i64 s87.2.2.1,Value.int .u64 s87.2.2.2.1]::.box b71 26 [Value.int .i64 r58.1,v88]::.row 34 1 v88 n89 cs90::.box b21 26 [Value.int .i64 0,Value.slice none 0 0]::L)∧Inc H81 H∧Els (up w0.heap.size H) (eL eI 1) 1 cs90 s87.1∧RSl H (eN .u8) 1 v93 s87.2.1∧(bl cs90).Nodup∧f 0=Value.pointer (some (⟨b0,0,none⟩:Addr))∧f 2=Value.pointer (some (⟨b21,0,none⟩:Addr))∧f 3=Value.pointer (some (⟨b71,0,none⟩:Addr))∧f 4=Value.int .i64 s87.2.2.2.2) (fun (q:Rs ((List (List Int))×(List Int)×Int×Int×Int) Empty) e f w=>match q with|.go s87=>e=Exit.exit 0∧(∃ H:GH,∃ v88:Value,∃ n89:Nat,∃ cs90:List Value,∃ v93:Value,St H0 w0 H w (.box b0 94 [v93,Value.int .i64 s87.2.2.1,Value.int .u64 s87.2.2.2.1]::.box b71 26 [Value.int .i64 r58.1,v88]::.row 34 1 v88 n89 cs90::.box b21 26 [Value.int .i64 0,Value.slice none 0 0]::L)∧Inc H81 H∧Els (up w0.heap.size H) (eL eI 1) 1 cs90 s87.1∧RSl H (eN .u8) 1 v93 s87.2.1∧(bl cs90).Nodup∧f 0=Value.pointer (some (⟨b0,0,none⟩:Addr))∧f 2=Value.pointer (some (⟨b21,0,none⟩:Addr))∧f 3=Value.pointer (some (⟨b71,0,none⟩:Addr)))|.rt x=>x.elim) hq ⟨_,_,_,_,_,S83,(Inc.rfl _),(els70.mono (zae i84)),h86,(show (bl []).Nodup from List.nodup_nil),rfl,rfl,rfl,rfl⟩ ?_) ?_
  ·
   clear hp hq
   rintro s87 f99 w98 ⟨H95,v88,n89,cs90,v93,S96,i97,els91,h94,nd92,kA0,kA1,kA2,kA3⟩ oB0 hp
   refine FW.seq (FW.seq (FW.region ?_))
   refine FL.v (E.move kA3) ?_
   refine FL.v (E.gtr rfl rfl) ?_
   refine FL.nil ?_
   rcases ifB hp with ⟨cA4,hp⟩|⟨cA4,hp⟩
   ·
    refine FW.condT rfl cA4 ?_
    refine FW.skip (FW.seq (FW.block ?_))
    obtain ⟨rA8,hrA9,hp⟩:=bnd hp
    obtain ⟨xsAv,hzAw,hp⟩:=bnd hp
    refine FW.drawB (Sl H95) (fun f w=>∃ H:GH,∃ vAK:Value,∃ nAL:Nat,∃ csAM:List Value,∃ vAP:Value,St H0 w0 H w (.box b0 94 [vAP,Value.int .i64 rA8.2.at_,Value.int .u64 rA8.2.seed]::.box b71 26 [Value.int .i64 r58.1,vAK]::.row 34 1 vAK nAL csAM::.box b21 26 [Value.int .i64 0,Value.slice none 0 0]::L)∧Inc H95 H∧Els (up w0.heap.size H) (eL eI 1) 1 csAM xsAv∧RSl H (eN .u8) 1 vAP rA8.2.code∧(bl csAM).Nodup∧f 0=Value.pointer (some (⟨b0,0,none⟩:Addr))∧f 2=Value.pointer (some (⟨b21,0,none⟩:Addr))∧f 3=Value.pointer (some (⟨b71,0,none⟩:Addr))∧f 4=Value.int .i64 s87.2.2.2.2) (by kernel_rfl) S96.sl ?_ ?_
    ·
     intro wA5 rA6
     have SA7:=S96.call rA6
     refine FB.phase [] (fun w=>WAt w (Addr.add ⟨b71,0,none⟩ 0) [Value.int .i64 r58.1]) ?_
     refine FB.phase [9] (fun w=>WAt w (Addr.add ⟨b71,0,none⟩ 1) [v88]) ?_
     refine FB.t (i:=0) (bs 10 1) rfl (SP.on ((SA7.box_now (i:=1) rfl).sub (j:=1) (n:=1) (c:=[v88]) rfl) (SP.on ((SA7.box_now (i:=1) rfl).sub (j:=0) (n:=1) (c:=[Value.int .i64 r58.1]) rfl) (SP.nil SA7.sl))) rfl (fun w' hw'=>(E.fieldAddr zan kA2)) ?_
     refine FB.p (i:=1) (bs 10 3) 0 [7,8,9] rfl (SP.on ((SA7.box_now (i:=1) rfl).sub (j:=1) (n:=1) (c:=[v88]) rfl) (SP.on ((SA7.box_now (i:=1) rfl).sub (j:=0) (n:=1) (c:=[Value.int .i64 r58.1]) rfl) (SP.nil SA7.sl))) rfl rfl (fun w' hw'=>(E.load rfl (zaf Tryz.isAgg24 hw' rfl))) ?_
     refine FB.t (i:=2) (bs 10 7) rfl (SP.on ((SA7.box_now (i:=1) rfl).sub (j:=1) (n:=1) (c:=[v88]) rfl) (SP.on ((SA7.box_now (i:=1) rfl).sub (j:=0) (n:=1) (c:=[Value.int .i64 r58.1]) rfl) (SP.nil SA7.sl))) rfl (fun w' hw'=>(E.move kA0)) ?_
     refine FB.t (i:=3) (bs 10 15) rfl (SP.on ((SA7.box_now (i:=1) rfl).sub (j:=1) (n:=1) (c:=[v88]) rfl) (SP.on ((SA7.box_now (i:=1) rfl).sub (j:=0) (n:=1) (c:=[Value.int .i64 r58.1]) rfl) (SP.nil SA7.sl))) rfl (fun w' hw'=>(E.fieldAddr zax kA2)) ?_
     refine FB.p (i:=4) (bs 10 31) 1 [5,6,7,8,9] rfl (SP.on ((SA7.box_now (i:=1) rfl).sub (j:=1) (n:=1) (c:=[v88]) rfl) (SP.on ((SA7.box_now (i:=1) rfl).sub (j:=0) (n:=1) (c:=[Value.int .i64 r58.1]) rfl) (SP.nil SA7.sl))) rfl rfl (fun w' hw'=>(E.load rfl (zaf Tryz.isAgg3 hw' rfl))) ?_
     refine FB.all1 (i:=5) (by kernel_rfl) ?_
     ·
      refine FC.call (l':=(bs 10 63)) rfl (by kernel_rfl) rfl rfl rfl (E.call Tryz.call181 (A2 rfl rfl)) (zdg (L:=(.box b71 26 [Value.int .i64 r58.1,v88]::.row 34 1 v88 n89 cs90::.box b21 26 [Value.int .i64 0,Value.slice none 0 0]::L)) SA7 (a0:=(l1Cur.mk s87.2.1 s87.2.2.1 s87.2.2.2.1)) h94 r58.1 hrA9) ?_
      rintro e wAb ⟨HAa,vAe,nAf,csAg,vAi,rfl,⟨SAc,iAd⟩,elsAh,hAj⟩
      refine ⟨_,rfl,?_⟩
      have SAc:St H0 w0 HAa wAb (.row 3 1 vAe nAf csAg::.box b0 94 [vAi,Value.int .i64 rA8.2.at_,Value.int .u64 rA8.2.seed]::.box b71 26 [Value.int .i64 r58.1,v88]::.row 34 1 v88 n89 cs90::.box b21 26 [Value.int .i64 0,Value.slice none 0 0]::L):=SAc
      refine ⟨(SP.on ((SAc.box_now (i:=2) rfl).sub (j:=1) (n:=1) (c:=[v88]) rfl) (SP.on ((SAc.box_now (i:=2) rfl).sub (j:=0) (n:=1) (c:=[Value.int .i64 r58.1]) rfl) (SP.nil (Sl.of_inc iAd SAc.sl)))),?_⟩
      refine FB.all1 (i:=6) (by kernel_rfl) ?_
      ·
       obtain ⟨HAk,SAl,iAm,hAn,nvAo⟩:=SAc.sealRowU (i:=0) (l':=(.box b0 94 [vAi,Value.int .i64 rA8.2.at_,Value.int .u64 rA8.2.seed]::.box b71 26 [Value.int .i64 r58.1,v88]::.row 34 1 v88 n89 cs90::.box b21 26 [Value.int .i64 0,Value.slice none 0 0]::L)) rfl elsAh (by decide) rfl
       obtain ⟨vAp,wAq,runAr,SAs⟩:=SAl.buildSlice (P:=Tryz.prog) te24 [vAe] (parts:=#[(0,vAe)]) (cells:=[vAe]) rfl (zar (zaE hAn.cells) zal) (zaq hAn.cells zak) (zaa hAn.one zad) (Nat.le_of_ble_eq_true rfl)
       have elsAt:Els (up w0.heap.size HAk) (eL eI 1) 1 [vAe] [rA8.1]:=(Els.snoc (H:=(up w0.heap.size HAk)) (E:=(eL eI 1)) (k:=1) (c:=[vAe]) (x:=rA8.1) Els.nil rfl ⟨_,rfl,hAn⟩)
       have ndAu:(bl [vAe]).Nodup:=by exact za3 vAe
       refine FC.val (l':=(bs 10 127)) rfl (by kernel_rfl) rfl rfl rfl (E.buildSlice (B1 rfl) runAr) ?_
       refine ⟨(SP.on ((SAs.box_now (i:=2) rfl).sub (j:=1) (n:=1) (c:=[v88]) rfl) (SP.on ((SAs.box_now (i:=2) rfl).sub (j:=0) (n:=1) (c:=[Value.int .i64 r58.1]) rfl) (SP.nil (Sl.of_inc (iAd.tr iAm) SAs.sl)))),?_⟩
       refine FB.all1 (i:=7) (by kernel_rfl) ?_
       ·
        obtain ⟨vAx,wAA,nAy,csAz,runAB,SAC,elsAD,ceAE⟩:=SAs.appendO (P:=Tryz.prog) te24 (i:=3) (j:=0) rfl (els91.mono (zae (iAd.tr iAm))) rfl elsAt hzAw
        have SAC:St H0 w0 HAk wAA (.row 34 1 vAp 1 [vAe]::.box b0 94 [vAi,Value.int .i64 rA8.2.at_,Value.int .u64 rA8.2.seed]::.box b71 26 [Value.int .i64 r58.1,v88]::.row 34 1 vAx nAy csAz::.box b21 26 [Value.int .i64 0,Value.slice none 0 0]::L):=SAC
        have ndAF:(bl csAz).Nodup:=by rw [ceAE];exact zba nd92 ndAu (Els.dom (els91.mono (upI.tr iAd))) (by exact nvAo)
        have SAG:St H0 w0 HAk wAA (.box b0 94 [vAi,Value.int .i64 rA8.2.at_,Value.int .u64 rA8.2.seed]::.box b71 26 [Value.int .i64 r58.1,v88]::.row 34 1 vAx nAy csAz::.box b21 26 [Value.int .i64 0,Value.slice none 0 0]::L):=SAC.drop 0
        refine FC.val (l':=(bs 10 255)) rfl (by kernel_rfl) rfl rfl rfl (E.append rfl rfl runAB) ?_
        refine ⟨(SP.on ((SAG.box_now (i:=1) rfl).sub (j:=1) (n:=1) (c:=[v88]) rfl) (SP.on ((SAG.box_now (i:=1) rfl).sub (j:=0) (n:=1) (c:=[Value.int .i64 r58.1]) rfl) (SP.nil (Sl.of_inc (iAd.tr iAm) SAG.sl)))),?_⟩
        refine FB.t (i:=8) (bs 10 511) rfl (SP.on ((SAG.box_now (i:=1) rfl).sub (j:=1) (n:=1) (c:=[v88]) rfl) (SP.on ((SAG.box_now (i:=1) rfl).sub (j:=0) (n:=1) (c:=[Value.int .i64 r58.1]) rfl) (SP.nil (Sl.of_inc (iAd.tr iAm) SAG.sl)))) rfl (fun w' hw'=>(E.fieldAddr zan kA2)) ?_
        refine FB.all1 (i:=9) (by kernel_rfl) ?_
        ·
         obtain ⟨wAH,runAI,SAJ⟩:=SAG.store (P:=Tryz.prog) (t:=24) (i:=1) (j:=1) (cs':=[Value.int .i64 r58.1,vAx]) (l':=(.box b0 94 [vAi,Value.int .i64 rA8.2.at_,Value.int .u64 rA8.2.seed]::.box b71 26 [Value.int .i64 r58.1,vAx]::.row 34 1 vAx nAy csAz::.box b21 26 [Value.int .i64 0,Value.slice none 0 0]::L)) (v:=vAx) (c:=[vAx]) rfl Tryz.sizeOf24 (Ln.cells (SAG.row_ln (i:=2) rfl)) rfl (zaa (Ln.one (SAG.row_ln (i:=2) rfl)) zad) (Nat.le_of_ble_eq_true rfl) rfl rfl
         refine FC.act (l':=(bs 10 1023)) rfl (by kernel_rfl) rfl rfl (E.store rfl rfl runAI) ?_
         refine ⟨(SP.o (SP.on ((SAJ.box_now (i:=1) rfl).sub (j:=0) (n:=1) (c:=[Value.int .i64 r58.1]) rfl) (SP.nil (Sl.of_inc (iAd.tr iAm) SAJ.sl)))),?_⟩
         exact FB.done (by kernel_rfl) ⟨_,_,_,_,_,SAJ,(iAd.tr iAm),elsAD,(hAj.mono iAm),ndAF,kA0,kA1,kA2,kA3⟩
    ·
     rintro fAV wAU ⟨HAR,vAK,nAL,csAM,vAP,SAS,iAT,elsAN,hAQ,ndAO,kAW,kAX,kAY,kAZ⟩
     refine FW.region ?_
     refine FL.v (E.move kAZ) ?_
     refine FL.v (E.sub rfl rfl) ?_
     refine FL.v (E.assign (v:=Value.int .i64 (wr (s87.2.2.2.2 - 1))) rfl) ?_
     refine FL.nil ?_
     obtain rfl:=Option.some.inj hp
     exact ⟨rfl,⟨_,_,_,_,_,SAS,(i97.tr iAT),elsAN,hAQ,ndAO,kAW,kAX,kAY,rfl⟩⟩
   ·
    refine FW.condF rfl cA4 ?_
    refine FW.exit ?_
    obtain rfl:=Option.some.inj hp
    exact ⟨nofun,rfl,⟨_,_,_,_,_,S96,i97,els91,h94,nd92,kA0,kA1,kA2⟩⟩
  ·
   clear hq
   intro e fB5 wB4 hD
   rcases q87 with s87|x87
   ·
    obtain ⟨rfl,hD⟩:=hD
    obtain ⟨HB1,v88,n89,cs90,v93,SB2,iB3,els91,h94,nd92,kB6,kB7,kB8⟩:=hD
    replace hp:=el_go hp
    refine FW.seq (FW.seq (FW.region ?_))
    refine FL.v (E.move kB6) ?_
    obtain ⟨rB9,hrBa,hp⟩:=bnd hp
    refine FL.call rfl rfl rfl (E.call Tryz.call158 (A2 rfl rfl)) (zbj (L:=(.box b71 26 [Value.int .i64 r58.1,v88]::.row 34 1 v88 n89 cs90::.box b21 26 [Value.int .i64 0,Value.slice none 0 0]::L)) SB2 (a0:=(l1Cur.mk s87.2.1 s87.2.2.1 s87.2.2.2.1)) h94 40 hrBa) ?_
    rintro e wBc ⟨HBb,vBf,rfl,⟨SBd,iBe⟩,hBg⟩
    refine ⟨_,rfl,?_⟩
    have SBd:St H0 w0 HBb wBc (.box b0 94 [vBf,Value.int .i64 rB9.2.at_,Value.int .u64 rB9.2.seed]::.box b71 26 [Value.int .i64 r58.1,v88]::.row 34 1 v88 n89 cs90::.box b21 26 [Value.int .i64 0,Value.slice none 0 0]::L):=SBd
    refine FL.nil (FW.block (FW.seq (FW.region ?_)))
    refine FL.v (E.eql rfl rfl) ?_
    refine FL.v (E.assign (v:=Value.bool (rB9.1 == 0)) rfl) ?_
    refine FL.nil ?_
    rcases ifB hp with ⟨cBh,hp⟩|⟨cBh,hp⟩
    ·
     refine FW.condT rfl cBh ?_
     refine FW.region ?_
     refine FL.v (E.move kB6) ?_
     obtain ⟨vBi,wBj,runBk,SBl,elsBm⟩:=SBd.ints (P:=Tryz.prog) te34 (up w0.heap.size HBb) 5 [(-1),13,12,0,1]
     refine FL.v (E.buildSlice (B5 rfl rfl rfl rfl rfl) runBk) ?_
     obtain ⟨HBn,SBo,iBp,hBq,nvBr⟩:=SBl.sealRowU (i:=0) (l':=(.box b0 94 [vBf,Value.int .i64 rB9.2.at_,Value.int .u64 rB9.2.seed]::.box b71 26 [Value.int .i64 r58.1,v88]::.row 34 1 v88 n89 cs90::.box b21 26 [Value.int .i64 0,Value.slice none 0 0]::L)) rfl elsBm (by decide) rfl
     obtain ⟨rBs,hrBt,hp⟩:=bnd hp
     refine FL.call rfl rfl rfl (E.call Tryz.call166 (A2 rfl rfl)) (zdf (L:=(.box b71 26 [Value.int .i64 r58.1,v88]::.row 34 1 v88 n89 cs90::.box b21 26 [Value.int .i64 0,Value.slice none 0 0]::L)) SBo (a0:=rB9.2) (hBg.mono iBp) vBi [(-1),13,12,0,1] (hBq.mono upI) hrBt) ?_
     rintro e wBv ⟨HBu,vBy,rfl,⟨SBw,iBx⟩,hBz⟩
     refine ⟨_,rfl,?_⟩
     have SBw:St H0 w0 HBu wBv (.box b0 94 [vBy,Value.int .i64 rBs.2.at_,Value.int .u64 rBs.2.seed]::.box b71 26 [Value.int .i64 r58.1,v88]::.row 34 1 v88 n89 cs90::.box b21 26 [Value.int .i64 0,Value.slice none 0 0]::L):=SBw
     refine FL.v (E.fieldAddr zax kB8) ?_
     obtain ⟨wBA,runBB,SBC⟩:=SBw.store (P:=Tryz.prog) (t:=3) (i:=1) (j:=0) (cs':=[Value.int .i64 rBs.1,v88]) (l':=(.box b0 94 [vBy,Value.int .i64 rBs.2.at_,Value.int .u64 rBs.2.seed]::.box b71 26 [Value.int .i64 rBs.1,v88]::.row 34 1 v88 n89 cs90::.box b21 26 [Value.int .i64 0,Value.slice none 0 0]::L)) (v:=Value.int .i64 rBs.1) (c:=[Value.int .i64 rBs.1]) rfl Tryz.sizeOf3 rfl rfl (zaa rfl zad) (Nat.le_of_ble_eq_true rfl) rfl rfl
     refine FL.act rfl rfl (E.store rfl rfl runBB) ?_
     refine FL.nil (FW.seq (FW.region ?_))
     refine FL.v (E.load kB8 (zat Tryz.isAgg26 Tryz.sizeOf26 (SBC.box_now (i:=1) rfl) rfl)) ?_
     obtain ⟨wBD,runBE,SBF⟩:=SBC.store0 (P:=Tryz.prog) (t:=26) (i:=3) (cs':=[Value.int .i64 rBs.1,v88]) (l':=(.box b0 94 [vBy,Value.int .i64 rBs.2.at_,Value.int .u64 rBs.2.seed]::.box b71 26 [Value.int .i64 rBs.1,v88]::.row 34 1 v88 n89 cs90::.box b21 26 [Value.int .i64 rBs.1,v88]::L)) (v:=Value.agg #[Value.int .i64 rBs.1,v88]) (c:=[Value.int .i64 rBs.1,v88]) rfl Tryz.sizeOf26 rfl rfl (zaa rfl (zaa (Ln.one (SBC.row_ln (i:=2) rfl)) zad)) (Nat.le_of_ble_eq_true rfl) rfl rfl
     refine FL.act rfl rfl (E.store kB7 rfl runBE) ?_
     refine FL.nil ?_
     refine FW.ret ?_
     obtain ⟨HBG,SBH,iBI,nsBL,nvBK⟩:=SBF.sealRowN (i:=2) (l':=(.box b0 94 [vBy,Value.int .i64 rBs.2.at_,Value.int .u64 rBs.2.seed]::.box b71 26 [Value.int .i64 rBs.1,v88]::.box b21 26 [Value.int .i64 rBs.1,v88]::L)) rfl (els91.mono (zae ((iBe.tr iBp).tr iBx))) nd92 (by decide) rfl
     have hBJ:=nsBL.rsl
     obtain rfl:=Option.some.inj hp
     exact ⟨.inr rfl,resC rfl kB7 (zaA Tryz.isAgg26 Tryz.sizeOf26 (SBH.box_now (i:=2) rfl) rfl) ⟨_,_,_,rfl,⟨(SBH.selT (a:=[.box b0 94 [vBy,Value.int .i64 rBs.2.at_,Value.int .u64 rBs.2.seed],.box b71 26 [Value.int .i64 rBs.1,v88],.box b21 26 [Value.int .i64 rBs.1,v88]]) (l':=[.box b0 94 [vBy,Value.int .i64 rBs.2.at_,Value.int .u64 rBs.2.seed]]) [0] (by decide) rfl),((((((((i31.tr i55).tr i63).tr i84).tr iB3).tr iBe).tr iBp).tr iBx).tr iBI)⟩,hBJ,(hBz.mono iBI)⟩⟩
    ·
     refine FW.condF rfl cBh ?_
     refine FW.seq (FW.region ?_)
     refine FL.v (E.eql rfl rfl) ?_
     refine FL.v (E.assign (v:=Value.bool (rB9.1 == 1)) rfl) ?_
     refine FL.nil ?_
     rcases ifB hp with ⟨cBM,hp⟩|⟨cBM,hp⟩
     ·
      refine FW.condT rfl cBM ?_
      obtain ⟨rBQ,hrBR,hp⟩:=bnd hp
      obtain ⟨xsCd,hzCe,hp⟩:=bnd hp
      refine FW.drawB (Sl HBb) (fun f w=>∃ H:GH,∃ vCs:Value,∃ nCt:Nat,∃ csCu:List Value,∃ vCx:Value,St H0 w0 H w (.box b0 94 [vCx,Value.int .i64 rBQ.2.at_,Value.int .u64 rBQ.2.seed]::.box b71 26 [Value.int .i64 r58.1,vCs]::.row 34 1 vCs nCt csCu::.box b21 26 [Value.int .i64 0,Value.slice none 0 0]::L)∧Inc HBb H∧Els (up w0.heap.size H) (eL eI 1) 1 csCu xsCd∧RSl H (eN .u8) 1 vCx rBQ.2.code∧(bl csCu).Nodup∧f 2=Value.pointer (some (⟨b21,0,none⟩:Addr))∧f 3=Value.pointer (some (⟨b71,0,none⟩:Addr))) (by kernel_rfl) SBd.sl ?_ ?_
      ·
       intro wBN rBO
       have SBP:=SBd.call rBO
       refine FB.phase [] (fun w=>WAt w (Addr.add ⟨b71,0,none⟩ 0) [Value.int .i64 r58.1]) ?_
       refine FB.phase [9] (fun w=>WAt w (Addr.add ⟨b71,0,none⟩ 1) [v88]) ?_
       refine FB.t (i:=0) (bs 10 1) rfl (SP.on ((SBP.box_now (i:=1) rfl).sub (j:=1) (n:=1) (c:=[v88]) rfl) (SP.on ((SBP.box_now (i:=1) rfl).sub (j:=0) (n:=1) (c:=[Value.int .i64 r58.1]) rfl) (SP.nil SBP.sl))) rfl (fun w' hw'=>(E.fieldAddr zan kB8)) ?_
       refine FB.p (i:=1) (bs 10 3) 0 [7,8,9] rfl (SP.on ((SBP.box_now (i:=1) rfl).sub (j:=1) (n:=1) (c:=[v88]) rfl) (SP.on ((SBP.box_now (i:=1) rfl).sub (j:=0) (n:=1) (c:=[Value.int .i64 r58.1]) rfl) (SP.nil SBP.sl))) rfl rfl (fun w' hw'=>(E.load rfl (zaf Tryz.isAgg24 hw' rfl))) ?_
       refine FB.t (i:=2) (bs 10 7) rfl (SP.on ((SBP.box_now (i:=1) rfl).sub (j:=1) (n:=1) (c:=[v88]) rfl) (SP.on ((SBP.box_now (i:=1) rfl).sub (j:=0) (n:=1) (c:=[Value.int .i64 r58.1]) rfl) (SP.nil SBP.sl))) rfl (fun w' hw'=>(E.move kB6)) ?_
       refine FB.t (i:=3) (bs 10 15) rfl (SP.on ((SBP.box_now (i:=1) rfl).sub (j:=1) (n:=1) (c:=[v88]) rfl) (SP.on ((SBP.box_now (i:=1) rfl).sub (j:=0) (n:=1) (c:=[Value.int .i64 r58.1]) rfl) (SP.nil SBP.sl))) rfl (fun w' hw'=>(E.fieldAddr zax kB8)) ?_
       refine FB.p (i:=4) (bs 10 31) 1 [5,6,7,8,9] rfl (SP.on ((SBP.box_now (i:=1) rfl).sub (j:=1) (n:=1) (c:=[v88]) rfl) (SP.on ((SBP.box_now (i:=1) rfl).sub (j:=0) (n:=1) (c:=[Value.int .i64 r58.1]) rfl) (SP.nil SBP.sl))) rfl rfl (fun w' hw'=>(E.load rfl (zaf Tryz.isAgg3 hw' rfl))) ?_
       refine FB.all1 (i:=5) (by kernel_rfl) ?_
       ·
        refine FC.call (l':=(bs 10 63)) rfl (by kernel_rfl) rfl rfl rfl (E.call Tryz.call182 (A2 rfl rfl)) (zeA (L:=(.box b71 26 [Value.int .i64 r58.1,v88]::.row 34 1 v88 n89 cs90::.box b21 26 [Value.int .i64 0,Value.slice none 0 0]::L)) SBP (a0:=rB9.2) hBg r58.1 hrBR) ?_
        rintro e wBT ⟨HBS,vBW,nBX,csBY,vC0,rfl,⟨SBU,iBV⟩,elsBZ,hC1⟩
        refine ⟨_,rfl,?_⟩
        have SBU:St H0 w0 HBS wBT (.row 3 1 vBW nBX csBY::.box b0 94 [vC0,Value.int .i64 rBQ.2.at_,Value.int .u64 rBQ.2.seed]::.box b71 26 [Value.int .i64 r58.1,v88]::.row 34 1 v88 n89 cs90::.box b21 26 [Value.int .i64 0,Value.slice none 0 0]::L):=SBU
        refine ⟨(SP.on ((SBU.box_now (i:=2) rfl).sub (j:=1) (n:=1) (c:=[v88]) rfl) (SP.on ((SBU.box_now (i:=2) rfl).sub (j:=0) (n:=1) (c:=[Value.int .i64 r58.1]) rfl) (SP.nil (Sl.of_inc iBV SBU.sl)))),?_⟩
        refine FB.all1 (i:=6) (by kernel_rfl) ?_
        ·
         obtain ⟨HC2,SC3,iC4,hC5,nvC6⟩:=SBU.sealRowU (i:=0) (l':=(.box b0 94 [vC0,Value.int .i64 rBQ.2.at_,Value.int .u64 rBQ.2.seed]::.box b71 26 [Value.int .i64 r58.1,v88]::.row 34 1 v88 n89 cs90::.box b21 26 [Value.int .i64 0,Value.slice none 0 0]::L)) rfl elsBZ (by decide) rfl
         obtain ⟨vC7,wC8,runC9,SCa⟩:=SC3.buildSlice (P:=Tryz.prog) te24 [vBW] (parts:=#[(0,vBW)]) (cells:=[vBW]) rfl (zar (zaE hC5.cells) zal) (zaq hC5.cells zak) (zaa hC5.one zad) (Nat.le_of_ble_eq_true rfl)
         have elsCb:Els (up w0.heap.size HC2) (eL eI 1) 1 [vBW] [rBQ.1]:=(Els.snoc (H:=(up w0.heap.size HC2)) (E:=(eL eI 1)) (k:=1) (c:=[vBW]) (x:=rBQ.1) Els.nil rfl ⟨_,rfl,hC5⟩)
         have ndCc:(bl [vBW]).Nodup:=by exact za3 vBW
         refine FC.val (l':=(bs 10 127)) rfl (by kernel_rfl) rfl rfl rfl (E.buildSlice (B1 rfl) runC9) ?_
         refine ⟨(SP.on ((SCa.box_now (i:=2) rfl).sub (j:=1) (n:=1) (c:=[v88]) rfl) (SP.on ((SCa.box_now (i:=2) rfl).sub (j:=0) (n:=1) (c:=[Value.int .i64 r58.1]) rfl) (SP.nil (Sl.of_inc (iBV.tr iC4) SCa.sl)))),?_⟩
         refine FB.all1 (i:=7) (by kernel_rfl) ?_
         ·
          obtain ⟨vCf,wCi,nCg,csCh,runCj,SCk,elsCl,ceCm⟩:=SCa.appendO (P:=Tryz.prog) te24 (i:=3) (j:=0) rfl (els91.mono (zae ((iBe.tr iBV).tr iC4))) rfl elsCb hzCe
          have SCk:St H0 w0 HC2 wCi (.row 34 1 vC7 1 [vBW]::.box b0 94 [vC0,Value.int .i64 rBQ.2.at_,Value.int .u64 rBQ.2.seed]::.box b71 26 [Value.int .i64 r58.1,v88]::.row 34 1 vCf nCg csCh::.box b21 26 [Value.int .i64 0,Value.slice none 0 0]::L):=SCk
          have ndCn:(bl csCh).Nodup:=by rw [ceCm];exact zba nd92 ndCc (Els.dom (els91.mono (upI.tr (iBe.tr iBV)))) (by exact nvC6)
          have SCo:St H0 w0 HC2 wCi (.box b0 94 [vC0,Value.int .i64 rBQ.2.at_,Value.int .u64 rBQ.2.seed]::.box b71 26 [Value.int .i64 r58.1,v88]::.row 34 1 vCf nCg csCh::.box b21 26 [Value.int .i64 0,Value.slice none 0 0]::L):=SCk.drop 0
          refine FC.val (l':=(bs 10 255)) rfl (by kernel_rfl) rfl rfl rfl (E.append rfl rfl runCj) ?_
          refine ⟨(SP.on ((SCo.box_now (i:=1) rfl).sub (j:=1) (n:=1) (c:=[v88]) rfl) (SP.on ((SCo.box_now (i:=1) rfl).sub (j:=0) (n:=1) (c:=[Value.int .i64 r58.1]) rfl) (SP.nil (Sl.of_inc (iBV.tr iC4) SCo.sl)))),?_⟩
          refine FB.t (i:=8) (bs 10 511) rfl (SP.on ((SCo.box_now (i:=1) rfl).sub (j:=1) (n:=1) (c:=[v88]) rfl) (SP.on ((SCo.box_now (i:=1) rfl).sub (j:=0) (n:=1) (c:=[Value.int .i64 r58.1]) rfl) (SP.nil (Sl.of_inc (iBV.tr iC4) SCo.sl)))) rfl (fun w' hw'=>(E.fieldAddr zan kB8)) ?_
          refine FB.all1 (i:=9) (by kernel_rfl) ?_
          ·
           obtain ⟨wCp,runCq,SCr⟩:=SCo.store (P:=Tryz.prog) (t:=24) (i:=1) (j:=1) (cs':=[Value.int .i64 r58.1,vCf]) (l':=(.box b0 94 [vC0,Value.int .i64 rBQ.2.at_,Value.int .u64 rBQ.2.seed]::.box b71 26 [Value.int .i64 r58.1,vCf]::.row 34 1 vCf nCg csCh::.box b21 26 [Value.int .i64 0,Value.slice none 0 0]::L)) (v:=vCf) (c:=[vCf]) rfl Tryz.sizeOf24 (Ln.cells (SCo.row_ln (i:=2) rfl)) rfl (zaa (Ln.one (SCo.row_ln (i:=2) rfl)) zad) (Nat.le_of_ble_eq_true rfl) rfl rfl
           refine FC.act (l':=(bs 10 1023)) rfl (by kernel_rfl) rfl rfl (E.store rfl rfl runCq) ?_
           refine ⟨(SP.o (SP.on ((SCr.box_now (i:=1) rfl).sub (j:=0) (n:=1) (c:=[Value.int .i64 r58.1]) rfl) (SP.nil (Sl.of_inc (iBV.tr iC4) SCr.sl)))),?_⟩
           exact FB.done (by kernel_rfl) ⟨_,_,_,_,_,SCr,(iBV.tr iC4),elsCl,(hC1.mono iC4),ndCn,kB7,kB8⟩
      ·
       rintro fCD wCC ⟨HCz,vCs,nCt,csCu,vCx,SCA,iCB,elsCv,hCy,ndCw,kCE,kCF⟩
       refine FW.seq (FW.region ?_)
       refine FL.v (E.load kCF (zat Tryz.isAgg26 Tryz.sizeOf26 (SCA.box_now (i:=1) rfl) rfl)) ?_
       obtain ⟨wCG,runCH,SCI⟩:=SCA.store0 (P:=Tryz.prog) (t:=26) (i:=3) (cs':=[Value.int .i64 r58.1,vCs]) (l':=(.box b0 94 [vCx,Value.int .i64 rBQ.2.at_,Value.int .u64 rBQ.2.seed]::.box b71 26 [Value.int .i64 r58.1,vCs]::.row 34 1 vCs nCt csCu::.box b21 26 [Value.int .i64 r58.1,vCs]::L)) (v:=Value.agg #[Value.int .i64 r58.1,vCs]) (c:=[Value.int .i64 r58.1,vCs]) rfl Tryz.sizeOf26 rfl rfl (zaa rfl (zaa (Ln.one (SCA.row_ln (i:=2) rfl)) zad)) (Nat.le_of_ble_eq_true rfl) rfl rfl
       refine FL.act rfl rfl (E.store kCE rfl runCH) ?_
       refine FL.nil ?_
       refine FW.ret ?_
       obtain ⟨HCJ,SCK,iCL,nsCO,nvCN⟩:=SCI.sealRowN (i:=2) (l':=(.box b0 94 [vCx,Value.int .i64 rBQ.2.at_,Value.int .u64 rBQ.2.seed]::.box b71 26 [Value.int .i64 r58.1,vCs]::.box b21 26 [Value.int .i64 r58.1,vCs]::L)) rfl elsCv ndCw (by decide) rfl
       have hCM:=nsCO.rsl
       obtain rfl:=Option.some.inj hp
       exact ⟨.inr rfl,resC rfl kCE (zaA Tryz.isAgg26 Tryz.sizeOf26 (SCK.box_now (i:=2) rfl) rfl) ⟨_,_,_,rfl,⟨(SCK.selT (a:=[.box b0 94 [vCx,Value.int .i64 rBQ.2.at_,Value.int .u64 rBQ.2.seed],.box b71 26 [Value.int .i64 r58.1,vCs],.box b21 26 [Value.int .i64 r58.1,vCs]]) (l':=[.box b0 94 [vCx,Value.int .i64 rBQ.2.at_,Value.int .u64 rBQ.2.seed]]) [0] (by decide) rfl),(((((((i31.tr i55).tr i63).tr i84).tr iB3).tr iBe).tr iCB).tr iCL)⟩,hCM,(hCy.mono iCL)⟩⟩
     ·
      refine FW.condF rfl cBM ?_
      refine FW.seq (FW.region ?_)
      refine FL.v (E.eql rfl rfl) ?_
      refine FL.v (E.assign (v:=Value.bool (rB9.1 == 2)) rfl) ?_
      refine FL.nil ?_
      rcases ifB hp with ⟨cCP,hp⟩|⟨cCP,hp⟩
      ·
       refine FW.condT rfl cCP ?_
       obtain ⟨qCQ,hq,hp⟩:=bndR hp
       refine FW.block ?_
       refine FW.mono (FW.iter (S:=((List (List Int))×(List Int)×Int×Int)) (X:=Empty) (fun (sCQ:((List (List Int))×(List Int)×Int×Int)) f w=>∃ H:GH,∃ vCR:Value,∃ nCS:Nat,∃ csCT:List Value,∃ vCW:Value,St H0 w0 H w (.box b0 94 [vCW,Value.int .i64 sCQ.2.2.1,Value.int .u64 sCQ.2.2.2]::.box b71 26 [Value.int .i64 r58.1,vCR]::.row 34 1 vCR nCS csCT::.box b21 26 [Value.int .i64 0,Value.slice none 0 0]::L)∧Inc HBb H∧Els (up w0.heap.size H) (eL eI 1) 1 csCT sCQ.1∧RSl H (eN .u8) 1 vCW sCQ.2.1∧(bl csCT).Nodup∧f 0=Value.pointer (some (⟨b0,0,none⟩:Addr))∧f 2=Value.pointer (some (⟨b21,0,none⟩:Addr))∧f 3=Value.pointer (some (⟨b71,0,none⟩:Addr))) (fun (q:Rs ((List (List Int))×(List Int)×Int×Int) Empty) e f w=>match q with|.go sCQ=>e=Exit.exit 3∧(∃ H:GH,∃ vCR:Value,∃ nCS:Nat,∃ csCT:List Value,∃ vCW:Value,St H0 w0 H w (.box b0 94 [vCW,Value.int .i64 sCQ.2.2.1,Value.int .u64 sCQ.2.2.2]::.box b71 26 [Value.int .i64 r58.1,vCR]::.row 34 1 vCR nCS csCT::.box b21 26 [Value.int .i64 0,Value.slice none 0 0]::L)∧Inc HBb H∧Els (up w0.heap.size H) (eL eI 1) 1 csCT sCQ.1∧RSl H (eN .u8) 1 vCW sCQ.2.1∧(bl csCT).Nodup∧f 2=Value.pointer (some (⟨b21,0,none⟩:Addr))∧f 3=Value.pointer (some (⟨b71,0,none⟩:Addr)))|.rt x=>x.elim) hq ⟨_,_,_,_,_,SBd,(Inc.rfl _),(els91.mono (zae iBe)),hBg,nd92,kB6,kB7,kB8⟩ ?_) ?_
       ·
        clear hp hq
        rintro sCQ fD2 wD1 ⟨HCY,vCR,nCS,csCT,vCW,SCZ,iD0,elsCU,hCX,ndCV,kD3,kD4,kD5⟩ oDY hp
        refine FW.seq (FW.seq ?_)
        obtain ⟨rD9,hrDa,hp⟩:=bnd hp
        refine FW.drawB (SX H0 w0 HCY (.box b71 26 [Value.int .i64 r58.1,vCR]::L)) (fun f w=>∃ H:GH,∃ vDh:Value,St H0 w0 H w (.box b0 94 [vDh,Value.int .i64 rD9.2.at_,Value.int .u64 rD9.2.seed]::.box b71 26 [Value.int .i64 r58.1,vCR]::.row 34 1 vCR nCS csCT::.box b21 26 [Value.int .i64 0,Value.slice none 0 0]::L)∧Inc HCY H∧RSl H (eN .u8) 1 vDh rD9.2.code∧f 0=Value.pointer (some (⟨b0,0,none⟩:Addr))∧f 2=Value.pointer (some (⟨b21,0,none⟩:Addr))∧f 3=Value.pointer (some (⟨b71,0,none⟩:Addr))∧f 56=Value.bool (decide ((len sCQ.1) < (wr (60 + rD9.1))))) (by kernel_rfl) SCZ.sl ?_ ?_
        ·
         intro wD6 rD7
         have SD8:=SCZ.call rD7
         refine FB.t (i:=0) (bs 7 1) rfl (SP.nil ⟨_,(SD8.selT (a:=[.box b0 94 [vCW,Value.int .i64 sCQ.2.2.1,Value.int .u64 sCQ.2.2.2],.box b71 26 [Value.int .i64 r58.1,vCR],.row 34 1 vCR nCS csCT,.box b21 26 [Value.int .i64 0,Value.slice none 0 0]]) (l':=[.box b71 26 [Value.int .i64 r58.1,vCR]]) [1] (by decide) rfl),(Inc.rfl _)⟩) rfl (fun w' hw'=>(E.fieldAddr zan kD5)) ?_
         refine FB.t (i:=1) (bs 7 3) rfl (SP.nil ⟨_,(SD8.selT (a:=[.box b0 94 [vCW,Value.int .i64 sCQ.2.2.1,Value.int .u64 sCQ.2.2.2],.box b71 26 [Value.int .i64 r58.1,vCR],.row 34 1 vCR nCS csCT,.box b21 26 [Value.int .i64 0,Value.slice none 0 0]]) (l':=[.box b71 26 [Value.int .i64 r58.1,vCR]]) [1] (by decide) rfl),(Inc.rfl _)⟩) rfl (fun w' hw'=>(E.load rfl (zag Tryz.isAgg24 (SX.box_now hw' (i:=0) rfl) rfl))) ?_
         refine FB.t (i:=2) (bs 7 7) rfl (SP.nil ⟨_,(SD8.selT (a:=[.box b0 94 [vCW,Value.int .i64 sCQ.2.2.1,Value.int .u64 sCQ.2.2.2],.box b71 26 [Value.int .i64 r58.1,vCR],.row 34 1 vCR nCS csCT,.box b21 26 [Value.int .i64 0,Value.slice none 0 0]]) (l':=[.box b71 26 [Value.int .i64 r58.1,vCR]]) [1] (by decide) rfl),(Inc.rfl _)⟩) rfl (fun w' hw'=>(E.lenOW te24 rfl SD8 (i:=2) rfl elsCU (by decide))) ?_
         refine FB.t (i:=3) (bs 7 15) rfl (SP.nil ⟨_,(SD8.selT (a:=[.box b0 94 [vCW,Value.int .i64 sCQ.2.2.1,Value.int .u64 sCQ.2.2.2],.box b71 26 [Value.int .i64 r58.1,vCR],.row 34 1 vCR nCS csCT,.box b21 26 [Value.int .i64 0,Value.slice none 0 0]]) (l':=[.box b71 26 [Value.int .i64 r58.1,vCR]]) [1] (by decide) rfl),(Inc.rfl _)⟩) rfl (fun w' hw'=>(E.move kD3)) ?_
         refine FB.all1 (i:=4) (by kernel_rfl) ?_
         ·
          refine FC.call (l':=(bs 7 31)) rfl (by kernel_rfl) rfl rfl rfl (E.call Tryz.call158 (A2 rfl rfl)) (zbj (L:=(.box b71 26 [Value.int .i64 r58.1,vCR]::.row 34 1 vCR nCS csCT::.box b21 26 [Value.int .i64 0,Value.slice none 0 0]::L)) SD8 (a0:=(l1Cur.mk sCQ.2.1 sCQ.2.2.1 sCQ.2.2.2)) hCX 2 hrDa) ?_
          rintro e wDc ⟨HDb,vDf,rfl,⟨SDd,iDe⟩,hDg⟩
          refine ⟨_,rfl,?_⟩
          have SDd:St H0 w0 HDb wDc (.box b0 94 [vDf,Value.int .i64 rD9.2.at_,Value.int .u64 rD9.2.seed]::.box b71 26 [Value.int .i64 r58.1,vCR]::.row 34 1 vCR nCS csCT::.box b21 26 [Value.int .i64 0,Value.slice none 0 0]::L):=SDd
          refine ⟨(SP.nil ⟨_,(SDd.selT (a:=[.box b0 94 [vDf,Value.int .i64 rD9.2.at_,Value.int .u64 rD9.2.seed],.box b71 26 [Value.int .i64 r58.1,vCR],.row 34 1 vCR nCS csCT,.box b21 26 [Value.int .i64 0,Value.slice none 0 0]]) (l':=[.box b71 26 [Value.int .i64 r58.1,vCR]]) [1] (by decide) rfl),iDe⟩),?_⟩
          refine FB.t (i:=5) (bs 7 63) rfl (SP.nil ⟨_,(SDd.selT (a:=[.box b0 94 [vDf,Value.int .i64 rD9.2.at_,Value.int .u64 rD9.2.seed],.box b71 26 [Value.int .i64 r58.1,vCR],.row 34 1 vCR nCS csCT,.box b21 26 [Value.int .i64 0,Value.slice none 0 0]]) (l':=[.box b71 26 [Value.int .i64 r58.1,vCR]]) [1] (by decide) rfl),iDe⟩) rfl (fun w' hw'=>(E.add rfl rfl)) ?_
          refine FB.t (i:=6) (bs 7 127) rfl (SP.nil ⟨_,(SDd.selT (a:=[.box b0 94 [vDf,Value.int .i64 rD9.2.at_,Value.int .u64 rD9.2.seed],.box b71 26 [Value.int .i64 r58.1,vCR],.row 34 1 vCR nCS csCT,.box b21 26 [Value.int .i64 0,Value.slice none 0 0]]) (l':=[.box b71 26 [Value.int .i64 r58.1,vCR]]) [1] (by decide) rfl),iDe⟩) rfl (fun w' hw'=>(E.lss rfl rfl)) ?_
          exact FB.done (by kernel_rfl) ⟨_,_,SDd,iDe,hDg,kD3,kD4,kD5,rfl⟩
        ·
         rintro fDn wDm ⟨HDj,vDh,SDk,iDl,hDi,kDo,kDp,kDq,kDr⟩
         rcases ifB hp with ⟨cDs,hp⟩|⟨cDs,hp⟩
         ·
          refine FW.condT kDr cDs ?_
          refine FW.skip (FW.block (FW.region ?_))
          refine FL.v (E.fieldAddr zan kDq) ?_
          refine FL.v (E.load rfl (zag Tryz.isAgg24 (SDk.box_now (i:=1) rfl) rfl)) ?_
          obtain ⟨vDt,wDu,runDv,SDw,elsDx⟩:=SDk.ints (P:=Tryz.prog) te34 (up w0.heap.size HDj) 1 [1]
          refine FL.v (E.buildSlice (B1 rfl) runDv) ?_
          obtain ⟨HDy,SDz,iDA,hDB,nvDC⟩:=SDw.sealRowU (i:=0) (l':=(.box b0 94 [vDh,Value.int .i64 rD9.2.at_,Value.int .u64 rD9.2.seed]::.box b71 26 [Value.int .i64 r58.1,vCR]::.row 34 1 vCR nCS csCT::.box b21 26 [Value.int .i64 0,Value.slice none 0 0]::L)) rfl elsDx (by decide) rfl
          obtain ⟨vDD,wDE,runDF,SDG⟩:=SDz.buildSlice (P:=Tryz.prog) te24 [vDt] (parts:=#[(0,vDt)]) (cells:=[vDt]) rfl (zar (zaE hDB.cells) zal) (zaq hDB.cells zak) (zaa hDB.one zad) (Nat.le_of_ble_eq_true rfl)
          have elsDH:Els (up w0.heap.size HDy) (eL eI 1) 1 [vDt] [[1]]:=(Els.snoc (H:=(up w0.heap.size HDy)) (E:=(eL eI 1)) (k:=1) (c:=[vDt]) (x:=[1]) Els.nil rfl ⟨_,rfl,hDB⟩)
          have ndDI:(bl [vDt]).Nodup:=by exact za3 vDt
          refine FL.v (E.buildSlice (B1 rfl) runDF) ?_
          obtain ⟨xsDJ,hzDK,hp⟩:=bnd hp
          obtain ⟨vDL,wDO,nDM,csDN,runDP,SDQ,elsDR,ceDS⟩:=SDG.appendO (P:=Tryz.prog) te24 (i:=3) (j:=0) rfl (elsCU.mono (zae (iDl.tr iDA))) rfl elsDH hzDK
          have SDQ:St H0 w0 HDy wDO (.row 34 1 vDD 1 [vDt]::.box b0 94 [vDh,Value.int .i64 rD9.2.at_,Value.int .u64 rD9.2.seed]::.box b71 26 [Value.int .i64 r58.1,vCR]::.row 34 1 vDL nDM csDN::.box b21 26 [Value.int .i64 0,Value.slice none 0 0]::L):=SDQ
          have ndDT:(bl csDN).Nodup:=by rw [ceDS];exact zba ndCV ndDI (Els.dom (elsCU.mono (upI.tr iDl))) (by exact nvDC)
          have SDU:St H0 w0 HDy wDO (.box b0 94 [vDh,Value.int .i64 rD9.2.at_,Value.int .u64 rD9.2.seed]::.box b71 26 [Value.int .i64 r58.1,vCR]::.row 34 1 vDL nDM csDN::.box b21 26 [Value.int .i64 0,Value.slice none 0 0]::L):=SDQ.drop 0
          refine FL.v (E.append rfl rfl runDP) ?_
          refine FL.v (E.fieldAddr zan kDq) ?_
          obtain ⟨wDV,runDW,SDX⟩:=SDU.store (P:=Tryz.prog) (t:=24) (i:=1) (j:=1) (cs':=[Value.int .i64 r58.1,vDL]) (l':=(.box b0 94 [vDh,Value.int .i64 rD9.2.at_,Value.int .u64 rD9.2.seed]::.box b71 26 [Value.int .i64 r58.1,vDL]::.row 34 1 vDL nDM csDN::.box b21 26 [Value.int .i64 0,Value.slice none 0 0]::L)) (v:=vDL) (c:=[vDL]) rfl Tryz.sizeOf24 (Ln.cells (SDU.row_ln (i:=2) rfl)) rfl (zaa (Ln.one (SDU.row_ln (i:=2) rfl)) zad) (Nat.le_of_ble_eq_true rfl) rfl rfl
          refine FL.act rfl rfl (E.store rfl rfl runDW) ?_
          refine FL.nil ?_
          obtain rfl:=Option.some.inj hp
          exact ⟨rfl,⟨_,_,_,_,_,SDX,((iD0.tr iDl).tr iDA),elsDR,(hDi.mono iDA),ndDT,kDo,kDp,kDq⟩⟩
         ·
          refine FW.condF kDr cDs ?_
          refine FW.exit ?_
          obtain rfl:=Option.some.inj hp
          exact ⟨nofun,rfl,⟨_,_,_,_,_,SDk,(iD0.tr iDl),(elsCU.mono (zae iDl)),hDi,ndCV,kDp,kDq⟩⟩
       ·
        clear hq
        intro e fE3 wE2 hD
        rcases qCQ with sCQ|xCQ
        ·
         obtain ⟨rfl,hD⟩:=hD
         obtain ⟨HDZ,vCR,nCS,csCT,vCW,SE0,iE1,elsCU,hCX,ndCV,kE4,kE5⟩:=hD
         replace hp:=el_go hp
         refine FW.seq (FW.region ?_)
         refine FL.v (E.load kE5 (zat Tryz.isAgg26 Tryz.sizeOf26 (SE0.box_now (i:=1) rfl) rfl)) ?_
         obtain ⟨wE6,runE7,SE8⟩:=SE0.store0 (P:=Tryz.prog) (t:=26) (i:=3) (cs':=[Value.int .i64 r58.1,vCR]) (l':=(.box b0 94 [vCW,Value.int .i64 sCQ.2.2.1,Value.int .u64 sCQ.2.2.2]::.box b71 26 [Value.int .i64 r58.1,vCR]::.row 34 1 vCR nCS csCT::.box b21 26 [Value.int .i64 r58.1,vCR]::L)) (v:=Value.agg #[Value.int .i64 r58.1,vCR]) (c:=[Value.int .i64 r58.1,vCR]) rfl Tryz.sizeOf26 rfl rfl (zaa rfl (zaa (Ln.one (SE0.row_ln (i:=2) rfl)) zad)) (Nat.le_of_ble_eq_true rfl) rfl rfl
         refine FL.act rfl rfl (E.store kE4 rfl runE7) ?_
         refine FL.nil ?_
         refine FW.ret ?_
         obtain ⟨HE9,SEa,iEb,nsEe,nvEd⟩:=SE8.sealRowN (i:=2) (l':=(.box b0 94 [vCW,Value.int .i64 sCQ.2.2.1,Value.int .u64 sCQ.2.2.2]::.box b71 26 [Value.int .i64 r58.1,vCR]::.box b21 26 [Value.int .i64 r58.1,vCR]::L)) rfl elsCU ndCV (by decide) rfl
         have hEc:=nsEe.rsl
         obtain rfl:=Option.some.inj hp
         exact ⟨.inr rfl,resC rfl kE4 (zaA Tryz.isAgg26 Tryz.sizeOf26 (SEa.box_now (i:=2) rfl) rfl) ⟨_,_,_,rfl,⟨(SEa.selT (a:=[.box b0 94 [vCW,Value.int .i64 sCQ.2.2.1,Value.int .u64 sCQ.2.2.2],.box b71 26 [Value.int .i64 r58.1,vCR],.box b21 26 [Value.int .i64 r58.1,vCR]]) (l':=[.box b0 94 [vCW,Value.int .i64 sCQ.2.2.1,Value.int .u64 sCQ.2.2.2]]) [0] (by decide) rfl),(((((((i31.tr i55).tr i63).tr i84).tr iB3).tr iBe).tr iE1).tr iEb)⟩,hEc,(hCX.mono iEb)⟩⟩
        ·
         exact xCQ.elim
      ·
       refine FW.condF rfl cCP ?_
       refine FW.seq (FW.region ?_)
       refine FL.v (E.eql rfl rfl) ?_
       refine FL.v (E.assign (v:=Value.bool (rB9.1 == 3)) rfl) ?_
       refine FL.nil ?_
       rcases ifB hp with ⟨cEf,hp⟩|⟨cEf,hp⟩
       ·
        refine FW.condT rfl cEf ?_
        obtain ⟨rEj,hrEk,hp⟩:=bnd hp
        obtain ⟨xsES,hzET,hp⟩:=bnd hp
        refine FW.drawB (Sl HBb) (fun f w=>∃ H:GH,∃ vF7:Value,∃ nF8:Nat,∃ csF9:List Value,∃ vFc:Value,St H0 w0 H w (.box b0 94 [vFc,Value.int .i64 rEj.2.at_,Value.int .u64 rEj.2.seed]::.box b71 26 [Value.int .i64 r58.1,vF7]::.row 34 1 vF7 nF8 csF9::.box b21 26 [Value.int .i64 0,Value.slice none 0 0]::L)∧Inc HBb H∧Els (up w0.heap.size H) (eL eI 1) 1 csF9 xsES∧RSl H (eN .u8) 1 vFc rEj.2.code∧(bl csF9).Nodup∧f 2=Value.pointer (some (⟨b21,0,none⟩:Addr))∧f 3=Value.pointer (some (⟨b71,0,none⟩:Addr))) (by kernel_rfl) SBd.sl ?_ ?_
        ·
         intro wEg rEh
         have SEi:=SBd.call rEh
         refine FB.phase [] (fun w=>WAt w (Addr.add ⟨b71,0,none⟩ 0) [Value.int .i64 r58.1]) ?_
         refine FB.phase [10] (fun w=>WAt w (Addr.add ⟨b71,0,none⟩ 1) [v88]) ?_
         refine FB.t (i:=0) (bs 11 1) rfl (SP.on ((SEi.box_now (i:=1) rfl).sub (j:=1) (n:=1) (c:=[v88]) rfl) (SP.on ((SEi.box_now (i:=1) rfl).sub (j:=0) (n:=1) (c:=[Value.int .i64 r58.1]) rfl) (SP.nil SEi.sl))) rfl (fun w' hw'=>(E.fieldAddr zan kB8)) ?_
         refine FB.p (i:=1) (bs 11 3) 0 [8,9,10] rfl (SP.on ((SEi.box_now (i:=1) rfl).sub (j:=1) (n:=1) (c:=[v88]) rfl) (SP.on ((SEi.box_now (i:=1) rfl).sub (j:=0) (n:=1) (c:=[Value.int .i64 r58.1]) rfl) (SP.nil SEi.sl))) rfl rfl (fun w' hw'=>(E.load rfl (zaf Tryz.isAgg24 hw' rfl))) ?_
         refine FB.t (i:=2) (bs 11 7) rfl (SP.on ((SEi.box_now (i:=1) rfl).sub (j:=1) (n:=1) (c:=[v88]) rfl) (SP.on ((SEi.box_now (i:=1) rfl).sub (j:=0) (n:=1) (c:=[Value.int .i64 r58.1]) rfl) (SP.nil SEi.sl))) rfl (fun w' hw'=>(E.move kB6)) ?_
         refine FB.t (i:=3) (bs 11 15) rfl (SP.on ((SEi.box_now (i:=1) rfl).sub (j:=1) (n:=1) (c:=[v88]) rfl) (SP.on ((SEi.box_now (i:=1) rfl).sub (j:=0) (n:=1) (c:=[Value.int .i64 r58.1]) rfl) (SP.nil SEi.sl))) rfl (fun w' hw'=>(E.fieldAddr zax kB8)) ?_
         refine FB.p (i:=4) (bs 11 31) 1 [5,7,8,9,10] rfl (SP.on ((SEi.box_now (i:=1) rfl).sub (j:=1) (n:=1) (c:=[v88]) rfl) (SP.on ((SEi.box_now (i:=1) rfl).sub (j:=0) (n:=1) (c:=[Value.int .i64 r58.1]) rfl) (SP.nil SEi.sl))) rfl rfl (fun w' hw'=>(E.load rfl (zaf Tryz.isAgg3 hw' rfl))) ?_
         refine FB.all2 (i:=5) (j:=6) (by kernel_rfl) ?_ ?_
         ·
          refine FC.call (l':=(bs 11 63)) rfl (by kernel_rfl) rfl rfl rfl (E.call Tryz.call181 (A2 rfl rfl)) (zdg (L:=(.box b71 26 [Value.int .i64 r58.1,v88]::.row 34 1 v88 n89 cs90::.box b21 26 [Value.int .i64 0,Value.slice none 0 0]::L)) SEi (a0:=rB9.2) hBg r58.1 hrEk) ?_
          rintro e wEm ⟨HEl,vEp,nEq,csEr,vEt,rfl,⟨SEn,iEo⟩,elsEs,hEu⟩
          refine ⟨_,rfl,?_⟩
          have SEn:St H0 w0 HEl wEm (.row 3 1 vEp nEq csEr::.box b0 94 [vEt,Value.int .i64 rEj.2.at_,Value.int .u64 rEj.2.seed]::.box b71 26 [Value.int .i64 r58.1,v88]::.row 34 1 v88 n89 cs90::.box b21 26 [Value.int .i64 0,Value.slice none 0 0]::L):=SEn
          refine ⟨(SP.on ((SEn.box_now (i:=2) rfl).sub (j:=1) (n:=1) (c:=[v88]) rfl) (SP.on ((SEn.box_now (i:=2) rfl).sub (j:=0) (n:=1) (c:=[Value.int .i64 r58.1]) rfl) (SP.nil (Sl.of_inc iEo SEn.sl)))),?_⟩
          refine FB.all1 (i:=6) (by kernel_rfl) ?_
          ·
           obtain ⟨vEw,wEx,runEy,SEz⟩:=SEn.buildSlice (P:=Tryz.prog) te34 [] (parts:=#[]) (cells:=[]) rfl zal zak zad (Nat.le_of_ble_eq_true rfl)
           have elsEA:Els (up w0.heap.size HEl) eI 1 [] []:=Els.nil
           refine FC.val (l':=(bs 11 127)) rfl (by kernel_rfl) rfl rfl rfl (E.buildSlice (B0) runEy) ?_
           refine ⟨(SP.on ((SEz.box_now (i:=3) rfl).sub (j:=1) (n:=1) (c:=[v88]) rfl) (SP.on ((SEz.box_now (i:=3) rfl).sub (j:=0) (n:=1) (c:=[Value.int .i64 r58.1]) rfl) (SP.nil (Sl.of_inc iEo SEz.sl)))),?_⟩
           refine FB.all1 (i:=7) (by kernel_rfl) ?_
           ·
            obtain ⟨HEB,SEC,iED,hEE,nvEF⟩:=SEz.sealRowU (i:=1) (l':=(.row 3 1 vEw 0 []::.box b0 94 [vEt,Value.int .i64 rEj.2.at_,Value.int .u64 rEj.2.seed]::.box b71 26 [Value.int .i64 r58.1,v88]::.row 34 1 v88 n89 cs90::.box b21 26 [Value.int .i64 0,Value.slice none 0 0]::L)) rfl elsEs (by decide) rfl
            obtain ⟨HEG,SEH,iEI,hEJ,nvEK⟩:=SEC.sealRowU (i:=0) (l':=(.box b0 94 [vEt,Value.int .i64 rEj.2.at_,Value.int .u64 rEj.2.seed]::.box b71 26 [Value.int .i64 r58.1,v88]::.row 34 1 v88 n89 cs90::.box b21 26 [Value.int .i64 0,Value.slice none 0 0]::L)) rfl (elsEA.mono (zae iED)) (by decide) rfl
            obtain ⟨vEL,wEM,runEN,SEO⟩:=SEH.buildSlice (P:=Tryz.prog) te24 [vEp,vEw] (parts:=#[(0,vEp),(1,vEw)]) (cells:=[vEp,vEw]) rfl (zar (zaE hEE.cells) (zar (zaE hEJ.cells) zal)) (zaq hEE.cells (zaq hEJ.cells zak)) (zaa hEE.one (zaa hEJ.one zad)) (Nat.le_of_ble_eq_true rfl)
            have elsEP:Els (up w0.heap.size HEG) (eL eI 1) 1 [vEp,vEw] [rEj.1,[]]:=(Els.snoc (H:=(up w0.heap.size HEG)) (E:=(eL eI 1)) (k:=1) (c:=[vEw]) (x:=[]) (Els.snoc (H:=(up w0.heap.size HEG)) (E:=(eL eI 1)) (k:=1) (c:=[vEp]) (x:=rEj.1) Els.nil rfl ⟨_,rfl,(hEE.mono (zae iEI))⟩) rfl ⟨_,rfl,hEJ⟩)
            have ndEQ:(bl [vEp,vEw]).Nodup:=by exact nd_two (New.apart (hEE.mono (zae (Inc.rfl _))) nvEK)
            have nvER:New HEl [vEp,vEw]:=by exact (New.two nvEF (nvEK.anti iED))
            refine FC.val (l':=(bs 11 255)) rfl (by kernel_rfl) rfl rfl rfl (E.buildSlice (B2 rfl rfl) runEN) ?_
            refine ⟨(SP.on ((SEO.box_now (i:=2) rfl).sub (j:=1) (n:=1) (c:=[v88]) rfl) (SP.on ((SEO.box_now (i:=2) rfl).sub (j:=0) (n:=1) (c:=[Value.int .i64 r58.1]) rfl) (SP.nil (Sl.of_inc ((iEo.tr iED).tr iEI) SEO.sl)))),?_⟩
            refine FB.all1 (i:=8) (by kernel_rfl) ?_
            ·
             obtain ⟨vEU,wEX,nEV,csEW,runEY,SEZ,elsF0,ceF1⟩:=SEO.appendO (P:=Tryz.prog) te24 (i:=3) (j:=0) rfl (els91.mono (zae (((iBe.tr iEo).tr iED).tr iEI))) rfl elsEP hzET
             have SEZ:St H0 w0 HEG wEX (.row 34 1 vEL 2 [vEp,vEw]::.box b0 94 [vEt,Value.int .i64 rEj.2.at_,Value.int .u64 rEj.2.seed]::.box b71 26 [Value.int .i64 r58.1,v88]::.row 34 1 vEU nEV csEW::.box b21 26 [Value.int .i64 0,Value.slice none 0 0]::L):=SEZ
             have ndF2:(bl csEW).Nodup:=by rw [ceF1];exact zba nd92 ndEQ (Els.dom (els91.mono (upI.tr (iBe.tr iEo)))) (by exact nvER)
             have SF3:St H0 w0 HEG wEX (.box b0 94 [vEt,Value.int .i64 rEj.2.at_,Value.int .u64 rEj.2.seed]::.box b71 26 [Value.int .i64 r58.1,v88]::.row 34 1 vEU nEV csEW::.box b21 26 [Value.int .i64 0,Value.slice none 0 0]::L):=SEZ.drop 0
             refine FC.val (l':=(bs 11 511)) rfl (by kernel_rfl) rfl rfl rfl (E.append rfl rfl runEY) ?_
             refine ⟨(SP.on ((SF3.box_now (i:=1) rfl).sub (j:=1) (n:=1) (c:=[v88]) rfl) (SP.on ((SF3.box_now (i:=1) rfl).sub (j:=0) (n:=1) (c:=[Value.int .i64 r58.1]) rfl) (SP.nil (Sl.of_inc ((iEo.tr iED).tr iEI) SF3.sl)))),?_⟩
             refine FB.t (i:=9) (bs 11 1023) rfl (SP.on ((SF3.box_now (i:=1) rfl).sub (j:=1) (n:=1) (c:=[v88]) rfl) (SP.on ((SF3.box_now (i:=1) rfl).sub (j:=0) (n:=1) (c:=[Value.int .i64 r58.1]) rfl) (SP.nil (Sl.of_inc ((iEo.tr iED).tr iEI) SF3.sl)))) rfl (fun w' hw'=>(E.fieldAddr zan kB8)) ?_
             refine FB.all1 (i:=10) (by kernel_rfl) ?_
             ·
              obtain ⟨wF4,runF5,SF6⟩:=SF3.store (P:=Tryz.prog) (t:=24) (i:=1) (j:=1) (cs':=[Value.int .i64 r58.1,vEU]) (l':=(.box b0 94 [vEt,Value.int .i64 rEj.2.at_,Value.int .u64 rEj.2.seed]::.box b71 26 [Value.int .i64 r58.1,vEU]::.row 34 1 vEU nEV csEW::.box b21 26 [Value.int .i64 0,Value.slice none 0 0]::L)) (v:=vEU) (c:=[vEU]) rfl Tryz.sizeOf24 (Ln.cells (SF3.row_ln (i:=2) rfl)) rfl (zaa (Ln.one (SF3.row_ln (i:=2) rfl)) zad) (Nat.le_of_ble_eq_true rfl) rfl rfl
              refine FC.act (l':=(bs 11 2047)) rfl (by kernel_rfl) rfl rfl (E.store rfl rfl runF5) ?_
              refine ⟨(SP.o (SP.on ((SF6.box_now (i:=1) rfl).sub (j:=0) (n:=1) (c:=[Value.int .i64 r58.1]) rfl) (SP.nil (Sl.of_inc ((iEo.tr iED).tr iEI) SF6.sl)))),?_⟩
              exact FB.done (by kernel_rfl) ⟨_,_,_,_,_,SF6,((iEo.tr iED).tr iEI),elsF0,(hEu.mono (iED.tr iEI)),ndF2,kB7,kB8⟩
         ·
          obtain ⟨vEw,wEx,runEy,SEz⟩:=SEi.buildSlice (P:=Tryz.prog) te34 [] (parts:=#[]) (cells:=[]) rfl zal zak zad (Nat.le_of_ble_eq_true rfl)
          have elsEA:Els (up w0.heap.size HBb) eI 1 [] []:=Els.nil
          refine FC.val (l':=(bs 11 95)) rfl (by kernel_rfl) rfl rfl rfl (E.buildSlice (B0) runEy) ?_
          refine ⟨(SP.on ((SEz.box_now (i:=2) rfl).sub (j:=1) (n:=1) (c:=[v88]) rfl) (SP.on ((SEz.box_now (i:=2) rfl).sub (j:=0) (n:=1) (c:=[Value.int .i64 r58.1]) rfl) (SP.nil SEz.sl))),?_⟩
          refine FB.all1 (i:=5) (by kernel_rfl) ?_
          ·
           have SEl:St H0 w0 HBb wEx (.box b0 94 [vBf,Value.int .i64 rB9.2.at_,Value.int .u64 rB9.2.seed]::.row 3 1 vEw 0 []::.box b71 26 [Value.int .i64 r58.1,v88]::.row 34 1 v88 n89 cs90::.box b21 26 [Value.int .i64 0,Value.slice none 0 0]::L):=SEz.front 1 rfl rfl
           refine FC.call (l':=(bs 11 127)) rfl (by kernel_rfl) rfl rfl rfl (E.call Tryz.call181 (A2 rfl rfl)) (zdg (L:=(.row 3 1 vEw 0 []::.box b71 26 [Value.int .i64 r58.1,v88]::.row 34 1 v88 n89 cs90::.box b21 26 [Value.int .i64 0,Value.slice none 0 0]::L)) SEl (a0:=rB9.2) hBg r58.1 hrEk) ?_
           rintro e wEn ⟨HEm,vEq,nEr,csEs,vEu,rfl,⟨SEo,iEp⟩,elsEt,hEv⟩
           refine ⟨_,rfl,?_⟩
           have SEo:St H0 w0 HEm wEn (.row 3 1 vEq nEr csEs::.box b0 94 [vEu,Value.int .i64 rEj.2.at_,Value.int .u64 rEj.2.seed]::.row 3 1 vEw 0 []::.box b71 26 [Value.int .i64 r58.1,v88]::.row 34 1 v88 n89 cs90::.box b21 26 [Value.int .i64 0,Value.slice none 0 0]::L):=SEo
           refine ⟨(SP.on ((SEo.box_now (i:=3) rfl).sub (j:=1) (n:=1) (c:=[v88]) rfl) (SP.on ((SEo.box_now (i:=3) rfl).sub (j:=0) (n:=1) (c:=[Value.int .i64 r58.1]) rfl) (SP.nil (Sl.of_inc iEp SEo.sl)))),?_⟩
           refine FB.all1 (i:=7) (by kernel_rfl) ?_
           ·
            obtain ⟨HEB,SEC,iED,hEE,nvEF⟩:=SEo.sealRowU (i:=0) (l':=(.box b0 94 [vEu,Value.int .i64 rEj.2.at_,Value.int .u64 rEj.2.seed]::.row 3 1 vEw 0 []::.box b71 26 [Value.int .i64 r58.1,v88]::.row 34 1 v88 n89 cs90::.box b21 26 [Value.int .i64 0,Value.slice none 0 0]::L)) rfl elsEt (by decide) rfl
            obtain ⟨HEG,SEH,iEI,hEJ,nvEK⟩:=SEC.sealRowU (i:=1) (l':=(.box b0 94 [vEu,Value.int .i64 rEj.2.at_,Value.int .u64 rEj.2.seed]::.box b71 26 [Value.int .i64 r58.1,v88]::.row 34 1 v88 n89 cs90::.box b21 26 [Value.int .i64 0,Value.slice none 0 0]::L)) rfl (elsEA.mono (zae (iEp.tr iED))) (by decide) rfl
            obtain ⟨vEL,wEM,runEN,SEO⟩:=SEH.buildSlice (P:=Tryz.prog) te24 [vEq,vEw] (parts:=#[(0,vEq),(1,vEw)]) (cells:=[vEq,vEw]) rfl (zar (zaE hEE.cells) (zar (zaE hEJ.cells) zal)) (zaq hEE.cells (zaq hEJ.cells zak)) (zaa hEE.one (zaa hEJ.one zad)) (Nat.le_of_ble_eq_true rfl)
            have elsEP:Els (up w0.heap.size HEG) (eL eI 1) 1 [vEq,vEw] [rEj.1,[]]:=(Els.snoc (H:=(up w0.heap.size HEG)) (E:=(eL eI 1)) (k:=1) (c:=[vEw]) (x:=[]) (Els.snoc (H:=(up w0.heap.size HEG)) (E:=(eL eI 1)) (k:=1) (c:=[vEq]) (x:=rEj.1) Els.nil rfl ⟨_,rfl,(hEE.mono (zae iEI))⟩) rfl ⟨_,rfl,hEJ⟩)
            have ndEQ:(bl [vEq,vEw]).Nodup:=by exact nd_two (New.apart (hEE.mono (zae (Inc.rfl _))) nvEK)
            have nvER:New HEm [vEq,vEw]:=by exact (New.two nvEF (nvEK.anti iED))
            refine FC.val (l':=(bs 11 255)) rfl (by kernel_rfl) rfl rfl rfl (E.buildSlice (B2 rfl rfl) runEN) ?_
            refine ⟨(SP.on ((SEO.box_now (i:=2) rfl).sub (j:=1) (n:=1) (c:=[v88]) rfl) (SP.on ((SEO.box_now (i:=2) rfl).sub (j:=0) (n:=1) (c:=[Value.int .i64 r58.1]) rfl) (SP.nil (Sl.of_inc ((iEp.tr iED).tr iEI) SEO.sl)))),?_⟩
            refine FB.all1 (i:=8) (by kernel_rfl) ?_
            ·
             obtain ⟨vEU,wEX,nEV,csEW,runEY,SEZ,elsF0,ceF1⟩:=SEO.appendO (P:=Tryz.prog) te24 (i:=3) (j:=0) rfl (els91.mono (zae (((iBe.tr iEp).tr iED).tr iEI))) rfl elsEP hzET
             have SEZ:St H0 w0 HEG wEX (.row 34 1 vEL 2 [vEq,vEw]::.box b0 94 [vEu,Value.int .i64 rEj.2.at_,Value.int .u64 rEj.2.seed]::.box b71 26 [Value.int .i64 r58.1,v88]::.row 34 1 vEU nEV csEW::.box b21 26 [Value.int .i64 0,Value.slice none 0 0]::L):=SEZ
             have ndF2:(bl csEW).Nodup:=by rw [ceF1];exact zba nd92 ndEQ (Els.dom (els91.mono (upI.tr (iBe.tr iEp)))) (by exact nvER)
             have SF3:St H0 w0 HEG wEX (.box b0 94 [vEu,Value.int .i64 rEj.2.at_,Value.int .u64 rEj.2.seed]::.box b71 26 [Value.int .i64 r58.1,v88]::.row 34 1 vEU nEV csEW::.box b21 26 [Value.int .i64 0,Value.slice none 0 0]::L):=SEZ.drop 0
             refine FC.val (l':=(bs 11 511)) rfl (by kernel_rfl) rfl rfl rfl (E.append rfl rfl runEY) ?_
             refine ⟨(SP.on ((SF3.box_now (i:=1) rfl).sub (j:=1) (n:=1) (c:=[v88]) rfl) (SP.on ((SF3.box_now (i:=1) rfl).sub (j:=0) (n:=1) (c:=[Value.int .i64 r58.1]) rfl) (SP.nil (Sl.of_inc ((iEp.tr iED).tr iEI) SF3.sl)))),?_⟩
             refine FB.t (i:=9) (bs 11 1023) rfl (SP.on ((SF3.box_now (i:=1) rfl).sub (j:=1) (n:=1) (c:=[v88]) rfl) (SP.on ((SF3.box_now (i:=1) rfl).sub (j:=0) (n:=1) (c:=[Value.int .i64 r58.1]) rfl) (SP.nil (Sl.of_inc ((iEp.tr iED).tr iEI) SF3.sl)))) rfl (fun w' hw'=>(E.fieldAddr zan kB8)) ?_
             refine FB.all1 (i:=10) (by kernel_rfl) ?_
             ·
              obtain ⟨wF4,runF5,SF6⟩:=SF3.store (P:=Tryz.prog) (t:=24) (i:=1) (j:=1) (cs':=[Value.int .i64 r58.1,vEU]) (l':=(.box b0 94 [vEu,Value.int .i64 rEj.2.at_,Value.int .u64 rEj.2.seed]::.box b71 26 [Value.int .i64 r58.1,vEU]::.row 34 1 vEU nEV csEW::.box b21 26 [Value.int .i64 0,Value.slice none 0 0]::L)) (v:=vEU) (c:=[vEU]) rfl Tryz.sizeOf24 (Ln.cells (SF3.row_ln (i:=2) rfl)) rfl (zaa (Ln.one (SF3.row_ln (i:=2) rfl)) zad) (Nat.le_of_ble_eq_true rfl) rfl rfl
              refine FC.act (l':=(bs 11 2047)) rfl (by kernel_rfl) rfl rfl (E.store rfl rfl runF5) ?_
              refine ⟨(SP.o (SP.on ((SF6.box_now (i:=1) rfl).sub (j:=0) (n:=1) (c:=[Value.int .i64 r58.1]) rfl) (SP.nil (Sl.of_inc ((iEp.tr iED).tr iEI) SF6.sl)))),?_⟩
              exact FB.done (by kernel_rfl) ⟨_,_,_,_,_,SF6,((iEp.tr iED).tr iEI),elsF0,(hEv.mono (iED.tr iEI)),ndF2,kB7,kB8⟩
        ·
         rintro fFi wFh ⟨HFe,vF7,nF8,csF9,vFc,SFf,iFg,elsFa,hFd,ndFb,kFj,kFk⟩
         refine FW.seq (FW.region ?_)
         refine FL.v (E.load kFk (zat Tryz.isAgg26 Tryz.sizeOf26 (SFf.box_now (i:=1) rfl) rfl)) ?_
         obtain ⟨wFl,runFm,SFn⟩:=SFf.store0 (P:=Tryz.prog) (t:=26) (i:=3) (cs':=[Value.int .i64 r58.1,vF7]) (l':=(.box b0 94 [vFc,Value.int .i64 rEj.2.at_,Value.int .u64 rEj.2.seed]::.box b71 26 [Value.int .i64 r58.1,vF7]::.row 34 1 vF7 nF8 csF9::.box b21 26 [Value.int .i64 r58.1,vF7]::L)) (v:=Value.agg #[Value.int .i64 r58.1,vF7]) (c:=[Value.int .i64 r58.1,vF7]) rfl Tryz.sizeOf26 rfl rfl (zaa rfl (zaa (Ln.one (SFf.row_ln (i:=2) rfl)) zad)) (Nat.le_of_ble_eq_true rfl) rfl rfl
         refine FL.act rfl rfl (E.store kFj rfl runFm) ?_
         refine FL.nil ?_
         refine FW.ret ?_
         obtain ⟨HFo,SFp,iFq,nsFt,nvFs⟩:=SFn.sealRowN (i:=2) (l':=(.box b0 94 [vFc,Value.int .i64 rEj.2.at_,Value.int .u64 rEj.2.seed]::.box b71 26 [Value.int .i64 r58.1,vF7]::.box b21 26 [Value.int .i64 r58.1,vF7]::L)) rfl elsFa ndFb (by decide) rfl
         have hFr:=nsFt.rsl
         obtain rfl:=Option.some.inj hp
         exact ⟨.inr rfl,resC rfl kFj (zaA Tryz.isAgg26 Tryz.sizeOf26 (SFp.box_now (i:=2) rfl) rfl) ⟨_,_,_,rfl,⟨(SFp.selT (a:=[.box b0 94 [vFc,Value.int .i64 rEj.2.at_,Value.int .u64 rEj.2.seed],.box b71 26 [Value.int .i64 r58.1,vF7],.box b21 26 [Value.int .i64 r58.1,vF7]]) (l':=[.box b0 94 [vFc,Value.int .i64 rEj.2.at_,Value.int .u64 rEj.2.seed]]) [0] (by decide) rfl),(((((((i31.tr i55).tr i63).tr i84).tr iB3).tr iBe).tr iFg).tr iFq)⟩,hFr,(hFd.mono iFq)⟩⟩
       ·
        refine FW.condF rfl cEf ?_
        refine FW.skip (FW.seq (FW.region ?_))
        refine FL.v (E.load kB8 (zat Tryz.isAgg26 Tryz.sizeOf26 (SBd.box_now (i:=1) rfl) rfl)) ?_
        obtain ⟨wFu,runFv,SFw⟩:=SBd.store0 (P:=Tryz.prog) (t:=26) (i:=3) (cs':=[Value.int .i64 r58.1,v88]) (l':=(.box b0 94 [vBf,Value.int .i64 rB9.2.at_,Value.int .u64 rB9.2.seed]::.box b71 26 [Value.int .i64 r58.1,v88]::.row 34 1 v88 n89 cs90::.box b21 26 [Value.int .i64 r58.1,v88]::L)) (v:=Value.agg #[Value.int .i64 r58.1,v88]) (c:=[Value.int .i64 r58.1,v88]) rfl Tryz.sizeOf26 rfl rfl (zaa rfl (zaa (Ln.one (SBd.row_ln (i:=2) rfl)) zad)) (Nat.le_of_ble_eq_true rfl) rfl rfl
        refine FL.act rfl rfl (E.store kB7 rfl runFv) ?_
        refine FL.nil ?_
        refine FW.ret ?_
        obtain ⟨HFx,SFy,iFz,nsFC,nvFB⟩:=SFw.sealRowN (i:=2) (l':=(.box b0 94 [vBf,Value.int .i64 rB9.2.at_,Value.int .u64 rB9.2.seed]::.box b71 26 [Value.int .i64 r58.1,v88]::.box b21 26 [Value.int .i64 r58.1,v88]::L)) rfl (els91.mono (zae iBe)) nd92 (by decide) rfl
        have hFA:=nsFC.rsl
        obtain rfl:=Option.some.inj hp
        exact ⟨.inr rfl,resC rfl kB7 (zaA Tryz.isAgg26 Tryz.sizeOf26 (SFy.box_now (i:=2) rfl) rfl) ⟨_,_,_,rfl,⟨(SFy.selT (a:=[.box b0 94 [vBf,Value.int .i64 rB9.2.at_,Value.int .u64 rB9.2.seed],.box b71 26 [Value.int .i64 r58.1,v88],.box b21 26 [Value.int .i64 r58.1,v88]]) (l':=[.box b0 94 [vBf,Value.int .i64 rB9.2.at_,Value.int .u64 rB9.2.seed]]) [0] (by decide) rfl),((((((i31.tr i55).tr i63).tr i84).tr iB3).tr iBe).tr iFz)⟩,hFA,(hBg.mono iFz)⟩⟩
   ·
    exact x87.elim

@[reducible] def p_spec_DrawIsCnf (Ha:GH) (wa:World) (r:Cnf):Ending→World→Prop :=
 fun e w'=>∃ H':GH,∃ v0_1:Value,e=.returned (Value.agg #[Value.int .i64 r.vars,v0_1])∧Run wa.heap.size Ha wa H' w'∧RSl (up wa.heap.size H') (eL eI 1) 1 v0_1 r.clauses
theorem w_spec_DrawIsCnf {Ha:GH} {wa:World} (hs:Sl Ha wa) (v0:Value) (a0:List Int) (p0:RSl Ha (eN .u8) 1 v0 a0) {r:Cnf} (hp:(PF.zds a0)=some r) :
  Calls Tryz.prog 49 #[v0] wa (p_spec_DrawIsCnf Ha wa r):=by
 unfold PF.zds at hp
 have S0:=St.init hs
 refine zah (N:=9) (args:=[v0]) Tryz.func49 rfl rfl rfl ?_
 refine FW.seq (FW.region ?_)
 obtain ⟨b21,w22,run23,S24⟩:=S0.alloc (P:=Tryz.prog) 26 [Value.int .i64 0,Value.slice none 0 0] Tryz.zeroValue26 rfl (zaa rfl (zaa rfl zad))
 refine FL.v (E.alloc run23) ?_
 refine FL.nil (FW.seq (FW.region ?_))
 refine FL.v (E.move (v:=v0) rfl) ?_
 refine FL.v (E.build (B1 rfl) (run_build _ 94 #[(0,v0)] #[v0,Value.int .i64 0,Value.int .u64 0] (by obtain ⟨_,_,rfl⟩:=RSl.ln p0;rfl))) ?_
 obtain ⟨b25,w26,run27,S28⟩:=S24.box (P:=Tryz.prog) 94 [v0,Value.int .i64 0,Value.int .u64 0] (v:=Value.agg #[v0,Value.int .i64 0,Value.int .u64 0]) rfl (zaa p0.one (zaa rfl (zaa rfl zad)))
 refine FL.v (E.box rfl run27) ?_
 refine FL.v (E.assign (v:=Value.pointer (some (⟨b25,0,none⟩:Addr))) rfl) ?_
 refine FL.nil (FW.seq (FW.region ?_))
 refine FL.v (E.move (v:=Value.pointer (some (⟨b25,0,none⟩:Addr))) rfl) ?_
 obtain ⟨r29,hr30,hp⟩:=bnd hp
 refine FL.call rfl rfl rfl (E.call Tryz.call106 (A1 rfl)) (w_spec_l1Cur_cnf (L:=[.box b21 26 [Value.int .i64 0,Value.slice none 0 0]]) S28 (a0:=(l1Cur.mk a0 0 0)) p0 hr30) ?_
 rintro e w32 ⟨H31,v35,v37,rfl,⟨S33,i34⟩,h36,h38⟩
 refine ⟨_,rfl,?_⟩
 have S33:St Ha wa H31 w32 [.box b25 94 [v37,Value.int .i64 r29.2.at_,Value.int .u64 r29.2.seed],.box b21 26 [Value.int .i64 0,Value.slice none 0 0]]:=S33
 obtain ⟨w39,run40,S41⟩:=S33.store0 (P:=Tryz.prog) (t:=26) (i:=1) (cs':=[Value.int .i64 r29.1.vars,v35]) (l':=[.box b25 94 [v37,Value.int .i64 r29.2.at_,Value.int .u64 r29.2.seed],.box b21 26 [Value.int .i64 r29.1.vars,v35]]) (v:=Value.agg #[Value.int .i64 r29.1.vars,v35]) (c:=[Value.int .i64 r29.1.vars,v35]) rfl Tryz.sizeOf26 rfl rfl (zaa rfl (zaa h36.one zad)) (Nat.le_of_ble_eq_true rfl) rfl rfl
 refine FL.act rfl rfl (E.store rfl rfl run40) ?_
 obtain ⟨H42,S43,i44,at45⟩:=S41.sealBox (i:=1) (l':=[.box b25 94 [v37,Value.int .i64 r29.2.at_,Value.int .u64 r29.2.seed]]) rfl rfl
 refine FL.nil ?_
 refine FW.ret ?_
 obtain rfl:=Option.some.inj hp
 exact ⟨.inr rfl,resC rfl rfl (zaA Tryz.isAgg26 Tryz.sizeOf26 (at45.now S43.sl) rfl) ⟨_,_,rfl,S43.run,(h36.mono (zae i44))⟩⟩

@[reducible] def zeB (Ha:GH) (wa:World) (r:Cnf):Ending→World→Prop :=
 fun e w'=>∃ H':GH,∃ v0_1:Value,e=.returned (Value.agg #[Value.int .i64 r.vars,v0_1])∧Run wa.heap.size Ha wa H' w'∧RSl (up wa.heap.size H') (eL eI 1) 1 v0_1 r.clauses
theorem zeC {Ha:GH} {wa:World} (hs:Sl Ha wa) (v0:Value) (a0:List Int) (p0:RSl Ha (eN .u8) 1 v0 a0) {r:Cnf} (hp:(PF.zcK a0)=some r) :
  Calls Tryz.prog 7 #[v0] wa (zeB Ha wa r):=by
 unfold PF.zcK at hp
 have S0:=St.init hs
 refine zah (N:=5) (args:=[v0]) Tryz.func7 rfl rfl rfl ?_
 refine FW.seq (FW.region ?_)
 obtain ⟨b21,w22,run23,S24⟩:=S0.alloc (P:=Tryz.prog) 26 [Value.int .i64 0,Value.slice none 0 0] Tryz.zeroValue26 rfl (zaa rfl (zaa rfl zad))
 refine FL.v (E.alloc run23) ?_
 refine FL.nil (FW.seq (FW.region ?_))
 refine FL.v (E.move (v:=v0) rfl) ?_
 obtain ⟨r25,hr26,hp⟩:=bnd hp
 refine FL.call rfl rfl rfl (E.call Tryz.call49 (A1 rfl)) (w_spec_DrawIsCnf S24.sl v0 a0 p0 hr26) ?_
 rintro e w28 ⟨H27,v31,rfl,r30,h32⟩
 refine ⟨_,rfl,?_⟩
 have nv33:New Ha [v31]:=New.of_up S24.sl h32.dom
 have h32:=h32.mono (up_le S24.size)
 have S29:=S24.call r30
 obtain ⟨w34,run35,S36⟩:=S29.store0 (P:=Tryz.prog) (t:=26) (i:=0) (cs':=[Value.int .i64 r25.vars,v31]) (l':=[.box b21 26 [Value.int .i64 r25.vars,v31]]) (v:=Value.agg #[Value.int .i64 r25.vars,v31]) (c:=[Value.int .i64 r25.vars,v31]) rfl Tryz.sizeOf26 rfl rfl (zaa rfl (zaa h32.one zad)) (Nat.le_of_ble_eq_true rfl) rfl rfl
 refine FL.act rfl rfl (E.store rfl rfl run35) ?_
 obtain ⟨H37,S38,i39,at40⟩:=S36.sealBox (i:=0) (l':=[]) rfl rfl
 refine FL.nil ?_
 refine FW.ret ?_
 obtain rfl:=Option.some.inj hp
 exact ⟨.inr rfl,resC rfl rfl (zaA Tryz.isAgg26 Tryz.sizeOf26 (at40.now S38.sl) rfl) ⟨_,_,rfl,S38.run,(h32.mono (zae i39))⟩⟩

theorem zdU {Ha:GH} {wa:World} (hs:Sl Ha wa) (a0:Int) (a1:Int) (a2:Int) :
  Calls Tryz.prog 140 #[Value.int .i64 a0,Value.int .i64 a1,Value.int .i64 a2] wa (Sc Ha wa (Value.bool (PF.za6 a0 a1 a2))):=by
 obtain ⟨r,hp⟩:∃ r,(PF.za6 a0 a1 a2)=r:=⟨_,rfl⟩
 rw [hp]
 unfold PF.za6 at hp
 have S0:=St.init hs
 refine zah (N:=15) (args:=[Value.int .i64 a0,Value.int .i64 a1,Value.int .i64 a2]) Tryz.func140 rfl rfl rfl ?_
 refine FW.seq (FW.region ?_)
 refine FL.v (E.assign (v:=Value.bool false) rfl) ?_
 refine FL.nil (FW.seq (FW.region ?_))
 refine FL.v (E.move (v:=Value.int .i64 a0) rfl) ?_
 refine FL.v (E.move (v:=Value.int .i64 a1) rfl) ?_
 refine FL.v (E.geq rfl rfl) ?_
 refine FL.v (E.move (v:=Value.bool (decide (a1≤a0))) rfl) ?_
 refine FL.cut 4 (fun f w=>∃ H:GH,St Ha wa H w []∧Inc Ha H∧f 14=Value.bool (bif (decide (a1≤a0)) then (decide (a0≤a2)) else false)) ?_ ?_
 ·
  rcases bcase (decide (a1≤a0)) with c27|c27
  ·
   refine FL.val (zac rfl rfl rfl c27) rfl rfl (E.move (v:=Value.int .i64 a0) rfl) ?_
   refine FL.val (zac rfl rfl rfl c27) rfl rfl (E.move (v:=Value.int .i64 a2) rfl) ?_
   refine FL.val (zac rfl rfl rfl c27) rfl rfl (E.leq rfl rfl) ?_
   refine FL.v (E.pickT rfl c27 rfl) ?_
   exact FL.nil ⟨rfl,_,S0,(Inc.rfl _),(congrArg Value.bool (bifT c27).symm)⟩
  ·
   refine FL.skip (wF_no rfl rfl rfl c27) rfl ?_
   refine FL.skip (wF_no rfl rfl rfl c27) rfl ?_
   refine FL.skip (wF_no rfl rfl rfl c27) rfl ?_
   refine FL.v (E.pickF rfl c27 rfl) ?_
   exact FL.nil ⟨rfl,_,S0,(Inc.rfl _),(congrArg Value.bool (bifF c27).symm)⟩
 rintro f26 w25 ⟨H22,S23,i24,k28⟩
 refine FL.v (E.assign k28) ?_
 refine FL.nil ?_
 refine FW.ret ?_
 obtain rfl:=hp
 exact ⟨.inr rfl,res1 rfl rfl ⟨rfl,S23.back⟩⟩

theorem w_impl_isLiteral {Ha:GH} {wa:World} (hs:Sl Ha wa) (a0:Int) (a1:Int) :
  Calls Tryz.prog 128 #[Value.int .i64 a0,Value.int .i64 a1] wa (Sc Ha wa (Value.bool (PF.zbx a0 a1))):=by
 obtain ⟨r,hp⟩:∃ r,(PF.zbx a0 a1)=r:=⟨_,rfl⟩
 rw [hp]
 unfold PF.zbx at hp
 have S0:=St.init hs
 refine zah (N:=14) (args:=[Value.int .i64 a0,Value.int .i64 a1]) Tryz.func128 rfl rfl rfl ?_
 refine FW.seq (FW.region ?_)
 refine FL.v (E.assign (v:=Value.bool false) rfl) ?_
 refine FL.nil (FW.seq (FW.region ?_))
 refine FL.v (E.move (v:=Value.int .i64 a1) rfl) ?_
 refine FL.v (E.neq rfl rfl) ?_
 refine FL.v (E.move (v:=Value.bool (!(a1 == 0))) rfl) ?_
 refine FL.cut 6 (fun f w=>∃ H:GH,St Ha wa H w []∧Inc Ha H∧f 13=Value.bool (bif (!(a1 == 0)) then (PF.za6 a1 (wr (-a0)) a0) else false)) ?_ ?_
 ·
  rcases bcase (!(a1 == 0)) with c30|c30
  ·
   refine FL.val (zac rfl rfl rfl c30) rfl rfl (E.move (v:=Value.int .i64 a1) rfl) ?_
   refine FL.val (zac rfl rfl rfl c30) rfl rfl (E.move (v:=Value.int .i64 a0) rfl) ?_
   refine FL.val (zac rfl rfl rfl c30) rfl rfl (E.neg rfl) ?_
   refine FL.val (zac rfl rfl rfl c30) rfl rfl (E.move (v:=Value.int .i64 a0) rfl) ?_
   refine FL.call (zac rfl rfl rfl c30) rfl rfl (E.call Tryz.call140 (A3 rfl rfl rfl)) (zdU S0.sl a1 (wr (-a0)) a0) ?_
   rintro e w31 ⟨rfl,r32⟩
   refine ⟨_,rfl,?_⟩
   have S33:=S0.call r32
   refine FL.v (E.pickT rfl c30 rfl) ?_
   exact FL.nil ⟨rfl,_,S33,(Inc.rfl _),(congrArg Value.bool (bifT c30).symm)⟩
  ·
   refine FL.skip (wF_no rfl rfl rfl c30) rfl ?_
   refine FL.skip (wF_no rfl rfl rfl c30) rfl ?_
   refine FL.skip (wF_no rfl rfl rfl c30) rfl ?_
   refine FL.skip (wF_no rfl rfl rfl c30) rfl ?_
   refine FL.skip (wF_no rfl rfl rfl c30) rfl ?_
   refine FL.v (E.pickF rfl c30 rfl) ?_
   exact FL.nil ⟨rfl,_,S0,(Inc.rfl _),(congrArg Value.bool (bifF c30).symm)⟩
 rintro f29 w28 ⟨H25,S26,i27,k34⟩
 refine FL.v (E.assign k34) ?_
 refine FL.nil ?_
 refine FW.ret ?_
 obtain rfl:=hp
 exact ⟨.inr rfl,res1 rfl rfl ⟨rfl,S26.back⟩⟩

theorem zdh {Ha:GH} {wa:World} (hs:Sl Ha wa) (a0:Int) :
  Calls Tryz.prog 129 #[Value.int .i64 a0] wa (Sc Ha wa (Value.int .i64 (PF.zaw a0))):=by
 obtain ⟨r,hp⟩:∃ r,(PF.zaw a0)=r:=⟨_,rfl⟩
 rw [hp]
 unfold PF.zaw at hp
 have S0:=St.init hs
 refine zah (N:=7) (args:=[Value.int .i64 a0]) Tryz.func129 rfl rfl rfl ?_
 refine FW.seq (FW.region ?_)
 refine FL.v (E.assign (v:=Value.int .i64 0) rfl) ?_
 refine FL.nil (FW.seq (FW.region ?_))
 refine FL.v (E.move (v:=Value.int .i64 a0) rfl) ?_
 refine FL.v (E.move (v:=Value.int .i64 a0) rfl) ?_
 refine FL.v (E.neg rfl) ?_
 refine FL.v (E.max2 rfl rfl) ?_
 refine FL.v (E.assign (v:=Value.int .i64 (mx a0 (wr (-a0)))) rfl) ?_
 refine FL.nil ?_
 refine FW.ret ?_
 obtain rfl:=hp
 exact ⟨.inr rfl,res1 rfl rfl ⟨rfl,S0.back⟩⟩

theorem w_impl_varsOk {Ha:GH} {wa:World} (hs:Sl Ha wa) (a0:Int) :
  Calls Tryz.prog 107 #[Value.int .i64 a0] wa (Sc Ha wa (Value.bool (PF.zbh a0))):=by
 obtain ⟨r,hp⟩:∃ r,(PF.zbh a0)=r:=⟨_,rfl⟩
 rw [hp]
 unfold PF.zbh at hp
 have S0:=St.init hs
 refine zah (N:=5) (args:=[Value.int .i64 a0]) Tryz.func107 rfl rfl rfl ?_
 refine FW.seq (FW.region ?_)
 refine FL.v (E.assign (v:=Value.bool false) rfl) ?_
 refine FL.nil (FW.seq (FW.region ?_))
 refine FL.v (E.move (v:=Value.int .i64 a0) rfl) ?_
 refine FL.call rfl rfl rfl (E.call Tryz.call140 (A3 rfl rfl rfl)) (zdU S0.sl a0 0 12) ?_
 rintro e w21 ⟨rfl,r22⟩
 refine ⟨_,rfl,?_⟩
 have S23:=S0.call r22
 refine FL.v (E.assign (v:=Value.bool (PF.za6 a0 0 12)) rfl) ?_
 refine FL.nil ?_
 refine FW.ret ?_
 obtain rfl:=hp
 exact ⟨.inr rfl,res1 rfl rfl ⟨rfl,S23.back⟩⟩

set_option maxHeartbeats 4000000 in
theorem zdV {Ha:GH} {wa:World} (hs:Sl Ha wa) (a0:Int) (v1:Value) (a1:List Int) (p1:RSl Ha eI 1 v1 a1) {r:Bool} (hp:(PF.zbQ a0 a1)=some r) :
  Calls Tryz.prog 62 #[Value.int .i64 a0,v1] wa (Sc Ha wa (Value.bool r)):=by
 unfold PF.zbQ at hp
 have S0:=St.init hs
 refine zah (N:=36) (args:=[Value.int .i64 a0,v1]) Tryz.func62 rfl rfl rfl ?_
 refine FW.seq (FW.region ?_)
 refine FL.v (E.assign (v:=Value.bool false) rfl) ?_
 refine FL.nil (FW.seq (FW.seq (FW.region ?_)))
 refine FL.v (E.move (v:=v1) rfl) ?_
 refine FL.v (E.lenP te34 rfl p1) ?_
 refine FL.v (E.move (v:=Value.int .i64 0) rfl) ?_
 refine FL.nil ?_
 obtain ⟨q22,hq,hp⟩:=bndR hp
 refine FW.block ?_
 refine FW.mono (FW.forL (S:=Unit) (X:=Bool) (fun (i22:Nat) (s22:Unit) f w=>∃ H:GH,St Ha wa H w []∧Inc Ha H∧f 9=Value.int .i64 ((i22:Nat):Int)∧f 0=Value.int .i64 a0∧f 1=v1∧f 7=v1∧f 8=Value.int .i64 (len a1)) (fun q e f w=>match q with|.go s22=>e=Exit.exit 0∧(∃ H:GH,St Ha wa H w []∧Inc Ha H∧f 0=Value.int .i64 a0)|.rt x=>((e=Exit.ret)∧(fun e f w=>(e=Exit.normal∨e=Exit.ret)∧∀ a,Fr (δ:=[]) 36 a f→∃ v,(results Tryz.f62 a.tmps).run Tryz.prog w=.ok v w∧(Sc Ha wa (Value.bool x)) (.returned v) w) e f w)) hq ⟨_,S0,(Inc.rfl _),rfl,rfl,rfl,rfl,rfl⟩ ?_ ?_) ?_
 ·
  clear hp hq
  rintro i22 y21 s22 fAl wAk ⟨HAh,SAi,iAj,kAm,kAn,kAo,kAp,kAq⟩ hx22 oBN hp
  refine FW.seq (FW.region ?_)
  refine FL.v (E.lssT kAm kAq (zay hx22)) ?_
  refine FL.nil (FW.seq ?_)
  refine FW.condT rfl rfl ?_
  refine FW.skip (FW.seq (FW.block (FW.seq (FW.region ?_))))
  refine FL.v (E.move kAm) ?_
  obtain ⟨pAr,csAs,ptAt,lAu,atAv,relAw⟩:=p1.at (zap hx22)
  obtain rfl:=zam relAw
  refine FL.v (E.indexAddr te34 kAp kAm ptAt) ?_
  refine FL.v (E.load rfl (zaf Tryz.isAgg3 ((atAv.mono iAj).now SAi.sl) rfl)) ?_
  refine FL.v (E.assign (v:=Value.int .i64 ((i22:Nat):Int)) rfl) ?_
  refine FL.v (E.assign (v:=Value.int .i64 y21) rfl) ?_
  refine FL.nil (FW.seq ?_)
  refine FW.draw (fun w'=>Run wAk.heap.size HAh wAk HAh w') (by kernel_rfl) (by kernel_rfl) (zaD SAi.sl) ?_
  refine FD.val rfl rfl rfl (fun w' hw'=>(E.move kAn)) ?_
  refine FD.val rfl rfl rfl (fun w' hw'=>(E.move (v:=Value.int .i64 y21) rfl)) ?_
  refine FD.call rfl rfl rfl (fun w' hw'=>(E.call Tryz.call128 (A2 rfl rfl))) (fun w' hw'=>Calls.cls hw' (w_impl_isLiteral (SAi.call hw').sl a0 y21)) ?_
  refine FD.val rfl rfl rfl (fun w' hw'=>(E.not rfl)) ?_
  refine FD.val rfl rfl rfl (fun w' hw'=>(E.move (v:=Value.bool (!(PF.zbx a0 y21))) rfl)) ?_
  obtain ⟨t164,hqtB2,hp⟩:=bnd hp
  refine FD.cut 14 (fun f=>f 0=Value.int .i64 a0∧f 1=v1∧f 7=v1∧f 8=Value.int .i64 (len a1)∧f 9=Value.int .i64 ((i22:Nat):Int)∧f 32=Value.bool t164) ?_ ?_
  ·
   clear hp;have hp:=hqtB2;clear hqtB2
   rcases ifB hp with ⟨cB8,hp⟩|⟨cB8,hp⟩
   ·
    refine FD.skip (wF_no rfl rfl rfl cB8) rfl ?_
    refine FD.skip (wF_no rfl rfl rfl cB8) rfl ?_
    refine FD.skip (wF_no rfl rfl rfl cB8) rfl ?_
    refine FD.skip (zaB rfl rfl rfl) rfl ?_
    refine FD.skip (zaB rfl rfl rfl) rfl ?_
    refine FD.skip (zaB rfl rfl rfl) rfl ?_
    refine FD.skip (zaB rfl rfl rfl) rfl ?_
    refine FD.skip (zaB rfl rfl rfl) rfl ?_
    refine FD.skip (zaB rfl rfl rfl) rfl ?_
    refine FD.skip (zaB rfl rfl rfl) rfl ?_
    refine FD.skip (zaB rfl rfl rfl) rfl ?_
    refine FD.skip (zaB rfl rfl rfl) rfl ?_
    refine FD.skip (wF_no rfl rfl rfl cB8) rfl ?_
    obtain rfl:=Option.some.inj hp
    refine FD.val rfl rfl rfl (fun w' hw'=>(E.pickT rfl cB8 rfl)) ?_
    exact FD.nil ⟨kAn,kAo,kAp,kAq,kAm,rfl⟩
   ·
    refine FD.val (zac rfl rfl rfl cB8) rfl rfl (fun w' hw'=>(E.move (v:=Value.int .i64 ((i22:Nat):Int)) rfl)) ?_
    refine FD.val (zac rfl rfl rfl cB8) rfl rfl (fun w' hw'=>(E.gtr rfl rfl)) ?_
    refine FD.val (zac rfl rfl rfl cB8) rfl rfl (fun w' hw'=>(E.move (v:=Value.bool (decide (0 < ((i22:Nat):Int)))) rfl)) ?_
    obtain ⟨t179,hqtBh,hp⟩:=bnd hp
    refine FD.cut 10 (fun f=>f 0=Value.int .i64 a0∧f 1=v1∧f 7=v1∧f 8=Value.int .i64 (len a1)∧f 9=Value.int .i64 ((i22:Nat):Int)∧f 18=Value.bool (!(PF.zbx a0 y21))∧f 31=Value.bool t179) ?_ ?_
    ·
     clear hp;have hp:=hqtBh;clear hqtBh
     rcases ifB hp with ⟨cBn,hp⟩|⟨cBn,hp⟩
     ·
      refine FD.val (zac rfl rfl rfl cBn) rfl rfl (fun w' hw'=>(E.move (v:=Value.int .i64 y21) rfl)) ?_
      refine FD.call (zac rfl rfl rfl cBn) rfl rfl (fun w' hw'=>(E.call Tryz.call129 (A1 rfl))) (fun w' hw'=>Calls.cls hw' (zdh (SAi.call hw').sl y21)) ?_
      refine FD.val (zac rfl rfl rfl cBn) rfl rfl (fun w' hw'=>(E.move kAo)) ?_
      refine FD.val (zac rfl rfl rfl cBn) rfl rfl (fun w' hw'=>(E.move (v:=Value.int .i64 ((i22:Nat):Int)) rfl)) ?_
      refine FD.val (zac rfl rfl rfl cBn) rfl rfl (fun w' hw'=>(E.sub rfl rfl)) ?_
      obtain ⟨xBu,hxBv,hp⟩:=bnd hp
      obtain ⟨pBo,csBp,ptBq,lBr,atBs,relBt⟩:=p1.at hxBv
      obtain rfl:=zam relBt
      refine FD.val (zac rfl rfl rfl cBn) rfl rfl (fun w' hw'=>(E.indexAddr te34 rfl rfl ptBq)) ?_
      refine FD.val (zac rfl rfl rfl cBn) rfl rfl (fun w' hw'=>(E.load rfl (zaf Tryz.isAgg3 ((atBs.mono iAj).now (SAi.call hw').sl) rfl))) ?_
      refine FD.call (zac rfl rfl rfl cBn) rfl rfl (fun w' hw'=>(E.call Tryz.call129 (A1 rfl))) (fun w' hw'=>Calls.cls hw' (zdh (SAi.call hw').sl xBu)) ?_
      refine FD.val (zac rfl rfl rfl cBn) rfl rfl (fun w' hw'=>(E.leq rfl rfl)) ?_
      obtain rfl:=Option.some.inj hp
      refine FD.val (zac rfl rfl rfl cB8) rfl rfl (fun w' hw'=>(E.pickT rfl cBn rfl)) ?_
      exact FD.nil ⟨kAn,kAo,kAp,kAq,kAm,rfl,rfl⟩
     ·
      refine FD.skip (wF_no rfl rfl rfl cBn) rfl ?_
      refine FD.skip (wF_no rfl rfl rfl cBn) rfl ?_
      refine FD.skip (wF_no rfl rfl rfl cBn) rfl ?_
      refine FD.skip (wF_no rfl rfl rfl cBn) rfl ?_
      refine FD.skip (wF_no rfl rfl rfl cBn) rfl ?_
      refine FD.skip (wF_no rfl rfl rfl cBn) rfl ?_
      refine FD.skip (wF_no rfl rfl rfl cBn) rfl ?_
      refine FD.skip (wF_no rfl rfl rfl cBn) rfl ?_
      refine FD.skip (wF_no rfl rfl rfl cBn) rfl ?_
      obtain rfl:=Option.some.inj hp
      refine FD.val (zac rfl rfl rfl cB8) rfl rfl (fun w' hw'=>(E.pickF rfl cBn rfl)) ?_
      exact FD.nil ⟨kAn,kAo,kAp,kAq,kAm,rfl,rfl⟩
    rintro fBm ⟨kBw,kBx,kBy,kBz,kBA,kBB,kBC⟩
    obtain rfl:=Option.some.inj hp
    refine FD.val rfl rfl rfl (fun w' hw'=>(E.pickF kBB cB8 kBC)) ?_
    exact FD.nil ⟨kBw,kBx,kBy,kBz,kBA,rfl⟩
  rintro fB7 ⟨kBD,kBE,kBF,kBG,kBH,kBI⟩
  refine FD.nil ?_
  intro wBJ rBL
  have SBK:=SAi.call rBL
  rcases ifB hp with ⟨cBM,hp⟩|⟨cBM,hp⟩
  ·
   refine FW.condT kBI cBM ?_
   refine FW.seq (FW.region ?_)
   refine FL.v (E.assign (v:=Value.bool false) rfl) ?_
   refine FL.nil ?_
   refine FW.ret ?_
   obtain rfl:=Option.some.inj hp
   exact ⟨nofun,rfl,⟨.inr rfl,res1 rfl rfl ⟨rfl,SBK.back⟩⟩⟩
  ·
   refine FW.condF kBI cBM ?_
   refine FW.skip (FW.region ?_)
   refine FL.v (E.add kBH rfl) ?_
   refine FL.v (E.move (v:=Value.int .i64 (wr (((i22:Nat):Int) + 1))) rfl) ?_
   refine FL.nil ?_
   obtain rfl:=Option.some.inj hp
   exact ⟨rfl,⟨_,SBK,iAj,(zas rfl (zao hx22) (p1.mono iAj).le),kBD,kBE,kBF,kBG⟩⟩
 ·
  clear hp hq
  rintro s22 fC1 wC0 ⟨HBX,SBY,iBZ,kC2,kC3,kC4,kC5,kC6⟩
  refine FW.seq (FW.region ?_)
  refine FL.v (E.lss kC2 kC6) ?_
  refine FL.nil (FW.seq ?_)
  refine FW.condF rfl zaz ?_
  refine FW.exit ?_
  exact ⟨nofun,rfl,⟨_,SBY,iBZ,kC3⟩⟩
 ·
  clear hq
  intro e fBS wBR hD
  rcases q22 with s22|x22
  ·
   obtain ⟨rfl,hD⟩:=hD
   obtain ⟨HBO,SBP,iBQ,kBT⟩:=hD
   replace hp:=el_go hp
   refine FW.seq (FW.region ?_)
   refine FL.v (E.move kBT) ?_
   refine FL.call rfl rfl rfl (E.call Tryz.call107 (A1 rfl)) (w_impl_varsOk SBP.sl a0) ?_
   rintro e wBU ⟨rfl,rBV⟩
   refine ⟨_,rfl,?_⟩
   have SBW:=SBP.call rBV
   refine FL.v (E.assign (v:=Value.bool (PF.zbh a0)) rfl) ?_
   refine FL.nil ?_
   refine FW.ret ?_
   obtain rfl:=Option.some.inj hp
   exact ⟨.inr rfl,res1 rfl rfl ⟨rfl,SBW.back⟩⟩
  ·
   obtain ⟨he,hL⟩:=hD
   replace hp:=el_rt hp
   obtain rfl:=Option.some.inj hp
   subst he
   exact hL

set_option maxHeartbeats 4000000 in
theorem zdD {Ha:GH} {wa:World} (hs:Sl Ha wa) (a0:Cnf) (v0_1:Value) (p0_1:RSl Ha (eL eI 1) 1 v0_1 a0.clauses) {r:Bool} (hp:(PF.zby a0)=some r) :
  Calls Tryz.prog 50 #[Value.agg #[Value.int .i64 a0.vars,v0_1]] wa (Sc Ha wa (Value.bool r)):=by
 unfold PF.zby at hp
 have S0:=St.init hs
 refine zah (N:=27) (args:=[Value.agg #[Value.int .i64 a0.vars,v0_1]]) Tryz.func50 rfl rfl rfl ?_
 refine FW.seq (FW.region ?_)
 obtain ⟨b21,w22,run23,S24⟩:=S0.box (P:=Tryz.prog) 26 [Value.int .i64 a0.vars,v0_1] (v:=Value.agg #[Value.int .i64 a0.vars,v0_1]) rfl (zaa rfl (zaa p0_1.one zad))
 refine FL.v (E.box rfl run23) ?_
 obtain ⟨H25,S26,i27,at28⟩:=S24.sealBox (i:=0) (l':=[]) rfl rfl
 refine FL.v (E.assign (v:=Value.bool false) rfl) ?_
 refine FL.nil (FW.seq (FW.seq (FW.region ?_)))
 refine FL.v (E.fieldAddr zan rfl) ?_
 refine FL.v (E.load rfl (zag Tryz.isAgg24 (at28.now S26.sl) rfl)) ?_
 refine FL.v (E.lenP te24 rfl p0_1) ?_
 refine FL.v (E.move (v:=Value.int .i64 0) rfl) ?_
 refine FL.nil ?_
 obtain ⟨q30,hq,hp⟩:=bndR hp
 refine FW.block ?_
 refine FW.mono (FW.forL (S:=Unit) (X:=Bool) (fun (i30:Nat) (s30:Unit) f w=>∃ H:GH,St Ha wa H w []∧Inc H25 H∧f 8=Value.int .i64 ((i30:Nat):Int)∧f 1=Value.pointer (some ⟨b21,0,none⟩)∧f 6=v0_1∧f 7=Value.int .i64 (len a0.clauses)) (fun q e f w=>match q with|.go s30=>e=Exit.exit 0∧(∃ H:GH,St Ha wa H w []∧Inc H25 H∧f 1=Value.pointer (some ⟨b21,0,none⟩))|.rt x=>((e=Exit.ret)∧(fun e f w=>(e=Exit.normal∨e=Exit.ret)∧∀ a,Fr (δ:=[]) 27 a f→∃ v,(results Tryz.f50 a.tmps).run Tryz.prog w=.ok v w∧(Sc Ha wa (Value.bool x)) (.returned v) w) e f w)) hq ⟨_,S26,(Inc.rfl _),rfl,rfl,rfl,rfl⟩ ?_ ?_) ?_
 ·
  clear hp hq
  rintro i30 y29 s30 f58 w57 ⟨H54,S55,i56,k59,k60,k61,k62⟩ hx30 o77 hp
  refine FW.seq (FW.region ?_)
  refine FL.v (E.lssT k59 k62 (zay hx30)) ?_
  refine FL.nil (FW.seq ?_)
  refine FW.condT rfl rfl ?_
  refine FW.skip (FW.seq (FW.block (FW.seq (FW.region ?_))))
  obtain ⟨p63,cs64,pt65,l66,at67,rel68⟩:=p0_1.at (zap hx30)
  obtain ⟨v69,rfl,h70⟩:=zau rel68
  refine FL.v (E.indexAddr te24 k61 k59 pt65) ?_
  refine FL.v (E.load rfl (zaf Tryz.isAgg34 ((at67.mono (i27.tr i56)).now S55.sl) rfl)) ?_
  refine FL.v (E.assign (v:=v69) rfl) ?_
  refine FL.nil (FW.seq (FW.region ?_))
  refine FL.v (E.fieldAddr zax k60) ?_
  refine FL.v (E.load rfl (zag Tryz.isAgg3 ((at28.mono i56).now S55.sl) rfl)) ?_
  refine FL.v (E.move (v:=v69) rfl) ?_
  obtain ⟨r71,hr72,hp⟩:=bnd hp
  refine FL.call rfl rfl rfl (E.call Tryz.call62 (A2 rfl rfl)) (zdV S55.sl a0.vars v69 y29 (h70.mono (i27.tr i56)) hr72) ?_
  rintro e w73 ⟨rfl,r74⟩
  refine ⟨_,rfl,?_⟩
  have S75:=S55.call r74
  refine FL.v (E.not rfl) ?_
  refine FL.nil ?_
  rcases ifB hp with ⟨c76,hp⟩|⟨c76,hp⟩
  ·
   refine FW.condT rfl c76 ?_
   refine FW.seq (FW.region ?_)
   refine FL.v (E.assign (v:=Value.bool false) rfl) ?_
   refine FL.nil ?_
   refine FW.ret ?_
   obtain rfl:=Option.some.inj hp
   exact ⟨nofun,rfl,⟨.inr rfl,res1 rfl rfl ⟨rfl,S75.back⟩⟩⟩
  ·
   refine FW.condF rfl c76 ?_
   refine FW.skip (FW.region ?_)
   refine FL.v (E.add k59 rfl) ?_
   refine FL.v (E.move (v:=Value.int .i64 (wr (((i30:Nat):Int) + 1))) rfl) ?_
   refine FL.nil ?_
   obtain rfl:=Option.some.inj hp
   exact ⟨rfl,⟨_,S75,i56,(zas rfl (zao hx30) (p0_1.mono (i27.tr i56)).le),k60,k61,k62⟩⟩
 ·
  clear hp hq
  rintro s30 f99 w98 ⟨H95,S96,i97,kA0,kA1,kA2,kA3⟩
  refine FW.seq (FW.region ?_)
  refine FL.v (E.lss kA0 kA3) ?_
  refine FL.nil (FW.seq ?_)
  refine FW.condF rfl zaz ?_
  refine FW.exit ?_
  exact ⟨nofun,rfl,⟨_,S96,i97,kA1⟩⟩
 ·
  clear hq
  intro e f82 w81 hD
  rcases q30 with s30|x30
  ·
   obtain ⟨rfl,hD⟩:=hD
   obtain ⟨H78,S79,i80,k83⟩:=hD
   replace hp:=el_go hp
   refine FW.seq (FW.region ?_)
   refine FL.v (E.fieldAddr zax k83) ?_
   refine FL.v (E.load rfl (zag Tryz.isAgg3 ((at28.mono i80).now S79.sl) rfl)) ?_
   refine FL.call rfl rfl rfl (E.call Tryz.call107 (A1 rfl)) (w_impl_varsOk S79.sl a0.vars) ?_
   rintro e w84 ⟨rfl,r85⟩
   refine ⟨_,rfl,?_⟩
   have S86:=S79.call r85
   refine FL.v (E.move (v:=Value.bool (PF.zbh a0.vars)) rfl) ?_
   refine FL.cut 5 (fun f w=>∃ H:GH,St Ha wa H w []∧Inc H78 H∧f 26=Value.bool (bif (PF.zbh a0.vars) then (decide ((len a0.clauses)≤60)) else false)) ?_ ?_
   ·
    rcases bcase (PF.zbh a0.vars) with c93|c93
    ·
     refine FL.val (zac rfl rfl rfl c93) rfl rfl (E.fieldAddr zan k83) ?_
     refine FL.val (zac rfl rfl rfl c93) rfl rfl (E.load rfl (zag Tryz.isAgg24 ((at28.mono i80).now S86.sl) rfl)) ?_
     refine FL.val (zac rfl rfl rfl c93) rfl rfl (E.lenP te24 rfl p0_1) ?_
     refine FL.val (zac rfl rfl rfl c93) rfl rfl (E.leq rfl rfl) ?_
     refine FL.v (E.pickT rfl c93 rfl) ?_
     exact FL.nil ⟨rfl,_,S86,(Inc.rfl _),(congrArg Value.bool (bifT c93).symm)⟩
    ·
     refine FL.skip (wF_no rfl rfl rfl c93) rfl ?_
     refine FL.skip (wF_no rfl rfl rfl c93) rfl ?_
     refine FL.skip (wF_no rfl rfl rfl c93) rfl ?_
     refine FL.skip (wF_no rfl rfl rfl c93) rfl ?_
     refine FL.v (E.pickF rfl c93 rfl) ?_
     exact FL.nil ⟨rfl,_,S86,(Inc.rfl _),(congrArg Value.bool (bifF c93).symm)⟩
   rintro f92 w91 ⟨H88,S89,i90,k94⟩
   refine FL.v (E.assign k94) ?_
   refine FL.nil ?_
   refine FW.ret ?_
   obtain rfl:=Option.some.inj hp
   exact ⟨.inr rfl,res1 rfl rfl ⟨rfl,S89.back⟩⟩
  ·
   obtain ⟨he,hL⟩:=hD
   replace hp:=el_rt hp
   obtain rfl:=Option.some.inj hp
   subst he
   exact hL

@[reducible] def zeD (Ha:GH) (wa:World) (r:(List (List Int))):Ending→World→Prop :=
 fun e w'=>∃ H':GH,∃ v0:Value,∃ n0:Nat,∃ c0:List Value,e=.returned (v0)∧St Ha wa H' w' [.row 34 1 v0 n0 c0]∧Els H' (eL eI 1) 1 c0 r
theorem zei {Ha:GH} {wa:World} (hs:Sl Ha wa) (v0:Value) (a0:List (List Int)) (p0:RSl Ha (eL eI 1) 1 v0 a0) {r:(List (List Int))} (hp:(PF.zcf a0)=some r) :
  Calls Tryz.prog 109 #[v0] wa (zeD Ha wa r):=by
 unfold PF.zcf at hp
 have S0:=St.init hs
 refine zah (N:=8) (args:=[v0]) Tryz.func109 rfl rfl rfl ?_
 refine FW.seq (FW.region ?_)
 refine FL.v (E.assign (v:=Value.slice none 0 0) rfl) ?_
 refine FL.nil (FW.seq (FW.seq (FW.region ?_)))
 refine FL.v (E.move (v:=v0) rfl) ?_
 obtain ⟨nb21,run22,hn23⟩:=RSl.nilTest te24 p0
 refine FL.v (run22 _ _ _ _ _ _ _ _ _ _ _ _ rfl rfl) ?_
 refine FL.nil ?_
 rcases bcase nb21 with c24|c24
 ·
  refine FW.condT (b:=nb21) rfl c24 ?_
  rw [hn23 c24,app_nil2] at hp
  refine FW.seq (FW.region ?_)
  refine FL.v (E.assign (v:=Value.slice none 0 0) rfl) ?_
  refine FL.nil ?_
  refine FW.ret ?_
  obtain rfl:=Option.some.inj hp
  exact ⟨.inr rfl,res1 rfl rfl ⟨_,_,_,_,rfl,(S0.nil 34 1),Els.nil⟩⟩
 ·
  refine FW.condF (b:=nb21) rfl c24 ?_
  refine FW.skip (FW.seq (FW.region ?_))
  obtain ⟨v25,w26,run27,S28⟩:=S0.buildSlice (P:=Tryz.prog) te24 [] (parts:=#[]) (cells:=[]) rfl zal zak zad (Nat.le_of_ble_eq_true rfl)
  have els29:Els (up wa.heap.size Ha) (eL eI 1) 1 [] []:=Els.nil
  refine FL.v (E.buildSlice (B0) run27) ?_
  refine FL.v (E.move (v:=v0) rfl) ?_
  obtain ⟨xs30,hz31,hp⟩:=bnd hp
  obtain ⟨v32,w35,n33,cs34,run36,S37,els38⟩:=S28.appendP (P:=Tryz.prog) (Inc.rfl _) te24 (i:=0) rfl (els29.mono upI) p0 hz31
  have S37:St Ha wa Ha w35 [.row 34 1 v32 n33 cs34]:=S37
  refine FL.v (E.append rfl rfl run36) ?_
  refine FL.v (E.assign (v:=v32) rfl) ?_
  refine FL.nil ?_
  refine FW.ret ?_
  obtain rfl:=Option.some.inj hp
  exact ⟨.inr rfl,res1 rfl rfl ⟨_,_,_,_,rfl,S37,els38⟩⟩

theorem zej {Ha:GH} {wa:World} (hs:Sl Ha wa) (v0:Value) (a0:List (List Int)) (p0:RSl Ha (eL eI 1) 1 v0 a0) (v1:Value) (a1:(List Int)→Option Bool) (p1:zct Tryz.prog Ha v1 a1) {r:Int} (hp:(PF.zbz a0 a1)=some r) :
  Calls Tryz.prog 200 #[v0,v1] wa (Sc Ha wa (Value.int .i64 r)):=by
 unfold PF.zbz at hp
 have S0:=St.init hs
 refine zah (N:=19) (args:=[v0,v1]) Tryz.func200 rfl rfl rfl ?_
 refine FW.seq (FW.region ?_)
 refine FL.v (E.assign (v:=Value.int .i64 0) rfl) ?_
 refine FL.nil (FW.seq (FW.seq (FW.region ?_)))
 refine FL.v (E.move (v:=v0) rfl) ?_
 refine FL.v (E.lenP te24 rfl p0) ?_
 refine FL.v (E.move (v:=Value.int .i64 0) rfl) ?_
 refine FL.nil ?_
 obtain ⟨q22,hq,hp⟩:=bndR hp
 refine FW.block ?_
 refine FW.mono (FW.forL (S:=Unit) (X:=Int) (fun (i22:Nat) (s22:Unit) f w=>∃ H:GH,St Ha wa H w []∧Inc Ha H∧f 8=Value.int .i64 ((i22:Nat):Int)∧f 0=v0∧f 1=v1∧f 7=Value.int .i64 (len a0)) (fun q e f w=>match q with|.go s22=>e=Exit.exit 0∧(∃ H:GH,St Ha wa H w []∧Inc Ha H)|.rt x=>((e=Exit.ret)∧(fun e f w=>(e=Exit.normal∨e=Exit.ret)∧∀ a,Fr (δ:=[]) 19 a f→∃ v,(results Tryz.f200 a.tmps).run Tryz.prog w=.ok v w∧(Sc Ha wa (Value.int .i64 x)) (.returned v) w) e f w)) hq ⟨_,S0,(Inc.rfl _),rfl,rfl,rfl,rfl⟩ ?_ ?_) ?_
 ·
  clear hp hq
  rintro i22 y21 s22 f55 w54 ⟨H51,S52,i53,k56,k57,k58,k59⟩ hx22 o79 hp
  refine FW.seq (FW.region ?_)
  refine FL.v (E.lssT k56 k59 (zay hx22)) ?_
  refine FL.nil (FW.seq ?_)
  refine FW.condT rfl rfl ?_
  refine FW.skip (FW.seq (FW.block (FW.seq (FW.region ?_))))
  refine FL.v (E.move k56) ?_
  refine FL.v (E.assign (v:=Value.int .i64 ((i22:Nat):Int)) rfl) ?_
  refine FL.nil (FW.seq (FW.region ?_))
  refine FL.v (E.move k58) ?_
  refine FL.v (E.move k57) ?_
  refine FL.v (E.move (v:=Value.int .i64 ((i22:Nat):Int)) rfl) ?_
  obtain ⟨p60,cs61,pt62,l63,at64,rel65⟩:=p0.at (zap hx22)
  obtain ⟨v66,rfl,h67⟩:=zau rel65
  refine FL.v (E.indexAddr te24 rfl rfl pt62) ?_
  refine FL.v (E.load rfl (zaf Tryz.isAgg34 ((at64.mono i53).now S52.sl) rfl)) ?_
  obtain ⟨r68,hr69,hp⟩:=bnd hp
  obtain ⟨fi73,cs74,hv75,he76,hc77⟩:=(p1.mono i53) H51 w54 (Inc.rfl _) S52.sl y21 v66 (h67.mono i53) r68 hr69
  refine FL.call rfl rfl rfl (E.callV he76 (Eq.trans rfl hv75) (appA (A1 rfl) cs74)) hc77 ?_
  rintro e w70 ⟨rfl,r71⟩
  refine ⟨_,rfl,?_⟩
  have S72:=S52.call r71
  refine FL.nil ?_
  rcases ifB hp with ⟨c78,hp⟩|⟨c78,hp⟩
  ·
   refine FW.condT rfl c78 ?_
   refine FW.seq (FW.region ?_)
   refine FL.v (E.move (v:=Value.int .i64 ((i22:Nat):Int)) rfl) ?_
   refine FL.v (E.assign (v:=Value.int .i64 ((i22:Nat):Int)) rfl) ?_
   refine FL.nil ?_
   refine FW.ret ?_
   obtain rfl:=Option.some.inj hp
   exact ⟨nofun,rfl,⟨.inr rfl,res1 rfl rfl ⟨rfl,S72.back⟩⟩⟩
  ·
   refine FW.condF rfl c78 ?_
   refine FW.skip (FW.region ?_)
   refine FL.v (E.add k56 rfl) ?_
   refine FL.v (E.move (v:=Value.int .i64 (wr (((i22:Nat):Int) + 1))) rfl) ?_
   refine FL.nil ?_
   obtain rfl:=Option.some.inj hp
   exact ⟨rfl,⟨_,S72,i53,(zas rfl (zao hx22) (p0.mono i53).le),k57,k58,k59⟩⟩
 ·
  clear hp hq
  rintro s22 f89 w88 ⟨H85,S86,i87,k90,k91,k92,k93⟩
  refine FW.seq (FW.region ?_)
  refine FL.v (E.lss k90 k93) ?_
  refine FL.nil (FW.seq ?_)
  refine FW.condF rfl zaz ?_
  refine FW.exit ?_
  exact ⟨nofun,rfl,⟨_,S86,i87⟩⟩
 ·
  clear hq
  intro e f84 w83 hD
  rcases q22 with s22|x22
  ·
   obtain ⟨rfl,hD⟩:=hD
   obtain ⟨H80,S81,i82⟩:=hD
   replace hp:=el_go hp
   refine FW.seq (FW.region ?_)
   refine FL.v (E.assign (v:=Value.int .i64 (-1)) rfl) ?_
   refine FL.nil ?_
   refine FW.ret ?_
   obtain rfl:=Option.some.inj hp
   exact ⟨.inr rfl,res1 rfl rfl ⟨rfl,S81.back⟩⟩
  ·
   obtain ⟨he,hL⟩:=hD
   replace hp:=el_rt hp
   obtain rfl:=Option.some.inj hp
   subst he
   exact hL

theorem zek {Ha:GH} {wa:World} (hs:Sl Ha wa) (v0:Value) (a0:List (List Int)) (p0:RSl Ha (eL eI 1) 1 v0 a0) (v1:Value) (a1:(List Int)→Option Bool) (p1:zct Tryz.prog Ha v1 a1) {r:Bool} (hp:(PF.zcg a0 a1)=some r) :
  Calls Tryz.prog 125 #[v0,v1] wa (Sc Ha wa (Value.bool r)):=by
 unfold PF.zcg at hp
 have S0:=St.init hs
 refine zah (N:=9) (args:=[v0,v1]) Tryz.func125 rfl rfl rfl ?_
 refine FW.seq (FW.region ?_)
 refine FL.v (E.assign (v:=Value.bool false) rfl) ?_
 refine FL.nil (FW.seq (FW.region ?_))
 refine FL.v (E.move (v:=v0) rfl) ?_
 refine FL.v (E.move (v:=v1) rfl) ?_
 obtain ⟨r21,hr22,hp⟩:=bnd hp
 refine FL.call rfl rfl rfl (E.call Tryz.call200 (A2 rfl rfl)) (zej S0.sl v0 a0 p0 v1 a1 p1 hr22) ?_
 rintro e w23 ⟨rfl,r24⟩
 refine ⟨_,rfl,?_⟩
 have S25:=S0.call r24
 refine FL.v (E.geq rfl rfl) ?_
 refine FL.v (E.assign (v:=Value.bool (decide (0≤r21))) rfl) ?_
 refine FL.nil ?_
 refine FW.ret ?_
 obtain rfl:=Option.some.inj hp
 exact ⟨.inr rfl,res1 rfl rfl ⟨rfl,S25.back⟩⟩

theorem zeE {Ha:GH} {wa:World} (hs:Sl Ha wa) (v0:Value) (a0:List Int) (p0:RSl Ha eI 1 v0 a0) (v1:Value) (a1:Int→Option Bool) (p1:zdd Tryz.prog Ha v1 a1) {r:Int} (hp:(PF.zcL a0 a1)=some r) :
  Calls Tryz.prog 202 #[v0,v1] wa (Sc Ha wa (Value.int .i64 r)):=by
 unfold PF.zcL at hp
 have S0:=St.init hs
 refine zah (N:=19) (args:=[v0,v1]) Tryz.func202 rfl rfl rfl ?_
 refine FW.seq (FW.region ?_)
 refine FL.v (E.assign (v:=Value.int .i64 0) rfl) ?_
 refine FL.nil (FW.seq (FW.seq (FW.region ?_)))
 refine FL.v (E.move (v:=v0) rfl) ?_
 refine FL.v (E.lenP te34 rfl p0) ?_
 refine FL.v (E.move (v:=Value.int .i64 0) rfl) ?_
 refine FL.nil ?_
 obtain ⟨q22,hq,hp⟩:=bndR hp
 refine FW.block ?_
 refine FW.mono (FW.forL (S:=Unit) (X:=Int) (fun (i22:Nat) (s22:Unit) f w=>∃ H:GH,St Ha wa H w []∧Inc Ha H∧f 8=Value.int .i64 ((i22:Nat):Int)∧f 0=v0∧f 1=v1∧f 7=Value.int .i64 (len a0)) (fun q e f w=>match q with|.go s22=>e=Exit.exit 0∧(∃ H:GH,St Ha wa H w []∧Inc Ha H)|.rt x=>((e=Exit.ret)∧(fun e f w=>(e=Exit.normal∨e=Exit.ret)∧∀ a,Fr (δ:=[]) 19 a f→∃ v,(results Tryz.f202 a.tmps).run Tryz.prog w=.ok v w∧(Sc Ha wa (Value.int .i64 x)) (.returned v) w) e f w)) hq ⟨_,S0,(Inc.rfl _),rfl,rfl,rfl,rfl⟩ ?_ ?_) ?_
 ·
  clear hp hq
  rintro i22 y21 s22 f53 w52 ⟨H49,S50,i51,k54,k55,k56,k57⟩ hx22 o75 hp
  refine FW.seq (FW.region ?_)
  refine FL.v (E.lssT k54 k57 (zay hx22)) ?_
  refine FL.nil (FW.seq ?_)
  refine FW.condT rfl rfl ?_
  refine FW.skip (FW.seq (FW.block (FW.seq (FW.region ?_))))
  refine FL.v (E.move k54) ?_
  refine FL.v (E.assign (v:=Value.int .i64 ((i22:Nat):Int)) rfl) ?_
  refine FL.nil (FW.seq (FW.region ?_))
  refine FL.v (E.move k56) ?_
  refine FL.v (E.move k55) ?_
  refine FL.v (E.move (v:=Value.int .i64 ((i22:Nat):Int)) rfl) ?_
  obtain ⟨p58,cs59,pt60,l61,at62,rel63⟩:=p0.at (zap hx22)
  obtain rfl:=zam rel63
  refine FL.v (E.indexAddr te34 rfl rfl pt60) ?_
  refine FL.v (E.load rfl (zaf Tryz.isAgg3 ((at62.mono i51).now S50.sl) rfl)) ?_
  obtain ⟨r64,hr65,hp⟩:=bnd hp
  obtain ⟨fi69,cs70,hv71,he72,hc73⟩:=(p1.mono i51) H49 w52 (Inc.rfl _) S50.sl y21 r64 hr65
  refine FL.call rfl rfl rfl (E.callV he72 (Eq.trans rfl hv71) (appA (A1 rfl) cs70)) hc73 ?_
  rintro e w66 ⟨rfl,r67⟩
  refine ⟨_,rfl,?_⟩
  have S68:=S50.call r67
  refine FL.nil ?_
  rcases ifB hp with ⟨c74,hp⟩|⟨c74,hp⟩
  ·
   refine FW.condT rfl c74 ?_
   refine FW.seq (FW.region ?_)
   refine FL.v (E.move (v:=Value.int .i64 ((i22:Nat):Int)) rfl) ?_
   refine FL.v (E.assign (v:=Value.int .i64 ((i22:Nat):Int)) rfl) ?_
   refine FL.nil ?_
   refine FW.ret ?_
   obtain rfl:=Option.some.inj hp
   exact ⟨nofun,rfl,⟨.inr rfl,res1 rfl rfl ⟨rfl,S68.back⟩⟩⟩
  ·
   refine FW.condF rfl c74 ?_
   refine FW.skip (FW.region ?_)
   refine FL.v (E.add k54 rfl) ?_
   refine FL.v (E.move (v:=Value.int .i64 (wr (((i22:Nat):Int) + 1))) rfl) ?_
   refine FL.nil ?_
   obtain rfl:=Option.some.inj hp
   exact ⟨rfl,⟨_,S68,i51,(zas rfl (zao hx22) (p0.mono i51).le),k55,k56,k57⟩⟩
 ·
  clear hp hq
  rintro s22 f85 w84 ⟨H81,S82,i83,k86,k87,k88,k89⟩
  refine FW.seq (FW.region ?_)
  refine FL.v (E.lss k86 k89) ?_
  refine FL.nil (FW.seq ?_)
  refine FW.condF rfl zaz ?_
  refine FW.exit ?_
  exact ⟨nofun,rfl,⟨_,S82,i83⟩⟩
 ·
  clear hq
  intro e f80 w79 hD
  rcases q22 with s22|x22
  ·
   obtain ⟨rfl,hD⟩:=hD
   obtain ⟨H76,S77,i78⟩:=hD
   replace hp:=el_go hp
   refine FW.seq (FW.region ?_)
   refine FL.v (E.assign (v:=Value.int .i64 (-1)) rfl) ?_
   refine FL.nil ?_
   refine FW.ret ?_
   obtain rfl:=Option.some.inj hp
   exact ⟨.inr rfl,res1 rfl rfl ⟨rfl,S77.back⟩⟩
  ·
   obtain ⟨he,hL⟩:=hD
   replace hp:=el_rt hp
   obtain rfl:=Option.some.inj hp
   subst he
   exact hL

theorem zel {Ha:GH} {wa:World} (hs:Sl Ha wa) (v0:Value) (a0:List Int) (p0:RSl Ha eI 1 v0 a0) (v1:Value) (a1:Int→Option Bool) (p1:zdd Tryz.prog Ha v1 a1) {r:Bool} (hp:(PF.zch a0 a1)=some r) :
  Calls Tryz.prog 130 #[v0,v1] wa (Sc Ha wa (Value.bool r)):=by
 unfold PF.zch at hp
 have S0:=St.init hs
 refine zah (N:=9) (args:=[v0,v1]) Tryz.func130 rfl rfl rfl ?_
 refine FW.seq (FW.region ?_)
 refine FL.v (E.assign (v:=Value.bool false) rfl) ?_
 refine FL.nil (FW.seq (FW.region ?_))
 refine FL.v (E.move (v:=v0) rfl) ?_
 refine FL.v (E.move (v:=v1) rfl) ?_
 obtain ⟨r21,hr22,hp⟩:=bnd hp
 refine FL.call rfl rfl rfl (E.call Tryz.call202 (A2 rfl rfl)) (zeE S0.sl v0 a0 p0 v1 a1 p1 hr22) ?_
 rintro e w23 ⟨rfl,r24⟩
 refine ⟨_,rfl,?_⟩
 have S25:=S0.call r24
 refine FL.v (E.geq rfl rfl) ?_
 refine FL.v (E.assign (v:=Value.bool (decide (0≤r21))) rfl) ?_
 refine FL.nil ?_
 refine FW.ret ?_
 obtain rfl:=Option.some.inj hp
 exact ⟨.inr rfl,res1 rfl rfl ⟨rfl,S25.back⟩⟩

theorem w_impl_holds_1 {Ha:GH} {wa:World} (hs:Sl Ha wa) (a0:Int) (q0:Addr) (b0:Int) (c0:CAt Ha q0 [Value.int .i64 b0]) {r:Bool} (hp:(PF.zdt a0 b0)=some r) :
  Calls Tryz.prog 201 #[Value.int .i64 a0,Value.pointer (some q0)] wa (Sc Ha wa (Value.bool r)):=by
 unfold PF.zdt at hp
 have S0:=St.init hs
 refine zah (N:=14) (args:=[Value.int .i64 a0,Value.pointer (some q0)]) Tryz.func201 rfl rfl rfl ?_
 refine FW.seq (FW.region ?_)
 refine FL.v (E.assign (v:=Value.bool false) rfl) ?_
 refine FL.nil (FW.seq ?_)
 refine FW.draw (fun w'=>Run wa.heap.size Ha wa Ha w') (by kernel_rfl) (by kernel_rfl) (zaD S0.sl) ?_
 refine FD.val rfl rfl rfl (fun w' hw'=>(E.load rfl (zaf Tryz.isAgg3 (c0.now (S0.call hw').sl) rfl))) ?_
 refine FD.val rfl rfl rfl (fun w' hw'=>(E.move (v:=Value.int .i64 a0) rfl)) ?_
 refine FD.call rfl rfl rfl (fun w' hw'=>(E.call Tryz.call129 (A1 rfl))) (fun w' hw'=>Calls.cls hw' (zdh (S0.call hw').sl a0)) ?_
 refine FD.val rfl rfl rfl (fun w' hw'=>(E.sub rfl rfl)) ?_
 obtain ⟨u23,z22,hp⟩:=bnd hp
 refine FD.val rfl rfl rfl (fun w' hw'=>(E.shr rfl rfl (nn_ge z22))) ?_
 refine FD.val rfl rfl rfl (fun w' hw'=>(E.and rfl rfl)) ?_
 refine FD.val rfl rfl rfl (fun w' hw'=>(E.eql rfl rfl)) ?_
 refine FD.val rfl rfl rfl (fun w' hw'=>(E.move (v:=Value.int .i64 a0) rfl)) ?_
 refine FD.val rfl rfl rfl (fun w' hw'=>(E.gtr rfl rfl)) ?_
 refine FD.val rfl rfl rfl (fun w' hw'=>(E.eqlB Tryz.runUnderlying4 rfl rfl)) ?_
 refine FD.val rfl rfl rfl (fun w' hw'=>(E.assign (v:=Value.bool (((andK true 64 (shrK 64 b0 (wr ((PF.zaw a0) - 1))) 1) == 1) == (decide (0 < a0)))) rfl)) ?_
 refine FD.nil ?_
 intro w24 r26
 have S25:=S0.call r26
 refine FW.ret ?_
 obtain rfl:=Option.some.inj hp
 exact ⟨.inr rfl,res1 rfl rfl ⟨rfl,S25.back⟩⟩

theorem w_impl_holds {Ha:GH} {wa:World} (hs:Sl Ha wa) (v0:Value) (a0:List Int) (p0:RSl Ha eI 1 v0 a0) (a1:Int) {r:Bool} (hp:(PF.zcM a0 a1)=some r) :
  Calls Tryz.prog 127 #[v0,Value.int .i64 a1] wa (Sc Ha wa (Value.bool r)):=by
 unfold PF.zcM at hp
 have S0:=St.init hs
 refine zah (N:=8) (args:=[v0,Value.int .i64 a1]) Tryz.func127 rfl rfl rfl ?_
 refine FW.seq (FW.region ?_)
 obtain ⟨b21,w22,run23,S24⟩:=S0.box (P:=Tryz.prog) 3 [Value.int .i64 a1] (v:=Value.int .i64 a1) rfl (zaa rfl zad)
 refine FL.v (E.box rfl run23) ?_
 obtain ⟨H25,S26,i27,at28⟩:=S24.sealBox (i:=0) (l':=[]) rfl rfl
 refine FL.v (E.assign (v:=Value.bool false) rfl) ?_
 refine FL.nil (FW.seq (FW.region ?_))
 refine FL.v (E.move (v:=v0) rfl) ?_
 refine FL.v (E.makeFunc A0 (A1 rfl)) ?_
 obtain ⟨r29,hr30,hp⟩:=bnd hp
 refine FL.call rfl rfl rfl (E.call Tryz.call130 (A2 rfl rfl)) (zel S26.sl v0 a0 (p0.mono i27) (Value.func (.func 201) #[] #[Value.pointer (some ⟨b21,0,none⟩)]) (fun x0=>PF.zdt x0 a1) (fun H2 w2 hi2 hs2 x0 r hr=>⟨201,#[Value.pointer (some ⟨b21,0,none⟩)],rfl,Tryz.call201,w_impl_holds_1 hs2 x0 ⟨b21,0,none⟩ a1 (at28.mono hi2) hr⟩) hr30) ?_
 rintro e w31 ⟨rfl,r32⟩
 refine ⟨_,rfl,?_⟩
 have S33:=S26.call r32
 refine FL.v (E.assign (v:=Value.bool r29) rfl) ?_
 refine FL.nil ?_
 refine FW.ret ?_
 obtain rfl:=Option.some.inj hp
 exact ⟨.inr rfl,res1 rfl rfl ⟨rfl,S33.back⟩⟩

theorem w_impl_isModel_1 {Ha:GH} {wa:World} (hs:Sl Ha wa) (v0:Value) (a0:List Int) (p0:RSl Ha eI 1 v0 a0) (q0:Addr) (b0:Int) (c0:CAt Ha q0 [Value.int .i64 b0]) {r:Bool} (hp:(PF.zcN a0 b0)=some r) :
  Calls Tryz.prog 126 #[v0,Value.pointer (some q0)] wa (Sc Ha wa (Value.bool r)):=by
 unfold PF.zcN at hp
 have S0:=St.init hs
 refine zah (N:=8) (args:=[v0,Value.pointer (some q0)]) Tryz.func126 rfl rfl rfl ?_
 refine FW.seq (FW.region ?_)
 refine FL.v (E.assign (v:=Value.bool false) rfl) ?_
 refine FL.nil (FW.seq (FW.region ?_))
 refine FL.v (E.move (v:=v0) rfl) ?_
 refine FL.v (E.load rfl (zaf Tryz.isAgg3 (c0.now S0.sl) rfl)) ?_
 obtain ⟨r21,hr22,hp⟩:=bnd hp
 refine FL.call rfl rfl rfl (E.call Tryz.call127 (A2 rfl rfl)) (w_impl_holds S0.sl v0 a0 p0 b0 hr22) ?_
 rintro e w23 ⟨rfl,r24⟩
 refine ⟨_,rfl,?_⟩
 have S25:=S0.call r24
 refine FL.v (E.not rfl) ?_
 refine FL.v (E.assign (v:=Value.bool (!r21)) rfl) ?_
 refine FL.nil ?_
 refine FW.ret ?_
 obtain rfl:=Option.some.inj hp
 exact ⟨.inr rfl,res1 rfl rfl ⟨rfl,S25.back⟩⟩

theorem zdW {Ha:GH} {wa:World} (hs:Sl Ha wa) (v0:Value) (a0:List (List Int)) (p0:RSl Ha (eL eI 1) 1 v0 a0) (a1:Int) {r:Bool} (hp:(PF.zbi a0 a1)=some r) :
  Calls Tryz.prog 61 #[v0,Value.int .i64 a1] wa (Sc Ha wa (Value.bool r)):=by
 unfold PF.zbi at hp
 have S0:=St.init hs
 refine zah (N:=9) (args:=[v0,Value.int .i64 a1]) Tryz.func61 rfl rfl rfl ?_
 refine FW.seq (FW.region ?_)
 obtain ⟨b21,w22,run23,S24⟩:=S0.box (P:=Tryz.prog) 3 [Value.int .i64 a1] (v:=Value.int .i64 a1) rfl (zaa rfl zad)
 refine FL.v (E.box rfl run23) ?_
 obtain ⟨H25,S26,i27,at28⟩:=S24.sealBox (i:=0) (l':=[]) rfl rfl
 refine FL.v (E.assign (v:=Value.bool false) rfl) ?_
 refine FL.nil (FW.seq (FW.region ?_))
 refine FL.v (E.move (v:=v0) rfl) ?_
 refine FL.v (E.makeFunc A0 (A1 rfl)) ?_
 obtain ⟨r29,hr30,hp⟩:=bnd hp
 refine FL.call rfl rfl rfl (E.call Tryz.call125 (A2 rfl rfl)) (zek S26.sl v0 a0 (p0.mono i27) (Value.func (.func 126) #[] #[Value.pointer (some ⟨b21,0,none⟩)]) (fun x0=>PF.zcN x0 a1) (fun H2 w2 hi2 hs2 x0 y0 z0 r hr=>⟨126,#[Value.pointer (some ⟨b21,0,none⟩)],rfl,Tryz.call126,w_impl_isModel_1 hs2 y0 x0 z0 ⟨b21,0,none⟩ a1 (at28.mono hi2) hr⟩) hr30) ?_
 rintro e w31 ⟨rfl,r32⟩
 refine ⟨_,rfl,?_⟩
 have S33:=S26.call r32
 refine FL.v (E.not rfl) ?_
 refine FL.v (E.assign (v:=Value.bool (!r29)) rfl) ?_
 refine FL.nil ?_
 refine FW.ret ?_
 obtain rfl:=Option.some.inj hp
 exact ⟨.inr rfl,res1 rfl rfl ⟨rfl,S33.back⟩⟩

set_option maxHeartbeats 4000000 in
theorem w_impl_satisfiable {Ha:GH} {wa:World} (hs:Sl Ha wa) (a0:Int) (v1:Value) (a1:List (List Int)) (p1:RSl Ha (eL eI 1) 1 v1 a1) {r:Bool} (hp:(PF.zcO a0 a1)=some r) :
  Calls Tryz.prog 110 #[Value.int .i64 a0,v1] wa (Sc Ha wa (Value.bool r)):=by
 unfold PF.zcO at hp
 have S0:=St.init hs
 refine zah (N:=12) (args:=[Value.int .i64 a0,v1]) Tryz.func110 rfl rfl rfl ?_
 refine FW.seq (FW.region ?_)
 refine FL.v (E.assign (v:=Value.bool false) rfl) ?_
 refine FL.nil (FW.seq (FW.region ?_))
 obtain ⟨b21,w22,run23,S24⟩:=S0.alloc (P:=Tryz.prog) 4 [Value.bool false] Tryz.zeroValue4 rfl (zaa rfl zad)
 refine FL.v (E.alloc run23) ?_
 obtain ⟨w25,run26,S27⟩:=S24.store0 (P:=Tryz.prog) (t:=4) (i:=0) (cs':=[Value.bool false]) (l':=[.box b21 4 [Value.bool false]]) (v:=Value.bool false) (c:=[Value.bool false]) rfl Tryz.sizeOf4 rfl rfl (zaa rfl zad) (Nat.le_of_ble_eq_true rfl) rfl rfl
 refine FL.act rfl rfl (E.store rfl rfl run26) ?_
 refine FL.nil (FW.seq (FW.region ?_))
 refine FL.v (E.move (v:=Value.int .i64 a0) rfl) ?_
 refine FL.v (E.move (v:=v1) rfl) ?_
 refine FL.v (E.build (B2 rfl rfl) (run_build _ 26 #[(0,Value.int .i64 a0),(1,v1)] #[Value.int .i64 a0,v1] (by obtain ⟨_,_,rfl⟩:=RSl.ln p1;rfl))) ?_
 refine FL.v (E.makeFunc A0 (A1 rfl)) ?_
 obtain ⟨sAI,hqAI,hp⟩:=bnd hp
 obtain ⟨R144,hRAI⟩:∃ R144:Bool→Ending→World→Prop,R144=(fun sAI e w=>∃ H:GH,e=Ending.returned (Value.tuple #[])∧St Ha wa H w [.box b21 4 [Value.bool sAI]]∧Inc Ha H):=⟨_,rfl⟩
 have hcAI:Calls Tryz.prog 183 #[Value.agg #[Value.int .i64 a0,v1],Value.func (.func 184) #[] #[Value.pointer (some (⟨b21,0,none⟩:Addr))]] w25 (R144 sAI):=by
  clear hp;have hp:=hqAI;clear hqAI
  refine zah (N:=22) (args:=[Value.agg #[Value.int .i64 a0,v1],Value.func (.func 184) #[] #[Value.pointer (some (⟨b21,0,none⟩:Addr))]]) Tryz.func183 rfl rfl rfl ?_
  refine FW.seq (FW.region ?_)
  obtain ⟨bAJ,wAK,runAL,SAM⟩:=S27.box (P:=Tryz.prog) 26 [Value.int .i64 a0,v1] (v:=Value.agg #[Value.int .i64 a0,v1]) rfl (zaa rfl (zaa p1.one zad))
  refine FL.v (E.box rfl runAL) ?_
  obtain ⟨HAN,SAO,iAP,atAQ⟩:=SAM.sealBox (i:=0) (l':=[.box b21 4 [Value.bool false]]) rfl rfl
  refine FL.nil (FW.seq (FW.region ?_))
  refine FL.v (E.fieldAddr zax rfl) ?_
  refine FL.v (E.load rfl (zag Tryz.isAgg3 (atAQ.now SAO.sl) rfl)) ?_
  obtain ⟨u154,zAR,hp⟩:=bnd hp
  refine FL.v (E.shl rfl rfl (nn_ge zAR)) ?_
  refine FL.v (E.move (v:=Value.int .i64 0) rfl) ?_
  refine FL.nil ?_
  obtain ⟨m155,hchkAU,hp⟩:=bnd hp
  obtain ⟨qAU,hq,hp⟩:=bndR hp
  refine FW.block ?_
  refine FW.mono (FW.forR (S:=Bool) (X:=Bool) (fun (iAU:Nat) (sAU:Bool) f w=>∃ H:GH,St Ha wa H w [.box b21 4 [Value.bool sAU]]∧Inc HAN H∧f 8=Value.int .i64 ((iAU:Nat):Int)∧f 1=Value.func (.func 184) #[] #[Value.pointer (some (⟨b21,0,none⟩:Addr))]∧f 2=Value.pointer (some ⟨bAJ,0,none⟩)∧f 7=Value.int .i64 (shlK true 64 1 a0)) (fun q e f w=>match q with|.go sAU=>e=Exit.exit 0∧(∃ H:GH,St Ha wa H w [.box b21 4 [Value.bool sAU]]∧Inc HAN H)|.rt x=>((e=Exit.ret)∧(fun e f w=>(e=Exit.normal∨e=Exit.ret)∧∀ a,Fr (δ:=[]) 22 a f→∃ v,(results Tryz.f183 a.tmps).run Tryz.prog w=.ok v w∧R144 x (.returned v) w) e f w)) hq ⟨_,SAO,(Inc.rfl _),rfl,rfl,rfl,rfl⟩ ?_ ?_) ?_
  ·
   clear hp hq
   rintro iAU sAU fCr wCq ⟨HCn,SCo,iCp,kCs,kCt,kCu,kCv⟩ hi156 hjAU oDc hp
   refine FW.seq (FW.region ?_)
   refine FL.v (E.lssT kCs kCv (lss_chk hjAU hchkAU)) ?_
   refine FL.nil (FW.seq ?_)
   refine FW.condT rfl rfl ?_
   refine FW.skip (FW.seq (FW.block (FW.seq (FW.region ?_))))
   refine FL.v (E.move kCs) ?_
   refine FL.v (E.assign (v:=Value.int .i64 ((iAU:Nat):Int)) rfl) ?_
   refine FL.nil (FW.seq (FW.region ?_))
   refine FL.v (E.fieldAddr zan kCu) ?_
   refine FL.v (E.load rfl (zag Tryz.isAgg24 ((atAQ.mono iCp).now SCo.sl) rfl)) ?_
   refine FL.v (E.move (v:=Value.int .i64 ((iAU:Nat):Int)) rfl) ?_
   obtain ⟨rCw,hrCx,hp⟩:=bnd hp
   refine FL.call rfl rfl rfl (E.call Tryz.call61 (A2 rfl rfl)) (zdW SCo.sl v1 a1 (p1.mono (iAP.tr iCp)) ((iAU:Nat):Int) hrCx) ?_
   rintro e wCy ⟨rfl,rCz⟩
   refine ⟨_,rfl,?_⟩
   have SCA:=SCo.call rCz
   refine FL.v (E.move (v:=Value.bool rCw) rfl) ?_
   obtain ⟨t273,hqtCN,hp⟩:=bnd hp
   refine FL.cut 5 (fun f w=>∃ H:GH,St Ha wa H w [.box b21 4 [Value.bool t273.1]]∧Inc HCn H∧f 1=Value.func (.func 184) #[] #[Value.pointer (some (⟨b21,0,none⟩:Addr))]∧f 2=Value.pointer (some ⟨bAJ,0,none⟩)∧f 7=Value.int .i64 (shlK true 64 1 a0)∧f 8=Value.int .i64 ((iAU:Nat):Int)∧f 20=Value.bool t273.2) ?_ ?_
   ·
    clear hp;have hp:=hqtCN;clear hqtCN
    rcases ifB hp with ⟨cCO,hp⟩|⟨cCO,hp⟩
    ·
     refine FL.val (zac rfl rfl rfl cCO) rfl rfl (E.move kCt) ?_
     refine FL.val (zac rfl rfl rfl cCO) rfl rfl (E.move (v:=Value.int .i64 ((iAU:Nat):Int)) rfl) ?_
     obtain ⟨sCS,hqCS,hp⟩:=bnd hp
     obtain ⟨R278,hRCS⟩:∃ R278:(Bool×Bool)→Ending→World→Prop,R278=(fun sCS e w=>∃ H:GH,e=Ending.returned (Value.bool sCS.2)∧St Ha wa H w [.box b21 4 [Value.bool sCS.1]]∧Inc HCn H):=⟨_,rfl⟩
     have hcCS:Calls Tryz.prog 184 #[Value.int .i64 ((iAU:Nat):Int),Value.pointer (some (⟨b21,0,none⟩:Addr))] wCy (R278 sCS):=by
      clear hp;have hp:=hqCS;clear hqCS
      refine zah (N:=4) (args:=[Value.int .i64 ((iAU:Nat):Int),Value.pointer (some (⟨b21,0,none⟩:Addr))]) Tryz.func184 rfl rfl rfl ?_
      refine FW.seq (FW.region ?_)
      refine FL.v (E.assign (v:=Value.bool false) rfl) ?_
      refine FL.nil (FW.seq (FW.region ?_))
      obtain ⟨wCT,runCU,SCV⟩:=SCA.store0 (P:=Tryz.prog) (t:=4) (i:=0) (cs':=[Value.bool true]) (l':=[.box b21 4 [Value.bool true]]) (v:=Value.bool true) (c:=[Value.bool true]) rfl Tryz.sizeOf4 rfl rfl (zaa rfl zad) (Nat.le_of_ble_eq_true rfl) rfl rfl
      refine FL.act rfl rfl (E.store rfl rfl runCU) ?_
      refine FL.nil (FW.seq (FW.region ?_))
      refine FL.v (E.assign (v:=Value.bool false) rfl) ?_
      refine FL.nil ?_
      refine FW.ret ?_
      obtain rfl:=Option.some.inj hp
      exact ⟨.inr rfl,res1 rfl rfl (by rw [hRCS];exact ⟨_,rfl,SCV,(Inc.rfl _)⟩)⟩
     clear hqCS
     refine FL.call (zac rfl rfl rfl cCO) rfl rfl (E.callV Tryz.call184 rfl (appA (A1 rfl) #[Value.pointer (some (⟨b21,0,none⟩:Addr))])) hcCS ?_
     intro e wCZ hQCS
     rw [hRCS] at hQCS
     obtain ⟨HCW,rfl,SCX,iCY⟩:=hQCS
     refine ⟨_,rfl,?_⟩
     refine FL.val (zac rfl rfl rfl cCO) rfl rfl (E.not rfl) ?_
     refine FL.v (E.pickT rfl cCO rfl) ?_
     obtain rfl:=Option.some.inj hp
     exact FL.nil ⟨rfl,⟨_,SCX,iCY,kCt,kCu,kCv,kCs,rfl⟩⟩
    ·
     refine FL.skip (wF_no rfl rfl rfl cCO) rfl ?_
     refine FL.skip (wF_no rfl rfl rfl cCO) rfl ?_
     refine FL.skip (wF_no rfl rfl rfl cCO) rfl ?_
     refine FL.skip (wF_no rfl rfl rfl cCO) rfl ?_
     refine FL.v (E.pickF rfl cCO rfl) ?_
     obtain rfl:=Option.some.inj hp
     exact FL.nil ⟨rfl,⟨_,SCA,(Inc.rfl _),kCt,kCu,kCv,kCs,rfl⟩⟩
   clear hqtCN
   rintro fD5 wD4 ⟨HD1,SD2,iD3,kD6,kD7,kD8,kD9,kDa⟩
   refine FL.nil ?_
   rcases ifB hp with ⟨cDb,hp⟩|⟨cDb,hp⟩
   ·
    refine FW.condT kDa cDb ?_
    refine FW.ret ?_
    obtain rfl:=Option.some.inj hp
    exact ⟨nofun,rfl,⟨.inr rfl,res0 rfl (by rw [hRAI];exact ⟨_,rfl,SD2,((iAP.tr iCp).tr iD3)⟩)⟩⟩
   ·
    refine FW.condF kDa cDb ?_
    refine FW.skip (FW.region ?_)
    refine FL.v (E.add kD9 rfl) ?_
    refine FL.v (E.move (v:=Value.int .i64 (wr (((iAU:Nat):Int) + 1))) rfl) ?_
    refine FL.nil ?_
    obtain rfl:=Option.some.inj hp
    exact ⟨rfl,⟨_,SD2,(iCp.tr iD3),(zas rfl hjAU (chk_le hchkAU)),kD6,kD7,kD8⟩⟩
  ·
   clear hp hq
   rintro sAU fDm wDl ⟨HDi,SDj,iDk,kDn,kDo,kDp,kDq⟩
   refine FW.seq (FW.region ?_)
   refine FL.v (E.lss kDn kDq) ?_
   refine FL.nil (FW.seq ?_)
   refine FW.condF rfl (zdi hchkAU) ?_
   refine FW.exit ?_
   exact ⟨nofun,rfl,⟨_,SDj,iDk⟩⟩
  ·
   clear hq
   intro e fDh wDg hD
   rcases qAU with sAU|xAU
   ·
    obtain ⟨rfl,hD⟩:=hD
    obtain ⟨HDd,SDe,iDf⟩:=hD
    replace hp:=el_go hp
    obtain rfl:=Option.some.inj hp
    exact ⟨.inl rfl,res0 rfl (by rw [hRAI];exact ⟨_,rfl,SDe,(iAP.tr iDf)⟩)⟩
   ·
    obtain ⟨he,hL⟩:=hD
    replace hp:=el_rt hp
    obtain rfl:=Option.some.inj hp
    subst he
    exact hL
 clear hqAI
 refine FL.call rfl rfl rfl (E.call Tryz.call183 (A2 rfl rfl)) hcAI ?_
 intro e wDu hQAI
 rw [hRAI] at hQAI
 obtain ⟨HDr,rfl,SDs,iDt⟩:=hQAI
 refine ⟨_,rfl,?_⟩
 refine FL.nil (FW.seq (FW.region ?_))
 refine FL.v (E.load rfl (zaf Tryz.isAgg4 (SDs.box_now (i:=0) rfl) rfl)) ?_
 refine FL.v (E.assign (v:=Value.bool sAI) rfl) ?_
 refine FL.nil ?_
 refine FW.ret ?_
 obtain rfl:=Option.some.inj hp
 exact ⟨.inr rfl,res1 rfl rfl ⟨rfl,SDs.back⟩⟩

set_option maxHeartbeats 4000000 in
theorem zem {Ha:GH} {wa:World} (hs:Sl Ha wa) (a0:Int) (v1:Value) (a1:List (List Int)) (p1:RSl Ha (eL eI 1) 1 v1 a1) (v2:Value) (a2:List Int) (p2:RSl Ha eI 1 v2 a2) {r:Bool} (hp:(PF.zbR a0 a1 a2)=some r) :
  Calls Tryz.prog 53 #[Value.int .i64 a0,v1,v2] wa (Sc Ha wa (Value.bool r)):=by
 unfold PF.zbR at hp
 have S0:=St.init hs
 refine zah (N:=29) (args:=[Value.int .i64 a0,v1,v2]) Tryz.func53 rfl rfl rfl ?_
 refine FW.seq (FW.region ?_)
 refine FL.v (E.assign (v:=Value.bool false) rfl) ?_
 refine FL.nil (FW.seq (FW.region ?_))
 refine FL.v (E.move (v:=v1) rfl) ?_
 obtain ⟨r21,hr22,hp⟩:=bnd hp
 refine FL.call rfl rfl rfl (E.call Tryz.call109 (A1 rfl)) (zei S0.sl v1 a1 p1 hr22) ?_
 rintro e w24 ⟨H23,v27,n28,cs29,rfl,r26,els30⟩
 refine ⟨_,rfl,?_⟩
 have S25:=S0.join (l':=[.row 34 1 v27 n28 cs29]) r26 rfl
 refine FL.v (E.assign (v:=v27) rfl) ?_
 refine FL.nil (FW.seq (FW.seq (FW.region ?_)))
 refine FL.v (E.move (v:=v2) rfl) ?_
 refine FL.v (E.lenP te34 rfl p2) ?_
 refine FL.v (E.move (v:=Value.int .i64 0) rfl) ?_
 refine FL.nil ?_
 obtain ⟨q32,hq,hp⟩:=bndR hp
 refine FW.block ?_
 refine FW.mono (FW.forL (S:=(List (List Int))) (X:=Empty) (fun (i32:Nat) (s32:(List (List Int))) f w=>∃ H:GH,∃ v33:Value,∃ n34:Nat,∃ cs35:List Value,St Ha wa H w [.row 34 1 v33 n34 cs35]∧Inc H23 H∧Els H (eL eI 1) 1 cs35 s32∧f 14=Value.int .i64 ((i32:Nat):Int)∧f 0=Value.int .i64 a0∧f 7=v33∧f 12=v2∧f 13=Value.int .i64 (len a2)) (fun (q:Rs (List (List Int)) Empty) e f w=>match q with|.go s32=>e=Exit.exit 0∧(∃ H:GH,∃ v33:Value,∃ n34:Nat,∃ cs35:List Value,St Ha wa H w [.row 34 1 v33 n34 cs35]∧Inc H23 H∧Els H (eL eI 1) 1 cs35 s32∧f 0=Value.int .i64 a0∧f 7=v33)|.rt x=>x.elim) hq ⟨_,_,_,_,S25,(Inc.rfl _),els30,rfl,rfl,rfl,rfl,rfl⟩ ?_ ?_) ?_
 ·
  clear hp hq
  rintro i32 y31 s32 f84 w83 ⟨H80,v33,n34,cs35,S81,i82,els36,k85,k86,k87,k88,k89⟩ hx32 oAn hp
  refine FW.seq (FW.region ?_)
  refine FL.v (E.lssT k85 k89 (zay hx32)) ?_
  refine FL.nil (FW.seq ?_)
  refine FW.condT rfl rfl ?_
  refine FW.skip (FW.seq (FW.block (FW.seq (FW.region ?_))))
  obtain ⟨p90,cs91,pt92,l93,at94,rel95⟩:=p2.at (zap hx32)
  obtain rfl:=zam rel95
  refine FL.v (E.indexAddr te34 k88 k85 pt92) ?_
  refine FL.v (E.load rfl (zaf Tryz.isAgg3 ((at94.mono (r26.run.inc.tr i82)).now S81.sl) rfl)) ?_
  refine FL.v (E.assign (v:=Value.int .i64 y31) rfl) ?_
  refine FL.nil (FW.region ?_)
  refine FL.v (E.move k87) ?_
  refine FL.v (E.move (v:=Value.int .i64 y31) rfl) ?_
  refine FL.v (E.neg rfl) ?_
  obtain ⟨v96,w97,run98,S99,elsA0⟩:=S81.ints (P:=Tryz.prog) te34 (up wa.heap.size H80) 1 [(wr (-y31))]
  refine FL.v (E.buildSlice (B1 rfl) run98) ?_
  obtain ⟨HA1,SA2,iA3,hA4,nvA5⟩:=S99.sealRowU (i:=0) (l':=[.row 34 1 v33 n34 cs35]) rfl elsA0 (by decide) rfl
  obtain ⟨vA6,wA7,runA8,SA9⟩:=SA2.buildSlice (P:=Tryz.prog) te24 [v96] (parts:=#[(0,v96)]) (cells:=[v96]) rfl (zar (zaE hA4.cells) zal) (zaq hA4.cells zak) (zaa hA4.one zad) (Nat.le_of_ble_eq_true rfl)
  have elsAa:Els (up wa.heap.size HA1) (eL eI 1) 1 [v96] [[(wr (-y31))]]:=(Els.snoc (H:=(up wa.heap.size HA1)) (E:=(eL eI 1)) (k:=1) (c:=[v96]) (x:=[(wr (-y31))]) Els.nil rfl ⟨_,rfl,hA4⟩)
  have ndAb:(bl [v96]).Nodup:=by exact za3 v96
  refine FL.v (E.buildSlice (B1 rfl) runA8) ?_
  obtain ⟨xsAc,hzAd,hp⟩:=bnd hp
  obtain ⟨vAe,wAh,nAf,csAg,runAi,SAj,elsAk,ceAl⟩:=SA9.appendO (P:=Tryz.prog) te24 (i:=1) (j:=0) rfl (els36.mono iA3) rfl (elsAa.mono upI) hzAd
  have SAj:St Ha wa HA1 wAh [.row 34 1 vA6 1 [v96],.row 34 1 vAe nAf csAg]:=SAj
  have SAm:St Ha wa HA1 wAh [.row 34 1 vAe nAf csAg]:=SAj.drop 0
  refine FL.v (E.append rfl rfl runAi) ?_
  refine FL.v (E.assign (v:=vAe) rfl) ?_
  refine FL.nil (FW.region ?_)
  refine FL.v (E.add k85 rfl) ?_
  refine FL.v (E.move (v:=Value.int .i64 (wr (((i32:Nat):Int) + 1))) rfl) ?_
  refine FL.nil ?_
  obtain rfl:=Option.some.inj hp
  exact ⟨rfl,⟨_,_,_,_,SAm,(i82.tr iA3),elsAk,(zas rfl (zao hx32) (p2.mono ((r26.run.inc.tr i82).tr iA3)).le),k86,rfl,k88,k89⟩⟩
 ·
  clear hp hq
  rintro s32 fAJ wAI ⟨HAF,v33,n34,cs35,SAG,iAH,els36,kAK,kAL,kAM,kAN,kAO⟩
  refine FW.seq (FW.region ?_)
  refine FL.v (E.lss kAK kAO) ?_
  refine FL.nil (FW.seq ?_)
  refine FW.condF rfl zaz ?_
  refine FW.exit ?_
  exact ⟨nofun,rfl,⟨_,_,_,_,SAG,iAH,els36,kAL,kAM⟩⟩
 ·
  clear hq
  intro e fAs wAr hD
  rcases q32 with s32|x32
  ·
   obtain ⟨rfl,hD⟩:=hD
   obtain ⟨HAo,v33,n34,cs35,SAp,iAq,els36,kAt,kAu⟩:=hD
   replace hp:=el_go hp
   refine FW.seq (FW.region ?_)
   refine FL.v (E.move kAt) ?_
   refine FL.v (E.move kAu) ?_
   obtain ⟨HAv,SAw,iAx,hAy⟩:=SAp.sealRow (i:=0) (l':=[]) rfl els36 (by decide) rfl
   obtain ⟨rAA,hrAB,hp⟩:=bnd hp
   refine FL.call rfl rfl rfl (E.call Tryz.call110 (A2 rfl rfl)) (w_impl_satisfiable SAw.sl a0 v33 s32 hAy hrAB) ?_
   rintro e wAC ⟨rfl,rAD⟩
   refine ⟨_,rfl,?_⟩
   have rAD:=Run.lend iAx SAp.sl rAD
   have SAE:=SAp.call rAD
   refine FL.v (E.not rfl) ?_
   refine FL.v (E.assign (v:=Value.bool (!rAA)) rfl) ?_
   refine FL.nil ?_
   refine FW.ret ?_
   obtain rfl:=Option.some.inj hp
   exact ⟨.inr rfl,res1 rfl rfl ⟨rfl,SAE.back⟩⟩
  ·
   exact x32.elim

@[reducible] def zeF (Ha:GH) (wa:World) (r:(List Int)):Ending→World→Prop :=
 fun e w'=>∃ H':GH,∃ v0:Value,∃ n0:Nat,∃ c0:List Value,e=.returned (v0)∧St Ha wa H' w' [.row 3 1 v0 n0 c0]∧Els (up wa.heap.size H') eI 1 c0 r
theorem zdX {Ha:GH} {wa:World} (hs:Sl Ha wa) (v0:Value) (a0:List Int) (p0:RSl Ha eI 1 v0 a0) {r:(List Int)} (hp:(PF.zci a0)=some r) :
  Calls Tryz.prog 108 #[v0] wa (zeF Ha wa r):=by
 unfold PF.zci at hp
 have S0:=St.init hs
 refine zah (N:=8) (args:=[v0]) Tryz.func108 rfl rfl rfl ?_
 refine FW.seq (FW.region ?_)
 refine FL.v (E.assign (v:=Value.slice none 0 0) rfl) ?_
 refine FL.nil (FW.seq (FW.seq (FW.region ?_)))
 refine FL.v (E.move (v:=v0) rfl) ?_
 obtain ⟨nb21,run22,hn23⟩:=RSl.nilTest te34 p0
 refine FL.v (run22 _ _ _ _ _ _ _ _ _ _ _ _ rfl rfl) ?_
 refine FL.nil ?_
 rcases bcase nb21 with c24|c24
 ·
  refine FW.condT (b:=nb21) rfl c24 ?_
  rw [hn23 c24,app_nil2] at hp
  refine FW.seq (FW.region ?_)
  refine FL.v (E.assign (v:=Value.slice none 0 0) rfl) ?_
  refine FL.nil ?_
  refine FW.ret ?_
  obtain rfl:=Option.some.inj hp
  exact ⟨.inr rfl,res1 rfl rfl ⟨_,_,_,_,rfl,(S0.nil 3 1),Els.nil⟩⟩
 ·
  refine FW.condF (b:=nb21) rfl c24 ?_
  refine FW.skip (FW.seq (FW.region ?_))
  obtain ⟨v25,w26,run27,S28⟩:=S0.buildSlice (P:=Tryz.prog) te34 [] (parts:=#[]) (cells:=[]) rfl zal zak zad (Nat.le_of_ble_eq_true rfl)
  have els29:Els (up wa.heap.size Ha) eI 1 [] []:=Els.nil
  refine FL.v (E.buildSlice (B0) run27) ?_
  refine FL.v (E.move (v:=v0) rfl) ?_
  obtain ⟨xs30,hz31,hp⟩:=bnd hp
  obtain ⟨v32,w35,n33,cs34,run36,S37,els38⟩:=S28.appendP (P:=Tryz.prog) (Inc.rfl _) te34 (i:=0) rfl (els29.mono upI) p0 hz31
  have S37:St Ha wa Ha w35 [.row 3 1 v32 n33 cs34]:=S37
  have els38:Els (up wa.heap.size Ha) eI 1 cs34 xs30:=els38.any (fun _ _ _ _ h=>h)
  refine FL.v (E.append rfl rfl run36) ?_
  refine FL.v (E.assign (v:=v32) rfl) ?_
  refine FL.nil ?_
  refine FW.ret ?_
  obtain rfl:=Option.some.inj hp
  exact ⟨.inr rfl,res1 rfl rfl ⟨_,_,_,_,rfl,S37,els38⟩⟩

@[reducible] def zeG (H0:GH) (w0:World) (Ha:GH) (L:List MO) (r:(List Int)):Ending→World→Prop :=
 fun e w'=>∃ H':GH,∃ v0r:Value,∃ n0r:Nat,∃ c0r:List Value,e=.returned (v0r)∧(St H0 w0 H' w' (.row 3 1 v0r n0r c0r::L)∧Inc Ha H')∧Els (up w0.heap.size H') eI 1 c0r r
theorem zeH {H0 Ha:GH} {w0 wa:World} {L:List MO} {v0:Value} {n0:Nat} {k0:List Value} (S0:St H0 w0 Ha wa (.row 3 1 v0 n0 k0::L)) (a0:List Int) (p0:Els (up w0.heap.size Ha) eI 1 k0 a0) (a1:Int) (a2:Int) {r:(List Int)} (hp:(PF.zdR a0 a1 a2)=some r) :
  Calls Tryz.prog 111 #[v0,Value.int .i64 a1,Value.int .i64 a2] wa (zeG H0 w0 Ha L r):=by
 refine (St.deleteF (l:=.row 3 1 v0 n0 k0::L) (i:=0) S0 rfl p0 ⟨_,rfl⟩ hp (fun blk off cap i j d w hH hc hm hij hj=>AnyE.slices_Delete Tryz.del111 (fun x:OC=>x.1) (fun x=>x.2) ⟨_,rfl⟩ (fun w=>Tryz.zeroValue3 w) Tryz.t3 Tryz.type3 rfl blk off cap i j d w hH hc hm hij hj)).mono ?_
 rintro e w' ⟨v',n',c',rfl,h1,h2⟩
 exact ⟨_,_,_,_,rfl,⟨h1,Inc.rfl _⟩,h2⟩

@[reducible] def p_impl_without_int (Ha:GH) (wa:World) (r:(List Int)):Ending→World→Prop :=
 fun e w'=>∃ H':GH,∃ v0:Value,∃ n0:Nat,∃ c0:List Value,e=.returned (v0)∧St Ha wa H' w' [.row 3 1 v0 n0 c0]∧Els (up wa.heap.size H') eI 1 c0 r
theorem w_impl_without_int {Ha:GH} {wa:World} (hs:Sl Ha wa) (v0:Value) (a0:List Int) (p0:RSl Ha eI 1 v0 a0) (a1:Int) {r:(List Int)} (hp:(PF.zcP a0 a1)=some r) :
  Calls Tryz.prog 54 #[v0,Value.int .i64 a1] wa (p_impl_without_int Ha wa r):=by
 unfold PF.zcP at hp
 have S0:=St.init hs
 refine zah (N:=11) (args:=[v0,Value.int .i64 a1]) Tryz.func54 rfl rfl rfl ?_
 refine FW.seq (FW.region ?_)
 refine FL.v (E.assign (v:=Value.slice none 0 0) rfl) ?_
 refine FL.nil (FW.seq (FW.region ?_))
 refine FL.v (E.move (v:=v0) rfl) ?_
 obtain ⟨r21,hr22,hp⟩:=bnd hp
 refine FL.call rfl rfl rfl (E.call Tryz.call108 (A1 rfl)) (zdX S0.sl v0 a0 p0 hr22) ?_
 rintro e w24 ⟨H23,v27,n28,cs29,rfl,r26,els30⟩
 refine ⟨_,rfl,?_⟩
 have els30:=els30.mono (up_le S0.size)
 have S25:=S0.join (l':=[.row 3 1 v27 n28 cs29]) r26 rfl
 refine FL.v (E.move (v:=Value.int .i64 a1) rfl) ?_
 refine FL.v (E.move (v:=Value.int .i64 a1) rfl) ?_
 refine FL.v (E.add rfl rfl) ?_
 obtain ⟨r31,hr32,hp⟩:=bnd hp
 refine FL.call rfl rfl rfl (E.call Tryz.call111 (A3 rfl rfl rfl)) (zeH (L:=[]) S25 r21 els30 a1 (wr (a1 + 1)) hr32) ?_
 rintro e w34 ⟨H33,v37,n38,cs39,rfl,⟨S35,i36⟩,els40⟩
 refine ⟨_,rfl,?_⟩
 have S35:St Ha wa H33 w34 [.row 3 1 v37 n38 cs39]:=S35
 refine FL.v (E.assign (v:=v37) rfl) ?_
 refine FL.nil ?_
 refine FW.ret ?_
 obtain rfl:=Option.some.inj hp
 exact ⟨.inr rfl,res1 rfl rfl ⟨_,_,_,_,rfl,S35,els40⟩⟩

@[reducible] def zeI (H0:GH) (w0:World) (Ha:GH) (L:List MO) (v0:Value) (n0:Nat) (r:(List (List Int))):Ending→World→Prop :=
 fun e w'=>∃ H':GH,∃ c0k:List Value,e=.returned (Value.tuple #[])∧(St H0 w0 H' w' (.row 34 1 v0 n0 c0k::L)∧Inc Ha H')∧Els H' (eL eI 1) 1 c0k r
theorem zen {H0 Ha:GH} {w0 wa:World} {L:List MO} {v0:Value} {n0:Nat} {k0:List Value} (S0:St H0 w0 Ha wa (.row 34 1 v0 n0 k0::L)) (a0:List (List Int)) (p0:Els Ha (eL eI 1) 1 k0 a0) (v1:Value) (a1:(List Int)→(List Int)→Option Int) (p1:zex Tryz.prog Ha v1 a1) {r:(List (List Int))} (hp:(PF.zcQ a0 a1)=some r) :
  Calls Tryz.prog 55 #[v0,v1] wa (zeI H0 w0 Ha L v0 n0 r):=by
 refine (St.sortF (l:=.row 34 1 v0 n0 k0::L) (i:=0) (Inc.rfl _) S0 rfl p0 (fun H2 w2 hi hs2 c x hc d y hd r hr=>by obtain ⟨y0,e0,z0⟩:=zau hc;cases e0;obtain ⟨y1,e1,z1⟩:=zau hd;cases e1;exact p1 H2 w2 hi hs2 x c z0 y d z1 r hr) (fun p cap fv w=>AnyF.slices_SortFunc_none (P:=Tryz.prog) (ρ:=Tryz.sort55_ren) { Tryz.sort55 with } p cap fv w) (fun α _ enc h1 cf hO g cb blk off cap d w eg hc hH hb hs=>Any.slices_SortFunc Tryz.sort55 enc h1 cf hO g cb blk off cap d w eg hc hH hb hs) hp).mono ?_
 rintro e w' ⟨rfl,c',h1,h2,hq⟩
 exact ⟨_,_,rfl,⟨h1,Inc.rfl _⟩,h2⟩

theorem zeo {Ha:GH} {wa:World} (hs:Sl Ha wa) (a0:Int) :
  Calls Tryz.prog 195 #[Value.int .i64 a0] wa (Sc Ha wa (Value.bool (PF.za2 a0))):=by
 obtain ⟨r,hp⟩:∃ r,(PF.za2 a0)=r:=⟨_,rfl⟩
 rw [hp]
 unfold PF.za2 at hp
 have S0:=St.init hs
 refine zah (N:=6) (args:=[Value.int .i64 a0]) Tryz.func195 rfl rfl rfl ?_
 refine FW.seq (FW.region ?_)
 refine FL.v (E.assign (v:=Value.bool false) rfl) ?_
 refine FL.nil (FW.seq (FW.region ?_))
 refine FL.v (E.move (v:=Value.int .i64 a0) rfl) ?_
 refine FL.v (E.move (v:=Value.int .i64 a0) rfl) ?_
 refine FL.v (E.neq rfl rfl) ?_
 refine FL.v (E.assign (v:=Value.bool (!(a0 == a0))) rfl) ?_
 refine FL.nil ?_
 refine FW.ret ?_
 obtain rfl:=hp
 exact ⟨.inr rfl,res1 rfl rfl ⟨rfl,S0.back⟩⟩

set_option maxHeartbeats 4000000 in
theorem zdY {Ha:GH} {wa:World} (hs:Sl Ha wa) (a0:Int) (a1:Int) :
  Calls Tryz.prog 115 #[Value.int .i64 a0,Value.int .i64 a1] wa (Sc Ha wa (Value.int .i64 (PF.zaO a0 a1))):=by
 obtain ⟨r,hp⟩:∃ r,(PF.zaO a0 a1)=r:=⟨_,rfl⟩
 rw [hp]
 unfold PF.zaO at hp
 have S0:=St.init hs
 refine zah (N:=20) (args:=[Value.int .i64 a0,Value.int .i64 a1]) Tryz.func115 rfl rfl rfl ?_
 refine FW.seq (FW.region ?_)
 refine FL.v (E.assign (v:=Value.int .i64 0) rfl) ?_
 refine FL.nil (FW.seq (FW.region ?_))
 refine FL.v (E.move (v:=Value.int .i64 a0) rfl) ?_
 refine FL.call rfl rfl rfl (E.call Tryz.call195 (A1 rfl)) (zeo S0.sl a0) ?_
 rintro e w21 ⟨rfl,r22⟩
 refine ⟨_,rfl,?_⟩
 have S23:=S0.call r22
 refine FL.v (E.assign (v:=Value.bool (PF.za2 a0)) rfl) ?_
 refine FL.nil (FW.seq (FW.region ?_))
 refine FL.v (E.move (v:=Value.int .i64 a1) rfl) ?_
 refine FL.call rfl rfl rfl (E.call Tryz.call195 (A1 rfl)) (zeo S23.sl a1) ?_
 rintro e w24 ⟨rfl,r25⟩
 refine ⟨_,rfl,?_⟩
 have S26:=S23.call r25
 refine FL.v (E.assign (v:=Value.bool (PF.za2 a1)) rfl) ?_
 refine FL.nil (FW.seq (FW.seq (FW.region ?_)))
 refine FL.v (E.move (v:=Value.bool (PF.za2 a0)) rfl) ?_
 refine FL.nil ?_
 rcases ifT hp with ⟨c27,hp⟩|⟨c27,hp⟩
 ·
  refine FW.condT rfl c27 ?_
  refine FW.seq (FW.seq (FW.region ?_))
  refine FL.v (E.move (v:=Value.bool (PF.za2 a1)) rfl) ?_
  refine FL.nil ?_
  rcases ifT hp with ⟨c28,hp⟩|⟨c28,hp⟩
  ·
   refine FW.condT rfl c28 ?_
   refine FW.seq (FW.region ?_)
   refine FL.v (E.assign (v:=Value.int .i64 0) rfl) ?_
   refine FL.nil ?_
   refine FW.ret ?_
   obtain rfl:=hp
   exact ⟨.inr rfl,res1 rfl rfl ⟨rfl,S26.back⟩⟩
  ·
   refine FW.condF rfl c28 ?_
   refine FW.skip (FW.seq (FW.region ?_))
   refine FL.v (E.assign (v:=Value.int .i64 (-1)) rfl) ?_
   refine FL.nil ?_
   refine FW.ret ?_
   obtain rfl:=hp
   exact ⟨.inr rfl,res1 rfl rfl ⟨rfl,S26.back⟩⟩
 ·
  refine FW.condF rfl c27 ?_
  refine FW.skip (FW.seq (FW.seq (FW.region ?_)))
  refine FL.v (E.move (v:=Value.bool (PF.za2 a1)) rfl) ?_
  refine FL.nil ?_
  rcases ifT hp with ⟨c29,hp⟩|⟨c29,hp⟩
  ·
   refine FW.condT rfl c29 ?_
   refine FW.seq (FW.region ?_)
   refine FL.v (E.assign (v:=Value.int .i64 1) rfl) ?_
   refine FL.nil ?_
   refine FW.ret ?_
   obtain rfl:=hp
   exact ⟨.inr rfl,res1 rfl rfl ⟨rfl,S26.back⟩⟩
  ·
   refine FW.condF rfl c29 ?_
   refine FW.skip (FW.seq (FW.seq (FW.region ?_)))
   refine FL.v (E.move (v:=Value.int .i64 a0) rfl) ?_
   refine FL.v (E.move (v:=Value.int .i64 a1) rfl) ?_
   refine FL.v (E.lss rfl rfl) ?_
   refine FL.nil ?_
   rcases ifT hp with ⟨c30,hp⟩|⟨c30,hp⟩
   ·
    refine FW.condT rfl c30 ?_
    refine FW.seq (FW.region ?_)
    refine FL.v (E.assign (v:=Value.int .i64 (-1)) rfl) ?_
    refine FL.nil ?_
    refine FW.ret ?_
    obtain rfl:=hp
    exact ⟨.inr rfl,res1 rfl rfl ⟨rfl,S26.back⟩⟩
   ·
    refine FW.condF rfl c30 ?_
    refine FW.skip (FW.seq (FW.seq (FW.region ?_)))
    refine FL.v (E.move (v:=Value.int .i64 a0) rfl) ?_
    refine FL.v (E.move (v:=Value.int .i64 a1) rfl) ?_
    refine FL.v (E.gtr rfl rfl) ?_
    refine FL.nil ?_
    rcases ifT hp with ⟨c31,hp⟩|⟨c31,hp⟩
    ·
     refine FW.condT rfl c31 ?_
     refine FW.seq (FW.region ?_)
     refine FL.v (E.assign (v:=Value.int .i64 1) rfl) ?_
     refine FL.nil ?_
     refine FW.ret ?_
     obtain rfl:=hp
     exact ⟨.inr rfl,res1 rfl rfl ⟨rfl,S26.back⟩⟩
    ·
     refine FW.condF rfl c31 ?_
     refine FW.skip (FW.seq (FW.region ?_))
     refine FL.v (E.assign (v:=Value.int .i64 0) rfl) ?_
     refine FL.nil ?_
     refine FW.ret ?_
     obtain rfl:=hp
     exact ⟨.inr rfl,res1 rfl rfl ⟨rfl,S26.back⟩⟩

set_option maxHeartbeats 4000000 in
theorem zeJ {Ha:GH} {wa:World} (hs:Sl Ha wa) (v0:Value) (a0:List Int) (p0:RSl Ha eI 1 v0 a0) (v1:Value) (a1:List Int) (p1:RSl Ha eI 1 v1 a1) (v2:Value) (a2:Int→Int→Option Int) (p2:zdz Tryz.prog Ha v2 a2) {r:Int} (hp:(PF.zcR a0 a1 a2)=some r) :
  Calls Tryz.prog 116 #[v0,v1,v2] wa (Sc Ha wa (Value.int .i64 r)):=by
 unfold PF.zcR at hp
 have S0:=St.init hs
 refine zah (N:=39) (args:=[v0,v1,v2]) Tryz.func116 rfl rfl rfl ?_
 refine FW.seq (FW.region ?_)
 refine FL.v (E.assign (v:=Value.int .i64 0) rfl) ?_
 refine FL.nil (FW.seq (FW.seq (FW.region ?_)))
 refine FL.v (E.move (v:=v0) rfl) ?_
 refine FL.v (E.lenP te34 rfl p0) ?_
 refine FL.v (E.move (v:=Value.int .i64 0) rfl) ?_
 refine FL.nil ?_
 obtain ⟨q22,hq,hp⟩:=bndR hp
 refine FW.block ?_
 refine FW.mono (FW.forL (S:=Unit) (X:=Int) (fun (i22:Nat) (s22:Unit) f w=>∃ H:GH,St Ha wa H w []∧Inc Ha H∧f 13=Value.int .i64 ((i22:Nat):Int)∧f 0=v0∧f 1=v1∧f 2=v2∧f 11=v0∧f 12=Value.int .i64 (len a0)) (fun q e f w=>match q with|.go s22=>e=Exit.exit 0∧(∃ H:GH,St Ha wa H w []∧Inc Ha H∧f 0=v0∧f 1=v1)|.rt x=>((e=Exit.ret)∧(fun e f w=>(e=Exit.normal∨e=Exit.ret)∧∀ a,Fr (δ:=[]) 39 a f→∃ v,(results Tryz.f116 a.tmps).run Tryz.prog w=.ok v w∧(Sc Ha wa (Value.int .i64 x)) (.returned v) w) e f w)) hq ⟨_,S0,(Inc.rfl _),rfl,rfl,rfl,rfl,rfl,rfl⟩ ?_ ?_) ?_
 ·
  clear hp hq
  rintro i22 y21 s22 f64 w63 ⟨H60,S61,i62,k65,k66,k67,k68,k69,k70⟩ hx22 o97 hp
  refine FW.seq (FW.region ?_)
  refine FL.v (E.lssT k65 k70 (zay hx22)) ?_
  refine FL.nil (FW.seq ?_)
  refine FW.condT rfl rfl ?_
  refine FW.skip (FW.seq (FW.block (FW.seq (FW.region ?_))))
  refine FL.v (E.move k65) ?_
  obtain ⟨p71,cs72,pt73,l74,at75,rel76⟩:=p0.at (zap hx22)
  obtain rfl:=zam rel76
  refine FL.v (E.indexAddr te34 k69 k65 pt73) ?_
  refine FL.v (E.load rfl (zaf Tryz.isAgg3 ((at75.mono i62).now S61.sl) rfl)) ?_
  refine FL.v (E.assign (v:=Value.int .i64 ((i22:Nat):Int)) rfl) ?_
  refine FL.v (E.assign (v:=Value.int .i64 y21) rfl) ?_
  refine FL.nil (FW.seq (FW.seq (FW.region ?_)))
  refine FL.v (E.move (v:=Value.int .i64 ((i22:Nat):Int)) rfl) ?_
  refine FL.v (E.move k67) ?_
  refine FL.v (E.lenP te34 rfl p1) ?_
  refine FL.v (E.geq rfl rfl) ?_
  refine FL.nil ?_
  rcases ifB hp with ⟨c77,hp⟩|⟨c77,hp⟩
  ·
   refine FW.condT rfl c77 ?_
   refine FW.seq (FW.region ?_)
   refine FL.v (E.assign (v:=Value.int .i64 1) rfl) ?_
   refine FL.nil ?_
   refine FW.ret ?_
   obtain rfl:=Option.some.inj hp
   exact ⟨nofun,rfl,⟨.inr rfl,res1 rfl rfl ⟨rfl,S61.back⟩⟩⟩
  ·
   refine FW.condF rfl c77 ?_
   refine FW.skip (FW.seq (FW.region ?_))
   refine FL.v (E.move k67) ?_
   refine FL.v (E.move (v:=Value.int .i64 ((i22:Nat):Int)) rfl) ?_
   obtain ⟨x84,hx85,hp⟩:=bnd hp
   obtain ⟨p78,cs79,pt80,l81,at82,rel83⟩:=p1.at hx85
   obtain rfl:=zam rel83
   refine FL.v (E.indexAddr te34 rfl rfl pt80) ?_
   refine FL.v (E.load rfl (zaf Tryz.isAgg3 ((at82.mono i62).now S61.sl) rfl)) ?_
   refine FL.v (E.assign (v:=Value.int .i64 x84) rfl) ?_
   refine FL.nil (FW.seq (FW.region ?_))
   refine FL.v (E.move k68) ?_
   refine FL.v (E.move (v:=Value.int .i64 y21) rfl) ?_
   refine FL.v (E.move (v:=Value.int .i64 x84) rfl) ?_
   obtain ⟨r86,hr87,hp⟩:=bnd hp
   obtain ⟨fi91,cs92,hv93,he94,hc95⟩:=(p2.mono i62) H60 w63 (Inc.rfl _) S61.sl y21 x84 r86 hr87
   refine FL.call rfl rfl rfl (E.callV he94 (Eq.trans rfl hv93) (appA (A2 rfl rfl) cs92)) hc95 ?_
   rintro e w88 ⟨rfl,r89⟩
   refine ⟨_,rfl,?_⟩
   have S90:=S61.call r89
   refine FL.v (E.assign (v:=Value.int .i64 r86) rfl) ?_
   refine FL.nil (FW.seq (FW.region ?_))
   refine FL.v (E.move (v:=Value.int .i64 r86) rfl) ?_
   refine FL.v (E.neq rfl rfl) ?_
   refine FL.nil ?_
   rcases ifB hp with ⟨c96,hp⟩|⟨c96,hp⟩
   ·
    refine FW.condT rfl c96 ?_
    refine FW.seq (FW.region ?_)
    refine FL.v (E.move (v:=Value.int .i64 r86) rfl) ?_
    refine FL.v (E.assign (v:=Value.int .i64 r86) rfl) ?_
    refine FL.nil ?_
    refine FW.ret ?_
    obtain rfl:=Option.some.inj hp
    exact ⟨nofun,rfl,⟨.inr rfl,res1 rfl rfl ⟨rfl,S90.back⟩⟩⟩
   ·
    refine FW.condF rfl c96 ?_
    refine FW.skip (FW.region ?_)
    refine FL.v (E.add k65 rfl) ?_
    refine FL.v (E.move (v:=Value.int .i64 (wr (((i22:Nat):Int) + 1))) rfl) ?_
    refine FL.nil ?_
    obtain rfl:=Option.some.inj hp
    exact ⟨rfl,⟨_,S90,i62,(zas rfl (zao hx22) (p0.mono i62).le),k66,k67,k68,k69,k70⟩⟩
 ·
  clear hp hq
  rintro s22 fAa wA9 ⟨HA6,SA7,iA8,kAb,kAc,kAd,kAe,kAf,kAg⟩
  refine FW.seq (FW.region ?_)
  refine FL.v (E.lss kAb kAg) ?_
  refine FL.nil (FW.seq ?_)
  refine FW.condF rfl zaz ?_
  refine FW.exit ?_
  exact ⟨nofun,rfl,⟨_,SA7,iA8,kAc,kAd⟩⟩
 ·
  clear hq
  intro e fA2 wA1 hD
  rcases q22 with s22|x22
  ·
   obtain ⟨rfl,hD⟩:=hD
   obtain ⟨H98,S99,iA0,kA3,kA4⟩:=hD
   replace hp:=el_go hp
   refine FW.seq (FW.seq (FW.region ?_))
   refine FL.v (E.move kA3) ?_
   refine FL.v (E.lenP te34 rfl p0) ?_
   refine FL.v (E.move kA4) ?_
   refine FL.v (E.lenP te34 rfl p1) ?_
   refine FL.v (E.lss rfl rfl) ?_
   refine FL.nil ?_
   rcases ifB hp with ⟨cA5,hp⟩|⟨cA5,hp⟩
   ·
    refine FW.condT rfl cA5 ?_
    refine FW.seq (FW.region ?_)
    refine FL.v (E.assign (v:=Value.int .i64 (-1)) rfl) ?_
    refine FL.nil ?_
    refine FW.ret ?_
    obtain rfl:=Option.some.inj hp
    exact ⟨.inr rfl,res1 rfl rfl ⟨rfl,S99.back⟩⟩
   ·
    refine FW.condF rfl cA5 ?_
    refine FW.skip (FW.seq (FW.region ?_))
    refine FL.v (E.assign (v:=Value.int .i64 0) rfl) ?_
    refine FL.nil ?_
    refine FW.ret ?_
    obtain rfl:=Option.some.inj hp
    exact ⟨.inr rfl,res1 rfl rfl ⟨rfl,S99.back⟩⟩
  ·
   obtain ⟨he,hL⟩:=hD
   replace hp:=el_rt hp
   obtain rfl:=Option.some.inj hp
   subst he
   exact hL

theorem w_cmp_Or_int {Ha:GH} {wa:World} (hs:Sl Ha wa) (v0:Value) (a0:List Int) (p0:RSl Ha eI 1 v0 a0) {r:Int} (hp:(PF.zcj a0)=some r) :
  Calls Tryz.prog 114 #[v0] wa (Sc Ha wa (Value.int .i64 r)):=by
 unfold PF.zcj at hp
 have S0:=St.init hs
 refine zah (N:=18) (args:=[v0]) Tryz.func114 rfl rfl rfl ?_
 refine FW.seq (FW.region ?_)
 refine FL.v (E.assign (v:=Value.int .i64 0) rfl) ?_
 refine FL.nil (FW.seq (FW.region ?_))
 refine FL.v (E.assign (v:=Value.int .i64 0) rfl) ?_
 refine FL.nil (FW.seq (FW.seq (FW.region ?_)))
 refine FL.v (E.move (v:=v0) rfl) ?_
 refine FL.v (E.lenP te34 rfl p0) ?_
 refine FL.v (E.move (v:=Value.int .i64 0) rfl) ?_
 refine FL.nil ?_
 obtain ⟨q22,hq,hp⟩:=bndR hp
 refine FW.block ?_
 refine FW.mono (FW.forL (S:=Unit) (X:=Int) (fun (i22:Nat) (s22:Unit) f w=>∃ H:GH,St Ha wa H w []∧Inc Ha H∧f 8=Value.int .i64 ((i22:Nat):Int)∧f 3=Value.int .i64 0∧f 6=v0∧f 7=Value.int .i64 (len a0)) (fun q e f w=>match q with|.go s22=>e=Exit.exit 0∧(∃ H:GH,St Ha wa H w []∧Inc Ha H∧f 3=Value.int .i64 0)|.rt x=>((e=Exit.ret)∧(fun e f w=>(e=Exit.normal∨e=Exit.ret)∧∀ a,Fr (δ:=[]) 18 a f→∃ v,(results Tryz.f114 a.tmps).run Tryz.prog w=.ok v w∧(Sc Ha wa (Value.int .i64 x)) (.returned v) w) e f w)) hq ⟨_,S0,(Inc.rfl _),rfl,rfl,rfl,rfl⟩ ?_ ?_) ?_
 ·
  clear hp hq
  rintro i22 y21 s22 f43 w42 ⟨H39,S40,i41,k44,k45,k46,k47⟩ hx22 o55 hp
  refine FW.seq (FW.region ?_)
  refine FL.v (E.lssT k44 k47 (zay hx22)) ?_
  refine FL.nil (FW.seq ?_)
  refine FW.condT rfl rfl ?_
  refine FW.skip (FW.seq (FW.block (FW.seq (FW.region ?_))))
  obtain ⟨p48,cs49,pt50,l51,at52,rel53⟩:=p0.at (zap hx22)
  obtain rfl:=zam rel53
  refine FL.v (E.indexAddr te34 k46 k44 pt50) ?_
  refine FL.v (E.load rfl (zaf Tryz.isAgg3 ((at52.mono i41).now S40.sl) rfl)) ?_
  refine FL.v (E.assign (v:=Value.int .i64 y21) rfl) ?_
  refine FL.nil (FW.seq (FW.region ?_))
  refine FL.v (E.move (v:=Value.int .i64 y21) rfl) ?_
  refine FL.v (E.move k45) ?_
  refine FL.v (E.neq rfl rfl) ?_
  refine FL.nil ?_
  rcases ifB hp with ⟨c54,hp⟩|⟨c54,hp⟩
  ·
   refine FW.condT rfl c54 ?_
   refine FW.seq (FW.region ?_)
   refine FL.v (E.move (v:=Value.int .i64 y21) rfl) ?_
   refine FL.v (E.assign (v:=Value.int .i64 y21) rfl) ?_
   refine FL.nil ?_
   refine FW.ret ?_
   obtain rfl:=Option.some.inj hp
   exact ⟨nofun,rfl,⟨.inr rfl,res1 rfl rfl ⟨rfl,S40.back⟩⟩⟩
  ·
   refine FW.condF rfl c54 ?_
   refine FW.skip (FW.region ?_)
   refine FL.v (E.add k44 rfl) ?_
   refine FL.v (E.move (v:=Value.int .i64 (wr (((i22:Nat):Int) + 1))) rfl) ?_
   refine FL.nil ?_
   obtain rfl:=Option.some.inj hp
   exact ⟨rfl,⟨_,S40,i41,(zas rfl (zao hx22) (p0.mono i41).le),k45,k46,k47⟩⟩
 ·
  clear hp hq
  rintro s22 f66 w65 ⟨H62,S63,i64,k67,k68,k69,k70⟩
  refine FW.seq (FW.region ?_)
  refine FL.v (E.lss k67 k70) ?_
  refine FL.nil (FW.seq ?_)
  refine FW.condF rfl zaz ?_
  refine FW.exit ?_
  exact ⟨nofun,rfl,⟨_,S63,i64,k68⟩⟩
 ·
  clear hq
  intro e f60 w59 hD
  rcases q22 with s22|x22
  ·
   obtain ⟨rfl,hD⟩:=hD
   obtain ⟨H56,S57,i58,k61⟩:=hD
   replace hp:=el_go hp
   refine FW.seq (FW.region ?_)
   refine FL.v (E.move k61) ?_
   refine FL.v (E.assign (v:=Value.int .i64 0) rfl) ?_
   refine FL.nil ?_
   refine FW.ret ?_
   obtain rfl:=Option.some.inj hp
   exact ⟨.inr rfl,res1 rfl rfl ⟨rfl,S57.back⟩⟩
  ·
   obtain ⟨he,hL⟩:=hD
   replace hp:=el_rt hp
   obtain rfl:=Option.some.inj hp
   subst he
   exact hL

theorem zeK {Ha:GH} {wa:World} (hs:Sl Ha wa) (a0:Int) (a1:Int) {r:Int} (hp:(PF.zbA a0 a1)=some r) :
  Calls Tryz.prog 117 #[Value.int .i64 a0,Value.int .i64 a1] wa (Sc Ha wa (Value.int .i64 r)):=by
 unfold PF.zbA at hp
 have S0:=St.init hs
 refine zah (N:=15) (args:=[Value.int .i64 a0,Value.int .i64 a1]) Tryz.func117 rfl rfl rfl ?_
 refine FW.seq (FW.region ?_)
 refine FL.v (E.assign (v:=Value.int .i64 0) rfl) ?_
 refine FL.nil (FW.seq (FW.region ?_))
 refine FL.v (E.move (v:=Value.int .i64 a0) rfl) ?_
 refine FL.call rfl rfl rfl (E.call Tryz.call129 (A1 rfl)) (zdh S0.sl a0) ?_
 rintro e w21 ⟨rfl,r22⟩
 refine ⟨_,rfl,?_⟩
 have S23:=S0.call r22
 refine FL.v (E.move (v:=Value.int .i64 a1) rfl) ?_
 refine FL.call rfl rfl rfl (E.call Tryz.call129 (A1 rfl)) (zdh S23.sl a1) ?_
 rintro e w24 ⟨rfl,r25⟩
 refine ⟨_,rfl,?_⟩
 have S26:=S23.call r25
 refine FL.call rfl rfl rfl (E.call Tryz.call115 (A2 rfl rfl)) (zdY S26.sl (PF.zaw a0) (PF.zaw a1)) ?_
 rintro e w27 ⟨rfl,r28⟩
 refine ⟨_,rfl,?_⟩
 have S29:=S26.call r28
 refine FL.v (E.move (v:=Value.int .i64 a1) rfl) ?_
 refine FL.v (E.move (v:=Value.int .i64 a0) rfl) ?_
 refine FL.call rfl rfl rfl (E.call Tryz.call115 (A2 rfl rfl)) (zdY S29.sl a1 a0) ?_
 rintro e w30 ⟨rfl,r31⟩
 refine ⟨_,rfl,?_⟩
 have S32:=S29.call r31
 obtain ⟨v33,w34,run35,S36,els37⟩:=S32.ints (P:=Tryz.prog) te34 (up wa.heap.size Ha) 2 [(PF.zaO (PF.zaw a0) (PF.zaw a1)),(PF.zaO a1 a0)]
 refine FL.v (E.buildSlice (B2 rfl rfl) run35) ?_
 obtain ⟨H38,S39,i40,h41,nv42⟩:=S36.sealRowU (i:=0) (l':=[]) rfl els37 (by decide) rfl
 obtain ⟨r43,hr44,hp⟩:=bnd hp
 refine FL.call rfl rfl rfl (E.call Tryz.call114 (A1 rfl)) (w_cmp_Or_int S39.sl v33 [(PF.zaO (PF.zaw a0) (PF.zaw a1)),(PF.zaO a1 a0)] (h41.mono upI) hr44) ?_
 rintro e w45 ⟨rfl,r46⟩
 refine ⟨_,rfl,?_⟩
 have r46:=Run.lend i40 S36.sl r46
 have S47:=S36.call r46
 refine FL.v (E.assign (v:=Value.int .i64 r43) rfl) ?_
 refine FL.nil ?_
 refine FW.ret ?_
 obtain rfl:=Option.some.inj hp
 exact ⟨.inr rfl,res1 rfl rfl ⟨rfl,S47.back⟩⟩

theorem zep {Ha:GH} {wa:World} (hs:Sl Ha wa) (v0:Value) (a0:List Int) (p0:RSl Ha eI 1 v0 a0) (v1:Value) (a1:List Int) (p1:RSl Ha eI 1 v1 a1) {r:Int} (hp:(PF.zaW a0 a1)=some r) :
  Calls Tryz.prog 56 #[v0,v1] wa (Sc Ha wa (Value.int .i64 r)):=by
 unfold PF.zaW at hp
 have S0:=St.init hs
 refine zah (N:=15) (args:=[v0,v1]) Tryz.func56 rfl rfl rfl ?_
 refine FW.seq (FW.region ?_)
 refine FL.v (E.assign (v:=Value.int .i64 0) rfl) ?_
 refine FL.nil (FW.seq (FW.region ?_))
 refine FL.v (E.move (v:=v0) rfl) ?_
 refine FL.v (E.lenP te34 rfl p0) ?_
 refine FL.v (E.move (v:=v1) rfl) ?_
 refine FL.v (E.lenP te34 rfl p1) ?_
 refine FL.call rfl rfl rfl (E.call Tryz.call115 (A2 rfl rfl)) (zdY S0.sl (len a0) (len a1)) ?_
 rintro e w21 ⟨rfl,r22⟩
 refine ⟨_,rfl,?_⟩
 have S23:=S0.call r22
 refine FL.v (E.move (v:=v0) rfl) ?_
 refine FL.v (E.move (v:=v1) rfl) ?_
 obtain ⟨r24,hr25,hp⟩:=bnd hp
 refine FL.call rfl rfl rfl (E.call Tryz.call116 (A3 rfl rfl rfl)) (zeJ S23.sl v0 a0 p0 v1 a1 p1 (Value.func (.func 117) #[] #[]) (fun x0 x1=>PF.zbA x0 x1) (fun H2 w2 hi2 hs2 x0 x1 r hr=>⟨117,#[],rfl,Tryz.call117,zeK hs2 x0 x1  hr⟩) hr25) ?_
 rintro e w26 ⟨rfl,r27⟩
 refine ⟨_,rfl,?_⟩
 have S28:=S23.call r27
 obtain ⟨v29,w30,run31,S32,els33⟩:=S28.ints (P:=Tryz.prog) te34 (up wa.heap.size Ha) 2 [(PF.zaO (len a0) (len a1)),r24]
 refine FL.v (E.buildSlice (B2 rfl rfl) run31) ?_
 obtain ⟨H34,S35,i36,h37,nv38⟩:=S32.sealRowU (i:=0) (l':=[]) rfl els33 (by decide) rfl
 obtain ⟨r39,hr40,hp⟩:=bnd hp
 refine FL.call rfl rfl rfl (E.call Tryz.call114 (A1 rfl)) (w_cmp_Or_int S35.sl v29 [(PF.zaO (len a0) (len a1)),r24] (h37.mono upI) hr40) ?_
 rintro e w41 ⟨rfl,r42⟩
 refine ⟨_,rfl,?_⟩
 have r42:=Run.lend i36 S32.sl r42
 have S43:=S32.call r42
 refine FL.v (E.assign (v:=Value.int .i64 r39) rfl) ?_
 refine FL.nil ?_
 refine FW.ret ?_
 obtain rfl:=Option.some.inj hp
 exact ⟨.inr rfl,res1 rfl rfl ⟨rfl,S43.back⟩⟩

def AC (H:GH) (J:GH→World→Prop):Ending→World→Prop:=fun e w'=>e=.returned (.tuple #[])∧∃ H',Inc H H'∧J H' w'
set_option maxHeartbeats 2000000 in
theorem w_allC {σ:Type} {J:σ→GH→World→Prop} {step:List Int→σ→Option σ} {g:Nat} {cb:Array Value} (hsl:∀ {s H w},J s H w→Sl H w) (hrun:∀ {s H w H' w'},J s H w→Run w.heap.size H w H' w'→J s H' w')
    (hg:∀ args w,(callFunc g args).run Tryz.prog w=.ok (.enter g args) w)
    (hdo:∀ {s H w},J s H w→∀ v c,RSl H eI 1 v c→∀ s',step c s=some s'→Calls Tryz.prog g (#[v]++cb) w (AC H (J s'))) :
    ∀ (n:Nat) (V u:Int) (c:List Int) (v:Value) (s s':σ) (H:GH) (w:World),1≤u→u + n=V + 1→V≤1000→c.length + n≤1000000→J s H w→RSl H eI 1 v c→foldO step (c::visL n u c) s=some s' →
      Calls Tryz.prog 51 #[.int .i64 V,.int .i64 u,v,.func (.func g) #[] cb] w (AC H (J s')):=by
  intro n
  induction n using Nat.strongRecOn with
  | ind n ih =>
  intro V u c v s s' H w hu hn hV hcl hJ hc hp
  have hclone:PF.zci c=some c:=by
    unfold PF.zci app
    rw [if_pos (by unfold lim;simp;omega),zab,List.nil_append]
  have happ:∀ x:Int,app c [x]=some (c++[x]):=fun x=>by unfold app;rw [if_pos (by unfold lim;simp;omega)]
  refine zah (N:=39) (args:=[.int .i64 V,.int .i64 u,v,.func (.func g) #[] cb]) Tryz.func51 rfl rfl rfl ?_
  refine FW.seq (FW.region ?_)
  refine FL.v (E.move (v:=.func (.func g) #[] cb) rfl) ?_
  refine FL.v (E.move (v:=v) rfl) ?_
  obtain ⟨s1,h1,hp⟩:=foldO_cons hp
  refine FL.call rfl rfl rfl (E.callV hg rfl (appA (A1 rfl) cb)) (hdo hJ v c hc s1 h1) ?_
  rintro e w1 ⟨rfl,H1,i1,J1⟩
  refine ⟨_,rfl,?_⟩
  refine FL.nil (FW.seq (FW.region ?_))
  refine FL.v (E.move (v:=.int .i64 u) rfl) ?_
  refine FL.v (E.assign (v:=.int .i64 u) rfl) ?_
  refine FL.nil ?_
  refine FW.block ?_
  refine FW.loopG (fun m f w=>∃ (u':Int) (t:σ) (H2:GH),m≤n∧1≤u'∧u' + m=V + 1∧J t H2 w∧Inc H H2∧foldO step (visL m u' c) t=some s'∧f 0=.int .i64 V∧f 2=v∧f 3=.func (.func g) #[] cb∧f 8=.int .i64 u') ?_ (m:=n) ⟨u,s1,H1,Nat.le_refl _,hu,hn,J1,i1,hp,rfl,rfl,rfl,rfl⟩
  clear hp h1
  rintro m f2 w2 ⟨u',t,H2,hm,hu',hn',J2,i2,hp,k0,k2,k3,k8⟩
  refine FW.seq (FW.seq (FW.region ?_))
  refine FL.v (E.move k8) ?_
  refine FL.v (E.move k0) ?_
  refine FL.v (E.leq rfl rfl) ?_
  refine FL.nil ?_
  cases m with
  | zero =>
    refine FW.condF rfl (by rw [decide_eq_false_iff_not];omega) ?_
    refine FW.exit ?_
    cases hp
    exact ⟨.inl rfl,res0 (R:=AC H (J s')) rfl ⟨rfl,H2,i2,J2⟩⟩
  | succ m =>
    refine FW.condT rfl (by rw [decide_eq_true_eq];omega) ?_
    refine FW.skip (FW.seq (FW.block (FW.seq (FW.region ?_))))
    obtain ⟨t1,hp1,hp⟩:=foldO_app hp
    obtain ⟨t2,hp2,hp⟩:=foldO_app hp
    have w1':wr (u' + 1)=u' + 1:=wr_of _ (by omega) (by omega)
    have w2':wr (-u')=-u':=wr_of _ (by omega) (by omega)
    -- the literal
    have S:=St.init (hsl J2)
    refine FL.v (E.move k0) ?_
    refine FL.v (E.move k8) ?_
    refine FL.v (E.add rfl rfl) ?_
    refine FL.v (E.move k2) ?_
    refine FL.call rfl rfl rfl (E.call Tryz.call108 (A1 rfl)) (zdX S.sl v c (hc.mono i2) hclone) ?_
    rintro e w3 ⟨H3,v3,n3,c3,rfl,r3,els3⟩
    refine ⟨_,rfl,?_⟩
    have els3:=els3.mono (up_le S.size)
    have S3:=S.join (l':=[.row 3 1 v3 n3 c3]) r3 rfl
    refine FL.v (E.move k8) ?_
    obtain ⟨v4,w4,run4,S4⟩:=S3.buildSlice (P:=Tryz.prog) te34 [.int .i64 u'] (parts:=#[(0,.int .i64 u')]) (cells:=[.int .i64 u']) rfl (zar rfl zal) (zaq rfl zak) (zaa rfl zad) (Nat.le_of_ble_eq_true rfl)
    have els4:Els (up w2.heap.size H3) eI 1 [.int .i64 u'] [u']:=(Els.snoc (H:=(up w2.heap.size H3)) (E:=eI) (k:=1) (c:=[.int .i64 u']) (x:=u') Els.nil rfl rfl)
    refine FL.v (E.buildSlice (B1 rfl) run4) ?_
    obtain ⟨v5,w5,n5,c5,run5,S5,els5,_⟩:=S4.appendO (P:=Tryz.prog) te34 (i:=1) (j:=0) rfl els3 rfl els4 (happ u')
    have S5:St H2 w2 H3 w5 [.row 3 1 v4 1 [.int .i64 u'],.row 3 1 v5 n5 c5]:=S5
    have S5:St H2 w2 H3 w5 [.row 3 1 v5 n5 c5]:=S5.drop 0
    refine FL.v (E.append rfl rfl run5) ?_
    refine FL.v (E.move k3) ?_
    obtain ⟨H6,S6,i6,h6⟩:=S5.sealRow (i:=0) (l':=[]) rfl (els5.mono upI) (by decide) rfl
    refine FL.call rfl rfl rfl (E.call Tryz.call51 (A4 rfl rfl rfl rfl)) (ih m (by omega) V (wr (u' + 1)) (c++[u']) v5 t t1 H6 w5 (by omega) (by omega) hV (by simp;omega) (hrun J2 S6.run) h6 (by rw [w1'];exact hp1)) ?_
    rintro e w7 ⟨rfl,H7,i7,J7⟩
    refine ⟨_,rfl,?_⟩
    refine FL.nil (FW.region ?_)
    -- its negation
    have R:=St.init (hsl J7)
    refine FL.v (E.move k0) ?_
    refine FL.v (E.move k8) ?_
    refine FL.v (E.add rfl rfl) ?_
    refine FL.v (E.move k2) ?_
    have hi7:Inc H2 H7:=(S6.inc).tr i7
    refine FL.call rfl rfl rfl (E.call Tryz.call108 (A1 rfl)) (zdX R.sl v c (hc.mono (i2.tr hi7)) hclone) ?_
    rintro e w8 ⟨H8,v8,n8,c8,rfl,r8,els8⟩
    refine ⟨_,rfl,?_⟩
    have els8:=els8.mono (up_le R.size)
    have R8:=R.join (l':=[.row 3 1 v8 n8 c8]) r8 rfl
    refine FL.v (E.move k8) ?_
    refine FL.v (E.neg rfl) ?_
    obtain ⟨v9,w9,run9,R9⟩:=R8.buildSlice (P:=Tryz.prog) te34 [.int .i64 (wr (-u'))] (parts:=#[(0,.int .i64 (wr (-u')))]) (cells:=[.int .i64 (wr (-u'))]) rfl (zar rfl zal) (zaq rfl zak) (zaa rfl zad) (Nat.le_of_ble_eq_true rfl)
    have els9:Els (up w7.heap.size H8) eI 1 [.int .i64 (wr (-u'))] [wr (-u')]:=(Els.snoc (H:=(up w7.heap.size H8)) (E:=eI) (k:=1) (c:=[.int .i64 (wr (-u'))]) (x:=wr (-u')) Els.nil rfl rfl)
    refine FL.v (E.buildSlice (B1 rfl) run9) ?_
    obtain ⟨v10,w10,n10,c10,run10,R10,els10,_⟩:=R9.appendO (P:=Tryz.prog) te34 (i:=1) (j:=0) rfl els8 rfl els9 (happ _)
    have R10:St H7 w7 H8 w10 [.row 3 1 v9 1 [.int .i64 (wr (-u'))],.row 3 1 v10 n10 c10]:=R10
    have R10:St H7 w7 H8 w10 [.row 3 1 v10 n10 c10]:=R10.drop 0
    refine FL.v (E.append rfl rfl run10) ?_
    refine FL.v (E.move k3) ?_
    obtain ⟨H11,R11,i11,h11⟩:=R10.sealRow (i:=0) (l':=[]) rfl (els10.mono upI) (by decide) rfl
    rw [w2'] at h11
    refine FL.call rfl rfl rfl (E.call Tryz.call51 (A4 rfl rfl rfl rfl)) (ih m (by omega) V (wr (u' + 1)) (c++[-u']) v10 t1 t2 H11 w10 (by omega) (by omega) hV (by simp;omega) (hrun J7 R11.run) h11 (by rw [w1'];exact hp2)) ?_
    rintro e w12 ⟨rfl,H12,i12,J12⟩
    refine ⟨_,rfl,?_⟩
    refine FL.nil (FW.region ?_)
    refine FL.v (E.move k8) ?_
    refine FL.v (E.add rfl rfl) ?_
    refine FL.v (E.assign (v:=.int .i64 (wr (u' + 1))) rfl) ?_
    refine FL.nil ?_
    exact ⟨m,Nat.lt_succ_self _,u' + 1,t2,H12,by omega,by omega,by omega,J12,(i2.tr hi7).tr ((R11.inc).tr i12),hp,k0,k2,k3,congrArg (Value.int .i64) w1'⟩
theorem hoc_b {n:Int} (h:(bif (decide (n < 0)) then true else (decide (1000 < n)))=false):0≤n∧n≤1000:=by
  by_cases h0:n < 0
  · rw [decide_eq_true h0] at h;cases h
  · rw [decide_eq_false h0] at h;have:=of_decide_eq_false h;omega

@[reducible] def zeL (Ha:GH) (wa:World) (r:(Cnf×Bool)):Ending→World→Prop :=
 fun e w'=>∃ H':GH,∃ v0_1:Value,e=.returned (Value.tuple #[Value.agg #[Value.int .i64 r.1.vars,v0_1],Value.bool r.2])∧Run wa.heap.size Ha wa H' w'∧RSl H' (eL eI 1) 1 v0_1 r.1.clauses
set_option maxHeartbeats 4000000 in
theorem zeM {Ha:GH} {wa:World} (hs:Sl Ha wa) (a0:Cnf) (v0_1:Value) (p0_1:RSl Ha (eL eI 1) 1 v0_1 a0.clauses) {r:(Cnf×Bool)} (hp:(PF.zbT a0)=some r) :
  Calls Tryz.prog 8 #[Value.agg #[Value.int .i64 a0.vars,v0_1]] wa (zeL Ha wa r):=by
 unfold PF.zbT at hp
 have S0:=St.init hs
 refine zah (N:=30) (args:=[Value.agg #[Value.int .i64 a0.vars,v0_1]]) Tryz.func8 rfl rfl rfl ?_
 refine FW.seq (FW.region ?_)
 obtain ⟨b21,w22,run23,S24⟩:=S0.box (P:=Tryz.prog) 26 [Value.int .i64 a0.vars,v0_1] (v:=Value.agg #[Value.int .i64 a0.vars,v0_1]) rfl (zaa rfl (zaa p0_1.one zad))
 refine FL.v (E.box rfl run23) ?_
 obtain ⟨H25,S26,i27,at28⟩:=S24.sealBox (i:=0) (l':=[]) rfl rfl
 have S33:=S26.nil 34 1
 have els34:Els (up wa.heap.size H25) (eL eI 1) 1 [] []:=Els.nil
 obtain ⟨b29,w30,run31,S32⟩:=S33.alloc (P:=Tryz.prog) 26 [Value.int .i64 0,Value.slice none 0 0] Tryz.zeroValue26 rfl (zaa rfl (zaa rfl zad))
 refine FL.v (E.alloc run31) ?_
 refine FL.v (E.assign (v:=Value.bool false) rfl) ?_
 refine FL.nil (FW.seq (FW.seq (FW.region ?_)))
 refine FL.v (E.load rfl (zat Tryz.isAgg26 Tryz.sizeOf26 (at28.now S32.sl) rfl)) ?_
 obtain ⟨r35,hr36,hp⟩:=bnd hp
 refine FL.call rfl rfl rfl (E.call Tryz.call50 (A1 rfl)) (zdD S32.sl a0 v0_1 (p0_1.mono i27) hr36) ?_
 rintro e w37 ⟨rfl,r38⟩
 refine ⟨_,rfl,?_⟩
 have S39:=S32.call r38
 refine FL.v (E.not rfl) ?_
 refine FL.v (E.move (v:=Value.bool (!r35)) rfl) ?_
 refine FL.cut 4 (fun f w=>∃ H:GH,St Ha wa H w [.box b29 26 [Value.int .i64 0,(Value.slice none 0 0)],.row 34 1 (Value.slice none 0 0) 0 []]∧Inc H25 H∧f 1=Value.pointer (some ⟨b21,0,none⟩)∧f 2=Value.pointer (some (⟨b29,0,none⟩:Addr))∧f 12=Value.bool (bif (!r35) then true else (decide (5 < a0.vars)))) ?_ ?_
 ·
  rcases bcase (!r35) with c46|c46
  ·
   refine FL.skip (wF_no rfl rfl rfl c46) rfl ?_
   refine FL.skip (wF_no rfl rfl rfl c46) rfl ?_
   refine FL.skip (wF_no rfl rfl rfl c46) rfl ?_
   refine FL.v (E.pickT rfl c46 rfl) ?_
   exact FL.nil ⟨rfl,_,S39,(Inc.rfl _),rfl,rfl,(congrArg Value.bool (bifT c46).symm)⟩
  ·
   refine FL.val (zac rfl rfl rfl c46) rfl rfl (E.fieldAddr zax rfl) ?_
   refine FL.val (zac rfl rfl rfl c46) rfl rfl (E.load rfl (zag Tryz.isAgg3 (at28.now S39.sl) rfl)) ?_
   refine FL.val (zac rfl rfl rfl c46) rfl rfl (E.gtr rfl rfl) ?_
   refine FL.v (E.pickF rfl c46 rfl) ?_
   exact FL.nil ⟨rfl,_,S39,(Inc.rfl _),rfl,rfl,(congrArg Value.bool (bifF c46).symm)⟩
 rintro f45 w44 ⟨H41,S42,i43,k47,k48,k49⟩
 refine FL.nil ?_
 rcases ifB hp with ⟨c50,hp⟩|⟨c50,hp⟩
 ·
  refine FW.condT k49 c50 ?_
  refine FW.seq (FW.region ?_)
  refine FL.v (E.build (B0) (run_build _ 26 #[] #[Value.int .i64 0,Value.slice none 0 0] (by rfl))) ?_
  have S51:=S42.nil 34 1
  have els52:Els (up wa.heap.size H41) (eL eI 1) 1 [] []:=Els.nil
  obtain ⟨w53,run54,S55⟩:=S51.store0 (P:=Tryz.prog) (t:=26) (i:=1) (cs':=[Value.int .i64 0,(Value.slice none 0 0)]) (l':=[.row 34 1 (Value.slice none 0 0) 0 [],.box b29 26 [Value.int .i64 0,(Value.slice none 0 0)],.row 34 1 (Value.slice none 0 0) 0 []]) (v:=Value.agg #[Value.int .i64 0,(Value.slice none 0 0)]) (c:=[Value.int .i64 0,(Value.slice none 0 0)]) rfl Tryz.sizeOf26 rfl rfl (zaa rfl (zaa (Ln.one (S51.row_ln (i:=0) rfl)) zad)) (Nat.le_of_ble_eq_true rfl) rfl rfl
  refine FL.act rfl rfl (E.store k48 rfl run54) ?_
  refine FL.v (E.assign (v:=Value.bool false) rfl) ?_
  refine FL.nil ?_
  refine FW.ret ?_
  obtain ⟨H56,S57,i58,ns61,nv60⟩:=S55.sealRowN (i:=0) (l':=[.box b29 26 [Value.int .i64 0,(Value.slice none 0 0)],.row 34 1 (Value.slice none 0 0) 0 []]) rfl els52 (show (bl []).Nodup from List.nodup_nil) (by decide) rfl
  have h59:=ns61.rsl
  obtain rfl:=Option.some.inj hp
  exact ⟨.inr rfl,resC2 rfl k48 (zaA Tryz.isAgg26 Tryz.sizeOf26 (S57.box_now (i:=0) rfl) rfl) rfl ⟨_,_,rfl,S57.run,(h59.mono upI)⟩⟩
 ·
  refine FW.condF k49 c50 ?_
  refine FW.skip (FW.seq (FW.region ?_))
  refine FL.v (E.fieldAddr zax k47) ?_
  refine FL.v (E.load rfl (zag Tryz.isAgg3 ((at28.mono i43).now S42.sl) rfl)) ?_
  refine FL.v (E.build (B1 rfl) (run_build _ 26 #[(0,Value.int .i64 a0.vars)] #[Value.int .i64 a0.vars,Value.slice none 0 0] (by rfl))) ?_
  have S66:=S42.nil 34 1
  have els67:Els (up wa.heap.size H41) (eL eI 1) 1 [] []:=Els.nil
  obtain ⟨b62,w63,run64,S65⟩:=S66.alloc (P:=Tryz.prog) 26 [Value.int .i64 0,Value.slice none 0 0] Tryz.zeroValue26 rfl (zaa rfl (zaa rfl zad))
  refine FL.v (E.alloc run64) ?_
  have S68:=S65.nil 34 1
  have els69:Els (up wa.heap.size H41) (eL eI 1) 1 [] []:=Els.nil
  obtain ⟨w70,run71,S72⟩:=S68.store0 (P:=Tryz.prog) (t:=26) (i:=1) (cs':=[Value.int .i64 a0.vars,(Value.slice none 0 0)]) (l':=[.row 34 1 (Value.slice none 0 0) 0 [],.box b62 26 [Value.int .i64 a0.vars,(Value.slice none 0 0)],.row 34 1 (Value.slice none 0 0) 0 [],.box b29 26 [Value.int .i64 0,(Value.slice none 0 0)],.row 34 1 (Value.slice none 0 0) 0 []]) (v:=Value.agg #[Value.int .i64 a0.vars,(Value.slice none 0 0)]) (c:=[Value.int .i64 a0.vars,(Value.slice none 0 0)]) rfl Tryz.sizeOf26 rfl rfl (zaa rfl (zaa (Ln.one (S68.row_ln (i:=0) rfl)) zad)) (Nat.le_of_ble_eq_true rfl) rfl rfl
  refine FL.act rfl rfl (E.store rfl rfl run71) ?_
  refine FL.nil (FW.seq (FW.region ?_))
  refine FL.v (E.fieldAddr zax k47) ?_
  refine FL.v (E.load rfl (zag Tryz.isAgg3 ((at28.mono i43).now S72.sl) rfl)) ?_
  rcases ifB hp with ⟨cv,hp⟩|⟨cv,hp⟩
  · cases hp
  have hv0:=hoc_b cv
  refine FL.v (E.makeFunc A0 (A2 k47 rfl)) ?_
  obtain ⟨s74,hqF,hp⟩:=bnd hp
  have hcb:∀ {s74:((List (List Int))×Int)} {H78:GH} {w81:World},(fun (s74:((List (List Int))×Int)) (H:GH) (w:World)=>∃ v40:Value,∃ n75:Nat,∃ cs76:List Value,St Ha wa H w [.row 34 1 v40 n75 cs76,.box b62 26 [Value.int .i64 s74.2,v40],.box b29 26 [Value.int .i64 0,(Value.slice none 0 0)],.row 34 1 (Value.slice none 0 0) 0 []]∧Inc H41 H∧Els H (eL eI 1) 1 cs76 s74.1) s74 H78 w81→∀ (v95:Value) (y73:List Int),RSl H78 eI 1 v95 y73→∀ s97,PF.zbS a0 y73 s74=some s97→Calls Tryz.prog 52 (#[v95]++#[Value.pointer (some ⟨b21,0,none⟩),Value.pointer (some (⟨b62,0,none⟩:Addr))]) w81 (AC H78 ((fun (s74:((List (List Int))×Int)) (H:GH) (w:World)=>∃ v40:Value,∃ n75:Nat,∃ cs76:List Value,St Ha wa H w [.row 34 1 v40 n75 cs76,.box b62 26 [Value.int .i64 s74.2,v40],.box b29 26 [Value.int .i64 0,(Value.slice none 0 0)],.row 34 1 (Value.slice none 0 0) 0 []]∧Inc H41 H∧Els H (eL eI 1) 1 cs76 s74.1) s97)):=by
    rintro s74 H78 w81 ⟨v40,n75,cs76,S79,i80,els77⟩ v95 y73 h96 s97 hq97
    unfold PF.zbS at hq97
    have hp:=True.intro
    obtain ⟨R97,hR97⟩:∃ R97:((List (List Int))×Int)→Ending→World→Prop,R97=(fun s97 e w=>∃ H:GH,∃ v98:Value,∃ n99:Nat,∃ csA0:List Value,e=Ending.returned (Value.tuple #[])∧St Ha wa H w [.row 34 1 v98 n99 csA0,.box b62 26 [Value.int .i64 s97.2,v98],.box b29 26 [Value.int .i64 0,(Value.slice none 0 0)],.row 34 1 (Value.slice none 0 0) 0 []]∧Inc H78 H∧Els H (eL eI 1) 1 csA0 s97.1):=⟨_,rfl⟩
    have hc97:Calls Tryz.prog 52 #[v95,Value.pointer (some ⟨b21,0,none⟩),Value.pointer (some (⟨b62,0,none⟩:Addr))] w81 (R97 s97):=by
     clear hp;have hp:=hq97;clear hq97
     refine zah (N:=32) (args:=[v95,Value.pointer (some ⟨b21,0,none⟩),Value.pointer (some (⟨b62,0,none⟩:Addr))]) Tryz.func52 rfl rfl rfl ?_
     refine FW.seq (FW.seq (FW.region ?_))
     refine FL.v (E.fieldAddr zax rfl) ?_
     refine FL.v (E.load rfl (zag Tryz.isAgg3 ((at28.mono (i43.tr i80)).now S79.sl) rfl)) ?_
     refine FL.v (E.fieldAddr zan rfl) ?_
     refine FL.v (E.load rfl (zag Tryz.isAgg24 ((at28.mono (i43.tr i80)).now S79.sl) rfl)) ?_
     refine FL.v (E.move (v:=v95) rfl) ?_
     obtain ⟨rA2,hrA3,hp⟩:=bnd hp
     refine FL.call rfl rfl rfl (E.call Tryz.call53 (A3 rfl rfl rfl)) (zem S79.sl a0.vars v0_1 a0.clauses (p0_1.mono ((i27.tr i43).tr i80)) v95 y73 h96 hrA3) ?_
     rintro e wA4 ⟨rfl,rA5⟩
     refine ⟨_,rfl,?_⟩
     have SA6:=S79.call rA5
     refine FL.v (E.not rfl) ?_
     refine FL.nil ?_
     rcases ifB hp with ⟨cA7,hp⟩|⟨cA7,hp⟩
     ·
      refine FW.condT rfl cA7 ?_
      refine FW.ret ?_
      obtain rfl:=Option.some.inj hp
      exact ⟨.inr rfl,res0 rfl (by rw [hR97];exact ⟨_,_,_,_,rfl,SA6,(Inc.rfl _),els77⟩)⟩
     ·
      refine FW.condF rfl cA7 ?_
      refine FW.skip (FW.seq (FW.seq (FW.region ?_)))
      refine FL.v (E.move (v:=v95) rfl) ?_
      refine FL.v (E.lenP te34 rfl h96) ?_
      refine FL.v (E.move (v:=Value.int .i64 0) rfl) ?_
      refine FL.nil ?_
      obtain ⟨qA9,hq,hp⟩:=bndR hp
      refine FW.block ?_
      refine FW.mono (FW.forL (S:=Unit) (X:=((List (List Int))×Int)) (fun (iA9:Nat) (sA9:Unit) f w=>∃ H:GH,St Ha wa H w [.row 34 1 v40 n75 cs76,.box b62 26 [Value.int .i64 s74.2,v40],.box b29 26 [Value.int .i64 0,(Value.slice none 0 0)],.row 34 1 (Value.slice none 0 0) 0 []]∧Inc H78 H∧f 14=Value.int .i64 ((iA9:Nat):Int)∧f 0=v95∧f 1=Value.pointer (some ⟨b21,0,none⟩)∧f 2=Value.pointer (some (⟨b62,0,none⟩:Addr))∧f 13=Value.int .i64 (len y73)) (fun q e f w=>match q with|.go sA9=>e=Exit.exit 0∧(∃ H:GH,St Ha wa H w [.row 34 1 v40 n75 cs76,.box b62 26 [Value.int .i64 s74.2,v40],.box b29 26 [Value.int .i64 0,(Value.slice none 0 0)],.row 34 1 (Value.slice none 0 0) 0 []]∧Inc H78 H∧f 0=v95∧f 2=Value.pointer (some (⟨b62,0,none⟩:Addr)))|.rt x=>((e=Exit.ret)∧(fun e f w=>(e=Exit.normal∨e=Exit.ret)∧∀ a,Fr (δ:=[]) 32 a f→∃ v,(results Tryz.f52 a.tmps).run Tryz.prog w=.ok v w∧R97 x (.returned v) w) e f w)) hq ⟨_,SA6,(Inc.rfl _),rfl,rfl,rfl,rfl,rfl⟩ ?_ ?_) ?_
      ·
       clear hp hq
       rintro iA9 yA8 sA9 fAe wAd ⟨HAa,SAb,iAc,kAf,kAg,kAh,kAi,kAj⟩ hxA9 oAT hp
       refine FW.seq (FW.region ?_)
       refine FL.v (E.lssT kAf kAj (zay hxA9)) ?_
       refine FL.nil (FW.seq ?_)
       refine FW.condT rfl rfl ?_
       refine FW.skip (FW.seq (FW.block (FW.seq (FW.region ?_))))
       refine FL.v (E.move kAf) ?_
       refine FL.v (E.assign (v:=Value.int .i64 ((iA9:Nat):Int)) rfl) ?_
       refine FL.nil (FW.seq ?_)
       obtain ⟨rAn,hrAo,hp⟩:=bnd hp
       obtain ⟨rAC,hrAD,hp⟩:=bnd hp
       refine FW.drawB (Sl HAa) (fun f w=>∃ H:GH,St Ha wa H w [.row 34 1 v40 n75 cs76,.box b62 26 [Value.int .i64 s74.2,v40],.box b29 26 [Value.int .i64 0,(Value.slice none 0 0)],.row 34 1 (Value.slice none 0 0) 0 []]∧Inc HAa H∧f 0=v95∧f 1=Value.pointer (some ⟨b21,0,none⟩)∧f 2=Value.pointer (some (⟨b62,0,none⟩:Addr))∧f 13=Value.int .i64 (len y73)∧f 14=Value.int .i64 ((iA9:Nat):Int)∧f 24=Value.bool rAC) (by kernel_rfl) SAb.sl ?_ ?_
       ·
        intro wAk rAl
        have SAm:=SAb.call rAl
        refine FB.t (i:=0) (bs 8 1) rfl (SP.nil SAm.sl) rfl (fun w' hw'=>(E.fieldAddr zax kAh)) ?_
        refine FB.t (i:=1) (bs 8 3) rfl (SP.nil SAm.sl) rfl (fun w' hw'=>(E.load rfl (zag Tryz.isAgg3 ((at28.mono ((i43.tr i80).tr iAc)).now hw') rfl))) ?_
        refine FB.t (i:=2) (bs 8 7) rfl (SP.nil SAm.sl) rfl (fun w' hw'=>(E.fieldAddr zan kAh)) ?_
        refine FB.t (i:=3) (bs 8 15) rfl (SP.nil SAm.sl) rfl (fun w' hw'=>(E.load rfl (zag Tryz.isAgg24 ((at28.mono ((i43.tr i80).tr iAc)).now hw') rfl))) ?_
        refine FB.t (i:=4) (bs 8 31) rfl (SP.nil SAm.sl) rfl (fun w' hw'=>(E.move kAg)) ?_
        refine FB.t (i:=5) (bs 8 63) rfl (SP.nil SAm.sl) rfl (fun w' hw'=>(E.move (v:=Value.int .i64 ((iA9:Nat):Int)) rfl)) ?_
        refine FB.all1 (i:=6) (by kernel_rfl) ?_
        ·
         refine FC.call (l':=(bs 8 127)) rfl (by kernel_rfl) rfl rfl rfl (E.call Tryz.call54 (A2 rfl rfl)) (w_impl_without_int SAm.sl v95 y73 (h96.mono iAc) ((iA9:Nat):Int) hrAo) ?_
         rintro e wAq ⟨HAp,vAt,nAu,csAv,rfl,rAs,elsAw⟩
         refine ⟨_,rfl,?_⟩
         have elsAw:=elsAw.mono (up_le SAm.size)
         have SAr:=SAm.join (l':=[.row 3 1 vAt nAu csAv,.row 34 1 v40 n75 cs76,.box b62 26 [Value.int .i64 s74.2,v40],.box b29 26 [Value.int .i64 0,(Value.slice none 0 0)],.row 34 1 (Value.slice none 0 0) 0 []]) rAs rfl
         refine ⟨(SP.nil (Sl.of_inc rAs.run.inc SAr.sl)),?_⟩
         refine FB.all1 (i:=7) (by kernel_rfl) ?_
         ·
          obtain ⟨HAx,SAy,iAz,hAA,nvAB⟩:=SAr.sealRowU (i:=0) (l':=[.row 34 1 v40 n75 cs76,.box b62 26 [Value.int .i64 s74.2,v40],.box b29 26 [Value.int .i64 0,(Value.slice none 0 0)],.row 34 1 (Value.slice none 0 0) 0 []]) rfl elsAw (by decide) rfl
          refine FC.call (l':=(bs 8 255)) rfl (by kernel_rfl) rfl rfl rfl (E.call Tryz.call53 (A3 rfl rfl rfl)) (zem SAy.sl a0.vars v0_1 a0.clauses (p0_1.mono (((((i27.tr i43).tr i80).tr iAc).tr rAs.run.inc).tr iAz)) vAt rAn (hAA.mono upI) hrAD) ?_
          rintro e wAE ⟨rfl,rAF⟩
          refine ⟨_,rfl,?_⟩
          have rAF:=Run.lend iAz SAr.sl rAF
          have SAG:=SAr.call rAF
          refine ⟨(SP.nil (Sl.of_inc rAs.run.inc SAG.sl)),?_⟩
          exact FB.done (by kernel_rfl) ⟨_,(SAG.sel [1,2,3,4] (by decide) rfl),rAs.run.inc,kAg,kAh,kAi,kAj,kAf,rfl⟩
       ·
        rintro fAL wAK ⟨HAH,SAI,iAJ,kAM,kAN,kAO,kAP,kAQ,kAR⟩
        rcases ifB hp with ⟨cAS,hp⟩|⟨cAS,hp⟩
        ·
         refine FW.condT kAR cAS ?_
         refine FW.ret ?_
         obtain rfl:=Option.some.inj hp
         exact ⟨nofun,rfl,⟨.inr rfl,res0 rfl (by rw [hR97];exact ⟨_,_,_,_,rfl,SAI,(iAc.tr iAJ),(els77.mono (iAc.tr iAJ))⟩)⟩⟩
        ·
         refine FW.condF kAR cAS ?_
         refine FW.skip (FW.region ?_)
         refine FL.v (E.add kAQ rfl) ?_
         refine FL.v (E.move (v:=Value.int .i64 (wr (((iA9:Nat):Int) + 1))) rfl) ?_
         refine FL.nil ?_
         obtain rfl:=Option.some.inj hp
         exact ⟨rfl,⟨_,SAI,(iAc.tr iAJ),(zas rfl (zao hxA9) (h96.mono (iAc.tr iAJ)).le),kAM,kAN,kAO,kAP⟩⟩
      ·
       clear hp hq
       rintro sA9 fBo wBn ⟨HBk,SBl,iBm,kBp,kBq,kBr,kBs,kBt⟩
       refine FW.seq (FW.region ?_)
       refine FL.v (E.lss kBp kBt) ?_
       refine FL.nil (FW.seq ?_)
       refine FW.condF rfl zaz ?_
       refine FW.exit ?_
       exact ⟨nofun,rfl,⟨_,SBl,iBm,kBq,kBs⟩⟩
      ·
       clear hq
       intro e fAY wAX hD
       rcases qA9 with sA9|xA9
       ·
        obtain ⟨rfl,hD⟩:=hD
        obtain ⟨HAU,SAV,iAW,kAZ,kB0⟩:=hD
        replace hp:=el_go hp
        refine FW.region ?_
        refine FL.v (E.fieldAddr zan kB0) ?_
        refine FL.v (E.load rfl (zag Tryz.isAgg24 (SAV.box_now (i:=1) rfl) rfl)) ?_
        refine FL.v (E.move kAZ) ?_
        obtain ⟨vB1,wB2,runB3,SB4⟩:=SAV.buildSlice (P:=Tryz.prog) te24 [v95] (parts:=#[(0,v95)]) (cells:=[v95]) rfl (zar (zaE h96.cells) zal) (zaq h96.cells zak) (zaa h96.one zad) (Nat.le_of_ble_eq_true rfl)
        have elsB5:Els HAU (eL eI 1) 1 [v95] [y73]:=(Els.snoc (H:=HAU) (E:=(eL eI 1)) (k:=1) (c:=[v95]) (x:=y73) Els.nil rfl ⟨_,rfl,(h96.mono iAW)⟩)
        refine FL.v (E.buildSlice (B1 rfl) runB3) ?_
        obtain ⟨xsB6,hzB7,hp⟩:=bnd hp
        obtain ⟨vB8,wBb,nB9,csBa,runBc,SBd,elsBe,ceBf⟩:=SB4.appendO (P:=Tryz.prog) te24 (i:=1) (j:=0) rfl (els77.mono iAW) rfl elsB5 hzB7
        have SBd:St Ha wa HAU wBb [.row 34 1 vB1 1 [v95],.row 34 1 vB8 nB9 csBa,.box b62 26 [Value.int .i64 s74.2,v40],.box b29 26 [Value.int .i64 0,(Value.slice none 0 0)],.row 34 1 (Value.slice none 0 0) 0 []]:=SBd
        have SBg:St Ha wa HAU wBb [.row 34 1 vB8 nB9 csBa,.box b62 26 [Value.int .i64 s74.2,v40],.box b29 26 [Value.int .i64 0,(Value.slice none 0 0)],.row 34 1 (Value.slice none 0 0) 0 []]:=SBd.drop 0
        refine FL.v (E.append rfl rfl runBc) ?_
        refine FL.v (E.fieldAddr zan kB0) ?_
        obtain ⟨wBh,runBi,SBj⟩:=SBg.store (P:=Tryz.prog) (t:=24) (i:=1) (j:=1) (cs':=[Value.int .i64 s74.2,vB8]) (l':=[.row 34 1 vB8 nB9 csBa,.box b62 26 [Value.int .i64 s74.2,vB8],.box b29 26 [Value.int .i64 0,(Value.slice none 0 0)],.row 34 1 (Value.slice none 0 0) 0 []]) (v:=vB8) (c:=[vB8]) rfl Tryz.sizeOf24 (Ln.cells (SBg.row_ln (i:=0) rfl)) rfl (zaa (Ln.one (SBg.row_ln (i:=0) rfl)) zad) (Nat.le_of_ble_eq_true rfl) rfl rfl
        refine FL.act rfl rfl (E.store rfl rfl runBi) ?_
        refine FL.nil ?_
        obtain rfl:=Option.some.inj hp
        exact ⟨.inl rfl,res0 rfl (by rw [hR97];exact ⟨_,_,_,_,rfl,SBj,iAW,elsBe⟩)⟩
       ·
        obtain ⟨he,hL⟩:=hD
        replace hp:=el_rt hp
        obtain rfl:=Option.some.inj hp
        subst he
        exact hL
    refine hc97.mono ?_
    rintro e w hQ
    rw [hR97] at hQ
    obtain ⟨H,u0,u1,u2,rfl,q0,q1,q2⟩:=hQ
    exact ⟨rfl,H,q1,u0,u1,u2,q0,(i80.tr q1),q2⟩
  refine FL.call rfl rfl rfl (E.call Tryz.call51 (A4 rfl rfl rfl rfl)) (w_allC (J:=(fun (s74:((List (List Int))×Int)) (H:GH) (w:World)=>∃ v40:Value,∃ n75:Nat,∃ cs76:List Value,St Ha wa H w [.row 34 1 v40 n75 cs76,.box b62 26 [Value.int .i64 s74.2,v40],.box b29 26 [Value.int .i64 0,(Value.slice none 0 0)],.row 34 1 (Value.slice none 0 0) 0 []]∧Inc H41 H∧Els H (eL eI 1) 1 cs76 s74.1)) (step:=PF.zbS a0) (g:=52) (cb:=#[Value.pointer (some ⟨b21,0,none⟩),Value.pointer (some (⟨b62,0,none⟩:Addr))]) (fun h=>let ⟨v40,n75,cs76,g0,g1,g2⟩:=h;g0.sl) (fun h r=>let ⟨v40,n75,cs76,g0,g1,g2⟩:=h;⟨v40,n75,cs76,g0.call r,g1.tr r.inc,g2.mono r.inc⟩) Tryz.call52 hcb a0.vars.toNat a0.vars 1 [] (.slice none 0 0) _ s74 H41 _ (by omega) (by omega) (by omega) (by simp;omega) ⟨_,_,_,(S72.sel [0,1,3,4] (by decide) rfl),(Inc.rfl _),(els69.mono upI)⟩ (RSl.nil _ _ _) hqF) ?_
  rintro e wBC ⟨rfl,HBz,_,v40,n75,cs76,SBA,iBB,els77⟩
  refine ⟨_,rfl,?_⟩
  refine FL.nil (FW.seq (FW.region ?_))
  refine FL.v (E.fieldAddr zan rfl) ?_
  refine FL.v (E.load rfl (zag Tryz.isAgg24 (SBA.box_now (i:=1) rfl) rfl)) ?_
  obtain ⟨rBG,hrBH,hp⟩:=bnd hp
  refine FL.call rfl rfl rfl (E.call Tryz.call55 (A2 rfl rfl)) (zen (L:=[.box b62 26 [Value.int .i64 s74.2,v40],.box b29 26 [Value.int .i64 0,(Value.slice none 0 0)],.row 34 1 (Value.slice none 0 0) 0 []]) SBA s74.1 els77 (Value.func (.func 56) #[] #[]) (fun x0 x1=>PF.zaW x0 x1) (fun H2 w2 hi2 hs2 x0 y0 z0 x1 y1 z1 r hr=>⟨56,#[],rfl,Tryz.call56,zep hs2 y0 x0 z0 y1 x1 z1  hr⟩) hrBH) ?_
  rintro e wBJ ⟨HBI,csBM,rfl,⟨SBK,iBL⟩,elsBN⟩
  refine ⟨_,rfl,?_⟩
  have SBK:St Ha wa HBI wBJ [.row 34 1 v40 n75 csBM,.box b62 26 [Value.int .i64 s74.2,v40],.box b29 26 [Value.int .i64 0,(Value.slice none 0 0)],.row 34 1 (Value.slice none 0 0) 0 []]:=SBK
  refine FL.nil (FW.seq (FW.seq (FW.region ?_)))
  refine FL.v (E.fieldAddr zan rfl) ?_
  refine FL.v (E.load rfl (zag Tryz.isAgg24 (SBK.box_now (i:=1) rfl) rfl)) ?_
  refine FL.v (E.lenO te24 rfl SBK (i:=0) rfl elsBN (by decide)) ?_
  refine FL.v (E.gtr rfl rfl) ?_
  refine FL.nil ?_
  rcases ifB hp with ⟨cBO,hp⟩|⟨cBO,hp⟩
  ·
   refine FW.condT rfl cBO ?_
   refine FW.seq (FW.region ?_)
   refine FL.v (E.build (B0) (run_build _ 26 #[] #[Value.int .i64 0,Value.slice none 0 0] (by rfl))) ?_
   have SBP:=SBK.nil 34 1
   have elsBQ:Els (up wa.heap.size HBI) (eL eI 1) 1 [] []:=Els.nil
   obtain ⟨wBR,runBS,SBT⟩:=SBP.store0 (P:=Tryz.prog) (t:=26) (i:=3) (cs':=[Value.int .i64 0,(Value.slice none 0 0)]) (l':=[.row 34 1 (Value.slice none 0 0) 0 [],.row 34 1 v40 n75 csBM,.box b62 26 [Value.int .i64 s74.2,v40],.box b29 26 [Value.int .i64 0,(Value.slice none 0 0)],.row 34 1 (Value.slice none 0 0) 0 []]) (v:=Value.agg #[Value.int .i64 0,(Value.slice none 0 0)]) (c:=[Value.int .i64 0,(Value.slice none 0 0)]) rfl Tryz.sizeOf26 rfl rfl (zaa rfl (zaa (Ln.one (SBP.row_ln (i:=0) rfl)) zad)) (Nat.le_of_ble_eq_true rfl) rfl rfl
   refine FL.act rfl rfl (E.store k48 rfl runBS) ?_
   refine FL.v (E.assign (v:=Value.bool false) rfl) ?_
   refine FL.nil ?_
   refine FW.ret ?_
   obtain ⟨HBU,SBV,iBW,nsBZ,nvBY⟩:=SBT.sealRowN (i:=0) (l':=[.row 34 1 v40 n75 csBM,.box b62 26 [Value.int .i64 s74.2,v40],.box b29 26 [Value.int .i64 0,(Value.slice none 0 0)],.row 34 1 (Value.slice none 0 0) 0 []]) rfl elsBQ (show (bl []).Nodup from List.nodup_nil) (by decide) rfl
   have hBX:=nsBZ.rsl
   obtain rfl:=Option.some.inj hp
   exact ⟨.inr rfl,resC2 rfl k48 (zaA Tryz.isAgg26 Tryz.sizeOf26 (SBV.box_now (i:=2) rfl) rfl) rfl ⟨_,_,rfl,SBV.run,(hBX.mono upI)⟩⟩
  ·
   refine FW.condF rfl cBO ?_
   refine FW.skip (FW.seq (FW.region ?_))
   refine FL.v (E.load rfl (zat Tryz.isAgg26 Tryz.sizeOf26 (SBK.box_now (i:=1) rfl) rfl)) ?_
   obtain ⟨wC0,runC1,SC2⟩:=SBK.store0 (P:=Tryz.prog) (t:=26) (i:=2) (cs':=[Value.int .i64 s74.2,v40]) (l':=[.row 34 1 v40 n75 csBM,.box b62 26 [Value.int .i64 s74.2,v40],.box b29 26 [Value.int .i64 s74.2,v40],.row 34 1 (Value.slice none 0 0) 0 []]) (v:=Value.agg #[Value.int .i64 s74.2,v40]) (c:=[Value.int .i64 s74.2,v40]) rfl Tryz.sizeOf26 rfl rfl (zaa rfl (zaa (Ln.one (SBK.row_ln (i:=0) rfl)) zad)) (Nat.le_of_ble_eq_true rfl) rfl rfl
   refine FL.act rfl rfl (E.store k48 rfl runC1) ?_
   refine FL.v (E.assign (v:=Value.bool true) rfl) ?_
   refine FL.nil ?_
   refine FW.ret ?_
   obtain ⟨HC3,SC4,iC5,hC6⟩:=SC2.sealRow (i:=0) (l':=[.box b62 26 [Value.int .i64 s74.2,v40],.box b29 26 [Value.int .i64 s74.2,v40],.row 34 1 (Value.slice none 0 0) 0 []]) rfl elsBN (by decide) rfl
   obtain rfl:=Option.some.inj hp
   exact ⟨.inr rfl,resC2 rfl k48 (zaA Tryz.isAgg26 Tryz.sizeOf26 (SC4.box_now (i:=1) rfl) rfl) rfl ⟨_,_,rfl,SC4.run,hC6⟩⟩

theorem w_spec_l2Key {Ha:GH} {wa:World} (hs:Sl Ha wa) (a0:Int) :
  Calls Tryz.prog 215 #[Value.int .i64 a0] wa (Sc Ha wa (Value.int .i64 (PF.zaK a0))):=by
 obtain ⟨r,hp⟩:∃ r,(PF.zaK a0)=r:=⟨_,rfl⟩
 rw [hp]
 unfold PF.zaK at hp
 have S0:=St.init hs
 refine zah (N:=10) (args:=[Value.int .i64 a0]) Tryz.func215 rfl rfl rfl ?_
 refine FW.seq (FW.region ?_)
 refine FL.v (E.assign (v:=Value.int .i64 0) rfl) ?_
 refine FL.nil (FW.seq (FW.seq (FW.region ?_)))
 refine FL.v (E.move (v:=Value.int .i64 a0) rfl) ?_
 refine FL.v (E.lss rfl rfl) ?_
 refine FL.nil ?_
 rcases ifT hp with ⟨c21,hp⟩|⟨c21,hp⟩
 ·
  refine FW.condT rfl c21 ?_
  refine FW.seq (FW.region ?_)
  refine FL.v (E.move (v:=Value.int .i64 a0) rfl) ?_
  refine FL.v (E.mul rfl rfl) ?_
  refine FL.v (E.add rfl rfl) ?_
  refine FL.v (E.assign (v:=Value.int .i64 (wr ((wr ((-2) * a0)) + 1))) rfl) ?_
  refine FL.nil ?_
  refine FW.ret ?_
  obtain rfl:=hp
  exact ⟨.inr rfl,res1 rfl rfl ⟨rfl,S0.back⟩⟩
 ·
  refine FW.condF rfl c21 ?_
  refine FW.skip (FW.seq (FW.region ?_))
  refine FL.v (E.move (v:=Value.int .i64 a0) rfl) ?_
  refine FL.v (E.mul rfl rfl) ?_
  refine FL.v (E.assign (v:=Value.int .i64 (wr (2 * a0))) rfl) ?_
  refine FL.nil ?_
  refine FW.ret ?_
  obtain rfl:=hp
  exact ⟨.inr rfl,res1 rfl rfl ⟨rfl,S0.back⟩⟩

set_option maxHeartbeats 4000000 in
theorem zeq {Ha:GH} {wa:World} (hs:Sl Ha wa) (v0:Value) (a0:List Int) (p0:RSl Ha eI 1 v0 a0) (v1:Value) (a1:List Int) (p1:RSl Ha eI 1 v1 a1) {r:Bool} (hp:(PF.zck a0 a1)=some r) :
  Calls Tryz.prog 162 #[v0,v1] wa (Sc Ha wa (Value.bool r)):=by
 unfold PF.zck at hp
 have S0:=St.init hs
 refine zah (N:=42) (args:=[v0,v1]) Tryz.func162 rfl rfl rfl ?_
 refine FW.seq (FW.region ?_)
 refine FL.v (E.assign (v:=Value.bool false) rfl) ?_
 refine FL.nil (FW.seq (FW.seq (FW.region ?_)))
 refine FL.v (E.move (v:=v0) rfl) ?_
 refine FL.v (E.lenP te34 rfl p0) ?_
 refine FL.v (E.move (v:=v1) rfl) ?_
 refine FL.v (E.lenP te34 rfl p1) ?_
 refine FL.v (E.neq rfl rfl) ?_
 refine FL.nil ?_
 rcases ifB hp with ⟨c21,hp⟩|⟨c21,hp⟩
 ·
  refine FW.condT rfl c21 ?_
  refine FW.seq (FW.region ?_)
  refine FL.v (E.move (v:=v0) rfl) ?_
  refine FL.v (E.lenP te34 rfl p0) ?_
  refine FL.v (E.move (v:=v1) rfl) ?_
  refine FL.v (E.lenP te34 rfl p1) ?_
  refine FL.v (E.lss rfl rfl) ?_
  refine FL.v (E.assign (v:=Value.bool (decide ((len a0) < (len a1)))) rfl) ?_
  refine FL.nil ?_
  refine FW.ret ?_
  obtain rfl:=Option.some.inj hp
  exact ⟨.inr rfl,res1 rfl rfl ⟨rfl,S0.back⟩⟩
 ·
  refine FW.condF rfl c21 ?_
  refine FW.skip (FW.seq (FW.seq (FW.region ?_)))
  refine FL.v (E.assign (v:=Value.int .i64 0) rfl) ?_
  refine FL.nil ?_
  obtain ⟨q23,hq,hp⟩:=bndR hp
  refine FW.block ?_
  refine FW.mono (FW.forL (S:=Unit) (X:=Bool) (fun (i23:Nat) (s23:Unit) f w=>∃ H:GH,St Ha wa H w []∧Inc Ha H∧f 5=Value.int .i64 ((i23:Nat):Int)∧f 0=v0∧f 1=v1) (fun q e f w=>match q with|.go s23=>e=Exit.exit 0∧(∃ H:GH,St Ha wa H w []∧Inc Ha H)|.rt x=>((e=Exit.ret)∧(fun e f w=>(e=Exit.normal∨e=Exit.ret)∧∀ a,Fr (δ:=[]) 42 a f→∃ v,(results Tryz.f162 a.tmps).run Tryz.prog w=.ok v w∧(Sc Ha wa (Value.bool x)) (.returned v) w) e f w)) hq ⟨_,S0,(Inc.rfl _),rfl,rfl,rfl⟩ ?_ ?_) ?_
  ·
   clear hp hq
   rintro i23 y22 s23 f73 w72 ⟨H69,S70,i71,k74,k75,k76⟩ hx23 oAe hp
   refine FW.seq (FW.seq (FW.region ?_))
   refine FL.v (E.move k74) ?_
   refine FL.v (E.move k75) ?_
   refine FL.v (E.lenP te34 rfl p0) ?_
   refine FL.v (E.lssT rfl rfl (zay hx23)) ?_
   refine FL.nil ?_
   refine FW.condT rfl rfl ?_
   refine FW.skip (FW.seq (FW.block (FW.seq ?_)))
   refine FW.draw (fun w'=>Run w72.heap.size H69 w72 H69 w') (by kernel_rfl) (by kernel_rfl) (zaD S70.sl) ?_
   refine FD.val rfl rfl rfl (fun w' hw'=>(E.move k75)) ?_
   refine FD.val rfl rfl rfl (fun w' hw'=>(E.move k74)) ?_
   obtain ⟨p78,cs79,pt80,l81,at82,rel83⟩:=p0.at (zap hx23)
   obtain rfl:=zam rel83
   refine FD.val rfl rfl rfl (fun w' hw'=>(E.indexAddr te34 rfl rfl pt80)) ?_
   refine FD.val rfl rfl rfl (fun w' hw'=>(E.load rfl (zaf Tryz.isAgg3 ((at82.mono i71).now (S70.call hw').sl) rfl))) ?_
   refine FD.val rfl rfl rfl (fun w' hw'=>(E.move k76)) ?_
   refine FD.val rfl rfl rfl (fun w' hw'=>(E.move k74)) ?_
   obtain ⟨x90,hx91,hp⟩:=bnd hp
   obtain ⟨p84,cs85,pt86,l87,at88,rel89⟩:=p1.at hx91
   obtain rfl:=zam rel89
   refine FD.val rfl rfl rfl (fun w' hw'=>(E.indexAddr te34 rfl rfl pt86)) ?_
   refine FD.val rfl rfl rfl (fun w' hw'=>(E.load rfl (zaf Tryz.isAgg3 ((at88.mono i71).now (S70.call hw').sl) rfl))) ?_
   refine FD.val rfl rfl rfl (fun w' hw'=>(E.neq rfl rfl)) ?_
   refine FD.nil ?_
   intro w92 r94
   have S93:=S70.call r94
   rcases ifB hp with ⟨c95,hp⟩|⟨c95,hp⟩
   ·
    refine FW.condT rfl c95 ?_
    refine FW.seq ?_
    refine FW.draw (fun w'=>Run w92.heap.size H69 w92 H69 w') (by kernel_rfl) (by kernel_rfl) (zaD S93.sl) ?_
    refine FD.val rfl rfl rfl (fun w' hw'=>(E.move k75)) ?_
    refine FD.val rfl rfl rfl (fun w' hw'=>(E.move k74)) ?_
    obtain ⟨p97,cs98,pt99,lA0,atA1,relA2⟩:=p0.at (zap hx23)
    obtain rfl:=zam relA2
    refine FD.val rfl rfl rfl (fun w' hw'=>(E.indexAddr te34 rfl rfl pt99)) ?_
    refine FD.val rfl rfl rfl (fun w' hw'=>(E.load rfl (zaf Tryz.isAgg3 ((atA1.mono i71).now (S93.call hw').sl) rfl))) ?_
    refine FD.call rfl rfl rfl (fun w' hw'=>(E.call Tryz.call215 (A1 rfl))) (fun w' hw'=>Calls.cls hw' (w_spec_l2Key (S93.call hw').sl y22)) ?_
    refine FD.val rfl rfl rfl (fun w' hw'=>(E.move k76)) ?_
    refine FD.val rfl rfl rfl (fun w' hw'=>(E.move k74)) ?_
    obtain ⟨xA9,hxAa,hp⟩:=bnd hp
    obtain ⟨pA3,csA4,ptA5,lA6,atA7,relA8⟩:=p1.at hxAa
    obtain rfl:=zam relA8
    refine FD.val rfl rfl rfl (fun w' hw'=>(E.indexAddr te34 rfl rfl ptA5)) ?_
    refine FD.val rfl rfl rfl (fun w' hw'=>(E.load rfl (zaf Tryz.isAgg3 ((atA7.mono i71).now (S93.call hw').sl) rfl))) ?_
    refine FD.call rfl rfl rfl (fun w' hw'=>(E.call Tryz.call215 (A1 rfl))) (fun w' hw'=>Calls.cls hw' (w_spec_l2Key (S93.call hw').sl xA9)) ?_
    refine FD.val rfl rfl rfl (fun w' hw'=>(E.lss rfl rfl)) ?_
    refine FD.val rfl rfl rfl (fun w' hw'=>(E.assign (v:=Value.bool (decide ((PF.zaK y22) < (PF.zaK xA9)))) rfl)) ?_
    refine FD.nil ?_
    intro wAb rAd
    have SAc:=S93.call rAd
    refine FW.ret ?_
    obtain rfl:=Option.some.inj hp
    exact ⟨nofun,rfl,⟨.inr rfl,res1 rfl rfl ⟨rfl,SAc.back⟩⟩⟩
   ·
    refine FW.condF rfl c95 ?_
    refine FW.skip (FW.region ?_)
    refine FL.v (E.move k74) ?_
    refine FL.v (E.add rfl rfl) ?_
    refine FL.v (E.assign (v:=Value.int .i64 (wr (((i23:Nat):Int) + 1))) rfl) ?_
    refine FL.nil ?_
    obtain rfl:=Option.some.inj hp
    exact ⟨rfl,⟨_,S93,i71,(zas rfl (zao hx23) (p0.mono i71).le),k75,k76⟩⟩
  ·
   clear hp hq
   rintro s23 fAo wAn ⟨HAk,SAl,iAm,kAp,kAq,kAr⟩
   refine FW.seq (FW.seq (FW.region ?_))
   refine FL.v (E.move kAp) ?_
   refine FL.v (E.move kAq) ?_
   refine FL.v (E.lenP te34 rfl p0) ?_
   refine FL.v (E.lss rfl rfl) ?_
   refine FL.nil ?_
   refine FW.condF rfl zaz ?_
   refine FW.exit ?_
   exact ⟨nofun,rfl,⟨_,SAl,iAm⟩⟩
  ·
   clear hq
   intro e fAj wAi hD
   rcases q23 with s23|x23
   ·
    obtain ⟨rfl,hD⟩:=hD
    obtain ⟨HAf,SAg,iAh⟩:=hD
    replace hp:=el_go hp
    refine FW.seq (FW.region ?_)
    refine FL.v (E.assign (v:=Value.bool false) rfl) ?_
    refine FL.nil ?_
    refine FW.ret ?_
    obtain rfl:=Option.some.inj hp
    exact ⟨.inr rfl,res1 rfl rfl ⟨rfl,SAg.back⟩⟩
   ·
    obtain ⟨he,hL⟩:=hD
    replace hp:=el_rt hp
    obtain rfl:=Option.some.inj hp
    subst he
    exact hL

theorem zdZ {Ha:GH} {wa:World} (hs:Sl Ha wa) (v0:Value) (a0:List (List Int)) (p0:RSl Ha (eL eI 1) 1 v0 a0) (v1:Value) (a1:List Int) (p1:RSl Ha eI 1 v1 a1) {r:Int} (hp:(PF.zbU a0 a1)=some r) :
  Calls Tryz.prog 198 #[v0,v1] wa (Sc Ha wa (Value.int .i64 r)):=by
 unfold PF.zbU at hp
 have S0:=St.init hs
 refine zah (N:=27) (args:=[v0,v1]) Tryz.func198 rfl rfl rfl ?_
 refine FW.seq (FW.region ?_)
 refine FL.v (E.assign (v:=Value.int .i64 0) rfl) ?_
 refine FL.nil (FW.seq (FW.region ?_))
 refine FL.v (E.move (v:=v0) rfl) ?_
 refine FL.v (E.lenP te24 rfl p0) ?_
 refine FL.v (E.assign (v:=Value.int .i64 0) rfl) ?_
 refine FL.v (E.assign (v:=Value.int .i64 (len a0)) rfl) ?_
 refine FL.nil (FW.seq ?_)
 obtain ⟨q21,hq,hp⟩:=bndR hp
 refine FW.block ?_
 refine FW.mono (FW.iter (S:=(Int×Int)) (X:=Empty) (fun (s21:(Int×Int)) f w=>∃ H:GH,St Ha wa H w []∧Inc Ha H∧f 0=v0∧f 1=v1∧f 5=Value.int .i64 s21.1∧f 6=Value.int .i64 s21.2) (fun (q:Rs (Int×Int) Empty) e f w=>match q with|.go s21=>e=Exit.exit 0∧(∃ H:GH,St Ha wa H w []∧Inc Ha H∧f 5=Value.int .i64 s21.1)|.rt x=>x.elim) hq ⟨_,S0,(Inc.rfl _),rfl,rfl,rfl,rfl⟩ ?_) ?_
 ·
  clear hp hq
  rintro s21 f52 w51 ⟨H48,S49,i50,k53,k54,k55,k56⟩ o74 hp
  refine FW.seq (FW.seq (FW.region ?_))
  refine FL.v (E.move k55) ?_
  refine FL.v (E.move k56) ?_
  refine FL.v (E.lss rfl rfl) ?_
  refine FL.nil ?_
  rcases ifB hp with ⟨c57,hp⟩|⟨c57,hp⟩
  ·
   refine FW.condT rfl c57 ?_
   refine FW.skip (FW.block (FW.seq (FW.region ?_)))
   refine FL.v (E.move k55) ?_
   refine FL.v (E.move k56) ?_
   refine FL.v (E.add rfl rfl) ?_
   refine FL.v (E.quo rfl rfl (by decide)) ?_
   refine FL.v (E.assign (v:=Value.int .i64 (wr ((wr (s21.1 + s21.2)).tdiv 2))) rfl) ?_
   refine FL.nil (FW.seq (FW.region ?_))
   refine FL.v (E.move k53) ?_
   refine FL.v (E.move (v:=Value.int .i64 (wr ((wr (s21.1 + s21.2)).tdiv 2))) rfl) ?_
   obtain ⟨x64,hx65,hp⟩:=bnd hp
   obtain ⟨p58,cs59,pt60,l61,at62,rel63⟩:=p0.at hx65
   obtain ⟨v66,rfl,h67⟩:=zau rel63
   refine FL.v (E.indexAddr te24 rfl rfl pt60) ?_
   refine FL.v (E.load rfl (zaf Tryz.isAgg34 ((at62.mono i50).now S49.sl) rfl)) ?_
   refine FL.v (E.move k54) ?_
   obtain ⟨r68,hr69,hp⟩:=bnd hp
   refine FL.call rfl rfl rfl (E.call Tryz.call162 (A2 rfl rfl)) (zeq S49.sl v66 x64 (h67.mono i50) v1 a1 (p1.mono i50) hr69) ?_
   rintro e w70 ⟨rfl,r71⟩
   refine ⟨_,rfl,?_⟩
   have S72:=S49.call r71
   refine FL.nil ?_
   rcases ifB hp with ⟨c73,hp⟩|⟨c73,hp⟩
   ·
    refine FW.condT rfl c73 ?_
    refine FW.region ?_
    refine FL.v (E.move (v:=Value.int .i64 (wr ((wr (s21.1 + s21.2)).tdiv 2))) rfl) ?_
    refine FL.v (E.add rfl rfl) ?_
    refine FL.v (E.assign (v:=Value.int .i64 (wr ((wr ((wr (s21.1 + s21.2)).tdiv 2)) + 1))) rfl) ?_
    refine FL.nil ?_
    obtain rfl:=Option.some.inj hp
    exact ⟨rfl,⟨_,S72,i50,k53,k54,rfl,k56⟩⟩
   ·
    refine FW.condF rfl c73 ?_
    refine FW.region ?_
    refine FL.v (E.move (v:=Value.int .i64 (wr ((wr (s21.1 + s21.2)).tdiv 2))) rfl) ?_
    refine FL.v (E.assign (v:=Value.int .i64 (wr ((wr (s21.1 + s21.2)).tdiv 2))) rfl) ?_
    refine FL.nil ?_
    obtain rfl:=Option.some.inj hp
    exact ⟨rfl,⟨_,S72,i50,k53,k54,k55,rfl⟩⟩
  ·
   refine FW.condF rfl c57 ?_
   refine FW.exit ?_
   obtain rfl:=Option.some.inj hp
   exact ⟨nofun,rfl,⟨_,S49,i50,k55⟩⟩
 ·
  clear hq
  intro e f79 w78 hD
  rcases q21 with s21|x21
  ·
   obtain ⟨rfl,hD⟩:=hD
   obtain ⟨H75,S76,i77,k80⟩:=hD
   replace hp:=el_go hp
   refine FW.seq (FW.region ?_)
   refine FL.v (E.move k80) ?_
   refine FL.v (E.assign (v:=Value.int .i64 s21.1) rfl) ?_
   refine FL.nil ?_
   refine FW.ret ?_
   obtain rfl:=Option.some.inj hp
   exact ⟨.inr rfl,res1 rfl rfl ⟨rfl,S76.back⟩⟩
  ·
   exact x21.elim

set_option maxHeartbeats 4000000 in
theorem w_spec_l1Same {Ha:GH} {wa:World} (hs:Sl Ha wa) (v0:Value) (a0:List Int) (p0:RSl Ha eI 1 v0 a0) (v1:Value) (a1:List Int) (p1:RSl Ha eI 1 v1 a1) {r:Bool} (hp:(PF.zcl a0 a1)=some r) :
  Calls Tryz.prog 199 #[v0,v1] wa (Sc Ha wa (Value.bool r)):=by
 unfold PF.zcl at hp
 have S0:=St.init hs
 refine zah (N:=26) (args:=[v0,v1]) Tryz.func199 rfl rfl rfl ?_
 refine FW.seq (FW.region ?_)
 refine FL.v (E.assign (v:=Value.bool false) rfl) ?_
 refine FL.nil (FW.seq (FW.seq (FW.region ?_)))
 refine FL.v (E.move (v:=v0) rfl) ?_
 refine FL.v (E.lenP te34 rfl p0) ?_
 refine FL.v (E.move (v:=v1) rfl) ?_
 refine FL.v (E.lenP te34 rfl p1) ?_
 refine FL.v (E.neq rfl rfl) ?_
 refine FL.nil ?_
 rcases ifB hp with ⟨c21,hp⟩|⟨c21,hp⟩
 ·
  refine FW.condT rfl c21 ?_
  refine FW.seq (FW.region ?_)
  refine FL.v (E.assign (v:=Value.bool false) rfl) ?_
  refine FL.nil ?_
  refine FW.ret ?_
  obtain rfl:=Option.some.inj hp
  exact ⟨.inr rfl,res1 rfl rfl ⟨rfl,S0.back⟩⟩
 ·
  refine FW.condF rfl c21 ?_
  refine FW.skip (FW.seq (FW.seq (FW.region ?_)))
  refine FL.v (E.assign (v:=Value.int .i64 0) rfl) ?_
  refine FL.nil ?_
  obtain ⟨q23,hq,hp⟩:=bndR hp
  refine FW.block ?_
  refine FW.mono (FW.forL (S:=Unit) (X:=Bool) (fun (i23:Nat) (s23:Unit) f w=>∃ H:GH,St Ha wa H w []∧Inc Ha H∧f 5=Value.int .i64 ((i23:Nat):Int)∧f 0=v0∧f 1=v1) (fun q e f w=>match q with|.go s23=>e=Exit.exit 0∧(∃ H:GH,St Ha wa H w []∧Inc Ha H)|.rt x=>((e=Exit.ret)∧(fun e f w=>(e=Exit.normal∨e=Exit.ret)∧∀ a,Fr (δ:=[]) 26 a f→∃ v,(results Tryz.f199 a.tmps).run Tryz.prog w=.ok v w∧(Sc Ha wa (Value.bool x)) (.returned v) w) e f w)) hq ⟨_,S0,(Inc.rfl _),rfl,rfl,rfl⟩ ?_ ?_) ?_
  ·
   clear hp hq
   rintro i23 y22 s23 f55 w54 ⟨H51,S52,i53,k56,k57,k58⟩ hx23 o78 hp
   refine FW.seq (FW.seq (FW.region ?_))
   refine FL.v (E.move k56) ?_
   refine FL.v (E.move k57) ?_
   refine FL.v (E.lenP te34 rfl p0) ?_
   refine FL.v (E.lssT rfl rfl (zay hx23)) ?_
   refine FL.nil ?_
   refine FW.condT rfl rfl ?_
   refine FW.skip (FW.seq (FW.block (FW.seq ?_)))
   refine FW.draw (fun w'=>Run w54.heap.size H51 w54 H51 w') (by kernel_rfl) (by kernel_rfl) (zaD S52.sl) ?_
   refine FD.val rfl rfl rfl (fun w' hw'=>(E.move k57)) ?_
   refine FD.val rfl rfl rfl (fun w' hw'=>(E.move k56)) ?_
   obtain ⟨p60,cs61,pt62,l63,at64,rel65⟩:=p0.at (zap hx23)
   obtain rfl:=zam rel65
   refine FD.val rfl rfl rfl (fun w' hw'=>(E.indexAddr te34 rfl rfl pt62)) ?_
   refine FD.val rfl rfl rfl (fun w' hw'=>(E.load rfl (zaf Tryz.isAgg3 ((at64.mono i53).now (S52.call hw').sl) rfl))) ?_
   refine FD.val rfl rfl rfl (fun w' hw'=>(E.move k58)) ?_
   refine FD.val rfl rfl rfl (fun w' hw'=>(E.move k56)) ?_
   obtain ⟨x72,hx73,hp⟩:=bnd hp
   obtain ⟨p66,cs67,pt68,l69,at70,rel71⟩:=p1.at hx73
   obtain rfl:=zam rel71
   refine FD.val rfl rfl rfl (fun w' hw'=>(E.indexAddr te34 rfl rfl pt68)) ?_
   refine FD.val rfl rfl rfl (fun w' hw'=>(E.load rfl (zaf Tryz.isAgg3 ((at70.mono i53).now (S52.call hw').sl) rfl))) ?_
   refine FD.val rfl rfl rfl (fun w' hw'=>(E.neq rfl rfl)) ?_
   refine FD.nil ?_
   intro w74 r76
   have S75:=S52.call r76
   rcases ifB hp with ⟨c77,hp⟩|⟨c77,hp⟩
   ·
    refine FW.condT rfl c77 ?_
    refine FW.seq (FW.region ?_)
    refine FL.v (E.assign (v:=Value.bool false) rfl) ?_
    refine FL.nil ?_
    refine FW.ret ?_
    obtain rfl:=Option.some.inj hp
    exact ⟨nofun,rfl,⟨.inr rfl,res1 rfl rfl ⟨rfl,S75.back⟩⟩⟩
   ·
    refine FW.condF rfl c77 ?_
    refine FW.skip (FW.region ?_)
    refine FL.v (E.move k56) ?_
    refine FL.v (E.add rfl rfl) ?_
    refine FL.v (E.assign (v:=Value.int .i64 (wr (((i23:Nat):Int) + 1))) rfl) ?_
    refine FL.nil ?_
    obtain rfl:=Option.some.inj hp
    exact ⟨rfl,⟨_,S75,i53,(zas rfl (zao hx23) (p0.mono i53).le),k57,k58⟩⟩
  ·
   clear hp hq
   rintro s23 f88 w87 ⟨H84,S85,i86,k89,k90,k91⟩
   refine FW.seq (FW.seq (FW.region ?_))
   refine FL.v (E.move k89) ?_
   refine FL.v (E.move k90) ?_
   refine FL.v (E.lenP te34 rfl p0) ?_
   refine FL.v (E.lss rfl rfl) ?_
   refine FL.nil ?_
   refine FW.condF rfl zaz ?_
   refine FW.exit ?_
   exact ⟨nofun,rfl,⟨_,S85,i86⟩⟩
  ·
   clear hq
   intro e f83 w82 hD
   rcases q23 with s23|x23
   ·
    obtain ⟨rfl,hD⟩:=hD
    obtain ⟨H79,S80,i81⟩:=hD
    replace hp:=el_go hp
    refine FW.seq (FW.region ?_)
    refine FL.v (E.assign (v:=Value.bool true) rfl) ?_
    refine FL.nil ?_
    refine FW.ret ?_
    obtain rfl:=Option.some.inj hp
    exact ⟨.inr rfl,res1 rfl rfl ⟨rfl,S80.back⟩⟩
   ·
    obtain ⟨he,hL⟩:=hD
    replace hp:=el_rt hp
    obtain rfl:=Option.some.inj hp
    subst he
    exact hL

@[reducible] def p_spec_l2Insert (Ha:GH) (wa:World) (r:(List (List Int))):Ending→World→Prop :=
 fun e w'=>∃ H':GH,∃ v0:Value,e=.returned (v0)∧Run wa.heap.size Ha wa H' w'∧RSl H' (eL eI 1) 1 v0 r
set_option maxHeartbeats 4000000 in
theorem zdE {Ha:GH} {wa:World} (hs:Sl Ha wa) (v0:Value) (a0:List (List Int)) (p0:RSl Ha (eL eI 1) 1 v0 a0) (v1:Value) (a1:List Int) (p1:RSl Ha eI 1 v1 a1) {r:(List (List Int))} (hp:(PF.zbB a0 a1)=some r) :
  Calls Tryz.prog 121 #[v0,v1] wa (p_spec_l2Insert Ha wa r):=by
 unfold PF.zbB at hp
 have S0:=St.init hs
 refine zah (N:=34) (args:=[v0,v1]) Tryz.func121 rfl rfl rfl ?_
 refine FW.seq (FW.region ?_)
 refine FL.v (E.assign (v:=Value.slice none 0 0) rfl) ?_
 refine FL.nil (FW.seq (FW.region ?_))
 refine FL.v (E.move (v:=v0) rfl) ?_
 refine FL.v (E.move (v:=v1) rfl) ?_
 obtain ⟨r21,hr22,hp⟩:=bnd hp
 refine FL.call rfl rfl rfl (E.call Tryz.call198 (A2 rfl rfl)) (zdZ S0.sl v0 a0 p0 v1 a1 p1 hr22) ?_
 rintro e w23 ⟨rfl,r24⟩
 refine ⟨_,rfl,?_⟩
 have S25:=S0.call r24
 refine FL.v (E.assign (v:=Value.int .i64 r21) rfl) ?_
 refine FL.nil (FW.seq (FW.seq (FW.region ?_)))
 refine FL.v (E.move (v:=Value.int .i64 r21) rfl) ?_
 refine FL.v (E.move (v:=v0) rfl) ?_
 refine FL.v (E.lenP te24 rfl p0) ?_
 refine FL.v (E.lss rfl rfl) ?_
 refine FL.v (E.move (v:=Value.bool (decide (r21 < (len a0)))) rfl) ?_
 obtain ⟨t41,hqt41,hp⟩:=bnd hp
 refine FL.cut 7 (fun f w=>∃ H:GH,St Ha wa H w []∧Inc Ha H∧f 0=v0∧f 1=v1∧f 5=Value.int .i64 r21∧f 20=Value.bool t41) ?_ ?_
 ·
  clear hp;have hp:=hqt41;clear hqt41
  rcases ifB hp with ⟨c47,hp⟩|⟨c47,hp⟩
  ·
   refine FL.val (zac rfl rfl rfl c47) rfl rfl (E.move (v:=v0) rfl) ?_
   refine FL.val (zac rfl rfl rfl c47) rfl rfl (E.move (v:=Value.int .i64 r21) rfl) ?_
   obtain ⟨x54,hx55,hp⟩:=bnd hp
   obtain ⟨p48,cs49,pt50,l51,at52,rel53⟩:=p0.at hx55
   obtain ⟨v56,rfl,h57⟩:=zau rel53
   refine FL.val (zac rfl rfl rfl c47) rfl rfl (E.indexAddr te24 rfl rfl pt50) ?_
   refine FL.val (zac rfl rfl rfl c47) rfl rfl (E.load rfl (zaf Tryz.isAgg34 (at52.now S25.sl) rfl)) ?_
   refine FL.val (zac rfl rfl rfl c47) rfl rfl (E.move (v:=v1) rfl) ?_
   obtain ⟨r58,hr59,hp⟩:=bnd hp
   refine FL.call (zac rfl rfl rfl c47) rfl rfl (E.call Tryz.call199 (A2 rfl rfl)) (w_spec_l1Same S25.sl v56 x54 h57 v1 a1 p1 hr59) ?_
   rintro e w60 ⟨rfl,r61⟩
   refine ⟨_,rfl,?_⟩
   have S62:=S25.call r61
   obtain rfl:=Option.some.inj hp
   refine FL.v (E.pickT rfl c47 rfl) ?_
   exact FL.nil ⟨rfl,_,S62,(Inc.rfl _),rfl,rfl,rfl,rfl⟩
  ·
   refine FL.skip (wF_no rfl rfl rfl c47) rfl ?_
   refine FL.skip (wF_no rfl rfl rfl c47) rfl ?_
   refine FL.skip (wF_no rfl rfl rfl c47) rfl ?_
   refine FL.skip (wF_no rfl rfl rfl c47) rfl ?_
   refine FL.skip (wF_no rfl rfl rfl c47) rfl ?_
   refine FL.skip (wF_no rfl rfl rfl c47) rfl ?_
   obtain rfl:=Option.some.inj hp
   refine FL.v (E.pickF rfl c47 rfl) ?_
   exact FL.nil ⟨rfl,_,S25,(Inc.rfl _),rfl,rfl,rfl,rfl⟩
 rintro f46 w45 ⟨H42,S43,i44,k63,k64,k65,k66⟩
 refine FL.nil ?_
 rcases ifB hp with ⟨c67,hp⟩|⟨c67,hp⟩
 ·
  refine FW.condT k66 c67 ?_
  refine FW.seq (FW.region ?_)
  refine FL.v (E.move k63) ?_
  refine FL.v (E.assign (v:=v0) rfl) ?_
  refine FL.nil ?_
  refine FW.ret ?_
  obtain rfl:=Option.some.inj hp
  exact ⟨.inr rfl,res1 rfl rfl ⟨_,_,rfl,S43.run,(p0.mono i44)⟩⟩
 ·
  refine FW.condF k66 c67 ?_
  refine FW.skip (FW.seq ?_)
  obtain ⟨xs31,hc32,hp⟩:=bnd hp
  obtain ⟨xs36,hz37,hp⟩:=bnd hp
  obtain ⟨xs80,hz81,hp⟩:=bnd hp
  obtain ⟨xs91,hc92,hp⟩:=bnd hp
  obtain ⟨xs96,hz97,hp⟩:=bnd hp
  refine FW.drawB (Sl H42) (fun f w=>∃ H:GH,∃ vA5:Value,∃ nA6:Nat,∃ csA7:List Value,St Ha wa H w [.row 34 1 vA5 nA6 csA7]∧Inc H42 H∧Els H (eL eI 1) 1 csA7 xs96∧f 4=vA5) (by kernel_rfl) S43.sl ?_ ?_
  ·
   intro w68 r69
   have S70:=S43.call r69
   refine FB.t (i:=1) (bs 13 2) rfl (SP.nil S70.sl) rfl (fun w' hw'=>(E.move k63)) ?_
   refine FB.t (i:=2) (bs 13 6) rfl (SP.nil S70.sl) rfl (fun w' hw'=>(E.move k65)) ?_
   obtain ⟨v33,run34,h35⟩:=p0.cut te24 hc32 (lo:=none) (hi:=some (Value.int .i64 r21)) (.inl ⟨rfl,rfl⟩) (.inr ⟨_,rfl⟩)
   refine FB.t (i:=3) (bs 13 14) rfl (SP.nil S70.sl) rfl (fun w' hw'=>(E.slice te24 rfl rfl (congrArg some rfl) rfl (run34 _))) ?_
   refine FB.t (i:=5) (bs 13 46) rfl (SP.nil S70.sl) rfl (fun w' hw'=>(E.move k64)) ?_
   refine FB.t (i:=8) (bs 13 302) rfl (SP.nil S70.sl) rfl (fun w' hw'=>(E.move k63)) ?_
   refine FB.t (i:=9) (bs 13 814) rfl (SP.nil S70.sl) rfl (fun w' hw'=>(E.move k65)) ?_
   obtain ⟨v93,run94,h95⟩:=p0.cut te24 hc92 (lo:=some (Value.int .i64 r21)) (hi:=none) (.inr ⟨_,rfl⟩) (.inl ⟨rfl,rfl⟩)
   refine FB.t (i:=10) (bs 13 1838) rfl (SP.nil S70.sl) rfl (fun w' hw'=>(E.slice te24 rfl (congrArg some rfl) rfl rfl (run94 _))) ?_
   refine FB.all2 (i:=0) (j:=6) (by kernel_rfl) ?_ ?_
   ·
    obtain ⟨v26,w27,run28,S29⟩:=S70.buildSlice (P:=Tryz.prog) te24 [] (parts:=#[]) (cells:=[]) rfl zal zak zad (Nat.le_of_ble_eq_true rfl)
    have els30:Els (up wa.heap.size H42) (eL eI 1) 1 [] []:=Els.nil
    refine FC.val (l':=(bs 13 1839)) rfl (by kernel_rfl) rfl rfl rfl (E.buildSlice (B0) run28) ?_
    refine ⟨(SP.nil S29.sl),?_⟩
    refine FB.all2 (i:=4) (j:=6) (by kernel_rfl) ?_ ?_
    ·
     obtain ⟨v38,w71,n39,cs40,run72,S73,els74⟩:=S29.appendP (P:=Tryz.prog) (Inc.rfl _) te24 (i:=0) rfl (els30.mono upI) (h35.mono i44) hz37
     have S73:St Ha wa H42 w71 [.row 34 1 v38 n39 cs40]:=S73
     refine FC.val (l':=(bs 13 1855)) rfl (by kernel_rfl) rfl rfl rfl (E.append rfl rfl run72) ?_
     refine ⟨(SP.nil S73.sl),?_⟩
     refine FB.all1 (i:=6) (by kernel_rfl) ?_
     ·
      obtain ⟨v75,w76,run77,S78⟩:=S73.buildSlice (P:=Tryz.prog) te24 [v1] (parts:=#[(0,v1)]) (cells:=[v1]) rfl (zar (zaE p1.cells) zal) (zaq p1.cells zak) (zaa p1.one zad) (Nat.le_of_ble_eq_true rfl)
      have els79:Els H42 (eL eI 1) 1 [v1] [a1]:=(Els.snoc (H:=H42) (E:=(eL eI 1)) (k:=1) (c:=[v1]) (x:=a1) Els.nil rfl ⟨_,rfl,(p1.mono i44)⟩)
      refine FC.val (l':=(bs 13 1919)) rfl (by kernel_rfl) rfl rfl rfl (E.buildSlice (B1 rfl) run77) ?_
      refine ⟨(SP.nil S78.sl),?_⟩
      refine FB.all1 (i:=7) (by kernel_rfl) ?_
      ·
       obtain ⟨v82,w85,n83,cs84,run86,S87,els88,ce89⟩:=S78.appendO (P:=Tryz.prog) te24 (i:=1) (j:=0) rfl els74 rfl els79 hz81
       have S87:St Ha wa H42 w85 [.row 34 1 v75 1 [v1],.row 34 1 v82 n83 cs84]:=S87
       have S90:St Ha wa H42 w85 [.row 34 1 v82 n83 cs84]:=S87.drop 0
       refine FC.val (l':=(bs 13 2047)) rfl (by kernel_rfl) rfl rfl rfl (E.append rfl rfl run86) ?_
       refine ⟨(SP.nil S90.sl),?_⟩
       refine FB.all1 (i:=11) (by kernel_rfl) ?_
       ·
        obtain ⟨v98,wA1,n99,csA0,runA2,SA3,elsA4⟩:=S90.appendP (P:=Tryz.prog) (Inc.rfl _) te24 (i:=0) rfl els88 (h95.mono i44) hz97
        have SA3:St Ha wa H42 wA1 [.row 34 1 v98 n99 csA0]:=SA3
        refine FC.val (l':=(bs 13 4095)) rfl (by kernel_rfl) rfl rfl rfl (E.append rfl rfl runA2) ?_
        refine ⟨(SP.nil SA3.sl),?_⟩
        refine FB.t (i:=12) (bs 13 8191) rfl (SP.nil SA3.sl) rfl (fun w' hw'=>(E.assign (v:=v98) rfl)) ?_
        exact FB.done (by kernel_rfl) ⟨_,_,_,_,SA3,(Inc.rfl _),elsA4,rfl⟩
    ·
     obtain ⟨v75,w76,run77,S78⟩:=S29.buildSlice (P:=Tryz.prog) te24 [v1] (parts:=#[(0,v1)]) (cells:=[v1]) rfl (zar (zaE p1.cells) zal) (zaq p1.cells zak) (zaa p1.one zad) (Nat.le_of_ble_eq_true rfl)
     have els79:Els H42 (eL eI 1) 1 [v1] [a1]:=(Els.snoc (H:=H42) (E:=(eL eI 1)) (k:=1) (c:=[v1]) (x:=a1) Els.nil rfl ⟨_,rfl,(p1.mono i44)⟩)
     refine FC.val (l':=(bs 13 1903)) rfl (by kernel_rfl) rfl rfl rfl (E.buildSlice (B1 rfl) run77) ?_
     refine ⟨(SP.nil S78.sl),?_⟩
     refine FB.all1 (i:=4) (by kernel_rfl) ?_
     ·
      obtain ⟨v38,w71,n39,cs40,run72,S73,els74⟩:=S78.appendP (P:=Tryz.prog) (Inc.rfl _) te24 (i:=1) rfl (els30.mono upI) (h35.mono i44) hz37
      have S73:St Ha wa H42 w71 [.row 34 1 v75 1 [v1],.row 34 1 v38 n39 cs40]:=S73
      refine FC.val (l':=(bs 13 1919)) rfl (by kernel_rfl) rfl rfl rfl (E.append rfl rfl run72) ?_
      refine ⟨(SP.nil S73.sl),?_⟩
      refine FB.all1 (i:=7) (by kernel_rfl) ?_
      ·
       obtain ⟨v82,w85,n83,cs84,run86,S87,els88,ce89⟩:=S73.appendO (P:=Tryz.prog) te24 (i:=1) (j:=0) rfl els74 rfl els79 hz81
       have S87:St Ha wa H42 w85 [.row 34 1 v75 1 [v1],.row 34 1 v82 n83 cs84]:=S87
       have S90:St Ha wa H42 w85 [.row 34 1 v82 n83 cs84]:=S87.drop 0
       refine FC.val (l':=(bs 13 2047)) rfl (by kernel_rfl) rfl rfl rfl (E.append rfl rfl run86) ?_
       refine ⟨(SP.nil S90.sl),?_⟩
       refine FB.all1 (i:=11) (by kernel_rfl) ?_
       ·
        obtain ⟨v98,wA1,n99,csA0,runA2,SA3,elsA4⟩:=S90.appendP (P:=Tryz.prog) (Inc.rfl _) te24 (i:=0) rfl els88 (h95.mono i44) hz97
        have SA3:St Ha wa H42 wA1 [.row 34 1 v98 n99 csA0]:=SA3
        refine FC.val (l':=(bs 13 4095)) rfl (by kernel_rfl) rfl rfl rfl (E.append rfl rfl runA2) ?_
        refine ⟨(SP.nil SA3.sl),?_⟩
        refine FB.t (i:=12) (bs 13 8191) rfl (SP.nil SA3.sl) rfl (fun w' hw'=>(E.assign (v:=v98) rfl)) ?_
        exact FB.done (by kernel_rfl) ⟨_,_,_,_,SA3,(Inc.rfl _),elsA4,rfl⟩
   ·
    obtain ⟨v75,w76,run77,S78⟩:=S70.buildSlice (P:=Tryz.prog) te24 [v1] (parts:=#[(0,v1)]) (cells:=[v1]) rfl (zar (zaE p1.cells) zal) (zaq p1.cells zak) (zaa p1.one zad) (Nat.le_of_ble_eq_true rfl)
    have els79:Els H42 (eL eI 1) 1 [v1] [a1]:=(Els.snoc (H:=H42) (E:=(eL eI 1)) (k:=1) (c:=[v1]) (x:=a1) Els.nil rfl ⟨_,rfl,(p1.mono i44)⟩)
    refine FC.val (l':=(bs 13 1902)) rfl (by kernel_rfl) rfl rfl rfl (E.buildSlice (B1 rfl) run77) ?_
    refine ⟨(SP.nil S78.sl),?_⟩
    refine FB.all1 (i:=0) (by kernel_rfl) ?_
    ·
     obtain ⟨v26,w27,run28,S29⟩:=S78.buildSlice (P:=Tryz.prog) te24 [] (parts:=#[]) (cells:=[]) rfl zal zak zad (Nat.le_of_ble_eq_true rfl)
     have els30:Els (up wa.heap.size H42) (eL eI 1) 1 [] []:=Els.nil
     refine FC.val (l':=(bs 13 1903)) rfl (by kernel_rfl) rfl rfl rfl (E.buildSlice (B0) run28) ?_
     refine ⟨(SP.nil S29.sl),?_⟩
     refine FB.all1 (i:=4) (by kernel_rfl) ?_
     ·
      obtain ⟨v38,w71,n39,cs40,run72,S73,els74⟩:=S29.appendP (P:=Tryz.prog) (Inc.rfl _) te24 (i:=0) rfl (els30.mono upI) (h35.mono i44) hz37
      have S73:St Ha wa H42 w71 [.row 34 1 v38 n39 cs40,.row 34 1 v75 1 [v1]]:=S73
      refine FC.val (l':=(bs 13 1919)) rfl (by kernel_rfl) rfl rfl rfl (E.append rfl rfl run72) ?_
      refine ⟨(SP.nil S73.sl),?_⟩
      refine FB.all1 (i:=7) (by kernel_rfl) ?_
      ·
       obtain ⟨v82,w85,n83,cs84,run86,S87,els88,ce89⟩:=S73.appendO (P:=Tryz.prog) te24 (i:=0) (j:=1) rfl els74 rfl els79 hz81
       have S87:St Ha wa H42 w85 [.row 34 1 v82 n83 cs84,.row 34 1 v75 1 [v1]]:=S87
       have S90:St Ha wa H42 w85 [.row 34 1 v82 n83 cs84]:=S87.drop 1
       refine FC.val (l':=(bs 13 2047)) rfl (by kernel_rfl) rfl rfl rfl (E.append rfl rfl run86) ?_
       refine ⟨(SP.nil S90.sl),?_⟩
       refine FB.all1 (i:=11) (by kernel_rfl) ?_
       ·
        obtain ⟨v98,wA1,n99,csA0,runA2,SA3,elsA4⟩:=S90.appendP (P:=Tryz.prog) (Inc.rfl _) te24 (i:=0) rfl els88 (h95.mono i44) hz97
        have SA3:St Ha wa H42 wA1 [.row 34 1 v98 n99 csA0]:=SA3
        refine FC.val (l':=(bs 13 4095)) rfl (by kernel_rfl) rfl rfl rfl (E.append rfl rfl runA2) ?_
        refine ⟨(SP.nil SA3.sl),?_⟩
        refine FB.t (i:=12) (bs 13 8191) rfl (SP.nil SA3.sl) rfl (fun w' hw'=>(E.assign (v:=v98) rfl)) ?_
        exact FB.done (by kernel_rfl) ⟨_,_,_,_,SA3,(Inc.rfl _),elsA4,rfl⟩
  ·
   rintro fAd wAc ⟨HA9,vA5,nA6,csA7,SAa,iAb,elsA8,kAe⟩
   refine FW.ret ?_
   obtain ⟨HAf,SAg,iAh,hAi⟩:=SAa.sealRow (i:=0) (l':=[]) rfl elsA8 (by decide) rfl
   obtain rfl:=Option.some.inj hp
   exact ⟨.inr rfl,res1 rfl kAe ⟨_,_,rfl,SAg.run,hAi⟩⟩

@[reducible] def p_spec_l5Clauses (Ha:GH) (wa:World) (r:(List (List Int))):Ending→World→Prop :=
 fun e w'=>∃ H':GH,∃ v0:Value,e=.returned (v0)∧Run wa.heap.size Ha wa H' w'∧RSl H' (eL eI 1) 1 v0 r
set_option maxHeartbeats 4000000 in
theorem w_spec_l5Clauses {Ha:GH} {wa:World} (hs:Sl Ha wa) (a0:Int) {r:(List (List Int))} (hp:(PF.zcS a0)=some r) :
  Calls Tryz.prog 58 #[Value.int .i64 a0] wa (p_spec_l5Clauses Ha wa r):=by
 unfold PF.zcS at hp
 have S0:=St.init hs
 refine zah (N:=53) (args:=[Value.int .i64 a0]) Tryz.func58 rfl rfl rfl ?_
 refine FW.seq (FW.region ?_)
 refine FL.v (E.assign (v:=Value.slice none 0 0) rfl) ?_
 refine FL.nil (FW.seq (FW.region ?_))
 obtain ⟨v21,w22,run23,S24⟩:=S0.buildSlice (P:=Tryz.prog) te34 [] (parts:=#[]) (cells:=[]) rfl zal zak zad (Nat.le_of_ble_eq_true rfl)
 have els25:Els (up wa.heap.size Ha) eI 1 [] []:=Els.nil
 refine FL.v (E.buildSlice (B0) run23) ?_
 obtain ⟨H26,S27,i28,h29,nv30⟩:=S24.sealRowU (i:=0) (l':=[]) rfl els25 (by decide) rfl
 obtain ⟨v31,w32,run33,S34⟩:=S27.buildSlice (P:=Tryz.prog) te24 [v21] (parts:=#[(0,v21)]) (cells:=[v21]) rfl (zar (zaE h29.cells) zal) (zaq h29.cells zak) (zaa h29.one zad) (Nat.le_of_ble_eq_true rfl)
 have els35:Els (up wa.heap.size H26) (eL eI 1) 1 [v21] [[]]:=(Els.snoc (H:=(up wa.heap.size H26)) (E:=(eL eI 1)) (k:=1) (c:=[v21]) (x:=[]) Els.nil rfl ⟨_,rfl,h29⟩)
 have nd36:(bl [v21]).Nodup:=by exact za3 v21
 refine FL.v (E.buildSlice (B1 rfl) run33) ?_
 refine FL.v (E.assign (v:=v31) rfl) ?_
 refine FL.nil (FW.seq (FW.seq (FW.region ?_)))
 refine FL.v (E.assign (v:=Value.int .i64 1) rfl) ?_
 refine FL.nil ?_
 obtain ⟨q38,hq,hp⟩:=bndR hp
 refine FW.block ?_
 refine FW.mono (FW.iter (S:=((List (List Int))×Int)) (X:=Empty) (fun (s38:((List (List Int))×Int)) f w=>∃ H:GH,∃ v39:Value,∃ n40:Nat,∃ cs41:List Value,St Ha wa H w [.row 34 1 v39 n40 cs41]∧Inc H26 H∧Els (up wa.heap.size H) (eL eI 1) 1 cs41 s38.1∧(bl cs41).Nodup∧f 0=Value.int .i64 a0∧f 3=v39∧f 4=Value.int .i64 s38.2) (fun (q:Rs ((List (List Int))×Int) Empty) e f w=>match q with|.go s38=>e=Exit.exit 0∧(∃ H:GH,∃ v39:Value,∃ n40:Nat,∃ cs41:List Value,St Ha wa H w [.row 34 1 v39 n40 cs41]∧Inc H26 H∧Els (up wa.heap.size H) (eL eI 1) 1 cs41 s38.1∧(bl cs41).Nodup∧f 3=v39)|.rt x=>x.elim) hq ⟨_,_,_,_,S34,(Inc.rfl _),els35,nd36,rfl,rfl,rfl⟩ ?_) ?_
 ·
  clear hp hq
  rintro s38 f47 w46 ⟨H37,v39,n40,cs41,S44,i45,els42,nd43,k48,k49,k50⟩ oBk hp
  refine FW.seq (FW.seq (FW.region ?_))
  refine FL.v (E.move k50) ?_
  refine FL.v (E.move k48) ?_
  refine FL.v (E.leq rfl rfl) ?_
  refine FL.nil ?_
  rcases ifB hp with ⟨c51,hp⟩|⟨c51,hp⟩
  ·
   refine FW.condT rfl c51 ?_
   refine FW.skip (FW.seq (FW.block (FW.seq (FW.region ?_))))
   refine FL.v (E.move k49) ?_
   obtain ⟨S52,vw53,vl54⟩:=S44.viewAll (P:=Tryz.prog) te24 (i:=0) rfl els42
   refine FL.v (E.assign (v:=v39) rfl) ?_
   refine FL.nil (FW.seq (FW.region ?_))
   refine FL.v (E.assign (v:=Value.int .i64 0) rfl) ?_
   refine FL.nil ?_
   obtain ⟨q56,hq,hp⟩:=bndR hp
   refine FW.block ?_
   refine FW.mono (FW.forL (S:=(List (List Int))) (X:=Empty) (fun (i56:Nat) (s56:(List (List Int))) f w=>∃ H:GH,∃ v57:Value,∃ n58:Nat,∃ cs59:List Value,∃ o62:MO,St Ha wa H w [o62,.row 34 1 v57 n58 cs59]∧Inc H37 H∧Els (up wa.heap.size H) (eL eI 1) 1 cs59 s56∧View 1 v57 v39 cs59 cs41 o62∧(bl cs59).Nodup∧f 6=Value.int .i64 ((i56:Nat):Int)∧f 0=Value.int .i64 a0∧f 3=v57∧f 4=Value.int .i64 s38.2∧f 5=v39) (fun (q:Rs (List (List Int)) Empty) e f w=>match q with|.go s56=>e=Exit.exit 2∧(∃ H:GH,∃ v57:Value,∃ n58:Nat,∃ cs59:List Value,∃ o62:MO,St Ha wa H w [o62,.row 34 1 v57 n58 cs59]∧Inc H37 H∧Els (up wa.heap.size H) (eL eI 1) 1 cs59 s56∧View 1 v57 v39 cs59 cs41 o62∧(bl cs59).Nodup∧f 0=Value.int .i64 a0∧f 3=v57∧f 4=Value.int .i64 s38.2)|.rt x=>x.elim) hq ⟨_,_,_,_,_,S52,(Inc.rfl _),els42,vw53,nd43,rfl,k48,k49,k50,rfl⟩ ?_ ?_) ?_
   ·
    clear hp hq
    rintro i56 y55 s56 f68 w67 ⟨H64,v57,n58,cs59,o62,S65,i66,els60,vw63,nd61,k69,k70,k71,k72,k73⟩ hx56 oB1 hp
    refine FW.seq (FW.seq (FW.region ?_))
    refine FL.v (E.move k69) ?_
    refine FL.v (E.move k73) ?_
    refine FL.v (E.len te24 rfl vl54.ln) ?_
    refine FL.v (E.lssT rfl rfl (zay hx56)) ?_
    refine FL.nil ?_
    refine FW.condT rfl rfl ?_
    refine FW.skip (FW.seq (FW.block ?_))
    obtain ⟨r86,hr87,hp⟩:=bnd hp
    obtain ⟨rA5,hrA6,hp⟩:=bnd hp
    obtain ⟨xsAw,hzAx,hp⟩:=bnd hp
    refine FW.drawB (Sl H64) (fun f w=>∃ H:GH,∃ vAK:Value,∃ nAL:Nat,∃ csAM:List Value,∃ oAP:MO,St Ha wa H w [oAP,.row 34 1 vAK nAL csAM]∧Inc H64 H∧Els (up wa.heap.size H) (eL eI 1) 1 csAM xsAw∧View 1 vAK v39 csAM cs41 oAP∧(bl csAM).Nodup∧f 0=Value.int .i64 a0∧f 3=vAK∧f 4=Value.int .i64 s38.2∧f 5=v39∧f 6=Value.int .i64 ((i56:Nat):Int)) (by kernel_rfl) S65.sl ?_ ?_
    ·
     intro w74 r75
     have S76:=S65.call r75
     refine FB.t (i:=0) (bs 17 1) rfl (SP.nil S76.sl) rfl (fun w' hw'=>(E.move k71)) ?_
     refine FB.t (i:=1) (bs 17 3) rfl (SP.nil S76.sl) rfl (fun w' hw'=>(E.move k73)) ?_
     refine FB.t (i:=2) (bs 17 7) rfl (SP.nil S76.sl) rfl (fun w' hw'=>(E.move k69)) ?_
     obtain ⟨p77,cs78,pt79,l80,at81,rel82,hall83⟩:=S76.view_atA (i:=1) (q:=0) rfl rfl vw63 els42 (by decide) (zap hx56)
     obtain ⟨v84,rfl,h85⟩:=zau rel82
     refine FB.t (i:=3) (bs 17 15) rfl (SP.nil S76.sl) rfl (fun w' hw'=>(E.indexAddr te24 rfl rfl pt79)) ?_
     refine FB.phase [15] (fun w'=>WAt w' p77 [v84]) ?_
     refine FB.p (i:=4) (bs 17 31) 0 [6,13,14,15,16] rfl (SP.on (hall83 _ _ _ 1 0 S76 rfl rfl) (SP.nil S76.sl)) rfl rfl (fun w' hw'=>(E.load rfl (zaf Tryz.isAgg34 hw' rfl))) ?_
     refine FB.t (i:=5) (bs 17 63) rfl (SP.on (hall83 _ _ _ 1 0 S76 rfl rfl) (SP.nil S76.sl)) rfl (fun w' hw'=>(E.move k72)) ?_
     refine FB.t (i:=7) (bs 17 191) rfl (SP.on (hall83 _ _ _ 1 0 S76 rfl rfl) (SP.nil S76.sl)) rfl (fun w' hw'=>(E.move k73)) ?_
     refine FB.t (i:=8) (bs 17 447) rfl (SP.on (hall83 _ _ _ 1 0 S76 rfl rfl) (SP.nil S76.sl)) rfl (fun w' hw'=>(E.move k69)) ?_
     obtain ⟨p96,cs97,pt98,l99,atA0,relA1,hallA2⟩:=S76.view_atA (i:=1) (q:=0) rfl rfl vw63 els42 (by decide) (zap hx56)
     obtain ⟨vA3,rfl,hA4⟩:=zau relA1
     refine FB.t (i:=9) (bs 17 959) rfl (SP.on (hall83 _ _ _ 1 0 S76 rfl rfl) (SP.nil S76.sl)) rfl (fun w' hw'=>(E.indexAddr te24 rfl rfl pt98)) ?_
     refine FB.phase [15] (fun w'=>WAt w' p96 [vA3]) ?_
     refine FB.p (i:=10) (bs 17 1983) 0 [13,14,15,16] rfl (SP.on (hallA2 _ _ _ 1 0 S76 rfl rfl) (SP.on (hall83 _ _ _ 1 0 S76 rfl rfl) (SP.nil S76.sl))) rfl rfl (fun w' hw'=>(E.load rfl (zaf Tryz.isAgg34 hw' rfl))) ?_
     refine FB.t (i:=11) (bs 17 4031) rfl (SP.on (hallA2 _ _ _ 1 0 S76 rfl rfl) (SP.on (hall83 _ _ _ 1 0 S76 rfl rfl) (SP.nil S76.sl))) rfl (fun w' hw'=>(E.move k72)) ?_
     refine FB.t (i:=12) (bs 17 8127) rfl (SP.on (hallA2 _ _ _ 1 0 S76 rfl rfl) (SP.on (hall83 _ _ _ 1 0 S76 rfl rfl) (SP.nil S76.sl))) rfl (fun w' hw'=>(E.neg rfl)) ?_
     refine FB.all1 (i:=6) (by kernel_rfl) ?_
     ·
      refine FC.call (l':=(bs 17 8191)) rfl (by kernel_rfl) rfl rfl rfl (E.call Tryz.call120 (A2 rfl rfl)) (zb3 S76.sl v84 y55 (h85.mono (upI.tr i66)) s38.2 hr87) ?_
      rintro e w89 ⟨H88,v92,n93,cs94,rfl,r91,els95⟩
      refine ⟨_,rfl,?_⟩
      have els95:=els95.mono (up_le S76.size)
      have S90:=S76.join (l':=[.row 3 1 v92 n93 cs94,o62,.row 34 1 v57 n58 cs59]) r91 rfl
      refine ⟨(SP.on (hallA2 _ _ _ 2 1 S90 rfl rfl) (SP.on (hall83 _ _ _ 2 1 S90 rfl rfl) (SP.nil (Sl.of_inc r91.run.inc S90.sl)))),?_⟩
      refine FB.all1 (i:=13) (by kernel_rfl) ?_
      ·
       refine FC.call (l':=(bs 17 16383)) rfl (by kernel_rfl) rfl rfl rfl (E.call Tryz.call120 (A2 rfl rfl)) (zb3 S90.sl vA3 y55 (hA4.mono (upI.tr (i66.tr r91.run.inc))) (wr (-s38.2)) hrA6) ?_
       rintro e wA8 ⟨HA7,vAb,nAc,csAd,rfl,rAa,elsAe⟩
       refine ⟨_,rfl,?_⟩
       have elsAe:=elsAe.mono (up_le S90.size)
       have SA9:=S90.join (l':=[.row 3 1 vAb nAc csAd,.row 3 1 v92 n93 cs94,o62,.row 34 1 v57 n58 cs59]) rAa rfl
       refine ⟨(SP.on (hallA2 _ _ _ 3 2 SA9 rfl rfl) (SP.on (hall83 _ _ _ 3 2 SA9 rfl rfl) (SP.nil (Sl.of_inc (r91.run.inc.tr rAa.run.inc) SA9.sl)))),?_⟩
       refine FB.all1 (i:=14) (by kernel_rfl) ?_
       ·
        obtain ⟨HAf,SAg,iAh,hAi,nvAj⟩:=SA9.sealRowU (i:=1) (l':=[.row 3 1 vAb nAc csAd,o62,.row 34 1 v57 n58 cs59]) rfl (els95.mono (zae rAa.run.inc)) (by decide) rfl
        obtain ⟨HAk,SAl,iAm,hAn,nvAo⟩:=SAg.sealRowU (i:=0) (l':=[o62,.row 34 1 v57 n58 cs59]) rfl (elsAe.mono (zae iAh)) (by decide) rfl
        obtain ⟨vAp,wAq,runAr,SAs⟩:=SAl.buildSlice (P:=Tryz.prog) te24 [v92,vAb] (parts:=#[(0,v92),(1,vAb)]) (cells:=[v92,vAb]) rfl (zar (zaE hAi.cells) (zar (zaE hAn.cells) zal)) (zaq hAi.cells (zaq hAn.cells zak)) (zaa hAi.one (zaa hAn.one zad)) (Nat.le_of_ble_eq_true rfl)
        have elsAt:Els (up wa.heap.size HAk) (eL eI 1) 1 [v92,vAb] [r86,rA5]:=(Els.snoc (H:=(up wa.heap.size HAk)) (E:=(eL eI 1)) (k:=1) (c:=[vAb]) (x:=rA5) (Els.snoc (H:=(up wa.heap.size HAk)) (E:=(eL eI 1)) (k:=1) (c:=[v92]) (x:=r86) Els.nil rfl ⟨_,rfl,(hAi.mono (zae iAm))⟩) rfl ⟨_,rfl,hAn⟩)
        have ndAu:(bl [v92,vAb]).Nodup:=by exact nd_two (New.apart (hAi.mono (zae (Inc.rfl _))) nvAo)
        have nvAv:New HA7 [v92,vAb]:=by exact (New.two nvAj (nvAo.anti iAh))
        refine FC.val (l':=(bs 17 32767)) rfl (by kernel_rfl) rfl rfl rfl (E.buildSlice (B2 rfl rfl) runAr) ?_
        refine ⟨(SP.on (hallA2 _ _ _ 2 1 SAs rfl rfl) (SP.on (hall83 _ _ _ 2 1 SAs rfl rfl) (SP.nil (Sl.of_inc (((r91.run.inc.tr rAa.run.inc).tr iAh).tr iAm) SAs.sl)))),?_⟩
        refine FB.all1 (i:=15) (by kernel_rfl) ?_
        ·
         obtain ⟨vAy,wAB,nAz,csAA,oAG,runAC,SAD,elsAE,ceAF,vw143⟩:=SAs.appendVO (P:=Tryz.prog) te24 (i:=2) (j:=0) (q:=1) rfl (els60.mono (zae (((r91.run.inc.tr rAa.run.inc).tr iAh).tr iAm))) rfl elsAt hzAx rfl vw63
         have SAD:St Ha wa HAk wAB [.row 34 1 vAp 2 [v92,vAb],oAG,.row 34 1 vAy nAz csAA]:=SAD
         have ndAI:(bl csAA).Nodup:=by rw [ceAF];exact zba nd61 ndAu (Els.dom (els60.mono (upI.tr (r91.run.inc.tr rAa.run.inc)))) (by exact nvAv)
         have SAJ:St Ha wa HAk wAB [oAG,.row 34 1 vAy nAz csAA]:=SAD.drop 0
         refine FC.val (l':=(bs 17 65535)) rfl (by kernel_rfl) rfl rfl rfl (E.append rfl rfl runAC) ?_
         refine ⟨(SP.o (SP.o (SP.nil (Sl.of_inc (((r91.run.inc.tr rAa.run.inc).tr iAh).tr iAm) SAJ.sl)))),?_⟩
         refine FB.t (i:=16) (bs 17 131071) rfl (SP.o (SP.o (SP.nil (Sl.of_inc (((r91.run.inc.tr rAa.run.inc).tr iAh).tr iAm) SAJ.sl)))) rfl (fun w' hw'=>(E.assign (v:=vAy) rfl)) ?_
         exact FB.done (by kernel_rfl) ⟨_,_,_,_,_,SAJ,(((r91.run.inc.tr rAa.run.inc).tr iAh).tr iAm),elsAE,vw143,ndAI,k70,rfl,k72,k73,k69⟩
    ·
     rintro fAV wAU ⟨HAR,vAK,nAL,csAM,oAP,SAS,iAT,elsAN,vw152,ndAO,kAW,kAX,kAY,kAZ,kB0⟩
     refine FW.region ?_
     refine FL.v (E.move kB0) ?_
     refine FL.v (E.add rfl rfl) ?_
     refine FL.v (E.assign (v:=Value.int .i64 (wr (((i56:Nat):Int) + 1))) rfl) ?_
     refine FL.nil ?_
     obtain rfl:=Option.some.inj hp
     exact ⟨rfl,⟨_,_,_,_,_,SAS,(i66.tr iAT),elsAN,vw152,ndAO,(zas rfl (zao hx56) vl54.le),kAW,kAX,kAY,kAZ⟩⟩
   ·
    clear hp hq
    rintro s56 fBe wBd ⟨HBa,v57,n58,cs59,o62,SBb,iBc,els60,vw63,nd61,kBf,kBg,kBh,kBi,kBj⟩
    refine FW.seq (FW.seq (FW.region ?_))
    refine FL.v (E.move kBf) ?_
    refine FL.v (E.move kBj) ?_
    refine FL.v (E.len te24 rfl vl54.ln) ?_
    refine FL.v (E.lss rfl rfl) ?_
    refine FL.nil ?_
    refine FW.condF rfl zaz ?_
    refine FW.exit ?_
    exact ⟨nofun,rfl,⟨_,_,_,_,_,SBb,iBc,els60,vw63,nd61,kBg,kBh,kBi⟩⟩
   ·
    clear hq
    intro e fB6 wB5 hD
    rcases q56 with s56|x56
    ·
     obtain ⟨rfl,hD⟩:=hD
     obtain ⟨HB2,v57,n58,cs59,o62,SB3,iB4,els60,vw63,nd61,kB7,kB8,kB9⟩:=hD
     replace hp:=el_go hp
     refine FW.region ?_
     refine FL.v (E.move kB9) ?_
     refine FL.v (E.add rfl rfl) ?_
     refine FL.v (E.assign (v:=Value.int .i64 (wr (s38.2 + 1))) rfl) ?_
     refine FL.nil ?_
     obtain rfl:=Option.some.inj hp
     exact ⟨rfl,⟨_,_,_,_,(SB3.sel [1] (by decide) rfl),(i45.tr iB4),els60,nd61,kB7,kB8,rfl⟩⟩
    ·
     exact x56.elim
  ·
   refine FW.condF rfl c51 ?_
   refine FW.exit ?_
   obtain rfl:=Option.some.inj hp
   exact ⟨nofun,rfl,⟨_,_,_,_,S44,i45,els42,nd43,k49⟩⟩
 ·
  clear hq
  intro e fBp wBo hD
  rcases q38 with s38|x38
  ·
   obtain ⟨rfl,hD⟩:=hD
   obtain ⟨HBl,v39,n40,cs41,SBm,iBn,els42,nd43,kBq⟩:=hD
   replace hp:=el_go hp
   refine FW.seq (FW.region ?_)
   obtain ⟨vBr,wBs,runBt,SBu⟩:=SBm.buildSlice (P:=Tryz.prog) te24 [] (parts:=#[]) (cells:=[]) rfl zal zak zad (Nat.le_of_ble_eq_true rfl)
   have elsBv:Els (up wa.heap.size HBl) (eL eI 1) 1 [] []:=Els.nil
   refine FL.v (E.buildSlice (B0) runBt) ?_
   refine FL.v (E.assign (v:=vBr) rfl) ?_
   refine FL.nil (FW.seq (FW.seq (FW.region ?_)))
   refine FL.v (E.assign (v:=Value.int .i64 0) rfl) ?_
   refine FL.nil ?_
   obtain ⟨HBw,SBx,iBy,nsBB,nvBA⟩:=SBu.sealRowN (i:=0) (l':=[.row 34 1 v39 n40 cs41]) rfl elsBv (show (bl []).Nodup from List.nodup_nil) (by decide) rfl
   have hBz:=nsBB.rsl
   obtain ⟨qBC,hq,hp⟩:=bndR hp
   refine FW.block ?_
   refine FW.mono (FW.iter (S:=((List (List Int))×Int)) (X:=Empty) (fun (sBC:((List (List Int))×Int)) f w=>∃ H:GH,∃ vBD:Value,St Ha wa H w [.row 34 1 v39 n40 cs41]∧Inc HBw H∧RSl H (eL eI 1) 1 vBD sBC.1∧f 3=v39∧f 7=vBD∧f 8=Value.int .i64 sBC.2) (fun (q:Rs ((List (List Int))×Int) Empty) e f w=>match q with|.go sBC=>e=Exit.exit 4∧(∃ H:GH,∃ vBD:Value,St Ha wa H w [.row 34 1 v39 n40 cs41]∧Inc HBw H∧RSl H (eL eI 1) 1 vBD sBC.1∧f 7=vBD)|.rt x=>x.elim) hq ⟨_,_,SBx,(Inc.rfl _),(hBz.mono upI),kBq,rfl,rfl⟩ ?_) ?_
   ·
    clear hp hq
    rintro sBC fBJ wBI ⟨HBF,vBD,SBG,iBH,hBE,kBK,kBL,kBM⟩ oC6 hp
    refine FW.seq (FW.seq (FW.region ?_))
    refine FL.v (E.move kBM) ?_
    refine FL.v (E.move kBK) ?_
    refine FL.v (E.lenO te24 rfl SBG (i:=0) rfl els42 (by decide)) ?_
    refine FL.v (E.lss rfl rfl) ?_
    refine FL.nil ?_
    rcases ifB hp with ⟨cBN,hp⟩|⟨cBN,hp⟩
    ·
     refine FW.condT rfl cBN ?_
     refine FW.skip (FW.seq (FW.block (FW.region ?_)))
     refine FL.v (E.move kBL) ?_
     refine FL.v (E.move kBK) ?_
     refine FL.v (E.move kBM) ?_
     obtain ⟨xBU,hxBV,hp⟩:=bnd hp
     obtain ⟨pBO,csBP,ptBQ,lBR,atBS,relBT⟩:=SBG.row_at (i:=0) rfl els42 (by decide) hxBV
     obtain ⟨vBW,rfl,hBX⟩:=zau relBT
     refine FL.v (E.indexAddr te24 rfl rfl ptBQ) ?_
     refine FL.v (E.load rfl (zaf Tryz.isAgg34 atBS rfl)) ?_
     obtain ⟨rBY,hrBZ,hp⟩:=bnd hp
     refine FL.call rfl rfl rfl (E.call Tryz.call121 (A2 rfl rfl)) (zdE SBG.sl vBD sBC.1 hBE vBW xBU (hBX.mono (upI.tr (iBy.tr iBH))) hrBZ) ?_
     rintro e wC1 ⟨HC0,vC4,rfl,rC3,hC5⟩
     refine ⟨_,rfl,?_⟩
     have SC2:=SBG.call rC3
     refine FL.v (E.assign (v:=vC4) rfl) ?_
     refine FL.nil (FW.region ?_)
     refine FL.v (E.move kBM) ?_
     refine FL.v (E.add rfl rfl) ?_
     refine FL.v (E.assign (v:=Value.int .i64 (wr (sBC.2 + 1))) rfl) ?_
     refine FL.nil ?_
     obtain rfl:=Option.some.inj hp
     exact ⟨rfl,⟨_,_,SC2,(iBH.tr rC3.inc),hC5,kBK,rfl,rfl⟩⟩
    ·
     refine FW.condF rfl cBN ?_
     refine FW.exit ?_
     obtain rfl:=Option.some.inj hp
     exact ⟨nofun,rfl,⟨_,_,SBG,iBH,hBE,kBL⟩⟩
   ·
    clear hq
    intro e fCb wCa hD
    rcases qBC with sBC|xBC
    ·
     obtain ⟨rfl,hD⟩:=hD
     obtain ⟨HC7,vBD,SC8,iC9,hBE,kCc⟩:=hD
     replace hp:=el_go hp
     refine FW.seq (FW.region ?_)
     refine FL.v (E.move kCc) ?_
     refine FL.v (E.assign (v:=vBD) rfl) ?_
     refine FL.nil ?_
     refine FW.ret ?_
     obtain rfl:=Option.some.inj hp
     exact ⟨.inr rfl,res1 rfl rfl ⟨_,_,rfl,SC8.run,hBE⟩⟩
    ·
     exact xBC.elim
  ·
   exact x38.elim

theorem w_spec_l2Sub {Ha:GH} {wa:World} (hs:Sl Ha wa) (v0:Value) (a0:List Int) (p0:RSl Ha eI 1 v0 a0) (v1:Value) (a1:List Int) (p1:RSl Ha eI 1 v1 a1) {r:Bool} (hp:(PF.zbV a0 a1)=some r) :
  Calls Tryz.prog 59 #[v0,v1] wa (Sc Ha wa (Value.bool r)):=by
 unfold PF.zbV at hp
 have S0:=St.init hs
 refine zah (N:=19) (args:=[v0,v1]) Tryz.func59 rfl rfl rfl ?_
 refine FW.seq (FW.region ?_)
 refine FL.v (E.assign (v:=Value.bool false) rfl) ?_
 refine FL.nil (FW.seq (FW.seq (FW.region ?_)))
 refine FL.v (E.assign (v:=Value.int .i64 0) rfl) ?_
 refine FL.nil ?_
 obtain ⟨q22,hq,hp⟩:=bndR hp
 refine FW.block ?_
 refine FW.mono (FW.forL (S:=Unit) (X:=Bool) (fun (i22:Nat) (s22:Unit) f w=>∃ H:GH,St Ha wa H w []∧Inc Ha H∧f 5=Value.int .i64 ((i22:Nat):Int)∧f 0=v0∧f 1=v1) (fun q e f w=>match q with|.go s22=>e=Exit.exit 0∧(∃ H:GH,St Ha wa H w []∧Inc Ha H)|.rt x=>((e=Exit.ret)∧(fun e f w=>(e=Exit.normal∨e=Exit.ret)∧∀ a,Fr (δ:=[]) 19 a f→∃ v,(results Tryz.f59 a.tmps).run Tryz.prog w=.ok v w∧(Sc Ha wa (Value.bool x)) (.returned v) w) e f w)) hq ⟨_,S0,(Inc.rfl _),rfl,rfl,rfl⟩ ?_ ?_) ?_
 ·
  clear hp hq
  rintro i22 y21 s22 f47 w46 ⟨H43,S44,i45,k48,k49,k50⟩ hx22 o63 hp
  refine FW.seq (FW.seq (FW.region ?_))
  refine FL.v (E.move k48) ?_
  refine FL.v (E.move k49) ?_
  refine FL.v (E.lenP te34 rfl p0) ?_
  refine FL.v (E.lssT rfl rfl (zay hx22)) ?_
  refine FL.nil ?_
  refine FW.condT rfl rfl ?_
  refine FW.skip (FW.seq (FW.block (FW.seq (FW.region ?_))))
  refine FL.v (E.move k50) ?_
  refine FL.v (E.move k49) ?_
  refine FL.v (E.move k48) ?_
  obtain ⟨p51,cs52,pt53,l54,at55,rel56⟩:=p0.at (zap hx22)
  obtain rfl:=zam rel56
  refine FL.v (E.indexAddr te34 rfl rfl pt53) ?_
  refine FL.v (E.load rfl (zaf Tryz.isAgg3 ((at55.mono i45).now S44.sl) rfl)) ?_
  obtain ⟨r57,hr58,hp⟩:=bnd hp
  refine FL.call rfl rfl rfl (E.call Tryz.call122 (A2 rfl rfl)) (zb2 S44.sl v1 a1 (p1.mono i45) y21 hr58) ?_
  rintro e w59 ⟨rfl,r60⟩
  refine ⟨_,rfl,?_⟩
  have S61:=S44.call r60
  refine FL.v (E.not rfl) ?_
  refine FL.nil ?_
  rcases ifB hp with ⟨c62,hp⟩|⟨c62,hp⟩
  ·
   refine FW.condT rfl c62 ?_
   refine FW.seq (FW.region ?_)
   refine FL.v (E.assign (v:=Value.bool false) rfl) ?_
   refine FL.nil ?_
   refine FW.ret ?_
   obtain rfl:=Option.some.inj hp
   exact ⟨nofun,rfl,⟨.inr rfl,res1 rfl rfl ⟨rfl,S61.back⟩⟩⟩
  ·
   refine FW.condF rfl c62 ?_
   refine FW.skip (FW.region ?_)
   refine FL.v (E.move k48) ?_
   refine FL.v (E.add rfl rfl) ?_
   refine FL.v (E.assign (v:=Value.int .i64 (wr (((i22:Nat):Int) + 1))) rfl) ?_
   refine FL.nil ?_
   obtain rfl:=Option.some.inj hp
   exact ⟨rfl,⟨_,S61,i45,(zas rfl (zao hx22) (p0.mono i45).le),k49,k50⟩⟩
 ·
  clear hp hq
  rintro s22 f73 w72 ⟨H69,S70,i71,k74,k75,k76⟩
  refine FW.seq (FW.seq (FW.region ?_))
  refine FL.v (E.move k74) ?_
  refine FL.v (E.move k75) ?_
  refine FL.v (E.lenP te34 rfl p0) ?_
  refine FL.v (E.lss rfl rfl) ?_
  refine FL.nil ?_
  refine FW.condF rfl zaz ?_
  refine FW.exit ?_
  exact ⟨nofun,rfl,⟨_,S70,i71⟩⟩
 ·
  clear hq
  intro e f68 w67 hD
  rcases q22 with s22|x22
  ·
   obtain ⟨rfl,hD⟩:=hD
   obtain ⟨H64,S65,i66⟩:=hD
   replace hp:=el_go hp
   refine FW.seq (FW.region ?_)
   refine FL.v (E.assign (v:=Value.bool true) rfl) ?_
   refine FL.nil ?_
   refine FW.ret ?_
   obtain rfl:=Option.some.inj hp
   exact ⟨.inr rfl,res1 rfl rfl ⟨rfl,S65.back⟩⟩
  ·
   obtain ⟨he,hL⟩:=hD
   replace hp:=el_rt hp
   obtain rfl:=Option.some.inj hp
   subst he
   exact hL

set_option maxHeartbeats 4000000 in
theorem w_spec_l5True {Ha:GH} {wa:World} (hs:Sl Ha wa) (v0:Value) (a0:List Int) (p0:RSl Ha eI 1 v0 a0) (a1:Int) {r:Bool} (hp:(PF.zbW a0 a1)=some r) :
  Calls Tryz.prog 123 #[v0,Value.int .i64 a1] wa (Sc Ha wa (Value.bool r)):=by
 unfold PF.zbW at hp
 have S0:=St.init hs
 refine zah (N:=28) (args:=[v0,Value.int .i64 a1]) Tryz.func123 rfl rfl rfl ?_
 refine FW.seq (FW.region ?_)
 refine FL.v (E.assign (v:=Value.bool false) rfl) ?_
 refine FL.nil (FW.seq (FW.seq (FW.region ?_)))
 refine FL.v (E.assign (v:=Value.int .i64 0) rfl) ?_
 refine FL.nil ?_
 obtain ⟨q22,hq,hp⟩:=bndR hp
 refine FW.block ?_
 refine FW.mono (FW.forL (S:=Unit) (X:=Bool) (fun (i22:Nat) (s22:Unit) f w=>∃ H:GH,St Ha wa H w []∧Inc Ha H∧f 5=Value.int .i64 ((i22:Nat):Int)∧f 0=v0∧f 1=Value.int .i64 a1) (fun q e f w=>match q with|.go s22=>e=Exit.exit 0∧(∃ H:GH,St Ha wa H w []∧Inc Ha H)|.rt x=>((e=Exit.ret)∧(fun e f w=>(e=Exit.normal∨e=Exit.ret)∧∀ a,Fr (δ:=[]) 28 a f→∃ v,(results Tryz.f123 a.tmps).run Tryz.prog w=.ok v w∧(Sc Ha wa (Value.bool x)) (.returned v) w) e f w)) hq ⟨_,S0,(Inc.rfl _),rfl,rfl,rfl⟩ ?_ ?_) ?_
 ·
  clear hp hq
  rintro i22 y21 s22 f54 w53 ⟨H50,S51,i52,k55,k56,k57⟩ hx22 o77 hp
  refine FW.seq (FW.seq (FW.region ?_))
  refine FL.v (E.move k55) ?_
  refine FL.v (E.move k56) ?_
  refine FL.v (E.lenP te34 rfl p0) ?_
  refine FL.v (E.lssT rfl rfl (zay hx22)) ?_
  refine FL.nil ?_
  refine FW.condT rfl rfl ?_
  refine FW.skip (FW.seq (FW.block (FW.seq ?_)))
  refine FW.draw (fun w'=>Run w53.heap.size H50 w53 H50 w') (by kernel_rfl) (by kernel_rfl) (zaD S51.sl) ?_
  refine FD.val rfl rfl rfl (fun w' hw'=>(E.move k57)) ?_
  refine FD.val rfl rfl rfl (fun w' hw'=>(E.move k56)) ?_
  refine FD.val rfl rfl rfl (fun w' hw'=>(E.move k55)) ?_
  obtain ⟨p59,cs60,pt61,l62,at63,rel64⟩:=p0.at (zap hx22)
  obtain rfl:=zam rel64
  refine FD.val rfl rfl rfl (fun w' hw'=>(E.indexAddr te34 rfl rfl pt61)) ?_
  refine FD.val rfl rfl rfl (fun w' hw'=>(E.load rfl (zaf Tryz.isAgg3 ((at63.mono i52).now (S51.call hw').sl) rfl))) ?_
  refine FD.call rfl rfl rfl (fun w' hw'=>(E.call Tryz.call197 (A1 rfl))) (fun w' hw'=>Calls.cls hw' (zb1 (S51.call hw').sl y21)) ?_
  refine FD.val rfl rfl rfl (fun w' hw'=>(E.sub rfl rfl)) ?_
  obtain ⟨u66,z65,hp⟩:=bnd hp
  refine FD.val rfl rfl rfl (fun w' hw'=>(E.shr rfl rfl (nn_ge z65))) ?_
  refine FD.val rfl rfl rfl (fun w' hw'=>(E.and rfl rfl)) ?_
  refine FD.val rfl rfl rfl (fun w' hw'=>(E.eql rfl rfl)) ?_
  refine FD.val rfl rfl rfl (fun w' hw'=>(E.move k56)) ?_
  refine FD.val rfl rfl rfl (fun w' hw'=>(E.move k55)) ?_
  obtain ⟨p67,cs68,pt69,l70,at71,rel72⟩:=p0.at (zap hx22)
  obtain rfl:=zam rel72
  refine FD.val rfl rfl rfl (fun w' hw'=>(E.indexAddr te34 rfl rfl pt69)) ?_
  refine FD.val rfl rfl rfl (fun w' hw'=>(E.load rfl (zaf Tryz.isAgg3 ((at71.mono i52).now (S51.call hw').sl) rfl))) ?_
  refine FD.val rfl rfl rfl (fun w' hw'=>(E.gtr rfl rfl)) ?_
  refine FD.val rfl rfl rfl (fun w' hw'=>(E.eqlB Tryz.runUnderlying4 rfl rfl)) ?_
  refine FD.nil ?_
  intro w73 r75
  have S74:=S51.call r75
  rcases ifB hp with ⟨c76,hp⟩|⟨c76,hp⟩
  ·
   refine FW.condT rfl c76 ?_
   refine FW.seq (FW.region ?_)
   refine FL.v (E.assign (v:=Value.bool true) rfl) ?_
   refine FL.nil ?_
   refine FW.ret ?_
   obtain rfl:=Option.some.inj hp
   exact ⟨nofun,rfl,⟨.inr rfl,res1 rfl rfl ⟨rfl,S74.back⟩⟩⟩
  ·
   refine FW.condF rfl c76 ?_
   refine FW.skip (FW.region ?_)
   refine FL.v (E.move k55) ?_
   refine FL.v (E.add rfl rfl) ?_
   refine FL.v (E.assign (v:=Value.int .i64 (wr (((i22:Nat):Int) + 1))) rfl) ?_
   refine FL.nil ?_
   obtain rfl:=Option.some.inj hp
   exact ⟨rfl,⟨_,S74,i52,(zas rfl (zao hx22) (p0.mono i52).le),k56,k57⟩⟩
 ·
  clear hp hq
  rintro s22 f87 w86 ⟨H83,S84,i85,k88,k89,k90⟩
  refine FW.seq (FW.seq (FW.region ?_))
  refine FL.v (E.move k88) ?_
  refine FL.v (E.move k89) ?_
  refine FL.v (E.lenP te34 rfl p0) ?_
  refine FL.v (E.lss rfl rfl) ?_
  refine FL.nil ?_
  refine FW.condF rfl zaz ?_
  refine FW.exit ?_
  exact ⟨nofun,rfl,⟨_,S84,i85⟩⟩
 ·
  clear hq
  intro e f82 w81 hD
  rcases q22 with s22|x22
  ·
   obtain ⟨rfl,hD⟩:=hD
   obtain ⟨H78,S79,i80⟩:=hD
   replace hp:=el_go hp
   refine FW.seq (FW.region ?_)
   refine FL.v (E.assign (v:=Value.bool false) rfl) ?_
   refine FL.nil ?_
   refine FW.ret ?_
   obtain rfl:=Option.some.inj hp
   exact ⟨.inr rfl,res1 rfl rfl ⟨rfl,S79.back⟩⟩
  ·
   obtain ⟨he,hL⟩:=hD
   replace hp:=el_rt hp
   obtain rfl:=Option.some.inj hp
   subst he
   exact hL

theorem w_spec_l5All {Ha:GH} {wa:World} (hs:Sl Ha wa) (v0:Value) (a0:List (List Int)) (p0:RSl Ha (eL eI 1) 1 v0 a0) (a1:Int) {r:Bool} (hp:(PF.zcm a0 a1)=some r) :
  Calls Tryz.prog 124 #[v0,Value.int .i64 a1] wa (Sc Ha wa (Value.bool r)):=by
 unfold PF.zcm at hp
 have S0:=St.init hs
 refine zah (N:=19) (args:=[v0,Value.int .i64 a1]) Tryz.func124 rfl rfl rfl ?_
 refine FW.seq (FW.region ?_)
 refine FL.v (E.assign (v:=Value.bool false) rfl) ?_
 refine FL.nil (FW.seq (FW.seq (FW.region ?_)))
 refine FL.v (E.assign (v:=Value.int .i64 0) rfl) ?_
 refine FL.nil ?_
 obtain ⟨q22,hq,hp⟩:=bndR hp
 refine FW.block ?_
 refine FW.mono (FW.forL (S:=Unit) (X:=Bool) (fun (i22:Nat) (s22:Unit) f w=>∃ H:GH,St Ha wa H w []∧Inc Ha H∧f 5=Value.int .i64 ((i22:Nat):Int)∧f 0=v0∧f 1=Value.int .i64 a1) (fun q e f w=>match q with|.go s22=>e=Exit.exit 0∧(∃ H:GH,St Ha wa H w []∧Inc Ha H)|.rt x=>((e=Exit.ret)∧(fun e f w=>(e=Exit.normal∨e=Exit.ret)∧∀ a,Fr (δ:=[]) 19 a f→∃ v,(results Tryz.f124 a.tmps).run Tryz.prog w=.ok v w∧(Sc Ha wa (Value.bool x)) (.returned v) w) e f w)) hq ⟨_,S0,(Inc.rfl _),rfl,rfl,rfl⟩ ?_ ?_) ?_
 ·
  clear hp hq
  rintro i22 y21 s22 f49 w48 ⟨H45,S46,i47,k50,k51,k52⟩ hx22 o67 hp
  refine FW.seq (FW.seq (FW.region ?_))
  refine FL.v (E.move k50) ?_
  refine FL.v (E.move k51) ?_
  refine FL.v (E.lenP te24 rfl p0) ?_
  refine FL.v (E.lssT rfl rfl (zay hx22)) ?_
  refine FL.nil ?_
  refine FW.condT rfl rfl ?_
  refine FW.skip (FW.seq (FW.block (FW.seq (FW.region ?_))))
  refine FL.v (E.move k51) ?_
  refine FL.v (E.move k50) ?_
  obtain ⟨p53,cs54,pt55,l56,at57,rel58⟩:=p0.at (zap hx22)
  obtain ⟨v59,rfl,h60⟩:=zau rel58
  refine FL.v (E.indexAddr te24 rfl rfl pt55) ?_
  refine FL.v (E.load rfl (zaf Tryz.isAgg34 ((at57.mono i47).now S46.sl) rfl)) ?_
  refine FL.v (E.move k52) ?_
  obtain ⟨r61,hr62,hp⟩:=bnd hp
  refine FL.call rfl rfl rfl (E.call Tryz.call123 (A2 rfl rfl)) (w_spec_l5True S46.sl v59 y21 (h60.mono i47) a1 hr62) ?_
  rintro e w63 ⟨rfl,r64⟩
  refine ⟨_,rfl,?_⟩
  have S65:=S46.call r64
  refine FL.v (E.not rfl) ?_
  refine FL.nil ?_
  rcases ifB hp with ⟨c66,hp⟩|⟨c66,hp⟩
  ·
   refine FW.condT rfl c66 ?_
   refine FW.seq (FW.region ?_)
   refine FL.v (E.assign (v:=Value.bool false) rfl) ?_
   refine FL.nil ?_
   refine FW.ret ?_
   obtain rfl:=Option.some.inj hp
   exact ⟨nofun,rfl,⟨.inr rfl,res1 rfl rfl ⟨rfl,S65.back⟩⟩⟩
  ·
   refine FW.condF rfl c66 ?_
   refine FW.skip (FW.region ?_)
   refine FL.v (E.move k50) ?_
   refine FL.v (E.add rfl rfl) ?_
   refine FL.v (E.assign (v:=Value.int .i64 (wr (((i22:Nat):Int) + 1))) rfl) ?_
   refine FL.nil ?_
   obtain rfl:=Option.some.inj hp
   exact ⟨rfl,⟨_,S65,i47,(zas rfl (zao hx22) (p0.mono i47).le),k51,k52⟩⟩
 ·
  clear hp hq
  rintro s22 f77 w76 ⟨H73,S74,i75,k78,k79,k80⟩
  refine FW.seq (FW.seq (FW.region ?_))
  refine FL.v (E.move k78) ?_
  refine FL.v (E.move k79) ?_
  refine FL.v (E.lenP te24 rfl p0) ?_
  refine FL.v (E.lss rfl rfl) ?_
  refine FL.nil ?_
  refine FW.condF rfl zaz ?_
  refine FW.exit ?_
  exact ⟨nofun,rfl,⟨_,S74,i75⟩⟩
 ·
  clear hq
  intro e f72 w71 hD
  rcases q22 with s22|x22
  ·
   obtain ⟨rfl,hD⟩:=hD
   obtain ⟨H68,S69,i70⟩:=hD
   replace hp:=el_go hp
   refine FW.seq (FW.region ?_)
   refine FL.v (E.assign (v:=Value.bool true) rfl) ?_
   refine FL.nil ?_
   refine FW.ret ?_
   obtain rfl:=Option.some.inj hp
   exact ⟨.inr rfl,res1 rfl rfl ⟨rfl,S69.back⟩⟩
  ·
   obtain ⟨he,hL⟩:=hD
   replace hp:=el_rt hp
   obtain rfl:=Option.some.inj hp
   subst he
   exact hL

set_option maxHeartbeats 4000000 in
theorem w_spec_l5Implies {Ha:GH} {wa:World} (hs:Sl Ha wa) (a0:Cnf) (v0_1:Value) (p0_1:RSl Ha (eL eI 1) 1 v0_1 a0.clauses) (v1:Value) (a1:List Int) (p1:RSl Ha eI 1 v1 a1) {r:Bool} (hp:(PF.zcT a0 a1)=some r) :
  Calls Tryz.prog 60 #[Value.agg #[Value.int .i64 a0.vars,v0_1],v1] wa (Sc Ha wa (Value.bool r)):=by
 unfold PF.zcT at hp
 have S0:=St.init hs
 refine zah (N:=23) (args:=[Value.agg #[Value.int .i64 a0.vars,v0_1],v1]) Tryz.func60 rfl rfl rfl ?_
 refine FW.seq (FW.region ?_)
 obtain ⟨b21,w22,run23,S24⟩:=S0.box (P:=Tryz.prog) 26 [Value.int .i64 a0.vars,v0_1] (v:=Value.agg #[Value.int .i64 a0.vars,v0_1]) rfl (zaa rfl (zaa p0_1.one zad))
 refine FL.v (E.box rfl run23) ?_
 obtain ⟨H25,S26,i27,at28⟩:=S24.sealBox (i:=0) (l':=[]) rfl rfl
 refine FL.v (E.assign (v:=Value.bool false) rfl) ?_
 refine FL.nil (FW.seq (FW.seq (FW.region ?_)))
 refine FL.v (E.assign (v:=Value.int .i64 0) rfl) ?_
 refine FL.nil ?_
 obtain ⟨q29,hq,hp⟩:=bndR hp
 refine FW.block ?_
 refine FW.mono (FW.iter (S:=Int) (X:=Bool) (fun (s29:Int) f w=>∃ H:GH,St Ha wa H w []∧Inc H25 H∧f 1=v1∧f 2=Value.pointer (some ⟨b21,0,none⟩)∧f 5=Value.int .i64 s29) (fun q e f w=>match q with|.go s29=>e=Exit.exit 0∧(∃ H:GH,St Ha wa H w []∧Inc H25 H)|.rt x=>((e=Exit.ret)∧(fun e f w=>(e=Exit.normal∨e=Exit.ret)∧∀ a,Fr (δ:=[]) 23 a f→∃ v,(results Tryz.f60 a.tmps).run Tryz.prog w=.ok v w∧(Sc Ha wa (Value.bool x)) (.returned v) w) e f w)) hq ⟨_,S26,(Inc.rfl _),rfl,rfl,rfl⟩ ?_) ?_
 ·
  clear hp hq
  rintro s29 f72 w71 ⟨H68,S69,i70,k73,k74,k75⟩ oA6 hp
  refine FW.seq (FW.seq (FW.region ?_))
  refine FL.v (E.move k75) ?_
  refine FL.v (E.fieldAddr zax k74) ?_
  refine FL.v (E.load rfl (zag Tryz.isAgg3 ((at28.mono i70).now S69.sl) rfl)) ?_
  obtain ⟨u77,z76,hp⟩:=bnd hp
  refine FL.v (E.shl rfl rfl (nn_ge z76)) ?_
  refine FL.v (E.lss rfl rfl) ?_
  refine FL.nil ?_
  rcases ifB hp with ⟨c78,hp⟩|⟨c78,hp⟩
  ·
   refine FW.condT rfl c78 ?_
   refine FW.skip (FW.seq (FW.block (FW.seq (FW.region ?_))))
   refine FL.v (E.move k73) ?_
   refine FL.v (E.move k75) ?_
   obtain ⟨r79,hr80,hp⟩:=bnd hp
   refine FL.call rfl rfl rfl (E.call Tryz.call123 (A2 rfl rfl)) (w_spec_l5True S69.sl v1 a1 (p1.mono (i27.tr i70)) s29 hr80) ?_
   rintro e w81 ⟨rfl,r82⟩
   refine ⟨_,rfl,?_⟩
   have S83:=S69.call r82
   refine FL.v (E.not rfl) ?_
   refine FL.v (E.move (v:=Value.bool (!r79)) rfl) ?_
   obtain ⟨t89,hqt89,hp⟩:=bnd hp
   refine FL.cut 5 (fun f w=>∃ H:GH,St Ha wa H w []∧Inc H68 H∧f 1=v1∧f 2=Value.pointer (some ⟨b21,0,none⟩)∧f 5=Value.int .i64 s29∧f 22=Value.bool t89) ?_ ?_
   ·
    clear hp;have hp:=hqt89;clear hqt89
    rcases ifB hp with ⟨c95,hp⟩|⟨c95,hp⟩
    ·
     refine FL.val (zac rfl rfl rfl c95) rfl rfl (E.fieldAddr zan k74) ?_
     refine FL.val (zac rfl rfl rfl c95) rfl rfl (E.load rfl (zag Tryz.isAgg24 ((at28.mono i70).now S83.sl) rfl)) ?_
     refine FL.val (zac rfl rfl rfl c95) rfl rfl (E.move k75) ?_
     obtain ⟨r96,hr97,hp⟩:=bnd hp
     refine FL.call (zac rfl rfl rfl c95) rfl rfl (E.call Tryz.call124 (A2 rfl rfl)) (w_spec_l5All S83.sl v0_1 a0.clauses (p0_1.mono (i27.tr i70)) s29 hr97) ?_
     rintro e w98 ⟨rfl,r99⟩
     refine ⟨_,rfl,?_⟩
     have SA0:=S83.call r99
     obtain rfl:=Option.some.inj hp
     refine FL.v (E.pickT rfl c95 rfl) ?_
     exact FL.nil ⟨rfl,_,SA0,(Inc.rfl _),k73,k74,k75,rfl⟩
    ·
     refine FL.skip (wF_no rfl rfl rfl c95) rfl ?_
     refine FL.skip (wF_no rfl rfl rfl c95) rfl ?_
     refine FL.skip (wF_no rfl rfl rfl c95) rfl ?_
     refine FL.skip (wF_no rfl rfl rfl c95) rfl ?_
     obtain rfl:=Option.some.inj hp
     refine FL.v (E.pickF rfl c95 rfl) ?_
     exact FL.nil ⟨rfl,_,S83,(Inc.rfl _),k73,k74,k75,rfl⟩
   rintro f94 w93 ⟨H90,S91,i92,kA1,kA2,kA3,kA4⟩
   refine FL.nil ?_
   rcases ifB hp with ⟨cA5,hp⟩|⟨cA5,hp⟩
   ·
    refine FW.condT kA4 cA5 ?_
    refine FW.seq (FW.region ?_)
    refine FL.v (E.assign (v:=Value.bool false) rfl) ?_
    refine FL.nil ?_
    refine FW.ret ?_
    obtain rfl:=Option.some.inj hp
    exact ⟨nofun,rfl,⟨.inr rfl,res1 rfl rfl ⟨rfl,S91.back⟩⟩⟩
   ·
    refine FW.condF kA4 cA5 ?_
    refine FW.skip (FW.region ?_)
    refine FL.v (E.move kA3) ?_
    refine FL.v (E.add rfl rfl) ?_
    refine FL.v (E.assign (v:=Value.int .i64 (wr (s29 + 1))) rfl) ?_
    refine FL.nil ?_
    obtain rfl:=Option.some.inj hp
    exact ⟨rfl,⟨_,S91,(i70.tr i92),kA1,kA2,rfl⟩⟩
  ·
   refine FW.condF rfl c78 ?_
   refine FW.exit ?_
   obtain rfl:=Option.some.inj hp
   exact ⟨nofun,rfl,⟨_,S69,i70⟩⟩
 ·
  clear hq
  intro e fAb wAa hD
  rcases q29 with s29|x29
  ·
   obtain ⟨rfl,hD⟩:=hD
   obtain ⟨HA7,SA8,iA9⟩:=hD
   replace hp:=el_go hp
   refine FW.seq (FW.region ?_)
   refine FL.v (E.assign (v:=Value.bool true) rfl) ?_
   refine FL.nil ?_
   refine FW.ret ?_
   obtain rfl:=Option.some.inj hp
   exact ⟨.inr rfl,res1 rfl rfl ⟨rfl,SA8.back⟩⟩
  ·
   obtain ⟨he,hL⟩:=hD
   replace hp:=el_rt hp
   obtain rfl:=Option.some.inj hp
   subst he
   exact hL

@[reducible] def zeN (Ha:GH) (wa:World) (r:(Cnf×Bool)):Ending→World→Prop :=
 fun e w'=>∃ H':GH,∃ v0_1:Value,e=.returned (Value.tuple #[Value.agg #[Value.int .i64 r.1.vars,v0_1],Value.bool r.2])∧Run wa.heap.size Ha wa H' w'∧RSl H' (eL eI 1) 1 v0_1 r.1.clauses
set_option maxHeartbeats 4000000 in
theorem zeO {Ha:GH} {wa:World} (hs:Sl Ha wa) (a0:Cnf) (v0_1:Value) (p0_1:RSl Ha (eL eI 1) 1 v0_1 a0.clauses) {r:(Cnf×Bool)} (hp:(PF.zbX a0)=some r) :
  Calls Tryz.prog 9 #[Value.agg #[Value.int .i64 a0.vars,v0_1]] wa (zeN Ha wa r):=by
 unfold PF.zbX at hp
 have S0:=St.init hs
 refine zah (N:=76) (args:=[Value.agg #[Value.int .i64 a0.vars,v0_1]]) Tryz.func9 rfl rfl rfl ?_
 refine FW.seq (FW.region ?_)
 obtain ⟨b21,w22,run23,S24⟩:=S0.box (P:=Tryz.prog) 26 [Value.int .i64 a0.vars,v0_1] (v:=Value.agg #[Value.int .i64 a0.vars,v0_1]) rfl (zaa rfl (zaa p0_1.one zad))
 refine FL.v (E.box rfl run23) ?_
 obtain ⟨H25,S26,i27,at28⟩:=S24.sealBox (i:=0) (l':=[]) rfl rfl
 have S33:=S26.nil 34 1
 have els34:Els (up wa.heap.size H25) (eL eI 1) 1 [] []:=Els.nil
 obtain ⟨b29,w30,run31,S32⟩:=S33.alloc (P:=Tryz.prog) 26 [Value.int .i64 0,Value.slice none 0 0] Tryz.zeroValue26 rfl (zaa rfl (zaa rfl zad))
 refine FL.v (E.alloc run31) ?_
 refine FL.v (E.assign (v:=Value.bool false) rfl) ?_
 refine FL.nil (FW.seq (FW.seq (FW.region ?_)))
 refine FL.v (E.load rfl (zat Tryz.isAgg26 Tryz.sizeOf26 (at28.now S32.sl) rfl)) ?_
 obtain ⟨r35,hr36,hp⟩:=bnd hp
 refine FL.call rfl rfl rfl (E.call Tryz.call57 (A1 rfl)) (zdS S32.sl a0 v0_1 (p0_1.mono i27) hr36) ?_
 rintro e w37 ⟨rfl,r38⟩
 refine ⟨_,rfl,?_⟩
 have S39:=S32.call r38
 refine FL.v (E.not rfl) ?_
 refine FL.v (E.move (v:=Value.bool (!r35)) rfl) ?_
 refine FL.cut 4 (fun f w=>∃ H:GH,St Ha wa H w [.box b29 26 [Value.int .i64 0,(Value.slice none 0 0)],.row 34 1 (Value.slice none 0 0) 0 []]∧Inc H25 H∧f 1=Value.pointer (some ⟨b21,0,none⟩)∧f 2=Value.pointer (some (⟨b29,0,none⟩:Addr))∧f 16=Value.bool (bif (!r35) then true else (decide (5 < a0.vars)))) ?_ ?_
 ·
  rcases bcase (!r35) with c46|c46
  ·
   refine FL.skip (wF_no rfl rfl rfl c46) rfl ?_
   refine FL.skip (wF_no rfl rfl rfl c46) rfl ?_
   refine FL.skip (wF_no rfl rfl rfl c46) rfl ?_
   refine FL.v (E.pickT rfl c46 rfl) ?_
   exact FL.nil ⟨rfl,_,S39,(Inc.rfl _),rfl,rfl,(congrArg Value.bool (bifT c46).symm)⟩
  ·
   refine FL.val (zac rfl rfl rfl c46) rfl rfl (E.fieldAddr zax rfl) ?_
   refine FL.val (zac rfl rfl rfl c46) rfl rfl (E.load rfl (zag Tryz.isAgg3 (at28.now S39.sl) rfl)) ?_
   refine FL.val (zac rfl rfl rfl c46) rfl rfl (E.gtr rfl rfl) ?_
   refine FL.v (E.pickF rfl c46 rfl) ?_
   exact FL.nil ⟨rfl,_,S39,(Inc.rfl _),rfl,rfl,(congrArg Value.bool (bifF c46).symm)⟩
 rintro f45 w44 ⟨H41,S42,i43,k47,k48,k49⟩
 refine FL.nil ?_
 rcases ifB hp with ⟨c50,hp⟩|⟨c50,hp⟩
 ·
  refine FW.condT k49 c50 ?_
  refine FW.seq (FW.region ?_)
  refine FL.v (E.build (B0) (run_build _ 26 #[] #[Value.int .i64 0,Value.slice none 0 0] (by rfl))) ?_
  have S51:=S42.nil 34 1
  have els52:Els (up wa.heap.size H41) (eL eI 1) 1 [] []:=Els.nil
  obtain ⟨w53,run54,S55⟩:=S51.store0 (P:=Tryz.prog) (t:=26) (i:=1) (cs':=[Value.int .i64 0,(Value.slice none 0 0)]) (l':=[.row 34 1 (Value.slice none 0 0) 0 [],.box b29 26 [Value.int .i64 0,(Value.slice none 0 0)],.row 34 1 (Value.slice none 0 0) 0 []]) (v:=Value.agg #[Value.int .i64 0,(Value.slice none 0 0)]) (c:=[Value.int .i64 0,(Value.slice none 0 0)]) rfl Tryz.sizeOf26 rfl rfl (zaa rfl (zaa (Ln.one (S51.row_ln (i:=0) rfl)) zad)) (Nat.le_of_ble_eq_true rfl) rfl rfl
  refine FL.act rfl rfl (E.store k48 rfl run54) ?_
  refine FL.v (E.assign (v:=Value.bool false) rfl) ?_
  refine FL.nil ?_
  refine FW.ret ?_
  obtain ⟨H56,S57,i58,ns61,nv60⟩:=S55.sealRowN (i:=0) (l':=[.box b29 26 [Value.int .i64 0,(Value.slice none 0 0)],.row 34 1 (Value.slice none 0 0) 0 []]) rfl els52 (show (bl []).Nodup from List.nodup_nil) (by decide) rfl
  have h59:=ns61.rsl
  obtain rfl:=Option.some.inj hp
  exact ⟨.inr rfl,resC2 rfl k48 (zaA Tryz.isAgg26 Tryz.sizeOf26 (S57.box_now (i:=0) rfl) rfl) rfl ⟨_,_,rfl,S57.run,(h59.mono upI)⟩⟩
 ·
  refine FW.condF k49 c50 ?_
  refine FW.skip (FW.seq (FW.region ?_))
  refine FL.v (E.fieldAddr zax k47) ?_
  refine FL.v (E.load rfl (zag Tryz.isAgg3 ((at28.mono i43).now S42.sl) rfl)) ?_
  obtain ⟨v62,w63,run64,S65⟩:=S42.buildSlice (P:=Tryz.prog) te24 [] (parts:=#[]) (cells:=[]) rfl zal zak zad (Nat.le_of_ble_eq_true rfl)
  have els66:Els (up wa.heap.size H41) (eL eI 1) 1 [] []:=Els.nil
  refine FL.v (E.buildSlice (B0) run64) ?_
  refine FL.v (E.build (B2 rfl rfl) (run_build _ 26 #[(0,Value.int .i64 a0.vars),(1,v62)] #[Value.int .i64 a0.vars,v62] (by obtain ⟨_,_,rfl⟩:=S65.row_ln (i:=0) rfl;rfl))) ?_
  have S71:=S65.nil 34 1
  have els72:Els (up wa.heap.size H41) (eL eI 1) 1 [] []:=Els.nil
  obtain ⟨b67,w68,run69,S70⟩:=S71.alloc (P:=Tryz.prog) 26 [Value.int .i64 0,Value.slice none 0 0] Tryz.zeroValue26 rfl (zaa rfl (zaa rfl zad))
  refine FL.v (E.alloc run69) ?_
  obtain ⟨w73,run74,S75⟩:=S70.store0 (P:=Tryz.prog) (t:=26) (i:=0) (cs':=[Value.int .i64 a0.vars,v62]) (l':=[.box b67 26 [Value.int .i64 a0.vars,v62],.row 34 1 (Value.slice none 0 0) 0 [],.row 34 1 v62 0 [],.box b29 26 [Value.int .i64 0,(Value.slice none 0 0)],.row 34 1 (Value.slice none 0 0) 0 []]) (v:=Value.agg #[Value.int .i64 a0.vars,v62]) (c:=[Value.int .i64 a0.vars,v62]) rfl Tryz.sizeOf26 rfl rfl (zaa rfl (zaa (Ln.one (S70.row_ln (i:=2) rfl)) zad)) (Nat.le_of_ble_eq_true rfl) rfl rfl
  refine FL.act rfl rfl (E.store rfl rfl run74) ?_
  refine FL.nil (FW.seq (FW.region ?_))
  refine FL.v (E.fieldAddr zax k47) ?_
  refine FL.v (E.load rfl (zag Tryz.isAgg3 ((at28.mono i43).now S75.sl) rfl)) ?_
  obtain ⟨r76,hr77,hp⟩:=bnd hp
  refine FL.call rfl rfl rfl (E.call Tryz.call58 (A1 rfl)) (w_spec_l5Clauses S75.sl a0.vars hr77) ?_
  rintro e w79 ⟨H78,v82,rfl,r81,h83⟩
  refine ⟨_,rfl,?_⟩
  have S80:=S75.call r81
  refine FL.v (E.assign (v:=v82) rfl) ?_
  refine FL.nil (FW.seq (FW.seq (FW.region ?_)))
  refine FL.v (E.assign (v:=Value.int .i64 0) rfl) ?_
  refine FL.nil ?_
  obtain ⟨q85,hq,hp⟩:=bndR hp
  refine FW.block ?_
  refine FW.mono (FW.forL (S:=(List (List Int))) (X:=Empty) (fun (i85:Nat) (s85:(List (List Int))) f w=>∃ H:GH,∃ v40:Value,∃ n86:Nat,∃ cs87:List Value,St Ha wa H w [.box b67 26 [Value.int .i64 a0.vars,v40],.row 34 1 v40 n86 cs87,.box b29 26 [Value.int .i64 0,(Value.slice none 0 0)],.row 34 1 (Value.slice none 0 0) 0 []]∧Inc H78 H∧Els H (eL eI 1) 1 cs87 s85∧f 6=Value.int .i64 ((i85:Nat):Int)∧f 1=Value.pointer (some ⟨b21,0,none⟩)∧f 2=Value.pointer (some (⟨b29,0,none⟩:Addr))∧f 4=Value.pointer (some (⟨b67,0,none⟩:Addr))∧f 5=v82) (fun (q:Rs (List (List Int)) Empty) e f w=>match q with|.go s85=>e=Exit.exit 0∧(∃ H:GH,∃ v40:Value,∃ n86:Nat,∃ cs87:List Value,St Ha wa H w [.box b67 26 [Value.int .i64 a0.vars,v40],.row 34 1 v40 n86 cs87,.box b29 26 [Value.int .i64 0,(Value.slice none 0 0)],.row 34 1 (Value.slice none 0 0) 0 []]∧Inc H78 H∧Els H (eL eI 1) 1 cs87 s85∧f 2=Value.pointer (some (⟨b29,0,none⟩:Addr))∧f 4=Value.pointer (some (⟨b67,0,none⟩:Addr)))|.rt x=>x.elim) hq ⟨_,_,_,_,(S80.sel [0,2,3,4] (by decide) rfl),(Inc.rfl _),(els66.mono (upI.tr r81.inc)),rfl,k47,k48,rfl,rfl⟩ ?_ ?_) ?_
  ·
   clear hp hq
   rintro i85 y84 s85 f93 w92 ⟨H89,v40,n86,cs87,S90,i91,els88,k94,k95,k96,k97,k98⟩ hx85 oC5 hp
   refine FW.seq (FW.seq (FW.region ?_))
   refine FL.v (E.move k94) ?_
   refine FL.v (E.move k98) ?_
   refine FL.v (E.lenP te24 rfl h83) ?_
   refine FL.v (E.lssT rfl rfl (zay hx85)) ?_
   refine FL.nil ?_
   refine FW.condT rfl rfl ?_
   refine FW.skip (FW.seq (FW.block (FW.seq (FW.region ?_))))
   refine FL.v (E.assign (v:=Value.bool true) rfl) ?_
   refine FL.nil (FW.seq (FW.seq (FW.region ?_)))
   refine FL.v (E.assign (v:=Value.int .i64 0) rfl) ?_
   refine FL.nil ?_
   obtain ⟨q99,hq,hp⟩:=bndR hp
   refine FW.block ?_
   refine FW.mono (FW.iter (S:=(Bool×Int)) (X:=Empty) (fun (s99:(Bool×Int)) f w=>∃ H:GH,St Ha wa H w [.box b67 26 [Value.int .i64 a0.vars,v40],.row 34 1 v40 n86 cs87,.box b29 26 [Value.int .i64 0,(Value.slice none 0 0)],.row 34 1 (Value.slice none 0 0) 0 []]∧Inc H89 H∧f 1=Value.pointer (some ⟨b21,0,none⟩)∧f 2=Value.pointer (some (⟨b29,0,none⟩:Addr))∧f 4=Value.pointer (some (⟨b67,0,none⟩:Addr))∧f 5=v82∧f 6=Value.int .i64 ((i85:Nat):Int)∧f 7=Value.bool s99.1∧f 8=Value.int .i64 s99.2) (fun (q:Rs (Bool×Int) Empty) e f w=>match q with|.go s99=>e=Exit.exit 2∧(∃ H:GH,St Ha wa H w [.box b67 26 [Value.int .i64 a0.vars,v40],.row 34 1 v40 n86 cs87,.box b29 26 [Value.int .i64 0,(Value.slice none 0 0)],.row 34 1 (Value.slice none 0 0) 0 []]∧Inc H89 H∧f 1=Value.pointer (some ⟨b21,0,none⟩)∧f 2=Value.pointer (some (⟨b29,0,none⟩:Addr))∧f 4=Value.pointer (some (⟨b67,0,none⟩:Addr))∧f 5=v82∧f 6=Value.int .i64 ((i85:Nat):Int)∧f 7=Value.bool s99.1)|.rt x=>x.elim) hq ⟨_,S90,(Inc.rfl _),k95,k96,k97,k98,k94,rfl,rfl⟩ ?_) ?_
   ·
    clear hp hq
    rintro s99 fA4 wA3 ⟨HA0,SA1,iA2,kA5,kA6,kA7,kA8,kA9,kAa,kAb⟩ oAO hp
    refine FW.seq (FW.seq (FW.region ?_))
    refine FL.v (E.move kAb) ?_
    refine FL.v (E.fieldAddr zan kA7) ?_
    refine FL.v (E.load rfl (zag Tryz.isAgg24 (SA1.box_now (i:=0) rfl) rfl)) ?_
    refine FL.v (E.lenO te24 rfl SA1 (i:=1) rfl els88 (by decide)) ?_
    refine FL.v (E.lss rfl rfl) ?_
    refine FL.v (E.move (v:=Value.bool (decide (s99.2 < (len s85)))) rfl) ?_
    refine FL.cut 2 (fun f w=>∃ H:GH,St Ha wa H w [.box b67 26 [Value.int .i64 a0.vars,v40],.row 34 1 v40 n86 cs87,.box b29 26 [Value.int .i64 0,(Value.slice none 0 0)],.row 34 1 (Value.slice none 0 0) 0 []]∧Inc HA0 H∧f 1=Value.pointer (some ⟨b21,0,none⟩)∧f 2=Value.pointer (some (⟨b29,0,none⟩:Addr))∧f 4=Value.pointer (some (⟨b67,0,none⟩:Addr))∧f 5=v82∧f 6=Value.int .i64 ((i85:Nat):Int)∧f 7=Value.bool s99.1∧f 8=Value.int .i64 s99.2∧f 38=Value.bool (bif (decide (s99.2 < (len s85))) then s99.1 else false)) ?_ ?_
    ·
     rcases bcase (decide (s99.2 < (len s85))) with cAh|cAh
     ·
      refine FL.val (zac rfl rfl rfl cAh) rfl rfl (E.move kAa) ?_
      refine FL.v (E.pickT rfl cAh rfl) ?_
      exact FL.nil ⟨rfl,_,SA1,(Inc.rfl _),kA5,kA6,kA7,kA8,kA9,kAa,kAb,(congrArg Value.bool (bifT cAh).symm)⟩
     ·
      refine FL.skip (wF_no rfl rfl rfl cAh) rfl ?_
      refine FL.v (E.pickF rfl cAh rfl) ?_
      exact FL.nil ⟨rfl,_,SA1,(Inc.rfl _),kA5,kA6,kA7,kA8,kA9,kAa,kAb,(congrArg Value.bool (bifF cAh).symm)⟩
    rintro fAg wAf ⟨HAc,SAd,iAe,kAi,kAj,kAk,kAl,kAm,kAn,kAo,kAp⟩
    refine FL.nil ?_
    rcases ifB hp with ⟨cAq,hp⟩|⟨cAq,hp⟩
    ·
     refine FW.condT kAp cAq ?_
     refine FW.skip (FW.seq (FW.block ?_))
     refine FW.draw (fun w'=>Run wAf.heap.size HAc wAf HAc w') (by kernel_rfl) (by kernel_rfl) (zaD SAd.sl) ?_
     refine FD.val rfl rfl rfl (fun w' hw'=>(E.fieldAddr zan kAk)) ?_
     refine FD.val rfl rfl rfl (fun w' hw'=>(E.load rfl (zag Tryz.isAgg24 ((SAd.call hw').box_now (i:=0) rfl) rfl))) ?_
     refine FD.val rfl rfl rfl (fun w' hw'=>(E.move kAo)) ?_
     obtain ⟨xAx,hxAy,hp⟩:=bnd hp
     obtain ⟨pAr,csAs,ptAt,lAu,atAv,relAw⟩:=SAd.row_at (i:=1) rfl els88 (by decide) hxAy
     obtain ⟨vAz,rfl,hAA⟩:=zau relAw
     refine FD.val rfl rfl rfl (fun w' hw'=>(E.indexAddr te24 rfl rfl ptAt)) ?_
     refine FD.val rfl rfl rfl (fun w' hw'=>(E.load rfl (zaf Tryz.isAgg34 (atAv.cls hw') rfl))) ?_
     refine FD.val rfl rfl rfl (fun w' hw'=>(E.move kAl)) ?_
     refine FD.val rfl rfl rfl (fun w' hw'=>(E.move kAm)) ?_
     obtain ⟨pAB,csAC,ptAD,lAE,atAF,relAG⟩:=h83.at (zap hx85)
     obtain ⟨vAH,rfl,hAI⟩:=zau relAG
     refine FD.val rfl rfl rfl (fun w' hw'=>(E.indexAddr te24 rfl rfl ptAD)) ?_
     refine FD.val rfl rfl rfl (fun w' hw'=>(E.load rfl (zaf Tryz.isAgg34 ((atAF.mono ((i91.tr iA2).tr iAe)).now (SAd.call hw').sl) rfl))) ?_
     obtain ⟨rAJ,hrAK,hp⟩:=bnd hp
     refine FD.call rfl rfl rfl (fun w' hw'=>(E.call Tryz.call59 (A2 rfl rfl))) (fun w' hw'=>Calls.cls hw' (w_spec_l2Sub (SAd.call hw').sl vAz xAx (hAA.mono (iA2.tr iAe)) vAH y84 (hAI.mono ((i91.tr iA2).tr iAe)) hrAK)) ?_
     refine FD.val rfl rfl rfl (fun w' hw'=>(E.not rfl)) ?_
     refine FD.val rfl rfl rfl (fun w' hw'=>(E.assign (v:=Value.bool (!rAJ)) rfl)) ?_
     refine FD.nil ?_
     intro wAL rAN
     have SAM:=SAd.call rAN
     refine FW.region ?_
     refine FL.v (E.move kAo) ?_
     refine FL.v (E.add rfl rfl) ?_
     refine FL.v (E.assign (v:=Value.int .i64 (wr (s99.2 + 1))) rfl) ?_
     refine FL.nil ?_
     obtain rfl:=Option.some.inj hp
     exact ⟨rfl,⟨_,SAM,(iA2.tr iAe),kAi,kAj,kAk,kAl,kAm,rfl,rfl⟩⟩
    ·
     refine FW.condF kAp cAq ?_
     refine FW.exit ?_
     obtain rfl:=Option.some.inj hp
     exact ⟨nofun,rfl,⟨_,SAd,(iA2.tr iAe),kAi,kAj,kAk,kAl,kAm,kAn⟩⟩
   ·
    clear hq
    intro e fAT wAS hD
    rcases q99 with s99|x99
    ·
     obtain ⟨rfl,hD⟩:=hD
     obtain ⟨HAP,SAQ,iAR,kAU,kAV,kAW,kAX,kAY,kAZ⟩:=hD
     replace hp:=el_go hp
     refine FW.seq ?_
     refine FW.draw (fun w'=>Run wAS.heap.size HAP wAS HAP w') (by kernel_rfl) (by kernel_rfl) (zaD SAQ.sl) ?_
     refine FD.val rfl rfl rfl (fun w' hw'=>(E.move kAZ)) ?_
     refine FD.val rfl rfl rfl (fun w' hw'=>(E.move (v:=Value.bool s99.1) rfl)) ?_
     obtain ⟨t162,hqtB0,hp⟩:=bnd hp
     refine FD.cut 7 (fun f=>f 1=Value.pointer (some ⟨b21,0,none⟩)∧f 2=Value.pointer (some (⟨b29,0,none⟩:Addr))∧f 4=Value.pointer (some (⟨b67,0,none⟩:Addr))∧f 5=v82∧f 6=Value.int .i64 ((i85:Nat):Int)∧f 60=Value.bool t162) ?_ ?_
     ·
      clear hp;have hp:=hqtB0;clear hqtB0
      rcases ifB hp with ⟨cB2,hp⟩|⟨cB2,hp⟩
      ·
       refine FD.val (zac rfl rfl rfl cB2) rfl rfl (fun w' hw'=>(E.load kAU (zat Tryz.isAgg26 Tryz.sizeOf26 ((at28.mono (((i43.tr r81.inc).tr i91).tr iAR)).now (SAQ.call hw').sl) rfl))) ?_
       refine FD.val (zac rfl rfl rfl cB2) rfl rfl (fun w' hw'=>(E.move kAX)) ?_
       refine FD.val (zac rfl rfl rfl cB2) rfl rfl (fun w' hw'=>(E.move kAY)) ?_
       obtain ⟨pB3,csB4,ptB5,lB6,atB7,relB8⟩:=h83.at (zap hx85)
       obtain ⟨vB9,rfl,hBa⟩:=zau relB8
       refine FD.val (zac rfl rfl rfl cB2) rfl rfl (fun w' hw'=>(E.indexAddr te24 rfl rfl ptB5)) ?_
       refine FD.val (zac rfl rfl rfl cB2) rfl rfl (fun w' hw'=>(E.load rfl (zaf Tryz.isAgg34 ((atB7.mono (i91.tr iAR)).now (SAQ.call hw').sl) rfl))) ?_
       obtain ⟨rBb,hrBc,hp⟩:=bnd hp
       refine FD.call (zac rfl rfl rfl cB2) rfl rfl (fun w' hw'=>(E.call Tryz.call60 (A2 rfl rfl))) (fun w' hw'=>Calls.cls hw' (w_spec_l5Implies (SAQ.call hw').sl a0 v0_1 (p0_1.mono ((((i27.tr i43).tr r81.inc).tr i91).tr iAR)) vB9 y84 (hBa.mono (i91.tr iAR)) hrBc)) ?_
       obtain rfl:=Option.some.inj hp
       refine FD.val rfl rfl rfl (fun w' hw'=>(E.pickT rfl cB2 rfl)) ?_
       exact FD.nil ⟨kAU,kAV,kAW,kAX,kAY,rfl⟩
      ·
       refine FD.skip (wF_no rfl rfl rfl cB2) rfl ?_
       refine FD.skip (wF_no rfl rfl rfl cB2) rfl ?_
       refine FD.skip (wF_no rfl rfl rfl cB2) rfl ?_
       refine FD.skip (wF_no rfl rfl rfl cB2) rfl ?_
       refine FD.skip (wF_no rfl rfl rfl cB2) rfl ?_
       refine FD.skip (wF_no rfl rfl rfl cB2) rfl ?_
       obtain rfl:=Option.some.inj hp
       refine FD.val rfl rfl rfl (fun w' hw'=>(E.pickF rfl cB2 rfl)) ?_
       exact FD.nil ⟨kAU,kAV,kAW,kAX,kAY,rfl⟩
     rintro fB1 ⟨kBd,kBe,kBf,kBg,kBh,kBi⟩
     refine FD.nil ?_
     intro wBj rBl
     have SBk:=SAQ.call rBl
     rcases ifB hp with ⟨cBm,hp⟩|⟨cBm,hp⟩
     ·
      refine FW.condT kBi cBm ?_
      obtain ⟨xsBD,hzBE,hp⟩:=bnd hp
      refine FW.drawB (Sl HAP) (fun f w=>∃ H:GH,∃ vBR:Value,∃ nBS:Nat,∃ csBT:List Value,St Ha wa H w [.box b67 26 [Value.int .i64 a0.vars,vBR],.row 34 1 vBR nBS csBT,.box b29 26 [Value.int .i64 0,(Value.slice none 0 0)],.row 34 1 (Value.slice none 0 0) 0 []]∧Inc HAP H∧Els H (eL eI 1) 1 csBT xsBD∧f 1=Value.pointer (some ⟨b21,0,none⟩)∧f 2=Value.pointer (some (⟨b29,0,none⟩:Addr))∧f 4=Value.pointer (some (⟨b67,0,none⟩:Addr))∧f 5=v82∧f 6=Value.int .i64 ((i85:Nat):Int)) (by kernel_rfl) SBk.sl ?_ ?_
      ·
       intro wBn rBo
       have SBp:=SBk.call rBo
       refine FB.phase [9] (fun w=>WAt w (Addr.add ⟨b67,0,none⟩ 1) [v40]) ?_
       refine FB.t (i:=0) (bs 10 1) rfl (SP.on ((SBp.box_now (i:=0) rfl).sub (j:=1) (n:=1) (c:=[v40]) rfl) (SP.nil SBp.sl)) rfl (fun w' hw'=>(E.fieldAddr zan kBf)) ?_
       refine FB.p (i:=1) (bs 10 3) 0 [7,8,9] rfl (SP.on ((SBp.box_now (i:=0) rfl).sub (j:=1) (n:=1) (c:=[v40]) rfl) (SP.nil SBp.sl)) rfl rfl (fun w' hw'=>(E.load rfl (zaf Tryz.isAgg24 hw' rfl))) ?_
       refine FB.t (i:=2) (bs 10 7) rfl (SP.on ((SBp.box_now (i:=0) rfl).sub (j:=1) (n:=1) (c:=[v40]) rfl) (SP.nil SBp.sl)) rfl (fun w' hw'=>(E.move kBg)) ?_
       refine FB.t (i:=3) (bs 10 15) rfl (SP.on ((SBp.box_now (i:=0) rfl).sub (j:=1) (n:=1) (c:=[v40]) rfl) (SP.nil SBp.sl)) rfl (fun w' hw'=>(E.move kBh)) ?_
       obtain ⟨pBq,csBr,ptBs,lBt,atBu,relBv⟩:=h83.at (zap hx85)
       obtain ⟨vBw,rfl,hBx⟩:=zau relBv
       refine FB.t (i:=4) (bs 10 31) rfl (SP.on ((SBp.box_now (i:=0) rfl).sub (j:=1) (n:=1) (c:=[v40]) rfl) (SP.nil SBp.sl)) rfl (fun w' hw'=>(E.indexAddr te24 rfl rfl ptBs)) ?_
       refine FB.t (i:=5) (bs 10 63) rfl (SP.on ((SBp.box_now (i:=0) rfl).sub (j:=1) (n:=1) (c:=[v40]) rfl) (SP.nil SBp.sl)) rfl (fun w' hw'=>(E.load rfl (zaf Tryz.isAgg34 ((atBu.mono (i91.tr iAR)).now hw') rfl))) ?_
       refine FB.all1 (i:=6) (by kernel_rfl) ?_
       ·
        obtain ⟨vBy,wBz,runBA,SBB⟩:=SBp.buildSlice (P:=Tryz.prog) te24 [vBw] (parts:=#[(0,vBw)]) (cells:=[vBw]) rfl (zar (zaE hBx.cells) zal) (zaq hBx.cells zak) (zaa hBx.one zad) (Nat.le_of_ble_eq_true rfl)
        have elsBC:Els HAP (eL eI 1) 1 [vBw] [y84]:=(Els.snoc (H:=HAP) (E:=(eL eI 1)) (k:=1) (c:=[vBw]) (x:=y84) Els.nil rfl ⟨_,rfl,(hBx.mono (i91.tr iAR))⟩)
        refine FC.val (l':=(bs 10 127)) rfl (by kernel_rfl) rfl rfl rfl (E.buildSlice (B1 rfl) runBA) ?_
        refine ⟨(SP.on ((SBB.box_now (i:=1) rfl).sub (j:=1) (n:=1) (c:=[v40]) rfl) (SP.nil SBB.sl)),?_⟩
        refine FB.all1 (i:=7) (by kernel_rfl) ?_
        ·
         obtain ⟨vBF,wBI,nBG,csBH,runBJ,SBK,elsBL,ceBM⟩:=SBB.appendO (P:=Tryz.prog) te24 (i:=2) (j:=0) rfl (els88.mono iAR) rfl elsBC hzBE
         have SBK:St Ha wa HAP wBI [.row 34 1 vBy 1 [vBw],.box b67 26 [Value.int .i64 a0.vars,v40],.row 34 1 vBF nBG csBH,.box b29 26 [Value.int .i64 0,(Value.slice none 0 0)],.row 34 1 (Value.slice none 0 0) 0 []]:=SBK
         have SBN:St Ha wa HAP wBI [.box b67 26 [Value.int .i64 a0.vars,v40],.row 34 1 vBF nBG csBH,.box b29 26 [Value.int .i64 0,(Value.slice none 0 0)],.row 34 1 (Value.slice none 0 0) 0 []]:=SBK.drop 0
         refine FC.val (l':=(bs 10 255)) rfl (by kernel_rfl) rfl rfl rfl (E.append rfl rfl runBJ) ?_
         refine ⟨(SP.on ((SBN.box_now (i:=0) rfl).sub (j:=1) (n:=1) (c:=[v40]) rfl) (SP.nil SBN.sl)),?_⟩
         refine FB.t (i:=8) (bs 10 511) rfl (SP.on ((SBN.box_now (i:=0) rfl).sub (j:=1) (n:=1) (c:=[v40]) rfl) (SP.nil SBN.sl)) rfl (fun w' hw'=>(E.fieldAddr zan kBf)) ?_
         refine FB.all1 (i:=9) (by kernel_rfl) ?_
         ·
          obtain ⟨wBO,runBP,SBQ⟩:=SBN.store (P:=Tryz.prog) (t:=24) (i:=0) (j:=1) (cs':=[Value.int .i64 a0.vars,vBF]) (l':=[.box b67 26 [Value.int .i64 a0.vars,vBF],.row 34 1 vBF nBG csBH,.box b29 26 [Value.int .i64 0,(Value.slice none 0 0)],.row 34 1 (Value.slice none 0 0) 0 []]) (v:=vBF) (c:=[vBF]) rfl Tryz.sizeOf24 (Ln.cells (SBN.row_ln (i:=1) rfl)) rfl (zaa (Ln.one (SBN.row_ln (i:=1) rfl)) zad) (Nat.le_of_ble_eq_true rfl) rfl rfl
          refine FC.act (l':=(bs 10 1023)) rfl (by kernel_rfl) rfl rfl (E.store rfl rfl runBP) ?_
          refine ⟨(SP.o (SP.nil SBQ.sl)),?_⟩
          exact FB.done (by kernel_rfl) ⟨_,_,_,_,SBQ,(Inc.rfl _),elsBL,kBd,kBe,kBf,kBg,kBh⟩
      ·
       rintro fBZ wBY ⟨HBV,vBR,nBS,csBT,SBW,iBX,elsBU,kC0,kC1,kC2,kC3,kC4⟩
       refine FW.region ?_
       refine FL.v (E.move kC4) ?_
       refine FL.v (E.add rfl rfl) ?_
       refine FL.v (E.assign (v:=Value.int .i64 (wr (((i85:Nat):Int) + 1))) rfl) ?_
       refine FL.nil ?_
       obtain rfl:=Option.some.inj hp
       exact ⟨rfl,⟨_,_,_,_,SBW,((i91.tr iAR).tr iBX),elsBU,(zas rfl (zao hx85) (h83.mono ((i91.tr iAR).tr iBX)).le),kC0,kC1,kC2,kC3⟩⟩
     ·
      refine FW.condF kBi cBm ?_
      refine FW.skip (FW.region ?_)
      refine FL.v (E.move kBh) ?_
      refine FL.v (E.add rfl rfl) ?_
      refine FL.v (E.assign (v:=Value.int .i64 (wr (((i85:Nat):Int) + 1))) rfl) ?_
      refine FL.nil ?_
      obtain rfl:=Option.some.inj hp
      exact ⟨rfl,⟨_,_,_,_,SBk,(i91.tr iAR),(els88.mono iAR),(zas rfl (zao hx85) (h83.mono (i91.tr iAR)).le),kBd,kBe,kBf,kBg⟩⟩
    ·
     exact x99.elim
  ·
   clear hp hq
   rintro s85 fCA wCz ⟨HCw,v40,n86,cs87,SCx,iCy,els88,kCB,kCC,kCD,kCE,kCF⟩
   refine FW.seq (FW.seq (FW.region ?_))
   refine FL.v (E.move kCB) ?_
   refine FL.v (E.move kCF) ?_
   refine FL.v (E.lenP te24 rfl h83) ?_
   refine FL.v (E.lss rfl rfl) ?_
   refine FL.nil ?_
   refine FW.condF rfl zaz ?_
   refine FW.exit ?_
   exact ⟨nofun,rfl,⟨_,_,_,_,SCx,iCy,els88,kCD,kCE⟩⟩
  ·
   clear hq
   intro e fCa wC9 hD
   rcases q85 with s85|x85
   ·
    obtain ⟨rfl,hD⟩:=hD
    obtain ⟨HC6,v40,n86,cs87,SC7,iC8,els88,kCb,kCc⟩:=hD
    replace hp:=el_go hp
    refine FW.seq (FW.seq (FW.region ?_))
    refine FL.v (E.fieldAddr zan kCc) ?_
    refine FL.v (E.load rfl (zag Tryz.isAgg24 (SC7.box_now (i:=0) rfl) rfl)) ?_
    refine FL.v (E.lenO te24 rfl SC7 (i:=1) rfl els88 (by decide)) ?_
    refine FL.v (E.gtr rfl rfl) ?_
    refine FL.nil ?_
    rcases ifB hp with ⟨cCd,hp⟩|⟨cCd,hp⟩
    ·
     refine FW.condT rfl cCd ?_
     refine FW.seq (FW.region ?_)
     refine FL.v (E.build (B0) (run_build _ 26 #[] #[Value.int .i64 0,Value.slice none 0 0] (by rfl))) ?_
     have SCe:=SC7.nil 34 1
     have elsCf:Els (up wa.heap.size HC6) (eL eI 1) 1 [] []:=Els.nil
     obtain ⟨wCg,runCh,SCi⟩:=SCe.store0 (P:=Tryz.prog) (t:=26) (i:=3) (cs':=[Value.int .i64 0,(Value.slice none 0 0)]) (l':=[.row 34 1 (Value.slice none 0 0) 0 [],.box b67 26 [Value.int .i64 a0.vars,v40],.row 34 1 v40 n86 cs87,.box b29 26 [Value.int .i64 0,(Value.slice none 0 0)],.row 34 1 (Value.slice none 0 0) 0 []]) (v:=Value.agg #[Value.int .i64 0,(Value.slice none 0 0)]) (c:=[Value.int .i64 0,(Value.slice none 0 0)]) rfl Tryz.sizeOf26 rfl rfl (zaa rfl (zaa (Ln.one (SCe.row_ln (i:=0) rfl)) zad)) (Nat.le_of_ble_eq_true rfl) rfl rfl
     refine FL.act rfl rfl (E.store kCb rfl runCh) ?_
     refine FL.v (E.assign (v:=Value.bool false) rfl) ?_
     refine FL.nil ?_
     refine FW.ret ?_
     obtain ⟨HCj,SCk,iCl,nsCo,nvCn⟩:=SCi.sealRowN (i:=0) (l':=[.box b67 26 [Value.int .i64 a0.vars,v40],.row 34 1 v40 n86 cs87,.box b29 26 [Value.int .i64 0,(Value.slice none 0 0)],.row 34 1 (Value.slice none 0 0) 0 []]) rfl elsCf (show (bl []).Nodup from List.nodup_nil) (by decide) rfl
     have hCm:=nsCo.rsl
     obtain rfl:=Option.some.inj hp
     exact ⟨.inr rfl,resC2 rfl kCb (zaA Tryz.isAgg26 Tryz.sizeOf26 (SCk.box_now (i:=2) rfl) rfl) rfl ⟨_,_,rfl,SCk.run,(hCm.mono upI)⟩⟩
    ·
     refine FW.condF rfl cCd ?_
     refine FW.skip (FW.seq (FW.region ?_))
     refine FL.v (E.load kCc (zat Tryz.isAgg26 Tryz.sizeOf26 (SC7.box_now (i:=0) rfl) rfl)) ?_
     obtain ⟨wCp,runCq,SCr⟩:=SC7.store0 (P:=Tryz.prog) (t:=26) (i:=2) (cs':=[Value.int .i64 a0.vars,v40]) (l':=[.box b67 26 [Value.int .i64 a0.vars,v40],.row 34 1 v40 n86 cs87,.box b29 26 [Value.int .i64 a0.vars,v40],.row 34 1 (Value.slice none 0 0) 0 []]) (v:=Value.agg #[Value.int .i64 a0.vars,v40]) (c:=[Value.int .i64 a0.vars,v40]) rfl Tryz.sizeOf26 rfl rfl (zaa rfl (zaa (Ln.one (SC7.row_ln (i:=1) rfl)) zad)) (Nat.le_of_ble_eq_true rfl) rfl rfl
     refine FL.act rfl rfl (E.store kCb rfl runCq) ?_
     refine FL.v (E.assign (v:=Value.bool true) rfl) ?_
     refine FL.nil ?_
     refine FW.ret ?_
     obtain ⟨HCs,SCt,iCu,hCv⟩:=SCr.sealRow (i:=1) (l':=[.box b67 26 [Value.int .i64 a0.vars,v40],.box b29 26 [Value.int .i64 a0.vars,v40],.row 34 1 (Value.slice none 0 0) 0 []]) rfl els88 (by decide) rfl
     obtain rfl:=Option.some.inj hp
     exact ⟨.inr rfl,resC2 rfl kCb (zaA Tryz.isAgg26 Tryz.sizeOf26 (SCt.box_now (i:=1) rfl) rfl) rfl ⟨_,_,rfl,SCt.run,hCv⟩⟩
   ·
    exact x85.elim

end Go.Proofs
