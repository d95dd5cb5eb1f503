/- Part of the walks and plain laws behind the claim: it proves helpers, under no condition beyond their own. -/
import Derived.Test.YtkaikagbfoadpaaGreatFcWk1
set_option linter.unusedVariables false
set_option maxRecDepth 100000
namespace Go.Proofs
open Go.Mr Go.Pu Go.PF Go.RowKit

@[reducible] def p_spec_l1Cur_cnf (H0:GH) (w0:World) (Ha:GH) (L:List MO) (b0:Nat) (r:(Cnf×l1Cur)):Ending→World→Prop :=
 fun e w'=>∃ H':GH,∃ v0_1:Value,∃ v0_0r:Value,e=.returned (Value.agg #[Value.int .i64 r.1.vars,v0_1])∧(St H0 w0 H' w' (.box b0 103 [v0_0r,Value.int .i64 r.2.at_,Value.int .u64 r.2.seed]::L)∧Inc Ha H')∧RSl (up w0.heap.size H') (eL eI 1) 1 v0_1 r.1.clauses∧RSl H' (eN .u8) 1 v0_0r r.2.code
set_option maxHeartbeats 4000000 in
theorem w_spec_l1Cur_cnf {H0 Ha:GH} {w0 wa:World} {L:List MO} {a0:l1Cur} {b0:Nat} {v0_0:Value} (S0:St H0 w0 Ha wa (.box b0 103 [v0_0,Value.int .i64 a0.at_,Value.int .u64 a0.seed]::L)) (p0_0:RSl Ha (eN .u8) 1 v0_0 a0.code) {r:(Cnf×l1Cur)} (hp:(PF.zcN a0)=some r) :
  Calls Tryz.prog 134 #[Value.pointer (some (⟨b0,0,none⟩:Addr))] wa (p_spec_l1Cur_cnf H0 w0 Ha L b0 r):=by
 unfold PF.zcN at hp
 refine zaj (N:=76) (args:=[Value.pointer (some (⟨b0,0,none⟩:Addr))]) Tryz.func134 rfl rfl rfl ?_
 refine FW.seq (FW.region ?_)
 obtain ⟨b21,w22,run23,S24⟩:=S0.alloc (P:=Tryz.prog) 26 [Value.int .i64 0,Value.slice none 0 0] Tryz.zeroValue26 rfl (zab rfl (zab rfl zae))
 refine FL.v (E.alloc run23) ?_
 refine FL.nil (FW.seq (FW.seq (FW.region ?_)))
 refine FL.v (E.move (v:=Value.pointer (some (⟨b0,0,none⟩:Addr))) rfl) ?_
 obtain ⟨r25,hr26,hp⟩:=bnd hp
 have S27:St H0 w0 Ha w22 (.box b0 103 [v0_0,Value.int .i64 a0.at_,Value.int .u64 a0.seed]::.box b21 26 [Value.int .i64 0,Value.slice none 0 0]::L):=S24.front 1 rfl rfl
 refine FL.call rfl rfl rfl (E.call Tryz.call68 (A2 rfl rfl)) (zbn (L:=(.box b21 26 [Value.int .i64 0,Value.slice none 0 0]::L)) S27 (a0:=a0) p0_0 4 hr26) ?_
 rintro e w29 ⟨H28,v32,rfl,⟨S30,i31⟩,h33⟩
 refine ⟨_,rfl,?_⟩
 have S30:St H0 w0 H28 w29 (.box b0 103 [v32,Value.int .i64 r25.2.at_,Value.int .u64 r25.2.seed]::.box b21 26 [Value.int .i64 0,Value.slice none 0 0]::L):=S30
 refine FL.nil ?_
 rcases ifB hp with ⟨c34,hp⟩|⟨c34,hp⟩
 ·
  refine FW.condT rfl c34 ?_
  refine FW.seq (FW.region ?_)
  refine FL.v (E.move (v:=Value.pointer (some (⟨b0,0,none⟩:Addr))) rfl) ?_
  obtain ⟨r35,hr36,hp⟩:=bnd hp
  refine FL.call rfl rfl rfl (E.call Tryz.call94 (A1 rfl)) (zel (L:=(.box b21 26 [Value.int .i64 0,Value.slice none 0 0]::L)) S30 (a0:=r25.2) h33 hr36) ?_
  rintro e w38 ⟨H37,v41,v43,rfl,⟨S39,i40⟩,⟨_,⟨h42,_⟩⟩,h44⟩
  refine ⟨_,rfl,?_⟩
  have S39:St H0 w0 H37 w38 (.box b0 103 [v43,Value.int .i64 r35.2.at_,Value.int .u64 r35.2.seed]::.box b21 26 [Value.int .i64 0,Value.slice none 0 0]::L):=S39
  obtain ⟨w45,run46,S47⟩:=S39.store0 (P:=Tryz.prog) (t:=26) (i:=1) (cs':=[Value.int .i64 r35.1.vars,v41]) (l':=(.box b0 103 [v43,Value.int .i64 r35.2.at_,Value.int .u64 r35.2.seed]::.box b21 26 [Value.int .i64 r35.1.vars,v41]::L)) (v:=Value.agg #[Value.int .i64 r35.1.vars,v41]) (c:=[Value.int .i64 r35.1.vars,v41]) rfl Tryz.sizeOf26 rfl rfl (zab rfl (zab h42.one zae)) (Nat.le_of_ble_eq_true rfl) rfl rfl
  refine FL.act rfl rfl (E.store rfl rfl run46) ?_
  refine FL.nil ?_
  refine FW.ret ?_
  obtain rfl:=Option.some.inj hp
  exact ⟨.inr rfl,resC rfl rfl (zaA Tryz.isAgg26 Tryz.sizeOf26 (S47.box_now (i:=1) rfl) rfl) ⟨_,_,_,rfl,⟨(S47.selT (a:=[.box b0 103 [v43,Value.int .i64 r35.2.at_,Value.int .u64 r35.2.seed],.box b21 26 [Value.int .i64 r35.1.vars,v41]]) (l':=[.box b0 103 [v43,Value.int .i64 r35.2.at_,Value.int .u64 r35.2.seed]]) [0] (by decide) rfl),(i31.tr i40)⟩,h42,h44⟩⟩
 ·
  refine FW.condF rfl c34 ?_
  refine FW.skip (FW.seq (FW.region ?_))
  refine FL.v (E.move (v:=Value.pointer (some (⟨b0,0,none⟩:Addr))) rfl) ?_
  obtain ⟨v48,w49,run50,S51,els52⟩:=S30.ints (P:=Tryz.prog) te52 (up w0.heap.size H28) 5 [2,3,3,4,5]
  refine FL.v (E.buildSlice (B5 rfl rfl rfl rfl rfl) run50) ?_
  obtain ⟨H53,S54,i55,h56,nv57⟩:=S51.sealRowU (i:=0) (l':=(.box b0 103 [v32,Value.int .i64 r25.2.at_,Value.int .u64 r25.2.seed]::.box b21 26 [Value.int .i64 0,Value.slice none 0 0]::L)) rfl els52 (by decide) rfl
  obtain ⟨r58,hr59,hp⟩:=bnd hp
  refine FL.call rfl rfl rfl (E.call Tryz.call104 (A2 rfl rfl)) (zbo (L:=(.box b21 26 [Value.int .i64 0,Value.slice none 0 0]::L)) S54 (a0:=r25.2) (h33.mono i55) v48 [2,3,3,4,5] (h56.mono upI) hr59) ?_
  rintro e w61 ⟨H60,v64,rfl,⟨S62,i63⟩,h65⟩
  refine ⟨_,rfl,?_⟩
  have S62:St H0 w0 H60 w61 (.box b0 103 [v64,Value.int .i64 r58.2.at_,Value.int .u64 r58.2.seed]::.box b21 26 [Value.int .i64 0,Value.slice none 0 0]::L):=S62
  obtain ⟨v66,w67,run68,S69⟩:=S62.buildSlice (P:=Tryz.prog) te24 [] (parts:=#[]) (cells:=[]) rfl zan zam zae (Nat.le_of_ble_eq_true rfl)
  have els70:Els (up w0.heap.size H60) (eL eI 1) 1 [] []:=Els.nil
  refine FL.v (E.buildSlice (B0) run68) ?_
  refine FL.v (E.build (B2 rfl rfl) (run_build _ 26 #[(0,Value.int .i64 r58.1),(1,v66)] #[Value.int .i64 r58.1,v66] (by obtain ⟨_,_,rfl⟩:=S69.row_ln (i:=0) rfl;rfl))) ?_
  obtain ⟨b71,w72,run73,S74⟩:=S69.alloc (P:=Tryz.prog) 26 [Value.int .i64 0,Value.slice none 0 0] Tryz.zeroValue26 rfl (zab rfl (zab rfl zae))
  refine FL.v (E.alloc run73) ?_
  obtain ⟨w75,run76,S77⟩:=S74.store0 (P:=Tryz.prog) (t:=26) (i:=0) (cs':=[Value.int .i64 r58.1,v66]) (l':=(.box b71 26 [Value.int .i64 r58.1,v66]::.row 52 1 v66 0 []::.box b0 103 [v64,Value.int .i64 r58.2.at_,Value.int .u64 r58.2.seed]::.box b21 26 [Value.int .i64 0,Value.slice none 0 0]::L)) (v:=Value.agg #[Value.int .i64 r58.1,v66]) (c:=[Value.int .i64 r58.1,v66]) rfl Tryz.sizeOf26 rfl rfl (zab rfl (zab (Ln.one (S74.row_ln (i:=1) rfl)) zae)) (Nat.le_of_ble_eq_true rfl) rfl rfl
  refine FL.act rfl rfl (E.store rfl rfl run76) ?_
  refine FL.nil (FW.seq (FW.seq (FW.region ?_)))
  refine FL.v (E.move (v:=Value.pointer (some (⟨b0,0,none⟩:Addr))) rfl) ?_
  obtain ⟨r78,hr79,hp⟩:=bnd hp
  have S80:St H0 w0 H60 w75 (.box b0 103 [v64,Value.int .i64 r58.2.at_,Value.int .u64 r58.2.seed]::.box b71 26 [Value.int .i64 r58.1,v66]::.row 52 1 v66 0 []::.box b21 26 [Value.int .i64 0,Value.slice none 0 0]::L):=S77.front 2 rfl rfl
  refine FL.call rfl rfl rfl (E.call Tryz.call78 (A2 rfl rfl)) (za5 (L:=(.box b71 26 [Value.int .i64 r58.1,v66]::.row 52 1 v66 0 []::.box b21 26 [Value.int .i64 0,Value.slice none 0 0]::L)) S80 (a0:=r58.2) h65 10 hr79) ?_
  rintro e w82 ⟨H81,v85,rfl,⟨S83,i84⟩,h86⟩
  refine ⟨_,rfl,?_⟩
  have S83:St H0 w0 H81 w82 (.box b0 103 [v85,Value.int .i64 r78.2.at_,Value.int .u64 r78.2.seed]::.box b71 26 [Value.int .i64 r58.1,v66]::.row 52 1 v66 0 []::.box b21 26 [Value.int .i64 0,Value.slice none 0 0]::L):=S83
  refine FL.v (E.assign (v:=Value.int .i64 r78.1) rfl) ?_
  refine FL.nil ?_
  obtain ⟨q87,hq,hp⟩:=bndR hp
  refine FW.block ?_
  refine FW.mono (FW.iter (S:=((List (List Int))×(List Int)×Int×Int×Int×Int)) (X:=Empty) (fun (s87:((List (List Int))×(List Int)×Int×Int×Int×Int)) f w=>∃ H:GH,∃ v88:Value,∃ n89:Nat,∃ cs90:List Value,∃ v93:Value,St H0 w0 H w (.box b0 103 [v93,Value.int .i64 s87.2.2.1,Value.int .u64 s87.2.2.2.1]::.box b71 26 [Value.int .i64 s87.2.2.2.2.1,v88]::.row 52 1 v88 n89 cs90::.box b21 26 [Value.int .i64 0,Value.slice none 0 0]::L)∧Inc H81 H∧Els (up w0.heap.size H) (eL eI 1) 1 cs90 s87.1∧RSl H (eN .u8) 1 v93 s87.2.1∧(bl cs90).Nodup∧f 0=Value.pointer (some (⟨b0,0,none⟩:Addr))∧f 2=Value.pointer (some (⟨b21,0,none⟩:Addr))∧f 3=Value.pointer (some (⟨b71,0,none⟩:Addr))∧f 4=Value.int .i64 s87.2.2.2.2.2) (fun (q:Rs ((List (List Int))×(List Int)×Int×Int×Int×Int) Empty) e f w=>match q with|.go s87=>e=Exit.exit 0∧(∃ H:GH,∃ v88:Value,∃ n89:Nat,∃ cs90:List Value,∃ v93:Value,St H0 w0 H w (.box b0 103 [v93,Value.int .i64 s87.2.2.1,Value.int .u64 s87.2.2.2.1]::.box b71 26 [Value.int .i64 s87.2.2.2.2.1,v88]::.row 52 1 v88 n89 cs90::.box b21 26 [Value.int .i64 0,Value.slice none 0 0]::L)∧Inc H81 H∧Els (up w0.heap.size H) (eL eI 1) 1 cs90 s87.1∧RSl H (eN .u8) 1 v93 s87.2.1∧(bl cs90).Nodup∧f 0=Value.pointer (some (⟨b0,0,none⟩:Addr))∧f 2=Value.pointer (some (⟨b21,0,none⟩:Addr))∧f 3=Value.pointer (some (⟨b71,0,none⟩:Addr)))|.rt x=>x.elim) hq ⟨_,_,_,_,_,S83,(Inc.rfl _),(els70.mono (zaf i84)),h86,(show (bl []).Nodup from List.nodup_nil),rfl,rfl,rfl,rfl⟩ ?_) ?_
  ·
   clear hp hq
   rintro s87 f99 w98 ⟨H95,v88,n89,cs90,v93,S96,i97,els91,h94,nd92,kA0,kA1,kA2,kA3⟩ oB0 hp
   refine FW.seq (FW.seq (FW.region ?_))
   refine FL.v (E.move kA3) ?_
   refine FL.v (E.gtr rfl rfl) ?_
   refine FL.nil ?_
   rcases ifB hp with ⟨cA4,hp⟩|⟨cA4,hp⟩
   ·
    refine FW.condT rfl cA4 ?_
    refine FW.skip (FW.seq (FW.block ?_))
    obtain ⟨rA8,hrA9,hp⟩:=bnd hp
    obtain ⟨xsAv,hzAw,hp⟩:=bnd hp
    refine FW.drawB (Sl H95) (fun f w=>∃ H:GH,∃ vAK:Value,∃ nAL:Nat,∃ csAM:List Value,∃ vAP:Value,St H0 w0 H w (.box b0 103 [vAP,Value.int .i64 rA8.2.at_,Value.int .u64 rA8.2.seed]::.box b71 26 [Value.int .i64 s87.2.2.2.2.1,vAK]::.row 52 1 vAK nAL csAM::.box b21 26 [Value.int .i64 0,Value.slice none 0 0]::L)∧Inc H95 H∧Els (up w0.heap.size H) (eL eI 1) 1 csAM xsAv∧RSl H (eN .u8) 1 vAP rA8.2.code∧(bl csAM).Nodup∧f 0=Value.pointer (some (⟨b0,0,none⟩:Addr))∧f 2=Value.pointer (some (⟨b21,0,none⟩:Addr))∧f 3=Value.pointer (some (⟨b71,0,none⟩:Addr))∧f 4=Value.int .i64 s87.2.2.2.2.2) (by kernel_rfl) S96.sl ?_ ?_
    ·
     intro wA5 rA6
     have SA7:=S96.call rA6
     refine FB.phase [] (fun w=>WAt w (Addr.add ⟨b71,0,none⟩ 0) [Value.int .i64 s87.2.2.2.2.1]) ?_
     refine FB.phase [9] (fun w=>WAt w (Addr.add ⟨b71,0,none⟩ 1) [v88]) ?_
     refine FB.t (i:=0) (bs 10 1) rfl (SP.on ((SA7.box_now (i:=1) rfl).sub (j:=1) (n:=1) (c:=[v88]) rfl) (SP.on ((SA7.box_now (i:=1) rfl).sub (j:=0) (n:=1) (c:=[Value.int .i64 s87.2.2.2.2.1]) rfl) (SP.nil SA7.sl))) rfl (fun w' hw'=>(E.fieldAddr zay kA2)) ?_
     refine FB.p (i:=1) (bs 10 3) 0 [7,8,9] rfl (SP.on ((SA7.box_now (i:=1) rfl).sub (j:=1) (n:=1) (c:=[v88]) rfl) (SP.on ((SA7.box_now (i:=1) rfl).sub (j:=0) (n:=1) (c:=[Value.int .i64 s87.2.2.2.2.1]) rfl) (SP.nil SA7.sl))) rfl rfl (fun w' hw'=>(E.load rfl (zak Tryz.isAgg24 hw' rfl))) ?_
     refine FB.t (i:=2) (bs 10 7) rfl (SP.on ((SA7.box_now (i:=1) rfl).sub (j:=1) (n:=1) (c:=[v88]) rfl) (SP.on ((SA7.box_now (i:=1) rfl).sub (j:=0) (n:=1) (c:=[Value.int .i64 s87.2.2.2.2.1]) rfl) (SP.nil SA7.sl))) rfl (fun w' hw'=>(E.move kA0)) ?_
     refine FB.t (i:=3) (bs 10 15) rfl (SP.on ((SA7.box_now (i:=1) rfl).sub (j:=1) (n:=1) (c:=[v88]) rfl) (SP.on ((SA7.box_now (i:=1) rfl).sub (j:=0) (n:=1) (c:=[Value.int .i64 s87.2.2.2.2.1]) rfl) (SP.nil SA7.sl))) rfl (fun w' hw'=>(E.fieldAddr zaC kA2)) ?_
     refine FB.p (i:=4) (bs 10 31) 1 [5,6,7,8,9] rfl (SP.on ((SA7.box_now (i:=1) rfl).sub (j:=1) (n:=1) (c:=[v88]) rfl) (SP.on ((SA7.box_now (i:=1) rfl).sub (j:=0) (n:=1) (c:=[Value.int .i64 s87.2.2.2.2.1]) rfl) (SP.nil SA7.sl))) rfl rfl (fun w' hw'=>(E.load rfl (zak Tryz.isAgg3 hw' rfl))) ?_
     refine FB.all1 (i:=5) (by kernel_rfl) ?_
     ·
      refine FC.call (l':=(bs 10 63)) rfl (by kernel_rfl) rfl rfl rfl (E.call Tryz.call161 (A2 rfl rfl)) (zcv (L:=(.box b71 26 [Value.int .i64 s87.2.2.2.2.1,v88]::.row 52 1 v88 n89 cs90::.box b21 26 [Value.int .i64 0,Value.slice none 0 0]::L)) SA7 (a0:=(l1Cur.mk s87.2.1 s87.2.2.1 s87.2.2.2.1)) h94 s87.2.2.2.2.1 hrA9) ?_
      rintro e wAb ⟨HAa,vAe,nAf,csAg,vAi,rfl,⟨SAc,iAd⟩,elsAh,hAj⟩
      refine ⟨_,rfl,?_⟩
      have SAc:St H0 w0 HAa wAb (.row 3 1 vAe nAf csAg::.box b0 103 [vAi,Value.int .i64 rA8.2.at_,Value.int .u64 rA8.2.seed]::.box b71 26 [Value.int .i64 s87.2.2.2.2.1,v88]::.row 52 1 v88 n89 cs90::.box b21 26 [Value.int .i64 0,Value.slice none 0 0]::L):=SAc
      refine ⟨(SP.on ((SAc.box_now (i:=2) rfl).sub (j:=1) (n:=1) (c:=[v88]) rfl) (SP.on ((SAc.box_now (i:=2) rfl).sub (j:=0) (n:=1) (c:=[Value.int .i64 s87.2.2.2.2.1]) rfl) (SP.nil (Sl.of_inc iAd SAc.sl)))),?_⟩
      refine FB.all1 (i:=6) (by kernel_rfl) ?_
      ·
       obtain ⟨HAk,SAl,iAm,hAn,nvAo⟩:=SAc.sealRowU (i:=0) (l':=(.box b0 103 [vAi,Value.int .i64 rA8.2.at_,Value.int .u64 rA8.2.seed]::.box b71 26 [Value.int .i64 s87.2.2.2.2.1,v88]::.row 52 1 v88 n89 cs90::.box b21 26 [Value.int .i64 0,Value.slice none 0 0]::L)) rfl elsAh (by decide) rfl
       obtain ⟨vAp,wAq,runAr,SAs⟩:=SAl.buildSlice (P:=Tryz.prog) te24 [vAe] (parts:=#[(0,vAe)]) (cells:=[vAe]) rfl (zas (zba hAn.cells) zan) (zar hAn.cells zam) (zab hAn.one zae) (Nat.le_of_ble_eq_true rfl)
       have elsAt:Els (up w0.heap.size HAk) (eL eI 1) 1 [vAe] [rA8.1]:=(Els.snoc (H:=(up w0.heap.size HAk)) (E:=(eL eI 1)) (k:=1) (c:=[vAe]) (x:=rA8.1) Els.nil rfl ⟨_,rfl,hAn⟩)
       have ndAu:(bl [vAe]).Nodup:=by exact zaT vAe
       refine FC.val (l':=(bs 10 127)) rfl (by kernel_rfl) rfl rfl rfl (E.buildSlice (B1 rfl) runAr) ?_
       refine ⟨(SP.on ((SAs.box_now (i:=2) rfl).sub (j:=1) (n:=1) (c:=[v88]) rfl) (SP.on ((SAs.box_now (i:=2) rfl).sub (j:=0) (n:=1) (c:=[Value.int .i64 s87.2.2.2.2.1]) rfl) (SP.nil (Sl.of_inc (iAd.tr iAm) SAs.sl)))),?_⟩
       refine FB.all1 (i:=7) (by kernel_rfl) ?_
       ·
        obtain ⟨vAx,wAA,nAy,csAz,runAB,SAC,elsAD,ceAE⟩:=SAs.appendO (P:=Tryz.prog) te24 (i:=3) (j:=0) rfl (els91.mono (zaf (iAd.tr iAm))) rfl elsAt hzAw
        have SAC:St H0 w0 HAk wAA (.row 52 1 vAp 1 [vAe]::.box b0 103 [vAi,Value.int .i64 rA8.2.at_,Value.int .u64 rA8.2.seed]::.box b71 26 [Value.int .i64 s87.2.2.2.2.1,v88]::.row 52 1 vAx nAy csAz::.box b21 26 [Value.int .i64 0,Value.slice none 0 0]::L):=SAC
        have ndAF:(bl csAz).Nodup:=by rw [ceAE];exact zaS nd92 ndAu (Els.dom (els91.mono (upI.tr iAd))) (by exact nvAo)
        have SAG:St H0 w0 HAk wAA (.box b0 103 [vAi,Value.int .i64 rA8.2.at_,Value.int .u64 rA8.2.seed]::.box b71 26 [Value.int .i64 s87.2.2.2.2.1,v88]::.row 52 1 vAx nAy csAz::.box b21 26 [Value.int .i64 0,Value.slice none 0 0]::L):=SAC.drop 0
        refine FC.val (l':=(bs 10 255)) rfl (by kernel_rfl) rfl rfl rfl (E.append rfl rfl runAB) ?_
        refine ⟨(SP.on ((SAG.box_now (i:=1) rfl).sub (j:=1) (n:=1) (c:=[v88]) rfl) (SP.on ((SAG.box_now (i:=1) rfl).sub (j:=0) (n:=1) (c:=[Value.int .i64 s87.2.2.2.2.1]) rfl) (SP.nil (Sl.of_inc (iAd.tr iAm) SAG.sl)))),?_⟩
        refine FB.t (i:=8) (bs 10 511) rfl (SP.on ((SAG.box_now (i:=1) rfl).sub (j:=1) (n:=1) (c:=[v88]) rfl) (SP.on ((SAG.box_now (i:=1) rfl).sub (j:=0) (n:=1) (c:=[Value.int .i64 s87.2.2.2.2.1]) rfl) (SP.nil (Sl.of_inc (iAd.tr iAm) SAG.sl)))) rfl (fun w' hw'=>(E.fieldAddr zay kA2)) ?_
        refine FB.all1 (i:=9) (by kernel_rfl) ?_
        ·
         obtain ⟨wAH,runAI,SAJ⟩:=SAG.store (P:=Tryz.prog) (t:=24) (i:=1) (j:=1) (cs':=[Value.int .i64 s87.2.2.2.2.1,vAx]) (l':=(.box b0 103 [vAi,Value.int .i64 rA8.2.at_,Value.int .u64 rA8.2.seed]::.box b71 26 [Value.int .i64 s87.2.2.2.2.1,vAx]::.row 52 1 vAx nAy csAz::.box b21 26 [Value.int .i64 0,Value.slice none 0 0]::L)) (v:=vAx) (c:=[vAx]) rfl Tryz.sizeOf24 (Ln.cells (SAG.row_ln (i:=2) rfl)) rfl (zab (Ln.one (SAG.row_ln (i:=2) rfl)) zae) (Nat.le_of_ble_eq_true rfl) rfl rfl
         refine FC.act (l':=(bs 10 1023)) rfl (by kernel_rfl) rfl rfl (E.store rfl rfl runAI) ?_
         refine ⟨(SP.o (SP.on ((SAJ.box_now (i:=1) rfl).sub (j:=0) (n:=1) (c:=[Value.int .i64 s87.2.2.2.2.1]) rfl) (SP.nil (Sl.of_inc (iAd.tr iAm) SAJ.sl)))),?_⟩
         exact FB.done (by kernel_rfl) ⟨_,_,_,_,_,SAJ,(iAd.tr iAm),elsAD,(hAj.mono iAm),ndAF,kA0,kA1,kA2,kA3⟩
    ·
     rintro fAV wAU ⟨HAR,vAK,nAL,csAM,vAP,SAS,iAT,elsAN,hAQ,ndAO,kAW,kAX,kAY,kAZ⟩
     refine FW.region ?_
     refine FL.v (E.move kAZ) ?_
     refine FL.v (E.sub rfl rfl) ?_
     refine FL.v (E.assign (v:=Value.int .i64 (wr (s87.2.2.2.2.2 - 1))) rfl) ?_
     refine FL.nil ?_
     obtain rfl:=Option.some.inj hp
     exact ⟨rfl,⟨_,_,_,_,_,SAS,(i97.tr iAT),elsAN,hAQ,ndAO,kAW,kAX,kAY,rfl⟩⟩
   ·
    refine FW.condF rfl cA4 ?_
    refine FW.exit ?_
    obtain rfl:=Option.some.inj hp
    exact ⟨nofun,rfl,⟨_,_,_,_,_,S96,i97,els91,h94,nd92,kA0,kA1,kA2⟩⟩
  ·
   clear hq
   intro e fB5 wB4 hD
   rcases q87 with s87|x87
   ·
    obtain ⟨rfl,hD⟩:=hD
    obtain ⟨HB1,v88,n89,cs90,v93,SB2,iB3,els91,h94,nd92,kB6,kB7,kB8⟩:=hD
    replace hp:=el_go hp
    refine FW.seq (FW.seq (FW.region ?_))
    refine FL.v (E.move kB6) ?_
    obtain ⟨rB9,hrBa,hp⟩:=bnd hp
    refine FL.call rfl rfl rfl (E.call Tryz.call78 (A2 rfl rfl)) (za5 (L:=(.box b71 26 [Value.int .i64 s87.2.2.2.2.1,v88]::.row 52 1 v88 n89 cs90::.box b21 26 [Value.int .i64 0,Value.slice none 0 0]::L)) SB2 (a0:=(l1Cur.mk s87.2.1 s87.2.2.1 s87.2.2.2.1)) h94 40 hrBa) ?_
    rintro e wBc ⟨HBb,vBf,rfl,⟨SBd,iBe⟩,hBg⟩
    refine ⟨_,rfl,?_⟩
    have SBd:St H0 w0 HBb wBc (.box b0 103 [vBf,Value.int .i64 rB9.2.at_,Value.int .u64 rB9.2.seed]::.box b71 26 [Value.int .i64 s87.2.2.2.2.1,v88]::.row 52 1 v88 n89 cs90::.box b21 26 [Value.int .i64 0,Value.slice none 0 0]::L):=SBd
    refine FL.nil (FW.block (FW.seq (FW.region ?_)))
    refine FL.v (E.eql rfl rfl) ?_
    refine FL.v (E.assign (v:=Value.bool (rB9.1 == 0)) rfl) ?_
    refine FL.nil ?_
    rcases ifB hp with ⟨cBh,hp⟩|⟨cBh,hp⟩
    ·
     refine FW.condT rfl cBh ?_
     refine FW.region ?_
     refine FL.v (E.move kB6) ?_
     obtain ⟨vBi,wBj,runBk,SBl,elsBm⟩:=SBd.ints (P:=Tryz.prog) te52 (up w0.heap.size HBb) 5 [(-1),13,12,0,1]
     refine FL.v (E.buildSlice (B5 rfl rfl rfl rfl rfl) runBk) ?_
     obtain ⟨HBn,SBo,iBp,hBq,nvBr⟩:=SBl.sealRowU (i:=0) (l':=(.box b0 103 [vBf,Value.int .i64 rB9.2.at_,Value.int .u64 rB9.2.seed]::.box b71 26 [Value.int .i64 s87.2.2.2.2.1,v88]::.row 52 1 v88 n89 cs90::.box b21 26 [Value.int .i64 0,Value.slice none 0 0]::L)) rfl elsBm (by decide) rfl
     obtain ⟨rBs,hrBt,hp⟩:=bnd hp
     refine FL.call rfl rfl rfl (E.call Tryz.call104 (A2 rfl rfl)) (zbo (L:=(.box b71 26 [Value.int .i64 s87.2.2.2.2.1,v88]::.row 52 1 v88 n89 cs90::.box b21 26 [Value.int .i64 0,Value.slice none 0 0]::L)) SBo (a0:=rB9.2) (hBg.mono iBp) vBi [(-1),13,12,0,1] (hBq.mono upI) hrBt) ?_
     rintro e wBv ⟨HBu,vBy,rfl,⟨SBw,iBx⟩,hBz⟩
     refine ⟨_,rfl,?_⟩
     have SBw:St H0 w0 HBu wBv (.box b0 103 [vBy,Value.int .i64 rBs.2.at_,Value.int .u64 rBs.2.seed]::.box b71 26 [Value.int .i64 s87.2.2.2.2.1,v88]::.row 52 1 v88 n89 cs90::.box b21 26 [Value.int .i64 0,Value.slice none 0 0]::L):=SBw
     refine FL.v (E.fieldAddr zaC kB8) ?_
     obtain ⟨wBA,runBB,SBC⟩:=SBw.store (P:=Tryz.prog) (t:=3) (i:=1) (j:=0) (cs':=[Value.int .i64 rBs.1,v88]) (l':=(.box b0 103 [vBy,Value.int .i64 rBs.2.at_,Value.int .u64 rBs.2.seed]::.box b71 26 [Value.int .i64 rBs.1,v88]::.row 52 1 v88 n89 cs90::.box b21 26 [Value.int .i64 0,Value.slice none 0 0]::L)) (v:=Value.int .i64 rBs.1) (c:=[Value.int .i64 rBs.1]) rfl Tryz.sizeOf3 rfl rfl (zab rfl zae) (Nat.le_of_ble_eq_true rfl) rfl rfl
     refine FL.act rfl rfl (E.store rfl rfl runBB) ?_
     refine FL.nil (FW.seq (FW.region ?_))
     refine FL.v (E.load kB8 (zal Tryz.isAgg26 Tryz.sizeOf26 (SBC.box_now (i:=1) rfl) rfl)) ?_
     obtain ⟨wBD,runBE,SBF⟩:=SBC.store0 (P:=Tryz.prog) (t:=26) (i:=3) (cs':=[Value.int .i64 rBs.1,v88]) (l':=(.box b0 103 [vBy,Value.int .i64 rBs.2.at_,Value.int .u64 rBs.2.seed]::.box b71 26 [Value.int .i64 rBs.1,v88]::.row 52 1 v88 n89 cs90::.box b21 26 [Value.int .i64 rBs.1,v88]::L)) (v:=Value.agg #[Value.int .i64 rBs.1,v88]) (c:=[Value.int .i64 rBs.1,v88]) rfl Tryz.sizeOf26 rfl rfl (zab rfl (zab (Ln.one (SBC.row_ln (i:=2) rfl)) zae)) (Nat.le_of_ble_eq_true rfl) rfl rfl
     refine FL.act rfl rfl (E.store kB7 rfl runBE) ?_
     refine FL.nil ?_
     refine FW.ret ?_
     obtain ⟨HBG,SBH,iBI,nsBL,nvBK⟩:=SBF.sealRowN (i:=2) (l':=(.box b0 103 [vBy,Value.int .i64 rBs.2.at_,Value.int .u64 rBs.2.seed]::.box b71 26 [Value.int .i64 rBs.1,v88]::.box b21 26 [Value.int .i64 rBs.1,v88]::L)) rfl (els91.mono (zaf ((iBe.tr iBp).tr iBx))) nd92 (by decide) rfl
     have hBJ:=nsBL.rsl
     obtain rfl:=Option.some.inj hp
     exact ⟨.inr rfl,resC rfl kB7 (zaA Tryz.isAgg26 Tryz.sizeOf26 (SBH.box_now (i:=2) rfl) rfl) ⟨_,_,_,rfl,⟨(SBH.selT (a:=[.box b0 103 [vBy,Value.int .i64 rBs.2.at_,Value.int .u64 rBs.2.seed],.box b71 26 [Value.int .i64 rBs.1,v88],.box b21 26 [Value.int .i64 rBs.1,v88]]) (l':=[.box b0 103 [vBy,Value.int .i64 rBs.2.at_,Value.int .u64 rBs.2.seed]]) [0] (by decide) rfl),((((((((i31.tr i55).tr i63).tr i84).tr iB3).tr iBe).tr iBp).tr iBx).tr iBI)⟩,hBJ,(hBz.mono iBI)⟩⟩
    ·
     refine FW.condF rfl cBh ?_
     refine FW.seq (FW.region ?_)
     refine FL.v (E.eql rfl rfl) ?_
     refine FL.v (E.assign (v:=Value.bool (rB9.1 == 1)) rfl) ?_
     refine FL.nil ?_
     rcases ifB hp with ⟨cBM,hp⟩|⟨cBM,hp⟩
     ·
      refine FW.condT rfl cBM ?_
      obtain ⟨rBQ,hrBR,hp⟩:=bnd hp
      obtain ⟨xsCd,hzCe,hp⟩:=bnd hp
      refine FW.drawB (Sl HBb) (fun f w=>∃ H:GH,∃ vCs:Value,∃ nCt:Nat,∃ csCu:List Value,∃ vCx:Value,St H0 w0 H w (.box b0 103 [vCx,Value.int .i64 rBQ.2.at_,Value.int .u64 rBQ.2.seed]::.box b71 26 [Value.int .i64 s87.2.2.2.2.1,vCs]::.row 52 1 vCs nCt csCu::.box b21 26 [Value.int .i64 0,Value.slice none 0 0]::L)∧Inc HBb H∧Els (up w0.heap.size H) (eL eI 1) 1 csCu xsCd∧RSl H (eN .u8) 1 vCx rBQ.2.code∧(bl csCu).Nodup∧f 2=Value.pointer (some (⟨b21,0,none⟩:Addr))∧f 3=Value.pointer (some (⟨b71,0,none⟩:Addr))) (by kernel_rfl) SBd.sl ?_ ?_
      ·
       intro wBN rBO
       have SBP:=SBd.call rBO
       refine FB.phase [] (fun w=>WAt w (Addr.add ⟨b71,0,none⟩ 0) [Value.int .i64 s87.2.2.2.2.1]) ?_
       refine FB.phase [9] (fun w=>WAt w (Addr.add ⟨b71,0,none⟩ 1) [v88]) ?_
       refine FB.t (i:=0) (bs 10 1) rfl (SP.on ((SBP.box_now (i:=1) rfl).sub (j:=1) (n:=1) (c:=[v88]) rfl) (SP.on ((SBP.box_now (i:=1) rfl).sub (j:=0) (n:=1) (c:=[Value.int .i64 s87.2.2.2.2.1]) rfl) (SP.nil SBP.sl))) rfl (fun w' hw'=>(E.fieldAddr zay kB8)) ?_
       refine FB.p (i:=1) (bs 10 3) 0 [7,8,9] rfl (SP.on ((SBP.box_now (i:=1) rfl).sub (j:=1) (n:=1) (c:=[v88]) rfl) (SP.on ((SBP.box_now (i:=1) rfl).sub (j:=0) (n:=1) (c:=[Value.int .i64 s87.2.2.2.2.1]) rfl) (SP.nil SBP.sl))) rfl rfl (fun w' hw'=>(E.load rfl (zak Tryz.isAgg24 hw' rfl))) ?_
       refine FB.t (i:=2) (bs 10 7) rfl (SP.on ((SBP.box_now (i:=1) rfl).sub (j:=1) (n:=1) (c:=[v88]) rfl) (SP.on ((SBP.box_now (i:=1) rfl).sub (j:=0) (n:=1) (c:=[Value.int .i64 s87.2.2.2.2.1]) rfl) (SP.nil SBP.sl))) rfl (fun w' hw'=>(E.move kB6)) ?_
       refine FB.t (i:=3) (bs 10 15) rfl (SP.on ((SBP.box_now (i:=1) rfl).sub (j:=1) (n:=1) (c:=[v88]) rfl) (SP.on ((SBP.box_now (i:=1) rfl).sub (j:=0) (n:=1) (c:=[Value.int .i64 s87.2.2.2.2.1]) rfl) (SP.nil SBP.sl))) rfl (fun w' hw'=>(E.fieldAddr zaC kB8)) ?_
       refine FB.p (i:=4) (bs 10 31) 1 [5,6,7,8,9] rfl (SP.on ((SBP.box_now (i:=1) rfl).sub (j:=1) (n:=1) (c:=[v88]) rfl) (SP.on ((SBP.box_now (i:=1) rfl).sub (j:=0) (n:=1) (c:=[Value.int .i64 s87.2.2.2.2.1]) rfl) (SP.nil SBP.sl))) rfl rfl (fun w' hw'=>(E.load rfl (zak Tryz.isAgg3 hw' rfl))) ?_
       refine FB.all1 (i:=5) (by kernel_rfl) ?_
       ·
        refine FC.call (l':=(bs 10 63)) rfl (by kernel_rfl) rfl rfl rfl (E.call Tryz.call167 (A2 rfl rfl)) (zem (L:=(.box b71 26 [Value.int .i64 s87.2.2.2.2.1,v88]::.row 52 1 v88 n89 cs90::.box b21 26 [Value.int .i64 0,Value.slice none 0 0]::L)) SBP (a0:=rB9.2) hBg s87.2.2.2.2.1 hrBR) ?_
        rintro e wBT ⟨HBS,vBW,nBX,csBY,vC0,rfl,⟨SBU,iBV⟩,elsBZ,h225⟩
        refine ⟨_,rfl,?_⟩
        have SBU:St H0 w0 HBS wBT (.row 3 1 vBW nBX csBY::.box b0 103 [vC0,Value.int .i64 rBQ.2.at_,Value.int .u64 rBQ.2.seed]::.box b71 26 [Value.int .i64 s87.2.2.2.2.1,v88]::.row 52 1 v88 n89 cs90::.box b21 26 [Value.int .i64 0,Value.slice none 0 0]::L):=SBU
        refine ⟨(SP.on ((SBU.box_now (i:=2) rfl).sub (j:=1) (n:=1) (c:=[v88]) rfl) (SP.on ((SBU.box_now (i:=2) rfl).sub (j:=0) (n:=1) (c:=[Value.int .i64 s87.2.2.2.2.1]) rfl) (SP.nil (Sl.of_inc iBV SBU.sl)))),?_⟩
        refine FB.all1 (i:=6) (by kernel_rfl) ?_
        ·
         obtain ⟨HC2,SC3,iC4,hC5,nvC6⟩:=SBU.sealRowU (i:=0) (l':=(.box b0 103 [vC0,Value.int .i64 rBQ.2.at_,Value.int .u64 rBQ.2.seed]::.box b71 26 [Value.int .i64 s87.2.2.2.2.1,v88]::.row 52 1 v88 n89 cs90::.box b21 26 [Value.int .i64 0,Value.slice none 0 0]::L)) rfl elsBZ (by decide) rfl
         obtain ⟨vC7,wC8,runC9,SCa⟩:=SC3.buildSlice (P:=Tryz.prog) te24 [vBW] (parts:=#[(0,vBW)]) (cells:=[vBW]) rfl (zas (zba hC5.cells) zan) (zar hC5.cells zam) (zab hC5.one zae) (Nat.le_of_ble_eq_true rfl)
         have elsCb:Els (up w0.heap.size HC2) (eL eI 1) 1 [vBW] [rBQ.1]:=(Els.snoc (H:=(up w0.heap.size HC2)) (E:=(eL eI 1)) (k:=1) (c:=[vBW]) (x:=rBQ.1) Els.nil rfl ⟨_,rfl,hC5⟩)
         have ndCc:(bl [vBW]).Nodup:=by exact zaT vBW
         refine FC.val (l':=(bs 10 127)) rfl (by kernel_rfl) rfl rfl rfl (E.buildSlice (B1 rfl) runC9) ?_
         refine ⟨(SP.on ((SCa.box_now (i:=2) rfl).sub (j:=1) (n:=1) (c:=[v88]) rfl) (SP.on ((SCa.box_now (i:=2) rfl).sub (j:=0) (n:=1) (c:=[Value.int .i64 s87.2.2.2.2.1]) rfl) (SP.nil (Sl.of_inc (iBV.tr iC4) SCa.sl)))),?_⟩
         refine FB.all1 (i:=7) (by kernel_rfl) ?_
         ·
          obtain ⟨vCf,wCi,nCg,csCh,runCj,SCk,elsCl,ceCm⟩:=SCa.appendO (P:=Tryz.prog) te24 (i:=3) (j:=0) rfl (els91.mono (zaf ((iBe.tr iBV).tr iC4))) rfl elsCb hzCe
          have SCk:St H0 w0 HC2 wCi (.row 52 1 vC7 1 [vBW]::.box b0 103 [vC0,Value.int .i64 rBQ.2.at_,Value.int .u64 rBQ.2.seed]::.box b71 26 [Value.int .i64 s87.2.2.2.2.1,v88]::.row 52 1 vCf nCg csCh::.box b21 26 [Value.int .i64 0,Value.slice none 0 0]::L):=SCk
          have ndCn:(bl csCh).Nodup:=by rw [ceCm];exact zaS nd92 ndCc (Els.dom (els91.mono (upI.tr (iBe.tr iBV)))) (by exact nvC6)
          have SCo:St H0 w0 HC2 wCi (.box b0 103 [vC0,Value.int .i64 rBQ.2.at_,Value.int .u64 rBQ.2.seed]::.box b71 26 [Value.int .i64 s87.2.2.2.2.1,v88]::.row 52 1 vCf nCg csCh::.box b21 26 [Value.int .i64 0,Value.slice none 0 0]::L):=SCk.drop 0
          refine FC.val (l':=(bs 10 255)) rfl (by kernel_rfl) rfl rfl rfl (E.append rfl rfl runCj) ?_
          refine ⟨(SP.on ((SCo.box_now (i:=1) rfl).sub (j:=1) (n:=1) (c:=[v88]) rfl) (SP.on ((SCo.box_now (i:=1) rfl).sub (j:=0) (n:=1) (c:=[Value.int .i64 s87.2.2.2.2.1]) rfl) (SP.nil (Sl.of_inc (iBV.tr iC4) SCo.sl)))),?_⟩
          refine FB.t (i:=8) (bs 10 511) rfl (SP.on ((SCo.box_now (i:=1) rfl).sub (j:=1) (n:=1) (c:=[v88]) rfl) (SP.on ((SCo.box_now (i:=1) rfl).sub (j:=0) (n:=1) (c:=[Value.int .i64 s87.2.2.2.2.1]) rfl) (SP.nil (Sl.of_inc (iBV.tr iC4) SCo.sl)))) rfl (fun w' hw'=>(E.fieldAddr zay kB8)) ?_
          refine FB.all1 (i:=9) (by kernel_rfl) ?_
          ·
           obtain ⟨wCp,runCq,SCr⟩:=SCo.store (P:=Tryz.prog) (t:=24) (i:=1) (j:=1) (cs':=[Value.int .i64 s87.2.2.2.2.1,vCf]) (l':=(.box b0 103 [vC0,Value.int .i64 rBQ.2.at_,Value.int .u64 rBQ.2.seed]::.box b71 26 [Value.int .i64 s87.2.2.2.2.1,vCf]::.row 52 1 vCf nCg csCh::.box b21 26 [Value.int .i64 0,Value.slice none 0 0]::L)) (v:=vCf) (c:=[vCf]) rfl Tryz.sizeOf24 (Ln.cells (SCo.row_ln (i:=2) rfl)) rfl (zab (Ln.one (SCo.row_ln (i:=2) rfl)) zae) (Nat.le_of_ble_eq_true rfl) rfl rfl
           refine FC.act (l':=(bs 10 1023)) rfl (by kernel_rfl) rfl rfl (E.store rfl rfl runCq) ?_
           refine ⟨(SP.o (SP.on ((SCr.box_now (i:=1) rfl).sub (j:=0) (n:=1) (c:=[Value.int .i64 s87.2.2.2.2.1]) rfl) (SP.nil (Sl.of_inc (iBV.tr iC4) SCr.sl)))),?_⟩
           exact FB.done (by kernel_rfl) ⟨_,_,_,_,_,SCr,(iBV.tr iC4),elsCl,(h225.mono iC4),ndCn,kB7,kB8⟩
      ·
       rintro fCD wCC ⟨HCz,vCs,nCt,csCu,vCx,SCA,iCB,elsCv,hCy,ndCw,kCE,kCF⟩
       refine FW.seq (FW.region ?_)
       refine FL.v (E.load kCF (zal Tryz.isAgg26 Tryz.sizeOf26 (SCA.box_now (i:=1) rfl) rfl)) ?_
       obtain ⟨wCG,runCH,SCI⟩:=SCA.store0 (P:=Tryz.prog) (t:=26) (i:=3) (cs':=[Value.int .i64 s87.2.2.2.2.1,vCs]) (l':=(.box b0 103 [vCx,Value.int .i64 rBQ.2.at_,Value.int .u64 rBQ.2.seed]::.box b71 26 [Value.int .i64 s87.2.2.2.2.1,vCs]::.row 52 1 vCs nCt csCu::.box b21 26 [Value.int .i64 s87.2.2.2.2.1,vCs]::L)) (v:=Value.agg #[Value.int .i64 s87.2.2.2.2.1,vCs]) (c:=[Value.int .i64 s87.2.2.2.2.1,vCs]) rfl Tryz.sizeOf26 rfl rfl (zab rfl (zab (Ln.one (SCA.row_ln (i:=2) rfl)) zae)) (Nat.le_of_ble_eq_true rfl) rfl rfl
       refine FL.act rfl rfl (E.store kCE rfl runCH) ?_
       refine FL.nil ?_
       refine FW.ret ?_
       obtain ⟨HCJ,SCK,iCL,nsCO,nvCN⟩:=SCI.sealRowN (i:=2) (l':=(.box b0 103 [vCx,Value.int .i64 rBQ.2.at_,Value.int .u64 rBQ.2.seed]::.box b71 26 [Value.int .i64 s87.2.2.2.2.1,vCs]::.box b21 26 [Value.int .i64 s87.2.2.2.2.1,vCs]::L)) rfl elsCv ndCw (by decide) rfl
       have hCM:=nsCO.rsl
       obtain rfl:=Option.some.inj hp
       exact ⟨.inr rfl,resC rfl kCE (zaA Tryz.isAgg26 Tryz.sizeOf26 (SCK.box_now (i:=2) rfl) rfl) ⟨_,_,_,rfl,⟨(SCK.selT (a:=[.box b0 103 [vCx,Value.int .i64 rBQ.2.at_,Value.int .u64 rBQ.2.seed],.box b71 26 [Value.int .i64 s87.2.2.2.2.1,vCs],.box b21 26 [Value.int .i64 s87.2.2.2.2.1,vCs]]) (l':=[.box b0 103 [vCx,Value.int .i64 rBQ.2.at_,Value.int .u64 rBQ.2.seed]]) [0] (by decide) rfl),(((((((i31.tr i55).tr i63).tr i84).tr iB3).tr iBe).tr iCB).tr iCL)⟩,hCM,(hCy.mono iCL)⟩⟩
     ·
      refine FW.condF rfl cBM ?_
      refine FW.seq (FW.region ?_)
      refine FL.v (E.eql rfl rfl) ?_
      refine FL.v (E.assign (v:=Value.bool (rB9.1 == 2)) rfl) ?_
      refine FL.nil ?_
      rcases ifB hp with ⟨cCP,hp⟩|⟨cCP,hp⟩
      ·
       refine FW.condT rfl cCP ?_
       obtain ⟨qCQ,hq,hp⟩:=bndR hp
       refine FW.block ?_
       refine FW.mono (FW.iter (S:=((List (List Int))×(List Int)×Int×Int×Int)) (X:=Empty) (fun (sCQ:((List (List Int))×(List Int)×Int×Int×Int)) f w=>∃ H:GH,∃ vCR:Value,∃ nCS:Nat,∃ csCT:List Value,∃ vCW:Value,St H0 w0 H w (.box b0 103 [vCW,Value.int .i64 sCQ.2.2.1,Value.int .u64 sCQ.2.2.2.1]::.box b71 26 [Value.int .i64 sCQ.2.2.2.2,vCR]::.row 52 1 vCR nCS csCT::.box b21 26 [Value.int .i64 0,Value.slice none 0 0]::L)∧Inc HBb H∧Els (up w0.heap.size H) (eL eI 1) 1 csCT sCQ.1∧RSl H (eN .u8) 1 vCW sCQ.2.1∧(bl csCT).Nodup∧f 0=Value.pointer (some (⟨b0,0,none⟩:Addr))∧f 2=Value.pointer (some (⟨b21,0,none⟩:Addr))∧f 3=Value.pointer (some (⟨b71,0,none⟩:Addr))) (fun (q:Rs ((List (List Int))×(List Int)×Int×Int×Int) Empty) e f w=>match q with|.go sCQ=>e=Exit.exit 3∧(∃ H:GH,∃ vCR:Value,∃ nCS:Nat,∃ csCT:List Value,∃ vCW:Value,St H0 w0 H w (.box b0 103 [vCW,Value.int .i64 sCQ.2.2.1,Value.int .u64 sCQ.2.2.2.1]::.box b71 26 [Value.int .i64 sCQ.2.2.2.2,vCR]::.row 52 1 vCR nCS csCT::.box b21 26 [Value.int .i64 0,Value.slice none 0 0]::L)∧Inc HBb H∧Els (up w0.heap.size H) (eL eI 1) 1 csCT sCQ.1∧RSl H (eN .u8) 1 vCW sCQ.2.1∧(bl csCT).Nodup∧f 2=Value.pointer (some (⟨b21,0,none⟩:Addr))∧f 3=Value.pointer (some (⟨b71,0,none⟩:Addr)))|.rt x=>x.elim) hq ⟨_,_,_,_,_,SBd,(Inc.rfl _),(els91.mono (zaf iBe)),hBg,nd92,kB6,kB7,kB8⟩ ?_) ?_
       ·
        clear hp hq
        rintro sCQ fD2 wD1 ⟨HCY,vCR,nCS,csCT,vCW,SCZ,iD0,elsCU,hCX,ndCV,kD3,kD4,kD5⟩ oDY hp
        refine FW.seq (FW.seq ?_)
        obtain ⟨rD9,hrDa,hp⟩:=bnd hp
        refine FW.drawB (SX H0 w0 HCY (.box b71 26 [Value.int .i64 sCQ.2.2.2.2,vCR]::L)) (fun f w=>∃ H:GH,∃ vDh:Value,St H0 w0 H w (.box b0 103 [vDh,Value.int .i64 rD9.2.at_,Value.int .u64 rD9.2.seed]::.box b71 26 [Value.int .i64 sCQ.2.2.2.2,vCR]::.row 52 1 vCR nCS csCT::.box b21 26 [Value.int .i64 0,Value.slice none 0 0]::L)∧Inc HCY H∧RSl H (eN .u8) 1 vDh rD9.2.code∧f 0=Value.pointer (some (⟨b0,0,none⟩:Addr))∧f 2=Value.pointer (some (⟨b21,0,none⟩:Addr))∧f 3=Value.pointer (some (⟨b71,0,none⟩:Addr))∧f 56=Value.bool (decide ((len sCQ.1) < (wr (60 + rD9.1))))) (by kernel_rfl) SCZ.sl ?_ ?_
        ·
         intro wD6 rD7
         have SD8:=SCZ.call rD7
         refine FB.t (i:=0) (bs 7 1) rfl (SP.nil ⟨_,(SD8.selT (a:=[.box b0 103 [vCW,Value.int .i64 sCQ.2.2.1,Value.int .u64 sCQ.2.2.2.1],.box b71 26 [Value.int .i64 sCQ.2.2.2.2,vCR],.row 52 1 vCR nCS csCT,.box b21 26 [Value.int .i64 0,Value.slice none 0 0]]) (l':=[.box b71 26 [Value.int .i64 sCQ.2.2.2.2,vCR]]) [1] (by decide) rfl),(Inc.rfl _)⟩) rfl (fun w' hw'=>(E.fieldAddr zay kD5)) ?_
         refine FB.t (i:=1) (bs 7 3) rfl (SP.nil ⟨_,(SD8.selT (a:=[.box b0 103 [vCW,Value.int .i64 sCQ.2.2.1,Value.int .u64 sCQ.2.2.2.1],.box b71 26 [Value.int .i64 sCQ.2.2.2.2,vCR],.row 52 1 vCR nCS csCT,.box b21 26 [Value.int .i64 0,Value.slice none 0 0]]) (l':=[.box b71 26 [Value.int .i64 sCQ.2.2.2.2,vCR]]) [1] (by decide) rfl),(Inc.rfl _)⟩) rfl (fun w' hw'=>(E.load rfl (zag Tryz.isAgg24 (SX.box_now hw' (i:=0) rfl) rfl))) ?_
         refine FB.t (i:=2) (bs 7 7) rfl (SP.nil ⟨_,(SD8.selT (a:=[.box b0 103 [vCW,Value.int .i64 sCQ.2.2.1,Value.int .u64 sCQ.2.2.2.1],.box b71 26 [Value.int .i64 sCQ.2.2.2.2,vCR],.row 52 1 vCR nCS csCT,.box b21 26 [Value.int .i64 0,Value.slice none 0 0]]) (l':=[.box b71 26 [Value.int .i64 sCQ.2.2.2.2,vCR]]) [1] (by decide) rfl),(Inc.rfl _)⟩) rfl (fun w' hw'=>(E.lenOW te24 rfl SD8 (i:=2) rfl elsCU (by decide))) ?_
         refine FB.t (i:=3) (bs 7 15) rfl (SP.nil ⟨_,(SD8.selT (a:=[.box b0 103 [vCW,Value.int .i64 sCQ.2.2.1,Value.int .u64 sCQ.2.2.2.1],.box b71 26 [Value.int .i64 sCQ.2.2.2.2,vCR],.row 52 1 vCR nCS csCT,.box b21 26 [Value.int .i64 0,Value.slice none 0 0]]) (l':=[.box b71 26 [Value.int .i64 sCQ.2.2.2.2,vCR]]) [1] (by decide) rfl),(Inc.rfl _)⟩) rfl (fun w' hw'=>(E.move kD3)) ?_
         refine FB.all1 (i:=4) (by kernel_rfl) ?_
         ·
          refine FC.call (l':=(bs 7 31)) rfl (by kernel_rfl) rfl rfl rfl (E.call Tryz.call78 (A2 rfl rfl)) (za5 (L:=(.box b71 26 [Value.int .i64 sCQ.2.2.2.2,vCR]::.row 52 1 vCR nCS csCT::.box b21 26 [Value.int .i64 0,Value.slice none 0 0]::L)) SD8 (a0:=(l1Cur.mk sCQ.2.1 sCQ.2.2.1 sCQ.2.2.2.1)) hCX 2 hrDa) ?_
          rintro e wDc ⟨HDb,vDf,rfl,⟨SDd,iDe⟩,hDg⟩
          refine ⟨_,rfl,?_⟩
          have SDd:St H0 w0 HDb wDc (.box b0 103 [vDf,Value.int .i64 rD9.2.at_,Value.int .u64 rD9.2.seed]::.box b71 26 [Value.int .i64 sCQ.2.2.2.2,vCR]::.row 52 1 vCR nCS csCT::.box b21 26 [Value.int .i64 0,Value.slice none 0 0]::L):=SDd
          refine ⟨(SP.nil ⟨_,(SDd.selT (a:=[.box b0 103 [vDf,Value.int .i64 rD9.2.at_,Value.int .u64 rD9.2.seed],.box b71 26 [Value.int .i64 sCQ.2.2.2.2,vCR],.row 52 1 vCR nCS csCT,.box b21 26 [Value.int .i64 0,Value.slice none 0 0]]) (l':=[.box b71 26 [Value.int .i64 sCQ.2.2.2.2,vCR]]) [1] (by decide) rfl),iDe⟩),?_⟩
          refine FB.t (i:=5) (bs 7 63) rfl (SP.nil ⟨_,(SDd.selT (a:=[.box b0 103 [vDf,Value.int .i64 rD9.2.at_,Value.int .u64 rD9.2.seed],.box b71 26 [Value.int .i64 sCQ.2.2.2.2,vCR],.row 52 1 vCR nCS csCT,.box b21 26 [Value.int .i64 0,Value.slice none 0 0]]) (l':=[.box b71 26 [Value.int .i64 sCQ.2.2.2.2,vCR]]) [1] (by decide) rfl),iDe⟩) rfl (fun w' hw'=>(E.add rfl rfl)) ?_
          refine FB.t (i:=6) (bs 7 127) rfl (SP.nil ⟨_,(SDd.selT (a:=[.box b0 103 [vDf,Value.int .i64 rD9.2.at_,Value.int .u64 rD9.2.seed],.box b71 26 [Value.int .i64 sCQ.2.2.2.2,vCR],.row 52 1 vCR nCS csCT,.box b21 26 [Value.int .i64 0,Value.slice none 0 0]]) (l':=[.box b71 26 [Value.int .i64 sCQ.2.2.2.2,vCR]]) [1] (by decide) rfl),iDe⟩) rfl (fun w' hw'=>(E.lss rfl rfl)) ?_
          exact FB.done (by kernel_rfl) ⟨_,_,SDd,iDe,hDg,kD3,kD4,kD5,rfl⟩
        ·
         rintro fDn wDm ⟨HDj,vDh,SDk,iDl,hDi,kDo,kDp,kDq,kDr⟩
         rcases ifB hp with ⟨cDs,hp⟩|⟨cDs,hp⟩
         ·
          refine FW.condT kDr cDs ?_
          refine FW.skip (FW.block (FW.region ?_))
          refine FL.v (E.fieldAddr zay kDq) ?_
          refine FL.v (E.load rfl (zag Tryz.isAgg24 (SDk.box_now (i:=1) rfl) rfl)) ?_
          obtain ⟨vDt,wDu,runDv,SDw,elsDx⟩:=SDk.ints (P:=Tryz.prog) te52 (up w0.heap.size HDj) 1 [1]
          refine FL.v (E.buildSlice (B1 rfl) runDv) ?_
          obtain ⟨HDy,SDz,iDA,hDB,nvDC⟩:=SDw.sealRowU (i:=0) (l':=(.box b0 103 [vDh,Value.int .i64 rD9.2.at_,Value.int .u64 rD9.2.seed]::.box b71 26 [Value.int .i64 sCQ.2.2.2.2,vCR]::.row 52 1 vCR nCS csCT::.box b21 26 [Value.int .i64 0,Value.slice none 0 0]::L)) rfl elsDx (by decide) rfl
          obtain ⟨vDD,wDE,runDF,SDG⟩:=SDz.buildSlice (P:=Tryz.prog) te24 [vDt] (parts:=#[(0,vDt)]) (cells:=[vDt]) rfl (zas (zba hDB.cells) zan) (zar hDB.cells zam) (zab hDB.one zae) (Nat.le_of_ble_eq_true rfl)
          have elsDH:Els (up w0.heap.size HDy) (eL eI 1) 1 [vDt] [[1]]:=(Els.snoc (H:=(up w0.heap.size HDy)) (E:=(eL eI 1)) (k:=1) (c:=[vDt]) (x:=[1]) Els.nil rfl ⟨_,rfl,hDB⟩)
          have ndDI:(bl [vDt]).Nodup:=by exact zaT vDt
          refine FL.v (E.buildSlice (B1 rfl) runDF) ?_
          obtain ⟨xsDJ,hzDK,hp⟩:=bnd hp
          obtain ⟨vDL,wDO,nDM,csDN,runDP,SDQ,elsDR,ceDS⟩:=SDG.appendO (P:=Tryz.prog) te24 (i:=3) (j:=0) rfl (elsCU.mono (zaf (iDl.tr iDA))) rfl elsDH hzDK
          have SDQ:St H0 w0 HDy wDO (.row 52 1 vDD 1 [vDt]::.box b0 103 [vDh,Value.int .i64 rD9.2.at_,Value.int .u64 rD9.2.seed]::.box b71 26 [Value.int .i64 sCQ.2.2.2.2,vCR]::.row 52 1 vDL nDM csDN::.box b21 26 [Value.int .i64 0,Value.slice none 0 0]::L):=SDQ
          have ndDT:(bl csDN).Nodup:=by rw [ceDS];exact zaS ndCV ndDI (Els.dom (elsCU.mono (upI.tr iDl))) (by exact nvDC)
          have SDU:St H0 w0 HDy wDO (.box b0 103 [vDh,Value.int .i64 rD9.2.at_,Value.int .u64 rD9.2.seed]::.box b71 26 [Value.int .i64 sCQ.2.2.2.2,vCR]::.row 52 1 vDL nDM csDN::.box b21 26 [Value.int .i64 0,Value.slice none 0 0]::L):=SDQ.drop 0
          refine FL.v (E.append rfl rfl runDP) ?_
          refine FL.v (E.fieldAddr zay kDq) ?_
          obtain ⟨wDV,runDW,SDX⟩:=SDU.store (P:=Tryz.prog) (t:=24) (i:=1) (j:=1) (cs':=[Value.int .i64 sCQ.2.2.2.2,vDL]) (l':=(.box b0 103 [vDh,Value.int .i64 rD9.2.at_,Value.int .u64 rD9.2.seed]::.box b71 26 [Value.int .i64 sCQ.2.2.2.2,vDL]::.row 52 1 vDL nDM csDN::.box b21 26 [Value.int .i64 0,Value.slice none 0 0]::L)) (v:=vDL) (c:=[vDL]) rfl Tryz.sizeOf24 (Ln.cells (SDU.row_ln (i:=2) rfl)) rfl (zab (Ln.one (SDU.row_ln (i:=2) rfl)) zae) (Nat.le_of_ble_eq_true rfl) rfl rfl
          refine FL.act rfl rfl (E.store rfl rfl runDW) ?_
          refine FL.nil ?_
          obtain rfl:=Option.some.inj hp
          exact ⟨rfl,⟨_,_,_,_,_,SDX,((iD0.tr iDl).tr iDA),elsDR,(hDi.mono iDA),ndDT,kDo,kDp,kDq⟩⟩
         ·
          refine FW.condF kDr cDs ?_
          refine FW.exit ?_
          obtain rfl:=Option.some.inj hp
          exact ⟨nofun,rfl,⟨_,_,_,_,_,SDk,(iD0.tr iDl),(elsCU.mono (zaf iDl)),hDi,ndCV,kDp,kDq⟩⟩
       ·
        clear hq
        intro e fE3 wE2 hD
        rcases qCQ with sCQ|xCQ
        ·
         obtain ⟨rfl,hD⟩:=hD
         obtain ⟨HDZ,vCR,nCS,csCT,vCW,SE0,iE1,elsCU,hCX,ndCV,kE4,kE5⟩:=hD
         replace hp:=el_go hp
         refine FW.seq (FW.region ?_)
         refine FL.v (E.load kE5 (zal Tryz.isAgg26 Tryz.sizeOf26 (SE0.box_now (i:=1) rfl) rfl)) ?_
         obtain ⟨wE6,runE7,SE8⟩:=SE0.store0 (P:=Tryz.prog) (t:=26) (i:=3) (cs':=[Value.int .i64 sCQ.2.2.2.2,vCR]) (l':=(.box b0 103 [vCW,Value.int .i64 sCQ.2.2.1,Value.int .u64 sCQ.2.2.2.1]::.box b71 26 [Value.int .i64 sCQ.2.2.2.2,vCR]::.row 52 1 vCR nCS csCT::.box b21 26 [Value.int .i64 sCQ.2.2.2.2,vCR]::L)) (v:=Value.agg #[Value.int .i64 sCQ.2.2.2.2,vCR]) (c:=[Value.int .i64 sCQ.2.2.2.2,vCR]) rfl Tryz.sizeOf26 rfl rfl (zab rfl (zab (Ln.one (SE0.row_ln (i:=2) rfl)) zae)) (Nat.le_of_ble_eq_true rfl) rfl rfl
         refine FL.act rfl rfl (E.store kE4 rfl runE7) ?_
         refine FL.nil ?_
         refine FW.ret ?_
         obtain ⟨HE9,SEa,iEb,nsEe,nvEd⟩:=SE8.sealRowN (i:=2) (l':=(.box b0 103 [vCW,Value.int .i64 sCQ.2.2.1,Value.int .u64 sCQ.2.2.2.1]::.box b71 26 [Value.int .i64 sCQ.2.2.2.2,vCR]::.box b21 26 [Value.int .i64 sCQ.2.2.2.2,vCR]::L)) rfl elsCU ndCV (by decide) rfl
         have hEc:=nsEe.rsl
         obtain rfl:=Option.some.inj hp
         exact ⟨.inr rfl,resC rfl kE4 (zaA Tryz.isAgg26 Tryz.sizeOf26 (SEa.box_now (i:=2) rfl) rfl) ⟨_,_,_,rfl,⟨(SEa.selT (a:=[.box b0 103 [vCW,Value.int .i64 sCQ.2.2.1,Value.int .u64 sCQ.2.2.2.1],.box b71 26 [Value.int .i64 sCQ.2.2.2.2,vCR],.box b21 26 [Value.int .i64 sCQ.2.2.2.2,vCR]]) (l':=[.box b0 103 [vCW,Value.int .i64 sCQ.2.2.1,Value.int .u64 sCQ.2.2.2.1]]) [0] (by decide) rfl),(((((((i31.tr i55).tr i63).tr i84).tr iB3).tr iBe).tr iE1).tr iEb)⟩,hEc,(hCX.mono iEb)⟩⟩
        ·
         exact xCQ.elim
      ·
       refine FW.condF rfl cCP ?_
       refine FW.seq (FW.region ?_)
       refine FL.v (E.eql rfl rfl) ?_
       refine FL.v (E.assign (v:=Value.bool (rB9.1 == 3)) rfl) ?_
       refine FL.nil ?_
       rcases ifB hp with ⟨cEf,hp⟩|⟨cEf,hp⟩
       ·
        refine FW.condT rfl cEf ?_
        obtain ⟨rEj,hrEk,hp⟩:=bnd hp
        obtain ⟨xsEQ,hzER,hp⟩:=bnd hp
        refine FW.drawB (Sl HBb) (fun f w=>∃ H:GH,∃ vF4:Value,∃ nF5:Nat,∃ csF6:List Value,∃ vF8:Value,St H0 w0 H w (.box b0 103 [vF8,Value.int .i64 rEj.2.at_,Value.int .u64 rEj.2.seed]::.box b71 26 [Value.int .i64 s87.2.2.2.2.1,vF4]::.row 52 1 vF4 nF5 csF6::.box b21 26 [Value.int .i64 0,Value.slice none 0 0]::L)∧Inc HBb H∧Els (up w0.heap.size H) (eL eI 1) 1 csF6 xsEQ∧RSl H (eN .u8) 1 vF8 rEj.2.code∧f 2=Value.pointer (some (⟨b21,0,none⟩:Addr))∧f 3=Value.pointer (some (⟨b71,0,none⟩:Addr))) (by kernel_rfl) SBd.sl ?_ ?_
        ·
         intro wEg rEh
         have SEi:=SBd.call rEh
         refine FB.phase [] (fun w=>WAt w (Addr.add ⟨b71,0,none⟩ 0) [Value.int .i64 s87.2.2.2.2.1]) ?_
         refine FB.phase [10] (fun w=>WAt w (Addr.add ⟨b71,0,none⟩ 1) [v88]) ?_
         refine FB.t (i:=0) (bs 11 1) rfl (SP.on ((SEi.box_now (i:=1) rfl).sub (j:=1) (n:=1) (c:=[v88]) rfl) (SP.on ((SEi.box_now (i:=1) rfl).sub (j:=0) (n:=1) (c:=[Value.int .i64 s87.2.2.2.2.1]) rfl) (SP.nil SEi.sl))) rfl (fun w' hw'=>(E.fieldAddr zay kB8)) ?_
         refine FB.p (i:=1) (bs 11 3) 0 [8,9,10] rfl (SP.on ((SEi.box_now (i:=1) rfl).sub (j:=1) (n:=1) (c:=[v88]) rfl) (SP.on ((SEi.box_now (i:=1) rfl).sub (j:=0) (n:=1) (c:=[Value.int .i64 s87.2.2.2.2.1]) rfl) (SP.nil SEi.sl))) rfl rfl (fun w' hw'=>(E.load rfl (zak Tryz.isAgg24 hw' rfl))) ?_
         refine FB.t (i:=2) (bs 11 7) rfl (SP.on ((SEi.box_now (i:=1) rfl).sub (j:=1) (n:=1) (c:=[v88]) rfl) (SP.on ((SEi.box_now (i:=1) rfl).sub (j:=0) (n:=1) (c:=[Value.int .i64 s87.2.2.2.2.1]) rfl) (SP.nil SEi.sl))) rfl (fun w' hw'=>(E.move kB6)) ?_
         refine FB.t (i:=3) (bs 11 15) rfl (SP.on ((SEi.box_now (i:=1) rfl).sub (j:=1) (n:=1) (c:=[v88]) rfl) (SP.on ((SEi.box_now (i:=1) rfl).sub (j:=0) (n:=1) (c:=[Value.int .i64 s87.2.2.2.2.1]) rfl) (SP.nil SEi.sl))) rfl (fun w' hw'=>(E.fieldAddr zaC kB8)) ?_
         refine FB.p (i:=4) (bs 11 31) 1 [5,7,8,9,10] rfl (SP.on ((SEi.box_now (i:=1) rfl).sub (j:=1) (n:=1) (c:=[v88]) rfl) (SP.on ((SEi.box_now (i:=1) rfl).sub (j:=0) (n:=1) (c:=[Value.int .i64 s87.2.2.2.2.1]) rfl) (SP.nil SEi.sl))) rfl rfl (fun w' hw'=>(E.load rfl (zak Tryz.isAgg3 hw' rfl))) ?_
         refine FB.all2 (i:=5) (j:=6) (by kernel_rfl) ?_ ?_
         ·
          refine FC.call (l':=(bs 11 63)) rfl (by kernel_rfl) rfl rfl rfl (E.call Tryz.call161 (A2 rfl rfl)) (zcv (L:=(.box b71 26 [Value.int .i64 s87.2.2.2.2.1,v88]::.row 52 1 v88 n89 cs90::.box b21 26 [Value.int .i64 0,Value.slice none 0 0]::L)) SEi (a0:=rB9.2) hBg s87.2.2.2.2.1 hrEk) ?_
          rintro e wEm ⟨HEl,vEp,nEq,csEr,vEt,rfl,⟨SEn,iEo⟩,elsEs,hEu⟩
          refine ⟨_,rfl,?_⟩
          have SEn:St H0 w0 HEl wEm (.row 3 1 vEp nEq csEr::.box b0 103 [vEt,Value.int .i64 rEj.2.at_,Value.int .u64 rEj.2.seed]::.box b71 26 [Value.int .i64 s87.2.2.2.2.1,v88]::.row 52 1 v88 n89 cs90::.box b21 26 [Value.int .i64 0,Value.slice none 0 0]::L):=SEn
          refine ⟨(SP.on ((SEn.box_now (i:=2) rfl).sub (j:=1) (n:=1) (c:=[v88]) rfl) (SP.on ((SEn.box_now (i:=2) rfl).sub (j:=0) (n:=1) (c:=[Value.int .i64 s87.2.2.2.2.1]) rfl) (SP.nil (Sl.of_inc iEo SEn.sl)))),?_⟩
          refine FB.all1 (i:=6) (by kernel_rfl) ?_
          ·
           obtain ⟨vEw,wEx,runEy,SEz⟩:=SEn.buildSlice (P:=Tryz.prog) te52 [] (parts:=#[]) (cells:=[]) rfl zan zam zae (Nat.le_of_ble_eq_true rfl)
           have elsEA:Els (up w0.heap.size HEl) eI 1 [] []:=Els.nil
           refine FC.val (l':=(bs 11 127)) rfl (by kernel_rfl) rfl rfl rfl (E.buildSlice (B0) runEy) ?_
           refine ⟨(SP.on ((SEz.box_now (i:=3) rfl).sub (j:=1) (n:=1) (c:=[v88]) rfl) (SP.on ((SEz.box_now (i:=3) rfl).sub (j:=0) (n:=1) (c:=[Value.int .i64 s87.2.2.2.2.1]) rfl) (SP.nil (Sl.of_inc iEo SEz.sl)))),?_⟩
           refine FB.all1 (i:=7) (by kernel_rfl) ?_
           ·
            obtain ⟨HEB,SEC,iED,hEE,nvEF⟩:=SEz.sealRowU (i:=1) (l':=(.row 3 1 vEw 0 []::.box b0 103 [vEt,Value.int .i64 rEj.2.at_,Value.int .u64 rEj.2.seed]::.box b71 26 [Value.int .i64 s87.2.2.2.2.1,v88]::.row 52 1 v88 n89 cs90::.box b21 26 [Value.int .i64 0,Value.slice none 0 0]::L)) rfl elsEs (by decide) rfl
            obtain ⟨HEG,SEH,iEI,hEJ,nvEK⟩:=SEC.sealRowU (i:=0) (l':=(.box b0 103 [vEt,Value.int .i64 rEj.2.at_,Value.int .u64 rEj.2.seed]::.box b71 26 [Value.int .i64 s87.2.2.2.2.1,v88]::.row 52 1 v88 n89 cs90::.box b21 26 [Value.int .i64 0,Value.slice none 0 0]::L)) rfl (elsEA.mono (zaf iED)) (by decide) rfl
            obtain ⟨vEL,wEM,runEN,SEO⟩:=SEH.buildSlice (P:=Tryz.prog) te24 [vEp,vEw] (parts:=#[(0,vEp),(1,vEw)]) (cells:=[vEp,vEw]) rfl (zas (zba hEE.cells) (zas (zba hEJ.cells) zan)) (zar hEE.cells (zar hEJ.cells zam)) (zab hEE.one (zab hEJ.one zae)) (Nat.le_of_ble_eq_true rfl)
            have elsEP:Els (up w0.heap.size HEG) (eL eI 1) 1 [vEp,vEw] [rEj.1,[]]:=(Els.snoc (H:=(up w0.heap.size HEG)) (E:=(eL eI 1)) (k:=1) (c:=[vEw]) (x:=[]) (Els.snoc (H:=(up w0.heap.size HEG)) (E:=(eL eI 1)) (k:=1) (c:=[vEp]) (x:=rEj.1) Els.nil rfl ⟨_,rfl,(hEE.mono (zaf iEI))⟩) rfl ⟨_,rfl,hEJ⟩)
            refine FC.val (l':=(bs 11 255)) rfl (by kernel_rfl) rfl rfl rfl (E.buildSlice (B2 rfl rfl) runEN) ?_
            refine ⟨(SP.on ((SEO.box_now (i:=2) rfl).sub (j:=1) (n:=1) (c:=[v88]) rfl) (SP.on ((SEO.box_now (i:=2) rfl).sub (j:=0) (n:=1) (c:=[Value.int .i64 s87.2.2.2.2.1]) rfl) (SP.nil (Sl.of_inc ((iEo.tr iED).tr iEI) SEO.sl)))),?_⟩
            refine FB.all1 (i:=8) (by kernel_rfl) ?_
            ·
             obtain ⟨vES,wEV,nET,csEU,runEW,SEX,elsEY,ceEZ⟩:=SEO.appendO (P:=Tryz.prog) te24 (i:=3) (j:=0) rfl (els91.mono (zaf (((iBe.tr iEo).tr iED).tr iEI))) rfl elsEP hzER
             have SEX:St H0 w0 HEG wEV (.row 52 1 vEL 2 [vEp,vEw]::.box b0 103 [vEt,Value.int .i64 rEj.2.at_,Value.int .u64 rEj.2.seed]::.box b71 26 [Value.int .i64 s87.2.2.2.2.1,v88]::.row 52 1 vES nET csEU::.box b21 26 [Value.int .i64 0,Value.slice none 0 0]::L):=SEX
             have SF0:St H0 w0 HEG wEV (.box b0 103 [vEt,Value.int .i64 rEj.2.at_,Value.int .u64 rEj.2.seed]::.box b71 26 [Value.int .i64 s87.2.2.2.2.1,v88]::.row 52 1 vES nET csEU::.box b21 26 [Value.int .i64 0,Value.slice none 0 0]::L):=SEX.drop 0
             refine FC.val (l':=(bs 11 511)) rfl (by kernel_rfl) rfl rfl rfl (E.append rfl rfl runEW) ?_
             refine ⟨(SP.on ((SF0.box_now (i:=1) rfl).sub (j:=1) (n:=1) (c:=[v88]) rfl) (SP.on ((SF0.box_now (i:=1) rfl).sub (j:=0) (n:=1) (c:=[Value.int .i64 s87.2.2.2.2.1]) rfl) (SP.nil (Sl.of_inc ((iEo.tr iED).tr iEI) SF0.sl)))),?_⟩
             refine FB.t (i:=9) (bs 11 1023) rfl (SP.on ((SF0.box_now (i:=1) rfl).sub (j:=1) (n:=1) (c:=[v88]) rfl) (SP.on ((SF0.box_now (i:=1) rfl).sub (j:=0) (n:=1) (c:=[Value.int .i64 s87.2.2.2.2.1]) rfl) (SP.nil (Sl.of_inc ((iEo.tr iED).tr iEI) SF0.sl)))) rfl (fun w' hw'=>(E.fieldAddr zay kB8)) ?_
             refine FB.all1 (i:=10) (by kernel_rfl) ?_
             ·
              obtain ⟨wF1,runF2,SF3⟩:=SF0.store (P:=Tryz.prog) (t:=24) (i:=1) (j:=1) (cs':=[Value.int .i64 s87.2.2.2.2.1,vES]) (l':=(.box b0 103 [vEt,Value.int .i64 rEj.2.at_,Value.int .u64 rEj.2.seed]::.box b71 26 [Value.int .i64 s87.2.2.2.2.1,vES]::.row 52 1 vES nET csEU::.box b21 26 [Value.int .i64 0,Value.slice none 0 0]::L)) (v:=vES) (c:=[vES]) rfl Tryz.sizeOf24 (Ln.cells (SF0.row_ln (i:=2) rfl)) rfl (zab (Ln.one (SF0.row_ln (i:=2) rfl)) zae) (Nat.le_of_ble_eq_true rfl) rfl rfl
              refine FC.act (l':=(bs 11 2047)) rfl (by kernel_rfl) rfl rfl (E.store rfl rfl runF2) ?_
              refine ⟨(SP.o (SP.on ((SF3.box_now (i:=1) rfl).sub (j:=0) (n:=1) (c:=[Value.int .i64 s87.2.2.2.2.1]) rfl) (SP.nil (Sl.of_inc ((iEo.tr iED).tr iEI) SF3.sl)))),?_⟩
              exact FB.done (by kernel_rfl) ⟨_,_,_,_,_,SF3,((iEo.tr iED).tr iEI),elsEY,(hEu.mono (iED.tr iEI)),kB7,kB8⟩
         ·
          obtain ⟨vEw,wEx,runEy,SEz⟩:=SEi.buildSlice (P:=Tryz.prog) te52 [] (parts:=#[]) (cells:=[]) rfl zan zam zae (Nat.le_of_ble_eq_true rfl)
          have elsEA:Els (up w0.heap.size HBb) eI 1 [] []:=Els.nil
          refine FC.val (l':=(bs 11 95)) rfl (by kernel_rfl) rfl rfl rfl (E.buildSlice (B0) runEy) ?_
          refine ⟨(SP.on ((SEz.box_now (i:=2) rfl).sub (j:=1) (n:=1) (c:=[v88]) rfl) (SP.on ((SEz.box_now (i:=2) rfl).sub (j:=0) (n:=1) (c:=[Value.int .i64 s87.2.2.2.2.1]) rfl) (SP.nil SEz.sl))),?_⟩
          refine FB.all1 (i:=5) (by kernel_rfl) ?_
          ·
           have SEl:St H0 w0 HBb wEx (.box b0 103 [vBf,Value.int .i64 rB9.2.at_,Value.int .u64 rB9.2.seed]::.row 3 1 vEw 0 []::.box b71 26 [Value.int .i64 s87.2.2.2.2.1,v88]::.row 52 1 v88 n89 cs90::.box b21 26 [Value.int .i64 0,Value.slice none 0 0]::L):=SEz.front 1 rfl rfl
           refine FC.call (l':=(bs 11 127)) rfl (by kernel_rfl) rfl rfl rfl (E.call Tryz.call161 (A2 rfl rfl)) (zcv (L:=(.row 3 1 vEw 0 []::.box b71 26 [Value.int .i64 s87.2.2.2.2.1,v88]::.row 52 1 v88 n89 cs90::.box b21 26 [Value.int .i64 0,Value.slice none 0 0]::L)) SEl (a0:=rB9.2) hBg s87.2.2.2.2.1 hrEk) ?_
           rintro e wEn ⟨HEm,vEq,nEr,csEs,vEu,rfl,⟨SEo,iEp⟩,elsEt,hEv⟩
           refine ⟨_,rfl,?_⟩
           have SEo:St H0 w0 HEm wEn (.row 3 1 vEq nEr csEs::.box b0 103 [vEu,Value.int .i64 rEj.2.at_,Value.int .u64 rEj.2.seed]::.row 3 1 vEw 0 []::.box b71 26 [Value.int .i64 s87.2.2.2.2.1,v88]::.row 52 1 v88 n89 cs90::.box b21 26 [Value.int .i64 0,Value.slice none 0 0]::L):=SEo
           refine ⟨(SP.on ((SEo.box_now (i:=3) rfl).sub (j:=1) (n:=1) (c:=[v88]) rfl) (SP.on ((SEo.box_now (i:=3) rfl).sub (j:=0) (n:=1) (c:=[Value.int .i64 s87.2.2.2.2.1]) rfl) (SP.nil (Sl.of_inc iEp SEo.sl)))),?_⟩
           refine FB.all1 (i:=7) (by kernel_rfl) ?_
           ·
            obtain ⟨HEB,SEC,iED,hEE,nvEF⟩:=SEo.sealRowU (i:=0) (l':=(.box b0 103 [vEu,Value.int .i64 rEj.2.at_,Value.int .u64 rEj.2.seed]::.row 3 1 vEw 0 []::.box b71 26 [Value.int .i64 s87.2.2.2.2.1,v88]::.row 52 1 v88 n89 cs90::.box b21 26 [Value.int .i64 0,Value.slice none 0 0]::L)) rfl elsEt (by decide) rfl
            obtain ⟨HEG,SEH,iEI,hEJ,nvEK⟩:=SEC.sealRowU (i:=1) (l':=(.box b0 103 [vEu,Value.int .i64 rEj.2.at_,Value.int .u64 rEj.2.seed]::.box b71 26 [Value.int .i64 s87.2.2.2.2.1,v88]::.row 52 1 v88 n89 cs90::.box b21 26 [Value.int .i64 0,Value.slice none 0 0]::L)) rfl (elsEA.mono (zaf (iEp.tr iED))) (by decide) rfl
            obtain ⟨vEL,wEM,runEN,SEO⟩:=SEH.buildSlice (P:=Tryz.prog) te24 [vEq,vEw] (parts:=#[(0,vEq),(1,vEw)]) (cells:=[vEq,vEw]) rfl (zas (zba hEE.cells) (zas (zba hEJ.cells) zan)) (zar hEE.cells (zar hEJ.cells zam)) (zab hEE.one (zab hEJ.one zae)) (Nat.le_of_ble_eq_true rfl)
            have elsEP:Els (up w0.heap.size HEG) (eL eI 1) 1 [vEq,vEw] [rEj.1,[]]:=(Els.snoc (H:=(up w0.heap.size HEG)) (E:=(eL eI 1)) (k:=1) (c:=[vEw]) (x:=[]) (Els.snoc (H:=(up w0.heap.size HEG)) (E:=(eL eI 1)) (k:=1) (c:=[vEq]) (x:=rEj.1) Els.nil rfl ⟨_,rfl,(hEE.mono (zaf iEI))⟩) rfl ⟨_,rfl,hEJ⟩)
            refine FC.val (l':=(bs 11 255)) rfl (by kernel_rfl) rfl rfl rfl (E.buildSlice (B2 rfl rfl) runEN) ?_
            refine ⟨(SP.on ((SEO.box_now (i:=2) rfl).sub (j:=1) (n:=1) (c:=[v88]) rfl) (SP.on ((SEO.box_now (i:=2) rfl).sub (j:=0) (n:=1) (c:=[Value.int .i64 s87.2.2.2.2.1]) rfl) (SP.nil (Sl.of_inc ((iEp.tr iED).tr iEI) SEO.sl)))),?_⟩
            refine FB.all1 (i:=8) (by kernel_rfl) ?_
            ·
             obtain ⟨vES,wEV,nET,csEU,runEW,SEX,elsEY,ceEZ⟩:=SEO.appendO (P:=Tryz.prog) te24 (i:=3) (j:=0) rfl (els91.mono (zaf (((iBe.tr iEp).tr iED).tr iEI))) rfl elsEP hzER
             have SEX:St H0 w0 HEG wEV (.row 52 1 vEL 2 [vEq,vEw]::.box b0 103 [vEu,Value.int .i64 rEj.2.at_,Value.int .u64 rEj.2.seed]::.box b71 26 [Value.int .i64 s87.2.2.2.2.1,v88]::.row 52 1 vES nET csEU::.box b21 26 [Value.int .i64 0,Value.slice none 0 0]::L):=SEX
             have SF0:St H0 w0 HEG wEV (.box b0 103 [vEu,Value.int .i64 rEj.2.at_,Value.int .u64 rEj.2.seed]::.box b71 26 [Value.int .i64 s87.2.2.2.2.1,v88]::.row 52 1 vES nET csEU::.box b21 26 [Value.int .i64 0,Value.slice none 0 0]::L):=SEX.drop 0
             refine FC.val (l':=(bs 11 511)) rfl (by kernel_rfl) rfl rfl rfl (E.append rfl rfl runEW) ?_
             refine ⟨(SP.on ((SF0.box_now (i:=1) rfl).sub (j:=1) (n:=1) (c:=[v88]) rfl) (SP.on ((SF0.box_now (i:=1) rfl).sub (j:=0) (n:=1) (c:=[Value.int .i64 s87.2.2.2.2.1]) rfl) (SP.nil (Sl.of_inc ((iEp.tr iED).tr iEI) SF0.sl)))),?_⟩
             refine FB.t (i:=9) (bs 11 1023) rfl (SP.on ((SF0.box_now (i:=1) rfl).sub (j:=1) (n:=1) (c:=[v88]) rfl) (SP.on ((SF0.box_now (i:=1) rfl).sub (j:=0) (n:=1) (c:=[Value.int .i64 s87.2.2.2.2.1]) rfl) (SP.nil (Sl.of_inc ((iEp.tr iED).tr iEI) SF0.sl)))) rfl (fun w' hw'=>(E.fieldAddr zay kB8)) ?_
             refine FB.all1 (i:=10) (by kernel_rfl) ?_
             ·
              obtain ⟨wF1,runF2,SF3⟩:=SF0.store (P:=Tryz.prog) (t:=24) (i:=1) (j:=1) (cs':=[Value.int .i64 s87.2.2.2.2.1,vES]) (l':=(.box b0 103 [vEu,Value.int .i64 rEj.2.at_,Value.int .u64 rEj.2.seed]::.box b71 26 [Value.int .i64 s87.2.2.2.2.1,vES]::.row 52 1 vES nET csEU::.box b21 26 [Value.int .i64 0,Value.slice none 0 0]::L)) (v:=vES) (c:=[vES]) rfl Tryz.sizeOf24 (Ln.cells (SF0.row_ln (i:=2) rfl)) rfl (zab (Ln.one (SF0.row_ln (i:=2) rfl)) zae) (Nat.le_of_ble_eq_true rfl) rfl rfl
              refine FC.act (l':=(bs 11 2047)) rfl (by kernel_rfl) rfl rfl (E.store rfl rfl runF2) ?_
              refine ⟨(SP.o (SP.on ((SF3.box_now (i:=1) rfl).sub (j:=0) (n:=1) (c:=[Value.int .i64 s87.2.2.2.2.1]) rfl) (SP.nil (Sl.of_inc ((iEp.tr iED).tr iEI) SF3.sl)))),?_⟩
              exact FB.done (by kernel_rfl) ⟨_,_,_,_,_,SF3,((iEp.tr iED).tr iEI),elsEY,(hEv.mono (iED.tr iEI)),kB7,kB8⟩
        ·
         rintro fFe wFd ⟨HFa,vF4,nF5,csF6,vF8,SFb,iFc,elsF7,hF9,kFf,kFg⟩
         refine FW.seq (FW.region ?_)
         refine FL.v (E.load kFg (zal Tryz.isAgg26 Tryz.sizeOf26 (SFb.box_now (i:=1) rfl) rfl)) ?_
         obtain ⟨wFh,runFi,SFj⟩:=SFb.store0 (P:=Tryz.prog) (t:=26) (i:=3) (cs':=[Value.int .i64 s87.2.2.2.2.1,vF4]) (l':=(.box b0 103 [vF8,Value.int .i64 rEj.2.at_,Value.int .u64 rEj.2.seed]::.box b71 26 [Value.int .i64 s87.2.2.2.2.1,vF4]::.row 52 1 vF4 nF5 csF6::.box b21 26 [Value.int .i64 s87.2.2.2.2.1,vF4]::L)) (v:=Value.agg #[Value.int .i64 s87.2.2.2.2.1,vF4]) (c:=[Value.int .i64 s87.2.2.2.2.1,vF4]) rfl Tryz.sizeOf26 rfl rfl (zab rfl (zab (Ln.one (SFb.row_ln (i:=2) rfl)) zae)) (Nat.le_of_ble_eq_true rfl) rfl rfl
         refine FL.act rfl rfl (E.store kFf rfl runFi) ?_
         refine FL.nil ?_
         refine FW.ret ?_
         obtain ⟨HFk,SFl,iFm,hFn,nvFo⟩:=SFj.sealRowU (i:=2) (l':=(.box b0 103 [vF8,Value.int .i64 rEj.2.at_,Value.int .u64 rEj.2.seed]::.box b71 26 [Value.int .i64 s87.2.2.2.2.1,vF4]::.box b21 26 [Value.int .i64 s87.2.2.2.2.1,vF4]::L)) rfl elsF7 (by decide) rfl
         obtain rfl:=Option.some.inj hp
         exact ⟨.inr rfl,resC rfl kFf (zaA Tryz.isAgg26 Tryz.sizeOf26 (SFl.box_now (i:=2) rfl) rfl) ⟨_,_,_,rfl,⟨(SFl.selT (a:=[.box b0 103 [vF8,Value.int .i64 rEj.2.at_,Value.int .u64 rEj.2.seed],.box b71 26 [Value.int .i64 s87.2.2.2.2.1,vF4],.box b21 26 [Value.int .i64 s87.2.2.2.2.1,vF4]]) (l':=[.box b0 103 [vF8,Value.int .i64 rEj.2.at_,Value.int .u64 rEj.2.seed]]) [0] (by decide) rfl),(((((((i31.tr i55).tr i63).tr i84).tr iB3).tr iBe).tr iFc).tr iFm)⟩,hFn,(hF9.mono iFm)⟩⟩
       ·
        refine FW.condF rfl cEf ?_
        refine FW.skip (FW.seq (FW.region ?_))
        refine FL.v (E.load kB8 (zal Tryz.isAgg26 Tryz.sizeOf26 (SBd.box_now (i:=1) rfl) rfl)) ?_
        obtain ⟨wFp,runFq,SFr⟩:=SBd.store0 (P:=Tryz.prog) (t:=26) (i:=3) (cs':=[Value.int .i64 s87.2.2.2.2.1,v88]) (l':=(.box b0 103 [vBf,Value.int .i64 rB9.2.at_,Value.int .u64 rB9.2.seed]::.box b71 26 [Value.int .i64 s87.2.2.2.2.1,v88]::.row 52 1 v88 n89 cs90::.box b21 26 [Value.int .i64 s87.2.2.2.2.1,v88]::L)) (v:=Value.agg #[Value.int .i64 s87.2.2.2.2.1,v88]) (c:=[Value.int .i64 s87.2.2.2.2.1,v88]) rfl Tryz.sizeOf26 rfl rfl (zab rfl (zab (Ln.one (SBd.row_ln (i:=2) rfl)) zae)) (Nat.le_of_ble_eq_true rfl) rfl rfl
        refine FL.act rfl rfl (E.store kB7 rfl runFq) ?_
        refine FL.nil ?_
        refine FW.ret ?_
        obtain ⟨HFs,SFt,iFu,nsFx,nvFw⟩:=SFr.sealRowN (i:=2) (l':=(.box b0 103 [vBf,Value.int .i64 rB9.2.at_,Value.int .u64 rB9.2.seed]::.box b71 26 [Value.int .i64 s87.2.2.2.2.1,v88]::.box b21 26 [Value.int .i64 s87.2.2.2.2.1,v88]::L)) rfl (els91.mono (zaf iBe)) nd92 (by decide) rfl
        have hFv:=nsFx.rsl
        obtain rfl:=Option.some.inj hp
        exact ⟨.inr rfl,resC rfl kB7 (zaA Tryz.isAgg26 Tryz.sizeOf26 (SFt.box_now (i:=2) rfl) rfl) ⟨_,_,_,rfl,⟨(SFt.selT (a:=[.box b0 103 [vBf,Value.int .i64 rB9.2.at_,Value.int .u64 rB9.2.seed],.box b71 26 [Value.int .i64 s87.2.2.2.2.1,v88],.box b21 26 [Value.int .i64 s87.2.2.2.2.1,v88]]) (l':=[.box b0 103 [vBf,Value.int .i64 rB9.2.at_,Value.int .u64 rB9.2.seed]]) [0] (by decide) rfl),((((((i31.tr i55).tr i63).tr i84).tr iB3).tr iBe).tr iFu)⟩,hFv,(hBg.mono iFu)⟩⟩
   ·
    exact x87.elim

@[reducible] def p_spec_l7Axiom (Ha:GH) (wa:World) (r:zaa):Ending→World→Prop :=
 fun e w'=>∃ H':GH,∃ v0_0:Value,e=.returned (Value.agg #[v0_0,Value.int .i64 r.left,Value.int .i64 r.right,Value.int .i64 r.pivot])∧Run wa.heap.size Ha wa H' w'∧RSl (up wa.heap.size H') eI 1 v0_0 r.clause
theorem zen {Ha:GH} {wa:World} (hs:Sl Ha wa) (a0:Cnf) (v0_1:Value) (p0_1:RSl Ha (eL eI 1) 1 v0_1 a0.clauses) (a1:Int) {r:zaa} (hp:(PF.zcg a0 a1)=some r) :
  Calls Tryz.prog 168 #[Value.agg #[Value.int .i64 a0.vars,v0_1],Value.int .i64 a1] wa (p_spec_l7Axiom Ha wa r):=by
 unfold PF.zcg at hp
 have S0:=St.init hs
 refine zaj (N:=13) (args:=[Value.agg #[Value.int .i64 a0.vars,v0_1],Value.int .i64 a1]) Tryz.func168 rfl rfl rfl ?_
 refine FW.seq (FW.region ?_)
 obtain ⟨b21,w22,run23,S24⟩:=S0.box (P:=Tryz.prog) 26 [Value.int .i64 a0.vars,v0_1] (v:=Value.agg #[Value.int .i64 a0.vars,v0_1]) rfl (zab rfl (zab p0_1.one zae))
 refine FL.v (E.box rfl run23) ?_
 obtain ⟨H25,S26,i27,at28⟩:=S24.sealBox (i:=0) (l':=[]) rfl rfl
 obtain ⟨b29,w30,run31,S32⟩:=S26.alloc (P:=Tryz.prog) 134 [Value.slice none 0 0,Value.int .i64 0,Value.int .i64 0,Value.int .i64 0] Tryz.zeroValue134 rfl (zab rfl (zab rfl (zab rfl (zab rfl zae))))
 refine FL.v (E.alloc run31) ?_
 refine FL.nil (FW.seq (FW.region ?_))
 refine FL.v (E.fieldAddr zay rfl) ?_
 refine FL.v (E.load rfl (zag Tryz.isAgg24 (at28.now S32.sl) rfl)) ?_
 refine FL.v (E.move (v:=Value.int .i64 a1) rfl) ?_
 obtain ⟨x39,hx40,hp⟩:=bnd hp
 obtain ⟨p33,cs34,pt35,l36,at37,rel38⟩:=p0_1.at hx40
 obtain ⟨v41,rfl,h42⟩:=zbr rel38
 refine FL.v (E.indexAddr te24 rfl rfl pt35) ?_
 refine FL.v (E.load rfl (zak Tryz.isAgg52 ((at37.mono i27).now S32.sl) rfl)) ?_
 obtain ⟨r43,hr44,hp⟩:=bnd hp
 refine FL.call rfl rfl rfl (E.call Tryz.call225 (A1 rfl)) (zcu S32.sl v41 x39 (h42.mono i27) hr44) ?_
 rintro e w46 ⟨H45,v49,n50,cs51,rfl,r48,els52⟩
 refine ⟨_,rfl,?_⟩
 have els52:=els52.mono (up_le S32.size)
 have S47:=S32.join (l':=[.row 3 1 v49 n50 cs51,.box b29 134 [Value.slice none 0 0,Value.int .i64 0,Value.int .i64 0,Value.int .i64 0]]) r48 rfl
 refine FL.v (E.move (v:=Value.int .i64 a1) rfl) ?_
 refine FL.v (E.build (B3 rfl rfl rfl) (run_build _ 134 #[(0,v49),(1,Value.int .i64 (-1)),(2,Value.int .i64 a1)] #[v49,Value.int .i64 (-1),Value.int .i64 a1,Value.int .i64 0] (by obtain ⟨_,_,rfl⟩:=S47.row_ln (i:=0) rfl;rfl))) ?_
 obtain ⟨w53,run54,S55⟩:=S47.store0 (P:=Tryz.prog) (t:=134) (i:=1) (cs':=[v49,Value.int .i64 (-1),Value.int .i64 a1,Value.int .i64 0]) (l':=[.row 3 1 v49 n50 cs51,.box b29 134 [v49,Value.int .i64 (-1),Value.int .i64 a1,Value.int .i64 0]]) (v:=Value.agg #[v49,Value.int .i64 (-1),Value.int .i64 a1,Value.int .i64 0]) (c:=[v49,Value.int .i64 (-1),Value.int .i64 a1,Value.int .i64 0]) rfl Tryz.sizeOf134 rfl rfl (zab (Ln.one (S47.row_ln (i:=0) rfl)) (zab rfl (zab rfl (zab rfl zae)))) (Nat.le_of_ble_eq_true rfl) rfl rfl
 refine FL.act rfl rfl (E.store rfl rfl run54) ?_
 obtain ⟨H56,S57,i58,h59,nv60⟩:=S55.sealRowU (i:=0) (l':=[.box b29 134 [v49,Value.int .i64 (-1),Value.int .i64 a1,Value.int .i64 0]]) rfl els52 (by decide) rfl
 obtain ⟨H61,S62,i63,at64⟩:=S57.sealBox (i:=0) (l':=[]) rfl rfl
 refine FL.nil ?_
 refine FW.ret ?_
 obtain rfl:=Option.some.inj hp
 exact ⟨.inr rfl,resC rfl rfl (zaA Tryz.isAgg134 Tryz.sizeOf134 (at64.now S62.sl) rfl) ⟨_,_,rfl,S62.run,(h59.mono (zaf i63))⟩⟩

@[reducible] def p_spec_l2Join (Ha:GH) (wa:World) (r:((List Int)×Bool)):Ending→World→Prop :=
 fun e w'=>∃ H':GH,∃ v0:Value,∃ n0:Nat,∃ c0:List Value,e=.returned (Value.tuple #[v0,Value.bool r.2])∧St Ha wa H' w' [.row 3 1 v0 n0 c0]∧Els (up wa.heap.size H') eI 1 c0 r.1
set_option maxHeartbeats 4000000 in
theorem w_spec_l2Join {Ha:GH} {wa:World} (hs:Sl Ha wa) (v0:Value) (a0:List Int) (p0:RSl Ha eI 1 v0 a0) (v1:Value) (a1:List Int) (p1:RSl Ha eI 1 v1 a1) {r:((List Int)×Bool)} (hp:(PF.zch a0 a1)=some r) :
  Calls Tryz.prog 169 #[v0,v1] wa (p_spec_l2Join Ha wa r):=by
 unfold PF.zch at hp
 have S0:=St.init hs
 refine zaj (N:=38) (args:=[v0,v1]) Tryz.func169 rfl rfl rfl ?_
 refine FW.seq (FW.region ?_)
 refine FL.v (E.assign (v:=Value.slice none 0 0) rfl) ?_
 refine FL.v (E.assign (v:=Value.bool false) rfl) ?_
 refine FL.nil (FW.seq (FW.region ?_))
 refine FL.v (E.move (v:=v0) rfl) ?_
 obtain ⟨r21,hr22,hp⟩:=bnd hp
 refine FL.call rfl rfl rfl (E.call Tryz.call225 (A1 rfl)) (zcu S0.sl v0 a0 p0 hr22) ?_
 rintro e w24 ⟨H23,v27,n28,cs29,rfl,r26,els30⟩
 refine ⟨_,rfl,?_⟩
 have els30:=els30.mono (up_le S0.size)
 have S25:=S0.join (l':=[.row 3 1 v27 n28 cs29]) r26 rfl
 refine FL.v (E.assign (v:=v27) rfl) ?_
 refine FL.nil (FW.seq (FW.seq (FW.region ?_)))
 refine FL.v (E.assign (v:=Value.int .i64 0) rfl) ?_
 refine FL.nil ?_
 obtain ⟨q32,hq,hp⟩:=bndR hp
 refine FW.block ?_
 refine FW.mono (FW.forL (S:=(List Int)) (X:=((List Int)×Bool)) (fun (i32:Nat) (s32:(List Int)) f w=>∃ H:GH,∃ vA7:Value,∃ nA8:Nat,∃ csA9:List Value,St Ha wa H w [.row 3 1 vA7 nA8 csA9]∧Inc H23 H∧Els (up wa.heap.size H) eI 1 csA9 s32∧f 7=Value.int .i64 ((i32:Nat):Int)∧f 1=v1∧f 6=vA7) (fun q e f w=>match q with|.go s32=>e=Exit.exit 0∧(∃ H:GH,∃ vA7:Value,∃ nA8:Nat,∃ csA9:List Value,St Ha wa H w [.row 3 1 vA7 nA8 csA9]∧Inc H23 H∧Els (up wa.heap.size H) eI 1 csA9 s32∧f 6=vA7)|.rt x=>((e=Exit.ret)∧(fun e f w=>(e=Exit.normal∨e=Exit.ret)∧∀ a,Fr (δ:=[]) 38 a f→∃ v,(results Tryz.f169 a.tmps).run Tryz.prog w=.ok v w∧(p_spec_l2Join Ha wa x) (.returned v) w) e f w)) hq ⟨_,_,_,_,S25,(Inc.rfl _),els30,rfl,rfl,rfl⟩ ?_ ?_) ?_
 ·
  clear hp hq
  rintro i32 y31 s32 fBn wBm ⟨HBj,vA7,nA8,csA9,SBk,iBl,elsAa,kBo,kBp,kBq⟩ hx32 oCr hp
  refine FW.seq (FW.seq (FW.region ?_))
  refine FL.v (E.move kBo) ?_
  refine FL.v (E.move kBp) ?_
  refine FL.v (E.lenP te52 rfl p1) ?_
  refine FL.v (E.lssT rfl rfl (zaF hx32)) ?_
  refine FL.nil ?_
  refine FW.condT rfl rfl ?_
  refine FW.skip (FW.seq (FW.block (FW.seq (FW.seq (FW.region ?_)))))
  refine FL.v (E.move kBq) ?_
  refine FL.v (E.move kBp) ?_
  refine FL.v (E.move kBo) ?_
  obtain ⟨pBr,csBs,ptBt,lBu,atBv,relBw⟩:=p1.at (zaz hx32)
  obtain rfl:=zao relBw
  refine FL.v (E.indexAddr te52 rfl rfl ptBt) ?_
  refine FL.v (E.load rfl (zak Tryz.isAgg3 ((atBv.mono (r26.run.inc.tr iBl)).now SBk.sl) rfl)) ?_
  refine FL.v (E.neg rfl) ?_
  obtain ⟨HBx,SBy,iBz,hBA,nvBB⟩:=SBk.sealRowU (i:=0) (l':=[]) rfl elsAa (by decide) rfl
  obtain ⟨rBC,hrBD,hp⟩:=bnd hp
  refine FL.call rfl rfl rfl (E.call Tryz.call173 (A2 rfl rfl)) (zbP SBy.sl vA7 s32 (hBA.mono upI) (wr (-y31)) hrBD) ?_
  rintro e wBE ⟨rfl,rBF⟩
  refine ⟨_,rfl,?_⟩
  have rBF:=Run.lend iBz SBk.sl rBF
  have SBG:=SBk.call rBF
  refine FL.nil ?_
  rcases ifB hp with ⟨cBH,hp⟩|⟨cBH,hp⟩
  ·
   refine FW.condT rfl cBH ?_
   refine FW.seq (FW.region ?_)
   obtain ⟨vBI,wBJ,runBK,SBL⟩:=SBG.buildSlice (P:=Tryz.prog) te52 [] (parts:=#[]) (cells:=[]) rfl zan zam zae (Nat.le_of_ble_eq_true rfl)
   have elsBM:Els (up wa.heap.size HBj) eI 1 [] []:=Els.nil
   refine FL.v (E.buildSlice (B0) runBK) ?_
   refine FL.v (E.assign (v:=vBI) rfl) ?_
   refine FL.v (E.assign (v:=Value.bool false) rfl) ?_
   refine FL.nil ?_
   refine FW.ret ?_
   obtain rfl:=Option.some.inj hp
   exact ⟨nofun,rfl,⟨.inr rfl,res2 rfl rfl rfl ⟨_,_,_,_,rfl,(SBL.sel [0] (by decide) rfl),elsBM⟩⟩⟩
  ·
   refine FW.condF rfl cBH ?_
   refine FW.skip (FW.seq (FW.region ?_))
   refine FL.v (E.move kBq) ?_
   refine FL.v (E.move kBp) ?_
   refine FL.v (E.move kBo) ?_
   obtain ⟨pBN,csBO,ptBP,lBQ,atBR,relBS⟩:=p1.at (zaz hx32)
   obtain rfl:=zao relBS
   refine FL.v (E.indexAddr te52 rfl rfl ptBP) ?_
   refine FL.v (E.load rfl (zak Tryz.isAgg3 ((atBR.mono (r26.run.inc.tr iBl)).now SBG.sl) rfl)) ?_
   obtain ⟨HBT,SBU,iBV,hBW,nvBX⟩:=SBG.sealRowU (i:=0) (l':=[]) rfl elsAa (by decide) rfl
   obtain ⟨rBY,hrBZ,hp⟩:=bnd hp
   refine FL.call rfl rfl rfl (E.call Tryz.call173 (A2 rfl rfl)) (zbP SBU.sl vA7 s32 (hBW.mono upI) y31 hrBZ) ?_
   rintro e wC0 ⟨rfl,rC1⟩
   refine ⟨_,rfl,?_⟩
   have rC1:=Run.lend iBV SBG.sl rC1
   have SC2:=SBG.call rC1
   refine FL.v (E.not rfl) ?_
   refine FL.nil ?_
   rcases ifB hp with ⟨cC3,hp⟩|⟨cC3,hp⟩
   ·
    refine FW.condT rfl cC3 ?_
    refine FW.region ?_
    refine FL.v (E.move kBq) ?_
    refine FL.v (E.move kBp) ?_
    refine FL.v (E.move kBo) ?_
    obtain ⟨pC4,csC5,ptC6,lC7,atC8,relC9⟩:=p1.at (zaz hx32)
    obtain rfl:=zao relC9
    refine FL.v (E.indexAddr te52 rfl rfl ptC6) ?_
    refine FL.v (E.load rfl (zak Tryz.isAgg3 ((atC8.mono (r26.run.inc.tr iBl)).now SC2.sl) rfl)) ?_
    obtain ⟨HCa,SCb,iCc,hCd,nvCe⟩:=SC2.sealRowU (i:=0) (l':=[]) rfl elsAa (by decide) rfl
    obtain ⟨rCf,hrCg,hp⟩:=bnd hp
    refine FL.call rfl rfl rfl (E.call Tryz.call215 (A2 rfl rfl)) (zde SCb.sl vA7 s32 (hCd.mono upI) y31 hrCg) ?_
    rintro e wCi ⟨HCh,vCn,nCo,csCp,rfl,rCk,elsCq⟩
    refine ⟨_,rfl,?_⟩
    obtain ⟨HCl,rCk,hU246⟩:=St.lendX iCc SC2.sl rCk
    have elsCq:=elsCq.mono (hU246.tr (up_le SC2.size))
    have SCj:=SC2.join (l':=[.row 3 1 vCn nCo csCp,.row 3 1 vA7 nA8 csA9]) rCk rfl
    refine FL.v (E.assign (v:=vCn) rfl) ?_
    refine FL.nil (FW.region ?_)
    refine FL.v (E.move kBo) ?_
    refine FL.v (E.add rfl rfl) ?_
    refine FL.v (E.assign (v:=Value.int .i64 (wr (((i32:Nat):Int) + 1))) rfl) ?_
    refine FL.nil ?_
    obtain rfl:=Option.some.inj hp
    exact ⟨rfl,⟨_,_,_,_,(SCj.sel [0] (by decide) rfl),(iBl.tr rCk.run.inc),elsCq,(zaw rfl (zaB hx32) (p1.mono ((r26.run.inc.tr iBl).tr rCk.run.inc)).le),kBp,rfl⟩⟩
   ·
    refine FW.condF rfl cC3 ?_
    refine FW.skip (FW.region ?_)
    refine FL.v (E.move kBo) ?_
    refine FL.v (E.add rfl rfl) ?_
    refine FL.v (E.assign (v:=Value.int .i64 (wr (((i32:Nat):Int) + 1))) rfl) ?_
    refine FL.nil ?_
    obtain rfl:=Option.some.inj hp
    exact ⟨rfl,⟨_,_,_,_,SC2,iBl,elsAa,(zaw rfl (zaB hx32) (p1.mono (r26.run.inc.tr iBl)).le),kBp,kBq⟩⟩
 ·
  clear hp hq
  rintro s32 fCC wCB ⟨HCy,vA7,nA8,csA9,SCz,iCA,elsAa,kCD,kCE,kCF⟩
  refine FW.seq (FW.seq (FW.region ?_))
  refine FL.v (E.move kCD) ?_
  refine FL.v (E.move kCE) ?_
  refine FL.v (E.lenP te52 rfl p1) ?_
  refine FL.v (E.lss rfl rfl) ?_
  refine FL.nil ?_
  refine FW.condF rfl zaG ?_
  refine FW.exit ?_
  exact ⟨nofun,rfl,⟨_,_,_,_,SCz,iCA,elsAa,kCF⟩⟩
 ·
  clear hq
  intro e fCw wCv hD
  rcases q32 with s32|x32
  ·
   obtain ⟨rfl,hD⟩:=hD
   obtain ⟨HCs,vA7,nA8,csA9,SCt,iCu,elsAa,kCx⟩:=hD
   replace hp:=el_go hp
   refine FW.seq (FW.region ?_)
   refine FL.v (E.move kCx) ?_
   refine FL.v (E.assign (v:=vA7) rfl) ?_
   refine FL.v (E.assign (v:=Value.bool true) rfl) ?_
   refine FL.nil ?_
   refine FW.ret ?_
   obtain rfl:=Option.some.inj hp
   exact ⟨.inr rfl,res2 rfl rfl rfl ⟨_,_,_,_,rfl,SCt,elsAa⟩⟩
  ·
   obtain ⟨he,hL⟩:=hD
   replace hp:=el_rt hp
   obtain rfl:=Option.some.inj hp
   subst he
   exact hL

@[reducible] def p_spec_l2Resolve (Ha:GH) (wa:World) (r:((List Int)×Bool)):Ending→World→Prop :=
 fun e w'=>∃ H':GH,∃ v0:Value,∃ n0:Nat,∃ c0:List Value,e=.returned (Value.tuple #[v0,Value.bool r.2])∧St Ha wa H' w' [.row 3 1 v0 n0 c0]∧Els (up wa.heap.size H') eI 1 c0 r.1
theorem zb3 {Ha:GH} {wa:World} (hs:Sl Ha wa) (v0:Value) (a0:List Int) (p0:RSl Ha eI 1 v0 a0) (v1:Value) (a1:List Int) (p1:RSl Ha eI 1 v1 a1) (a2:Int) {r:((List Int)×Bool)} (hp:(PF.zaM a0 a1 a2)=some r) :
  Calls Tryz.prog 103 #[v0,v1,Value.int .i64 a2] wa (p_spec_l2Resolve Ha wa r):=by
 unfold PF.zaM at hp
 have S0:=St.init hs
 refine zaj (N:=29) (args:=[v0,v1,Value.int .i64 a2]) Tryz.func103 rfl rfl rfl ?_
 refine FW.seq (FW.region ?_)
 refine FL.v (E.assign (v:=Value.slice none 0 0) rfl) ?_
 refine FL.v (E.assign (v:=Value.bool false) rfl) ?_
 refine FL.nil (FW.seq (FW.seq (FW.region ?_)))
 refine FL.v (E.move (v:=v0) rfl) ?_
 refine FL.v (E.move (v:=Value.int .i64 a2) rfl) ?_
 obtain ⟨r21,hr22,hp⟩:=bnd hp
 refine FL.call rfl rfl rfl (E.call Tryz.call173 (A2 rfl rfl)) (zbP S0.sl v0 a0 p0 a2 hr22) ?_
 rintro e w23 ⟨rfl,r24⟩
 refine ⟨_,rfl,?_⟩
 have S25:=S0.call r24
 refine FL.v (E.not rfl) ?_
 refine FL.v (E.move (v:=Value.bool (!r21)) rfl) ?_
 obtain ⟨t31,hqt31,hp⟩:=bnd hp
 refine FL.cut 6 (fun f w=>∃ H:GH,St Ha wa H w []∧Inc Ha H∧f 0=v0∧f 1=v1∧f 2=Value.int .i64 a2∧f 18=Value.bool t31) ?_ ?_
 ·
  clear hp;have hp:=hqt31;clear hqt31
  rcases ifB hp with ⟨c37,hp⟩|⟨c37,hp⟩
  ·
   refine FL.skip (wF_no rfl rfl rfl c37) rfl ?_
   refine FL.skip (wF_no rfl rfl rfl c37) rfl ?_
   refine FL.skip (wF_no rfl rfl rfl c37) rfl ?_
   refine FL.skip (wF_no rfl rfl rfl c37) rfl ?_
   refine FL.skip (wF_no rfl rfl rfl c37) rfl ?_
   obtain rfl:=Option.some.inj hp
   refine FL.v (E.pickT rfl c37 rfl) ?_
   exact FL.nil ⟨rfl,_,S25,(Inc.rfl _),rfl,rfl,rfl,rfl⟩
  ·
   refine FL.val (zac rfl rfl rfl c37) rfl rfl (E.move (v:=v1) rfl) ?_
   refine FL.val (zac rfl rfl rfl c37) rfl rfl (E.move (v:=Value.int .i64 a2) rfl) ?_
   refine FL.val (zac rfl rfl rfl c37) rfl rfl (E.neg rfl) ?_
   obtain ⟨r38,hr39,hp⟩:=bnd hp
   refine FL.call (zac rfl rfl rfl c37) rfl rfl (E.call Tryz.call173 (A2 rfl rfl)) (zbP S25.sl v1 a1 p1 (wr (-a2)) hr39) ?_
   rintro e w40 ⟨rfl,r41⟩
   refine ⟨_,rfl,?_⟩
   have S42:=S25.call r41
   refine FL.val (zac rfl rfl rfl c37) rfl rfl (E.not rfl) ?_
   obtain rfl:=Option.some.inj hp
   refine FL.v (E.pickF rfl c37 rfl) ?_
   exact FL.nil ⟨rfl,_,S42,(Inc.rfl _),rfl,rfl,rfl,rfl⟩
 rintro f36 w35 ⟨H32,S33,i34,k43,k44,k45,k46⟩
 refine FL.nil ?_
 rcases ifB hp with ⟨c47,hp⟩|⟨c47,hp⟩
 ·
  refine FW.condT k46 c47 ?_
  refine FW.seq (FW.region ?_)
  obtain ⟨v48,w49,run50,S51⟩:=S33.buildSlice (P:=Tryz.prog) te52 [] (parts:=#[]) (cells:=[]) rfl zan zam zae (Nat.le_of_ble_eq_true rfl)
  have els52:Els (up wa.heap.size H32) eI 1 [] []:=Els.nil
  refine FL.v (E.buildSlice (B0) run50) ?_
  refine FL.v (E.assign (v:=v48) rfl) ?_
  refine FL.v (E.assign (v:=Value.bool false) rfl) ?_
  refine FL.nil ?_
  refine FW.ret ?_
  obtain rfl:=Option.some.inj hp
  exact ⟨.inr rfl,res2 rfl rfl rfl ⟨_,_,_,_,rfl,S51,els52⟩⟩
 ·
  refine FW.condF k46 c47 ?_
  refine FW.skip (FW.seq (FW.region ?_))
  refine FL.v (E.move k43) ?_
  refine FL.v (E.move k45) ?_
  obtain ⟨r53,hr54,hp⟩:=bnd hp
  refine FL.call rfl rfl rfl (E.call Tryz.call174 (A2 rfl rfl)) (zdU S33.sl v0 a0 (p0.mono i34) a2 hr54) ?_
  rintro e w56 ⟨H55,v59,n60,cs61,rfl,r58,els62⟩
  refine ⟨_,rfl,?_⟩
  have els62:=els62.mono (up_le S33.size)
  have S57:=S33.join (l':=[.row 3 1 v59 n60 cs61]) r58 rfl
  refine FL.v (E.move k44) ?_
  refine FL.v (E.move k45) ?_
  obtain ⟨r63,hr64,hp⟩:=bnd hp
  refine FL.call rfl rfl rfl (E.call Tryz.call174 (A2 rfl rfl)) (zdU S57.sl v1 a1 (p1.mono (i34.tr r58.run.inc)) a2 hr64) ?_
  rintro e w66 ⟨H65,v69,n70,cs71,rfl,r68,els72⟩
  refine ⟨_,rfl,?_⟩
  have els72:=els72.mono (up_le S57.size)
  have S67:=S57.join (l':=[.row 3 1 v69 n70 cs71,.row 3 1 v59 n60 cs61]) r68 rfl
  obtain ⟨H73,S74,i75,h76,nv77⟩:=S67.sealRowU (i:=1) (l':=[.row 3 1 v69 n70 cs71]) rfl (els62.mono (zaf r68.run.inc)) (by decide) rfl
  obtain ⟨H78,S79,i80,h81,nv82⟩:=S74.sealRowU (i:=0) (l':=[]) rfl (els72.mono (zaf i75)) (by decide) rfl
  obtain ⟨r83,hr84,hp⟩:=bnd hp
  refine FL.call rfl rfl rfl (E.call Tryz.call169 (A2 rfl rfl)) (w_spec_l2Join S79.sl v59 r53 (h76.mono (upI.tr i80)) v69 r63 (h81.mono upI) hr84) ?_
  rintro e w86 ⟨H85,v91,n92,cs93,rfl,r88,els94⟩
  refine ⟨_,rfl,?_⟩
  obtain ⟨H89,r88,hU90⟩:=St.lendX (i75.tr i80) S67.sl r88
  have els94:=els94.mono (hU90.tr (up_le S67.size))
  have S87:=S67.join (l':=[.row 3 1 v91 n92 cs93,.row 3 1 v69 n70 cs71,.row 3 1 v59 n60 cs61]) r88 rfl
  refine FL.v (E.extract (i:=0) rfl rfl) ?_
  refine FL.v (E.extract (i:=1) rfl rfl) ?_
  refine FL.v (E.assign (v:=v91) rfl) ?_
  refine FL.v (E.assign (v:=Value.bool r83.2) rfl) ?_
  refine FL.nil ?_
  refine FW.ret ?_
  obtain rfl:=Option.some.inj hp
  exact ⟨.inr rfl,res2 rfl rfl rfl ⟨_,_,_,_,rfl,(S87.sel [0] (by decide) rfl),els94⟩⟩

@[reducible] def p_spec_l7Try (Ha:GH) (wa:World) (r:(zaa×Bool)):Ending→World→Prop :=
 fun e w'=>∃ H':GH,∃ v0_0:Value,e=.returned (Value.tuple #[Value.agg #[v0_0,Value.int .i64 r.1.left,Value.int .i64 r.1.right,Value.int .i64 r.1.pivot],Value.bool r.2])∧Run wa.heap.size Ha wa H' w'∧RSl (up wa.heap.size H') eI 1 v0_0 r.1.clause
set_option maxHeartbeats 4000000 in
theorem w_spec_l7Try {Ha:GH} {wa:World} (hs:Sl Ha wa) (v0:Value) (a0:List zaa) (p0:RSl Ha zah 4 v0 a0) (a1:Int) (a2:Int) {r:(zaa×Bool)} (hp:(PF.zbW a0 a1 a2)=some r) :
  Calls Tryz.prog 170 #[v0,Value.int .i64 a1,Value.int .i64 a2] wa (p_spec_l7Try Ha wa r):=by
 unfold PF.zbW at hp
 have S0:=St.init hs
 refine zaj (N:=62) (args:=[v0,Value.int .i64 a1,Value.int .i64 a2]) Tryz.func170 rfl rfl rfl ?_
 refine FW.seq (FW.region ?_)
 obtain ⟨b21,w22,run23,S24⟩:=S0.alloc (P:=Tryz.prog) 134 [Value.slice none 0 0,Value.int .i64 0,Value.int .i64 0,Value.int .i64 0] Tryz.zeroValue134 rfl (zab rfl (zab rfl (zab rfl (zab rfl zae))))
 refine FL.v (E.alloc run23) ?_
 refine FL.v (E.assign (v:=Value.bool false) rfl) ?_
 refine FL.nil (FW.seq (FW.seq (FW.region ?_)))
 refine FL.v (E.assign (v:=Value.int .i64 0) rfl) ?_
 refine FL.nil ?_
 obtain ⟨q25,hq,hp⟩:=bndR hp
 refine FW.block ?_
 refine FW.mono (FW.iter (S:=Int) (X:=(zaa×Bool)) (fun (s25:Int) f w=>∃ H:GH,St Ha wa H w [.box b21 134 [Value.slice none 0 0,Value.int .i64 0,Value.int .i64 0,Value.int .i64 0]]∧Inc Ha H∧f 0=v0∧f 1=Value.int .i64 a1∧f 2=Value.int .i64 a2∧f 6=Value.pointer (some (⟨b21,0,none⟩:Addr))∧f 8=Value.int .i64 s25) (fun q e f w=>match q with|.go s25=>e=Exit.exit 0∧(∃ H:GH,St Ha wa H w [.box b21 134 [Value.slice none 0 0,Value.int .i64 0,Value.int .i64 0,Value.int .i64 0]]∧Inc Ha H∧f 6=Value.pointer (some (⟨b21,0,none⟩:Addr)))|.rt x=>((e=Exit.ret)∧(fun e f w=>(e=Exit.normal∨e=Exit.ret)∧∀ a,Fr (δ:=[]) 62 a f→∃ v,(results Tryz.f170 a.tmps).run Tryz.prog w=.ok v w∧(p_spec_l7Try Ha wa x) (.returned v) w) e f w)) hq ⟨_,S24,(Inc.rfl _),rfl,rfl,rfl,rfl,rfl⟩ ?_) ?_
 ·
  clear hp hq
  rintro s25 f30 w29 ⟨H26,S27,i28,k31,k32,k33,k34,k35⟩ oBF hp
  refine FW.seq (FW.seq (FW.region ?_))
  refine FL.v (E.move k35) ?_
  refine FL.v (E.move k31) ?_
  refine FL.v (E.move k32) ?_
  obtain ⟨x42,hx43,hp⟩:=bnd hp
  obtain ⟨p36,cs37,pt38,l39,at40,rel41⟩:=p0.at hx43
  obtain ⟨v44,rfl,h45⟩:=zap rel41
  refine FL.v (E.indexAddr te61 rfl rfl pt38) ?_
  refine FL.v (E.fieldAddr zav rfl) ?_
  refine FL.v (E.load rfl (zag Tryz.isAgg52 ((at40.mono i28).now S27.sl) rfl)) ?_
  refine FL.v (E.lenP te52 rfl h45) ?_
  refine FL.v (E.lss rfl rfl) ?_
  refine FL.nil ?_
  rcases ifB hp with ⟨c46,hp⟩|⟨c46,hp⟩
  ·
   refine FW.condT rfl c46 ?_
   refine FW.skip (FW.seq (FW.block (FW.seq (FW.region ?_))))
   refine FL.v (E.move k31) ?_
   refine FL.v (E.move k32) ?_
   obtain ⟨x54,hx55,hp⟩:=bnd hp
   obtain ⟨p47,cs48,pt49,l50,at51,rel53⟩:=p0.at hx55
   obtain ⟨v56,rfl,h57⟩:=zap rel53
   refine FL.v (E.indexAddr te61 rfl rfl pt49) ?_
   refine FL.v (E.fieldAddr zav rfl) ?_
   refine FL.v (E.load rfl (zag Tryz.isAgg52 ((at51.mono i28).now S27.sl) rfl)) ?_
   refine FL.v (E.move k35) ?_
   obtain ⟨x65,hx66,hp⟩:=bnd hp
   obtain ⟨p58,cs59,pt60,l62,at63,rel64⟩:=h57.at hx66
   obtain rfl:=zao rel64
   refine FL.v (E.indexAddr te52 rfl rfl pt60) ?_
   refine FL.v (E.load rfl (zak Tryz.isAgg3 ((at63.mono i28).now S27.sl) rfl)) ?_
   refine FL.v (E.assign (v:=Value.int .i64 x65) rfl) ?_
   refine FL.nil (FW.seq (FW.region ?_))
   refine FL.v (E.move k32) ?_
   refine FL.v (E.move k33) ?_
   refine FL.v (E.assign (v:=Value.int .i64 a1) rfl) ?_
   refine FL.v (E.assign (v:=Value.int .i64 a2) rfl) ?_
   refine FL.nil (FW.seq (FW.seq (FW.region ?_)))
   refine FL.v (E.move (v:=Value.int .i64 x65) rfl) ?_
   refine FL.v (E.lss rfl rfl) ?_
   refine FL.nil ?_
   rcases ifB hp with ⟨c67,hp⟩|⟨c67,hp⟩
   ·
    refine FW.condT rfl c67 ?_
    refine FW.region ?_
    refine FL.v (E.move k33) ?_
    refine FL.v (E.move k32) ?_
    refine FL.v (E.assign (v:=Value.int .i64 a2) rfl) ?_
    refine FL.v (E.assign (v:=Value.int .i64 a1) rfl) ?_
    refine FL.nil (FW.seq ?_)
    obtain ⟨x77,hx78,hp⟩:=bnd hp
    obtain ⟨x87,hx88,hp⟩:=bnd hp
    obtain ⟨r94,hr95,hp⟩:=bnd hp
    refine FW.drawB (Sl H26) (fun f w=>∃ H:GH,∃ vA4:Value,∃ nA5:Nat,∃ csA6:List Value,St Ha wa H w [.box b21 134 [Value.slice none 0 0,Value.int .i64 0,Value.int .i64 0,Value.int .i64 0],.row 3 1 vA4 nA5 csA6]∧Inc H26 H∧Els (up wa.heap.size H) eI 1 csA6 r94.1∧f 0=v0∧f 1=Value.int .i64 a1∧f 2=Value.int .i64 a2∧f 6=Value.pointer (some (⟨b21,0,none⟩:Addr))∧f 8=Value.int .i64 s25∧f 9=Value.int .i64 x65∧f 10=Value.int .i64 a2∧f 11=Value.int .i64 a1∧f 12=vA4∧f 13=Value.bool r94.2) (by kernel_rfl) S27.sl ?_ ?_
    ·
     intro w68 r69
     have S70:=S27.call r69
     refine FB.t (i:=0) (bs 18 1) rfl (SP.nil S70.sl) rfl (fun w' hw'=>(E.move k31)) ?_
     refine FB.t (i:=1) (bs 18 3) rfl (SP.nil S70.sl) rfl (fun w' hw'=>(E.move (v:=Value.int .i64 a2) rfl)) ?_
     obtain ⟨p71,cs72,pt73,l74,at75,rel76⟩:=p0.at hx78
     obtain ⟨v79,rfl,h80⟩:=zap rel76
     refine FB.t (i:=2) (bs 18 7) rfl (SP.nil S70.sl) rfl (fun w' hw'=>(E.indexAddr te61 rfl rfl pt73)) ?_
     refine FB.t (i:=3) (bs 18 15) rfl (SP.nil S70.sl) rfl (fun w' hw'=>(E.fieldAddr zav rfl)) ?_
     refine FB.t (i:=4) (bs 18 31) rfl (SP.nil S70.sl) rfl (fun w' hw'=>(E.load rfl (zag Tryz.isAgg52 ((at75.mono i28).now hw') rfl))) ?_
     refine FB.t (i:=5) (bs 18 63) rfl (SP.nil S70.sl) rfl (fun w' hw'=>(E.move k31)) ?_
     refine FB.t (i:=6) (bs 18 127) rfl (SP.nil S70.sl) rfl (fun w' hw'=>(E.move (v:=Value.int .i64 a1) rfl)) ?_
     obtain ⟨p81,cs82,pt83,l84,at85,rel86⟩:=p0.at hx88
     obtain ⟨v89,rfl,h90⟩:=zap rel86
     refine FB.t (i:=7) (bs 18 255) rfl (SP.nil S70.sl) rfl (fun w' hw'=>(E.indexAddr te61 rfl rfl pt83)) ?_
     refine FB.t (i:=8) (bs 18 511) rfl (SP.nil S70.sl) rfl (fun w' hw'=>(E.fieldAddr zav rfl)) ?_
     refine FB.t (i:=9) (bs 18 1023) rfl (SP.nil S70.sl) rfl (fun w' hw'=>(E.load rfl (zag Tryz.isAgg52 ((at85.mono i28).now hw') rfl))) ?_
     refine FB.t (i:=10) (bs 18 2047) rfl (SP.nil S70.sl) rfl (fun w' hw'=>(E.move (v:=Value.int .i64 x65) rfl)) ?_
     refine FB.all1 (i:=11) (by kernel_rfl) ?_
     ·
      refine FC.call (l':=(bs 18 4095)) rfl (by kernel_rfl) rfl rfl rfl (E.call Tryz.call136 (A1 rfl)) (zby S70.sl x65) ?_
      rintro e w91 ⟨rfl,r92⟩
      refine ⟨_,rfl,?_⟩
      have S93:=S70.call r92
      refine ⟨(SP.nil S93.sl),?_⟩
      refine FB.all1 (i:=12) (by kernel_rfl) ?_
      ·
       refine FC.call (l':=(bs 18 8191)) rfl (by kernel_rfl) rfl rfl rfl (E.call Tryz.call103 (A3 rfl rfl rfl)) (zb3 S93.sl v79 x77.clause (h80.mono i28) v89 x87.clause (h90.mono i28) (PF.zaq x65) hr95) ?_
       rintro e w97 ⟨H96,vA0,nA1,csA2,rfl,r99,elsA3⟩
       refine ⟨_,rfl,?_⟩
       have elsA3:=elsA3.mono (up_le S93.size)
       have S98:=S93.join (l':=[.row 3 1 vA0 nA1 csA2,.box b21 134 [Value.slice none 0 0,Value.int .i64 0,Value.int .i64 0,Value.int .i64 0]]) r99 rfl
       refine ⟨(SP.nil (Sl.of_inc r99.run.inc S98.sl)),?_⟩
       refine FB.t (i:=13) (bs 18 16383) rfl (SP.nil (Sl.of_inc r99.run.inc S98.sl)) rfl (fun w' hw'=>(E.move (v:=Value.tuple #[vA0,Value.bool r94.2]) rfl)) ?_
       refine FB.t (i:=14) (bs 18 32767) rfl (SP.nil (Sl.of_inc r99.run.inc S98.sl)) rfl (fun w' hw'=>(E.extract (i:=0) rfl rfl)) ?_
       refine FB.t (i:=15) (bs 18 65535) rfl (SP.nil (Sl.of_inc r99.run.inc S98.sl)) rfl (fun w' hw'=>(E.extract (i:=1) rfl rfl)) ?_
       refine FB.t (i:=16) (bs 18 131071) rfl (SP.nil (Sl.of_inc r99.run.inc S98.sl)) rfl (fun w' hw'=>(E.assign (v:=vA0) rfl)) ?_
       refine FB.t (i:=17) (bs 18 262143) rfl (SP.nil (Sl.of_inc r99.run.inc S98.sl)) rfl (fun w' hw'=>(E.assign (v:=Value.bool r94.2) rfl)) ?_
       exact FB.done (by kernel_rfl) ⟨_,_,_,_,(S98.sel [1,0] (by decide) rfl),r99.run.inc,elsA3,k31,k32,k33,k34,k35,rfl,rfl,rfl,rfl,rfl⟩
    ·
     rintro fAc wAb ⟨HA8,vA4,nA5,csA6,SA9,iAa,elsA7,kAd,kAe,kAf,kAg,kAh,kAi,kAj,kAk,kAl,kAm⟩
     refine FW.seq (FW.region ?_)
     refine FL.v (E.move kAm) ?_
     refine FL.nil ?_
     rcases ifB hp with ⟨cAn,hp⟩|⟨cAn,hp⟩
     ·
      refine FW.condT rfl cAn ?_
      refine FW.seq (FW.region ?_)
      refine FL.v (E.move kAl) ?_
      refine FL.v (E.move kAj) ?_
      refine FL.v (E.move kAk) ?_
      refine FL.v (E.move kAi) ?_
      refine FL.call rfl rfl rfl (E.call Tryz.call136 (A1 rfl)) (zby SA9.sl x65) ?_
      rintro e wAo ⟨rfl,rAp⟩
      refine ⟨_,rfl,?_⟩
      have SAq:=SA9.call rAp
      refine FL.v (E.build (B4 rfl rfl rfl rfl) (run_build _ 134 #[(0,vA4),(1,Value.int .i64 a2),(2,Value.int .i64 a1),(3,Value.int .i64 (PF.zaq x65))] #[vA4,Value.int .i64 a2,Value.int .i64 a1,Value.int .i64 (PF.zaq x65)] (by obtain ⟨_,_,rfl⟩:=SAq.row_ln (i:=1) rfl;rfl))) ?_
      obtain ⟨wAr,runAs,SAt⟩:=SAq.store0 (P:=Tryz.prog) (t:=134) (i:=0) (cs':=[vA4,Value.int .i64 a2,Value.int .i64 a1,Value.int .i64 (PF.zaq x65)]) (l':=[.box b21 134 [vA4,Value.int .i64 a2,Value.int .i64 a1,Value.int .i64 (PF.zaq x65)],.row 3 1 vA4 nA5 csA6]) (v:=Value.agg #[vA4,Value.int .i64 a2,Value.int .i64 a1,Value.int .i64 (PF.zaq x65)]) (c:=[vA4,Value.int .i64 a2,Value.int .i64 a1,Value.int .i64 (PF.zaq x65)]) rfl Tryz.sizeOf134 rfl rfl (zab (Ln.one (SAq.row_ln (i:=1) rfl)) (zab rfl (zab rfl (zab rfl zae)))) (Nat.le_of_ble_eq_true rfl) rfl rfl
      refine FL.act rfl rfl (E.store kAg rfl runAs) ?_
      refine FL.v (E.assign (v:=Value.bool true) rfl) ?_
      refine FL.nil ?_
      refine FW.ret ?_
      obtain ⟨HAu,SAv,iAw,hAx,nvAz⟩:=SAt.sealRowU (i:=1) (l':=[.box b21 134 [vA4,Value.int .i64 a2,Value.int .i64 a1,Value.int .i64 (PF.zaq x65)]]) rfl elsA7 (by decide) rfl
      obtain rfl:=Option.some.inj hp
      exact ⟨nofun,rfl,⟨.inr rfl,resC2 rfl kAg (zaA Tryz.isAgg134 Tryz.sizeOf134 (SAv.box_now (i:=0) rfl) rfl) rfl ⟨_,_,rfl,SAv.run,hAx⟩⟩⟩
     ·
      refine FW.condF rfl cAn ?_
      refine FW.skip (FW.region ?_)
      refine FL.v (E.move kAh) ?_
      refine FL.v (E.add rfl rfl) ?_
      refine FL.v (E.assign (v:=Value.int .i64 (wr (s25 + 1))) rfl) ?_
      refine FL.nil ?_
      obtain rfl:=Option.some.inj hp
      exact ⟨rfl,⟨_,(SA9.sel [0] (by decide) rfl),(i28.tr iAa),kAd,kAe,kAf,kAg,rfl⟩⟩
   ·
    refine FW.condF rfl c67 ?_
    refine FW.skip (FW.seq ?_)
    obtain ⟨xAJ,hxAK,hp⟩:=bnd hp
    obtain ⟨xAT,hxAU,hp⟩:=bnd hp
    obtain ⟨rB0,hrB1,hp⟩:=bnd hp
    refine FW.drawB (Sl H26) (fun f w=>∃ H:GH,∃ vBa:Value,∃ nBb:Nat,∃ csBc:List Value,St Ha wa H w [.box b21 134 [Value.slice none 0 0,Value.int .i64 0,Value.int .i64 0,Value.int .i64 0],.row 3 1 vBa nBb csBc]∧Inc H26 H∧Els (up wa.heap.size H) eI 1 csBc rB0.1∧f 0=v0∧f 1=Value.int .i64 a1∧f 2=Value.int .i64 a2∧f 6=Value.pointer (some (⟨b21,0,none⟩:Addr))∧f 8=Value.int .i64 s25∧f 9=Value.int .i64 x65∧f 10=Value.int .i64 a1∧f 11=Value.int .i64 a2∧f 12=vBa∧f 13=Value.bool rB0.2) (by kernel_rfl) S27.sl ?_ ?_
    ·
     intro wAA rAB
     have SAC:=S27.call rAB
     refine FB.t (i:=0) (bs 18 1) rfl (SP.nil SAC.sl) rfl (fun w' hw'=>(E.move k31)) ?_
     refine FB.t (i:=1) (bs 18 3) rfl (SP.nil SAC.sl) rfl (fun w' hw'=>(E.move (v:=Value.int .i64 a1) rfl)) ?_
     obtain ⟨pAD,csAE,ptAF,lAG,atAH,relAI⟩:=p0.at hxAK
     obtain ⟨vAL,rfl,hAM⟩:=zap relAI
     refine FB.t (i:=2) (bs 18 7) rfl (SP.nil SAC.sl) rfl (fun w' hw'=>(E.indexAddr te61 rfl rfl ptAF)) ?_
     refine FB.t (i:=3) (bs 18 15) rfl (SP.nil SAC.sl) rfl (fun w' hw'=>(E.fieldAddr zav rfl)) ?_
     refine FB.t (i:=4) (bs 18 31) rfl (SP.nil SAC.sl) rfl (fun w' hw'=>(E.load rfl (zag Tryz.isAgg52 ((atAH.mono i28).now hw') rfl))) ?_
     refine FB.t (i:=5) (bs 18 63) rfl (SP.nil SAC.sl) rfl (fun w' hw'=>(E.move k31)) ?_
     refine FB.t (i:=6) (bs 18 127) rfl (SP.nil SAC.sl) rfl (fun w' hw'=>(E.move (v:=Value.int .i64 a2) rfl)) ?_
     obtain ⟨pAN,csAO,ptAP,lAQ,atAR,relAS⟩:=p0.at hxAU
     obtain ⟨vAV,rfl,hAW⟩:=zap relAS
     refine FB.t (i:=7) (bs 18 255) rfl (SP.nil SAC.sl) rfl (fun w' hw'=>(E.indexAddr te61 rfl rfl ptAP)) ?_
     refine FB.t (i:=8) (bs 18 511) rfl (SP.nil SAC.sl) rfl (fun w' hw'=>(E.fieldAddr zav rfl)) ?_
     refine FB.t (i:=9) (bs 18 1023) rfl (SP.nil SAC.sl) rfl (fun w' hw'=>(E.load rfl (zag Tryz.isAgg52 ((atAR.mono i28).now hw') rfl))) ?_
     refine FB.t (i:=10) (bs 18 2047) rfl (SP.nil SAC.sl) rfl (fun w' hw'=>(E.move (v:=Value.int .i64 x65) rfl)) ?_
     refine FB.all1 (i:=11) (by kernel_rfl) ?_
     ·
      refine FC.call (l':=(bs 18 4095)) rfl (by kernel_rfl) rfl rfl rfl (E.call Tryz.call136 (A1 rfl)) (zby SAC.sl x65) ?_
      rintro e wAX ⟨rfl,rAY⟩
      refine ⟨_,rfl,?_⟩
      have SAZ:=SAC.call rAY
      refine ⟨(SP.nil SAZ.sl),?_⟩
      refine FB.all1 (i:=12) (by kernel_rfl) ?_
      ·
       refine FC.call (l':=(bs 18 8191)) rfl (by kernel_rfl) rfl rfl rfl (E.call Tryz.call103 (A3 rfl rfl rfl)) (zb3 SAZ.sl vAL xAJ.clause (hAM.mono i28) vAV xAT.clause (hAW.mono i28) (PF.zaq x65) hrB1) ?_
       rintro e wB3 ⟨HB2,vB6,nB7,csB8,rfl,rB5,elsB9⟩
       refine ⟨_,rfl,?_⟩
       have elsB9:=elsB9.mono (up_le SAZ.size)
       have SB4:=SAZ.join (l':=[.row 3 1 vB6 nB7 csB8,.box b21 134 [Value.slice none 0 0,Value.int .i64 0,Value.int .i64 0,Value.int .i64 0]]) rB5 rfl
       refine ⟨(SP.nil (Sl.of_inc rB5.run.inc SB4.sl)),?_⟩
       refine FB.t (i:=13) (bs 18 16383) rfl (SP.nil (Sl.of_inc rB5.run.inc SB4.sl)) rfl (fun w' hw'=>(E.move (v:=Value.tuple #[vB6,Value.bool rB0.2]) rfl)) ?_
       refine FB.t (i:=14) (bs 18 32767) rfl (SP.nil (Sl.of_inc rB5.run.inc SB4.sl)) rfl (fun w' hw'=>(E.extract (i:=0) rfl rfl)) ?_
       refine FB.t (i:=15) (bs 18 65535) rfl (SP.nil (Sl.of_inc rB5.run.inc SB4.sl)) rfl (fun w' hw'=>(E.extract (i:=1) rfl rfl)) ?_
       refine FB.t (i:=16) (bs 18 131071) rfl (SP.nil (Sl.of_inc rB5.run.inc SB4.sl)) rfl (fun w' hw'=>(E.assign (v:=vB6) rfl)) ?_
       refine FB.t (i:=17) (bs 18 262143) rfl (SP.nil (Sl.of_inc rB5.run.inc SB4.sl)) rfl (fun w' hw'=>(E.assign (v:=Value.bool rB0.2) rfl)) ?_
       exact FB.done (by kernel_rfl) ⟨_,_,_,_,(SB4.sel [1,0] (by decide) rfl),rB5.run.inc,elsB9,k31,k32,k33,k34,k35,rfl,rfl,rfl,rfl,rfl⟩
    ·
     rintro fBi wBh ⟨HBe,vBa,nBb,csBc,SBf,iBg,elsBd,kBj,kBk,kBl,kBm,kBn,kBo,kBp,kBq,kBr,kBs⟩
     refine FW.seq (FW.region ?_)
     refine FL.v (E.move kBs) ?_
     refine FL.nil ?_
     rcases ifB hp with ⟨cBt,hp⟩|⟨cBt,hp⟩
     ·
      refine FW.condT rfl cBt ?_
      refine FW.seq (FW.region ?_)
      refine FL.v (E.move kBr) ?_
      refine FL.v (E.move kBp) ?_
      refine FL.v (E.move kBq) ?_
      refine FL.v (E.move kBo) ?_
      refine FL.call rfl rfl rfl (E.call Tryz.call136 (A1 rfl)) (zby SBf.sl x65) ?_
      rintro e wBu ⟨rfl,rBv⟩
      refine ⟨_,rfl,?_⟩
      have SBw:=SBf.call rBv
      refine FL.v (E.build (B4 rfl rfl rfl rfl) (run_build _ 134 #[(0,vBa),(1,Value.int .i64 a1),(2,Value.int .i64 a2),(3,Value.int .i64 (PF.zaq x65))] #[vBa,Value.int .i64 a1,Value.int .i64 a2,Value.int .i64 (PF.zaq x65)] (by obtain ⟨_,_,rfl⟩:=SBw.row_ln (i:=1) rfl;rfl))) ?_
      obtain ⟨wBx,runBy,SBz⟩:=SBw.store0 (P:=Tryz.prog) (t:=134) (i:=0) (cs':=[vBa,Value.int .i64 a1,Value.int .i64 a2,Value.int .i64 (PF.zaq x65)]) (l':=[.box b21 134 [vBa,Value.int .i64 a1,Value.int .i64 a2,Value.int .i64 (PF.zaq x65)],.row 3 1 vBa nBb csBc]) (v:=Value.agg #[vBa,Value.int .i64 a1,Value.int .i64 a2,Value.int .i64 (PF.zaq x65)]) (c:=[vBa,Value.int .i64 a1,Value.int .i64 a2,Value.int .i64 (PF.zaq x65)]) rfl Tryz.sizeOf134 rfl rfl (zab (Ln.one (SBw.row_ln (i:=1) rfl)) (zab rfl (zab rfl (zab rfl zae)))) (Nat.le_of_ble_eq_true rfl) rfl rfl
      refine FL.act rfl rfl (E.store kBm rfl runBy) ?_
      refine FL.v (E.assign (v:=Value.bool true) rfl) ?_
      refine FL.nil ?_
      refine FW.ret ?_
      obtain ⟨HBA,SBB,iBC,hBD,nvBE⟩:=SBz.sealRowU (i:=1) (l':=[.box b21 134 [vBa,Value.int .i64 a1,Value.int .i64 a2,Value.int .i64 (PF.zaq x65)]]) rfl elsBd (by decide) rfl
      obtain rfl:=Option.some.inj hp
      exact ⟨nofun,rfl,⟨.inr rfl,resC2 rfl kBm (zaA Tryz.isAgg134 Tryz.sizeOf134 (SBB.box_now (i:=0) rfl) rfl) rfl ⟨_,_,rfl,SBB.run,hBD⟩⟩⟩
     ·
      refine FW.condF rfl cBt ?_
      refine FW.skip (FW.region ?_)
      refine FL.v (E.move kBn) ?_
      refine FL.v (E.add rfl rfl) ?_
      refine FL.v (E.assign (v:=Value.int .i64 (wr (s25 + 1))) rfl) ?_
      refine FL.nil ?_
      obtain rfl:=Option.some.inj hp
      exact ⟨rfl,⟨_,(SBf.sel [0] (by decide) rfl),(i28.tr iBg),kBj,kBk,kBl,kBm,rfl⟩⟩
  ·
   refine FW.condF rfl c46 ?_
   refine FW.exit ?_
   obtain rfl:=Option.some.inj hp
   exact ⟨nofun,rfl,⟨_,S27,i28,k34⟩⟩
 ·
  clear hq
  intro e fBK wBJ hD
  rcases q25 with s25|x25
  ·
   obtain ⟨rfl,hD⟩:=hD
   obtain ⟨HBG,SBH,iBI,kBL⟩:=hD
   replace hp:=el_go hp
   refine FW.seq (FW.region ?_)
   refine FL.v (E.build (B0) (run_build _ 134 #[] #[Value.slice none 0 0,Value.int .i64 0,Value.int .i64 0,Value.int .i64 0] (by rfl))) ?_
   obtain ⟨wBM,runBN,SBO⟩:=SBH.store0 (P:=Tryz.prog) (t:=134) (i:=0) (cs':=[Value.slice none 0 0,Value.int .i64 0,Value.int .i64 0,Value.int .i64 0]) (l':=[.box b21 134 [Value.slice none 0 0,Value.int .i64 0,Value.int .i64 0,Value.int .i64 0]]) (v:=Value.agg #[Value.slice none 0 0,Value.int .i64 0,Value.int .i64 0,Value.int .i64 0]) (c:=[Value.slice none 0 0,Value.int .i64 0,Value.int .i64 0,Value.int .i64 0]) rfl Tryz.sizeOf134 rfl rfl (zab rfl (zab rfl (zab rfl (zab rfl zae)))) (Nat.le_of_ble_eq_true rfl) rfl rfl
   refine FL.act rfl rfl (E.store kBL rfl runBN) ?_
   refine FL.v (E.assign (v:=Value.bool false) rfl) ?_
   refine FL.nil ?_
   refine FW.ret ?_
   obtain rfl:=Option.some.inj hp
   exact ⟨.inr rfl,resC2 rfl kBL (zaA Tryz.isAgg134 Tryz.sizeOf134 (SBO.box_now (i:=0) rfl) rfl) rfl ⟨_,_,rfl,SBO.run,(RSl.nil _ _ _)⟩⟩
  ·
   obtain ⟨he,hL⟩:=hD
   replace hp:=el_rt hp
   obtain rfl:=Option.some.inj hp
   subst he
   exact hL

@[reducible] def zeE (H0:GH) (w0:World) (Ha:GH) (L:List MO) (b0:Nat) (r:((List zaa)×l1Cur)):Ending→World→Prop :=
 fun e w'=>∃ H':GH,∃ v0:Value,∃ n0:Nat,∃ c0:List Value,∃ v0_0r:Value,e=.returned (v0)∧(St H0 w0 H' w' (.row 134 4 v0 n0 c0::.box b0 103 [v0_0r,Value.int .i64 r.2.at_,Value.int .u64 r.2.seed]::L)∧Inc Ha H')∧Els (up w0.heap.size H') zah 4 c0 r.1∧(bl c0).Nodup∧RSl H' (eN .u8) 1 v0_0r r.2.code
set_option maxHeartbeats 4000000 in
theorem zeo {H0 Ha:GH} {w0 wa:World} {L:List MO} {a0:l1Cur} {b0:Nat} {v0_0:Value} (S0:St H0 w0 Ha wa (.box b0 103 [v0_0,Value.int .i64 a0.at_,Value.int .u64 a0.seed]::L)) (p0_0:RSl Ha (eN .u8) 1 v0_0 a0.code) (a1:Cnf) (v1_1:Value) (p1_1:RSl Ha (eL eI 1) 1 v1_1 a1.clauses) {r:((List zaa)×l1Cur)} (hp:(PF.zci a0 a1)=some r) :
  Calls Tryz.prog 101 #[Value.pointer (some (⟨b0,0,none⟩:Addr)),Value.agg #[Value.int .i64 a1.vars,v1_1]] wa (zeE H0 w0 Ha L b0 r):=by
 unfold PF.zci at hp
 refine zaj (N:=94) (args:=[Value.pointer (some (⟨b0,0,none⟩:Addr)),Value.agg #[Value.int .i64 a1.vars,v1_1]]) Tryz.func101 rfl rfl rfl ?_
 refine FW.seq (FW.region ?_)
 obtain ⟨b21,w22,run23,S24⟩:=S0.box (P:=Tryz.prog) 26 [Value.int .i64 a1.vars,v1_1] (v:=Value.agg #[Value.int .i64 a1.vars,v1_1]) rfl (zab rfl (zab p1_1.one zae))
 refine FL.v (E.box rfl run23) ?_
 obtain ⟨H25,S26,i27,at28⟩:=S24.sealBox (i:=0) (l':=(.box b0 103 [v0_0,Value.int .i64 a0.at_,Value.int .u64 a0.seed]::L)) rfl rfl
 refine FL.v (E.assign (v:=Value.slice none 0 0) rfl) ?_
 refine FL.nil (FW.seq (FW.region ?_))
 obtain ⟨v29,w30,run31,S32⟩:=S26.buildSlice (P:=Tryz.prog) te61 [] (parts:=#[]) (cells:=[]) rfl zan zam zae (Nat.le_of_ble_eq_true rfl)
 have els33:Els (up w0.heap.size H25) zah 4 [] []:=Els.nil
 refine FL.v (E.buildSlice (B0) run31) ?_
 refine FL.v (E.assign (v:=v29) rfl) ?_
 refine FL.nil (FW.seq (FW.seq (FW.region ?_)))
 refine FL.v (E.load rfl (zal Tryz.isAgg26 Tryz.sizeOf26 (at28.now S32.sl) rfl)) ?_
 obtain ⟨r34,hr35,hp⟩:=bnd hp
 refine FL.call rfl rfl rfl (E.call Tryz.call127 (A1 rfl)) (zdz S32.sl a1 v1_1 (p1_1.mono i27) hr35) ?_
 rintro e w36 ⟨rfl,r37⟩
 refine ⟨_,rfl,?_⟩
 have S38:=S32.call r37
 refine FL.v (E.not rfl) ?_
 refine FL.v (E.move (v:=Value.bool (!r34)) rfl) ?_
 refine FL.cut 5 (fun f w=>∃ H:GH,St H0 w0 H w (.row 134 4 v29 0 []::.box b0 103 [v0_0,Value.int .i64 a0.at_,Value.int .u64 a0.seed]::L)∧Inc H25 H∧f 0=Value.pointer (some (⟨b0,0,none⟩:Addr))∧f 3=Value.pointer (some ⟨b21,0,none⟩)∧f 5=v29∧f 22=Value.bool (bif (!r34) then true else ((len a1.clauses) == 0))) ?_ ?_
 ·
  rcases bcase (!r34) with c45|c45
  ·
   refine FL.skip (wF_no rfl rfl rfl c45) rfl ?_
   refine FL.skip (wF_no rfl rfl rfl c45) rfl ?_
   refine FL.skip (wF_no rfl rfl rfl c45) rfl ?_
   refine FL.skip (wF_no rfl rfl rfl c45) rfl ?_
   refine FL.v (E.pickT rfl c45 rfl) ?_
   exact FL.nil ⟨rfl,_,S38,(Inc.rfl _),rfl,rfl,rfl,(congrArg Value.bool (bifT c45).symm)⟩
  ·
   refine FL.val (zac rfl rfl rfl c45) rfl rfl (E.fieldAddr zay rfl) ?_
   refine FL.val (zac rfl rfl rfl c45) rfl rfl (E.load rfl (zag Tryz.isAgg24 (at28.now S38.sl) rfl)) ?_
   refine FL.val (zac rfl rfl rfl c45) rfl rfl (E.lenP te24 rfl p1_1) ?_
   refine FL.val (zac rfl rfl rfl c45) rfl rfl (E.eql rfl rfl) ?_
   refine FL.v (E.pickF rfl c45 rfl) ?_
   exact FL.nil ⟨rfl,_,S38,(Inc.rfl _),rfl,rfl,rfl,(congrArg Value.bool (bifF c45).symm)⟩
 rintro f44 w43 ⟨H40,S41,i42,k46,k47,k48,k49⟩
 refine FL.nil ?_
 rcases ifB hp with ⟨c50,hp⟩|⟨c50,hp⟩
 ·
  refine FW.condT k49 c50 ?_
  refine FW.seq (FW.region ?_)
  refine FL.v (E.move k48) ?_
  refine FL.v (E.assign (v:=v29) rfl) ?_
  refine FL.nil ?_
  refine FW.ret ?_
  obtain rfl:=Option.some.inj hp
  exact ⟨.inr rfl,res1 rfl rfl ⟨_,_,_,_,_,rfl,⟨S41,(i27.tr i42)⟩,(els33.mono (zaf i42)),(show (bl []).Nodup from List.nodup_nil),(p0_0.mono (i27.tr i42))⟩⟩
 ·
  refine FW.condF k49 c50 ?_
  refine FW.skip (FW.seq (FW.seq (FW.region ?_)))
  refine FL.v (E.move k46) ?_
  obtain ⟨v51,w52,run53,S54,els55⟩:=S41.ints (P:=Tryz.prog) te52 (up w0.heap.size H40) 7 [3,5,8,12,1,0,20]
  refine FL.v (E.buildSlice (B7 rfl rfl rfl rfl rfl rfl rfl) run53) ?_
  obtain ⟨H56,S57,i58,h59,nv60⟩:=S54.sealRowU (i:=0) (l':=(.row 134 4 v29 0 []::.box b0 103 [v0_0,Value.int .i64 a0.at_,Value.int .u64 a0.seed]::L)) rfl els55 (by decide) rfl
  obtain ⟨r61,hr62,hp⟩:=bnd hp
  have S63:St H0 w0 H56 w52 (.box b0 103 [v0_0,Value.int .i64 a0.at_,Value.int .u64 a0.seed]::.row 134 4 v29 0 []::L):=S57.front 1 rfl rfl
  refine FL.call rfl rfl rfl (E.call Tryz.call104 (A2 rfl rfl)) (zbo (L:=(.row 134 4 v29 0 []::L)) S63 (a0:=a0) (p0_0.mono ((i27.tr i42).tr i58)) v51 [3,5,8,12,1,0,20] (h59.mono upI) hr62) ?_
  rintro e w65 ⟨H64,v68,rfl,⟨S66,i67⟩,h69⟩
  refine ⟨_,rfl,?_⟩
  have S66:St H0 w0 H64 w65 (.box b0 103 [v68,Value.int .i64 r61.2.at_,Value.int .u64 r61.2.seed]::.row 134 4 v29 0 []::L):=S66
  refine FL.v (E.assign (v:=Value.int .i64 r61.1) rfl) ?_
  refine FL.nil ?_
  obtain ⟨q70,hq,hp⟩:=bndR hp
  refine FW.block ?_
  refine FW.mono (FW.iter (S:=((List zaa)×(List Int)×Int×Int×Int)) (X:=Empty) (fun (s70:((List zaa)×(List Int)×Int×Int×Int)) f w=>∃ H:GH,∃ v39:Value,∃ n71:Nat,∃ cs72:List Value,∃ v75:Value,St H0 w0 H w (.box b0 103 [v75,Value.int .i64 s70.2.2.1,Value.int .u64 s70.2.2.2.1]::.row 134 4 v39 n71 cs72::L)∧Inc H64 H∧Els (up w0.heap.size H) zah 4 cs72 s70.1∧RSl H (eN .u8) 1 v75 s70.2.1∧(bl cs72).Nodup∧f 0=Value.pointer (some (⟨b0,0,none⟩:Addr))∧f 3=Value.pointer (some ⟨b21,0,none⟩)∧f 5=v39∧f 6=Value.int .i64 s70.2.2.2.2) (fun (q:Rs ((List zaa)×(List Int)×Int×Int×Int) Empty) e f w=>match q with|.go s70=>e=Exit.exit 0∧(∃ H:GH,∃ v39:Value,∃ n71:Nat,∃ cs72:List Value,∃ v75:Value,St H0 w0 H w (.box b0 103 [v75,Value.int .i64 s70.2.2.1,Value.int .u64 s70.2.2.2.1]::.row 134 4 v39 n71 cs72::L)∧Inc H64 H∧Els (up w0.heap.size H) zah 4 cs72 s70.1∧RSl H (eN .u8) 1 v75 s70.2.1∧(bl cs72).Nodup∧f 5=v39)|.rt x=>x.elim) hq ⟨_,_,_,_,_,S66,(Inc.rfl _),(els33.mono (zaf ((i42.tr i58).tr i67))),h69,(show (bl []).Nodup from List.nodup_nil),k46,k47,k48,rfl⟩ ?_) ?_
  ·
   clear hp hq
   rintro s70 f81 w80 ⟨H77,v39,n71,cs72,v75,S78,i79,els73,h76,nd74,k82,k83,k84,k85⟩ oDU hp
   refine FW.seq (FW.seq (FW.region ?_))
   refine FL.v (E.move k85) ?_
   refine FL.v (E.gtr rfl rfl) ?_
   refine FL.nil ?_
   rcases ifB hp with ⟨c86,hp⟩|⟨c86,hp⟩
   ·
    refine FW.condT rfl c86 ?_
    refine FW.skip (FW.seq (FW.block (FW.seq (FW.seq (FW.region ?_)))))
    refine FL.v (E.move k84) ?_
    refine FL.v (E.lenO te61 rfl S78 (i:=1) rfl els73 (by decide)) ?_
    refine FL.v (E.lss rfl rfl) ?_
    refine FL.v (E.move (v:=Value.bool (decide ((len s70.1) < 2))) rfl) ?_
    obtain ⟨t87,hqt87,hp⟩:=bnd hp
    refine FL.cut 3 (fun f w=>∃ H:GH,∃ v89:Value,St H0 w0 H w (.box b0 103 [v89,Value.int .i64 t87.2.1,Value.int .u64 t87.2.2.1]::.row 134 4 v39 n71 cs72::L)∧Inc H77 H∧RSl H (eN .u8) 1 v89 t87.1∧f 0=Value.pointer (some (⟨b0,0,none⟩:Addr))∧f 3=Value.pointer (some ⟨b21,0,none⟩)∧f 5=v39∧f 6=Value.int .i64 s70.2.2.2.2∧f 37=Value.bool t87.2.2.2) ?_ ?_
    ·
     clear hp;have hp:=hqt87;clear hqt87
     rcases ifB hp with ⟨c88,hp⟩|⟨c88,hp⟩
     ·
      refine FL.skip (wF_no rfl rfl rfl c88) rfl ?_
      refine FL.skip (wF_no rfl rfl rfl c88) rfl ?_
      refine FL.v (E.pickT rfl c88 rfl) ?_
      obtain rfl:=Option.some.inj hp
      exact FL.nil ⟨rfl,⟨_,_,S78,(Inc.rfl _),h76,k82,k83,k84,k85,rfl⟩⟩
     ·
      refine FL.val (zac rfl rfl rfl c88) rfl rfl (E.move k82) ?_
      obtain ⟨r91,hr92,hp⟩:=bnd hp
      refine FL.call (zac rfl rfl rfl c88) rfl rfl (E.call Tryz.call68 (A2 rfl rfl)) (zbn (L:=(.row 134 4 v39 n71 cs72::L)) S78 (a0:=(l1Cur.mk s70.2.1 s70.2.2.1 s70.2.2.2.1)) h76 3 hr92) ?_
      rintro e w94 ⟨H93,v97,rfl,⟨S95,i96⟩,h98⟩
      refine ⟨_,rfl,?_⟩
      have S95:St H0 w0 H93 w94 (.box b0 103 [v97,Value.int .i64 r91.2.at_,Value.int .u64 r91.2.seed]::.row 134 4 v39 n71 cs72::L):=S95
      refine FL.v (E.pickF rfl c88 rfl) ?_
      obtain rfl:=Option.some.inj hp
      exact FL.nil ⟨rfl,⟨_,_,S95,i96,h98,k82,k83,k84,k85,rfl⟩⟩
    clear hqt87
    rintro fA3 wA2 ⟨H99,v89,SA0,iA1,h90,kA4,kA5,kA6,kA7,kA8⟩
    refine FL.nil ?_
    rcases ifB hp with ⟨cA9,hp⟩|⟨cA9,hp⟩
    ·
     refine FW.condT kA8 cA9 ?_
     refine FW.seq ?_
     obtain ⟨rAd,hrAe,hp⟩:=bnd hp
     obtain ⟨rAl,hrAm,hp⟩:=bnd hp
     obtain ⟨xsAB,hzAC,hp⟩:=bnd hp
     refine FW.drawB (Sl H99) (fun f w=>∃ H:GH,∃ vAN:Value,∃ nAO:Nat,∃ csAP:List Value,∃ vAS:Value,St H0 w0 H w (.box b0 103 [vAS,Value.int .i64 rAd.2.at_,Value.int .u64 rAd.2.seed]::.row 134 4 vAN nAO csAP::L)∧Inc H99 H∧Els (up w0.heap.size H) zah 4 csAP xsAB∧RSl H (eN .u8) 1 vAS rAd.2.code∧(bl csAP).Nodup∧f 0=Value.pointer (some (⟨b0,0,none⟩:Addr))∧f 3=Value.pointer (some ⟨b21,0,none⟩)∧f 5=vAN∧f 6=Value.int .i64 s70.2.2.2.2) (by kernel_rfl) SA0.sl ?_ ?_
     ·
      intro wAa rAb
      have SAc:=SA0.call rAb
      refine FB.t (i:=0) (bs 11 1) rfl (SP.nil SAc.sl) rfl (fun w' hw'=>(E.move kA6)) ?_
      refine FB.t (i:=1) (bs 11 3) rfl (SP.nil SAc.sl) rfl (fun w' hw'=>(E.load kA5 (zal Tryz.isAgg26 Tryz.sizeOf26 ((at28.mono ((((i42.tr i58).tr i67).tr i79).tr iA1)).now hw') rfl))) ?_
      refine FB.t (i:=2) (bs 11 7) rfl (SP.nil SAc.sl) rfl (fun w' hw'=>(E.move kA4)) ?_
      refine FB.t (i:=3) (bs 11 15) rfl (SP.nil SAc.sl) rfl (fun w' hw'=>(E.fieldAddr zay kA5)) ?_
      refine FB.t (i:=4) (bs 11 31) rfl (SP.nil SAc.sl) rfl (fun w' hw'=>(E.load rfl (zag Tryz.isAgg24 ((at28.mono ((((i42.tr i58).tr i67).tr i79).tr iA1)).now hw') rfl))) ?_
      refine FB.t (i:=5) (bs 11 63) rfl (SP.nil SAc.sl) rfl (fun w' hw'=>(E.lenP te24 rfl p1_1)) ?_
      refine FB.all1 (i:=6) (by kernel_rfl) ?_
      ·
       refine FC.call (l':=(bs 11 127)) rfl (by kernel_rfl) rfl rfl rfl (E.call Tryz.call78 (A2 rfl rfl)) (za5 (L:=(.row 134 4 v39 n71 cs72::L)) SAc (a0:=(l1Cur.mk t87.1 t87.2.1 t87.2.2.1)) h90 (len a1.clauses) hrAe) ?_
       rintro e wAg ⟨HAf,vAj,rfl,⟨SAh,iAi⟩,hAk⟩
       refine ⟨_,rfl,?_⟩
       have SAh:St H0 w0 HAf wAg (.box b0 103 [vAj,Value.int .i64 rAd.2.at_,Value.int .u64 rAd.2.seed]::.row 134 4 v39 n71 cs72::L):=SAh
       refine ⟨(SP.nil (Sl.of_inc iAi SAh.sl)),?_⟩
       refine FB.all1 (i:=7) (by kernel_rfl) ?_
       ·
        refine FC.call (l':=(bs 11 255)) rfl (by kernel_rfl) rfl rfl rfl (E.call Tryz.call168 (A2 rfl rfl)) (zen SAh.sl a1 v1_1 (p1_1.mono ((((((i27.tr i42).tr i58).tr i67).tr i79).tr iA1).tr iAi)) rAd.1 hrAm) ?_
        rintro e wAo ⟨HAn,vAr,rfl,rAq,hAs⟩
        refine ⟨_,rfl,?_⟩
        have nvAt:New HAf [vAr]:=New.of_up SAh.sl hAs.dom
        have hAs:=hAs.mono (up_le SAh.size)
        have SAp:=SAh.call rAq
        refine ⟨(SP.nil (Sl.of_inc (iAi.tr rAq.inc) SAp.sl)),?_⟩
        refine FB.all1 (i:=8) (by kernel_rfl) ?_
        ·
         obtain ⟨vAu,wAv,runAw,SAx⟩:=SAp.buildSlice (P:=Tryz.prog) te61 [Value.agg #[vAr,Value.int .i64 rAl.left,Value.int .i64 rAl.right,Value.int .i64 rAl.pivot]] (parts:=#[(0,Value.agg #[vAr,Value.int .i64 rAl.left,Value.int .i64 rAl.right,Value.int .i64 rAl.pivot])]) (cells:=[vAr,Value.int .i64 rAl.left,Value.int .i64 rAl.right,Value.int .i64 rAl.pivot]) rfl (zas rfl zan) (zar rfl zam) (zab hAs.one (zab rfl (zab rfl (zab rfl zae)))) (Nat.le_of_ble_eq_true rfl)
         have elsAz:Els (up w0.heap.size HAn) zah 4 [vAr,Value.int .i64 rAl.left,Value.int .i64 rAl.right,Value.int .i64 rAl.pivot] [rAl]:=(Els.snoc (H:=(up w0.heap.size HAn)) (E:=zah) (k:=4) (c:=[vAr,Value.int .i64 rAl.left,Value.int .i64 rAl.right,Value.int .i64 rAl.pivot]) (x:=rAl) Els.nil rfl ⟨_,rfl,hAs⟩)
         have ndAA:(bl [vAr,Value.int .i64 rAl.left,Value.int .i64 rAl.right,Value.int .i64 rAl.pivot]).Nodup:=by exact zaT vAr
         refine FC.val (l':=(bs 11 511)) rfl (by kernel_rfl) rfl rfl rfl (E.buildSlice (B1 rfl) runAw) ?_
         refine ⟨(SP.nil (Sl.of_inc (iAi.tr rAq.inc) SAx.sl)),?_⟩
         refine FB.all1 (i:=9) (by kernel_rfl) ?_
         ·
          obtain ⟨vAD,wAG,nAE,csAF,runAH,SAI,elsAJ,ceAK⟩:=SAx.appendO (P:=Tryz.prog) te61 (i:=2) (j:=0) rfl (els73.mono (zaf ((iA1.tr iAi).tr rAq.inc))) rfl elsAz hzAC
          have SAI:St H0 w0 HAn wAG (.row 134 4 vAu 1 [vAr,Value.int .i64 rAl.left,Value.int .i64 rAl.right,Value.int .i64 rAl.pivot]::.box b0 103 [vAj,Value.int .i64 rAd.2.at_,Value.int .u64 rAd.2.seed]::.row 134 4 vAD nAE csAF::L):=SAI
          have ndAL:(bl csAF).Nodup:=by rw [ceAK];exact zaS nd74 ndAA (Els.dom (els73.mono (upI.tr (iA1.tr iAi)))) (by exact nvAt)
          have SAM:St H0 w0 HAn wAG (.box b0 103 [vAj,Value.int .i64 rAd.2.at_,Value.int .u64 rAd.2.seed]::.row 134 4 vAD nAE csAF::L):=SAI.drop 0
          refine FC.val (l':=(bs 11 1023)) rfl (by kernel_rfl) rfl rfl rfl (E.append rfl rfl runAH) ?_
          refine ⟨(SP.nil (Sl.of_inc (iAi.tr rAq.inc) SAM.sl)),?_⟩
          refine FB.t (i:=10) (bs 11 2047) rfl (SP.nil (Sl.of_inc (iAi.tr rAq.inc) SAM.sl)) rfl (fun w' hw'=>(E.assign (v:=vAD) rfl)) ?_
          exact FB.done (by kernel_rfl) ⟨_,_,_,_,_,SAM,(iAi.tr rAq.inc),elsAJ,(hAk.mono rAq.inc),ndAL,kA4,kA5,rfl,kA7⟩
     ·
      rintro fAY wAX ⟨HAU,vAN,nAO,csAP,vAS,SAV,iAW,elsAQ,hAT,ndAR,kAZ,kB0,kB1,kB2⟩
      refine FW.exit ?_
      refine FW.region ?_
      refine FL.v (E.move kB2) ?_
      refine FL.v (E.sub rfl rfl) ?_
      refine FL.v (E.assign (v:=Value.int .i64 (wr (s70.2.2.2.2 - 1))) rfl) ?_
      refine FL.nil ?_
      obtain rfl:=Option.some.inj hp
      exact ⟨rfl,⟨_,_,_,_,_,SAV,((i79.tr iA1).tr iAW),elsAQ,hAT,ndAR,kAZ,kB0,kB1,rfl⟩⟩
    ·
     refine FW.condF kA8 cA9 ?_
     refine FW.skip (FW.seq (FW.region ?_))
     refine FL.v (E.move kA4) ?_
     refine FL.v (E.move kA6) ?_
     refine FL.v (E.lenO te61 rfl SA0 (i:=1) rfl els73 (by decide)) ?_
     obtain ⟨rB3,hrB4,hp⟩:=bnd hp
     refine FL.call rfl rfl rfl (E.call Tryz.call78 (A2 rfl rfl)) (za5 (L:=(.row 134 4 v39 n71 cs72::L)) SA0 (a0:=(l1Cur.mk t87.1 t87.2.1 t87.2.2.1)) h90 (len s70.1) hrB4) ?_
     rintro e wB6 ⟨HB5,vB9,rfl,⟨SB7,iB8⟩,hBa⟩
     refine ⟨_,rfl,?_⟩
     have SB7:St H0 w0 HB5 wB6 (.box b0 103 [vB9,Value.int .i64 rB3.2.at_,Value.int .u64 rB3.2.seed]::.row 134 4 v39 n71 cs72::L):=SB7
     refine FL.v (E.assign (v:=Value.int .i64 rB3.1) rfl) ?_
     refine FL.nil (FW.seq (FW.seq (FW.region ?_)))
     refine FL.v (E.move kA4) ?_
     obtain ⟨rBb,hrBc,hp⟩:=bnd hp
     refine FL.call rfl rfl rfl (E.call Tryz.call68 (A2 rfl rfl)) (zbn (L:=(.row 134 4 v39 n71 cs72::L)) SB7 (a0:=rB3.2) hBa 6 hrBc) ?_
     rintro e wBe ⟨HBd,vBh,rfl,⟨SBf,iBg⟩,hBi⟩
     refine ⟨_,rfl,?_⟩
     have SBf:St H0 w0 HBd wBe (.box b0 103 [vBh,Value.int .i64 rBb.2.at_,Value.int .u64 rBb.2.seed]::.row 134 4 v39 n71 cs72::L):=SBf
     refine FL.nil ?_
     rcases ifB hp with ⟨cBj,hp⟩|⟨cBj,hp⟩
     ·
      refine FW.condT rfl cBj ?_
      refine FW.seq (FW.seq ?_)
      obtain ⟨xBt,hxBu,hp⟩:=bnd hp
      obtain ⟨rBy,hrBz,hp⟩:=bnd hp
      obtain ⟨rBP,hrBQ,hp⟩:=bnd hp
      refine FW.drawB (SX H0 w0 HBd (.row 134 4 v39 n71 cs72::L)) (fun f w=>∃ H:GH,∃ vC1:Value,∃ vC3:Value,∃ nC4:Nat,∃ csC5:List Value,St H0 w0 H w (.box b0 103 [vC1,Value.int .i64 rBy.2.at_,Value.int .u64 rBy.2.seed]::.row 134 4 v39 n71 cs72::.row 3 1 vC3 nC4 csC5::L)∧Inc HBd H∧RSl H (eN .u8) 1 vC1 rBy.2.code∧Els (up w0.heap.size H) eI 1 csC5 rBP.1∧f 0=Value.pointer (some (⟨b0,0,none⟩:Addr))∧f 3=Value.pointer (some ⟨b21,0,none⟩)∧f 5=v39∧f 6=Value.int .i64 s70.2.2.2.2∧f 7=Value.int .i64 rB3.1∧f 8=vC3∧f 9=Value.bool rBP.2) (by kernel_rfl) SBf.sl ?_ ?_
      ·
       intro wBk rBl
       have SBm:=SBf.call rBl
       refine FB.t (i:=0) (bs 15 1) rfl (SP.nil ⟨_,(SBm.selT (a:=[.box b0 103 [vBh,Value.int .i64 rBb.2.at_,Value.int .u64 rBb.2.seed],.row 134 4 v39 n71 cs72]) (l':=[.row 134 4 v39 n71 cs72]) [1] (by decide) rfl),(Inc.rfl _)⟩) rfl (fun w' hw'=>(E.move kA6)) ?_
       refine FB.t (i:=1) (bs 15 3) rfl (SP.nil ⟨_,(SBm.selT (a:=[.box b0 103 [vBh,Value.int .i64 rBb.2.at_,Value.int .u64 rBb.2.seed],.row 134 4 v39 n71 cs72]) (l':=[.row 134 4 v39 n71 cs72]) [1] (by decide) rfl),(Inc.rfl _)⟩) rfl (fun w' hw'=>(E.move (v:=Value.int .i64 rB3.1) rfl)) ?_
       obtain ⟨pBn,csBo,ptBp,lBq,atBr,relBs,hallBv⟩:=SBm.row_atA (i:=1) rfl els73 (by decide) hxBu
       obtain ⟨vBw,rfl,hBx⟩:=zap relBs
       refine FB.t (i:=2) (bs 15 7) rfl (SP.nil ⟨_,(SBm.selT (a:=[.box b0 103 [vBh,Value.int .i64 rBb.2.at_,Value.int .u64 rBb.2.seed],.row 134 4 v39 n71 cs72]) (l':=[.row 134 4 v39 n71 cs72]) [1] (by decide) rfl),(Inc.rfl _)⟩) rfl (fun w' hw'=>(E.indexAddr te61 rfl rfl ptBp)) ?_
       refine FB.t (i:=3) (bs 15 15) rfl (SP.nil ⟨_,(SBm.selT (a:=[.box b0 103 [vBh,Value.int .i64 rBb.2.at_,Value.int .u64 rBb.2.seed],.row 134 4 v39 n71 cs72]) (l':=[.row 134 4 v39 n71 cs72]) [1] (by decide) rfl),(Inc.rfl _)⟩) rfl (fun w' hw'=>(E.fieldAddr zav rfl)) ?_
       refine FB.t (i:=4) (bs 15 31) rfl (SP.nil ⟨_,(SBm.selT (a:=[.box b0 103 [vBh,Value.int .i64 rBb.2.at_,Value.int .u64 rBb.2.seed],.row 134 4 v39 n71 cs72]) (l':=[.row 134 4 v39 n71 cs72]) [1] (by decide) rfl),(Inc.rfl _)⟩) rfl (fun w' hw'=>(E.load rfl (zag Tryz.isAgg52 (hw'.use fun _ st=>hallBv _ _ _ 0 st rfl) rfl))) ?_
       refine FB.t (i:=5) (bs 15 63) rfl (SP.nil ⟨_,(SBm.selT (a:=[.box b0 103 [vBh,Value.int .i64 rBb.2.at_,Value.int .u64 rBb.2.seed],.row 134 4 v39 n71 cs72]) (l':=[.row 134 4 v39 n71 cs72]) [1] (by decide) rfl),(Inc.rfl _)⟩) rfl (fun w' hw'=>(E.move kA4)) ?_
       refine FB.t (i:=6) (bs 15 127) rfl (SP.nil ⟨_,(SBm.selT (a:=[.box b0 103 [vBh,Value.int .i64 rBb.2.at_,Value.int .u64 rBb.2.seed],.row 134 4 v39 n71 cs72]) (l':=[.row 134 4 v39 n71 cs72]) [1] (by decide) rfl),(Inc.rfl _)⟩) rfl (fun w' hw'=>(E.fieldAddr zaC kA5)) ?_
       refine FB.t (i:=7) (bs 15 255) rfl (SP.nil ⟨_,(SBm.selT (a:=[.box b0 103 [vBh,Value.int .i64 rBb.2.at_,Value.int .u64 rBb.2.seed],.row 134 4 v39 n71 cs72]) (l':=[.row 134 4 v39 n71 cs72]) [1] (by decide) rfl),(Inc.rfl _)⟩) rfl (fun w' hw'=>(E.load rfl (zag Tryz.isAgg3 ((at28.mono ((((((i42.tr i58).tr i67).tr i79).tr iA1).tr iB8).tr iBg)).now hw'.sl) rfl))) ?_
       refine FB.all1 (i:=8) (by kernel_rfl) ?_
       ·
        refine FC.call (l':=(bs 15 511)) rfl (by kernel_rfl) rfl rfl rfl (E.call Tryz.call161 (A2 rfl rfl)) (zcv (L:=(.row 134 4 v39 n71 cs72::L)) SBm (a0:=rBb.2) hBi a1.vars hrBz) ?_
        rintro e wBB ⟨HBA,vBE,nBF,csBG,vBI,rfl,⟨SBC,iBD⟩,elsBH,hBJ⟩
        refine ⟨_,rfl,?_⟩
        have SBC:St H0 w0 HBA wBB (.row 3 1 vBE nBF csBG::.box b0 103 [vBI,Value.int .i64 rBy.2.at_,Value.int .u64 rBy.2.seed]::.row 134 4 v39 n71 cs72::L):=SBC
        refine ⟨(SP.nil ⟨_,(SBC.selT (a:=[.row 3 1 vBE nBF csBG,.box b0 103 [vBI,Value.int .i64 rBy.2.at_,Value.int .u64 rBy.2.seed],.row 134 4 v39 n71 cs72]) (l':=[.row 134 4 v39 n71 cs72]) [2] (by decide) rfl),iBD⟩),?_⟩
        refine FB.all1 (i:=9) (by kernel_rfl) ?_
        ·
         obtain ⟨HBK,SBL,iBM,hBN,nvBO⟩:=SBC.sealRowU (i:=0) (l':=(.box b0 103 [vBI,Value.int .i64 rBy.2.at_,Value.int .u64 rBy.2.seed]::.row 134 4 v39 n71 cs72::L)) rfl elsBH (by decide) rfl
         refine FC.call (l':=(bs 15 1023)) rfl (by kernel_rfl) rfl rfl rfl (E.call Tryz.call169 (A2 rfl rfl)) (w_spec_l2Join SBL.sl vBw xBt.clause (hBx.mono (upI.tr ((((iA1.tr iB8).tr iBg).tr iBD).tr iBM))) vBE rBy.1 (hBN.mono upI) hrBQ) ?_
         rintro e wBS ⟨HBR,vBX,nBY,csBZ,rfl,rBU,elsC0⟩
         refine ⟨_,rfl,?_⟩
         obtain ⟨HBV,rBU,hU220⟩:=St.lendX iBM SBC.sl rBU
         have elsC0:=elsC0.mono (hU220.tr (up_le SBC.size))
         have SBT:=SBC.join (l':=(.row 3 1 vBX nBY csBZ::.row 3 1 vBE nBF csBG::.box b0 103 [vBI,Value.int .i64 rBy.2.at_,Value.int .u64 rBy.2.seed]::.row 134 4 v39 n71 cs72::L)) rBU rfl
         refine ⟨(SP.nil ⟨_,(SBT.selT (a:=[.row 3 1 vBX nBY csBZ,.row 3 1 vBE nBF csBG,.box b0 103 [vBI,Value.int .i64 rBy.2.at_,Value.int .u64 rBy.2.seed],.row 134 4 v39 n71 cs72]) (l':=[.row 134 4 v39 n71 cs72]) [3] (by decide) rfl),(iBD.tr rBU.run.inc)⟩),?_⟩
         refine FB.t (i:=10) (bs 15 2047) rfl (SP.nil ⟨_,(SBT.selT (a:=[.row 3 1 vBX nBY csBZ,.row 3 1 vBE nBF csBG,.box b0 103 [vBI,Value.int .i64 rBy.2.at_,Value.int .u64 rBy.2.seed],.row 134 4 v39 n71 cs72]) (l':=[.row 134 4 v39 n71 cs72]) [3] (by decide) rfl),(iBD.tr rBU.run.inc)⟩) rfl (fun w' hw'=>(E.move (v:=Value.tuple #[vBX,Value.bool rBP.2]) rfl)) ?_
         refine FB.t (i:=11) (bs 15 4095) rfl (SP.nil ⟨_,(SBT.selT (a:=[.row 3 1 vBX nBY csBZ,.row 3 1 vBE nBF csBG,.box b0 103 [vBI,Value.int .i64 rBy.2.at_,Value.int .u64 rBy.2.seed],.row 134 4 v39 n71 cs72]) (l':=[.row 134 4 v39 n71 cs72]) [3] (by decide) rfl),(iBD.tr rBU.run.inc)⟩) rfl (fun w' hw'=>(E.extract (i:=0) rfl rfl)) ?_
         refine FB.t (i:=12) (bs 15 8191) rfl (SP.nil ⟨_,(SBT.selT (a:=[.row 3 1 vBX nBY csBZ,.row 3 1 vBE nBF csBG,.box b0 103 [vBI,Value.int .i64 rBy.2.at_,Value.int .u64 rBy.2.seed],.row 134 4 v39 n71 cs72]) (l':=[.row 134 4 v39 n71 cs72]) [3] (by decide) rfl),(iBD.tr rBU.run.inc)⟩) rfl (fun w' hw'=>(E.extract (i:=1) rfl rfl)) ?_
         refine FB.t (i:=13) (bs 15 16383) rfl (SP.nil ⟨_,(SBT.selT (a:=[.row 3 1 vBX nBY csBZ,.row 3 1 vBE nBF csBG,.box b0 103 [vBI,Value.int .i64 rBy.2.at_,Value.int .u64 rBy.2.seed],.row 134 4 v39 n71 cs72]) (l':=[.row 134 4 v39 n71 cs72]) [3] (by decide) rfl),(iBD.tr rBU.run.inc)⟩) rfl (fun w' hw'=>(E.assign (v:=vBX) rfl)) ?_
         refine FB.t (i:=14) (bs 15 32767) rfl (SP.nil ⟨_,(SBT.selT (a:=[.row 3 1 vBX nBY csBZ,.row 3 1 vBE nBF csBG,.box b0 103 [vBI,Value.int .i64 rBy.2.at_,Value.int .u64 rBy.2.seed],.row 134 4 v39 n71 cs72]) (l':=[.row 134 4 v39 n71 cs72]) [3] (by decide) rfl),(iBD.tr rBU.run.inc)⟩) rfl (fun w' hw'=>(E.assign (v:=Value.bool rBP.2) rfl)) ?_
         exact FB.done (by kernel_rfl) ⟨_,_,_,_,_,(SBT.selT (a:=[.row 3 1 vBX nBY csBZ,.row 3 1 vBE nBF csBG,.box b0 103 [vBI,Value.int .i64 rBy.2.at_,Value.int .u64 rBy.2.seed],.row 134 4 v39 n71 cs72]) (l':=[.box b0 103 [vBI,Value.int .i64 rBy.2.at_,Value.int .u64 rBy.2.seed],.row 134 4 v39 n71 cs72,.row 3 1 vBX nBY csBZ]) [2,3,0] (by decide) rfl),(iBD.tr rBU.run.inc),(hBJ.mono rBU.run.inc),elsC0,kA4,kA5,kA6,kA7,rfl,rfl,rfl⟩
      ·
       rintro fCb wCa ⟨HC7,vC1,vC3,nC4,csC5,SC8,iC9,hC2,elsC6,kCc,kCd,kCe,kCf,kCg,kCh,kCi⟩
       refine FW.seq (FW.region ?_)
       refine FL.v (E.move kCi) ?_
       refine FL.nil ?_
       rcases ifB hp with ⟨cCj,hp⟩|⟨cCj,hp⟩
       ·
        refine FW.condT rfl cCj ?_
        refine FW.region ?_
        refine FL.v (E.move kCe) ?_
        refine FL.v (E.move kCh) ?_
        refine FL.v (E.move kCg) ?_
        refine FL.v (E.build (B3 rfl rfl rfl) (run_build _ 134 #[(0,vC3),(1,Value.int .i64 rB3.1),(2,Value.int .i64 (-1))] #[vC3,Value.int .i64 rB3.1,Value.int .i64 (-1),Value.int .i64 0] (by obtain ⟨_,_,rfl⟩:=SC8.row_ln (i:=2) rfl;rfl))) ?_
        obtain ⟨HCk,SCl,iCm,hCn,nvCo⟩:=SC8.sealRowU (i:=2) (l':=(.box b0 103 [vC1,Value.int .i64 rBy.2.at_,Value.int .u64 rBy.2.seed]::.row 134 4 v39 n71 cs72::L)) rfl elsC6 (by decide) rfl
        obtain ⟨vCp,wCq,runCr,SCs⟩:=SCl.buildSlice (P:=Tryz.prog) te61 [Value.agg #[vC3,Value.int .i64 rB3.1,Value.int .i64 (-1),Value.int .i64 0]] (parts:=#[(0,Value.agg #[vC3,Value.int .i64 rB3.1,Value.int .i64 (-1),Value.int .i64 0])]) (cells:=[vC3,Value.int .i64 rB3.1,Value.int .i64 (-1),Value.int .i64 0]) rfl (zas rfl zan) (zar rfl zam) (zab hCn.one (zab rfl (zab rfl (zab rfl zae)))) (Nat.le_of_ble_eq_true rfl)
        have elsCt:Els (up w0.heap.size HCk) zah 4 [vC3,Value.int .i64 rB3.1,Value.int .i64 (-1),Value.int .i64 0] [(zaa.mk rBP.1 rB3.1 (-1) 0)]:=(Els.snoc (H:=(up w0.heap.size HCk)) (E:=zah) (k:=4) (c:=[vC3,Value.int .i64 rB3.1,Value.int .i64 (-1),Value.int .i64 0]) (x:=(zaa.mk rBP.1 rB3.1 (-1) 0)) Els.nil rfl ⟨_,rfl,hCn⟩)
        have ndCu:(bl [vC3,Value.int .i64 rB3.1,Value.int .i64 (-1),Value.int .i64 0]).Nodup:=by exact zaT vC3
        refine FL.v (E.buildSlice (B1 rfl) runCr) ?_
        obtain ⟨xsCv,hzCw,hp⟩:=bnd hp
        obtain ⟨vCx,wCA,nCy,csCz,runCB,SCC,elsCD,ceCE⟩:=SCs.appendO (P:=Tryz.prog) te61 (i:=2) (j:=0) rfl (els73.mono (zaf ((((iA1.tr iB8).tr iBg).tr iC9).tr iCm))) rfl elsCt hzCw
        have SCC:St H0 w0 HCk wCA (.row 134 4 vCp 1 [vC3,Value.int .i64 rB3.1,Value.int .i64 (-1),Value.int .i64 0]::.box b0 103 [vC1,Value.int .i64 rBy.2.at_,Value.int .u64 rBy.2.seed]::.row 134 4 vCx nCy csCz::L):=SCC
        have ndCF:(bl csCz).Nodup:=by rw [ceCE];exact zaS nd74 ndCu (Els.dom (els73.mono (upI.tr (((iA1.tr iB8).tr iBg).tr iC9)))) (by exact nvCo)
        have SCG:St H0 w0 HCk wCA (.box b0 103 [vC1,Value.int .i64 rBy.2.at_,Value.int .u64 rBy.2.seed]::.row 134 4 vCx nCy csCz::L):=SCC.drop 0
        refine FL.v (E.append rfl rfl runCB) ?_
        refine FL.v (E.assign (v:=vCx) rfl) ?_
        refine FL.nil ?_
        refine FW.exit ?_
        refine FW.region ?_
        refine FL.v (E.move kCf) ?_
        refine FL.v (E.sub rfl rfl) ?_
        refine FL.v (E.assign (v:=Value.int .i64 (wr (s70.2.2.2.2 - 1))) rfl) ?_
        refine FL.nil ?_
        obtain rfl:=Option.some.inj hp
        exact ⟨rfl,⟨_,_,_,_,_,SCG,(((((i79.tr iA1).tr iB8).tr iBg).tr iC9).tr iCm),elsCD,(hC2.mono iCm),ndCF,kCc,kCd,rfl,rfl⟩⟩
       ·
        refine FW.condF rfl cCj ?_
        refine FW.skip ?_
        refine FW.exit ?_
        refine FW.region ?_
        refine FL.v (E.move kCf) ?_
        refine FL.v (E.sub rfl rfl) ?_
        refine FL.v (E.assign (v:=Value.int .i64 (wr (s70.2.2.2.2 - 1))) rfl) ?_
        refine FL.nil ?_
        obtain rfl:=Option.some.inj hp
        exact ⟨rfl,⟨_,_,_,_,_,(SC8.selT (a:=[.box b0 103 [vC1,Value.int .i64 rBy.2.at_,Value.int .u64 rBy.2.seed],.row 134 4 v39 n71 cs72,.row 3 1 vC3 nC4 csC5]) (l':=[.box b0 103 [vC1,Value.int .i64 rBy.2.at_,Value.int .u64 rBy.2.seed],.row 134 4 v39 n71 cs72]) [0,1] (by decide) rfl),((((i79.tr iA1).tr iB8).tr iBg).tr iC9),(els73.mono (zaf (((iA1.tr iB8).tr iBg).tr iC9))),hC2,nd74,kCc,kCd,kCe,rfl⟩⟩
     ·
      refine FW.condF rfl cBj ?_
      refine FW.skip (FW.seq (FW.region ?_))
      refine FL.v (E.move kA6) ?_
      refine FL.v (E.lenO te61 rfl SBf (i:=1) rfl els73 (by decide)) ?_
      refine FL.v (E.sub rfl rfl) ?_
      refine FL.v (E.assign (v:=Value.int .i64 (wr ((len s70.1) - 1))) rfl) ?_
      refine FL.nil ?_
      obtain ⟨qCH,hq,hp⟩:=bndR hp
      refine FW.block ?_
      refine FW.mono (FW.iter (S:=((List zaa)×Int)) (X:=Empty) (fun (sCH:((List zaa)×Int)) f w=>∃ H:GH,∃ vCI:Value,∃ nCJ:Nat,∃ csCK:List Value,St H0 w0 H w (.box b0 103 [vBh,Value.int .i64 rBb.2.at_,Value.int .u64 rBb.2.seed]::.row 134 4 vCI nCJ csCK::L)∧Inc HBd H∧Els (up w0.heap.size H) zah 4 csCK sCH.1∧(bl csCK).Nodup∧f 0=Value.pointer (some (⟨b0,0,none⟩:Addr))∧f 3=Value.pointer (some ⟨b21,0,none⟩)∧f 5=vCI∧f 6=Value.int .i64 s70.2.2.2.2∧f 7=Value.int .i64 rB3.1∧f 10=Value.int .i64 sCH.2) (fun (q:Rs ((List zaa)×Int) Empty) e f w=>match q with|.go sCH=>e=Exit.exit 2∧(∃ H:GH,∃ vCI:Value,∃ nCJ:Nat,∃ csCK:List Value,St H0 w0 H w (.box b0 103 [vBh,Value.int .i64 rBb.2.at_,Value.int .u64 rBb.2.seed]::.row 134 4 vCI nCJ csCK::L)∧Inc HBd H∧Els (up w0.heap.size H) zah 4 csCK sCH.1∧(bl csCK).Nodup∧f 0=Value.pointer (some (⟨b0,0,none⟩:Addr))∧f 3=Value.pointer (some ⟨b21,0,none⟩)∧f 5=vCI∧f 6=Value.int .i64 s70.2.2.2.2)|.rt x=>x.elim) hq ⟨_,_,_,_,SBf,(Inc.rfl _),(els73.mono (zaf ((iA1.tr iB8).tr iBg))),nd74,kA4,kA5,kA6,kA7,rfl,rfl⟩ ?_) ?_
      ·
       clear hp hq
       rintro sCH fCR wCQ ⟨HCN,vCI,nCJ,csCK,SCO,iCP,elsCL,ndCM,kCS,kCT,kCU,kCV,kCW,kCX⟩ oDK hp
       refine FW.seq (FW.seq (FW.region ?_))
       refine FL.v (E.move kCX) ?_
       refine FL.v (E.geq rfl rfl) ?_
       refine FL.nil ?_
       rcases ifB hp with ⟨cCY,hp⟩|⟨cCY,hp⟩
       ·
        refine FW.condT rfl cCY ?_
        refine FW.skip (FW.seq (FW.block (FW.seq (FW.region ?_))))
        refine FL.v (E.move kCU) ?_
        refine FL.v (E.move kCW) ?_
        refine FL.v (E.move kCX) ?_
        obtain ⟨HCZ,SD0,iD1,nsD4,nvD3⟩:=SCO.sealRowN (i:=1) (l':=(.box b0 103 [vBh,Value.int .i64 rBb.2.at_,Value.int .u64 rBb.2.seed]::L)) rfl elsCL ndCM (by decide) rfl
        have hD2:=nsD4.rsl
        obtain ⟨rD5,hrD6,hp⟩:=bnd hp
        refine FL.call rfl rfl rfl (E.call Tryz.call170 (A3 rfl rfl rfl)) (w_spec_l7Try SD0.sl vCI sCH.1 (hD2.mono upI) rB3.1 sCH.2 hrD6) ?_
        rintro e wD8 ⟨HD7,vDd,rfl,rDa,hDe⟩
        refine ⟨_,rfl,?_⟩
        obtain ⟨HDb,rDa,hU298⟩:=Run.lendX iD1 SCO.sl rDa
        have nvDf:New HCN [vDd]:=New.of_up SCO.sl hDe.dom
        have hDe:=hDe.mono (hU298.tr (up_le SCO.size))
        have SD9:=SCO.call rDa
        refine FL.v (E.move (v:=Value.tuple #[Value.agg #[vDd,Value.int .i64 rD5.1.left,Value.int .i64 rD5.1.right,Value.int .i64 rD5.1.pivot],Value.bool rD5.2]) rfl) ?_
        refine FL.v (E.extract (i:=0) rfl rfl) ?_
        refine FL.v (E.extract (i:=1) rfl rfl) ?_
        obtain ⟨bDg,wDh,runDi,SDj⟩:=SD9.alloc (P:=Tryz.prog) 134 [Value.slice none 0 0,Value.int .i64 0,Value.int .i64 0,Value.int .i64 0] Tryz.zeroValue134 rfl (zab rfl (zab rfl (zab rfl (zab rfl zae))))
        refine FL.v (E.alloc runDi) ?_
        obtain ⟨wDk,runDl,SDm⟩:=SDj.store0 (P:=Tryz.prog) (t:=134) (i:=0) (cs':=[vDd,Value.int .i64 rD5.1.left,Value.int .i64 rD5.1.right,Value.int .i64 rD5.1.pivot]) (l':=(.box bDg 134 [vDd,Value.int .i64 rD5.1.left,Value.int .i64 rD5.1.right,Value.int .i64 rD5.1.pivot]::.box b0 103 [vBh,Value.int .i64 rBb.2.at_,Value.int .u64 rBb.2.seed]::.row 134 4 vCI nCJ csCK::L)) (v:=Value.agg #[vDd,Value.int .i64 rD5.1.left,Value.int .i64 rD5.1.right,Value.int .i64 rD5.1.pivot]) (c:=[vDd,Value.int .i64 rD5.1.left,Value.int .i64 rD5.1.right,Value.int .i64 rD5.1.pivot]) rfl Tryz.sizeOf134 rfl rfl (zab hDe.one (zab rfl (zab rfl (zab rfl zae)))) (Nat.le_of_ble_eq_true rfl) rfl rfl
        refine FL.act rfl rfl (E.store rfl rfl runDl) ?_
        obtain ⟨HDn,SDo,iDp,atDq⟩:=SDm.sealBox (i:=0) (l':=(.box b0 103 [vBh,Value.int .i64 rBb.2.at_,Value.int .u64 rBb.2.seed]::.row 134 4 vCI nCJ csCK::L)) rfl rfl
        refine FL.v (E.assign (v:=Value.bool rD5.2) rfl) ?_
        refine FL.nil (FW.seq (FW.region ?_))
        refine FL.v (E.move (v:=Value.bool rD5.2) rfl) ?_
        refine FL.nil ?_
        rcases ifB hp with ⟨cDr,hp⟩|⟨cDr,hp⟩
        ·
         refine FW.condT rfl cDr ?_
         refine FW.seq (FW.region ?_)
         refine FL.v (E.move kCU) ?_
         refine FL.v (E.load rfl (zal Tryz.isAgg134 Tryz.sizeOf134 (atDq.now SDo.sl) rfl)) ?_
         obtain ⟨vDs,wDt,runDu,SDv⟩:=SDo.buildSlice (P:=Tryz.prog) te61 [Value.agg #[vDd,Value.int .i64 rD5.1.left,Value.int .i64 rD5.1.right,Value.int .i64 rD5.1.pivot]] (parts:=#[(0,Value.agg #[vDd,Value.int .i64 rD5.1.left,Value.int .i64 rD5.1.right,Value.int .i64 rD5.1.pivot])]) (cells:=[vDd,Value.int .i64 rD5.1.left,Value.int .i64 rD5.1.right,Value.int .i64 rD5.1.pivot]) rfl (zas rfl zan) (zar rfl zam) (zab hDe.one (zab rfl (zab rfl (zab rfl zae)))) (Nat.le_of_ble_eq_true rfl)
         have elsDw:Els (up w0.heap.size HDn) zah 4 [vDd,Value.int .i64 rD5.1.left,Value.int .i64 rD5.1.right,Value.int .i64 rD5.1.pivot] [rD5.1]:=(Els.snoc (H:=(up w0.heap.size HDn)) (E:=zah) (k:=4) (c:=[vDd,Value.int .i64 rD5.1.left,Value.int .i64 rD5.1.right,Value.int .i64 rD5.1.pivot]) (x:=rD5.1) Els.nil rfl ⟨_,rfl,(hDe.mono (zaf iDp))⟩)
         have ndDx:(bl [vDd,Value.int .i64 rD5.1.left,Value.int .i64 rD5.1.right,Value.int .i64 rD5.1.pivot]).Nodup:=by exact zaT vDd
         refine FL.v (E.buildSlice (B1 rfl) runDu) ?_
         obtain ⟨xsDy,hzDz,hp⟩:=bnd hp
         obtain ⟨vDA,wDD,nDB,csDC,runDE,SDF,elsDG,ceDH⟩:=SDv.appendO (P:=Tryz.prog) te61 (i:=2) (j:=0) rfl (elsCL.mono (zaf (rDa.inc.tr iDp))) rfl elsDw hzDz
         have SDF:St H0 w0 HDn wDD (.row 134 4 vDs 1 [vDd,Value.int .i64 rD5.1.left,Value.int .i64 rD5.1.right,Value.int .i64 rD5.1.pivot]::.box b0 103 [vBh,Value.int .i64 rBb.2.at_,Value.int .u64 rBb.2.seed]::.row 134 4 vDA nDB csDC::L):=SDF
         have ndDI:(bl csDC).Nodup:=by rw [ceDH];exact zaS ndCM ndDx (Els.dom (elsCL.mono (upI.tr (Inc.rfl _)))) (by exact nvDf)
         have SDJ:St H0 w0 HDn wDD (.box b0 103 [vBh,Value.int .i64 rBb.2.at_,Value.int .u64 rBb.2.seed]::.row 134 4 vDA nDB csDC::L):=SDF.drop 0
         refine FL.v (E.append rfl rfl runDE) ?_
         refine FL.v (E.assign (v:=vDA) rfl) ?_
         refine FL.nil ?_
         refine FW.exit ?_
         obtain rfl:=Option.some.inj hp
         exact ⟨nofun,rfl,⟨_,_,_,_,SDJ,((iCP.tr rDa.inc).tr iDp),elsDG,ndDI,kCS,kCT,rfl,kCV⟩⟩
        ·
         refine FW.condF rfl cDr ?_
         refine FW.skip (FW.region ?_)
         refine FL.v (E.move kCX) ?_
         refine FL.v (E.sub rfl rfl) ?_
         refine FL.v (E.assign (v:=Value.int .i64 (wr (sCH.2 - 1))) rfl) ?_
         refine FL.nil ?_
         obtain rfl:=Option.some.inj hp
         exact ⟨rfl,⟨_,_,_,_,SDo,((iCP.tr rDa.inc).tr iDp),(elsCL.mono (zaf (rDa.inc.tr iDp))),ndCM,kCS,kCT,kCU,kCV,kCW,rfl⟩⟩
       ·
        refine FW.condF rfl cCY ?_
        refine FW.exit ?_
        obtain rfl:=Option.some.inj hp
        exact ⟨nofun,rfl,⟨_,_,_,_,SCO,iCP,elsCL,ndCM,kCS,kCT,kCU,kCV⟩⟩
      ·
       clear hq
       intro e fDP wDO hD
       rcases qCH with sCH|xCH
       ·
        obtain ⟨rfl,hD⟩:=hD
        obtain ⟨HDL,vCI,nCJ,csCK,SDM,iDN,elsCL,ndCM,kDQ,kDR,kDS,kDT⟩:=hD
        replace hp:=el_go hp
        refine FW.region ?_
        refine FL.v (E.move kDT) ?_
        refine FL.v (E.sub rfl rfl) ?_
        refine FL.v (E.assign (v:=Value.int .i64 (wr (s70.2.2.2.2 - 1))) rfl) ?_
        refine FL.nil ?_
        obtain rfl:=Option.some.inj hp
        exact ⟨rfl,⟨_,_,_,_,_,SDM,((((i79.tr iA1).tr iB8).tr iBg).tr iDN),elsCL,(hBi.mono iDN),ndCM,kDQ,kDR,kDS,rfl⟩⟩
       ·
        exact xCH.elim
   ·
    refine FW.condF rfl c86 ?_
    refine FW.exit ?_
    obtain rfl:=Option.some.inj hp
    exact ⟨nofun,rfl,⟨_,_,_,_,_,S78,i79,els73,h76,nd74,k84⟩⟩
  ·
   clear hq
   intro e fDZ wDY hD
   rcases q70 with s70|x70
   ·
    obtain ⟨rfl,hD⟩:=hD
    obtain ⟨HDV,v39,n71,cs72,v75,SDW,iDX,els73,h76,nd74,kE0⟩:=hD
    replace hp:=el_go hp
    refine FW.seq (FW.region ?_)
    refine FL.v (E.move kE0) ?_
    refine FL.v (E.assign (v:=v39) rfl) ?_
    refine FL.nil ?_
    refine FW.ret ?_
    obtain rfl:=Option.some.inj hp
    exact ⟨.inr rfl,res1 rfl rfl ⟨_,_,_,_,_,rfl,⟨(SDW.selT (a:=[.box b0 103 [v75,Value.int .i64 s70.2.2.1,Value.int .u64 s70.2.2.2.1],.row 134 4 v39 n71 cs72]) (l':=[.row 134 4 v39 n71 cs72,.box b0 103 [v75,Value.int .i64 s70.2.2.1,Value.int .u64 s70.2.2.2.1]]) [1,0] (by decide) rfl),((((i27.tr i42).tr i58).tr i67).tr iDX)⟩,els73,nd74,h76⟩⟩
   ·
    exact x70.elim

theorem zdV {Ha:GH} {wa:World} (hs:Sl Ha wa) (v0:Value) (a0:List Int) (p0:RSl Ha eI 1 v0 a0) (v1:Value) (a1:List Int) (p1:RSl Ha eI 1 v1 a1) {r:Bool} (hp:(PF.za6 a0 a1)=some r) :
  Calls Tryz.prog 222 #[v0,v1] wa (Sc Ha wa (Value.bool r)):=by
 unfold PF.za6 at hp
 have S0:=St.init hs
 refine zaj (N:=19) (args:=[v0,v1]) Tryz.func222 rfl rfl rfl ?_
 refine FW.seq (FW.region ?_)
 refine FL.v (E.assign (v:=Value.bool false) rfl) ?_
 refine FL.nil (FW.seq (FW.seq (FW.region ?_)))
 refine FL.v (E.assign (v:=Value.int .i64 0) rfl) ?_
 refine FL.nil ?_
 obtain ⟨q22,hq,hp⟩:=bndR hp
 refine FW.block ?_
 refine FW.mono (FW.forL (S:=Unit) (X:=Bool) (fun (i22:Nat) (s22:Unit) f w=>∃ H:GH,St Ha wa H w []∧Inc Ha H∧f 5=Value.int .i64 ((i22:Nat):Int)∧f 0=v0∧f 1=v1) (fun q e f w=>match q with|.go s22=>e=Exit.exit 0∧(∃ H:GH,St Ha wa H w []∧Inc Ha H)|.rt x=>((e=Exit.ret)∧(fun e f w=>(e=Exit.normal∨e=Exit.ret)∧∀ a,Fr (δ:=[]) 19 a f→∃ v,(results Tryz.f222 a.tmps).run Tryz.prog w=.ok v w∧(Sc Ha wa (Value.bool x)) (.returned v) w) e f w)) hq ⟨_,S0,(Inc.rfl _),rfl,rfl,rfl⟩ ?_ ?_) ?_
 ·
  clear hp hq
  rintro i22 y21 s22 f47 w46 ⟨H43,S44,i45,k48,k49,k50⟩ hx22 o63 hp
  refine FW.seq (FW.seq (FW.region ?_))
  refine FL.v (E.move k48) ?_
  refine FL.v (E.move k49) ?_
  refine FL.v (E.lenP te52 rfl p0) ?_
  refine FL.v (E.lssT rfl rfl (zaF hx22)) ?_
  refine FL.nil ?_
  refine FW.condT rfl rfl ?_
  refine FW.skip (FW.seq (FW.block (FW.seq (FW.region ?_))))
  refine FL.v (E.move k50) ?_
  refine FL.v (E.move k49) ?_
  refine FL.v (E.move k48) ?_
  obtain ⟨p51,cs52,pt53,l54,at55,rel56⟩:=p0.at (zaz hx22)
  obtain rfl:=zao rel56
  refine FL.v (E.indexAddr te52 rfl rfl pt53) ?_
  refine FL.v (E.load rfl (zak Tryz.isAgg3 ((at55.mono i45).now S44.sl) rfl)) ?_
  obtain ⟨r57,hr58,hp⟩:=bnd hp
  refine FL.call rfl rfl rfl (E.call Tryz.call173 (A2 rfl rfl)) (zbP S44.sl v1 a1 (p1.mono i45) y21 hr58) ?_
  rintro e w59 ⟨rfl,r60⟩
  refine ⟨_,rfl,?_⟩
  have S61:=S44.call r60
  refine FL.v (E.not rfl) ?_
  refine FL.nil ?_
  rcases ifB hp with ⟨c62,hp⟩|⟨c62,hp⟩
  ·
   refine FW.condT rfl c62 ?_
   refine FW.seq (FW.region ?_)
   refine FL.v (E.assign (v:=Value.bool false) rfl) ?_
   refine FL.nil ?_
   refine FW.ret ?_
   obtain rfl:=Option.some.inj hp
   exact ⟨nofun,rfl,⟨.inr rfl,res1 rfl rfl ⟨rfl,S61.back⟩⟩⟩
  ·
   refine FW.condF rfl c62 ?_
   refine FW.skip (FW.region ?_)
   refine FL.v (E.move k48) ?_
   refine FL.v (E.add rfl rfl) ?_
   refine FL.v (E.assign (v:=Value.int .i64 (wr (((i22:Nat):Int) + 1))) rfl) ?_
   refine FL.nil ?_
   obtain rfl:=Option.some.inj hp
   exact ⟨rfl,⟨_,S61,i45,(zaw rfl (zaB hx22) (p0.mono i45).le),k49,k50⟩⟩
 ·
  clear hp hq
  rintro s22 f73 w72 ⟨H69,S70,i71,k74,k75,k76⟩
  refine FW.seq (FW.seq (FW.region ?_))
  refine FL.v (E.move k74) ?_
  refine FL.v (E.move k75) ?_
  refine FL.v (E.lenP te52 rfl p0) ?_
  refine FL.v (E.lss rfl rfl) ?_
  refine FL.nil ?_
  refine FW.condF rfl zaG ?_
  refine FW.exit ?_
  exact ⟨nofun,rfl,⟨_,S70,i71⟩⟩
 ·
  clear hq
  intro e f68 w67 hD
  rcases q22 with s22|x22
  ·
   obtain ⟨rfl,hD⟩:=hD
   obtain ⟨H64,S65,i66⟩:=hD
   replace hp:=el_go hp
   refine FW.seq (FW.region ?_)
   refine FL.v (E.assign (v:=Value.bool true) rfl) ?_
   refine FL.nil ?_
   refine FW.ret ?_
   obtain rfl:=Option.some.inj hp
   exact ⟨.inr rfl,res1 rfl rfl ⟨rfl,S65.back⟩⟩
  ·
   obtain ⟨he,hL⟩:=hD
   replace hp:=el_rt hp
   obtain rfl:=Option.some.inj hp
   subst he
   exact hL

@[reducible] def p_spec_l7Uses (Ha:GH) (wa:World) (r:(List Int)):Ending→World→Prop :=
 fun e w'=>∃ H':GH,∃ v0:Value,∃ n0:Nat,∃ c0:List Value,e=.returned (v0)∧St Ha wa H' w' [.row 3 1 v0 n0 c0]∧Els (up wa.heap.size H') eI 1 c0 r
theorem w_spec_l7Uses {Ha:GH} {wa:World} (hs:Sl Ha wa) (a0:zaa) (v0_0:Value) (p0_0:RSl Ha eI 1 v0_0 a0.clause) :
  Calls Tryz.prog 266 #[Value.agg #[v0_0,Value.int .i64 a0.left,Value.int .i64 a0.right,Value.int .i64 a0.pivot]] wa (p_spec_l7Uses Ha wa (PF.za8 a0)):=by
 obtain ⟨r,hp⟩:∃ r,(PF.za8 a0)=r:=⟨_,rfl⟩
 rw [hp]
 unfold PF.za8 at hp
 have S0:=St.init hs
 refine zaj (N:=20) (args:=[Value.agg #[v0_0,Value.int .i64 a0.left,Value.int .i64 a0.right,Value.int .i64 a0.pivot]]) Tryz.func266 rfl rfl rfl ?_
 refine FW.seq (FW.region ?_)
 obtain ⟨b21,w22,run23,S24⟩:=S0.box (P:=Tryz.prog) 134 [v0_0,Value.int .i64 a0.left,Value.int .i64 a0.right,Value.int .i64 a0.pivot] (v:=Value.agg #[v0_0,Value.int .i64 a0.left,Value.int .i64 a0.right,Value.int .i64 a0.pivot]) rfl (zab p0_0.one (zab rfl (zab rfl (zab rfl zae))))
 refine FL.v (E.box rfl run23) ?_
 obtain ⟨H25,S26,i27,at28⟩:=S24.sealBox (i:=0) (l':=[]) rfl rfl
 refine FL.v (E.assign (v:=Value.slice none 0 0) rfl) ?_
 refine FL.nil (FW.seq (FW.block (FW.seq (FW.region ?_))))
 refine FL.v (E.fieldAddr zaN rfl) ?_
 refine FL.v (E.load rfl (zag Tryz.isAgg3 (at28.now S26.sl) rfl)) ?_
 refine FL.v (E.eql rfl rfl) ?_
 refine FL.v (E.assign (v:=Value.bool (a0.left == (-1))) rfl) ?_
 refine FL.nil ?_
 rcases ifT hp with ⟨c29,hp⟩|⟨c29,hp⟩
 ·
  refine FW.condT rfl c29 ?_
  refine FW.seq (FW.region ?_)
  obtain ⟨v30,w31,run32,S33⟩:=S26.buildSlice (P:=Tryz.prog) te52 [] (parts:=#[]) (cells:=[]) rfl zan zam zae (Nat.le_of_ble_eq_true rfl)
  have els34:Els (up wa.heap.size H25) eI 1 [] []:=Els.nil
  refine FL.v (E.buildSlice (B0) run32) ?_
  refine FL.v (E.assign (v:=v30) rfl) ?_
  refine FL.nil ?_
  refine FW.ret ?_
  obtain rfl:=hp
  exact ⟨.inr rfl,res1 rfl rfl ⟨_,_,_,_,rfl,S33,els34⟩⟩
 ·
  refine FW.condF rfl c29 ?_
  refine FW.seq (FW.region ?_)
  refine FL.v (E.fieldAddr zaO rfl) ?_
  refine FL.v (E.load rfl (zag Tryz.isAgg3 (at28.now S26.sl) rfl)) ?_
  refine FL.v (E.eql rfl rfl) ?_
  refine FL.v (E.assign (v:=Value.bool (a0.right == (-1))) rfl) ?_
  refine FL.nil ?_
  rcases ifT hp with ⟨c35,hp⟩|⟨c35,hp⟩
  ·
   refine FW.condT rfl c35 ?_
   refine FW.seq (FW.region ?_)
   refine FL.v (E.fieldAddr zaN rfl) ?_
   refine FL.v (E.load rfl (zag Tryz.isAgg3 (at28.now S26.sl) rfl)) ?_
   obtain ⟨v36,w37,run38,S39,els40⟩:=S26.ints (P:=Tryz.prog) te52 (up wa.heap.size H25) 1 [a0.left]
   refine FL.v (E.buildSlice (B1 rfl) run38) ?_
   refine FL.v (E.assign (v:=v36) rfl) ?_
   refine FL.nil ?_
   refine FW.ret ?_
   obtain rfl:=hp
   exact ⟨.inr rfl,res1 rfl rfl ⟨_,_,_,_,rfl,S39,els40⟩⟩
  ·
   refine FW.condF rfl c35 ?_
   refine FW.skip (FW.seq (FW.region ?_))
   refine FL.v (E.fieldAddr zaN rfl) ?_
   refine FL.v (E.load rfl (zag Tryz.isAgg3 (at28.now S26.sl) rfl)) ?_
   refine FL.v (E.fieldAddr zaO rfl) ?_
   refine FL.v (E.load rfl (zag Tryz.isAgg3 (at28.now S26.sl) rfl)) ?_
   obtain ⟨v41,w42,run43,S44,els45⟩:=S26.ints (P:=Tryz.prog) te52 (up wa.heap.size H25) 2 [a0.left,a0.right]
   refine FL.v (E.buildSlice (B2 rfl rfl) run43) ?_
   refine FL.v (E.assign (v:=v41) rfl) ?_
   refine FL.nil ?_
   refine FW.ret ?_
   obtain rfl:=hp
   exact ⟨.inr rfl,res1 rfl rfl ⟨_,_,_,_,rfl,S44,els45⟩⟩

@[reducible] def p_spec_l7Needed (Ha:GH) (wa:World) (r:(List Bool)):Ending→World→Prop :=
 fun e w'=>∃ H':GH,∃ v0:Value,∃ n0:Nat,∃ c0:List Value,e=.returned (v0)∧St Ha wa H' w' [.row 4 1 v0 n0 c0]∧Els (up wa.heap.size H') eB 1 c0 r
set_option maxHeartbeats 4000000 in
theorem zdf {Ha:GH} {wa:World} (hs:Sl Ha wa) (v0:Value) (a0:List zaa) (p0:RSl Ha zah 4 v0 a0) {r:(List Bool)} (hp:(PF.zcO a0)=some r) :
  Calls Tryz.prog 252 #[v0] wa (p_spec_l7Needed Ha wa r):=by
 unfold PF.zcO at hp
 have S0:=St.init hs
 refine zaj (N:=49) (args:=[v0]) Tryz.func252 rfl rfl rfl ?_
 refine FW.seq (FW.region ?_)
 refine FL.v (E.assign (v:=Value.slice none 0 0) rfl) ?_
 refine FL.nil (FW.seq (FW.region ?_))
 refine FL.v (E.move (v:=v0) rfl) ?_
 refine FL.v (E.lenP te61 rfl p0) ?_
 obtain ⟨xs21,hm22,hp⟩:=bnd hp
 obtain ⟨v23,w24,n28,cs29,run25,S26,els27,hbl30⟩:=S0.makeEls (P:=Tryz.prog) te76 (G:=(up wa.heap.size Ha)) (En:=eB) (x0:=(false:Bool)) hm22 rfl (zab rfl zae) .i64 .i64
 refine FL.v (E.makeSlice rfl rfl run25) ?_
 refine FL.v (E.assign (v:=v23) rfl) ?_
 refine FL.nil (FW.seq (FW.seq (FW.region ?_)))
 refine FL.v (E.move (v:=v0) rfl) ?_
 refine FL.v (E.lenP te61 rfl p0) ?_
 refine FL.v (E.sub rfl rfl) ?_
 refine FL.v (E.assign (v:=Value.int .i64 (wr ((len a0) - 1))) rfl) ?_
 refine FL.nil ?_
 obtain ⟨q31,hq,hp⟩:=bndR hp
 refine FW.block ?_
 refine FW.mono (FW.iter (S:=((List Bool)×Int)) (X:=Empty) (fun (s31:((List Bool)×Int)) f w=>∃ H:GH,∃ vCi:Value,∃ nCj:Nat,∃ csCk:List Value,St Ha wa H w [.row 4 1 vCi nCj csCk]∧Inc Ha H∧Els (up wa.heap.size H) eB 1 csCk s31.1∧f 0=v0∧f 3=vCi∧f 4=Value.int .i64 s31.2) (fun (q:Rs ((List Bool)×Int) Empty) e f w=>match q with|.go s31=>e=Exit.exit 0∧(∃ H:GH,∃ vCi:Value,∃ nCj:Nat,∃ csCk:List Value,St Ha wa H w [.row 4 1 vCi nCj csCk]∧Inc Ha H∧Els (up wa.heap.size H) eB 1 csCk s31.1∧f 3=vCi)|.rt x=>x.elim) hq ⟨_,_,_,_,S26,(Inc.rfl _),els27,rfl,rfl,rfl⟩ ?_) ?_
 ·
  clear hp hq
  rintro s31 fIi wIh ⟨HIe,vCi,nCj,csCk,SIf,iIg,elsCl,kIj,kIk,kIl⟩ oA0 hp
  refine FW.seq (FW.seq (FW.region ?_))
  refine FL.v (E.move kIl) ?_
  refine FL.v (E.geq rfl rfl) ?_
  refine FL.nil ?_
  rcases ifB hp with ⟨cIm,hp⟩|⟨cIm,hp⟩
  ·
   refine FW.condT rfl cIm ?_
   refine FW.skip (FW.seq (FW.block (FW.seq (FW.seq (FW.region ?_)))))
   refine FL.v (E.move kIl) ?_
   refine FL.v (E.move kIj) ?_
   refine FL.v (E.lenP te61 rfl p0) ?_
   refine FL.v (E.sub rfl rfl) ?_
   refine FL.v (E.eql rfl rfl) ?_
   refine FL.nil ?_
   rcases ifB hp with ⟨cIn,hp⟩|⟨cIn,hp⟩
   ·
    refine FW.condT rfl cIn ?_
    refine FW.region ?_
    refine FL.v (E.move kIk) ?_
    refine FL.v (E.move kIl) ?_
    obtain ⟨xIu,hxIv,hp⟩:=bnd hp
    obtain ⟨pIo,csIp,ptIq,lIr,atIs,relIt⟩:=SIf.row_at (i:=0) rfl elsCl (by decide) hxIv
    obtain rfl:=eB_open relIt
    refine FL.v (E.indexAddr te76 rfl rfl ptIq) ?_
    obtain ⟨xsIz,hputIA,hp⟩:=bnd hp
    obtain ⟨wIw,csIC,runIx,SIy,elsIB,ceID⟩:=SIf.putEls (P:=Tryz.prog) (t:=4) (i:=0) rfl elsCl hputIA ptIq Tryz.sizeOf4 (u:=Value.bool true) (c:=[Value.bool true]) rfl rfl (zab rfl zae) rfl
    have SIy:St Ha wa HIe wIw [.row 4 1 vCi nCj csIC]:=SIy
    refine FL.act rfl rfl (E.store rfl rfl runIx) ?_
    refine FL.nil (FW.seq (FW.region ?_))
    refine FL.v (E.move kIj) ?_
    refine FL.v (E.move kIl) ?_
    obtain ⟨xIK,hxIL,hp⟩:=bnd hp
    obtain ⟨pIE,csIF,ptIG,lIH,atII,relIJ⟩:=p0.at hxIL
    obtain ⟨vIM,rfl,hIN⟩:=zap relIJ
    refine FL.v (E.indexAddr te61 rfl rfl ptIG) ?_
    refine FL.v (E.load rfl (zal Tryz.isAgg134 Tryz.sizeOf134 ((atII.mono iIg).now SIy.sl) rfl)) ?_
    refine FL.call rfl rfl rfl (E.call Tryz.call266 (A1 rfl)) (w_spec_l7Uses SIy.sl xIK vIM (hIN.mono iIg)) ?_
    rintro e wIP ⟨HIO,vIS,nIT,csIU,rfl,rIR,elsIV⟩
    refine ⟨_,rfl,?_⟩
    have elsIV:=elsIV.mono (up_le SIy.size)
    have SIQ:=SIy.join (l':=[.row 3 1 vIS nIT csIU,.row 4 1 vCi nCj csIC]) rIR rfl
    refine FL.v (E.assign (v:=vIS) rfl) ?_
    refine FL.nil (FW.seq (FW.region ?_))
    refine FL.v (E.assign (v:=Value.int .i64 0) rfl) ?_
    refine FL.nil ?_
    obtain ⟨qIW,hq,hp⟩:=bndR hp
    refine FW.block ?_
    refine FW.mono (FW.iter (S:=((List Bool)×Int)) (X:=Empty) (fun (sIW:((List Bool)×Int)) f w=>∃ H:GH,∃ vJZ:Value,∃ nK0:Nat,∃ csK1:List Value,St Ha wa H w [.row 3 1 vIS nIT csIU,.row 4 1 vJZ nK0 csK1]∧Inc HIO H∧Els (up wa.heap.size H) eB 1 csK1 sIW.1∧f 0=v0∧f 3=vJZ∧f 4=Value.int .i64 s31.2∧f 5=vIS∧f 6=Value.int .i64 sIW.2) (fun (q:Rs ((List Bool)×Int) Empty) e f w=>match q with|.go sIW=>e=Exit.exit 2∧(∃ H:GH,∃ vJZ:Value,∃ nK0:Nat,∃ csK1:List Value,St Ha wa H w [.row 3 1 vIS nIT csIU,.row 4 1 vJZ nK0 csK1]∧Inc HIO H∧Els (up wa.heap.size H) eB 1 csK1 sIW.1∧f 0=v0∧f 3=vJZ∧f 4=Value.int .i64 s31.2)|.rt x=>x.elim) hq ⟨_,_,_,_,SIQ,(Inc.rfl _),(elsIB.mono (zaf rIR.run.inc)),kIj,kIk,kIl,rfl,rfl⟩ ?_) ?_
    ·
     clear hp hq
     rintro sIW fL9 wL8 ⟨HL5,vJZ,nK0,csK1,SL6,iL7,elsK2,kLa,kLb,kLc,kLd,kLe⟩ oM7 hp
     refine FW.seq (FW.seq (FW.region ?_))
     refine FL.v (E.move kLe) ?_
     refine FL.v (E.move kLd) ?_
     refine FL.v (E.lenO te52 rfl SL6 (i:=0) rfl elsIV (by decide)) ?_
     refine FL.v (E.lss rfl rfl) ?_
     refine FL.v (E.move (v:=Value.bool (decide (sIW.2 < (len (PF.za8 xIK))))) rfl) ?_
     obtain ⟨t805,hqtLn,hp⟩:=bnd hp
     refine FL.cut 5 (fun f w=>∃ H:GH,St Ha wa H w [.row 3 1 vIS nIT csIU,.row 4 1 vJZ nK0 csK1]∧Inc HL5 H∧f 0=v0∧f 3=vJZ∧f 4=Value.int .i64 s31.2∧f 5=vIS∧f 6=Value.int .i64 sIW.2∧f 39=Value.bool t805) ?_ ?_
     ·
      clear hp;have hp:=hqtLn;clear hqtLn
      rcases ifB hp with ⟨cLt,hp⟩|⟨cLt,hp⟩
      ·
       refine FL.val (zac rfl rfl rfl cLt) rfl rfl (E.move kLb) ?_
       refine FL.val (zac rfl rfl rfl cLt) rfl rfl (E.move kLc) ?_
       obtain ⟨xLA,hxLB,hp⟩:=bnd hp
       obtain ⟨pLu,csLv,ptLw,lLx,atLy,relLz⟩:=SL6.row_at (i:=1) rfl elsK2 (by decide) hxLB
       obtain rfl:=eB_open relLz
       refine FL.val (zac rfl rfl rfl cLt) rfl rfl (E.indexAddr te76 rfl rfl ptLw) ?_
       refine FL.val (zac rfl rfl rfl cLt) rfl rfl (E.load rfl (zak Tryz.isAgg4 atLy rfl)) ?_
       obtain rfl:=Option.some.inj hp
       refine FL.v (E.pickT rfl cLt rfl) ?_
       exact FL.nil ⟨rfl,_,SL6,(Inc.rfl _),kLa,kLb,kLc,kLd,kLe,rfl⟩
      ·
       refine FL.skip (wF_no rfl rfl rfl cLt) rfl ?_
       refine FL.skip (wF_no rfl rfl rfl cLt) rfl ?_
       refine FL.skip (wF_no rfl rfl rfl cLt) rfl ?_
       refine FL.skip (wF_no rfl rfl rfl cLt) rfl ?_
       obtain rfl:=Option.some.inj hp
       refine FL.v (E.pickF rfl cLt rfl) ?_
       exact FL.nil ⟨rfl,_,SL6,(Inc.rfl _),kLa,kLb,kLc,kLd,kLe,rfl⟩
     rintro fLs wLr ⟨HLo,SLp,iLq,kLC,kLD,kLE,kLF,kLG,kLH⟩
     refine FL.nil ?_
     rcases ifB hp with ⟨cLI,hp⟩|⟨cLI,hp⟩
     ·
      refine FW.condT kLH cLI ?_
      refine FW.skip (FW.seq (FW.block (FW.region ?_)))
      refine FL.v (E.move kLD) ?_
      refine FL.v (E.move kLF) ?_
      refine FL.v (E.move kLG) ?_
      obtain ⟨xLP,hxLQ,hp⟩:=bnd hp
      obtain ⟨pLJ,csLK,ptLL,lLM,atLN,relLO⟩:=SLp.row_at (i:=0) rfl elsIV (by decide) hxLQ
      obtain rfl:=zao relLO
      refine FL.v (E.indexAddr te52 rfl rfl ptLL) ?_
      refine FL.v (E.load rfl (zak Tryz.isAgg3 atLN rfl)) ?_
      obtain ⟨xLX,hxLY,hp⟩:=bnd hp
      obtain ⟨pLR,csLS,ptLT,lLU,atLV,relLW⟩:=SLp.row_at (i:=1) rfl elsK2 (by decide) hxLY
      obtain rfl:=eB_open relLW
      refine FL.v (E.indexAddr te76 rfl rfl ptLT) ?_
      obtain ⟨xsM2,hputM3,hp⟩:=bnd hp
      obtain ⟨wLZ,csM5,runM0,SM1,elsM4,ceM6⟩:=SLp.putEls (P:=Tryz.prog) (t:=4) (i:=1) rfl (elsK2.mono (zaf iLq)) hputM3 ptLT Tryz.sizeOf4 (u:=Value.bool true) (c:=[Value.bool true]) rfl rfl (zab rfl zae) rfl
      have SM1:St Ha wa HLo wLZ [.row 3 1 vIS nIT csIU,.row 4 1 vJZ nK0 csM5]:=SM1
      refine FL.act rfl rfl (E.store rfl rfl runM0) ?_
      refine FL.nil (FW.region ?_)
      refine FL.v (E.move kLG) ?_
      refine FL.v (E.add rfl rfl) ?_
      refine FL.v (E.assign (v:=Value.int .i64 (wr (sIW.2 + 1))) rfl) ?_
      refine FL.nil ?_
      obtain rfl:=Option.some.inj hp
      exact ⟨rfl,⟨_,_,_,_,SM1,(iL7.tr iLq),elsM4,kLC,kLD,kLE,kLF,rfl⟩⟩
     ·
      refine FW.condF kLH cLI ?_
      refine FW.exit ?_
      obtain rfl:=Option.some.inj hp
      exact ⟨nofun,rfl,⟨_,_,_,_,SLp,(iL7.tr iLq),(elsK2.mono (zaf iLq)),kLC,kLD,kLE⟩⟩
    ·
     clear hq
     intro e fMc wMb hD
     rcases qIW with sIW|xIW
     ·
      obtain ⟨rfl,hD⟩:=hD
      obtain ⟨HM8,vJZ,nK0,csK1,SM9,iMa,elsK2,kMd,kMe,kMf⟩:=hD
      replace hp:=el_go hp
      refine FW.region ?_
      refine FL.v (E.move kMf) ?_
      refine FL.v (E.sub rfl rfl) ?_
      refine FL.v (E.assign (v:=Value.int .i64 (wr (s31.2 - 1))) rfl) ?_
      refine FL.nil ?_
      obtain rfl:=Option.some.inj hp
      exact ⟨rfl,⟨_,_,_,_,(SM9.sel [1] (by decide) rfl),((iIg.tr rIR.run.inc).tr iMa),elsK2,kMd,kMe,rfl⟩⟩
     ·
      exact xIW.elim
   ·
    refine FW.condF rfl cIn ?_
    refine FW.skip (FW.seq (FW.region ?_))
    refine FL.v (E.move kIj) ?_
    refine FL.v (E.move kIl) ?_
    obtain ⟨xMm,hxMn,hp⟩:=bnd hp
    obtain ⟨pMg,csMh,ptMi,lMj,atMk,relMl⟩:=p0.at hxMn
    obtain ⟨vMo,rfl,hMp⟩:=zap relMl
    refine FL.v (E.indexAddr te61 rfl rfl ptMi) ?_
    refine FL.v (E.load rfl (zal Tryz.isAgg134 Tryz.sizeOf134 ((atMk.mono iIg).now SIf.sl) rfl)) ?_
    refine FL.call rfl rfl rfl (E.call Tryz.call266 (A1 rfl)) (w_spec_l7Uses SIf.sl xMm vMo (hMp.mono iIg)) ?_
    rintro e wMr ⟨HMq,vMu,nMv,csMw,rfl,rMt,elsMx⟩
    refine ⟨_,rfl,?_⟩
    have elsMx:=elsMx.mono (up_le SIf.size)
    have SMs:=SIf.join (l':=[.row 3 1 vMu nMv csMw,.row 4 1 vCi nCj csCk]) rMt rfl
    refine FL.v (E.assign (v:=vMu) rfl) ?_
    refine FL.nil (FW.seq (FW.region ?_))
    refine FL.v (E.assign (v:=Value.int .i64 0) rfl) ?_
    refine FL.nil ?_
    obtain ⟨qMy,hq,hp⟩:=bndR hp
    refine FW.block ?_
    refine FW.mono (FW.iter (S:=((List Bool)×Int)) (X:=Empty) (fun (sMy:((List Bool)×Int)) f w=>∃ H:GH,∃ vNB:Value,∃ nNC:Nat,∃ csND:List Value,St Ha wa H w [.row 3 1 vMu nMv csMw,.row 4 1 vNB nNC csND]∧Inc HMq H∧Els (up wa.heap.size H) eB 1 csND sMy.1∧f 0=v0∧f 3=vNB∧f 4=Value.int .i64 s31.2∧f 5=vMu∧f 6=Value.int .i64 sMy.2) (fun (q:Rs ((List Bool)×Int) Empty) e f w=>match q with|.go sMy=>e=Exit.exit 2∧(∃ H:GH,∃ vNB:Value,∃ nNC:Nat,∃ csND:List Value,St Ha wa H w [.row 3 1 vMu nMv csMw,.row 4 1 vNB nNC csND]∧Inc HMq H∧Els (up wa.heap.size H) eB 1 csND sMy.1∧f 0=v0∧f 3=vNB∧f 4=Value.int .i64 s31.2)|.rt x=>x.elim) hq ⟨_,_,_,_,SMs,(Inc.rfl _),(elsCl.mono (zaf rMt.run.inc)),kIj,kIk,kIl,rfl,rfl⟩ ?_) ?_
    ·
     clear hp hq
     rintro sMy f36 w35 ⟨H32,vNB,nNC,csND,S33,i34,elsNE,k37,k38,k39,k40,k41⟩ o91 hp
     refine FW.seq (FW.seq (FW.region ?_))
     refine FL.v (E.move k41) ?_
     refine FL.v (E.move k40) ?_
     refine FL.v (E.lenO te52 rfl S33 (i:=0) rfl elsMx (by decide)) ?_
     refine FL.v (E.lss rfl rfl) ?_
     refine FL.v (E.move (v:=Value.bool (decide (sMy.2 < (len (PF.za8 xMm))))) rfl) ?_
     obtain ⟨t42,hqt42,hp⟩:=bnd hp
     refine FL.cut 5 (fun f w=>∃ H:GH,St Ha wa H w [.row 3 1 vMu nMv csMw,.row 4 1 vNB nNC csND]∧Inc H32 H∧f 0=v0∧f 3=vNB∧f 4=Value.int .i64 s31.2∧f 5=vMu∧f 6=Value.int .i64 sMy.2∧f 39=Value.bool t42) ?_ ?_
     ·
      clear hp;have hp:=hqt42;clear hqt42
      rcases ifB hp with ⟨c48,hp⟩|⟨c48,hp⟩
      ·
       refine FL.val (zac rfl rfl rfl c48) rfl rfl (E.move k38) ?_
       refine FL.val (zac rfl rfl rfl c48) rfl rfl (E.move k39) ?_
       obtain ⟨x56,hx57,hp⟩:=bnd hp
       obtain ⟨p49,cs50,pt51,l53,at54,rel55⟩:=S33.row_at (i:=1) rfl elsNE (by decide) hx57
       obtain rfl:=eB_open rel55
       refine FL.val (zac rfl rfl rfl c48) rfl rfl (E.indexAddr te76 rfl rfl pt51) ?_
       refine FL.val (zac rfl rfl rfl c48) rfl rfl (E.load rfl (zak Tryz.isAgg4 at54 rfl)) ?_
       obtain rfl:=Option.some.inj hp
       refine FL.v (E.pickT rfl c48 rfl) ?_
       exact FL.nil ⟨rfl,_,S33,(Inc.rfl _),k37,k38,k39,k40,k41,rfl⟩
      ·
       refine FL.skip (wF_no rfl rfl rfl c48) rfl ?_
       refine FL.skip (wF_no rfl rfl rfl c48) rfl ?_
       refine FL.skip (wF_no rfl rfl rfl c48) rfl ?_
       refine FL.skip (wF_no rfl rfl rfl c48) rfl ?_
       obtain rfl:=Option.some.inj hp
       refine FL.v (E.pickF rfl c48 rfl) ?_
       exact FL.nil ⟨rfl,_,S33,(Inc.rfl _),k37,k38,k39,k40,k41,rfl⟩
     rintro f47 w46 ⟨H43,S44,i45,k58,k59,k60,k62,k63,k64⟩
     refine FL.nil ?_
     rcases ifB hp with ⟨c65,hp⟩|⟨c65,hp⟩
     ·
      refine FW.condT k64 c65 ?_
      refine FW.skip (FW.seq (FW.block (FW.region ?_)))
      refine FL.v (E.move k59) ?_
      refine FL.v (E.move k62) ?_
      refine FL.v (E.move k63) ?_
      obtain ⟨x72,hx73,hp⟩:=bnd hp
      obtain ⟨p66,cs67,pt68,l69,at70,rel71⟩:=S44.row_at (i:=0) rfl elsMx (by decide) hx73
      obtain rfl:=zao rel71
      refine FL.v (E.indexAddr te52 rfl rfl pt68) ?_
      refine FL.v (E.load rfl (zak Tryz.isAgg3 at70 rfl)) ?_
      obtain ⟨x81,hx82,hp⟩:=bnd hp
      obtain ⟨p74,cs75,pt77,l78,at79,rel80⟩:=S44.row_at (i:=1) rfl elsNE (by decide) hx82
      obtain rfl:=eB_open rel80
      refine FL.v (E.indexAddr te76 rfl rfl pt77) ?_
      obtain ⟨xs86,hput87,hp⟩:=bnd hp
      obtain ⟨w83,cs89,run84,S85,els88,ce90⟩:=S44.putEls (P:=Tryz.prog) (t:=4) (i:=1) rfl (elsNE.mono (zaf i45)) hput87 pt77 Tryz.sizeOf4 (u:=Value.bool true) (c:=[Value.bool true]) rfl rfl (zab rfl zae) rfl
      have S85:St Ha wa H43 w83 [.row 3 1 vMu nMv csMw,.row 4 1 vNB nNC cs89]:=S85
      refine FL.act rfl rfl (E.store rfl rfl run84) ?_
      refine FL.nil (FW.region ?_)
      refine FL.v (E.move k63) ?_
      refine FL.v (E.add rfl rfl) ?_
      refine FL.v (E.assign (v:=Value.int .i64 (wr (sMy.2 + 1))) rfl) ?_
      refine FL.nil ?_
      obtain rfl:=Option.some.inj hp
      exact ⟨rfl,⟨_,_,_,_,S85,(i34.tr i45),els88,k58,k59,k60,k62,rfl⟩⟩
     ·
      refine FW.condF k64 c65 ?_
      refine FW.exit ?_
      obtain rfl:=Option.some.inj hp
      exact ⟨nofun,rfl,⟨_,_,_,_,S44,(i34.tr i45),(elsNE.mono (zaf i45)),k58,k59,k60⟩⟩
    ·
     clear hq
     intro e f96 w95 hD
     rcases qMy with sMy|xMy
     ·
      obtain ⟨rfl,hD⟩:=hD
      obtain ⟨H92,vNB,nNC,csND,S93,i94,elsNE,k97,k98,k99⟩:=hD
      replace hp:=el_go hp
      refine FW.region ?_
      refine FL.v (E.move k99) ?_
      refine FL.v (E.sub rfl rfl) ?_
      refine FL.v (E.assign (v:=Value.int .i64 (wr (s31.2 - 1))) rfl) ?_
      refine FL.nil ?_
      obtain rfl:=Option.some.inj hp
      exact ⟨rfl,⟨_,_,_,_,(S93.sel [1] (by decide) rfl),((iIg.tr rMt.run.inc).tr i94),elsNE,k97,k98,rfl⟩⟩
     ·
      exact xMy.elim
  ·
   refine FW.condF rfl cIm ?_
   refine FW.exit ?_
   obtain rfl:=Option.some.inj hp
   exact ⟨nofun,rfl,⟨_,_,_,_,SIf,iIg,elsCl,kIk⟩⟩
 ·
  clear hq
  intro e fA5 wA4 hD
  rcases q31 with s31|x31
  ·
   obtain ⟨rfl,hD⟩:=hD
   obtain ⟨HA1,vCi,nCj,csCk,SA2,iA3,elsCl,kA6⟩:=hD
   replace hp:=el_go hp
   refine FW.seq (FW.region ?_)
   refine FL.v (E.move kA6) ?_
   refine FL.v (E.assign (v:=vCi) rfl) ?_
   refine FL.nil ?_
   refine FW.ret ?_
   obtain rfl:=Option.some.inj hp
   exact ⟨.inr rfl,res1 rfl rfl ⟨_,_,_,_,rfl,SA2,elsCl⟩⟩
  ·
   exact x31.elim

@[reducible] def p_spec_l7Moved (Ha:GH) (wa:World) (r:zaa):Ending→World→Prop :=
 fun e w'=>∃ H':GH,∃ v0_0:Value,e=.returned (Value.agg #[v0_0,Value.int .i64 r.left,Value.int .i64 r.right,Value.int .i64 r.pivot])∧Run wa.heap.size Ha wa H' w'∧RSl (up wa.heap.size H') eI 1 v0_0 r.clause
set_option maxHeartbeats 4000000 in
theorem zdW {Ha:GH} {wa:World} (hs:Sl Ha wa) (a0:zaa) (v0_0:Value) (p0_0:RSl Ha eI 1 v0_0 a0.clause) (v1:Value) (a1:List Int) (p1:RSl Ha eI 1 v1 a1) {r:zaa} (hp:(PF.zbl a0 a1)=some r) :
  Calls Tryz.prog 182 #[Value.agg #[v0_0,Value.int .i64 a0.left,Value.int .i64 a0.right,Value.int .i64 a0.pivot],v1] wa (p_spec_l7Moved Ha wa r):=by
 unfold PF.zbl at hp
 have S0:=St.init hs
 refine zaj (N:=35) (args:=[Value.agg #[v0_0,Value.int .i64 a0.left,Value.int .i64 a0.right,Value.int .i64 a0.pivot],v1]) Tryz.func182 rfl rfl rfl ?_
 refine FW.seq (FW.region ?_)
 obtain ⟨b21,w22,run23,S24⟩:=S0.box (P:=Tryz.prog) 134 [v0_0,Value.int .i64 a0.left,Value.int .i64 a0.right,Value.int .i64 a0.pivot] (v:=Value.agg #[v0_0,Value.int .i64 a0.left,Value.int .i64 a0.right,Value.int .i64 a0.pivot]) rfl (zab p0_0.one (zab rfl (zab rfl (zab rfl zae))))
 refine FL.v (E.box rfl run23) ?_
 obtain ⟨H25,S26,i27,at28⟩:=S24.sealBox (i:=0) (l':=[]) rfl rfl
 obtain ⟨b29,w30,run31,S32⟩:=S26.alloc (P:=Tryz.prog) 134 [Value.slice none 0 0,Value.int .i64 0,Value.int .i64 0,Value.int .i64 0] Tryz.zeroValue134 rfl (zab rfl (zab rfl (zab rfl (zab rfl zae))))
 refine FL.v (E.alloc run31) ?_
 refine FL.nil (FW.seq ?_)
 obtain ⟨r36,hr37,hp⟩:=bnd hp
 refine FW.drawB (Sl H25) (fun f w=>∃ H:GH,∃ b59:Nat,∃ v60:Value,St Ha wa H w [.box b29 134 [Value.slice none 0 0,Value.int .i64 0,Value.int .i64 0,Value.int .i64 0],.box b59 134 [v60,Value.int .i64 a0.left,Value.int .i64 a0.right,Value.int .i64 a0.pivot]]∧Inc H25 H∧RSl (up wa.heap.size H) eI 1 v60 r36∧New H25 [v60]∧f 1=v1∧f 2=Value.pointer (some ⟨b21,0,none⟩)∧f 4=Value.pointer (some (⟨b29,0,none⟩:Addr))∧f 5=Value.pointer (some (⟨b59,0,none⟩:Addr))) (by kernel_rfl) S32.sl ?_ ?_
 ·
  intro w33 r34
  have S35:=S32.call r34
  refine FB.t (i:=0) (bs 12 1) rfl (SP.nil S35.sl) rfl (fun w' hw'=>(E.fieldAddr zav rfl)) ?_
  refine FB.t (i:=1) (bs 12 3) rfl (SP.nil S35.sl) rfl (fun w' hw'=>(E.load rfl (zag Tryz.isAgg52 (at28.now hw') rfl))) ?_
  refine FB.t (i:=3) (bs 12 11) rfl (SP.nil S35.sl) rfl (fun w' hw'=>(E.fieldAddr zaN rfl)) ?_
  refine FB.t (i:=4) (bs 12 27) rfl (SP.nil S35.sl) rfl (fun w' hw'=>(E.load rfl (zag Tryz.isAgg3 (at28.now hw') rfl))) ?_
  refine FB.t (i:=5) (bs 12 59) rfl (SP.nil S35.sl) rfl (fun w' hw'=>(E.fieldAddr zaO rfl)) ?_
  refine FB.t (i:=6) (bs 12 123) rfl (SP.nil S35.sl) rfl (fun w' hw'=>(E.load rfl (zag Tryz.isAgg3 (at28.now hw') rfl))) ?_
  refine FB.t (i:=7) (bs 12 251) rfl (SP.nil S35.sl) rfl (fun w' hw'=>(E.fieldAddr zbi rfl)) ?_
  refine FB.t (i:=8) (bs 12 507) rfl (SP.nil S35.sl) rfl (fun w' hw'=>(E.load rfl (zag Tryz.isAgg3 (at28.now hw') rfl))) ?_
  refine FB.all2 (i:=2) (j:=10) (by kernel_rfl) ?_ ?_
  ·
   refine FC.call (l':=(bs 12 511)) rfl (by kernel_rfl) rfl rfl rfl (E.call Tryz.call225 (A1 rfl)) (zcu S35.sl v0_0 a0.clause (p0_0.mono i27) hr37) ?_
   rintro e w39 ⟨H38,v42,n43,cs44,rfl,r41,els45⟩
   refine ⟨_,rfl,?_⟩
   have els45:=els45.mono (up_le S35.size)
   have S40:=S35.join (l':=[.row 3 1 v42 n43 cs44,.box b29 134 [Value.slice none 0 0,Value.int .i64 0,Value.int .i64 0,Value.int .i64 0]]) r41 rfl
   refine ⟨(SP.nil (Sl.of_inc r41.run.inc S40.sl)),?_⟩
   obtain ⟨H46,S47,i48,h49,nv50⟩:=S40.sealRowU (i:=0) (l':=[.box b29 134 [Value.slice none 0 0,Value.int .i64 0,Value.int .i64 0,Value.int .i64 0]]) rfl els45 (by decide) rfl
   refine FB.t (i:=9) (bs 12 1023) rfl (SP.nil (Sl.of_inc r41.run.inc S40.sl)) rfl (fun w' hw'=>(E.build (B4 rfl rfl rfl rfl) (run_build _ 134 #[(0,v42),(1,Value.int .i64 a0.left),(2,Value.int .i64 a0.right),(3,Value.int .i64 a0.pivot)] #[v42,Value.int .i64 a0.left,Value.int .i64 a0.right,Value.int .i64 a0.pivot] (by obtain ⟨_,_,rfl⟩:=RSl.ln (h49.mono upI);rfl)))) ?_
   refine FB.all1 (i:=10) (by kernel_rfl) ?_
   ·
    obtain ⟨b51,w53,run54,S55⟩:=S47.alloc (P:=Tryz.prog) 134 [Value.slice none 0 0,Value.int .i64 0,Value.int .i64 0,Value.int .i64 0] Tryz.zeroValue134 rfl (zab rfl (zab rfl (zab rfl (zab rfl zae))))
    refine FC.val (l':=(bs 12 2047)) rfl (by kernel_rfl) rfl rfl rfl (E.alloc run54) ?_
    refine ⟨(SP.nil (Sl.of_inc (r41.run.inc.tr i48) S55.sl)),?_⟩
    refine FB.all1 (i:=11) (by kernel_rfl) ?_
    ·
     obtain ⟨w56,run57,S58⟩:=S55.store0 (P:=Tryz.prog) (t:=134) (i:=0) (cs':=[v42,Value.int .i64 a0.left,Value.int .i64 a0.right,Value.int .i64 a0.pivot]) (l':=[.box b51 134 [v42,Value.int .i64 a0.left,Value.int .i64 a0.right,Value.int .i64 a0.pivot],.box b29 134 [Value.slice none 0 0,Value.int .i64 0,Value.int .i64 0,Value.int .i64 0]]) (v:=Value.agg #[v42,Value.int .i64 a0.left,Value.int .i64 a0.right,Value.int .i64 a0.pivot]) (c:=[v42,Value.int .i64 a0.left,Value.int .i64 a0.right,Value.int .i64 a0.pivot]) rfl Tryz.sizeOf134 rfl rfl (zab h49.one (zab rfl (zab rfl (zab rfl zae)))) (Nat.le_of_ble_eq_true rfl) rfl rfl
     refine FC.act (l':=(bs 12 4095)) rfl (by kernel_rfl) rfl rfl (E.store rfl rfl run57) ?_
     refine ⟨(SP.nil (Sl.of_inc (r41.run.inc.tr i48) S58.sl)),?_⟩
     exact FB.done (by kernel_rfl) ⟨_,_,_,(S58.sel [1,0] (by decide) rfl),(r41.run.inc.tr i48),h49,(nv50.anti r41.run.inc),rfl,rfl,rfl,rfl⟩
  ·
   obtain ⟨b51,w53,run54,S55⟩:=S35.alloc (P:=Tryz.prog) 134 [Value.slice none 0 0,Value.int .i64 0,Value.int .i64 0,Value.int .i64 0] Tryz.zeroValue134 rfl (zab rfl (zab rfl (zab rfl (zab rfl zae))))
   refine FC.val (l':=(bs 12 1531)) rfl (by kernel_rfl) rfl rfl rfl (E.alloc run54) ?_
   refine ⟨(SP.nil S55.sl),?_⟩
   refine FB.all1 (i:=2) (by kernel_rfl) ?_
   ·
    refine FC.call (l':=(bs 12 1535)) rfl (by kernel_rfl) rfl rfl rfl (E.call Tryz.call225 (A1 rfl)) (zcu S55.sl v0_0 a0.clause (p0_0.mono i27) hr37) ?_
    rintro e w39 ⟨H38,v42,n43,cs44,rfl,r41,els45⟩
    refine ⟨_,rfl,?_⟩
    have els45:=els45.mono (up_le S55.size)
    have S40:=S55.join (l':=[.row 3 1 v42 n43 cs44,.box b51 134 [Value.slice none 0 0,Value.int .i64 0,Value.int .i64 0,Value.int .i64 0],.box b29 134 [Value.slice none 0 0,Value.int .i64 0,Value.int .i64 0,Value.int .i64 0]]) r41 rfl
    refine ⟨(SP.nil (Sl.of_inc r41.run.inc S40.sl)),?_⟩
    obtain ⟨H46,S47,i48,h49,nv50⟩:=S40.sealRowU (i:=0) (l':=[.box b51 134 [Value.slice none 0 0,Value.int .i64 0,Value.int .i64 0,Value.int .i64 0],.box b29 134 [Value.slice none 0 0,Value.int .i64 0,Value.int .i64 0,Value.int .i64 0]]) rfl els45 (by decide) rfl
    refine FB.t (i:=9) (bs 12 2047) rfl (SP.nil (Sl.of_inc r41.run.inc S40.sl)) rfl (fun w' hw'=>(E.build (B4 rfl rfl rfl rfl) (run_build _ 134 #[(0,v42),(1,Value.int .i64 a0.left),(2,Value.int .i64 a0.right),(3,Value.int .i64 a0.pivot)] #[v42,Value.int .i64 a0.left,Value.int .i64 a0.right,Value.int .i64 a0.pivot] (by obtain ⟨_,_,rfl⟩:=RSl.ln (h49.mono upI);rfl)))) ?_
    refine FB.all1 (i:=11) (by kernel_rfl) ?_
    ·
     obtain ⟨w56,run57,S58⟩:=S47.store0 (P:=Tryz.prog) (t:=134) (i:=0) (cs':=[v42,Value.int .i64 a0.left,Value.int .i64 a0.right,Value.int .i64 a0.pivot]) (l':=[.box b51 134 [v42,Value.int .i64 a0.left,Value.int .i64 a0.right,Value.int .i64 a0.pivot],.box b29 134 [Value.slice none 0 0,Value.int .i64 0,Value.int .i64 0,Value.int .i64 0]]) (v:=Value.agg #[v42,Value.int .i64 a0.left,Value.int .i64 a0.right,Value.int .i64 a0.pivot]) (c:=[v42,Value.int .i64 a0.left,Value.int .i64 a0.right,Value.int .i64 a0.pivot]) rfl Tryz.sizeOf134 rfl rfl (zab h49.one (zab rfl (zab rfl (zab rfl zae)))) (Nat.le_of_ble_eq_true rfl) rfl rfl
     refine FC.act (l':=(bs 12 4095)) rfl (by kernel_rfl) rfl rfl (E.store rfl rfl run57) ?_
     refine ⟨(SP.nil (Sl.of_inc (r41.run.inc.tr i48) S58.sl)),?_⟩
     exact FB.done (by kernel_rfl) ⟨_,_,_,(S58.sel [1,0] (by decide) rfl),(r41.run.inc.tr i48),h49,(nv50.anti r41.run.inc),rfl,rfl,rfl,rfl⟩
 ·
  rintro f67 w66 ⟨H63,b59,v60,S64,i65,h61,nv62,k68,k69,k70,k71⟩
  refine FW.seq (FW.seq (FW.region ?_))
  refine FL.v (E.fieldAddr zaN k69) ?_
  refine FL.v (E.load rfl (zag Tryz.isAgg3 ((at28.mono i65).now S64.sl) rfl)) ?_
  refine FL.v (E.geq rfl rfl) ?_
  refine FL.nil ?_
  rcases ifB hp with ⟨c72,hp⟩|⟨c72,hp⟩
  ·
   refine FW.condT rfl c72 ?_
   refine FW.seq (FW.region ?_)
   refine FL.v (E.move k68) ?_
   refine FL.v (E.fieldAddr zaN k69) ?_
   refine FL.v (E.load rfl (zag Tryz.isAgg3 ((at28.mono i65).now S64.sl) rfl)) ?_
   obtain ⟨x79,hx80,hp⟩:=bnd hp
   obtain ⟨p73,cs74,pt75,l76,at77,rel78⟩:=p1.at hx80
   obtain rfl:=zao rel78
   refine FL.v (E.indexAddr te52 rfl rfl pt75) ?_
   refine FL.v (E.load rfl (zak Tryz.isAgg3 ((at77.mono (i27.tr i65)).now S64.sl) rfl)) ?_
   refine FL.v (E.fieldAddr zaN k71) ?_
   obtain ⟨w81,run82,S83⟩:=S64.store (P:=Tryz.prog) (t:=3) (i:=1) (j:=1) (cs':=[v60,Value.int .i64 x79,Value.int .i64 a0.right,Value.int .i64 a0.pivot]) (l':=[.box b29 134 [Value.slice none 0 0,Value.int .i64 0,Value.int .i64 0,Value.int .i64 0],.box b59 134 [v60,Value.int .i64 x79,Value.int .i64 a0.right,Value.int .i64 a0.pivot]]) (v:=Value.int .i64 x79) (c:=[Value.int .i64 x79]) rfl Tryz.sizeOf3 rfl rfl (zab rfl zae) (Nat.le_of_ble_eq_true rfl) rfl rfl
   refine FL.act rfl rfl (E.store rfl rfl run82) ?_
   refine FL.nil (FW.seq (FW.region ?_))
   refine FL.v (E.fieldAddr zaO k69) ?_
   refine FL.v (E.load rfl (zag Tryz.isAgg3 ((at28.mono i65).now S83.sl) rfl)) ?_
   refine FL.v (E.geq rfl rfl) ?_
   refine FL.nil ?_
   rcases ifB hp with ⟨c84,hp⟩|⟨c84,hp⟩
   ·
    refine FW.condT rfl c84 ?_
    refine FW.region ?_
    refine FL.v (E.move k68) ?_
    refine FL.v (E.fieldAddr zaO k69) ?_
    refine FL.v (E.load rfl (zag Tryz.isAgg3 ((at28.mono i65).now S83.sl) rfl)) ?_
    obtain ⟨x91,hx92,hp⟩:=bnd hp
    obtain ⟨p85,cs86,pt87,l88,at89,rel90⟩:=p1.at hx92
    obtain rfl:=zao rel90
    refine FL.v (E.indexAddr te52 rfl rfl pt87) ?_
    refine FL.v (E.load rfl (zak Tryz.isAgg3 ((at89.mono (i27.tr i65)).now S83.sl) rfl)) ?_
    refine FL.v (E.fieldAddr zaO k71) ?_
    obtain ⟨w93,run94,S95⟩:=S83.store (P:=Tryz.prog) (t:=3) (i:=1) (j:=2) (cs':=[v60,Value.int .i64 x79,Value.int .i64 x91,Value.int .i64 a0.pivot]) (l':=[.box b29 134 [Value.slice none 0 0,Value.int .i64 0,Value.int .i64 0,Value.int .i64 0],.box b59 134 [v60,Value.int .i64 x79,Value.int .i64 x91,Value.int .i64 a0.pivot]]) (v:=Value.int .i64 x91) (c:=[Value.int .i64 x91]) rfl Tryz.sizeOf3 rfl rfl (zab rfl zae) (Nat.le_of_ble_eq_true rfl) rfl rfl
    refine FL.act rfl rfl (E.store rfl rfl run94) ?_
    obtain ⟨H96,S97,i98,at99⟩:=S95.sealBox (i:=1) (l':=[.box b29 134 [Value.slice none 0 0,Value.int .i64 0,Value.int .i64 0,Value.int .i64 0]]) rfl rfl
    refine FL.nil (FW.seq (FW.region ?_))
    refine FL.v (E.load k71 (zal Tryz.isAgg134 Tryz.sizeOf134 (at99.now S97.sl) rfl)) ?_
    obtain ⟨wA0,runA1,SA2⟩:=S97.store0 (P:=Tryz.prog) (t:=134) (i:=0) (cs':=[v60,Value.int .i64 x79,Value.int .i64 x91,Value.int .i64 a0.pivot]) (l':=[.box b29 134 [v60,Value.int .i64 x79,Value.int .i64 x91,Value.int .i64 a0.pivot]]) (v:=Value.agg #[v60,Value.int .i64 x79,Value.int .i64 x91,Value.int .i64 a0.pivot]) (c:=[v60,Value.int .i64 x79,Value.int .i64 x91,Value.int .i64 a0.pivot]) rfl Tryz.sizeOf134 rfl rfl (zab h61.one (zab rfl (zab rfl (zab rfl zae)))) (Nat.le_of_ble_eq_true rfl) rfl rfl
    refine FL.act rfl rfl (E.store k70 rfl runA1) ?_
    obtain ⟨HA3,SA4,iA5,atA6⟩:=SA2.sealBox (i:=0) (l':=[]) rfl rfl
    refine FL.nil ?_
    refine FW.ret ?_
    obtain rfl:=Option.some.inj hp
    exact ⟨.inr rfl,resC rfl k70 (zaA Tryz.isAgg134 Tryz.sizeOf134 (atA6.now SA4.sl) rfl) ⟨_,_,rfl,SA4.run,(h61.mono (zaf (i98.tr iA5)))⟩⟩
   ·
    refine FW.condF rfl c84 ?_
    refine FW.skip (FW.seq (FW.region ?_))
    refine FL.v (E.load k71 (zal Tryz.isAgg134 Tryz.sizeOf134 (S83.box_now (i:=1) rfl) rfl)) ?_
    obtain ⟨wA7,runA8,SA9⟩:=S83.store0 (P:=Tryz.prog) (t:=134) (i:=0) (cs':=[v60,Value.int .i64 x79,Value.int .i64 a0.right,Value.int .i64 a0.pivot]) (l':=[.box b29 134 [v60,Value.int .i64 x79,Value.int .i64 a0.right,Value.int .i64 a0.pivot],.box b59 134 [v60,Value.int .i64 x79,Value.int .i64 a0.right,Value.int .i64 a0.pivot]]) (v:=Value.agg #[v60,Value.int .i64 x79,Value.int .i64 a0.right,Value.int .i64 a0.pivot]) (c:=[v60,Value.int .i64 x79,Value.int .i64 a0.right,Value.int .i64 a0.pivot]) rfl Tryz.sizeOf134 rfl rfl (zab h61.one (zab rfl (zab rfl (zab rfl zae)))) (Nat.le_of_ble_eq_true rfl) rfl rfl
    refine FL.act rfl rfl (E.store k70 rfl runA8) ?_
    obtain ⟨HAa,SAb,iAc,atAd⟩:=SA9.sealBox (i:=0) (l':=[.box b59 134 [v60,Value.int .i64 x79,Value.int .i64 a0.right,Value.int .i64 a0.pivot]]) rfl rfl
    refine FL.nil ?_
    refine FW.ret ?_
    obtain rfl:=Option.some.inj hp
    exact ⟨.inr rfl,resC rfl k70 (zaA Tryz.isAgg134 Tryz.sizeOf134 (atAd.now SAb.sl) rfl) ⟨_,_,rfl,SAb.run,(h61.mono (zaf iAc))⟩⟩
  ·
   refine FW.condF rfl c72 ?_
   refine FW.skip (FW.seq (FW.region ?_))
   refine FL.v (E.load k71 (zal Tryz.isAgg134 Tryz.sizeOf134 (S64.box_now (i:=1) rfl) rfl)) ?_
   obtain ⟨wAe,runAf,SAg⟩:=S64.store0 (P:=Tryz.prog) (t:=134) (i:=0) (cs':=[v60,Value.int .i64 a0.left,Value.int .i64 a0.right,Value.int .i64 a0.pivot]) (l':=[.box b29 134 [v60,Value.int .i64 a0.left,Value.int .i64 a0.right,Value.int .i64 a0.pivot],.box b59 134 [v60,Value.int .i64 a0.left,Value.int .i64 a0.right,Value.int .i64 a0.pivot]]) (v:=Value.agg #[v60,Value.int .i64 a0.left,Value.int .i64 a0.right,Value.int .i64 a0.pivot]) (c:=[v60,Value.int .i64 a0.left,Value.int .i64 a0.right,Value.int .i64 a0.pivot]) rfl Tryz.sizeOf134 rfl rfl (zab h61.one (zab rfl (zab rfl (zab rfl zae)))) (Nat.le_of_ble_eq_true rfl) rfl rfl
   refine FL.act rfl rfl (E.store k70 rfl runAf) ?_
   obtain ⟨HAh,SAi,iAj,atAk⟩:=SAg.sealBox (i:=0) (l':=[.box b59 134 [v60,Value.int .i64 a0.left,Value.int .i64 a0.right,Value.int .i64 a0.pivot]]) rfl rfl
   refine FL.nil ?_
   refine FW.ret ?_
   obtain rfl:=Option.some.inj hp
   exact ⟨.inr rfl,resC rfl k70 (zaA Tryz.isAgg134 Tryz.sizeOf134 (atAk.now SAi.sl) rfl) ⟨_,_,rfl,SAi.run,(h61.mono (zaf iAj))⟩⟩

@[reducible] def p_spec_l7Trim (Ha:GH) (wa:World) (r:(List zaa)):Ending→World→Prop :=
 fun e w'=>∃ H':GH,∃ v0:Value,∃ n0:Nat,∃ c0:List Value,e=.returned (v0)∧St Ha wa H' w' [.row 134 4 v0 n0 c0]∧Els (up wa.heap.size H') zah 4 c0 r∧(bl c0).Nodup
set_option maxHeartbeats 4000000 in
theorem w_spec_l7Trim {Ha:GH} {wa:World} (hs:Sl Ha wa) (v0:Value) (a0:List zaa) (p0:RSl Ha zah 4 v0 a0) {r:(List zaa)} (hp:(PF.za7 a0)=some r) :
  Calls Tryz.prog 223 #[v0] wa (p_spec_l7Trim Ha wa r):=by
 unfold PF.za7 at hp
 have S0:=St.init hs
 refine zaj (N:=38) (args:=[v0]) Tryz.func223 rfl rfl rfl ?_
 refine FW.seq (FW.region ?_)
 refine FL.v (E.assign (v:=Value.slice none 0 0) rfl) ?_
 refine FL.nil (FW.seq ?_)
 obtain ⟨r29,hr30,hp⟩:=bnd hp
 obtain ⟨xs39,hm40,hp⟩:=bnd hp
 refine FW.drawB (Sl Ha) (fun f w=>∃ H:GH,∃ v49:Value,∃ n50:Nat,∃ cs51:List Value,∃ v55:Value,∃ n56:Nat,∃ cs57:List Value,∃ v59:Value,∃ n60:Nat,∃ cs62:List Value,St Ha wa H w [.row 134 4 v49 n50 cs51,.row 4 1 v55 n56 cs57,.row 3 1 v59 n60 cs62]∧Inc Ha H∧Els (up wa.heap.size H) zah 4 cs51 []∧Els (up wa.heap.size H) eB 1 cs57 r29∧Els (up wa.heap.size H) eI 1 cs62 xs39∧(bl cs51).Nodup∧f 0=v0∧f 3=v49∧f 4=v55∧f 5=v59) (by kernel_rfl) S0.sl ?_ ?_
 ·
  intro w21 r22
  have S23:=S0.call r22
  refine FB.t (i:=1) (bs 9 2) rfl (SP.nil S23.sl) rfl (fun w' hw'=>(E.move (v:=v0) rfl)) ?_
  refine FB.t (i:=3) (bs 9 10) rfl (SP.nil S23.sl) rfl (fun w' hw'=>(E.move (v:=v0) rfl)) ?_
  refine FB.t (i:=4) (bs 9 26) rfl (SP.nil S23.sl) rfl (fun w' hw'=>(E.lenP te61 rfl p0)) ?_
  refine FB.all3 (i:=0) (j:=2) (k:=5) (by kernel_rfl) ?_ ?_ ?_
  ·
   obtain ⟨v24,w25,run26,S27⟩:=S23.buildSlice (P:=Tryz.prog) te61 [] (parts:=#[]) (cells:=[]) rfl zan zam zae (Nat.le_of_ble_eq_true rfl)
   have els28:Els (up wa.heap.size Ha) zah 4 [] []:=Els.nil
   refine FC.val (l':=(bs 9 27)) rfl (by kernel_rfl) rfl rfl rfl (E.buildSlice (B0) run26) ?_
   refine ⟨(SP.nil S27.sl),?_⟩
   refine FB.all2 (i:=2) (j:=5) (by kernel_rfl) ?_ ?_
   ·
    refine FC.call (l':=(bs 9 31)) rfl (by kernel_rfl) rfl rfl rfl (E.call Tryz.call252 (A1 rfl)) (zdf S27.sl v0 a0 p0 hr30) ?_
    rintro e w32 ⟨H31,v35,n36,cs37,rfl,r34,els38⟩
    refine ⟨_,rfl,?_⟩
    have els38:=els38.mono (up_le S27.size)
    have S33:=S27.join (l':=[.row 4 1 v35 n36 cs37,.row 134 4 v24 0 []]) r34 rfl
    refine ⟨(SP.nil (Sl.of_inc r34.run.inc S33.sl)),?_⟩
    refine FB.t (i:=6) (bs 9 95) rfl (SP.nil (Sl.of_inc r34.run.inc S33.sl)) rfl (fun w' hw'=>(E.assign (v:=v24) rfl)) ?_
    refine FB.t (i:=7) (bs 9 223) rfl (SP.nil (Sl.of_inc r34.run.inc S33.sl)) rfl (fun w' hw'=>(E.assign (v:=v35) rfl)) ?_
    refine FB.all1 (i:=5) (by kernel_rfl) ?_
    ·
     obtain ⟨v41,w42,n46,cs47,run43,S44,els45,hbl48⟩:=S33.makeEls (P:=Tryz.prog) te52 (G:=(up wa.heap.size H31)) (En:=eI) (x0:=(0:Int)) hm40 rfl (zab rfl zae) .i64 .i64
     refine FC.val (l':=(bs 9 255)) rfl (by kernel_rfl) rfl rfl rfl (E.makeSlice rfl rfl run43) ?_
     refine ⟨(SP.nil (Sl.of_inc r34.run.inc S44.sl)),?_⟩
     refine FB.t (i:=8) (bs 9 511) rfl (SP.nil (Sl.of_inc r34.run.inc S44.sl)) rfl (fun w' hw'=>(E.assign (v:=v41) rfl)) ?_
     exact FB.done (by kernel_rfl) ⟨_,_,_,_,_,_,_,_,_,_,(S44.sel [2,1,0] (by decide) rfl),r34.run.inc,(els28.mono (zaf r34.run.inc)),els38,els45,(show (bl []).Nodup from List.nodup_nil),rfl,rfl,rfl,rfl⟩
   ·
    obtain ⟨v41,w42,n46,cs47,run43,S44,els45,hbl48⟩:=S27.makeEls (P:=Tryz.prog) te52 (G:=(up wa.heap.size Ha)) (En:=eI) (x0:=(0:Int)) hm40 rfl (zab rfl zae) .i64 .i64
    refine FC.val (l':=(bs 9 59)) rfl (by kernel_rfl) rfl rfl rfl (E.makeSlice rfl rfl run43) ?_
    refine ⟨(SP.nil S44.sl),?_⟩
    refine FB.all1 (i:=2) (by kernel_rfl) ?_
    ·
     refine FC.call (l':=(bs 9 63)) rfl (by kernel_rfl) rfl rfl rfl (E.call Tryz.call252 (A1 rfl)) (zdf S44.sl v0 a0 p0 hr30) ?_
     rintro e w32 ⟨H31,v35,n36,cs37,rfl,r34,els38⟩
     refine ⟨_,rfl,?_⟩
     have els38:=els38.mono (up_le S44.size)
     have S33:=S44.join (l':=[.row 4 1 v35 n36 cs37,.row 3 1 v41 n46 cs47,.row 134 4 v24 0 []]) r34 rfl
     refine ⟨(SP.nil (Sl.of_inc r34.run.inc S33.sl)),?_⟩
     refine FB.t (i:=6) (bs 9 127) rfl (SP.nil (Sl.of_inc r34.run.inc S33.sl)) rfl (fun w' hw'=>(E.assign (v:=v24) rfl)) ?_
     refine FB.t (i:=7) (bs 9 255) rfl (SP.nil (Sl.of_inc r34.run.inc S33.sl)) rfl (fun w' hw'=>(E.assign (v:=v35) rfl)) ?_
     refine FB.t (i:=8) (bs 9 511) rfl (SP.nil (Sl.of_inc r34.run.inc S33.sl)) rfl (fun w' hw'=>(E.assign (v:=v41) rfl)) ?_
     exact FB.done (by kernel_rfl) ⟨_,_,_,_,_,_,_,_,_,_,(S33.sel [2,0,1] (by decide) rfl),r34.run.inc,(els28.mono (zaf r34.run.inc)),els38,(els45.mono (zaf r34.run.inc)),(show (bl []).Nodup from List.nodup_nil),rfl,rfl,rfl,rfl⟩
  ·
   refine FC.call (l':=(bs 9 30)) rfl (by kernel_rfl) rfl rfl rfl (E.call Tryz.call252 (A1 rfl)) (zdf S23.sl v0 a0 p0 hr30) ?_
   rintro e w32 ⟨H31,v35,n36,cs37,rfl,r34,els38⟩
   refine ⟨_,rfl,?_⟩
   have els38:=els38.mono (up_le S23.size)
   have S33:=S23.join (l':=[.row 4 1 v35 n36 cs37]) r34 rfl
   refine ⟨(SP.nil (Sl.of_inc r34.run.inc S33.sl)),?_⟩
   refine FB.all2 (i:=0) (j:=5) (by kernel_rfl) ?_ ?_
   ·
    obtain ⟨v24,w25,run26,S27⟩:=S33.buildSlice (P:=Tryz.prog) te61 [] (parts:=#[]) (cells:=[]) rfl zan zam zae (Nat.le_of_ble_eq_true rfl)
    have els28:Els (up wa.heap.size H31) zah 4 [] []:=Els.nil
    refine FC.val (l':=(bs 9 31)) rfl (by kernel_rfl) rfl rfl rfl (E.buildSlice (B0) run26) ?_
    refine ⟨(SP.nil (Sl.of_inc r34.run.inc S27.sl)),?_⟩
    refine FB.t (i:=6) (bs 9 95) rfl (SP.nil (Sl.of_inc r34.run.inc S27.sl)) rfl (fun w' hw'=>(E.assign (v:=v24) rfl)) ?_
    refine FB.t (i:=7) (bs 9 223) rfl (SP.nil (Sl.of_inc r34.run.inc S27.sl)) rfl (fun w' hw'=>(E.assign (v:=v35) rfl)) ?_
    refine FB.all1 (i:=5) (by kernel_rfl) ?_
    ·
     obtain ⟨v41,w42,n46,cs47,run43,S44,els45,hbl48⟩:=S27.makeEls (P:=Tryz.prog) te52 (G:=(up wa.heap.size H31)) (En:=eI) (x0:=(0:Int)) hm40 rfl (zab rfl zae) .i64 .i64
     refine FC.val (l':=(bs 9 255)) rfl (by kernel_rfl) rfl rfl rfl (E.makeSlice rfl rfl run43) ?_
     refine ⟨(SP.nil (Sl.of_inc r34.run.inc S44.sl)),?_⟩
     refine FB.t (i:=8) (bs 9 511) rfl (SP.nil (Sl.of_inc r34.run.inc S44.sl)) rfl (fun w' hw'=>(E.assign (v:=v41) rfl)) ?_
     exact FB.done (by kernel_rfl) ⟨_,_,_,_,_,_,_,_,_,_,(S44.sel [1,2,0] (by decide) rfl),r34.run.inc,els28,els38,els45,(show (bl []).Nodup from List.nodup_nil),rfl,rfl,rfl,rfl⟩
   ·
    obtain ⟨v41,w42,n46,cs47,run43,S44,els45,hbl48⟩:=S33.makeEls (P:=Tryz.prog) te52 (G:=(up wa.heap.size H31)) (En:=eI) (x0:=(0:Int)) hm40 rfl (zab rfl zae) .i64 .i64
    refine FC.val (l':=(bs 9 62)) rfl (by kernel_rfl) rfl rfl rfl (E.makeSlice rfl rfl run43) ?_
    refine ⟨(SP.nil (Sl.of_inc r34.run.inc S44.sl)),?_⟩
    refine FB.all1 (i:=0) (by kernel_rfl) ?_
    ·
     obtain ⟨v24,w25,run26,S27⟩:=S44.buildSlice (P:=Tryz.prog) te61 [] (parts:=#[]) (cells:=[]) rfl zan zam zae (Nat.le_of_ble_eq_true rfl)
     have els28:Els (up wa.heap.size H31) zah 4 [] []:=Els.nil
     refine FC.val (l':=(bs 9 63)) rfl (by kernel_rfl) rfl rfl rfl (E.buildSlice (B0) run26) ?_
     refine ⟨(SP.nil (Sl.of_inc r34.run.inc S27.sl)),?_⟩
     refine FB.t (i:=6) (bs 9 127) rfl (SP.nil (Sl.of_inc r34.run.inc S27.sl)) rfl (fun w' hw'=>(E.assign (v:=v24) rfl)) ?_
     refine FB.t (i:=7) (bs 9 255) rfl (SP.nil (Sl.of_inc r34.run.inc S27.sl)) rfl (fun w' hw'=>(E.assign (v:=v35) rfl)) ?_
     refine FB.t (i:=8) (bs 9 511) rfl (SP.nil (Sl.of_inc r34.run.inc S27.sl)) rfl (fun w' hw'=>(E.assign (v:=v41) rfl)) ?_
     exact FB.done (by kernel_rfl) ⟨_,_,_,_,_,_,_,_,_,_,(S27.sel [0,2,1] (by decide) rfl),r34.run.inc,els28,els38,els45,(show (bl []).Nodup from List.nodup_nil),rfl,rfl,rfl,rfl⟩
  ·
   obtain ⟨v41,w42,n46,cs47,run43,S44,els45,hbl48⟩:=S23.makeEls (P:=Tryz.prog) te52 (G:=(up wa.heap.size Ha)) (En:=eI) (x0:=(0:Int)) hm40 rfl (zab rfl zae) .i64 .i64
   refine FC.val (l':=(bs 9 58)) rfl (by kernel_rfl) rfl rfl rfl (E.makeSlice rfl rfl run43) ?_
   refine ⟨(SP.nil S44.sl),?_⟩
   refine FB.all2 (i:=0) (j:=2) (by kernel_rfl) ?_ ?_
   ·
    obtain ⟨v24,w25,run26,S27⟩:=S44.buildSlice (P:=Tryz.prog) te61 [] (parts:=#[]) (cells:=[]) rfl zan zam zae (Nat.le_of_ble_eq_true rfl)
    have els28:Els (up wa.heap.size Ha) zah 4 [] []:=Els.nil
    refine FC.val (l':=(bs 9 59)) rfl (by kernel_rfl) rfl rfl rfl (E.buildSlice (B0) run26) ?_
    refine ⟨(SP.nil S27.sl),?_⟩
    refine FB.all1 (i:=2) (by kernel_rfl) ?_
    ·
     refine FC.call (l':=(bs 9 63)) rfl (by kernel_rfl) rfl rfl rfl (E.call Tryz.call252 (A1 rfl)) (zdf S27.sl v0 a0 p0 hr30) ?_
     rintro e w32 ⟨H31,v35,n36,cs37,rfl,r34,els38⟩
     refine ⟨_,rfl,?_⟩
     have els38:=els38.mono (up_le S27.size)
     have S33:=S27.join (l':=[.row 4 1 v35 n36 cs37,.row 134 4 v24 0 [],.row 3 1 v41 n46 cs47]) r34 rfl
     refine ⟨(SP.nil (Sl.of_inc r34.run.inc S33.sl)),?_⟩
     refine FB.t (i:=6) (bs 9 127) rfl (SP.nil (Sl.of_inc r34.run.inc S33.sl)) rfl (fun w' hw'=>(E.assign (v:=v24) rfl)) ?_
     refine FB.t (i:=7) (bs 9 255) rfl (SP.nil (Sl.of_inc r34.run.inc S33.sl)) rfl (fun w' hw'=>(E.assign (v:=v35) rfl)) ?_
     refine FB.t (i:=8) (bs 9 511) rfl (SP.nil (Sl.of_inc r34.run.inc S33.sl)) rfl (fun w' hw'=>(E.assign (v:=v41) rfl)) ?_
     exact FB.done (by kernel_rfl) ⟨_,_,_,_,_,_,_,_,_,_,(S33.sel [1,0,2] (by decide) rfl),r34.run.inc,(els28.mono (zaf r34.run.inc)),els38,(els45.mono (zaf r34.run.inc)),(show (bl []).Nodup from List.nodup_nil),rfl,rfl,rfl,rfl⟩
   ·
    refine FC.call (l':=(bs 9 62)) rfl (by kernel_rfl) rfl rfl rfl (E.call Tryz.call252 (A1 rfl)) (zdf S44.sl v0 a0 p0 hr30) ?_
    rintro e w32 ⟨H31,v35,n36,cs37,rfl,r34,els38⟩
    refine ⟨_,rfl,?_⟩
    have els38:=els38.mono (up_le S44.size)
    have S33:=S44.join (l':=[.row 4 1 v35 n36 cs37,.row 3 1 v41 n46 cs47]) r34 rfl
    refine ⟨(SP.nil (Sl.of_inc r34.run.inc S33.sl)),?_⟩
    refine FB.all1 (i:=0) (by kernel_rfl) ?_
    ·
     obtain ⟨v24,w25,run26,S27⟩:=S33.buildSlice (P:=Tryz.prog) te61 [] (parts:=#[]) (cells:=[]) rfl zan zam zae (Nat.le_of_ble_eq_true rfl)
     have els28:Els (up wa.heap.size H31) zah 4 [] []:=Els.nil
     refine FC.val (l':=(bs 9 63)) rfl (by kernel_rfl) rfl rfl rfl (E.buildSlice (B0) run26) ?_
     refine ⟨(SP.nil (Sl.of_inc r34.run.inc S27.sl)),?_⟩
     refine FB.t (i:=6) (bs 9 127) rfl (SP.nil (Sl.of_inc r34.run.inc S27.sl)) rfl (fun w' hw'=>(E.assign (v:=v24) rfl)) ?_
     refine FB.t (i:=7) (bs 9 255) rfl (SP.nil (Sl.of_inc r34.run.inc S27.sl)) rfl (fun w' hw'=>(E.assign (v:=v35) rfl)) ?_
     refine FB.t (i:=8) (bs 9 511) rfl (SP.nil (Sl.of_inc r34.run.inc S27.sl)) rfl (fun w' hw'=>(E.assign (v:=v41) rfl)) ?_
     exact FB.done (by kernel_rfl) ⟨_,_,_,_,_,_,_,_,_,_,S27,r34.run.inc,els28,els38,(els45.mono (zaf r34.run.inc)),(show (bl []).Nodup from List.nodup_nil),rfl,rfl,rfl,rfl⟩
 ·
  rintro f68 w67 ⟨H64,v49,n50,cs51,v55,n56,cs57,v59,n60,cs62,S65,i66,els53,els58,els63,nd54,k69,k70,k71,k72⟩
  refine FW.seq (FW.seq (FW.region ?_))
  refine FL.v (E.assign (v:=Value.int .i64 0) rfl) ?_
  refine FL.nil ?_
  obtain ⟨q74,hq,hp⟩:=bndR hp
  refine FW.block ?_
  refine FW.mono (FW.forL (S:=((List zaa)×(List Int))) (X:=Empty) (fun (i74:Nat) (s74:((List zaa)×(List Int))) f w=>∃ H:GH,∃ v75:Value,∃ n77:Nat,∃ cs78:List Value,∃ v81:Value,∃ n82:Nat,∃ cs83:List Value,St Ha wa H w [.row 134 4 v75 n77 cs78,.row 4 1 v55 n56 cs57,.row 3 1 v81 n82 cs83]∧Inc H64 H∧Els (up wa.heap.size H) zah 4 cs78 s74.1∧Els (up wa.heap.size H) eI 1 cs83 s74.2∧(bl cs78).Nodup∧f 6=Value.int .i64 ((i74:Nat):Int)∧f 0=v0∧f 3=v75∧f 4=v55∧f 5=v81) (fun (q:Rs ((List zaa)×(List Int)) Empty) e f w=>match q with|.go s74=>e=Exit.exit 0∧(∃ H:GH,∃ v75:Value,∃ n77:Nat,∃ cs78:List Value,∃ v81:Value,∃ n82:Nat,∃ cs83:List Value,St Ha wa H w [.row 134 4 v75 n77 cs78,.row 4 1 v55 n56 cs57,.row 3 1 v81 n82 cs83]∧Inc H64 H∧Els (up wa.heap.size H) zah 4 cs78 s74.1∧Els (up wa.heap.size H) eI 1 cs83 s74.2∧(bl cs78).Nodup∧f 3=v75)|.rt x=>x.elim) hq ⟨_,_,_,_,_,_,_,S65,(Inc.rfl _),els53,els63,nd54,rfl,k69,k70,k71,k72⟩ ?_ ?_) ?_
  ·
   clear hp hq
   rintro i74 y73 s74 f89 w88 ⟨H85,v75,n77,cs78,v81,n82,cs83,S86,i87,els79,els84,nd80,k90,k91,k92,k93,k94⟩ hx74 oB0 hp
   refine FW.seq (FW.seq (FW.region ?_))
   refine FL.v (E.move k90) ?_
   refine FL.v (E.move k91) ?_
   refine FL.v (E.lenP te61 rfl p0) ?_
   refine FL.v (E.lssT rfl rfl (zaF hx74)) ?_
   refine FL.nil ?_
   refine FW.condT rfl rfl ?_
   refine FW.skip (FW.seq (FW.block (FW.seq (FW.region ?_))))
   refine FL.v (E.move k93) ?_
   refine FL.v (E.move k90) ?_
   obtain ⟨xA1,hxA2,hp⟩:=bnd hp
   obtain ⟨p95,cs96,pt97,l98,at99,relA0⟩:=S86.row_at (i:=1) rfl els58 (by decide) hxA2
   obtain rfl:=eB_open relA0
   refine FL.v (E.indexAddr te76 rfl rfl pt97) ?_
   refine FL.v (E.load rfl (zak Tryz.isAgg4 at99 rfl)) ?_
   refine FL.nil ?_
   rcases ifB hp with ⟨cA3,hp⟩|⟨cA3,hp⟩
   ·
    refine FW.condT rfl cA3 ?_
    refine FW.seq (FW.region ?_)
    refine FL.v (E.move k94) ?_
    refine FL.v (E.move k90) ?_
    refine FL.v (E.move k92) ?_
    refine FL.v (E.lenO te61 rfl S86 (i:=0) rfl els79 (by decide)) ?_
    obtain ⟨xAa,hxAb,hp⟩:=bnd hp
    obtain ⟨pA4,csA5,ptA6,lA7,atA8,relA9⟩:=S86.row_at (i:=2) rfl els84 (by decide) hxAb
    obtain rfl:=zao relA9
    refine FL.v (E.indexAddr te52 rfl rfl ptA6) ?_
    obtain ⟨xsAf,hputAg,hp⟩:=bnd hp
    obtain ⟨wAc,csAi,runAd,SAe,elsAh,ceAj⟩:=S86.putEls (P:=Tryz.prog) (t:=3) (i:=2) rfl els84 hputAg ptA6 Tryz.sizeOf3 (u:=Value.int .i64 (len s74.1)) (c:=[Value.int .i64 (len s74.1)]) rfl rfl (zab rfl zae) rfl
    have SAe:St Ha wa H85 wAc [.row 134 4 v75 n77 cs78,.row 4 1 v55 n56 cs57,.row 3 1 v81 n82 csAi]:=SAe
    refine FL.act rfl rfl (E.store rfl rfl runAd) ?_
    refine FL.nil (FW.region ?_)
    refine FL.v (E.move k92) ?_
    refine FL.v (E.move k91) ?_
    refine FL.v (E.move k90) ?_
    obtain ⟨pAk,csAl,ptAm,lAn,atAo,relAp⟩:=p0.at (zaz hx74)
    obtain ⟨vAq,rfl,hAr⟩:=zap relAp
    refine FL.v (E.indexAddr te61 rfl rfl ptAm) ?_
    refine FL.v (E.load rfl (zal Tryz.isAgg134 Tryz.sizeOf134 ((atAo.mono (i66.tr i87)).now SAe.sl) rfl)) ?_
    refine FL.v (E.move k94) ?_
    obtain ⟨HAs,SAt,iAu,hAv,nvAw⟩:=SAe.sealRowU (i:=2) (l':=[.row 134 4 v75 n77 cs78,.row 4 1 v55 n56 cs57]) rfl elsAh (by decide) rfl
    obtain ⟨rAx,hrAy,hp⟩:=bnd hp
    refine FL.call rfl rfl rfl (E.call Tryz.call182 (A2 rfl rfl)) (zdW SAt.sl y73 vAq (hAr.mono ((i66.tr i87).tr iAu)) v81 xsAf (hAv.mono upI) hrAy) ?_
    rintro e wAA ⟨HAz,vAF,rfl,rAC,hAG⟩
    refine ⟨_,rfl,?_⟩
    obtain ⟨HAD,rAC,hU140⟩:=Run.lendX iAu SAe.sl rAC
    have nvAH:New H85 [vAF]:=New.of_up SAe.sl hAG.dom
    have hAG:=hAG.mono (hU140.tr (up_le SAe.size))
    have SAB:=SAe.call rAC
    obtain ⟨vAI,wAJ,runAK,SAL⟩:=SAB.buildSlice (P:=Tryz.prog) te61 [Value.agg #[vAF,Value.int .i64 rAx.left,Value.int .i64 rAx.right,Value.int .i64 rAx.pivot]] (parts:=#[(0,Value.agg #[vAF,Value.int .i64 rAx.left,Value.int .i64 rAx.right,Value.int .i64 rAx.pivot])]) (cells:=[vAF,Value.int .i64 rAx.left,Value.int .i64 rAx.right,Value.int .i64 rAx.pivot]) rfl (zas rfl zan) (zar rfl zam) (zab hAG.one (zab rfl (zab rfl (zab rfl zae)))) (Nat.le_of_ble_eq_true rfl)
    have elsAM:Els (up wa.heap.size HAD) zah 4 [vAF,Value.int .i64 rAx.left,Value.int .i64 rAx.right,Value.int .i64 rAx.pivot] [rAx]:=(Els.snoc (H:=(up wa.heap.size HAD)) (E:=zah) (k:=4) (c:=[vAF,Value.int .i64 rAx.left,Value.int .i64 rAx.right,Value.int .i64 rAx.pivot]) (x:=rAx) Els.nil rfl ⟨_,rfl,hAG⟩)
    have ndAN:(bl [vAF,Value.int .i64 rAx.left,Value.int .i64 rAx.right,Value.int .i64 rAx.pivot]).Nodup:=by exact zaT vAF
    refine FL.v (E.buildSlice (B1 rfl) runAK) ?_
    obtain ⟨xsAO,hzAP,hp⟩:=bnd hp
    obtain ⟨vAQ,wAT,nAR,csAS,runAU,SAV,elsAW,ceAX⟩:=SAL.appendO (P:=Tryz.prog) te61 (i:=1) (j:=0) rfl (els79.mono (zaf rAC.inc)) rfl elsAM hzAP
    have SAV:St Ha wa HAD wAT [.row 134 4 vAI 1 [vAF,Value.int .i64 rAx.left,Value.int .i64 rAx.right,Value.int .i64 rAx.pivot],.row 134 4 vAQ nAR csAS,.row 4 1 v55 n56 cs57,.row 3 1 v81 n82 csAi]:=SAV
    have ndAY:(bl csAS).Nodup:=by rw [ceAX];exact zaS nd80 ndAN (Els.dom (els79.mono (upI.tr (Inc.rfl _)))) (by exact nvAH)
    have SAZ:St Ha wa HAD wAT [.row 134 4 vAQ nAR csAS,.row 4 1 v55 n56 cs57,.row 3 1 v81 n82 csAi]:=SAV.drop 0
    refine FL.v (E.append rfl rfl runAU) ?_
    refine FL.v (E.assign (v:=vAQ) rfl) ?_
    refine FL.nil (FW.region ?_)
    refine FL.v (E.move k90) ?_
    refine FL.v (E.add rfl rfl) ?_
    refine FL.v (E.assign (v:=Value.int .i64 (wr (((i74:Nat):Int) + 1))) rfl) ?_
    refine FL.nil ?_
    obtain rfl:=Option.some.inj hp
    exact ⟨rfl,⟨_,_,_,_,_,_,_,SAZ,(i87.tr rAC.inc),elsAW,(elsAh.mono (zaf rAC.inc)),ndAY,(zaw rfl (zaB hx74) (p0.mono ((i66.tr i87).tr rAC.inc)).le),k91,rfl,k93,k94⟩⟩
   ·
    refine FW.condF rfl cA3 ?_
    refine FW.skip (FW.region ?_)
    refine FL.v (E.move k90) ?_
    refine FL.v (E.add rfl rfl) ?_
    refine FL.v (E.assign (v:=Value.int .i64 (wr (((i74:Nat):Int) + 1))) rfl) ?_
    refine FL.nil ?_
    obtain rfl:=Option.some.inj hp
    exact ⟨rfl,⟨_,_,_,_,_,_,_,S86,i87,els79,els84,nd80,(zaw rfl (zaB hx74) (p0.mono (i66.tr i87)).le),k91,k92,k93,k94⟩⟩
  ·
   clear hp hq
   rintro s74 fBb wBa ⟨HB7,v75,n77,cs78,v81,n82,cs83,SB8,iB9,els79,els84,nd80,kBc,kBd,kBe,kBf,kBg⟩
   refine FW.seq (FW.seq (FW.region ?_))
   refine FL.v (E.move kBc) ?_
   refine FL.v (E.move kBd) ?_
   refine FL.v (E.lenP te61 rfl p0) ?_
   refine FL.v (E.lss rfl rfl) ?_
   refine FL.nil ?_
   refine FW.condF rfl zaG ?_
   refine FW.exit ?_
   exact ⟨nofun,rfl,⟨_,_,_,_,_,_,_,SB8,iB9,els79,els84,nd80,kBe⟩⟩
  ·
   clear hq
   intro e fB5 wB4 hD
   rcases q74 with s74|x74
   ·
    obtain ⟨rfl,hD⟩:=hD
    obtain ⟨HB1,v75,n77,cs78,v81,n82,cs83,SB2,iB3,els79,els84,nd80,kB6⟩:=hD
    replace hp:=el_go hp
    refine FW.seq (FW.region ?_)
    refine FL.v (E.move kB6) ?_
    refine FL.v (E.assign (v:=v75) rfl) ?_
    refine FL.nil ?_
    refine FW.ret ?_
    obtain rfl:=Option.some.inj hp
    exact ⟨.inr rfl,res1 rfl rfl ⟨_,_,_,_,rfl,(SB2.sel [0] (by decide) rfl),els79,nd80⟩⟩
   ·
    exact x74.elim

@[reducible] def zdA (Ha:GH) (wa:World) (r:(List zaa)):Ending→World→Prop :=
 fun e w'=>∃ H':GH,∃ v0:Value,∃ n0:Nat,∃ c0:List Value,e=.returned (v0)∧St Ha wa H' w' [.row 134 4 v0 n0 c0]∧Els (up wa.heap.size H') zah 4 c0 r∧(bl c0).Nodup
set_option maxHeartbeats 4000000 in
theorem w_spec_l7Saturate {Ha:GH} {wa:World} (hs:Sl Ha wa) (a0:Cnf) (v0_1:Value) (p0_1:RSl Ha (eL eI 1) 1 v0_1 a0.clauses) (a1:Int) {r:(List zaa)} (hp:(PF.zcP a0 a1)=some r) :
  Calls Tryz.prog 164 #[Value.agg #[Value.int .i64 a0.vars,v0_1],Value.int .i64 a1] wa (zdA Ha wa r):=by
 unfold PF.zcP at hp
 have S0:=St.init hs
 refine zaj (N:=111) (args:=[Value.agg #[Value.int .i64 a0.vars,v0_1],Value.int .i64 a1]) Tryz.func164 rfl rfl rfl ?_
 refine FW.seq (FW.region ?_)
 obtain ⟨b21,w22,run23,S24⟩:=S0.box (P:=Tryz.prog) 26 [Value.int .i64 a0.vars,v0_1] (v:=Value.agg #[Value.int .i64 a0.vars,v0_1]) rfl (zab rfl (zab p0_1.one zae))
 refine FL.v (E.box rfl run23) ?_
 obtain ⟨H25,S26,i27,at28⟩:=S24.sealBox (i:=0) (l':=[]) rfl rfl
 refine FL.v (E.assign (v:=Value.slice none 0 0) rfl) ?_
 refine FL.nil (FW.seq (FW.region ?_))
 obtain ⟨v29,w30,run31,S32⟩:=S26.buildSlice (P:=Tryz.prog) te61 [] (parts:=#[]) (cells:=[]) rfl zan zam zae (Nat.le_of_ble_eq_true rfl)
 have els33:Els (up wa.heap.size H25) zah 4 [] []:=Els.nil
 refine FL.v (E.buildSlice (B0) run31) ?_
 refine FL.v (E.assign (v:=v29) rfl) ?_
 refine FL.nil (FW.seq (FW.seq (FW.region ?_)))
 refine FL.v (E.assign (v:=Value.int .i64 0) rfl) ?_
 refine FL.nil ?_
 obtain ⟨q34,hq,hp⟩:=bndR hp
 refine FW.block ?_
 refine FW.mono (FW.iter (S:=((List zaa)×Int)) (X:=Empty) (fun (s34:((List zaa)×Int)) f w=>∃ H:GH,∃ v35:Value,∃ n36:Nat,∃ cs37:List Value,St Ha wa H w [.row 134 4 v35 n36 cs37]∧Inc H25 H∧Els (up wa.heap.size H) zah 4 cs37 s34.1∧(bl cs37).Nodup∧f 1=Value.int .i64 a1∧f 2=Value.pointer (some ⟨b21,0,none⟩)∧f 5=v35∧f 6=Value.int .i64 s34.2) (fun (q:Rs ((List zaa)×Int) Empty) e f w=>match q with|.go s34=>e=Exit.exit 0∧(∃ H:GH,∃ v35:Value,∃ n36:Nat,∃ cs37:List Value,St Ha wa H w [.row 134 4 v35 n36 cs37]∧Inc H25 H∧Els (up wa.heap.size H) zah 4 cs37 s34.1∧(bl cs37).Nodup∧f 1=Value.int .i64 a1∧f 2=Value.pointer (some ⟨b21,0,none⟩)∧f 5=v35)|.rt x=>x.elim) hq ⟨_,_,_,_,S32,(Inc.rfl _),els33,(show (bl []).Nodup from List.nodup_nil),rfl,rfl,rfl,rfl⟩ ?_) ?_
 ·
  clear hp hq
  rintro s34 f81 w80 ⟨H77,v35,n36,cs37,S78,i79,els38,nd39,k82,k83,k84,k85⟩ oAe hp
  refine FW.seq (FW.seq (FW.region ?_))
  refine FL.v (E.move k85) ?_
  refine FL.v (E.fieldAddr zay k83) ?_
  refine FL.v (E.load rfl (zag Tryz.isAgg24 ((at28.mono i79).now S78.sl) rfl)) ?_
  refine FL.v (E.lenP te24 rfl p0_1) ?_
  refine FL.v (E.lss rfl rfl) ?_
  refine FL.nil ?_
  rcases ifB hp with ⟨c86,hp⟩|⟨c86,hp⟩
  ·
   refine FW.condT rfl c86 ?_
   refine FW.skip (FW.seq (FW.block (FW.region ?_)))
   refine FL.v (E.move k84) ?_
   refine FL.v (E.load k83 (zal Tryz.isAgg26 Tryz.sizeOf26 ((at28.mono i79).now S78.sl) rfl)) ?_
   refine FL.v (E.move k85) ?_
   obtain ⟨r87,hr88,hp⟩:=bnd hp
   refine FL.call rfl rfl rfl (E.call Tryz.call168 (A2 rfl rfl)) (zen S78.sl a0 v0_1 (p0_1.mono (i27.tr i79)) s34.2 hr88) ?_
   rintro e w90 ⟨H89,v93,rfl,r92,h94⟩
   refine ⟨_,rfl,?_⟩
   have nv95:New H77 [v93]:=New.of_up S78.sl h94.dom
   have h94:=h94.mono (up_le S78.size)
   have S91:=S78.call r92
   obtain ⟨v96,w97,run98,S99⟩:=S91.buildSlice (P:=Tryz.prog) te61 [Value.agg #[v93,Value.int .i64 r87.left,Value.int .i64 r87.right,Value.int .i64 r87.pivot]] (parts:=#[(0,Value.agg #[v93,Value.int .i64 r87.left,Value.int .i64 r87.right,Value.int .i64 r87.pivot])]) (cells:=[v93,Value.int .i64 r87.left,Value.int .i64 r87.right,Value.int .i64 r87.pivot]) rfl (zas rfl zan) (zar rfl zam) (zab h94.one (zab rfl (zab rfl (zab rfl zae)))) (Nat.le_of_ble_eq_true rfl)
   have elsA0:Els (up wa.heap.size H89) zah 4 [v93,Value.int .i64 r87.left,Value.int .i64 r87.right,Value.int .i64 r87.pivot] [r87]:=(Els.snoc (H:=(up wa.heap.size H89)) (E:=zah) (k:=4) (c:=[v93,Value.int .i64 r87.left,Value.int .i64 r87.right,Value.int .i64 r87.pivot]) (x:=r87) Els.nil rfl ⟨_,rfl,h94⟩)
   have ndA1:(bl [v93,Value.int .i64 r87.left,Value.int .i64 r87.right,Value.int .i64 r87.pivot]).Nodup:=by exact zaT v93
   refine FL.v (E.buildSlice (B1 rfl) run98) ?_
   obtain ⟨xsA2,hzA3,hp⟩:=bnd hp
   obtain ⟨vA4,wA7,nA5,csA6,runA8,SA9,elsAa,ceAb⟩:=S99.appendO (P:=Tryz.prog) te61 (i:=1) (j:=0) rfl (els38.mono (zaf r92.inc)) rfl elsA0 hzA3
   have SA9:St Ha wa H89 wA7 [.row 134 4 v96 1 [v93,Value.int .i64 r87.left,Value.int .i64 r87.right,Value.int .i64 r87.pivot],.row 134 4 vA4 nA5 csA6]:=SA9
   have ndAc:(bl csA6).Nodup:=by rw [ceAb];exact zaS nd39 ndA1 (Els.dom (els38.mono (upI.tr (Inc.rfl _)))) (by exact nv95)
   have SAd:St Ha wa H89 wA7 [.row 134 4 vA4 nA5 csA6]:=SA9.drop 0
   refine FL.v (E.append rfl rfl runA8) ?_
   refine FL.v (E.assign (v:=vA4) rfl) ?_
   refine FL.nil (FW.region ?_)
   refine FL.v (E.move k85) ?_
   refine FL.v (E.add rfl rfl) ?_
   refine FL.v (E.assign (v:=Value.int .i64 (wr (s34.2 + 1))) rfl) ?_
   refine FL.nil ?_
   obtain rfl:=Option.some.inj hp
   exact ⟨rfl,⟨_,_,_,_,SAd,(i79.tr r92.inc),elsAa,ndAc,k82,k83,rfl,rfl⟩⟩
  ·
   refine FW.condF rfl c86 ?_
   refine FW.exit ?_
   obtain rfl:=Option.some.inj hp
   exact ⟨nofun,rfl,⟨_,_,_,_,S78,i79,els38,nd39,k82,k83,k84⟩⟩
 ·
  clear hq
  intro e fAj wAi hD
  rcases q34 with s34|x34
  ·
   obtain ⟨rfl,hD⟩:=hD
   obtain ⟨HAf,v35,n36,cs37,SAg,iAh,els38,nd39,kAk,kAl,kAm⟩:=hD
   replace hp:=el_go hp
   refine FW.seq (FW.seq (FW.region ?_))
   refine FL.v (E.assign (v:=Value.int .i64 0) rfl) ?_
   refine FL.nil ?_
   obtain ⟨qAn,hq,hp⟩:=bndR hp
   refine FW.block ?_
   refine FW.mono (FW.iter (S:=((List zaa)×Int)) (X:=(List zaa)) (fun (sAn:((List zaa)×Int)) f w=>∃ H:GH,∃ vAo:Value,∃ nAp:Nat,∃ csAq:List Value,St Ha wa H w [.row 134 4 vAo nAp csAq]∧Inc HAf H∧Els (up wa.heap.size H) zah 4 csAq sAn.1∧(bl csAq).Nodup∧f 1=Value.int .i64 a1∧f 2=Value.pointer (some ⟨b21,0,none⟩)∧f 5=vAo∧f 7=Value.int .i64 sAn.2) (fun q e f w=>match q with|.go sAn=>e=Exit.exit 2∧(∃ H:GH,∃ vAo:Value,∃ nAp:Nat,∃ csAq:List Value,St Ha wa H w [.row 134 4 vAo nAp csAq]∧Inc HAf H∧Els (up wa.heap.size H) zah 4 csAq sAn.1∧(bl csAq).Nodup∧f 5=vAo)|.rt x=>((e=Exit.ret)∧(fun e f w=>(e=Exit.normal∨e=Exit.ret)∧∀ a,Fr (δ:=[]) 111 a f→∃ v,(results Tryz.f164 a.tmps).run Tryz.prog w=.ok v w∧(zdA Ha wa x) (.returned v) w) e f w)) hq ⟨_,_,_,_,SAg,(Inc.rfl _),els38,nd39,kAk,kAl,kAm,rfl⟩ ?_) ?_
   ·
    clear hp hq
    rintro sAn f44 w43 ⟨H40,vAo,nAp,csAq,S41,i42,elsAr,ndAs,k45,k46,k47,k48⟩ oGX hp
    refine FW.seq (FW.seq (FW.region ?_))
    refine FL.v (E.move k48) ?_
    refine FL.v (E.move k47) ?_
    refine FL.v (E.lenO te61 rfl S41 (i:=0) rfl elsAr (by decide)) ?_
    refine FL.v (E.lss rfl rfl) ?_
    refine FL.nil ?_
    rcases ifB hp with ⟨c49,hp⟩|⟨c49,hp⟩
    ·
     refine FW.condT rfl c49 ?_
     refine FW.skip (FW.seq (FW.block (FW.seq (FW.region ?_))))
     refine FL.v (E.assign (v:=Value.int .i64 0) rfl) ?_
     refine FL.nil ?_
     obtain ⟨q50,hq,hp⟩:=bndR hp
     refine FW.block ?_
     refine FW.mono (FW.iter (S:=((List zaa)×Int)) (X:=(Lp ((List zaa)×Int) (List zaa))) (fun (s50:((List zaa)×Int)) f w=>∃ H:GH,∃ v51:Value,∃ n53:Nat,∃ cs54:List Value,St Ha wa H w [.row 134 4 v51 n53 cs54]∧Inc H40 H∧Els (up wa.heap.size H) zah 4 cs54 s50.1∧(bl cs54).Nodup∧f 1=Value.int .i64 a1∧f 2=Value.pointer (some ⟨b21,0,none⟩)∧f 5=v51∧f 7=Value.int .i64 sAn.2∧f 8=Value.int .i64 s50.2) (fun q e f w=>match q with|.go s50=>e=Exit.exit 4∧(∃ H:GH,∃ v51:Value,∃ n53:Nat,∃ cs54:List Value,St Ha wa H w [.row 134 4 v51 n53 cs54]∧Inc H40 H∧Els (up wa.heap.size H) zah 4 cs54 s50.1∧(bl cs54).Nodup∧f 1=Value.int .i64 a1∧f 2=Value.pointer (some ⟨b21,0,none⟩)∧f 5=v51∧f 7=Value.int .i64 sAn.2)|.rt x=>((e=Exit.ret)∧(Rd (fun (sAn:((List zaa)×Int)) f w=>∃ H:GH,∃ vAo:Value,∃ nAp:Nat,∃ csAq:List Value,St Ha wa H w [.row 134 4 vAo nAp csAq]∧Inc HAf H∧Els (up wa.heap.size H) zah 4 csAq sAn.1∧(bl csAq).Nodup∧f 1=Value.int .i64 a1∧f 2=Value.pointer (some ⟨b21,0,none⟩)∧f 5=vAo∧f 7=Value.int .i64 sAn.2) (fun q e f w=>match q with|.go sAn=>e=Exit.exit 2∧(∃ H:GH,∃ vAo:Value,∃ nAp:Nat,∃ csAq:List Value,St Ha wa H w [.row 134 4 vAo nAp csAq]∧Inc HAf H∧Els (up wa.heap.size H) zah 4 csAq sAn.1∧(bl csAq).Nodup∧f 5=vAo)|.rt x=>((e=Exit.ret)∧(fun e f w=>(e=Exit.normal∨e=Exit.ret)∧∀ a,Fr (δ:=[]) 111 a f→∃ v,(results Tryz.f164 a.tmps).run Tryz.prog w=.ok v w∧(zdA Ha wa x) (.returned v) w) e f w)) x) e f w)) hq ⟨_,_,_,_,S41,(Inc.rfl _),elsAr,ndAs,k45,k46,k47,k48,rfl⟩ ?_) ?_
     ·
      clear hp hq
      rintro s50 f62 w60 ⟨H57,v51,n53,cs54,S58,i59,els55,nd56,k63,k64,k65,k66,k67⟩ oGN hp
      refine FW.seq (FW.seq (FW.region ?_))
      refine FL.v (E.move k67) ?_
      refine FL.v (E.move k66) ?_
      refine FL.v (E.lss rfl rfl) ?_
      refine FL.v (E.move (v:=Value.bool (decide (s50.2 < sAn.2))) rfl) ?_
      refine FL.cut 5 (fun f w=>∃ H:GH,St Ha wa H w [.row 134 4 v51 n53 cs54]∧Inc H57 H∧f 1=Value.int .i64 a1∧f 2=Value.pointer (some ⟨b21,0,none⟩)∧f 5=v51∧f 7=Value.int .i64 sAn.2∧f 8=Value.int .i64 s50.2∧f 43=Value.bool (bif (decide (s50.2 < sAn.2)) then (decide ((len s50.1) < a1)) else false)) ?_ ?_
      ·
       rcases bcase (decide (s50.2 < sAn.2)) with c73|c73
       ·
        refine FL.val (zac rfl rfl rfl c73) rfl rfl (E.move k65) ?_
        refine FL.val (zac rfl rfl rfl c73) rfl rfl (E.lenO te61 rfl S58 (i:=0) rfl els55 (by decide)) ?_
        refine FL.val (zac rfl rfl rfl c73) rfl rfl (E.move k63) ?_
        refine FL.val (zac rfl rfl rfl c73) rfl rfl (E.lss rfl rfl) ?_
        refine FL.v (E.pickT rfl c73 rfl) ?_
        exact FL.nil ⟨rfl,_,S58,(Inc.rfl _),k63,k64,k65,k66,k67,(congrArg Value.bool (bifT c73).symm)⟩
       ·
        refine FL.skip (wF_no rfl rfl rfl c73) rfl ?_
        refine FL.skip (wF_no rfl rfl rfl c73) rfl ?_
        refine FL.skip (wF_no rfl rfl rfl c73) rfl ?_
        refine FL.skip (wF_no rfl rfl rfl c73) rfl ?_
        refine FL.v (E.pickF rfl c73 rfl) ?_
        exact FL.nil ⟨rfl,_,S58,(Inc.rfl _),k63,k64,k65,k66,k67,(congrArg Value.bool (bifF c73).symm)⟩
      rintro f72 w71 ⟨H68,S69,i70,k74,k75,k76,kAt,kAu,kAv⟩
      refine FL.nil ?_
      rcases ifB hp with ⟨cAw,hp⟩|⟨cAw,hp⟩
      ·
       refine FW.condT kAv cAw ?_
       refine FW.skip (FW.seq (FW.block (FW.seq (FW.region ?_))))
       refine FL.v (E.assign (v:=Value.int .i64 1) rfl) ?_
       refine FL.nil ?_
       obtain ⟨qAx,hq,hp⟩:=bndR hp
       refine FW.block ?_
       refine FW.mono (FW.iter (S:=((List zaa)×Int)) (X:=(Lp ((List zaa)×Int) (Lp ((List zaa)×Int) (List zaa)))) (fun (sAx:((List zaa)×Int)) f w=>∃ H:GH,∃ vAz:Value,∃ nAA:Nat,∃ csAB:List Value,St Ha wa H w [.row 134 4 vAz nAA csAB]∧Inc H68 H∧Els (up wa.heap.size H) zah 4 csAB sAx.1∧(bl csAB).Nodup∧f 1=Value.int .i64 a1∧f 2=Value.pointer (some ⟨b21,0,none⟩)∧f 5=vAz∧f 7=Value.int .i64 sAn.2∧f 8=Value.int .i64 s50.2∧f 9=Value.int .i64 sAx.2) (fun q e f w=>match q with|.go sAx=>e=Exit.exit 6∧(∃ H:GH,∃ vAz:Value,∃ nAA:Nat,∃ csAB:List Value,St Ha wa H w [.row 134 4 vAz nAA csAB]∧Inc H68 H∧Els (up wa.heap.size H) zah 4 csAB sAx.1∧(bl csAB).Nodup∧f 1=Value.int .i64 a1∧f 2=Value.pointer (some ⟨b21,0,none⟩)∧f 5=vAz∧f 7=Value.int .i64 sAn.2∧f 8=Value.int .i64 s50.2)|.rt x=>((e=Exit.ret)∧(Rd (fun (s50:((List zaa)×Int)) f w=>∃ H:GH,∃ v51:Value,∃ n53:Nat,∃ cs54:List Value,St Ha wa H w [.row 134 4 v51 n53 cs54]∧Inc H40 H∧Els (up wa.heap.size H) zah 4 cs54 s50.1∧(bl cs54).Nodup∧f 1=Value.int .i64 a1∧f 2=Value.pointer (some ⟨b21,0,none⟩)∧f 5=v51∧f 7=Value.int .i64 sAn.2∧f 8=Value.int .i64 s50.2) (fun q e f w=>match q with|.go s50=>e=Exit.exit 4∧(∃ H:GH,∃ v51:Value,∃ n53:Nat,∃ cs54:List Value,St Ha wa H w [.row 134 4 v51 n53 cs54]∧Inc H40 H∧Els (up wa.heap.size H) zah 4 cs54 s50.1∧(bl cs54).Nodup∧f 1=Value.int .i64 a1∧f 2=Value.pointer (some ⟨b21,0,none⟩)∧f 5=v51∧f 7=Value.int .i64 sAn.2)|.rt x=>((e=Exit.ret)∧(Rd (fun (sAn:((List zaa)×Int)) f w=>∃ H:GH,∃ vAo:Value,∃ nAp:Nat,∃ csAq:List Value,St Ha wa H w [.row 134 4 vAo nAp csAq]∧Inc HAf H∧Els (up wa.heap.size H) zah 4 csAq sAn.1∧(bl csAq).Nodup∧f 1=Value.int .i64 a1∧f 2=Value.pointer (some ⟨b21,0,none⟩)∧f 5=vAo∧f 7=Value.int .i64 sAn.2) (fun q e f w=>match q with|.go sAn=>e=Exit.exit 2∧(∃ H:GH,∃ vAo:Value,∃ nAp:Nat,∃ csAq:List Value,St Ha wa H w [.row 134 4 vAo nAp csAq]∧Inc HAf H∧Els (up wa.heap.size H) zah 4 csAq sAn.1∧(bl csAq).Nodup∧f 5=vAo)|.rt x=>((e=Exit.ret)∧(fun e f w=>(e=Exit.normal∨e=Exit.ret)∧∀ a,Fr (δ:=[]) 111 a f→∃ v,(results Tryz.f164 a.tmps).run Tryz.prog w=.ok v w∧(zdA Ha wa x) (.returned v) w) e f w)) x) e f w)) x) e f w)) hq ⟨_,_,_,_,S69,(Inc.rfl _),(els55.mono (zaf i70)),nd56,k74,k75,k76,kAt,kAu,rfl⟩ ?_) ?_
       ·
        clear hp hq
        rintro sAx fAI wAH ⟨HAE,vAz,nAA,csAB,SAF,iAG,elsAC,ndAD,kAJ,kAK,kAL,kAM,kAN,kAO⟩ oGC hp
        refine FW.seq (FW.seq (FW.region ?_))
        refine FL.v (E.move kAO) ?_
        refine FL.v (E.fieldAddr zaC kAK) ?_
        refine FL.v (E.load rfl (zag Tryz.isAgg3 ((at28.mono ((((iAh.tr i42).tr i59).tr i70).tr iAG)).now SAF.sl) rfl)) ?_
        refine FL.v (E.leq rfl rfl) ?_
        refine FL.nil ?_
        rcases ifB hp with ⟨cAP,hp⟩|⟨cAP,hp⟩
        ·
         refine FW.condT rfl cAP ?_
         refine FW.skip (FW.seq (FW.block (FW.seq (FW.region ?_))))
         refine FL.v (E.move kAM) ?_
         refine FL.v (E.move kAN) ?_
         refine FL.v (E.assign (v:=Value.int .i64 sAn.2) rfl) ?_
         refine FL.v (E.assign (v:=Value.int .i64 s50.2) rfl) ?_
         refine FL.nil (FW.seq (FW.seq (FW.region ?_)))
         refine FL.v (E.move kAL) ?_
         refine FL.v (E.move kAM) ?_
         obtain ⟨xAW,hxAX,hp⟩:=bnd hp
         obtain ⟨pAQ,csAR,ptAS,lAT,atAU,relAV⟩:=SAF.row_at (i:=0) rfl elsAC (by decide) hxAX
         obtain ⟨vAY,rfl,hAZ⟩:=zap relAV
         refine FL.v (E.indexAddr te61 rfl rfl ptAS) ?_
         refine FL.v (E.fieldAddr zav rfl) ?_
         refine FL.v (E.load rfl (zag Tryz.isAgg52 atAU rfl)) ?_
         refine FL.v (E.move kAO) ?_
         refine FL.v (E.neg rfl) ?_
         obtain ⟨rB0,hrB1,hp⟩:=bnd hp
         refine FL.call rfl rfl rfl (E.call Tryz.call173 (A2 rfl rfl)) (zbP SAF.sl vAY xAW.clause (hAZ.mono upI) (wr (-sAx.2)) hrB1) ?_
         rintro e wB2 ⟨rfl,rB3⟩
         refine ⟨_,rfl,?_⟩
         have SB4:=SAF.call rB3
         refine FL.nil ?_
         rcases ifB hp with ⟨cB5,hp⟩|⟨cB5,hp⟩
         ·
          refine FW.condT rfl cB5 ?_
          refine FW.region ?_
          refine FL.v (E.move kAN) ?_
          refine FL.v (E.move kAM) ?_
          refine FL.v (E.assign (v:=Value.int .i64 s50.2) rfl) ?_
          refine FL.v (E.assign (v:=Value.int .i64 sAn.2) rfl) ?_
          refine FL.nil (FW.seq ?_)
          obtain ⟨xBf,hxBg,hp⟩:=bnd hp
          obtain ⟨xBq,hxBr,hp⟩:=bnd hp
          obtain ⟨rBv,hrBw,hp⟩:=bnd hp
          refine FW.drawB (SX Ha wa HAE [.row 134 4 vAz nAA csAB]) (fun f w=>∃ H:GH,∃ vBF:Value,∃ nBG:Nat,∃ csBH:List Value,St Ha wa H w [.row 134 4 vAz nAA csAB,.row 3 1 vBF nBG csBH]∧Inc HAE H∧Els (up wa.heap.size H) eI 1 csBH rBv.1∧f 1=Value.int .i64 a1∧f 2=Value.pointer (some ⟨b21,0,none⟩)∧f 5=vAz∧f 7=Value.int .i64 sAn.2∧f 8=Value.int .i64 s50.2∧f 9=Value.int .i64 sAx.2∧f 10=Value.int .i64 s50.2∧f 11=Value.int .i64 sAn.2∧f 12=vBF∧f 13=Value.bool rBv.2) (by kernel_rfl) SB4.sl ?_ ?_
          ·
           intro wB6 rB7
           have SB8:=SB4.call rB7
           refine FB.t (i:=0) (bs 17 1) rfl (SP.nil ⟨_,SB8,(Inc.rfl _)⟩) rfl (fun w' hw'=>(E.move kAL)) ?_
           refine FB.t (i:=1) (bs 17 3) rfl (SP.nil ⟨_,SB8,(Inc.rfl _)⟩) rfl (fun w' hw'=>(E.move (v:=Value.int .i64 s50.2) rfl)) ?_
           obtain ⟨pB9,csBa,ptBb,lBc,atBd,relBe,hallBh⟩:=SB8.row_atA (i:=0) rfl elsAC (by decide) hxBg
           obtain ⟨vBi,rfl,hBj⟩:=zap relBe
           refine FB.t (i:=2) (bs 17 7) rfl (SP.nil ⟨_,SB8,(Inc.rfl _)⟩) rfl (fun w' hw'=>(E.indexAddr te61 rfl rfl ptBb)) ?_
           refine FB.t (i:=3) (bs 17 15) rfl (SP.nil ⟨_,SB8,(Inc.rfl _)⟩) rfl (fun w' hw'=>(E.fieldAddr zav rfl)) ?_
           refine FB.t (i:=4) (bs 17 31) rfl (SP.nil ⟨_,SB8,(Inc.rfl _)⟩) rfl (fun w' hw'=>(E.load rfl (zag Tryz.isAgg52 (hw'.use fun _ st=>hallBh _ _ _ 0 st rfl) rfl))) ?_
           refine FB.t (i:=5) (bs 17 63) rfl (SP.nil ⟨_,SB8,(Inc.rfl _)⟩) rfl (fun w' hw'=>(E.move kAL)) ?_
           refine FB.t (i:=6) (bs 17 127) rfl (SP.nil ⟨_,SB8,(Inc.rfl _)⟩) rfl (fun w' hw'=>(E.move (v:=Value.int .i64 sAn.2) rfl)) ?_
           obtain ⟨pBk,csBl,ptBm,lBn,atBo,relBp,hallBs⟩:=SB8.row_atA (i:=0) rfl elsAC (by decide) hxBr
           obtain ⟨vBt,rfl,hBu⟩:=zap relBp
           refine FB.t (i:=7) (bs 17 255) rfl (SP.nil ⟨_,SB8,(Inc.rfl _)⟩) rfl (fun w' hw'=>(E.indexAddr te61 rfl rfl ptBm)) ?_
           refine FB.t (i:=8) (bs 17 511) rfl (SP.nil ⟨_,SB8,(Inc.rfl _)⟩) rfl (fun w' hw'=>(E.fieldAddr zav rfl)) ?_
           refine FB.t (i:=9) (bs 17 1023) rfl (SP.nil ⟨_,SB8,(Inc.rfl _)⟩) rfl (fun w' hw'=>(E.load rfl (zag Tryz.isAgg52 (hw'.use fun _ st=>hallBs _ _ _ 0 st rfl) rfl))) ?_
           refine FB.t (i:=10) (bs 17 2047) rfl (SP.nil ⟨_,SB8,(Inc.rfl _)⟩) rfl (fun w' hw'=>(E.move kAO)) ?_
           refine FB.all1 (i:=11) (by kernel_rfl) ?_
           ·
            refine FC.call (l':=(bs 17 4095)) rfl (by kernel_rfl) rfl rfl rfl (E.call Tryz.call103 (A3 rfl rfl rfl)) (zb3 SB8.sl vBi xBf.clause (hBj.mono upI) vBt xBq.clause (hBu.mono upI) sAx.2 hrBw) ?_
            rintro e wBy ⟨HBx,vBB,nBC,csBD,rfl,rBA,elsBE⟩
            refine ⟨_,rfl,?_⟩
            have elsBE:=elsBE.mono (up_le SB8.size)
            have SBz:=SB8.join (l':=[.row 3 1 vBB nBC csBD,.row 134 4 vAz nAA csAB]) rBA rfl
            refine ⟨(SP.nil ⟨_,(SBz.sel [1] (by decide) rfl),rBA.run.inc⟩),?_⟩
            refine FB.t (i:=12) (bs 17 8191) rfl (SP.nil ⟨_,(SBz.sel [1] (by decide) rfl),rBA.run.inc⟩) rfl (fun w' hw'=>(E.move (v:=Value.tuple #[vBB,Value.bool rBv.2]) rfl)) ?_
            refine FB.t (i:=13) (bs 17 16383) rfl (SP.nil ⟨_,(SBz.sel [1] (by decide) rfl),rBA.run.inc⟩) rfl (fun w' hw'=>(E.extract (i:=0) rfl rfl)) ?_
            refine FB.t (i:=14) (bs 17 32767) rfl (SP.nil ⟨_,(SBz.sel [1] (by decide) rfl),rBA.run.inc⟩) rfl (fun w' hw'=>(E.extract (i:=1) rfl rfl)) ?_
            refine FB.t (i:=15) (bs 17 65535) rfl (SP.nil ⟨_,(SBz.sel [1] (by decide) rfl),rBA.run.inc⟩) rfl (fun w' hw'=>(E.assign (v:=vBB) rfl)) ?_
            refine FB.t (i:=16) (bs 17 131071) rfl (SP.nil ⟨_,(SBz.sel [1] (by decide) rfl),rBA.run.inc⟩) rfl (fun w' hw'=>(E.assign (v:=Value.bool rBv.2) rfl)) ?_
            exact FB.done (by kernel_rfl) ⟨_,_,_,_,(SBz.sel [1,0] (by decide) rfl),rBA.run.inc,elsBE,kAJ,kAK,kAL,kAM,kAN,kAO,rfl,rfl,rfl,rfl⟩
          ·
           rintro fBN wBM ⟨HBJ,vBF,nBG,csBH,SBK,iBL,elsBI,kBO,kBP,kBQ,kBR,kBS,kBT,kBU,kBV,kBW,kBX⟩
           refine FW.seq (FW.seq (FW.region ?_))
           refine FL.v (E.assign (v:=Value.int .i64 0) rfl) ?_
           refine FL.nil ?_
           obtain ⟨qBY,hq,hp⟩:=bndR hp
           refine FW.block ?_
           refine FW.mono (FW.iter (S:=(Bool×Int)) (X:=Empty) (fun (sBY:(Bool×Int)) f w=>∃ H:GH,St Ha wa H w [.row 134 4 vAz nAA csAB,.row 3 1 vBF nBG csBH]∧Inc HBJ H∧f 1=Value.int .i64 a1∧f 2=Value.pointer (some ⟨b21,0,none⟩)∧f 5=vAz∧f 7=Value.int .i64 sAn.2∧f 8=Value.int .i64 s50.2∧f 9=Value.int .i64 sAx.2∧f 10=Value.int .i64 s50.2∧f 11=Value.int .i64 sAn.2∧f 12=vBF∧f 13=Value.bool sBY.1∧f 14=Value.int .i64 sBY.2) (fun (q:Rs (Bool×Int) Empty) e f w=>match q with|.go sBY=>e=Exit.exit 8∧(∃ H:GH,St Ha wa H w [.row 134 4 vAz nAA csAB,.row 3 1 vBF nBG csBH]∧Inc HBJ H∧f 1=Value.int .i64 a1∧f 2=Value.pointer (some ⟨b21,0,none⟩)∧f 5=vAz∧f 7=Value.int .i64 sAn.2∧f 8=Value.int .i64 s50.2∧f 9=Value.int .i64 sAx.2∧f 10=Value.int .i64 s50.2∧f 11=Value.int .i64 sAn.2∧f 12=vBF∧f 13=Value.bool sBY.1)|.rt x=>x.elim) hq ⟨_,SBK,(Inc.rfl _),kBO,kBP,kBQ,kBR,kBS,kBT,kBU,kBV,kBW,kBX,rfl⟩ ?_) ?_
           ·
            clear hp hq
            rintro sBY fC3 wC2 ⟨HBZ,SC0,iC1,kC4,kC5,kC6,kC7,kC8,kC9,kCa,kCb,kCc,kCd,kCe⟩ oCS hp
            refine FW.seq (FW.seq (FW.region ?_))
            refine FL.v (E.move kCe) ?_
            refine FL.v (E.move kC6) ?_
            refine FL.v (E.lenO te61 rfl SC0 (i:=0) rfl elsAC (by decide)) ?_
            refine FL.v (E.lss rfl rfl) ?_
            refine FL.v (E.move (v:=Value.bool (decide (sBY.2 < (len sAx.1)))) rfl) ?_
            refine FL.cut 2 (fun f w=>∃ H:GH,St Ha wa H w [.row 134 4 vAz nAA csAB,.row 3 1 vBF nBG csBH]∧Inc HBZ H∧f 1=Value.int .i64 a1∧f 2=Value.pointer (some ⟨b21,0,none⟩)∧f 5=vAz∧f 7=Value.int .i64 sAn.2∧f 8=Value.int .i64 s50.2∧f 9=Value.int .i64 sAx.2∧f 10=Value.int .i64 s50.2∧f 11=Value.int .i64 sAn.2∧f 12=vBF∧f 13=Value.bool sBY.1∧f 14=Value.int .i64 sBY.2∧f 85=Value.bool (bif (decide (sBY.2 < (len sAx.1))) then sBY.1 else false)) ?_ ?_
            ·
             rcases bcase (decide (sBY.2 < (len sAx.1))) with cCk|cCk
             ·
              refine FL.val (zac rfl rfl rfl cCk) rfl rfl (E.move kCd) ?_
              refine FL.v (E.pickT rfl cCk rfl) ?_
              exact FL.nil ⟨rfl,_,SC0,(Inc.rfl _),kC4,kC5,kC6,kC7,kC8,kC9,kCa,kCb,kCc,kCd,kCe,(congrArg Value.bool (bifT cCk).symm)⟩
             ·
              refine FL.skip (wF_no rfl rfl rfl cCk) rfl ?_
              refine FL.v (E.pickF rfl cCk rfl) ?_
              exact FL.nil ⟨rfl,_,SC0,(Inc.rfl _),kC4,kC5,kC6,kC7,kC8,kC9,kCa,kCb,kCc,kCd,kCe,(congrArg Value.bool (bifF cCk).symm)⟩
            rintro fCj wCi ⟨HCf,SCg,iCh,kCl,kCm,kCn,kCo,kCp,kCq,kCr,kCs,kCt,kCu,kCv,kCw⟩
            refine FL.nil ?_
            rcases ifB hp with ⟨cCx,hp⟩|⟨cCx,hp⟩
            ·
             refine FW.condT kCw cCx ?_
             refine FW.skip (FW.seq (FW.block (FW.region ?_)))
             refine FL.v (E.move kCn) ?_
             refine FL.v (E.move kCv) ?_
             obtain ⟨xCE,hxCF,hp⟩:=bnd hp
             obtain ⟨pCy,csCz,ptCA,lCB,atCC,relCD⟩:=SCg.row_at (i:=0) rfl elsAC (by decide) hxCF
             obtain ⟨vCG,rfl,hCH⟩:=zap relCD
             refine FL.v (E.indexAddr te61 rfl rfl ptCA) ?_
             refine FL.v (E.fieldAddr zav rfl) ?_
             refine FL.v (E.load rfl (zag Tryz.isAgg52 atCC rfl)) ?_
             refine FL.v (E.move kCt) ?_
             obtain ⟨HCI,SCJ,iCK,hCL,nvCM⟩:=SCg.sealRowU (i:=1) (l':=[.row 134 4 vAz nAA csAB]) rfl (elsBI.mono (zaf (iC1.tr iCh))) (by decide) rfl
             obtain ⟨rCN,hrCO,hp⟩:=bnd hp
             refine FL.call rfl rfl rfl (E.call Tryz.call222 (A2 rfl rfl)) (zdV SCJ.sl vCG xCE.clause (hCH.mono (upI.tr (((iBL.tr iC1).tr iCh).tr iCK))) vBF rBv.1 (hCL.mono upI) hrCO) ?_
             rintro e wCP ⟨rfl,rCQ⟩
             refine ⟨_,rfl,?_⟩
             have rCQ:=Run.lend iCK SCg.sl rCQ
             have SCR:=SCg.call rCQ
             refine FL.v (E.not rfl) ?_
             refine FL.v (E.assign (v:=Value.bool (!rCN)) rfl) ?_
             refine FL.nil (FW.region ?_)
             refine FL.v (E.move kCv) ?_
             refine FL.v (E.add rfl rfl) ?_
             refine FL.v (E.assign (v:=Value.int .i64 (wr (sBY.2 + 1))) rfl) ?_
             refine FL.nil ?_
             obtain rfl:=Option.some.inj hp
             exact ⟨rfl,⟨_,SCR,(iC1.tr iCh),kCl,kCm,kCn,kCo,kCp,kCq,kCr,kCs,kCt,rfl,rfl⟩⟩
            ·
             refine FW.condF kCw cCx ?_
             refine FW.exit ?_
             obtain rfl:=Option.some.inj hp
             exact ⟨nofun,rfl,⟨_,SCg,(iC1.tr iCh),kCl,kCm,kCn,kCo,kCp,kCq,kCr,kCs,kCt,kCu⟩⟩
           ·
            clear hq
            intro e fCX wCW hD
            rcases qBY with sBY|xBY
            ·
             obtain ⟨rfl,hD⟩:=hD
             obtain ⟨HCT,SCU,iCV,kCY,kCZ,kD0,kD1,kD2,kD3,kD4,kD5,kD6,kD7⟩:=hD
             replace hp:=el_go hp
             refine FW.seq (FW.region ?_)
             refine FL.v (E.move kD7) ?_
             refine FL.nil ?_
             rcases ifB hp with ⟨cD8,hp⟩|⟨cD8,hp⟩
             ·
              refine FW.condT rfl cD8 ?_
              refine FW.seq (FW.region ?_)
              refine FL.v (E.move kD0) ?_
              refine FL.v (E.move kD6) ?_
              refine FL.v (E.move kD4) ?_
              refine FL.v (E.move kD5) ?_
              refine FL.v (E.move kD3) ?_
              refine FL.v (E.build (B4 rfl rfl rfl rfl) (run_build _ 134 #[(0,vBF),(1,Value.int .i64 s50.2),(2,Value.int .i64 sAn.2),(3,Value.int .i64 sAx.2)] #[vBF,Value.int .i64 s50.2,Value.int .i64 sAn.2,Value.int .i64 sAx.2] (by obtain ⟨_,_,rfl⟩:=SCU.row_ln (i:=1) rfl;rfl))) ?_
              obtain ⟨HD9,SDa,iDb,hDc,nvDd⟩:=SCU.sealRowU (i:=1) (l':=[.row 134 4 vAz nAA csAB]) rfl (elsBI.mono (zaf iCV)) (by decide) rfl
              obtain ⟨vDe,wDf,runDg,SDh⟩:=SDa.buildSlice (P:=Tryz.prog) te61 [Value.agg #[vBF,Value.int .i64 s50.2,Value.int .i64 sAn.2,Value.int .i64 sAx.2]] (parts:=#[(0,Value.agg #[vBF,Value.int .i64 s50.2,Value.int .i64 sAn.2,Value.int .i64 sAx.2])]) (cells:=[vBF,Value.int .i64 s50.2,Value.int .i64 sAn.2,Value.int .i64 sAx.2]) rfl (zas rfl zan) (zar rfl zam) (zab hDc.one (zab rfl (zab rfl (zab rfl zae)))) (Nat.le_of_ble_eq_true rfl)
              have elsDi:Els (up wa.heap.size HD9) zah 4 [vBF,Value.int .i64 s50.2,Value.int .i64 sAn.2,Value.int .i64 sAx.2] [(zaa.mk rBv.1 s50.2 sAn.2 sAx.2)]:=(Els.snoc (H:=(up wa.heap.size HD9)) (E:=zah) (k:=4) (c:=[vBF,Value.int .i64 s50.2,Value.int .i64 sAn.2,Value.int .i64 sAx.2]) (x:=(zaa.mk rBv.1 s50.2 sAn.2 sAx.2)) Els.nil rfl ⟨_,rfl,hDc⟩)
              have ndDj:(bl [vBF,Value.int .i64 s50.2,Value.int .i64 sAn.2,Value.int .i64 sAx.2]).Nodup:=by exact zaT vBF
              refine FL.v (E.buildSlice (B1 rfl) runDg) ?_
              obtain ⟨xsDk,hzDl,hp⟩:=bnd hp
              obtain ⟨vDm,wDp,nDn,csDo,runDq,SDr,elsDs,ceDt⟩:=SDh.appendO (P:=Tryz.prog) te61 (i:=1) (j:=0) rfl (elsAC.mono (zaf ((iBL.tr iCV).tr iDb))) rfl elsDi hzDl
              have SDr:St Ha wa HD9 wDp [.row 134 4 vDe 1 [vBF,Value.int .i64 s50.2,Value.int .i64 sAn.2,Value.int .i64 sAx.2],.row 134 4 vDm nDn csDo]:=SDr
              have ndDu:(bl csDo).Nodup:=by rw [ceDt];exact zaS ndAD ndDj (Els.dom (elsAC.mono (upI.tr (iBL.tr iCV)))) (by exact nvDd)
              have SDv:St Ha wa HD9 wDp [.row 134 4 vDm nDn csDo]:=SDr.drop 0
              refine FL.v (E.append rfl rfl runDq) ?_
              refine FL.v (E.assign (v:=vDm) rfl) ?_
              refine FL.nil (FW.seq (FW.region ?_))
              refine FL.v (E.move kD6) ?_
              refine FL.v (E.lenP te52 rfl hDc) ?_
              refine FL.v (E.eql rfl rfl) ?_
              refine FL.nil ?_
              rcases ifB hp with ⟨cDw,hp⟩|⟨cDw,hp⟩
              ·
               refine FW.condT rfl cDw ?_
               refine FW.seq (FW.region ?_)
               refine FL.v (E.move (v:=vDm) rfl) ?_
               obtain ⟨HDx,SDy,iDz,nsDC,nvDB⟩:=SDv.sealRowN (i:=0) (l':=[]) rfl elsDs ndDu (by decide) rfl
               have hDA:=nsDC.rsl
               obtain ⟨rDD,hrDE,hp⟩:=bnd hp
               refine FL.call rfl rfl rfl (E.call Tryz.call223 (A1 rfl)) (w_spec_l7Trim SDy.sl vDm xsDk (hDA.mono upI) hrDE) ?_
               rintro e wDG ⟨HDF,vDL,nDM,csDN,rfl,rDI,elsDO,ndDP⟩
               refine ⟨_,rfl,?_⟩
               obtain ⟨HDJ,rDI,hU332⟩:=St.lendX iDz SDv.sl rDI
               have nvDQ:New HD9 csDN:=New.of_up SDv.sl elsDO.dom
               have elsDO:=elsDO.mono (hU332.tr (up_le SDv.size))
               have SDH:=SDv.join (l':=[.row 134 4 vDL nDM csDN,.row 134 4 vDm nDn csDo]) rDI rfl
               refine FL.v (E.assign (v:=vDL) rfl) ?_
               refine FL.nil ?_
               refine FW.ret ?_
               obtain rfl:=Option.some.inj hp
               exact ⟨nofun,rfl,⟨nofun,rfl,⟨nofun,rfl,⟨.inr rfl,res1 rfl rfl ⟨_,_,_,_,rfl,(SDH.sel [0] (by decide) rfl),elsDO,ndDP⟩⟩⟩⟩⟩
              ·
               refine FW.condF rfl cDw ?_
               refine FW.skip (FW.region ?_)
               refine FL.v (E.move kD3) ?_
               refine FL.v (E.add rfl rfl) ?_
               refine FL.v (E.assign (v:=Value.int .i64 (wr (sAx.2 + 1))) rfl) ?_
               refine FL.nil ?_
               obtain rfl:=Option.some.inj hp
               exact ⟨rfl,⟨_,_,_,_,SDv,(((iAG.tr iBL).tr iCV).tr iDb),elsDs,ndDu,kCY,kCZ,rfl,kD1,kD2,rfl⟩⟩
             ·
              refine FW.condF rfl cD8 ?_
              refine FW.skip (FW.region ?_)
              refine FL.v (E.move kD3) ?_
              refine FL.v (E.add rfl rfl) ?_
              refine FL.v (E.assign (v:=Value.int .i64 (wr (sAx.2 + 1))) rfl) ?_
              refine FL.nil ?_
              obtain rfl:=Option.some.inj hp
              exact ⟨rfl,⟨_,_,_,_,(SCU.sel [0] (by decide) rfl),((iAG.tr iBL).tr iCV),(elsAC.mono (zaf (iBL.tr iCV))),ndAD,kCY,kCZ,kD0,kD1,kD2,rfl⟩⟩
            ·
             exact xBY.elim
         ·
          refine FW.condF rfl cB5 ?_
          refine FW.skip (FW.seq ?_)
          obtain ⟨xE0,hxE1,hp⟩:=bnd hp
          obtain ⟨xEb,hxEc,hp⟩:=bnd hp
          obtain ⟨rEg,hrEh,hp⟩:=bnd hp
          refine FW.drawB (SX Ha wa HAE [.row 134 4 vAz nAA csAB]) (fun f w=>∃ H:GH,∃ vEq:Value,∃ nEr:Nat,∃ csEs:List Value,St Ha wa H w [.row 134 4 vAz nAA csAB,.row 3 1 vEq nEr csEs]∧Inc HAE H∧Els (up wa.heap.size H) eI 1 csEs rEg.1∧f 1=Value.int .i64 a1∧f 2=Value.pointer (some ⟨b21,0,none⟩)∧f 5=vAz∧f 7=Value.int .i64 sAn.2∧f 8=Value.int .i64 s50.2∧f 9=Value.int .i64 sAx.2∧f 10=Value.int .i64 sAn.2∧f 11=Value.int .i64 s50.2∧f 12=vEq∧f 13=Value.bool rEg.2) (by kernel_rfl) SB4.sl ?_ ?_
          ·
           intro wDR rDS
           have SDT:=SB4.call rDS
           refine FB.t (i:=0) (bs 17 1) rfl (SP.nil ⟨_,SDT,(Inc.rfl _)⟩) rfl (fun w' hw'=>(E.move kAL)) ?_
           refine FB.t (i:=1) (bs 17 3) rfl (SP.nil ⟨_,SDT,(Inc.rfl _)⟩) rfl (fun w' hw'=>(E.move (v:=Value.int .i64 sAn.2) rfl)) ?_
           obtain ⟨pDU,csDV,ptDW,lDX,atDY,relDZ,hallE2⟩:=SDT.row_atA (i:=0) rfl elsAC (by decide) hxE1
           obtain ⟨vE3,rfl,hE4⟩:=zap relDZ
           refine FB.t (i:=2) (bs 17 7) rfl (SP.nil ⟨_,SDT,(Inc.rfl _)⟩) rfl (fun w' hw'=>(E.indexAddr te61 rfl rfl ptDW)) ?_
           refine FB.t (i:=3) (bs 17 15) rfl (SP.nil ⟨_,SDT,(Inc.rfl _)⟩) rfl (fun w' hw'=>(E.fieldAddr zav rfl)) ?_
           refine FB.t (i:=4) (bs 17 31) rfl (SP.nil ⟨_,SDT,(Inc.rfl _)⟩) rfl (fun w' hw'=>(E.load rfl (zag Tryz.isAgg52 (hw'.use fun _ st=>hallE2 _ _ _ 0 st rfl) rfl))) ?_
           refine FB.t (i:=5) (bs 17 63) rfl (SP.nil ⟨_,SDT,(Inc.rfl _)⟩) rfl (fun w' hw'=>(E.move kAL)) ?_
           refine FB.t (i:=6) (bs 17 127) rfl (SP.nil ⟨_,SDT,(Inc.rfl _)⟩) rfl (fun w' hw'=>(E.move (v:=Value.int .i64 s50.2) rfl)) ?_
           obtain ⟨pE5,csE6,ptE7,lE8,atE9,relEa,hallEd⟩:=SDT.row_atA (i:=0) rfl elsAC (by decide) hxEc
           obtain ⟨vEe,rfl,hEf⟩:=zap relEa
           refine FB.t (i:=7) (bs 17 255) rfl (SP.nil ⟨_,SDT,(Inc.rfl _)⟩) rfl (fun w' hw'=>(E.indexAddr te61 rfl rfl ptE7)) ?_
           refine FB.t (i:=8) (bs 17 511) rfl (SP.nil ⟨_,SDT,(Inc.rfl _)⟩) rfl (fun w' hw'=>(E.fieldAddr zav rfl)) ?_
           refine FB.t (i:=9) (bs 17 1023) rfl (SP.nil ⟨_,SDT,(Inc.rfl _)⟩) rfl (fun w' hw'=>(E.load rfl (zag Tryz.isAgg52 (hw'.use fun _ st=>hallEd _ _ _ 0 st rfl) rfl))) ?_
           refine FB.t (i:=10) (bs 17 2047) rfl (SP.nil ⟨_,SDT,(Inc.rfl _)⟩) rfl (fun w' hw'=>(E.move kAO)) ?_
           refine FB.all1 (i:=11) (by kernel_rfl) ?_
           ·
            refine FC.call (l':=(bs 17 4095)) rfl (by kernel_rfl) rfl rfl rfl (E.call Tryz.call103 (A3 rfl rfl rfl)) (zb3 SDT.sl vE3 xE0.clause (hE4.mono upI) vEe xEb.clause (hEf.mono upI) sAx.2 hrEh) ?_
            rintro e wEj ⟨HEi,vEm,nEn,csEo,rfl,rEl,elsEp⟩
            refine ⟨_,rfl,?_⟩
            have elsEp:=elsEp.mono (up_le SDT.size)
            have SEk:=SDT.join (l':=[.row 3 1 vEm nEn csEo,.row 134 4 vAz nAA csAB]) rEl rfl
            refine ⟨(SP.nil ⟨_,(SEk.sel [1] (by decide) rfl),rEl.run.inc⟩),?_⟩
            refine FB.t (i:=12) (bs 17 8191) rfl (SP.nil ⟨_,(SEk.sel [1] (by decide) rfl),rEl.run.inc⟩) rfl (fun w' hw'=>(E.move (v:=Value.tuple #[vEm,Value.bool rEg.2]) rfl)) ?_
            refine FB.t (i:=13) (bs 17 16383) rfl (SP.nil ⟨_,(SEk.sel [1] (by decide) rfl),rEl.run.inc⟩) rfl (fun w' hw'=>(E.extract (i:=0) rfl rfl)) ?_
            refine FB.t (i:=14) (bs 17 32767) rfl (SP.nil ⟨_,(SEk.sel [1] (by decide) rfl),rEl.run.inc⟩) rfl (fun w' hw'=>(E.extract (i:=1) rfl rfl)) ?_
            refine FB.t (i:=15) (bs 17 65535) rfl (SP.nil ⟨_,(SEk.sel [1] (by decide) rfl),rEl.run.inc⟩) rfl (fun w' hw'=>(E.assign (v:=vEm) rfl)) ?_
            refine FB.t (i:=16) (bs 17 131071) rfl (SP.nil ⟨_,(SEk.sel [1] (by decide) rfl),rEl.run.inc⟩) rfl (fun w' hw'=>(E.assign (v:=Value.bool rEg.2) rfl)) ?_
            exact FB.done (by kernel_rfl) ⟨_,_,_,_,(SEk.sel [1,0] (by decide) rfl),rEl.run.inc,elsEp,kAJ,kAK,kAL,kAM,kAN,kAO,rfl,rfl,rfl,rfl⟩
          ·
           rintro fEy wEx ⟨HEu,vEq,nEr,csEs,SEv,iEw,elsEt,kEz,kEA,kEB,kEC,kED,kEE,kEF,kEG,kEH,kEI⟩
           refine FW.seq (FW.seq (FW.region ?_))
           refine FL.v (E.assign (v:=Value.int .i64 0) rfl) ?_
           refine FL.nil ?_
           obtain ⟨qEJ,hq,hp⟩:=bndR hp
           refine FW.block ?_
           refine FW.mono (FW.iter (S:=(Bool×Int)) (X:=Empty) (fun (sEJ:(Bool×Int)) f w=>∃ H:GH,St Ha wa H w [.row 134 4 vAz nAA csAB,.row 3 1 vEq nEr csEs]∧Inc HEu H∧f 1=Value.int .i64 a1∧f 2=Value.pointer (some ⟨b21,0,none⟩)∧f 5=vAz∧f 7=Value.int .i64 sAn.2∧f 8=Value.int .i64 s50.2∧f 9=Value.int .i64 sAx.2∧f 10=Value.int .i64 sAn.2∧f 11=Value.int .i64 s50.2∧f 12=vEq∧f 13=Value.bool sEJ.1∧f 14=Value.int .i64 sEJ.2) (fun (q:Rs (Bool×Int) Empty) e f w=>match q with|.go sEJ=>e=Exit.exit 8∧(∃ H:GH,St Ha wa H w [.row 134 4 vAz nAA csAB,.row 3 1 vEq nEr csEs]∧Inc HEu H∧f 1=Value.int .i64 a1∧f 2=Value.pointer (some ⟨b21,0,none⟩)∧f 5=vAz∧f 7=Value.int .i64 sAn.2∧f 8=Value.int .i64 s50.2∧f 9=Value.int .i64 sAx.2∧f 10=Value.int .i64 sAn.2∧f 11=Value.int .i64 s50.2∧f 12=vEq∧f 13=Value.bool sEJ.1)|.rt x=>x.elim) hq ⟨_,SEv,(Inc.rfl _),kEz,kEA,kEB,kEC,kED,kEE,kEF,kEG,kEH,kEI,rfl⟩ ?_) ?_
           ·
            clear hp hq
            rintro sEJ fEO wEN ⟨HEK,SEL,iEM,kEP,kEQ,kER,kES,kET,kEU,kEV,kEW,kEX,kEY,kEZ⟩ oFD hp
            refine FW.seq (FW.seq (FW.region ?_))
            refine FL.v (E.move kEZ) ?_
            refine FL.v (E.move kER) ?_
            refine FL.v (E.lenO te61 rfl SEL (i:=0) rfl elsAC (by decide)) ?_
            refine FL.v (E.lss rfl rfl) ?_
            refine FL.v (E.move (v:=Value.bool (decide (sEJ.2 < (len sAx.1)))) rfl) ?_
            refine FL.cut 2 (fun f w=>∃ H:GH,St Ha wa H w [.row 134 4 vAz nAA csAB,.row 3 1 vEq nEr csEs]∧Inc HEK H∧f 1=Value.int .i64 a1∧f 2=Value.pointer (some ⟨b21,0,none⟩)∧f 5=vAz∧f 7=Value.int .i64 sAn.2∧f 8=Value.int .i64 s50.2∧f 9=Value.int .i64 sAx.2∧f 10=Value.int .i64 sAn.2∧f 11=Value.int .i64 s50.2∧f 12=vEq∧f 13=Value.bool sEJ.1∧f 14=Value.int .i64 sEJ.2∧f 85=Value.bool (bif (decide (sEJ.2 < (len sAx.1))) then sEJ.1 else false)) ?_ ?_
            ·
             rcases bcase (decide (sEJ.2 < (len sAx.1))) with cF5|cF5
             ·
              refine FL.val (zac rfl rfl rfl cF5) rfl rfl (E.move kEY) ?_
              refine FL.v (E.pickT rfl cF5 rfl) ?_
              exact FL.nil ⟨rfl,_,SEL,(Inc.rfl _),kEP,kEQ,kER,kES,kET,kEU,kEV,kEW,kEX,kEY,kEZ,(congrArg Value.bool (bifT cF5).symm)⟩
             ·
              refine FL.skip (wF_no rfl rfl rfl cF5) rfl ?_
              refine FL.v (E.pickF rfl cF5 rfl) ?_
              exact FL.nil ⟨rfl,_,SEL,(Inc.rfl _),kEP,kEQ,kER,kES,kET,kEU,kEV,kEW,kEX,kEY,kEZ,(congrArg Value.bool (bifF cF5).symm)⟩
            rintro fF4 wF3 ⟨HF0,SF1,iF2,kF6,kF7,kF8,kF9,kFa,kFb,kFc,kFd,kFe,kFf,kFg,kFh⟩
            refine FL.nil ?_
            rcases ifB hp with ⟨cFi,hp⟩|⟨cFi,hp⟩
            ·
             refine FW.condT kFh cFi ?_
             refine FW.skip (FW.seq (FW.block (FW.region ?_)))
             refine FL.v (E.move kF8) ?_
             refine FL.v (E.move kFg) ?_
             obtain ⟨xFp,hxFq,hp⟩:=bnd hp
             obtain ⟨pFj,csFk,ptFl,lFm,atFn,relFo⟩:=SF1.row_at (i:=0) rfl elsAC (by decide) hxFq
             obtain ⟨vFr,rfl,hFs⟩:=zap relFo
             refine FL.v (E.indexAddr te61 rfl rfl ptFl) ?_
             refine FL.v (E.fieldAddr zav rfl) ?_
             refine FL.v (E.load rfl (zag Tryz.isAgg52 atFn rfl)) ?_
             refine FL.v (E.move kFe) ?_
             obtain ⟨HFt,SFu,iFv,hFw,nvFx⟩:=SF1.sealRowU (i:=1) (l':=[.row 134 4 vAz nAA csAB]) rfl (elsEt.mono (zaf (iEM.tr iF2))) (by decide) rfl
             obtain ⟨rFy,hrFz,hp⟩:=bnd hp
             refine FL.call rfl rfl rfl (E.call Tryz.call222 (A2 rfl rfl)) (zdV SFu.sl vFr xFp.clause (hFs.mono (upI.tr (((iEw.tr iEM).tr iF2).tr iFv))) vEq rEg.1 (hFw.mono upI) hrFz) ?_
             rintro e wFA ⟨rfl,rFB⟩
             refine ⟨_,rfl,?_⟩
             have rFB:=Run.lend iFv SF1.sl rFB
             have SFC:=SF1.call rFB
             refine FL.v (E.not rfl) ?_
             refine FL.v (E.assign (v:=Value.bool (!rFy)) rfl) ?_
             refine FL.nil (FW.region ?_)
             refine FL.v (E.move kFg) ?_
             refine FL.v (E.add rfl rfl) ?_
             refine FL.v (E.assign (v:=Value.int .i64 (wr (sEJ.2 + 1))) rfl) ?_
             refine FL.nil ?_
             obtain rfl:=Option.some.inj hp
             exact ⟨rfl,⟨_,SFC,(iEM.tr iF2),kF6,kF7,kF8,kF9,kFa,kFb,kFc,kFd,kFe,rfl,rfl⟩⟩
            ·
             refine FW.condF kFh cFi ?_
             refine FW.exit ?_
             obtain rfl:=Option.some.inj hp
             exact ⟨nofun,rfl,⟨_,SF1,(iEM.tr iF2),kF6,kF7,kF8,kF9,kFa,kFb,kFc,kFd,kFe,kFf⟩⟩
           ·
            clear hq
            intro e fFI wFH hD
            rcases qEJ with sEJ|xEJ
            ·
             obtain ⟨rfl,hD⟩:=hD
             obtain ⟨HFE,SFF,iFG,kFJ,kFK,kFL,kFM,kFN,kFO,kFP,kFQ,kFR,kFS⟩:=hD
             replace hp:=el_go hp
             refine FW.seq (FW.region ?_)
             refine FL.v (E.move kFS) ?_
             refine FL.nil ?_
             rcases ifB hp with ⟨cFT,hp⟩|⟨cFT,hp⟩
             ·
              refine FW.condT rfl cFT ?_
              refine FW.seq (FW.region ?_)
              refine FL.v (E.move kFL) ?_
              refine FL.v (E.move kFR) ?_
              refine FL.v (E.move kFP) ?_
              refine FL.v (E.move kFQ) ?_
              refine FL.v (E.move kFO) ?_
              refine FL.v (E.build (B4 rfl rfl rfl rfl) (run_build _ 134 #[(0,vEq),(1,Value.int .i64 sAn.2),(2,Value.int .i64 s50.2),(3,Value.int .i64 sAx.2)] #[vEq,Value.int .i64 sAn.2,Value.int .i64 s50.2,Value.int .i64 sAx.2] (by obtain ⟨_,_,rfl⟩:=SFF.row_ln (i:=1) rfl;rfl))) ?_
              obtain ⟨HFU,SFV,iFW,hFX,nvFY⟩:=SFF.sealRowU (i:=1) (l':=[.row 134 4 vAz nAA csAB]) rfl (elsEt.mono (zaf iFG)) (by decide) rfl
              obtain ⟨vFZ,wG0,runG1,SG2⟩:=SFV.buildSlice (P:=Tryz.prog) te61 [Value.agg #[vEq,Value.int .i64 sAn.2,Value.int .i64 s50.2,Value.int .i64 sAx.2]] (parts:=#[(0,Value.agg #[vEq,Value.int .i64 sAn.2,Value.int .i64 s50.2,Value.int .i64 sAx.2])]) (cells:=[vEq,Value.int .i64 sAn.2,Value.int .i64 s50.2,Value.int .i64 sAx.2]) rfl (zas rfl zan) (zar rfl zam) (zab hFX.one (zab rfl (zab rfl (zab rfl zae)))) (Nat.le_of_ble_eq_true rfl)
              have elsG3:Els (up wa.heap.size HFU) zah 4 [vEq,Value.int .i64 sAn.2,Value.int .i64 s50.2,Value.int .i64 sAx.2] [(zaa.mk rEg.1 sAn.2 s50.2 sAx.2)]:=(Els.snoc (H:=(up wa.heap.size HFU)) (E:=zah) (k:=4) (c:=[vEq,Value.int .i64 sAn.2,Value.int .i64 s50.2,Value.int .i64 sAx.2]) (x:=(zaa.mk rEg.1 sAn.2 s50.2 sAx.2)) Els.nil rfl ⟨_,rfl,hFX⟩)
              have ndG4:(bl [vEq,Value.int .i64 sAn.2,Value.int .i64 s50.2,Value.int .i64 sAx.2]).Nodup:=by exact zaT vEq
              refine FL.v (E.buildSlice (B1 rfl) runG1) ?_
              obtain ⟨xsG5,hzG6,hp⟩:=bnd hp
              obtain ⟨vG7,wGa,nG8,csG9,runGb,SGc,elsGd,ceGe⟩:=SG2.appendO (P:=Tryz.prog) te61 (i:=1) (j:=0) rfl (elsAC.mono (zaf ((iEw.tr iFG).tr iFW))) rfl elsG3 hzG6
              have SGc:St Ha wa HFU wGa [.row 134 4 vFZ 1 [vEq,Value.int .i64 sAn.2,Value.int .i64 s50.2,Value.int .i64 sAx.2],.row 134 4 vG7 nG8 csG9]:=SGc
              have ndGf:(bl csG9).Nodup:=by rw [ceGe];exact zaS ndAD ndG4 (Els.dom (elsAC.mono (upI.tr (iEw.tr iFG)))) (by exact nvFY)
              have SGg:St Ha wa HFU wGa [.row 134 4 vG7 nG8 csG9]:=SGc.drop 0
              refine FL.v (E.append rfl rfl runGb) ?_
              refine FL.v (E.assign (v:=vG7) rfl) ?_
              refine FL.nil (FW.seq (FW.region ?_))
              refine FL.v (E.move kFR) ?_
              refine FL.v (E.lenP te52 rfl hFX) ?_
              refine FL.v (E.eql rfl rfl) ?_
              refine FL.nil ?_
              rcases ifB hp with ⟨cGh,hp⟩|⟨cGh,hp⟩
              ·
               refine FW.condT rfl cGh ?_
               refine FW.seq (FW.region ?_)
               refine FL.v (E.move (v:=vG7) rfl) ?_
               obtain ⟨HGi,SGj,iGk,nsGn,nvGm⟩:=SGg.sealRowN (i:=0) (l':=[]) rfl elsGd ndGf (by decide) rfl
               have hGl:=nsGn.rsl
               obtain ⟨rGo,hrGp,hp⟩:=bnd hp
               refine FL.call rfl rfl rfl (E.call Tryz.call223 (A1 rfl)) (w_spec_l7Trim SGj.sl vG7 xsG5 (hGl.mono upI) hrGp) ?_
               rintro e wGr ⟨HGq,vGw,nGx,csGy,rfl,rGt,elsGz,ndGA⟩
               refine ⟨_,rfl,?_⟩
               obtain ⟨HGu,rGt,hU503⟩:=St.lendX iGk SGg.sl rGt
               have nvGB:New HFU csGy:=New.of_up SGg.sl elsGz.dom
               have elsGz:=elsGz.mono (hU503.tr (up_le SGg.size))
               have SGs:=SGg.join (l':=[.row 134 4 vGw nGx csGy,.row 134 4 vG7 nG8 csG9]) rGt rfl
               refine FL.v (E.assign (v:=vGw) rfl) ?_
               refine FL.nil ?_
               refine FW.ret ?_
               obtain rfl:=Option.some.inj hp
               exact ⟨nofun,rfl,⟨nofun,rfl,⟨nofun,rfl,⟨.inr rfl,res1 rfl rfl ⟨_,_,_,_,rfl,(SGs.sel [0] (by decide) rfl),elsGz,ndGA⟩⟩⟩⟩⟩
              ·
               refine FW.condF rfl cGh ?_
               refine FW.skip (FW.region ?_)
               refine FL.v (E.move kFO) ?_
               refine FL.v (E.add rfl rfl) ?_
               refine FL.v (E.assign (v:=Value.int .i64 (wr (sAx.2 + 1))) rfl) ?_
               refine FL.nil ?_
               obtain rfl:=Option.some.inj hp
               exact ⟨rfl,⟨_,_,_,_,SGg,(((iAG.tr iEw).tr iFG).tr iFW),elsGd,ndGf,kFJ,kFK,rfl,kFM,kFN,rfl⟩⟩
             ·
              refine FW.condF rfl cFT ?_
              refine FW.skip (FW.region ?_)
              refine FL.v (E.move kFO) ?_
              refine FL.v (E.add rfl rfl) ?_
              refine FL.v (E.assign (v:=Value.int .i64 (wr (sAx.2 + 1))) rfl) ?_
              refine FL.nil ?_
              obtain rfl:=Option.some.inj hp
              exact ⟨rfl,⟨_,_,_,_,(SFF.sel [0] (by decide) rfl),((iAG.tr iEw).tr iFG),(elsAC.mono (zaf (iEw.tr iFG))),ndAD,kFJ,kFK,kFL,kFM,kFN,rfl⟩⟩
            ·
             exact xEJ.elim
        ·
         refine FW.condF rfl cAP ?_
         refine FW.exit ?_
         obtain rfl:=Option.some.inj hp
         exact ⟨nofun,rfl,⟨_,_,_,_,SAF,iAG,elsAC,ndAD,kAJ,kAK,kAL,kAM,kAN⟩⟩
       ·
        clear hq
        intro e fGH wGG hD
        rcases qAx with sAx|xAx
        ·
         obtain ⟨rfl,hD⟩:=hD
         obtain ⟨HGD,vAz,nAA,csAB,SGE,iGF,elsAC,ndAD,kGI,kGJ,kGK,kGL,kGM⟩:=hD
         replace hp:=el_go hp
         refine FW.region ?_
         refine FL.v (E.move kGM) ?_
         refine FL.v (E.add rfl rfl) ?_
         refine FL.v (E.assign (v:=Value.int .i64 (wr (s50.2 + 1))) rfl) ?_
         refine FL.nil ?_
         obtain rfl:=Option.some.inj hp
         exact ⟨rfl,⟨_,_,_,_,SGE,((i59.tr i70).tr iGF),elsAC,ndAD,kGI,kGJ,kGK,kGL,rfl⟩⟩
        ·
         obtain ⟨he,hL⟩:=hD
         replace hp:=el_rt hp
         obtain rfl:=Option.some.inj hp
         subst he
         exact hL
      ·
       refine FW.condF kAv cAw ?_
       refine FW.exit ?_
       obtain rfl:=Option.some.inj hp
       exact ⟨nofun,rfl,⟨_,_,_,_,S69,(i59.tr i70),(els55.mono (zaf i70)),nd56,k74,k75,k76,kAt⟩⟩
     ·
      clear hq
      intro e fGS wGR hD
      rcases q50 with s50|x50
      ·
       obtain ⟨rfl,hD⟩:=hD
       obtain ⟨HGO,v51,n53,cs54,SGP,iGQ,els55,nd56,kGT,kGU,kGV,kGW⟩:=hD
       replace hp:=el_go hp
       refine FW.region ?_
       refine FL.v (E.move kGW) ?_
       refine FL.v (E.add rfl rfl) ?_
       refine FL.v (E.assign (v:=Value.int .i64 (wr (sAn.2 + 1))) rfl) ?_
       refine FL.nil ?_
       obtain rfl:=Option.some.inj hp
       exact ⟨rfl,⟨_,_,_,_,SGP,(i42.tr iGQ),els55,nd56,kGT,kGU,kGV,rfl⟩⟩
      ·
       obtain ⟨he,hL⟩:=hD
       replace hp:=el_rt hp
       obtain rfl:=Option.some.inj hp
       subst he
       exact hL
    ·
     refine FW.condF rfl c49 ?_
     refine FW.exit ?_
     obtain rfl:=Option.some.inj hp
     exact ⟨nofun,rfl,⟨_,_,_,_,S41,i42,elsAr,ndAs,k47⟩⟩
   ·
    clear hq
    intro e fH2 wH1 hD
    rcases qAn with sAn|xAn
    ·
     obtain ⟨rfl,hD⟩:=hD
     obtain ⟨HGY,vAo,nAp,csAq,SGZ,iH0,elsAr,ndAs,kH3⟩:=hD
     replace hp:=el_go hp
     refine FW.seq (FW.region ?_)
     refine FL.v (E.move kH3) ?_
     refine FL.v (E.assign (v:=vAo) rfl) ?_
     refine FL.nil ?_
     refine FW.ret ?_
     obtain rfl:=Option.some.inj hp
     exact ⟨.inr rfl,res1 rfl rfl ⟨_,_,_,_,rfl,SGZ,elsAr,ndAs⟩⟩
    ·
     obtain ⟨he,hL⟩:=hD
     replace hp:=el_rt hp
     obtain rfl:=Option.some.inj hp
     subst he
     exact hL
  ·
   exact x34.elim

@[reducible] def zeF (H0:GH) (w0:World) (Ha:GH) (L:List MO) (b0:Nat) (r:((List zaa)×l1Cur)):Ending→World→Prop :=
 fun e w'=>∃ H':GH,∃ v0:Value,∃ n0:Nat,∃ c0:List Value,∃ v0_0r:Value,e=.returned (v0)∧(St H0 w0 H' w' (.row 134 4 v0 n0 c0::.box b0 103 [v0_0r,Value.int .i64 r.2.at_,Value.int .u64 r.2.seed]::L)∧Inc Ha H')∧Els (up w0.heap.size H') zah 4 c0 r.1∧(bl c0).Nodup∧RSl H' (eN .u8) 1 v0_0r r.2.code
theorem zeG {H0 Ha:GH} {w0 wa:World} {L:List MO} {a0:l1Cur} {b0:Nat} {v0_0:Value} (S0:St H0 w0 Ha wa (.box b0 103 [v0_0,Value.int .i64 a0.at_,Value.int .u64 a0.seed]::L)) (p0_0:RSl Ha (eN .u8) 1 v0_0 a0.code) (a1:Cnf) (v1_1:Value) (p1_1:RSl Ha (eL eI 1) 1 v1_1 a1.clauses) {r:((List zaa)×l1Cur)} (hp:(PF.zcQ a0 a1)=some r) :
  Calls Tryz.prog 96 #[Value.pointer (some (⟨b0,0,none⟩:Addr)),Value.agg #[Value.int .i64 a1.vars,v1_1]] wa (zeF H0 w0 Ha L b0 r):=by
 unfold PF.zcQ at hp
 refine zaj (N:=11) (args:=[Value.pointer (some (⟨b0,0,none⟩:Addr)),Value.agg #[Value.int .i64 a1.vars,v1_1]]) Tryz.func96 rfl rfl rfl ?_
 refine FW.seq (FW.region ?_)
 obtain ⟨b21,w22,run23,S24⟩:=S0.box (P:=Tryz.prog) 26 [Value.int .i64 a1.vars,v1_1] (v:=Value.agg #[Value.int .i64 a1.vars,v1_1]) rfl (zab rfl (zab p1_1.one zae))
 refine FL.v (E.box rfl run23) ?_
 obtain ⟨H25,S26,i27,at28⟩:=S24.sealBox (i:=0) (l':=(.box b0 103 [v0_0,Value.int .i64 a0.at_,Value.int .u64 a0.seed]::L)) rfl rfl
 refine FL.v (E.assign (v:=Value.slice none 0 0) rfl) ?_
 refine FL.nil (FW.seq (FW.seq (FW.region ?_)))
 refine FL.v (E.load rfl (zal Tryz.isAgg26 Tryz.sizeOf26 (at28.now S26.sl) rfl)) ?_
 obtain ⟨r29,hr30,hp⟩:=bnd hp
 refine FL.call rfl rfl rfl (E.call Tryz.call127 (A1 rfl)) (zdz S26.sl a1 v1_1 (p1_1.mono i27) hr30) ?_
 rintro e w31 ⟨rfl,r32⟩
 refine ⟨_,rfl,?_⟩
 have S33:=S26.call r32
 refine FL.v (E.not rfl) ?_
 refine FL.nil ?_
 rcases ifB hp with ⟨c34,hp⟩|⟨c34,hp⟩
 ·
  refine FW.condT rfl c34 ?_
  refine FW.seq (FW.region ?_)
  obtain ⟨v35,w36,run37,S38⟩:=S33.buildSlice (P:=Tryz.prog) te61 [] (parts:=#[]) (cells:=[]) rfl zan zam zae (Nat.le_of_ble_eq_true rfl)
  have els39:Els (up w0.heap.size H25) zah 4 [] []:=Els.nil
  refine FL.v (E.buildSlice (B0) run37) ?_
  refine FL.v (E.assign (v:=v35) rfl) ?_
  refine FL.nil ?_
  refine FW.ret ?_
  obtain rfl:=Option.some.inj hp
  exact ⟨.inr rfl,res1 rfl rfl ⟨_,_,_,_,_,rfl,⟨S38,i27⟩,els39,(show (bl []).Nodup from List.nodup_nil),(p0_0.mono i27)⟩⟩
 ·
  refine FW.condF rfl c34 ?_
  refine FW.skip (FW.seq (FW.region ?_))
  refine FL.v (E.load rfl (zal Tryz.isAgg26 Tryz.sizeOf26 (at28.now S33.sl) rfl)) ?_
  obtain ⟨r40,hr41,hp⟩:=bnd hp
  refine FL.call rfl rfl rfl (E.call Tryz.call164 (A2 rfl rfl)) (w_spec_l7Saturate S33.sl a1 v1_1 (p1_1.mono i27) 120 hr41) ?_
  rintro e w43 ⟨H42,v46,n47,cs48,rfl,r45,els49,nd50⟩
  refine ⟨_,rfl,?_⟩
  have nv51:New H25 cs48:=New.of_up S33.sl els49.dom
  have els49:=els49.mono (up_le S33.size)
  have S44:=S33.join (l':=(.row 134 4 v46 n47 cs48::.box b0 103 [v0_0,Value.int .i64 a0.at_,Value.int .u64 a0.seed]::L)) r45 rfl
  refine FL.v (E.assign (v:=v46) rfl) ?_
  refine FL.nil ?_
  refine FW.ret ?_
  obtain rfl:=Option.some.inj hp
  exact ⟨.inr rfl,res1 rfl rfl ⟨_,_,_,_,_,rfl,⟨S44,(i27.tr r45.run.inc)⟩,els49,nd50,(p0_0.mono (i27.tr r45.run.inc))⟩⟩

end Go.Proofs
