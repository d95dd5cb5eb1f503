/- Part of the walks and plain laws behind the claim: it proves helpers, under no condition beyond their own. -/
import Derived.Test.YtkaikagbfoadpaaGreatFcWk3
set_option linter.unusedVariables false
set_option maxRecDepth 100000
namespace Go.Proofs
open Go.Mr Go.Pu Go.PF Go.RowKit

@[reducible] def zeY (Ha:GH) (wa:World) (r:zaa):Ending→World→Prop :=
 fun e w'=>∃ H':GH,∃ v0_0:Value,e=.returned (Value.agg #[v0_0,Value.int .i64 r.left,Value.int .i64 r.right,Value.int .i64 r.pivot])∧Run wa.heap.size Ha wa H' w'∧RSl (up wa.heap.size H') eI 1 v0_0 r.clause
set_option maxHeartbeats 4000000 in
theorem zeZ {Ha:GH} {wa:World} (hs:Sl Ha wa) (a0:zaa) (v0_0:Value) (p0_0:RSl Ha eI 1 v0_0 a0.clause) (v1:Value) (a1:Int→Option Int) (p1:Fn_I_to_I Tryz.prog Ha v1 a1) {r:zaa} (hp:(PF.zcp a0 a1)=some r) :
  Calls Tryz.prog 110 #[Value.agg #[v0_0,Value.int .i64 a0.left,Value.int .i64 a0.right,Value.int .i64 a0.pivot],v1] wa (zeY Ha wa r):=by
 unfold PF.zcp at hp
 have S0:=St.init hs
 refine zaj (N:=25) (args:=[Value.agg #[v0_0,Value.int .i64 a0.left,Value.int .i64 a0.right,Value.int .i64 a0.pivot],v1]) Tryz.func110 rfl rfl rfl ?_
 refine FW.seq (FW.region ?_)
 obtain ⟨b21,w22,run23,S24⟩:=S0.box (P:=Tryz.prog) 134 [v0_0,Value.int .i64 a0.left,Value.int .i64 a0.right,Value.int .i64 a0.pivot] (v:=Value.agg #[v0_0,Value.int .i64 a0.left,Value.int .i64 a0.right,Value.int .i64 a0.pivot]) rfl (zab p0_0.one (zab rfl (zab rfl (zab rfl zae))))
 refine FL.v (E.box rfl run23) ?_
 obtain ⟨b25,w26,run27,S28⟩:=S24.alloc (P:=Tryz.prog) 134 [Value.slice none 0 0,Value.int .i64 0,Value.int .i64 0,Value.int .i64 0] Tryz.zeroValue134 rfl (zab rfl (zab rfl (zab rfl (zab rfl zae))))
 refine FL.v (E.alloc run27) ?_
 refine FL.nil (FW.seq (FW.region ?_))
 refine FL.v (E.fieldAddr zav rfl) ?_
 refine FL.v (E.load rfl (zag Tryz.isAgg52 (S28.box_now (i:=1) rfl) rfl)) ?_
 obtain ⟨r29,hr30,hp⟩:=bnd hp
 refine FL.call rfl rfl rfl (E.call Tryz.call114 (A1 rfl)) (zdj S28.sl v0_0 a0.clause p0_0 hr30) ?_
 rintro e w32 ⟨H31,v35,n36,cs37,rfl,r34,els38⟩
 refine ⟨_,rfl,?_⟩
 have els38:=els38.mono (up_le S28.size)
 have S33:=S28.join (l':=[.row 3 1 v35 n36 cs37,.box b25 134 [Value.slice none 0 0,Value.int .i64 0,Value.int .i64 0,Value.int .i64 0],.box b21 134 [v0_0,Value.int .i64 a0.left,Value.int .i64 a0.right,Value.int .i64 a0.pivot]]) r34 rfl
 refine FL.v (E.fieldAddr zav rfl) ?_
 obtain ⟨w39,run40,S41⟩:=S33.store (P:=Tryz.prog) (t:=52) (i:=2) (j:=0) (cs':=[v35,Value.int .i64 a0.left,Value.int .i64 a0.right,Value.int .i64 a0.pivot]) (l':=[.row 3 1 v35 n36 cs37,.box b25 134 [Value.slice none 0 0,Value.int .i64 0,Value.int .i64 0,Value.int .i64 0],.box b21 134 [v35,Value.int .i64 a0.left,Value.int .i64 a0.right,Value.int .i64 a0.pivot]]) (v:=v35) (c:=[v35]) rfl Tryz.sizeOf52 (Ln.cells (S33.row_ln (i:=0) rfl)) rfl (zab (Ln.one (S33.row_ln (i:=0) rfl)) zae) (Nat.le_of_ble_eq_true rfl) rfl rfl
 refine FL.act rfl rfl (E.store rfl rfl run40) ?_
 refine FL.nil (FW.seq (FW.seq (FW.region ?_)))
 refine FL.v (E.load rfl (zal Tryz.isAgg134 Tryz.sizeOf134 (S41.box_now (i:=2) rfl) rfl)) ?_
 obtain ⟨H42,S43,i44,h45,nv46⟩:=S41.sealRowU (i:=0) (l':=[.box b25 134 [Value.slice none 0 0,Value.int .i64 0,Value.int .i64 0,Value.int .i64 0],.box b21 134 [v35,Value.int .i64 a0.left,Value.int .i64 a0.right,Value.int .i64 a0.pivot]]) rfl els38 (by decide) rfl
 refine FL.call rfl rfl rfl (E.call Tryz.call180 (A1 rfl)) (zew S43.sl (zaa.mk r29 a0.left a0.right a0.pivot) v35 (h45.mono upI)) ?_
 rintro e w47 ⟨rfl,r48⟩
 refine ⟨_,rfl,?_⟩
 have r48:=Run.lend i44 S41.sl r48
 have S49:=S41.call r48
 refine FL.nil ?_
 obtain ⟨q65,hq,hp⟩:=bndR hp
 refine FW.joinE (S:=(Int×Int×Int)) (X:=Empty) (q:=q65) (fun s64 f w=>∃ H:GH,St Ha wa H w [.row 3 1 v35 n36 cs37,.box b25 134 [Value.slice none 0 0,Value.int .i64 0,Value.int .i64 0,Value.int .i64 0],.box b21 134 [v35,Value.int .i64 s64.1,Value.int .i64 s64.2.1,Value.int .i64 s64.2.2]]∧Inc H31 H∧f 1=v1∧f 2=Value.pointer (some (⟨b21,0,none⟩:Addr))∧f 4=Value.pointer (some (⟨b25,0,none⟩:Addr))) (fun (_:Empty) _ _ _=>False) ?_ ?_ ?_
 ·
  clear hp;have hp:=hq;clear hq
  rcases ifB hp with ⟨c67,hp⟩|⟨c67,hp⟩
  ·
   refine FW.condT rfl c67 ?_
   refine FW.region ?_
   refine FL.v (E.move (v:=v1) rfl) ?_
   refine FL.v (E.fieldAddr zaO rfl) ?_
   refine FL.v (E.load rfl (zag Tryz.isAgg3 (S49.box_now (i:=2) rfl) rfl)) ?_
   obtain ⟨r68,hr69,hp⟩:=bnd hp
   obtain ⟨fi73,cs74,hv75,he76,hc77⟩:=(p1.mono r34.run.inc) H31 w47 (Inc.rfl _) S49.sl a0.right r68 hr69
   refine FL.call rfl rfl rfl (E.callV he76 (Eq.trans rfl hv75) (appA (A1 rfl) cs74)) hc77 ?_
   rintro e w70 ⟨rfl,r71⟩
   refine ⟨_,rfl,?_⟩
   have S72:=S49.call r71
   refine FL.v (E.fieldAddr zaO rfl) ?_
   obtain ⟨w78,run79,S80⟩:=S72.store (P:=Tryz.prog) (t:=3) (i:=2) (j:=2) (cs':=[v35,Value.int .i64 a0.left,Value.int .i64 r68,Value.int .i64 a0.pivot]) (l':=[.row 3 1 v35 n36 cs37,.box b25 134 [Value.slice none 0 0,Value.int .i64 0,Value.int .i64 0,Value.int .i64 0],.box b21 134 [v35,Value.int .i64 a0.left,Value.int .i64 r68,Value.int .i64 a0.pivot]]) (v:=Value.int .i64 r68) (c:=[Value.int .i64 r68]) rfl Tryz.sizeOf3 rfl rfl (zab rfl zae) (Nat.le_of_ble_eq_true rfl) rfl rfl
   refine FL.act rfl rfl (E.store rfl rfl run79) ?_
   refine FL.nil ?_
   obtain rfl:=Option.some.inj hp
   exact ⟨rfl,⟨_,S80,(Inc.rfl _),rfl,rfl,rfl⟩⟩
  ·
   refine FW.condF rfl c67 ?_
   refine FW.skip ?_
   obtain rfl:=Option.some.inj hp
   exact ⟨rfl,⟨_,S49,(Inc.rfl _),rfl,rfl,rfl⟩⟩
 ·
  rintro s64 rfl f85 w84 ⟨H81,S82,i83,k86,k87,k88⟩
  replace hp:=el_go hp
  refine FW.seq (FW.seq (FW.region ?_))
  refine FL.v (E.load k87 (zal Tryz.isAgg134 Tryz.sizeOf134 (S82.box_now (i:=2) rfl) rfl)) ?_
  obtain ⟨H89,S90,i91,h92,nv93⟩:=S82.sealRowU (i:=0) (l':=[.box b25 134 [Value.slice none 0 0,Value.int .i64 0,Value.int .i64 0,Value.int .i64 0],.box b21 134 [v35,Value.int .i64 s64.1,Value.int .i64 s64.2.1,Value.int .i64 s64.2.2]]) rfl (els38.mono (zaf i83)) (by decide) rfl
  refine FL.call rfl rfl rfl (E.call Tryz.call181 (A1 rfl)) (zex S90.sl (zaa.mk r29 s64.1 s64.2.1 s64.2.2) v35 (h92.mono upI)) ?_
  rintro e w94 ⟨rfl,r95⟩
  refine ⟨_,rfl,?_⟩
  have r95:=Run.lend i91 S82.sl r95
  have S96:=S82.call r95
  refine FL.v (E.not rfl) ?_
  refine FL.nil ?_
  rcases ifB hp with ⟨c97,hp⟩|⟨c97,hp⟩
  ·
   refine FW.condT rfl c97 ?_
   refine FW.region ?_
   refine FL.v (E.move k86) ?_
   refine FL.v (E.fieldAddr zaN k87) ?_
   refine FL.v (E.load rfl (zag Tryz.isAgg3 (S96.box_now (i:=2) rfl) rfl)) ?_
   obtain ⟨r98,hr99,hp⟩:=bnd hp
   obtain ⟨fi103,csA4,hv105,he106,hcA7⟩:=(p1.mono (r34.run.inc.tr i83)) H81 w94 (Inc.rfl _) S96.sl s64.1 r98 hr99
   refine FL.call rfl rfl rfl (E.callV he106 (Eq.trans rfl hv105) (appA (A1 rfl) csA4)) hcA7 ?_
   rintro e wA0 ⟨rfl,rA1⟩
   refine ⟨_,rfl,?_⟩
   have SA2:=S96.call rA1
   refine FL.v (E.fieldAddr zaN k87) ?_
   obtain ⟨wA8,runA9,SAa⟩:=SA2.store (P:=Tryz.prog) (t:=3) (i:=2) (j:=1) (cs':=[v35,Value.int .i64 r98,Value.int .i64 s64.2.1,Value.int .i64 s64.2.2]) (l':=[.row 3 1 v35 n36 cs37,.box b25 134 [Value.slice none 0 0,Value.int .i64 0,Value.int .i64 0,Value.int .i64 0],.box b21 134 [v35,Value.int .i64 r98,Value.int .i64 s64.2.1,Value.int .i64 s64.2.2]]) (v:=Value.int .i64 r98) (c:=[Value.int .i64 r98]) rfl Tryz.sizeOf3 rfl rfl (zab rfl zae) (Nat.le_of_ble_eq_true rfl) rfl rfl
   refine FL.act rfl rfl (E.store rfl rfl runA9) ?_
   refine FL.nil (FW.seq (FW.region ?_))
   refine FL.v (E.load k87 (zal Tryz.isAgg134 Tryz.sizeOf134 (SAa.box_now (i:=2) rfl) rfl)) ?_
   obtain ⟨wAb,runAc,SAd⟩:=SAa.store0 (P:=Tryz.prog) (t:=134) (i:=1) (cs':=[v35,Value.int .i64 r98,Value.int .i64 s64.2.1,Value.int .i64 s64.2.2]) (l':=[.row 3 1 v35 n36 cs37,.box b25 134 [v35,Value.int .i64 r98,Value.int .i64 s64.2.1,Value.int .i64 s64.2.2],.box b21 134 [v35,Value.int .i64 r98,Value.int .i64 s64.2.1,Value.int .i64 s64.2.2]]) (v:=Value.agg #[v35,Value.int .i64 r98,Value.int .i64 s64.2.1,Value.int .i64 s64.2.2]) (c:=[v35,Value.int .i64 r98,Value.int .i64 s64.2.1,Value.int .i64 s64.2.2]) rfl Tryz.sizeOf134 rfl rfl (zab (Ln.one (SAa.row_ln (i:=0) rfl)) (zab rfl (zab rfl (zab rfl zae)))) (Nat.le_of_ble_eq_true rfl) rfl rfl
   refine FL.act rfl rfl (E.store k88 rfl runAc) ?_
   obtain ⟨HAe,SAf,iAg,hAh,nvAi⟩:=SAd.sealRowU (i:=0) (l':=[.box b25 134 [v35,Value.int .i64 r98,Value.int .i64 s64.2.1,Value.int .i64 s64.2.2],.box b21 134 [v35,Value.int .i64 r98,Value.int .i64 s64.2.1,Value.int .i64 s64.2.2]]) rfl (els38.mono (zaf i83)) (by decide) rfl
   obtain ⟨HAj,SAk,iAl,atAm⟩:=SAf.sealBox (i:=0) (l':=[.box b21 134 [v35,Value.int .i64 r98,Value.int .i64 s64.2.1,Value.int .i64 s64.2.2]]) rfl rfl
   refine FL.nil ?_
   refine FW.ret ?_
   obtain rfl:=Option.some.inj hp
   exact ⟨.inr rfl,resC rfl k88 (zaA Tryz.isAgg134 Tryz.sizeOf134 (atAm.now SAk.sl) rfl) ⟨_,_,rfl,SAk.run,(hAh.mono (zaf iAl))⟩⟩
  ·
   refine FW.condF rfl c97 ?_
   refine FW.skip (FW.seq (FW.region ?_))
   refine FL.v (E.load k87 (zal Tryz.isAgg134 Tryz.sizeOf134 (S96.box_now (i:=2) rfl) rfl)) ?_
   obtain ⟨wAn,runAo,SAp⟩:=S96.store0 (P:=Tryz.prog) (t:=134) (i:=1) (cs':=[v35,Value.int .i64 s64.1,Value.int .i64 s64.2.1,Value.int .i64 s64.2.2]) (l':=[.row 3 1 v35 n36 cs37,.box b25 134 [v35,Value.int .i64 s64.1,Value.int .i64 s64.2.1,Value.int .i64 s64.2.2],.box b21 134 [v35,Value.int .i64 s64.1,Value.int .i64 s64.2.1,Value.int .i64 s64.2.2]]) (v:=Value.agg #[v35,Value.int .i64 s64.1,Value.int .i64 s64.2.1,Value.int .i64 s64.2.2]) (c:=[v35,Value.int .i64 s64.1,Value.int .i64 s64.2.1,Value.int .i64 s64.2.2]) rfl Tryz.sizeOf134 rfl rfl (zab (Ln.one (S96.row_ln (i:=0) rfl)) (zab rfl (zab rfl (zab rfl zae)))) (Nat.le_of_ble_eq_true rfl) rfl rfl
   refine FL.act rfl rfl (E.store k88 rfl runAo) ?_
   obtain ⟨HAq,SAr,iAs,hAt,nvAu⟩:=SAp.sealRowU (i:=0) (l':=[.box b25 134 [v35,Value.int .i64 s64.1,Value.int .i64 s64.2.1,Value.int .i64 s64.2.2],.box b21 134 [v35,Value.int .i64 s64.1,Value.int .i64 s64.2.1,Value.int .i64 s64.2.2]]) rfl (els38.mono (zaf i83)) (by decide) rfl
   obtain ⟨HAv,SAw,iAx,atAy⟩:=SAr.sealBox (i:=0) (l':=[.box b21 134 [v35,Value.int .i64 s64.1,Value.int .i64 s64.2.1,Value.int .i64 s64.2.2]]) rfl rfl
   refine FL.nil ?_
   refine FW.ret ?_
   obtain rfl:=Option.some.inj hp
   exact ⟨.inr rfl,resC rfl k88 (zaA Tryz.isAgg134 Tryz.sizeOf134 (atAy.now SAw.sl) rfl) ⟨_,_,rfl,SAw.run,(hAt.mono (zaf iAx))⟩⟩
 ·
  intro x66;exact x66.elim

theorem ze0 {Ha:GH} {wa:World} (hs:Sl Ha wa) (a0:Int) (q0:Addr) (b0:Int) (c0:CAt Ha q0 [Value.int .i64 b0]) :
  Calls Tryz.prog 111 #[Value.int .i64 a0,Value.pointer (some q0)] wa (Sc Ha wa (Value.int .i64 (PF.zbO a0 b0))):=by
 obtain ⟨r,hp⟩:∃ r,(PF.zbO a0 b0)=r:=⟨_,rfl⟩
 rw [hp]
 unfold PF.zbO at hp
 have S0:=St.init hs
 refine zaj (N:=7) (args:=[Value.int .i64 a0,Value.pointer (some q0)]) Tryz.func111 rfl rfl rfl ?_
 refine FW.seq (FW.region ?_)
 refine FL.v (E.assign (v:=Value.int .i64 0) rfl) ?_
 refine FL.nil (FW.seq (FW.region ?_))
 refine FL.v (E.move (v:=Value.int .i64 a0) rfl) ?_
 refine FL.v (E.load rfl (zak Tryz.isAgg3 (c0.now S0.sl) rfl)) ?_
 refine FL.v (E.add rfl rfl) ?_
 refine FL.v (E.assign (v:=Value.int .i64 (wr (a0 + b0))) rfl) ?_
 refine FL.nil ?_
 refine FW.ret ?_
 obtain rfl:=hp
 exact ⟨.inr rfl,res1 rfl rfl ⟨rfl,S0.back⟩⟩

@[reducible] def p_impl_ChainSteps (Ha:GH) (wa:World) (r:((List zaa)×Bool)):Ending→World→Prop :=
 fun e w'=>∃ H':GH,∃ v0:Value,∃ n0:Nat,∃ c0:List Value,e=.returned (Value.tuple #[v0,Value.bool r.2])∧St Ha wa H' w' [.row 134 4 v0 n0 c0]∧Els (up wa.heap.size H') zah 4 c0 r.1∧(bl c0).Nodup
set_option maxHeartbeats 4000000 in
theorem w_impl_ChainSteps {Ha:GH} {wa:World} (hs:Sl Ha wa) (a0:Cnf) (v0_1:Value) (p0_1:RSl Ha (eL eI 1) 1 v0_1 a0.clauses) (v1:Value) (a1:List zaa) (p1:RSl Ha zah 4 v1 a1) (v2:Value) (a2:List zaa) (p2:RSl Ha zah 4 v2 a2) (a3:Int) {r:((List zaa)×Bool)} (hp:(PF.zc7 a0 a1 a2 a3)=some r) :
  Calls Tryz.prog 41 #[Value.agg #[Value.int .i64 a0.vars,v0_1],v1,v2,Value.int .i64 a3] wa (p_impl_ChainSteps Ha wa r):=by
 unfold PF.zc7 at hp
 have S0:=St.init hs
 refine zaj (N:=91) (args:=[Value.agg #[Value.int .i64 a0.vars,v0_1],v1,v2,Value.int .i64 a3]) Tryz.func41 rfl rfl rfl ?_
 refine FW.seq (FW.region ?_)
 obtain ⟨b21,w22,run23,S24⟩:=S0.box (P:=Tryz.prog) 26 [Value.int .i64 a0.vars,v0_1] (v:=Value.agg #[Value.int .i64 a0.vars,v0_1]) rfl (zab rfl (zab p0_1.one zae))
 refine FL.v (E.box rfl run23) ?_
 obtain ⟨H25,S26,i27,at28⟩:=S24.sealBox (i:=0) (l':=[]) rfl rfl
 refine FL.v (E.assign (v:=Value.slice none 0 0) rfl) ?_
 refine FL.v (E.assign (v:=Value.bool false) rfl) ?_
 refine FL.nil (FW.seq (FW.region ?_))
 refine FL.v (E.move (v:=v1) rfl) ?_
 refine FL.v (E.lenP te61 rfl p1) ?_
 obtain ⟨b29,w30,run31,S32⟩:=S26.alloc (P:=Tryz.prog) 3 [Value.int .i64 0] Tryz.zeroValue3 rfl (zab rfl zae)
 refine FL.v (E.alloc run31) ?_
 obtain ⟨w33,run34,S35⟩:=S32.store0 (P:=Tryz.prog) (t:=3) (i:=0) (cs':=[Value.int .i64 (len a1)]) (l':=[.box b29 3 [Value.int .i64 (len a1)]]) (v:=Value.int .i64 (len a1)) (c:=[Value.int .i64 (len a1)]) rfl Tryz.sizeOf3 rfl rfl (zab rfl zae) (Nat.le_of_ble_eq_true rfl) rfl rfl
 refine FL.act rfl rfl (E.store rfl rfl run34) ?_
 obtain ⟨H36,S37,i38,at39⟩:=S35.sealBox (i:=0) (l':=[]) rfl rfl
 refine FL.nil (FW.seq (FW.seq (FW.region ?_)))
 refine FL.v (E.load rfl (zal Tryz.isAgg26 Tryz.sizeOf26 ((at28.mono i38).now S37.sl) rfl)) ?_
 refine FL.v (E.move (v:=v1) rfl) ?_
 obtain ⟨r40,hr41,hp⟩:=bnd hp
 refine FL.call rfl rfl rfl (E.call Tryz.call105 (A2 rfl rfl)) (zdC S37.sl a0 v0_1 (p0_1.mono (i27.tr i38)) v1 a1 (p1.mono (i27.tr i38)) hr41) ?_
 rintro e w42 ⟨rfl,r43⟩
 refine ⟨_,rfl,?_⟩
 have S44:=S37.call r43
 refine FL.v (E.not rfl) ?_
 refine FL.v (E.move (v:=Value.bool (!r40)) rfl) ?_
 obtain ⟨t50,hqt50,hp⟩:=bnd hp
 refine FL.cut 5 (fun f w=>∃ H:GH,St Ha wa H w []∧Inc H36 H∧f 1=v1∧f 2=v2∧f 3=Value.int .i64 a3∧f 4=Value.pointer (some ⟨b21,0,none⟩)∧f 10=Value.pointer (some ⟨b29,0,none⟩)∧f 27=Value.bool t50) ?_ ?_
 ·
  clear hp;have hp:=hqt50;clear hqt50
  rcases ifB hp with ⟨c56,hp⟩|⟨c56,hp⟩
  ·
   refine FL.skip (wF_no rfl rfl rfl c56) rfl ?_
   refine FL.skip (wF_no rfl rfl rfl c56) rfl ?_
   refine FL.skip (wF_no rfl rfl rfl c56) rfl ?_
   refine FL.skip (wF_no rfl rfl rfl c56) rfl ?_
   obtain rfl:=Option.some.inj hp
   refine FL.v (E.pickT rfl c56 rfl) ?_
   exact FL.nil ⟨rfl,_,S44,(Inc.rfl _),rfl,rfl,rfl,rfl,rfl,rfl⟩
  ·
   refine FL.val (zac rfl rfl rfl c56) rfl rfl (E.load rfl (zal Tryz.isAgg26 Tryz.sizeOf26 ((at28.mono i38).now S44.sl) rfl)) ?_
   refine FL.val (zac rfl rfl rfl c56) rfl rfl (E.move (v:=v2) rfl) ?_
   obtain ⟨r57,hr58,hp⟩:=bnd hp
   refine FL.call (zac rfl rfl rfl c56) rfl rfl (E.call Tryz.call105 (A2 rfl rfl)) (zdC S44.sl a0 v0_1 (p0_1.mono (i27.tr i38)) v2 a2 (p2.mono (i27.tr i38)) hr58) ?_
   rintro e w59 ⟨rfl,r60⟩
   refine ⟨_,rfl,?_⟩
   have S61:=S44.call r60
   refine FL.val (zac rfl rfl rfl c56) rfl rfl (E.not rfl) ?_
   obtain rfl:=Option.some.inj hp
   refine FL.v (E.pickF rfl c56 rfl) ?_
   exact FL.nil ⟨rfl,_,S61,(Inc.rfl _),rfl,rfl,rfl,rfl,rfl,rfl⟩
 rintro f55 w54 ⟨H51,S52,i53,k62,k63,k64,k65,k66,k67⟩
 refine FL.v (E.move k67) ?_
 refine FL.cut 3 (fun f w=>∃ H:GH,St Ha wa H w []∧Inc H51 H∧f 1=v1∧f 2=v2∧f 3=Value.int .i64 a3∧f 4=Value.pointer (some ⟨b21,0,none⟩)∧f 10=Value.pointer (some ⟨b29,0,none⟩)∧f 31=Value.bool (bif t50 then true else ((len a1) == 0))) ?_ ?_
 ·
  rcases bcase t50 with c74|c74
  ·
   refine FL.skip (wF_no rfl rfl rfl c74) rfl ?_
   refine FL.skip (wF_no rfl rfl rfl c74) rfl ?_
   refine FL.v (E.pickT rfl c74 rfl) ?_
   exact FL.nil ⟨rfl,_,S52,(Inc.rfl _),k62,k63,k64,k65,k66,(congrArg Value.bool (bifT c74).symm)⟩
  ·
   refine FL.val (zac rfl rfl rfl c74) rfl rfl (E.load k66 (zak Tryz.isAgg3 ((at39.mono i53).now S52.sl) rfl)) ?_
   refine FL.val (zac rfl rfl rfl c74) rfl rfl (E.eql rfl rfl) ?_
   refine FL.v (E.pickF rfl c74 rfl) ?_
   exact FL.nil ⟨rfl,_,S52,(Inc.rfl _),k62,k63,k64,k65,k66,(congrArg Value.bool (bifF c74).symm)⟩
 rintro f73 w72 ⟨H69,S70,i71,k75,k76,k77,k78,k79,k80⟩
 refine FL.v (E.move k80) ?_
 refine FL.cut 4 (fun f w=>∃ H:GH,St Ha wa H w []∧Inc H69 H∧f 1=v1∧f 2=v2∧f 3=Value.int .i64 a3∧f 4=Value.pointer (some ⟨b21,0,none⟩)∧f 10=Value.pointer (some ⟨b29,0,none⟩)∧f 36=Value.bool (bif (bif t50 then true else ((len a1) == 0)) then true else ((len a2) == 0))) ?_ ?_
 ·
  rcases bcase (bif t50 then true else ((len a1) == 0)) with c87|c87
  ·
   refine FL.skip (wF_no rfl rfl rfl c87) rfl ?_
   refine FL.skip (wF_no rfl rfl rfl c87) rfl ?_
   refine FL.skip (wF_no rfl rfl rfl c87) rfl ?_
   refine FL.v (E.pickT rfl c87 rfl) ?_
   exact FL.nil ⟨rfl,_,S70,(Inc.rfl _),k75,k76,k77,k78,k79,(congrArg Value.bool (bifT c87).symm)⟩
  ·
   refine FL.val (zac rfl rfl rfl c87) rfl rfl (E.move k76) ?_
   refine FL.val (zac rfl rfl rfl c87) rfl rfl (E.lenP te61 rfl p2) ?_
   refine FL.val (zac rfl rfl rfl c87) rfl rfl (E.eql rfl rfl) ?_
   refine FL.v (E.pickF rfl c87 rfl) ?_
   exact FL.nil ⟨rfl,_,S70,(Inc.rfl _),k75,k76,k77,k78,k79,(congrArg Value.bool (bifF c87).symm)⟩
 rintro f86 w85 ⟨H82,S83,i84,k88,k89,k90,k91,k92,k93⟩
 refine FL.v (E.move k93) ?_
 refine FL.cut 6 (fun f w=>∃ H:GH,St Ha wa H w []∧Inc H82 H∧f 1=v1∧f 2=v2∧f 3=Value.int .i64 a3∧f 10=Value.pointer (some ⟨b29,0,none⟩)∧f 43=Value.bool (bif (bif (bif t50 then true else ((len a1) == 0)) then true else ((len a2) == 0)) then true else (!(PF.zbg a0.vars a3)))) ?_ ?_
 ·
  rcases bcase (bif (bif t50 then true else ((len a1) == 0)) then true else ((len a2) == 0)) with cA3|cA3
  ·
   refine FL.skip (wF_no rfl rfl rfl cA3) rfl ?_
   refine FL.skip (wF_no rfl rfl rfl cA3) rfl ?_
   refine FL.skip (wF_no rfl rfl rfl cA3) rfl ?_
   refine FL.skip (wF_no rfl rfl rfl cA3) rfl ?_
   refine FL.skip (wF_no rfl rfl rfl cA3) rfl ?_
   refine FL.v (E.pickT rfl cA3 rfl) ?_
   exact FL.nil ⟨rfl,_,S83,(Inc.rfl _),k88,k89,k90,k92,(congrArg Value.bool (bifT cA3).symm)⟩
  ·
   refine FL.val (zac rfl rfl rfl cA3) rfl rfl (E.fieldAddr zaC k91) ?_
   refine FL.val (zac rfl rfl rfl cA3) rfl rfl (E.load rfl (zag Tryz.isAgg3 ((at28.mono (((i38.tr i53).tr i71).tr i84)).now S83.sl) rfl)) ?_
   refine FL.val (zac rfl rfl rfl cA3) rfl rfl (E.move k90) ?_
   refine FL.call (zac rfl rfl rfl cA3) rfl rfl (E.call Tryz.call106 (A2 rfl rfl)) (zdZ S83.sl a0.vars a3) ?_
   rintro e wA4 ⟨rfl,rA5⟩
   refine ⟨_,rfl,?_⟩
   have SA6:=S83.call rA5
   refine FL.val (zac rfl rfl rfl cA3) rfl rfl (E.not rfl) ?_
   refine FL.v (E.pickF rfl cA3 rfl) ?_
   exact FL.nil ⟨rfl,_,SA6,(Inc.rfl _),k88,k89,k90,k92,(congrArg Value.bool (bifF cA3).symm)⟩
 rintro fA2 wA1 ⟨H98,S99,iA0,kA7,kA8,kA9,kAa,kAb⟩
 refine FL.v (E.move kAb) ?_
 refine FL.cut 7 (fun f w=>∃ H:GH,St Ha wa H w []∧Inc H98 H∧f 1=v1∧f 2=v2∧f 3=Value.int .i64 a3∧f 10=Value.pointer (some ⟨b29,0,none⟩)∧f 51=Value.bool (bif (bif (bif (bif t50 then true else ((len a1) == 0)) then true else ((len a2) == 0)) then true else (!(PF.zbg a0.vars a3))) then true else (decide (200 < (wr ((wr ((len a1) + (len a2))) + 1)))))) ?_ ?_
 ·
  rcases bcase (bif (bif (bif t50 then true else ((len a1) == 0)) then true else ((len a2) == 0)) then true else (!(PF.zbg a0.vars a3))) with cAi|cAi
  ·
   refine FL.skip (wF_no rfl rfl rfl cAi) rfl ?_
   refine FL.skip (wF_no rfl rfl rfl cAi) rfl ?_
   refine FL.skip (wF_no rfl rfl rfl cAi) rfl ?_
   refine FL.skip (wF_no rfl rfl rfl cAi) rfl ?_
   refine FL.skip (wF_no rfl rfl rfl cAi) rfl ?_
   refine FL.skip (wF_no rfl rfl rfl cAi) rfl ?_
   refine FL.v (E.pickT rfl cAi rfl) ?_
   exact FL.nil ⟨rfl,_,S99,(Inc.rfl _),kA7,kA8,kA9,kAa,(congrArg Value.bool (bifT cAi).symm)⟩
  ·
   refine FL.val (zac rfl rfl rfl cAi) rfl rfl (E.load kAa (zak Tryz.isAgg3 ((at39.mono (((i53.tr i71).tr i84).tr iA0)).now S99.sl) rfl)) ?_
   refine FL.val (zac rfl rfl rfl cAi) rfl rfl (E.move kA8) ?_
   refine FL.val (zac rfl rfl rfl cAi) rfl rfl (E.lenP te61 rfl p2) ?_
   refine FL.val (zac rfl rfl rfl cAi) rfl rfl (E.add rfl rfl) ?_
   refine FL.val (zac rfl rfl rfl cAi) rfl rfl (E.add rfl rfl) ?_
   refine FL.val (zac rfl rfl rfl cAi) rfl rfl (E.gtr rfl rfl) ?_
   refine FL.v (E.pickF rfl cAi rfl) ?_
   exact FL.nil ⟨rfl,_,S99,(Inc.rfl _),kA7,kA8,kA9,kAa,(congrArg Value.bool (bifF cAi).symm)⟩
 rintro fAh wAg ⟨HAd,SAe,iAf,kAj,kAk,kAl,kAm,kAn⟩
 refine FL.nil ?_
 rcases ifB hp with ⟨cAo,hp⟩|⟨cAo,hp⟩
 ·
  refine FW.condT kAn cAo ?_
  refine FW.seq (FW.region ?_)
  refine FL.v (E.assign (v:=Value.slice none 0 0) rfl) ?_
  refine FL.v (E.assign (v:=Value.bool false) rfl) ?_
  refine FL.nil ?_
  refine FW.ret ?_
  obtain rfl:=Option.some.inj hp
  exact ⟨.inr rfl,res2 rfl rfl rfl ⟨_,_,_,_,rfl,(SAe.nil 134 4),Els.nil,List.nodup_nil⟩⟩
 ·
  refine FW.condF kAn cAo ?_
  refine FW.skip (FW.seq (FW.region ?_))
  refine FL.v (E.move kAj) ?_
  obtain ⟨rAp,hrAq,hp⟩:=bnd hp
  refine FL.call rfl rfl rfl (E.call Tryz.call108 (A1 rfl)) (zd1 SAe.sl v1 a1 (p1.mono ((((((i27.tr i38).tr i53).tr i71).tr i84).tr iA0).tr iAf)) hrAq) ?_
  rintro e wAs ⟨HAr,vAv,rfl,rAu,hAw⟩
  refine ⟨_,rfl,?_⟩
  have SAt:=SAe.call rAu
  refine FL.v (E.field (fd134_0 rfl) rfl) ?_
  refine FL.v (E.move kAk) ?_
  obtain ⟨rAx,hrAy,hp⟩:=bnd hp
  refine FL.call rfl rfl rfl (E.call Tryz.call108 (A1 rfl)) (zd1 SAt.sl v2 a2 (p2.mono (((((((i27.tr i38).tr i53).tr i71).tr i84).tr iA0).tr iAf).tr rAu.inc)) hrAy) ?_
  rintro e wAA ⟨HAz,vAD,rfl,rAC,hAE⟩
  refine ⟨_,rfl,?_⟩
  have SAB:=SAt.call rAC
  refine FL.v (E.field (fd134_0 rfl) rfl) ?_
  refine FL.v (E.move kAl) ?_
  obtain ⟨rAF,hrAG,hp⟩:=bnd hp
  refine FL.call rfl rfl rfl (E.call Tryz.call107 (A3 rfl rfl rfl)) (zd0 SAB.sl vAv rAp.clause (hAw.mono rAC.inc) vAD rAx.clause hAE a3 hrAG) ?_
  rintro e wAI ⟨HAH,vAL,nAM,csAN,rfl,rAK,elsAO⟩
  refine ⟨_,rfl,?_⟩
  have elsAO:=elsAO.mono (up_le SAB.size)
  have SAJ:=SAB.join (l':=[.row 3 1 vAL nAM csAN]) rAK rfl
  refine FL.v (E.move (v:=Value.tuple #[vAL,Value.bool rAF.2]) rfl) ?_
  refine FL.v (E.extract (i:=0) rfl rfl) ?_
  refine FL.v (E.extract (i:=1) rfl rfl) ?_
  refine FL.v (E.assign (v:=vAL) rfl) ?_
  refine FL.v (E.assign (v:=Value.bool rAF.2) rfl) ?_
  refine FL.nil (FW.seq (FW.seq (FW.region ?_)))
  refine FL.v (E.move (v:=Value.bool rAF.2) rfl) ?_
  refine FL.v (E.not rfl) ?_
  refine FL.nil ?_
  rcases ifB hp with ⟨cAP,hp⟩|⟨cAP,hp⟩
  ·
   refine FW.condT rfl cAP ?_
   refine FW.seq (FW.region ?_)
   refine FL.v (E.assign (v:=Value.slice none 0 0) rfl) ?_
   refine FL.v (E.assign (v:=Value.bool false) rfl) ?_
   refine FL.nil ?_
   refine FW.ret ?_
   obtain rfl:=Option.some.inj hp
   exact ⟨.inr rfl,res2 rfl rfl rfl ⟨_,_,_,_,rfl,((SAJ.nil 134 4).sel [0] (by decide) rfl),Els.nil,List.nodup_nil⟩⟩
  ·
   refine FW.condF rfl cAP ?_
   refine FW.skip (FW.seq (FW.region ?_))
   refine FL.v (E.move kAj) ?_
   obtain ⟨rAQ,hrAR,hp⟩:=bnd hp
   refine FL.call rfl rfl rfl (E.call Tryz.call109 (A1 rfl)) (w_impl_cloneSteps SAJ.sl v1 a1 (p1.mono (((((((((i27.tr i38).tr i53).tr i71).tr i84).tr iA0).tr iAf).tr rAu.inc).tr rAC.inc).tr rAK.run.inc)) hrAR) ?_
   rintro e wAT ⟨HAS,vAW,nAX,csAY,rfl,rAV,elsAZ,ndB0⟩
   refine ⟨_,rfl,?_⟩
   have nvB1:New HAH csAY:=New.of_up SAJ.sl elsAZ.dom
   have elsAZ:=elsAZ.mono (up_le SAJ.size)
   have SAU:=SAJ.join (l':=[.row 134 4 vAW nAX csAY,.row 3 1 vAL nAM csAN]) rAV rfl
   refine FL.v (E.assign (v:=vAW) rfl) ?_
   refine FL.nil (FW.seq (FW.seq (FW.region ?_)))
   refine FL.v (E.move kAk) ?_
   refine FL.v (E.lenP te61 rfl p2) ?_
   refine FL.v (E.move (v:=Value.int .i64 0) rfl) ?_
   refine FL.nil ?_
   obtain ⟨qB3,hq,hp⟩:=bndR hp
   refine FW.block ?_
   refine FW.mono (FW.forL (S:=(List zaa)) (X:=Empty) (fun (iB3:Nat) (sB3:(List zaa)) f w=>∃ H:GH,∃ vB4:Value,∃ nB5:Nat,∃ csB6:List Value,St Ha wa H w [.row 134 4 vB4 nB5 csB6,.row 3 1 vAL nAM csAN]∧Inc HAS H∧Els (up wa.heap.size H) zah 4 csB6 sB3∧(bl csB6).Nodup∧f 69=Value.int .i64 ((iB3:Nat):Int)∧f 3=Value.int .i64 a3∧f 10=Value.pointer (some ⟨b29,0,none⟩)∧f 11=vAL∧f 13=vB4∧f 67=v2∧f 68=Value.int .i64 (len a2)) (fun (q:Rs (List zaa) Empty) e f w=>match q with|.go sB3=>e=Exit.exit 0∧(∃ H:GH,∃ vB4:Value,∃ nB5:Nat,∃ csB6:List Value,St Ha wa H w [.row 134 4 vB4 nB5 csB6,.row 3 1 vAL nAM csAN]∧Inc HAS H∧Els (up wa.heap.size H) zah 4 csB6 sB3∧(bl csB6).Nodup∧f 3=Value.int .i64 a3∧f 10=Value.pointer (some ⟨b29,0,none⟩)∧f 11=vAL∧f 13=vB4)|.rt x=>x.elim) hq ⟨_,_,_,_,SAU,(Inc.rfl _),elsAZ,ndB0,rfl,kAl,kAm,rfl,rfl,rfl,rfl⟩ ?_ ?_) ?_
   ·
    clear hp hq
    rintro iB3 yB2 sB3 fC9 wC8 ⟨HC5,vB4,nB5,csB6,SC6,iC7,elsB7,ndB8,kCa,kCb,kCc,kCd,kCe,kCf,kCg⟩ hxB3 oD1 hp
    refine FW.seq (FW.region ?_)
    refine FL.v (E.lssT kCa kCg (zaF hxB3)) ?_
    refine FL.nil (FW.seq ?_)
    refine FW.condT rfl rfl ?_
    refine FW.skip (FW.seq (FW.block (FW.seq (FW.region ?_))))
    obtain ⟨pCh,csCi,ptCj,lCk,atCl,relCm⟩:=p2.at (zaz hxB3)
    obtain ⟨vCn,rfl,hCo⟩:=zap relCm
    refine FL.v (E.indexAddr te61 kCf kCa ptCj) ?_
    refine FL.v (E.load rfl (zal Tryz.isAgg134 Tryz.sizeOf134 ((atCl.mono (((((((((((i27.tr i38).tr i53).tr i71).tr i84).tr iA0).tr iAf).tr rAu.inc).tr rAC.inc).tr rAK.run.inc).tr rAV.run.inc).tr iC7)).now SC6.sl) rfl)) ?_
    obtain ⟨bCp,wCq,runCr,SCs⟩:=SC6.alloc (P:=Tryz.prog) 134 [Value.slice none 0 0,Value.int .i64 0,Value.int .i64 0,Value.int .i64 0] Tryz.zeroValue134 rfl (zab rfl (zab rfl (zab rfl (zab rfl zae))))
    refine FL.v (E.alloc runCr) ?_
    obtain ⟨wCt,runCu,SCv⟩:=SCs.store0 (P:=Tryz.prog) (t:=134) (i:=0) (cs':=[vCn,Value.int .i64 yB2.left,Value.int .i64 yB2.right,Value.int .i64 yB2.pivot]) (l':=[.box bCp 134 [vCn,Value.int .i64 yB2.left,Value.int .i64 yB2.right,Value.int .i64 yB2.pivot],.row 134 4 vB4 nB5 csB6,.row 3 1 vAL nAM csAN]) (v:=Value.agg #[vCn,Value.int .i64 yB2.left,Value.int .i64 yB2.right,Value.int .i64 yB2.pivot]) (c:=[vCn,Value.int .i64 yB2.left,Value.int .i64 yB2.right,Value.int .i64 yB2.pivot]) rfl Tryz.sizeOf134 rfl rfl (zab hCo.one (zab rfl (zab rfl (zab rfl zae)))) (Nat.le_of_ble_eq_true rfl) rfl rfl
    refine FL.act rfl rfl (E.store rfl rfl runCu) ?_
    obtain ⟨HCw,SCx,iCy,atCz⟩:=SCv.sealBox (i:=0) (l':=[.row 134 4 vB4 nB5 csB6,.row 3 1 vAL nAM csAN]) rfl rfl
    refine FL.nil (FW.region ?_)
    refine FL.v (E.move kCe) ?_
    refine FL.v (E.load rfl (zal Tryz.isAgg134 Tryz.sizeOf134 (atCz.now SCx.sl) rfl)) ?_
    refine FL.v (E.makeFunc A0 (A1 kCc)) ?_
    obtain ⟨rCA,hrCB,hp⟩:=bnd hp
    refine FL.call rfl rfl rfl (E.call Tryz.call110 (A2 rfl rfl)) (zeZ SCx.sl yB2 vCn (hCo.mono ((((((((((((i27.tr i38).tr i53).tr i71).tr i84).tr iA0).tr iAf).tr rAu.inc).tr rAC.inc).tr rAK.run.inc).tr rAV.run.inc).tr iC7).tr iCy)) (Value.func (.func 111) #[] #[Value.pointer (some ⟨b29,0,none⟩)]) (fun x0=>some (PF.zbO x0 (len a1))) (fun H2 w2 hi2 hs2 x0 r hr=>⟨111,#[Value.pointer (some ⟨b29,0,none⟩)],rfl,Tryz.call111,by cases hr;exact ze0 hs2 x0 ⟨b29,0,none⟩ (len a1) ((at39.mono ((((((((((i53.tr i71).tr i84).tr iA0).tr iAf).tr rAu.inc).tr rAC.inc).tr rAK.run.inc).tr rAV.run.inc).tr iC7).tr iCy)).mono hi2)⟩) hrCB) ?_
    rintro e wCD ⟨HCC,vCG,rfl,rCF,hCH⟩
    refine ⟨_,rfl,?_⟩
    have nvCI:New HCw [vCG]:=New.of_up SCx.sl hCH.dom
    have hCH:=hCH.mono (up_le SCx.size)
    have SCE:=SCx.call rCF
    obtain ⟨vCJ,wCK,runCL,SCM⟩:=SCE.buildSlice (P:=Tryz.prog) te61 [Value.agg #[vCG,Value.int .i64 rCA.left,Value.int .i64 rCA.right,Value.int .i64 rCA.pivot]] (parts:=#[(0,Value.agg #[vCG,Value.int .i64 rCA.left,Value.int .i64 rCA.right,Value.int .i64 rCA.pivot])]) (cells:=[vCG,Value.int .i64 rCA.left,Value.int .i64 rCA.right,Value.int .i64 rCA.pivot]) rfl (zas rfl zan) (zar rfl zam) (zab hCH.one (zab rfl (zab rfl (zab rfl zae)))) (Nat.le_of_ble_eq_true rfl)
    have elsCN:Els (up wa.heap.size HCC) zah 4 [vCG,Value.int .i64 rCA.left,Value.int .i64 rCA.right,Value.int .i64 rCA.pivot] [rCA]:=(Els.snoc (H:=(up wa.heap.size HCC)) (E:=zah) (k:=4) (c:=[vCG,Value.int .i64 rCA.left,Value.int .i64 rCA.right,Value.int .i64 rCA.pivot]) (x:=rCA) Els.nil rfl ⟨_,rfl,hCH⟩)
    have ndCO:(bl [vCG,Value.int .i64 rCA.left,Value.int .i64 rCA.right,Value.int .i64 rCA.pivot]).Nodup:=by exact zaT vCG
    refine FL.v (E.buildSlice (B1 rfl) runCL) ?_
    obtain ⟨xsCP,hzCQ,hp⟩:=bnd hp
    obtain ⟨vCR,wCU,nCS,csCT,runCV,SCW,elsCX,ceCY⟩:=SCM.appendO (P:=Tryz.prog) te61 (i:=1) (j:=0) rfl (elsB7.mono (zaf (iCy.tr rCF.inc))) rfl elsCN hzCQ
    have SCW:St Ha wa HCC wCU [.row 134 4 vCJ 1 [vCG,Value.int .i64 rCA.left,Value.int .i64 rCA.right,Value.int .i64 rCA.pivot],.row 134 4 vCR nCS csCT,.row 3 1 vAL nAM csAN]:=SCW
    have ndCZ:(bl csCT).Nodup:=by rw [ceCY];exact zaS ndB8 ndCO (Els.dom (elsB7.mono (upI.tr iCy))) (by exact nvCI)
    have SD0:St Ha wa HCC wCU [.row 134 4 vCR nCS csCT,.row 3 1 vAL nAM csAN]:=SCW.drop 0
    refine FL.v (E.append rfl rfl runCV) ?_
    refine FL.v (E.assign (v:=vCR) rfl) ?_
    refine FL.nil (FW.region ?_)
    refine FL.v (E.add kCa rfl) ?_
    refine FL.v (E.move (v:=Value.int .i64 (wr (((iB3:Nat):Int) + 1))) rfl) ?_
    refine FL.nil ?_
    obtain rfl:=Option.some.inj hp
    exact ⟨rfl,⟨_,_,_,_,SD0,((iC7.tr iCy).tr rCF.inc),elsCX,ndCZ,(zaw rfl (zaB hxB3) (p2.mono (((((((((((((i27.tr i38).tr i53).tr i71).tr i84).tr iA0).tr iAf).tr rAu.inc).tr rAC.inc).tr rAK.run.inc).tr rAV.run.inc).tr iC7).tr iCy).tr rCF.inc)).le),kCb,kCc,kCd,rfl,kCf,kCg⟩⟩
   ·
    clear hp hq
    rintro sB3 fDC wDB ⟨HDy,vB4,nB5,csB6,SDz,iDA,elsB7,ndB8,kDD,kDE,kDF,kDG,kDH,kDI,kDJ⟩
    refine FW.seq (FW.region ?_)
    refine FL.v (E.lss kDD kDJ) ?_
    refine FL.nil (FW.seq ?_)
    refine FW.condF rfl zaG ?_
    refine FW.exit ?_
    exact ⟨nofun,rfl,⟨_,_,_,_,SDz,iDA,elsB7,ndB8,kDE,kDF,kDG,kDH⟩⟩
   ·
    clear hq
    intro e fD6 wD5 hD
    rcases qB3 with sB3|xB3
    ·
     obtain ⟨rfl,hD⟩:=hD
     obtain ⟨HD2,vB4,nB5,csB6,SD3,iD4,elsB7,ndB8,kD7,kD8,kD9,kDa⟩:=hD
     replace hp:=el_go hp
     refine FW.seq (FW.region ?_)
     refine FL.v (E.move kDa) ?_
     refine FL.v (E.move kD9) ?_
     refine FL.v (E.load kD8 (zak Tryz.isAgg3 ((at39.mono (((((((((i53.tr i71).tr i84).tr iA0).tr iAf).tr rAu.inc).tr rAC.inc).tr rAK.run.inc).tr rAV.run.inc).tr iD4)).now SD3.sl) rfl)) ?_
     refine FL.v (E.sub rfl rfl) ?_
     refine FL.v (E.move kDa) ?_
     refine FL.v (E.lenO te61 rfl SD3 (i:=0) rfl elsB7 (by decide)) ?_
     refine FL.v (E.sub rfl rfl) ?_
     refine FL.v (E.move kD7) ?_
     refine FL.v (E.build (B4 rfl rfl rfl rfl) (run_build _ 134 #[(0,vAL),(1,Value.int .i64 (wr ((len a1) - 1))),(2,Value.int .i64 (wr ((len sB3) - 1))),(3,Value.int .i64 a3)] #[vAL,Value.int .i64 (wr ((len a1) - 1)),Value.int .i64 (wr ((len sB3) - 1)),Value.int .i64 a3] (by obtain ⟨_,_,rfl⟩:=SD3.row_ln (i:=1) rfl;rfl))) ?_
     obtain ⟨HDb,SDc,iDd,hDe,nvDf⟩:=SD3.sealRowU (i:=1) (l':=[.row 134 4 vB4 nB5 csB6]) rfl (elsAO.mono (zaf (rAV.run.inc.tr iD4))) (by decide) rfl
     obtain ⟨vDg,wDh,runDi,SDj⟩:=SDc.buildSlice (P:=Tryz.prog) te61 [Value.agg #[vAL,Value.int .i64 (wr ((len a1) - 1)),Value.int .i64 (wr ((len sB3) - 1)),Value.int .i64 a3]] (parts:=#[(0,Value.agg #[vAL,Value.int .i64 (wr ((len a1) - 1)),Value.int .i64 (wr ((len sB3) - 1)),Value.int .i64 a3])]) (cells:=[vAL,Value.int .i64 (wr ((len a1) - 1)),Value.int .i64 (wr ((len sB3) - 1)),Value.int .i64 a3]) rfl (zas rfl zan) (zar rfl zam) (zab hDe.one (zab rfl (zab rfl (zab rfl zae)))) (Nat.le_of_ble_eq_true rfl)
     have elsDk:Els (up wa.heap.size HDb) zah 4 [vAL,Value.int .i64 (wr ((len a1) - 1)),Value.int .i64 (wr ((len sB3) - 1)),Value.int .i64 a3] [(zaa.mk rAF.1 (wr ((len a1) - 1)) (wr ((len sB3) - 1)) a3)]:=(Els.snoc (H:=(up wa.heap.size HDb)) (E:=zah) (k:=4) (c:=[vAL,Value.int .i64 (wr ((len a1) - 1)),Value.int .i64 (wr ((len sB3) - 1)),Value.int .i64 a3]) (x:=(zaa.mk rAF.1 (wr ((len a1) - 1)) (wr ((len sB3) - 1)) a3)) Els.nil rfl ⟨_,rfl,hDe⟩)
     have ndDl:(bl [vAL,Value.int .i64 (wr ((len a1) - 1)),Value.int .i64 (wr ((len sB3) - 1)),Value.int .i64 a3]).Nodup:=by exact zaT vAL
     refine FL.v (E.buildSlice (B1 rfl) runDi) ?_
     obtain ⟨xsDm,hzDn,hp⟩:=bnd hp
     obtain ⟨vDo,wDr,nDp,csDq,runDs,SDt,elsDu,ceDv⟩:=SDj.appendO (P:=Tryz.prog) te61 (i:=1) (j:=0) rfl (elsB7.mono (zaf iDd)) rfl elsDk hzDn
     have SDt:St Ha wa HDb wDr [.row 134 4 vDg 1 [vAL,Value.int .i64 (wr ((len a1) - 1)),Value.int .i64 (wr ((len sB3) - 1)),Value.int .i64 a3],.row 134 4 vDo nDp csDq]:=SDt
     have ndDw:(bl csDq).Nodup:=by rw [ceDv];exact zaS ndB8 ndDl (Els.dom (elsB7.mono (upI.tr (Inc.rfl _)))) (by exact nvDf)
     have SDx:St Ha wa HDb wDr [.row 134 4 vDo nDp csDq]:=SDt.drop 0
     refine FL.v (E.append rfl rfl runDs) ?_
     refine FL.v (E.assign (v:=vDo) rfl) ?_
     refine FL.v (E.assign (v:=Value.bool true) rfl) ?_
     refine FL.nil ?_
     refine FW.ret ?_
     obtain rfl:=Option.some.inj hp
     exact ⟨.inr rfl,res2 rfl rfl rfl ⟨_,_,_,_,rfl,SDx,elsDu,ndDw⟩⟩
    ·
     exact xB3.elim

@[reducible] def p_spec_l7Last (Ha:GH) (wa:World) (r:(List Int)):Ending→World→Prop :=
 fun e w'=>∃ H':GH,∃ v0:Value,e=.returned (v0)∧Run wa.heap.size Ha wa H' w'∧RSl H' eI 1 v0 r
theorem w_spec_l7Last {Ha:GH} {wa:World} (hs:Sl Ha wa) (v0:Value) (a0:List zaa) (p0:RSl Ha zah 4 v0 a0) {r:(List Int)} (hp:(PF.zc8 a0)=some r) :
  Calls Tryz.prog 112 #[v0] wa (p_spec_l7Last Ha wa r):=by
 unfold PF.zc8 at hp
 have S0:=St.init hs
 refine zaj (N:=10) (args:=[v0]) Tryz.func112 rfl rfl rfl ?_
 refine FW.seq (FW.region ?_)
 refine FL.v (E.assign (v:=Value.slice none 0 0) rfl) ?_
 refine FL.nil (FW.seq (FW.region ?_))
 refine FL.v (E.move (v:=v0) rfl) ?_
 refine FL.v (E.move (v:=v0) rfl) ?_
 refine FL.v (E.lenP te61 rfl p0) ?_
 refine FL.v (E.sub rfl rfl) ?_
 obtain ⟨x27,hx28,hp⟩:=bnd hp
 obtain ⟨p21,cs22,pt23,l24,at25,rel26⟩:=p0.at hx28
 obtain ⟨v29,rfl,h30⟩:=zap rel26
 refine FL.v (E.indexAddr te61 rfl rfl pt23) ?_
 refine FL.v (E.fieldAddr zav rfl) ?_
 refine FL.v (E.load rfl (zag Tryz.isAgg52 (at25.now S0.sl) rfl)) ?_
 refine FL.v (E.assign (v:=v29) rfl) ?_
 refine FL.nil ?_
 refine FW.ret ?_
 obtain rfl:=Option.some.inj hp
 exact ⟨.inr rfl,res1 rfl rfl ⟨_,_,rfl,S0.run,h30⟩⟩

@[reducible] def p_spec_l7Behind (Ha:GH) (wa:World) (r:(List zaa)):Ending→World→Prop :=
 fun e w'=>∃ H':GH,∃ v0:Value,∃ n0:Nat,∃ c0:List Value,e=.returned (v0)∧St Ha wa H' w' [.row 134 4 v0 n0 c0]∧Els (up wa.heap.size H') zah 4 c0 r∧(bl c0).Nodup
set_option maxHeartbeats 4000000 in
theorem w_spec_l7Behind {Ha:GH} {wa:World} (hs:Sl Ha wa) (v0:Value) (a0:List zaa) (p0:RSl Ha zah 4 v0 a0) (v1:Value) (a1:List zaa) (p1:RSl Ha zah 4 v1 a1) {r:(List zaa)} (hp:(PF.zc9 a0 a1)=some r) :
  Calls Tryz.prog 113 #[v0,v1] wa (p_spec_l7Behind Ha wa r):=by
 unfold PF.zc9 at hp
 have S0:=St.init hs
 refine zaj (N:=55) (args:=[v0,v1]) Tryz.func113 rfl rfl rfl ?_
 refine FW.seq (FW.region ?_)
 refine FL.v (E.assign (v:=Value.slice none 0 0) rfl) ?_
 refine FL.nil (FW.seq (FW.region ?_))
 obtain ⟨v21,w22,run23,S24⟩:=S0.buildSlice (P:=Tryz.prog) te61 [] (parts:=#[]) (cells:=[]) rfl zan zam zae (Nat.le_of_ble_eq_true rfl)
 have els25:Els (up wa.heap.size Ha) zah 4 [] []:=Els.nil
 refine FL.v (E.buildSlice (B0) run23) ?_
 obtain ⟨v26,w27,run28,S29⟩:=S24.buildSlice (P:=Tryz.prog) te52 [] (parts:=#[]) (cells:=[]) rfl zan zam zae (Nat.le_of_ble_eq_true rfl)
 have els30:Els (up wa.heap.size Ha) eI 1 [] []:=Els.nil
 refine FL.v (E.buildSlice (B0) run28) ?_
 obtain ⟨v31,w32,run33,S34⟩:=S29.buildSlice (P:=Tryz.prog) te52 [] (parts:=#[]) (cells:=[]) rfl zan zam zae (Nat.le_of_ble_eq_true rfl)
 have els35:Els (up wa.heap.size Ha) eI 1 [] []:=Els.nil
 refine FL.v (E.buildSlice (B0) run33) ?_
 refine FL.v (E.assign (v:=v21) rfl) ?_
 refine FL.v (E.assign (v:=v26) rfl) ?_
 refine FL.v (E.assign (v:=v31) rfl) ?_
 refine FL.nil (FW.seq (FW.seq (FW.region ?_)))
 refine FL.v (E.assign (v:=Value.int .i64 0) rfl) ?_
 refine FL.nil ?_
 obtain ⟨q37,hq,hp⟩:=bndR hp
 refine FW.block ?_
 refine FW.mono (FW.forL (S:=((List Int)×(List zaa))) (X:=Empty) (fun (i37:Nat) (s37:((List Int)×(List zaa))) f w=>∃ H:GH,∃ v38:Value,∃ n39:Nat,∃ cs40:List Value,∃ v42:Value,∃ n43:Nat,∃ cs44:List Value,St Ha wa H w [.row 3 1 v31 0 [],.row 3 1 v38 n39 cs40,.row 134 4 v42 n43 cs44]∧Inc Ha H∧Els (up wa.heap.size H) eI 1 cs40 s37.1∧Els (up wa.heap.size H) zah 4 cs44 s37.2∧(bl cs44).Nodup∧f 8=Value.int .i64 ((i37:Nat):Int)∧f 0=v0∧f 1=v1∧f 5=v42∧f 6=v38∧f 7=v31) (fun (q:Rs ((List Int)×(List zaa)) Empty) e f w=>match q with|.go s37=>e=Exit.exit 0∧(∃ H:GH,∃ v38:Value,∃ n39:Nat,∃ cs40:List Value,∃ v42:Value,∃ n43:Nat,∃ cs44:List Value,St Ha wa H w [.row 3 1 v31 0 [],.row 3 1 v38 n39 cs40,.row 134 4 v42 n43 cs44]∧Inc Ha H∧Els (up wa.heap.size H) eI 1 cs40 s37.1∧Els (up wa.heap.size H) zah 4 cs44 s37.2∧(bl cs44).Nodup∧f 0=v0∧f 1=v1∧f 5=v42∧f 7=v31)|.rt x=>x.elim) hq ⟨_,_,_,_,_,_,_,S34,(Inc.rfl _),els30,els25,(show (bl []).Nodup from List.nodup_nil),rfl,rfl,rfl,rfl,rfl,rfl⟩ ?_ ?_) ?_
 ·
  clear hp hq
  rintro i37 y36 s37 fAk wAj ⟨HAg,v38,n39,cs40,v42,n43,cs44,SAh,iAi,els41,els45,nd46,kAl,kAm,kAn,kAo,kAp,kAq⟩ hx37 oBn hp
  refine FW.seq (FW.seq (FW.region ?_))
  refine FL.v (E.move kAl) ?_
  refine FL.v (E.move kAm) ?_
  refine FL.v (E.lenP te61 rfl p0) ?_
  refine FL.v (E.lssT rfl rfl (zaF hx37)) ?_
  refine FL.nil ?_
  refine FW.condT rfl rfl ?_
  refine FW.skip (FW.seq (FW.block (FW.seq (FW.region ?_))))
  refine FL.v (E.move kAp) ?_
  refine FL.v (E.move kAl) ?_
  obtain ⟨vAr,wAs,runAt,SAu,elsAv⟩:=SAh.ints (P:=Tryz.prog) te52 (up wa.heap.size HAg) 1 [((i37:Nat):Int)]
  refine FL.v (E.buildSlice (B1 rfl) runAt) ?_
  obtain ⟨xsAw,hzAx,hp⟩:=bnd hp
  obtain ⟨vAy,wAB,nAz,csAA,runAC,SAD,elsAE,ceAF⟩:=SAu.appendO (P:=Tryz.prog) te52 (i:=2) (j:=0) rfl els41 rfl elsAv hzAx
  have SAD:St Ha wa HAg wAB [.row 3 1 vAr 1 (iC [((i37:Nat):Int)]),.row 3 1 v31 0 [],.row 3 1 vAy nAz csAA,.row 134 4 v42 n43 cs44]:=SAD
  have SAG:St Ha wa HAg wAB [.row 3 1 v31 0 [],.row 3 1 vAy nAz csAA,.row 134 4 v42 n43 cs44]:=SAD.drop 0
  refine FL.v (E.append rfl rfl runAC) ?_
  refine FL.v (E.assign (v:=vAy) rfl) ?_
  refine FL.nil (FW.region ?_)
  refine FL.v (E.move kAo) ?_
  refine FL.v (E.move kAm) ?_
  refine FL.v (E.move kAl) ?_
  obtain ⟨pAH,csAI,ptAJ,lAK,atAL,relAM⟩:=p0.at (zaz hx37)
  obtain ⟨vAN,rfl,hAO⟩:=zap relAM
  refine FL.v (E.indexAddr te61 rfl rfl ptAJ) ?_
  refine FL.v (E.load rfl (zal Tryz.isAgg134 Tryz.sizeOf134 ((atAL.mono iAi).now SAG.sl) rfl)) ?_
  refine FL.v (E.move (v:=vAy) rfl) ?_
  obtain ⟨HAP,SAQ,iAR,hAS,nvAT⟩:=SAG.sealRowU (i:=1) (l':=[.row 3 1 v31 0 [],.row 134 4 v42 n43 cs44]) rfl elsAE (by decide) rfl
  obtain ⟨rAU,hrAV,hp⟩:=bnd hp
  refine FL.call rfl rfl rfl (E.call Tryz.call182 (A2 rfl rfl)) (zdW SAQ.sl y36 vAN (hAO.mono (iAi.tr iAR)) vAy xsAw (hAS.mono upI) hrAV) ?_
  rintro e wAX ⟨HAW,vB2,rfl,rAZ,hB3⟩
  refine ⟨_,rfl,?_⟩
  obtain ⟨HB0,rAZ,hU163⟩:=Run.lendX iAR SAG.sl rAZ
  have nvB4:New HAg [vB2]:=New.of_up SAG.sl hB3.dom
  have hB3:=hB3.mono (hU163.tr (up_le SAG.size))
  have SAY:=SAG.call rAZ
  obtain ⟨vB5,wB6,runB7,SB8⟩:=SAY.buildSlice (P:=Tryz.prog) te61 [Value.agg #[vB2,Value.int .i64 rAU.left,Value.int .i64 rAU.right,Value.int .i64 rAU.pivot]] (parts:=#[(0,Value.agg #[vB2,Value.int .i64 rAU.left,Value.int .i64 rAU.right,Value.int .i64 rAU.pivot])]) (cells:=[vB2,Value.int .i64 rAU.left,Value.int .i64 rAU.right,Value.int .i64 rAU.pivot]) rfl (zas rfl zan) (zar rfl zam) (zab hB3.one (zab rfl (zab rfl (zab rfl zae)))) (Nat.le_of_ble_eq_true rfl)
  have elsB9:Els (up wa.heap.size HB0) zah 4 [vB2,Value.int .i64 rAU.left,Value.int .i64 rAU.right,Value.int .i64 rAU.pivot] [rAU]:=(Els.snoc (H:=(up wa.heap.size HB0)) (E:=zah) (k:=4) (c:=[vB2,Value.int .i64 rAU.left,Value.int .i64 rAU.right,Value.int .i64 rAU.pivot]) (x:=rAU) Els.nil rfl ⟨_,rfl,hB3⟩)
  have ndBa:(bl [vB2,Value.int .i64 rAU.left,Value.int .i64 rAU.right,Value.int .i64 rAU.pivot]).Nodup:=by exact zaT vB2
  refine FL.v (E.buildSlice (B1 rfl) runB7) ?_
  obtain ⟨xsBb,hzBc,hp⟩:=bnd hp
  obtain ⟨vBd,wBg,nBe,csBf,runBh,SBi,elsBj,ceBk⟩:=SB8.appendO (P:=Tryz.prog) te61 (i:=3) (j:=0) rfl (els45.mono (zaf rAZ.inc)) rfl elsB9 hzBc
  have SBi:St Ha wa HB0 wBg [.row 134 4 vB5 1 [vB2,Value.int .i64 rAU.left,Value.int .i64 rAU.right,Value.int .i64 rAU.pivot],.row 3 1 v31 0 [],.row 3 1 vAy nAz csAA,.row 134 4 vBd nBe csBf]:=SBi
  have ndBl:(bl csBf).Nodup:=by rw [ceBk];exact zaS nd46 ndBa (Els.dom (els45.mono (upI.tr (Inc.rfl _)))) (by exact nvB4)
  have SBm:St Ha wa HB0 wBg [.row 3 1 v31 0 [],.row 3 1 vAy nAz csAA,.row 134 4 vBd nBe csBf]:=SBi.drop 0
  refine FL.v (E.append rfl rfl runBh) ?_
  refine FL.v (E.assign (v:=vBd) rfl) ?_
  refine FL.nil (FW.region ?_)
  refine FL.v (E.move kAl) ?_
  refine FL.v (E.add rfl rfl) ?_
  refine FL.v (E.assign (v:=Value.int .i64 (wr (((i37:Nat):Int) + 1))) rfl) ?_
  refine FL.nil ?_
  obtain rfl:=Option.some.inj hp
  exact ⟨rfl,⟨_,_,_,_,_,_,_,SBm,(iAi.tr rAZ.inc),(elsAE.mono (zaf rAZ.inc)),elsBj,ndBl,(zaw rfl (zaB hx37) (p0.mono (iAi.tr rAZ.inc)).le),kAm,kAn,rfl,rfl,kAq⟩⟩
 ·
  clear hp hq
  rintro s37 fEf wEe ⟨HEb,v38,n39,cs40,v42,n43,cs44,SEc,iEd,els41,els45,nd46,kEg,kEh,kEi,kEj,kEk,kEl⟩
  refine FW.seq (FW.seq (FW.region ?_))
  refine FL.v (E.move kEg) ?_
  refine FL.v (E.move kEh) ?_
  refine FL.v (E.lenP te61 rfl p0) ?_
  refine FL.v (E.lss rfl rfl) ?_
  refine FL.nil ?_
  refine FW.condF rfl zaG ?_
  refine FW.exit ?_
  exact ⟨nofun,rfl,⟨_,_,_,_,_,_,_,SEc,iEd,els41,els45,nd46,kEh,kEi,kEj,kEl⟩⟩
 ·
  clear hq
  intro e fBs wBr hD
  rcases q37 with s37|x37
  ·
   obtain ⟨rfl,hD⟩:=hD
   obtain ⟨HBo,v38,n39,cs40,v42,n43,cs44,SBp,iBq,els41,els45,nd46,kBt,kBu,kBv,kBw⟩:=hD
   replace hp:=el_go hp
   refine FW.seq (FW.seq (FW.region ?_))
   refine FL.v (E.assign (v:=Value.int .i64 0) rfl) ?_
   refine FL.nil ?_
   obtain ⟨qBy,hq,hp⟩:=bndR hp
   refine FW.block ?_
   refine FW.mono (FW.forL (S:=((List Int)×(List zaa))) (X:=Empty) (fun (iBy:Nat) (sBy:((List Int)×(List zaa))) f w=>∃ H:GH,∃ vBz:Value,∃ nBA:Nat,∃ csBB:List Value,∃ vBD:Value,∃ nBE:Nat,∃ csBF:List Value,St Ha wa H w [.row 3 1 vBz nBA csBB,.row 134 4 vBD nBE csBF]∧Inc HBo H∧Els (up wa.heap.size H) eI 1 csBB sBy.1∧Els (up wa.heap.size H) zah 4 csBF sBy.2∧(bl csBF).Nodup∧f 9=Value.int .i64 ((iBy:Nat):Int)∧f 0=v0∧f 1=v1∧f 5=vBD∧f 7=vBz) (fun (q:Rs ((List Int)×(List zaa)) Empty) e f w=>match q with|.go sBy=>e=Exit.exit 2∧(∃ H:GH,∃ vBz:Value,∃ nBA:Nat,∃ csBB:List Value,∃ vBD:Value,∃ nBE:Nat,∃ csBF:List Value,St Ha wa H w [.row 3 1 vBz nBA csBB,.row 134 4 vBD nBE csBF]∧Inc HBo H∧Els (up wa.heap.size H) eI 1 csBB sBy.1∧Els (up wa.heap.size H) zah 4 csBF sBy.2∧(bl csBF).Nodup∧f 5=vBD)|.rt x=>x.elim) hq ⟨_,_,_,_,_,_,_,(SBp.sel [0,2] (by decide) rfl),(Inc.rfl _),(els35.mono (zaf iBq)),els45,nd46,rfl,kBt,kBu,kBv,kBw⟩ ?_ ?_) ?_
   ·
    clear hp hq
    rintro iBy yBx sBy fCS wCR ⟨HCO,vBz,nBA,csBB,vBD,nBE,csBF,SCP,iCQ,elsBC,elsBG,ndBH,kCT,kCU,kCV,kCW,kCX⟩ hxBy oDU hp
    refine FW.seq (FW.seq (FW.region ?_))
    refine FL.v (E.move kCT) ?_
    refine FL.v (E.move kCV) ?_
    refine FL.v (E.lenP te61 rfl p1) ?_
    refine FL.v (E.lssT rfl rfl (zaF hxBy)) ?_
    refine FL.nil ?_
    refine FW.condT rfl rfl ?_
    refine FW.skip (FW.seq (FW.block (FW.seq (FW.region ?_))))
    refine FL.v (E.move kCX) ?_
    refine FL.v (E.move kCU) ?_
    refine FL.v (E.lenP te61 rfl p0) ?_
    refine FL.v (E.move kCT) ?_
    refine FL.v (E.add rfl rfl) ?_
    obtain ⟨vCY,wCZ,runD0,SD1,elsD2⟩:=SCP.ints (P:=Tryz.prog) te52 (up wa.heap.size HCO) 1 [(wr ((len a0) + ((iBy:Nat):Int)))]
    refine FL.v (E.buildSlice (B1 rfl) runD0) ?_
    obtain ⟨xsD3,hzD4,hp⟩:=bnd hp
    obtain ⟨vD5,wD8,nD6,csD7,runD9,SDa,elsDb,ceDc⟩:=SD1.appendO (P:=Tryz.prog) te52 (i:=1) (j:=0) rfl elsBC rfl elsD2 hzD4
    have SDa:St Ha wa HCO wD8 [.row 3 1 vCY 1 (iC [(wr ((len a0) + ((iBy:Nat):Int)))]),.row 3 1 vD5 nD6 csD7,.row 134 4 vBD nBE csBF]:=SDa
    have SDd:St Ha wa HCO wD8 [.row 3 1 vD5 nD6 csD7,.row 134 4 vBD nBE csBF]:=SDa.drop 0
    refine FL.v (E.append rfl rfl runD9) ?_
    refine FL.v (E.assign (v:=vD5) rfl) ?_
    refine FL.nil (FW.region ?_)
    refine FL.v (E.move kCW) ?_
    refine FL.v (E.move kCV) ?_
    refine FL.v (E.move kCT) ?_
    obtain ⟨pDe,csDf,ptDg,lDh,atDi,relDj⟩:=p1.at (zaz hxBy)
    obtain ⟨vDk,rfl,hDl⟩:=zap relDj
    refine FL.v (E.indexAddr te61 rfl rfl ptDg) ?_
    refine FL.v (E.load rfl (zal Tryz.isAgg134 Tryz.sizeOf134 ((atDi.mono (iBq.tr iCQ)).now SDd.sl) rfl)) ?_
    refine FL.v (E.move (v:=vD5) rfl) ?_
    obtain ⟨HDm,SDn,iDo,hDp,nvDq⟩:=SDd.sealRowU (i:=0) (l':=[.row 134 4 vBD nBE csBF]) rfl elsDb (by decide) rfl
    obtain ⟨rDr,hrDs,hp⟩:=bnd hp
    refine FL.call rfl rfl rfl (E.call Tryz.call182 (A2 rfl rfl)) (zdW SDn.sl yBx vDk (hDl.mono ((iBq.tr iCQ).tr iDo)) vD5 xsD3 (hDp.mono upI) hrDs) ?_
    rintro e wDu ⟨HDt,vDz,rfl,rDw,hDA⟩
    refine ⟨_,rfl,?_⟩
    obtain ⟨HDx,rDw,hU320⟩:=Run.lendX iDo SDd.sl rDw
    have nvDB:New HCO [vDz]:=New.of_up SDd.sl hDA.dom
    have hDA:=hDA.mono (hU320.tr (up_le SDd.size))
    have SDv:=SDd.call rDw
    obtain ⟨vDC,wDD,runDE,SDF⟩:=SDv.buildSlice (P:=Tryz.prog) te61 [Value.agg #[vDz,Value.int .i64 rDr.left,Value.int .i64 rDr.right,Value.int .i64 rDr.pivot]] (parts:=#[(0,Value.agg #[vDz,Value.int .i64 rDr.left,Value.int .i64 rDr.right,Value.int .i64 rDr.pivot])]) (cells:=[vDz,Value.int .i64 rDr.left,Value.int .i64 rDr.right,Value.int .i64 rDr.pivot]) rfl (zas rfl zan) (zar rfl zam) (zab hDA.one (zab rfl (zab rfl (zab rfl zae)))) (Nat.le_of_ble_eq_true rfl)
    have elsDG:Els (up wa.heap.size HDx) zah 4 [vDz,Value.int .i64 rDr.left,Value.int .i64 rDr.right,Value.int .i64 rDr.pivot] [rDr]:=(Els.snoc (H:=(up wa.heap.size HDx)) (E:=zah) (k:=4) (c:=[vDz,Value.int .i64 rDr.left,Value.int .i64 rDr.right,Value.int .i64 rDr.pivot]) (x:=rDr) Els.nil rfl ⟨_,rfl,hDA⟩)
    have ndDH:(bl [vDz,Value.int .i64 rDr.left,Value.int .i64 rDr.right,Value.int .i64 rDr.pivot]).Nodup:=by exact zaT vDz
    refine FL.v (E.buildSlice (B1 rfl) runDE) ?_
    obtain ⟨xsDI,hzDJ,hp⟩:=bnd hp
    obtain ⟨vDK,wDN,nDL,csDM,runDO,SDP,elsDQ,ceDR⟩:=SDF.appendO (P:=Tryz.prog) te61 (i:=2) (j:=0) rfl (elsBG.mono (zaf rDw.inc)) rfl elsDG hzDJ
    have SDP:St Ha wa HDx wDN [.row 134 4 vDC 1 [vDz,Value.int .i64 rDr.left,Value.int .i64 rDr.right,Value.int .i64 rDr.pivot],.row 3 1 vD5 nD6 csD7,.row 134 4 vDK nDL csDM]:=SDP
    have ndDS:(bl csDM).Nodup:=by rw [ceDR];exact zaS ndBH ndDH (Els.dom (elsBG.mono (upI.tr (Inc.rfl _)))) (by exact nvDB)
    have SDT:St Ha wa HDx wDN [.row 3 1 vD5 nD6 csD7,.row 134 4 vDK nDL csDM]:=SDP.drop 0
    refine FL.v (E.append rfl rfl runDO) ?_
    refine FL.v (E.assign (v:=vDK) rfl) ?_
    refine FL.nil (FW.region ?_)
    refine FL.v (E.move kCT) ?_
    refine FL.v (E.add rfl rfl) ?_
    refine FL.v (E.assign (v:=Value.int .i64 (wr (((iBy:Nat):Int) + 1))) rfl) ?_
    refine FL.nil ?_
    obtain rfl:=Option.some.inj hp
    exact ⟨rfl,⟨_,_,_,_,_,_,_,SDT,(iCQ.tr rDw.inc),(elsDb.mono (zaf rDw.inc)),elsDQ,ndDS,(zaw rfl (zaB hxBy) (p1.mono ((iBq.tr iCQ).tr rDw.inc)).le),kCU,kCV,rfl,rfl⟩⟩
   ·
    clear hp hq
    rintro sBy fE5 wE4 ⟨HE1,vBz,nBA,csBB,vBD,nBE,csBF,SE2,iE3,elsBC,elsBG,ndBH,kE6,kE7,kE8,kE9,kEa⟩
    refine FW.seq (FW.seq (FW.region ?_))
    refine FL.v (E.move kE6) ?_
    refine FL.v (E.move kE8) ?_
    refine FL.v (E.lenP te61 rfl p1) ?_
    refine FL.v (E.lss rfl rfl) ?_
    refine FL.nil ?_
    refine FW.condF rfl zaG ?_
    refine FW.exit ?_
    exact ⟨nofun,rfl,⟨_,_,_,_,_,_,_,SE2,iE3,elsBC,elsBG,ndBH,kE9⟩⟩
   ·
    clear hq
    intro e fDZ wDY hD
    rcases qBy with sBy|xBy
    ·
     obtain ⟨rfl,hD⟩:=hD
     obtain ⟨HDV,vBz,nBA,csBB,vBD,nBE,csBF,SDW,iDX,elsBC,elsBG,ndBH,kE0⟩:=hD
     replace hp:=el_go hp
     refine FW.seq (FW.region ?_)
     refine FL.v (E.move kE0) ?_
     refine FL.v (E.assign (v:=vBD) rfl) ?_
     refine FL.nil ?_
     refine FW.ret ?_
     obtain rfl:=Option.some.inj hp
     exact ⟨.inr rfl,res1 rfl rfl ⟨_,_,_,_,rfl,(SDW.sel [1] (by decide) rfl),elsBG,ndBH⟩⟩
    ·
     exact xBy.elim
  ·
   exact x37.elim

@[reducible] def p_spec_ChainSteps (Ha:GH) (wa:World) (r:((List zaa)×Bool)):Ending→World→Prop :=
 fun e w'=>∃ H':GH,∃ v0:Value,∃ n0:Nat,∃ c0:List Value,e=.returned (Value.tuple #[v0,Value.bool r.2])∧St Ha wa H' w' [.row 134 4 v0 n0 c0]∧Els (up wa.heap.size H') zah 4 c0 r.1∧(bl c0).Nodup
set_option maxHeartbeats 4000000 in
theorem w_spec_ChainSteps {Ha:GH} {wa:World} (hs:Sl Ha wa) (a0:Cnf) (v0_1:Value) (p0_1:RSl Ha (eL eI 1) 1 v0_1 a0.clauses) (v1:Value) (a1:List zaa) (p1:RSl Ha zah 4 v1 a1) (v2:Value) (a2:List zaa) (p2:RSl Ha zah 4 v2 a2) (a3:Int) {r:((List zaa)×Bool)} (hp:(PF.zda a0 a1 a2 a3)=some r) :
  Calls Tryz.prog 42 #[Value.agg #[Value.int .i64 a0.vars,v0_1],v1,v2,Value.int .i64 a3] wa (p_spec_ChainSteps Ha wa r):=by
 unfold PF.zda at hp
 have S0:=St.init hs
 refine zaj (N:=77) (args:=[Value.agg #[Value.int .i64 a0.vars,v0_1],v1,v2,Value.int .i64 a3]) Tryz.func42 rfl rfl rfl ?_
 refine FW.seq (FW.region ?_)
 obtain ⟨b21,w22,run23,S24⟩:=S0.box (P:=Tryz.prog) 26 [Value.int .i64 a0.vars,v0_1] (v:=Value.agg #[Value.int .i64 a0.vars,v0_1]) rfl (zab rfl (zab p0_1.one zae))
 refine FL.v (E.box rfl run23) ?_
 obtain ⟨H25,S26,i27,at28⟩:=S24.sealBox (i:=0) (l':=[]) rfl rfl
 refine FL.v (E.assign (v:=Value.slice none 0 0) rfl) ?_
 refine FL.v (E.assign (v:=Value.bool false) rfl) ?_
 refine FL.nil (FW.seq (FW.seq (FW.region ?_)))
 refine FL.v (E.load rfl (zal Tryz.isAgg26 Tryz.sizeOf26 (at28.now S26.sl) rfl)) ?_
 refine FL.v (E.move (v:=v1) rfl) ?_
 obtain ⟨r29,hr30,hp⟩:=bnd hp
 refine FL.call rfl rfl rfl (E.call Tryz.call102 (A2 rfl rfl)) (zdX S26.sl a0 v0_1 (p0_1.mono i27) v1 a1 (p1.mono i27) hr30) ?_
 rintro e w31 ⟨rfl,r32⟩
 refine ⟨_,rfl,?_⟩
 have S33:=S26.call r32
 refine FL.v (E.not rfl) ?_
 refine FL.v (E.move (v:=Value.bool (!r29)) rfl) ?_
 obtain ⟨t39,hqt39,hp⟩:=bnd hp
 refine FL.cut 5 (fun f w=>∃ H:GH,St Ha wa H w []∧Inc H25 H∧f 1=v1∧f 2=v2∧f 3=Value.int .i64 a3∧f 4=Value.pointer (some ⟨b21,0,none⟩)∧f 21=Value.bool t39) ?_ ?_
 ·
  clear hp;have hp:=hqt39;clear hqt39
  rcases ifB hp with ⟨c45,hp⟩|⟨c45,hp⟩
  ·
   refine FL.skip (wF_no rfl rfl rfl c45) rfl ?_
   refine FL.skip (wF_no rfl rfl rfl c45) rfl ?_
   refine FL.skip (wF_no rfl rfl rfl c45) rfl ?_
   refine FL.skip (wF_no rfl rfl rfl c45) rfl ?_
   obtain rfl:=Option.some.inj hp
   refine FL.v (E.pickT rfl c45 rfl) ?_
   exact FL.nil ⟨rfl,_,S33,(Inc.rfl _),rfl,rfl,rfl,rfl,rfl⟩
  ·
   refine FL.val (zac rfl rfl rfl c45) rfl rfl (E.load rfl (zal Tryz.isAgg26 Tryz.sizeOf26 (at28.now S33.sl) rfl)) ?_
   refine FL.val (zac rfl rfl rfl c45) rfl rfl (E.move (v:=v2) rfl) ?_
   obtain ⟨r46,hr47,hp⟩:=bnd hp
   refine FL.call (zac rfl rfl rfl c45) rfl rfl (E.call Tryz.call102 (A2 rfl rfl)) (zdX S33.sl a0 v0_1 (p0_1.mono i27) v2 a2 (p2.mono i27) hr47) ?_
   rintro e w48 ⟨rfl,r49⟩
   refine ⟨_,rfl,?_⟩
   have S50:=S33.call r49
   refine FL.val (zac rfl rfl rfl c45) rfl rfl (E.not rfl) ?_
   obtain rfl:=Option.some.inj hp
   refine FL.v (E.pickF rfl c45 rfl) ?_
   exact FL.nil ⟨rfl,_,S50,(Inc.rfl _),rfl,rfl,rfl,rfl,rfl⟩
 rintro f44 w43 ⟨H40,S41,i42,k51,k52,k53,k54,k55⟩
 refine FL.v (E.move k55) ?_
 refine FL.cut 4 (fun f w=>∃ H:GH,St Ha wa H w []∧Inc H40 H∧f 1=v1∧f 2=v2∧f 3=Value.int .i64 a3∧f 4=Value.pointer (some ⟨b21,0,none⟩)∧f 26=Value.bool (bif t39 then true else ((len a1) == 0))) ?_ ?_
 ·
  rcases bcase t39 with c62|c62
  ·
   refine FL.skip (wF_no rfl rfl rfl c62) rfl ?_
   refine FL.skip (wF_no rfl rfl rfl c62) rfl ?_
   refine FL.skip (wF_no rfl rfl rfl c62) rfl ?_
   refine FL.v (E.pickT rfl c62 rfl) ?_
   exact FL.nil ⟨rfl,_,S41,(Inc.rfl _),k51,k52,k53,k54,(congrArg Value.bool (bifT c62).symm)⟩
  ·
   refine FL.val (zac rfl rfl rfl c62) rfl rfl (E.move k51) ?_
   refine FL.val (zac rfl rfl rfl c62) rfl rfl (E.lenP te61 rfl p1) ?_
   refine FL.val (zac rfl rfl rfl c62) rfl rfl (E.eql rfl rfl) ?_
   refine FL.v (E.pickF rfl c62 rfl) ?_
   exact FL.nil ⟨rfl,_,S41,(Inc.rfl _),k51,k52,k53,k54,(congrArg Value.bool (bifF c62).symm)⟩
 rintro f61 w60 ⟨H57,S58,i59,k63,k64,k65,k66,k67⟩
 refine FL.v (E.move k67) ?_
 refine FL.cut 4 (fun f w=>∃ H:GH,St Ha wa H w []∧Inc H57 H∧f 1=v1∧f 2=v2∧f 3=Value.int .i64 a3∧f 4=Value.pointer (some ⟨b21,0,none⟩)∧f 31=Value.bool (bif (bif t39 then true else ((len a1) == 0)) then true else ((len a2) == 0))) ?_ ?_
 ·
  rcases bcase (bif t39 then true else ((len a1) == 0)) with c74|c74
  ·
   refine FL.skip (wF_no rfl rfl rfl c74) rfl ?_
   refine FL.skip (wF_no rfl rfl rfl c74) rfl ?_
   refine FL.skip (wF_no rfl rfl rfl c74) rfl ?_
   refine FL.v (E.pickT rfl c74 rfl) ?_
   exact FL.nil ⟨rfl,_,S58,(Inc.rfl _),k63,k64,k65,k66,(congrArg Value.bool (bifT c74).symm)⟩
  ·
   refine FL.val (zac rfl rfl rfl c74) rfl rfl (E.move k64) ?_
   refine FL.val (zac rfl rfl rfl c74) rfl rfl (E.lenP te61 rfl p2) ?_
   refine FL.val (zac rfl rfl rfl c74) rfl rfl (E.eql rfl rfl) ?_
   refine FL.v (E.pickF rfl c74 rfl) ?_
   exact FL.nil ⟨rfl,_,S58,(Inc.rfl _),k63,k64,k65,k66,(congrArg Value.bool (bifF c74).symm)⟩
 rintro f73 w72 ⟨H69,S70,i71,k75,k76,k77,k78,k79⟩
 refine FL.v (E.move k79) ?_
 refine FL.cut 7 (fun f w=>∃ H:GH,St Ha wa H w []∧Inc H69 H∧f 1=v1∧f 2=v2∧f 3=Value.int .i64 a3∧f 4=Value.pointer (some ⟨b21,0,none⟩)∧f 39=Value.bool (bif (bif (bif t39 then true else ((len a1) == 0)) then true else ((len a2) == 0)) then true else (decide (200≤(wr ((len a1) + (len a2))))))) ?_ ?_
 ·
  rcases bcase (bif (bif t39 then true else ((len a1) == 0)) then true else ((len a2) == 0)) with c86|c86
  ·
   refine FL.skip (wF_no rfl rfl rfl c86) rfl ?_
   refine FL.skip (wF_no rfl rfl rfl c86) rfl ?_
   refine FL.skip (wF_no rfl rfl rfl c86) rfl ?_
   refine FL.skip (wF_no rfl rfl rfl c86) rfl ?_
   refine FL.skip (wF_no rfl rfl rfl c86) rfl ?_
   refine FL.skip (wF_no rfl rfl rfl c86) rfl ?_
   refine FL.v (E.pickT rfl c86 rfl) ?_
   exact FL.nil ⟨rfl,_,S70,(Inc.rfl _),k75,k76,k77,k78,(congrArg Value.bool (bifT c86).symm)⟩
  ·
   refine FL.val (zac rfl rfl rfl c86) rfl rfl (E.move k75) ?_
   refine FL.val (zac rfl rfl rfl c86) rfl rfl (E.lenP te61 rfl p1) ?_
   refine FL.val (zac rfl rfl rfl c86) rfl rfl (E.move k76) ?_
   refine FL.val (zac rfl rfl rfl c86) rfl rfl (E.lenP te61 rfl p2) ?_
   refine FL.val (zac rfl rfl rfl c86) rfl rfl (E.add rfl rfl) ?_
   refine FL.val (zac rfl rfl rfl c86) rfl rfl (E.geq rfl rfl) ?_
   refine FL.v (E.pickF rfl c86 rfl) ?_
   exact FL.nil ⟨rfl,_,S70,(Inc.rfl _),k75,k76,k77,k78,(congrArg Value.bool (bifF c86).symm)⟩
 rintro f85 w84 ⟨H81,S82,i83,k87,k88,k89,k90,k91⟩
 refine FL.v (E.move k91) ?_
 refine FL.cut 6 (fun f w=>∃ H:GH,St Ha wa H w []∧Inc H81 H∧f 1=v1∧f 2=v2∧f 3=Value.int .i64 a3∧f 46=Value.bool (bif (bif (bif (bif t39 then true else ((len a1) == 0)) then true else ((len a2) == 0)) then true else (decide (200≤(wr ((len a1) + (len a2)))))) then true else (!(PF.zaU a3 1 a0.vars)))) ?_ ?_
 ·
  rcases bcase (bif (bif (bif t39 then true else ((len a1) == 0)) then true else ((len a2) == 0)) then true else (decide (200≤(wr ((len a1) + (len a2)))))) with cA1|cA1
  ·
   refine FL.skip (wF_no rfl rfl rfl cA1) rfl ?_
   refine FL.skip (wF_no rfl rfl rfl cA1) rfl ?_
   refine FL.skip (wF_no rfl rfl rfl cA1) rfl ?_
   refine FL.skip (wF_no rfl rfl rfl cA1) rfl ?_
   refine FL.skip (wF_no rfl rfl rfl cA1) rfl ?_
   refine FL.v (E.pickT rfl cA1 rfl) ?_
   exact FL.nil ⟨rfl,_,S82,(Inc.rfl _),k87,k88,k89,(congrArg Value.bool (bifT cA1).symm)⟩
  ·
   refine FL.val (zac rfl rfl rfl cA1) rfl rfl (E.move k89) ?_
   refine FL.val (zac rfl rfl rfl cA1) rfl rfl (E.fieldAddr zaC k90) ?_
   refine FL.val (zac rfl rfl rfl cA1) rfl rfl (E.load rfl (zag Tryz.isAgg3 ((at28.mono (((i42.tr i59).tr i71).tr i83)).now S82.sl) rfl)) ?_
   refine FL.call (zac rfl rfl rfl cA1) rfl rfl (E.call Tryz.call81 (A3 rfl rfl rfl)) (zb2 S82.sl a3 1 a0.vars) ?_
   rintro e wA2 ⟨rfl,rA3⟩
   refine ⟨_,rfl,?_⟩
   have SA4:=S82.call rA3
   refine FL.val (zac rfl rfl rfl cA1) rfl rfl (E.not rfl) ?_
   refine FL.v (E.pickF rfl cA1 rfl) ?_
   exact FL.nil ⟨rfl,_,SA4,(Inc.rfl _),k87,k88,k89,(congrArg Value.bool (bifF cA1).symm)⟩
 rintro fA0 w99 ⟨H96,S97,i98,kA5,kA6,kA7,kA8⟩
 refine FL.nil ?_
 rcases ifB hp with ⟨cA9,hp⟩|⟨cA9,hp⟩
 ·
  refine FW.condT kA8 cA9 ?_
  refine FW.seq (FW.region ?_)
  obtain ⟨vAa,wAb,runAc,SAd⟩:=S97.buildSlice (P:=Tryz.prog) te61 [] (parts:=#[]) (cells:=[]) rfl zan zam zae (Nat.le_of_ble_eq_true rfl)
  have elsAe:Els (up wa.heap.size H96) zah 4 [] []:=Els.nil
  refine FL.v (E.buildSlice (B0) runAc) ?_
  refine FL.v (E.assign (v:=vAa) rfl) ?_
  refine FL.v (E.assign (v:=Value.bool false) rfl) ?_
  refine FL.nil ?_
  refine FW.ret ?_
  obtain rfl:=Option.some.inj hp
  exact ⟨.inr rfl,res2 rfl rfl rfl ⟨_,_,_,_,rfl,SAd,elsAe,(show (bl []).Nodup from List.nodup_nil)⟩⟩
 ·
  refine FW.condF kA8 cA9 ?_
  refine FW.skip (FW.seq (FW.region ?_))
  refine FL.v (E.move kA5) ?_
  obtain ⟨rAf,hrAg,hp⟩:=bnd hp
  refine FL.call rfl rfl rfl (E.call Tryz.call112 (A1 rfl)) (w_spec_l7Last S97.sl v1 a1 (p1.mono (((((i27.tr i42).tr i59).tr i71).tr i83).tr i98)) hrAg) ?_
  rintro e wAi ⟨HAh,vAl,rfl,rAk,hAm⟩
  refine ⟨_,rfl,?_⟩
  have SAj:=S97.call rAk
  refine FL.v (E.move kA6) ?_
  obtain ⟨rAn,hrAo,hp⟩:=bnd hp
  refine FL.call rfl rfl rfl (E.call Tryz.call112 (A1 rfl)) (w_spec_l7Last SAj.sl v2 a2 (p2.mono ((((((i27.tr i42).tr i59).tr i71).tr i83).tr i98).tr rAk.inc)) hrAo) ?_
  rintro e wAq ⟨HAp,vAt,rfl,rAs,hAu⟩
  refine ⟨_,rfl,?_⟩
  have SAr:=SAj.call rAs
  refine FL.v (E.move kA7) ?_
  obtain ⟨rAv,hrAw,hp⟩:=bnd hp
  refine FL.call rfl rfl rfl (E.call Tryz.call103 (A3 rfl rfl rfl)) (zb3 SAr.sl vAl rAf (hAm.mono rAs.inc) vAt rAn hAu a3 hrAw) ?_
  rintro e wAy ⟨HAx,vAB,nAC,csAD,rfl,rAA,elsAE⟩
  refine ⟨_,rfl,?_⟩
  have elsAE:=elsAE.mono (up_le SAr.size)
  have SAz:=SAr.join (l':=[.row 3 1 vAB nAC csAD]) rAA rfl
  refine FL.v (E.move (v:=Value.tuple #[vAB,Value.bool rAv.2]) rfl) ?_
  refine FL.v (E.extract (i:=0) rfl rfl) ?_
  refine FL.v (E.extract (i:=1) rfl rfl) ?_
  refine FL.v (E.assign (v:=vAB) rfl) ?_
  refine FL.v (E.assign (v:=Value.bool rAv.2) rfl) ?_
  refine FL.nil (FW.seq (FW.seq (FW.region ?_)))
  refine FL.v (E.move (v:=Value.bool rAv.2) rfl) ?_
  refine FL.v (E.not rfl) ?_
  refine FL.nil ?_
  rcases ifB hp with ⟨cAF,hp⟩|⟨cAF,hp⟩
  ·
   refine FW.condT rfl cAF ?_
   refine FW.seq (FW.region ?_)
   obtain ⟨vAG,wAH,runAI,SAJ⟩:=SAz.buildSlice (P:=Tryz.prog) te61 [] (parts:=#[]) (cells:=[]) rfl zan zam zae (Nat.le_of_ble_eq_true rfl)
   have elsAK:Els (up wa.heap.size HAx) zah 4 [] []:=Els.nil
   refine FL.v (E.buildSlice (B0) runAI) ?_
   refine FL.v (E.assign (v:=vAG) rfl) ?_
   refine FL.v (E.assign (v:=Value.bool false) rfl) ?_
   refine FL.nil ?_
   refine FW.ret ?_
   obtain rfl:=Option.some.inj hp
   exact ⟨.inr rfl,res2 rfl rfl rfl ⟨_,_,_,_,rfl,(SAJ.sel [0] (by decide) rfl),elsAK,(show (bl []).Nodup from List.nodup_nil)⟩⟩
  ·
   refine FW.condF rfl cAF ?_
   refine FW.skip (FW.seq (FW.region ?_))
   refine FL.v (E.move kA5) ?_
   refine FL.v (E.move kA6) ?_
   obtain ⟨rAL,hrAM,hp⟩:=bnd hp
   refine FL.call rfl rfl rfl (E.call Tryz.call113 (A2 rfl rfl)) (w_spec_l7Behind SAz.sl v1 a1 (p1.mono ((((((((i27.tr i42).tr i59).tr i71).tr i83).tr i98).tr rAk.inc).tr rAs.inc).tr rAA.run.inc)) v2 a2 (p2.mono ((((((((i27.tr i42).tr i59).tr i71).tr i83).tr i98).tr rAk.inc).tr rAs.inc).tr rAA.run.inc)) hrAM) ?_
   rintro e wAO ⟨HAN,vAR,nAS,csAT,rfl,rAQ,elsAU,ndAV⟩
   refine ⟨_,rfl,?_⟩
   have nvAW:New HAx csAT:=New.of_up SAz.sl elsAU.dom
   have elsAU:=elsAU.mono (up_le SAz.size)
   have SAP:=SAz.join (l':=[.row 134 4 vAR nAS csAT,.row 3 1 vAB nAC csAD]) rAQ rfl
   refine FL.v (E.move (v:=vAB) rfl) ?_
   refine FL.v (E.move kA5) ?_
   refine FL.v (E.lenP te61 rfl p1) ?_
   refine FL.v (E.sub rfl rfl) ?_
   refine FL.v (E.move kA5) ?_
   refine FL.v (E.lenP te61 rfl p1) ?_
   refine FL.v (E.move kA6) ?_
   refine FL.v (E.lenP te61 rfl p2) ?_
   refine FL.v (E.add rfl rfl) ?_
   refine FL.v (E.sub rfl rfl) ?_
   refine FL.v (E.move kA7) ?_
   refine FL.v (E.build (B4 rfl rfl rfl rfl) (run_build _ 134 #[(0,vAB),(1,Value.int .i64 (wr ((len a1) - 1))),(2,Value.int .i64 (wr ((wr ((len a1) + (len a2))) - 1))),(3,Value.int .i64 a3)] #[vAB,Value.int .i64 (wr ((len a1) - 1)),Value.int .i64 (wr ((wr ((len a1) + (len a2))) - 1)),Value.int .i64 a3] (by obtain ⟨_,_,rfl⟩:=SAP.row_ln (i:=1) rfl;rfl))) ?_
   obtain ⟨HAX,SAY,iAZ,hB0,nvB1⟩:=SAP.sealRowU (i:=1) (l':=[.row 134 4 vAR nAS csAT]) rfl (elsAE.mono (zaf rAQ.run.inc)) (by decide) rfl
   obtain ⟨vB2,wB3,runB4,SB5⟩:=SAY.buildSlice (P:=Tryz.prog) te61 [Value.agg #[vAB,Value.int .i64 (wr ((len a1) - 1)),Value.int .i64 (wr ((wr ((len a1) + (len a2))) - 1)),Value.int .i64 a3]] (parts:=#[(0,Value.agg #[vAB,Value.int .i64 (wr ((len a1) - 1)),Value.int .i64 (wr ((wr ((len a1) + (len a2))) - 1)),Value.int .i64 a3])]) (cells:=[vAB,Value.int .i64 (wr ((len a1) - 1)),Value.int .i64 (wr ((wr ((len a1) + (len a2))) - 1)),Value.int .i64 a3]) rfl (zas rfl zan) (zar rfl zam) (zab hB0.one (zab rfl (zab rfl (zab rfl zae)))) (Nat.le_of_ble_eq_true rfl)
   have elsB6:Els (up wa.heap.size HAX) zah 4 [vAB,Value.int .i64 (wr ((len a1) - 1)),Value.int .i64 (wr ((wr ((len a1) + (len a2))) - 1)),Value.int .i64 a3] [(zaa.mk rAv.1 (wr ((len a1) - 1)) (wr ((wr ((len a1) + (len a2))) - 1)) a3)]:=(Els.snoc (H:=(up wa.heap.size HAX)) (E:=zah) (k:=4) (c:=[vAB,Value.int .i64 (wr ((len a1) - 1)),Value.int .i64 (wr ((wr ((len a1) + (len a2))) - 1)),Value.int .i64 a3]) (x:=(zaa.mk rAv.1 (wr ((len a1) - 1)) (wr ((wr ((len a1) + (len a2))) - 1)) a3)) Els.nil rfl ⟨_,rfl,hB0⟩)
   have ndB7:(bl [vAB,Value.int .i64 (wr ((len a1) - 1)),Value.int .i64 (wr ((wr ((len a1) + (len a2))) - 1)),Value.int .i64 a3]).Nodup:=by exact zaT vAB
   refine FL.v (E.buildSlice (B1 rfl) runB4) ?_
   obtain ⟨xsB8,hzB9,hp⟩:=bnd hp
   obtain ⟨vBa,wBd,nBb,csBc,runBe,SBf,elsBg,ceBh⟩:=SB5.appendO (P:=Tryz.prog) te61 (i:=1) (j:=0) rfl (elsAU.mono (zaf iAZ)) rfl elsB6 hzB9
   have SBf:St Ha wa HAX wBd [.row 134 4 vB2 1 [vAB,Value.int .i64 (wr ((len a1) - 1)),Value.int .i64 (wr ((wr ((len a1) + (len a2))) - 1)),Value.int .i64 a3],.row 134 4 vBa nBb csBc]:=SBf
   have ndBi:(bl csBc).Nodup:=by rw [ceBh];exact zaS ndAV ndB7 (Els.dom (elsAU.mono (upI.tr (Inc.rfl _)))) (by exact nvB1)
   have SBj:St Ha wa HAX wBd [.row 134 4 vBa nBb csBc]:=SBf.drop 0
   refine FL.v (E.append rfl rfl runBe) ?_
   refine FL.v (E.assign (v:=vBa) rfl) ?_
   refine FL.v (E.assign (v:=Value.bool true) rfl) ?_
   refine FL.nil ?_
   refine FW.ret ?_
   obtain rfl:=Option.some.inj hp
   exact ⟨.inr rfl,res2 rfl rfl rfl ⟨_,_,_,_,rfl,SBj,elsBg,ndBi⟩⟩

set_option maxHeartbeats 4000000 in
theorem w_laws_vInts {Ha:GH} {wa:World} (hs:Sl Ha wa) (v0:Value) (a0:List Int) (p0:RSl Ha eI 1 v0 a0) (v1:Value) (a1:List Int) (p1:RSl Ha eI 1 v1 a1) {r:Bool} (hp:(PF.zcq a0 a1)=some r) :
  Calls Tryz.prog 46 #[v0,v1] wa (Sc Ha wa (Value.bool r)):=by
 unfold PF.zcq at hp
 have S0:=St.init hs
 refine zaj (N:=26) (args:=[v0,v1]) Tryz.func46 rfl rfl rfl ?_
 refine FW.seq (FW.region ?_)
 refine FL.v (E.assign (v:=Value.bool false) rfl) ?_
 refine FL.nil (FW.seq (FW.seq (FW.region ?_)))
 refine FL.v (E.move (v:=v0) rfl) ?_
 refine FL.v (E.lenP te52 rfl p0) ?_
 refine FL.v (E.move (v:=v1) rfl) ?_
 refine FL.v (E.lenP te52 rfl p1) ?_
 refine FL.v (E.neq rfl rfl) ?_
 refine FL.nil ?_
 rcases ifB hp with ⟨c21,hp⟩|⟨c21,hp⟩
 ·
  refine FW.condT rfl c21 ?_
  refine FW.seq (FW.region ?_)
  refine FL.v (E.assign (v:=Value.bool false) rfl) ?_
  refine FL.nil ?_
  refine FW.ret ?_
  obtain rfl:=Option.some.inj hp
  exact ⟨.inr rfl,res1 rfl rfl ⟨rfl,S0.back⟩⟩
 ·
  refine FW.condF rfl c21 ?_
  refine FW.skip (FW.seq (FW.seq (FW.region ?_)))
  refine FL.v (E.assign (v:=Value.int .i64 0) rfl) ?_
  refine FL.nil ?_
  obtain ⟨q23,hq,hp⟩:=bndR hp
  refine FW.block ?_
  refine FW.mono (FW.forL (S:=Unit) (X:=Bool) (fun (i23:Nat) (s23:Unit) f w=>∃ H:GH,St Ha wa H w []∧Inc Ha H∧f 5=Value.int .i64 ((i23:Nat):Int)∧f 0=v0∧f 1=v1) (fun q e f w=>match q with|.go s23=>e=Exit.exit 0∧(∃ H:GH,St Ha wa H w []∧Inc Ha H)|.rt x=>((e=Exit.ret)∧(fun e f w=>(e=Exit.normal∨e=Exit.ret)∧∀ a,Fr (δ:=[]) 26 a f→∃ v,(results Tryz.f46 a.tmps).run Tryz.prog w=.ok v w∧(Sc Ha wa (Value.bool x)) (.returned v) w) e f w)) hq ⟨_,S0,(Inc.rfl _),rfl,rfl,rfl⟩ ?_ ?_) ?_
  ·
   clear hp hq
   rintro i23 y22 s23 f55 w54 ⟨H51,S52,i53,k56,k57,k58⟩ hx23 o78 hp
   refine FW.seq (FW.seq (FW.region ?_))
   refine FL.v (E.move k56) ?_
   refine FL.v (E.move k57) ?_
   refine FL.v (E.lenP te52 rfl p0) ?_
   refine FL.v (E.lssT rfl rfl (zaF hx23)) ?_
   refine FL.nil ?_
   refine FW.condT rfl rfl ?_
   refine FW.skip (FW.seq (FW.block (FW.seq ?_)))
   refine FW.draw (fun w'=>Run w54.heap.size H51 w54 H51 w') (by kernel_rfl) (by kernel_rfl) (zaQ S52.sl) ?_
   refine FD.val rfl rfl rfl (fun w' hw'=>(E.move k57)) ?_
   refine FD.val rfl rfl rfl (fun w' hw'=>(E.move k56)) ?_
   obtain ⟨p60,cs61,pt62,l63,at64,rel65⟩:=p0.at (zaz hx23)
   obtain rfl:=zao rel65
   refine FD.val rfl rfl rfl (fun w' hw'=>(E.indexAddr te52 rfl rfl pt62)) ?_
   refine FD.val rfl rfl rfl (fun w' hw'=>(E.load rfl (zak Tryz.isAgg3 ((at64.mono i53).now (S52.call hw').sl) rfl))) ?_
   refine FD.val rfl rfl rfl (fun w' hw'=>(E.move k58)) ?_
   refine FD.val rfl rfl rfl (fun w' hw'=>(E.move k56)) ?_
   obtain ⟨x72,hx73,hp⟩:=bnd hp
   obtain ⟨p66,cs67,pt68,l69,at70,rel71⟩:=p1.at hx73
   obtain rfl:=zao rel71
   refine FD.val rfl rfl rfl (fun w' hw'=>(E.indexAddr te52 rfl rfl pt68)) ?_
   refine FD.val rfl rfl rfl (fun w' hw'=>(E.load rfl (zak Tryz.isAgg3 ((at70.mono i53).now (S52.call hw').sl) rfl))) ?_
   refine FD.val rfl rfl rfl (fun w' hw'=>(E.neq rfl rfl)) ?_
   refine FD.nil ?_
   intro w74 r76
   have S75:=S52.call r76
   rcases ifB hp with ⟨c77,hp⟩|⟨c77,hp⟩
   ·
    refine FW.condT rfl c77 ?_
    refine FW.seq (FW.region ?_)
    refine FL.v (E.assign (v:=Value.bool false) rfl) ?_
    refine FL.nil ?_
    refine FW.ret ?_
    obtain rfl:=Option.some.inj hp
    exact ⟨nofun,rfl,⟨.inr rfl,res1 rfl rfl ⟨rfl,S75.back⟩⟩⟩
   ·
    refine FW.condF rfl c77 ?_
    refine FW.skip (FW.region ?_)
    refine FL.v (E.move k56) ?_
    refine FL.v (E.add rfl rfl) ?_
    refine FL.v (E.assign (v:=Value.int .i64 (wr (((i23:Nat):Int) + 1))) rfl) ?_
    refine FL.nil ?_
    obtain rfl:=Option.some.inj hp
    exact ⟨rfl,⟨_,S75,i53,(zaw rfl (zaB hx23) (p0.mono i53).le),k57,k58⟩⟩
  ·
   clear hp hq
   rintro s23 f88 w87 ⟨H84,S85,i86,k89,k90,k91⟩
   refine FW.seq (FW.seq (FW.region ?_))
   refine FL.v (E.move k89) ?_
   refine FL.v (E.move k90) ?_
   refine FL.v (E.lenP te52 rfl p0) ?_
   refine FL.v (E.lss rfl rfl) ?_
   refine FL.nil ?_
   refine FW.condF rfl zaG ?_
   refine FW.exit ?_
   exact ⟨nofun,rfl,⟨_,S85,i86⟩⟩
  ·
   clear hq
   intro e f83 w82 hD
   rcases q23 with s23|x23
   ·
    obtain ⟨rfl,hD⟩:=hD
    obtain ⟨H79,S80,i81⟩:=hD
    replace hp:=el_go hp
    refine FW.seq (FW.region ?_)
    refine FL.v (E.assign (v:=Value.bool true) rfl) ?_
    refine FL.nil ?_
    refine FW.ret ?_
    obtain rfl:=Option.some.inj hp
    exact ⟨.inr rfl,res1 rfl rfl ⟨rfl,S80.back⟩⟩
   ·
    obtain ⟨he,hL⟩:=hD
    replace hp:=el_rt hp
    obtain rfl:=Option.some.inj hp
    subst he
    exact hL

set_option maxHeartbeats 4000000 in
theorem w_laws_vSteps {Ha:GH} {wa:World} (hs:Sl Ha wa) (v0:Value) (a0:List zaa) (p0:RSl Ha zah 4 v0 a0) (v1:Value) (a1:List zaa) (p1:RSl Ha zah 4 v1 a1) {r:Bool} (hp:(PF.zdb a0 a1)=some r) :
  Calls Tryz.prog 43 #[v0,v1] wa (Sc Ha wa (Value.bool r)):=by
 unfold PF.zdb at hp
 have S0:=St.init hs
 refine zaj (N:=68) (args:=[v0,v1]) Tryz.func43 rfl rfl rfl ?_
 refine FW.seq (FW.region ?_)
 refine FL.v (E.assign (v:=Value.bool false) rfl) ?_
 refine FL.nil (FW.seq (FW.seq (FW.region ?_)))
 refine FL.v (E.move (v:=v0) rfl) ?_
 refine FL.v (E.lenP te61 rfl p0) ?_
 refine FL.v (E.move (v:=v1) rfl) ?_
 refine FL.v (E.lenP te61 rfl p1) ?_
 refine FL.v (E.neq rfl rfl) ?_
 refine FL.nil ?_
 rcases ifB hp with ⟨c21,hp⟩|⟨c21,hp⟩
 ·
  refine FW.condT rfl c21 ?_
  refine FW.seq (FW.region ?_)
  refine FL.v (E.assign (v:=Value.bool false) rfl) ?_
  refine FL.nil ?_
  refine FW.ret ?_
  obtain rfl:=Option.some.inj hp
  exact ⟨.inr rfl,res1 rfl rfl ⟨rfl,S0.back⟩⟩
 ·
  refine FW.condF rfl c21 ?_
  refine FW.skip (FW.seq (FW.seq (FW.region ?_)))
  refine FL.v (E.assign (v:=Value.int .i64 0) rfl) ?_
  refine FL.nil ?_
  obtain ⟨q23,hq,hp⟩:=bndR hp
  refine FW.block ?_
  refine FW.mono (FW.forL (S:=Unit) (X:=Bool) (fun (i23:Nat) (s23:Unit) f w=>∃ H:GH,St Ha wa H w []∧Inc Ha H∧f 5=Value.int .i64 ((i23:Nat):Int)∧f 0=v0∧f 1=v1) (fun q e f w=>match q with|.go s23=>e=Exit.exit 0∧(∃ H:GH,St Ha wa H w []∧Inc Ha H)|.rt x=>((e=Exit.ret)∧(fun e f w=>(e=Exit.normal∨e=Exit.ret)∧∀ a,Fr (δ:=[]) 68 a f→∃ v,(results Tryz.f43 a.tmps).run Tryz.prog w=.ok v w∧(Sc Ha wa (Value.bool x)) (.returned v) w) e f w)) hq ⟨_,S0,(Inc.rfl _),rfl,rfl,rfl⟩ ?_ ?_) ?_
  ·
   clear hp hq
   rintro i23 y22 s23 fBG wBF ⟨HBC,SBD,iBE,kBH,kBI,kBJ⟩ hx23 oEs hp
   refine FW.seq (FW.seq (FW.region ?_))
   refine FL.v (E.move kBH) ?_
   refine FL.v (E.move kBI) ?_
   refine FL.v (E.lenP te61 rfl p0) ?_
   refine FL.v (E.lssT rfl rfl (zaF hx23)) ?_
   refine FL.nil ?_
   refine FW.condT rfl rfl ?_
   refine FW.skip (FW.seq (FW.block (FW.seq ?_)))
   refine FW.draw (fun w'=>Run wBF.heap.size HBC wBF HBC w') (by kernel_rfl) (by kernel_rfl) (zaQ SBD.sl) ?_
   refine FD.val rfl rfl rfl (fun w' hw'=>(E.move kBI)) ?_
   refine FD.val rfl rfl rfl (fun w' hw'=>(E.move kBH)) ?_
   obtain ⟨pBL,csBM,ptBN,lBO,atBP,relBQ⟩:=p0.at (zaz hx23)
   obtain ⟨vBR,rfl,hBS⟩:=zap relBQ
   refine FD.val rfl rfl rfl (fun w' hw'=>(E.indexAddr te61 rfl rfl ptBN)) ?_
   refine FD.val rfl rfl rfl (fun w' hw'=>(E.fieldAddr zaN rfl)) ?_
   refine FD.val rfl rfl rfl (fun w' hw'=>(E.load rfl (zag Tryz.isAgg3 ((atBP.mono iBE).now (SBD.call hw').sl) rfl))) ?_
   refine FD.val rfl rfl rfl (fun w' hw'=>(E.move kBJ)) ?_
   refine FD.val rfl rfl rfl (fun w' hw'=>(E.move kBH)) ?_
   obtain ⟨xBZ,hxC0,hp⟩:=bnd hp
   obtain ⟨pBT,csBU,ptBV,lBW,atBX,relBY⟩:=p1.at hxC0
   obtain ⟨vC1,rfl,hC2⟩:=zap relBY
   refine FD.val rfl rfl rfl (fun w' hw'=>(E.indexAddr te61 rfl rfl ptBV)) ?_
   refine FD.val rfl rfl rfl (fun w' hw'=>(E.fieldAddr zaN rfl)) ?_
   refine FD.val rfl rfl rfl (fun w' hw'=>(E.load rfl (zag Tryz.isAgg3 ((atBX.mono iBE).now (SBD.call hw').sl) rfl))) ?_
   refine FD.val rfl rfl rfl (fun w' hw'=>(E.neq rfl rfl)) ?_
   refine FD.val rfl rfl rfl (fun w' hw'=>(E.move (v:=Value.bool (!(y22.left == xBZ.left))) rfl)) ?_
   obtain ⟨t245,hqtCl,hp⟩:=bnd hp
   refine FD.cut 12 (fun f=>f 0=v0∧f 1=v1∧f 5=Value.int .i64 ((i23:Nat):Int)∧f 40=Value.bool t245) ?_ ?_
   ·
    clear hp;have hp:=hqtCl;clear hqtCl
    rcases ifB hp with ⟨cCr,hp⟩|⟨cCr,hp⟩
    ·
     refine FD.skip (wF_no rfl rfl rfl cCr) rfl ?_
     refine FD.skip (wF_no rfl rfl rfl cCr) rfl ?_
     refine FD.skip (wF_no rfl rfl rfl cCr) rfl ?_
     refine FD.skip (wF_no rfl rfl rfl cCr) rfl ?_
     refine FD.skip (wF_no rfl rfl rfl cCr) rfl ?_
     refine FD.skip (wF_no rfl rfl rfl cCr) rfl ?_
     refine FD.skip (wF_no rfl rfl rfl cCr) rfl ?_
     refine FD.skip (wF_no rfl rfl rfl cCr) rfl ?_
     refine FD.skip (wF_no rfl rfl rfl cCr) rfl ?_
     refine FD.skip (wF_no rfl rfl rfl cCr) rfl ?_
     refine FD.skip (wF_no rfl rfl rfl cCr) rfl ?_
     obtain rfl:=Option.some.inj hp
     refine FD.val rfl rfl rfl (fun w' hw'=>(E.pickT rfl cCr rfl)) ?_
     exact FD.nil ⟨kBI,kBJ,kBH,rfl⟩
    ·
     refine FD.val (zac rfl rfl rfl cCr) rfl rfl (fun w' hw'=>(E.move kBI)) ?_
     refine FD.val (zac rfl rfl rfl cCr) rfl rfl (fun w' hw'=>(E.move kBH)) ?_
     obtain ⟨pCs,csCt,ptCu,lCv,atCw,relCx⟩:=p0.at (zaz hx23)
     obtain ⟨vCy,rfl,hCz⟩:=zap relCx
     refine FD.val (zac rfl rfl rfl cCr) rfl rfl (fun w' hw'=>(E.indexAddr te61 rfl rfl ptCu)) ?_
     refine FD.val (zac rfl rfl rfl cCr) rfl rfl (fun w' hw'=>(E.fieldAddr zaO rfl)) ?_
     refine FD.val (zac rfl rfl rfl cCr) rfl rfl (fun w' hw'=>(E.load rfl (zag Tryz.isAgg3 ((atCw.mono iBE).now (SBD.call hw').sl) rfl))) ?_
     refine FD.val (zac rfl rfl rfl cCr) rfl rfl (fun w' hw'=>(E.move kBJ)) ?_
     refine FD.val (zac rfl rfl rfl cCr) rfl rfl (fun w' hw'=>(E.move kBH)) ?_
     obtain ⟨xCG,hxCH,hp⟩:=bnd hp
     obtain ⟨pCA,csCB,ptCC,lCD,atCE,relCF⟩:=p1.at hxCH
     obtain ⟨vCI,rfl,hCJ⟩:=zap relCF
     refine FD.val (zac rfl rfl rfl cCr) rfl rfl (fun w' hw'=>(E.indexAddr te61 rfl rfl ptCC)) ?_
     refine FD.val (zac rfl rfl rfl cCr) rfl rfl (fun w' hw'=>(E.fieldAddr zaO rfl)) ?_
     refine FD.val (zac rfl rfl rfl cCr) rfl rfl (fun w' hw'=>(E.load rfl (zag Tryz.isAgg3 ((atCE.mono iBE).now (SBD.call hw').sl) rfl))) ?_
     refine FD.val (zac rfl rfl rfl cCr) rfl rfl (fun w' hw'=>(E.neq rfl rfl)) ?_
     obtain rfl:=Option.some.inj hp
     refine FD.val rfl rfl rfl (fun w' hw'=>(E.pickF rfl cCr rfl)) ?_
     exact FD.nil ⟨kBI,kBJ,kBH,rfl⟩
   rintro fCq ⟨kCK,kCL,kCM,kCN⟩
   refine FD.val rfl rfl rfl (fun w' hw'=>(E.move kCN)) ?_
   obtain ⟨t292,hqtD6,hp⟩:=bnd hp
   refine FD.cut 12 (fun f=>f 0=v0∧f 1=v1∧f 5=Value.int .i64 ((i23:Nat):Int)∧f 53=Value.bool t292) ?_ ?_
   ·
    clear hp;have hp:=hqtD6;clear hqtD6
    rcases ifB hp with ⟨cDc,hp⟩|⟨cDc,hp⟩
    ·
     refine FD.skip (wF_no rfl rfl rfl cDc) rfl ?_
     refine FD.skip (wF_no rfl rfl rfl cDc) rfl ?_
     refine FD.skip (wF_no rfl rfl rfl cDc) rfl ?_
     refine FD.skip (wF_no rfl rfl rfl cDc) rfl ?_
     refine FD.skip (wF_no rfl rfl rfl cDc) rfl ?_
     refine FD.skip (wF_no rfl rfl rfl cDc) rfl ?_
     refine FD.skip (wF_no rfl rfl rfl cDc) rfl ?_
     refine FD.skip (wF_no rfl rfl rfl cDc) rfl ?_
     refine FD.skip (wF_no rfl rfl rfl cDc) rfl ?_
     refine FD.skip (wF_no rfl rfl rfl cDc) rfl ?_
     refine FD.skip (wF_no rfl rfl rfl cDc) rfl ?_
     obtain rfl:=Option.some.inj hp
     refine FD.val rfl rfl rfl (fun w' hw'=>(E.pickT rfl cDc rfl)) ?_
     exact FD.nil ⟨kCK,kCL,kCM,rfl⟩
    ·
     refine FD.val (zac rfl rfl rfl cDc) rfl rfl (fun w' hw'=>(E.move kCK)) ?_
     refine FD.val (zac rfl rfl rfl cDc) rfl rfl (fun w' hw'=>(E.move kCM)) ?_
     obtain ⟨pDd,csDe,ptDf,lDg,atDh,relDi⟩:=p0.at (zaz hx23)
     obtain ⟨vDj,rfl,hDk⟩:=zap relDi
     refine FD.val (zac rfl rfl rfl cDc) rfl rfl (fun w' hw'=>(E.indexAddr te61 rfl rfl ptDf)) ?_
     refine FD.val (zac rfl rfl rfl cDc) rfl rfl (fun w' hw'=>(E.fieldAddr zbi rfl)) ?_
     refine FD.val (zac rfl rfl rfl cDc) rfl rfl (fun w' hw'=>(E.load rfl (zag Tryz.isAgg3 ((atDh.mono iBE).now (SBD.call hw').sl) rfl))) ?_
     refine FD.val (zac rfl rfl rfl cDc) rfl rfl (fun w' hw'=>(E.move kCL)) ?_
     refine FD.val (zac rfl rfl rfl cDc) rfl rfl (fun w' hw'=>(E.move kCM)) ?_
     obtain ⟨xDr,hxDs,hp⟩:=bnd hp
     obtain ⟨pDl,csDm,ptDn,lDo,atDp,relDq⟩:=p1.at hxDs
     obtain ⟨vDt,rfl,hDu⟩:=zap relDq
     refine FD.val (zac rfl rfl rfl cDc) rfl rfl (fun w' hw'=>(E.indexAddr te61 rfl rfl ptDn)) ?_
     refine FD.val (zac rfl rfl rfl cDc) rfl rfl (fun w' hw'=>(E.fieldAddr zbi rfl)) ?_
     refine FD.val (zac rfl rfl rfl cDc) rfl rfl (fun w' hw'=>(E.load rfl (zag Tryz.isAgg3 ((atDp.mono iBE).now (SBD.call hw').sl) rfl))) ?_
     refine FD.val (zac rfl rfl rfl cDc) rfl rfl (fun w' hw'=>(E.neq rfl rfl)) ?_
     obtain rfl:=Option.some.inj hp
     refine FD.val rfl rfl rfl (fun w' hw'=>(E.pickF rfl cDc rfl)) ?_
     exact FD.nil ⟨kCK,kCL,kCM,rfl⟩
   rintro fDb ⟨kDv,kDw,kDx,kDy⟩
   refine FD.val rfl rfl rfl (fun w' hw'=>(E.move kDy)) ?_
   obtain ⟨t341,hqtDT,hp⟩:=bnd hp
   refine FD.cut 13 (fun f=>f 0=v0∧f 1=v1∧f 5=Value.int .i64 ((i23:Nat):Int)∧f 67=Value.bool t341) ?_ ?_
   ·
    clear hp;have hp:=hqtDT;clear hqtDT
    rcases ifB hp with ⟨cDZ,hp⟩|⟨cDZ,hp⟩
    ·
     refine FD.skip (wF_no rfl rfl rfl cDZ) rfl ?_
     refine FD.skip (wF_no rfl rfl rfl cDZ) rfl ?_
     refine FD.skip (wF_no rfl rfl rfl cDZ) rfl ?_
     refine FD.skip (wF_no rfl rfl rfl cDZ) rfl ?_
     refine FD.skip (wF_no rfl rfl rfl cDZ) rfl ?_
     refine FD.skip (wF_no rfl rfl rfl cDZ) rfl ?_
     refine FD.skip (wF_no rfl rfl rfl cDZ) rfl ?_
     refine FD.skip (wF_no rfl rfl rfl cDZ) rfl ?_
     refine FD.skip (wF_no rfl rfl rfl cDZ) rfl ?_
     refine FD.skip (wF_no rfl rfl rfl cDZ) rfl ?_
     refine FD.skip (wF_no rfl rfl rfl cDZ) rfl ?_
     refine FD.skip (wF_no rfl rfl rfl cDZ) rfl ?_
     obtain rfl:=Option.some.inj hp
     refine FD.val rfl rfl rfl (fun w' hw'=>(E.pickT rfl cDZ rfl)) ?_
     exact FD.nil ⟨kDv,kDw,kDx,rfl⟩
    ·
     refine FD.val (zac rfl rfl rfl cDZ) rfl rfl (fun w' hw'=>(E.move kDv)) ?_
     refine FD.val (zac rfl rfl rfl cDZ) rfl rfl (fun w' hw'=>(E.move kDx)) ?_
     obtain ⟨pE0,csE1,ptE2,lE3,atE4,relE5⟩:=p0.at (zaz hx23)
     obtain ⟨vE6,rfl,hE7⟩:=zap relE5
     refine FD.val (zac rfl rfl rfl cDZ) rfl rfl (fun w' hw'=>(E.indexAddr te61 rfl rfl ptE2)) ?_
     refine FD.val (zac rfl rfl rfl cDZ) rfl rfl (fun w' hw'=>(E.fieldAddr zav rfl)) ?_
     refine FD.val (zac rfl rfl rfl cDZ) rfl rfl (fun w' hw'=>(E.load rfl (zag Tryz.isAgg52 ((atE4.mono iBE).now (SBD.call hw').sl) rfl))) ?_
     refine FD.val (zac rfl rfl rfl cDZ) rfl rfl (fun w' hw'=>(E.move kDw)) ?_
     refine FD.val (zac rfl rfl rfl cDZ) rfl rfl (fun w' hw'=>(E.move kDx)) ?_
     obtain ⟨xEe,hxEf,hp⟩:=bnd hp
     obtain ⟨pE8,csE9,ptEa,lEb,atEc,relEd⟩:=p1.at hxEf
     obtain ⟨vEg,rfl,hEh⟩:=zap relEd
     refine FD.val (zac rfl rfl rfl cDZ) rfl rfl (fun w' hw'=>(E.indexAddr te61 rfl rfl ptEa)) ?_
     refine FD.val (zac rfl rfl rfl cDZ) rfl rfl (fun w' hw'=>(E.fieldAddr zav rfl)) ?_
     refine FD.val (zac rfl rfl rfl cDZ) rfl rfl (fun w' hw'=>(E.load rfl (zag Tryz.isAgg52 ((atEc.mono iBE).now (SBD.call hw').sl) rfl))) ?_
     obtain ⟨rEi,hrEj,hp⟩:=bnd hp
     refine FD.call (zac rfl rfl rfl cDZ) rfl rfl (fun w' hw'=>(E.call Tryz.call46 (A2 rfl rfl))) (fun w' hw'=>Calls.cls hw' (w_laws_vInts (SBD.call hw').sl vE6 y22.clause (hE7.mono iBE) vEg xEe.clause (hEh.mono iBE) hrEj)) ?_
     refine FD.val (zac rfl rfl rfl cDZ) rfl rfl (fun w' hw'=>(E.not rfl)) ?_
     obtain rfl:=Option.some.inj hp
     refine FD.val rfl rfl rfl (fun w' hw'=>(E.pickF rfl cDZ rfl)) ?_
     exact FD.nil ⟨kDv,kDw,kDx,rfl⟩
   rintro fDY ⟨kEk,kEl,kEm,kEn⟩
   refine FD.nil ?_
   intro wEo rEq
   have SEp:=SBD.call rEq
   rcases ifB hp with ⟨cEr,hp⟩|⟨cEr,hp⟩
   ·
    refine FW.condT kEn cEr ?_
    refine FW.seq (FW.region ?_)
    refine FL.v (E.assign (v:=Value.bool false) rfl) ?_
    refine FL.nil ?_
    refine FW.ret ?_
    obtain rfl:=Option.some.inj hp
    exact ⟨nofun,rfl,⟨.inr rfl,res1 rfl rfl ⟨rfl,SEp.back⟩⟩⟩
   ·
    refine FW.condF kEn cEr ?_
    refine FW.skip (FW.region ?_)
    refine FL.v (E.move kEm) ?_
    refine FL.v (E.add rfl rfl) ?_
    refine FL.v (E.assign (v:=Value.int .i64 (wr (((i23:Nat):Int) + 1))) rfl) ?_
    refine FL.nil ?_
    obtain rfl:=Option.some.inj hp
    exact ⟨rfl,⟨_,SEp,iBE,(zaw rfl (zaB hx23) (p0.mono iBE).le),kEk,kEl⟩⟩
  ·
   clear hp hq
   rintro s23 fEC wEB ⟨HEy,SEz,iEA,kED,kEE,kEF⟩
   refine FW.seq (FW.seq (FW.region ?_))
   refine FL.v (E.move kED) ?_
   refine FL.v (E.move kEE) ?_
   refine FL.v (E.lenP te61 rfl p0) ?_
   refine FL.v (E.lss rfl rfl) ?_
   refine FL.nil ?_
   refine FW.condF rfl zaG ?_
   refine FW.exit ?_
   exact ⟨nofun,rfl,⟨_,SEz,iEA⟩⟩
  ·
   clear hq
   intro e fEx wEw hD
   rcases q23 with s23|x23
   ·
    obtain ⟨rfl,hD⟩:=hD
    obtain ⟨HEt,SEu,iEv⟩:=hD
    replace hp:=el_go hp
    refine FW.seq (FW.region ?_)
    refine FL.v (E.assign (v:=Value.bool true) rfl) ?_
    refine FL.nil ?_
    refine FW.ret ?_
    obtain rfl:=Option.some.inj hp
    exact ⟨.inr rfl,res1 rfl rfl ⟨rfl,SEu.back⟩⟩
   ·
    obtain ⟨he,hL⟩:=hD
    replace hp:=el_rt hp
    obtain rfl:=Option.some.inj hp
    subst he
    exact hL

@[reducible] def ze1 (Ha:GH) (wa:World) (r:((List Int)×Bool)):Ending→World→Prop :=
 fun e w'=>∃ H':GH,∃ v0:Value,∃ n0:Nat,∃ c0:List Value,e=.returned (Value.tuple #[v0,Value.bool r.2])∧St Ha wa H' w' [.row 3 1 v0 n0 c0]∧Els (up wa.heap.size H') eI 1 c0 r.1
theorem zd2 {Ha:GH} {wa:World} (hs:Sl Ha wa) (a0:Cnf) (v0_1:Value) (p0_1:RSl Ha (eL eI 1) 1 v0_1 a0.clauses) (v1:Value) (a1:List zaa) (p1:RSl Ha zah 4 v1 a1) {r:((List Int)×Bool)} (hp:(PF.zbx a0 a1)=some r) :
  Calls Tryz.prog 44 #[Value.agg #[Value.int .i64 a0.vars,v0_1],v1] wa (ze1 Ha wa r):=by
 unfold PF.zbx at hp
 have S0:=St.init hs
 refine zaj (N:=19) (args:=[Value.agg #[Value.int .i64 a0.vars,v0_1],v1]) Tryz.func44 rfl rfl rfl ?_
 refine FW.seq (FW.region ?_)
 obtain ⟨b21,w22,run23,S24⟩:=S0.box (P:=Tryz.prog) 26 [Value.int .i64 a0.vars,v0_1] (v:=Value.agg #[Value.int .i64 a0.vars,v0_1]) rfl (zab rfl (zab p0_1.one zae))
 refine FL.v (E.box rfl run23) ?_
 obtain ⟨H25,S26,i27,at28⟩:=S24.sealBox (i:=0) (l':=[]) rfl rfl
 refine FL.v (E.assign (v:=Value.slice none 0 0) rfl) ?_
 refine FL.v (E.assign (v:=Value.bool false) rfl) ?_
 refine FL.nil (FW.seq (FW.seq (FW.region ?_)))
 refine FL.v (E.load rfl (zal Tryz.isAgg26 Tryz.sizeOf26 (at28.now S26.sl) rfl)) ?_
 refine FL.v (E.move (v:=v1) rfl) ?_
 obtain ⟨r29,hr30,hp⟩:=bnd hp
 refine FL.call rfl rfl rfl (E.call Tryz.call105 (A2 rfl rfl)) (zdC S26.sl a0 v0_1 (p0_1.mono i27) v1 a1 (p1.mono i27) hr30) ?_
 rintro e w31 ⟨rfl,r32⟩
 refine ⟨_,rfl,?_⟩
 have S33:=S26.call r32
 refine FL.v (E.not rfl) ?_
 refine FL.v (E.move (v:=Value.bool (!r29)) rfl) ?_
 refine FL.cut 4 (fun f w=>∃ H:GH,St Ha wa H w []∧Inc H25 H∧f 1=v1∧f 14=Value.bool (bif (!r29) then true else ((len a1) == 0))) ?_ ?_
 ·
  rcases bcase (!r29) with c40|c40
  ·
   refine FL.skip (wF_no rfl rfl rfl c40) rfl ?_
   refine FL.skip (wF_no rfl rfl rfl c40) rfl ?_
   refine FL.skip (wF_no rfl rfl rfl c40) rfl ?_
   refine FL.v (E.pickT rfl c40 rfl) ?_
   exact FL.nil ⟨rfl,_,S33,(Inc.rfl _),rfl,(congrArg Value.bool (bifT c40).symm)⟩
  ·
   refine FL.val (zac rfl rfl rfl c40) rfl rfl (E.move (v:=v1) rfl) ?_
   refine FL.val (zac rfl rfl rfl c40) rfl rfl (E.lenP te61 rfl p1) ?_
   refine FL.val (zac rfl rfl rfl c40) rfl rfl (E.eql rfl rfl) ?_
   refine FL.v (E.pickF rfl c40 rfl) ?_
   exact FL.nil ⟨rfl,_,S33,(Inc.rfl _),rfl,(congrArg Value.bool (bifF c40).symm)⟩
 rintro f39 w38 ⟨H35,S36,i37,k41,k42⟩
 refine FL.nil ?_
 rcases ifB hp with ⟨c43,hp⟩|⟨c43,hp⟩
 ·
  refine FW.condT k42 c43 ?_
  refine FW.seq (FW.region ?_)
  refine FL.v (E.assign (v:=Value.slice none 0 0) rfl) ?_
  refine FL.v (E.assign (v:=Value.bool false) rfl) ?_
  refine FL.nil ?_
  refine FW.ret ?_
  obtain rfl:=Option.some.inj hp
  exact ⟨.inr rfl,res2 rfl rfl rfl ⟨_,_,_,_,rfl,(S36.nil 3 1),Els.nil⟩⟩
 ·
  refine FW.condF k42 c43 ?_
  refine FW.skip (FW.seq (FW.region ?_))
  refine FL.v (E.move k41) ?_
  obtain ⟨r44,hr45,hp⟩:=bnd hp
  refine FL.call rfl rfl rfl (E.call Tryz.call108 (A1 rfl)) (zd1 S36.sl v1 a1 (p1.mono (i27.tr i37)) hr45) ?_
  rintro e w47 ⟨H46,v50,rfl,r49,h51⟩
  refine ⟨_,rfl,?_⟩
  have S48:=S36.call r49
  refine FL.v (E.field (fd134_0 rfl) rfl) ?_
  obtain ⟨r52,hr53,hp⟩:=bnd hp
  refine FL.call rfl rfl rfl (E.call Tryz.call114 (A1 rfl)) (zdj S48.sl v50 r44.clause h51 hr53) ?_
  rintro e w55 ⟨H54,v58,n59,cs60,rfl,r57,els61⟩
  refine ⟨_,rfl,?_⟩
  have els61:=els61.mono (up_le S48.size)
  have S56:=S48.join (l':=[.row 3 1 v58 n59 cs60]) r57 rfl
  refine FL.v (E.assign (v:=v58) rfl) ?_
  refine FL.v (E.assign (v:=Value.bool true) rfl) ?_
  refine FL.nil ?_
  refine FW.ret ?_
  obtain rfl:=Option.some.inj hp
  exact ⟨.inr rfl,res2 rfl rfl rfl ⟨_,_,_,_,rfl,S56,els61⟩⟩

@[reducible] def p_impl_ResolveOn (Ha:GH) (wa:World) (r:((List Int)×Bool)):Ending→World→Prop :=
 fun e w'=>∃ H':GH,∃ v0:Value,∃ n0:Nat,∃ c0:List Value,e=.returned (Value.tuple #[v0,Value.bool r.2])∧St Ha wa H' w' [.row 3 1 v0 n0 c0]∧Els (up wa.heap.size H') eI 1 c0 r.1
theorem w_impl_ResolveOn {Ha:GH} {wa:World} (hs:Sl Ha wa) (a0:Int) (v1:Value) (a1:List Int) (p1:RSl Ha eI 1 v1 a1) (v2:Value) (a2:List Int) (p2:RSl Ha eI 1 v2 a2) (a3:Int) {r:((List Int)×Bool)} (hp:(PF.zcr a0 a1 a2 a3)=some r) :
  Calls Tryz.prog 45 #[Value.int .i64 a0,v1,v2,Value.int .i64 a3] wa (p_impl_ResolveOn Ha wa r):=by
 unfold PF.zcr at hp
 have S0:=St.init hs
 refine zaj (N:=32) (args:=[Value.int .i64 a0,v1,v2,Value.int .i64 a3]) Tryz.func45 rfl rfl rfl ?_
 refine FW.seq (FW.region ?_)
 refine FL.v (E.assign (v:=Value.slice none 0 0) rfl) ?_
 refine FL.v (E.assign (v:=Value.bool false) rfl) ?_
 refine FL.nil (FW.seq (FW.seq (FW.region ?_)))
 refine FL.v (E.move (v:=Value.int .i64 a0) rfl) ?_
 refine FL.v (E.move (v:=v1) rfl) ?_
 obtain ⟨r21,hr22,hp⟩:=bnd hp
 refine FL.call rfl rfl rfl (E.call Tryz.call115 (A2 rfl rfl)) (zdi S0.sl a0 v1 a1 p1 hr22) ?_
 rintro e w23 ⟨rfl,r24⟩
 refine ⟨_,rfl,?_⟩
 have S25:=S0.call r24
 refine FL.v (E.not rfl) ?_
 refine FL.v (E.move (v:=Value.bool (!r21)) rfl) ?_
 obtain ⟨t31,hqt31,hp⟩:=bnd hp
 refine FL.cut 5 (fun f w=>∃ H:GH,St Ha wa H w []∧Inc Ha H∧f 0=Value.int .i64 a0∧f 1=v1∧f 2=v2∧f 3=Value.int .i64 a3∧f 19=Value.bool t31) ?_ ?_
 ·
  clear hp;have hp:=hqt31;clear hqt31
  rcases ifB hp with ⟨c37,hp⟩|⟨c37,hp⟩
  ·
   refine FL.skip (wF_no rfl rfl rfl c37) rfl ?_
   refine FL.skip (wF_no rfl rfl rfl c37) rfl ?_
   refine FL.skip (wF_no rfl rfl rfl c37) rfl ?_
   refine FL.skip (wF_no rfl rfl rfl c37) rfl ?_
   obtain rfl:=Option.some.inj hp
   refine FL.v (E.pickT rfl c37 rfl) ?_
   exact FL.nil ⟨rfl,_,S25,(Inc.rfl _),rfl,rfl,rfl,rfl,rfl⟩
  ·
   refine FL.val (zac rfl rfl rfl c37) rfl rfl (E.move (v:=Value.int .i64 a0) rfl) ?_
   refine FL.val (zac rfl rfl rfl c37) rfl rfl (E.move (v:=v2) rfl) ?_
   obtain ⟨r38,hr39,hp⟩:=bnd hp
   refine FL.call (zac rfl rfl rfl c37) rfl rfl (E.call Tryz.call115 (A2 rfl rfl)) (zdi S25.sl a0 v2 a2 p2 hr39) ?_
   rintro e w40 ⟨rfl,r41⟩
   refine ⟨_,rfl,?_⟩
   have S42:=S25.call r41
   refine FL.val (zac rfl rfl rfl c37) rfl rfl (E.not rfl) ?_
   obtain rfl:=Option.some.inj hp
   refine FL.v (E.pickF rfl c37 rfl) ?_
   exact FL.nil ⟨rfl,_,S42,(Inc.rfl _),rfl,rfl,rfl,rfl,rfl⟩
 rintro f36 w35 ⟨H32,S33,i34,k43,k44,k45,k46,k47⟩
 refine FL.v (E.move k47) ?_
 refine FL.cut 5 (fun f w=>∃ H:GH,St Ha wa H w []∧Inc H32 H∧f 1=v1∧f 2=v2∧f 3=Value.int .i64 a3∧f 25=Value.bool (bif t31 then true else (!(PF.zbg a0 a3)))) ?_ ?_
 ·
  rcases bcase t31 with c57|c57
  ·
   refine FL.skip (wF_no rfl rfl rfl c57) rfl ?_
   refine FL.skip (wF_no rfl rfl rfl c57) rfl ?_
   refine FL.skip (wF_no rfl rfl rfl c57) rfl ?_
   refine FL.skip (wF_no rfl rfl rfl c57) rfl ?_
   refine FL.v (E.pickT rfl c57 rfl) ?_
   exact FL.nil ⟨rfl,_,S33,(Inc.rfl _),k44,k45,k46,(congrArg Value.bool (bifT c57).symm)⟩
  ·
   refine FL.val (zac rfl rfl rfl c57) rfl rfl (E.move k43) ?_
   refine FL.val (zac rfl rfl rfl c57) rfl rfl (E.move k46) ?_
   refine FL.call (zac rfl rfl rfl c57) rfl rfl (E.call Tryz.call106 (A2 rfl rfl)) (zdZ S33.sl a0 a3) ?_
   rintro e w58 ⟨rfl,r59⟩
   refine ⟨_,rfl,?_⟩
   have S60:=S33.call r59
   refine FL.val (zac rfl rfl rfl c57) rfl rfl (E.not rfl) ?_
   refine FL.v (E.pickF rfl c57 rfl) ?_
   exact FL.nil ⟨rfl,_,S60,(Inc.rfl _),k44,k45,k46,(congrArg Value.bool (bifF c57).symm)⟩
 rintro f56 w55 ⟨H52,S53,i54,k61,k62,k63,k64⟩
 refine FL.nil ?_
 rcases ifB hp with ⟨c65,hp⟩|⟨c65,hp⟩
 ·
  refine FW.condT k64 c65 ?_
  refine FW.seq (FW.region ?_)
  refine FL.v (E.assign (v:=Value.slice none 0 0) rfl) ?_
  refine FL.v (E.assign (v:=Value.bool false) rfl) ?_
  refine FL.nil ?_
  refine FW.ret ?_
  obtain rfl:=Option.some.inj hp
  exact ⟨.inr rfl,res2 rfl rfl rfl ⟨_,_,_,_,rfl,(S53.nil 3 1),Els.nil⟩⟩
 ·
  refine FW.condF k64 c65 ?_
  refine FW.skip (FW.seq (FW.region ?_))
  refine FL.v (E.move k61) ?_
  refine FL.v (E.move k62) ?_
  refine FL.v (E.move k63) ?_
  obtain ⟨r66,hr67,hp⟩:=bnd hp
  refine FL.call rfl rfl rfl (E.call Tryz.call107 (A3 rfl rfl rfl)) (zd0 S53.sl v1 a1 (p1.mono (i34.tr i54)) v2 a2 (p2.mono (i34.tr i54)) a3 hr67) ?_
  rintro e w69 ⟨H68,v72,n73,cs74,rfl,r71,els75⟩
  refine ⟨_,rfl,?_⟩
  have els75:=els75.mono (up_le S53.size)
  have S70:=S53.join (l':=[.row 3 1 v72 n73 cs74]) r71 rfl
  refine FL.v (E.extract (i:=0) rfl rfl) ?_
  refine FL.v (E.extract (i:=1) rfl rfl) ?_
  refine FL.v (E.assign (v:=v72) rfl) ?_
  refine FL.v (E.assign (v:=Value.bool r66.2) rfl) ?_
  refine FL.nil ?_
  refine FW.ret ?_
  obtain rfl:=Option.some.inj hp
  exact ⟨.inr rfl,res2 rfl rfl rfl ⟨_,_,_,_,rfl,S70,els75⟩⟩

theorem w_impl_isProof {Ha:GH} {wa:World} (hs:Sl Ha wa) (a0:Cnf) (v0_1:Value) (p0_1:RSl Ha (eL eI 1) 1 v0_1 a0.clauses) (v1:Value) (a1:List zaa) (p1:RSl Ha zah 4 v1 a1) {r:Bool} (hp:(PF.zdc a0 a1)=some r) :
  Calls Tryz.prog 116 #[Value.agg #[Value.int .i64 a0.vars,v0_1],v1] wa (Sc Ha wa (Value.bool r)):=by
 unfold PF.zdc at hp
 have S0:=St.init hs
 refine zaj (N:=13) (args:=[Value.agg #[Value.int .i64 a0.vars,v0_1],v1]) Tryz.func116 rfl rfl rfl ?_
 refine FW.seq (FW.region ?_)
 obtain ⟨b21,w22,run23,S24⟩:=S0.box (P:=Tryz.prog) 26 [Value.int .i64 a0.vars,v0_1] (v:=Value.agg #[Value.int .i64 a0.vars,v0_1]) rfl (zab rfl (zab p0_1.one zae))
 refine FL.v (E.box rfl run23) ?_
 obtain ⟨H25,S26,i27,at28⟩:=S24.sealBox (i:=0) (l':=[]) rfl rfl
 refine FL.v (E.assign (v:=Value.bool false) rfl) ?_
 refine FL.nil (FW.seq (FW.region ?_))
 refine FL.v (E.load rfl (zal Tryz.isAgg26 Tryz.sizeOf26 (at28.now S26.sl) rfl)) ?_
 refine FL.v (E.move (v:=v1) rfl) ?_
 obtain ⟨r29,hr30,hp⟩:=bnd hp
 refine FL.call rfl rfl rfl (E.call Tryz.call105 (A2 rfl rfl)) (zdC S26.sl a0 v0_1 (p0_1.mono i27) v1 a1 (p1.mono i27) hr30) ?_
 rintro e w31 ⟨rfl,r32⟩
 refine ⟨_,rfl,?_⟩
 have S33:=S26.call r32
 refine FL.v (E.move (v:=Value.bool r29) rfl) ?_
 refine FL.cut 4 (fun f w=>∃ H:GH,St Ha wa H w []∧Inc H25 H∧f 12=Value.bool (bif r29 then (decide (0 < (len a1))) else false)) ?_ ?_
 ·
  rcases bcase r29 with c40|c40
  ·
   refine FL.val (zac rfl rfl rfl c40) rfl rfl (E.move (v:=v1) rfl) ?_
   refine FL.val (zac rfl rfl rfl c40) rfl rfl (E.lenP te61 rfl p1) ?_
   refine FL.val (zac rfl rfl rfl c40) rfl rfl (E.gtr rfl rfl) ?_
   refine FL.v (E.pickT rfl c40 rfl) ?_
   exact FL.nil ⟨rfl,_,S33,(Inc.rfl _),(congrArg Value.bool (bifT c40).symm)⟩
  ·
   refine FL.skip (wF_no rfl rfl rfl c40) rfl ?_
   refine FL.skip (wF_no rfl rfl rfl c40) rfl ?_
   refine FL.skip (wF_no rfl rfl rfl c40) rfl ?_
   refine FL.v (E.pickF rfl c40 rfl) ?_
   exact FL.nil ⟨rfl,_,S33,(Inc.rfl _),(congrArg Value.bool (bifF c40).symm)⟩
 rintro f39 w38 ⟨H35,S36,i37,k41⟩
 refine FL.v (E.assign k41) ?_
 refine FL.nil ?_
 refine FW.ret ?_
 obtain rfl:=Option.some.inj hp
 exact ⟨.inr rfl,res1 rfl rfl ⟨rfl,S36.back⟩⟩

theorem ze2 {Ha:GH} {wa:World} (hs:Sl Ha wa) (a0:zaa) (v0_0:Value) (p0_0:RSl Ha eI 1 v0_0 a0.clause) :
  Calls Tryz.prog 235 #[Value.agg #[v0_0,Value.int .i64 a0.left,Value.int .i64 a0.right,Value.int .i64 a0.pivot]] wa (Sc Ha wa (Value.bool (PF.zb1 a0))):=by
 obtain ⟨r,hp⟩:∃ r,(PF.zb1 a0)=r:=⟨_,rfl⟩
 rw [hp]
 unfold PF.zb1 at hp
 have S0:=St.init hs
 refine zaj (N:=11) (args:=[Value.agg #[v0_0,Value.int .i64 a0.left,Value.int .i64 a0.right,Value.int .i64 a0.pivot]]) Tryz.func235 rfl rfl rfl ?_
 refine FW.seq (FW.region ?_)
 obtain ⟨b21,w22,run23,S24⟩:=S0.box (P:=Tryz.prog) 134 [v0_0,Value.int .i64 a0.left,Value.int .i64 a0.right,Value.int .i64 a0.pivot] (v:=Value.agg #[v0_0,Value.int .i64 a0.left,Value.int .i64 a0.right,Value.int .i64 a0.pivot]) rfl (zab p0_0.one (zab rfl (zab rfl (zab rfl zae))))
 refine FL.v (E.box rfl run23) ?_
 obtain ⟨H25,S26,i27,at28⟩:=S24.sealBox (i:=0) (l':=[]) rfl rfl
 refine FL.v (E.assign (v:=Value.bool false) rfl) ?_
 refine FL.nil (FW.seq (FW.region ?_))
 refine FL.v (E.fieldAddr zaN rfl) ?_
 refine FL.v (E.load rfl (zag Tryz.isAgg3 (at28.now S26.sl) rfl)) ?_
 refine FL.v (E.geq rfl rfl) ?_
 refine FL.v (E.move (v:=Value.bool (decide (0≤a0.left))) rfl) ?_
 refine FL.cut 4 (fun f w=>∃ H:GH,St Ha wa H w []∧Inc H25 H∧f 10=Value.bool (bif (decide (0≤a0.left)) then (decide (a0.right < 0)) else false)) ?_ ?_
 ·
  rcases bcase (decide (0≤a0.left)) with c35|c35
  ·
   refine FL.val (zac rfl rfl rfl c35) rfl rfl (E.fieldAddr zaO rfl) ?_
   refine FL.val (zac rfl rfl rfl c35) rfl rfl (E.load rfl (zag Tryz.isAgg3 (at28.now S26.sl) rfl)) ?_
   refine FL.val (zac rfl rfl rfl c35) rfl rfl (E.lss rfl rfl) ?_
   refine FL.v (E.pickT rfl c35 rfl) ?_
   exact FL.nil ⟨rfl,_,S26,(Inc.rfl _),(congrArg Value.bool (bifT c35).symm)⟩
  ·
   refine FL.skip (wF_no rfl rfl rfl c35) rfl ?_
   refine FL.skip (wF_no rfl rfl rfl c35) rfl ?_
   refine FL.skip (wF_no rfl rfl rfl c35) rfl ?_
   refine FL.v (E.pickF rfl c35 rfl) ?_
   exact FL.nil ⟨rfl,_,S26,(Inc.rfl _),(congrArg Value.bool (bifF c35).symm)⟩
 rintro f34 w33 ⟨H30,S31,i32,k36⟩
 refine FL.v (E.assign k36) ?_
 refine FL.nil ?_
 refine FW.ret ?_
 obtain rfl:=hp
 exact ⟨.inr rfl,res1 rfl rfl ⟨rfl,S31.back⟩⟩

@[reducible] def ze3 (Ha:GH) (wa:World) (r:(List Int)):Ending→World→Prop :=
 fun e w'=>∃ H':GH,∃ v0:Value,∃ n0:Nat,∃ c0:List Value,e=.returned (v0)∧St Ha wa H' w' [.row 3 1 v0 n0 c0]∧Els (up wa.heap.size H') eI 1 c0 r
theorem ze4 {Ha:GH} {wa:World} (hs:Sl Ha wa) (a0:zaa) (v0_0:Value) (p0_0:RSl Ha eI 1 v0_0 a0.clause) :
  Calls Tryz.prog 185 #[Value.agg #[v0_0,Value.int .i64 a0.left,Value.int .i64 a0.right,Value.int .i64 a0.pivot]] wa (ze3 Ha wa (PF.zaY a0)):=by
 obtain ⟨r,hp⟩:∃ r,(PF.zaY a0)=r:=⟨_,rfl⟩
 rw [hp]
 unfold PF.zaY at hp
 have S0:=St.init hs
 refine zaj (N:=17) (args:=[Value.agg #[v0_0,Value.int .i64 a0.left,Value.int .i64 a0.right,Value.int .i64 a0.pivot]]) Tryz.func185 rfl rfl rfl ?_
 refine FW.seq (FW.region ?_)
 obtain ⟨b21,w22,run23,S24⟩:=S0.box (P:=Tryz.prog) 134 [v0_0,Value.int .i64 a0.left,Value.int .i64 a0.right,Value.int .i64 a0.pivot] (v:=Value.agg #[v0_0,Value.int .i64 a0.left,Value.int .i64 a0.right,Value.int .i64 a0.pivot]) rfl (zab p0_0.one (zab rfl (zab rfl (zab rfl zae))))
 refine FL.v (E.box rfl run23) ?_
 obtain ⟨H25,S26,i27,at28⟩:=S24.sealBox (i:=0) (l':=[]) rfl rfl
 refine FL.v (E.assign (v:=Value.slice none 0 0) rfl) ?_
 refine FL.nil (FW.seq (FW.block (FW.seq (FW.region ?_))))
 refine FL.v (E.load rfl (zal Tryz.isAgg134 Tryz.sizeOf134 (at28.now S26.sl) rfl)) ?_
 refine FL.call rfl rfl rfl (E.call Tryz.call181 (A1 rfl)) (zex S26.sl a0 v0_0 (p0_0.mono i27)) ?_
 rintro e w29 ⟨rfl,r30⟩
 refine ⟨_,rfl,?_⟩
 have S31:=S26.call r30
 refine FL.v (E.assign (v:=Value.bool (PF.zbF a0)) rfl) ?_
 refine FL.nil ?_
 rcases ifT hp with ⟨c32,hp⟩|⟨c32,hp⟩
 ·
  refine FW.condT rfl c32 ?_
  refine FW.seq (FW.region ?_)
  refine FL.v (E.assign (v:=Value.slice none 0 0) rfl) ?_
  refine FL.nil ?_
  refine FW.ret ?_
  obtain rfl:=hp
  exact ⟨.inr rfl,res1 rfl rfl ⟨_,_,_,_,rfl,(S31.nil 3 1),Els.nil⟩⟩
 ·
  refine FW.condF rfl c32 ?_
  refine FW.seq (FW.region ?_)
  refine FL.v (E.load rfl (zal Tryz.isAgg134 Tryz.sizeOf134 (at28.now S31.sl) rfl)) ?_
  refine FL.call rfl rfl rfl (E.call Tryz.call235 (A1 rfl)) (ze2 S31.sl a0 v0_0 (p0_0.mono i27)) ?_
  rintro e w33 ⟨rfl,r34⟩
  refine ⟨_,rfl,?_⟩
  have S35:=S31.call r34
  refine FL.v (E.assign (v:=Value.bool (PF.zb1 a0)) rfl) ?_
  refine FL.nil ?_
  rcases ifT hp with ⟨c36,hp⟩|⟨c36,hp⟩
  ·
   refine FW.condT rfl c36 ?_
   refine FW.seq (FW.region ?_)
   refine FL.v (E.fieldAddr zaN rfl) ?_
   refine FL.v (E.load rfl (zag Tryz.isAgg3 (at28.now S35.sl) rfl)) ?_
   obtain ⟨v37,w38,run39,S40,els41⟩:=S35.ints (P:=Tryz.prog) te52 (up wa.heap.size H25) 1 [a0.left]
   refine FL.v (E.buildSlice (B1 rfl) run39) ?_
   refine FL.v (E.assign (v:=v37) rfl) ?_
   refine FL.nil ?_
   refine FW.ret ?_
   obtain rfl:=hp
   exact ⟨.inr rfl,res1 rfl rfl ⟨_,_,_,_,rfl,S40,els41⟩⟩
  ·
   refine FW.condF rfl c36 ?_
   refine FW.skip (FW.seq (FW.region ?_))
   refine FL.v (E.fieldAddr zaN rfl) ?_
   refine FL.v (E.load rfl (zag Tryz.isAgg3 (at28.now S35.sl) rfl)) ?_
   refine FL.v (E.fieldAddr zaO rfl) ?_
   refine FL.v (E.load rfl (zag Tryz.isAgg3 (at28.now S35.sl) rfl)) ?_
   obtain ⟨v42,w43,run44,S45,els46⟩:=S35.ints (P:=Tryz.prog) te52 (up wa.heap.size H25) 2 [a0.left,a0.right]
   refine FL.v (E.buildSlice (B2 rfl rfl) run44) ?_
   refine FL.v (E.assign (v:=v42) rfl) ?_
   refine FL.nil ?_
   refine FW.ret ?_
   obtain rfl:=hp
   exact ⟨.inr rfl,res1 rfl rfl ⟨_,_,_,_,rfl,S45,els46⟩⟩

@[reducible] def p_impl_stepDepths (Ha:GH) (wa:World) (r:(List Int)):Ending→World→Prop :=
 fun e w'=>∃ H':GH,∃ v0:Value,∃ n0:Nat,∃ c0:List Value,e=.returned (v0)∧St Ha wa H' w' [.row 3 1 v0 n0 c0]∧Els (up wa.heap.size H') eI 1 c0 r
set_option maxHeartbeats 4000000 in
theorem w_impl_stepDepths {Ha:GH} {wa:World} (hs:Sl Ha wa) (v0:Value) (a0:List zaa) (p0:RSl Ha zah 4 v0 a0) {r:(List Int)} (hp:(PF.zdd a0)=some r) :
  Calls Tryz.prog 117 #[v0] wa (p_impl_stepDepths Ha wa r):=by
 unfold PF.zdd at hp
 have S0:=St.init hs
 refine zaj (N:=48) (args:=[v0]) Tryz.func117 rfl rfl rfl ?_
 refine FW.seq (FW.region ?_)
 refine FL.v (E.assign (v:=Value.slice none 0 0) rfl) ?_
 refine FL.nil (FW.seq (FW.region ?_))
 refine FL.v (E.move (v:=v0) rfl) ?_
 refine FL.v (E.lenP te61 rfl p0) ?_
 obtain ⟨xs21,hm22,hp⟩:=bnd hp
 obtain ⟨v23,w24,n28,cs29,run25,S26,els27,hbl30⟩:=S0.makeEls (P:=Tryz.prog) te52 (G:=(up wa.heap.size Ha)) (En:=eI) (x0:=(0:Int)) hm22 rfl (zab rfl zae) .i64 .i64
 refine FL.v (E.makeSlice rfl rfl run25) ?_
 refine FL.v (E.assign (v:=v23) rfl) ?_
 refine FL.nil (FW.seq (FW.seq (FW.region ?_)))
 refine FL.v (E.move (v:=v0) rfl) ?_
 refine FL.v (E.lenP te61 rfl p0) ?_
 refine FL.v (E.move (v:=Value.int .i64 0) rfl) ?_
 refine FL.nil ?_
 obtain ⟨q32,hq,hp⟩:=bndR hp
 refine FW.block ?_
 refine FW.mono (FW.forL (S:=(List Int)) (X:=Empty) (fun (i32:Nat) (s32:(List Int)) f w=>∃ H:GH,∃ v33:Value,∃ n34:Nat,∃ cs35:List Value,St Ha wa H w [.row 3 1 v33 n34 cs35]∧Inc Ha H∧Els (up wa.heap.size H) eI 1 cs35 s32∧f 13=Value.int .i64 ((i32:Nat):Int)∧f 3=v33∧f 11=v0∧f 12=Value.int .i64 (len a0)) (fun (q:Rs (List Int) Empty) e f w=>match q with|.go s32=>e=Exit.exit 0∧(∃ H:GH,∃ v33:Value,∃ n34:Nat,∃ cs35:List Value,St Ha wa H w [.row 3 1 v33 n34 cs35]∧Inc Ha H∧Els (up wa.heap.size H) eI 1 cs35 s32∧f 3=v33)|.rt x=>x.elim) hq ⟨_,_,_,_,S26,(Inc.rfl _),els27,rfl,rfl,rfl,rfl⟩ ?_ ?_) ?_
 ·
  clear hp hq
  rintro i32 y31 s32 f41 w40 ⟨H37,v33,n34,cs35,S38,i39,els36,k42,k43,k44,k45⟩ hx32 oBP hp
  refine FW.seq (FW.region ?_)
  refine FL.v (E.lssT k42 k45 (zaF hx32)) ?_
  refine FL.nil (FW.seq ?_)
  refine FW.condT rfl rfl ?_
  refine FW.skip (FW.seq (FW.block (FW.seq (FW.region ?_))))
  refine FL.v (E.move k42) ?_
  obtain ⟨p46,cs47,pt48,l49,at50,rel51⟩:=p0.at (zaz hx32)
  obtain ⟨v53,rfl,h54⟩:=zap rel51
  refine FL.v (E.indexAddr te61 k44 k42 pt48) ?_
  refine FL.v (E.load rfl (zal Tryz.isAgg134 Tryz.sizeOf134 ((at50.mono i39).now S38.sl) rfl)) ?_
  obtain ⟨b55,w56,run57,S58⟩:=S38.alloc (P:=Tryz.prog) 134 [Value.slice none 0 0,Value.int .i64 0,Value.int .i64 0,Value.int .i64 0] Tryz.zeroValue134 rfl (zab rfl (zab rfl (zab rfl (zab rfl zae))))
  refine FL.v (E.alloc run57) ?_
  refine FL.v (E.assign (v:=Value.int .i64 ((i32:Nat):Int)) rfl) ?_
  obtain ⟨w59,run60,S62⟩:=S58.store0 (P:=Tryz.prog) (t:=134) (i:=0) (cs':=[v53,Value.int .i64 y31.left,Value.int .i64 y31.right,Value.int .i64 y31.pivot]) (l':=[.box b55 134 [v53,Value.int .i64 y31.left,Value.int .i64 y31.right,Value.int .i64 y31.pivot],.row 3 1 v33 n34 cs35]) (v:=Value.agg #[v53,Value.int .i64 y31.left,Value.int .i64 y31.right,Value.int .i64 y31.pivot]) (c:=[v53,Value.int .i64 y31.left,Value.int .i64 y31.right,Value.int .i64 y31.pivot]) rfl Tryz.sizeOf134 rfl rfl (zab h54.one (zab rfl (zab rfl (zab rfl zae)))) (Nat.le_of_ble_eq_true rfl) rfl rfl
  refine FL.act rfl rfl (E.store rfl rfl run60) ?_
  obtain ⟨H63,S64,i65,at66⟩:=S62.sealBox (i:=0) (l':=[.row 3 1 v33 n34 cs35]) rfl rfl
  refine FL.nil (FW.seq (FW.seq (FW.region ?_)))
  refine FL.v (E.load rfl (zal Tryz.isAgg134 Tryz.sizeOf134 (at66.now S64.sl) rfl)) ?_
  refine FL.call rfl rfl rfl (E.call Tryz.call185 (A1 rfl)) (ze4 S64.sl y31 v53 (h54.mono (i39.tr i65))) ?_
  rintro e w68 ⟨H67,v71,n72,cs73,rfl,r70,els74⟩
  refine ⟨_,rfl,?_⟩
  have els74:=els74.mono (up_le S64.size)
  have S69:=S64.join (l':=[.row 3 1 v71 n72 cs73,.row 3 1 v33 n34 cs35]) r70 rfl
  refine FL.v (E.lenO te52 rfl S69 (i:=0) rfl els74 (by decide)) ?_
  refine FL.v (E.move (v:=Value.int .i64 0) rfl) ?_
  refine FL.nil ?_
  obtain ⟨m75,hchk76,hp⟩:=bnd hp
  obtain ⟨q76,hq,hp⟩:=bndR hp
  refine FW.block ?_
  refine FW.mono (FW.forR (S:=(List Int)) (X:=Empty) (fun (i76:Nat) (s76:(List Int)) f w=>∃ H:GH,∃ v77:Value,∃ n78:Nat,∃ cs79:List Value,St Ha wa H w [.row 3 1 v71 n72 cs73,.row 3 1 v77 n78 cs79]∧Inc H67 H∧Els (up wa.heap.size H) eI 1 cs79 s76∧f 21=Value.int .i64 ((i76:Nat):Int)∧f 3=v77∧f 4=Value.int .i64 ((i32:Nat):Int)∧f 5=Value.pointer (some ⟨b55,0,none⟩)∧f 11=v0∧f 12=Value.int .i64 (len a0)∧f 13=Value.int .i64 ((i32:Nat):Int)∧f 19=v71∧f 20=Value.int .i64 (len (PF.zaY y31))) (fun (q:Rs (List Int) Empty) e f w=>match q with|.go s76=>e=Exit.exit 2∧(∃ H:GH,∃ v77:Value,∃ n78:Nat,∃ cs79:List Value,St Ha wa H w [.row 3 1 v71 n72 cs73,.row 3 1 v77 n78 cs79]∧Inc H67 H∧Els (up wa.heap.size H) eI 1 cs79 s76∧f 3=v77∧f 4=Value.int .i64 ((i32:Nat):Int)∧f 5=Value.pointer (some ⟨b55,0,none⟩)∧f 11=v0∧f 12=Value.int .i64 (len a0)∧f 13=Value.int .i64 ((i32:Nat):Int))|.rt x=>x.elim) hq ⟨_,_,_,_,S69,(Inc.rfl _),(els36.mono (zaf (i65.tr r70.run.inc))),rfl,k43,rfl,rfl,k44,k45,k42,rfl,rfl⟩ ?_ ?_) ?_
  ·
   clear hp hq
   rintro i76 s76 f85 w84 ⟨H81,v77,n78,cs79,S82,i83,els80,k86,k87,k88,k89,k90,k91,k92,k93,k94⟩ hi76 hj76 oAX hp
   refine FW.seq (FW.region ?_)
   refine FL.v (E.lssT k86 k94 (lss_chk hj76 hchk76)) ?_
   refine FL.nil (FW.seq ?_)
   refine FW.condT rfl rfl ?_
   refine FW.skip (FW.seq (FW.block (FW.seq (FW.region ?_))))
   obtain ⟨xA1,hxA2,hp⟩:=bnd hp
   obtain ⟨p95,cs96,pt97,l98,at99,relA0⟩:=S82.row_at (i:=0) rfl els74 (by decide) hxA2
   obtain rfl:=zao relA0
   refine FL.v (E.indexAddr te52 k93 k86 pt97) ?_
   refine FL.v (E.load rfl (zak Tryz.isAgg3 at99 rfl)) ?_
   refine FL.v (E.assign (v:=Value.int .i64 xA1) rfl) ?_
   refine FL.nil ?_
   obtain ⟨xAc,hxAd,hp⟩:=bnd hp
   obtain ⟨xAl,hxAm,hp⟩:=bnd hp
   obtain ⟨xAu,hxAv,hp⟩:=bnd hp
   obtain ⟨xsAA,hputAB,hp⟩:=bnd hp
   refine FW.drawB (Sl H81) (fun f w=>∃ H:GH,∃ vAF:Value,∃ nAG:Nat,∃ csAH:List Value,St Ha wa H w [.row 3 1 v71 n72 cs73,.row 3 1 vAF nAG csAH]∧Inc H81 H∧Els (up wa.heap.size H) eI 1 csAH xsAA∧f 3=vAF∧f 4=Value.int .i64 ((i32:Nat):Int)∧f 5=Value.pointer (some ⟨b55,0,none⟩)∧f 11=v0∧f 12=Value.int .i64 (len a0)∧f 13=Value.int .i64 ((i32:Nat):Int)∧f 19=v71∧f 20=Value.int .i64 (len (PF.zaY y31))∧f 21=Value.int .i64 ((i76:Nat):Int)) (by kernel_rfl) S82.sl ?_ ?_
   ·
    intro wA3 rA4
    have SA5:=S82.call rA4
    refine FB.t (i:=0) (bs 13 1) rfl (SP.nil SA5.sl) rfl (fun w' hw'=>(E.move k87)) ?_
    refine FB.t (i:=1) (bs 13 3) rfl (SP.nil SA5.sl) rfl (fun w' hw'=>(E.move k88)) ?_
    refine FB.t (i:=2) (bs 13 7) rfl (SP.nil SA5.sl) rfl (fun w' hw'=>(E.move k87)) ?_
    refine FB.t (i:=3) (bs 13 15) rfl (SP.nil SA5.sl) rfl (fun w' hw'=>(E.move k88)) ?_
    obtain ⟨pA6,csA7,ptA8,lA9,atAa,relAb,hallAe⟩:=SA5.row_atA (i:=1) rfl els80 (by decide) hxAd
    obtain rfl:=zao relAb
    refine FB.t (i:=4) (bs 13 31) rfl (SP.nil SA5.sl) rfl (fun w' hw'=>(E.indexAddr te52 rfl rfl ptA8)) ?_
    refine FB.phase [12] (fun w'=>WAt w' pA6 [Value.int .i64 xAc]) ?_
    refine FB.p (i:=5) (bs 13 63) 0 [10,11,12] rfl (SP.on (hallAe _ _ _ 1 SA5 rfl) (SP.nil SA5.sl)) rfl rfl (fun w' hw'=>(E.load rfl (zak Tryz.isAgg3 hw' rfl))) ?_
    refine FB.t (i:=6) (bs 13 127) rfl (SP.on (hallAe _ _ _ 1 SA5 rfl) (SP.nil SA5.sl)) rfl (fun w' hw'=>(E.move k87)) ?_
    refine FB.t (i:=7) (bs 13 255) rfl (SP.on (hallAe _ _ _ 1 SA5 rfl) (SP.nil SA5.sl)) rfl (fun w' hw'=>(E.move (v:=Value.int .i64 xA1) rfl)) ?_
    obtain ⟨pAf,csAg,ptAh,lAi,atAj,relAk,hallAn⟩:=SA5.row_atA (i:=1) rfl els80 (by decide) hxAm
    obtain rfl:=zao relAk
    refine FB.t (i:=8) (bs 13 511) rfl (SP.on (hallAe _ _ _ 1 SA5 rfl) (SP.nil SA5.sl)) rfl (fun w' hw'=>(E.indexAddr te52 rfl rfl ptAh)) ?_
    refine FB.phase [12] (fun w'=>WAt w' pAf [Value.int .i64 xAl]) ?_
    refine FB.p (i:=9) (bs 13 1023) 0 [10,11,12] rfl (SP.on (hallAn _ _ _ 1 SA5 rfl) (SP.on (hallAe _ _ _ 1 SA5 rfl) (SP.nil SA5.sl))) rfl rfl (fun w' hw'=>(E.load rfl (zak Tryz.isAgg3 hw' rfl))) ?_
    refine FB.t (i:=10) (bs 13 2047) rfl (SP.on (hallAn _ _ _ 1 SA5 rfl) (SP.on (hallAe _ _ _ 1 SA5 rfl) (SP.nil SA5.sl))) rfl (fun w' hw'=>(E.max2 rfl rfl)) ?_
    obtain ⟨pAo,csAp,ptAq,lAr,atAs,relAt,hallAw⟩:=SA5.row_atA (i:=1) rfl els80 (by decide) hxAv
    obtain rfl:=zao relAt
    refine FB.t (i:=11) (bs 13 4095) rfl (SP.on (hallAn _ _ _ 1 SA5 rfl) (SP.on (hallAe _ _ _ 1 SA5 rfl) (SP.nil SA5.sl))) rfl (fun w' hw'=>(E.indexAddr te52 rfl rfl ptAq)) ?_
    refine FB.all1 (i:=12) (by kernel_rfl) ?_
    ·
     obtain ⟨wAx,csAD,runAy,SAz,elsAC,ceAE⟩:=SA5.putEls (P:=Tryz.prog) (t:=3) (i:=1) rfl els80 hputAB ptAq Tryz.sizeOf3 (u:=Value.int .i64 (mx xAc xAl)) (c:=[Value.int .i64 (mx xAc xAl)]) rfl rfl (zab rfl zae) rfl
     have SAz:St Ha wa H81 wAx [.row 3 1 v71 n72 cs73,.row 3 1 v77 n78 csAD]:=SAz
     refine FC.act (l':=(bs 13 8191)) rfl (by kernel_rfl) rfl rfl (E.store rfl rfl runAy) ?_
     refine ⟨(SP.o (SP.o (SP.nil SAz.sl))),?_⟩
     exact FB.done (by kernel_rfl) ⟨_,_,_,_,SAz,(Inc.rfl _),elsAC,k87,k88,k89,k90,k91,k92,k93,k94,k86⟩
   ·
    rintro fAN wAM ⟨HAJ,vAF,nAG,csAH,SAK,iAL,elsAI,kAO,kAP,kAQ,kAR,kAS,kAT,kAU,kAV,kAW⟩
    refine FW.region ?_
    refine FL.v (E.add kAW rfl) ?_
    refine FL.v (E.move (v:=Value.int .i64 (wr (((i76:Nat):Int) + 1))) rfl) ?_
    refine FL.nil ?_
    obtain rfl:=Option.some.inj hp
    exact ⟨rfl,⟨_,_,_,_,SAK,(i83.tr iAL),elsAI,(zaw rfl hj76 (chk_le hchk76)),kAO,kAP,kAQ,kAR,kAS,kAT,kAU,kAV⟩⟩
  ·
   clear hp hq
   rintro s76 fBF wBE ⟨HBB,v77,n78,cs79,SBC,iBD,els80,kBG,kBH,kBI,kBJ,kBK,kBL,kBM,kBN,kBO⟩
   refine FW.seq (FW.region ?_)
   refine FL.v (E.lss kBG kBO) ?_
   refine FL.nil (FW.seq ?_)
   refine FW.condF rfl (dlt_maxchk hchk76) ?_
   refine FW.exit ?_
   exact ⟨nofun,rfl,⟨_,_,_,_,SBC,iBD,els80,kBH,kBI,kBJ,kBK,kBL,kBM⟩⟩
  ·
   clear hq
   intro e fB2 wB1 hD
   rcases q76 with s76|x76
   ·
    obtain ⟨rfl,hD⟩:=hD
    obtain ⟨HAY,v77,n78,cs79,SAZ,iB0,els80,kB3,kB4,kB5,kB6,kB7,kB8⟩:=hD
    replace hp:=el_go hp
    refine FW.seq (FW.region ?_)
    refine FL.v (E.load kB5 (zal Tryz.isAgg134 Tryz.sizeOf134 ((at66.mono (r70.run.inc.tr iB0)).now SAZ.sl) rfl)) ?_
    refine FL.call rfl rfl rfl (E.call Tryz.call180 (A1 rfl)) (zew SAZ.sl y31 v53 (h54.mono (((i39.tr i65).tr r70.run.inc).tr iB0))) ?_
    rintro e wB9 ⟨rfl,rBa⟩
    refine ⟨_,rfl,?_⟩
    have SBb:=SAZ.call rBa
    refine FL.nil ?_
    rcases ifB hp with ⟨cBc,hp⟩|⟨cBc,hp⟩
    ·
     refine FW.condT rfl cBc ?_
     refine FW.region ?_
     refine FL.v (E.move kB3) ?_
     refine FL.v (E.move kB4) ?_
     obtain ⟨xBj,hxBk,hp⟩:=bnd hp
     obtain ⟨pBd,csBe,ptBf,lBg,atBh,relBi⟩:=SBb.row_at (i:=1) rfl els80 (by decide) hxBk
     obtain rfl:=zao relBi
     refine FL.v (E.indexAddr te52 rfl rfl ptBf) ?_
     refine FL.v (E.load rfl (zak Tryz.isAgg3 atBh rfl)) ?_
     refine FL.v (E.add rfl rfl) ?_
     obtain ⟨xBr,hxBs,hp⟩:=bnd hp
     obtain ⟨pBl,csBm,ptBn,lBo,atBp,relBq⟩:=SBb.row_at (i:=1) rfl els80 (by decide) hxBs
     obtain rfl:=zao relBq
     refine FL.v (E.indexAddr te52 rfl rfl ptBn) ?_
     obtain ⟨xsBw,hputBx,hp⟩:=bnd hp
     obtain ⟨wBt,csBz,runBu,SBv,elsBy,ceBA⟩:=SBb.putEls (P:=Tryz.prog) (t:=3) (i:=1) rfl els80 hputBx ptBn Tryz.sizeOf3 (u:=Value.int .i64 (wr (xBj + 1))) (c:=[Value.int .i64 (wr (xBj + 1))]) rfl rfl (zab rfl zae) rfl
     have SBv:St Ha wa HAY wBt [.row 3 1 v71 n72 cs73,.row 3 1 v77 n78 csBz]:=SBv
     refine FL.act rfl rfl (E.store rfl rfl runBu) ?_
     refine FL.nil (FW.region ?_)
     refine FL.v (E.add kB8 rfl) ?_
     refine FL.v (E.move (v:=Value.int .i64 (wr (((i32:Nat):Int) + 1))) rfl) ?_
     refine FL.nil ?_
     obtain rfl:=Option.some.inj hp
     exact ⟨rfl,⟨_,_,_,_,(SBv.sel [1] (by decide) rfl),(((i39.tr i65).tr r70.run.inc).tr iB0),elsBy,(zaw rfl (zaB hx32) (p0.mono (((i39.tr i65).tr r70.run.inc).tr iB0)).le),kB3,kB6,kB7⟩⟩
    ·
     refine FW.condF rfl cBc ?_
     refine FW.skip (FW.region ?_)
     refine FL.v (E.add kB8 rfl) ?_
     refine FL.v (E.move (v:=Value.int .i64 (wr (((i32:Nat):Int) + 1))) rfl) ?_
     refine FL.nil ?_
     obtain rfl:=Option.some.inj hp
     exact ⟨rfl,⟨_,_,_,_,(SBb.sel [1] (by decide) rfl),(((i39.tr i65).tr r70.run.inc).tr iB0),els80,(zaw rfl (zaB hx32) (p0.mono (((i39.tr i65).tr r70.run.inc).tr iB0)).le),kB3,kB6,kB7⟩⟩
   ·
    exact x76.elim
 ·
  clear hp hq
  rintro s32 fC0 wBZ ⟨HBW,v33,n34,cs35,SBX,iBY,els36,kC1,kC2,kC3,kC4⟩
  refine FW.seq (FW.region ?_)
  refine FL.v (E.lss kC1 kC4) ?_
  refine FL.nil (FW.seq ?_)
  refine FW.condF rfl zaG ?_
  refine FW.exit ?_
  exact ⟨nofun,rfl,⟨_,_,_,_,SBX,iBY,els36,kC2⟩⟩
 ·
  clear hq
  intro e fBU wBT hD
  rcases q32 with s32|x32
  ·
   obtain ⟨rfl,hD⟩:=hD
   obtain ⟨HBQ,v33,n34,cs35,SBR,iBS,els36,kBV⟩:=hD
   replace hp:=el_go hp
   refine FW.seq (FW.region ?_)
   refine FL.v (E.move kBV) ?_
   refine FL.v (E.assign (v:=v33) rfl) ?_
   refine FL.nil ?_
   refine FW.ret ?_
   obtain rfl:=Option.some.inj hp
   exact ⟨.inr rfl,res1 rfl rfl ⟨_,_,_,_,rfl,SBR,els36⟩⟩
  ·
   exact x32.elim

@[reducible] def p_impl_StepDepths (Ha:GH) (wa:World) (r:((List Int)×Bool)):Ending→World→Prop :=
 fun e w'=>∃ H':GH,∃ v0:Value,∃ n0:Nat,∃ c0:List Value,e=.returned (Value.tuple #[v0,Value.bool r.2])∧St Ha wa H' w' [.row 3 1 v0 n0 c0]∧Els (up wa.heap.size H') eI 1 c0 r.1
theorem w_impl_StepDepths {Ha:GH} {wa:World} (hs:Sl Ha wa) (a0:Cnf) (v0_1:Value) (p0_1:RSl Ha (eL eI 1) 1 v0_1 a0.clauses) (v1:Value) (a1:List zaa) (p1:RSl Ha zah 4 v1 a1) {r:((List Int)×Bool)} (hp:(PF.zcs a0 a1)=some r) :
  Calls Tryz.prog 47 #[Value.agg #[Value.int .i64 a0.vars,v0_1],v1] wa (p_impl_StepDepths Ha wa r):=by
 unfold PF.zcs at hp
 have S0:=St.init hs
 refine zaj (N:=12) (args:=[Value.agg #[Value.int .i64 a0.vars,v0_1],v1]) Tryz.func47 rfl rfl rfl ?_
 refine FW.seq (FW.region ?_)
 obtain ⟨b21,w22,run23,S24⟩:=S0.box (P:=Tryz.prog) 26 [Value.int .i64 a0.vars,v0_1] (v:=Value.agg #[Value.int .i64 a0.vars,v0_1]) rfl (zab rfl (zab p0_1.one zae))
 refine FL.v (E.box rfl run23) ?_
 obtain ⟨H25,S26,i27,at28⟩:=S24.sealBox (i:=0) (l':=[]) rfl rfl
 refine FL.v (E.assign (v:=Value.slice none 0 0) rfl) ?_
 refine FL.v (E.assign (v:=Value.bool false) rfl) ?_
 refine FL.nil (FW.seq (FW.seq (FW.region ?_)))
 refine FL.v (E.load rfl (zal Tryz.isAgg26 Tryz.sizeOf26 (at28.now S26.sl) rfl)) ?_
 refine FL.v (E.move (v:=v1) rfl) ?_
 obtain ⟨r29,hr30,hp⟩:=bnd hp
 refine FL.call rfl rfl rfl (E.call Tryz.call116 (A2 rfl rfl)) (w_impl_isProof S26.sl a0 v0_1 (p0_1.mono i27) v1 a1 (p1.mono i27) hr30) ?_
 rintro e w31 ⟨rfl,r32⟩
 refine ⟨_,rfl,?_⟩
 have S33:=S26.call r32
 refine FL.v (E.not rfl) ?_
 refine FL.nil ?_
 rcases ifB hp with ⟨c34,hp⟩|⟨c34,hp⟩
 ·
  refine FW.condT rfl c34 ?_
  refine FW.seq (FW.region ?_)
  refine FL.v (E.assign (v:=Value.slice none 0 0) rfl) ?_
  refine FL.v (E.assign (v:=Value.bool false) rfl) ?_
  refine FL.nil ?_
  refine FW.ret ?_
  obtain rfl:=Option.some.inj hp
  exact ⟨.inr rfl,res2 rfl rfl rfl ⟨_,_,_,_,rfl,(S33.nil 3 1),Els.nil⟩⟩
 ·
  refine FW.condF rfl c34 ?_
  refine FW.skip (FW.seq (FW.region ?_))
  refine FL.v (E.move (v:=v1) rfl) ?_
  obtain ⟨r35,hr36,hp⟩:=bnd hp
  refine FL.call rfl rfl rfl (E.call Tryz.call117 (A1 rfl)) (w_impl_stepDepths S33.sl v1 a1 (p1.mono i27) hr36) ?_
  rintro e w38 ⟨H37,v41,n42,cs43,rfl,r40,els44⟩
  refine ⟨_,rfl,?_⟩
  have els44:=els44.mono (up_le S33.size)
  have S39:=S33.join (l':=[.row 3 1 v41 n42 cs43]) r40 rfl
  refine FL.v (E.assign (v:=v41) rfl) ?_
  refine FL.v (E.assign (v:=Value.bool true) rfl) ?_
  refine FL.nil ?_
  refine FW.ret ?_
  obtain rfl:=Option.some.inj hp
  exact ⟨.inr rfl,res2 rfl rfl rfl ⟨_,_,_,_,rfl,S39,els44⟩⟩

set_option maxHeartbeats 4000000 in
theorem w_laws_FnChained {Ha:GH} {wa:World} (hs:Sl Ha wa) (v0:Value) (a0:List Int) (p0:RSl Ha (eN .u8) 1 v0 a0) {r:Bool} (hp:(PF.zdv a0)=some r) :
  Calls Tryz.prog 5 #[v0] wa (Sc Ha wa (Value.bool r)):=by
 unfold PF.zdv at hp
 have S0:=St.init hs
 refine zaj (N:=129) (args:=[v0]) Tryz.func5 rfl rfl rfl ?_
 refine FW.seq (FW.region ?_)
 refine FL.v (E.assign (v:=Value.bool false) rfl) ?_
 refine FL.nil (FW.seq (FW.seq (FW.region ?_)))
 refine FL.v (E.move (v:=v0) rfl) ?_
 refine FL.call rfl rfl rfl (E.call Tryz.call6 (A1 rfl)) (w_laws_vBig S0.sl v0 a0 p0) ?_
 rintro e w21 ⟨rfl,r22⟩
 refine ⟨_,rfl,?_⟩
 have S23:=S0.call r22
 refine FL.nil ?_
 rcases ifB hp with ⟨c24,hp⟩|⟨c24,hp⟩
 ·
  refine FW.condT rfl c24 ?_
  refine FW.seq (FW.region ?_)
  refine FL.v (E.assign (v:=Value.bool true) rfl) ?_
  refine FL.nil ?_
  refine FW.ret ?_
  obtain rfl:=Option.some.inj hp
  exact ⟨.inr rfl,res1 rfl rfl ⟨rfl,S23.back⟩⟩
 ·
  refine FW.condF rfl c24 ?_
  refine FW.skip (FW.seq (FW.region ?_))
  refine FL.v (E.move (v:=v0) rfl) ?_
  obtain ⟨r25,hr26,hp⟩:=bnd hp
  refine FL.call rfl rfl rfl (E.call Tryz.call40 (A1 rfl)) (zeH S23.sl v0 a0 p0 hr26) ?_
  rintro e w28 ⟨H27,v31,v34,v37,n38,cs39,rfl,r30,h32,h35,els40,nd41⟩
  refine ⟨_,rfl,?_⟩
  have nv33:New Ha [v31]:=New.of_up S23.sl h32.dom
  have h32:=h32.mono (up_le S23.size)
  have nv36:New Ha [v34]:=New.of_up S23.sl h35.dom
  have h35:=h35.mono (up_le S23.size)
  have nv42:New Ha cs39:=New.of_up S23.sl els40.dom
  have els40:=els40.mono (up_le S23.size)
  have S29:=S23.join (l':=[.row 134 4 v37 n38 cs39]) r30 rfl
  refine FL.v (E.move (v:=Value.tuple #[Value.agg #[Value.int .i64 r25.1.vars,v31],v34,v37,Value.int .i64 r25.2.2.2]) rfl) ?_
  refine FL.v (E.extract (i:=0) rfl rfl) ?_
  refine FL.v (E.extract (i:=1) rfl rfl) ?_
  refine FL.v (E.extract (i:=2) rfl rfl) ?_
  refine FL.v (E.extract (i:=3) rfl rfl) ?_
  obtain ⟨b43,w44,run45,S46⟩:=S29.alloc (P:=Tryz.prog) 26 [Value.int .i64 0,Value.slice none 0 0] Tryz.zeroValue26 rfl (zab rfl (zab rfl zae))
  refine FL.v (E.alloc run45) ?_
  obtain ⟨w47,run48,S49⟩:=S46.store0 (P:=Tryz.prog) (t:=26) (i:=0) (cs':=[Value.int .i64 r25.1.vars,v31]) (l':=[.box b43 26 [Value.int .i64 r25.1.vars,v31],.row 134 4 v37 n38 cs39]) (v:=Value.agg #[Value.int .i64 r25.1.vars,v31]) (c:=[Value.int .i64 r25.1.vars,v31]) rfl Tryz.sizeOf26 rfl rfl (zab rfl (zab h32.one zae)) (Nat.le_of_ble_eq_true rfl) rfl rfl
  refine FL.act rfl rfl (E.store rfl rfl run48) ?_
  obtain ⟨H50,S51,i52,at53⟩:=S49.sealBox (i:=0) (l':=[.row 134 4 v37 n38 cs39]) rfl rfl
  refine FL.v (E.assign (v:=v34) rfl) ?_
  refine FL.v (E.assign (v:=v37) rfl) ?_
  refine FL.v (E.assign (v:=Value.int .i64 r25.2.2.2) rfl) ?_
  refine FL.nil (FW.seq (FW.region ?_))
  refine FL.v (E.load rfl (zal Tryz.isAgg26 Tryz.sizeOf26 (at53.now S51.sl) rfl)) ?_
  refine FL.v (E.move (v:=v34) rfl) ?_
  refine FL.v (E.move (v:=v37) rfl) ?_
  refine FL.v (E.move (v:=Value.int .i64 r25.2.2.2) rfl) ?_
  obtain ⟨H54,S55,i56,ns59,nv58⟩:=S51.sealRowN (i:=0) (l':=[]) rfl (els40.mono (zaf i52)) nd41 (by decide) rfl
  have h57:=ns59.rsl
  obtain ⟨r60,hr61,hp⟩:=bnd hp
  refine FL.call rfl rfl rfl (E.call Tryz.call41 (A4 rfl rfl rfl rfl)) (w_impl_ChainSteps S55.sl r25.1 v31 (h32.mono (upI.tr (i52.tr i56))) v34 r25.2.1 (h35.mono (upI.tr (i52.tr i56))) v37 r25.2.2.1 (h57.mono upI) r25.2.2.2 hr61) ?_
  rintro e w63 ⟨H62,v68,n69,cs70,rfl,r65,els71,nd72⟩
  refine ⟨_,rfl,?_⟩
  obtain ⟨H66,r65,hU67⟩:=St.lendX i56 S51.sl r65
  have nv73:New H50 cs70:=New.of_up S51.sl els71.dom
  have els71:=els71.mono (hU67.tr (up_le S51.size))
  have S64:=S51.join (l':=[.row 134 4 v68 n69 cs70,.row 134 4 v37 n38 cs39]) r65 rfl
  refine FL.v (E.move (v:=Value.tuple #[v68,Value.bool r60.2]) rfl) ?_
  refine FL.v (E.extract (i:=0) rfl rfl) ?_
  refine FL.v (E.extract (i:=1) rfl rfl) ?_
  refine FL.v (E.assign (v:=v68) rfl) ?_
  refine FL.v (E.assign (v:=Value.bool r60.2) rfl) ?_
  refine FL.nil (FW.seq (FW.seq (FW.region ?_)))
  refine FL.v (E.load rfl (zal Tryz.isAgg26 Tryz.sizeOf26 ((at53.mono r65.run.inc).now S64.sl) rfl)) ?_
  refine FL.v (E.move (v:=v34) rfl) ?_
  refine FL.v (E.move (v:=v37) rfl) ?_
  refine FL.v (E.move (v:=Value.int .i64 r25.2.2.2) rfl) ?_
  obtain ⟨H74,S75,i76,ns79,nv78⟩:=S64.sealRowN (i:=1) (l':=[.row 134 4 v68 n69 cs70]) rfl (els40.mono (zaf (i52.tr r65.run.inc))) nd41 (by decide) rfl
  have h77:=ns79.rsl
  obtain ⟨r80,hr81,hp⟩:=bnd hp
  refine FL.call rfl rfl rfl (E.call Tryz.call42 (A4 rfl rfl rfl rfl)) (w_spec_ChainSteps S75.sl r25.1 v31 (h32.mono (upI.tr ((i52.tr r65.run.inc).tr i76))) v34 r25.2.1 (h35.mono (upI.tr ((i52.tr r65.run.inc).tr i76))) v37 r25.2.2.1 (h77.mono upI) r25.2.2.2 hr81) ?_
  rintro e w83 ⟨H82,v88,n89,cs90,rfl,r85,els91,nd92⟩
  refine ⟨_,rfl,?_⟩
  obtain ⟨H86,r85,hU87⟩:=St.lendX i76 S64.sl r85
  have nv93:New H66 cs90:=New.of_up S64.sl els91.dom
  have els91:=els91.mono (hU87.tr (up_le S64.size))
  have S84:=S64.join (l':=[.row 134 4 v88 n89 cs90,.row 134 4 v68 n69 cs70,.row 134 4 v37 n38 cs39]) r85 rfl
  refine FL.v (E.move (v:=Value.tuple #[v88,Value.bool r80.2]) rfl) ?_
  refine FL.v (E.extract (i:=0) rfl rfl) ?_
  refine FL.v (E.extract (i:=1) rfl rfl) ?_
  refine FL.v (E.assign (v:=v88) rfl) ?_
  refine FL.v (E.assign (v:=Value.bool r80.2) rfl) ?_
  refine FL.nil (FW.seq (FW.region ?_))
  refine FL.v (E.move (v:=Value.bool r60.2) rfl) ?_
  refine FL.v (E.move (v:=Value.bool r80.2) rfl) ?_
  refine FL.v (E.neqB Tryz.runUnderlying4 rfl rfl) ?_
  refine FL.v (E.move (v:=Value.bool (!(r60.2 == r80.2))) rfl) ?_
  obtain ⟨t111,hqtAb,hp⟩:=bnd hp
  refine FL.cut 5 (fun f w=>∃ H:GH,St Ha wa H w [.row 134 4 v88 n89 cs90,.row 134 4 v68 n69 cs70,.row 134 4 v37 n38 cs39]∧Inc H86 H∧f 3=Value.pointer (some ⟨b43,0,none⟩)∧f 4=v34∧f 5=v37∧f 6=Value.int .i64 r25.2.2.2∧f 7=v68∧f 8=Value.bool r60.2∧f 54=Value.bool t111) ?_ ?_
  ·
   clear hp;have hp:=hqtAb;clear hqtAb
   rcases ifB hp with ⟨cAh,hp⟩|⟨cAh,hp⟩
   ·
    refine FL.skip (wF_no rfl rfl rfl cAh) rfl ?_
    refine FL.skip (wF_no rfl rfl rfl cAh) rfl ?_
    refine FL.skip (wF_no rfl rfl rfl cAh) rfl ?_
    refine FL.skip (wF_no rfl rfl rfl cAh) rfl ?_
    obtain rfl:=Option.some.inj hp
    refine FL.v (E.pickT rfl cAh rfl) ?_
    exact FL.nil ⟨rfl,_,S84,(Inc.rfl _),rfl,rfl,rfl,rfl,rfl,rfl,rfl⟩
   ·
    refine FL.val (zac rfl rfl rfl cAh) rfl rfl (E.move (v:=v68) rfl) ?_
    refine FL.val (zac rfl rfl rfl cAh) rfl rfl (E.move (v:=v88) rfl) ?_
    obtain ⟨HAi,SAj,iAk,nsAn,nvAm⟩:=S84.sealRowN (i:=1) (l':=[.row 134 4 v88 n89 cs90,.row 134 4 v37 n38 cs39]) rfl (els71.mono (zaf r85.run.inc)) nd72 (by decide) rfl
    have hAl:=nsAn.rsl
    obtain ⟨HAo,SAp,iAq,nsAt,nvAs⟩:=SAj.sealRowN (i:=0) (l':=[.row 134 4 v37 n38 cs39]) rfl (els91.mono (zaf iAk)) nd92 (by decide) rfl
    have hAr:=nsAt.rsl
    obtain ⟨rAu,hrAv,hp⟩:=bnd hp
    refine FL.call (zac rfl rfl rfl cAh) rfl rfl (E.call Tryz.call43 (A2 rfl rfl)) (w_laws_vSteps SAp.sl v68 r60.1 (hAl.mono (upI.tr iAq)) v88 r80.1 (hAr.mono upI) hrAv) ?_
    rintro e wAw ⟨rfl,rAx⟩
    refine ⟨_,rfl,?_⟩
    have rAx:=Run.lend (iAk.tr iAq) S84.sl rAx
    have SAy:=S84.call rAx
    refine FL.val (zac rfl rfl rfl cAh) rfl rfl (E.not rfl) ?_
    obtain rfl:=Option.some.inj hp
    refine FL.v (E.pickF rfl cAh rfl) ?_
    exact FL.nil ⟨rfl,_,SAy,(Inc.rfl _),rfl,rfl,rfl,rfl,rfl,rfl,rfl⟩
  rintro fAg wAf ⟨HAc,SAd,iAe,kAz,kAA,kAB,kAC,kAD,kAE,kAF⟩
  refine FL.nil ?_
  rcases ifB hp with ⟨cAG,hp⟩|⟨cAG,hp⟩
  ·
   refine FW.condT kAF cAG ?_
   refine FW.seq (FW.region ?_)
   refine FL.v (E.assign (v:=Value.bool false) rfl) ?_
   refine FL.nil ?_
   refine FW.ret ?_
   obtain rfl:=Option.some.inj hp
   exact ⟨.inr rfl,res1 rfl rfl ⟨rfl,SAd.back⟩⟩
  ·
   refine FW.condF kAF cAG ?_
   refine FW.skip (FW.seq (FW.seq (FW.region ?_)))
   refine FL.v (E.move kAE) ?_
   refine FL.nil ?_
   rcases ifB hp with ⟨cAH,hp⟩|⟨cAH,hp⟩
   ·
    refine FW.condT rfl cAH ?_
    refine FW.seq (FW.region ?_)
    refine FL.v (E.load kAz (zal Tryz.isAgg26 Tryz.sizeOf26 ((at53.mono ((r65.run.inc.tr r85.run.inc).tr iAe)).now SAd.sl) rfl)) ?_
    refine FL.v (E.move kAA) ?_
    obtain ⟨rAI,hrAJ,hp⟩:=bnd hp
    refine FL.call rfl rfl rfl (E.call Tryz.call44 (A2 rfl rfl)) (zd2 SAd.sl r25.1 v31 (h32.mono (upI.tr (((i52.tr r65.run.inc).tr r85.run.inc).tr iAe))) v34 r25.2.1 (h35.mono (upI.tr (((i52.tr r65.run.inc).tr r85.run.inc).tr iAe))) hrAJ) ?_
    rintro e wAL ⟨HAK,vAO,nAP,csAQ,rfl,rAN,elsAR⟩
    refine ⟨_,rfl,?_⟩
    have elsAR:=elsAR.mono (up_le SAd.size)
    have SAM:=SAd.join (l':=[.row 3 1 vAO nAP csAQ,.row 134 4 v88 n89 cs90,.row 134 4 v68 n69 cs70,.row 134 4 v37 n38 cs39]) rAN rfl
    refine FL.v (E.move (v:=Value.tuple #[vAO,Value.bool rAI.2]) rfl) ?_
    refine FL.v (E.extract (i:=0) rfl rfl) ?_
    refine FL.v (E.extract (i:=1) rfl rfl) ?_
    refine FL.v (E.assign (v:=vAO) rfl) ?_
    refine FL.v (E.assign (v:=Value.bool rAI.2) rfl) ?_
    refine FL.nil (FW.seq (FW.region ?_))
    refine FL.v (E.load kAz (zal Tryz.isAgg26 Tryz.sizeOf26 ((at53.mono (((r65.run.inc.tr r85.run.inc).tr iAe).tr rAN.run.inc)).now SAM.sl) rfl)) ?_
    refine FL.v (E.move kAB) ?_
    obtain ⟨HAS,SAT,iAU,nsAX,nvAW⟩:=SAM.sealRowN (i:=3) (l':=[.row 3 1 vAO nAP csAQ,.row 134 4 v88 n89 cs90,.row 134 4 v68 n69 cs70]) rfl (els40.mono (zaf ((((i52.tr r65.run.inc).tr r85.run.inc).tr iAe).tr rAN.run.inc))) nd41 (by decide) rfl
    have hAV:=nsAX.rsl
    obtain ⟨rAY,hrAZ,hp⟩:=bnd hp
    refine FL.call rfl rfl rfl (E.call Tryz.call44 (A2 rfl rfl)) (zd2 SAT.sl r25.1 v31 (h32.mono (upI.tr (((((i52.tr r65.run.inc).tr r85.run.inc).tr iAe).tr rAN.run.inc).tr iAU))) v37 r25.2.2.1 (hAV.mono upI) hrAZ) ?_
    rintro e wB1 ⟨HB0,vB6,nB7,csB8,rfl,rB3,elsB9⟩
    refine ⟨_,rfl,?_⟩
    obtain ⟨HB4,rB3,hU167⟩:=St.lendX iAU SAM.sl rB3
    have elsB9:=elsB9.mono (hU167.tr (up_le SAM.size))
    have SB2:=SAM.join (l':=[.row 3 1 vB6 nB7 csB8,.row 3 1 vAO nAP csAQ,.row 134 4 v88 n89 cs90,.row 134 4 v68 n69 cs70,.row 134 4 v37 n38 cs39]) rB3 rfl
    refine FL.v (E.move (v:=Value.tuple #[vB6,Value.bool rAY.2]) rfl) ?_
    refine FL.v (E.extract (i:=0) rfl rfl) ?_
    refine FL.v (E.extract (i:=1) rfl rfl) ?_
    refine FL.v (E.assign (v:=vB6) rfl) ?_
    refine FL.v (E.assign (v:=Value.bool rAY.2) rfl) ?_
    refine FL.nil (FW.seq (FW.region ?_))
    refine FL.v (E.load kAz (zal Tryz.isAgg26 Tryz.sizeOf26 ((at53.mono ((((r65.run.inc.tr r85.run.inc).tr iAe).tr rAN.run.inc).tr rB3.run.inc)).now SB2.sl) rfl)) ?_
    refine FL.v (E.move kAD) ?_
    obtain ⟨HBa,SBb,iBc,nsBf,nvBe⟩:=SB2.sealRowN (i:=3) (l':=[.row 3 1 vB6 nB7 csB8,.row 3 1 vAO nAP csAQ,.row 134 4 v88 n89 cs90,.row 134 4 v37 n38 cs39]) rfl (els71.mono (zaf (((r85.run.inc.tr iAe).tr rAN.run.inc).tr rB3.run.inc))) nd72 (by decide) rfl
    have hBd:=nsBf.rsl
    obtain ⟨rBg,hrBh,hp⟩:=bnd hp
    refine FL.call rfl rfl rfl (E.call Tryz.call44 (A2 rfl rfl)) (zd2 SBb.sl r25.1 v31 (h32.mono (upI.tr ((((((i52.tr r65.run.inc).tr r85.run.inc).tr iAe).tr rAN.run.inc).tr rB3.run.inc).tr iBc))) v68 r60.1 (hBd.mono upI) hrBh) ?_
    rintro e wBj ⟨HBi,vBo,nBp,csBq,rfl,rBl,elsBr⟩
    refine ⟨_,rfl,?_⟩
    obtain ⟨HBm,rBl,hU185⟩:=St.lendX iBc SB2.sl rBl
    have elsBr:=elsBr.mono (hU185.tr (up_le SB2.size))
    have SBk:=SB2.join (l':=[.row 3 1 vBo nBp csBq,.row 3 1 vB6 nB7 csB8,.row 3 1 vAO nAP csAQ,.row 134 4 v88 n89 cs90,.row 134 4 v68 n69 cs70,.row 134 4 v37 n38 cs39]) rBl rfl
    refine FL.v (E.move (v:=Value.tuple #[vBo,Value.bool rBg.2]) rfl) ?_
    refine FL.v (E.extract (i:=0) rfl rfl) ?_
    refine FL.v (E.extract (i:=1) rfl rfl) ?_
    refine FL.v (E.assign (v:=vBo) rfl) ?_
    refine FL.v (E.assign (v:=Value.bool rBg.2) rfl) ?_
    refine FL.nil (FW.seq (FW.region ?_))
    refine FL.v (E.fieldAddr zaC kAz) ?_
    refine FL.v (E.load rfl (zag Tryz.isAgg3 ((at53.mono (((((r65.run.inc.tr r85.run.inc).tr iAe).tr rAN.run.inc).tr rB3.run.inc).tr rBl.run.inc)).now SBk.sl) rfl)) ?_
    refine FL.v (E.move (v:=vAO) rfl) ?_
    refine FL.v (E.move (v:=vB6) rfl) ?_
    refine FL.v (E.move kAC) ?_
    obtain ⟨HBs,SBt,iBu,hBv,nvBw⟩:=SBk.sealRowU (i:=2) (l':=[.row 3 1 vBo nBp csBq,.row 3 1 vB6 nB7 csB8,.row 134 4 v88 n89 cs90,.row 134 4 v68 n69 cs70,.row 134 4 v37 n38 cs39]) rfl (elsAR.mono (zaf (rB3.run.inc.tr rBl.run.inc))) (by decide) rfl
    obtain ⟨HBx,SBy,iBz,hBA,nvBB⟩:=SBt.sealRowU (i:=1) (l':=[.row 3 1 vBo nBp csBq,.row 134 4 v88 n89 cs90,.row 134 4 v68 n69 cs70,.row 134 4 v37 n38 cs39]) rfl (elsB9.mono (zaf (rBl.run.inc.tr iBu))) (by decide) rfl
    obtain ⟨rBC,hrBD,hp⟩:=bnd hp
    refine FL.call rfl rfl rfl (E.call Tryz.call45 (A4 rfl rfl rfl rfl)) (w_impl_ResolveOn SBy.sl r25.1.vars vAO rAI.1 (hBv.mono (upI.tr iBz)) vB6 rAY.1 (hBA.mono upI) r25.2.2.2 hrBD) ?_
    rintro e wBF ⟨HBE,vBK,nBL,csBM,rfl,rBH,elsBN⟩
    refine ⟨_,rfl,?_⟩
    obtain ⟨HBI,rBH,hU207⟩:=St.lendX (iBu.tr iBz) SBk.sl rBH
    have elsBN:=elsBN.mono (hU207.tr (up_le SBk.size))
    have SBG:=SBk.join (l':=[.row 3 1 vBK nBL csBM,.row 3 1 vBo nBp csBq,.row 3 1 vB6 nB7 csB8,.row 3 1 vAO nAP csAQ,.row 134 4 v88 n89 cs90,.row 134 4 v68 n69 cs70,.row 134 4 v37 n38 cs39]) rBH rfl
    refine FL.v (E.move (v:=Value.tuple #[vBK,Value.bool rBC.2]) rfl) ?_
    refine FL.v (E.extract (i:=0) rfl rfl) ?_
    refine FL.v (E.extract (i:=1) rfl rfl) ?_
    refine FL.v (E.assign (v:=vBK) rfl) ?_
    refine FL.v (E.assign (v:=Value.bool rBC.2) rfl) ?_
    refine FL.nil (FW.seq (FW.seq (FW.region ?_)))
    refine FL.v (E.move (v:=Value.bool rAI.2) rfl) ?_
    refine FL.v (E.not rfl) ?_
    refine FL.v (E.move (v:=Value.bool (!rAI.2)) rfl) ?_
    refine FL.cut 3 (fun f w=>∃ H:GH,St Ha wa H w [.row 3 1 vBK nBL csBM,.row 3 1 vBo nBp csBq,.row 3 1 vB6 nB7 csB8,.row 3 1 vAO nAP csAQ,.row 134 4 v88 n89 cs90,.row 134 4 v68 n69 cs70,.row 134 4 v37 n38 cs39]∧Inc HBI H∧f 3=Value.pointer (some ⟨b43,0,none⟩)∧f 4=v34∧f 5=v37∧f 7=v68∧f 15=vBo∧f 16=Value.bool rBg.2∧f 17=vBK∧f 18=Value.bool rBC.2∧f 88=Value.bool (bif (!rAI.2) then true else (!rAY.2))) ?_ ?_
    ·
     rcases bcase (!rAI.2) with cBU|cBU
     ·
      refine FL.skip (wF_no rfl rfl rfl cBU) rfl ?_
      refine FL.skip (wF_no rfl rfl rfl cBU) rfl ?_
      refine FL.v (E.pickT rfl cBU rfl) ?_
      exact FL.nil ⟨rfl,_,SBG,(Inc.rfl _),kAz,kAA,kAB,kAD,rfl,rfl,rfl,rfl,(congrArg Value.bool (bifT cBU).symm)⟩
     ·
      refine FL.val (zac rfl rfl rfl cBU) rfl rfl (E.move (v:=Value.bool rAY.2) rfl) ?_
      refine FL.val (zac rfl rfl rfl cBU) rfl rfl (E.not rfl) ?_
      refine FL.v (E.pickF rfl cBU rfl) ?_
      exact FL.nil ⟨rfl,_,SBG,(Inc.rfl _),kAz,kAA,kAB,kAD,rfl,rfl,rfl,rfl,(congrArg Value.bool (bifF cBU).symm)⟩
    rintro fBT wBS ⟨HBP,SBQ,iBR,kBV,kBW,kBX,kBY,kBZ,kC0,kC1,kC2,kC3⟩
    refine FL.v (E.move kC3) ?_
    refine FL.cut 3 (fun f w=>∃ H:GH,St Ha wa H w [.row 3 1 vBK nBL csBM,.row 3 1 vBo nBp csBq,.row 3 1 vB6 nB7 csB8,.row 3 1 vAO nAP csAQ,.row 134 4 v88 n89 cs90,.row 134 4 v68 n69 cs70,.row 134 4 v37 n38 cs39]∧Inc HBP H∧f 3=Value.pointer (some ⟨b43,0,none⟩)∧f 4=v34∧f 5=v37∧f 7=v68∧f 15=vBo∧f 17=vBK∧f 18=Value.bool rBC.2∧f 92=Value.bool (bif (bif (!rAI.2) then true else (!rAY.2)) then true else (!rBg.2))) ?_ ?_
    ·
     rcases bcase (bif (!rAI.2) then true else (!rAY.2)) with cCa|cCa
     ·
      refine FL.skip (wF_no rfl rfl rfl cCa) rfl ?_
      refine FL.skip (wF_no rfl rfl rfl cCa) rfl ?_
      refine FL.v (E.pickT rfl cCa rfl) ?_
      exact FL.nil ⟨rfl,_,SBQ,(Inc.rfl _),kBV,kBW,kBX,kBY,kBZ,kC1,kC2,(congrArg Value.bool (bifT cCa).symm)⟩
     ·
      refine FL.val (zac rfl rfl rfl cCa) rfl rfl (E.move kC0) ?_
      refine FL.val (zac rfl rfl rfl cCa) rfl rfl (E.not rfl) ?_
      refine FL.v (E.pickF rfl cCa rfl) ?_
      exact FL.nil ⟨rfl,_,SBQ,(Inc.rfl _),kBV,kBW,kBX,kBY,kBZ,kC1,kC2,(congrArg Value.bool (bifF cCa).symm)⟩
    rintro fC9 wC8 ⟨HC5,SC6,iC7,kCb,kCc,kCd,kCe,kCf,kCg,kCh,kCi⟩
    refine FL.v (E.move kCi) ?_
    refine FL.cut 3 (fun f w=>∃ H:GH,St Ha wa H w [.row 3 1 vBK nBL csBM,.row 3 1 vBo nBp csBq,.row 3 1 vB6 nB7 csB8,.row 3 1 vAO nAP csAQ,.row 134 4 v88 n89 cs90,.row 134 4 v68 n69 cs70,.row 134 4 v37 n38 cs39]∧Inc HC5 H∧f 3=Value.pointer (some ⟨b43,0,none⟩)∧f 4=v34∧f 5=v37∧f 7=v68∧f 15=vBo∧f 17=vBK∧f 96=Value.bool (bif (bif (bif (!rAI.2) then true else (!rAY.2)) then true else (!rBg.2)) then true else (!rBC.2))) ?_ ?_
    ·
     rcases bcase (bif (bif (!rAI.2) then true else (!rAY.2)) then true else (!rBg.2)) with cCp|cCp
     ·
      refine FL.skip (wF_no rfl rfl rfl cCp) rfl ?_
      refine FL.skip (wF_no rfl rfl rfl cCp) rfl ?_
      refine FL.v (E.pickT rfl cCp rfl) ?_
      exact FL.nil ⟨rfl,_,SC6,(Inc.rfl _),kCb,kCc,kCd,kCe,kCf,kCg,(congrArg Value.bool (bifT cCp).symm)⟩
     ·
      refine FL.val (zac rfl rfl rfl cCp) rfl rfl (E.move kCh) ?_
      refine FL.val (zac rfl rfl rfl cCp) rfl rfl (E.not rfl) ?_
      refine FL.v (E.pickF rfl cCp rfl) ?_
      exact FL.nil ⟨rfl,_,SC6,(Inc.rfl _),kCb,kCc,kCd,kCe,kCf,kCg,(congrArg Value.bool (bifF cCp).symm)⟩
    rintro fCo wCn ⟨HCk,SCl,iCm,kCq,kCr,kCs,kCt,kCu,kCv,kCw⟩
    refine FL.v (E.move kCw) ?_
    obtain ⟨t272,hqtCM,hp⟩:=bnd hp
    refine FL.cut 5 (fun f w=>∃ H:GH,St Ha wa H w [.row 3 1 vBK nBL csBM,.row 3 1 vBo nBp csBq,.row 3 1 vB6 nB7 csB8,.row 3 1 vAO nAP csAQ,.row 134 4 v88 n89 cs90,.row 134 4 v68 n69 cs70,.row 134 4 v37 n38 cs39]∧Inc HCk H∧f 3=Value.pointer (some ⟨b43,0,none⟩)∧f 4=v34∧f 5=v37∧f 7=v68∧f 102=Value.bool t272) ?_ ?_
    ·
     clear hp;have hp:=hqtCM;clear hqtCM
     rcases ifB hp with ⟨cCS,hp⟩|⟨cCS,hp⟩
     ·
      refine FL.skip (wF_no rfl rfl rfl cCS) rfl ?_
      refine FL.skip (wF_no rfl rfl rfl cCS) rfl ?_
      refine FL.skip (wF_no rfl rfl rfl cCS) rfl ?_
      refine FL.skip (wF_no rfl rfl rfl cCS) rfl ?_
      obtain rfl:=Option.some.inj hp
      refine FL.v (E.pickT rfl cCS rfl) ?_
      exact FL.nil ⟨rfl,_,SCl,(Inc.rfl _),kCq,kCr,kCs,kCt,rfl⟩
     ·
      refine FL.val (zac rfl rfl rfl cCS) rfl rfl (E.move kCu) ?_
      refine FL.val (zac rfl rfl rfl cCS) rfl rfl (E.move kCv) ?_
      obtain ⟨HCT,SCU,iCV,hCW,nvCX⟩:=SCl.sealRowU (i:=1) (l':=[.row 3 1 vBK nBL csBM,.row 3 1 vB6 nB7 csB8,.row 3 1 vAO nAP csAQ,.row 134 4 v88 n89 cs90,.row 134 4 v68 n69 cs70,.row 134 4 v37 n38 cs39]) rfl (elsBr.mono (zaf (((rBH.run.inc.tr iBR).tr iC7).tr iCm))) (by decide) rfl
      obtain ⟨HCY,SCZ,iD0,hD1,nvD2⟩:=SCU.sealRowU (i:=0) (l':=[.row 3 1 vB6 nB7 csB8,.row 3 1 vAO nAP csAQ,.row 134 4 v88 n89 cs90,.row 134 4 v68 n69 cs70,.row 134 4 v37 n38 cs39]) rfl (elsBN.mono (zaf (((iBR.tr iC7).tr iCm).tr iCV))) (by decide) rfl
      obtain ⟨rD3,hrD4,hp⟩:=bnd hp
      refine FL.call (zac rfl rfl rfl cCS) rfl rfl (E.call Tryz.call46 (A2 rfl rfl)) (w_laws_vInts SCZ.sl vBo rBg.1 (hCW.mono (upI.tr iD0)) vBK rBC.1 (hD1.mono upI) hrD4) ?_
      rintro e wD5 ⟨rfl,rD6⟩
      refine ⟨_,rfl,?_⟩
      have rD6:=Run.lend (iCV.tr iD0) SCl.sl rD6
      have SD7:=SCl.call rD6
      refine FL.val (zac rfl rfl rfl cCS) rfl rfl (E.not rfl) ?_
      obtain rfl:=Option.some.inj hp
      refine FL.v (E.pickF rfl cCS rfl) ?_
      exact FL.nil ⟨rfl,_,SD7,(Inc.rfl _),kCq,kCr,kCs,kCt,rfl⟩
    rintro fCR wCQ ⟨HCN,SCO,iCP,kD8,kD9,kDa,kDb,kDc⟩
    refine FL.v (E.move kDc) ?_
    refine FL.cut 10 (fun f w=>∃ H:GH,St Ha wa H w [.row 3 1 vBK nBL csBM,.row 3 1 vBo nBp csBq,.row 3 1 vB6 nB7 csB8,.row 3 1 vAO nAP csAQ,.row 134 4 v88 n89 cs90,.row 134 4 v68 n69 cs70,.row 134 4 v37 n38 cs39]∧Inc HCN H∧f 3=Value.pointer (some ⟨b43,0,none⟩)∧f 7=v68∧f 113=Value.bool (bif t272 then true else (!((len r60.1) == (wr ((wr ((len r25.2.1) + (len r25.2.2.1))) + 1)))))) ?_ ?_
    ·
     rcases bcase t272 with cDj|cDj
     ·
      refine FL.skip (wF_no rfl rfl rfl cDj) rfl ?_
      refine FL.skip (wF_no rfl rfl rfl cDj) rfl ?_
      refine FL.skip (wF_no rfl rfl rfl cDj) rfl ?_
      refine FL.skip (wF_no rfl rfl rfl cDj) rfl ?_
      refine FL.skip (wF_no rfl rfl rfl cDj) rfl ?_
      refine FL.skip (wF_no rfl rfl rfl cDj) rfl ?_
      refine FL.skip (wF_no rfl rfl rfl cDj) rfl ?_
      refine FL.skip (wF_no rfl rfl rfl cDj) rfl ?_
      refine FL.skip (wF_no rfl rfl rfl cDj) rfl ?_
      refine FL.v (E.pickT rfl cDj rfl) ?_
      exact FL.nil ⟨rfl,_,SCO,(Inc.rfl _),kD8,kDb,(congrArg Value.bool (bifT cDj).symm)⟩
     ·
      refine FL.val (zac rfl rfl rfl cDj) rfl rfl (E.move kDb) ?_
      refine FL.val (zac rfl rfl rfl cDj) rfl rfl (E.lenO te61 rfl SCO (i:=5) rfl els71 (by decide)) ?_
      refine FL.val (zac rfl rfl rfl cDj) rfl rfl (E.move kD9) ?_
      refine FL.val (zac rfl rfl rfl cDj) rfl rfl (E.lenP te61 rfl h35) ?_
      refine FL.val (zac rfl rfl rfl cDj) rfl rfl (E.move kDa) ?_
      refine FL.val (zac rfl rfl rfl cDj) rfl rfl (E.lenO te61 rfl SCO (i:=6) rfl els40 (by decide)) ?_
      refine FL.val (zac rfl rfl rfl cDj) rfl rfl (E.add rfl rfl) ?_
      refine FL.val (zac rfl rfl rfl cDj) rfl rfl (E.add rfl rfl) ?_
      refine FL.val (zac rfl rfl rfl cDj) rfl rfl (E.neq rfl rfl) ?_
      refine FL.v (E.pickF rfl cDj rfl) ?_
      exact FL.nil ⟨rfl,_,SCO,(Inc.rfl _),kD8,kDb,(congrArg Value.bool (bifF cDj).symm)⟩
    rintro fDi wDh ⟨HDe,SDf,iDg,kDk,kDl,kDm⟩
    refine FL.nil ?_
    rcases ifB hp with ⟨cDn,hp⟩|⟨cDn,hp⟩
    ·
     refine FW.condT kDm cDn ?_
     refine FW.seq (FW.region ?_)
     refine FL.v (E.assign (v:=Value.bool false) rfl) ?_
     refine FL.nil ?_
     refine FW.ret ?_
     obtain rfl:=Option.some.inj hp
     exact ⟨.inr rfl,res1 rfl rfl ⟨rfl,SDf.back⟩⟩
    ·
     refine FW.condF kDm cDn ?_
     refine FW.skip (FW.seq (FW.region ?_))
     refine FL.v (E.load kDk (zal Tryz.isAgg26 Tryz.sizeOf26 ((at53.mono (((((((((((r65.run.inc.tr r85.run.inc).tr iAe).tr rAN.run.inc).tr rB3.run.inc).tr rBl.run.inc).tr rBH.run.inc).tr iBR).tr iC7).tr iCm).tr iCP).tr iDg)).now SDf.sl) rfl)) ?_
     refine FL.v (E.move kDl) ?_
     obtain ⟨HDo,SDp,iDq,nsDt,nvDs⟩:=SDf.sealRowN (i:=5) (l':=[.row 3 1 vBK nBL csBM,.row 3 1 vBo nBp csBq,.row 3 1 vB6 nB7 csB8,.row 3 1 vAO nAP csAQ,.row 134 4 v88 n89 cs90,.row 134 4 v37 n38 cs39]) rfl (els71.mono (zaf ((((((((((r85.run.inc.tr iAe).tr rAN.run.inc).tr rB3.run.inc).tr rBl.run.inc).tr rBH.run.inc).tr iBR).tr iC7).tr iCm).tr iCP).tr iDg))) nd72 (by decide) rfl
     have hDr:=nsDt.rsl
     obtain ⟨rDu,hrDv,hp⟩:=bnd hp
     refine FL.call rfl rfl rfl (E.call Tryz.call47 (A2 rfl rfl)) (w_impl_StepDepths SDp.sl r25.1 v31 (h32.mono (upI.tr (((((((((((((i52.tr r65.run.inc).tr r85.run.inc).tr iAe).tr rAN.run.inc).tr rB3.run.inc).tr rBl.run.inc).tr rBH.run.inc).tr iBR).tr iC7).tr iCm).tr iCP).tr iDg).tr iDq))) v68 r60.1 (hDr.mono upI) hrDv) ?_
     rintro e wDx ⟨HDw,vDC,nDD,csDE,rfl,rDz,elsDF⟩
     refine ⟨_,rfl,?_⟩
     obtain ⟨HDA,rDz,hU323⟩:=St.lendX iDq SDf.sl rDz
     have elsDF:=elsDF.mono (hU323.tr (up_le SDf.size))
     have SDy:=SDf.join (l':=[.row 3 1 vDC nDD csDE,.row 3 1 vBK nBL csBM,.row 3 1 vBo nBp csBq,.row 3 1 vB6 nB7 csB8,.row 3 1 vAO nAP csAQ,.row 134 4 v88 n89 cs90,.row 134 4 v68 n69 cs70,.row 134 4 v37 n38 cs39]) rDz rfl
     refine FL.v (E.move (v:=Value.tuple #[vDC,Value.bool rDu.2]) rfl) ?_
     refine FL.v (E.extract (i:=0) rfl rfl) ?_
     refine FL.v (E.extract (i:=1) rfl rfl) ?_
     refine FL.v (E.assign (v:=vDC) rfl) ?_
     refine FL.v (E.assign (v:=Value.bool rDu.2) rfl) ?_
     refine FL.nil (FW.seq (FW.region ?_))
     refine FL.v (E.move (v:=Value.bool rDu.2) rfl) ?_
     refine FL.v (E.not rfl) ?_
     refine FL.v (E.move (v:=Value.bool (!rDu.2)) rfl) ?_
     refine FL.cut 6 (fun f w=>∃ H:GH,St Ha wa H w [.row 3 1 vDC nDD csDE,.row 3 1 vBK nBL csBM,.row 3 1 vBo nBp csBq,.row 3 1 vB6 nB7 csB8,.row 3 1 vAO nAP csAQ,.row 134 4 v88 n89 cs90,.row 134 4 v68 n69 cs70,.row 134 4 v37 n38 cs39]∧Inc HDA H∧f 128=Value.bool (bif (!rDu.2) then true else (!((len rDu.1) == (len r60.1))))) ?_ ?_
     ·
      rcases bcase (!rDu.2) with cDM|cDM
      ·
       refine FL.skip (wF_no rfl rfl rfl cDM) rfl ?_
       refine FL.skip (wF_no rfl rfl rfl cDM) rfl ?_
       refine FL.skip (wF_no rfl rfl rfl cDM) rfl ?_
       refine FL.skip (wF_no rfl rfl rfl cDM) rfl ?_
       refine FL.skip (wF_no rfl rfl rfl cDM) rfl ?_
       refine FL.v (E.pickT rfl cDM rfl) ?_
       exact FL.nil ⟨rfl,_,SDy,(Inc.rfl _),(congrArg Value.bool (bifT cDM).symm)⟩
      ·
       refine FL.val (zac rfl rfl rfl cDM) rfl rfl (E.move (v:=vDC) rfl) ?_
       refine FL.val (zac rfl rfl rfl cDM) rfl rfl (E.lenO te52 rfl SDy (i:=0) rfl elsDF (by decide)) ?_
       refine FL.val (zac rfl rfl rfl cDM) rfl rfl (E.move kDl) ?_
       refine FL.val (zac rfl rfl rfl cDM) rfl rfl (E.lenO te61 rfl SDy (i:=6) rfl els71 (by decide)) ?_
       refine FL.val (zac rfl rfl rfl cDM) rfl rfl (E.neq rfl rfl) ?_
       refine FL.v (E.pickF rfl cDM rfl) ?_
       exact FL.nil ⟨rfl,_,SDy,(Inc.rfl _),(congrArg Value.bool (bifF cDM).symm)⟩
     rintro fDL wDK ⟨HDH,SDI,iDJ,kDN⟩
     refine FL.nil ?_
     rcases ifB hp with ⟨cDO,hp⟩|⟨cDO,hp⟩
     ·
      refine FW.condT kDN cDO ?_
      refine FW.seq (FW.region ?_)
      refine FL.v (E.assign (v:=Value.bool false) rfl) ?_
      refine FL.nil ?_
      refine FW.ret ?_
      obtain rfl:=Option.some.inj hp
      exact ⟨.inr rfl,res1 rfl rfl ⟨rfl,SDI.back⟩⟩
     ·
      refine FW.condF kDN cDO ?_
      refine FW.skip (FW.seq (FW.region ?_))
      refine FL.v (E.assign (v:=Value.bool true) rfl) ?_
      refine FL.nil ?_
      refine FW.ret ?_
      obtain rfl:=Option.some.inj hp
      exact ⟨.inr rfl,res1 rfl rfl ⟨rfl,SDI.back⟩⟩
   ·
    refine FW.condF rfl cAH ?_
    refine FW.skip (FW.seq (FW.region ?_))
    refine FL.v (E.assign (v:=Value.bool true) rfl) ?_
    refine FL.nil ?_
    refine FW.ret ?_
    obtain rfl:=Option.some.inj hp
    exact ⟨.inr rfl,res1 rfl rfl ⟨rfl,SAd.back⟩⟩

end Go.Proofs
