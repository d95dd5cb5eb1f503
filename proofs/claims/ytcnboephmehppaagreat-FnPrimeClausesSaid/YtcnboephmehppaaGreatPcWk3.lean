/- Part of the walks and plain laws behind the claim: it proves helpers, under no condition beyond their own. -/
import Derived.Test.YtcnboephmehppaaGreatPcWk2
set_option linter.unusedVariables false
set_option maxRecDepth 100000
namespace Go.Proofs
open Go.Mr Go.Pu Go.PF Go.RowKit

set_option maxHeartbeats 4000000 in
theorem w_laws_rInts {Ha:GH} {wa:World} (hs:Sl Ha wa) (v0:Value) (a0:List Int) (p0:RSl Ha eI 1 v0 a0) (v1:Value) (a1:List Int) (p1:RSl Ha eI 1 v1 a1) {r:Bool} (hp:(PF.zcU a0 a1)=some r) :
  Calls Tryz.prog 41 #[v0,v1] wa (Sc Ha wa (Value.bool r)):=by
 unfold PF.zcU at hp
 have S0:=St.init hs
 refine zah (N:=26) (args:=[v0,v1]) Tryz.func41 rfl rfl rfl ?_
 refine FW.seq (FW.region ?_)
 refine FL.v (E.assign (v:=Value.bool false) rfl) ?_
 refine FL.nil (FW.seq (FW.seq (FW.region ?_)))
 refine FL.v (E.move (v:=v0) rfl) ?_
 refine FL.v (E.lenP te34 rfl p0) ?_
 refine FL.v (E.move (v:=v1) rfl) ?_
 refine FL.v (E.lenP te34 rfl p1) ?_
 refine FL.v (E.neq rfl rfl) ?_
 refine FL.nil ?_
 rcases ifB hp with ⟨c21,hp⟩|⟨c21,hp⟩
 ·
  refine FW.condT rfl c21 ?_
  refine FW.seq (FW.region ?_)
  refine FL.v (E.assign (v:=Value.bool false) rfl) ?_
  refine FL.nil ?_
  refine FW.ret ?_
  obtain rfl:=Option.some.inj hp
  exact ⟨.inr rfl,res1 rfl rfl ⟨rfl,S0.back⟩⟩
 ·
  refine FW.condF rfl c21 ?_
  refine FW.skip (FW.seq (FW.seq (FW.region ?_)))
  refine FL.v (E.assign (v:=Value.int .i64 0) rfl) ?_
  refine FL.nil ?_
  obtain ⟨q23,hq,hp⟩:=bndR hp
  refine FW.block ?_
  refine FW.mono (FW.forL (S:=Unit) (X:=Bool) (fun (i23:Nat) (s23:Unit) f w=>∃ H:GH,St Ha wa H w []∧Inc Ha H∧f 5=Value.int .i64 ((i23:Nat):Int)∧f 0=v0∧f 1=v1) (fun q e f w=>match q with|.go s23=>e=Exit.exit 0∧(∃ H:GH,St Ha wa H w []∧Inc Ha H)|.rt x=>((e=Exit.ret)∧(fun e f w=>(e=Exit.normal∨e=Exit.ret)∧∀ a,Fr (δ:=[]) 26 a f→∃ v,(results Tryz.f41 a.tmps).run Tryz.prog w=.ok v w∧(Sc Ha wa (Value.bool x)) (.returned v) w) e f w)) hq ⟨_,S0,(Inc.rfl _),rfl,rfl,rfl⟩ ?_ ?_) ?_
  ·
   clear hp hq
   rintro i23 y22 s23 f55 w54 ⟨H51,S52,i53,k56,k57,k58⟩ hx23 o78 hp
   refine FW.seq (FW.seq (FW.region ?_))
   refine FL.v (E.move k56) ?_
   refine FL.v (E.move k57) ?_
   refine FL.v (E.lenP te34 rfl p0) ?_
   refine FL.v (E.lssT rfl rfl (zay hx23)) ?_
   refine FL.nil ?_
   refine FW.condT rfl rfl ?_
   refine FW.skip (FW.seq (FW.block (FW.seq ?_)))
   refine FW.draw (fun w'=>Run w54.heap.size H51 w54 H51 w') (by kernel_rfl) (by kernel_rfl) (zaD S52.sl) ?_
   refine FD.val rfl rfl rfl (fun w' hw'=>(E.move k57)) ?_
   refine FD.val rfl rfl rfl (fun w' hw'=>(E.move k56)) ?_
   obtain ⟨p60,cs61,pt62,l63,at64,rel65⟩:=p0.at (zap hx23)
   obtain rfl:=zam rel65
   refine FD.val rfl rfl rfl (fun w' hw'=>(E.indexAddr te34 rfl rfl pt62)) ?_
   refine FD.val rfl rfl rfl (fun w' hw'=>(E.load rfl (zaf Tryz.isAgg3 ((at64.mono i53).now (S52.call hw').sl) rfl))) ?_
   refine FD.val rfl rfl rfl (fun w' hw'=>(E.move k58)) ?_
   refine FD.val rfl rfl rfl (fun w' hw'=>(E.move k56)) ?_
   obtain ⟨x72,hx73,hp⟩:=bnd hp
   obtain ⟨p66,cs67,pt68,l69,at70,rel71⟩:=p1.at hx73
   obtain rfl:=zam rel71
   refine FD.val rfl rfl rfl (fun w' hw'=>(E.indexAddr te34 rfl rfl pt68)) ?_
   refine FD.val rfl rfl rfl (fun w' hw'=>(E.load rfl (zaf Tryz.isAgg3 ((at70.mono i53).now (S52.call hw').sl) rfl))) ?_
   refine FD.val rfl rfl rfl (fun w' hw'=>(E.neq rfl rfl)) ?_
   refine FD.nil ?_
   intro w74 r76
   have S75:=S52.call r76
   rcases ifB hp with ⟨c77,hp⟩|⟨c77,hp⟩
   ·
    refine FW.condT rfl c77 ?_
    refine FW.seq (FW.region ?_)
    refine FL.v (E.assign (v:=Value.bool false) rfl) ?_
    refine FL.nil ?_
    refine FW.ret ?_
    obtain rfl:=Option.some.inj hp
    exact ⟨nofun,rfl,⟨.inr rfl,res1 rfl rfl ⟨rfl,S75.back⟩⟩⟩
   ·
    refine FW.condF rfl c77 ?_
    refine FW.skip (FW.region ?_)
    refine FL.v (E.move k56) ?_
    refine FL.v (E.add rfl rfl) ?_
    refine FL.v (E.assign (v:=Value.int .i64 (wr (((i23:Nat):Int) + 1))) rfl) ?_
    refine FL.nil ?_
    obtain rfl:=Option.some.inj hp
    exact ⟨rfl,⟨_,S75,i53,(zas rfl (zao hx23) (p0.mono i53).le),k57,k58⟩⟩
  ·
   clear hp hq
   rintro s23 f88 w87 ⟨H84,S85,i86,k89,k90,k91⟩
   refine FW.seq (FW.seq (FW.region ?_))
   refine FL.v (E.move k89) ?_
   refine FL.v (E.move k90) ?_
   refine FL.v (E.lenP te34 rfl p0) ?_
   refine FL.v (E.lss rfl rfl) ?_
   refine FL.nil ?_
   refine FW.condF rfl zaz ?_
   refine FW.exit ?_
   exact ⟨nofun,rfl,⟨_,S85,i86⟩⟩
  ·
   clear hq
   intro e f83 w82 hD
   rcases q23 with s23|x23
   ·
    obtain ⟨rfl,hD⟩:=hD
    obtain ⟨H79,S80,i81⟩:=hD
    replace hp:=el_go hp
    refine FW.seq (FW.region ?_)
    refine FL.v (E.assign (v:=Value.bool true) rfl) ?_
    refine FL.nil ?_
    refine FW.ret ?_
    obtain rfl:=Option.some.inj hp
    exact ⟨.inr rfl,res1 rfl rfl ⟨rfl,S80.back⟩⟩
   ·
    obtain ⟨he,hL⟩:=hD
    replace hp:=el_rt hp
    obtain rfl:=Option.some.inj hp
    subst he
    exact hL

set_option maxHeartbeats 4000000 in
theorem zd0 {Ha:GH} {wa:World} (hs:Sl Ha wa) (v0:Value) (a0:List (List Int)) (p0:RSl Ha (eL eI 1) 1 v0 a0) (v1:Value) (a1:List (List Int)) (p1:RSl Ha (eL eI 1) 1 v1 a1) {r:Bool} (hp:(PF.zbY a0 a1)=some r) :
  Calls Tryz.prog 15 #[v0,v1] wa (Sc Ha wa (Value.bool r)):=by
 unfold PF.zbY at hp
 have S0:=St.init hs
 refine zah (N:=27) (args:=[v0,v1]) Tryz.func15 rfl rfl rfl ?_
 refine FW.seq (FW.region ?_)
 refine FL.v (E.assign (v:=Value.bool false) rfl) ?_
 refine FL.nil (FW.seq (FW.seq (FW.region ?_)))
 refine FL.v (E.move (v:=v0) rfl) ?_
 refine FL.v (E.lenP te24 rfl p0) ?_
 refine FL.v (E.move (v:=v1) rfl) ?_
 refine FL.v (E.lenP te24 rfl p1) ?_
 refine FL.v (E.neq rfl rfl) ?_
 refine FL.nil ?_
 rcases ifB hp with ⟨c21,hp⟩|⟨c21,hp⟩
 ·
  refine FW.condT rfl c21 ?_
  refine FW.seq (FW.region ?_)
  refine FL.v (E.assign (v:=Value.bool false) rfl) ?_
  refine FL.nil ?_
  refine FW.ret ?_
  obtain rfl:=Option.some.inj hp
  exact ⟨.inr rfl,res1 rfl rfl ⟨rfl,S0.back⟩⟩
 ·
  refine FW.condF rfl c21 ?_
  refine FW.skip (FW.seq (FW.seq (FW.region ?_)))
  refine FL.v (E.assign (v:=Value.int .i64 0) rfl) ?_
  refine FL.nil ?_
  obtain ⟨q23,hq,hp⟩:=bndR hp
  refine FW.block ?_
  refine FW.mono (FW.forL (S:=Unit) (X:=Bool) (fun (i23:Nat) (s23:Unit) f w=>∃ H:GH,St Ha wa H w []∧Inc Ha H∧f 5=Value.int .i64 ((i23:Nat):Int)∧f 0=v0∧f 1=v1) (fun q e f w=>match q with|.go s23=>e=Exit.exit 0∧(∃ H:GH,St Ha wa H w []∧Inc Ha H)|.rt x=>((e=Exit.ret)∧(fun e f w=>(e=Exit.normal∨e=Exit.ret)∧∀ a,Fr (δ:=[]) 27 a f→∃ v,(results Tryz.f15 a.tmps).run Tryz.prog w=.ok v w∧(Sc Ha wa (Value.bool x)) (.returned v) w) e f w)) hq ⟨_,S0,(Inc.rfl _),rfl,rfl,rfl⟩ ?_ ?_) ?_
  ·
   clear hp hq
   rintro i23 y22 s23 f61 w60 ⟨H57,S58,i59,k62,k63,k64⟩ hx23 o90 hp
   refine FW.seq (FW.seq (FW.region ?_))
   refine FL.v (E.move k62) ?_
   refine FL.v (E.move k63) ?_
   refine FL.v (E.lenP te24 rfl p0) ?_
   refine FL.v (E.lssT rfl rfl (zay hx23)) ?_
   refine FL.nil ?_
   refine FW.condT rfl rfl ?_
   refine FW.skip (FW.seq (FW.block (FW.seq ?_)))
   refine FW.draw (fun w'=>Run w60.heap.size H57 w60 H57 w') (by kernel_rfl) (by kernel_rfl) (zaD S58.sl) ?_
   refine FD.val rfl rfl rfl (fun w' hw'=>(E.move k63)) ?_
   refine FD.val rfl rfl rfl (fun w' hw'=>(E.move k62)) ?_
   obtain ⟨p66,cs67,pt68,l69,at70,rel71⟩:=p0.at (zap hx23)
   obtain ⟨v72,rfl,h73⟩:=zau rel71
   refine FD.val rfl rfl rfl (fun w' hw'=>(E.indexAddr te24 rfl rfl pt68)) ?_
   refine FD.val rfl rfl rfl (fun w' hw'=>(E.load rfl (zaf Tryz.isAgg34 ((at70.mono i59).now (S58.call hw').sl) rfl))) ?_
   refine FD.val rfl rfl rfl (fun w' hw'=>(E.move k64)) ?_
   refine FD.val rfl rfl rfl (fun w' hw'=>(E.move k62)) ?_
   obtain ⟨x80,hx81,hp⟩:=bnd hp
   obtain ⟨p74,cs75,pt76,l77,at78,rel79⟩:=p1.at hx81
   obtain ⟨v82,rfl,h83⟩:=zau rel79
   refine FD.val rfl rfl rfl (fun w' hw'=>(E.indexAddr te24 rfl rfl pt76)) ?_
   refine FD.val rfl rfl rfl (fun w' hw'=>(E.load rfl (zaf Tryz.isAgg34 ((at78.mono i59).now (S58.call hw').sl) rfl))) ?_
   obtain ⟨r84,hr85,hp⟩:=bnd hp
   refine FD.call rfl rfl rfl (fun w' hw'=>(E.call Tryz.call41 (A2 rfl rfl))) (fun w' hw'=>Calls.cls hw' (w_laws_rInts (S58.call hw').sl v72 y22 (h73.mono i59) v82 x80 (h83.mono i59) hr85)) ?_
   refine FD.val rfl rfl rfl (fun w' hw'=>(E.not rfl)) ?_
   refine FD.nil ?_
   intro w86 r88
   have S87:=S58.call r88
   rcases ifB hp with ⟨c89,hp⟩|⟨c89,hp⟩
   ·
    refine FW.condT rfl c89 ?_
    refine FW.seq (FW.region ?_)
    refine FL.v (E.assign (v:=Value.bool false) rfl) ?_
    refine FL.nil ?_
    refine FW.ret ?_
    obtain rfl:=Option.some.inj hp
    exact ⟨nofun,rfl,⟨.inr rfl,res1 rfl rfl ⟨rfl,S87.back⟩⟩⟩
   ·
    refine FW.condF rfl c89 ?_
    refine FW.skip (FW.region ?_)
    refine FL.v (E.move k62) ?_
    refine FL.v (E.add rfl rfl) ?_
    refine FL.v (E.assign (v:=Value.int .i64 (wr (((i23:Nat):Int) + 1))) rfl) ?_
    refine FL.nil ?_
    obtain rfl:=Option.some.inj hp
    exact ⟨rfl,⟨_,S87,i59,(zas rfl (zao hx23) (p0.mono i59).le),k63,k64⟩⟩
  ·
   clear hp hq
   rintro s23 fA0 w99 ⟨H96,S97,i98,kA1,kA2,kA3⟩
   refine FW.seq (FW.seq (FW.region ?_))
   refine FL.v (E.move kA1) ?_
   refine FL.v (E.move kA2) ?_
   refine FL.v (E.lenP te24 rfl p0) ?_
   refine FL.v (E.lss rfl rfl) ?_
   refine FL.nil ?_
   refine FW.condF rfl zaz ?_
   refine FW.exit ?_
   exact ⟨nofun,rfl,⟨_,S97,i98⟩⟩
  ·
   clear hq
   intro e f95 w94 hD
   rcases q23 with s23|x23
   ·
    obtain ⟨rfl,hD⟩:=hD
    obtain ⟨H91,S92,i93⟩:=hD
    replace hp:=el_go hp
    refine FW.seq (FW.region ?_)
    refine FL.v (E.assign (v:=Value.bool true) rfl) ?_
    refine FL.nil ?_
    refine FW.ret ?_
    obtain rfl:=Option.some.inj hp
    exact ⟨.inr rfl,res1 rfl rfl ⟨rfl,S92.back⟩⟩
   ·
    obtain ⟨he,hL⟩:=hD
    replace hp:=el_rt hp
    obtain rfl:=Option.some.inj hp
    subst he
    exact hL

theorem w_laws_rCnf {Ha:GH} {wa:World} (hs:Sl Ha wa) (a0:Cnf) (v0_1:Value) (p0_1:RSl Ha (eL eI 1) 1 v0_1 a0.clauses) (a1:Cnf) (v1_1:Value) (p1_1:RSl Ha (eL eI 1) 1 v1_1 a1.clauses) {r:Bool} (hp:(PF.zcV a0 a1)=some r) :
  Calls Tryz.prog 10 #[Value.agg #[Value.int .i64 a0.vars,v0_1],Value.agg #[Value.int .i64 a1.vars,v1_1]] wa (Sc Ha wa (Value.bool r)):=by
 unfold PF.zcV at hp
 have S0:=St.init hs
 refine zah (N:=17) (args:=[Value.agg #[Value.int .i64 a0.vars,v0_1],Value.agg #[Value.int .i64 a1.vars,v1_1]]) Tryz.func10 rfl rfl rfl ?_
 refine FW.seq (FW.region ?_)
 obtain ⟨b21,w22,run23,S24⟩:=S0.box (P:=Tryz.prog) 26 [Value.int .i64 a0.vars,v0_1] (v:=Value.agg #[Value.int .i64 a0.vars,v0_1]) rfl (zaa rfl (zaa p0_1.one zad))
 refine FL.v (E.box rfl run23) ?_
 obtain ⟨H25,S26,i27,at28⟩:=S24.sealBox (i:=0) (l':=[]) rfl rfl
 obtain ⟨b29,w30,run31,S32⟩:=S26.box (P:=Tryz.prog) 26 [Value.int .i64 a1.vars,v1_1] (v:=Value.agg #[Value.int .i64 a1.vars,v1_1]) rfl (zaa rfl (zaa p1_1.one zad))
 refine FL.v (E.box rfl run31) ?_
 obtain ⟨H33,S34,i35,at36⟩:=S32.sealBox (i:=0) (l':=[]) rfl rfl
 refine FL.v (E.assign (v:=Value.bool false) rfl) ?_
 refine FL.nil (FW.seq (FW.region ?_))
 refine FL.v (E.fieldAddr zax rfl) ?_
 refine FL.v (E.load rfl (zag Tryz.isAgg3 ((at28.mono i35).now S34.sl) rfl)) ?_
 refine FL.v (E.fieldAddr zax rfl) ?_
 refine FL.v (E.load rfl (zag Tryz.isAgg3 (at36.now S34.sl) rfl)) ?_
 refine FL.v (E.eql rfl rfl) ?_
 refine FL.v (E.move (v:=Value.bool (a0.vars == a1.vars)) rfl) ?_
 obtain ⟨t42,hqt42,hp⟩:=bnd hp
 refine FL.cut 6 (fun f w=>∃ H:GH,St Ha wa H w []∧Inc H33 H∧f 16=Value.bool t42) ?_ ?_
 ·
  clear hp;have hp:=hqt42;clear hqt42
  rcases ifB hp with ⟨c48,hp⟩|⟨c48,hp⟩
  ·
   refine FL.val (zac rfl rfl rfl c48) rfl rfl (E.fieldAddr zan rfl) ?_
   refine FL.val (zac rfl rfl rfl c48) rfl rfl (E.load rfl (zag Tryz.isAgg24 ((at28.mono i35).now S34.sl) rfl)) ?_
   refine FL.val (zac rfl rfl rfl c48) rfl rfl (E.fieldAddr zan rfl) ?_
   refine FL.val (zac rfl rfl rfl c48) rfl rfl (E.load rfl (zag Tryz.isAgg24 (at36.now S34.sl) rfl)) ?_
   obtain ⟨r49,hr50,hp⟩:=bnd hp
   refine FL.call (zac rfl rfl rfl c48) rfl rfl (E.call Tryz.call15 (A2 rfl rfl)) (zd0 S34.sl v0_1 a0.clauses (p0_1.mono (i27.tr i35)) v1_1 a1.clauses (p1_1.mono (i27.tr i35)) hr50) ?_
   rintro e w51 ⟨rfl,r52⟩
   refine ⟨_,rfl,?_⟩
   have S53:=S34.call r52
   obtain rfl:=Option.some.inj hp
   refine FL.v (E.pickT rfl c48 rfl) ?_
   exact FL.nil ⟨rfl,_,S53,(Inc.rfl _),rfl⟩
  ·
   refine FL.skip (wF_no rfl rfl rfl c48) rfl ?_
   refine FL.skip (wF_no rfl rfl rfl c48) rfl ?_
   refine FL.skip (wF_no rfl rfl rfl c48) rfl ?_
   refine FL.skip (wF_no rfl rfl rfl c48) rfl ?_
   refine FL.skip (wF_no rfl rfl rfl c48) rfl ?_
   obtain rfl:=Option.some.inj hp
   refine FL.v (E.pickF rfl c48 rfl) ?_
   exact FL.nil ⟨rfl,_,S34,(Inc.rfl _),rfl⟩
 rintro f47 w46 ⟨H43,S44,i45,k54⟩
 refine FL.v (E.assign k54) ?_
 refine FL.nil ?_
 refine FW.ret ?_
 obtain rfl:=Option.some.inj hp
 exact ⟨.inr rfl,res1 rfl rfl ⟨rfl,S44.back⟩⟩

set_option maxHeartbeats 4000000 in
theorem zeP {Ha:GH} {wa:World} (hs:Sl Ha wa) (a0:Cnf) (v0_1:Value) (p0_1:RSl Ha (eL eI 1) 1 v0_1 a0.clauses) (a1:Cnf) (v1_1:Value) (p1_1:RSl Ha (eL eI 1) 1 v1_1 a1.clauses) {r:(Bool×Bool)} (hp:(PF.zcW a0 a1)=some r) :
  Calls Tryz.prog 11 #[Value.agg #[Value.int .i64 a0.vars,v0_1],Value.agg #[Value.int .i64 a1.vars,v1_1]] wa (Sc Ha wa (Value.tuple #[Value.bool r.1,Value.bool r.2])):=by
 unfold PF.zcW at hp
 have S0:=St.init hs
 refine zah (N:=38) (args:=[Value.agg #[Value.int .i64 a0.vars,v0_1],Value.agg #[Value.int .i64 a1.vars,v1_1]]) Tryz.func11 rfl rfl rfl ?_
 refine FW.seq (FW.region ?_)
 obtain ⟨b21,w22,run23,S24⟩:=S0.box (P:=Tryz.prog) 26 [Value.int .i64 a0.vars,v0_1] (v:=Value.agg #[Value.int .i64 a0.vars,v0_1]) rfl (zaa rfl (zaa p0_1.one zad))
 refine FL.v (E.box rfl run23) ?_
 obtain ⟨H25,S26,i27,at28⟩:=S24.sealBox (i:=0) (l':=[]) rfl rfl
 obtain ⟨b29,w30,run31,S32⟩:=S26.box (P:=Tryz.prog) 26 [Value.int .i64 a1.vars,v1_1] (v:=Value.agg #[Value.int .i64 a1.vars,v1_1]) rfl (zaa rfl (zaa p1_1.one zad))
 refine FL.v (E.box rfl run31) ?_
 obtain ⟨H33,S34,i35,at36⟩:=S32.sealBox (i:=0) (l':=[]) rfl rfl
 refine FL.v (E.assign (v:=Value.bool false) rfl) ?_
 refine FL.v (E.assign (v:=Value.bool false) rfl) ?_
 refine FL.nil (FW.seq (FW.seq (FW.region ?_)))
 refine FL.v (E.load rfl (zat Tryz.isAgg26 Tryz.sizeOf26 ((at28.mono i35).now S34.sl) rfl)) ?_
 obtain ⟨r37,hr38,hp⟩:=bnd hp
 refine FL.call rfl rfl rfl (E.call Tryz.call50 (A1 rfl)) (zdD S34.sl a0 v0_1 (p0_1.mono (i27.tr i35)) hr38) ?_
 rintro e w39 ⟨rfl,r40⟩
 refine ⟨_,rfl,?_⟩
 have S41:=S34.call r40
 refine FL.v (E.not rfl) ?_
 refine FL.v (E.move (v:=Value.bool (!r37)) rfl) ?_
 obtain ⟨t47,hqt47,hp⟩:=bnd hp
 refine FL.cut 4 (fun f w=>∃ H:GH,St Ha wa H w []∧Inc H33 H∧f 2=Value.pointer (some ⟨b21,0,none⟩)∧f 3=Value.pointer (some ⟨b29,0,none⟩)∧f 14=Value.bool t47) ?_ ?_
 ·
  clear hp;have hp:=hqt47;clear hqt47
  rcases ifB hp with ⟨c53,hp⟩|⟨c53,hp⟩
  ·
   refine FL.skip (wF_no rfl rfl rfl c53) rfl ?_
   refine FL.skip (wF_no rfl rfl rfl c53) rfl ?_
   refine FL.skip (wF_no rfl rfl rfl c53) rfl ?_
   obtain rfl:=Option.some.inj hp
   refine FL.v (E.pickT rfl c53 rfl) ?_
   exact FL.nil ⟨rfl,_,S41,(Inc.rfl _),rfl,rfl,rfl⟩
  ·
   refine FL.val (zac rfl rfl rfl c53) rfl rfl (E.load rfl (zat Tryz.isAgg26 Tryz.sizeOf26 (at36.now S41.sl) rfl)) ?_
   obtain ⟨r54,hr55,hp⟩:=bnd hp
   refine FL.call (zac rfl rfl rfl c53) rfl rfl (E.call Tryz.call50 (A1 rfl)) (zdD S41.sl a1 v1_1 (p1_1.mono (i27.tr i35)) hr55) ?_
   rintro e w56 ⟨rfl,r57⟩
   refine ⟨_,rfl,?_⟩
   have S58:=S41.call r57
   refine FL.val (zac rfl rfl rfl c53) rfl rfl (E.not rfl) ?_
   obtain rfl:=Option.some.inj hp
   refine FL.v (E.pickF rfl c53 rfl) ?_
   exact FL.nil ⟨rfl,_,S58,(Inc.rfl _),rfl,rfl,rfl⟩
 rintro f52 w51 ⟨H48,S49,i50,k59,k60,k61⟩
 refine FL.v (E.move k61) ?_
 refine FL.cut 6 (fun f w=>∃ H:GH,St Ha wa H w []∧Inc H48 H∧f 2=Value.pointer (some ⟨b21,0,none⟩)∧f 3=Value.pointer (some ⟨b29,0,none⟩)∧f 21=Value.bool (bif t47 then true else (!(a0.vars == a1.vars)))) ?_ ?_
 ·
  rcases bcase t47 with c68|c68
  ·
   refine FL.skip (wF_no rfl rfl rfl c68) rfl ?_
   refine FL.skip (wF_no rfl rfl rfl c68) rfl ?_
   refine FL.skip (wF_no rfl rfl rfl c68) rfl ?_
   refine FL.skip (wF_no rfl rfl rfl c68) rfl ?_
   refine FL.skip (wF_no rfl rfl rfl c68) rfl ?_
   refine FL.v (E.pickT rfl c68 rfl) ?_
   exact FL.nil ⟨rfl,_,S49,(Inc.rfl _),k59,k60,(congrArg Value.bool (bifT c68).symm)⟩
  ·
   refine FL.val (zac rfl rfl rfl c68) rfl rfl (E.fieldAddr zax k59) ?_
   refine FL.val (zac rfl rfl rfl c68) rfl rfl (E.load rfl (zag Tryz.isAgg3 ((at28.mono (i35.tr i50)).now S49.sl) rfl)) ?_
   refine FL.val (zac rfl rfl rfl c68) rfl rfl (E.fieldAddr zax k60) ?_
   refine FL.val (zac rfl rfl rfl c68) rfl rfl (E.load rfl (zag Tryz.isAgg3 ((at36.mono i50).now S49.sl) rfl)) ?_
   refine FL.val (zac rfl rfl rfl c68) rfl rfl (E.neq rfl rfl) ?_
   refine FL.v (E.pickF rfl c68 rfl) ?_
   exact FL.nil ⟨rfl,_,S49,(Inc.rfl _),k59,k60,(congrArg Value.bool (bifF c68).symm)⟩
 rintro f67 w66 ⟨H63,S64,i65,k69,k70,k71⟩
 refine FL.nil ?_
 rcases ifB hp with ⟨c72,hp⟩|⟨c72,hp⟩
 ·
  refine FW.condT k71 c72 ?_
  refine FW.seq (FW.region ?_)
  refine FL.v (E.assign (v:=Value.bool false) rfl) ?_
  refine FL.v (E.assign (v:=Value.bool false) rfl) ?_
  refine FL.nil ?_
  refine FW.ret ?_
  obtain rfl:=Option.some.inj hp
  exact ⟨.inr rfl,res2 rfl rfl rfl ⟨rfl,S64.back⟩⟩
 ·
  refine FW.condF k71 c72 ?_
  refine FW.skip (FW.seq (FW.seq (FW.region ?_)))
  refine FL.v (E.fieldAddr zax k69) ?_
  refine FL.v (E.load rfl (zag Tryz.isAgg3 ((at28.mono ((i35.tr i50).tr i65)).now S64.sl) rfl)) ?_
  obtain ⟨u74,z73,hp⟩:=bnd hp
  refine FL.v (E.shl rfl rfl (nn_ge z73)) ?_
  refine FL.v (E.move (v:=Value.int .i64 0) rfl) ?_
  refine FL.nil ?_
  obtain ⟨m75,hchk76,hp⟩:=bnd hp
  obtain ⟨q76,hq,hp⟩:=bndR hp
  refine FW.block ?_
  refine FW.mono (FW.forR (S:=Unit) (X:=(Bool×Bool)) (fun (i76:Nat) (s76:Unit) f w=>∃ H:GH,St Ha wa H w []∧Inc H63 H∧f 25=Value.int .i64 ((i76:Nat):Int)∧f 2=Value.pointer (some ⟨b21,0,none⟩)∧f 3=Value.pointer (some ⟨b29,0,none⟩)∧f 24=Value.int .i64 (shlK true 64 1 a0.vars)) (fun q e f w=>match q with|.go s76=>e=Exit.exit 0∧(∃ H:GH,St Ha wa H w []∧Inc H63 H)|.rt x=>((e=Exit.ret)∧(fun e f w=>(e=Exit.normal∨e=Exit.ret)∧∀ a,Fr (δ:=[]) 38 a f→∃ v,(results Tryz.f11 a.tmps).run Tryz.prog w=.ok v w∧(Sc Ha wa (Value.tuple #[Value.bool x.1,Value.bool x.2])) (.returned v) w) e f w)) hq ⟨_,S64,(Inc.rfl _),rfl,k69,k70,rfl⟩ ?_ ?_) ?_
  ·
   clear hp hq
   rintro i76 s76 f99 w98 ⟨H95,S96,i97,kA0,kA1,kA2,kA3⟩ hi76 hj76 oAd hp
   refine FW.seq (FW.region ?_)
   refine FL.v (E.lssT kA0 kA3 (lss_chk hj76 hchk76)) ?_
   refine FL.nil (FW.seq ?_)
   refine FW.condT rfl rfl ?_
   refine FW.skip (FW.seq (FW.block (FW.seq (FW.region ?_))))
   refine FL.v (E.move kA0) ?_
   refine FL.v (E.assign (v:=Value.int .i64 ((i76:Nat):Int)) rfl) ?_
   refine FL.nil (FW.seq ?_)
   refine FW.draw (fun w'=>Run w98.heap.size H95 w98 H95 w') (by kernel_rfl) (by kernel_rfl) (zaD S96.sl) ?_
   refine FD.val rfl rfl rfl (fun w' hw'=>(E.fieldAddr zan kA1)) ?_
   refine FD.val rfl rfl rfl (fun w' hw'=>(E.load rfl (zag Tryz.isAgg24 ((at28.mono (((i35.tr i50).tr i65).tr i97)).now (S96.call hw').sl) rfl))) ?_
   refine FD.val rfl rfl rfl (fun w' hw'=>(E.move (v:=Value.int .i64 ((i76:Nat):Int)) rfl)) ?_
   obtain ⟨rA5,hrA6,hp⟩:=bnd hp
   refine FD.call rfl rfl rfl (fun w' hw'=>(E.call Tryz.call61 (A2 rfl rfl))) (fun w' hw'=>Calls.cls hw' (zdW (S96.call hw').sl v0_1 a0.clauses (p0_1.mono ((((i27.tr i35).tr i50).tr i65).tr i97)) ((i76:Nat):Int) hrA6)) ?_
   refine FD.val rfl rfl rfl (fun w' hw'=>(E.fieldAddr zan kA2)) ?_
   refine FD.val rfl rfl rfl (fun w' hw'=>(E.load rfl (zag Tryz.isAgg24 ((at36.mono ((i50.tr i65).tr i97)).now (S96.call hw').sl) rfl))) ?_
   refine FD.val rfl rfl rfl (fun w' hw'=>(E.move (v:=Value.int .i64 ((i76:Nat):Int)) rfl)) ?_
   obtain ⟨rA7,hrA8,hp⟩:=bnd hp
   refine FD.call rfl rfl rfl (fun w' hw'=>(E.call Tryz.call61 (A2 rfl rfl))) (fun w' hw'=>Calls.cls hw' (zdW (S96.call hw').sl v1_1 a1.clauses (p1_1.mono ((((i27.tr i35).tr i50).tr i65).tr i97)) ((i76:Nat):Int) hrA8)) ?_
   refine FD.val rfl rfl rfl (fun w' hw'=>(E.neqB Tryz.runUnderlying4 rfl rfl)) ?_
   refine FD.nil ?_
   intro wA9 rAb
   have SAa:=S96.call rAb
   rcases ifB hp with ⟨cAc,hp⟩|⟨cAc,hp⟩
   ·
    refine FW.condT rfl cAc ?_
    refine FW.seq (FW.region ?_)
    refine FL.v (E.assign (v:=Value.bool false) rfl) ?_
    refine FL.v (E.assign (v:=Value.bool true) rfl) ?_
    refine FL.nil ?_
    refine FW.ret ?_
    obtain rfl:=Option.some.inj hp
    exact ⟨nofun,rfl,⟨.inr rfl,res2 rfl rfl rfl ⟨rfl,SAa.back⟩⟩⟩
   ·
    refine FW.condF rfl cAc ?_
    refine FW.skip (FW.region ?_)
    refine FL.v (E.add kA0 rfl) ?_
    refine FL.v (E.move (v:=Value.int .i64 (wr (((i76:Nat):Int) + 1))) rfl) ?_
    refine FL.nil ?_
    obtain rfl:=Option.some.inj hp
    exact ⟨rfl,⟨_,SAa,i97,(zas rfl hj76 (chk_le hchk76)),kA1,kA2,kA3⟩⟩
  ·
   clear hp hq
   rintro s76 fAn wAm ⟨HAj,SAk,iAl,kAo,kAp,kAq,kAr⟩
   refine FW.seq (FW.region ?_)
   refine FL.v (E.lss kAo kAr) ?_
   refine FL.nil (FW.seq ?_)
   refine FW.condF rfl (zdi hchk76) ?_
   refine FW.exit ?_
   exact ⟨nofun,rfl,⟨_,SAk,iAl⟩⟩
  ·
   clear hq
   intro e fAi wAh hD
   rcases q76 with s76|x76
   ·
    obtain ⟨rfl,hD⟩:=hD
    obtain ⟨HAe,SAf,iAg⟩:=hD
    replace hp:=el_go hp
    refine FW.seq (FW.region ?_)
    refine FL.v (E.assign (v:=Value.bool true) rfl) ?_
    refine FL.v (E.assign (v:=Value.bool true) rfl) ?_
    refine FL.nil ?_
    refine FW.ret ?_
    obtain rfl:=Option.some.inj hp
    exact ⟨.inr rfl,res2 rfl rfl rfl ⟨rfl,SAf.back⟩⟩
   ·
    obtain ⟨he,hL⟩:=hD
    replace hp:=el_rt hp
    obtain rfl:=Option.some.inj hp
    subst he
    exact hL

theorem zeQ {Ha:GH} {wa:World} (hs:Sl Ha wa) (v0:Value) (a0:List Int) (p0:RSl Ha eI 1 v0 a0) (a1:Int) {r:Int} (hp:(PF.zcX a0 a1)=some r) :
  Calls Tryz.prog 203 #[v0,Value.int .i64 a1] wa (Sc Ha wa (Value.int .i64 r)):=by
 unfold PF.zcX at hp
 have S0:=St.init hs
 refine zah (N:=19) (args:=[v0,Value.int .i64 a1]) Tryz.func203 rfl rfl rfl ?_
 refine FW.seq (FW.region ?_)
 refine FL.v (E.assign (v:=Value.int .i64 0) rfl) ?_
 refine FL.nil (FW.seq (FW.seq (FW.region ?_)))
 refine FL.v (E.move (v:=v0) rfl) ?_
 refine FL.v (E.lenP te34 rfl p0) ?_
 refine FL.v (E.move (v:=Value.int .i64 0) rfl) ?_
 refine FL.nil ?_
 obtain ⟨q22,hq,hp⟩:=bndR hp
 refine FW.block ?_
 refine FW.mono (FW.forL (S:=Unit) (X:=Int) (fun (i22:Nat) (s22:Unit) f w=>∃ H:GH,St Ha wa H w []∧Inc Ha H∧f 8=Value.int .i64 ((i22:Nat):Int)∧f 0=v0∧f 1=Value.int .i64 a1∧f 7=Value.int .i64 (len a0)) (fun q e f w=>match q with|.go s22=>e=Exit.exit 0∧(∃ H:GH,St Ha wa H w []∧Inc Ha H)|.rt x=>((e=Exit.ret)∧(fun e f w=>(e=Exit.normal∨e=Exit.ret)∧∀ a,Fr (δ:=[]) 19 a f→∃ v,(results Tryz.f203 a.tmps).run Tryz.prog w=.ok v w∧(Sc Ha wa (Value.int .i64 x)) (.returned v) w) e f w)) hq ⟨_,S0,(Inc.rfl _),rfl,rfl,rfl,rfl⟩ ?_ ?_) ?_
 ·
  clear hp hq
  rintro i22 y21 s22 f43 w42 ⟨H39,S40,i41,k44,k45,k46,k47⟩ hx22 o55 hp
  refine FW.seq (FW.region ?_)
  refine FL.v (E.lssT k44 k47 (zay hx22)) ?_
  refine FL.nil (FW.seq ?_)
  refine FW.condT rfl rfl ?_
  refine FW.skip (FW.seq (FW.block (FW.seq (FW.region ?_))))
  refine FL.v (E.move k44) ?_
  refine FL.v (E.assign (v:=Value.int .i64 ((i22:Nat):Int)) rfl) ?_
  refine FL.nil (FW.seq (FW.region ?_))
  refine FL.v (E.move k46) ?_
  refine FL.v (E.move k45) ?_
  refine FL.v (E.move (v:=Value.int .i64 ((i22:Nat):Int)) rfl) ?_
  obtain ⟨p48,cs49,pt50,l51,at52,rel53⟩:=p0.at (zap hx22)
  obtain rfl:=zam rel53
  refine FL.v (E.indexAddr te34 rfl rfl pt50) ?_
  refine FL.v (E.load rfl (zaf Tryz.isAgg3 ((at52.mono i41).now S40.sl) rfl)) ?_
  refine FL.v (E.eql rfl rfl) ?_
  refine FL.nil ?_
  rcases ifB hp with ⟨c54,hp⟩|⟨c54,hp⟩
  ·
   refine FW.condT rfl c54 ?_
   refine FW.seq (FW.region ?_)
   refine FL.v (E.move (v:=Value.int .i64 ((i22:Nat):Int)) rfl) ?_
   refine FL.v (E.assign (v:=Value.int .i64 ((i22:Nat):Int)) rfl) ?_
   refine FL.nil ?_
   refine FW.ret ?_
   obtain rfl:=Option.some.inj hp
   exact ⟨nofun,rfl,⟨.inr rfl,res1 rfl rfl ⟨rfl,S40.back⟩⟩⟩
  ·
   refine FW.condF rfl c54 ?_
   refine FW.skip (FW.region ?_)
   refine FL.v (E.add k44 rfl) ?_
   refine FL.v (E.move (v:=Value.int .i64 (wr (((i22:Nat):Int) + 1))) rfl) ?_
   refine FL.nil ?_
   obtain rfl:=Option.some.inj hp
   exact ⟨rfl,⟨_,S40,i41,(zas rfl (zao hx22) (p0.mono i41).le),k45,k46,k47⟩⟩
 ·
  clear hp hq
  rintro s22 f65 w64 ⟨H61,S62,i63,k66,k67,k68,k69⟩
  refine FW.seq (FW.region ?_)
  refine FL.v (E.lss k66 k69) ?_
  refine FL.nil (FW.seq ?_)
  refine FW.condF rfl zaz ?_
  refine FW.exit ?_
  exact ⟨nofun,rfl,⟨_,S62,i63⟩⟩
 ·
  clear hq
  intro e f60 w59 hD
  rcases q22 with s22|x22
  ·
   obtain ⟨rfl,hD⟩:=hD
   obtain ⟨H56,S57,i58⟩:=hD
   replace hp:=el_go hp
   refine FW.seq (FW.region ?_)
   refine FL.v (E.assign (v:=Value.int .i64 (-1)) rfl) ?_
   refine FL.nil ?_
   refine FW.ret ?_
   obtain rfl:=Option.some.inj hp
   exact ⟨.inr rfl,res1 rfl rfl ⟨rfl,S57.back⟩⟩
  ·
   obtain ⟨he,hL⟩:=hD
   replace hp:=el_rt hp
   obtain rfl:=Option.some.inj hp
   subst he
   exact hL

theorem zeR {Ha:GH} {wa:World} (hs:Sl Ha wa) (v0:Value) (a0:List Int) (p0:RSl Ha eI 1 v0 a0) (a1:Int) {r:Bool} (hp:(PF.zcY a0 a1)=some r) :
  Calls Tryz.prog 132 #[v0,Value.int .i64 a1] wa (Sc Ha wa (Value.bool r)):=by
 unfold PF.zcY at hp
 have S0:=St.init hs
 refine zah (N:=9) (args:=[v0,Value.int .i64 a1]) Tryz.func132 rfl rfl rfl ?_
 refine FW.seq (FW.region ?_)
 refine FL.v (E.assign (v:=Value.bool false) rfl) ?_
 refine FL.nil (FW.seq (FW.region ?_))
 refine FL.v (E.move (v:=v0) rfl) ?_
 refine FL.v (E.move (v:=Value.int .i64 a1) rfl) ?_
 obtain ⟨r21,hr22,hp⟩:=bnd hp
 refine FL.call rfl rfl rfl (E.call Tryz.call203 (A2 rfl rfl)) (zeQ S0.sl v0 a0 p0 a1 hr22) ?_
 rintro e w23 ⟨rfl,r24⟩
 refine ⟨_,rfl,?_⟩
 have S25:=S0.call r24
 refine FL.v (E.geq rfl rfl) ?_
 refine FL.v (E.assign (v:=Value.bool (decide (0≤r21))) rfl) ?_
 refine FL.nil ?_
 refine FW.ret ?_
 obtain rfl:=Option.some.inj hp
 exact ⟨.inr rfl,res1 rfl rfl ⟨rfl,S25.back⟩⟩

theorem w_impl_part_1 {Ha:GH} {wa:World} (hs:Sl Ha wa) (a0:Int) (q0:Addr) (b0:List Int) (u0_0:Value) (g0_0:RSl Ha eI 1 u0_0 b0) (c0:CAt Ha q0 [u0_0]) {r:Bool} (hp:(PF.zcZ a0 b0)=some r) :
  Calls Tryz.prog 131 #[Value.int .i64 a0,Value.pointer (some q0)] wa (Sc Ha wa (Value.bool r)):=by
 unfold PF.zcZ at hp
 have S0:=St.init hs
 refine zah (N:=8) (args:=[Value.int .i64 a0,Value.pointer (some q0)]) Tryz.func131 rfl rfl rfl ?_
 refine FW.seq (FW.region ?_)
 refine FL.v (E.assign (v:=Value.bool false) rfl) ?_
 refine FL.nil (FW.seq (FW.region ?_))
 refine FL.v (E.load rfl (zaf Tryz.isAgg34 (c0.now S0.sl) rfl)) ?_
 refine FL.v (E.move (v:=Value.int .i64 a0) rfl) ?_
 obtain ⟨r21,hr22,hp⟩:=bnd hp
 refine FL.call rfl rfl rfl (E.call Tryz.call132 (A2 rfl rfl)) (zeR S0.sl u0_0 b0 g0_0 a0 hr22) ?_
 rintro e w23 ⟨rfl,r24⟩
 refine ⟨_,rfl,?_⟩
 have S25:=S0.call r24
 refine FL.v (E.not rfl) ?_
 refine FL.v (E.assign (v:=Value.bool (!r21)) rfl) ?_
 refine FL.nil ?_
 refine FW.ret ?_
 obtain rfl:=Option.some.inj hp
 exact ⟨.inr rfl,res1 rfl rfl ⟨rfl,S25.back⟩⟩

theorem w_impl_part {Ha:GH} {wa:World} (hs:Sl Ha wa) (v0:Value) (a0:List Int) (p0:RSl Ha eI 1 v0 a0) (v1:Value) (a1:List Int) (p1:RSl Ha eI 1 v1 a1) {r:Bool} (hp:(PF.zcn a0 a1)=some r) :
  Calls Tryz.prog 63 #[v0,v1] wa (Sc Ha wa (Value.bool r)):=by
 unfold PF.zcn at hp
 have S0:=St.init hs
 refine zah (N:=9) (args:=[v0,v1]) Tryz.func63 rfl rfl rfl ?_
 refine FW.seq (FW.region ?_)
 obtain ⟨b21,w22,run23,S24⟩:=S0.box (P:=Tryz.prog) 34 [v1] (v:=v1) p1.cells (zaa p1.one zad)
 refine FL.v (E.box rfl run23) ?_
 obtain ⟨H25,S26,i27,at28⟩:=S24.sealBox (i:=0) (l':=[]) rfl rfl
 refine FL.v (E.assign (v:=Value.bool false) rfl) ?_
 refine FL.nil (FW.seq (FW.region ?_))
 refine FL.v (E.move (v:=v0) rfl) ?_
 refine FL.v (E.makeFunc A0 (A1 rfl)) ?_
 obtain ⟨r29,hr30,hp⟩:=bnd hp
 refine FL.call rfl rfl rfl (E.call Tryz.call130 (A2 rfl rfl)) (zel S26.sl v0 a0 (p0.mono i27) (Value.func (.func 131) #[] #[Value.pointer (some ⟨b21,0,none⟩)]) (fun x0=>PF.zcZ x0 a1) (fun H2 w2 hi2 hs2 x0 r hr=>⟨131,#[Value.pointer (some ⟨b21,0,none⟩)],rfl,Tryz.call131,w_impl_part_1 hs2 x0 ⟨b21,0,none⟩ a1 v1 ((p1.mono i27).mono hi2) (at28.mono hi2) hr⟩) hr30) ?_
 rintro e w31 ⟨rfl,r32⟩
 refine ⟨_,rfl,?_⟩
 have S33:=S26.call r32
 refine FL.v (E.not rfl) ?_
 refine FL.v (E.assign (v:=Value.bool (!r29)) rfl) ?_
 refine FL.nil ?_
 refine FW.ret ?_
 obtain rfl:=Option.some.inj hp
 exact ⟨.inr rfl,res1 rfl rfl ⟨rfl,S33.back⟩⟩

theorem w_impl_IsPart {Ha:GH} {wa:World} (hs:Sl Ha wa) (a0:Int) (v1:Value) (a1:List Int) (p1:RSl Ha eI 1 v1 a1) (v2:Value) (a2:List Int) (p2:RSl Ha eI 1 v2 a2) {r:(Bool×Bool)} (hp:(PF.zco a0 a1 a2)=some r) :
  Calls Tryz.prog 12 #[Value.int .i64 a0,v1,v2] wa (Sc Ha wa (Value.tuple #[Value.bool r.1,Value.bool r.2])):=by
 unfold PF.zco at hp
 have S0:=St.init hs
 refine zah (N:=21) (args:=[Value.int .i64 a0,v1,v2]) Tryz.func12 rfl rfl rfl ?_
 refine FW.seq (FW.region ?_)
 refine FL.v (E.assign (v:=Value.bool false) rfl) ?_
 refine FL.v (E.assign (v:=Value.bool false) rfl) ?_
 refine FL.nil (FW.seq (FW.seq (FW.region ?_)))
 refine FL.v (E.move (v:=Value.int .i64 a0) rfl) ?_
 refine FL.v (E.move (v:=v1) rfl) ?_
 obtain ⟨r21,hr22,hp⟩:=bnd hp
 refine FL.call rfl rfl rfl (E.call Tryz.call62 (A2 rfl rfl)) (zdV S0.sl a0 v1 a1 p1 hr22) ?_
 rintro e w23 ⟨rfl,r24⟩
 refine ⟨_,rfl,?_⟩
 have S25:=S0.call r24
 refine FL.v (E.not rfl) ?_
 refine FL.v (E.move (v:=Value.bool (!r21)) rfl) ?_
 obtain ⟨t31,hqt31,hp⟩:=bnd hp
 refine FL.cut 5 (fun f w=>∃ H:GH,St Ha wa H w []∧Inc Ha H∧f 1=v1∧f 2=v2∧f 17=Value.bool t31) ?_ ?_
 ·
  clear hp;have hp:=hqt31;clear hqt31
  rcases ifB hp with ⟨c37,hp⟩|⟨c37,hp⟩
  ·
   refine FL.skip (wF_no rfl rfl rfl c37) rfl ?_
   refine FL.skip (wF_no rfl rfl rfl c37) rfl ?_
   refine FL.skip (wF_no rfl rfl rfl c37) rfl ?_
   refine FL.skip (wF_no rfl rfl rfl c37) rfl ?_
   obtain rfl:=Option.some.inj hp
   refine FL.v (E.pickT rfl c37 rfl) ?_
   exact FL.nil ⟨rfl,_,S25,(Inc.rfl _),rfl,rfl,rfl⟩
  ·
   refine FL.val (zac rfl rfl rfl c37) rfl rfl (E.move (v:=Value.int .i64 a0) rfl) ?_
   refine FL.val (zac rfl rfl rfl c37) rfl rfl (E.move (v:=v2) rfl) ?_
   obtain ⟨r38,hr39,hp⟩:=bnd hp
   refine FL.call (zac rfl rfl rfl c37) rfl rfl (E.call Tryz.call62 (A2 rfl rfl)) (zdV S25.sl a0 v2 a2 p2 hr39) ?_
   rintro e w40 ⟨rfl,r41⟩
   refine ⟨_,rfl,?_⟩
   have S42:=S25.call r41
   refine FL.val (zac rfl rfl rfl c37) rfl rfl (E.not rfl) ?_
   obtain rfl:=Option.some.inj hp
   refine FL.v (E.pickF rfl c37 rfl) ?_
   exact FL.nil ⟨rfl,_,S42,(Inc.rfl _),rfl,rfl,rfl⟩
 rintro f36 w35 ⟨H32,S33,i34,k43,k44,k45⟩
 refine FL.nil ?_
 rcases ifB hp with ⟨c46,hp⟩|⟨c46,hp⟩
 ·
  refine FW.condT k45 c46 ?_
  refine FW.seq (FW.region ?_)
  refine FL.v (E.assign (v:=Value.bool false) rfl) ?_
  refine FL.v (E.assign (v:=Value.bool false) rfl) ?_
  refine FL.nil ?_
  refine FW.ret ?_
  obtain rfl:=Option.some.inj hp
  exact ⟨.inr rfl,res2 rfl rfl rfl ⟨rfl,S33.back⟩⟩
 ·
  refine FW.condF k45 c46 ?_
  refine FW.skip (FW.seq (FW.region ?_))
  refine FL.v (E.move k43) ?_
  refine FL.v (E.move k44) ?_
  obtain ⟨r47,hr48,hp⟩:=bnd hp
  refine FL.call rfl rfl rfl (E.call Tryz.call63 (A2 rfl rfl)) (w_impl_part S33.sl v1 a1 (p1.mono i34) v2 a2 (p2.mono i34) hr48) ?_
  rintro e w49 ⟨rfl,r50⟩
  refine ⟨_,rfl,?_⟩
  have S51:=S33.call r50
  refine FL.v (E.assign (v:=Value.bool r47) rfl) ?_
  refine FL.v (E.assign (v:=Value.bool true) rfl) ?_
  refine FL.nil ?_
  refine FW.ret ?_
  obtain rfl:=Option.some.inj hp
  exact ⟨.inr rfl,res2 rfl rfl rfl ⟨rfl,S51.back⟩⟩

theorem w_impl_narrowOk {Ha:GH} {wa:World} (hs:Sl Ha wa) (a0:Cnf) (v0_1:Value) (p0_1:RSl Ha (eL eI 1) 1 v0_1 a0.clauses) (a1:Int) {r:Bool} (hp:(PF.zdu a0 a1)=some r) :
  Calls Tryz.prog 67 #[Value.agg #[Value.int .i64 a0.vars,v0_1],Value.int .i64 a1] wa (Sc Ha wa (Value.bool r)):=by
 unfold PF.zdu at hp
 have S0:=St.init hs
 refine zah (N:=16) (args:=[Value.agg #[Value.int .i64 a0.vars,v0_1],Value.int .i64 a1]) Tryz.func67 rfl rfl rfl ?_
 refine FW.seq (FW.region ?_)
 obtain ⟨b21,w22,run23,S24⟩:=S0.box (P:=Tryz.prog) 26 [Value.int .i64 a0.vars,v0_1] (v:=Value.agg #[Value.int .i64 a0.vars,v0_1]) rfl (zaa rfl (zaa p0_1.one zad))
 refine FL.v (E.box rfl run23) ?_
 obtain ⟨H25,S26,i27,at28⟩:=S24.sealBox (i:=0) (l':=[]) rfl rfl
 refine FL.v (E.assign (v:=Value.bool false) rfl) ?_
 refine FL.nil (FW.seq (FW.region ?_))
 refine FL.v (E.load rfl (zat Tryz.isAgg26 Tryz.sizeOf26 (at28.now S26.sl) rfl)) ?_
 obtain ⟨r29,hr30,hp⟩:=bnd hp
 refine FL.call rfl rfl rfl (E.call Tryz.call50 (A1 rfl)) (zdD S26.sl a0 v0_1 (p0_1.mono i27) hr30) ?_
 rintro e w31 ⟨rfl,r32⟩
 refine ⟨_,rfl,?_⟩
 have S33:=S26.call r32
 refine FL.v (E.move (v:=Value.bool r29) rfl) ?_
 refine FL.cut 4 (fun f w=>∃ H:GH,St Ha wa H w []∧Inc H25 H∧f 1=Value.int .i64 a1∧f 11=Value.bool (bif r29 then (decide (a0.vars≤6)) else false)) ?_ ?_
 ·
  rcases bcase r29 with c40|c40
  ·
   refine FL.val (zac rfl rfl rfl c40) rfl rfl (E.fieldAddr zax rfl) ?_
   refine FL.val (zac rfl rfl rfl c40) rfl rfl (E.load rfl (zag Tryz.isAgg3 (at28.now S33.sl) rfl)) ?_
   refine FL.val (zac rfl rfl rfl c40) rfl rfl (E.leq rfl rfl) ?_
   refine FL.v (E.pickT rfl c40 rfl) ?_
   exact FL.nil ⟨rfl,_,S33,(Inc.rfl _),rfl,(congrArg Value.bool (bifT c40).symm)⟩
  ·
   refine FL.skip (wF_no rfl rfl rfl c40) rfl ?_
   refine FL.skip (wF_no rfl rfl rfl c40) rfl ?_
   refine FL.skip (wF_no rfl rfl rfl c40) rfl ?_
   refine FL.v (E.pickF rfl c40 rfl) ?_
   exact FL.nil ⟨rfl,_,S33,(Inc.rfl _),rfl,(congrArg Value.bool (bifF c40).symm)⟩
 rintro f39 w38 ⟨H35,S36,i37,k41,k42⟩
 refine FL.v (E.move k42) ?_
 refine FL.cut 3 (fun f w=>∃ H:GH,St Ha wa H w []∧Inc H35 H∧f 15=Value.bool (bif (bif r29 then (decide (a0.vars≤6)) else false) then (PF.za6 a1 0 6) else false)) ?_ ?_
 ·
  rcases bcase (bif r29 then (decide (a0.vars≤6)) else false) with c52|c52
  ·
   refine FL.val (zac rfl rfl rfl c52) rfl rfl (E.move k41) ?_
   refine FL.call (zac rfl rfl rfl c52) rfl rfl (E.call Tryz.call140 (A3 rfl rfl rfl)) (zdU S36.sl a1 0 6) ?_
   rintro e w53 ⟨rfl,r54⟩
   refine ⟨_,rfl,?_⟩
   have S55:=S36.call r54
   refine FL.v (E.pickT rfl c52 rfl) ?_
   exact FL.nil ⟨rfl,_,S55,(Inc.rfl _),(congrArg Value.bool (bifT c52).symm)⟩
  ·
   refine FL.skip (wF_no rfl rfl rfl c52) rfl ?_
   refine FL.skip (wF_no rfl rfl rfl c52) rfl ?_
   refine FL.v (E.pickF rfl c52 rfl) ?_
   exact FL.nil ⟨rfl,_,S36,(Inc.rfl _),(congrArg Value.bool (bifF c52).symm)⟩
 rintro f51 w50 ⟨H47,S48,i49,k56⟩
 refine FL.v (E.assign k56) ?_
 refine FL.nil ?_
 refine FW.ret ?_
 obtain rfl:=Option.some.inj hp
 exact ⟨.inr rfl,res1 rfl rfl ⟨rfl,S48.back⟩⟩

set_option maxHeartbeats 4000000 in
theorem w_impl_maskOf {Ha:GH} {wa:World} (hs:Sl Ha wa) (v0:Value) (a0:List Int) (p0:RSl Ha eI 1 v0 a0) {r:Int} (hp:(PF.zcp a0)=some r) :
  Calls Tryz.prog 152 #[v0] wa (Sc Ha wa (Value.int .u16 r)):=by
 unfold PF.zcp at hp
 have S0:=St.init hs
 refine zah (N:=27) (args:=[v0]) Tryz.func152 rfl rfl rfl ?_
 refine FW.seq (FW.region ?_)
 refine FL.v (E.assign (v:=Value.int .u16 0) rfl) ?_
 refine FL.nil (FW.seq (FW.region ?_))
 refine FL.v (E.assign (v:=Value.int .u16 0) rfl) ?_
 refine FL.nil (FW.seq (FW.seq (FW.region ?_)))
 refine FL.v (E.move (v:=v0) rfl) ?_
 refine FL.v (E.lenP te34 rfl p0) ?_
 refine FL.v (E.move (v:=Value.int .i64 0) rfl) ?_
 refine FL.nil ?_
 obtain ⟨q22,hq,hp⟩:=bndR hp
 refine FW.block ?_
 refine FW.mono (FW.forL (S:=Int) (X:=Empty) (fun (i22:Nat) (s22:Int) f w=>∃ H:GH,St Ha wa H w []∧Inc Ha H∧f 8=Value.int .i64 ((i22:Nat):Int)∧f 3=Value.int .u16 s22∧f 6=v0∧f 7=Value.int .i64 (len a0)) (fun (q:Rs Int Empty) e f w=>match q with|.go s22=>e=Exit.exit 0∧(∃ H:GH,St Ha wa H w []∧Inc Ha H∧f 3=Value.int .u16 s22)|.rt x=>x.elim) hq ⟨_,S0,(Inc.rfl _),rfl,rfl,rfl,rfl⟩ ?_ ?_) ?_
 ·
  clear hp hq
  rintro i22 y21 s22 f47 w46 ⟨H43,S44,i45,k48,k49,k50,k51⟩ hx22 o63 hp
  refine FW.seq (FW.region ?_)
  refine FL.v (E.lssT k48 k51 (zay hx22)) ?_
  refine FL.nil (FW.seq ?_)
  refine FW.condT rfl rfl ?_
  refine FW.skip (FW.seq (FW.block (FW.seq (FW.region ?_))))
  obtain ⟨p52,cs53,pt54,l55,at56,rel57⟩:=p0.at (zap hx22)
  obtain rfl:=zam rel57
  refine FL.v (E.indexAddr te34 k50 k48 pt54) ?_
  refine FL.v (E.load rfl (zaf Tryz.isAgg3 ((at56.mono i45).now S44.sl) rfl)) ?_
  refine FL.v (E.assign (v:=Value.int .i64 y21) rfl) ?_
  refine FL.nil (FW.seq (FW.region ?_))
  refine FL.v (E.move (v:=Value.int .i64 y21) rfl) ?_
  refine FL.v (E.gtr rfl rfl) ?_
  refine FL.nil ?_
  rcases ifB hp with ⟨c58,hp⟩|⟨c58,hp⟩
  ·
   refine FW.condT rfl c58 ?_
   refine FW.region ?_
   refine FL.v (E.move k49) ?_
   refine FL.v (E.move (v:=Value.int .i64 y21) rfl) ?_
   refine FL.v (E.sub rfl rfl) ?_
   obtain ⟨u60,z59,hp⟩:=bnd hp
   refine FL.v (E.shl rfl rfl (nn_ge z59)) ?_
   refine FL.v (E.or rfl rfl) ?_
   refine FL.v (E.assign (v:=Value.int .u16 (orK false 16 s22 (shlK false 16 1 (wr (y21 - 1))))) rfl) ?_
   refine FL.nil (FW.region ?_)
   refine FL.v (E.add k48 rfl) ?_
   refine FL.v (E.move (v:=Value.int .i64 (wr (((i22:Nat):Int) + 1))) rfl) ?_
   refine FL.nil ?_
   obtain rfl:=Option.some.inj hp
   exact ⟨rfl,⟨_,S44,i45,(zas rfl (zao hx22) (p0.mono i45).le),rfl,k50,k51⟩⟩
  ·
   refine FW.condF rfl c58 ?_
   refine FW.region ?_
   refine FL.v (E.move k49) ?_
   refine FL.v (E.move (v:=Value.int .i64 y21) rfl) ?_
   refine FL.v (E.sub rfl rfl) ?_
   refine FL.v (E.sub rfl rfl) ?_
   obtain ⟨u62,z61,hp⟩:=bnd hp
   refine FL.v (E.shl rfl rfl (nn_ge z61)) ?_
   refine FL.v (E.or rfl rfl) ?_
   refine FL.v (E.assign (v:=Value.int .u16 (orK false 16 s22 (shlK false 16 1 (wr ((wr (6 - y21)) - 1))))) rfl) ?_
   refine FL.nil (FW.region ?_)
   refine FL.v (E.add k48 rfl) ?_
   refine FL.v (E.move (v:=Value.int .i64 (wr (((i22:Nat):Int) + 1))) rfl) ?_
   refine FL.nil ?_
   obtain rfl:=Option.some.inj hp
   exact ⟨rfl,⟨_,S44,i45,(zas rfl (zao hx22) (p0.mono i45).le),rfl,k50,k51⟩⟩
 ·
  clear hp hq
  rintro s22 f74 w73 ⟨H70,S71,i72,k75,k76,k77,k78⟩
  refine FW.seq (FW.region ?_)
  refine FL.v (E.lss k75 k78) ?_
  refine FL.nil (FW.seq ?_)
  refine FW.condF rfl zaz ?_
  refine FW.exit ?_
  exact ⟨nofun,rfl,⟨_,S71,i72,k76⟩⟩
 ·
  clear hq
  intro e f68 w67 hD
  rcases q22 with s22|x22
  ·
   obtain ⟨rfl,hD⟩:=hD
   obtain ⟨H64,S65,i66,k69⟩:=hD
   replace hp:=el_go hp
   refine FW.seq (FW.region ?_)
   refine FL.v (E.move k69) ?_
   refine FL.v (E.assign (v:=Value.int .u16 s22) rfl) ?_
   refine FL.nil ?_
   refine FW.ret ?_
   obtain rfl:=Option.some.inj hp
   exact ⟨.inr rfl,res1 rfl rfl ⟨rfl,S65.back⟩⟩
  ·
   exact x22.elim

theorem zeS {Ha:GH} {wa:World} (hs:Sl Ha wa) (a0:Int) :
  Calls Tryz.prog 210 #[Value.int .u16 a0] wa (Sc Ha wa (Value.int .u16 (PF.za7 a0))):=by
 obtain ⟨r,hp⟩:∃ r,(PF.za7 a0)=r:=⟨_,rfl⟩
 rw [hp]
 unfold PF.za7 at hp
 have S0:=St.init hs
 refine zah (N:=9) (args:=[Value.int .u16 a0]) Tryz.func210 rfl rfl rfl ?_
 refine FW.seq (FW.region ?_)
 refine FL.v (E.assign (v:=Value.int .u16 0) rfl) ?_
 refine FL.nil (FW.seq (FW.region ?_))
 refine FL.v (E.move (v:=Value.int .u16 a0) rfl) ?_
 refine FL.v (E.and rfl rfl) ?_
 refine FL.v (E.shl rfl rfl (by decide)) ?_
 refine FL.v (E.move (v:=Value.int .u16 a0) rfl) ?_
 refine FL.v (E.shr rfl rfl (by decide)) ?_
 refine FL.v (E.or rfl rfl) ?_
 refine FL.v (E.assign (v:=Value.int .u16 (orK false 16 (shlK false 16 (andK false 16 a0 63) 6) (shrK 16 a0 6))) rfl) ?_
 refine FL.nil ?_
 refine FW.ret ?_
 obtain rfl:=hp
 exact ⟨.inr rfl,res1 rfl rfl ⟨rfl,S0.back⟩⟩

theorem w_impl_bothOf {Ha:GH} {wa:World} (hs:Sl Ha wa) (a0:Int) (a1:Int) :
  Calls Tryz.prog 153 #[Value.int .u16 a0,Value.int .u16 a1] wa (Sc Ha wa (Value.int .u16 (PF.zai a0 a1))):=by
 obtain ⟨r,hp⟩:∃ r,(PF.zai a0 a1)=r:=⟨_,rfl⟩
 rw [hp]
 unfold PF.zai at hp
 have S0:=St.init hs
 refine zah (N:=15) (args:=[Value.int .u16 a0,Value.int .u16 a1]) Tryz.func153 rfl rfl rfl ?_
 refine FW.seq (FW.region ?_)
 refine FL.v (E.assign (v:=Value.int .u16 0) rfl) ?_
 refine FL.nil (FW.seq (FW.region ?_))
 refine FL.v (E.move (v:=Value.int .u16 a0) rfl) ?_
 refine FL.v (E.move (v:=Value.int .u16 a1) rfl) ?_
 refine FL.call rfl rfl rfl (E.call Tryz.call210 (A1 rfl)) (zeS S0.sl a1) ?_
 rintro e w21 ⟨rfl,r22⟩
 refine ⟨_,rfl,?_⟩
 have S23:=S0.call r22
 refine FL.v (E.and rfl rfl) ?_
 refine FL.v (E.assign (v:=Value.int .u16 (andK false 16 a0 (PF.za7 a1))) rfl) ?_
 refine FL.nil (FW.seq (FW.region ?_))
 refine FL.v (E.move (v:=Value.int .u16 (andK false 16 a0 (PF.za7 a1))) rfl) ?_
 refine FL.v (E.move (v:=Value.int .u16 (andK false 16 a0 (PF.za7 a1))) rfl) ?_
 refine FL.v (E.shr rfl rfl (by decide)) ?_
 refine FL.v (E.or rfl rfl) ?_
 refine FL.v (E.and rfl rfl) ?_
 refine FL.v (E.assign (v:=Value.int .u16 (andK false 16 (orK false 16 (andK false 16 a0 (PF.za7 a1)) (shrK 16 (andK false 16 a0 (PF.za7 a1)) 6)) 63)) rfl) ?_
 refine FL.nil ?_
 refine FW.ret ?_
 obtain rfl:=hp
 exact ⟨.inr rfl,res1 rfl rfl ⟨rfl,S23.back⟩⟩

theorem w_impl_mask_one {Ha:GH} {wa:World} (hs:Sl Ha wa) (a0:Int) :
  Calls Tryz.prog 154 #[Value.int .u16 a0] wa (Sc Ha wa (Value.bool (PF.zbZ a0))):=by
 obtain ⟨r,hp⟩:∃ r,(PF.zbZ a0)=r:=⟨_,rfl⟩
 rw [hp]
 unfold PF.zbZ at hp
 have S0:=St.init hs
 refine zah (N:=12) (args:=[Value.int .u16 a0]) Tryz.func154 rfl rfl rfl ?_
 refine FW.seq (FW.region ?_)
 refine FL.v (E.assign (v:=Value.bool false) rfl) ?_
 refine FL.nil (FW.seq (FW.region ?_))
 refine FL.v (E.move (v:=Value.int .u16 a0) rfl) ?_
 refine FL.v (E.neq rfl rfl) ?_
 refine FL.v (E.move (v:=Value.bool (!(a0 == 0))) rfl) ?_
 refine FL.cut 6 (fun f w=>∃ H:GH,St Ha wa H w []∧Inc Ha H∧f 11=Value.bool (bif (!(a0 == 0)) then ((andK false 16 a0 (wrk false 16 (a0 - 1))) == 0) else false)) ?_ ?_
 ·
  rcases bcase (!(a0 == 0)) with c27|c27
  ·
   refine FL.val (zac rfl rfl rfl c27) rfl rfl (E.move (v:=Value.int .u16 a0) rfl) ?_
   refine FL.val (zac rfl rfl rfl c27) rfl rfl (E.move (v:=Value.int .u16 a0) rfl) ?_
   refine FL.val (zac rfl rfl rfl c27) rfl rfl (E.subK rfl rfl) ?_
   refine FL.val (zac rfl rfl rfl c27) rfl rfl (E.and rfl rfl) ?_
   refine FL.val (zac rfl rfl rfl c27) rfl rfl (E.eql rfl rfl) ?_
   refine FL.v (E.pickT rfl c27 rfl) ?_
   exact FL.nil ⟨rfl,_,S0,(Inc.rfl _),(congrArg Value.bool (bifT c27).symm)⟩
  ·
   refine FL.skip (wF_no rfl rfl rfl c27) rfl ?_
   refine FL.skip (wF_no rfl rfl rfl c27) rfl ?_
   refine FL.skip (wF_no rfl rfl rfl c27) rfl ?_
   refine FL.skip (wF_no rfl rfl rfl c27) rfl ?_
   refine FL.skip (wF_no rfl rfl rfl c27) rfl ?_
   refine FL.v (E.pickF rfl c27 rfl) ?_
   exact FL.nil ⟨rfl,_,S0,(Inc.rfl _),(congrArg Value.bool (bifF c27).symm)⟩
 rintro f26 w25 ⟨H22,S23,i24,k28⟩
 refine FL.v (E.assign k28) ?_
 refine FL.nil ?_
 refine FW.ret ?_
 obtain rfl:=hp
 exact ⟨.inr rfl,res1 rfl rfl ⟨rfl,S23.back⟩⟩

theorem w_impl_mask_count {Ha:GH} {wa:World} (hs:Sl Ha wa) (a0:Int) {r:Int} (hp:(PF.zbC a0)=some r) :
  Calls Tryz.prog 155 #[Value.int .u16 a0] wa (Sc Ha wa (Value.int .i64 r)):=by
 unfold PF.zbC at hp
 have S0:=St.init hs
 refine zah (N:=13) (args:=[Value.int .u16 a0]) Tryz.func155 rfl rfl rfl ?_
 refine FW.seq (FW.region ?_)
 refine FL.v (E.assign (v:=Value.int .i64 0) rfl) ?_
 refine FL.nil (FW.seq (FW.region ?_))
 refine FL.v (E.assign (v:=Value.int .i64 0) rfl) ?_
 refine FL.nil (FW.seq ?_)
 obtain ⟨q21,hq,hp⟩:=bndR hp
 refine FW.block ?_
 refine FW.mono (FW.iter (S:=(Int×Int)) (X:=Empty) (fun (s21:(Int×Int)) f w=>∃ H:GH,St Ha wa H w []∧Inc Ha H∧f 0=Value.int .u16 s21.1∧f 3=Value.int .i64 s21.2) (fun (q:Rs (Int×Int) Empty) e f w=>match q with|.go s21=>e=Exit.exit 0∧(∃ H:GH,St Ha wa H w []∧Inc Ha H∧f 3=Value.int .i64 s21.2)|.rt x=>x.elim) hq ⟨_,S0,(Inc.rfl _),rfl,rfl⟩ ?_) ?_
 ·
  clear hp hq
  rintro s21 f34 w33 ⟨H30,S31,i32,k35,k36⟩ o38 hp
  refine FW.seq (FW.seq (FW.region ?_))
  refine FL.v (E.move k35) ?_
  refine FL.v (E.neq rfl rfl) ?_
  refine FL.nil ?_
  rcases ifB hp with ⟨c37,hp⟩|⟨c37,hp⟩
  ·
   refine FW.condT rfl c37 ?_
   refine FW.skip (FW.seq (FW.block (FW.region ?_)))
   refine FL.v (E.move k36) ?_
   refine FL.v (E.add rfl rfl) ?_
   refine FL.v (E.assign (v:=Value.int .i64 (wr (s21.2 + 1))) rfl) ?_
   refine FL.nil (FW.region ?_)
   refine FL.v (E.move k35) ?_
   refine FL.v (E.move k35) ?_
   refine FL.v (E.subK rfl rfl) ?_
   refine FL.v (E.and rfl rfl) ?_
   refine FL.v (E.assign (v:=Value.int .u16 (andK false 16 s21.1 (wrk false 16 (s21.1 - 1)))) rfl) ?_
   refine FL.nil ?_
   obtain rfl:=Option.some.inj hp
   exact ⟨rfl,⟨_,S31,i32,rfl,rfl⟩⟩
  ·
   refine FW.condF rfl c37 ?_
   refine FW.exit ?_
   obtain rfl:=Option.some.inj hp
   exact ⟨nofun,rfl,⟨_,S31,i32,k36⟩⟩
 ·
  clear hq
  intro e f43 w42 hD
  rcases q21 with s21|x21
  ·
   obtain ⟨rfl,hD⟩:=hD
   obtain ⟨H39,S40,i41,k44⟩:=hD
   replace hp:=el_go hp
   refine FW.seq (FW.region ?_)
   refine FL.v (E.move k44) ?_
   refine FL.v (E.assign (v:=Value.int .i64 s21.2) rfl) ?_
   refine FL.nil ?_
   refine FW.ret ?_
   obtain rfl:=Option.some.inj hp
   exact ⟨.inr rfl,res1 rfl rfl ⟨rfl,S40.back⟩⟩
  ·
   exact x21.elim

@[reducible] def p_impl_closureOf (Ha:GH) (wa:World) (r:(Option zbm)):Ending→World→Prop :=
 fun e w'=>∃ H':GH,∃ v0:Value,e=.returned (v0)∧Run wa.heap.size Ha wa H' w'∧OP (fun (q:Addr) (x:zbm)=>∃ v0R_0:Value,∃ v0R_1:Value,RSl (up wa.heap.size H') (eN .u16) 1 v0R_0 x.masks∧MAt (K:=Int) (V:=Int) H' (Value.int .u16) (Value.int .i64) v0R_1 x.rounds∧CAt H' q [v0R_0,v0R_1,Value.int .i64 x.last]) v0 r
set_option maxHeartbeats 4000000 in
theorem w_impl_closureOf {Ha:GH} {wa:World} (hs:Sl Ha wa) (a0:Cnf) (v0_1:Value) (p0_1:RSl Ha (eL eI 1) 1 v0_1 a0.clauses) (a1:Int) {r:(Option zbm)} (hp:(PF.zc0 a0 a1)=some r) :
  Calls Tryz.prog 77 #[Value.agg #[Value.int .i64 a0.vars,v0_1],Value.int .i64 a1] wa (p_impl_closureOf Ha wa r):=by
 unfold PF.zc0 at hp
 have S0:=St.init hs
 refine zah (N:=99) (args:=[Value.agg #[Value.int .i64 a0.vars,v0_1],Value.int .i64 a1]) Tryz.func77 rfl rfl rfl ?_
 refine FW.seq (FW.region ?_)
 obtain ⟨b21,w22,run23,S24⟩:=S0.box (P:=Tryz.prog) 26 [Value.int .i64 a0.vars,v0_1] (v:=Value.agg #[Value.int .i64 a0.vars,v0_1]) rfl (zaa rfl (zaa p0_1.one zad))
 refine FL.v (E.box rfl run23) ?_
 obtain ⟨H25,S26,i27,at28⟩:=S24.sealBox (i:=0) (l':=[]) rfl rfl
 refine FL.v (E.assign (v:=Value.pointer none) rfl) ?_
 refine FL.nil (FW.seq (FW.region ?_))
 obtain ⟨b29,o30,w31,run32,S33,hm34⟩:=S26.makeMap (P:=Tryz.prog) (K:=Int) (V:=Int) 140 (Value.int .u16) (Value.int .i64)
 refine FL.v (E.makeMap run32) ?_
 refine FL.v (E.build (B1 rfl) (run_build _ 143 #[(1,Value.map (some b29))] #[Value.slice none 0 0,Value.map (some b29),Value.int .i64 0] (by rfl))) ?_
 have S39:=S33.nil 146 1
 have els40:Els (up wa.heap.size H25) (eN .u16) 1 [] []:=Els.nil
 obtain ⟨b35,w36,run37,S38⟩:=S39.box (P:=Tryz.prog) 143 [(Value.slice none 0 0),Value.map (some b29),Value.int .i64 0] (v:=Value.agg #[Value.slice none 0 0,Value.map (some b29),Value.int .i64 0]) rfl (zaa (Ln.one (S39.row_ln (i:=0) rfl)) (zaa rfl (zaa rfl zad)))
 refine FL.v (E.box rfl run37) ?_
 refine FL.v (E.assign (v:=Value.pointer (some (⟨b35,0,none⟩:Addr))) rfl) ?_
 refine FL.nil (FW.seq (FW.seq (FW.region ?_)))
 refine FL.v (E.fieldAddr zan rfl) ?_
 refine FL.v (E.load rfl (zag Tryz.isAgg24 (at28.now S38.sl) rfl)) ?_
 refine FL.v (E.lenP te24 rfl p0_1) ?_
 refine FL.v (E.move (v:=Value.int .i64 0) rfl) ?_
 refine FL.nil ?_
 obtain ⟨q42,hq,hp⟩:=bndR hp
 refine FW.block ?_
 refine FW.mono (FW.forL (S:=((List Int)×Int×(List (Int×Int)))) (X:=Empty) (fun (i42:Nat) (s42:((List Int)×Int×(List (Int×Int)))) f w=>∃ H:GH,∃ vA7:Value,∃ nA8:Nat,∃ csA9:List Value,∃ oAb:Obj,St Ha wa H w [.box b35 143 [vA7,Value.map (some b29),Value.int .i64 s42.2.1],.row 146 1 vA7 nA8 csA9,.raw b29 oAb]∧Inc H25 H∧Els (up wa.heap.size H) (eN .u16) 1 csA9 s42.1∧MapOf (K:=Int) (V:=Int) (Value.int .u16) (Value.int .i64) oAb s42.2.2∧f 23=Value.int .i64 ((i42:Nat):Int)∧f 1=Value.int .i64 a1∧f 5=Value.pointer (some (⟨b35,0,none⟩:Addr))∧f 21=v0_1∧f 22=Value.int .i64 (len a0.clauses)) (fun (q:Rs ((List Int)×Int×(List (Int×Int))) Empty) e f w=>match q with|.go s42=>e=Exit.exit 0∧(∃ H:GH,∃ vA7:Value,∃ nA8:Nat,∃ csA9:List Value,∃ oAb:Obj,St Ha wa H w [.box b35 143 [vA7,Value.map (some b29),Value.int .i64 s42.2.1],.row 146 1 vA7 nA8 csA9,.raw b29 oAb]∧Inc H25 H∧Els (up wa.heap.size H) (eN .u16) 1 csA9 s42.1∧MapOf (K:=Int) (V:=Int) (Value.int .u16) (Value.int .i64) oAb s42.2.2∧f 1=Value.int .i64 a1∧f 5=Value.pointer (some (⟨b35,0,none⟩:Addr)))|.rt x=>x.elim) hq ⟨_,_,_,_,_,S38,(Inc.rfl _),els40,hm34,rfl,rfl,rfl,rfl,rfl⟩ ?_ ?_) ?_
 ·
  clear hp hq
  rintro i42 y41 s42 fBj wBi ⟨HBf,vA7,nA8,csA9,oAb,SBg,iBh,elsAa,hm112,kBk,kBl,kBm,kBn,kBo⟩ hx42 oCJ hp
  refine FW.seq (FW.region ?_)
  refine FL.v (E.lssT kBk kBo (zay hx42)) ?_
  refine FL.nil (FW.seq ?_)
  refine FW.condT rfl rfl ?_
  refine FW.skip (FW.seq (FW.block (FW.seq (FW.region ?_))))
  obtain ⟨pBp,csBq,ptBr,lBs,atBt,relBu⟩:=p0_1.at (zap hx42)
  obtain ⟨vBv,rfl,hBw⟩:=zau relBu
  refine FL.v (E.indexAddr te24 kBn kBk ptBr) ?_
  refine FL.v (E.load rfl (zaf Tryz.isAgg34 ((atBt.mono (i27.tr iBh)).now SBg.sl) rfl)) ?_
  refine FL.v (E.assign (v:=vBv) rfl) ?_
  refine FL.nil (FW.seq (FW.region ?_))
  refine FL.v (E.move (v:=vBv) rfl) ?_
  refine FL.v (E.lenP te34 rfl hBw) ?_
  refine FL.v (E.move kBl) ?_
  refine FL.v (E.leq rfl rfl) ?_
  refine FL.nil ?_
  rcases ifB hp with ⟨cBx,hp⟩|⟨cBx,hp⟩
  ·
   refine FW.condT rfl cBx ?_
   refine FW.region ?_
   refine FL.v (E.move kBm) ?_
   refine FL.v (E.move (v:=vBv) rfl) ?_
   obtain ⟨rBy,hrBz,hp⟩:=bnd hp
   refine FL.call rfl rfl rfl (E.call Tryz.call152 (A1 rfl)) (w_impl_maskOf SBg.sl vBv y41 (hBw.mono (i27.tr iBh)) hrBz) ?_
   rintro e wBA ⟨rfl,rBB⟩
   refine ⟨_,rfl,?_⟩
   have SBC:=SBg.call rBB
   obtain ⟨sC5,hqC5,hp⟩:=bnd hp
   obtain ⟨R229,hRC5⟩:∃ R229:((List Int)×Int×(List (Int×Int)))→Ending→World→Prop,R229=(fun sC5 e w=>∃ H:GH,∃ vC6:Value,∃ nC7:Nat,∃ csC8:List Value,∃ oCa:Obj,e=Ending.returned (Value.tuple #[])∧St Ha wa H w [.box b35 143 [vC6,Value.map (some b29),Value.int .i64 sC5.2.1],.row 146 1 vC6 nC7 csC8,.raw b29 oCa]∧Inc HBf H∧Els (up wa.heap.size H) (eN .u16) 1 csC8 sC5.1∧MapOf (K:=Int) (V:=Int) (Value.int .u16) (Value.int .i64) oCa sC5.2.2):=⟨_,rfl⟩
   have hcC5:Calls Tryz.prog 151 #[Value.pointer (some (⟨b35,0,none⟩:Addr)),Value.int .u16 rBy,Value.int .i64 0] wBA (R229 sC5):=by
    clear hp;have hp:=hqC5;clear hqC5
    refine zah (N:=39) (args:=[Value.pointer (some (⟨b35,0,none⟩:Addr)),Value.int .u16 rBy,Value.int .i64 0]) Tryz.func151 rfl rfl rfl ?_
    refine FW.seq (FW.region ?_)
    refine FL.v (E.move (v:=Value.pointer (some (⟨b35,0,none⟩:Addr))) rfl) ?_
    refine FL.v (E.nilCheck rfl) ?_
    refine FL.v (E.fieldAddr tf143_1 rfl) ?_
    refine FL.v (E.load rfl (zag Tryz.isAgg140 (SBC.box_now (i:=0) rfl) rfl)) ?_
    refine FL.v (E.move (v:=Value.int .u16 rBy) rfl) ?_
    refine FL.v (E.lookup rfl rfl (SBC.mapGetOk (P:=Tryz.prog) (i:=2) rfl hm112 Tryz.runUnderlying140 (KeyNow.intk Tryz.runUnderlying146) (z:=0) Tryz.zeroValue3 rBy)) ?_
    refine FL.v (E.move (v:=Value.tuple #[Value.int .i64 ((mget s42.2.2 rBy).getD 0),Value.bool ((mget s42.2.2 rBy).isSome)]) rfl) ?_
    refine FL.v (E.extract (i:=0) rfl rfl) ?_
    refine FL.v (E.extract (i:=1) rfl rfl) ?_
    refine FL.v (E.assign (v:=Value.int .i64 ((mget s42.2.2 rBy).getD 0)) rfl) ?_
    refine FL.v (E.assign (v:=Value.bool ((mget s42.2.2 rBy).isSome)) rfl) ?_
    refine FL.nil (FW.seq (FW.region ?_))
    refine FL.v (E.move (v:=Value.bool ((mget s42.2.2 rBy).isSome)) rfl) ?_
    refine FL.v (E.not rfl) ?_
    refine FL.nil ?_
    rcases ifB hp with ⟨cCc,hp⟩|⟨cCc,hp⟩
    ·
     refine FW.condT rfl cCc ?_
     refine FW.seq (FW.region ?_)
     refine FL.v (E.move (v:=Value.pointer (some (⟨b35,0,none⟩:Addr))) rfl) ?_
     refine FL.v (E.nilCheck rfl) ?_
     refine FL.v (E.fieldAddr tf143_1 rfl) ?_
     refine FL.v (E.load rfl (zag Tryz.isAgg140 (SBC.box_now (i:=0) rfl) rfl)) ?_
     refine FL.v (E.move (v:=Value.int .u16 rBy) rfl) ?_
     refine FL.v (E.move (v:=Value.int .i64 0) rfl) ?_
     obtain ⟨oCd,wCe,runCf,SCg,hm241⟩:=SBC.mapPut (P:=Tryz.prog) (i:=2) rfl hm112 Tryz.runUnderlying140 (KeyNow.intk Tryz.runUnderlying146) rBy 0
     have SCg:St Ha wa HBf wCe [.box b35 143 [vA7,Value.map (some b29),Value.int .i64 s42.2.1],.row 146 1 vA7 nA8 csA9,.raw b29 oCd]:=SCg
     refine FL.act rfl rfl (E.mapUpdate rfl rfl rfl runCf) ?_
     refine FL.nil (FW.seq (FW.region ?_))
     refine FL.v (E.move (v:=Value.pointer (some (⟨b35,0,none⟩:Addr))) rfl) ?_
     refine FL.v (E.move (v:=Value.pointer (some (⟨b35,0,none⟩:Addr))) rfl) ?_
     refine FL.v (E.nilCheck rfl) ?_
     refine FL.v (E.fieldAddr zbs rfl) ?_
     refine FL.v (E.load rfl (zag Tryz.isAgg141 (SCg.box_now (i:=0) rfl) rfl)) ?_
     refine FL.v (E.move (v:=Value.int .u16 rBy) rfl) ?_
     obtain ⟨vCi,wCj,runCk,SCl⟩:=SCg.buildSlice (P:=Tryz.prog) te141 [Value.int .u16 rBy] (parts:=#[(0,Value.int .u16 rBy)]) (cells:=[Value.int .u16 rBy]) rfl (zar rfl zal) (zaq rfl zak) (zaa rfl zad) (Nat.le_of_ble_eq_true rfl)
     have elsCm:Els (up wa.heap.size HBf) (eN .u16) 1 [Value.int .u16 rBy] [rBy]:=(Els.snoc (H:=(up wa.heap.size HBf)) (E:=(eN .u16)) (k:=1) (c:=[Value.int .u16 rBy]) (x:=rBy) Els.nil rfl rfl)
     refine FL.v (E.buildSlice (B1 rfl) runCk) ?_
     obtain ⟨xsCn,hzCo,hp⟩:=bnd hp
     obtain ⟨vCp,wCs,nCq,csCr,runCt,SCu,elsCv,ceCw⟩:=SCl.appendO (P:=Tryz.prog) te141 (i:=2) (j:=0) rfl elsAa rfl elsCm hzCo
     have SCu:St Ha wa HBf wCs [.row 146 1 vCi 1 [Value.int .u16 rBy],.box b35 143 [vA7,Value.map (some b29),Value.int .i64 s42.2.1],.row 146 1 vCp nCq csCr,.raw b29 oCd]:=SCu
     have SCx:St Ha wa HBf wCs [.box b35 143 [vA7,Value.map (some b29),Value.int .i64 s42.2.1],.row 146 1 vCp nCq csCr,.raw b29 oCd]:=SCu.drop 0
     refine FL.v (E.append rfl rfl runCt) ?_
     refine FL.v (E.nilCheck rfl) ?_
     refine FL.v (E.fieldAddr zbs rfl) ?_
     obtain ⟨wCy,runCz,SCA⟩:=SCx.store (P:=Tryz.prog) (t:=141) (i:=0) (j:=0) (cs':=[vCp,Value.map (some b29),Value.int .i64 s42.2.1]) (l':=[.box b35 143 [vCp,Value.map (some b29),Value.int .i64 s42.2.1],.row 146 1 vCp nCq csCr,.raw b29 oCd]) (v:=vCp) (c:=[vCp]) rfl Tryz.sizeOf141 (Ln.cells (SCx.row_ln (i:=1) rfl)) rfl (zaa (Ln.one (SCx.row_ln (i:=1) rfl)) zad) (Nat.le_of_ble_eq_true rfl) rfl rfl
     refine FL.act rfl rfl (E.store rfl rfl runCz) ?_
     refine FL.nil (FW.region ?_)
     refine FL.v (E.move (v:=Value.pointer (some (⟨b35,0,none⟩:Addr))) rfl) ?_
     refine FL.v (E.move (v:=Value.int .i64 0) rfl) ?_
     refine FL.v (E.nilCheck rfl) ?_
     refine FL.v (E.fieldAddr tf143_2 rfl) ?_
     obtain ⟨wCB,runCC,SCD⟩:=SCA.store (P:=Tryz.prog) (t:=3) (i:=0) (j:=2) (cs':=[vCp,Value.map (some b29),Value.int .i64 0]) (l':=[.box b35 143 [vCp,Value.map (some b29),Value.int .i64 0],.row 146 1 vCp nCq csCr,.raw b29 oCd]) (v:=Value.int .i64 0) (c:=[Value.int .i64 0]) rfl Tryz.sizeOf3 rfl rfl (zaa rfl zad) (Nat.le_of_ble_eq_true rfl) rfl rfl
     refine FL.act rfl rfl (E.store rfl rfl runCC) ?_
     refine FL.nil ?_
     obtain rfl:=Option.some.inj hp
     exact ⟨.inl rfl,res0 rfl (by rw [hRC5];exact ⟨_,_,_,_,_,rfl,SCD,(Inc.rfl _),elsCv,hm241⟩)⟩
    ·
     refine FW.condF rfl cCc ?_
     refine FW.skip ?_
     obtain rfl:=Option.some.inj hp
     exact ⟨.inl rfl,res0 rfl (by rw [hRC5];exact ⟨_,_,_,_,_,rfl,SBC,(Inc.rfl _),elsAa,hm112⟩)⟩
   clear hqC5
   refine FL.call rfl rfl rfl (E.call Tryz.call151 (A3 rfl rfl rfl)) hcC5 ?_
   intro e wCH hQC5
   rw [hRC5] at hQC5
   obtain ⟨HCE,vC6,nC7,csC8,oCa,rfl,SCF,iCG,elsC9,hm235⟩:=hQC5
   refine ⟨_,rfl,?_⟩
   refine FL.nil (FW.region ?_)
   refine FL.v (E.add kBk rfl) ?_
   refine FL.v (E.move (v:=Value.int .i64 (wr (((i42:Nat):Int) + 1))) rfl) ?_
   refine FL.nil ?_
   obtain rfl:=Option.some.inj hp
   exact ⟨rfl,⟨_,_,_,_,_,SCF,(iBh.tr iCG),elsC9,hm235,(zas rfl (zao hx42) (p0_1.mono ((i27.tr iBh).tr iCG)).le),kBl,kBm,kBn,kBo⟩⟩
  ·
   refine FW.condF rfl cBx ?_
   refine FW.skip (FW.region ?_)
   refine FL.v (E.add kBk rfl) ?_
   refine FL.v (E.move (v:=Value.int .i64 (wr (((i42:Nat):Int) + 1))) rfl) ?_
   refine FL.nil ?_
   obtain rfl:=Option.some.inj hp
   exact ⟨rfl,⟨_,_,_,_,_,SBg,iBh,elsAa,hm112,(zas rfl (zao hx42) (p0_1.mono (i27.tr iBh)).le),kBl,kBm,kBn,kBo⟩⟩
 ·
  clear hp hq
  rintro s42 fDp wDo ⟨HDl,vA7,nA8,csA9,oAb,SDm,iDn,elsAa,hm112,kDq,kDr,kDs,kDt,kDu⟩
  refine FW.seq (FW.region ?_)
  refine FL.v (E.lss kDq kDu) ?_
  refine FL.nil (FW.seq ?_)
  refine FW.condF rfl zaz ?_
  refine FW.exit ?_
  exact ⟨nofun,rfl,⟨_,_,_,_,_,SDm,iDn,elsAa,hm112,kDr,kDs⟩⟩
 ·
  clear hq
  intro e fCO wCN hD
  rcases q42 with s42|x42
  ·
   obtain ⟨rfl,hD⟩:=hD
   obtain ⟨HCK,vA7,nA8,csA9,oAb,SCL,iCM,elsAa,hm112,kCP,kCQ⟩:=hD
   replace hp:=el_go hp
   refine FW.seq (FW.seq (FW.region ?_))
   refine FL.v (E.assign (v:=Value.int .i64 0) rfl) ?_
   refine FL.v (E.assign (v:=Value.int .i64 1) rfl) ?_
   refine FL.nil ?_
   obtain ⟨qCR,hq,hp⟩:=bndR hp
   refine FW.block ?_
   refine FW.mono (FW.iter (S:=((List Int)×Int×(List (Int×Int))×Int×Int)) (X:=Empty) (fun (sCR:((List Int)×Int×(List (Int×Int))×Int×Int)) f w=>∃ H:GH,∃ vKA:Value,∃ nKB:Nat,∃ csKC:List Value,∃ oKE:Obj,St Ha wa H w [.box b35 143 [vKA,Value.map (some b29),Value.int .i64 sCR.2.1],.row 146 1 vKA nKB csKC,.raw b29 oKE]∧Inc HCK H∧Els (up wa.heap.size H) (eN .u16) 1 csKC sCR.1∧MapOf (K:=Int) (V:=Int) (Value.int .u16) (Value.int .i64) oKE sCR.2.2.1∧f 1=Value.int .i64 a1∧f 5=Value.pointer (some (⟨b35,0,none⟩:Addr))∧f 8=Value.int .i64 sCR.2.2.2.1∧f 9=Value.int .i64 sCR.2.2.2.2) (fun (q:Rs ((List Int)×Int×(List (Int×Int))×Int×Int) Empty) e f w=>match q with|.go sCR=>e=Exit.exit 2∧(∃ H:GH,∃ vKA:Value,∃ nKB:Nat,∃ csKC:List Value,∃ oKE:Obj,St Ha wa H w [.box b35 143 [vKA,Value.map (some b29),Value.int .i64 sCR.2.1],.row 146 1 vKA nKB csKC,.raw b29 oKE]∧Inc HCK H∧Els (up wa.heap.size H) (eN .u16) 1 csKC sCR.1∧MapOf (K:=Int) (V:=Int) (Value.int .u16) (Value.int .i64) oKE sCR.2.2.1∧f 5=Value.pointer (some (⟨b35,0,none⟩:Addr)))|.rt x=>x.elim) hq ⟨_,_,_,_,_,SCL,(Inc.rfl _),elsAa,hm112,kCP,kCQ,rfl,rfl⟩ ?_) ?_
   ·
    clear hp hq
    rintro sCR f47 w46 ⟨H43,vKA,nKB,csKC,oKE,S44,i45,elsKD,hm761,k48,k49,k50,k51⟩ oD1 hp
    refine FW.seq (FW.seq (FW.region ?_))
    refine FL.v (E.move k50) ?_
    refine FL.v (E.move k49) ?_
    refine FL.v (E.nilCheck rfl) ?_
    refine FL.v (E.fieldAddr zbs rfl) ?_
    refine FL.v (E.load rfl (zag Tryz.isAgg141 (S44.box_now (i:=0) rfl) rfl)) ?_
    refine FL.v (E.lenO te141 rfl S44 (i:=1) rfl elsKD (by decide)) ?_
    refine FL.v (E.lss rfl rfl) ?_
    refine FL.nil ?_
    rcases ifB hp with ⟨c52,hp⟩|⟨c52,hp⟩
    ·
     refine FW.condT rfl c52 ?_
     refine FW.skip (FW.seq (FW.block (FW.seq (FW.region ?_))))
     refine FL.v (E.move k49) ?_
     refine FL.v (E.nilCheck rfl) ?_
     refine FL.v (E.fieldAddr zbs rfl) ?_
     refine FL.v (E.load rfl (zag Tryz.isAgg141 (S44.box_now (i:=0) rfl) rfl)) ?_
     refine FL.v (E.lenO te141 rfl S44 (i:=1) rfl elsKD (by decide)) ?_
     refine FL.v (E.assign (v:=Value.int .i64 (len sCR.1)) rfl) ?_
     refine FL.nil (FW.seq (FW.seq (FW.region ?_)))
     refine FL.v (E.move k50) ?_
     refine FL.v (E.assign (v:=Value.int .i64 sCR.2.2.2.1) rfl) ?_
     refine FL.nil ?_
     obtain ⟨q53,hq,hp⟩:=bndR hp
     refine FW.block ?_
     refine FW.mono (FW.iter (S:=((List Int)×Int×(List (Int×Int))×Int)) (X:=Empty) (fun (s53:((List Int)×Int×(List (Int×Int))×Int)) f w=>∃ H:GH,∃ v54:Value,∃ n55:Nat,∃ cs56:List Value,∃ o58:Obj,St Ha wa H w [.box b35 143 [v54,Value.map (some b29),Value.int .i64 s53.2.1],.row 146 1 v54 n55 cs56,.raw b29 o58]∧Inc H43 H∧Els (up wa.heap.size H) (eN .u16) 1 cs56 s53.1∧MapOf (K:=Int) (V:=Int) (Value.int .u16) (Value.int .i64) o58 s53.2.2.1∧f 1=Value.int .i64 a1∧f 5=Value.pointer (some (⟨b35,0,none⟩:Addr))∧f 9=Value.int .i64 sCR.2.2.2.2∧f 10=Value.int .i64 (len sCR.1)∧f 11=Value.int .i64 s53.2.2.2) (fun (q:Rs ((List Int)×Int×(List (Int×Int))×Int) Empty) e f w=>match q with|.go s53=>e=Exit.exit 4∧(∃ H:GH,∃ v54:Value,∃ n55:Nat,∃ cs56:List Value,∃ o58:Obj,St Ha wa H w [.box b35 143 [v54,Value.map (some b29),Value.int .i64 s53.2.1],.row 146 1 v54 n55 cs56,.raw b29 o58]∧Inc H43 H∧Els (up wa.heap.size H) (eN .u16) 1 cs56 s53.1∧MapOf (K:=Int) (V:=Int) (Value.int .u16) (Value.int .i64) o58 s53.2.2.1∧f 1=Value.int .i64 a1∧f 5=Value.pointer (some (⟨b35,0,none⟩:Addr))∧f 9=Value.int .i64 sCR.2.2.2.2∧f 10=Value.int .i64 (len sCR.1))|.rt x=>x.elim) hq ⟨_,_,_,_,_,S44,(Inc.rfl _),elsKD,hm761,k48,k49,k51,rfl,rfl⟩ ?_) ?_
     ·
      clear hp hq
      rintro s53 f64 w63 ⟨H60,v54,n55,cs56,o58,S61,i62,els57,hm59,k65,k66,k67,k68,k69⟩ oCI hp
      refine FW.seq (FW.seq (FW.region ?_))
      refine FL.v (E.move k69) ?_
      refine FL.v (E.move k68) ?_
      refine FL.v (E.lss rfl rfl) ?_
      refine FL.nil ?_
      rcases ifB hp with ⟨c70,hp⟩|⟨c70,hp⟩
      ·
       refine FW.condT rfl c70 ?_
       refine FW.skip (FW.seq (FW.block (FW.seq (FW.region ?_))))
       refine FL.v (E.move k66) ?_
       refine FL.v (E.nilCheck rfl) ?_
       refine FL.v (E.fieldAddr zbs rfl) ?_
       refine FL.v (E.load rfl (zag Tryz.isAgg141 (S61.box_now (i:=0) rfl) rfl)) ?_
       refine FL.v (E.move k69) ?_
       obtain ⟨xs71,hc72,hp⟩:=bnd hp
       obtain ⟨v73,cs74,run75,S76,vw77,els78,vl79⟩:=S61.view te141 (kk:=.i64) (i:=1) rfl els57 hc72
       refine FL.v (E.slice te141 rfl rfl (congrArg some rfl) rfl (run75 _)) ?_
       refine FL.v (E.len te141 rfl vl79.ln) ?_
       refine FL.v (E.move (v:=Value.int .i64 0) rfl) ?_
       refine FL.nil ?_
       obtain ⟨q81,hq,hp⟩:=bndR hp
       refine FW.block ?_
       refine FW.mono (FW.forL (S:=((List Int)×Int×(List (Int×Int)))) (X:=Empty) (fun (i81:Nat) (s81:((List Int)×Int×(List (Int×Int)))) f w=>∃ H:GH,∃ v82:Value,∃ n83:Nat,∃ cs84:List Value,∃ o86:MO,∃ o88:Obj,St Ha wa H w [o86,.box b35 143 [v82,Value.map (some b29),Value.int .i64 s81.2.1],.row 146 1 v82 n83 cs84,.raw b29 o88]∧Inc H60 H∧Els (up wa.heap.size H) (eN .u16) 1 cs84 s81.1∧View 1 v82 v73 cs84 cs74 o86∧MapOf (K:=Int) (V:=Int) (Value.int .u16) (Value.int .i64) o88 s81.2.2∧f 63=Value.int .i64 ((i81:Nat):Int)∧f 1=Value.int .i64 a1∧f 5=Value.pointer (some (⟨b35,0,none⟩:Addr))∧f 9=Value.int .i64 sCR.2.2.2.2∧f 10=Value.int .i64 (len sCR.1)∧f 11=Value.int .i64 s53.2.2.2∧f 61=v73∧f 62=Value.int .i64 (len xs71)) (fun (q:Rs ((List Int)×Int×(List (Int×Int))) Empty) e f w=>match q with|.go s81=>e=Exit.exit 6∧(∃ H:GH,∃ v82:Value,∃ n83:Nat,∃ cs84:List Value,∃ o86:MO,∃ o88:Obj,St Ha wa H w [o86,.box b35 143 [v82,Value.map (some b29),Value.int .i64 s81.2.1],.row 146 1 v82 n83 cs84,.raw b29 o88]∧Inc H60 H∧Els (up wa.heap.size H) (eN .u16) 1 cs84 s81.1∧View 1 v82 v73 cs84 cs74 o86∧MapOf (K:=Int) (V:=Int) (Value.int .u16) (Value.int .i64) o88 s81.2.2∧f 1=Value.int .i64 a1∧f 5=Value.pointer (some (⟨b35,0,none⟩:Addr))∧f 9=Value.int .i64 sCR.2.2.2.2∧f 10=Value.int .i64 (len sCR.1)∧f 11=Value.int .i64 s53.2.2.2)|.rt x=>x.elim) hq ⟨_,_,_,_,_,_,S76,(Inc.rfl _),els57,vw77,hm59,rfl,k65,k66,k67,k68,k69,rfl,rfl⟩ ?_ ?_) ?_
       ·
        clear hp hq
        rintro i81 y80 s81 f94 w93 ⟨H90,v82,n83,cs84,o86,o88,S91,i92,els85,vw87,hm89,k95,k96,k97,k98,k99,kA0,kA1,kA2⟩ hx81 oBH hp
        refine FW.seq (FW.region ?_)
        refine FL.v (E.lssT k95 kA2 (zay hx81)) ?_
        refine FL.nil (FW.seq ?_)
        refine FW.condT rfl rfl ?_
        refine FW.skip (FW.seq (FW.block (FW.seq (FW.region ?_))))
        obtain ⟨pA3,csA4,ptA5,lA6,atAd,relAe⟩:=S91.view_at (i:=2) (q:=0) rfl rfl vw87 els78 (by decide) (zap hx81)
        obtain rfl:=eN_open relAe
        refine FL.v (E.indexAddr te141 kA1 k95 ptA5) ?_
        refine FL.v (E.load rfl (zaf Tryz.isAgg146 atAd rfl)) ?_
        refine FL.v (E.assign (v:=Value.int .u16 y80) rfl) ?_
        refine FL.nil (FW.seq (FW.region ?_))
        refine FL.v (E.move k97) ?_
        refine FL.v (E.nilCheck rfl) ?_
        refine FL.v (E.fieldAddr zbs rfl) ?_
        refine FL.v (E.load rfl (zag Tryz.isAgg141 (S91.box_now (i:=1) rfl) rfl)) ?_
        refine FL.v (E.move kA0) ?_
        obtain ⟨xAl,hxAm,hp⟩:=bnd hp
        obtain ⟨pAf,csAg,ptAh,lAi,atAj,relAk⟩:=S91.row_at (i:=2) rfl els85 (by decide) hxAm
        obtain rfl:=eN_open relAk
        refine FL.v (E.indexAddr te141 rfl rfl ptAh) ?_
        refine FL.v (E.load rfl (zaf Tryz.isAgg146 atAj rfl)) ?_
        refine FL.v (E.assign (v:=Value.int .u16 xAl) rfl) ?_
        refine FL.nil (FW.seq (FW.region ?_))
        refine FL.v (E.move (v:=Value.int .u16 xAl) rfl) ?_
        refine FL.v (E.move (v:=Value.int .u16 y80) rfl) ?_
        refine FL.call rfl rfl rfl (E.call Tryz.call153 (A2 rfl rfl)) (w_impl_bothOf S91.sl xAl y80) ?_
        rintro e wAn ⟨rfl,rAo⟩
        refine ⟨_,rfl,?_⟩
        have SAp:=S91.call rAo
        refine FL.v (E.assign (v:=Value.int .u16 (PF.zai xAl y80)) rfl) ?_
        refine FL.nil (FW.seq (FW.seq (FW.region ?_)))
        refine FL.v (E.move (v:=Value.int .u16 (PF.zai xAl y80)) rfl) ?_
        refine FL.call rfl rfl rfl (E.call Tryz.call154 (A1 rfl)) (w_impl_mask_one SAp.sl (PF.zai xAl y80)) ?_
        rintro e wAq ⟨rfl,rAr⟩
        refine ⟨_,rfl,?_⟩
        have SAs:=SAp.call rAr
        refine FL.v (E.not rfl) ?_
        refine FL.nil ?_
        rcases ifB hp with ⟨cAt,hp⟩|⟨cAt,hp⟩
        ·
         refine FW.condT rfl cAt ?_
         refine FW.exit ?_
         refine FW.region ?_
         refine FL.v (E.add k95 rfl) ?_
         refine FL.v (E.move (v:=Value.int .i64 (wr (((i81:Nat):Int) + 1))) rfl) ?_
         refine FL.nil ?_
         obtain rfl:=Option.some.inj hp
         exact ⟨rfl,⟨_,_,_,_,_,_,SAs,i92,els85,vw87,hm89,(zas rfl (zao hx81) vl79.le),k96,k97,k98,k99,kA0,kA1,kA2⟩⟩
        ·
         refine FW.condF rfl cAt ?_
         refine FW.skip (FW.seq (FW.region ?_))
         refine FL.v (E.move (v:=Value.int .u16 xAl) rfl) ?_
         refine FL.v (E.move (v:=Value.int .u16 y80) rfl) ?_
         refine FL.v (E.or rfl rfl) ?_
         refine FL.v (E.move (v:=Value.int .u16 (PF.zai xAl y80)) rfl) ?_
         refine FL.v (E.move (v:=Value.int .u16 (PF.zai xAl y80)) rfl) ?_
         refine FL.v (E.shl rfl rfl (by decide)) ?_
         refine FL.v (E.or rfl rfl) ?_
         refine FL.v (E.andNot rfl rfl) ?_
         refine FL.v (E.assign (v:=Value.int .u16 (anK false 16 (orK false 16 xAl y80) (orK false 16 (PF.zai xAl y80) (shlK false 16 (PF.zai xAl y80) 6)))) rfl) ?_
         refine FL.nil (FW.seq (FW.region ?_))
         refine FL.v (E.move (v:=Value.int .u16 (anK false 16 (orK false 16 xAl y80) (orK false 16 (PF.zai xAl y80) (shlK false 16 (PF.zai xAl y80) 6)))) rfl) ?_
         obtain ⟨rAu,hrAv,hp⟩:=bnd hp
         refine FL.call rfl rfl rfl (E.call Tryz.call155 (A1 rfl)) (w_impl_mask_count SAs.sl (anK false 16 (orK false 16 xAl y80) (orK false 16 (PF.zai xAl y80) (shlK false 16 (PF.zai xAl y80) 6))) hrAv) ?_
         rintro e wAw ⟨rfl,rAx⟩
         refine ⟨_,rfl,?_⟩
         have SAy:=SAs.call rAx
         refine FL.v (E.move k96) ?_
         refine FL.v (E.leq rfl rfl) ?_
         refine FL.nil ?_
         rcases ifB hp with ⟨cAz,hp⟩|⟨cAz,hp⟩
         ·
          refine FW.condT rfl cAz ?_
          refine FW.region ?_
          refine FL.v (E.move k97) ?_
          refine FL.v (E.move (v:=Value.int .u16 (anK false 16 (orK false 16 xAl y80) (orK false 16 (PF.zai xAl y80) (shlK false 16 (PF.zai xAl y80) 6)))) rfl) ?_
          refine FL.v (E.move k98) ?_
          obtain ⟨sAA,hqAA,hp⟩:=bnd hp
          obtain ⟨R136,hRAA⟩:∃ R136:((List Int)×Int×(List (Int×Int)))→Ending→World→Prop,R136=(fun sAA e w=>∃ H:GH,∃ vAB:Value,∃ nAC:Nat,∃ csAD:List Value,∃ oAG:MO,∃ oAJ:Obj,e=Ending.returned (Value.tuple #[])∧St Ha wa H w [oAG,.box b35 143 [vAB,Value.map (some b29),Value.int .i64 sAA.2.1],.row 146 1 vAB nAC csAD,.raw b29 oAJ]∧Inc H90 H∧Els (up wa.heap.size H) (eN .u16) 1 csAD sAA.1∧View 1 vAB v73 csAD cs74 oAG∧MapOf (K:=Int) (V:=Int) (Value.int .u16) (Value.int .i64) oAJ sAA.2.2):=⟨_,rfl⟩
          have hcAA:Calls Tryz.prog 151 #[Value.pointer (some (⟨b35,0,none⟩:Addr)),Value.int .u16 (anK false 16 (orK false 16 xAl y80) (orK false 16 (PF.zai xAl y80) (shlK false 16 (PF.zai xAl y80) 6))),Value.int .i64 sCR.2.2.2.2] wAw (R136 sAA):=by
           clear hp;have hp:=hqAA;clear hqAA
           refine zah (N:=39) (args:=[Value.pointer (some (⟨b35,0,none⟩:Addr)),Value.int .u16 (anK false 16 (orK false 16 xAl y80) (orK false 16 (PF.zai xAl y80) (shlK false 16 (PF.zai xAl y80) 6))),Value.int .i64 sCR.2.2.2.2]) Tryz.func151 rfl rfl rfl ?_
           refine FW.seq (FW.region ?_)
           refine FL.v (E.move (v:=Value.pointer (some (⟨b35,0,none⟩:Addr))) rfl) ?_
           refine FL.v (E.nilCheck rfl) ?_
           refine FL.v (E.fieldAddr tf143_1 rfl) ?_
           refine FL.v (E.load rfl (zag Tryz.isAgg140 (SAy.box_now (i:=1) rfl) rfl)) ?_
           refine FL.v (E.move (v:=Value.int .u16 (anK false 16 (orK false 16 xAl y80) (orK false 16 (PF.zai xAl y80) (shlK false 16 (PF.zai xAl y80) 6)))) rfl) ?_
           refine FL.v (E.lookup rfl rfl (SAy.mapGetOk (P:=Tryz.prog) (i:=3) rfl hm89 Tryz.runUnderlying140 (KeyNow.intk Tryz.runUnderlying146) (z:=0) Tryz.zeroValue3 (anK false 16 (orK false 16 xAl y80) (orK false 16 (PF.zai xAl y80) (shlK false 16 (PF.zai xAl y80) 6))))) ?_
           refine FL.v (E.move (v:=Value.tuple #[Value.int .i64 ((mget s81.2.2 (anK false 16 (orK false 16 xAl y80) (orK false 16 (PF.zai xAl y80) (shlK false 16 (PF.zai xAl y80) 6)))).getD 0),Value.bool ((mget s81.2.2 (anK false 16 (orK false 16 xAl y80) (orK false 16 (PF.zai xAl y80) (shlK false 16 (PF.zai xAl y80) 6)))).isSome)]) rfl) ?_
           refine FL.v (E.extract (i:=0) rfl rfl) ?_
           refine FL.v (E.extract (i:=1) rfl rfl) ?_
           refine FL.v (E.assign (v:=Value.int .i64 ((mget s81.2.2 (anK false 16 (orK false 16 xAl y80) (orK false 16 (PF.zai xAl y80) (shlK false 16 (PF.zai xAl y80) 6)))).getD 0)) rfl) ?_
           refine FL.v (E.assign (v:=Value.bool ((mget s81.2.2 (anK false 16 (orK false 16 xAl y80) (orK false 16 (PF.zai xAl y80) (shlK false 16 (PF.zai xAl y80) 6)))).isSome)) rfl) ?_
           refine FL.nil (FW.seq (FW.region ?_))
           refine FL.v (E.move (v:=Value.bool ((mget s81.2.2 (anK false 16 (orK false 16 xAl y80) (orK false 16 (PF.zai xAl y80) (shlK false 16 (PF.zai xAl y80) 6)))).isSome)) rfl) ?_
           refine FL.v (E.not rfl) ?_
           refine FL.nil ?_
           rcases ifB hp with ⟨cAL,hp⟩|⟨cAL,hp⟩
           ·
            refine FW.condT rfl cAL ?_
            refine FW.seq (FW.region ?_)
            refine FL.v (E.move (v:=Value.pointer (some (⟨b35,0,none⟩:Addr))) rfl) ?_
            refine FL.v (E.nilCheck rfl) ?_
            refine FL.v (E.fieldAddr tf143_1 rfl) ?_
            refine FL.v (E.load rfl (zag Tryz.isAgg140 (SAy.box_now (i:=1) rfl) rfl)) ?_
            refine FL.v (E.move (v:=Value.int .u16 (anK false 16 (orK false 16 xAl y80) (orK false 16 (PF.zai xAl y80) (shlK false 16 (PF.zai xAl y80) 6)))) rfl) ?_
            refine FL.v (E.move (v:=Value.int .i64 sCR.2.2.2.2) rfl) ?_
            obtain ⟨oAM,wAN,runAO,SAP,hm152⟩:=SAy.mapPut (P:=Tryz.prog) (i:=3) rfl hm89 Tryz.runUnderlying140 (KeyNow.intk Tryz.runUnderlying146) (anK false 16 (orK false 16 xAl y80) (orK false 16 (PF.zai xAl y80) (shlK false 16 (PF.zai xAl y80) 6))) sCR.2.2.2.2
            have SAP:St Ha wa H90 wAN [o86,.box b35 143 [v82,Value.map (some b29),Value.int .i64 s81.2.1],.row 146 1 v82 n83 cs84,.raw b29 oAM]:=SAP
            refine FL.act rfl rfl (E.mapUpdate rfl rfl rfl runAO) ?_
            refine FL.nil (FW.seq (FW.region ?_))
            refine FL.v (E.move (v:=Value.pointer (some (⟨b35,0,none⟩:Addr))) rfl) ?_
            refine FL.v (E.move (v:=Value.pointer (some (⟨b35,0,none⟩:Addr))) rfl) ?_
            refine FL.v (E.nilCheck rfl) ?_
            refine FL.v (E.fieldAddr zbs rfl) ?_
            refine FL.v (E.load rfl (zag Tryz.isAgg141 (SAP.box_now (i:=1) rfl) rfl)) ?_
            refine FL.v (E.move (v:=Value.int .u16 (anK false 16 (orK false 16 xAl y80) (orK false 16 (PF.zai xAl y80) (shlK false 16 (PF.zai xAl y80) 6)))) rfl) ?_
            obtain ⟨vAR,wAS,runAT,SAU⟩:=SAP.buildSlice (P:=Tryz.prog) te141 [Value.int .u16 (anK false 16 (orK false 16 xAl y80) (orK false 16 (PF.zai xAl y80) (shlK false 16 (PF.zai xAl y80) 6)))] (parts:=#[(0,Value.int .u16 (anK false 16 (orK false 16 xAl y80) (orK false 16 (PF.zai xAl y80) (shlK false 16 (PF.zai xAl y80) 6))))]) (cells:=[Value.int .u16 (anK false 16 (orK false 16 xAl y80) (orK false 16 (PF.zai xAl y80) (shlK false 16 (PF.zai xAl y80) 6)))]) rfl (zar rfl zal) (zaq rfl zak) (zaa rfl zad) (Nat.le_of_ble_eq_true rfl)
            have elsAV:Els (up wa.heap.size H90) (eN .u16) 1 [Value.int .u16 (anK false 16 (orK false 16 xAl y80) (orK false 16 (PF.zai xAl y80) (shlK false 16 (PF.zai xAl y80) 6)))] [(anK false 16 (orK false 16 xAl y80) (orK false 16 (PF.zai xAl y80) (shlK false 16 (PF.zai xAl y80) 6)))]:=(Els.snoc (H:=(up wa.heap.size H90)) (E:=(eN .u16)) (k:=1) (c:=[Value.int .u16 (anK false 16 (orK false 16 xAl y80) (orK false 16 (PF.zai xAl y80) (shlK false 16 (PF.zai xAl y80) 6)))]) (x:=(anK false 16 (orK false 16 xAl y80) (orK false 16 (PF.zai xAl y80) (shlK false 16 (PF.zai xAl y80) 6)))) Els.nil rfl rfl)
            refine FL.v (E.buildSlice (B1 rfl) runAT) ?_
            obtain ⟨xsAW,hzAX,hp⟩:=bnd hp
            obtain ⟨vAY,wB1,nAZ,csB0,oB6,runB2,SB3,elsB4,ceB5,vw169⟩:=SAU.appendVO (P:=Tryz.prog) te141 (i:=3) (j:=0) (q:=1) rfl els85 rfl elsAV hzAX rfl vw87
            have SB3:St Ha wa H90 wB1 [.row 146 1 vAR 1 [Value.int .u16 (anK false 16 (orK false 16 xAl y80) (orK false 16 (PF.zai xAl y80) (shlK false 16 (PF.zai xAl y80) 6)))],oB6,.box b35 143 [v82,Value.map (some b29),Value.int .i64 s81.2.1],.row 146 1 vAY nAZ csB0,.raw b29 oAM]:=SB3
            have SB8:St Ha wa H90 wB1 [oB6,.box b35 143 [v82,Value.map (some b29),Value.int .i64 s81.2.1],.row 146 1 vAY nAZ csB0,.raw b29 oAM]:=SB3.drop 0
            refine FL.v (E.append rfl rfl runB2) ?_
            refine FL.v (E.nilCheck rfl) ?_
            refine FL.v (E.fieldAddr zbs rfl) ?_
            obtain ⟨wB9,runBa,SBb⟩:=SB8.store (P:=Tryz.prog) (t:=141) (i:=1) (j:=0) (cs':=[vAY,Value.map (some b29),Value.int .i64 s81.2.1]) (l':=[oB6,.box b35 143 [vAY,Value.map (some b29),Value.int .i64 s81.2.1],.row 146 1 vAY nAZ csB0,.raw b29 oAM]) (v:=vAY) (c:=[vAY]) rfl Tryz.sizeOf141 (Ln.cells (SB8.row_ln (i:=2) rfl)) rfl (zaa (Ln.one (SB8.row_ln (i:=2) rfl)) zad) (Nat.le_of_ble_eq_true rfl) rfl rfl
            refine FL.act rfl rfl (E.store rfl rfl runBa) ?_
            refine FL.nil (FW.region ?_)
            refine FL.v (E.move (v:=Value.pointer (some (⟨b35,0,none⟩:Addr))) rfl) ?_
            refine FL.v (E.move (v:=Value.int .i64 sCR.2.2.2.2) rfl) ?_
            refine FL.v (E.nilCheck rfl) ?_
            refine FL.v (E.fieldAddr tf143_2 rfl) ?_
            obtain ⟨wBc,runBd,SBe⟩:=SBb.store (P:=Tryz.prog) (t:=3) (i:=1) (j:=2) (cs':=[vAY,Value.map (some b29),Value.int .i64 sCR.2.2.2.2]) (l':=[oB6,.box b35 143 [vAY,Value.map (some b29),Value.int .i64 sCR.2.2.2.2],.row 146 1 vAY nAZ csB0,.raw b29 oAM]) (v:=Value.int .i64 sCR.2.2.2.2) (c:=[Value.int .i64 sCR.2.2.2.2]) rfl Tryz.sizeOf3 rfl rfl (zaa rfl zad) (Nat.le_of_ble_eq_true rfl) rfl rfl
            refine FL.act rfl rfl (E.store rfl rfl runBd) ?_
            refine FL.nil ?_
            obtain rfl:=Option.some.inj hp
            exact ⟨.inl rfl,res0 rfl (by rw [hRAA];exact ⟨_,_,_,_,_,_,rfl,SBe,(Inc.rfl _),elsB4,vw169,hm152⟩)⟩
           ·
            refine FW.condF rfl cAL ?_
            refine FW.skip ?_
            obtain rfl:=Option.some.inj hp
            exact ⟨.inl rfl,res0 rfl (by rw [hRAA];exact ⟨_,_,_,_,_,_,rfl,SAy,(Inc.rfl _),els85,vw87,hm89⟩)⟩
          clear hqAA
          refine FL.call rfl rfl rfl (E.call Tryz.call151 (A3 rfl rfl rfl)) hcAA ?_
          intro e wBG hQAA
          rw [hRAA] at hQAA
          obtain ⟨HBD,vAB,nAC,csAD,oAG,oAJ,rfl,SBE,iBF,elsAE,vw144,hm146⟩:=hQAA
          refine ⟨_,rfl,?_⟩
          refine FL.nil (FW.region ?_)
          refine FL.v (E.add k95 rfl) ?_
          refine FL.v (E.move (v:=Value.int .i64 (wr (((i81:Nat):Int) + 1))) rfl) ?_
          refine FL.nil ?_
          obtain rfl:=Option.some.inj hp
          exact ⟨rfl,⟨_,_,_,_,_,_,SBE,(i92.tr iBF),elsAE,vw144,hm146,(zas rfl (zao hx81) vl79.le),k96,k97,k98,k99,kA0,kA1,kA2⟩⟩
         ·
          refine FW.condF rfl cAz ?_
          refine FW.skip (FW.region ?_)
          refine FL.v (E.add k95 rfl) ?_
          refine FL.v (E.move (v:=Value.int .i64 (wr (((i81:Nat):Int) + 1))) rfl) ?_
          refine FL.nil ?_
          obtain rfl:=Option.some.inj hp
          exact ⟨rfl,⟨_,_,_,_,_,_,SAy,i92,els85,vw87,hm89,(zas rfl (zao hx81) vl79.le),k96,k97,k98,k99,kA0,kA1,kA2⟩⟩
       ·
        clear hp hq
        rintro s81 fBW wBV ⟨HBS,v82,n83,cs84,o86,o88,SBT,iBU,els85,vw87,hm89,kBX,kBY,kBZ,kC0,kC1,kC2,kC3,kC4⟩
        refine FW.seq (FW.region ?_)
        refine FL.v (E.lss kBX kC4) ?_
        refine FL.nil (FW.seq ?_)
        refine FW.condF rfl zaz ?_
        refine FW.exit ?_
        exact ⟨nofun,rfl,⟨_,_,_,_,_,_,SBT,iBU,els85,vw87,hm89,kBY,kBZ,kC0,kC1,kC2⟩⟩
       ·
        clear hq
        intro e fBM wBL hD
        rcases q81 with s81|x81
        ·
         obtain ⟨rfl,hD⟩:=hD
         obtain ⟨HBI,v82,n83,cs84,o86,o88,SBJ,iBK,els85,vw87,hm89,kBN,kBO,kBP,kBQ,kBR⟩:=hD
         replace hp:=el_go hp
         refine FW.region ?_
         refine FL.v (E.move kBR) ?_
         refine FL.v (E.add rfl rfl) ?_
         refine FL.v (E.assign (v:=Value.int .i64 (wr (s53.2.2.2 + 1))) rfl) ?_
         refine FL.nil ?_
         obtain rfl:=Option.some.inj hp
         exact ⟨rfl,⟨_,_,_,_,_,(SBJ.sel [1,2,3] (by decide) rfl),(i62.tr iBK),els85,hm89,kBN,kBO,kBP,kBQ,rfl⟩⟩
        ·
         exact x81.elim
      ·
       refine FW.condF rfl c70 ?_
       refine FW.exit ?_
       obtain rfl:=Option.some.inj hp
       exact ⟨nofun,rfl,⟨_,_,_,_,_,S61,i62,els57,hm59,k65,k66,k67,k68⟩⟩
     ·
      clear hq
      intro e fCW wCV hD
      rcases q53 with s53|x53
      ·
       obtain ⟨rfl,hD⟩:=hD
       obtain ⟨HCS,v54,n55,cs56,o58,SCT,iCU,els57,hm59,kCX,kCY,kCZ,kD0⟩:=hD
       replace hp:=el_go hp
       refine FW.region ?_
       refine FL.v (E.move kD0) ?_
       refine FL.v (E.assign (v:=Value.int .i64 (len sCR.1)) rfl) ?_
       refine FL.nil (FW.region ?_)
       refine FL.v (E.move kCZ) ?_
       refine FL.v (E.add rfl rfl) ?_
       refine FL.v (E.assign (v:=Value.int .i64 (wr (sCR.2.2.2.2 + 1))) rfl) ?_
       refine FL.nil ?_
       obtain rfl:=Option.some.inj hp
       exact ⟨rfl,⟨_,_,_,_,_,SCT,(i45.tr iCU),els57,hm59,kCX,kCY,rfl,rfl⟩⟩
      ·
       exact x53.elim
    ·
     refine FW.condF rfl c52 ?_
     refine FW.exit ?_
     obtain rfl:=Option.some.inj hp
     exact ⟨nofun,rfl,⟨_,_,_,_,_,S44,i45,elsKD,hm761,k49⟩⟩
   ·
    clear hq
    intro e fD6 wD5 hD
    rcases qCR with sCR|xCR
    ·
     obtain ⟨rfl,hD⟩:=hD
     obtain ⟨HD2,vKA,nKB,csKC,oKE,SD3,iD4,elsKD,hm761,kD7⟩:=hD
     replace hp:=el_go hp
     refine FW.seq (FW.region ?_)
     refine FL.v (E.move kD7) ?_
     refine FL.v (E.assign (v:=Value.pointer (some (⟨b35,0,none⟩:Addr))) rfl) ?_
     refine FL.nil ?_
     refine FW.ret ?_
     obtain ⟨HD8,SD9,iDa,hDb,nvDc⟩:=SD3.sealRowU (i:=1) (l':=[.box b35 143 [vKA,Value.map (some b29),Value.int .i64 sCR.2.1],.raw b29 oKE]) rfl elsKD (by decide) rfl
     obtain ⟨HDd,SDe,iDf,hDg⟩:=SD9.sealMap (i:=1) (l':=[.box b35 143 [vKA,Value.map (some b29),Value.int .i64 sCR.2.1]]) rfl hm761 rfl
     obtain ⟨HDh,SDi,iDj,atDk⟩:=SDe.sealBox (i:=0) (l':=[]) rfl rfl
     obtain rfl:=Option.some.inj hp
     exact ⟨.inr rfl,res1 rfl rfl ⟨_,_,rfl,SDi.run,⟨_,rfl,_,_,(hDb.mono (zae (iDf.tr iDj))),(hDg.mono iDj),atDk⟩⟩⟩
    ·
     exact xCR.elim
  ·
   exact x42.elim

@[reducible] def p_impl_mask_clause (Ha:GH) (wa:World) (r:(List Int)):Ending→World→Prop :=
 fun e w'=>∃ H':GH,∃ v0:Value,∃ n0:Nat,∃ c0:List Value,e=.returned (v0)∧St Ha wa H' w' [.row 3 1 v0 n0 c0]∧Els (up wa.heap.size H') eI 1 c0 r
set_option maxHeartbeats 4000000 in
theorem w_impl_mask_clause {Ha:GH} {wa:World} (hs:Sl Ha wa) (a0:Int) {r:(List Int)} (hp:(PF.zb0 a0)=some r) :
  Calls Tryz.prog 156 #[Value.int .u16 a0] wa (p_impl_mask_clause Ha wa r):=by
 unfold PF.zb0 at hp
 have S0:=St.init hs
 refine zah (N:=32) (args:=[Value.int .u16 a0]) Tryz.func156 rfl rfl rfl ?_
 refine FW.seq (FW.region ?_)
 refine FL.v (E.assign (v:=Value.slice none 0 0) rfl) ?_
 refine FL.nil (FW.seq (FW.region ?_))
 refine FL.v (E.assign (v:=Value.slice none 0 0) rfl) ?_
 refine FL.nil (FW.seq (FW.seq (FW.region ?_)))
 refine FL.v (E.assign (v:=Value.int .i64 1) rfl) ?_
 refine FL.nil ?_
 obtain ⟨q21,hq,hp⟩:=bndR hp
 refine FW.block ?_
 refine FW.mono (FW.iter (S:=((List Int)×Int)) (X:=Empty) (fun (s21:((List Int)×Int)) f w=>∃ H:GH,∃ v22:Value,∃ n23:Nat,∃ cs24:List Value,St Ha wa H w [.row 3 1 v22 n23 cs24]∧Inc Ha H∧Els (up wa.heap.size H) eI 1 cs24 s21.1∧f 0=Value.int .u16 a0∧f 3=v22∧f 4=Value.int .i64 s21.2) (fun (q:Rs ((List Int)×Int) Empty) e f w=>match q with|.go s21=>e=Exit.exit 0∧(∃ H:GH,∃ v22:Value,∃ n23:Nat,∃ cs24:List Value,St Ha wa H w [.row 3 1 v22 n23 cs24]∧Inc Ha H∧Els (up wa.heap.size H) eI 1 cs24 s21.1∧f 3=v22)|.rt x=>x.elim) hq ⟨_,_,_,_,(S0.nil 3 1),(Inc.rfl _),Els.nil,rfl,rfl,rfl⟩ ?_) ?_
 ·
  clear hp hq
  rintro s21 f92 w91 ⟨H88,v22,n23,cs24,S89,i90,els25,k93,k94,k95⟩ oAS hp
  refine FW.seq (FW.seq (FW.region ?_))
  refine FL.v (E.move k95) ?_
  refine FL.v (E.leq rfl rfl) ?_
  refine FL.nil ?_
  rcases ifB hp with ⟨c96,hp⟩|⟨c96,hp⟩
  ·
   refine FW.condT rfl c96 ?_
   refine FW.skip (FW.seq (FW.block (FW.seq (FW.seq (FW.region ?_)))))
   refine FL.v (E.move k93) ?_
   refine FL.v (E.move k95) ?_
   refine FL.v (E.sub rfl rfl) ?_
   obtain ⟨u98,z97,hp⟩:=bnd hp
   refine FL.v (E.shr rfl rfl (nn_ge z97)) ?_
   refine FL.v (E.and rfl rfl) ?_
   refine FL.v (E.eql rfl rfl) ?_
   refine FL.nil ?_
   rcases ifB hp with ⟨c99,hp⟩|⟨c99,hp⟩
   ·
    refine FW.condT rfl c99 ?_
    refine FW.region ?_
    refine FL.v (E.move k94) ?_
    refine FL.v (E.move k95) ?_
    obtain ⟨vA0,wA1,runA2,SA3,elsA4⟩:=S89.ints (P:=Tryz.prog) te34 (up wa.heap.size H88) 1 [s21.2]
    refine FL.v (E.buildSlice (B1 rfl) runA2) ?_
    obtain ⟨xsA5,hzA6,hp⟩:=bnd hp
    obtain ⟨vA7,wAa,nA8,csA9,runAb,SAc,elsAd,ceAe⟩:=SA3.appendO (P:=Tryz.prog) te34 (i:=1) (j:=0) rfl els25 rfl elsA4 hzA6
    have SAc:St Ha wa H88 wAa [.row 3 1 vA0 1 (iC [s21.2]),.row 3 1 vA7 nA8 csA9]:=SAc
    have SAf:St Ha wa H88 wAa [.row 3 1 vA7 nA8 csA9]:=SAc.drop 0
    refine FL.v (E.append rfl rfl runAb) ?_
    refine FL.v (E.assign (v:=vA7) rfl) ?_
    refine FL.nil (FW.seq (FW.region ?_))
    refine FL.v (E.move k93) ?_
    refine FL.v (E.move k95) ?_
    refine FL.v (E.add rfl rfl) ?_
    refine FL.v (E.sub rfl rfl) ?_
    obtain ⟨u117,zAg,hp⟩:=bnd hp
    refine FL.v (E.shr rfl rfl (nn_ge zAg)) ?_
    refine FL.v (E.and rfl rfl) ?_
    refine FL.v (E.eql rfl rfl) ?_
    refine FL.nil ?_
    rcases ifB hp with ⟨cAi,hp⟩|⟨cAi,hp⟩
    ·
     refine FW.condT rfl cAi ?_
     refine FW.region ?_
     refine FL.v (E.move (v:=vA7) rfl) ?_
     refine FL.v (E.move k95) ?_
     refine FL.v (E.neg rfl) ?_
     obtain ⟨vAj,wAk,runAl,SAm,elsAn⟩:=SAf.ints (P:=Tryz.prog) te34 (up wa.heap.size H88) 1 [(wr (-s21.2))]
     refine FL.v (E.buildSlice (B1 rfl) runAl) ?_
     obtain ⟨xsAo,hzAp,hp⟩:=bnd hp
     obtain ⟨vAq,wAt,nAr,csAs,runAu,SAv,elsAw,ceAx⟩:=SAm.appendO (P:=Tryz.prog) te34 (i:=1) (j:=0) rfl elsAd rfl elsAn hzAp
     have SAv:St Ha wa H88 wAt [.row 3 1 vAj 1 (iC [(wr (-s21.2))]),.row 3 1 vAq nAr csAs]:=SAv
     have SAy:St Ha wa H88 wAt [.row 3 1 vAq nAr csAs]:=SAv.drop 0
     refine FL.v (E.append rfl rfl runAu) ?_
     refine FL.v (E.assign (v:=vAq) rfl) ?_
     refine FL.nil (FW.region ?_)
     refine FL.v (E.move k95) ?_
     refine FL.v (E.add rfl rfl) ?_
     refine FL.v (E.assign (v:=Value.int .i64 (wr (s21.2 + 1))) rfl) ?_
     refine FL.nil ?_
     obtain rfl:=Option.some.inj hp
     exact ⟨rfl,⟨_,_,_,_,SAy,i90,elsAw,k93,rfl,rfl⟩⟩
    ·
     refine FW.condF rfl cAi ?_
     refine FW.skip (FW.region ?_)
     refine FL.v (E.move k95) ?_
     refine FL.v (E.add rfl rfl) ?_
     refine FL.v (E.assign (v:=Value.int .i64 (wr (s21.2 + 1))) rfl) ?_
     refine FL.nil ?_
     obtain rfl:=Option.some.inj hp
     exact ⟨rfl,⟨_,_,_,_,SAf,i90,elsAd,k93,rfl,rfl⟩⟩
   ·
    refine FW.condF rfl c99 ?_
    refine FW.skip (FW.seq (FW.region ?_))
    refine FL.v (E.move k93) ?_
    refine FL.v (E.move k95) ?_
    refine FL.v (E.add rfl rfl) ?_
    refine FL.v (E.sub rfl rfl) ?_
    obtain ⟨u136,zAz,hp⟩:=bnd hp
    refine FL.v (E.shr rfl rfl (nn_ge zAz)) ?_
    refine FL.v (E.and rfl rfl) ?_
    refine FL.v (E.eql rfl rfl) ?_
    refine FL.nil ?_
    rcases ifB hp with ⟨cAB,hp⟩|⟨cAB,hp⟩
    ·
     refine FW.condT rfl cAB ?_
     refine FW.region ?_
     refine FL.v (E.move k94) ?_
     refine FL.v (E.move k95) ?_
     refine FL.v (E.neg rfl) ?_
     obtain ⟨vAC,wAD,runAE,SAF,elsAG⟩:=S89.ints (P:=Tryz.prog) te34 (up wa.heap.size H88) 1 [(wr (-s21.2))]
     refine FL.v (E.buildSlice (B1 rfl) runAE) ?_
     obtain ⟨xsAH,hzAI,hp⟩:=bnd hp
     obtain ⟨vAJ,wAM,nAK,csAL,runAN,SAO,elsAP,ceAQ⟩:=SAF.appendO (P:=Tryz.prog) te34 (i:=1) (j:=0) rfl els25 rfl elsAG hzAI
     have SAO:St Ha wa H88 wAM [.row 3 1 vAC 1 (iC [(wr (-s21.2))]),.row 3 1 vAJ nAK csAL]:=SAO
     have SAR:St Ha wa H88 wAM [.row 3 1 vAJ nAK csAL]:=SAO.drop 0
     refine FL.v (E.append rfl rfl runAN) ?_
     refine FL.v (E.assign (v:=vAJ) rfl) ?_
     refine FL.nil (FW.region ?_)
     refine FL.v (E.move k95) ?_
     refine FL.v (E.add rfl rfl) ?_
     refine FL.v (E.assign (v:=Value.int .i64 (wr (s21.2 + 1))) rfl) ?_
     refine FL.nil ?_
     obtain rfl:=Option.some.inj hp
     exact ⟨rfl,⟨_,_,_,_,SAR,i90,elsAP,k93,rfl,rfl⟩⟩
    ·
     refine FW.condF rfl cAB ?_
     refine FW.skip (FW.region ?_)
     refine FL.v (E.move k95) ?_
     refine FL.v (E.add rfl rfl) ?_
     refine FL.v (E.assign (v:=Value.int .i64 (wr (s21.2 + 1))) rfl) ?_
     refine FL.nil ?_
     obtain rfl:=Option.some.inj hp
     exact ⟨rfl,⟨_,_,_,_,S89,i90,els25,k93,k94,rfl⟩⟩
  ·
   refine FW.condF rfl c96 ?_
   refine FW.exit ?_
   obtain rfl:=Option.some.inj hp
   exact ⟨nofun,rfl,⟨_,_,_,_,S89,i90,els25,k94⟩⟩
 ·
  clear hq
  intro e fAX wAW hD
  rcases q21 with s21|x21
  ·
   obtain ⟨rfl,hD⟩:=hD
   obtain ⟨HAT,v22,n23,cs24,SAU,iAV,els25,kAY⟩:=hD
   replace hp:=el_go hp
   refine FW.seq (FW.region ?_)
   refine FL.v (E.move kAY) ?_
   refine FL.v (E.assign (v:=v22) rfl) ?_
   refine FL.nil ?_
   refine FW.ret ?_
   obtain rfl:=Option.some.inj hp
   exact ⟨.inr rfl,res1 rfl rfl ⟨_,_,_,_,rfl,SAU,els25⟩⟩
  ·
   exact x21.elim

@[reducible] def zeT (Ha:GH) (wa:World) (r:(List (List Int))):Ending→World→Prop :=
 fun e w'=>∃ H':GH,∃ v0:Value,∃ n0:Nat,∃ c0:List Value,e=.returned (v0)∧St Ha wa H' w' [.row 34 1 v0 n0 c0]∧Els H' (eL eI 1) 1 c0 r
set_option maxHeartbeats 4000000 in
theorem zeU {Ha:GH} {wa:World} (hs:Sl Ha wa) (q0P:Addr) (a0:zbm) (v0P_0:Value) (v0P_1:Value) (p0P_0:RSl Ha (eN .u16) 1 v0P_0 a0.masks) (p0P_1:MAt (K:=Int) (V:=Int) Ha (Value.int .u16) (Value.int .i64) v0P_1 a0.rounds) (c0P:CAt Ha q0P [v0P_0,v0P_1,Value.int .i64 a0.last]) {r:(List (List Int))} (hp:(PF.zc1 a0)=some r) :
  Calls Tryz.prog 78 #[Value.pointer (some q0P)] wa (zeT Ha wa r):=by
 unfold PF.zc1 at hp
 have S0:=St.init hs
 refine zah (N:=24) (args:=[Value.pointer (some q0P)]) Tryz.func78 rfl rfl rfl ?_
 refine FW.seq (FW.region ?_)
 refine FL.v (E.assign (v:=Value.slice none 0 0) rfl) ?_
 refine FL.nil (FW.seq (FW.region ?_))
 refine FL.v (E.assign (v:=Value.slice none 0 0) rfl) ?_
 refine FL.nil (FW.seq (FW.seq (FW.region ?_)))
 refine FL.v (E.move (v:=Value.pointer (some q0P)) rfl) ?_
 refine FL.v (E.nilCheck rfl) ?_
 refine FL.v (E.fieldAddr zbs rfl) ?_
 refine FL.v (E.load rfl (zag Tryz.isAgg141 (c0P.now S0.sl) rfl)) ?_
 refine FL.v (E.lenP te141 rfl p0P_0) ?_
 refine FL.v (E.move (v:=Value.int .i64 0) rfl) ?_
 refine FL.nil ?_
 obtain ⟨q22,hq,hp⟩:=bndR hp
 refine FW.block ?_
 refine FW.mono (FW.forL (S:=(List (List Int))) (X:=Empty) (fun (i22:Nat) (s22:(List (List Int))) f w=>∃ H:GH,∃ v23:Value,∃ n24:Nat,∃ cs25:List Value,St Ha wa H w [.row 34 1 v23 n24 cs25]∧Inc Ha H∧Els (up wa.heap.size H) (eL eI 1) 1 cs25 s22∧(bl cs25).Nodup∧f 11=Value.int .i64 ((i22:Nat):Int)∧f 3=v23∧f 9=v0P_0∧f 10=Value.int .i64 (len a0.masks)) (fun (q:Rs (List (List Int)) Empty) e f w=>match q with|.go s22=>e=Exit.exit 0∧(∃ H:GH,∃ v23:Value,∃ n24:Nat,∃ cs25:List Value,St Ha wa H w [.row 34 1 v23 n24 cs25]∧Inc Ha H∧Els (up wa.heap.size H) (eL eI 1) 1 cs25 s22∧(bl cs25).Nodup∧f 3=v23)|.rt x=>x.elim) hq ⟨_,_,_,_,(S0.nil 34 1),(Inc.rfl _),Els.nil,List.nodup_nil,rfl,rfl,rfl,rfl⟩ ?_ ?_) ?_
 ·
  clear hp hq
  rintro i22 y21 s22 f80 w79 ⟨H76,v23,n24,cs25,S77,i78,els26,nd27,k81,k82,k83,k84⟩ hx22 oAo hp
  refine FW.seq (FW.region ?_)
  refine FL.v (E.lssT k81 k84 (zay hx22)) ?_
  refine FL.nil (FW.seq ?_)
  refine FW.condT rfl rfl ?_
  refine FW.skip (FW.seq (FW.block (FW.seq (FW.region ?_))))
  obtain ⟨p85,cs86,pt87,l88,at89,rel90⟩:=p0P_0.at (zap hx22)
  obtain rfl:=eN_open rel90
  refine FL.v (E.indexAddr te141 k83 k81 pt87) ?_
  refine FL.v (E.load rfl (zaf Tryz.isAgg146 ((at89.mono i78).now S77.sl) rfl)) ?_
  refine FL.v (E.assign (v:=Value.int .u16 y21) rfl) ?_
  refine FL.nil (FW.region ?_)
  refine FL.v (E.move k82) ?_
  refine FL.v (E.move (v:=Value.int .u16 y21) rfl) ?_
  obtain ⟨r91,hr92,hp⟩:=bnd hp
  refine FL.call rfl rfl rfl (E.call Tryz.call156 (A1 rfl)) (w_impl_mask_clause S77.sl y21 hr92) ?_
  rintro e w94 ⟨H93,v97,n98,cs99,rfl,r96,elsA0⟩
  refine ⟨_,rfl,?_⟩
  have elsA0:=elsA0.mono (up_le S77.size)
  have S95:=S77.join (l':=[.row 3 1 v97 n98 cs99,.row 34 1 v23 n24 cs25]) r96 rfl
  obtain ⟨HA1,SA2,iA3,hA4,nvA5⟩:=S95.sealRowU (i:=0) (l':=[.row 34 1 v23 n24 cs25]) rfl elsA0 (by decide) rfl
  obtain ⟨vA6,wA7,runA8,SA9⟩:=SA2.buildSlice (P:=Tryz.prog) te24 [v97] (parts:=#[(0,v97)]) (cells:=[v97]) rfl (zar (zaE hA4.cells) zal) (zaq hA4.cells zak) (zaa hA4.one zad) (Nat.le_of_ble_eq_true rfl)
  have elsAa:Els (up wa.heap.size HA1) (eL eI 1) 1 [v97] [r91]:=(Els.snoc (H:=(up wa.heap.size HA1)) (E:=(eL eI 1)) (k:=1) (c:=[v97]) (x:=r91) Els.nil rfl ⟨_,rfl,hA4⟩)
  have ndAb:(bl [v97]).Nodup:=by exact za3 v97
  refine FL.v (E.buildSlice (B1 rfl) runA8) ?_
  obtain ⟨xsAc,hzAd,hp⟩:=bnd hp
  obtain ⟨vAe,wAh,nAf,csAg,runAi,SAj,elsAk,ceAl⟩:=SA9.appendO (P:=Tryz.prog) te24 (i:=1) (j:=0) rfl (els26.mono (zae (r96.run.inc.tr iA3))) rfl elsAa hzAd
  have SAj:St Ha wa HA1 wAh [.row 34 1 vA6 1 [v97],.row 34 1 vAe nAf csAg]:=SAj
  have ndAm:(bl csAg).Nodup:=by rw [ceAl];exact zba nd27 ndAb (Els.dom (els26.mono (upI.tr r96.run.inc))) (by exact nvA5)
  have SAn:St Ha wa HA1 wAh [.row 34 1 vAe nAf csAg]:=SAj.drop 0
  refine FL.v (E.append rfl rfl runAi) ?_
  refine FL.v (E.assign (v:=vAe) rfl) ?_
  refine FL.nil (FW.region ?_)
  refine FL.v (E.add k81 rfl) ?_
  refine FL.v (E.move (v:=Value.int .i64 (wr (((i22:Nat):Int) + 1))) rfl) ?_
  refine FL.nil ?_
  obtain rfl:=Option.some.inj hp
  exact ⟨rfl,⟨_,_,_,_,SAn,((i78.tr r96.run.inc).tr iA3),elsAk,ndAm,(zas rfl (zao hx22) (p0P_0.mono ((i78.tr r96.run.inc).tr iA3)).le),rfl,k83,k84⟩⟩
 ·
  clear hp hq
  rintro s22 fAH wAG ⟨HAD,v23,n24,cs25,SAE,iAF,els26,nd27,kAI,kAJ,kAK,kAL⟩
  refine FW.seq (FW.region ?_)
  refine FL.v (E.lss kAI kAL) ?_
  refine FL.nil (FW.seq ?_)
  refine FW.condF rfl zaz ?_
  refine FW.exit ?_
  exact ⟨nofun,rfl,⟨_,_,_,_,SAE,iAF,els26,nd27,kAJ⟩⟩
 ·
  clear hq
  intro e fAt wAs hD
  rcases q22 with s22|x22
  ·
   obtain ⟨rfl,hD⟩:=hD
   obtain ⟨HAp,v23,n24,cs25,SAq,iAr,els26,nd27,kAu⟩:=hD
   replace hp:=el_go hp
   refine FW.seq (FW.region ?_)
   refine FL.v (E.move kAu) ?_
   obtain ⟨rAv,hrAw,hp⟩:=bnd hp
   refine FL.call rfl rfl rfl (E.call Tryz.call55 (A2 rfl rfl)) (zen (L:=[]) SAq s22 (els26.mono upI) (Value.func (.func 56) #[] #[]) (fun x0 x1=>PF.zaW x0 x1) (fun H2 w2 hi2 hs2 x0 y0 z0 x1 y1 z1 r hr=>⟨56,#[],rfl,Tryz.call56,zep hs2 y0 x0 z0 y1 x1 z1  hr⟩) hrAw) ?_
   rintro e wAy ⟨HAx,csAB,rfl,⟨SAz,iAA⟩,elsAC⟩
   refine ⟨_,rfl,?_⟩
   have SAz:St Ha wa HAx wAy [.row 34 1 v23 n24 csAB]:=SAz
   refine FL.nil (FW.seq (FW.region ?_))
   refine FL.v (E.move kAu) ?_
   refine FL.v (E.assign (v:=v23) rfl) ?_
   refine FL.nil ?_
   refine FW.ret ?_
   obtain rfl:=Option.some.inj hp
   exact ⟨.inr rfl,res1 rfl rfl ⟨_,_,_,_,rfl,SAz,elsAC⟩⟩
  ·
   exact x22.elim

@[reducible] def p_impl_ClosureAt (Ha:GH) (wa:World) (r:((List (List Int))×Bool)):Ending→World→Prop :=
 fun e w'=>∃ H':GH,∃ v0:Value,∃ n0:Nat,∃ c0:List Value,e=.returned (Value.tuple #[v0,Value.bool r.2])∧St Ha wa H' w' [.row 34 1 v0 n0 c0]∧Els H' (eL eI 1) 1 c0 r.1
theorem w_impl_ClosureAt {Ha:GH} {wa:World} (hs:Sl Ha wa) (a0:Cnf) (v0_1:Value) (p0_1:RSl Ha (eL eI 1) 1 v0_1 a0.clauses) (a1:Int) {r:((List (List Int))×Bool)} (hp:(PF.zc2 a0 a1)=some r) :
  Calls Tryz.prog 29 #[Value.agg #[Value.int .i64 a0.vars,v0_1],Value.int .i64 a1] wa (p_impl_ClosureAt Ha wa r):=by
 unfold PF.zc2 at hp
 have S0:=St.init hs
 refine zah (N:=14) (args:=[Value.agg #[Value.int .i64 a0.vars,v0_1],Value.int .i64 a1]) Tryz.func29 rfl rfl rfl ?_
 refine FW.seq (FW.region ?_)
 obtain ⟨b21,w22,run23,S24⟩:=S0.box (P:=Tryz.prog) 26 [Value.int .i64 a0.vars,v0_1] (v:=Value.agg #[Value.int .i64 a0.vars,v0_1]) rfl (zaa rfl (zaa p0_1.one zad))
 refine FL.v (E.box rfl run23) ?_
 obtain ⟨H25,S26,i27,at28⟩:=S24.sealBox (i:=0) (l':=[]) rfl rfl
 refine FL.v (E.assign (v:=Value.slice none 0 0) rfl) ?_
 refine FL.v (E.assign (v:=Value.bool false) rfl) ?_
 refine FL.nil (FW.seq (FW.seq (FW.region ?_)))
 refine FL.v (E.load rfl (zat Tryz.isAgg26 Tryz.sizeOf26 (at28.now S26.sl) rfl)) ?_
 refine FL.v (E.move (v:=Value.int .i64 a1) rfl) ?_
 obtain ⟨r29,hr30,hp⟩:=bnd hp
 refine FL.call rfl rfl rfl (E.call Tryz.call67 (A2 rfl rfl)) (w_impl_narrowOk S26.sl a0 v0_1 (p0_1.mono i27) a1 hr30) ?_
 rintro e w31 ⟨rfl,r32⟩
 refine ⟨_,rfl,?_⟩
 have S33:=S26.call r32
 refine FL.v (E.not rfl) ?_
 refine FL.nil ?_
 rcases ifB hp with ⟨c34,hp⟩|⟨c34,hp⟩
 ·
  refine FW.condT rfl c34 ?_
  refine FW.seq (FW.region ?_)
  refine FL.v (E.assign (v:=Value.slice none 0 0) rfl) ?_
  refine FL.v (E.assign (v:=Value.bool false) rfl) ?_
  refine FL.nil ?_
  refine FW.ret ?_
  obtain rfl:=Option.some.inj hp
  exact ⟨.inr rfl,res2 rfl rfl rfl ⟨_,_,_,_,rfl,(S33.nil 34 1),Els.nil⟩⟩
 ·
  refine FW.condF rfl c34 ?_
  refine FW.skip (FW.seq (FW.region ?_))
  refine FL.v (E.load rfl (zat Tryz.isAgg26 Tryz.sizeOf26 (at28.now S33.sl) rfl)) ?_
  refine FL.v (E.move (v:=Value.int .i64 a1) rfl) ?_
  obtain ⟨r35,hr36,hp⟩:=bnd hp
  refine FL.call rfl rfl rfl (E.call Tryz.call77 (A2 rfl rfl)) (w_impl_closureOf S33.sl a0 v0_1 (p0_1.mono i27) a1 hr36) ?_
  rintro e w38 ⟨H37,v41,rfl,r40,h42⟩
  refine ⟨_,rfl,?_⟩
  have S39:=S33.call r40
  obtain ⟨y43,hy44,hp⟩:=bnd hp
  rw [hy44] at h42
  obtain ⟨q45,rfl,v46,v49,h47,h50,at51⟩:=h42
  have nv48:New H25 [v46]:=New.of_up S33.sl h47.dom
  have h47:=h47.mono (up_le S33.size)
  obtain ⟨r52,hr53,hp⟩:=bnd hp
  refine FL.call rfl rfl rfl (E.call Tryz.call78 (A1 rfl)) (zeU S39.sl q45 y43 v46 v49 (h47.mono upI) h50 at51 hr53) ?_
  rintro e w55 ⟨H54,v58,n59,cs60,rfl,r57,els61⟩
  refine ⟨_,rfl,?_⟩
  have S56:=S39.join (l':=[.row 34 1 v58 n59 cs60]) r57 rfl
  refine FL.v (E.assign (v:=v58) rfl) ?_
  refine FL.v (E.assign (v:=Value.bool true) rfl) ?_
  refine FL.nil ?_
  refine FW.ret ?_
  obtain rfl:=Option.some.inj hp
  exact ⟨.inr rfl,res2 rfl rfl rfl ⟨_,_,_,_,rfl,S56,els61⟩⟩

@[reducible] def zeV (H0:GH) (w0:World) (Ha:GH) (L:List MO) (r:(List (List Int))):Ending→World→Prop :=
 fun e w'=>∃ H':GH,∃ v0r:Value,∃ n0r:Nat,∃ c0r:List Value,e=.returned (v0r)∧(St H0 w0 H' w' (.row 34 1 v0r n0r c0r::L)∧Inc Ha H')∧Els H' (eL eI 1) 1 c0r r
set_option maxHeartbeats 4000000 in
theorem zeW {H0 Ha:GH} {w0 wa:World} {L:List MO} {v0:Value} {n0:Nat} {k0:List Value} (S0:St H0 w0 Ha wa (.row 34 1 v0 n0 k0::L)) (a0:List (List Int)) (p0:Els Ha (eL eI 1) 1 k0 a0) (v1:Value) (a1:(List Int)→Option Bool) (p1:zct Tryz.prog Ha v1 a1) {r:(List (List Int))} (hp:(PF.zc3 a0 a1)=some r) :
  Calls Tryz.prog 133 #[v0,v1] wa (zeV H0 w0 Ha L r):=by
 unfold PF.zc3 at hp
 refine zah (N:=42) (args:=[v0,v1]) Tryz.func133 rfl rfl rfl ?_
 refine FW.seq (FW.region ?_)
 refine FL.v (E.assign (v:=Value.slice none 0 0) rfl) ?_
 refine FL.nil (FW.seq (FW.region ?_))
 refine FL.v (E.move (v:=v0) rfl) ?_
 refine FL.v (E.move (v:=v1) rfl) ?_
 obtain ⟨H21,S22,i23,h24⟩:=S0.sealRow (i:=0) (l':=L) rfl p0 (by decide) rfl
 obtain ⟨r26,hr27,hp⟩:=bnd hp
 refine FL.call rfl rfl rfl (E.call Tryz.call200 (A2 rfl rfl)) (zej S22.sl v0 a0 h24 v1 a1 (p1.mono i23) hr27) ?_
 rintro e w28 ⟨rfl,r29⟩
 refine ⟨_,rfl,?_⟩
 have r29:=Run.lend i23 S0.sl r29
 have S30:=S0.call r29
 refine FL.v (E.assign (v:=Value.int .i64 r26) rfl) ?_
 refine FL.nil (FW.seq (FW.seq (FW.region ?_)))
 refine FL.v (E.move (v:=Value.int .i64 r26) rfl) ?_
 refine FL.v (E.eql rfl rfl) ?_
 refine FL.nil ?_
 rcases ifB hp with ⟨c31,hp⟩|⟨c31,hp⟩
 ·
  refine FW.condT rfl c31 ?_
  refine FW.seq (FW.region ?_)
  refine FL.v (E.move (v:=v0) rfl) ?_
  refine FL.v (E.assign (v:=v0) rfl) ?_
  refine FL.nil ?_
  refine FW.ret ?_
  obtain rfl:=Option.some.inj hp
  exact ⟨.inr rfl,res1 rfl rfl ⟨_,_,_,_,rfl,⟨S30,(Inc.rfl _)⟩,p0⟩⟩
 ·
  refine FW.condF rfl c31 ?_
  refine FW.skip (FW.seq (FW.seq (FW.region ?_)))
  refine FL.v (E.move (v:=Value.int .i64 r26) rfl) ?_
  refine FL.v (E.add rfl rfl) ?_
  refine FL.v (E.assign (v:=Value.int .i64 (wr (r26 + 1))) rfl) ?_
  refine FL.nil ?_
  obtain ⟨q32,hq,hp⟩:=bndR hp
  refine FW.block ?_
  refine FW.mono (FW.iter (S:=((List (List Int))×Int×Int)) (X:=Empty) (fun (s32:((List (List Int))×Int×Int)) f w=>∃ H:GH,∃ cs82:List Value,St H0 w0 H w (.row 34 1 v0 n0 cs82::L)∧Inc Ha H∧Els H (eL eI 1) 1 cs82 s32.1∧f 0=v0∧f 1=v1∧f 5=Value.int .i64 s32.2.1∧f 6=Value.int .i64 s32.2.2) (fun (q:Rs ((List (List Int))×Int×Int) Empty) e f w=>match q with|.go s32=>e=Exit.exit 0∧(∃ H:GH,∃ cs82:List Value,St H0 w0 H w (.row 34 1 v0 n0 cs82::L)∧Inc Ha H∧Els H (eL eI 1) 1 cs82 s32.1∧f 0=v0∧f 5=Value.int .i64 s32.2.1)|.rt x=>x.elim) hq ⟨_,_,S30,(Inc.rfl _),p0,rfl,rfl,rfl,rfl⟩ ?_) ?_
  ·
   clear hp hq
   rintro s32 fAB wAA ⟨HAx,cs82,SAy,iAz,els83,kAC,kAD,kAE,kAF⟩ oBk hp
   refine FW.seq (FW.seq (FW.region ?_))
   refine FL.v (E.move kAF) ?_
   refine FL.v (E.move kAC) ?_
   refine FL.v (E.lenO te24 rfl SAy (i:=0) rfl els83 (by decide)) ?_
   refine FL.v (E.lss rfl rfl) ?_
   refine FL.nil ?_
   rcases ifB hp with ⟨cAG,hp⟩|⟨cAG,hp⟩
   ·
    refine FW.condT rfl cAG ?_
    refine FW.skip (FW.seq (FW.block (FW.seq (FW.region ?_))))
    refine FL.v (E.move kAC) ?_
    refine FL.v (E.move kAF) ?_
    obtain ⟨xAN,hxAO,hp⟩:=bnd hp
    obtain ⟨pAH,csAI,ptAJ,lAK,atAL,relAM⟩:=SAy.row_at (i:=0) rfl els83 (by decide) hxAO
    obtain ⟨vAP,rfl,hAQ⟩:=zau relAM
    refine FL.v (E.indexAddr te24 rfl rfl ptAJ) ?_
    refine FL.v (E.load rfl (zaf Tryz.isAgg34 atAL rfl)) ?_
    refine FL.v (E.assign (v:=vAP) rfl) ?_
    refine FL.nil (FW.seq (FW.region ?_))
    refine FL.v (E.move kAD) ?_
    refine FL.v (E.move (v:=vAP) rfl) ?_
    obtain ⟨rAR,hrAS,hp⟩:=bnd hp
    obtain ⟨fi158,csAX,hv160,he161,hcB0⟩:=(p1.mono iAz) HAx wAA (Inc.rfl _) SAy.sl xAN vAP hAQ rAR hrAS
    refine FL.call rfl rfl rfl (E.callV he161 (Eq.trans rfl hv160) (appA (A1 rfl) csAX)) hcB0 ?_
    rintro e wAT ⟨rfl,rAU⟩
    refine ⟨_,rfl,?_⟩
    have SAV:=SAy.call rAU
    refine FL.v (E.not rfl) ?_
    refine FL.nil ?_
    rcases ifB hp with ⟨cB1,hp⟩|⟨cB1,hp⟩
    ·
     refine FW.condT rfl cB1 ?_
     refine FW.seq (FW.region ?_)
     refine FL.v (E.move kAC) ?_
     refine FL.v (E.move kAE) ?_
     refine FL.v (E.move (v:=vAP) rfl) ?_
     obtain ⟨xB8,hxB9,hp⟩:=bnd hp
     obtain ⟨pB2,csB3,ptB4,lB5,atB6,relB7⟩:=SAV.row_at (i:=0) rfl els83 (by decide) hxB9
     obtain ⟨vBa,rfl,hBb⟩:=zau relB7
     refine FL.v (E.indexAddr te24 rfl rfl ptB4) ?_
     obtain ⟨xsBf,hputBg,hp⟩:=bnd hp
     obtain ⟨wBc,csBi,runBd,SBe,elsBh,ceBj⟩:=SAV.putEls (P:=Tryz.prog) (t:=34) (i:=0) rfl els83 hputBg ptB4 Tryz.sizeOf34 (u:=vAP) (c:=[vAP]) hAQ.cells rfl (zaa hAQ.one zad) ⟨_,rfl,hAQ⟩
     have SBe:St H0 w0 HAx wBc (.row 34 1 v0 n0 csBi::L):=SBe
     refine FL.act rfl rfl (E.store rfl rfl runBd) ?_
     refine FL.nil (FW.region ?_)
     refine FL.v (E.move kAE) ?_
     refine FL.v (E.add rfl rfl) ?_
     refine FL.v (E.assign (v:=Value.int .i64 (wr (s32.2.1 + 1))) rfl) ?_
     refine FL.nil (FW.region ?_)
     refine FL.v (E.move kAF) ?_
     refine FL.v (E.add rfl rfl) ?_
     refine FL.v (E.assign (v:=Value.int .i64 (wr (s32.2.2 + 1))) rfl) ?_
     refine FL.nil ?_
     obtain rfl:=Option.some.inj hp
     exact ⟨rfl,⟨_,_,SBe,iAz,elsBh,kAC,kAD,rfl,rfl⟩⟩
    ·
     refine FW.condF rfl cB1 ?_
     refine FW.skip (FW.region ?_)
     refine FL.v (E.move kAF) ?_
     refine FL.v (E.add rfl rfl) ?_
     refine FL.v (E.assign (v:=Value.int .i64 (wr (s32.2.2 + 1))) rfl) ?_
     refine FL.nil ?_
     obtain rfl:=Option.some.inj hp
     exact ⟨rfl,⟨_,_,SAV,iAz,els83,kAC,kAD,kAE,rfl⟩⟩
   ·
    refine FW.condF rfl cAG ?_
    refine FW.exit ?_
    obtain rfl:=Option.some.inj hp
    exact ⟨nofun,rfl,⟨_,_,SAy,iAz,els83,kAC,kAE⟩⟩
  ·
   clear hq
   intro e fBp wBo hD
   rcases q32 with s32|x32
   ·
    obtain ⟨rfl,hD⟩:=hD
    obtain ⟨HBl,cs82,SBm,iBn,els83,kBq,kBr⟩:=hD
    replace hp:=el_go hp
    refine FW.seq (FW.region ?_)
    refine FL.v (E.move kBq) ?_
    refine FL.v (E.move kBr) ?_
    obtain ⟨xsBs,hcBt,hp⟩:=bnd hp
    obtain ⟨vBu,runBv,hBw⟩:=SBm.tail te24 (kk:=.i64) (i:=0) rfl els83 hcBt
    refine FL.v (E.slice te24 rfl (congrArg some rfl) rfl rfl (runBv _)) ?_
    obtain ⟨wBx,csBy,runBz,SBA,elsBB⟩:=SBm.clearTail (P:=Tryz.prog) te24 (i:=0) rfl els83 hBw ⟨_,rfl,RSl.nil _ _ _⟩ (zaa rfl zad)
    have SBA:St H0 w0 HBl wBx (.row 34 1 v0 n0 csBy::L):=SBA
    refine FL.val0 rfl rfl (E.clear rfl runBz) ?_
    refine FL.nil (FW.seq (FW.region ?_))
    refine FL.v (E.move kBq) ?_
    refine FL.v (E.move kBr) ?_
    obtain ⟨xsBC,hcBD,hp⟩:=bnd hp
    obtain ⟨vBE,nBF,csBG,runBH,SBI,elsBJ,ndBK⟩:=SBA.cutRow te24 (kk:=.i64) (i:=0) rfl elsBB hcBD
    have SBI:St H0 w0 HBl wBx (.row 34 1 vBE nBF csBG::L):=SBI
    refine FL.v (E.slice te24 rfl rfl (congrArg some rfl) rfl (runBH _)) ?_
    refine FL.v (E.assign (v:=vBE) rfl) ?_
    refine FL.nil ?_
    refine FW.ret ?_
    obtain rfl:=Option.some.inj hp
    exact ⟨.inr rfl,res1 rfl rfl ⟨_,_,_,_,rfl,⟨SBI,iBn⟩,elsBJ⟩⟩
   ·
    exact x32.elim

theorem zeX {Ha:GH} {wa:World} (hs:Sl Ha wa) (v0:Value) (a0:List Int) (p0:RSl Ha eI 1 v0 a0) (q0:Addr) (b0:List Int) (u0_0:Value) (g0_0:RSl Ha eI 1 u0_0 b0) (c0:CAt Ha q0 [u0_0]) {r:Bool} (hp:(PF.zc4 a0 b0)=some r) :
  Calls Tryz.prog 135 #[v0,Value.pointer (some q0)] wa (Sc Ha wa (Value.bool r)):=by
 unfold PF.zc4 at hp
 have S0:=St.init hs
 refine zah (N:=14) (args:=[v0,Value.pointer (some q0)]) Tryz.func135 rfl rfl rfl ?_
 refine FW.seq (FW.region ?_)
 refine FL.v (E.assign (v:=Value.bool false) rfl) ?_
 refine FL.nil (FW.seq (FW.region ?_))
 refine FL.v (E.move (v:=v0) rfl) ?_
 refine FL.v (E.lenP te34 rfl p0) ?_
 refine FL.v (E.load rfl (zaf Tryz.isAgg34 (c0.now S0.sl) rfl)) ?_
 refine FL.v (E.lenP te34 rfl g0_0) ?_
 refine FL.v (E.lss rfl rfl) ?_
 refine FL.v (E.move (v:=Value.bool (decide ((len a0) < (len b0)))) rfl) ?_
 obtain ⟨t26,hqt26,hp⟩:=bnd hp
 refine FL.cut 4 (fun f w=>∃ H:GH,St Ha wa H w []∧Inc Ha H∧f 13=Value.bool t26) ?_ ?_
 ·
  clear hp;have hp:=hqt26;clear hqt26
  rcases ifB hp with ⟨c32,hp⟩|⟨c32,hp⟩
  ·
   refine FL.val (zac rfl rfl rfl c32) rfl rfl (E.move (v:=v0) rfl) ?_
   refine FL.val (zac rfl rfl rfl c32) rfl rfl (E.load rfl (zaf Tryz.isAgg34 (c0.now S0.sl) rfl)) ?_
   obtain ⟨r33,hr34,hp⟩:=bnd hp
   refine FL.call (zac rfl rfl rfl c32) rfl rfl (E.call Tryz.call63 (A2 rfl rfl)) (w_impl_part S0.sl v0 a0 p0 u0_0 b0 g0_0 hr34) ?_
   rintro e w35 ⟨rfl,r36⟩
   refine ⟨_,rfl,?_⟩
   have S37:=S0.call r36
   obtain rfl:=Option.some.inj hp
   refine FL.v (E.pickT rfl c32 rfl) ?_
   exact FL.nil ⟨rfl,_,S37,(Inc.rfl _),rfl⟩
  ·
   refine FL.skip (wF_no rfl rfl rfl c32) rfl ?_
   refine FL.skip (wF_no rfl rfl rfl c32) rfl ?_
   refine FL.skip (wF_no rfl rfl rfl c32) rfl ?_
   obtain rfl:=Option.some.inj hp
   refine FL.v (E.pickF rfl c32 rfl) ?_
   exact FL.nil ⟨rfl,_,S0,(Inc.rfl _),rfl⟩
 rintro f31 w30 ⟨H27,S28,i29,k38⟩
 refine FL.v (E.assign k38) ?_
 refine FL.nil ?_
 refine FW.ret ?_
 obtain rfl:=Option.some.inj hp
 exact ⟨.inr rfl,res1 rfl rfl ⟨rfl,S28.back⟩⟩

theorem zeY {Ha:GH} {wa:World} (hs:Sl Ha wa) (v0:Value) (a0:List Int) (p0:RSl Ha eI 1 v0 a0) (q0:Addr) (b0:List (List Int)) (u0_0:Value) (g0_0:RSl Ha (eL eI 1) 1 u0_0 b0) (c0:CAt Ha q0 [u0_0]) {r:Bool} (hp:(PF.zcq a0 b0)=some r) :
  Calls Tryz.prog 134 #[v0,Value.pointer (some q0)] wa (Sc Ha wa (Value.bool r)):=by
 unfold PF.zcq at hp
 have S0:=St.init hs
 refine zah (N:=7) (args:=[v0,Value.pointer (some q0)]) Tryz.func134 rfl rfl rfl ?_
 refine FW.seq (FW.region ?_)
 obtain ⟨b21,w22,run23,S24⟩:=S0.box (P:=Tryz.prog) 34 [v0] (v:=v0) p0.cells (zaa p0.one zad)
 refine FL.v (E.box rfl run23) ?_
 obtain ⟨H25,S26,i27,at28⟩:=S24.sealBox (i:=0) (l':=[]) rfl rfl
 refine FL.v (E.assign (v:=Value.bool false) rfl) ?_
 refine FL.nil (FW.seq (FW.region ?_))
 refine FL.v (E.load rfl (zaf Tryz.isAgg24 ((c0.mono i27).now S26.sl) rfl)) ?_
 refine FL.v (E.makeFunc A0 (A1 rfl)) ?_
 obtain ⟨r29,hr30,hp⟩:=bnd hp
 refine FL.call rfl rfl rfl (E.call Tryz.call125 (A2 rfl rfl)) (zek S26.sl u0_0 b0 (g0_0.mono i27) (Value.func (.func 135) #[] #[Value.pointer (some ⟨b21,0,none⟩)]) (fun x0=>PF.zc4 x0 a0) (fun H2 w2 hi2 hs2 x0 y0 z0 r hr=>⟨135,#[Value.pointer (some ⟨b21,0,none⟩)],rfl,Tryz.call135,zeX hs2 y0 x0 z0 ⟨b21,0,none⟩ a0 v0 ((p0.mono i27).mono hi2) (at28.mono hi2) hr⟩) hr30) ?_
 rintro e w31 ⟨rfl,r32⟩
 refine ⟨_,rfl,?_⟩
 have S33:=S26.call r32
 refine FL.v (E.assign (v:=Value.bool r29) rfl) ?_
 refine FL.nil ?_
 refine FW.ret ?_
 obtain rfl:=Option.some.inj hp
 exact ⟨.inr rfl,res1 rfl rfl ⟨rfl,S33.back⟩⟩

@[reducible] def zeZ (Ha:GH) (wa:World) (r:((List (List Int))×Bool)):Ending→World→Prop :=
 fun e w'=>∃ H':GH,∃ v0:Value,∃ n0:Nat,∃ c0:List Value,e=.returned (Value.tuple #[v0,Value.bool r.2])∧St Ha wa H' w' [.row 34 1 v0 n0 c0]∧Els H' (eL eI 1) 1 c0 r.1
theorem ze0 {Ha:GH} {wa:World} (hs:Sl Ha wa) (a0:Cnf) (v0_1:Value) (p0_1:RSl Ha (eL eI 1) 1 v0_1 a0.clauses) (a1:Int) {r:((List (List Int))×Bool)} (hp:(PF.zdv a0 a1)=some r) :
  Calls Tryz.prog 64 #[Value.agg #[Value.int .i64 a0.vars,v0_1],Value.int .i64 a1] wa (zeZ Ha wa r):=by
 unfold PF.zdv at hp
 have S0:=St.init hs
 refine zah (N:=20) (args:=[Value.agg #[Value.int .i64 a0.vars,v0_1],Value.int .i64 a1]) Tryz.func64 rfl rfl rfl ?_
 refine FW.seq (FW.region ?_)
 obtain ⟨b21,w22,run23,S24⟩:=S0.box (P:=Tryz.prog) 26 [Value.int .i64 a0.vars,v0_1] (v:=Value.agg #[Value.int .i64 a0.vars,v0_1]) rfl (zaa rfl (zaa p0_1.one zad))
 refine FL.v (E.box rfl run23) ?_
 obtain ⟨H25,S26,i27,at28⟩:=S24.sealBox (i:=0) (l':=[]) rfl rfl
 refine FL.v (E.assign (v:=Value.slice none 0 0) rfl) ?_
 refine FL.v (E.assign (v:=Value.bool false) rfl) ?_
 refine FL.nil (FW.seq (FW.region ?_))
 refine FL.v (E.load rfl (zat Tryz.isAgg26 Tryz.sizeOf26 (at28.now S26.sl) rfl)) ?_
 refine FL.v (E.move (v:=Value.int .i64 a1) rfl) ?_
 obtain ⟨r29,hr30,hp⟩:=bnd hp
 refine FL.call rfl rfl rfl (E.call Tryz.call29 (A2 rfl rfl)) (w_impl_ClosureAt S26.sl a0 v0_1 (p0_1.mono i27) a1 hr30) ?_
 rintro e w32 ⟨H31,v35,n36,cs37,rfl,r34,els38⟩
 refine ⟨_,rfl,?_⟩
 have S33:=S26.join (l':=[.row 34 1 v35 n36 cs37]) r34 rfl
 refine FL.v (E.move (v:=Value.tuple #[v35,Value.bool r29.2]) rfl) ?_
 refine FL.v (E.extract (i:=0) rfl rfl) ?_
 refine FL.v (E.extract (i:=1) rfl rfl) ?_
 obtain ⟨b39,w40,run41,S42⟩:=S33.alloc (P:=Tryz.prog) 24 [Value.slice none 0 0] Tryz.zeroValue24 rfl (zaa rfl zad)
 refine FL.v (E.alloc run41) ?_
 obtain ⟨w43,run44,S45⟩:=S42.store0 (P:=Tryz.prog) (t:=24) (i:=0) (cs':=[v35]) (l':=[.box b39 24 [v35],.row 34 1 v35 n36 cs37]) (v:=v35) (c:=[v35]) rfl Tryz.sizeOf24 (Ln.cells (S42.row_ln (i:=1) rfl)) rfl (zaa (Ln.one (S42.row_ln (i:=1) rfl)) zad) (Nat.le_of_ble_eq_true rfl) rfl rfl
 refine FL.act rfl rfl (E.store rfl rfl run44) ?_
 obtain ⟨H46,S47,i48,h49⟩:=S45.sealRow (i:=1) (l':=[.box b39 24 [v35]]) rfl els38 (by decide) rfl
 obtain ⟨H51,S52,i53,at54⟩:=S47.sealBox (i:=0) (l':=[]) rfl rfl
 refine FL.v (E.assign (v:=Value.bool r29.2) rfl) ?_
 refine FL.nil (FW.seq (FW.seq (FW.region ?_)))
 refine FL.v (E.move (v:=Value.bool r29.2) rfl) ?_
 refine FL.v (E.not rfl) ?_
 refine FL.nil ?_
 rcases ifB hp with ⟨c55,hp⟩|⟨c55,hp⟩
 ·
  refine FW.condT rfl c55 ?_
  refine FW.seq (FW.region ?_)
  refine FL.v (E.assign (v:=Value.slice none 0 0) rfl) ?_
  refine FL.v (E.assign (v:=Value.bool false) rfl) ?_
  refine FL.nil ?_
  refine FW.ret ?_
  obtain rfl:=Option.some.inj hp
  exact ⟨.inr rfl,res2 rfl rfl rfl ⟨_,_,_,_,rfl,(S52.nil 34 1),Els.nil⟩⟩
 ·
  refine FW.condF rfl c55 ?_
  refine FW.skip (FW.seq (FW.region ?_))
  refine FL.v (E.load rfl (zaf Tryz.isAgg24 (at54.now S52.sl) rfl)) ?_
  obtain ⟨r56,hr57,hp⟩:=bnd hp
  refine FL.call rfl rfl rfl (E.call Tryz.call109 (A1 rfl)) (zei S52.sl v35 r29.1 (h49.mono i53) hr57) ?_
  rintro e w59 ⟨H58,v62,n63,cs64,rfl,r61,els65⟩
  refine ⟨_,rfl,?_⟩
  have S60:=S52.join (l':=[.row 34 1 v62 n63 cs64]) r61 rfl
  refine FL.v (E.makeFunc A0 (A1 rfl)) ?_
  obtain ⟨r66,hr67,hp⟩:=bnd hp
  refine FL.call rfl rfl rfl (E.call Tryz.call133 (A2 rfl rfl)) (zeW (L:=[]) S60 r56 els65 (Value.func (.func 134) #[] #[Value.pointer (some ⟨b39,0,none⟩)]) (fun x0=>PF.zcq x0 r29.1) (fun H2 w2 hi2 hs2 x0 y0 z0 r hr=>⟨134,#[Value.pointer (some ⟨b39,0,none⟩)],rfl,Tryz.call134,zeY hs2 y0 x0 z0 ⟨b39,0,none⟩ r29.1 v35 ((h49.mono (i53.tr r61.run.inc)).mono hi2) ((at54.mono r61.run.inc).mono hi2) hr⟩) hr67) ?_
  rintro e w69 ⟨H68,v72,n73,cs74,rfl,⟨S70,i71⟩,els75⟩
  refine ⟨_,rfl,?_⟩
  have S70:St Ha wa H68 w69 [.row 34 1 v72 n73 cs74]:=S70
  refine FL.v (E.assign (v:=v72) rfl) ?_
  refine FL.v (E.assign (v:=Value.bool true) rfl) ?_
  refine FL.nil ?_
  refine FW.ret ?_
  obtain rfl:=Option.some.inj hp
  exact ⟨.inr rfl,res2 rfl rfl rfl ⟨_,_,_,_,rfl,S70,els75⟩⟩

@[reducible] def ze1 (Ha:GH) (wa:World) (r:((List (List Int))×Bool)):Ending→World→Prop :=
 fun e w'=>∃ H':GH,∃ v0:Value,∃ n0:Nat,∃ c0:List Value,e=.returned (Value.tuple #[v0,Value.bool r.2])∧St Ha wa H' w' [.row 34 1 v0 n0 c0]∧Els H' (eL eI 1) 1 c0 r.1
theorem ze2 {Ha:GH} {wa:World} (hs:Sl Ha wa) (a0:Cnf) (v0_1:Value) (p0_1:RSl Ha (eL eI 1) 1 v0_1 a0.clauses) {r:((List (List Int))×Bool)} (hp:(PF.zc5 a0)=some r) :
  Calls Tryz.prog 13 #[Value.agg #[Value.int .i64 a0.vars,v0_1]] wa (ze1 Ha wa r):=by
 unfold PF.zc5 at hp
 have S0:=St.init hs
 refine zah (N:=8) (args:=[Value.agg #[Value.int .i64 a0.vars,v0_1]]) Tryz.func13 rfl rfl rfl ?_
 refine FW.seq (FW.region ?_)
 obtain ⟨b21,w22,run23,S24⟩:=S0.box (P:=Tryz.prog) 26 [Value.int .i64 a0.vars,v0_1] (v:=Value.agg #[Value.int .i64 a0.vars,v0_1]) rfl (zaa rfl (zaa p0_1.one zad))
 refine FL.v (E.box rfl run23) ?_
 obtain ⟨H25,S26,i27,at28⟩:=S24.sealBox (i:=0) (l':=[]) rfl rfl
 refine FL.v (E.assign (v:=Value.slice none 0 0) rfl) ?_
 refine FL.v (E.assign (v:=Value.bool false) rfl) ?_
 refine FL.nil (FW.seq (FW.region ?_))
 refine FL.v (E.load rfl (zat Tryz.isAgg26 Tryz.sizeOf26 (at28.now S26.sl) rfl)) ?_
 obtain ⟨r29,hr30,hp⟩:=bnd hp
 refine FL.call rfl rfl rfl (E.call Tryz.call64 (A2 rfl rfl)) (ze0 S26.sl a0 v0_1 (p0_1.mono i27) 6 hr30) ?_
 rintro e w32 ⟨H31,v35,n36,cs37,rfl,r34,els38⟩
 refine ⟨_,rfl,?_⟩
 have S33:=S26.join (l':=[.row 34 1 v35 n36 cs37]) r34 rfl
 refine FL.v (E.extract (i:=0) rfl rfl) ?_
 refine FL.v (E.extract (i:=1) rfl rfl) ?_
 refine FL.v (E.assign (v:=v35) rfl) ?_
 refine FL.v (E.assign (v:=Value.bool r29.2) rfl) ?_
 refine FL.nil ?_
 refine FW.ret ?_
 obtain rfl:=Option.some.inj hp
 exact ⟨.inr rfl,res2 rfl rfl rfl ⟨_,_,_,_,rfl,S33,els38⟩⟩

theorem w_spec_l10Good {Ha:GH} {wa:World} (hs:Sl Ha wa) (a0:Cnf) (v0_1:Value) (p0_1:RSl Ha (eL eI 1) 1 v0_1 a0.clauses) {r:Bool} (hp:(PF.zdw a0)=some r) :
  Calls Tryz.prog 104 #[Value.agg #[Value.int .i64 a0.vars,v0_1]] wa (Sc Ha wa (Value.bool r)):=by
 unfold PF.zdw at hp
 have S0:=St.init hs
 refine zah (N:=10) (args:=[Value.agg #[Value.int .i64 a0.vars,v0_1]]) Tryz.func104 rfl rfl rfl ?_
 refine FW.seq (FW.region ?_)
 obtain ⟨b21,w22,run23,S24⟩:=S0.box (P:=Tryz.prog) 26 [Value.int .i64 a0.vars,v0_1] (v:=Value.agg #[Value.int .i64 a0.vars,v0_1]) rfl (zaa rfl (zaa p0_1.one zad))
 refine FL.v (E.box rfl run23) ?_
 obtain ⟨H25,S26,i27,at28⟩:=S24.sealBox (i:=0) (l':=[]) rfl rfl
 refine FL.v (E.assign (v:=Value.bool false) rfl) ?_
 refine FL.nil (FW.seq (FW.region ?_))
 refine FL.v (E.fieldAddr zax rfl) ?_
 refine FL.v (E.load rfl (zag Tryz.isAgg3 (at28.now S26.sl) rfl)) ?_
 refine FL.v (E.leq rfl rfl) ?_
 refine FL.v (E.move (v:=Value.bool (decide (a0.vars≤6))) rfl) ?_
 obtain ⟨t34,hqt34,hp⟩:=bnd hp
 refine FL.cut 3 (fun f w=>∃ H:GH,St Ha wa H w []∧Inc H25 H∧f 9=Value.bool t34) ?_ ?_
 ·
  clear hp;have hp:=hqt34;clear hqt34
  rcases ifB hp with ⟨c40,hp⟩|⟨c40,hp⟩
  ·
   refine FL.val (zac rfl rfl rfl c40) rfl rfl (E.load rfl (zat Tryz.isAgg26 Tryz.sizeOf26 (at28.now S26.sl) rfl)) ?_
   obtain ⟨r41,hr42,hp⟩:=bnd hp
   refine FL.call (zac rfl rfl rfl c40) rfl rfl (E.call Tryz.call57 (A1 rfl)) (zdS S26.sl a0 v0_1 (p0_1.mono i27) hr42) ?_
   rintro e w43 ⟨rfl,r44⟩
   refine ⟨_,rfl,?_⟩
   have S45:=S26.call r44
   obtain rfl:=Option.some.inj hp
   refine FL.v (E.pickT rfl c40 rfl) ?_
   exact FL.nil ⟨rfl,_,S45,(Inc.rfl _),rfl⟩
  ·
   refine FL.skip (wF_no rfl rfl rfl c40) rfl ?_
   refine FL.skip (wF_no rfl rfl rfl c40) rfl ?_
   obtain rfl:=Option.some.inj hp
   refine FL.v (E.pickF rfl c40 rfl) ?_
   exact FL.nil ⟨rfl,_,S26,(Inc.rfl _),rfl⟩
 rintro f39 w38 ⟨H35,S36,i37,k46⟩
 refine FL.v (E.assign k46) ?_
 refine FL.nil ?_
 refine FW.ret ?_
 obtain rfl:=Option.some.inj hp
 exact ⟨.inr rfl,res1 rfl rfl ⟨rfl,S36.back⟩⟩

theorem w_spec_l10Width {Ha:GH} {wa:World} (hs:Sl Ha wa) (a0:Int) :
  Calls Tryz.prog 136 #[Value.int .i64 a0] wa (Sc Ha wa (Value.bool (PF.zcr a0))):=by
 obtain ⟨r,hp⟩:∃ r,(PF.zcr a0)=r:=⟨_,rfl⟩
 rw [hp]
 unfold PF.zcr at hp
 have S0:=St.init hs
 refine zah (N:=5) (args:=[Value.int .i64 a0]) Tryz.func136 rfl rfl rfl ?_
 refine FW.seq (FW.region ?_)
 refine FL.v (E.assign (v:=Value.bool false) rfl) ?_
 refine FL.nil (FW.seq (FW.region ?_))
 refine FL.v (E.move (v:=Value.int .i64 a0) rfl) ?_
 refine FL.call rfl rfl rfl (E.call Tryz.call173 (A3 rfl rfl rfl)) (zdA S0.sl a0 0 6) ?_
 rintro e w21 ⟨rfl,r22⟩
 refine ⟨_,rfl,?_⟩
 have S23:=S0.call r22
 refine FL.v (E.assign (v:=Value.bool (PF.zaU a0 0 6)) rfl) ?_
 refine FL.nil ?_
 refine FW.ret ?_
 obtain rfl:=hp
 exact ⟨.inr rfl,res1 rfl rfl ⟨rfl,S23.back⟩⟩

@[reducible] def p_spec_l10Order (Ha:GH) (wa:World) (r:(List Int)):Ending→World→Prop :=
 fun e w'=>∃ H':GH,∃ v0:Value,∃ n0:Nat,∃ c0:List Value,e=.returned (v0)∧St Ha wa H' w' [.row 3 1 v0 n0 c0]∧Els (up wa.heap.size H') eI 1 c0 r
set_option maxHeartbeats 4000000 in
theorem w_spec_l10Order {Ha:GH} {wa:World} (hs:Sl Ha wa) (a0:zaH) (v0_0:Value) (p0_0:RSl Ha (eL eI 1) 1 v0_0 a0.list) (v0_1:Value) (p0_1:RSl Ha eI 1 v0_1 a0.rounds) (v0_2:Value) (p0_2:RSl Ha eI 1 v0_2 a0.left) (v0_3:Value) (p0_3:RSl Ha eI 1 v0_3 a0.right) (v0_4:Value) (p0_4:RSl Ha eI 1 v0_4 a0.pivots) (v0_5:Value) (p0_5:RSl Ha (eL eI 1) 1 v0_5 a0.sorted) {r:(List Int)} (hp:(PF.zc6 a0)=some r) :
  Calls Tryz.prog 228 #[Value.agg #[v0_0,v0_1,v0_2,v0_3,v0_4,v0_5]] wa (p_spec_l10Order Ha wa r):=by
 unfold PF.zc6 at hp
 have S0:=St.init hs
 refine zah (N:=54) (args:=[Value.agg #[v0_0,v0_1,v0_2,v0_3,v0_4,v0_5]]) Tryz.func228 rfl rfl rfl ?_
 refine FW.seq (FW.region ?_)
 obtain ⟨b21,w22,run23,S24⟩:=S0.box (P:=Tryz.prog) 130 [v0_0,v0_1,v0_2,v0_3,v0_4,v0_5] (v:=Value.agg #[v0_0,v0_1,v0_2,v0_3,v0_4,v0_5]) rfl (zaa p0_0.one (zaa p0_1.one (zaa p0_2.one (zaa p0_3.one (zaa p0_4.one (zaa p0_5.one zad))))))
 refine FL.v (E.box rfl run23) ?_
 obtain ⟨H25,S26,i27,at28⟩:=S24.sealBox (i:=0) (l':=[]) rfl rfl
 refine FL.v (E.assign (v:=Value.slice none 0 0) rfl) ?_
 refine FL.nil (FW.seq (FW.region ?_))
 obtain ⟨v29,w30,run31,S32⟩:=S26.buildSlice (P:=Tryz.prog) te34 [] (parts:=#[]) (cells:=[]) rfl zal zak zad (Nat.le_of_ble_eq_true rfl)
 have els33:Els (up wa.heap.size H25) eI 1 [] []:=Els.nil
 refine FL.v (E.buildSlice (B0) run31) ?_
 refine FL.v (E.assign (v:=v29) rfl) ?_
 refine FL.nil (FW.seq (FW.seq (FW.region ?_)))
 refine FL.v (E.assign (v:=Value.int .i64 0) rfl) ?_
 refine FL.nil ?_
 obtain ⟨q34,hq,hp⟩:=bndR hp
 refine FW.block ?_
 refine FW.mono (FW.iter (S:=((List Int)×Int)) (X:=Empty) (fun (s34:((List Int)×Int)) f w=>∃ H:GH,∃ v35:Value,∃ n36:Nat,∃ cs37:List Value,St Ha wa H w [.row 3 1 v35 n36 cs37]∧Inc H25 H∧Els (up wa.heap.size H) eI 1 cs37 s34.1∧f 1=Value.pointer (some ⟨b21,0,none⟩)∧f 3=v35∧f 4=Value.int .i64 s34.2) (fun (q:Rs ((List Int)×Int) Empty) e f w=>match q with|.go s34=>e=Exit.exit 0∧(∃ H:GH,∃ v35:Value,∃ n36:Nat,∃ cs37:List Value,St Ha wa H w [.row 3 1 v35 n36 cs37]∧Inc H25 H∧Els (up wa.heap.size H) eI 1 cs37 s34.1∧f 3=v35)|.rt x=>x.elim) hq ⟨_,_,_,_,S32,(Inc.rfl _),els33,rfl,rfl,rfl⟩ ?_) ?_
 ·
  clear hp hq
  rintro s34 f43 w42 ⟨H39,v35,n36,cs37,S40,i41,els38,k44,k45,k46⟩ oBd hp
  refine FW.seq (FW.seq (FW.region ?_))
  refine FL.v (E.move k46) ?_
  refine FL.v (E.fieldAddr zbo k44) ?_
  refine FL.v (E.load rfl (zag Tryz.isAgg24 ((at28.mono i41).now S40.sl) rfl)) ?_
  refine FL.v (E.lenP te24 rfl p0_0) ?_
  refine FL.v (E.lss rfl rfl) ?_
  refine FL.nil ?_
  rcases ifB hp with ⟨c47,hp⟩|⟨c47,hp⟩
  ·
   refine FW.condT rfl c47 ?_
   refine FW.skip (FW.seq (FW.block (FW.seq (FW.region ?_))))
   refine FL.v (E.move k45) ?_
   refine FL.v (E.lenO te34 rfl S40 (i:=0) rfl els38 (by decide)) ?_
   refine FL.v (E.assign (v:=Value.int .i64 0) rfl) ?_
   refine FL.v (E.assign (v:=Value.int .i64 (len s34.1)) rfl) ?_
   refine FL.nil (FW.seq ?_)
   obtain ⟨q48,hq,hp⟩:=bndR hp
   refine FW.block ?_
   refine FW.mono (FW.iter (S:=(Int×Int)) (X:=Empty) (fun (s48:(Int×Int)) f w=>∃ H:GH,St Ha wa H w [.row 3 1 v35 n36 cs37]∧Inc H39 H∧f 1=Value.pointer (some ⟨b21,0,none⟩)∧f 3=v35∧f 4=Value.int .i64 s34.2∧f 5=Value.int .i64 s48.1∧f 6=Value.int .i64 s48.2) (fun (q:Rs (Int×Int) Empty) e f w=>match q with|.go s48=>e=Exit.exit 2∧(∃ H:GH,St Ha wa H w [.row 3 1 v35 n36 cs37]∧Inc H39 H∧f 1=Value.pointer (some ⟨b21,0,none⟩)∧f 3=v35∧f 4=Value.int .i64 s34.2∧f 5=Value.int .i64 s48.1)|.rt x=>x.elim) hq ⟨_,S40,(Inc.rfl _),k44,k45,k46,rfl,rfl⟩ ?_) ?_
   ·
    clear hp hq
    rintro s48 f53 w52 ⟨H49,S50,i51,k54,k55,k56,k57,k58⟩ o94 hp
    refine FW.seq (FW.seq (FW.region ?_))
    refine FL.v (E.move k57) ?_
    refine FL.v (E.move k58) ?_
    refine FL.v (E.lss rfl rfl) ?_
    refine FL.nil ?_
    rcases ifB hp with ⟨c59,hp⟩|⟨c59,hp⟩
    ·
     refine FW.condT rfl c59 ?_
     refine FW.skip (FW.block (FW.seq (FW.region ?_)))
     refine FL.v (E.move k57) ?_
     refine FL.v (E.move k58) ?_
     refine FL.v (E.add rfl rfl) ?_
     refine FL.v (E.quo rfl rfl (by decide)) ?_
     refine FL.v (E.assign (v:=Value.int .i64 (wr ((wr (s48.1 + s48.2)).tdiv 2))) rfl) ?_
     refine FL.nil (FW.seq ?_)
     refine FW.draw (fun w'=>Run w52.heap.size H49 w52 H49 w') (by kernel_rfl) (by kernel_rfl) (zaD S50.sl) ?_
     refine FD.val rfl rfl rfl (fun w' hw'=>(E.fieldAddr zbo k54)) ?_
     refine FD.val rfl rfl rfl (fun w' hw'=>(E.load rfl (zag Tryz.isAgg24 ((at28.mono (i41.tr i51)).now (S50.call hw').sl) rfl))) ?_
     refine FD.val rfl rfl rfl (fun w' hw'=>(E.move k55)) ?_
     refine FD.val rfl rfl rfl (fun w' hw'=>(E.move (v:=Value.int .i64 (wr ((wr (s48.1 + s48.2)).tdiv 2))) rfl)) ?_
     obtain ⟨x66,hx67,hp⟩:=bnd hp
     obtain ⟨p60,cs61,pt62,l63,at64,rel65⟩:=S50.row_at (i:=0) rfl els38 (by decide) hx67
     obtain rfl:=zam rel65
     refine FD.val rfl rfl rfl (fun w' hw'=>(E.indexAddr te34 rfl rfl pt62)) ?_
     refine FD.val rfl rfl rfl (fun w' hw'=>(E.load rfl (zaf Tryz.isAgg3 (at64.cls hw') rfl))) ?_
     obtain ⟨x74,hx75,hp⟩:=bnd hp
     obtain ⟨p68,cs69,pt70,l71,at72,rel73⟩:=p0_0.at hx75
     obtain ⟨v76,rfl,h77⟩:=zau rel73
     refine FD.val rfl rfl rfl (fun w' hw'=>(E.indexAddr te24 rfl rfl pt70)) ?_
     refine FD.val rfl rfl rfl (fun w' hw'=>(E.load rfl (zaf Tryz.isAgg34 ((at72.mono ((i27.tr i41).tr i51)).now (S50.call hw').sl) rfl))) ?_
     refine FD.val rfl rfl rfl (fun w' hw'=>(E.fieldAddr zbo k54)) ?_
     refine FD.val rfl rfl rfl (fun w' hw'=>(E.load rfl (zag Tryz.isAgg24 ((at28.mono (i41.tr i51)).now (S50.call hw').sl) rfl))) ?_
     refine FD.val rfl rfl rfl (fun w' hw'=>(E.move k56)) ?_
     obtain ⟨x84,hx85,hp⟩:=bnd hp
     obtain ⟨p78,cs79,pt80,l81,at82,rel83⟩:=p0_0.at hx85
     obtain ⟨v86,rfl,h87⟩:=zau rel83
     refine FD.val rfl rfl rfl (fun w' hw'=>(E.indexAddr te24 rfl rfl pt80)) ?_
     refine FD.val rfl rfl rfl (fun w' hw'=>(E.load rfl (zaf Tryz.isAgg34 ((at82.mono ((i27.tr i41).tr i51)).now (S50.call hw').sl) rfl))) ?_
     obtain ⟨r88,hr89,hp⟩:=bnd hp
     refine FD.call rfl rfl rfl (fun w' hw'=>(E.call Tryz.call162 (A2 rfl rfl))) (fun w' hw'=>Calls.cls hw' (zeq (S50.call hw').sl v76 x74 (h77.mono ((i27.tr i41).tr i51)) v86 x84 (h87.mono ((i27.tr i41).tr i51)) hr89)) ?_
     refine FD.nil ?_
     intro w90 r92
     have S91:=S50.call r92
     rcases ifB hp with ⟨c93,hp⟩|⟨c93,hp⟩
     ·
      refine FW.condT rfl c93 ?_
      refine FW.region ?_
      refine FL.v (E.move (v:=Value.int .i64 (wr ((wr (s48.1 + s48.2)).tdiv 2))) rfl) ?_
      refine FL.v (E.add rfl rfl) ?_
      refine FL.v (E.assign (v:=Value.int .i64 (wr ((wr ((wr (s48.1 + s48.2)).tdiv 2)) + 1))) rfl) ?_
      refine FL.nil ?_
      obtain rfl:=Option.some.inj hp
      exact ⟨rfl,⟨_,S91,i51,k54,k55,k56,rfl,k58⟩⟩
     ·
      refine FW.condF rfl c93 ?_
      refine FW.region ?_
      refine FL.v (E.move (v:=Value.int .i64 (wr ((wr (s48.1 + s48.2)).tdiv 2))) rfl) ?_
      refine FL.v (E.assign (v:=Value.int .i64 (wr ((wr (s48.1 + s48.2)).tdiv 2))) rfl) ?_
      refine FL.nil ?_
      obtain rfl:=Option.some.inj hp
      exact ⟨rfl,⟨_,S91,i51,k54,k55,k56,k57,rfl⟩⟩
    ·
     refine FW.condF rfl c59 ?_
     refine FW.exit ?_
     obtain rfl:=Option.some.inj hp
     exact ⟨nofun,rfl,⟨_,S50,i51,k54,k55,k56,k57⟩⟩
   ·
    clear hq
    intro e f99 w98 hD
    rcases q48 with s48|x48
    ·
     obtain ⟨rfl,hD⟩:=hD
     obtain ⟨H95,S96,i97,kA0,kA1,kA2,kA3⟩:=hD
     replace hp:=el_go hp
     obtain ⟨xsA7,hcA8,hp⟩:=bnd hp
     obtain ⟨rAh,hrAi,hp⟩:=bnd hp
     obtain ⟨xsAx,hzAy,hp⟩:=bnd hp
     obtain ⟨xsAI,hcAJ,hp⟩:=bnd hp
     obtain ⟨xsAS,hzAT,hp⟩:=bnd hp
     refine FW.drawB (Sl H95) (fun f w=>∃ H:GH,∃ vB1:Value,∃ nB2:Nat,∃ csB3:List Value,St Ha wa H w [.row 3 1 vB1 nB2 csB3]∧Inc H95 H∧Els (up wa.heap.size H) eI 1 csB3 xsAS∧f 1=Value.pointer (some ⟨b21,0,none⟩)∧f 3=vB1∧f 4=Value.int .i64 s34.2) (by kernel_rfl) S96.sl ?_ ?_
     ·
      intro wA4 rA5
      have SA6:=S96.call rA5
      refine FB.t (i:=0) (bs 12 1) rfl (SP.nil SA6.sl) rfl (fun w' hw'=>(E.move kA1)) ?_
      refine FB.t (i:=1) (bs 12 3) rfl (SP.nil SA6.sl) rfl (fun w' hw'=>(E.move kA3)) ?_
      refine FB.t (i:=4) (bs 12 19) rfl (SP.nil SA6.sl) rfl (fun w' hw'=>(E.move kA2)) ?_
      refine FB.t (i:=7) (bs 12 147) rfl (SP.nil SA6.sl) rfl (fun w' hw'=>(E.move kA1)) ?_
      refine FB.t (i:=8) (bs 12 403) rfl (SP.nil SA6.sl) rfl (fun w' hw'=>(E.move kA3)) ?_
      refine FB.all3 (i:=2) (j:=5) (k:=9) (by kernel_rfl) ?_ ?_ ?_
      ·
       obtain ⟨HA9,SAa,iAb,h112,nvAd⟩:=SA6.sealRowU (i:=0) (l':=[]) rfl (els38.mono (zae i97)) (by decide) rfl
       obtain ⟨vAe,runAf,hAg⟩:=h112.cut te34 hcA8 (lo:=none) (hi:=some (Value.int .i64 s48.1)) (.inl ⟨rfl,rfl⟩) (.inr ⟨_,rfl⟩)
       refine FC.val (l':=(bs 12 407)) rfl (by kernel_rfl) rfl rfl rfl (E.slice te34 rfl rfl (congrArg some rfl) rfl (runAf _)) ?_
       refine ⟨(SP.nil (Sl.of_inc iAb SAa.sl)),?_⟩
       obtain ⟨vAK,runAL,hAM⟩:=h112.cut te34 hcAJ (lo:=some (Value.int .i64 s48.1)) (hi:=none) (.inr ⟨_,rfl⟩) (.inl ⟨rfl,rfl⟩)
       refine FB.t (i:=9) (bs 12 919) rfl (SP.nil (Sl.of_inc iAb SAa.sl)) rfl (fun w' hw'=>(E.slice te34 rfl (congrArg some rfl) rfl rfl (runAL _))) ?_
       refine FB.all2 (i:=3) (j:=5) (by kernel_rfl) ?_ ?_
       ·
        refine FC.call (l':=(bs 12 927)) rfl (by kernel_rfl) rfl rfl rfl (E.call Tryz.call145 (A1 rfl)) (zaP SAa.sl vAe xsA7 (hAg.mono upI) hrAi) ?_
        rintro e wAk ⟨HAj,vAn,nAo,csAp,rfl,rAm,elsAq⟩
        refine ⟨_,rfl,?_⟩
        have elsAq:=elsAq.mono (up_le SAa.size)
        have SAl:=SAa.join (l':=[.row 3 1 vAn nAo csAp]) rAm rfl
        refine ⟨(SP.nil (Sl.of_inc (iAb.tr rAm.run.inc) SAl.sl)),?_⟩
        refine FB.all1 (i:=5) (by kernel_rfl) ?_
        ·
         obtain ⟨vAr,wAs,runAt,SAv,elsAw⟩:=SAl.ints (P:=Tryz.prog) te34 (up wa.heap.size HAj) 1 [s34.2]
         refine FC.val (l':=(bs 12 959)) rfl (by kernel_rfl) rfl rfl rfl (E.buildSlice (B1 rfl) runAt) ?_
         refine ⟨(SP.nil (Sl.of_inc (iAb.tr rAm.run.inc) SAv.sl)),?_⟩
         refine FB.all1 (i:=6) (by kernel_rfl) ?_
         ·
          obtain ⟨vAz,wAC,nAA,csAB,runAD,SAE,elsAF,ceAG⟩:=SAv.appendO (P:=Tryz.prog) te34 (i:=1) (j:=0) rfl elsAq rfl elsAw hzAy
          have SAE:St Ha wa HAj wAC [.row 3 1 vAr 1 (iC [s34.2]),.row 3 1 vAz nAA csAB]:=SAE
          have SAH:St Ha wa HAj wAC [.row 3 1 vAz nAA csAB]:=SAE.drop 0
          refine FC.val (l':=(bs 12 1023)) rfl (by kernel_rfl) rfl rfl rfl (E.append rfl rfl runAD) ?_
          refine ⟨(SP.nil (Sl.of_inc (iAb.tr rAm.run.inc) SAH.sl)),?_⟩
          refine FB.all1 (i:=10) (by kernel_rfl) ?_
          ·
           obtain ⟨vAU,wAX,nAV,csAW,runAY,SAZ,elsB0⟩:=SAH.appendP (P:=Tryz.prog) upI te34 (i:=0) rfl elsAF (hAM.mono (zae rAm.run.inc)) hzAT
           have SAZ:St Ha wa HAj wAX [.row 3 1 vAU nAV csAW]:=SAZ
           refine FC.val (l':=(bs 12 2047)) rfl (by kernel_rfl) rfl rfl rfl (E.append rfl rfl runAY) ?_
           refine ⟨(SP.nil (Sl.of_inc (iAb.tr rAm.run.inc) SAZ.sl)),?_⟩
           refine FB.t (i:=11) (bs 12 4095) rfl (SP.nil (Sl.of_inc (iAb.tr rAm.run.inc) SAZ.sl)) rfl (fun w' hw'=>(E.assign (v:=vAU) rfl)) ?_
           exact FB.done (by kernel_rfl) ⟨_,_,_,_,SAZ,(iAb.tr rAm.run.inc),elsB0,kA0,rfl,kA2⟩
       ·
        obtain ⟨vAr,wAs,runAt,SAv,elsAw⟩:=SAa.ints (P:=Tryz.prog) te34 (up wa.heap.size HA9) 1 [s34.2]
        refine FC.val (l':=(bs 12 951)) rfl (by kernel_rfl) rfl rfl rfl (E.buildSlice (B1 rfl) runAt) ?_
        refine ⟨(SP.nil (Sl.of_inc iAb SAv.sl)),?_⟩
        refine FB.all1 (i:=3) (by kernel_rfl) ?_
        ·
         refine FC.call (l':=(bs 12 959)) rfl (by kernel_rfl) rfl rfl rfl (E.call Tryz.call145 (A1 rfl)) (zaP SAv.sl vAe xsA7 (hAg.mono upI) hrAi) ?_
         rintro e wAk ⟨HAj,vAn,nAo,csAp,rfl,rAm,elsAq⟩
         refine ⟨_,rfl,?_⟩
         have elsAq:=elsAq.mono (up_le SAv.size)
         have SAl:=SAv.join (l':=[.row 3 1 vAn nAo csAp,.row 3 1 vAr 1 (iC [s34.2])]) rAm rfl
         refine ⟨(SP.nil (Sl.of_inc (iAb.tr rAm.run.inc) SAl.sl)),?_⟩
         refine FB.all1 (i:=6) (by kernel_rfl) ?_
         ·
          obtain ⟨vAz,wAC,nAA,csAB,runAD,SAE,elsAF,ceAG⟩:=SAl.appendO (P:=Tryz.prog) te34 (i:=0) (j:=1) rfl elsAq rfl (elsAw.mono (zae rAm.run.inc)) hzAy
          have SAE:St Ha wa HAj wAC [.row 3 1 vAz nAA csAB,.row 3 1 vAr 1 (iC [s34.2])]:=SAE
          have SAH:St Ha wa HAj wAC [.row 3 1 vAz nAA csAB]:=SAE.drop 1
          refine FC.val (l':=(bs 12 1023)) rfl (by kernel_rfl) rfl rfl rfl (E.append rfl rfl runAD) ?_
          refine ⟨(SP.nil (Sl.of_inc (iAb.tr rAm.run.inc) SAH.sl)),?_⟩
          refine FB.all1 (i:=10) (by kernel_rfl) ?_
          ·
           obtain ⟨vAU,wAX,nAV,csAW,runAY,SAZ,elsB0⟩:=SAH.appendP (P:=Tryz.prog) upI te34 (i:=0) rfl elsAF (hAM.mono (zae rAm.run.inc)) hzAT
           have SAZ:St Ha wa HAj wAX [.row 3 1 vAU nAV csAW]:=SAZ
           refine FC.val (l':=(bs 12 2047)) rfl (by kernel_rfl) rfl rfl rfl (E.append rfl rfl runAY) ?_
           refine ⟨(SP.nil (Sl.of_inc (iAb.tr rAm.run.inc) SAZ.sl)),?_⟩
           refine FB.t (i:=11) (bs 12 4095) rfl (SP.nil (Sl.of_inc (iAb.tr rAm.run.inc) SAZ.sl)) rfl (fun w' hw'=>(E.assign (v:=vAU) rfl)) ?_
           exact FB.done (by kernel_rfl) ⟨_,_,_,_,SAZ,(iAb.tr rAm.run.inc),elsB0,kA0,rfl,kA2⟩
      ·
       obtain ⟨vAr,wAs,runAt,SAv,elsAw⟩:=SA6.ints (P:=Tryz.prog) te34 (up wa.heap.size H95) 1 [s34.2]
       refine FC.val (l':=(bs 12 435)) rfl (by kernel_rfl) rfl rfl rfl (E.buildSlice (B1 rfl) runAt) ?_
       refine ⟨(SP.nil SAv.sl),?_⟩
       refine FB.phase [3,6,10] (fun w'=>w'=wAs) ?_
       obtain ⟨HA9,SAa,iAb,h112,nvAd⟩:=SAv.sealRowU (i:=1) (l':=[.row 3 1 vAr 1 (iC [s34.2])]) rfl (els38.mono (zae i97)) (by decide) rfl
       obtain ⟨vAe,runAf,hAg⟩:=h112.cut te34 hcA8 (lo:=none) (hi:=some (Value.int .i64 s48.1)) (.inl ⟨rfl,rfl⟩) (.inr ⟨_,rfl⟩)
       refine FB.u (i:=2) (bs 12 439) [3,6,10,11] rfl (SP.on rfl (SP.nil SAv.sl)) rfl (E.slice te34 rfl rfl (congrArg some rfl) rfl (runAf _)) ?_
       obtain ⟨vAK,runAL,hAM⟩:=h112.cut te34 hcAJ (lo:=some (Value.int .i64 s48.1)) (hi:=none) (.inr ⟨_,rfl⟩) (.inl ⟨rfl,rfl⟩)
       refine FB.t (i:=9) (bs 12 951) rfl (SP.on rfl (SP.nil (Sl.of_inc iAb SAa.sl))) rfl (fun w' hw'=>(E.slice te34 rfl (congrArg some rfl) rfl rfl (runAL _))) ?_
       refine FB.all1 (i:=3) (by kernel_rfl) ?_
       ·
        refine FC.call (l':=(bs 12 959)) rfl (by kernel_rfl) rfl rfl rfl (E.call Tryz.call145 (A1 rfl)) (zaP SAa.sl vAe xsA7 (hAg.mono upI) hrAi) ?_
        rintro e wAk ⟨HAj,vAn,nAo,csAp,rfl,rAm,elsAq⟩
        refine ⟨_,rfl,?_⟩
        have elsAq:=elsAq.mono (up_le SAa.size)
        have SAl:=SAa.join (l':=[.row 3 1 vAn nAo csAp,.row 3 1 vAr 1 (iC [s34.2])]) rAm rfl
        refine ⟨(SP.o (SP.nil (Sl.of_inc (iAb.tr rAm.run.inc) SAl.sl))),?_⟩
        refine FB.all1 (i:=6) (by kernel_rfl) ?_
        ·
         obtain ⟨vAz,wAC,nAA,csAB,runAD,SAE,elsAF,ceAG⟩:=SAl.appendO (P:=Tryz.prog) te34 (i:=0) (j:=1) rfl elsAq rfl (elsAw.mono (zae (iAb.tr rAm.run.inc))) hzAy
         have SAE:St Ha wa HAj wAC [.row 3 1 vAz nAA csAB,.row 3 1 vAr 1 (iC [s34.2])]:=SAE
         have SAH:St Ha wa HAj wAC [.row 3 1 vAz nAA csAB]:=SAE.drop 1
         refine FC.val (l':=(bs 12 1023)) rfl (by kernel_rfl) rfl rfl rfl (E.append rfl rfl runAD) ?_
         refine ⟨(SP.o (SP.nil (Sl.of_inc (iAb.tr rAm.run.inc) SAH.sl))),?_⟩
         refine FB.all1 (i:=10) (by kernel_rfl) ?_
         ·
          obtain ⟨vAU,wAX,nAV,csAW,runAY,SAZ,elsB0⟩:=SAH.appendP (P:=Tryz.prog) upI te34 (i:=0) rfl elsAF (hAM.mono (zae rAm.run.inc)) hzAT
          have SAZ:St Ha wa HAj wAX [.row 3 1 vAU nAV csAW]:=SAZ
          refine FC.val (l':=(bs 12 2047)) rfl (by kernel_rfl) rfl rfl rfl (E.append rfl rfl runAY) ?_
          refine ⟨(SP.o (SP.nil (Sl.of_inc (iAb.tr rAm.run.inc) SAZ.sl))),?_⟩
          refine FB.t (i:=11) (bs 12 4095) rfl (SP.o (SP.nil (Sl.of_inc (iAb.tr rAm.run.inc) SAZ.sl))) rfl (fun w' hw'=>(E.assign (v:=vAU) rfl)) ?_
          exact FB.done (by kernel_rfl) ⟨_,_,_,_,SAZ,(iAb.tr rAm.run.inc),elsB0,kA0,rfl,kA2⟩
      ·
       obtain ⟨HAK,SAL,iAM,hAN,nvAO⟩:=SA6.sealRowU (i:=0) (l':=[]) rfl (els38.mono (zae i97)) (by decide) rfl
       obtain ⟨vAP,runAQ,hAR⟩:=hAN.cut te34 hcAJ (lo:=some (Value.int .i64 s48.1)) (hi:=none) (.inr ⟨_,rfl⟩) (.inl ⟨rfl,rfl⟩)
       refine FC.val (l':=(bs 12 915)) rfl (by kernel_rfl) rfl rfl rfl (E.slice te34 rfl (congrArg some rfl) rfl rfl (runAQ _)) ?_
       refine ⟨(SP.nil (Sl.of_inc iAM SAL.sl)),?_⟩
       obtain ⟨vA9,runAa,hAb⟩:=hAN.cut te34 hcA8 (lo:=none) (hi:=some (Value.int .i64 s48.1)) (.inl ⟨rfl,rfl⟩) (.inr ⟨_,rfl⟩)
       refine FB.t (i:=2) (bs 12 919) rfl (SP.nil (Sl.of_inc iAM SAL.sl)) rfl (fun w' hw'=>(E.slice te34 rfl rfl (congrArg some rfl) rfl (runAa _))) ?_
       refine FB.all2 (i:=3) (j:=5) (by kernel_rfl) ?_ ?_
       ·
        refine FC.call (l':=(bs 12 927)) rfl (by kernel_rfl) rfl rfl rfl (E.call Tryz.call145 (A1 rfl)) (zaP SAL.sl vA9 xsA7 (hAb.mono upI) hrAi) ?_
        rintro e wAk ⟨HAj,vAn,nAo,csAp,rfl,rAm,elsAq⟩
        refine ⟨_,rfl,?_⟩
        have elsAq:=elsAq.mono (up_le SAL.size)
        have SAl:=SAL.join (l':=[.row 3 1 vAn nAo csAp]) rAm rfl
        refine ⟨(SP.nil (Sl.of_inc (iAM.tr rAm.run.inc) SAl.sl)),?_⟩
        refine FB.all1 (i:=5) (by kernel_rfl) ?_
        ·
         obtain ⟨vAr,wAs,runAt,SAv,elsAw⟩:=SAl.ints (P:=Tryz.prog) te34 (up wa.heap.size HAj) 1 [s34.2]
         refine FC.val (l':=(bs 12 959)) rfl (by kernel_rfl) rfl rfl rfl (E.buildSlice (B1 rfl) runAt) ?_
         refine ⟨(SP.nil (Sl.of_inc (iAM.tr rAm.run.inc) SAv.sl)),?_⟩
         refine FB.all1 (i:=6) (by kernel_rfl) ?_
         ·
          obtain ⟨vAz,wAC,nAA,csAB,runAD,SAE,elsAF,ceAG⟩:=SAv.appendO (P:=Tryz.prog) te34 (i:=1) (j:=0) rfl elsAq rfl elsAw hzAy
          have SAE:St Ha wa HAj wAC [.row 3 1 vAr 1 (iC [s34.2]),.row 3 1 vAz nAA csAB]:=SAE
          have SAH:St Ha wa HAj wAC [.row 3 1 vAz nAA csAB]:=SAE.drop 0
          refine FC.val (l':=(bs 12 1023)) rfl (by kernel_rfl) rfl rfl rfl (E.append rfl rfl runAD) ?_
          refine ⟨(SP.nil (Sl.of_inc (iAM.tr rAm.run.inc) SAH.sl)),?_⟩
          refine FB.all1 (i:=10) (by kernel_rfl) ?_
          ·
           obtain ⟨vAU,wAX,nAV,csAW,runAY,SAZ,elsB0⟩:=SAH.appendP (P:=Tryz.prog) upI te34 (i:=0) rfl elsAF (hAR.mono (zae rAm.run.inc)) hzAT
           have SAZ:St Ha wa HAj wAX [.row 3 1 vAU nAV csAW]:=SAZ
           refine FC.val (l':=(bs 12 2047)) rfl (by kernel_rfl) rfl rfl rfl (E.append rfl rfl runAY) ?_
           refine ⟨(SP.nil (Sl.of_inc (iAM.tr rAm.run.inc) SAZ.sl)),?_⟩
           refine FB.t (i:=11) (bs 12 4095) rfl (SP.nil (Sl.of_inc (iAM.tr rAm.run.inc) SAZ.sl)) rfl (fun w' hw'=>(E.assign (v:=vAU) rfl)) ?_
           exact FB.done (by kernel_rfl) ⟨_,_,_,_,SAZ,(iAM.tr rAm.run.inc),elsB0,kA0,rfl,kA2⟩
       ·
        obtain ⟨vAr,wAs,runAt,SAv,elsAw⟩:=SAL.ints (P:=Tryz.prog) te34 (up wa.heap.size HAK) 1 [s34.2]
        refine FC.val (l':=(bs 12 951)) rfl (by kernel_rfl) rfl rfl rfl (E.buildSlice (B1 rfl) runAt) ?_
        refine ⟨(SP.nil (Sl.of_inc iAM SAv.sl)),?_⟩
        refine FB.all1 (i:=3) (by kernel_rfl) ?_
        ·
         refine FC.call (l':=(bs 12 959)) rfl (by kernel_rfl) rfl rfl rfl (E.call Tryz.call145 (A1 rfl)) (zaP SAv.sl vA9 xsA7 (hAb.mono upI) hrAi) ?_
         rintro e wAk ⟨HAj,vAn,nAo,csAp,rfl,rAm,elsAq⟩
         refine ⟨_,rfl,?_⟩
         have elsAq:=elsAq.mono (up_le SAv.size)
         have SAl:=SAv.join (l':=[.row 3 1 vAn nAo csAp,.row 3 1 vAr 1 (iC [s34.2])]) rAm rfl
         refine ⟨(SP.nil (Sl.of_inc (iAM.tr rAm.run.inc) SAl.sl)),?_⟩
         refine FB.all1 (i:=6) (by kernel_rfl) ?_
         ·
          obtain ⟨vAz,wAC,nAA,csAB,runAD,SAE,elsAF,ceAG⟩:=SAl.appendO (P:=Tryz.prog) te34 (i:=0) (j:=1) rfl elsAq rfl (elsAw.mono (zae rAm.run.inc)) hzAy
          have SAE:St Ha wa HAj wAC [.row 3 1 vAz nAA csAB,.row 3 1 vAr 1 (iC [s34.2])]:=SAE
          have SAH:St Ha wa HAj wAC [.row 3 1 vAz nAA csAB]:=SAE.drop 1
          refine FC.val (l':=(bs 12 1023)) rfl (by kernel_rfl) rfl rfl rfl (E.append rfl rfl runAD) ?_
          refine ⟨(SP.nil (Sl.of_inc (iAM.tr rAm.run.inc) SAH.sl)),?_⟩
          refine FB.all1 (i:=10) (by kernel_rfl) ?_
          ·
           obtain ⟨vAU,wAX,nAV,csAW,runAY,SAZ,elsB0⟩:=SAH.appendP (P:=Tryz.prog) upI te34 (i:=0) rfl elsAF (hAR.mono (zae rAm.run.inc)) hzAT
           have SAZ:St Ha wa HAj wAX [.row 3 1 vAU nAV csAW]:=SAZ
           refine FC.val (l':=(bs 12 2047)) rfl (by kernel_rfl) rfl rfl rfl (E.append rfl rfl runAY) ?_
           refine ⟨(SP.nil (Sl.of_inc (iAM.tr rAm.run.inc) SAZ.sl)),?_⟩
           refine FB.t (i:=11) (bs 12 4095) rfl (SP.nil (Sl.of_inc (iAM.tr rAm.run.inc) SAZ.sl)) rfl (fun w' hw'=>(E.assign (v:=vAU) rfl)) ?_
           exact FB.done (by kernel_rfl) ⟨_,_,_,_,SAZ,(iAM.tr rAm.run.inc),elsB0,kA0,rfl,kA2⟩
     ·
      rintro fB9 wB8 ⟨HB5,vB1,nB2,csB3,SB6,iB7,elsB4,kBa,kBb,kBc⟩
      refine FW.region ?_
      refine FL.v (E.move kBc) ?_
      refine FL.v (E.add rfl rfl) ?_
      refine FL.v (E.assign (v:=Value.int .i64 (wr (s34.2 + 1))) rfl) ?_
      refine FL.nil ?_
      obtain rfl:=Option.some.inj hp
      exact ⟨rfl,⟨_,_,_,_,SB6,((i41.tr i97).tr iB7),elsB4,kBa,kBb,rfl⟩⟩
    ·
     exact x48.elim
  ·
   refine FW.condF rfl c47 ?_
   refine FW.exit ?_
   obtain rfl:=Option.some.inj hp
   exact ⟨nofun,rfl,⟨_,_,_,_,S40,i41,els38,k45⟩⟩
 ·
  clear hq
  intro e fBi wBh hD
  rcases q34 with s34|x34
  ·
   obtain ⟨rfl,hD⟩:=hD
   obtain ⟨HBe,v35,n36,cs37,SBf,iBg,els38,kBj⟩:=hD
   replace hp:=el_go hp
   refine FW.seq (FW.region ?_)
   refine FL.v (E.move kBj) ?_
   refine FL.v (E.assign (v:=v35) rfl) ?_
   refine FL.nil ?_
   refine FW.ret ?_
   obtain rfl:=Option.some.inj hp
   exact ⟨.inr rfl,res1 rfl rfl ⟨_,_,_,_,rfl,SBf,els38⟩⟩
  ·
   exact x34.elim

@[reducible] def p_spec_l2Join (Ha:GH) (wa:World) (r:((List Int)×Bool)):Ending→World→Prop :=
 fun e w'=>∃ H':GH,∃ v0:Value,∃ n0:Nat,∃ c0:List Value,e=.returned (Value.tuple #[v0,Value.bool r.2])∧St Ha wa H' w' [.row 3 1 v0 n0 c0]∧Els (up wa.heap.size H') eI 1 c0 r.1
set_option maxHeartbeats 4000000 in
theorem w_spec_l2Join {Ha:GH} {wa:World} (hs:Sl Ha wa) (v0:Value) (a0:List Int) (p0:RSl Ha eI 1 v0 a0) (v1:Value) (a1:List Int) (p1:RSl Ha eI 1 v1 a1) {r:((List Int)×Bool)} (hp:(PF.zc7 a0 a1)=some r) :
  Calls Tryz.prog 247 #[v0,v1] wa (p_spec_l2Join Ha wa r):=by
 unfold PF.zc7 at hp
 have S0:=St.init hs
 refine zah (N:=38) (args:=[v0,v1]) Tryz.func247 rfl rfl rfl ?_
 refine FW.seq (FW.region ?_)
 refine FL.v (E.assign (v:=Value.slice none 0 0) rfl) ?_
 refine FL.v (E.assign (v:=Value.bool false) rfl) ?_
 refine FL.nil (FW.seq (FW.region ?_))
 refine FL.v (E.move (v:=v0) rfl) ?_
 obtain ⟨r21,hr22,hp⟩:=bnd hp
 refine FL.call rfl rfl rfl (E.call Tryz.call145 (A1 rfl)) (zaP S0.sl v0 a0 p0 hr22) ?_
 rintro e w24 ⟨H23,v27,n28,cs29,rfl,r26,els30⟩
 refine ⟨_,rfl,?_⟩
 have els30:=els30.mono (up_le S0.size)
 have S25:=S0.join (l':=[.row 3 1 v27 n28 cs29]) r26 rfl
 refine FL.v (E.assign (v:=v27) rfl) ?_
 refine FL.nil (FW.seq (FW.seq (FW.region ?_)))
 refine FL.v (E.assign (v:=Value.int .i64 0) rfl) ?_
 refine FL.nil ?_
 obtain ⟨q32,hq,hp⟩:=bndR hp
 refine FW.block ?_
 refine FW.mono (FW.forL (S:=(List Int)) (X:=((List Int)×Bool)) (fun (i32:Nat) (s32:(List Int)) f w=>∃ H:GH,∃ vA7:Value,∃ nA8:Nat,∃ csA9:List Value,St Ha wa H w [.row 3 1 vA7 nA8 csA9]∧Inc H23 H∧Els (up wa.heap.size H) eI 1 csA9 s32∧f 7=Value.int .i64 ((i32:Nat):Int)∧f 1=v1∧f 6=vA7) (fun q e f w=>match q with|.go s32=>e=Exit.exit 0∧(∃ H:GH,∃ vA7:Value,∃ nA8:Nat,∃ csA9:List Value,St Ha wa H w [.row 3 1 vA7 nA8 csA9]∧Inc H23 H∧Els (up wa.heap.size H) eI 1 csA9 s32∧f 6=vA7)|.rt x=>((e=Exit.ret)∧(fun e f w=>(e=Exit.normal∨e=Exit.ret)∧∀ a,Fr (δ:=[]) 38 a f→∃ v,(results Tryz.f247 a.tmps).run Tryz.prog w=.ok v w∧(p_spec_l2Join Ha wa x) (.returned v) w) e f w)) hq ⟨_,_,_,_,S25,(Inc.rfl _),els30,rfl,rfl,rfl⟩ ?_ ?_) ?_
 ·
  clear hp hq
  rintro i32 y31 s32 fBn wBm ⟨HBj,vA7,nA8,csA9,SBk,iBl,elsAa,kBo,kBp,kBq⟩ hx32 oCr hp
  refine FW.seq (FW.seq (FW.region ?_))
  refine FL.v (E.move kBo) ?_
  refine FL.v (E.move kBp) ?_
  refine FL.v (E.lenP te34 rfl p1) ?_
  refine FL.v (E.lssT rfl rfl (zay hx32)) ?_
  refine FL.nil ?_
  refine FW.condT rfl rfl ?_
  refine FW.skip (FW.seq (FW.block (FW.seq (FW.seq (FW.region ?_)))))
  refine FL.v (E.move kBq) ?_
  refine FL.v (E.move kBp) ?_
  refine FL.v (E.move kBo) ?_
  obtain ⟨pBr,csBs,ptBt,lBu,atBv,relBw⟩:=p1.at (zap hx32)
  obtain rfl:=zam relBw
  refine FL.v (E.indexAddr te34 rfl rfl ptBt) ?_
  refine FL.v (E.load rfl (zaf Tryz.isAgg3 ((atBv.mono (r26.run.inc.tr iBl)).now SBk.sl) rfl)) ?_
  refine FL.v (E.neg rfl) ?_
  obtain ⟨HBx,SBy,iBz,hBA,nvBB⟩:=SBk.sealRowU (i:=0) (l':=[]) rfl elsAa (by decide) rfl
  obtain ⟨rBC,hrBD,hp⟩:=bnd hp
  refine FL.call rfl rfl rfl (E.call Tryz.call122 (A2 rfl rfl)) (zb2 SBy.sl vA7 s32 (hBA.mono upI) (wr (-y31)) hrBD) ?_
  rintro e wBE ⟨rfl,rBF⟩
  refine ⟨_,rfl,?_⟩
  have rBF:=Run.lend iBz SBk.sl rBF
  have SBG:=SBk.call rBF
  refine FL.nil ?_
  rcases ifB hp with ⟨cBH,hp⟩|⟨cBH,hp⟩
  ·
   refine FW.condT rfl cBH ?_
   refine FW.seq (FW.region ?_)
   obtain ⟨vBI,wBJ,runBK,SBL⟩:=SBG.buildSlice (P:=Tryz.prog) te34 [] (parts:=#[]) (cells:=[]) rfl zal zak zad (Nat.le_of_ble_eq_true rfl)
   have elsBM:Els (up wa.heap.size HBj) eI 1 [] []:=Els.nil
   refine FL.v (E.buildSlice (B0) runBK) ?_
   refine FL.v (E.assign (v:=vBI) rfl) ?_
   refine FL.v (E.assign (v:=Value.bool false) rfl) ?_
   refine FL.nil ?_
   refine FW.ret ?_
   obtain rfl:=Option.some.inj hp
   exact ⟨nofun,rfl,⟨.inr rfl,res2 rfl rfl rfl ⟨_,_,_,_,rfl,(SBL.sel [0] (by decide) rfl),elsBM⟩⟩⟩
  ·
   refine FW.condF rfl cBH ?_
   refine FW.skip (FW.seq (FW.region ?_))
   refine FL.v (E.move kBq) ?_
   refine FL.v (E.move kBp) ?_
   refine FL.v (E.move kBo) ?_
   obtain ⟨pBN,csBO,ptBP,lBQ,atBR,relBS⟩:=p1.at (zap hx32)
   obtain rfl:=zam relBS
   refine FL.v (E.indexAddr te34 rfl rfl ptBP) ?_
   refine FL.v (E.load rfl (zaf Tryz.isAgg3 ((atBR.mono (r26.run.inc.tr iBl)).now SBG.sl) rfl)) ?_
   obtain ⟨HBT,SBU,iBV,hBW,nvBX⟩:=SBG.sealRowU (i:=0) (l':=[]) rfl elsAa (by decide) rfl
   obtain ⟨rBY,hrBZ,hp⟩:=bnd hp
   refine FL.call rfl rfl rfl (E.call Tryz.call122 (A2 rfl rfl)) (zb2 SBU.sl vA7 s32 (hBW.mono upI) y31 hrBZ) ?_
   rintro e wC0 ⟨rfl,rC1⟩
   refine ⟨_,rfl,?_⟩
   have rC1:=Run.lend iBV SBG.sl rC1
   have SC2:=SBG.call rC1
   refine FL.v (E.not rfl) ?_
   refine FL.nil ?_
   rcases ifB hp with ⟨cC3,hp⟩|⟨cC3,hp⟩
   ·
    refine FW.condT rfl cC3 ?_
    refine FW.region ?_
    refine FL.v (E.move kBq) ?_
    refine FL.v (E.move kBp) ?_
    refine FL.v (E.move kBo) ?_
    obtain ⟨pC4,csC5,ptC6,lC7,atC8,relC9⟩:=p1.at (zap hx32)
    obtain rfl:=zam relC9
    refine FL.v (E.indexAddr te34 rfl rfl ptC6) ?_
    refine FL.v (E.load rfl (zaf Tryz.isAgg3 ((atC8.mono (r26.run.inc.tr iBl)).now SC2.sl) rfl)) ?_
    obtain ⟨HCa,SCb,iCc,hCd,nvCe⟩:=SC2.sealRowU (i:=0) (l':=[]) rfl elsAa (by decide) rfl
    obtain ⟨rCf,hrCg,hp⟩:=bnd hp
    refine FL.call rfl rfl rfl (E.call Tryz.call120 (A2 rfl rfl)) (zb3 SCb.sl vA7 s32 (hCd.mono upI) y31 hrCg) ?_
    rintro e wCi ⟨HCh,vCn,nCo,csCp,rfl,rCk,elsCq⟩
    refine ⟨_,rfl,?_⟩
    obtain ⟨HCl,rCk,hU246⟩:=St.lendX iCc SC2.sl rCk
    have elsCq:=elsCq.mono (hU246.tr (up_le SC2.size))
    have SCj:=SC2.join (l':=[.row 3 1 vCn nCo csCp,.row 3 1 vA7 nA8 csA9]) rCk rfl
    refine FL.v (E.assign (v:=vCn) rfl) ?_
    refine FL.nil (FW.region ?_)
    refine FL.v (E.move kBo) ?_
    refine FL.v (E.add rfl rfl) ?_
    refine FL.v (E.assign (v:=Value.int .i64 (wr (((i32:Nat):Int) + 1))) rfl) ?_
    refine FL.nil ?_
    obtain rfl:=Option.some.inj hp
    exact ⟨rfl,⟨_,_,_,_,(SCj.sel [0] (by decide) rfl),(iBl.tr rCk.run.inc),elsCq,(zas rfl (zao hx32) (p1.mono ((r26.run.inc.tr iBl).tr rCk.run.inc)).le),kBp,rfl⟩⟩
   ·
    refine FW.condF rfl cC3 ?_
    refine FW.skip (FW.region ?_)
    refine FL.v (E.move kBo) ?_
    refine FL.v (E.add rfl rfl) ?_
    refine FL.v (E.assign (v:=Value.int .i64 (wr (((i32:Nat):Int) + 1))) rfl) ?_
    refine FL.nil ?_
    obtain rfl:=Option.some.inj hp
    exact ⟨rfl,⟨_,_,_,_,SC2,iBl,elsAa,(zas rfl (zao hx32) (p1.mono (r26.run.inc.tr iBl)).le),kBp,kBq⟩⟩
 ·
  clear hp hq
  rintro s32 fCC wCB ⟨HCy,vA7,nA8,csA9,SCz,iCA,elsAa,kCD,kCE,kCF⟩
  refine FW.seq (FW.seq (FW.region ?_))
  refine FL.v (E.move kCD) ?_
  refine FL.v (E.move kCE) ?_
  refine FL.v (E.lenP te34 rfl p1) ?_
  refine FL.v (E.lss rfl rfl) ?_
  refine FL.nil ?_
  refine FW.condF rfl zaz ?_
  refine FW.exit ?_
  exact ⟨nofun,rfl,⟨_,_,_,_,SCz,iCA,elsAa,kCF⟩⟩
 ·
  clear hq
  intro e fCw wCv hD
  rcases q32 with s32|x32
  ·
   obtain ⟨rfl,hD⟩:=hD
   obtain ⟨HCs,vA7,nA8,csA9,SCt,iCu,elsAa,kCx⟩:=hD
   replace hp:=el_go hp
   refine FW.seq (FW.region ?_)
   refine FL.v (E.move kCx) ?_
   refine FL.v (E.assign (v:=vA7) rfl) ?_
   refine FL.v (E.assign (v:=Value.bool true) rfl) ?_
   refine FL.nil ?_
   refine FW.ret ?_
   obtain rfl:=Option.some.inj hp
   exact ⟨.inr rfl,res2 rfl rfl rfl ⟨_,_,_,_,rfl,SCt,elsAa⟩⟩
  ·
   obtain ⟨he,hL⟩:=hD
   replace hp:=el_rt hp
   obtain rfl:=Option.some.inj hp
   subst he
   exact hL

@[reducible] def p_spec_l2Resolve (Ha:GH) (wa:World) (r:((List Int)×Bool)):Ending→World→Prop :=
 fun e w'=>∃ H':GH,∃ v0:Value,∃ n0:Nat,∃ c0:List Value,e=.returned (Value.tuple #[v0,Value.bool r.2])∧St Ha wa H' w' [.row 3 1 v0 n0 c0]∧Els (up wa.heap.size H') eI 1 c0 r.1
theorem w_spec_l2Resolve {Ha:GH} {wa:World} (hs:Sl Ha wa) (v0:Value) (a0:List Int) (p0:RSl Ha eI 1 v0 a0) (v1:Value) (a1:List Int) (p1:RSl Ha eI 1 v1 a1) (a2:Int) {r:((List Int)×Bool)} (hp:(PF.zc8 a0 a1 a2)=some r) :
  Calls Tryz.prog 229 #[v0,v1,Value.int .i64 a2] wa (p_spec_l2Resolve Ha wa r):=by
 unfold PF.zc8 at hp
 have S0:=St.init hs
 refine zah (N:=29) (args:=[v0,v1,Value.int .i64 a2]) Tryz.func229 rfl rfl rfl ?_
 refine FW.seq (FW.region ?_)
 refine FL.v (E.assign (v:=Value.slice none 0 0) rfl) ?_
 refine FL.v (E.assign (v:=Value.bool false) rfl) ?_
 refine FL.nil (FW.seq (FW.seq (FW.region ?_)))
 refine FL.v (E.move (v:=v0) rfl) ?_
 refine FL.v (E.move (v:=Value.int .i64 a2) rfl) ?_
 obtain ⟨r21,hr22,hp⟩:=bnd hp
 refine FL.call rfl rfl rfl (E.call Tryz.call122 (A2 rfl rfl)) (zb2 S0.sl v0 a0 p0 a2 hr22) ?_
 rintro e w23 ⟨rfl,r24⟩
 refine ⟨_,rfl,?_⟩
 have S25:=S0.call r24
 refine FL.v (E.not rfl) ?_
 refine FL.v (E.move (v:=Value.bool (!r21)) rfl) ?_
 obtain ⟨t31,hqt31,hp⟩:=bnd hp
 refine FL.cut 6 (fun f w=>∃ H:GH,St Ha wa H w []∧Inc Ha H∧f 0=v0∧f 1=v1∧f 2=Value.int .i64 a2∧f 18=Value.bool t31) ?_ ?_
 ·
  clear hp;have hp:=hqt31;clear hqt31
  rcases ifB hp with ⟨c37,hp⟩|⟨c37,hp⟩
  ·
   refine FL.skip (wF_no rfl rfl rfl c37) rfl ?_
   refine FL.skip (wF_no rfl rfl rfl c37) rfl ?_
   refine FL.skip (wF_no rfl rfl rfl c37) rfl ?_
   refine FL.skip (wF_no rfl rfl rfl c37) rfl ?_
   refine FL.skip (wF_no rfl rfl rfl c37) rfl ?_
   obtain rfl:=Option.some.inj hp
   refine FL.v (E.pickT rfl c37 rfl) ?_
   exact FL.nil ⟨rfl,_,S25,(Inc.rfl _),rfl,rfl,rfl,rfl⟩
  ·
   refine FL.val (zac rfl rfl rfl c37) rfl rfl (E.move (v:=v1) rfl) ?_
   refine FL.val (zac rfl rfl rfl c37) rfl rfl (E.move (v:=Value.int .i64 a2) rfl) ?_
   refine FL.val (zac rfl rfl rfl c37) rfl rfl (E.neg rfl) ?_
   obtain ⟨r38,hr39,hp⟩:=bnd hp
   refine FL.call (zac rfl rfl rfl c37) rfl rfl (E.call Tryz.call122 (A2 rfl rfl)) (zb2 S25.sl v1 a1 p1 (wr (-a2)) hr39) ?_
   rintro e w40 ⟨rfl,r41⟩
   refine ⟨_,rfl,?_⟩
   have S42:=S25.call r41
   refine FL.val (zac rfl rfl rfl c37) rfl rfl (E.not rfl) ?_
   obtain rfl:=Option.some.inj hp
   refine FL.v (E.pickF rfl c37 rfl) ?_
   exact FL.nil ⟨rfl,_,S42,(Inc.rfl _),rfl,rfl,rfl,rfl⟩
 rintro f36 w35 ⟨H32,S33,i34,k43,k44,k45,k46⟩
 refine FL.nil ?_
 rcases ifB hp with ⟨c47,hp⟩|⟨c47,hp⟩
 ·
  refine FW.condT k46 c47 ?_
  refine FW.seq (FW.region ?_)
  obtain ⟨v48,w49,run50,S51⟩:=S33.buildSlice (P:=Tryz.prog) te34 [] (parts:=#[]) (cells:=[]) rfl zal zak zad (Nat.le_of_ble_eq_true rfl)
  have els52:Els (up wa.heap.size H32) eI 1 [] []:=Els.nil
  refine FL.v (E.buildSlice (B0) run50) ?_
  refine FL.v (E.assign (v:=v48) rfl) ?_
  refine FL.v (E.assign (v:=Value.bool false) rfl) ?_
  refine FL.nil ?_
  refine FW.ret ?_
  obtain rfl:=Option.some.inj hp
  exact ⟨.inr rfl,res2 rfl rfl rfl ⟨_,_,_,_,rfl,S51,els52⟩⟩
 ·
  refine FW.condF k46 c47 ?_
  refine FW.skip (FW.seq (FW.region ?_))
  refine FL.v (E.move k43) ?_
  refine FL.v (E.move k45) ?_
  obtain ⟨r53,hr54,hp⟩:=bnd hp
  refine FL.call rfl rfl rfl (E.call Tryz.call208 (A2 rfl rfl)) (zdT S33.sl v0 a0 (p0.mono i34) a2 hr54) ?_
  rintro e w56 ⟨H55,v59,n60,cs61,rfl,r58,els62⟩
  refine ⟨_,rfl,?_⟩
  have els62:=els62.mono (up_le S33.size)
  have S57:=S33.join (l':=[.row 3 1 v59 n60 cs61]) r58 rfl
  refine FL.v (E.move k44) ?_
  refine FL.v (E.move k45) ?_
  obtain ⟨r63,hr64,hp⟩:=bnd hp
  refine FL.call rfl rfl rfl (E.call Tryz.call208 (A2 rfl rfl)) (zdT S57.sl v1 a1 (p1.mono (i34.tr r58.run.inc)) a2 hr64) ?_
  rintro e w66 ⟨H65,v69,n70,cs71,rfl,r68,els72⟩
  refine ⟨_,rfl,?_⟩
  have els72:=els72.mono (up_le S57.size)
  have S67:=S57.join (l':=[.row 3 1 v69 n70 cs71,.row 3 1 v59 n60 cs61]) r68 rfl
  obtain ⟨H73,S74,i75,h76,nv77⟩:=S67.sealRowU (i:=1) (l':=[.row 3 1 v69 n70 cs71]) rfl (els62.mono (zae r68.run.inc)) (by decide) rfl
  obtain ⟨H78,S79,i80,h81,nv82⟩:=S74.sealRowU (i:=0) (l':=[]) rfl (els72.mono (zae i75)) (by decide) rfl
  obtain ⟨r83,hr84,hp⟩:=bnd hp
  refine FL.call rfl rfl rfl (E.call Tryz.call247 (A2 rfl rfl)) (w_spec_l2Join S79.sl v59 r53 (h76.mono (upI.tr i80)) v69 r63 (h81.mono upI) hr84) ?_
  rintro e w86 ⟨H85,v91,n92,cs93,rfl,r88,els94⟩
  refine ⟨_,rfl,?_⟩
  obtain ⟨H89,r88,hU90⟩:=St.lendX (i75.tr i80) S67.sl r88
  have els94:=els94.mono (hU90.tr (up_le S67.size))
  have S87:=S67.join (l':=[.row 3 1 v91 n92 cs93,.row 3 1 v69 n70 cs71,.row 3 1 v59 n60 cs61]) r88 rfl
  refine FL.v (E.extract (i:=0) rfl rfl) ?_
  refine FL.v (E.extract (i:=1) rfl rfl) ?_
  refine FL.v (E.assign (v:=v91) rfl) ?_
  refine FL.v (E.assign (v:=Value.bool r83.2) rfl) ?_
  refine FL.nil ?_
  refine FW.ret ?_
  obtain rfl:=Option.some.inj hp
  exact ⟨.inr rfl,res2 rfl rfl rfl ⟨_,_,_,_,rfl,(S87.sel [0] (by decide) rfl),els94⟩⟩

theorem w_spec_l2At {Ha:GH} {wa:World} (hs:Sl Ha wa) (v0:Value) (a0:List (List Int)) (p0:RSl Ha (eL eI 1) 1 v0 a0) (v1:Value) (a1:List Int) (p1:RSl Ha eI 1 v1 a1) {r:Int} (hp:(PF.zcs a0 a1)=some r) :
  Calls Tryz.prog 207 #[v0,v1] wa (Sc Ha wa (Value.int .i64 r)):=by
 unfold PF.zcs at hp
 have S0:=St.init hs
 refine zah (N:=22) (args:=[v0,v1]) Tryz.func207 rfl rfl rfl ?_
 refine FW.seq (FW.region ?_)
 refine FL.v (E.assign (v:=Value.int .i64 0) rfl) ?_
 refine FL.nil (FW.seq (FW.region ?_))
 refine FL.v (E.move (v:=v0) rfl) ?_
 refine FL.v (E.move (v:=v1) rfl) ?_
 obtain ⟨r21,hr22,hp⟩:=bnd hp
 refine FL.call rfl rfl rfl (E.call Tryz.call198 (A2 rfl rfl)) (zdZ S0.sl v0 a0 p0 v1 a1 p1 hr22) ?_
 rintro e w23 ⟨rfl,r24⟩
 refine ⟨_,rfl,?_⟩
 have S25:=S0.call r24
 refine FL.v (E.assign (v:=Value.int .i64 r21) rfl) ?_
 refine FL.nil (FW.seq (FW.seq (FW.region ?_)))
 refine FL.v (E.move (v:=Value.int .i64 r21) rfl) ?_
 refine FL.v (E.move (v:=v0) rfl) ?_
 refine FL.v (E.lenP te24 rfl p0) ?_
 refine FL.v (E.lss rfl rfl) ?_
 refine FL.v (E.move (v:=Value.bool (decide (r21 < (len a0)))) rfl) ?_
 obtain ⟨t41,hqt41,hp⟩:=bnd hp
 refine FL.cut 7 (fun f w=>∃ H:GH,St Ha wa H w []∧Inc Ha H∧f 5=Value.int .i64 r21∧f 20=Value.bool t41) ?_ ?_
 ·
  clear hp;have hp:=hqt41;clear hqt41
  rcases ifB hp with ⟨c47,hp⟩|⟨c47,hp⟩
  ·
   refine FL.val (zac rfl rfl rfl c47) rfl rfl (E.move (v:=v0) rfl) ?_
   refine FL.val (zac rfl rfl rfl c47) rfl rfl (E.move (v:=Value.int .i64 r21) rfl) ?_
   obtain ⟨x54,hx55,hp⟩:=bnd hp
   obtain ⟨p48,cs49,pt50,l51,at52,rel53⟩:=p0.at hx55
   obtain ⟨v56,rfl,h57⟩:=zau rel53
   refine FL.val (zac rfl rfl rfl c47) rfl rfl (E.indexAddr te24 rfl rfl pt50) ?_
   refine FL.val (zac rfl rfl rfl c47) rfl rfl (E.load rfl (zaf Tryz.isAgg34 (at52.now S25.sl) rfl)) ?_
   refine FL.val (zac rfl rfl rfl c47) rfl rfl (E.move (v:=v1) rfl) ?_
   obtain ⟨r58,hr59,hp⟩:=bnd hp
   refine FL.call (zac rfl rfl rfl c47) rfl rfl (E.call Tryz.call199 (A2 rfl rfl)) (w_spec_l1Same S25.sl v56 x54 h57 v1 a1 p1 hr59) ?_
   rintro e w60 ⟨rfl,r61⟩
   refine ⟨_,rfl,?_⟩
   have S62:=S25.call r61
   obtain rfl:=Option.some.inj hp
   refine FL.v (E.pickT rfl c47 rfl) ?_
   exact FL.nil ⟨rfl,_,S62,(Inc.rfl _),rfl,rfl⟩
  ·
   refine FL.skip (wF_no rfl rfl rfl c47) rfl ?_
   refine FL.skip (wF_no rfl rfl rfl c47) rfl ?_
   refine FL.skip (wF_no rfl rfl rfl c47) rfl ?_
   refine FL.skip (wF_no rfl rfl rfl c47) rfl ?_
   refine FL.skip (wF_no rfl rfl rfl c47) rfl ?_
   refine FL.skip (wF_no rfl rfl rfl c47) rfl ?_
   obtain rfl:=Option.some.inj hp
   refine FL.v (E.pickF rfl c47 rfl) ?_
   exact FL.nil ⟨rfl,_,S25,(Inc.rfl _),rfl,rfl⟩
 rintro f46 w45 ⟨H42,S43,i44,k63,k64⟩
 refine FL.nil ?_
 rcases ifB hp with ⟨c65,hp⟩|⟨c65,hp⟩
 ·
  refine FW.condT k64 c65 ?_
  refine FW.seq (FW.region ?_)
  refine FL.v (E.move k63) ?_
  refine FL.v (E.assign (v:=Value.int .i64 r21) rfl) ?_
  refine FL.nil ?_
  refine FW.ret ?_
  obtain rfl:=Option.some.inj hp
  exact ⟨.inr rfl,res1 rfl rfl ⟨rfl,S43.back⟩⟩
 ·
  refine FW.condF k64 c65 ?_
  refine FW.skip (FW.seq (FW.region ?_))
  refine FL.v (E.assign (v:=Value.int .i64 (-1)) rfl) ?_
  refine FL.nil ?_
  refine FW.ret ?_
  obtain rfl:=Option.some.inj hp
  exact ⟨.inr rfl,res1 rfl rfl ⟨rfl,S43.back⟩⟩

end Go.Proofs
